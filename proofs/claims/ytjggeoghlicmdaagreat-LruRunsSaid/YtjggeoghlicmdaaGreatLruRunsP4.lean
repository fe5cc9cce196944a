/-
  lruRuns.proved: part 4 of its proof. No condition.
  Written by a program out of the texts As23 As24 As40 As42 As43 Kit Smem SmemSep As44 As45 As46 As48 VcGr Grace GraceOps GraceDo VcL Lock LruQ.
-/
import Derived.Test.YtjggeoghlicmdaaGreatLruRunsP3
set_option linter.unusedVariables false
namespace Go.AS
open Go.RowKit
section
theorem get_set (H:Heap)(i:Nat)(o:Obj)(j:Nat):(H.set i o).get j=if j=i then some o else H.get j:=Tr.get_put o H.tr i j
theorem get_new (H:Heap)(o:Obj)(j:Nat):(H.new o).get j=if j=H.next then some o else H.get j:=Tr.get_put o H.tr H.next j
theorem get_bump (H:Heap)(n j:Nat):(H.bump n).get j=H.get j:=rfl
theorem next_set (H:Heap)(i:Nat)(o:Obj):(H.set i o).next=H.next:=rfl
theorem next_new (H:Heap)(o:Obj):(H.new o).next=H.next+1:=rfl
theorem next_bump (H:Heap)(n:Nat):(H.bump n).next=H.next+n:=rfl
theorem get_set_self (H:Heap)(i:Nat)(o:Obj):(H.set i o).get i=some o:=by rw [get_set,if_pos rfl]
theorem get_set_ne {H:Heap}{i j:Nat}{o:Obj}(h:j≠i):(H.set i o).get j=H.get j:=by rw [get_set,if_neg h]
theorem get_new_self (H:Heap)(o:Obj):(H.new o).get H.next=some o:=by rw [get_new,if_pos rfl]
theorem get_new_lt {H:Heap}{j:Nat}{o:Obj}(h:j<H.next):(H.new o).get j=H.get j:=by rw [get_new,if_neg (by omega)]
theorem get_new_ne {H:Heap}{j:Nat}{o:Obj}(h:j≠H.next):(H.new o).get j=H.get j:=by rw [get_new,if_neg h]
theorem cell_bump (H:Heap)(n i o:Nat):(H.bump n).cell i o=H.cell i o:=rfl
theorem cell_of {H:Heap}{i:Nat}{w:Bool}{z:Nat}{c:List Value}(h:H.get i=some (.cells w z c))(o:Nat):H.cell i o=c[o]? :=by
 unfold Heap.cell;rw [h]
theorem cellsAt_of {H:Heap}{i:Nat}{w:Bool}{z:Nat}{c:List Value}(h:H.get i=some (.cells w z c))(o n:Nat):H.cellsAt i o n=takeAt c o n:=by
 unfold Heap.cellsAt;rw [h]
theorem entries_of {H:Heap}{i:Nat}{es:List MapEntry}{ck:Nat}(h:H.get i=some (.map es ck)):entriesOf H (some i)=some es:=by
 unfold entriesOf;simp only [h]
theorem stc_of {H:Heap}{i o z:Nat}{c vs:List Value}{K:Heap->Prop}(h:H.get i=some (.cells true z c))(hl:o+vs.length<=c.length)(k:K (H.set i (.cells true z (setAt c o vs)))):stc H i o vs K:=⟨z,c,h,hl,k⟩
theorem stc_of' {H:Heap}{i o z:Nat}{c vs:List Value}{K:Heap->Prop}(h:H.get i=some (.cells true z c))(hl:o+vs.length<=c.length)(k:∀H',H'=H.set i (.cells true z (setAt c o vs))->K H'):stc H i o vs K:=⟨z,c,h,hl,k _ rfl⟩
theorem nwH_in {H:Heap}{o:Obj}{K:Nat->Heap->Prop}(k:∀i H',i=H.next->H'=H.new o->K i H'):nwH H o K:=k _ _ rfl rfl
theorem apd_grow {H:Heap}{bytes es i o len n:Nat}{c old new:List Value}{K:Option Addr->Nat->Heap->Prop}(h:H.get i=some (.cells true es c))(hn:0<n)(hc:c.length<o+(len+n)*es)(ho:takeAt c o (len*es)=some old)
  (hl:(len+n)*bytes<=140737488355328)(k:∀j H',j=H.next->H'=(H.set i .dead).new (.cells true es (old++new))->K (some ⟨j,0,none⟩) (len+n) H'):apd H bytes es (some ⟨i,o,none⟩) len n new K:=
 .inr ⟨hn,.inr ⟨i,o,c,rfl,h,.inr ⟨hc,old,ho,hl,k _ _ rfl rfl⟩⟩⟩
theorem apd_first {H:Heap}{bytes es n:Nat}{new:List Value}{K:Option Addr->Nat->Heap->Prop}(hn:0<n)(hl:n*bytes<=140737488355328)(k:∀j H',j=H.next->H'=H.new (.cells true es new)->K (some ⟨j,0,none⟩) n H'):apd H bytes es none 0 n new K:=
 .inr ⟨hn,.inl ⟨rfl,rfl,hl,k _ _ rfl rfl⟩⟩
theorem asAddr_some {i o:Nat}{K:Nat->Nat->Prop}:asAddr (.pointer (some ⟨i,o,none⟩)) K=K i o:=rfl
theorem asRow_some {i o:Nat}{K:Nat->Nat->Prop}:asRow (some ⟨i,o,none⟩) K=K i o:=rfl
theorem asFn_func {f:FuncId}{fs cs:Array Value}{K:FuncId->List Value->List Value->Prop}:asFn (.func (.func f) fs cs) K=K f fs.toList cs.toList:=rfl
theorem asInt_int {k:IntKind}{n:Int}{K:Int->Prop}:asInt k (.int k n) K=K n:=by simp [asInt]
theorem cond_no {b:Bool}{p q:Prop}(h:b=false)(hq:q):cond b p q:=by subst h;exact hq
theorem cond_yes {b:Bool}{p q:Prop}(h:b=true)(hp:p):cond b p q:=by subst h;exact hp
theorem cond_of {b:Bool}{p q:Prop}(h1:b=true->p)(h2:b=false->q):cond b p q:=by
 cases b with
 |true=>exact h1 rfl
 |false=>exact h2 rfl
def Frm (S:List Nat)(H H':Heap):Prop:=H.next<=H'.next/\∀j,j<H.next->j∉S->H'.get j=H.get j
theorem Frm.refl (S:List Nat)(H:Heap):Frm S H H:=⟨Nat.le_refl _,λ_ _ _=>rfl⟩
theorem Frm.trans {S S':List Nat}{H H1 H2:Heap}(h:Frm S H H1)(k:Frm S' H1 H2)(hs:∀j∈S',j∈S∨H.next<=j):Frm S H H2:=
 ⟨Nat.le_trans h.1 k.1,λj hj hn=>by
  rw [k.2 j (Nat.lt_of_lt_of_le hj h.1) (λhm=>by rcases hs j hm with h1|h1;exact hn h1;omega),h.2 j hj hn]⟩
theorem Frm.mono {S S':List Nat}{H H':Heap}(h:Frm S H H')(hs:∀j∈S,j∈S'):Frm S' H H':=⟨h.1,λj hj hn=>h.2 j hj λhm=>hn (hs j hm)⟩
theorem Frm.set {S:List Nat}{H H':Heap}(h:Frm S H H'){i:Nat}(o:Obj)(hi:i∈S∨H.next<=i):Frm S H (H'.set i o):=
 ⟨h.1,λj hj hn=>by
  rw [get_set_ne (λe=>by subst e;rcases hi with h1|h1;exact hn h1;omega),h.2 j hj hn]⟩
theorem Frm.new {S:List Nat}{H H':Heap}(h:Frm S H H')(o:Obj):Frm S H (H'.new o):=
 ⟨Nat.le_succ_of_le h.1,λj hj hn=>by
  have:=h.1
  rw [get_new_ne (by omega),h.2 j hj hn]⟩
theorem Frm.bump {S:List Nat}{H H':Heap}(h:Frm S H H')(n:Nat):Frm S H (H'.bump n):=
 ⟨Nat.le_trans h.1 (Nat.le_add_right _ _),h.2⟩
section maps
variable {α:Type} (key:α->Int) (val:α->Value) (born:α->Nat) (ik:IntKind)
def ent (a:α):MapEntry:={key:=.int ik (key a),val:=val a,born:=born a}
theorem findNow_int (k:Int):∀(l:List α)(i:Nat),
  Instr.findNow (.int ik) (.int ik k) (l.map (ent key val born ik)) i=some (((l.findIdx? λa=>key a==k)).map λj=>(i+j,((l[j]?).map val).getD undef))
 |[],i=>by simp [Instr.findNow]
 |a::l,i=>by
  simp only [List.map_cons,Instr.findNow];have e:Instr.sameNow (.int ik) (.int ik k) (ent key val born ik a).key=some (k==key a):=by simp [Instr.sameNow,ent]
  rw [e];by_cases h:k=key a
  ·subst h;simp [ent,List.findIdx?_cons]
  ·have h1:(k==key a)=false:=by simpa using h
   have h2:(key a==k)=false:=by simpa using Ne.symm h
   rw [h1];simp only;rw [findNow_int k l (i+1),List.findIdx?_cons,h2];simp only [Bool.false_eq_true,if_false,Option.map_map]
   congr 2
   funext j
   simp [Nat.add_assoc,Nat.add_comm 1 j]
end maps
theorem calls_of_CA {E:Env}(hE:E.Ok)(hmix:E.prog.follows .mixedOrders=true){f:FuncId}{args:List Value}{H:Heap}{b:Bool}(h:CA E f args H λv _=>v=.bool b){μ:Inj}{w:World}{ARGS:Array Value}
  (hH:HRel E w.heap.size μ H w)(ha:VRels μ args ARGS.toList):Calls E.prog f ARGS w λe w'=>e=.returned (.bool b)/\Below w.heap.size w w':=by
 obtain ⟨n,v,H',h1,rfl⟩:=h;refine (sem_ok hE hmix w.heap.size n f args H _ H' h1 μ w ARGS hH ha).mono ?_;rintro e w' ⟨V,μ',rfl,h2,h3,h4,h5⟩;cases h3;exact ⟨rfl,h5⟩
end
section
abbrev W (w:BitVec 64):Value:=.int .u64 (w.toNat:Int)
theorem wrap_u64 (n:Int):IntKind.u64.wrap n=((BitVec.ofInt 64 n).toNat:Int):=by
 have h1:IntKind.u64.wrap n=n % 18446744073709551616:=rfl;rw [h1,BitVec.toNat_ofInt]
 have:(0:Int)<=n % 18446744073709551616:=Int.emod_nonneg _ (by decide)
 omega
theorem ofInt_bv (w:BitVec 64):BitVec.ofInt 64 (w.toNat:Int)=w:=by
 rw [BitVec.ofInt_natCast,BitVec.ofNat_toNat,BitVec.setWidth_eq]
theorem wrap_bv (w:BitVec 64):IntKind.u64.wrap (w.toNat:Int)=(w.toNat:Int):=by rw [wrap_u64,ofInt_bv]
theorem ofInt_add (a b:Int):BitVec.ofInt 64 (a+b)=BitVec.ofInt 64 a+BitVec.ofInt 64 b:=by
 exact BitVec.ofInt_add a b
theorem word_of {n:Int}(h:(Lit.int .u64 n).wf=true):∃w:BitVec 64,n=(w.toNat:Int):=by
 refine ⟨BitVec.ofInt 64 n,?_⟩;have h2:n<18446744073709551616/\0<=n:=by
  have h1:=h;simp only [Lit.wf,IntKind.min,IntKind.max,Bool.and_eq_true,decide_eq_true_eq] at h1;have e1:IntKind.u64.signed=false:=rfl;have e2:IntKind.u64.bits=64:=rfl;simp [e1,e2] at h1;omega
 rw [BitVec.toNat_ofInt];omega
theorem wrap_i64 {n:Int}(h: -9223372036854775808<=n/\n<9223372036854775808):IntKind.i64.wrap n=n:=by
 have e:IntKind.i64.wrap n=if 9223372036854775808<=n % 18446744073709551616 then n % 18446744073709551616 - 18446744073709551616 else n % 18446744073709551616:=by
  show (let m:=n % (2 ^ IntKind.i64.bits:Int);if (IntKind.i64.signed&&decide (m≥(2 ^ (IntKind.i64.bits - 1):Int)))=true then m - (2 ^ IntKind.i64.bits:Int) else m)=_;have h1:(2 ^ IntKind.i64.bits:Int)=18446744073709551616:=rfl;have h2:(2 ^ (IntKind.i64.bits - 1):Int)=9223372036854775808:=rfl;have h3:IntKind.i64.signed=true:=rfl;rw [h1,h2,h3];simp
 rw [e];split<;>omega
theorem bv_eq {a b:BitVec 64}:((a.toNat:Int)=(b.toNat:Int))↔a=b:=by
 rw [<-BitVec.toNat_inj];omega
theorem bv_beq (a b:BitVec 64):(((a.toNat:Int)==(b.toNat:Int)):Bool)=(a==b):=by
 rw [Bool.eq_iff_iff];simp [bv_eq]
theorem bv_bne (a b:BitVec 64):(((a.toNat:Int) !=(b.toNat:Int)):Bool)=(a !=b):=by
 rw [Bool.eq_iff_iff];simp [bv_eq]
end
section
structure Asr where
 foot:List Nat
 holds:Heap->Prop
 loc:∀{H H':Heap},(∀i∈foot,H'.get i=H.get i)->holds H->holds H'
def feet (L:List Asr):List Nat:=L.flatMap Asr.foot
structure Sep (H:Heap)(L:List Asr):Prop where
 all:∀A∈L,A.holds H
 nd:(feet L).Nodup
 lt:∀i∈feet L,i<H.next
def bx (i:Nat)(o:Obj):Asr:=⟨[i],λH=>H.get i=some o,λh k=>by rw [h _ (by simp)];exact k⟩
abbrev cl (i:Nat)(c:List Value):Asr:=bx i (.cells true 0 c)
def many (L:List Asr):Asr:=⟨feet L,λH=>∀A∈L,A.holds H,λh k A hA=>A.loc (λi hi=>h i (List.mem_flatMap.2 ⟨A,hA,hi⟩)) (k A hA)⟩
theorem feet_cons (A:Asr)(L:List Asr):feet (A::L)=A.foot++feet L:=by simp [feet]
theorem feet_append (L M:List Asr):feet (L++M)=feet L++feet M:=by simp [feet]
variable {H H':Heap} {L M:List Asr} {A B:Asr}
theorem Sep.nil:Sep H []:=⟨by simp,by simp [feet],by simp [feet]⟩
theorem Sep.perm (h:Sep H L)(p:L.Perm M):Sep H M:=by
 refine ⟨λA hA=>h.all A (p.mem_iff.2 hA),?_,λi hi=>h.lt i ?_⟩
 ·exact (p.flatMap_right _).nodup_iff.1 h.nd
 ·exact (p.flatMap_right Asr.foot).mem_iff.2 hi
theorem eraseIdx_perm:∀{L:List Asr}{k:Nat}{A:Asr},L[k]? =some A->L.Perm (A::L.eraseIdx k)
 |[],k,A,h=>by simp at h
 |B::L,0,A,h=>by simp at h;subst h;exact .refl _
 |B::L,k+1,A,h=>by
  have ih:=eraseIdx_perm (L:=L) (k:=k) (A:=A) (by simpa using h)
  exact (ih.cons B).trans (List.Perm.swap A B _)
theorem set_perm:∀{L:List Asr}{k:Nat}{A:Asr},k<L.length->(L.set k A).Perm (A::L.eraseIdx k)
 |[],k,A,h=>by simp at h
 |B::L,0,A,h=>.refl _
 |B::L,k+1,A,h=>by
  have ih:=set_perm (L:=L) (k:=k) (A:=A) (by simpa using h)
  exact (ih.cons B).trans (List.Perm.swap A B _)
theorem Sep.out (h:Sep H L)(k:Nat)(hk:L[k]? =some A):Sep H (A::L.eraseIdx k):=h.perm (eraseIdx_perm hk)
theorem Sep.back (k:Nat)(h:Sep H (A::L.eraseIdx k))(hk:k<L.length):Sep H (L.set k A):=h.perm (set_perm hk).symm
theorem Sep.tail (h:Sep H (A::L)):Sep H L:=
 ⟨λB hB=>h.all B (List.mem_cons_of_mem _ hB),by have:=h.nd;rw [feet_cons] at this;exact (List.nodup_append.1 this).2.1,λi hi=>h.lt i (by rw [feet_cons];exact List.mem_append_right _ hi)⟩
theorem Sep.drop (h:Sep H L)(n:Nat):Sep H (L.drop n):=by
 induction n generalizing L with
 |zero=>exact h
 |succ n ih=>cases L with
  |nil=>exact h
  |cons A L=>exact ih h.tail
theorem Sep.one (h:Sep H L)(k:Nat)(hk:L[k]? =some A):A.holds H:=h.all A (List.mem_of_getElem? hk)
theorem Sep.head (h:Sep H (A::L)):A.holds H:=h.all A (by simp)
theorem Sep.footlt (h:Sep H (A::L)){i:Nat}(hi:i∈A.foot):i<H.next:=h.lt i (by rw [feet_cons];exact List.mem_append_left _ hi)
theorem Sep.footnd (h:Sep H (A::L)):A.foot.Nodup:=by have:=h.nd;rw [feet_cons] at this;exact (List.nodup_append.1 this).1
theorem Sep.many_iff:Sep H (many L::M)↔Sep H (L++M):=by
 have e:feet (many L::M)=feet (L++M):=by rw [feet_cons,feet_append];rfl
 constructor
 ·intro h;refine ⟨λA hA=>?_,e▸h.nd,λi hi=>h.lt i (e▸hi)⟩;rcases List.mem_append.1 hA with hA|hA
  ·exact h.head A hA
  ·exact h.all A (List.mem_cons_of_mem _ hA)
 ·intro h;refine ⟨λA hA=>?_,e▸h.nd,λi hi=>h.lt i (e▸hi)⟩;rcases List.mem_cons.1 hA with rfl|hA
  ·exact λB hB=>h.all B (List.mem_append_left _ hB)
  ·exact h.all A (List.mem_append_right _ hA)
theorem Sep.upd {S:List Nat}(h:Sep H (A::L))(fr:Frm S H H')(hS:∀j∈S,j∈A.foot∨H.next<=j)(hB:B.holds H')(hf:∀j∈B.foot,j∈A.foot∨H.next<=j)(hn:B.foot.Nodup)(hl:∀j∈B.foot,j<H'.next):Sep H' (B::L):=by
 have nd:=h.nd;rw [feet_cons] at nd;have nd':=List.nodup_append.1 nd;refine ⟨λC hC=>?_,?_,λi hi=>?_⟩
 ·rcases List.mem_cons.1 hC with rfl|hC
  ·exact hB
  ·refine C.loc (λi hi=>?_) (h.all C (List.mem_cons_of_mem _ hC));have hi':i∈feet L:=List.mem_flatMap.2 ⟨C,hC,hi⟩;have hlt:=h.tail.lt i hi';refine fr.2 i hlt λhs=>?_
   rcases hS i hs with h1|h1
   ·exact nd'.2.2 i h1 i hi' rfl
   ·omega
 ·rw [feet_cons];refine List.nodup_append.2 ⟨hn,nd'.2.1,λa ha b hb e=>?_⟩;subst e;rcases hf a ha with h1|h1
  ·exact nd'.2.2 a h1 a hb rfl
  ·have:=h.tail.lt a hb;omega
 ·rw [feet_cons] at hi;rcases List.mem_append.1 hi with h1|h1
  ·exact hl i h1
  ·exact Nat.lt_of_lt_of_le (h.tail.lt i h1) fr.1
theorem Sep.keep (h:Sep H L)(fr:Frm [] H H'):Sep H' L:=
 ⟨λA hA=>A.loc (λi hi=>fr.2 i (h.lt i (List.mem_flatMap.2 ⟨A,hA,hi⟩)) (by simp)) (h.all A hA),h.nd,λi hi=>Nat.lt_of_lt_of_le (h.lt i hi) fr.1⟩
theorem Sep.bump (h:Sep H L)(n:Nat):Sep (H.bump n) L:=h.keep ((Frm.refl _ _).bump n)
theorem Sep.new (h:Sep H L)(o:Obj):Sep (H.new o) (bx H.next o::L):=by
 refine ⟨λA hA=>?_,?_,λi hi=>?_⟩
 ·rcases List.mem_cons.1 hA with rfl|hA
  ·exact get_new_self _ _
  ·exact (h.keep ((Frm.refl _ _).new o)).all A hA
 ·rw [feet_cons];refine List.nodup_append.2 ⟨by simp [bx],h.nd,λa ha b hb e=>?_⟩;simp only [bx,List.mem_singleton] at ha
  have:=h.lt b hb
  omega
 ·rw [feet_cons] at hi;rcases List.mem_append.1 hi with h1|h1
  ·simp only [bx,List.mem_singleton] at h1;rw [next_new];omega
  ·have:=h.lt i h1
   rw [next_new];omega
theorem Sep.nw {o:Obj}{K:Nat->Heap->Prop}(h:Sep H L)(k:∀i H',Sep H' (bx i o::L)->K i H'):nwH H o K:=k _ _ (h.new o)
theorem Sep.set0 {i:Nat}{o o':Obj}(h:Sep H (bx i o::L)):Sep (H.set i o') (bx i o'::L):=by
 refine h.upd (S:=[i]) ((Frm.refl _ _).set _ (by simp)) (by simp [bx]) (get_set_self _ _ _) (by simp [bx]) (by simp [bx]) ?_;intro j hj;simp only [bx,List.mem_singleton] at hj;subst hj;exact h.footlt (by simp [bx])
theorem Sep.set {i:Nat}{o:Obj}(h:Sep H L)(k:Nat)(o':Obj)(hk:L[k]? =some (bx i o)):Sep (H.set i o') (L.set k (bx i o')):=
 Sep.back k (h.out k hk).set0 (by have:=List.getElem?_eq_some_iff.1 hk;exact this.1)
theorem Sep.get {i:Nat}{o:Obj}(h:Sep H L)(k:Nat)(hk:L[k]? =some (bx i o)):H.get i=some o:=h.one k hk
theorem Sep.ld {i o z:Nat}{w:Bool}{c:List Value}{v:Value}(h:Sep H L)(k:Nat)(hk:L[k]? =some (bx i (.cells w z c)))(hv:c[o]? =some v):H.cell i o=some v:=by
 rw [cell_of (h.get k hk)];exact hv
theorem Sep.lds {i o n z:Nat}{w:Bool}{c:List Value}{v:List Value}(h:Sep H L)(k:Nat)(hk:L[k]? =some (bx i (.cells w z c)))(hv:takeAt c o n=some v):H.cellsAt i o n=some v:=by
 rw [cellsAt_of (h.get k hk)];exact hv
theorem Sep.st {i o z:Nat}{c vs:List Value}{K:Heap->Prop}(h:Sep H L)(k:Nat)(hk:L[k]? =some (bx i (.cells true z c)))(hl:o+vs.length<=c.length)
  (r:∀H',Sep H' (L.set k (bx i (.cells true z (setAt c o vs))))->K H'):stc H i o vs K:=stc_of (h.get k hk) hl (r _ (h.set k _ hk))
end
section
variable {H:Heap} {L:List Asr}
theorem asRow_in {i o:Nat}{K:Nat->Nat->Prop}(h:K i o):asRow (some ⟨i,o,none⟩) K:=h
theorem asAddr_in {i o:Nat}{K:Nat->Nat->Prop}(h:K i o):asAddr (.pointer (some ⟨i,o,none⟩)) K:=h
theorem asSl_in {a:Option Addr}{l:Nat}{K:Option Addr->Nat->Prop}(h:K a l):asSl (.slice a l 0) K:=h
theorem asInt_in {k:IntKind}{n:Int}{K:Int->Prop}(h:K n):AS.asInt k (.int k n) K:=by rw [asInt_int];exact h
theorem asBool_in {b:Bool}{K:Bool->Prop}(h:K b):AS.asBool (.bool b) K:=h
theorem asFn_in {f:FuncId}{fs cs:Array Value}{K:FuncId->List Value->List Value->Prop}(h:K f fs.toList cs.toList):asFn (.func (.func f) fs cs) K:=h
theorem Sep.swap {A B:Asr}(h:Sep H (A::B::L)):Sep H (B::A::L):=h.perm (List.Perm.swap B A L)
theorem Sep.eraseAt (h:Sep H L)(k:Nat):Sep H (L.eraseIdx k):=by
 by_cases hk:k<L.length
 ·exact (h.perm (eraseIdx_perm (List.getElem?_eq_getElem hk))).tail
 ·rw [List.eraseIdx_of_length_le (by omega)];exact h
theorem Sep.rm1 {A0 A1:Asr}(h:Sep H (A0::A1::L)):Sep H (A0::L):=Sep.eraseAt h 1
theorem Sep.rm2 {A0 A1 A2:Asr}(h:Sep H (A0::A1::A2::L)):Sep H (A0::A1::L):=Sep.eraseAt h 2
theorem Sep.rm4 {A0 A1 A2 A3 A4:Asr}(h:Sep H (A0::A1::A2::A3::A4::L)):Sep H (A0::A1::A2::A3::L):=Sep.eraseAt h 4
theorem Sep.rm5 {A0 A1 A2 A3 A4 A5:Asr}(h:Sep H (A0::A1::A2::A3::A4::A5::L)):Sep H (A0::A1::A2::A3::A4::L):=Sep.eraseAt h 5
theorem Sep.rm7 {A0 A1 A2 A3 A4 A5 A6 A7:Asr}(h:Sep H (A0::A1::A2::A3::A4::A5::A6::A7::L)):Sep H (A0::A1::A2::A3::A4::A5::A6::L):=Sep.eraseAt h 7
theorem Sep.up1 {A0 A1:Asr}(h:Sep H (A0::A1::L)):Sep H (A1::A0::L):=Sep.out h 1 rfl
theorem Sep.up2 {A0 A1 A2:Asr}(h:Sep H (A0::A1::A2::L)):Sep H (A2::A0::A1::L):=Sep.out h 2 rfl
theorem Sep.up3 {A0 A1 A2 A3:Asr}(h:Sep H (A0::A1::A2::A3::L)):Sep H (A3::A0::A1::A2::L):=Sep.out h 3 rfl
theorem Sep.up4 {A0 A1 A2 A3 A4:Asr}(h:Sep H (A0::A1::A2::A3::A4::L)):Sep H (A4::A0::A1::A2::A3::L):=Sep.out h 4 rfl
theorem Sep.up5 {A0 A1 A2 A3 A4 A5:Asr}(h:Sep H (A0::A1::A2::A3::A4::A5::L)):Sep H (A5::A0::A1::A2::A3::A4::L):=Sep.out h 5 rfl
theorem Sep.up6 {A0 A1 A2 A3 A4 A5 A6:Asr}(h:Sep H (A0::A1::A2::A3::A4::A5::A6::L)):Sep H (A6::A0::A1::A2::A3::A4::A5::L):=Sep.out h 6 rfl
theorem Sep.up7 {A0 A1 A2 A3 A4 A5 A6 A7:Asr}(h:Sep H (A0::A1::A2::A3::A4::A5::A6::A7::L)):Sep H (A7::A0::A1::A2::A3::A4::A5::A6::L):=Sep.out h 7 rfl
theorem Sep.up8 {A0 A1 A2 A3 A4 A5 A6 A7 A8:Asr}(h:Sep H (A0::A1::A2::A3::A4::A5::A6::A7::A8::L)):Sep H (A8::A0::A1::A2::A3::A4::A5::A6::A7::L):=Sep.out h 8 rfl
theorem Sep.up9 {A0 A1 A2 A3 A4 A5 A6 A7 A8 A9:Asr}(h:Sep H (A0::A1::A2::A3::A4::A5::A6::A7::A8::A9::L)):Sep H (A9::A0::A1::A2::A3::A4::A5::A6::A7::A8::L):=Sep.out h 9 rfl
theorem Sep.ld0 {i z o:Nat}{w:Bool}{c:List Value}{v:Value}(h:Sep H (bx i (.cells w z c)::L))(hv:c[o]? =some v):H.cell i o=some v:=Sep.ld h 0 rfl hv
theorem Sep.lds0 {i z o n:Nat}{w:Bool}{c:List Value}{v:List Value}(h:Sep H (bx i (.cells w z c)::L))(hv:takeAt c o n=some v):H.cellsAt i o n=some v:=Sep.lds h 0 rfl hv
theorem Sep.get0 {i:Nat}{x:Obj}(h:Sep H (bx i x::L)):H.get i=some x:=Sep.get h 0 rfl
theorem Sep.st0 {i z o:Nat}{c vs:List Value}{K:Heap->Prop}(h:Sep H (bx i (.cells true z c)::L))(hl:o+vs.length<=c.length)(r:∀H',Sep H' (bx i (.cells true z (setAt c o vs))::L)->K H'):stc H i o vs K:=Sep.st h 0 rfl hl r
theorem Sep.put0 {i:Nat}{x:Obj}(h:Sep H (bx i x::L))(y:Obj):Sep (H.set i y) (bx i y::L):=Sep.set h 0 y rfl
theorem Sep.ld1 {A0:Asr}{i z o:Nat}{w:Bool}{c:List Value}{v:Value}(h:Sep H (A0::bx i (.cells w z c)::L))(hv:c[o]? =some v):H.cell i o=some v:=Sep.ld h 1 rfl hv
theorem Sep.lds1 {A0:Asr}{i z o n:Nat}{w:Bool}{c:List Value}{v:List Value}(h:Sep H (A0::bx i (.cells w z c)::L))(hv:takeAt c o n=some v):H.cellsAt i o n=some v:=Sep.lds h 1 rfl hv
theorem Sep.get1 {A0:Asr}{i:Nat}{x:Obj}(h:Sep H (A0::bx i x::L)):H.get i=some x:=Sep.get h 1 rfl
theorem Sep.st1 {A0:Asr}{i z o:Nat}{c vs:List Value}{K:Heap->Prop}(h:Sep H (A0::bx i (.cells true z c)::L))(hl:o+vs.length<=c.length)(r:∀H',Sep H' (A0::bx i (.cells true z (setAt c o vs))::L)->K H'):stc H i o vs K:=Sep.st h 1 rfl hl r
theorem Sep.one1 {A0:Asr}{A:Asr}(h:Sep H (A0::A::L)):A.holds H:=Sep.one h 1 rfl
theorem Sep.ld2 {A0 A1:Asr}{i z o:Nat}{w:Bool}{c:List Value}{v:Value}(h:Sep H (A0::A1::bx i (.cells w z c)::L))(hv:c[o]? =some v):H.cell i o=some v:=Sep.ld h 2 rfl hv
theorem Sep.lds2 {A0 A1:Asr}{i z o n:Nat}{w:Bool}{c:List Value}{v:List Value}(h:Sep H (A0::A1::bx i (.cells w z c)::L))(hv:takeAt c o n=some v):H.cellsAt i o n=some v:=Sep.lds h 2 rfl hv
theorem Sep.st2 {A0 A1:Asr}{i z o:Nat}{c vs:List Value}{K:Heap->Prop}(h:Sep H (A0::A1::bx i (.cells true z c)::L))(hl:o+vs.length<=c.length)(r:∀H',Sep H' (A0::A1::bx i (.cells true z (setAt c o vs))::L)->K H'):stc H i o vs K:=Sep.st h 2 rfl hl r
theorem Sep.ld3 {A0 A1 A2:Asr}{i z o:Nat}{w:Bool}{c:List Value}{v:Value}(h:Sep H (A0::A1::A2::bx i (.cells w z c)::L))(hv:c[o]? =some v):H.cell i o=some v:=Sep.ld h 3 rfl hv
theorem Sep.lds3 {A0 A1 A2:Asr}{i z o n:Nat}{w:Bool}{c:List Value}{v:List Value}(h:Sep H (A0::A1::A2::bx i (.cells w z c)::L))(hv:takeAt c o n=some v):H.cellsAt i o n=some v:=Sep.lds h 3 rfl hv
theorem Sep.get3 {A0 A1 A2:Asr}{i:Nat}{x:Obj}(h:Sep H (A0::A1::A2::bx i x::L)):H.get i=some x:=Sep.get h 3 rfl
theorem Sep.st3 {A0 A1 A2:Asr}{i z o:Nat}{c vs:List Value}{K:Heap->Prop}(h:Sep H (A0::A1::A2::bx i (.cells true z c)::L))(hl:o+vs.length<=c.length)(r:∀H',Sep H' (A0::A1::A2::bx i (.cells true z (setAt c o vs))::L)->K H'):stc H i o vs K:=Sep.st h 3 rfl hl r
theorem Sep.ld4 {A0 A1 A2 A3:Asr}{i z o:Nat}{w:Bool}{c:List Value}{v:Value}(h:Sep H (A0::A1::A2::A3::bx i (.cells w z c)::L))(hv:c[o]? =some v):H.cell i o=some v:=Sep.ld h 4 rfl hv
theorem Sep.lds4 {A0 A1 A2 A3:Asr}{i z o n:Nat}{w:Bool}{c:List Value}{v:List Value}(h:Sep H (A0::A1::A2::A3::bx i (.cells w z c)::L))(hv:takeAt c o n=some v):H.cellsAt i o n=some v:=Sep.lds h 4 rfl hv
theorem Sep.get4 {A0 A1 A2 A3:Asr}{i:Nat}{x:Obj}(h:Sep H (A0::A1::A2::A3::bx i x::L)):H.get i=some x:=Sep.get h 4 rfl
theorem Sep.st4 {A0 A1 A2 A3:Asr}{i z o:Nat}{c vs:List Value}{K:Heap->Prop}(h:Sep H (A0::A1::A2::A3::bx i (.cells true z c)::L))(hl:o+vs.length<=c.length)(r:∀H',Sep H' (A0::A1::A2::A3::bx i (.cells true z (setAt c o vs))::L)->K H'):stc H i o vs K:=Sep.st h 4 rfl hl r
theorem Sep.ld5 {A0 A1 A2 A3 A4:Asr}{i z o:Nat}{w:Bool}{c:List Value}{v:Value}(h:Sep H (A0::A1::A2::A3::A4::bx i (.cells w z c)::L))(hv:c[o]? =some v):H.cell i o=some v:=Sep.ld h 5 rfl hv
theorem Sep.st5 {A0 A1 A2 A3 A4:Asr}{i z o:Nat}{c vs:List Value}{K:Heap->Prop}(h:Sep H (A0::A1::A2::A3::A4::bx i (.cells true z c)::L))(hl:o+vs.length<=c.length)(r:∀H',Sep H' (A0::A1::A2::A3::A4::bx i (.cells true z (setAt c o vs))::L)->K H'):stc H i o vs K:=Sep.st h 5 rfl hl r
theorem Sep.ld6 {A0 A1 A2 A3 A4 A5:Asr}{i z o:Nat}{w:Bool}{c:List Value}{v:Value}(h:Sep H (A0::A1::A2::A3::A4::A5::bx i (.cells w z c)::L))(hv:c[o]? =some v):H.cell i o=some v:=Sep.ld h 6 rfl hv
theorem Sep.st6 {A0 A1 A2 A3 A4 A5:Asr}{i z o:Nat}{c vs:List Value}{K:Heap->Prop}(h:Sep H (A0::A1::A2::A3::A4::A5::bx i (.cells true z c)::L))(hl:o+vs.length<=c.length)(r:∀H',Sep H' (A0::A1::A2::A3::A4::A5::bx i (.cells true z (setAt c o vs))::L)->K H'):stc H i o vs K:=Sep.st h 6 rfl hl r
theorem Sep.ld7 {A0 A1 A2 A3 A4 A5 A6:Asr}{i z o:Nat}{w:Bool}{c:List Value}{v:Value}(h:Sep H (A0::A1::A2::A3::A4::A5::A6::bx i (.cells w z c)::L))(hv:c[o]? =some v):H.cell i o=some v:=Sep.ld h 7 rfl hv
theorem Sep.lds7 {A0 A1 A2 A3 A4 A5 A6:Asr}{i z o n:Nat}{w:Bool}{c:List Value}{v:List Value}(h:Sep H (A0::A1::A2::A3::A4::A5::A6::bx i (.cells w z c)::L))(hv:takeAt c o n=some v):H.cellsAt i o n=some v:=Sep.lds h 7 rfl hv
theorem Sep.st7 {A0 A1 A2 A3 A4 A5 A6:Asr}{i z o:Nat}{c vs:List Value}{K:Heap->Prop}(h:Sep H (A0::A1::A2::A3::A4::A5::A6::bx i (.cells true z c)::L))(hl:o+vs.length<=c.length)(r:∀H',Sep H' (A0::A1::A2::A3::A4::A5::A6::bx i (.cells true z (setAt c o vs))::L)->K H'):stc H i o vs K:=Sep.st h 7 rfl hl r
theorem Sep.ld8 {A0 A1 A2 A3 A4 A5 A6 A7:Asr}{i z o:Nat}{w:Bool}{c:List Value}{v:Value}(h:Sep H (A0::A1::A2::A3::A4::A5::A6::A7::bx i (.cells w z c)::L))(hv:c[o]? =some v):H.cell i o=some v:=Sep.ld h 8 rfl hv
theorem Sep.lds8 {A0 A1 A2 A3 A4 A5 A6 A7:Asr}{i z o n:Nat}{w:Bool}{c:List Value}{v:List Value}(h:Sep H (A0::A1::A2::A3::A4::A5::A6::A7::bx i (.cells w z c)::L))(hv:takeAt c o n=some v):H.cellsAt i o n=some v:=Sep.lds h 8 rfl hv
end
section
variable {H:Heap} {L:List Asr}
theorem rowsFlat_len {w:Nat}:∀(css:List (List Value)),(∀c∈css,c.length=w)->css.flatten.length=css.length*w
 |[],_=>by simp
 |c::css,h=>by
  rw [List.flatten_cons,List.length_append,rowsFlat_len css λd hd=>h d (List.mem_cons_of_mem _ hd),h c (by simp),List.length_cons,Nat.add_mul]
  omega
theorem rowsFlat_drop {w:Nat}:∀(css:List (List Value))(j:Nat),(∀c∈css,c.length=w)->css.flatten.drop (j*w)=(css.drop j).flatten
 |css,0,_=>by simp
 |[],j+1,_=>by simp
 |c::css,j+1,h=>by
  have hc:=h c (by simp)
  rw [List.flatten_cons,Nat.add_mul,Nat.one_mul,Nat.add_comm,<-hc,<-List.drop_drop,List.drop_left,hc,List.drop_succ_cons]
  exact rowsFlat_drop css j λd hd=>h d (List.mem_cons_of_mem _ hd)
theorem rowsFlat_takeAt {w:Nat}{css:List (List Value)}{j:Nat}(h:∀c∈css,c.length=w)(hj:j<css.length):takeAt css.flatten (j*w) w=some css[j]:=by
 have h1:=rowsFlat_len css h;have h2:j*w+w<=css.length*w:=by rw [<-Nat.succ_mul];exact Nat.mul_le_mul_right _ hj
 unfold takeAt;rw [if_pos (by omega),rowsFlat_drop css j h,List.drop_eq_getElem_cons hj,List.flatten_cons];have h3:(css[j]).length=w:=h _ (List.getElem_mem hj)
 congr 1
 conv=>lhs;rw [<-h3]
 exact List.take_left
theorem rowsFlat_cell {w:Nat}{css:List (List Value)}{j k:Nat}(h:∀c∈css,c.length=w)(hj:j<css.length)(hk:k<w):css.flatten[j*w+k]? =(css[j])[k]? :=by
 have h3:(css[j]).length=w:=h _ (List.getElem_mem hj);rw [<-List.getElem?_drop,rowsFlat_drop css j h,List.drop_eq_getElem_cons hj,List.flatten_cons,List.getElem?_append_left (by omega)]
theorem Sep.many0 (h:Sep H L):Sep H (many []::L):=Sep.many_iff.2 h
theorem Sep.many1 {A:Asr}:Sep H (many [A]::L)↔Sep H (A::L):=Sep.many_iff
theorem Sep.splitM {A X B:List Asr}:Sep H (many (A++(X++B))::L)↔Sep H (many X::many (A++B)::L):=by
 rw [Sep.many_iff,Sep.many_iff];have e:Sep H (X++many (A++B)::L)↔Sep H (many (A++B)::(X++L)):=⟨λh=>h.perm List.perm_middle,λh=>h.perm List.perm_middle.symm⟩;rw [e,Sep.many_iff];have p:(A++(X++B)++L).Perm (A++B++(X++L)):=by
  simp only [List.append_assoc];exact List.Perm.append_left A (List.perm_append_comm_assoc X B L)
 exact ⟨λh=>h.perm p,λh=>h.perm p.symm⟩
variable {w k:Nat} {css:List (List Value)} {row:List Value}
theorem set_same {α:Type}{l:List α}{k:Nat}{x:α}(hk:l[k]? =Option.some x):l.set k x=l:=by
 have⟨hl,hg⟩:=List.getElem?_eq_some_iff.1 hk;rw [<-hg];exact List.set_getElem_self hl
theorem set_rows (hw:∀c∈css,c.length=w)(hr:row.length=w):∀c∈css.set k row,c.length=w:=by
 intro c hc;rcases List.mem_or_eq_of_mem_set hc with h|h
 ·exact hw c h
 ·rw [h];exact hr
theorem reps_flat (n:Nat)(z:List Value):reps n z=(List.replicate n z).flatten:=by
 induction n with
 |zero=>rfl
 |succ n ih=>simp only [reps,ih,List.replicate_succ,List.flatten_cons]
end
end Go.AS
namespace Go.Proofs.YtjggeoghlicmdaaGreat
open Go Go.AS Go.RowKit
section
abbrev P (i:Nat):Value:=.pointer (some ⟨i,0,none⟩)
abbrev I (n:Int):Value:=.int .i64 n
variable {H:Heap} {R:Value->Heap->Prop}
theorem Pick_ok {v n:Int}(hn:1<=n)(hl:n<=4611686018427387904)(hR:R (I (v % n)) H):CA en F.crossbarkit_Pick [I v,I n] H R:=by
 apply vc_crossbarkit_Pick;refine cond_no (by simp;omega) ⟨by unfold nz;omega,?_⟩;have hb:(v.tmod n).natAbs<n.natAbs:=by
  rw [Int.natAbs_tmod];exact Nat.mod_lt _ (by omega)
 have h1:v % n=if v.tmod n<0 then v.tmod n+n else v.tmod n:=by
  have e1:=Int.tmod_add_mul_tdiv v n;split
  ·rename_i h
   have:v % n=(v.tmod n+n) % n:=by
    conv=>lhs;rw [<-e1]
    rw [Int.add_mul_emod_self_left,Int.add_emod_right]
   rw [this];exact Int.emod_eq_of_lt (by omega) (by omega)
  ·rename_i h
   have:v % n=(v.tmod n) % n:=by
    conv=>lhs;rw [<-e1]
    rw [Int.add_mul_emod_self_left]
   rw [this];exact Int.emod_eq_of_lt (by omega) (by omega)
 rw [h1] at hR;refine cond_of (λh=>?_) λh=>?_
 ·simp only [decide_eq_true_eq] at h;rw [if_pos h] at hR;rw [wrap_i64 (by omega)];exact hR
 ·simp only [decide_eq_false_iff_not] at h;rw [if_neg h] at hR;exact hR
theorem Cut_ok {v a b:Int}(hR:R (I (max a (min v b))) H):CA en F.crossbarkit_Cut [I v,I a,I b] H R:=by
 apply vc_crossbarkit_Cut;have e:(if (if b<v then b else v)>a then (if b<v then b else v) else a)=max a (min v b):=by split<;>split<;>omega
 first
  |(rw [e];exact hR)
  |(rw [<-e] at hR;exact hR)
end
section
structure Reg where
 h:Int
 b:Nat
 born:Nat
 ws:List (BitVec 64)
structure Sm where
 mp:Nat
 cl:Nat
 regs:List Reg
 made:Int
 room:Int
 count:Int
 bads:Int
def Reg.cells (r:Reg):List Value:=r.ws.map W
def Reg.ent (r:Reg):MapEntry:=AS.ent Reg.h (λr=>.slice (some ⟨r.b,0,none⟩) r.ws.length 0) Reg.born .i64 r
def Sm.base (S:Sm):List Value:=[.map (some S.mp),.int .i64 S.made,.int .i64 S.room,.int .i64 S.count,.int .i64 S.bads]
def Sm.foot (S:Sm)(m:Nat):List Nat:=m::S.mp::S.regs.map Reg.b
def Sm.find (S:Sm)(h:Int):Option Reg:=S.regs.find? λr=>r.h==h
def Sm.size (S:Sm)(h:Int):Nat:=match S.find h with|some r=>r.ws.length|none=>0
structure IsMem (H:Heap)(m:Nat)(S:Sm):Prop where
 base:H.get m=some (.cells true 0 S.base)
 map:H.get S.mp=some (.map (S.regs.map Reg.ent) S.cl)
 rows:∀r∈S.regs,H.get r.b=some (.cells true 1 r.cells)
 nodup:(S.foot m).Nodup
 lt:∀j∈S.foot m,j<H.next
 keys:(S.regs.map Reg.h).Nodup
variable {H:Heap} {m:Nat} {S:Sm} {R:Value->Heap->Prop}
theorem IsMem.frm (hm:IsMem H m S){H':Heap}{X:List Nat}(hf:Frm X H H')(hx:∀j∈S.foot m,j∉X):IsMem H' m S:=by
 have g:∀j∈S.foot m,H'.get j=H.get j:=λj hj=>hf.2 j (hm.lt j hj) (hx j hj)
 refine ⟨?_,?_,λr hr=>?_,hm.nodup,λj hj=>Nat.lt_of_lt_of_le (hm.lt j hj) hf.1,hm.keys⟩
 ·rw [g m (by simp [Sm.foot]),hm.base]
 ·rw [g S.mp (by simp [Sm.foot]),hm.map]
 ·rw [g r.b (by simp only [Sm.foot,List.mem_cons,List.mem_map];exact .inr (.inr ⟨r,hr,rfl⟩)),hm.rows r hr]
theorem IsMem.frm' (hm:IsMem H m S){H':Heap}(hf:Frm [] H H'):IsMem H' m S:=hm.frm hf (by simp)
theorem IsMem.setBase (hm:IsMem H m S){S':Sm}(h1:S'.mp=S.mp)(h2:S'.cl=S.cl)(h3:S'.regs=S.regs):IsMem (H.set m (.cells true 0 S'.base)) m S':=by
 have hn:=hm.nodup;simp only [Sm.foot,List.nodup_cons,List.mem_cons,List.mem_map,not_or,not_exists,not_and] at hn;have hfoot:S'.foot m=S.foot m:=by simp [Sm.foot,h1,h3]
 refine ⟨get_set_self _ _ _,?_,λr hr=>?_,by rw [hfoot];exact hm.nodup,λj hj=>by rw [next_set];exact hm.lt j (by rw [<-hfoot];exact hj),by rw [h3];exact hm.keys⟩
 ·rw [h1,h2,h3,get_set_ne (Ne.symm hn.1.1),hm.map]
 ·rw [h3] at hr;rw [get_set_ne (λe=>hn.1.2 r hr e),hm.rows r hr]
theorem find_idx (S:Sm)(h:Int):(S.regs.findIdx? λa=>a.h==h).bind (λj=>S.regs[j]?)=S.find h:=by
 unfold Sm.find
 induction S.regs with
 |nil=>rfl
 |cons r l ih=>
  rw [List.findIdx?_cons,List.find?_cons];cases hr:r.h==h with
  |true=>simp
  |false=>
   simp only [Bool.false_eq_true,if_false];rw [<-ih,Option.bind_map]
   congr 1
theorem IsMem.mapGet (hm:IsMem H m S)(h:Int):∃r,AS.mapGet H (.int .i64) (some S.mp) (I h)=some r/\
  (match S.find h with
   |some q=>∃j,r=some (j,.slice (some ⟨q.b,0,none⟩) q.ws.length 0)
   |none=>r=none):=by
 unfold AS.mapGet;rw [entries_of hm.map];simp only [Option.bind_some];have e:=findNow_int Reg.h (λr=>Value.slice (some ⟨r.b,0,none⟩) r.ws.length 0) Reg.born .i64 h S.regs 0;refine ⟨_,e,?_⟩;rw [<-find_idx];cases hx:S.regs.findIdx? λa=>a.h==h with
 |none=>simp
 |some j=>
  have hj:j<S.regs.length:=(List.findIdx?_eq_some_iff_getElem.1 hx).1;simp only [Option.bind_some,List.getElem?_eq_getElem hj,Option.map_some,Option.getD_some];exact ⟨0+j,rfl⟩
def addrOf:Option Reg->Option Addr
 |some q=>some ⟨q.b,0,none⟩
 |none=>none
def lenOf:Option Reg->Nat
 |some q=>q.ws.length
 |none=>0
theorem IsMem.look (hm:IsMem H m S)(h:Int){K:Option (Nat×Value)->Option Addr->Nat->Prop}(k:∀r:Option (Nat×Value),r.isSome=(S.find h).isSome->K r (addrOf (S.find h)) (lenOf (S.find h))) :
  ∃r,AS.mapGet H (.int .i64) (some S.mp) (I h)=some r/\∃a l,got r (.slice none 0 0) (.slice a l 0)/\K r a l:=by
 have⟨r,h1,h2⟩:=hm.mapGet h;refine ⟨r,h1,addrOf (S.find h),lenOf (S.find h),?_,?_⟩
 ·cases hf:S.find h with
  |none=>rw [hf] at h2;simp only at h2;subst h2;rfl
  |some q=>rw [hf] at h2;obtain ⟨j,rfl⟩:=h2;rfl
 ·refine k r ?_;cases hf:S.find h with
  |none=>rw [hf] at h2;simp only at h2;subst h2;rfl
  |some q=>rw [hf] at h2;obtain ⟨j,rfl⟩:=h2;rfl
theorem find_mem {h:Int}{q:Reg}(hf:S.find h=some q):q∈S.regs/\q.h=h:=by
 unfold Sm.find at hf;exact ⟨List.mem_of_find?_eq_some hf,by simpa using List.find?_some hf⟩
def Sm.upd (S:Sm)(h:Int)(i:Nat)(w:BitVec 64):Sm:={S with regs:=S.regs.map λr=>if r.h=h then {r with ws:=r.ws.set i w} else r}
theorem upd_foot (S:Sm)(m:Nat)(h:Int)(i:Nat)(w:BitVec 64):(S.upd h i w).foot m=S.foot m:=by
 simp only [Sm.foot,Sm.upd,List.map_map]
 congr 2
 refine List.map_congr_left λr _=>?_
 simp only [Function.comp];split<;>rfl
theorem IsMem.setRow (hm:IsMem H m S){h:Int}{q:Reg}(hf:S.find h=some q)(i:Nat)(w:BitVec 64):IsMem (H.set q.b (.cells true 1 ((q.ws.set i w).map W))) m (S.upd h i w):=by
 obtain ⟨hq,rfl⟩:=find_mem hf;have hn:=hm.nodup;simp only [Sm.foot,List.nodup_cons,List.mem_cons,List.mem_map,not_or,not_exists,not_and] at hn;have keyinj:∀r∈S.regs,r.h=q.h->r=q:=by
  intro r hr e
  have:=hm.keys
  rw [List.nodup_iff_pairwise_ne] at this;obtain ⟨a,ha,rfl⟩:=List.mem_iff_getElem.1 hr;obtain ⟨b,hb,rfl⟩:=List.mem_iff_getElem.1 hq;by_cases hab:a=b
  ·subst hab;rfl
  ·exfalso;rw [List.pairwise_iff_getElem] at this;rcases Nat.lt_or_gt_of_ne hab with h1|h1
   ·exact this a b (by simpa using ha) (by simpa using hb) h1 (by simpa using e)
   ·exact this b a (by simpa using hb) (by simpa using ha) h1 (by simpa using e.symm)
 have blkinj:∀r∈S.regs,r.b=q.b->r=q:=by
  intro r hr e
  have:=hn.2.2
  rw [List.nodup_iff_pairwise_ne] at this;obtain ⟨a,ha,rfl⟩:=List.mem_iff_getElem.1 hr;obtain ⟨b,hb,rfl⟩:=List.mem_iff_getElem.1 hq;by_cases hab:a=b
  ·subst hab;rfl
  ·exfalso;rw [List.pairwise_iff_getElem] at this;rcases Nat.lt_or_gt_of_ne hab with h1|h1
   ·exact this a b (by simpa using ha) (by simpa using hb) h1 (by simpa using e)
   ·exact this b a (by simpa using hb) (by simpa using ha) h1 (by simpa using e.symm)
 refine ⟨?_,?_,λr hr=>?_,by rw [upd_foot];exact hm.nodup,λj hj=>by rw [next_set];exact hm.lt j (by rw [upd_foot] at hj;exact hj),?_⟩
 ·rw [get_set_ne (λe=>hn.1.2 q hq e.symm),hm.base];rfl
 ·have e1:(S.upd q.h i w).regs.map Reg.ent=S.regs.map Reg.ent:=by
   simp only [Sm.upd,List.map_map];refine List.map_congr_left λr _=>?_
   simp only [Function.comp];split
   ·simp [Reg.ent,AS.ent]
   ·rfl
  rw [e1];show (H.set q.b _).get S.mp=some (.map _ S.cl);rw [get_set_ne (λe=>hn.2.1 q hq e.symm),hm.map]
 ·simp only [Sm.upd,List.mem_map] at hr;obtain ⟨r0,h0,rfl⟩:=hr;by_cases e:r0.h=q.h
  ·rw [if_pos e];obtain rfl:=keyinj r0 h0 e;exact get_set_self _ _ _
  ·rw [if_neg e]
   have:r0.b≠q.b:=λe'=>e (by rw [blkinj r0 h0 e'])
   rw [get_set_ne this,hm.rows r0 h0]
 ·have e1:(S.upd q.h i w).regs.map Reg.h=S.regs.map Reg.h:=by
   simp only [Sm.upd,List.map_map];refine List.map_congr_left λr _=>?_
   simp only [Function.comp];split<;>rfl
  rw [e1];exact hm.keys
def wr (n:Int):Int:=IntKind.i64.wrap n
def Sm.cnt (S:Sm):Sm:={S with count:=wr (S.count+1)}
def Sm.acc (S:Sm)(h i:Int)(may:Bool)(f:BitVec 64->BitVec 64):(BitVec 64×Bool)×Sm:=
 match S.find h with
 |some r=>if may=true/\0<=i/\i<r.ws.length then ((r.ws.getD i.toNat 0,true),S.cnt.upd h i.toNat (f (r.ws.getD i.toNat 0))) else ((0,false),{S.cnt with bads:=wr (S.bads+1)})
 |none=>((0,false),{S.cnt with bads:=wr (S.bads+1)})
theorem acc_foot (S:Sm)(m:Nat)(h i:Int)(may:Bool)(f:BitVec 64->BitVec 64):(S.acc h i may f).2.foot m=S.foot m:=by
 unfold Sm.acc;split
 ·split
  ·rw [upd_foot];rfl
  ·rfl
 ·rfl
def Does (H:Heap)(X:List Nat)(k:Nat)(fs cs:List Value)(f:BitVec 64->BitVec 64):Prop:=
 (∃fn,en.fn k=some fn)/\∀H1 w,Frm X H H1->CA en k (fs++[W w]++cs) H1 λv H2=>v=W (f w)/\Frm [] H1 H2
theorem access_ok (hm:IsMem H m S){h i:Int}{may:Bool}{k:Nat}{fs cs:List Value}{f:BitVec 64->BitVec 64}(hd:Does H [m] k fs cs f)
  (hR:∀H',IsMem H' m (S.acc h i may f).2->Frm (S.foot m) H H'->R (.tuple #[W (S.acc h i may f).1.1,.bool (S.acc h i may f).1.2]) H') :
  CA en F.smem_Mem_access [P m,I h,I i,.bool may,.func (.func k) ⟨fs⟩ ⟨cs⟩] H R:=by
 apply vc_smem_Mem_access;simp only [asAddr_some,Nat.zero_add];refine ⟨S.count,by rw [cell_of hm.base];rfl,?_⟩;refine stc_of' hm.base (by simp [Sm.base]) λH1 e1=>?_
 have hm1:IsMem H1 m S.cnt:=e1▸hm.setBase (S':=S.cnt) rfl rfl rfl;have fr1:Frm [m] H H1:=e1▸(Frm.refl _ _).set _ (by simp);clear e1;refine ⟨some S.mp,by rw [cell_of hm1.base];rfl,?_⟩;refine hm1.look h λr hr=>?_
 have hfind:S.cnt.find h=S.find h:=rfl;rw [hfind];have bad:(S.acc h i may f)=((0,false),{S.cnt with bads:=wr (S.bads+1)})->∃n15,H1.cell m 4=some (I n15)/\stc H1 m 4 [I (IntKind.i64.wrap (n15+1))] λH18=>R (.tuple #[.int .u64 0,.bool false]) H18:=by
  intro e;refine ⟨S.bads,by rw [cell_of hm1.base];rfl,?_⟩;refine stc_of hm1.base (by simp [Sm.base]) ?_
  have:=hR (H1.set m (.cells true 0 (setAt S.cnt.base 4 [I (IntKind.i64.wrap (S.bads+1))])))
  rw [e] at this;refine this ?_ ?_
  ·exact hm1.setBase (S':={S.cnt with bads:=wr (S.bads+1)}) rfl rfl rfl
  ·exact (fr1.mono (by simp [Sm.foot])).set _ (by simp [Sm.foot])
 cases may with
 |false=>exact bad (by unfold Sm.acc;split<;>simp)
 |true=>
  simp only [Bool.not_true,cond_false];refine cond_of (λhi=>bad ?_) λhi=>?_
  ·simp only [decide_eq_true_eq] at hi;unfold Sm.acc;split
   ·rw [if_neg (by omega)]
   ·rfl
  refine cond_of (λhl=>bad ?_) λhl=>?_
  ·simp only [decide_eq_true_eq,ge_iff_le] at hl;unfold Sm.acc;cases hf:S.find h with
   |none=>rfl
   |some q=>rw [hf] at hl;simp only [lenOf] at hl;simp only;rw [if_neg (by omega)]
  simp only [decide_eq_false_iff_not,ge_iff_le] at hi hl;cases hf:S.find h with
  |none=>rw [hf] at hl;simp only [lenOf] at hl;omega
  |some q=>
   rw [hf] at hl;simp only [lenOf] at hl;simp only [lenOf,addrOf,asRow_some,asFn_func];have hq:=(find_mem hf).1;have hlt:i.toNat<q.ws.length:=by omega
   refine ⟨⟨by omega,by omega⟩,((q.ws.getD i.toNat 0).toNat:Int),?_,hd.1,?_⟩
   ·rw [cell_of (hm1.rows q hq)];simp [Reg.cells,hlt,List.getD_eq_getElem?_getD]
   ·refine (hd.2 H1 (q.ws.getD i.toNat 0) fr1).mono ?_;rintro v H2 ⟨rfl,fr2⟩;refine ⟨_,rfl,⟨by omega,by omega⟩,?_⟩;have hm2:=hm1.frm' fr2;refine stc_of (hm2.rows q hq) (by simp [Reg.cells];omega) ?_;have eacc:S.acc h i true f=((q.ws.getD i.toNat 0,true),S.cnt.upd h i.toNat (f (q.ws.getD i.toNat 0))):=by
     unfold Sm.acc;rw [hf];simp only;rw [if_pos (by refine ⟨?_,by omega,by omega⟩;trivial)]
    have hrow:=hm2.setRow (h:=h) hf i.toNat (f (q.ws.getD i.toNat 0))
    have:=hR _ (by rw [eacc];exact hrow) (by
     refine ((fr1.mono (by simp [Sm.foot])).trans fr2 (by simp)).set _ ?_;left;simp only [Sm.foot,List.mem_cons,List.mem_map];exact .inr (.inr ⟨q,hq,rfl⟩))
    rw [eacc] at this;have ecell:setAt q.cells (0+i.toNat*1) [W (f (q.ws.getD i.toNat 0))]=(q.ws.set i.toNat (f (q.ws.getD i.toNat 0))).map W:=by
     simp [setAt,Reg.cells,List.map_set]
    rw [ecell];exact this
def under (w mask v:BitVec 64):BitVec 64:=(w&&& ~~~mask)|||(v&&&mask)
theorem under_ok {w mask v:BitVec 64}(hR:R (W (under w mask v)) H):CA en F.smem_under [W w,W mask,W v] H R:=by
 apply vc_smem_under;simp only [ofInt_bv,wrap_bv];exact hR
theorem load_does (X:List Nat):Does H X F.smem_Mem_Load_1 [] [] id:=
 ⟨Option.isSome_iff_exists.1 (by kernel_rfl),λH1 w _=>by
  apply vc_smem_Mem_Load_1
  exact ⟨rfl,Frm.refl _ _⟩⟩
theorem Load_ok (hm:IsMem H m S){h i:Int}
  (hR:∀H',IsMem H' m (S.acc h i true id).2->Frm (S.foot m) H H'->R (.tuple #[W (S.acc h i true id).1.1,.bool (S.acc h i true id).1.2]) H') :
  CA en F.smem_Mem_Load [P m,I h,I i] H R:=by
 apply vc_smem_Mem_Load;refine access_ok hm (load_does _) λH' hm' fr=>?_
 exact ⟨_,_,rfl,hR H' hm' fr⟩
theorem swap_does {X:List Nat}{b1 b2:Nat}{mask v:BitVec 64}(h1:H.get b1=some (.cells true 0 [W mask]))(h2:H.get b2=some (.cells true 0 [W v]))(l1:b1<H.next)(l2:b2<H.next)(n1:b1∉X)(n2:b2∉X) :
  Does H X F.smem_Mem_Swap_1 [] [P b1,P b2] λw=>under w mask v:=
 ⟨Option.isSome_iff_exists.1 (by kernel_rfl),λH1 w fr=>by
  apply vc_smem_Mem_Swap_1
  simp only [asAddr_some]
  refine ⟨mask.toNat,by rw [cell_of (by rw [fr.2 _ l1 n1];exact h1)];rfl,v.toNat,by rw [cell_of (by rw [fr.2 _ l2 n2];exact h2)];rfl,?_⟩
  refine under_ok ⟨_,rfl,rfl,Frm.refl _ _⟩⟩
theorem Swap_ok (hm:IsMem H m S){h i:Int}{mask v:BitVec 64}
  (hR:∀H',IsMem H' m (S.acc h i true λw=>under w mask v).2->Frm (S.foot m) H H'->R (.tuple #[W (S.acc h i true λw=>under w mask v).1.1,.bool (S.acc h i true λw=>under w mask v).1.2]) H') :
  CA en F.smem_Mem_Swap [P m,I h,I i,W mask,W v] H R:=by
 apply vc_smem_Mem_Swap;have fr:Frm [] H ((H.new (.cells true 0 [W mask])).new (.cells true 0 [W v])):=((Frm.refl _ _).new _).new _;have hm1:=hm.frm' fr;have hne:∀j∈[m],j<H.next:=by
  intro j hj;simp only [List.mem_singleton] at hj;subst hj;exact hm.lt _ (by simp [Sm.foot])
 refine access_ok hm1 (swap_does (mask:=mask) (v:=v) ?_ ?_ ?_ ?_ ?_ ?_) λH' hm' fr'=>?_
 ·rw [get_new_lt (by simp [next_new]),get_new_self]
 ·rw [get_new_self]
 ·simp only [next_new];omega
 ·simp only [next_new];omega
 ·intro hx;have:=hne _ hx;omega
 ·intro hx;have:=hne _ hx;simp only [next_new] at this;omega
 ·exact ⟨_,_,rfl,hR H' hm' ((Frm.mono (S':=S.foot m) fr (by simp)).trans fr' λj hj=>.inl hj)⟩
theorem Mask_ok (hm:IsMem H m S){h i:Int}{mask v:BitVec 64}
  (hR:∀H',IsMem H' m (S.acc h i true λw=>under w mask v).2->Frm (S.foot m) H H'->R (.bool (S.acc h i true λw=>under w mask v).1.2) H') :
  CA en F.smem_Mem_Mask [P m,I h,I i,W mask,W v] H R:=by
 apply vc_smem_Mem_Mask;exact Swap_ok hm λH' hm' fr'=>⟨_,_,rfl,hR H' hm' fr'⟩
theorem all_ones:(18446744073709551615:Int)=((BitVec.allOnes 64).toNat:Int):=by decide
theorem under_all (w v:BitVec 64):under w (BitVec.allOnes 64) v=v:=by
 unfold under;rw [BitVec.not_allOnes,BitVec.and_zero,BitVec.zero_or,BitVec.and_allOnes]
theorem Store_ok (hm:IsMem H m S){h i:Int}{v:BitVec 64}
  (hR:∀H',IsMem H' m (S.acc h i true λ_=>v).2->Frm (S.foot m) H H'->R (.bool (S.acc h i true λ_=>v).1.2) H') :
  CA en F.smem_Mem_Store [P m,I h,I i,W v] H R:=by
 apply vc_smem_Mem_Store;rw [all_ones];refine Mask_ok hm λH' hm' fr'=>⟨_,rfl,?_⟩
 simp only [under_all] at hm'⊢;exact hR H' hm' fr'
def aluF (op:Int)(a b:BitVec 64):BitVec 64:=if op=0 then a+b else if op=64 then a|||b else if op=80 then a&&&b else a ^^^ b
def isAtomic (op:Int):Bool:=op==0||op==80||op==64||op==160
def fetchF (op:Int)(mask v w:BitVec 64):BitVec 64:=under w mask (aluF op (w&&&mask) (v&&&mask))
theorem alu_ok {op:Int}(ho:isAtomic op=true){a b:BitVec 64}(hR:R (.tuple #[W (aluF op a b),.bool true]) H):CA en F.word_Alu [I op,.bool true,W a,W b] H R:=by
 have h4:op=0∨op=80∨op=64∨op=160:=by simpa [isAtomic,or_assoc] using ho
 apply vc_word_Alu;have e192:(op==192)=false:=by rcases h4 with rfl|rfl|rfl|rfl<;>rfl
 rw [e192];simp only [cond_false,cond_true];apply vc_word_alu_uint64;refine ⟨show (64:Int)≠0 by decide,?_⟩;rcases h4 with rfl|rfl|rfl|rfl
 ·simp only [show ((0:Int)==0)=true from rfl,cond_true];refine ⟨_,_,rfl,?_⟩;rw [wrap_u64,ofInt_add,ofInt_bv,ofInt_bv];exact hR
 ·simp only [show ((80:Int)==0)=false from rfl,show ((80:Int)==16)=false from rfl,show ((80:Int)==32)=false from rfl,show ((80:Int)==48)=false from rfl,show ((80:Int)==144)=false from rfl,show ((80:Int)==64)=false from rfl,show ((80:Int)==80)=true from rfl,cond_true,cond_false];refine ⟨_,_,rfl,?_⟩;simp only [wrap_u64,ofInt_bv];exact hR
 ·simp only [show ((64:Int)==0)=false from rfl,show ((64:Int)==16)=false from rfl,show ((64:Int)==32)=false from rfl,show ((64:Int)==48)=false from rfl,show ((64:Int)==144)=false from rfl,show ((64:Int)==64)=true from rfl,cond_true,cond_false];refine ⟨_,_,rfl,?_⟩;simp only [wrap_u64,ofInt_bv];exact hR
 ·simp only [show ((160:Int)==0)=false from rfl,show ((160:Int)==16)=false from rfl,show ((160:Int)==32)=false from rfl,show ((160:Int)==48)=false from rfl,show ((160:Int)==144)=false from rfl,show ((160:Int)==64)=false from rfl,show ((160:Int)==80)=false from rfl,show ((160:Int)==160)=true from rfl,cond_true,cond_false];refine ⟨_,_,rfl,?_⟩;simp only [wrap_u64,ofInt_bv];exact hR
theorem fetch_does {X:List Nat}{b0 b1 b2:Nat}{op:Int}{mask v:BitVec 64}(ho:isAtomic op=true)(h0:H.get b0=some (.cells true 0 [I op]))(h1:H.get b1=some (.cells true 0 [W mask]))(h2:H.get b2=some (.cells true 0 [W v]))
  (l0:b0<H.next)(l1:b1<H.next)(l2:b2<H.next)(n0:b0∉X)(n1:b1∉X)(n2:b2∉X) :
  Does H X F.smem_Mem_Fetch_1 [] [P b0,P b1,P b2] (fetchF op mask v):=
 ⟨Option.isSome_iff_exists.1 (by kernel_rfl),λH1 w fr=>by
  have c0:H1.cell b0 0=some (I op):=by rw [cell_of (by rw [fr.2 _ l0 n0];exact h0)];rfl
  have c1:H1.cell b1 0=some (W mask):=by rw [cell_of (by rw [fr.2 _ l1 n1];exact h1)];rfl
  have c2:H1.cell b2 0=some (W v):=by rw [cell_of (by rw [fr.2 _ l2 n2];exact h2)];rfl
  apply vc_smem_Mem_Fetch_1;simp only [asAddr_some];refine ⟨_,c0,_,c1,_,c2,_,c1,?_⟩;simp only [ofInt_bv,wrap_bv];refine alu_ok ho ⟨_,_,rfl,_,c1,?_⟩;exact under_ok ⟨_,rfl,rfl,Frm.refl _ _⟩⟩
theorem access_off (hm:IsMem H m S){h i:Int}{k:Nat}{fs cs:List Value}(f:BitVec 64->BitVec 64)
  (hR:∀H',IsMem H' m (S.acc h i false f).2->Frm (S.foot m) H H'->R (.tuple #[W (S.acc h i false f).1.1,.bool (S.acc h i false f).1.2]) H') :
  CA en F.smem_Mem_access [P m,I h,I i,.bool false,.func (.func k) ⟨fs⟩ ⟨cs⟩] H R:=by
 apply vc_smem_Mem_access;simp only [asAddr_some,Nat.zero_add];refine ⟨S.count,by rw [cell_of hm.base];rfl,?_⟩;refine stc_of' hm.base (by simp [Sm.base]) λH1 e1=>?_
 have hm1:IsMem H1 m S.cnt:=e1▸hm.setBase (S':=S.cnt) rfl rfl rfl;have fr1:Frm [m] H H1:=e1▸(Frm.refl _ _).set _ (by simp);clear e1;refine ⟨some S.mp,by rw [cell_of hm1.base];rfl,?_⟩;refine hm1.look h λr hr=>?_
 have e:(S.acc h i false f)=((0,false),{S.cnt with bads:=wr (S.bads+1)}):=by unfold Sm.acc;split<;>simp
 simp only [Bool.not_false,cond_true];refine ⟨S.bads,by rw [cell_of hm1.base];rfl,?_⟩;refine stc_of hm1.base (by simp [Sm.base]) ?_
 have:=hR (H1.set m (.cells true 0 (setAt S.cnt.base 4 [I (IntKind.i64.wrap (S.bads+1))])))
 rw [e] at this;refine this ?_ ?_
 ·exact hm1.setBase (S':={S.cnt with bads:=wr (S.bads+1)}) rfl rfl rfl
 ·exact (fr1.mono (by simp [Sm.foot])).set _ (by simp [Sm.foot])
theorem Fetch_ok (hm:IsMem H m S){h i op:Int}{mask v:BitVec 64}
  (hR:∀H',IsMem H' m (S.acc h i (isAtomic op) (fetchF op mask v)).2->Frm (S.foot m) H H'->R (.tuple #[W (S.acc h i (isAtomic op) (fetchF op mask v)).1.1,.bool (S.acc h i (isAtomic op) (fetchF op mask v)).1.2]) H') :
  CA en F.smem_Mem_Fetch [P m,I h,I i,I op,W mask,W v] H R:=by
 apply vc_smem_Mem_Fetch;have fr:Frm [] H (((H.new (.cells true 0 [I op])).new (.cells true 0 [W mask])).new (.cells true 0 [W v])):=(((Frm.refl _ _).new _).new _).new _;have hm1:=hm.frm' fr;have hne:∀j∈[m],j<H.next:=by
  intro j hj;simp only [List.mem_singleton] at hj;subst hj;exact hm.lt _ (by simp [Sm.foot])
 have g0:(((H.new (.cells true 0 [I op])).new (.cells true 0 [W mask])).new (.cells true 0 [W v])).get H.next=some (.cells true 0 [I op]):=by
  rw [get_new_lt (by simp [next_new];omega),get_new_lt (by simp [next_new]),get_new_self]
 have g1:(((H.new (.cells true 0 [I op])).new (.cells true 0 [W mask])).new (.cells true 0 [W v])).get (H.new (.cells true 0 [I op])).next=some (.cells true 0 [W mask]):=by
  rw [get_new_lt (by simp [next_new]),get_new_self]
 have g2:(((H.new (.cells true 0 [I op])).new (.cells true 0 [W mask])).new (.cells true 0 [W v])).get ((H.new (.cells true 0 [I op])).new (.cells true 0 [W mask])).next=some (.cells true 0 [W v]):=get_new_self _ _;have c0:(((H.new (.cells true 0 [I op])).new (.cells true 0 [W mask])).new (.cells true 0 [W v])).cell H.next 0=some (I op):=by rw [cell_of g0];rfl
 have out:∀may,may=isAtomic op->CA en F.smem_Mem_access [P m,I h,I i,.bool may,.func (.func F.smem_Mem_Fetch_1) #[] #[P H.next,P (H.new (.cells true 0 [I op])).next,P ((H.new (.cells true 0 [I op])).new (.cells true 0 [W mask])).next]]
   (((H.new (.cells true 0 [I op])).new (.cells true 0 [W mask])).new (.cells true 0 [W v])) λv1 H2=>∃n4 b5,v1=Value.tuple #[.int .u64 n4,.bool b5]/\R (.tuple #[.int .u64 n4,.bool b5]) H2:=by
  rintro may rfl;cases ho:isAtomic op with
  |true=>
   refine access_ok hm1 (fetch_does (op:=op) (mask:=mask) (v:=v) ho g0 g1 g2 ?_ ?_ ?_ ?_ ?_ ?_) λH' hm' fr'=>?_
   ·simp only [next_new];omega
   ·simp only [next_new];omega
   ·simp only [next_new];omega
   ·intro hx;have:=hne _ hx;omega
   ·intro hx;have:=hne _ hx;simp only [next_new] at this;omega
   ·intro hx;have:=hne _ hx;simp only [next_new] at this;omega
   ·have:=hR H'
    rw [ho] at this;exact ⟨_,_,rfl,this hm' ((Frm.mono (S':=S.foot m) fr (by simp)).trans fr' λj hj=>.inl hj)⟩
  |false=>
   refine access_off hm1 (fetchF op mask v) λH' hm' fr'=>?_
   have:=hR H'
   rw [ho] at this;exact ⟨_,_,rfl,this hm' ((Frm.mono (S':=S.foot m) fr (by simp)).trans fr' λj hj=>.inl hj)⟩
 refine ⟨_,c0,cond_of (λh0=>out true ?_) λh0=>⟨_,c0,cond_of (λh1=>out true ?_) λh1=>⟨_,c0,cond_of (λh2=>out true ?_) λh2=>⟨_,c0,out _ ?_⟩⟩⟩⟩
 ·simp [isAtomic,h0]
 ·simp [isAtomic,h1]
 ·simp [isAtomic,h2]
 ·simp [isAtomic,h0,h1,h2]
theorem New_ok {room:Int}(hR:∀H' m mp,H.next<=m->IsMem H' m ⟨mp,0,[],0,if (if 65536<room then 65536 else room)>0 then (if 65536<room then 65536 else room) else 0,0,0⟩->Frm [] H H'->H.next<=mp->R (P m) H') :
  CA en F.smem_New [I room] H R:=by
 apply vc_smem_New;refine hR _ (H.new (.map [] 0)).next H.next (by simp [next_new]) ⟨?_,?_,by simp,?_,?_,by simp⟩ (((Frm.refl _ _).new _).new _) (Nat.le_refl _)
 ·rw [get_new_self];rfl
 ·rw [get_new_lt (by simp [next_new]),get_new_self];rfl
 ·simp [Sm.foot,next_new]
 ·intro j hj;simp only [Sm.foot,List.map_nil,List.mem_cons,List.not_mem_nil,or_false,next_new] at hj⊢;omega
theorem Bad_ok (hm:IsMem H m S)(hR:R (I S.bads) H):CA en F.smem_Mem_Bad [P m] H R:=by
 apply vc_smem_Mem_Bad;simp only [asAddr_some,Nat.zero_add];exact ⟨_,by rw [cell_of hm.base];rfl,hR⟩
theorem Count_ok (hm:IsMem H m S)(hR:R (I S.count) H):CA en F.smem_Mem_Count [P m] H R:=by
 apply vc_smem_Mem_Count;simp only [asAddr_some,Nat.zero_add];exact ⟨_,by rw [cell_of hm.base];rfl,hR⟩
theorem Room_ok (hm:IsMem H m S)(hR:R (I S.room) H):CA en F.smem_Mem_Room [P m] H R:=by
 apply vc_smem_Mem_Room;simp only [asAddr_some,Nat.zero_add];exact ⟨_,by rw [cell_of hm.base];rfl,hR⟩
theorem Live_ok (hm:IsMem H m S)(hR:R (I S.regs.length) H):CA en F.smem_Mem_Live [P m] H R:=by
 apply vc_smem_Mem_Live;simp only [asAddr_some,Nat.zero_add];refine ⟨some S.mp,by rw [cell_of hm.base];rfl,_,entries_of hm.map,?_⟩;rw [List.length_map];exact hR
theorem Size_ok (hm:IsMem H m S){h:Int}(hR:R (I (S.size h)) H):CA en F.smem_Mem_Size [P m,I h] H R:=by
 apply vc_smem_Mem_Size;simp only [asAddr_some,Nat.zero_add];refine ⟨some S.mp,by rw [cell_of hm.base];rfl,?_⟩;refine hm.look h (K:=λ_ _ l=>R (I l) H) λr hr=>?_
 have:lenOf (S.find h)=S.size h:=by unfold Sm.size lenOf;split<;>rfl
 rw [this];exact hR
theorem reps_one (n:Nat)(v:Value):reps n [v]=List.replicate n v:=by
 induction n with
 |zero=>rfl
 |succ n ih=>simp [reps,List.replicate_succ,ih]
def Sm.mk' (S:Sm)(b:Nat)(n:Nat):Sm:=
 {S with made:=wr (S.made+1),room:=wr (S.room - n),cl:=S.cl+1,regs:=S.regs++[⟨wr (S.made+1),b,S.cl,List.replicate n 0⟩]}
theorem find_none {h:Int}(hf:S.find h=none):∀r∈S.regs,r.h≠h:=by
 unfold Sm.find at hf;intro r hr
 have:=List.find?_eq_none.1 hf r hr
 simpa using this
theorem Make_bad (hm:IsMem H m S){n:Int}(hn:n<1∨65536<n)(hR:R (.tuple #[I 0,I 1]) H):CA en F.smem_Mem_Make [P m,I n] H R:=by
 apply vc_smem_Mem_Make;refine cond_of (λ_=>hR) λh1=>cond_of (λ_=>hR) λh2=>?_
 simp only [decide_eq_false_iff_not,gt_iff_lt] at h1 h2;omega
theorem Make_full (hm:IsMem H m S){n:Int}(hn:1<=n/\n<=65536)(hr:S.room<n)(hR:R (.tuple #[I 0,I 5]) H):CA en F.smem_Mem_Make [P m,I n] H R:=by
 apply vc_smem_Mem_Make;refine cond_of (λh1=>?_) λh1=>cond_of (λh2=>?_) λh2=>?_
 ·simp only [decide_eq_true_eq] at h1;omega
 ·simp only [decide_eq_true_eq] at h2;omega
 simp only [asAddr_some,Nat.zero_add];refine ⟨S.room,by rw [cell_of hm.base];rfl,?_⟩;refine cond_of (λ_=>hR) λh3=>?_
 simp only [decide_eq_false_iff_not] at h3;omega
theorem Make_good (hm:IsMem H m S){n:Int}(hn:1<=n/\n<=65536)(hr:n<=S.room)(hf:S.find (wr (S.made+1))=none)
  (hR:∀H' b,H.next<=b->IsMem H' m (S.mk' b n.toNat)->Frm (S.foot m) H H'->R (.tuple #[I (wr (S.made+1)),I 0]) H'):CA en F.smem_Mem_Make [P m,I n] H R:=by
 have hnd:=hm.nodup;simp only [Sm.foot,List.nodup_cons,List.mem_cons,List.mem_map,not_or,not_exists,not_and] at hnd;apply vc_smem_Mem_Make;refine cond_of (λh1=>?_) λh1=>cond_of (λh2=>?_) λh2=>?_
 ·simp only [decide_eq_true_eq] at h1;omega
 ·simp only [decide_eq_true_eq] at h2;omega
 simp only [asAddr_some,Nat.zero_add];refine ⟨S.room,by rw [cell_of hm.base];rfl,?_⟩;refine cond_of (λh3=>?_) λh3=>?_
 ·simp only [decide_eq_true_eq] at h3;omega
 refine ⟨S.made,by rw [cell_of hm.base];rfl,?_⟩;refine stc_of' hm.base (by simp [Sm.base]) λH9 e9=>?_
 have hm9:IsMem H9 m {S with made:=wr (S.made+1)}:=e9▸hm.setBase (S':={S with made:=wr (S.made+1)}) rfl rfl rfl;have fr9:Frm [m] H H9:=e9▸(Frm.refl _ _).set _ (by simp);clear e9;refine ⟨S.room,by rw [cell_of hm9.base];rfl,?_⟩;refine stc_of' hm9.base (by simp [Sm.base]) λH15 e15=>?_
 have hm15:IsMem H15 m {S with made:=wr (S.made+1),room:=wr (S.room - n)}:=e15▸hm9.setBase (S':={S with made:=wr (S.made+1),room:=wr (S.room - n)}) rfl rfl rfl;have fr15:Frm [m] H H15:=e15▸fr9.set _ (by simp);clear e15 hm9 fr9;have c0:H15.cell m 0=some (.map (some S.mp)):=by rw [cell_of hm15.base];rfl
 have c1:H15.cell m 1=some (I (wr (S.made+1))):=by rw [cell_of hm15.base];rfl
 have hlt:m<H15.next:=hm15.lt m (by simp [Sm.foot]);have hmp:S.mp<H15.next:=hm15.lt S.mp (by simp [Sm.foot]);have cn:∀o i,((H15.bump 11).new o).cell m i=H15.cell m i:=by
  intro o i;unfold Heap.cell;rw [get_new_lt (by rw [next_bump];omega),get_bump]
 refine ⟨_,by rw [cell_bump];exact c0,_,by rw [cell_bump];exact c1,⟨by omega,Int.le_refl _,by omega⟩,?_⟩;have hmap:((H15.bump 11).new (.cells true 1 (reps n.toNat [.int .u64 0]))).get S.mp=some (.map (S.regs.map Reg.ent) S.cl):=by
  rw [get_new_lt (by rw [next_bump];omega),get_bump];exact hm15.map
 have hfn:Instr.findNow (.int .i64) (I (wr (S.made+1))) (S.regs.map Reg.ent) 0=some none:=by
  have e:=findNow_int Reg.h (λr=>Value.slice (some ⟨r.b,0,none⟩) r.ws.length 0) Reg.born .i64 (wr (S.made+1)) S.regs 0;have e2:(S.regs.findIdx? λa=>a.h==wr (S.made+1))=none:=by
   rw [List.findIdx?_eq_none_iff];intro r hr;simpa using find_none hf r hr
  rw [e2] at e;exact e
 refine ⟨S.mp,_,_,none,rfl,hmap,hfn,?_⟩;have hnew:IsMem (((H15.bump 11).new (.cells true 1 (reps n.toNat [.int .u64 0]))).set S.mp (putMap (S.regs.map Reg.ent) S.cl none (I (wr (S.made+1))) (.slice (some ⟨(H15.bump 11).next,0,none⟩) n.toNat 0))) m (S.mk' (H15.bump 11).next n.toNat):=by
  have hfoot:(S.mk' (H15.bump 11).next n.toNat).foot m=S.foot m++[(H15.bump 11).next]:=by simp [Sm.foot,Sm.mk']
  have old:∀j∈S.foot m,j<H15.next:=λj hj=>hm15.lt j hj
  refine ⟨?_,?_,λr hr=>?_,?_,λj hj=>?_,?_⟩
  ·rw [get_set_ne (λe=>hnd.1.1 e),get_new_lt (by rw [next_bump];omega),get_bump,hm15.base]
   have:((n.toNat:Nat):Int)=n:=by omega
   simp [Sm.base,Sm.mk',this]
  ·show Heap.get _ S.mp=_;rw [get_set_self];simp [putMap,Sm.mk',Reg.ent,AS.ent]
  ·simp only [Sm.mk',List.mem_append,List.mem_singleton] at hr;rcases hr with hr|rfl
   ·have hb:r.b<H15.next:=old _ (by simp only [Sm.foot,List.mem_cons,List.mem_map];exact .inr (.inr ⟨r,hr,rfl⟩));rw [get_set_ne (λe=>hnd.2.1 r hr e),get_new_lt (by rw [next_bump];omega),get_bump,hm15.rows r hr]
   ·show Heap.get _ (H15.bump 11).next=_;rw [get_set_ne (by rw [next_bump];omega),get_new_self,reps_one];simp [Reg.cells]
  ·rw [hfoot];refine List.nodup_append.2 ⟨hm.nodup,by simp,?_⟩;intro a ha b hb;simp only [List.mem_singleton] at hb;subst hb
   have:=old a ha
   rw [next_bump];omega
  ·rw [hfoot] at hj;simp only [List.mem_append,List.mem_singleton] at hj;rw [next_set,next_new];rcases hj with hj|rfl
   ·have:=old j hj;rw [next_bump];omega
   ·omega
  ·simp only [Sm.mk',List.map_append,List.map_cons,List.map_nil];refine List.nodup_append.2 ⟨hm.keys,by simp,?_⟩;intro a ha b hb;simp only [List.mem_singleton] at hb;subst hb;obtain ⟨r,hr,rfl⟩:=List.mem_map.1 ha;exact find_none hf r hr
 refine ⟨⟨wr (S.made+1),?_,?_⟩,⟨⟨_,by rw [cell_bump];exact c1,rfl⟩,⟨_,by rw [cn];exact c1,rfl⟩,trivial⟩,⟨⟨_,by rw [cell_bump];exact c0,rfl⟩,⟨_,by rw [cn];exact c0,rfl⟩,trivial⟩,trivial⟩
 ·rw [cell_of hnew.base];rfl
 ·refine hR _ _ ?_ hnew ?_
  ·rw [next_bump];have:=fr15.1;omega
  ·exact (((fr15.mono (by simp [Sm.foot])).bump 11).new _).set _ (by simp [Sm.foot])
end
section
variable {H H':Heap} {m:Nat} {S S':Sm} {R:Value->Heap->Prop} {L:List Asr}
def mem (m:Nat)(S:Sm):Asr:=
 ⟨S.foot m,λH=>H.get m=some (.cells true 0 S.base)/\H.get S.mp=some (.map (S.regs.map Reg.ent) S.cl)/\(∀r∈S.regs,H.get r.b=some (.cells true 1 r.cells))/\(S.regs.map Reg.h).Nodup,
  λh k=>⟨by rw [h m (by simp [Sm.foot])];exact k.1,by rw [h S.mp (by simp [Sm.foot])];exact k.2.1,λr hr=>by rw [h r.b (by simp only [Sm.foot,List.mem_cons,List.mem_map];exact .inr (.inr ⟨r,hr,rfl⟩))];exact k.2.2.1 r hr,k.2.2.2⟩⟩
theorem isMem (h:Sep H (mem m S::L)):IsMem H m S:=
 ⟨h.head.1,h.head.2.1,h.head.2.2.1,h.footnd,λj hj=>h.footlt hj,h.head.2.2.2⟩
theorem sepMem (h:Sep H (mem m S::L))(hm:IsMem H' m S')(fr:Frm (S.foot m) H H')(hf:∀j∈S'.foot m,j∈S.foot m∨H.next<=j):Sep H' (mem m S'::L):=
 h.upd fr (λj hj=>.inl hj) ⟨hm.base,hm.map,hm.rows,hm.keys⟩ hf hm.nodup hm.lt
theorem sepAcc (h:Sep H (mem m S::L)){a i:Int}{may:Bool}{f:BitVec 64->BitVec 64}(hm:IsMem H' m (S.acc a i may f).2)(fr:Frm (S.foot m) H H'):Sep H' (mem m (S.acc a i may f).2::L):=
 sepMem h hm fr λj hj=>.inl (by rw [acc_foot] at hj;exact hj)
theorem load_s (h:Sep H (mem m S::L)){a i:Int}(hR:∀H',Sep H' (mem m (S.acc a i true id).2::L)->R (.tuple #[W (S.acc a i true id).1.1,.bool (S.acc a i true id).1.2]) H'):CA en F.smem_Mem_Load [P m,I a,I i] H R:=
 Load_ok (isMem h) λH' hm fr=>hR H' (sepAcc h hm fr)
theorem store_s (h:Sep H (mem m S::L)){a i:Int}{v:BitVec 64}
  (hR:∀H',Sep H' (mem m (S.acc a i true λ_=>v).2::L)->R (.bool (S.acc a i true λ_=>v).1.2) H'):CA en F.smem_Mem_Store [P m,I a,I i,W v] H R:=
 Store_ok (isMem h) λH' hm fr=>hR H' (sepAcc h hm fr)
theorem fetch_s (h:Sep H (mem m S::L)){a i op:Int}{mask v:BitVec 64}
  (hR:∀H',Sep H' (mem m (S.acc a i (isAtomic op) (fetchF op mask v)).2::L)->R (.tuple #[W (S.acc a i (isAtomic op) (fetchF op mask v)).1.1,.bool (S.acc a i (isAtomic op) (fetchF op mask v)).1.2]) H') :
  CA en F.smem_Mem_Fetch [P m,I a,I i,I op,W mask,W v] H R:=
 Fetch_ok (isMem h) λH' hm fr=>hR H' (sepAcc h hm fr)
theorem room_s (h:Sep H (mem m S::L))(hR:R (I S.room) H):CA en F.smem_Mem_Room [P m] H R:=Room_ok (isMem h) hR
theorem live_s (h:Sep H (mem m S::L))(hR:R (I S.regs.length) H):CA en F.smem_Mem_Live [P m] H R:=Live_ok (isMem h) hR
theorem count_s (h:Sep H (mem m S::L))(hR:R (I S.count) H):CA en F.smem_Mem_Count [P m] H R:=Count_ok (isMem h) hR
theorem bad_s (h:Sep H (mem m S::L))(hR:R (I S.bads) H):CA en F.smem_Mem_Bad [P m] H R:=Bad_ok (isMem h) hR
theorem size_s (h:Sep H (mem m S::L)){a:Int}(hR:R (I (S.size a)) H):CA en F.smem_Mem_Size [P m,I a] H R:=Size_ok (isMem h) hR
def clampRoom (room:Int):Int:=if (if 65536<room then 65536 else room)>0 then (if 65536<room then 65536 else room) else 0
theorem clampRoom_eq (room:Int):clampRoom room=max 0 (min room 65536):=by unfold clampRoom;split<;>split<;>omega
def newSm (mp:Nat)(room:Int):Sm:=⟨mp,0,[],0,clampRoom room,0,0⟩
theorem new_s (h:Sep H L){room:Int}(hR:∀H' m mp,Sep H' (mem m (newSm mp room)::L)->R (P m) H'):CA en F.smem_New [I room] H R:=
 New_ok λH' m mp h1 hm fr h2=>hR H' m mp (by
  have h0:Sep H ((⟨[],λ_=>True,λ_ _=>trivial⟩:Asr)::L):=⟨λA hA=>by
    rcases List.mem_cons.1 hA with rfl|hA
    ·trivial
    ·exact h.all A hA,by rw [feet_cons];exact h.nd,λi hi=>h.lt i (by rw [feet_cons] at hi;exact hi)⟩
  refine h0.upd (B:=mem m (newSm mp room)) fr (by simp) ⟨hm.base,hm.map,hm.rows,hm.keys⟩ (λj hj=>.inr ?_) hm.nodup hm.lt
  simp only [mem,newSm,Sm.foot,List.map_nil,List.mem_cons,List.not_mem_nil,or_false] at hj
  omega)
def Sm.make (S:Sm)(b:Nat)(n:Int):(Int×Int)×Sm:=
 if n<1∨65536<n then ((0,1),S) else if S.room<n then ((0,5),S) else ((wr (S.made+1),0),S.mk' b n.toNat)
theorem make_s (h:Sep H (mem m S::L)){n:Int}(hf:1<=n->n<=65536->n<=S.room->S.find (wr (S.made+1))=none)
  (hR:∀H' b,Sep H' (mem m (S.make b n).2::L)->R (.tuple #[I (S.make b n).1.1,I (S.make b n).1.2]) H'):CA en F.smem_Mem_Make [P m,I n] H R:=by
 by_cases h1:n<1∨65536<n
 ·have:=hR H 0
  unfold Sm.make at this;rw [if_pos h1] at this;exact Make_bad (isMem h) h1 (this h)
 ·by_cases h2:S.room<n
  ·have:=hR H 0
   unfold Sm.make at this;rw [if_neg h1,if_pos h2] at this;exact Make_full (isMem h) (by omega) h2 (this h)
  ·refine Make_good (isMem h) (by omega) (by omega) (hf (by omega) (by omega) (by omega)) λH' b hb hm fr=>?_
   have:=hR H' b
   unfold Sm.make at this;rw [if_neg h1,if_neg h2] at this;refine this (sepMem h hm fr λj hj=>?_);simp only [Sm.foot,Sm.mk',List.map_append,List.map_cons,List.map_nil,List.mem_cons,List.mem_append,List.not_mem_nil,or_false] at hj⊢;rcases hj with rfl|rfl|hj|rfl
   ·exact .inl (.inl rfl)
   ·exact .inl (.inr (.inl rfl))
   ·exact .inl (.inr (.inr hj))
   ·exact .inr hb
def Sm.free (S:Sm)(a:Int):Bool×Sm:=
 ((S.find a).isSome,{S with room:=wr (S.room+S.size a),regs:=S.regs.filter λr=>r.h !=a})
theorem eraseIdx_map' {α β:Type}(f:α->β):∀(l:List α)(j:Nat),(l.map f).eraseIdx j=(l.eraseIdx j).map f
 |[],_=>rfl
 |_::_,0=>rfl
 |a::l,j+1=>by simp only [List.map_cons,List.eraseIdx_cons_succ,eraseIdx_map' f l j]
theorem eraseIdx_filter:∀{l:List Reg}{a:Int}{j:Nat},(l.map Reg.h).Nodup->(l.findIdx? λr=>r.h==a)=some j->l.eraseIdx j=l.filter λr=>r.h !=a
 |[],a,j,_,h=>by simp at h
 |r::l,a,j,hn,h=>by
  rw [List.findIdx?_cons] at h;simp only [List.map_cons,List.nodup_cons] at hn;cases hr:r.h==a with
  |true=>
   rw [hr] at h;simp only [if_true,Option.some.injEq] at h;subst h;have ha:r.h=a:=by simpa using hr
   have e:(r.h !=a)=false:=by simp [ha]
   rw [List.eraseIdx_cons_zero,List.filter_cons,e];simp only [Bool.false_eq_true,if_false];refine (List.filter_eq_self.2 λq hq=>?_).symm;simp only [bne_iff_ne,ne_eq];intro e;exact hn.1 (by rw [ha,<-e];exact List.mem_map.2 ⟨q,hq,rfl⟩)
  |false=>
   rw [hr] at h;simp only [Bool.false_eq_true,if_false,Option.map_eq_some_iff] at h;obtain ⟨k,hk,rfl⟩:=h;have e:(r.h !=a)=true:=by simpa [bne] using hr
   rw [List.eraseIdx_cons_succ,List.filter_cons,e,if_pos rfl,eraseIdx_filter hn.2 hk]
theorem free_s (h:Sep H (mem m S::L)){a:Int}(hR:∀H',Sep H' (mem m (S.free a).2::L)->R (.bool (S.free a).1) H'):CA en F.smem_Mem_Free [P m,I a] H R:=by
 have hm:=isMem h;apply vc_smem_Mem_Free;simp only [asAddr_some,Nat.zero_add];refine ⟨some S.mp,by rw [cell_of hm.base];rfl,?_⟩;refine hm.look a λr hr=>?_
 have hsz:lenOf (S.find a)=S.size a:=by unfold Sm.size lenOf;split<;>rfl
 refine ⟨S.room,by rw [cell_of hm.base];rfl,?_⟩;refine stc_of' hm.base (by simp [Sm.base]) λH1 e1=>?_
 have hm1:IsMem H1 m {S with room:=wr (S.room+S.size a)}:=by
  subst e1
  have:=hm.setBase (S':={S with room:=wr (S.room+S.size a)}) rfl rfl rfl
  rw [hsz];exact this
 have fr1:Frm (S.foot m) H H1:=by subst e1;exact (Frm.refl _ _).set _ (by simp [Sm.foot])
 clear e1;refine ⟨some S.mp,by rw [cell_of hm1.base];rfl,?_⟩;have hfn:=findNow_int Reg.h (λr=>Value.slice (some ⟨r.b,0,none⟩) r.ws.length 0) Reg.born .i64 a S.regs 0;refine ⟨S.mp,_,_,_,rfl,hm1.map,hfn,?_⟩;have nd:=hm.nodup;simp only [Sm.foot,List.nodup_cons,List.mem_cons,List.mem_map,not_or,not_exists,not_and] at nd;have hnew:IsMem (H1.set S.mp (delMap (S.regs.map Reg.ent) S.cl ((S.regs.findIdx? λr=>r.h==a).map λj=>(0+j,((S.regs[j]?).map λr=>Value.slice (some ⟨r.b,0,none⟩) r.ws.length 0).getD undef)))) m (S.free a).2:=by
  have sub:∀r∈(S.free a).2.regs,r∈S.regs:=λr hr=>by
   simp only [Sm.free] at hr;exact (List.mem_filter.1 hr).1
  have fsub:List.Sublist ((S.free a).2.foot m) (S.foot m):=by
   simp only [Sm.foot,Sm.free];exact ((List.filter_sublist (l:=S.regs)).map Reg.b).cons_cons _ |>.cons_cons _
  refine ⟨?_,?_,λr hr=>?_,hm.nodup.sublist fsub,λj hj=>?_,hm.keys.sublist ?_⟩
  ·rw [get_set_ne (λe=>nd.1.1 e)];exact hm1.base
  ·show Heap.get _ S.mp=_;rw [get_set_self];cases hx:S.regs.findIdx? λr=>r.h==a with
   |none=>
    have e:(S.regs.filter λr=>r.h !=a)=S.regs:=List.filter_eq_self.2 λq hq=>by
     have:=List.findIdx?_eq_none_iff.1 hx q hq
     simpa [bne] using this
    simp [delMap,Sm.free,e]
   |some j=>
    have e:=eraseIdx_filter hm.keys hx;have e3:(S.regs.map Reg.ent).eraseIdx j=(S.regs.eraseIdx j).map Reg.ent:=by exact (eraseIdx_map' _ _ _)
    simp only [Option.map_some,delMap,Sm.free,Nat.zero_add];rw [e3,e]
  ·rw [get_set_ne (λe=>nd.2.1 r (sub r hr) e)];exact hm1.rows r (sub r hr)
  ·rw [next_set];exact Nat.lt_of_lt_of_le (hm.lt j (fsub.mem hj)) fr1.1
  ·simp only [Sm.free];exact (List.filter_sublist (l:=S.regs)).map Reg.h
 have:=hR _ (sepMem h hnew (fr1.set _ (by simp [Sm.foot])) λj hj=>.inl (by
  simp only [Sm.foot,Sm.free,List.mem_cons,List.mem_map,List.mem_filter] at hj⊢;rcases hj with h1|h1|⟨r,h1,h2⟩
  ·exact .inl h1
  ·exact .inr (.inl h1)
  ·exact .inr (.inr ⟨r,h1.1,h2⟩)))
 have e:r.isSome=(S.free a).1:=hr;rw [e];exact this
end
end Go.Proofs.YtjggeoghlicmdaaGreat
namespace Go.AS
open Go.RowKit
section
variable {H H':Heap} {L:List Asr}
def addr (b:Option Nat):Option Addr:=b.map λi=>⟨i,0,none⟩
def gl (es:Nat)(b:Option Nat)(cs:List Value):Asr:=many (match b with|none=>[]|some b=>[bx b (.cells true es cs)])
theorem gl_some {es b:Nat}{cs:List Value}:Sep H (gl es (some b) cs::L)↔Sep H (bx b (.cells true es cs)::L):=Sep.many_iff
theorem gl_none {es:Nat}{cs:List Value}:Sep H (gl es none cs::L)↔Sep H L:=Sep.many_iff
theorem takeAt_all' (c:List Value):takeAt c 0 c.length=some c:=by simp [takeAt]
theorem gl_get {es b:Nat}{cs:List Value}(h:Sep H (gl es (some b) cs::L)):H.get b=some (.cells true es cs):=Sep.get0 (gl_some.1 h)
theorem apd_gl {es:Nat}{b:Option Nat}{cs new:List Value}{bytes len n:Nat}{K:Option Addr->Nat->Heap->Prop}(h:Sep H (gl es b cs::L))(hb:b=none->cs=[])(hes:0<es)(hlen:cs.length=len*es)(hn:0<n)
  (hnew:new.length=n*es)(hby:(len+n)*bytes<=140737488355328)(k:∀H' q,Sep H' (gl es (some q) (cs++new)::L)->K (addr (some q)) (len+n) H'):apd H bytes es (addr b) len n new K:=by
 cases b with
 |none=>
  have hc:=hb rfl;subst hc;have hl:len=0:=by
   simp only [List.length_nil] at hlen;rcases Nat.eq_zero_or_pos len with h1|h1
   ·exact h1
   ·have:0<len*es:=Nat.mul_pos h1 hes
    omega
  subst hl;rw [Nat.zero_add] at hby
  refine apd_first hn hby λj H2 ej e2=>?_
  have:=k H2 j
  rw [Nat.zero_add,List.nil_append] at this;refine this (gl_some.2 ?_);subst ej e2;exact (gl_none.1 h).new _
 |some b=>
  have h1:=gl_some.1 h;refine apd_grow (Sep.get0 h1) hn ?_ (by rw [<-hlen];exact takeAt_all' _) hby λj H2 ej e2=>?_
  ·rw [hlen,Nat.zero_add,Nat.add_mul]
   have:0<n*es:=Nat.mul_pos hn hes
   omega
  ·refine k H2 j (gl_some.2 ?_);have h2:=(Sep.put0 h1 .dead).new (.cells true es (cs++new));rw [<-e2,next_set,<-ej] at h2;exact Sep.rm1 h2
theorem rowOf_bx {es b n:Nat}{w:Bool}{z:Nat}{c cs:List Value}(hg:H.get b=some (.cells w z c))(hn:0<n*es)(hc:takeAt c 0 (n*es)=some cs):rowOf H es (some ⟨b,0,none⟩) n=some cs:=by
 show (if n*es=0 then some [] else match H.get b with|some (.cells _ _ c)=>takeAt c 0 (n*es)|_=>none)=some cs;rw [if_neg (by omega),hg];exact hc
end
section
variable {H:Heap} {L:List Asr}
theorem words_of:∀(css:List (List Value)),(∀c∈css,∃n:Int,c=[.int .u64 n]/\(Lit.int .u64 n).wf=true)->∃l:List (BitVec 64),css=l.map λv=>[W v]
 |[],_=>⟨[],rfl⟩
 |c::css,h=>by
  obtain ⟨n,rfl,hn⟩:=h c (by simp)
  obtain ⟨w,rfl⟩:=word_of hn
  obtain ⟨l,rfl⟩:=words_of css λc hc=>h c (List.mem_cons_of_mem _ hc)
  exact ⟨w::l,rfl⟩
theorem numbers_of:∀(css:List (List Value)),(∀c∈css,∃n:Int,c=[.int .i64 n]/\(Lit.int .i64 n).wf=true)->∃l:List Int,css=l.map λv=>[.int .i64 v]
 |[],_=>⟨[],rfl⟩
 |c::css,h=>by
  obtain ⟨n,rfl,hn⟩:=h c (by simp)
  obtain ⟨l,rfl⟩:=numbers_of css λc hc=>h c (List.mem_cons_of_mem _ hc)
  exact ⟨n::l,rfl⟩
theorem wmap_len (l:List (BitVec 64)):∀c∈l.map (λv=>[W v]),c.length=1:=by
 intro c hc;obtain ⟨v,_,rfl⟩:=List.mem_map.1 hc;rfl
theorem Sep.fore {i:Nat}(o:Obj)(h:Sep H L)(hi:i<H.next)(hn:i∉feet L):Sep (H.set i o) (bx i o::L):=by
 refine ⟨λA hA=>?_,?_,λj hj=>?_⟩
 ·rcases List.mem_cons.1 hA with rfl|hA
  ·exact get_set_self _ _ _
  ·refine A.loc (λj hj=>?_) (h.all A hA)
   have:j∈feet L:=List.mem_flatMap.2 ⟨A,hA,hj⟩
   exact get_set_ne λe=>hn (e▸this)
 ·rw [feet_cons];refine List.nodup_append.2 ⟨by simp [bx],h.nd,λa ha b hb e=>?_⟩;simp only [bx,List.mem_singleton] at ha;exact hn (ha▸e▸hb)
 ·rw [feet_cons] at hj;rcases List.mem_append.1 hj with h1|h1
  ·simp only [bx,List.mem_singleton] at h1;rw [h1];exact hi
  ·exact h.lt j h1
theorem Sep.fore1 (h:Sep H L){n a:Nat}(o1:Obj)(ha:a<n):Sep ((H.bump n).set (H.next+a) o1) (bx (H.next+a) o1::L):=
 Sep.fore o1 (h.bump n) (by rw [next_bump];omega) λhc=>by have:=h.lt _ hc;omega
end
section
variable {H H':Heap} {L:List Asr} {ik:IntKind} {b:Nat} {l:List (Int×Value)} {k:Int} {v:Value}
abbrev KV:=List (Int×Value)
def alook:KV->Int->Option Value
 |[],_=>Option.none
 |(a,u)::l,k=>if a=k then Option.some u else alook l k
def aput:KV->Int->Value->KV
 |[],k,v=>[(k,v)]
 |(a,u)::l,k,v=>if a=k then (k,v)::l else (a,u)::aput l k v
def adel:KV->Int->KV
 |[],_=>[]
 |(a,u)::l,k=>if a=k then l else (a,u)::adel l k
def kvs (es:List MapEntry):List (Value×Value):=es.map λe=>(e.key,e.val)
def ivs (ik:IntKind)(l:KV):List (Value×Value):=l.map λp=>(.int ik p.1,p.2)
def im (ik:IntKind)(b:Nat)(l:KV):Asr:=
 ⟨[b],λH=>∃es c,H.get b=Option.some (.map es c)/\kvs es=ivs ik l,λh ⟨es,c,h1,h2⟩=>⟨es,c,by rw [h _ (by simp)];exact h1,h2⟩⟩
theorem find_kv (v:Value):∀(es:List MapEntry)(l:KV)(i:Nat),kvs es=ivs ik l->
  ∃r,Instr.findNow (.int ik) (.int ik k) es i=Option.some r/\(match r with
   |Option.none=>alook l k=Option.none/\aput l k v=l++[(k,v)]/\adel l k=l
   |Option.some (n,u)=>alook l k=Option.some u/\∃j,n=i+j/\kvs (es.modify j λe=>{e with key:=.int ik k,val:=v})=ivs ik (aput l k v)/\kvs (es.eraseIdx j)=ivs ik (adel l k))
 |[],[],i,_=>⟨Option.none,by simp [Instr.findNow],rfl,rfl,rfl⟩
 |[],_::_,i,h=>by simp [kvs,ivs] at h
 |_::_,[],i,h=>by simp [kvs,ivs] at h
 |e::es,(a,u)::l,i,h=>by
  simp only [kvs,ivs,List.map_cons,List.cons.injEq,Prod.mk.injEq] at h;have⟨⟨h1,h2⟩,h3⟩:=h;have es':Instr.sameNow (.int ik) (.int ik k) e.key=Option.some (k==a):=by rw [h1];simp [Instr.sameNow]
  simp only [Instr.findNow,es'];by_cases hk:k=a
  ·subst hk;refine ⟨Option.some (i,e.val),by simp,?_,0,rfl,?_,?_⟩
   ·simp [alook,h2]
   ·simp only [List.modify_zero_cons,kvs,List.map_cons,aput,if_true,ivs,List.cons.injEq,true_and];exact h3
   ·simp only [List.eraseIdx_cons_zero,adel,if_true];exact h3
  ·have hb:(k==a)=false:=by simpa using hk
   have ha:¬a=k:=λh=>hk h.symm
   rw [hb];have⟨r,r1,r2⟩:=find_kv v es l (i+1) h3;refine ⟨r,r1,?_⟩;cases r with
   |none=>
    have⟨e1,e2,e3⟩:=r2;simp only [alook,aput,adel,if_neg ha];exact ⟨e1,by rw [e2];rfl,by rw [e3]⟩
   |some p=>
    have⟨n,w⟩:=p;have⟨e1,j,e2,e3,e4⟩:=r2;simp only [alook,aput,adel,if_neg ha];refine ⟨e1,j+1,by omega,?_,?_⟩
    ·simp only [List.modify_succ_cons,kvs,ivs,List.map_cons,List.cons.injEq,Prod.mk.injEq];exact ⟨⟨h1,h2⟩,e3⟩
    ·simp only [List.eraseIdx_cons_succ,kvs,ivs,List.map_cons,List.cons.injEq,Prod.mk.injEq];exact ⟨⟨h1,h2⟩,e4⟩
theorem im_look (h:Sep H (im ik b l::L))(k:Int){K:Option (Nat×Value)->Prop}(hK:∀r,r.map (·.2)=alook l k->K r):∃r,mapGet H (.int ik) (Option.some b) (.int ik k)=Option.some r/\K r:=by
 have⟨es,c,h1,h2⟩:=h.head;have⟨r,r1,r2⟩:=find_kv (k:=k) (.nilFunc) es l 0 h2;refine ⟨r,?_,hK r ?_⟩
 ·simp only [mapGet,entriesOf,h1,Option.bind_some];exact r1
 ·cases r with
  |none=>exact r2.1.symm
  |some p=>exact r2.1.symm
theorem im_set (h:Sep H (im ik b l::L)){l':KV}{es:List MapEntry}{c:Nat}(he:kvs es=ivs ik l'):Sep (H.set b (.map es c)) (im ik b l'::L):=
 h.upd (S:=[b]) ((Frm.refl _ _).set _ (by simp)) (by simp [im]) ⟨es,c,get_set_self _ _ _,he⟩ (by simp [im]) (by simp [im]) (by
  intro j hj
  simp only [im,List.mem_singleton] at hj
  subst hj
  exact h.footlt (by simp [im]))
theorem im_put (h:Sep H (im ik b l::L)){k:Int}{v:Value}{K:Heap->Prop}(hK:∀H',Sep H' (im ik b (aput l k v)::L)->K H'):upM H (.int ik) (Option.some b) (.int ik k) v K:=by
 have⟨es,c,h1,h2⟩:=h.head;have⟨r,r1,r2⟩:=find_kv (k:=k) v es l 0 h2;refine ⟨b,es,c,r,rfl,h1,r1,hK _ ?_⟩;cases r with
 |none=>
  refine im_set h ?_;rw [r2.2.1];simp only [kvs,ivs,List.map_append,List.map_cons,List.map_nil];rw [show es.map (λe=>(e.key,e.val))=l.map λp=>(Value.int ik p.1,p.2) from h2]
 |some p=>
  have⟨n,u⟩:=p;obtain ⟨_,j,rfl,e3,_⟩:=r2;refine im_set h ?_;rw [Nat.zero_add];exact e3
theorem im_del (h:Sep H (im ik b l::L)){k:Int}{K:Heap->Prop}(hK:∀H',Sep H' (im ik b (adel l k)::L)->K H'):dlM H (.int ik) (Option.some b) (.int ik k) K:=by
 have⟨es,c,h1,h2⟩:=h.head;have⟨r,r1,r2⟩:=find_kv (k:=k) (.nilFunc) es l 0 h2;refine ⟨b,es,c,r,rfl,h1,r1,hK _ ?_⟩;cases r with
 |none=>
  refine im_set h ?_;rw [r2.2.2];exact h2
 |some p=>
  have⟨n,u⟩:=p;obtain ⟨_,j,rfl,_,e4⟩:=r2;refine im_set h ?_;rw [Nat.zero_add];exact e4
theorem im_len (h:Sep H (im ik b l::L)){K:Int->Prop}(hK:K l.length):lnM H (Option.some b) K:=by
 have⟨es,c,h1,h2⟩:=h.head;refine ⟨es,by simp only [entriesOf,h1],?_⟩
 have:=congrArg List.length h2
 simp only [kvs,ivs,List.length_map] at this;rw [this];exact hK
theorem im_new (h:Sep H L){K:Nat->Heap->Prop}(hK:∀b H',Sep H' (im ik b []::L)->K b H'):nwH H (.map [] 0) K:=by
 refine Sep.nw h λb H' h'=>hK b H' ?_
 have h1:H'.get b=Option.some (.map [] 0):=Sep.get0 h';exact h'.upd (S:=[]) (Frm.refl _ _) (by simp) ⟨[],0,h1,rfl⟩ (by simp [im,bx]) (by simp [im]) (by
  intro j hj;simp only [im,List.mem_singleton] at hj;subst hj;exact h'.footlt (by simp [bx]))
end
section
variable {H H':Heap} {L:List Asr}
theorem range_pick (l:List Asr):∀n,(List.range n).filterMap (λi=>l[i]?)=l.take n
 |0=>by simp
 |n+1=>by
  rw [List.range_succ,List.filterMap_append,range_pick l n,List.take_add_one]
  cases h:l[n]? <;>simp [h]
theorem Sep.sub {l l':List Asr}(hs:l'.Sublist l):∀pre,Sep H (pre++l)->Sep H (pre++l'):=by
 induction hs with
 |slnil=>exact λpre h=>h
 |cons a _ ih=>exact λpre h=>ih pre (Sep.tail (h.perm List.perm_middle))
 |cons_cons a _ ih=>
  intro pre h
  have:=ih (pre++[a]) (by simpa using h)
  simpa using this
theorem Sep.pick {l:List Asr}(h:Sep H l)(n:Nat)(p:List Nat)(hp:(p++(List.range n).filter λi=> !p.contains i).isPerm (List.range n)=true):Sep H (p.filterMap (λi=>l[i]?)++l.drop n):=by
 have h1:=(List.isPerm_iff.1 hp).filterMap (λi=>l[i]?);rw [range_pick,List.filterMap_append] at h1;have h2:Sep H ((p.filterMap (λi=>l[i]?)++(((List.range n).filter λi=> !p.contains i).filterMap λi=>l[i]?))++l.drop n):=by
  refine Sep.perm ?_ (h1.symm.append_right _);rw [List.take_append_drop];exact h
 rw [List.append_assoc] at h2;exact Sep.sub (List.sublist_append_right _ _) _ h2
theorem setAt_take':∀(new tc:List Value)(len:Nat),len+new.length<=tc.length->(setAt tc len new).take (len+new.length)=tc.take len++new
 |[],tc,len,_=>by simp [setAt]
 |y::new,tc,len,h=>by
  simp only [List.length_cons] at h
  have:=setAt_take' new (tc.set len y) (len+1) (by simp;omega)
  simp only [setAt,List.length_cons]
  rw [show len+(new.length+1)=len+1+new.length by omega,this,List.take_add_one,List.getElem?_set_self (by omega),List.take_set_of_le (by omega)]
  simp
theorem setAt_drop':∀(new tc:List Value)(len p:Nat),len+new.length<=p->(setAt tc len new).drop p=tc.drop p
 |[],tc,len,p,_=>by simp [setAt]
 |y::new,tc,len,p,h=>by
  simp only [List.length_cons] at h
  simp only [setAt]
  rw [setAt_drop' new _ (len+1) p (by omega),List.drop_set_of_lt (by omega)]
theorem setAt_take0:∀(new tc:List Value)(len p:Nat),p<=len->(setAt tc len new).take p=tc.take p
 |[],tc,len,p,_=>by simp [setAt]
 |y::new,tc,len,p,h=>by
  simp only [setAt]
  rw [setAt_take0 new _ (len+1) p (by omega),List.take_set_of_le (by omega)]
theorem apd_pre' {b:Option Nat}{es len n bytes:Nat}{tc new:List Value}{K:Option Addr->Nat->Heap->Prop}(h:Sep H (gl es b tc::L))(hb:b=none->len=0)(hes:0<es)(hlen:len*es<=tc.length)(hn:0<n)(hnew:new.length=n*es)(hby:(len+n)*bytes<=140737488355328)
  (k:∀H' b' tc',tc'.take ((len+n)*es)=tc.take (len*es)++new->(len+n)*es<=tc'.length->Sep H' (gl es (some b') tc'::L)->K (some ⟨b',0,none⟩) (len+n) H'):apd H bytes es (addr b) len n new K:=by
 have hmul:(len+n)*es=len*es+n*es:=Nat.add_mul _ _ _;cases b with
 |none=>
  have h0:=hb rfl;subst h0;rw [Nat.zero_add] at hby
  refine apd_first hn hby λj H2 ej e2=>?_
  have:=k H2 j new (by rw [Nat.zero_mul,List.take_zero,List.nil_append,hmul,Nat.zero_mul,Nat.zero_add,<-hnew,List.take_length]) (by rw [hmul,hnew];omega)
  rw [Nat.zero_add] at this;refine this (gl_some.2 ?_);subst ej e2;exact (gl_none.1 h).new _
 |some b=>
  have h1:=gl_some.1 h;rcases Nat.lt_or_ge tc.length (0+(len+n)*es) with hc|hc
  ·refine apd_grow (old:=tc.take (len*es)) (Sep.get0 h1) hn hc ?_ hby λj H' ej eH=>k H' j (tc.take (len*es)++new) ?_ ?_ (gl_some.2 ?_)
   ·unfold takeAt;rw [if_pos (by omega),List.drop_zero]
   ·rw [List.take_of_length_le (by rw [List.length_append,List.length_take,hnew,hmul];omega)]
   ·rw [List.length_append,List.length_take,hnew,hmul];omega
   ·have h2:=(Sep.put0 h1 .dead).new (.cells true es (tc.take (len*es)++new));rw [<-eH,next_set,<-ej] at h2;exact Sep.rm1 h2
  ·refine .inr ⟨hn,.inr ⟨b,0,tc,rfl,Sep.get0 h1,.inl ⟨hc,?_⟩⟩⟩;have hst:stc H b (0+len*es) new (λH'=>K (some ⟨b,0,none⟩) (len+n) H'):=by
    refine Sep.st0 h1 (by rw [hnew];omega) λH' h'=>k H' b _ ?_ ?_ (gl_some.2 h')
    ·rw [hmul,<-hnew,Nat.zero_add];exact setAt_take' _ _ _ (by omega)
    ·rw [setAt_length];omega
   exact stc_ok hst
end
end Go.AS
namespace Go.Proofs.YtjggeoghlicmdaaGreat
open Go Go.AS Go.RowKit
section
set_option maxRecDepth 100000
set_option maxHeartbeats 2000000
theorem vc_grace_Grace_Waits (x0:Option Addr)(H:Heap)(R:Value->Heap->Prop) :
  (
 AS.asAddr (.pointer x0) λi1 i2=>
 ∃a3 i4,H.cell i1 (i2+3)=some (.slice a3 i4 0)/\
 R (.int .i64 ((i4:Nat):Int)) H)->
  CA en F.grace_Grace_Waits [(.pointer x0)] H R:=by
 intro h;refine wpFn_ok (Z:=[]) (fn:=Go.Proofs.Tryz.f18) ?_ ?_ ?_
 ·kernel_rfl
 ·kernel_rfl
 ·apply turnInto h
  kernel_rfl
theorem vc_grace_Grace_Enter (x0:Option Addr)(x1:Int)(H:Heap)(R:Value->Heap->Prop) :
  (
 bif (decide (x1<0)) then (
 R (.bool false) H)
 else (
 AS.asAddr (.pointer x0) λi1 i2=>
 ∃n3,H.cell i1 (i2+1)=some (.int .i64 n3)/\
 bif (decide (x1≥n3)) then (
 R (.bool false) H)
 else (
 AS.asAddr (.pointer x0) λi4 i5=>
 ∃m6,H.cell i4 (i5+2)=some (.map m6)/\
 ∃r7,AS.mapGet H (.int .i64) m6 (.int .i64 x1)=some r7/\
 ∃b8,got r7 (.bool false) (.bool b8)/\
 bif b8 then (
 R (.bool false) H)
 else (
 AS.asAddr (.pointer x0) λi9 i10=>
 ∃m11,H.cell i9 (i10+2)=some (.map m11)/\
 upM H (.int .i64) m11 (.int .i64 x1) (.bool true) λH12=>
 R (.bool true) H12))))->
  CA en F.grace_Grace_Enter [(.pointer x0),(.int .i64 x1)] H R:=by
 intro h;refine wpFn_ok (Z:=[]) (fn:=Go.Proofs.Tryz.f21) ?_ ?_ ?_
 ·kernel_rfl
 ·kernel_rfl
 ·apply turnInto h
  kernel_rfl
noncomputable def L_grace_Grace_Leave_0:Code:=loopAt Go.Proofs.Tryz.f24 0
theorem vc_grace_Grace_Leave (x0:Option Addr)(x1:Int)(H:Heap)(R:Value->Heap->Prop) :
  (
 AS.asAddr (.pointer x0) λi1 i2=>
 ∃m3,H.cell i1 (i2+2)=some (.map m3)/\
 ∃r4,AS.mapGet H (.int .i64) m3 (.int .i64 x1)=some r4/\
 ∃b5,got r4 (.bool false) (.bool b5)/\
 bif (!b5) then (
 R (.slice none 0 0) H)
 else (
 AS.asAddr (.pointer x0) λi6 i7=>
 ∃m8,H.cell i6 (i7+2)=some (.map m8)/\
 dlM H (.int .i64) m8 (.int .i64 x1) λH9=>
 AS.asAddr (.pointer x0) λi10 i11=>
 ∃a12 i13,H9.cell i10 (i11+3)=some (.slice a12 i13 0)/\
 LA en L_grace_Grace_Leave_0 [(.pointer x0),(.int .i64 x1),undef,undef,(.slice none 0 0),undef,undef,(.pointer x0),(.pointer (some ⟨i1,i2,none⟩)),(.pointer (some ⟨i1,(i2+2),none⟩)),(.map m3),(.int .i64 x1),(.bool b5),(.bool false),(.pointer x0),(.pointer (some ⟨i6,i7,none⟩)),(.pointer (some ⟨i6,(i7+2),none⟩)),(.map m8),(.int .i64 x1),(.pointer x0),(.pointer (some ⟨i10,i11,none⟩)),(.pointer (some ⟨i10,(i11+3),none⟩)),(.slice a12 i13 0),(.int .i64 ((i13:Nat):Int)),(.int .i64 0),undef,undef,undef,undef,undef,undef,undef,undef,undef] H9 [(X.exit 0,λ(y14:Fr)(H15:Heap)=>
 CA en F.grace_Grace_sweep [(.pointer x0)] H15 λv16 H17=>
 ∃a18 i19,v16=(.slice a18 i19 0)/\
 R (.slice a18 i19 0) H17)]))->
  CA en F.grace_Grace_Leave [(.pointer x0),(.int .i64 x1)] H R:=by
 intro h;refine wpFn_ok (Z:=[[]]) (fn:=Go.Proofs.Tryz.f24) ?_ ?_ ?_
 ·kernel_rfl
 ·kernel_rfl
 ·apply turnInto h
  kernel_rfl
theorem use_grace_Grace_Leave_0 {t0:Option Addr}{t1:Int}{t7:Option Addr}{t8:Nat}{t8o:Nat}{t9:Nat}{t9o:Nat}{t10:Option Nat}{t11:Int}{t12:Bool}{t14:Option Addr}{t15:Nat}{t15o:Nat}{t16:Nat}{t16o:Nat}{t17:Option Nat}{t18:Int}{t19:Option Addr}{t20:Nat}{t20o:Nat}{t21:Nat}{t21o:Nat}{t22:Option Addr}{t22l:Nat}{t23:Int}{K0:Fr->Heap->Prop}{t24:Int}{t6:Value}{t25:Value}{t26:Value}{t27:Value}{t28:Value}{t29:Value}{t30:Value}{t31:Value}{H:Heap}(I:Nat->Int->Heap->Prop)(n:Nat)(h0:I n t24 H)
  (hstep:∀(n:Nat)(t24:Int)(ys:Fr)(H:Heap),I n t24 H->
  (
 bif (decide (t24<t23)) then (
 inB t24 t22l/\
 asRow t22 λi1 i2=>
 ∃n3,∃m4,H.cellsAt i1 (i2+(t24.toNat*2)) 2=some [(.int .i64 n3),(.map m4)]/\
 nwH H (.cells true 0 [(.int .i64 0),(.map none)]) λi5 H6=>
 stc H6 i5 0 [(.int .i64 n3),(.map m4)] λH7=>
 ∃m8,H7.cell i5 1=some (.map m8)/\
 dlM H7 (.int .i64) m8 (.int .i64 t1) λH9=>
 ∃k10,k10<n/\
 I k10 (IntKind.i64.wrap (t24+1)) H9)
 else (
 K0 [(.pointer t0),(.int .i64 t1),undef,undef,(.slice none 0 0),undef,(ys.getD 6 undef),(.pointer t7),(.pointer (some ⟨t8,t8o,none⟩)),(.pointer (some ⟨t9,t9o,none⟩)),(.map t10),(.int .i64 t11),(.bool t12),(.bool false),(.pointer t14),(.pointer (some ⟨t15,t15o,none⟩)),(.pointer (some ⟨t16,t16o,none⟩)),(.map t17),(.int .i64 t18),(.pointer t19),(.pointer (some ⟨t20,t20o,none⟩)),(.pointer (some ⟨t21,t21o,none⟩)),(.slice t22 t22l 0),(.int .i64 t23),(.int .i64 t24),(.bool false),(ys.getD 26 undef),(ys.getD 27 undef),(ys.getD 28 undef),(ys.getD 29 undef),(ys.getD 30 undef),(ys.getD 31 undef),undef,undef] H))) :
  LA en L_grace_Grace_Leave_0 [(.pointer t0),(.int .i64 t1),undef,undef,(.slice none 0 0),undef,t6,(.pointer t7),(.pointer (some ⟨t8,t8o,none⟩)),(.pointer (some ⟨t9,t9o,none⟩)),(.map t10),(.int .i64 t11),(.bool t12),(.bool false),(.pointer t14),(.pointer (some ⟨t15,t15o,none⟩)),(.pointer (some ⟨t16,t16o,none⟩)),(.map t17),(.int .i64 t18),(.pointer t19),(.pointer (some ⟨t20,t20o,none⟩)),(.pointer (some ⟨t21,t21o,none⟩)),(.slice t22 t22l 0),(.int .i64 t23),(.int .i64 t24),t25,t26,t27,t28,t29,t30,t31,undef,undef] H [(X.exit 0,K0)]:=by
 refine LA_rule (Z:=[]) (λm xs H'=>AS.asInt .i64 (xs.getD 24 undef) λt24=>I m t24 H') ?_ n H ?_
 ·intro n H
  suffices hs:∀s25:Value,∀s26:Value,∀s27:Value,∀s6:Value,∀s28:Value,∀s29:Value,∀s30:Value,∀s31:Value,∀s24:Value,((AS.asInt .i64 s24 λt24=>I n t24 H)->wpCode en L_grace_Grace_Leave_0 [] [(.pointer t0),(.int .i64 t1),undef,undef,(.slice none 0 0),undef,s6,(.pointer t7),(.pointer (some ⟨t8,t8o,none⟩)),(.pointer (some ⟨t9,t9o,none⟩)),(.map t10),(.int .i64 t11),(.bool t12),(.bool false),(.pointer t14),(.pointer (some ⟨t15,t15o,none⟩)),(.pointer (some ⟨t16,t16o,none⟩)),(.map t17),(.int .i64 t18),(.pointer t19),(.pointer (some ⟨t20,t20o,none⟩)),(.pointer (some ⟨t21,t21o,none⟩)),(.slice t22 t22l 0),(.int .i64 t23),s24,s25,s26,s27,s28,s29,s30,s31,undef,undef] H (loopQ (λm xs H'=>AS.asInt .i64 (xs.getD 24 undef) λt24=>I m t24 H') n [(X.exit 0,K0)])) by
   apply turnInto hs
   kernel_rfl
  intro s25 s26 s27 s6 s28 s29 s30 s31 s24 hP;replace hP:=asInt_elim hP;obtain ⟨t24,rfl,hP⟩:=hP;apply turnInto (hstep n t24 [(.pointer t0),(.int .i64 t1),undef,undef,(.slice none 0 0),undef,s6,(.pointer t7),(.pointer (some ⟨t8,t8o,none⟩)),(.pointer (some ⟨t9,t9o,none⟩)),(.map t10),(.int .i64 t11),(.bool t12),(.bool false),(.pointer t14),(.pointer (some ⟨t15,t15o,none⟩)),(.pointer (some ⟨t16,t16o,none⟩)),(.map t17),(.int .i64 t18),(.pointer t19),(.pointer (some ⟨t20,t20o,none⟩)),(.pointer (some ⟨t21,t21o,none⟩)),(.slice t22 t22l 0),(.int .i64 t23),(.int .i64 t24),s25,s26,s27,s28,s29,s30,s31,undef,undef] H hP);kernel_rfl
 ·apply turnInto h0
  kernel_rfl
theorem vc_grace_New (x0:Int)(x1:Option Addr)(H:Heap)(R:Value->Heap->Prop) :
  (
 nwH H (.map [] 0) λi1 H2=>
 nwH H2 (.cells true 0 [(.pointer x1),(.int .i64 x0),(.map (some i1)),(.slice none 0 0)]) λi3 H4=>
 R (.pointer (some ⟨i3,0,none⟩)) H4)->
  CA en F.grace_New [(.int .i64 x0),(.pointer x1)] H R:=by
 intro h;refine wpFn_ok (Z:=[]) (fn:=Go.Proofs.Tryz.f63) ?_ ?_ ?_
 ·kernel_rfl
 ·kernel_rfl
 ·apply turnInto h
  kernel_rfl
theorem vc_grace_Grace_sweep (x0:Option Addr)(H:Heap)(R:Value->Heap->Prop) :
  (
 nwH H (.cells true 0 [(.pointer x0)]) λi1 H2=>
 nwH H2 (.cells true 0 [(.slice none 0 0)]) λi3 H4=>
 ∃a5,(H4.bump 10).cell i1 0=some (.pointer a5)/\
 ∃a6,(H4.bump 10).cell i1 0=some (.pointer a6)/\
 AS.asAddr (.pointer a6) λi7 i8=>
 ∃a9 i10,(H4.bump 10).cell i7 (i8+3)=some (.slice a9 i10 0)/\
 CA en F.slices_DeleteFunc_grace_wait_grace_wait [(.slice a9 i10 0),(.func (.func F.grace_Grace_sweep_1) #[] #[(.pointer (some ⟨i1,0,none⟩)),(.pointer (some ⟨i3,0,none⟩))])] (H4.bump 10) λv11 H12=>
 ∃a13 i14,v11=(.slice a13 i14 0)/\
 AS.asAddr (.pointer a5) λi15 i16=>
 stc H12 i15 (i16+3) [(.slice a13 i14 0)] λH17=>
 (
 ∃a20 i21,H17.cell i3 0=some (.slice a20 i21 0)/\
 stc H17 i3 0 [(.slice a20 i21 0)] λH22=>
 ∃a23 i24,H22.cell i3 0=some (.slice a23 i24 0)/\
 R (.slice a23 i24 0) H22)/\
 ((∃a19,(H4.bump 10).cell i1 0=some (.pointer a19)/\
 a5=a19)/\(∃a18,H12.cell i1 0=some (.pointer a18)/\
 a5=a18)/\True)/\
 True)->
  CA en F.grace_Grace_sweep [(.pointer x0)] H R:=by
 intro h;refine wpFn_ok (Z:=[]) (fn:=Go.Proofs.Tryz.f67) ?_ ?_ ?_
 ·kernel_rfl
 ·kernel_rfl
 ·apply turnInto h
  kernel_rfl
theorem vc_grace_Grace_sweep_1 (x0_0:Int)(x0_1:Option Nat)(c0:Option Addr)(c1:Option Addr)(H:Heap)(R:Value->Heap->Prop) :
  (
 nwH H (.cells true 0 [(.int .i64 x0_0),(.map x0_1)]) λi1 H2=>
 ∃m3,H2.cell i1 1=some (.map m3)/\
 lnM H2 m3 λn4=>
 bif (decide (n4>0)) then (
 R (.bool false) H2)
 else (
 AS.asAddr (.pointer c0) λi5 i6=>
 ∃a7,(H2.bump 7).cell i5 i6=some (.pointer a7)/\
 AS.asAddr (.pointer a7) λi8 i9=>
 ∃a10,(H2.bump 7).cell i8 i9=some (.pointer a10)/\
 ∃n11,(H2.bump 7).cell i1 0=some (.int .i64 n11)/\
 CA en F.smem_Mem_Free [(.pointer a10),(.int .i64 n11)] (H2.bump 7) λv12 H13=>
 ∃b14,v12=(.bool b14)/\
 (
 AS.asAddr (.pointer c1) λi15 i16=>
 ∃a17 i18,H13.cell i15 i16=some (.slice a17 i18 0)/\
 ∃n19,H13.cell i1 0=some (.int .i64 n19)/\
 nwH H13 (.cells true 1 [(.int .i64 n19)]) λi20 H21=>
 ∃l22,rowOf H21 1 (some ⟨i20,0,none⟩) 1=some l22/\
 apd H21 8 1 a17 i18 1 l22 λa23 i24 H25=>
 AS.asAddr (.pointer c1) λi26 i27=>
 stc H25 i26 i27 [(.slice a23 i24 0)] λH28=>
 R (.bool true) H28)/\
 True))->
  CA en F.grace_Grace_sweep_1 [(.agg #[(.int .i64 x0_0),(.map x0_1)]),(.pointer c0),(.pointer c1)] H R:=by
 intro h;refine wpFn_ok (Z:=[]) (fn:=Go.Proofs.Tryz.f117) ?_ ?_ ?_
 ·kernel_rfl
 ·kernel_rfl
 ·apply turnInto h
  kernel_rfl
theorem vc_grace_Grace_Defer (x0:Option Addr)(x1:Int)(H:Heap)(R:Value->Heap->Prop) :
  (
 nwH H (.cells true 0 [(.int .i64 x1)]) λi1 H2=>
 AS.asAddr (.pointer x0) λi3 i4=>
 ∃a5,(H2.bump 15).cell i3 i4=some (.pointer a5)/\
 ∃n6,(H2.bump 15).cell i1 0=some (.int .i64 n6)/\
 CA en F.smem_Mem_Size [(.pointer a5),(.int .i64 n6)] (H2.bump 15) λv7 H8=>
 ∃n9,v7=(.int .i64 n9)/\
 bif (n9==0) then (
 (
 R (.slice none 0 0) H8)/\
 True)
 else (
 AS.asAddr (.pointer x0) λi10 i11=>
 ∃a12 i13,H8.cell i10 (i11+3)=some (.slice a12 i13 0)/\
 CA en F.slices_ContainsFunc_grace_wait_grace_wait [(.slice a12 i13 0),(.func (.func F.grace_Grace_Defer_1) #[] #[(.pointer (some ⟨i1,0,none⟩))])] H8 λv14 H15=>
 ∃b16,v14=(.bool b16)/\
 (
 bif b16 then (
 R (.slice none 0 0) H15)
 else (
 AS.asAddr (.pointer x0) λi17 i18=>
 ∃a19 i20,(H15.bump 17).cell i17 (i18+3)=some (.slice a19 i20 0)/\
 ∃n21,(H15.bump 17).cell i1 0=some (.int .i64 n21)/\
 AS.asAddr (.pointer x0) λi22 i23=>
 ∃m24,(H15.bump 17).cell i22 (i23+2)=some (.map m24)/\
 CA en F.maps_Clone_map_intbool_int_bool [(.map m24)] (H15.bump 17) λv25 H26=>
 ∃m27,v25=(.map m27)/\
 nwH H26 (.cells true 2 [(.int .i64 n21),(.map m27)]) λi28 H29=>
 ∃l30,rowOf H29 2 (some ⟨i28,0,none⟩) 1=some l30/\
 apd H29 16 2 a19 i20 1 l30 λa31 i32 H33=>
 AS.asAddr (.pointer x0) λi34 i35=>
 stc H33 i34 (i35+3) [(.slice a31 i32 0)] λH36=>
 (
 CA en F.grace_Grace_sweep [(.pointer x0)] H36 λv45 H46=>
 ∃a47 i48,v45=(.slice a47 i48 0)/\
 R (.slice a47 i48 0) H46)/\
 ((∃n38,(H15.bump 17).cell i1 0=some (.int .i64 n38)/\
 n21=n38)/\(∃n37,H26.cell i1 0=some (.int .i64 n37)/\
 n21=n37)/\True)/\
 ((∃a43 i44,(H15.bump 17).cell i17 (i18+3)=some (.slice a43 i44 0)/\
 (a19=a43/\i20=i44/\0=0))/\(∃a41 i42,H26.cell i17 (i18+3)=some (.slice a41 i42 0)/\
 (a19=a41/\i20=i42/\0=0))/\(∃a39 i40,H29.cell i17 (i18+3)=some (.slice a39 i40 0)/\
 (a19=a39/\i20=i40/\0=0))/\True)/\
 True))/\
 True))->
  CA en F.grace_Grace_Defer [(.pointer x0),(.int .i64 x1)] H R:=by
 intro h;refine wpFn_ok (Z:=[]) (fn:=Go.Proofs.Tryz.f221) ?_ ?_ ?_
 ·kernel_rfl
 ·kernel_rfl
 ·apply turnInto h
  kernel_rfl
theorem vc_grace_Grace_Defer_1 (x0_0:Int)(x0_1:Option Nat)(c0:Option Addr)(H:Heap)(R:Value->Heap->Prop) :
  (
 nwH H (.cells true 0 [(.int .i64 x0_0),(.map x0_1)]) λi1 H2=>
 ∃n3,H2.cell i1 0=some (.int .i64 n3)/\
 AS.asAddr (.pointer c0) λi4 i5=>
 ∃n6,H2.cell i4 i5=some (.int .i64 n6)/\
 R (.bool (n3==n6)) H2)->
  CA en F.grace_Grace_Defer_1 [(.agg #[(.int .i64 x0_0),(.map x0_1)]),(.pointer c0)] H R:=by
 intro h;refine wpFn_ok (Z:=[]) (fn:=Go.Proofs.Tryz.f277) ?_ ?_ ?_
 ·kernel_rfl
 ·kernel_rfl
 ·apply turnInto h
  kernel_rfl
noncomputable def L_slices_DeleteFunc_grace_wait_grace_wait_0:Code:=loopAt Go.Proofs.Tryz.f116 0
theorem vc_slices_DeleteFunc_grace_wait_grace_wait (x0:Option Addr)(x0l:Nat)(x1:Value)(H:Heap)(R:Value->Heap->Prop) :
  (
 CA en F.slices_IndexFunc_grace_wait_grace_wait [(.slice x0 x0l 0),x1] H λv1 H2=>
 ∃n3,v1=(.int .i64 n3)/\
 bif (n3==(-1)) then (
 R (.slice x0 x0l 0) H2)
 else (
 LA en L_slices_DeleteFunc_grace_wait_grace_wait_0 [(.slice x0 x0l 0),x1,undef,undef,(.slice none 0 0),(.int .i64 n3),(.int .i64 (IntKind.i64.wrap (n3+1))),undef,(.slice x0 x0l 0),x1,(.int .i64 n3),(.int .i64 n3),(.bool false),undef,(.int .i64 n3),(.int .i64 (IntKind.i64.wrap (n3+1))),undef,undef,undef,undef,undef,undef,undef,undef,undef,undef,undef,undef,undef,undef,undef,undef,undef,undef,undef,undef,undef,undef,undef,undef,undef,undef] H2 [(X.exit 0,λ(y4:Fr)(H5:Heap)=>
 AS.asInt .i64 (y4.getD 5 undef) λn6=>
 inS n6 x0l/\
 slK H5 x0 2 n6.toNat (x0l - n6.toNat) λv7=>
 asSome (clearA en H5 123 v7) λH8=>
 inS n6 x0l/\
 slK H8 x0 2 0 n6.toNat λv9=>
 R v9 H8)]))->
  CA en F.slices_DeleteFunc_grace_wait_grace_wait [(.slice x0 x0l 0),x1] H R:=by
 intro h;refine wpFn_ok (Z:=[[(5,(.int .i64 0))]]) (fn:=Go.Proofs.Tryz.f116) ?_ ?_ ?_
 ·kernel_rfl
 ·kernel_rfl
 ·apply turnInto h
  kernel_rfl
theorem use_slices_DeleteFunc_grace_wait_grace_wait_0 {t0:Option Addr}{t0l:Nat}{t1:Value}{t8:Option Addr}{t8l:Nat}{t9:Value}{t10:Int}{t11:Int}{t14:Int}{t15:Int}{K0:Fr->Heap->Prop}{t5:Int}{t6:Int}{t7:Value}{t16:Value}{t17:Value}{t18:Value}{t19:Value}{t20:Value}{t21:Value}{t22:Value}{t23:Value}{t24:Value}{t25:Value}{t26:Value}{t27:Value}{t28:Value}{t29:Value}{t30:Value}{t31:Value}{t32:Value}{t33:Value}{t34:Value}{t35:Value}{H:Heap}(I:Nat->Int->Int->Heap->Prop)(n:Nat)(h0:I n t5 t6 H)
  (hstep:∀(n:Nat)(t5:Int)(t6:Int)(ys:Fr)(H:Heap),I n t5 t6 H->
  (
 bif (decide (t6<((t0l:Nat):Int))) then (
 inB t6 t0l/\
 asRow t0 λi1 i2=>
 ∃n3,∃m4,H.cellsAt i1 (i2+(t6.toNat*2)) 2=some [(.int .i64 n3),(.map m4)]/\
 nwH H (.cells true 0 [(.int .i64 0),(.map none)]) λi5 H6=>
 stc H6 i5 0 [(.int .i64 n3),(.map m4)] λH7=>
 ∃n8,∃m9,H7.cellsAt i5 0 2=some [(.int .i64 n8),(.map m9)]/\
 AS.asFn t1 λf10 l11 l12=>
 (∃fn,en.fn f10=some fn)/\
 CA en f10 (l11++[(.agg #[(.int .i64 n8),(.map m9)])]++l12) H7 λv13 H14=>
 ∃b15,v13=(.bool b15)/\
 bif (!b15) then (
 ∃n16,∃m17,H14.cellsAt i5 0 2=some [(.int .i64 n16),(.map m17)]/\
 inB t5 t0l/\
 asRow t0 λi18 i19=>
 stc H14 i18 (i19+(t5.toNat*2)) [(.int .i64 n16),(.map m17)] λH20=>
 ∃k21,k21<n/\
 I k21 (IntKind.i64.wrap (t5+1)) (IntKind.i64.wrap (t6+1)) H20)
 else (
 ∃k22,k22<n/\
 I k22 t5 (IntKind.i64.wrap (t6+1)) H14))
 else (
 K0 [(.slice t0 t0l 0),t1,undef,undef,(.slice none 0 0),(.int .i64 t5),(.int .i64 t6),(ys.getD 7 undef),(.slice t8 t8l 0),t9,(.int .i64 t10),(.int .i64 t11),(.bool false),undef,(.int .i64 t14),(.int .i64 t15),(.int .i64 t6),(.slice t0 t0l 0),(.int .i64 ((t0l:Nat):Int)),(.bool false),(ys.getD 20 undef),(ys.getD 21 undef),(ys.getD 22 undef),(ys.getD 23 undef),(ys.getD 24 undef),(ys.getD 25 undef),(ys.getD 26 undef),(ys.getD 27 undef),(ys.getD 28 undef),(ys.getD 29 undef),(ys.getD 30 undef),(ys.getD 31 undef),(ys.getD 32 undef),(ys.getD 33 undef),(ys.getD 34 undef),(ys.getD 35 undef),undef,undef,undef,undef,undef,undef] H))) :
  LA en L_slices_DeleteFunc_grace_wait_grace_wait_0 [(.slice t0 t0l 0),t1,undef,undef,(.slice none 0 0),(.int .i64 t5),(.int .i64 t6),t7,(.slice t8 t8l 0),t9,(.int .i64 t10),(.int .i64 t11),(.bool false),undef,(.int .i64 t14),(.int .i64 t15),t16,t17,t18,t19,t20,t21,t22,t23,t24,t25,t26,t27,t28,t29,t30,t31,t32,t33,t34,t35,undef,undef,undef,undef,undef,undef] H [(X.exit 0,K0)]:=by
 refine LA_rule (Z:=[]) (λm xs H'=>AS.asInt .i64 (xs.getD 5 undef) λt5=>AS.asInt .i64 (xs.getD 6 undef) λt6=>I m t5 t6 H') ?_ n H ?_
 ·intro n H
  suffices hs:∀s16:Value,∀s17:Value,∀s18:Value,∀s19:Value,∀s22:Value,∀s23:Value,∀s24:Value,∀s25:Value,∀s7:Value,∀s26:Value,∀s27:Value,∀s28:Value,∀s29:Value,∀s30:Value,∀s31:Value,∀s32:Value,∀s33:Value,∀s34:Value,∀s35:Value,∀s5:Value,∀s20:Value,∀s21:Value,∀s6:Value,((AS.asInt .i64 s5 λt5=>AS.asInt .i64 s6 λt6=>I n t5 t6 H)->wpCode en L_slices_DeleteFunc_grace_wait_grace_wait_0 [] [(.slice t0 t0l 0),t1,undef,undef,(.slice none 0 0),s5,s6,s7,(.slice t8 t8l 0),t9,(.int .i64 t10),(.int .i64 t11),(.bool false),undef,(.int .i64 t14),(.int .i64 t15),s16,s17,s18,s19,s20,s21,s22,s23,s24,s25,s26,s27,s28,s29,s30,s31,s32,s33,s34,s35,undef,undef,undef,undef,undef,undef] H (loopQ (λm xs H'=>AS.asInt .i64 (xs.getD 5 undef) λt5=>AS.asInt .i64 (xs.getD 6 undef) λt6=>I m t5 t6 H') n [(X.exit 0,K0)])) by
   apply turnInto hs
   kernel_rfl
  intro s16 s17 s18 s19 s22 s23 s24 s25 s7 s26 s27 s28 s29 s30 s31 s32 s33 s34 s35 s5 s20 s21 s6 hP;replace hP:=asInt_elim hP;obtain ⟨t5,rfl,hP⟩:=hP;replace hP:=asInt_elim hP;obtain ⟨t6,rfl,hP⟩:=hP;apply turnInto (hstep n t5 t6 [(.slice t0 t0l 0),t1,undef,undef,(.slice none 0 0),(.int .i64 t5),(.int .i64 t6),s7,(.slice t8 t8l 0),t9,(.int .i64 t10),(.int .i64 t11),(.bool false),undef,(.int .i64 t14),(.int .i64 t15),s16,s17,s18,s19,s20,s21,s22,s23,s24,s25,s26,s27,s28,s29,s30,s31,s32,s33,s34,s35,undef,undef,undef,undef,undef,undef] H hP);kernel_rfl
 ·apply turnInto h0
  kernel_rfl
noncomputable def L_slices_IndexFunc_grace_wait_grace_wait_0:Code:=loopAt Go.Proofs.Tryz.f169 0
theorem vc_slices_IndexFunc_grace_wait_grace_wait (x0:Option Addr)(x0l:Nat)(x1:Value)(H:Heap)(R:Value->Heap->Prop) :
  (
 LA en L_slices_IndexFunc_grace_wait_grace_wait_0 [(.slice x0 x0l 0),x1,undef,undef,(.int .i64 0),undef,(.slice x0 x0l 0),(.int .i64 ((x0l:Nat):Int)),(.int .i64 0),undef,undef,undef,undef,undef,undef,undef,undef,undef,undef] H [(X.exit 0,λ(y1:Fr)(H2:Heap)=>
 AS.asInt .i64 (y1.getD 4 undef) λn3=>
 R (.int .i64 (-1)) H2),
 (X.ret,λ(y4:Fr)(H5:Heap)=>
 AS.asInt .i64 (y4.getD 4 undef) λn6=>
 R (.int .i64 n6) H5)])->
  CA en F.slices_IndexFunc_grace_wait_grace_wait [(.slice x0 x0l 0),x1] H R:=by
 intro h;refine wpFn_ok (Z:=[[(4,(.int .i64 0))]]) (fn:=Go.Proofs.Tryz.f169) ?_ ?_ ?_
 ·kernel_rfl
 ·kernel_rfl
 ·apply turnInto h
  kernel_rfl
theorem use_slices_IndexFunc_grace_wait_grace_wait_0 {t0:Option Addr}{t0l:Nat}{t1:Value}{t6:Option Addr}{t6l:Nat}{t7:Int}{K0:Fr->Heap->Prop}{K1:Fr->Heap->Prop}{t4:Int}{t8:Int}{t5:Value}{t9:Value}{t10:Value}{t11:Value}{t12:Value}{t13:Value}{t14:Value}{t15:Value}{t16:Value}{t17:Value}{t18:Value}{H:Heap}(I:Nat->Int->Int->Heap->Prop)(n:Nat)(h0:I n t4 t8 H)
  (hstep:∀(n:Nat)(t4:Int)(t8:Int)(ys:Fr)(H:Heap),I n t4 t8 H->
  (
 bif (decide (t8<t7)) then (
 inB t8 t0l/\
 asRow t0 λi1 i2=>
 ∃n3,∃m4,H.cellsAt i1 (i2+(t8.toNat*2)) 2=some [(.int .i64 n3),(.map m4)]/\
 AS.asFn t1 λf5 l6 l7=>
 (∃fn,en.fn f5=some fn)/\
 CA en f5 (l6++[(.agg #[(.int .i64 n3),(.map m4)])]++l7) H λv8 H9=>
 ∃b10,v8=(.bool b10)/\
 bif b10 then (
 K1 [(.slice t0 t0l 0),t1,undef,undef,(.int .i64 t8),(.int .i64 t8),(.slice t6 t6l 0),(.int .i64 t7),(.int .i64 t8),(.bool true),(.int .i64 t8),t1,(.slice t0 t0l 0),(.int .i64 t8),(.pointer (some ⟨i1,(i2+(t8.toNat*2)),none⟩)),(.agg #[(.int .i64 n3),(.map m4)]),(.bool true),(.int .i64 t8),(ys.getD 18 undef)] H9)
 else (
 ∃k11,k11<n/\
 I k11 t4 (IntKind.i64.wrap (t8+1)) H9))
 else (
 K0 [(.slice t0 t0l 0),t1,undef,undef,(.int .i64 t4),(ys.getD 5 undef),(.slice t6 t6l 0),(.int .i64 t7),(.int .i64 t8),(.bool false),(ys.getD 10 undef),(ys.getD 11 undef),(ys.getD 12 undef),(ys.getD 13 undef),(ys.getD 14 undef),(ys.getD 15 undef),(ys.getD 16 undef),(ys.getD 17 undef),(ys.getD 18 undef)] H))) :
  LA en L_slices_IndexFunc_grace_wait_grace_wait_0 [(.slice t0 t0l 0),t1,undef,undef,(.int .i64 t4),t5,(.slice t6 t6l 0),(.int .i64 t7),(.int .i64 t8),t9,t10,t11,t12,t13,t14,t15,t16,t17,t18] H [(X.exit 0,K0),(X.ret,K1)]:=by
 refine LA_rule (Z:=[]) (λm xs H'=>AS.asInt .i64 (xs.getD 4 undef) λt4=>AS.asInt .i64 (xs.getD 8 undef) λt8=>I m t4 t8 H') ?_ n H ?_
 ·intro n H
  suffices hs:∀s9:Value,∀s10:Value,∀s5:Value,∀s11:Value,∀s12:Value,∀s13:Value,∀s14:Value,∀s15:Value,∀s16:Value,∀s17:Value,∀s4:Value,∀s18:Value,∀s8:Value,((AS.asInt .i64 s4 λt4=>AS.asInt .i64 s8 λt8=>I n t4 t8 H)->wpCode en L_slices_IndexFunc_grace_wait_grace_wait_0 [] [(.slice t0 t0l 0),t1,undef,undef,s4,s5,(.slice t6 t6l 0),(.int .i64 t7),s8,s9,s10,s11,s12,s13,s14,s15,s16,s17,s18] H (loopQ (λm xs H'=>AS.asInt .i64 (xs.getD 4 undef) λt4=>AS.asInt .i64 (xs.getD 8 undef) λt8=>I m t4 t8 H') n [(X.exit 0,K0),(X.ret,K1)])) by
   apply turnInto hs
   kernel_rfl
  intro s9 s10 s5 s11 s12 s13 s14 s15 s16 s17 s4 s18 s8 hP;replace hP:=asInt_elim hP;obtain ⟨t4,rfl,hP⟩:=hP;replace hP:=asInt_elim hP;obtain ⟨t8,rfl,hP⟩:=hP;apply turnInto (hstep n t4 t8 [(.slice t0 t0l 0),t1,undef,undef,(.int .i64 t4),s5,(.slice t6 t6l 0),(.int .i64 t7),(.int .i64 t8),s9,s10,s11,s12,s13,s14,s15,s16,s17,s18] H hP);kernel_rfl
 ·apply turnInto h0
  kernel_rfl
theorem vc_slices_ContainsFunc_grace_wait_grace_wait (x0:Option Addr)(x0l:Nat)(x1:Value)(H:Heap)(R:Value->Heap->Prop) :
  (
 CA en F.slices_IndexFunc_grace_wait_grace_wait [(.slice x0 x0l 0),x1] H λv1 H2=>
 ∃n3,v1=(.int .i64 n3)/\
 R (.bool (decide (n3≥0))) H2)->
  CA en F.slices_ContainsFunc_grace_wait_grace_wait [(.slice x0 x0l 0),x1] H R:=by
 intro h;refine wpFn_ok (Z:=[]) (fn:=Go.Proofs.Tryz.f276) ?_ ?_ ?_
 ·kernel_rfl
 ·kernel_rfl
 ·apply turnInto h
  kernel_rfl
theorem vc_maps_Clone_map_intbool_int_bool (x0:Option Nat)(H:Heap)(R:Value->Heap->Prop) :
  (
 bif x0.isNone then (
 R (.map none) H)
 else (
 clM H x0 λi1 H2=>
 R (.map (some i1)) H2))->
  CA en F.maps_Clone_map_intbool_int_bool [(.map x0)] H R:=by
 intro h;refine wpFn_ok (Z:=[]) (fn:=Go.Proofs.Tryz.f278) ?_ ?_ ?_
 ·kernel_rfl
 ·kernel_rfl
 ·apply turnInto h
  kernel_rfl
end
section
variable {H H':Heap} {R:Value->Heap->Prop} {L:List Asr} {g m i1 i3:Nat} {ks:List Int} {k a:Int} {S:Sm} {gc junk:List Value}
def kset (ks:List Int):KV:=ks.map λk=>(k,.bool true)
theorem kset_look:∀(ks:List Int)(k:Int),alook (kset ks) k=if k∈ks then some (.bool true) else none
 |[],k=>rfl
 |a::ks,k=>by
  show (if a=k then some (.bool true) else alook (kset ks) k)=_
  rw [kset_look ks k]
  by_cases h:a=k
  ·simp [h]
  ·have:¬k=a:=λe=>h e.symm
   simp [h,this]
theorem kset_put:∀{ks:List Int}{k:Int},k∉ks->aput (kset ks) k (.bool true)=kset (ks++[k])
 |[],k,_=>rfl
 |a::ks,k,h=>by
  simp only [List.mem_cons,not_or] at h
  show (if a=k then (k,.bool true)::kset ks else (a,.bool true)::aput (kset ks) k (.bool true))=_
  rw [if_neg (λe=>h.1 e.symm),kset_put h.2];rfl
theorem kset_del:∀(ks:List Int)(k:Int),adel (kset ks) k=kset (ks.erase k)
 |[],k=>rfl
 |a::ks,k=>by
  show (if a=k then kset ks else (a,.bool true)::adel (kset ks) k)=_
  rw [kset_del ks k,List.erase_cons]
  by_cases h:a=k
  ·simp [h]
  ·simp [h,kset]
theorem kset_len (ks:List Int):(kset ks).length=ks.length:=by simp [kset]
theorem inside_m {b:Nat}{K:Bool->Prop}(h:Sep H (im .i64 b (kset ks)::L))(a:Int)(hK:K (decide (a∈ks))):∃r,AS.mapGet H (.int .i64) (some b) (I a)=some r/\∃v,got r (.bool false) (.bool v)/\K v:=by
 refine im_look h a λr hr=>⟨decide (a∈ks),?_,hK⟩
 rw [kset_look] at hr;cases r with
 |none=>
  have:a∉ks:=λh=>by rw [if_pos h] at hr;simp at hr
  show Value.bool false=_;rw [decide_eq_false this]
 |some p=>
  have⟨n,u⟩:=p;by_cases ha:a∈ks
  ·rw [if_pos ha] at hr;simp only [Option.map_some,Option.some.injEq] at hr;show u=_;rw [hr,decide_eq_true ha]
  ·rw [if_neg ha] at hr;simp at hr
structure Wt where
 h:Int
 mb:Nat
 ws:List Int
structure Gr where
 n:Int
 mi:Nat
 ins:List Int
 q:List Wt
 S:Sm
abbrev Wt.row (w:Wt):List Value:=[I w.h,.map (some w.mb)]
def rows (q:List Wt):List Value:=(q.map Wt.row).flatten
theorem rows_len:∀q:List Wt,(rows q).length=q.length*2
 |[]=>rfl
 |w::q=>by
  have e:rows (w::q)=w.row++rows q:=rfl
  rw [e,List.length_append,rows_len q];simp;omega
theorem rows_append (q p:List Wt):rows (q++p)=rows q++rows p:=by simp [rows]
theorem rows_drop (q:List Wt)(j:Nat):(rows q).drop (j*2)=rows (q.drop j):=by
 have hw:∀c∈q.map Wt.row,c.length=2:=by intro c hc;obtain ⟨y,_,rfl⟩:=List.mem_map.1 hc;rfl
 have:=rowsFlat_drop (q.map Wt.row) j hw
 rw [<-List.map_drop] at this;exact this
def wA (w:Wt):Asr:=im .i64 w.mb (kset w.ws)
def wm (q:List Wt):Asr:=many (q.map wA)
theorem wm_out {q:List Wt}{j:Nat}{w:Wt}(hj:q[j]? =some w):Sep H (wm q::L)↔Sep H (wA w::many ((q.take j).map wA++(q.drop (j+1)).map wA)::L):=by
 have e:q.map wA=(q.take j).map wA++([wA w]++(q.drop (j+1)).map wA):=by
  have⟨hl,hg⟩:=List.getElem?_eq_some_iff.1 hj;have h1:q=q.take j++(w::q.drop (j+1)):=by rw [<-hg,<-List.drop_eq_getElem_cons hl,List.take_append_drop]
  conv=>lhs;rw [h1]
  rw [List.map_append];rfl
 unfold wm;rw [e,Sep.splitM,Sep.many1]
theorem wm_set {q:List Wt}{j:Nat}{w w':Wt}(hj:q[j]? =some w):Sep H (wm (q.set j w')::L)↔Sep H (wA w'::many ((q.take j).map wA++(q.drop (j+1)).map wA)::L):=by
 have hl:=(List.getElem?_eq_some_iff.1 hj).1;have h1:(q.set j w')[j]? =some w':=by rw [List.getElem?_set_self hl]
 rw [wm_out h1,List.take_set_of_le (Nat.le_refl _),List.drop_set_of_lt (by omega)]
theorem wm_filter {q:List Wt}(p:Wt->Bool)(h:Sep H (wm q::L)):Sep H (wm (q.filter p)::L):=by
 have h1:=Sep.many_iff.1 h;refine Sep.many_iff.2 ?_;have h2:Sep H (L++q.map wA):=h1.perm List.perm_append_comm;have hs:((q.filter p).map wA).Sublist (q.map wA):=List.Sublist.map _ List.filter_sublist;exact (Sep.sub hs _ h2).perm List.perm_append_comm
theorem wm_snoc {q:List Wt}{w:Wt}(h:Sep H (wA w::wm q::L)):Sep H (wm (q++[w])::L):=by
 refine Sep.many_iff.2 ?_;have h1:=Sep.many_iff.1 (Sep.up1 h);rw [List.map_append];have e:q.map wA++[w].map wA++L=q.map wA++(wA w::L):=by simp
 rw [e];exact h1
theorem row_at {b:Nat}{c:List Value}{q:List Wt}{j:Nat}{w:Wt}(hg:H.get b=some (.cells true 2 c))(hd:c.drop (j*2)=rows (q.drop j)++junk)(hl:j*2+2<=c.length)(hj:q[j]? =some w):H.cellsAt b (0+j*2) 2=some w.row:=by
 rw [cellsAt_of hg,Nat.zero_add];unfold takeAt;rw [if_pos hl,hd];have⟨hl,hg⟩:=List.getElem?_eq_some_iff.1 hj;rw [List.drop_eq_getElem_cons hl,hg];rfl
abbrev ints (t:List Int):List Value:=t.map λv=>I v
theorem ints_append (s t:List Int):ints (s++t)=ints s++ints t:=List.map_append
theorem sw1_s {w:Wt}{f:Option Nat}{hs:List Int}(h:Sep H (bx i1 (.cells true 0 [P g])::bx i3 (.cells true 0 [.slice (addr f) hs.length 0])::gl 1 f (ints hs)::wA w::bx g (.cells true 0 (P m::gc))::mem m S::L))(hf:f=none->hs=[])(hl:hs.length<1000000)
  (hK:w.ws≠[]->∀H',Sep H' (bx i1 (.cells true 0 [P g])::bx i3 (.cells true 0 [.slice (addr f) hs.length 0])::gl 1 f (ints hs)::wA w::bx g (.cells true 0 (P m::gc))::mem m S::L)->R (.bool false) H')
  (hF:w.ws=[]->∀H' f',Sep H' (bx i1 (.cells true 0 [P g])::bx i3 (.cells true 0 [.slice (addr (some f')) (hs++[w.h]).length 0])::gl 1 (some f') (ints (hs++[w.h]))::wA w::bx g (.cells true 0 (P m::gc))::mem m (S.free w.h).2::L)->R (.bool true) H') :
  CA en F.grace_Grace_sweep_1 [.agg #[I w.h,.map (some w.mb)],P i1,P i3] H R:=by
 apply vc_grace_Grace_sweep_1;refine Sep.nw h λiw H2 h2=>⟨_,Sep.ld0 h2 rfl,im_len (Sep.up4 h2) ?_⟩
 rw [kset_len];refine cond_of (λc=>?_) λc=>?_
 ·have c:w.ws≠[]:=λe=>by rw [e] at c;simp at c
  exact hK c _ h2.tail
 ·have c:w.ws=[]:=by
   simp only [decide_eq_false_iff_not] at c;exact List.eq_nil_of_length_eq_zero (by omega)
  have hB:=h2.bump 7;refine asAddr_in ⟨_,Sep.ld1 hB rfl,asAddr_in ⟨_,Sep.ld5 hB rfl,_,Sep.ld0 hB rfl,?_⟩⟩;refine free_s (Sep.up6 hB) λH13 h13=>⟨_,rfl,⟨asAddr_in ⟨_,_,Sep.ld3 h13 rfl,_,Sep.ld1 h13 rfl,Sep.nw h13 λi20 H21 h21=>⟨[I w.h],rowOf_bx (es:=1) (n:=1) (b:=i20) (Sep.get0 h21) (by decide) rfl,?_⟩⟩,trivial⟩⟩
  refine apd_gl (b:=f) (len:=hs.length) (n:=1) (cs:=ints hs) (new:=[I w.h]) (Sep.up5 h21) (λh=>by rw [hf h];rfl) (by decide) (by simp) (by decide) rfl (by omega) λH25 f' h25=>?_
  refine asAddr_in (Sep.st5 h25 (Nat.le_of_ble_eq_true rfl) λH28 h28=>hF c H28 f' ?_);have h29:=Sep.pick h28 8 [4,5,0,6,7,2] (by decide);rw [List.length_append,ints_append];exact h29
theorem take_drop_cons {α:Type}{q:List α}{j:Nat}{w:α}(h:q[j]? =some w):q.take (j+1)=q.take j++[w]:=by rw [List.take_add_one,h];rfl
def ne (w:Wt):Bool:= !w.ws.isEmpty
theorem ne_iff (w:Wt):ne w=true↔w.ws≠[]:=by unfold ne;cases w.ws<;>simp
def kept (q:List Wt):List Wt:=q.filter ne
def gone (q:List Wt):List Int:=(q.filter λw=> !ne w).map Wt.h
theorem kept_snoc (q:List Wt)(w:Wt):kept (q++[w])=if w.ws=[] then kept q else kept q++[w]:=by
 unfold kept;rw [List.filter_append];by_cases h:w.ws=[]
 ·have:ne w=false:=by unfold ne;rw [h];rfl
  simp [h,this]
 ·have:ne w=true:=(ne_iff w).2 h
  simp [h,this]
theorem gone_snoc (q:List Wt)(w:Wt):gone (q++[w])=if w.ws=[] then gone q++[w.h] else gone q:=by
 unfold gone;rw [List.filter_append,List.map_append];by_cases h:w.ws=[]
 ·have:ne w=false:=by unfold ne;rw [h];rfl
  simp [h,this]
 ·have:ne w=true:=(ne_iff w).2 h
  simp [h,this]
theorem kept_all {q:List Wt}(h:∀w∈q,w.ws≠[]):kept q=q:=List.filter_eq_self.2 λw hw=>(ne_iff w).2 (h w hw)
theorem gone_none {q:List Wt}(h:∀w∈q,w.ws≠[]):gone q=[]:=by
 unfold gone;rw [List.filter_eq_nil_iff.2 λw hw=>by rw [(ne_iff w).2 (h w hw)];decide];rfl
def frees (S:Sm)(hs:List Int):Sm:=hs.foldl (λS h=>(S.free h).2) S
theorem frees_snoc (S:Sm)(hs:List Int)(h:Int):frees S (hs++[h])=((frees S hs).free h).2:=by unfold frees;rw [List.foldl_append];rfl
abbrev swF (i1 i3:Nat):Value:=.func (.func F.grace_Grace_sweep_1) #[] #[P i1,P i3]
theorem idxSw_s {b:Option Nat}{q:List Wt}{n:Nat}(hn:n=q.length)(h:Sep H (bx i1 (.cells true 0 [P g])::bx i3 (.cells true 0 [.slice none 0 0])::gl 2 b (rows q++junk)::wm q::bx g (.cells true 0 (P m::gc))::mem m S::L))(hb:b=none->q=[])(hl:q.length<1000000)
  (hA:(∀w∈q,w.ws≠[])->∀H',Sep H' (bx i1 (.cells true 0 [P g])::bx i3 (.cells true 0 [.slice none 0 0])::gl 2 b (rows q++junk)::wm q::bx g (.cells true 0 (P m::gc))::mem m S::L)->R (I (-1)) H')
  (hF:∀(j:Nat) w,q[j]? =some w->w.ws=[]->(∀u∈q.take j,u.ws≠[])->∀H' f,Sep H' (bx i1 (.cells true 0 [P g])::bx i3 (.cells true 0 [.slice (addr (some f)) [w.h].length 0])::gl 1 (some f) (ints [w.h])::gl 2 b (rows q++junk)::wm q::bx g (.cells true 0 (P m::gc))::mem m (S.free w.h).2::L)->R (I j) H') :
  CA en F.slices_IndexFunc_grace_wait_grace_wait [.slice (addr b) n 0,swF i1 i3] H R:=by
 subst hn;apply vc_slices_IndexFunc_grace_wait_grace_wait;refine use_slices_IndexFunc_grace_wait_grace_wait_0 (λk t4 t8 H=>∃j:Nat,j<=q.length/\k=q.length - j/\t8=(j:Int)/\(∀u∈q.take j,u.ws≠[])/\Sep H (bx i1 (.cells true 0 [P g])::bx i3 (.cells true 0 [.slice none 0 0])::gl 2 b (rows q++junk)::wm q::bx g (.cells true 0 (P m::gc))::mem m S::L)) q.length ⟨0,by omega,rfl,rfl,by simp,h⟩ ?_;clear h;rintro k t4 t8 ys H3 ⟨j,hj,rfl,rfl,hall,hs⟩;refine cond_of (λh1=>?_) λh1=>?_
 ·have hj':j<q.length:=by simp only [decide_eq_true_eq] at h1;omega
  have⟨w,hw⟩:∃w,q[j]? =some w:=⟨_,List.getElem?_eq_getElem hj'⟩;cases b with
  |none=>rw [hb rfl] at hj';simp at hj'
  |some b=>
   have hg:H3.get b=some (.cells true 2 (rows q++junk)):=gl_get (Sep.up2 hs);have hrow:=row_at (junk:=junk) (j:=j) (w:=w) hg (by rw [List.drop_append_of_le_length (by rw [rows_len];omega),rows_drop]) (by rw [List.length_append,rows_len];omega) hw;refine ⟨by unfold inB;omega,asRow_in ⟨_,_,hrow,asFn_in ⟨Option.isSome_iff_exists.1 (by kernel_rfl),?_⟩⟩⟩;have h2:=(wm_out hw).1 (Sep.up3 hs);have h3:Sep H3 (bx i1 (.cells true 0 [P g])::bx i3 (.cells true 0 [.slice (addr none) ([]:List Int).length 0])::gl 1 none (ints [])::wA w::bx g (.cells true 0 (P m::gc))::mem m S::many ((q.take j).map wA++(q.drop (j+1)).map wA)::gl 2 (some b) (rows q++junk)::L):=by
    have h4:=Sep.pick h2 7 [2,3,0,5,6,1,4] (by decide);have h5:Sep H3 (bx i1 (.cells true 0 [P g])::bx i3 (.cells true 0 [.slice none 0 0])::wA w::bx g (.cells true 0 (P m::gc))::mem m S::many ((q.take j).map wA++(q.drop (j+1)).map wA)::gl 2 (some b) (rows q++junk)::L):=h4;exact Sep.up2 (Sep.up2 (gl_none.2 h5))
   refine sw1_s h3 (λ_=>rfl) (by simp) (λhne H9 h9=>⟨_,rfl,cond_no rfl ?_⟩) λhe H9 f h9=>⟨_,rfl,cond_yes rfl ?_⟩
   ·refine ⟨q.length - (j+1),by omega,j+1,by omega,rfl,?_,?_,?_⟩
    ·rw [wrap_i64 (by omega)];omega
    ·rw [take_drop_cons hw];intro u hu;rcases List.mem_append.1 hu with hu|hu
     ·exact hall u hu
     ·simp at hu;subst hu;exact hne
    ·have h10:=Sep.pick h9 8 [3,6,0,1,7,4,5] (by decide);have h11:Sep H9 (wA w::many ((q.take j).map wA++(q.drop (j+1)).map wA)::bx i1 (.cells true 0 [P g])::bx i3 (.cells true 0 [.slice none 0 0])::gl 2 (some b) (rows q++junk)::bx g (.cells true 0 (P m::gc))::mem m S::L):=h10;exact Sep.pick ((wm_out hw).2 h11) 6 [1,2,3,0,4,5] (by decide)
   ·refine asInt_in ?_;refine hF j w hw he hall _ f ?_;have h10:=Sep.pick h9 8 [3,6,0,1,2,7,4,5] (by decide);have h11:Sep H9 (wA w::many ((q.take j).map wA++(q.drop (j+1)).map wA)::bx i1 (.cells true 0 [P g])::bx i3 (.cells true 0 [.slice (addr (some f)) [w.h].length 0])::gl 1 (some f) (ints [w.h])::gl 2 (some b) (rows q++junk)::bx g (.cells true 0 (P m::gc))::mem m (S.free w.h).2::L):=h10;exact Sep.pick ((wm_out hw).2 h11) 7 [1,2,3,4,0,5,6] (by decide)
 ·obtain rfl:j=q.length:=by simp only [decide_eq_false_iff_not] at h1;omega
  rw [List.take_length] at hall;exact asInt_in (hA hall H3 hs)
end
section
variable {H H':Heap} {R:Value->Heap->Prop} {L:List Asr} {g m i1 i3:Nat} {k:Int} {S:Sm} {gc junk:List Value}
theorem kept_gone:∀q:List Wt,(kept q).length+(gone q).length=q.length
 |[]=>rfl
 |w::q=>by
  have ih:=kept_gone q
  unfold kept gone at ih⊢
  rw [List.filter_cons,List.filter_cons]
  cases ne w<;>simp<;>simp at ih<;>omega
theorem delSw_s {b:Option Nat}{q:List Wt}{n:Nat}(hn:n=q.length)(h:Sep H (bx i1 (.cells true 0 [P g])::bx i3 (.cells true 0 [.slice none 0 0])::gl 2 b (rows q++junk)::wm q::bx g (.cells true 0 (P m::gc))::mem m S::L))(hb:b=none->q=[])(hbj:b=none->junk=[])(hl:q.length<1000000)
  (hR:∀H' f junk',(f=none->gone q=[])->(b=none->junk'=[])->Sep H' (bx i1 (.cells true 0 [P g])::bx i3 (.cells true 0 [.slice (addr f) (gone q).length 0])::gl 1 f (ints (gone q))::gl 2 b (rows (kept q)++junk')::wm (kept q)::bx g (.cells true 0 (P m::gc))::mem m (frees S (gone q))::L)->R (.slice (addr b) (kept q).length 0) H') :
  CA en F.slices_DeleteFunc_grace_wait_grace_wait [.slice (addr b) n 0,swF i1 i3] H R:=by
 apply vc_slices_DeleteFunc_grace_wait_grace_wait;refine idxSw_s hn h hb hl (λhall H2 h2=>⟨_,rfl,cond_yes rfl ?_⟩) λj0 w0 hw0 he0 hpre H2 f0 h2=>⟨_,rfl,cond_no (by simp) ?_⟩
 ·have:=hR H2 none junk (λ_=>gone_none hall) hbj
  rw [kept_all hall,gone_none hall] at this;rw [hn];refine this ?_;have h3:Sep H2 (gl 1 none (ints [])::bx i1 (.cells true 0 [P g])::bx i3 (.cells true 0 [.slice none 0 0])::gl 2 b (rows q++junk)::wm q::bx g (.cells true 0 (P m::gc))::mem m S::L):=gl_none.2 h2;exact Sep.up2 (Sep.up2 h3)
 have hj0:=(List.getElem?_eq_some_iff.1 hw0).1;subst hn;cases b with
 |none=>rw [hb rfl] at hj0;simp at hj0
 |some b=>
  have k0:kept (q.take (j0+1))=q.take j0:=by rw [take_drop_cons hw0,kept_snoc,if_pos he0,kept_all hpre]
  have g0:gone (q.take (j0+1))=[w0.h]:=by rw [take_drop_cons hw0,gone_snoc,if_pos he0,gone_none hpre];rfl
  have hrl:=rows_len q;refine use_slices_DeleteFunc_grace_wait_grace_wait_0 (λk t5 t6 H=>∃(j f:Nat)(C:List Value),j<=q.length/\k=q.length - j/\t6=(j:Int)/\t5=((kept (q.take j)).length:Int)/\0<(gone (q.take j)).length/\C.length=(rows q++junk).length/\C.take ((kept (q.take j)).length*2)=rows (kept (q.take j))/\C.drop (j*2)=rows (q.drop j)++junk/\
   Sep H (bx i1 (.cells true 0 [P g])::bx i3 (.cells true 0 [.slice (addr (some f)) (gone (q.take j)).length 0])::gl 1 (some f) (ints (gone (q.take j)))::bx b (.cells true 2 C)::wm q::bx g (.cells true 0 (P m::gc))::mem m (frees S (gone (q.take j)))::L)) (q.length - (j0+1))
   ⟨j0+1,f0,rows q++junk,by omega,rfl,?_,?_,?_,rfl,?_,?_,?_⟩ ?_
  ·rw [wrap_i64 (by omega)];omega
  ·rw [k0,List.length_take];omega
  ·rw [g0];simp
  ·rw [k0,List.take_append_of_le_length (by rw [hrl,List.length_take];omega)];have e:q=q.take j0++q.drop j0:=(List.take_append_drop _ _).symm
   conv=>lhs;rw [e,rows_append]
   rw [List.take_append_of_le_length (by rw [rows_len];simp),List.take_of_length_le (by rw [rows_len];simp)]
  ·rw [List.drop_append_of_le_length (by rw [hrl];omega),rows_drop]
  ·rw [g0];have h3:=Sep.pick h2 7 [0,1,2,3,4,5,6] (by decide);have h4:Sep H2 (bx i1 (.cells true 0 [P g])::bx i3 (.cells true 0 [.slice (addr (some f0)) [w0.h].length 0])::gl 1 (some f0) (ints [w0.h])::gl 2 (some b) (rows q++junk)::wm q::bx g (.cells true 0 (P m::gc))::mem m (S.free w0.h).2::L):=h3;exact Sep.pick (gl_some.1 (Sep.up3 h4)) 7 [1,2,3,0,4,5,6] (by decide)
  clear h h2 hw0 he0 hpre hj0 k0 g0;rintro k t5 t6 ys H3 ⟨j,f,C,hj,rfl,rfl,rfl,hg0,hCl,hCt,hCd,hs⟩;have hkg:=kept_gone (q.take j);rw [List.length_take,Nat.min_eq_left hj] at hkg;have hCl':C.length=q.length*2+junk.length:=by rw [hCl,List.length_append,hrl]
  refine cond_of (λh1=>?_) λh1=>?_
  ·have hj':j<q.length:=by simp only [decide_eq_true_eq] at h1;omega
   have⟨w,hw⟩:∃w,q[j]? =some w:=⟨_,List.getElem?_eq_getElem hj'⟩;have htk:=take_drop_cons hw;have hrow:=row_at (junk:=junk) (j:=j) (w:=w) (Sep.get3 hs) hCd (by omega) hw;have hw1:IntKind.i64.wrap ((j:Int)+1)=((j+1:Nat):Int):=by rw [wrap_i64 (by omega)];omega
   refine ⟨by unfold inB;omega,asRow_in ⟨_,_,hrow,Sep.nw hs λi5 H6 h6=>Sep.st0 h6 (Nat.le_of_ble_eq_true rfl) λH7 h7=>⟨_,_,Sep.lds0 h7 rfl,asFn_in ⟨Option.isSome_iff_exists.1 (by kernel_rfl),?_⟩⟩⟩⟩;have h7:Sep H7 (bx i5 (.cells true 0 w.row)::bx i1 (.cells true 0 [P g])::bx i3 (.cells true 0 [.slice (addr (some f)) (gone (q.take j)).length 0])::gl 1 (some f) (ints (gone (q.take j)))::bx b (.cells true 2 C)::wm q::bx g (.cells true 0 (P m::gc))::mem m (frees S (gone (q.take j)))::L):=h7;have h8:=(wm_out hw).1 (Sep.up5 h7);have h9:Sep H7 (bx i1 (.cells true 0 [P g])::bx i3 (.cells true 0 [.slice (addr (some f)) (gone (q.take j)).length 0])::gl 1 (some f) (ints (gone (q.take j)))::wA w::bx g (.cells true 0 (P m::gc))::mem m (frees S (gone (q.take j)))::bx i5 (.cells true 0 w.row)::many ((q.take j).map wA++(q.drop (j+1)).map wA)::bx b (.cells true 2 C)::L):=Sep.pick h8 9 [3,4,5,0,7,8,2,1,6] (by decide);refine sw1_s h9 (λh=>by cases h) (by omega) (λhne H14 h14=>⟨_,rfl,cond_yes rfl ?_⟩) λhe H14 f' h14=>⟨_,rfl,cond_no rfl ?_⟩
   ·have ek:kept (q.take (j+1))=kept (q.take j)++[w]:=by rw [htk,kept_snoc,if_neg hne]
    have eg:gone (q.take (j+1))=gone (q.take j):=by rw [htk,gone_snoc,if_neg hne]
    have h15:Sep H14 (bx b (.cells true 2 C)::wA w::many ((q.take j).map wA++(q.drop (j+1)).map wA)::bx i1 (.cells true 0 [P g])::bx i3 (.cells true 0 [.slice (addr (some f)) (gone (q.take j)).length 0])::gl 1 (some f) (ints (gone (q.take j)))::bx g (.cells true 0 (P m::gc))::mem m (frees S (gone (q.take j)))::bx i5 (.cells true 0 w.row)::L):=Sep.pick h14 9 [8,3,7,0,1,2,4,5,6] (by decide);refine ⟨_,_,Sep.lds8 h15 rfl,by unfold inB;omega,asRow_in (Sep.st0 h15 (by rw [Int.toNat_natCast];simp only [List.length_cons,List.length_nil];omega) λH20 h20=>?_)⟩;rw [Nat.zero_add,Int.toNat_natCast] at h20;have h21:Sep H20 (wA w::many ((q.take j).map wA++(q.drop (j+1)).map wA)::bx i1 (.cells true 0 [P g])::bx i3 (.cells true 0 [.slice (addr (some f)) (gone (q.take j)).length 0])::gl 1 (some f) (ints (gone (q.take j)))::bx b (.cells true 2 (setAt C ((kept (q.take j)).length*2) w.row))::bx g (.cells true 0 (P m::gc))::mem m (frees S (gone (q.take j)))::L):=Sep.pick h20 9 [1,2,3,4,5,0,6,7] (by decide);have h22:=(wm_out hw).2 h21;have wl:w.row.length=2:=rfl;refine ⟨q.length - (j+1),by omega,j+1,f,setAt C ((kept (q.take j)).length*2) w.row,by omega,rfl,hw1,?_,?_,?_,?_,?_,?_⟩
    ·rw [ek,List.length_append,wrap_i64 (by omega)];simp
    ·rw [eg];exact hg0
    ·rw [setAt_length];exact hCl
    ·rw [ek,List.length_append,rows_append]
     have:=setAt_take' w.row C ((kept (q.take j)).length*2) (by rw [wl];omega)
     rw [wl,hCt] at this;rw [show ((kept (q.take j)).length+[w].length)*2=(kept (q.take j)).length*2+2 by simp;omega,this];rfl
    ·rw [setAt_drop' _ _ _ _ (by rw [wl];omega)]
     have:C.drop ((j+1)*2)=(C.drop (j*2)).drop 2:=by rw [List.drop_drop];congr 1;omega
     rw [this,hCd,List.drop_append_of_le_length (by rw [rows_len,List.length_drop];omega)];have h2:=rows_drop (q.drop j) 1;rw [Nat.one_mul,List.drop_drop] at h2;rw [h2]
    ·rw [eg];exact Sep.pick h22 7 [1,2,3,4,0,5,6] (by decide)
   ·have ek:kept (q.take (j+1))=kept (q.take j):=by rw [htk,kept_snoc,if_pos he]
    have eg:gone (q.take (j+1))=gone (q.take j)++[w.h]:=by rw [htk,gone_snoc,if_pos he]
    have h15:Sep H14 (wA w::many ((q.take j).map wA++(q.drop (j+1)).map wA)::bx i1 (.cells true 0 [P g])::bx i3 (.cells true 0 [.slice (addr (some f')) (gone (q.take j)++[w.h]).length 0])::gl 1 (some f') (ints (gone (q.take j)++[w.h]))::bx b (.cells true 2 C)::bx g (.cells true 0 (P m::gc))::mem m ((frees S (gone (q.take j))).free w.h).2::L):=Sep.pick h14 9 [3,7,0,1,2,8,4,5] (by decide);have h16:=(wm_out hw).2 h15;refine ⟨q.length - (j+1),by omega,j+1,f',C,by omega,rfl,hw1,by rw [ek],by rw [eg];simp,hCl,by rw [ek];exact hCt,?_,?_⟩
    ·have:C.drop ((j+1)*2)=(C.drop (j*2)).drop 2:=by rw [List.drop_drop];congr 1;omega
     rw [this,hCd,List.drop_append_of_le_length (by rw [rows_len,List.length_drop];omega)];have h2:=rows_drop (q.drop j) 1;rw [Nat.one_mul,List.drop_drop] at h2;rw [h2]
    ·rw [eg,frees_snoc];exact Sep.pick h16 7 [1,2,3,4,0,5,6] (by decide)
  ·obtain rfl:j=q.length:=by simp only [decide_eq_false_iff_not] at h1;omega
   rw [List.take_length] at hCt hg0 hs hkg⊢;refine asInt_in ⟨by unfold inS;omega,⟨⟨_,_,_,Sep.get3 hs,.inr rfl⟩,?_⟩⟩;rw [Int.toNat_natCast];have hz:q.length - (kept q).length=(q.length - (kept q).length - 1)+1:=by omega
   generalize q.length - (kept q).length - 1=z at hz;rw [hz];have hcl:clearA en H3 123 (.slice (some ⟨b,0+(kept q).length*2,none⟩) (z+1) 0)=storeCellsA H3 b (0+(kept q).length*2) (reps (z+1) [I 0,.map none]):=by kernel_rfl
   have hrz:(reps (z+1) [I 0,.map none]).length=(z+1)*2:=by
    have:∀n,(reps n [I 0,Value.map none]).length=n*2:=by
     intro n
     induction n with
     |zero=>rfl
     |succ n ih=>simp only [reps,List.length_append,ih,List.length_cons,List.length_nil];omega
    exact this _
   show asSome (clearA en H3 123 (.slice (some ⟨b,0+(kept q).length*2,none⟩) (z+1) 0)) _;rw [hcl];have hst:stc H3 b (0+(kept q).length*2) (reps (z+1) [I 0,.map none]) λH8=>inS ((kept q).length:Int) q.length/\slK H8 (some ⟨b,0,none⟩) 2 0 (kept q).length λv9=>R v9 H8:=by
    refine Sep.st3 hs (by rw [hrz];omega) λH8 h8=>⟨by unfold inS;omega,⟨⟨_,_,_,Sep.get3 h8,.inr rfl⟩,?_⟩⟩
    have ht:(setAt C (0+(kept q).length*2) (reps (z+1) [I 0,.map none])).take ((kept q).length*2)=rows (kept q):=by rw [setAt_take0 _ _ _ _ (by omega),hCt]
    have⟨J,hsp⟩:∃J,setAt C (0+(kept q).length*2) (reps (z+1) [I 0,.map none])=rows (kept q)++J:=⟨(setAt C (0+(kept q).length*2) (reps (z+1) [I 0,.map none])).drop ((kept q).length*2),by rw [<-ht,List.take_append_drop]⟩;rw [hsp] at h8;refine hR H8 (some f) J (λh=>by cases h) (λh=>by cases h) ?_;have h9:=gl_some.2 (Sep.up3 h8);have h10:Sep H8 (wm q::bx i1 (.cells true 0 [P g])::bx i3 (.cells true 0 [.slice (addr (some f)) (gone q).length 0])::gl 1 (some f) (ints (gone q))::gl 2 (some b) (rows (kept q)++J)::bx g (.cells true 0 (P m::gc))::mem m (frees S (gone q))::L):=Sep.pick h9 7 [4,1,2,3,0,5,6] (by decide);exact Sep.pick (wm_filter ne h10) 7 [1,2,3,4,0,5,6] (by decide)
   have⟨H8,e8,k8⟩:=stc_ok hst;rw [e8];exact k8
end
section
variable {H H':Heap} {R:Value->Heap->Prop} {L:List Asr} {g m i1 i3:Nat} {k a:Int} {S:Sm} {junk:List Value} {b:Option Nat} {G:Gr}
abbrev GS (g m:Nat)(b:Option Nat)(junk:List Value)(G:Gr)(L:List Asr):List Asr:=
 bx g (.cells true 0 [P m,I G.n,.map (some G.mi),.slice (addr b) G.q.length 0])::im .i64 G.mi (kset G.ins)::gl 2 b (rows G.q++junk)::wm G.q::mem m G.S::L
structure IsG (H:Heap)(g m:Nat)(G:Gr)(L:List Asr):Prop where
 ex:∃b junk,(b=none->G.q=[])/\(b=none->junk=[])/\Sep H (GS g m b junk G L)
def Gr.swept (G:Gr):Gr:={G with q:=kept G.q,S:=frees G.S (gone G.q)}
theorem sweep_s (hg:IsG H g m G L)(hl:G.q.length<100000)(hR:∀H' f,(f=none->gone G.q=[])->IsG H' g m G.swept (gl 1 f (ints (gone G.q))::L)->R (.slice (addr f) (gone G.q).length 0) H'):CA en F.grace_Grace_sweep [P g] H R:=by
 have⟨b,junk,hb,hbj,h⟩:=hg.ex;apply vc_grace_Grace_sweep;refine Sep.nw h λi1 H2 h2=>Sep.nw h2 λi3 H4 h4=>?_
 have hB:=h4.bump 10;refine ⟨_,Sep.ld1 hB rfl,_,Sep.ld1 hB rfl,asAddr_in ⟨_,_,Sep.ld2 hB rfl,?_⟩⟩;have h5:Sep (H4.bump 10) (bx i1 (.cells true 0 [P g])::bx i3 (.cells true 0 [.slice none 0 0])::gl 2 b (rows G.q++junk)::wm G.q::bx g (.cells true 0 (P m::[I G.n,.map (some G.mi),.slice (addr b) G.q.length 0]))::mem m G.S::im .i64 G.mi (kset G.ins)::L):=Sep.pick hB 7 [1,0,4,5,2,6,3] (by decide);refine delSw_s rfl h5 hb hbj (by omega) λH12 f junk' hf hj h12=>⟨_,_,rfl,asAddr_in (Sep.st5 h12 (Nat.le_of_ble_eq_true rfl) λH17 h17=>⟨⟨_,_,Sep.ld1 h17 rfl,Sep.st1 h17 (Nat.le_of_ble_eq_true rfl) λH22 h22=>⟨_,_,Sep.ld1 h22 rfl,?_⟩⟩,⟨⟨_,Sep.ld1 hB rfl,rfl⟩,⟨_,Sep.ld0 h12 rfl,rfl⟩,trivial⟩,trivial⟩)⟩
 refine hR H22 f hf ⟨b,junk',λe=>?_,hj,Sep.pick h22 8 [5,7,3,4,6,2] (by decide)⟩;show kept G.q=[];rw [hb e];rfl
theorem waits_s (hg:IsG H g m G L)(hR:R (I G.q.length) H):CA en F.grace_Grace_Waits [P g] H R:=by
 have⟨b,junk,hb,hbj,h⟩:=hg.ex;apply vc_grace_Grace_Waits;exact asAddr_in ⟨_,_,Sep.ld0 h rfl,hR⟩
def Gr.enter (G:Gr)(a:Int):Bool×Gr:=if a<0∨G.n<=a∨a∈G.ins then (false,G) else (true,{G with ins:=G.ins++[a]})
theorem enter_s (hg:IsG H g m G L)(hR:∀H',IsG H' g m (G.enter a).2 L->R (.bool (G.enter a).1) H'):CA en F.grace_Grace_Enter [P g,I a] H R:=by
 have⟨b,junk,hb,hbj,h⟩:=hg.ex;apply vc_grace_Grace_Enter;have no:(a<0∨G.n<=a∨a∈G.ins)->R (.bool false) H:=λhc=>by
  have:=hR H
  unfold Gr.enter at this;rw [if_pos hc] at this;exact this hg
 refine cond_of (λc=>no (.inl (by simpa using c))) λc=>asAddr_in ⟨_,Sep.ld0 h rfl,cond_of (λd=>no (.inr (.inl (by simpa using d)))) λd=>asAddr_in ⟨_,Sep.ld0 h rfl,inside_m (Sep.up1 h) a (cond_of (λe=>no (.inr (.inr (by simpa using e)))) λe=>asAddr_in ⟨_,Sep.ld0 h rfl,im_put (Sep.up1 h) λH12 h12=>?_⟩)⟩⟩
 have c:¬a<0:=by simpa using c
 have d:¬G.n<=a:=by simpa using d
 have e:a∉G.ins:=by simpa using e
 have:=hR H12
 unfold Gr.enter at this;rw [if_neg (by simp only [not_or];exact ⟨c,d,e⟩)] at this;rw [kset_put e] at h12;exact this ⟨b,junk,hb,hbj,Sep.up1 h12⟩
def er (a:Int)(w:Wt):Wt:={w with ws:=w.ws.erase a}
theorem rows_er (a:Int)(q:List Wt):rows (q.map (er a))=rows q:=by
 unfold rows;rw [List.map_map];rfl
def Gr.left (G:Gr)(a:Int):Gr:={G with ins:=G.ins.erase a,q:=G.q.map (er a)}
def Gr.leave (G:Gr)(a:Int):List Int×Gr:=if a∈G.ins then (gone (G.left a).q,(G.left a).swept) else ([],G)
theorem leave_s (hg:IsG H g m G L)(hl:G.q.length<100000)(hR:∀H' f,(f=none->(G.leave a).1=[])->IsG H' g m (G.leave a).2 (gl 1 f (ints (G.leave a).1)::L)->R (.slice (addr f) (G.leave a).1.length 0) H'):CA en F.grace_Grace_Leave [P g,I a] H R:=by
 have⟨b,junk,hb,hbj,h⟩:=hg.ex;apply vc_grace_Grace_Leave;refine asAddr_in ⟨_,Sep.ld0 h rfl,inside_m (Sep.up1 h) a (cond_of (λc=>?_) λc=>?_)⟩
 ·have c:a∉G.ins:=by simpa using c
  have:=hR H none
  unfold Gr.leave at this;rw [if_neg c] at this;refine this (λ_=>rfl) ⟨b,junk,hb,hbj,?_⟩;exact Sep.pick (gl_none.2 h:Sep H (gl 1 none (ints [])::GS g m b junk G L)) 6 [1,2,3,4,5,0] (by decide)
 ·have c:a∈G.ins:=by simpa using c
  refine asAddr_in ⟨_,Sep.ld0 h rfl,im_del (Sep.up1 h) λH9 h9=>?_⟩;rw [kset_del] at h9;have h9:Sep H9 (bx g (.cells true 0 [P m,I G.n,.map (some G.mi),.slice (addr b) G.q.length 0])::im .i64 G.mi (kset (G.ins.erase a))::gl 2 b (rows G.q++junk)::wm G.q::mem m G.S::L):=Sep.up1 h9;refine asAddr_in ⟨_,_,Sep.ld0 h9 rfl,?_⟩;refine use_grace_Grace_Leave_0 (λk t24 H=>∃j:Nat,j<=G.q.length/\k=G.q.length - j/\t24=(j:Int)/\Sep H (bx g (.cells true 0 [P m,I G.n,.map (some G.mi),.slice (addr b) G.q.length 0])::im .i64 G.mi (kset (G.ins.erase a))::gl 2 b (rows G.q++junk)::wm ((G.q.take j).map (er a)++G.q.drop j)::mem m G.S::L)) G.q.length ⟨0,by omega,rfl,rfl,by simpa using h9⟩ ?_;clear h h9;rintro k t24 ys H3 ⟨j,hj,rfl,rfl,hs⟩;refine cond_of (λh1=>?_) λh1=>?_
  ·have hj':j<G.q.length:=by simp only [decide_eq_true_eq] at h1;omega
   have⟨w,hw⟩:∃w,G.q[j]? =some w:=⟨_,List.getElem?_eq_getElem hj'⟩;cases b with
   |none=>rw [hb rfl] at hj';simp at hj'
   |some b=>
    have hgb:H3.get b=some (.cells true 2 (rows G.q++junk)):=gl_get (Sep.up2 hs);have hrow:=row_at (junk:=junk) (j:=j) (w:=w) hgb (by rw [List.drop_append_of_le_length (by rw [rows_len];omega),rows_drop]) (by rw [List.length_append,rows_len];omega) hw;have hlt:((G.q.take j).map (er a)).length=j:=by rw [List.length_map,List.length_take];omega
    have hw':((G.q.take j).map (er a)++G.q.drop j)[j]? =some w:=by
     rw [List.getElem?_append_right (by omega),hlt,Nat.sub_self,List.getElem?_drop,Nat.add_zero];exact hw
    refine ⟨by unfold inB;omega,asRow_in ⟨_,_,hrow,Sep.nw hs λi5 H6 h6=>Sep.st0 h6 (Nat.le_of_ble_eq_true rfl) λH7 h7=>⟨_,Sep.ld0 h7 rfl,?_⟩⟩⟩;have h8:=(wm_out hw').1 (Sep.up4 h7);refine im_del h8 λH9 h9=>⟨G.q.length - (j+1),by omega,j+1,by omega,rfl,?_,?_⟩
    ·rw [wrap_i64 (by omega)];omega
    ·rw [kset_del] at h9;have h10:=(wm_set (w':=er a w) hw').2 h9;have e:((G.q.take j).map (er a)++G.q.drop j).set j (er a w)=(G.q.take (j+1)).map (er a)++G.q.drop (j+1):=by
      have⟨hl2,hg2⟩:=List.getElem?_eq_some_iff.1 hw;rw [List.set_append_right _ _ (by omega),hlt,Nat.sub_self,List.drop_eq_getElem_cons hl2,List.set_cons_zero,take_drop_cons hw,List.map_append,List.append_assoc];rfl
     rw [e] at h10;exact Sep.pick h10 6 [2,3,4,0,5] (by decide)
  ·obtain rfl:j=G.q.length:=by simp only [decide_eq_false_iff_not] at h1;omega
   rw [List.take_length,List.drop_length,List.append_nil] at hs;have hL:IsG H3 g m (G.left a) L:=⟨b,junk,λe=>by show G.q.map _=[];rw [hb e];rfl,hbj,by
    show Sep H3 (bx g (.cells true 0 [P m,I G.n,.map (some G.mi),.slice (addr b) (G.q.map (er a)).length 0])::im .i64 G.mi (kset (G.ins.erase a))::gl 2 b (rows (G.q.map (er a))++junk)::wm (G.q.map (er a))::mem m G.S::L);rw [rows_er,List.length_map];exact hs⟩
   have hlv:G.leave a=(gone (G.left a).q,(G.left a).swept):=if_pos c;rw [hlv] at hR;refine sweep_s hL (by show (G.q.map (er a)).length<_;rw [List.length_map];exact hl) λH17 f hf h17=>⟨_,_,rfl,hR H17 f hf h17⟩
theorem def1_s {w:Wt}{h:Int}(hs:Sep H (bx i1 (.cells true 0 [I h])::L))(hR:∀H',Sep H' (bx i1 (.cells true 0 [I h])::L)->R (.bool (w.h==h)) H'):CA en F.grace_Grace_Defer_1 [.agg #[I w.h,.map (some w.mb)],P i1] H R:=by
 apply vc_grace_Grace_Defer_1;exact Sep.nw hs λi H2 h2=>⟨_,Sep.ld0 h2 rfl,asAddr_in ⟨_,Sep.ld1 h2 rfl,hR _ h2.tail⟩⟩
theorem hasDef_s {q:List Wt}{n:Nat}{h:Int}(hn:n=q.length)(hs:Sep H (bx i1 (.cells true 0 [I h])::gl 2 b (rows q++junk)::L))(hb:b=none->q=[])(hl:q.length<1000000)
  (hR:∀H',Sep H' (bx i1 (.cells true 0 [I h])::gl 2 b (rows q++junk)::L)->R (.bool (decide (h∈q.map Wt.h))) H') :
  CA en F.slices_ContainsFunc_grace_wait_grace_wait [.slice (addr b) n 0,.func (.func F.grace_Grace_Defer_1) #[] #[P i1]] H R:=by
 subst hn;apply vc_slices_ContainsFunc_grace_wait_grace_wait;apply vc_slices_IndexFunc_grace_wait_grace_wait;refine use_slices_IndexFunc_grace_wait_grace_wait_0 (λk t4 t8 H=>∃j:Nat,j<=q.length/\k=q.length - j/\t8=(j:Int)/\(∀u∈q.take j,u.h≠h)/\Sep H (bx i1 (.cells true 0 [I h])::gl 2 b (rows q++junk)::L)) q.length ⟨0,by omega,rfl,rfl,by simp,hs⟩ ?_;clear hs;rintro k t4 t8 ys H3 ⟨j,hj,rfl,rfl,hall,hs⟩;refine cond_of (λh1=>?_) λh1=>?_
 ·have hj':j<q.length:=by simp only [decide_eq_true_eq] at h1;omega
  have⟨w,hw⟩:∃w,q[j]? =some w:=⟨_,List.getElem?_eq_getElem hj'⟩;cases b with
  |none=>rw [hb rfl] at hj';simp at hj'
  |some b=>
   have hg:H3.get b=some (.cells true 2 (rows q++junk)):=gl_get (Sep.up1 hs);have hrow:=row_at (junk:=junk) (j:=j) (w:=w) hg (by rw [List.drop_append_of_le_length (by rw [rows_len];omega),rows_drop]) (by rw [List.length_append,rows_len];omega) hw;refine ⟨by unfold inB;omega,asRow_in ⟨_,_,hrow,asFn_in ⟨Option.isSome_iff_exists.1 (by kernel_rfl),def1_s hs λH9 h9=>⟨_,rfl,cond_of (λe=>?_) λe=>?_⟩⟩⟩⟩
   ·have e:w.h=h:=by simpa using e
    refine asInt_in ⟨_,rfl,?_⟩
    have:=hR H9 h9
    rw [decide_eq_true (List.mem_map.2 ⟨w,List.mem_of_getElem? hw,e⟩)] at this;have e2:decide (((j:Nat):Int)≥0)=true:=by simp
    rw [e2];exact this
   ·have e:¬w.h=h:=by simpa using e
    refine ⟨q.length - (j+1),by omega,j+1,by omega,rfl,?_,?_,h9⟩
    ·rw [wrap_i64 (by omega)];omega
    ·rw [take_drop_cons hw];intro u hu;rcases List.mem_append.1 hu with hu|hu
     ·exact hall u hu
     ·simp at hu;subst hu;exact e
 ·obtain rfl:j=q.length:=by simp only [decide_eq_false_iff_not] at h1;omega
  rw [List.take_length] at hall;refine asInt_in ⟨_,rfl,?_⟩
  have:=hR H3 hs
  rw [decide_eq_false (λhc=>by have⟨w,hw,e⟩:=List.mem_map.1 hc;exact hall w hw e)] at this;exact this
theorem im_clone {ik:IntKind}{b:Nat}{l:KV}(h:Sep H (im ik b l::L)){K:Nat->Heap->Prop}(hK:∀b' H',Sep H' (im ik b' l::im ik b l::L)->K b' H'):clM H (some b) K:=by
 have⟨es,c,h1,h2⟩:=h.head;refine ⟨b,es,c,rfl,h1,Sep.nw h λb' H' h'=>hK b' H' ?_⟩;have h3:H'.get b'=some (.map es c):=Sep.get0 h';exact h'.upd (S:=[]) (Frm.refl _ _) (by simp) ⟨es,c,h3,h2⟩ (by simp [im,bx]) (by simp [im]) (by
  intro j hj;simp only [im,List.mem_singleton] at hj;subst hj;exact h'.footlt (by simp [bx]))
def Gr.add (G:Gr)(h:Int)(mb:Nat):Gr:={G with q:=G.q++[⟨h,mb,G.ins⟩]}
def Gr.defer (G:Gr)(h:Int)(mb:Nat):List Int×Gr:=if G.S.size h=0∨h∈G.q.map Wt.h then ([],G) else (gone (G.add h mb).q,(G.add h mb).swept)
theorem defer_s {h:Int}(hg:IsG H g m G L)(hl:G.q.length<10000)(hR:∀H' f mb,(f=none->(G.defer h mb).1=[])->IsG H' g m (G.defer h mb).2 (gl 1 f (ints (G.defer h mb).1)::L)->R (.slice (addr f) (G.defer h mb).1.length 0) H'):CA en F.grace_Grace_Defer [P g,I h] H R:=by
 have⟨b,junk,hb,hbj,hs⟩:=hg.ex;apply vc_grace_Grace_Defer;have no:∀H',(G.S.size h=0∨h∈G.q.map Wt.h)->Sep H' (GS g m b junk G L)->R (.slice none 0 0) H':=λH' hc h'=>by
  have:=hR H' none 0
  unfold Gr.defer at this;rw [if_pos hc] at this;refine this (λ_=>rfl) ⟨b,junk,hb,hbj,?_⟩;exact Sep.pick (gl_none.2 h':Sep H' (gl 1 none (ints [])::GS g m b junk G L)) 6 [1,2,3,4,5,0] (by decide)
 refine Sep.nw hs λi1 H2 h2=>?_
 have hB:=h2.bump 15;refine asAddr_in ⟨_,Sep.ld1 hB rfl,_,Sep.ld0 hB rfl,?_⟩;refine size_s (Sep.up5 hB) ⟨_,rfl,cond_of (λc=>⟨no _ (.inl (by simpa using c)) hB.tail,trivial⟩) λc=>?_⟩;have c:G.S.size h≠0:=by intro e;rw [e] at c;simp at c
 refine asAddr_in ⟨_,_,Sep.ld1 hB rfl,?_⟩;have h3:Sep (H2.bump 15) (bx i1 (.cells true 0 [I h])::gl 2 b (rows G.q++junk)::bx g (.cells true 0 [P m,I G.n,.map (some G.mi),.slice (addr b) G.q.length 0])::im .i64 G.mi (kset G.ins)::wm G.q::mem m G.S::L):=Sep.pick hB 6 [0,3,1,2,4,5] (by decide);refine hasDef_s rfl h3 hb (by omega) λH15 h15=>⟨_,rfl,⟨cond_of (λd=>?_) λd=>?_,trivial⟩⟩
 ·exact no _ (.inr (by simpa using d)) (Sep.pick h15 6 [2,3,1,4,5] (by decide))
 ·have d:h∉G.q.map Wt.h:=by simpa using d
  have h16:=h15.bump 17;refine asAddr_in ⟨_,_,Sep.ld2 h16 rfl,_,Sep.ld0 h16 rfl,asAddr_in ⟨_,Sep.ld2 h16 rfl,?_⟩⟩;apply vc_maps_Clone_map_intbool_int_bool;refine cond_no rfl (im_clone (Sep.up3 h16) λmb H26 h26=>⟨_,rfl,Sep.nw h26 λi28 H29 h29=>⟨[I h,.map (some mb)],rowOf_bx (es:=2) (n:=1) (b:=i28) (Sep.get0 h29) (by decide) rfl,?_⟩⟩);have hrl:=rows_len G.q;refine apd_pre' (b:=b) (es:=2) (len:=G.q.length) (n:=1) (tc:=rows G.q++junk) (new:=[I h,.map (some mb)]) (Sep.up4 h29) (λe=>by rw [hb e];rfl) (by decide) (by rw [List.length_append,hrl];omega) (by decide) rfl (by omega) λH33 b' tc' e1 e2 h33=>?_
  have e0:(rows G.q++junk).take (G.q.length*2)=rows G.q:=by
   rw [List.take_append_of_le_length (by omega)];exact List.take_of_length_le (by omega)
  rw [e0] at e1;have h34:Sep H33 (bx g (.cells true 0 [P m,I G.n,.map (some G.mi),.slice (addr b) G.q.length 0])::im .i64 G.mi (kset G.ins)::gl 2 (some b') tc'::wA ⟨h,mb,G.ins⟩::wm G.q::mem m G.S::L):=Sep.pick h33 8 [5,3,0,2,6,7] (by decide);refine asAddr_in (Sep.st0 h34 (Nat.le_of_ble_eq_true rfl) λH36 h36=>⟨?_,⟨⟨_,Sep.ld0 h16 rfl,rfl⟩,⟨_,Sep.ld2 h26 rfl,rfl⟩,trivial⟩,⟨⟨_,_,Sep.ld2 h16 rfl,rfl,rfl,rfl⟩,⟨_,_,Sep.ld4 h26 rfl,rfl,rfl,rfl⟩,⟨_,_,Sep.ld5 h29 rfl,rfl,rfl,rfl⟩,trivial⟩,trivial⟩);have h37:=wm_snoc (Sep.pick h36 6 [3,4,0,1,2,5] (by decide):Sep H36 (wA ⟨h,mb,G.ins⟩::wm G.q::bx g (.cells true 0 [P m,I G.n,.map (some G.mi),.slice (addr (some b')) (G.q.length+1) 0])::im .i64 G.mi (kset G.ins)::gl 2 (some b') tc'::mem m G.S::L));have⟨J,hJ⟩:∃J,tc'=rows (G.q++[⟨h,mb,G.ins⟩])++J:=⟨tc'.drop ((G.q.length+1)*2),by
   rw [rows_append]
   have:rows [⟨h,mb,G.ins⟩]=[I h,.map (some mb)]:=rfl
   rw [this,<-e1,List.take_append_drop]⟩
  rw [hJ] at h37;have hlen:(G.q++[(⟨h,mb,G.ins⟩:Wt)]).length=G.q.length+1:=by simp
  have hA:IsG H36 g m (G.add h mb) L:=⟨some b',J,(λh=>by cases h),(λh=>by cases h),by
   show Sep H36 (bx g (.cells true 0 [P m,I G.n,.map (some G.mi),.slice (addr (some b')) (G.q++[(⟨h,mb,G.ins⟩:Wt)]).length 0])::im .i64 G.mi (kset G.ins)::gl 2 (some b') (rows (G.q++[(⟨h,mb,G.ins⟩:Wt)])++J)::wm (G.q++[(⟨h,mb,G.ins⟩:Wt)])::mem m G.S::L);rw [hlen];exact Sep.pick h37 5 [1,2,3,0,4] (by decide)⟩
  have hdf:G.defer h mb=(gone (G.add h mb).q,(G.add h mb).swept):=if_neg (by simp only [not_or];exact ⟨c,d⟩);refine sweep_s hA (by show (G.q++[(⟨h,mb,G.ins⟩:Wt)]).length<_;rw [hlen];omega) λH46 f hf h46=>⟨_,_,rfl,?_⟩
  have:=hR H46 f mb
  rw [hdf] at this;exact this hf h46
end
section
set_option maxRecDepth 100000
set_option maxHeartbeats 2000000
theorem vc_lock_Take (x0:Option Addr)(x1:Int)(x2:Int)(H:Heap)(R:Value->Heap->Prop) :
  (
 nwH H (.cells true 0 [(.pointer x0),(.int .i64 x1),(.int .i64 x2),(.int .u64 0),.nilFunc]) λi1 H2=>
 stc H2 i1 4 [(.func (.func F.lock_Taker_draw) #[(.pointer (some ⟨i1,0,none⟩))] #[])] λH3=>
 R (.pointer (some ⟨i1,0,none⟩)) H3)->
  CA en F.lock_Take [(.pointer x0),(.int .i64 x1),(.int .i64 x2)] H R:=by
 intro h;refine wpFn_ok (Z:=[]) (fn:=Go.Proofs.Tryz.f120) ?_ ?_ ?_
 ·kernel_rfl
 ·kernel_rfl
 ·apply turnInto h
  kernel_rfl
theorem vc_lock_Taker_Step (x0:Option Addr)(H:Heap)(R:Value->Heap->Prop) :
  (
 AS.asAddr (.pointer x0) λi1 i2=>
 ∃v3,H.cell i1 (i2+4)=some v3/\
 AS.asFn v3 λf4 l5 l6=>
 (∃fn,en.fn f4=some fn)/\
 CA en f4 (l5++[]++l6) H λv7 H8=>
 ∃b9,v7=(.bool b9)/\
 R (.bool b9) H8)->
  CA en F.lock_Taker_Step [(.pointer x0)] H R:=by
 intro h;refine wpFn_ok (Z:=[]) (fn:=Go.Proofs.Tryz.f123) ?_ ?_ ?_
 ·kernel_rfl
 ·kernel_rfl
 ·apply turnInto h
  kernel_rfl
theorem vc_lock_Drop (x0:Option Addr)(x1:Int)(x2:Int)(H:Heap)(R:Value->Heap->Prop) :
  (
 CA en F.lock_more [(.pointer x0),(.int .i64 x1),(.int .i64 (IntKind.i64.wrap (x2+1)))] H λv1 H2=>
 ∃n3,∃b4,v1=(.tuple #[(.int .u64 n3),(.bool b4)])/\
 R (.bool b4) H2)->
  CA en F.lock_Drop [(.pointer x0),(.int .i64 x1),(.int .i64 x2)] H R:=by
 intro h;refine wpFn_ok (Z:=[]) (fn:=Go.Proofs.Tryz.f135) ?_ ?_ ?_
 ·kernel_rfl
 ·kernel_rfl
 ·apply turnInto h
  kernel_rfl
theorem vc_lock_Taker_draw (x0:Option Addr)(H:Heap)(R:Value->Heap->Prop) :
  (
 AS.asAddr (.pointer x0) λi1 i2=>
 ∃a3,(H.bump 18).cell i1 i2=some (.pointer a3)/\
 AS.asAddr (.pointer x0) λi4 i5=>
 ∃n6,(H.bump 18).cell i4 (i5+1)=some (.int .i64 n6)/\
 AS.asAddr (.pointer x0) λi7 i8=>
 ∃n9,(H.bump 18).cell i7 (i8+2)=some (.int .i64 n9)/\
 CA en F.lock_more [(.pointer a3),(.int .i64 n6),(.int .i64 n9)] (H.bump 18) λv10 H11=>
 ∃n12,∃b13,v10=(.tuple #[(.int .u64 n12),(.bool b13)])/\
 (
 bif b13 then (
 AS.asAddr (.pointer x0) λi14 i15=>
 stc H11 i14 (i15+3) [(.int .u64 n12)] λH16=>
 AS.asAddr (.pointer x0) λi17 i18=>
 stc H16 i17 (i18+4) [(.func (.func F.lock_Taker_wait) #[(.pointer x0)] #[])] λH19=>
 R (.bool false) H19)
 else (
 R (.bool false) H11))/\
 True)->
  CA en F.lock_Taker_draw [(.pointer x0)] H R:=by
 intro h;refine wpFn_ok (Z:=[]) (fn:=Go.Proofs.Tryz.f180) ?_ ?_ ?_
 ·kernel_rfl
 ·kernel_rfl
 ·apply turnInto h
  kernel_rfl
theorem vc_lock_more (x0:Option Addr)(x1:Int)(x2:Int)(H:Heap)(R:Value->Heap->Prop) :
  (
 CA en F.smem_Mem_Fetch [(.pointer x0),(.int .i64 x1),(.int .i64 x2),(.int .i64 0),(.int .u64 18446744073709551615),(.int .u64 1)] H λv1 H2=>
 ∃n3,∃b4,v1=(.tuple #[(.int .u64 n3),(.bool b4)])/\
 R (.tuple #[(.int .u64 n3),(.bool b4)]) H2)->
  CA en F.lock_more [(.pointer x0),(.int .i64 x1),(.int .i64 x2)] H R:=by
 intro h;refine wpFn_ok (Z:=[]) (fn:=Go.Proofs.Tryz.f189) ?_ ?_ ?_
 ·kernel_rfl
 ·kernel_rfl
 ·apply turnInto h
  kernel_rfl
theorem vc_lock_Taker_wait (x0:Option Addr)(H:Heap)(R:Value->Heap->Prop) :
  (
 AS.asAddr (.pointer x0) λi1 i2=>
 ∃a3,(H.bump 19).cell i1 i2=some (.pointer a3)/\
 AS.asAddr (.pointer x0) λi4 i5=>
 ∃n6,(H.bump 19).cell i4 (i5+1)=some (.int .i64 n6)/\
 AS.asAddr (.pointer x0) λi7 i8=>
 ∃n9,(H.bump 19).cell i7 (i8+2)=some (.int .i64 n9)/\
 CA en F.smem_Mem_Load [(.pointer a3),(.int .i64 n6),(.int .i64 (IntKind.i64.wrap (n9+1)))] (H.bump 19) λv10 H11=>
 ∃n12,∃b13,v10=(.tuple #[(.int .u64 n12),(.bool b13)])/\
 (
 bif (!b13) then (
 R (.bool false) H11)
 else (
 AS.asAddr (.pointer x0) λi14 i15=>
 ∃n16,H11.cell i14 (i15+3)=some (.int .u64 n16)/\
 bif (n12 !=n16) then (
 R (.bool false) H11)
 else (
 AS.asAddr (.pointer x0) λi17 i18=>
 stc H11 i17 (i18+4) [(.func (.func F.lock_Taker_got) #[(.pointer x0)] #[])] λH19=>
 R (.bool true) H19)))/\
 True)->
  CA en F.lock_Taker_wait [(.pointer x0)] H R:=by
 intro h;refine wpFn_ok (Z:=[]) (fn:=Go.Proofs.Tryz.f239) ?_ ?_ ?_
 ·kernel_rfl
 ·kernel_rfl
 ·apply turnInto h
  kernel_rfl
theorem vc_lock_Taker_got (x0:Option Addr)(H:Heap)(R:Value->Heap->Prop) :
  (
 R (.bool true) H)->
  CA en F.lock_Taker_got [(.pointer x0)] H R:=by
 intro h;refine wpFn_ok (Z:=[]) (fn:=Go.Proofs.Tryz.f289) ?_ ?_ ?_
 ·kernel_rfl
 ·kernel_rfl
 ·apply turnInto h
  kernel_rfl
end
section
variable {m:Nat}
theorem wrs {n:Int}(h: -9223372036854775808<=n/\n<9223372036854775808):wr n=n:=wrap_i64 h
def tkc (m i:Nat)(t:BitVec 64)(f b:Nat):List Value:=[P m,I 1,I i,W t,.func (.func f) #[P b] #[]]
abbrev tk (m i:Nat)(t:BitVec 64)(f b:Nat):Asr:=bx b (.cells true 0 (tkc m i t f b))
end
section
inductive Ask where
 |key|near|room
inductive KS where
 |upd|takeEnd|delEnd|used|layVal (k:KS)|layYoung (k:KS)|layGive (k:KS)|abs1|absLay (last:Int)|absDef (last:Int)|head (h:Int)(k:KS)|away|begin|room
inductive KL where
 |walkAt (a:Ask)|walkKey (a:Ask)|look|take|count|unl (k:KS)|young (h:Int)(k:KS)
structure Tk where
 b:Nat
 t:BitVec 64
 ph:Nat
inductive Nx where
 |none|enter (t:Tk)(k:KS)|load (h i:Int)(k:KL)|store (h i:Int)(w:BitVec 64)(k:KS)|more (w:BitVec 64)|drop
structure Lc where
 x:Nat
 m:Nat
 g:Nat
 d0:Int
 d1:Int
 d2:Int
 d3:Int
 d4:Int
 h:Int
 cap:Int
structure Qr where
 kd:Int
 ky:BitVec 64
 fl:Int
 cpu:Int
 val:BitVec 64
 no:Int
 rv:List (BitVec 64)
 rk:BitVec 64
 el:Int
 nx:Nx
 eff:Bool
 dn:Bool
 st:Bool
 ah:Int
 ai:Int
 bh:Int
 bi:Int
 cur:Int
 made:Int
 best:BitVec 64
 any:Bool
 vb:Option Nat
 keys:List (BitVec 64)
def Qr.give (q:Qr)(no:Int)(rv:List (BitVec 64))(rk:BitVec 64)(el:Int):Qr:={q with no:=no,rv:=rv,rk:=rk,el:=el,eff:=true}
def Qr.away (q:Qr):Qr:=if q.st then {q with dn:=true} else {q with nx:=.drop}
def Qr.fail (q:Qr)(e:Int):Qr:=(q.give e [] 0 0).away
def Qr.load (q:Qr)(h i:Int)(k:KL):Qr:={q with nx:=.load h i k}
def Qr.store (q:Qr)(h i:Int)(w:BitVec 64)(k:KS):Qr:={q with nx:=.store h i w k}
def Qr.more (q:Qr)(w:BitVec 64):Qr:={q with nx:=.more w}
def Qr.on (q:Qr)(a:Ask):Qr:=q.load q.ah q.ai (.walkAt a)
def Qr.walk (c:Lc)(q:Qr)(a:Ask):Qr:={q with ah:=c.h,ai:=2}.on a
def Qr.begin (c:Lc)(q:Qr):Qr:=if q.kd=4 then q.walk c .near else q.walk c .key
def Qr.young (c:Lc)(q:Qr)(h:Int)(k:KS):Qr:=q.load c.h 2 (.young h k)
def Qr.unlink (q:Qr)(k:KS):Qr:=q.load q.cur 2 (.unl k)
def Qr.used (c:Lc)(q:Qr):Qr:=if q.ah=c.h/\q.ai=2 then q.away else q.unlink .used
def Qr.lay (q:Qr)(k:KS):Qr:=q.store q.made 0 q.ky (.layVal k)
def Qr.found (q:Qr):Qr:=
 if q.kd=2 then if q.fl=1 then q.fail 3 else q.store q.cur 1 q.val .upd
 else if q.kd=1 then q.load q.cur 1 .look else if q.kd=5 then q.load q.cur 1 .take else q.unlink .delEnd
def Qr.absent (c:Lc)(q:Qr):Qr:=if q.kd≠2∨q.fl=2 then q.fail 2 else q.load c.h 3 .count
def Qr.nearer (q:Qr)(k:BitVec 64):Qr:=
 if (q.fl=1∨q.ky.toNat<k.toNat)/\(q.any=false∨k.toNat<q.best.toNat) then {q with best:=k,any:=true} else q
def Qr.nearest (q:Qr):Qr:=if q.any then (q.give 0 [] q.best 0).away else q.fail 2
def Qr.go (q:Qr)(a:Ask):Qr:={q with bh:=q.ah,bi:=q.ai,ah:=q.cur,ai:=2}.on a
def srt (l:List (BitVec 64)):List (BitVec 64):=l.mergeSort λa b=>decide (a.toNat<=b.toNat)
def ones:BitVec 64:=BitVec.allOnes 64
abbrev Gr.mem (G:Gr)(S:Sm):Gr:={G with S:=S}
def doKS (c:Lc):KS->Qr->Gr->Nat->Qr×Gr
 |.upd,q,G,_=>((q.give 0 [] 0 0).used c,G)
 |.takeEnd,q,G,b=>(q.more ones,(G.defer q.cur b).2)
 |.delEnd,q,G,b=>((q.give 0 [] 0 0).more ones,(G.defer q.cur b).2)
 |.used,q,G,_=>(q.young c q.cur .away,G)
 |.layVal k,q,G,_=>(q.store q.made 1 q.val (.layYoung k),G)
 |.layYoung k,q,G,_=>(q.young c q.made (.layGive k),G)
 |.layGive k,q,G,b=>doKS c k (q.give 0 [] 0 0) G b
 |.abs1,q,G,_=>(q.more 1,G)
 |.absLay last,q,G,_=>(q.lay (.absDef last),G)
 |.absDef last,q,G,b=>(q.away,(G.defer last b).2)
 |.head h k,q,G,_=>(q.store c.h 2 (BitVec.ofInt 64 h) k,G)
 |.away,q,G,_=>(q.away,G)
 |.begin,q,G,_=>(q.begin c,G)
 |.room,q,G,_=>(q.walk c .room,G)
def Qr.stop (c:Lc)(q:Qr):Ask->Qr
 |.key=>q.absent c
 |.near=>q.nearest
 |.room=>{q.give 0 [] 0 0 with dn:=true,keys:=srt q.keys}
def Qr.count (c:Lc)(q:Qr)(n:BitVec 64)(e h:Int):Qr:=
 if e≠0 then q.fail 5
 else if n.toNat<(BitVec.ofInt 64 c.d1).toNat then {q with made:=h}.lay .abs1
 else {q with made:=h}.store q.bh q.bi 0 (.absLay q.ah)
def doKL (c:Lc):KL->BitVec 64->Qr->Gr->Nat->Qr×Gr
 |.walkAt a,w,q,G,_=>(if w=0 then {q with cur:=IntKind.i64.wrap w.toNat}.stop c a else {q with cur:=IntKind.i64.wrap w.toNat}.load (IntKind.i64.wrap w.toNat) 0 (.walkKey a),G)
 |.walkKey .key,w,q,G,_=>(if w=q.ky then q.found else q.go .key,G)
 |.walkKey .near,w,q,G,_=>((q.nearer w).go .near,G)
 |.walkKey .room,w,q,G,_=>({q with keys:=q.keys++[w]}.go .room,G)
 |.look,w,q,G,_=>((q.give 0 [w] 0 q.cur).used c,G)
 |.take,w,q,G,_=>((q.give 0 [w] 0 0).unlink .takeEnd,G)
 |.count,w,q,G,b=>(q.count c w (G.S.make b 3).1.2 (G.S.make b 3).1.1,G.mem (G.S.make b 3).2)
 |.unl k,w,q,G,_=>(q.store q.ah q.ai w k,G)
 |.young h k,w,q,G,_=>(q.store h 2 w (.head h k),G)
def addF (w:BitVec 64):BitVec 64->BitVec 64:=fetchF 0 ones w
def Tk.step (c:Lc)(t:Tk)(S:Sm):Bool×Tk×Sm:=
 if t.ph=0 then (false,if (S.acc c.h 0 true (addF 1)).1.2 then ⟨t.b,(S.acc c.h 0 true (addF 1)).1.1,1⟩ else t,(S.acc c.h 0 true (addF 1)).2)
 else if t.ph=1 then
  if (S.acc c.h 1 true id).1.2=true/\(S.acc c.h 1 true id).1.1=t.t then (true,{t with ph:=2},(S.acc c.h 1 true id).2) else (false,t,(S.acc c.h 1 true id).2)
 else (true,t,S)
def doNx (c:Lc):Nx->Qr->Gr->Nat->Qr×Gr
 |.none,q,G,_=>(q,G)
 |.enter t k,q,G,b=>
  if (t.step c G.S).1 then doKS c k {q with nx:=.enter (t.step c G.S).2.1 k} (G.mem (t.step c G.S).2.2) b
  else ({q with nx:=.enter (t.step c G.S).2.1 k},G.mem (t.step c G.S).2.2)
 |.load h i k,q,G,b=>doKL c k (G.S.acc h i true id).1.1 q (G.mem (G.S.acc h i true id).2) b
 |.store h i w k,q,G,b=>doKS c k q (G.mem (G.S.acc h i true λ_=>w).2) b
 |.more w,q,G,_=>(q.away,G.mem (G.S.acc c.h 3 true (addF w)).2)
 |.drop,q,G,_=>({q with dn:=true},G.mem (G.S.acc c.h 1 true (addF 1)).2)
def Qr.step (c:Lc)(q:Qr)(G:Gr)(b:Nat):Qr×Gr:=if q.dn then (q,G) else doNx c q.nx {q with eff:=false} G b
def Qr.tells (q:Qr)(q':Qr):Bool×Bool:=if q.dn then (false,true) else (q'.eff,q'.dn)
def Qr.new (kd:Int)(ky:BitVec 64)(fl cpu:Int)(val:BitVec 64)(b:Nat):Qr:=
 ⟨kd,ky,fl,cpu,val,0,[],0,0,.enter ⟨b,0,0⟩ .begin,false,false,false,0,0,0,0,0,0,0,false,none,[]⟩
end
end Go.Proofs.YtjggeoghlicmdaaGreat
