/-
  hashAgrees.proved: part 2 of its proof. No condition.
  Written by a program out of the texts As20 As21 As22 As41 Sq VcM VcK As23 As24 As40 As42 As43 Kit Smem SmemSep As44 As45 As46 As48 VcGr GraceM VcL Lock Vc1 Vc2 As30 As31 Args.
-/
import Derived.Test.YtjggeoghlicmdaaGreatHashAgreesP1
import Derived.ChangeShapes
import Derived.DataReads
import Derived.Carry
import Derived.WideShapes
set_option linter.unusedVariables false
namespace Go.AS
open Go.RowKit
section
abbrev Fr:=List Value
noncomputable section
def dj (xs:Fr):Tr Value:=Tr.uw xs 0 (Tr.fill undef xs.length xs.length)
def tI (E:Env)(xs:Fr):Operand->Value
 |.tmp t=>xs.getD t undef
 |.const v=>bif plain v then v else FX
 |.global g=>bif Nat.ble (g+1) E.ng then .pointer (some ⟨g,0,none⟩) else FX
 |.func f=>.func (.func f) #[] #[]
def mU (xs:Fr)(d:Option Tmp)(v:Value):Fr:=
 match d with
 |some d=>xs.set d v
 |none=>xs
def aa.ae (H:aa)(n:Nat):aa:=⟨H.tr,H.next+n⟩
def aa.cell (H:aa)(i o:Nat):Option Value:=
 match H.get i with
 |some (.cells _ _ c)=>c[o]?
 |_=>none
def aa.aM (H:aa)(i o n:Nat):Option (List Value):=
 match H.get i with
 |some (.cells _ _ c)=>fm c o n
 |_=>none
def asBool (v:Value)(K:Bool->Prop):Prop:=
 match v with
 |.bool b=>K b
 |_=>False
def asInt (k:IntKind)(v:Value)(K:Int->Prop):Prop:=
 match v with
 |.int j n=>cond (decide (j=k)) (K n) False
 |_=>False
def w4 (v:Value)(K:Int->Prop):Prop:=
 match v with
 |.int _ n=>K n
 |_=>False
def asAddr (v:Value)(K:Nat->Nat->Prop):Prop:=
 match v with
 |.pointer (some ⟨i,o,none⟩)=>K i o
 |_=>False
def aV (a:Option Addr)(K:Nat->Nat->Prop):Prop:=
 match a with
 |some ⟨i,o,none⟩=>K i o
 |_=>False
def asSlice (v:Value)(K:Option Addr->Nat->Prop):Prop:=
 match v with
 |.slice a l _=>K a l
 |_=>False
def BF (v:Value)(K:Option Nat->Prop):Prop:=
 match v with
 |.map m=>K m
 |_=>False
def kQ (v:Value)(K:FuncId->List Value->List Value->Prop):Prop:=
 match v with
 |.func (.func f) fs cs=>K f fs.toList cs.toList
 |_=>False
def pz (v:Value)(K:List Value->Prop):Prop:=
 match cellsOf v with
 |some l=>K l
 |none=>False
def nR {α:Type}(o:Option α)(K:α->Prop):Prop:=
 match o with
 |some x=>K x
 |none=>False
def D3 (z:Value)(P:Value->Prop):Prop:=
 match z with
 |.int k _=>∃n,P (.int k n)
 |.bool _=>∃b,P (.bool b)
 |.slice _ _ _=>∃a l,P (.slice a l 0)
 |.pointer _=>∃p,P (.pointer p)
 |.map _=>∃m,P (.map m)
 |.string _=>∃s,P (.string s)
 |_=>∃v,P v
def U5 (z:Value)(P:Value->Prop):Prop:=
 match z with
 |.nilFunc=>P .nilFunc∨∃f l b,P (.func (.func f) ⟨l⟩ ⟨b⟩)
 |z=>D3 z P
def OW:List Value->(List Value->Prop)->Prop
 |[],P=>P []
 |z::zs,P=>U5 z λv=>OW zs λl=>P (v::l)
def JJ (z:Value)(P:Value->Prop):Prop:=
 match z with
 |.agg cs=>OW cs.toList λl=>P (.agg ⟨l⟩)
 |z=>D3 z P
def U7:List Value->(List Value->Prop)->Prop
 |[],P=>P []
 |z::zs,P=>JJ z λv=>U7 zs λl=>P (v::l)
def JH (z:Value)(P:Value->Prop):Prop:=
 match z with
 |.tuple cs=>U7 cs.toList λl=>P (.tuple ⟨l⟩)
 |z=>JJ z P
theorem JI {z:Value}{P:Value->Prop}(h:D3 z P):∃v,P v:=by
 unfold D3 at h;split at h
 all_goals first
  |(have⟨a,b,h⟩:=h;exact ⟨_,h⟩)
  |(have⟨a,h⟩:=h;exact ⟨_,h⟩)
theorem arn {z:Value}{P:Value->Prop}(h:U5 z P):∃v,P v:=by
 unfold U5 at h;split at h
 ·rcases h with h|⟨f,l,b,h⟩
  ·exact ⟨_,h⟩
  ·exact ⟨_,h⟩
 ·exact JI h
theorem U4:∀{zs:List Value}{P:List Value->Prop},OW zs P->∃l,P l
 |[],P,h=>⟨[],h⟩
 |z::zs,P,h=>by
  have⟨v,h⟩:=arn h
  have⟨l,h⟩:=U4 h
  exact ⟨_,h⟩
theorem U6 {z:Value}{P:Value->Prop}(h:JJ z P):∃v,P v:=by
 unfold JJ at h;split at h
 ·have⟨l,h⟩:=U4 h;exact ⟨_,h⟩
 ·exact JI h
theorem afb:∀{zs:List Value}{P:List Value->Prop},U7 zs P->∃l,P l
 |[],P,h=>⟨[],h⟩
 |z::zs,P,h=>by
  have⟨v,h⟩:=U6 h
  have⟨l,h⟩:=afb h
  exact ⟨_,h⟩
theorem aro {z:Value}{P:Value->Prop}(h:JH z P):∃v,P v:=by
 unfold JH at h;split at h
 ·have⟨l,h⟩:=afb h;exact ⟨_,h⟩
 ·exact U6 h
def zeroOf (E:Env)(t:Nat):Value:=
 match E.ty t with
 |some i=>match i.zero with
  |some z=>z
  |none=>FX
 |none=>FX
def aC (H:aa)(o:Obj)(K:Nat->aa->Prop):Prop:=K H.next (H.new o)
def Z_ (E:Env)(t:Nat)(a:Value)(H:aa)(K:Value->Prop):Prop:=
 asAddr a λi o=>match KK E t with
  |some false=>D3 (zeroOf E t) λv=>H.cell i o=some v/\K v
  |some true=>match cK E t with
   |some n=>bif Nat.beq n 0 then False else OW (zeroOf E t).cells.toList λl=>H.aM i o n=some l/\K (.agg ⟨l⟩)
   |none=>False
  |none=>False
def aq (H:aa)(i o:Nat)(vs:List Value)(K:aa->Prop):Prop:=
 ∃z c,H.get i=some (.cells true z c)/\o+vs.length<=c.length/\K (H.set i (.cells true z (setAt c o vs)))
def amt (E:Env)(t:Nat)(a v:Value)(H:aa)(K:aa->Prop):Prop:=
 asAddr a λi o=>pz v λvs=>match cK E t with
  |some n=>bif Nat.beq vs.length n then aq H i o vs K else False
  |none=>False
def nz (b:Int):Prop:=b≠0
def nn (b:Int):Prop:=0<=b
def az (n:Int)(len:Nat):Prop:=0<=n/\n<len
def vc (n:Int)(len:Nat):Prop:=0<=n/\n<=len
def Q7 (bytes:Nat)(l c:Int):Prop:=0<=l/\l<=c/\bytes*c.toNat<=140737488355328
def Sf (op:BinOp)(k:IntKind)(a b:Int)(K:Value->Prop):Prop:=
 match op with
 |.quo=>nz b/\K (.int k (k.wrap (a.tdiv b)))
 |.rem=>nz b/\K (.int k (a.tmod b))
 |.shl=>nn b/\K (.int k (k.wrap (a*2 ^ (min b.toNat k.bits))))
 |.shr=>nn b/\K (.int k (a.fdiv (2 ^ (min b.toNat k.bits))))
 |op=>nR (G3 op k a b) K
def Z8 (E:Env)(t:Nat)(x y:Value)(K:Bool->Prop):Prop:=
 match dq E t with
 |some (.int _)=>match x,y with
  |.int k a,.int j b=>cond (decide (k=j)) (K (a==b)) False
  |_,_=>False
 |some .bool=>match x,y with
  |.bool a,.bool b=>K (a==b)
  |_,_=>False
 |_=>False
def Sd (E:Env)(xs ys:Array Value):List Field->(Bool->Prop)->Prop
 |[],K=>K true
 |f::fs,K=>match vm E f.type xs f.offset with
  |some u=>match vm E f.type ys f.offset with
   |some v=>Z8 E f.type u v λb=>match fs with
    |[]=>K b
    |_::_=>Sd E xs ys fs λb'=>K (b&&b')
   |none=>False
  |none=>False
def ahk:Value->Bool
 |.pointer none=>true
 |.slice none _ _=>true
 |.map none=>true
 |.nilFunc=>true
 |_=>false
def ab8 (v:Value)(K:Bool->Prop):Prop:=
 match v with
 |.nilFunc=>K true
 |.func _ _ _=>K false
 |_=>False
def ajW (E:Env)(t:Nat)(c v:Value)(K:Bool->Prop):Prop:=
 match dq E t,c with
 |some (.pointer _),.pointer none=>match v with
  |.pointer p=>K p.isNone
  |_=>False
 |some (.slice _),.slice none _ _=>match v with
  |.slice a _ _=>K a.isNone
  |_=>False
 |some (.map _ _),.map none=>match v with
  |.map m=>K m.isNone
  |_=>False
 |some (.func _ _ _),.nilFunc=>ab8 v K
 |_,_=>False
def aac (E:Env)(op:BinOp)(t:Nat)(c v:Value)(K:Value->Prop):Prop:=
 ajW E t c v λb=>match op with
  |.eql=>K (.bool b)
  |.neq=>K (.bool !b)
  |_=>False
def Sa (E:Env)(H:aa)(op:BinOp)(t:Nat)(x y:Value)(K:Value->Prop):Prop:=
 match x with
 |.int k a=>match y with
  |.int j b=>bif Ch op then Sf op k a b K else cond (decide (k=j)) (Sf op k a b K) False
  |_=>False
 |.bool a=>match y with
  |.bool b=>match dq E t with
   |some .bool=>match op with
    |.eql=>K (.bool (a==b))
    |.neq=>K (.bool !(a==b))
    |_=>False
   |_=>False
  |_=>False
 |.agg xs=>match y with
  |.agg ys=>bif E.qp t then match dq E t with
   |some (.struct fields)=>Sd E xs ys fields.toList λb=>match op with
    |.eql=>K (.bool b)
    |.neq=>K (.bool !b)
    |_=>False
   |_=>False
   else False
  |_=>False
 |x=>nR (nb E H op t x y) K
def aCZ (c a b:Value)(K:Value->Prop):Prop:=
 asBool c λt=>cond t (K a) (K b)
def E6 (H:aa)(a:Option Addr)(n l m:Nat)(K:Value->Prop):Prop:=
 match a with
 |none=>K (.slice none 0 0)
 |some ⟨i,o,none⟩=>(∃w z c,H.get i=some (.cells w z c)/\(z=0∨z=n))/\K (.slice (some ⟨i,o+l*n,none⟩) m 0)
 |_=>False
def Ua (len:Nat)(hi:Option Value)(K:Nat->Prop):Prop:=
 match hi with
 |none=>K len
 |some v=>w4 v λn=>vc n len/\K n.toNat
def Ub (h:Nat)(lo:Option Value)(K:Nat->Prop):Prop:=
 match lo with
 |none=>K 0
 |some v=>w4 v λn=>vc n h/\K n.toNat
def aad (E:Env)(H:aa)(t:Nat)(x:Value)(lo hi mx:Option Value)(K:Value->Prop):Prop:=
 match mx with
 |some _=>False
 |none=>match dq E t with
  |some (.slice e)=>match cK E e with
   |some n=>asSlice x λa len=>Ua len hi λh=>Ub h lo λl=>E6 H a n l (h - l) K
   |none=>False
  |some (.array n e)=>match cK E e,lo,hi with
   |some _,none,none=>asAddr x λi o=>(∃w c,H.get i=some (.cells w 0 c))/\K (.slice (some ⟨i,o,none⟩) n 0)
   |_,_,_=>False
  |_=>False
def amo (E:Env)(t:Nat)(x ix:Value)(K:Value->Prop):Prop:=
 match dq E t with
 |some (.slice el)=>match cK E el with
  |some s=>asSlice x λa len=>w4 ix λn=>az n len/\aV a λi o=>K (.pointer (some ⟨i,o+n.toNat*s,none⟩))
  |none=>False
 |some (.array len el)=>match cK E el with
  |some s=>asAddr x λi o=>w4 ix λn=>az n len/\K (.pointer (some ⟨i,o+n.toNat*s,none⟩))
  |none=>False
 |_=>False
def amk (E:Env)(t:Nat)(x:Value)(f:Nat)(K:Value->Prop):Prop:=
 match dq E t with
 |some (.struct fields)=>match fields[f]? with
  |some fd=>match cK E fd.type with
   |some n=>bif Nat.beq n 0 then False else asAddr x λi o=>K (.pointer (some ⟨i,o+fd.offset,none⟩))
   |none=>False
  |none=>False
 |_=>False
def entriesOf (H:aa)(m:Option Nat):Option (List MapEntry):=
 match m with
 |none=>some []
 |some i=>match H.get i with
  |some (.map es _)=>some es
  |_=>none
def sH (H:aa)(kd:TypeDesc)(m:Option Nat)(k:Value):Option (Option (Nat×Value)):=
 (entriesOf H m).bind λes=>Instr.findNow kd k es 0
def gO (r:Option (Nat×Value))(z v:Value):Prop:=
 match r with
 |some (_,u)=>u=v
 |none=>z=v
def aaa (E:Env)(H:aa)(t:Nat)(x k:Value)(ok:Bool)(K:Value->Prop):Prop:=
 match dq E t with
 |some (.map kt e)=>match xT E kt with
  |some kd=>match zeroV E e with
   |some z=>BF x λm=>∃r,sH H kd m k=some r/\JJ z λv=>gO r z v/\K (bif ok then .tuple #[v,.bool r.isSome] else v)
   |none=>False
  |none=>False
 |_=>False
def X6 (es:List MapEntry)(clock:Nat)(r:Option (Nat×Value))(k v:Value):Obj:=
 match r with
 |some (j,_)=>.map (es.modify j λe=>{e with key:=k,val:=v}) clock
 |none=>.map (es++[{key:=k,val:=v,born:=clock}]) (clock+1)
def ON (es:List MapEntry)(clock:Nat)(r:Option (Nat×Value)):Obj:=
 match r with
 |some (j,_)=>.map (es.eraseIdx j) clock
 |none=>.map es clock
def R4 (H:aa)(kd:TypeDesc)(m:Option Nat)(k v:Value)(K:aa->Prop):Prop:=
 ∃i es clock r,m=some i/\H.get i=some (.map es clock)/\Instr.findNow kd k es 0=some r/\K (H.set i (X6 es clock r k v))
def JC (H:aa)(kd:TypeDesc)(m:Option Nat)(k:Value)(K:aa->Prop):Prop:=
 ∃i es clock r,m=some i/\H.get i=some (.map es clock)/\Instr.findNow kd k es 0=some r/\K (H.set i (ON es clock r))
def Sg (E:Env)(H:aa)(t:Nat)(m k v:Value)(K:aa->Prop):Prop:=
 match dq E t with
 |some (.map kt _)=>match xT E kt with
  |some kd=>BF m λm=>R4 H kd m k v K
  |none=>False
 |_=>False
def Z7 (E:Env)(H:aa)(t:Nat)(m k:Value)(K:aa->Prop):Prop:=
 match dq E t with
 |some (.map kt _)=>match xT E kt with
  |some kd=>BF m λm=>JC H kd m k K
  |none=>False
 |_=>False
def QT (H:aa)(m:Option Nat)(K:Int->Prop):Prop:=∃es,entriesOf H m=some es/\K es.length
def Z9 (E:Env)(H:aa)(t:Nat)(x:Value)(K:Value->Prop):Prop:=
 match dq E t with
 |some (.slice _)=>asSlice x λ_ n=>K (.int .i64 n)
 |some .string=>match x with
  |.string s=>K (.int .i64 s.size)
  |_=>False
 |some (.array n _)=>K (.int .i64 n)
 |some (.map _ _)=>BF x λm=>QT H m λn=>K (.int .i64 n)
 |_=>False
def rowOf (H:aa)(es:Nat)(a:Option Addr)(n:Nat):Option (List Value):=yz H es n (.slice a n 0)
def iT (H:aa)(bytes es:Nat)(a:Option Addr)(len n:Nat)(new:List Value)(K:Option Addr->Nat->aa->Prop):Prop:=
 (n=0/\K a len H)∨(0<n/\(
  (a=none/\len=0/\n*bytes<=140737488355328/\K (some ⟨H.next,0,none⟩) n (H.new (.cells true es new)))∨
  (∃i o c,a=some ⟨i,o,none⟩/\H.get i=some (.cells true es c)/\(
   (o+(len+n)*es<=c.length/\∃H',sV H i (o+len*es) new=some H'/\K a (len+n) H')∨
   (c.length<o+(len+n)*es/\∃old,fm c o (len*es)=some old/\(len+n)*bytes<=140737488355328/\
    K (some ⟨H.next,0,none⟩) (len+n) ((H.set i .dead).new (.cells true es (old++new))))))))
def api (H:aa)(bytes es:Nat)(a:Option Addr)(len n:Nat)(new:List Value)(K:Option Addr->Nat->aa->Prop):Prop:=
 (n=0/\K a len H)∨(0<n/\(
  (a=none/\len=0/\n*bytes<=140737488355328/\K (some ⟨H.next,0,none⟩) n (H.new (.cells true es new)))∨
  (∃i o c,a=some ⟨i,o,none⟩/\H.get i=some (.cells true es c)/\(
   (o+(len+n)*es<=c.length/\∃H',sV H i (o+len*es) new=some H'/\K a (len+n) H')∨
   (c.length<o+(len+n)*es/\∃old,fm c o (len*es)=some old/\(len+n)*bytes<=140737488355328/\
    ((len≠256/\K (some ⟨H.next,0,none⟩) (len+n) ((H.set i .dead).new (.cells true es (old++new))))∨
     (len=256/\K (some ⟨H.next,0,none⟩) (len+n) ((H.set i (.cells false es (c.take (o+len*es)))).new (.cells false es (old++new))))))))))
def Z3 (E:Env)(H:aa)(argTypes:Array TypeId)(args:List Value)(K:Value->aa->Prop):Prop:=
 match argTypes.toList with
 |[st,xt]=>bif Nat.beq xt st then match dq E st with
  |some (.slice e)=>match cK E e,pb E e,E.ty e with
   |some es,some _,some i=>bif Nat.beq es 0||Nat.beq i.bytes 0 then False else match args with
    |[x,y]=>asSlice x λa len=>asSlice y λb n=>∃new,rowOf H es b n=some new/\bif E.Gq st then (api H i.bytes es a len n new λa l H'=>K (.slice a l 0) H') else (iT H i.bytes es a len n new λa l H'=>K (.slice a l 0) H')
    |_=>False
   |_,_,_=>False
  |_=>False
  else False
 |_=>False
def aCS (E:Env)(H:aa)(argTypes:Array TypeId)(args:List Value)(K:Value->aa->Prop):Prop:=
 ∃v H',Ov E H argTypes args=some (v,H')/\D3 (.int .i64 0) λu=>v=u/\K u H'
def Z5 (E:Env)(H:aa)(b:Builtin)(argTypes:Array TypeId)(args:List Value)(K:Value->aa->Prop):Prop:=
 match b with
 |.append=>Z3 E H argTypes args K
 |.copy=>aCS E H argTypes args K
 |.len=>match argTypes.toList,args with
  |t::_,x::_=>Z9 E H t x λv=>K v H
  |_,_=>False
 |.delete=>match argTypes.toList,args with
  |t::_,[m,k]=>Z7 E H t m k λH'=>K undef H'
  |_,_=>False
 |.clear=>match argTypes.toList,args with
  |t::_,[x]=>nR (zR E H t x) λH'=>K undef H'
  |_,_=>False
 |.max=>nR (Xu args) λv=>K v H
 |.min=>nR (Xw args) λv=>K v H
 |_=>False
def Ui (H:aa)(m:Option Nat)(K:Nat->aa->Prop):Prop:=
 ∃i es clock,m=some i/\H.get i=some (.map es clock)/\aC H (.map es clock) K
def amf (E:Env)(t:TypeId)(f:FuncId)(args:List Value)(H:aa)(K:Value->aa->Prop):Prop:=
 match E.fn f with
 |some _=>CA E f args H λv H'=>JH (zeroOf E t) λu=>v=u/\K u H'
 |none=>bif E.clone f then match args with
   |[.iface t v]=>BF v λm=>Ui H m λi H'=>K (.iface t (.map (some i))) H'
   |_=>False
  else False
def Z6 (E:Env)(e:Operand->Value)(t:TypeId)(c:Call)(H:aa)(K:Value->aa->Prop):Prop:=
 match c.callee with
 |.value (.func f)=>amf E t f (c.args.toList.map e) H K
 |.value f=>kQ (e f) λf fs cs=>(∃fn,E.fn f=some fn)/\CA E f (fs++c.args.toList.map e++cs) H λv H'=>JH (zeroOf E t) λu=>v=u/\K u H'
 |.builtin b=>Z5 E H b c.argTypes (c.args.toList.map e) K
 |.invoke _ _=>False
def aab (E:Env)(H:aa)(t:Nat)(len cap:Value)(K:Value->aa->Prop):Prop:=
 match dq E t with
 |some (.slice e)=>match pb E e,E.ty e with
  |some z,some i=>w4 len λl=>w4 cap λc=>
   Q7 i.bytes l c/\bif Nat.ble 1 i.bytes&&Nat.ble 1 z.length then aC H (.cells true z.length (fE c.toNat z)) λi H'=>K (.slice (some ⟨i,0,none⟩) l.toNat 0) H' else False
  |_,_=>False
 |_=>False
def aer (E:Env)(t len:Nat)(parts:Array (Nat×Value)):Option (Nat×List Value):=
 match dq E t with
 |some (.slice e)=>(pb E e).bind λz=>
  bif CP parts&&Nat.ble (len*z.length) 16777216&&Nat.ble 1 z.length then
   (Instr.fill (λi=>some (i*z.length,z.length)) ⟨fE len z⟩ parts.toList).bind λcs=>
    bif cs.toList.all one then some (z.length,cs.toList) else none
  else none
 |_=>none
def wpOp (E:Env)(e:Operand->Value)(o:Oper)(H:aa)(K:Value->aa->Prop):Prop:=
 match o.op with
 |.move x=>K (e x) H
 |.assign x=>K (e x) H
 |.pick c a b=>aCZ (e c) (e a) (e b) λv=>K v H
 |.alloc t=>match (zeroV E t).bind cellsOf with
  |some vs=>aC H (.cells true 0 vs) λi H'=>K (.pointer (some ⟨i,0,none⟩)) H'
  |none=>False
 |.box _ x=>pz (e x) λvs=>aC H (.cells true 0 vs) λi H'=>K (.pointer (some ⟨i,0,none⟩)) H'
 |.build t parts=>nR (Oh E t ⟨parts.toList.map λp=>(p.1,e p.2)⟩) λv=>K v H
 |.buildSlice t len parts=>nR (aer E t len ⟨parts.toList.map λp=>(p.1,e p.2)⟩) λp=>aC H (.cells true p.1 p.2) λi H'=>K (.slice (some ⟨i,0,none⟩) len 0) H'
 |.load t a=>Z_ E t (e a) H λv=>K v H
 |.store t a x=>amt E t (e a) (e x) H λH'=>K undef H'
 |.nilCheck x=>match dq E o.type with
  |some (.func _ _ _)=>kQ (e x) λf fs cs=>K (.func (.func f) ⟨fs⟩ ⟨cs⟩) H
  |_=>asAddr (e x) λi o=>K (.pointer (some ⟨i,o,none⟩)) H
 |.binOp op t x y _=>match y with
  |.const c=>bif ahk c&&plain c then aac E op t c (e x) λv=>K v H else Sa E H op t (e x) (e y) λv=>K v H
  |_=>Sa E H op t (e x) (e y) λv=>K v H
 |.unOp op _ x=>nR (MJ op (e x)) λv=>K v H
 |.convert src dst x=>nR (Ou E src dst (e x)) λv=>K v H
 |.makeInterface t x=>match dq E t with
  |some (.interface _)=>False
  |some _=>K (.iface t (e x)) H
  |none=>False
 |.makeFunc (.func f) first captured=>K (.func (.func f) ⟨first.toList.map e⟩ ⟨captured.toList.map e⟩) H
 |.makeMap _ none=>aC H (.map [] 0) λi H'=>K (.map (some i)) H'
 |.makeMap t (some r)=>match dq E t with
  |some (.map _ _)=>w4 (e r) λ_=>aC H (.map [] 0) λi H'=>K (.map (some i)) H'
  |_=>False
 |.makeSlice t l c=>aab E H t (e l) (e c) K
 |.slice t x lo hi mx=>aad E H t (e x) (lo.map e) (hi.map e) (mx.map e) λv=>K v H
 |.fieldAddr s x f=>amk E s (e x) f λv=>K v H
 |.field t x f=>match dq E t,e x with
  |some (.struct fields),.agg cs=>match fields[f]? with
   |some fd=>nR (vm E fd.type cs fd.offset) λv=>K v H
   |none=>False
  |_,_=>False
 |.indexAddr t x ix=>amo E t (e x) (e ix) λv=>K v H
 |.index t x ix=>match dq E t with
  |some (.array len el)=>match e x,cK E el with
   |.agg cs,some s=>w4 (e ix) λn=>az n len/\nR (vm E el cs (n.toNat*s)) λv=>K v H
   |_,_=>False
  |some .string=>match e x with
   |.string s=>w4 (e ix) λn=>nR (Ue s n) λv=>D3 (.int .u8 0) λu=>v=u/\K u H
   |_=>False
  |_=>False
 |.lookup t x k ok=>aaa E H t (e x) (e k) ok λv=>K v H
 |.mapUpdate t m k x=>Sg E H t (e m) (e k) (e x) λH'=>K undef H'
 |.insert t m k x=>Sg E H t (e m) (e k) (e x) λH'=>K undef H'
 |.typeAssert x _ asserted false=>match dq E asserted with
  |some (.interface _)=>False
  |some _=>match e x with
   |.iface t v=>bif Nat.beq t asserted then K v H else False
   |_=>False
  |none=>False
 |.extract t ix=>match e t with
  |.tuple vs=>match vs[ix]? with
   |some v=>K v H
   |none=>False
  |_=>False
 |.call c=>Z6 E e o.type c H K
 |_=>False
def M3 (ops:Array Oper)(xs:Fr)(o:Oper)(yes no:Fr->Prop):Prop:=
 match o.guard with
 |none=>yes xs
 |some (j,want)=>match (ops[j]?).bind (·.dst) with
  |none=>no xs
  |some d=>match xs[d]? with
   |some (.bool b)=>bif want then cond b (yes (xs.set d (.bool true))) (no (xs.set d (.bool false))) else cond b (no (xs.set d (.bool true))) (yes (xs.set d (.bool false)))
   |some (.tuple ⟨[]⟩)=>no xs
   |none=>no xs
   |_=>False
def wpOps (E:Env)(ops:Array Oper):List Oper->Fr->aa->(Fr->aa->Prop)->Prop
 |[],xs,H,Q=>Q xs H
 |o::l,xs,H,Q=>M3 ops xs o
   (λxs=>wpOp E (tI E xs) o H λv H'=>wpOps E ops l (mU xs o.dst v) H' Q)
   (λxs=>wpOps E ops l (mU xs o.dst undef) H Q)
def ams (b:Bool)(E:Env)(base i:Nat)(e:Operand->Value)(o:Oper)(H:aa)(K:Value->aa->Prop):Prop:=
 match o.op with
 |.alloc _=>K (.pointer (some ⟨base+i,0,none⟩)) H
 |_=>bif eR b o.op then wpOp E e o uY λv H'=>nR (H'.get 0) λ_=>K (zQ (base+i) v) H else wpOp E e o H K
def Fs (b:Bool)(E:Env)(ops:Array Oper)(base:Nat):List Oper->Nat->Fr->aa->Nat->List DR->List aa->(List DR->Fr->List aa->aa->Prop)->Prop
 |[],_,xs,H,_,rs,hs,F=>F rs xs hs H
 |o::l,i,xs,H,k,rs,hs,F=>M3 ops xs o
   (λxs=>ams b E base i (tI E xs) o H λv H'=>
    bif hO b o.op then Fs b E ops base l (i+1) (mU xs o.dst v) H' (k+1) (⟨i,o,true,dj xs,v,k⟩::rs) (hs++[H']) F
    else Fs b E ops base l (i+1) (mU xs o.dst v) H k (⟨i,o,true,dj xs,v,k⟩::rs) hs F)
   (λxs=>Fs b E ops base l (i+1) (mU xs o.dst undef) H k (⟨i,o,false,dj xs,undef,k⟩::rs) hs F)
def Ft (E:Env)(ops:Array Oper)(base:Nat):List Oper->Nat->Fr->aa->List Obj->(List Obj->Prop)->Prop
 |[],_,_,_,os,F=>F os.reverse
 |o::l,i,xs,H,os,F=>M3 ops xs o
   (λxs=>bif eR true o.op then wpOp E (tI E xs) o uY λv H'=>nR (H'.get 0) λob=>Ft E ops base l (i+1) (mU xs o.dst (zQ (base+i) v)) (H.set (base+i) ob) (bif eR false o.op then os else ob::os) F
    else wpOp E (tI E xs) o H λv H'=>Ft E ops base l (i+1) (mU xs o.dst v) H' os F)
   (λxs=>Ft E ops base l (i+1) (mU xs o.dst undef) H (bif eR true o.op&& !eR false o.op then .dead::os else os) F)
def RJ (v w:Value):Prop:=
 match v,w with
 |.int k a,.int j b=>cond (decide (k=j)) (a=b) False
 |.bool a,.bool b=>a=b
 |.pointer a,.pointer b=>a=b
 |.slice a l c,.slice b m d=>a=b/\l=m/\c=d
 |.map a,.map b=>a=b
 |v,w=>fv 8 v w=true
def Xq (b:Bool)(E:Env)(base:Nat)(r:DR)(H:aa):Prop:=
 match r.o.op with
 |.alloc ty=>match (zeroV E ty).bind cellsOf with
  |some vs=>∃c,H.get (base+r.i)=some (.cells true 0 c)/\fv.jP 8 vs c=true
  |none=>False
 |_=>bif eR b r.o.op then wpOp E (ev E r.T) r.o uY λ_ H'=>nR (H'.get 0) λob=>∃o,H.get (base+r.i)=some o/\AO ob o=true
  else wpOp E (ev E r.T) r.o H λv _=>RJ r.v v
def On (b:Bool)(E:Env)(base:Nat)(r:DR)(hs:List aa):Nat->Nat->Prop
 |_,0=>True
 |k,n+1=>(match hs[k]? with
  |some H=>Xq b E base r H
  |none=>False)/\On b E base r hs (k+1) n
def L_ (b:Bool)(E:Env)(base:Nat)(ss:List Bool)(ms:List Nat)(all:List DR)(hs:List aa)(m:Nat):List DR->Prop
 |[]=>True
 |r::l=>bif (!r.w||hO b r.o.op||At r.o.op||(ss.getD r.i false&& !eR b r.o.op)) then L_ b E base ss ms all hs m l
  else (let lo:=fU b (λq=>(ms.getD r.i 0).testBit q.i) all
     let hi:=m - fU b (λq=>(ms.getD q.i 0).testBit r.i) all
     On b E base r hs lo (hi+1 - lo))/\L_ b E base ss ms all hs m l
def EN (b:Bool)(E:Env)(base:Nat):List Oper->Nat->List Obj->aa->Option aa
 |[],_,_,H=>some H
 |o::l,i,os,H=>match o.op with
  |.alloc ty=>match (zeroV E ty).bind cellsOf with
   |some vs=>EN b E base l (i+1) os (H.set (base+i) (.cells true 0 vs))
   |none=>none
  |op=>bif eR b op then (match os with
   |ob::os=>EN b E base l (i+1) os (H.set (base+i) ob)
   |[]=>none) else EN b E base l (i+1) os H
def Sc (b:Bool)(E:Env)(ops:Array Oper)(os:List Obj)(xs:Fr)(H:aa)(Q:Fr->aa->Prop):Prop:=
 match EN b E H.next ops.toList 0 os (H.ae ops.size) with
 |none=>False
 |some H0=>Fs b E ops H.next ops.toList 0 xs H0 0 [] [H0] λrs aN hs H'=>
   Q aN H'/\L_ b E H.next (Fa b ops (iM ops.toList [])) (iM ops.toList []) rs hs (hs.length - 1) rs
def Sb (E:Env)(ops:Array Oper)(xs:Fr)(H:aa)(Q:Fr->aa->Prop):Prop:=
 bif pW false ops then Sc false E ops [] xs H Q
 else bif pW true ops then Ft E ops H.next ops.toList 0 xs (H.ae ops.size) [] λos=>Sc true E ops os xs H Q
 else False
def iP (l:List Oper)(ds:List Nat):List Nat:=
 match l with
 |[]=>ds
 |o::l=>match o.dst with
  |some d=>iP l (bif ds.any (Nat.beq d) then ds else ds++[d])
  |none=>iP l ds
def nI:Code->List Nat->List Nat
 |.region _ ops _,ds=>iP ops.toList ds
 |.seq a b,ds=>nI b (nI a ds)
 |.cond _ a b,ds=>nI b (nI a ds)
 |.block _ b,ds=>nI b ds
 |.loop b,ds=>nI b ds
 |.scope b,ds=>nI b ds
 |_,ds=>ds
def writes (c:Code):List Nat:=nI c []
def xe:Code->List X->List X
 |.seq a b,es=>xe b (xe a es)
 |.cond _ a b,es=>xe b (xe a es)
 |.block id b,es=>es++(xe b []).filter λx=>match x with
  |.exit j=> !(Nat.beq j id)
  |_=>true
 |.loop b,es=>xe b es
 |.scope b,es=>xe b es
 |.exit id,es=>bif es.any (λx=>match x with|.exit j=>Nat.beq j id|_=>false) then es else es++[.exit id]
 |.ret,es=>bif es.any (λx=>match x with|.ret=>true|_=>false) then es else es++[.ret]
 |_,es=>es
def q7 (v:Value)(K:Option Addr->Nat->Prop):Prop:=
 match v with
 |.slice a l c=>cond (Nat.beq c 0) (K a l) False
 |_=>False
def zP (v:Value)(K:Option Addr->Prop):Prop:=
 match v with
 |.pointer p=>K p
 |_=>False
def F3 (z v:Value)(K:Value->Prop):Prop:=
 match z with
 |.int k _=>asInt k v λn=>K (.int k n)
 |.bool _=>asBool v λb=>K (.bool b)
 |.slice _ _ _=>q7 v λa l=>K (.slice a l 0)
 |.pointer _=>zP v λp=>K (.pointer p)
 |.map _=>BF v λm=>K (.map m)
 |_=>K v
def I2:List Value->List Value->(List Value->Prop)->Prop
 |[],[],K=>K []
 |z::zs,v::vs,K=>F3 z v λu=>I2 zs vs λl=>K (u::l)
 |_,_,_=>False
def asAgg (v:Value)(K:List Value->Prop):Prop:=
 match v with
 |.agg cs=>K cs.toList
 |_=>False
def F0 (z v:Value)(K:Value->Prop):Prop:=
 match z with
 |.agg cs=>asAgg v λl=>I2 cs.toList l λl=>K (.agg ⟨l⟩)
 |z=>F3 z v K
def LA (E:Env)(b:Code)(xs:Fr)(H:aa)(Ks:List (X×(Fr->aa->Prop))):Prop:=
 WA E (.loop b) (dj xs) H λx T H'=>∃aN,T=dj aN/\aN.length=xs.length/\(∀k,k∉writes b->aN[k]? =xs[k]?)/\∃p∈Ks,p.1=x/\p.2 aN H'
abbrev oF:=List (Nat×Value)
def ak2:oF->Nat->Value
 |[],_=>undef
 |(k,v)::l,w=>bif Nat.beq k w then v else ak2 l w
def Hu (Z:oF):List Nat->Fr->(Fr->Prop)->Fr->Prop
 |[],acc,K,_=>K acc
 |w::ws,acc,K,xs=>F0 (ak2 Z w) (xs.getD w undef) λv=>Hu Z ws (acc.set w v) K xs
def qE:Code->Nat
 |.seq a b=>qE a+qE b
 |.cond _ a b=>qE a+qE b
 |.block _ b=>qE b
 |.loop b=>qE b+1
 |.scope b=>qE b
 |_=>0
def gr (E:Env):Code->List oF->Fr->aa->(X->Fr->aa->Prop)->Prop
 |.skip,_,xs,H,Q=>Q .normal xs H
 |.label _,_,xs,H,Q=>Q .normal xs H
 |.region _ ops d,_,xs,H,Q=>bif d then Sb E ops xs H (Q .normal) else wpOps E ops ops.toList xs H (Q .normal)
 |.seq a b,Z,xs,H,Q=>gr E a Z xs H λx xs H=>match x with
  |.normal=>gr E b (Z.drop (qE a)) xs H Q
  |.exit id=>Q (.exit id) xs H
  |.ret=>Q .ret xs H
 |.cond c a b,Z,xs,H,Q=>match c with
  |.tmp t=>asBool (xs.getD t undef) λv=>cond v (gr E a Z (xs.set t (.bool true)) H Q) (gr E b (Z.drop (qE a)) (xs.set t (.bool false)) H Q)
  |c=>asBool (tI E xs c) λv=>cond v (gr E a Z xs H Q) (gr E b (Z.drop (qE a)) xs H Q)
 |.block id b,Z,xs,H,Q=>gr E b Z xs H λx xs H=>match x with
  |.normal=>Q .normal xs H
  |.exit j=>bif Nat.beq j id then Q .normal xs H else Q (.exit j) xs H
  |.ret=>Q .ret xs H
 |.loop b,Z,xs,H,Q=>LA E b xs H ((xe b []).map λx=>(x,λaN H'=>Hu (Z.headD []) (writes b) xs (λjE=>Q x jE H') aN))
 |.exit id,_,xs,H,Q=>Q (.exit id) xs H
 |.ret,_,xs,H,Q=>Q .ret xs H
 |.scope b,Z,xs,H,Q=>gr E b Z xs H Q
 |_,_,_,_,_=>False
def Co:Code->List Code
 |.seq a b=>Co a++Co b
 |.cond _ a b=>Co a++Co b
 |.block _ b=>Co b
 |.loop b=>b::Co b
 |.scope b=>Co b
 |_=>[]
def kE (f:Func)(k:Nat):Code:=
 match f.body with
 |some c=>(Co c).getD k .skip
 |none=>.skip
def Mc (E:Env)(xs:Fr)(H:aa):List ResultVar->(List Value->Prop)->Prop
 |[],K=>K []
 |.tmp t::l,K=>Mc E xs H l λvs=>K (xs.getD t undef::vs)
 |.cell a t::l,K=>Z_ E t (xs.getD a undef) H λv=>Mc E xs H l λvs=>K (v::vs)
def adX (E:Env)(fn:Func)(R:Value->aa->Prop)(x:X)(xs:Fr)(H:aa):Prop:=
 match x with
 |.normal=>Mc E xs H fn.results.toList λvs=>R (rJ vs) H
 |.ret=>Mc E xs H fn.results.toList λvs=>R (rJ vs) H
 |.exit _=>False
def O7 (n:Nat)(args:List Value):Fr:=args++List.replicate (n - args.length) undef
def Se (E:Env)(Z:List oF)(fn:Func)(args:List Value)(H:aa)(R:Value->aa->Prop):Prop:=
 match fn.body with
 |some c=>bif Nat.ble args.length fn.ntmps then gr E c Z (O7 fn.ntmps args) H (adX E fn R) else False
 |none=>False
end
end
section
theorem L1 (xs:Fr)(k:Nat):(dj xs).get k=xs[k]? :=by
 unfold dj;rw [R6,Tr.JO _ _ _ _ (bq _)];by_cases h:k<xs.length
 ·rw [ar (by omega),ar h];simp [h]
 ·rw [an (by omega),an h];simp [Nh h]
section trees
variable {α:Type}
theorem Tr.alw (v w:α):∀(t:Tr α)(n:Nat),(t.dt n v).dt n w=t.dt n w
 |.nil,n=>rfl
 |.node o l r,0=>by cases o<;>rfl
 |.node o l r,n+1=>by
  simp only [Tr.uv]
  cases hb:Nat.beq (Nat.mod n 2) 0<;>simp only [bQ,cQ,Tr.uv,hb,Tr.alw v w]
theorem Tr.ZF (v w:α):∀(t:Tr α)(n m:Nat),n≠m->(t.dt n v).dt m w=(t.dt m w).dt n v
 |.nil,n,m,_=>rfl
 |.node o l r,0,0,h=>absurd rfl h
 |.node o l r,0,m+1,h=>by
  simp only [Tr.uv,Tr.CV];cases hb:Nat.beq (Nat.mod m 2) 0<;>simp only [bQ,cQ,Tr.uv,Tr.CV,hb]
 |.node o l r,n+1,0,h=>by
  simp only [Tr.uv,Tr.CV];cases hb:Nat.beq (Nat.mod n 2) 0<;>simp only [bQ,cQ,Tr.uv,Tr.CV,hb]
 |.node o l r,n+1,m+1,h=>by
  simp only [Tr.uv];have key:∀b,Nat.beq (Nat.mod n 2) 0=b->Nat.beq (Nat.mod m 2) 0=b->Nat.div n 2≠Nat.div m 2:=by
   intro b h1 h2;cases b with
   |true=>have e1:=zT h1;have e2:=zT h2;simp only [div_def];omega
   |false=>have e1:=AD h1;have e2:=AD h2;simp only [div_def];omega
  cases hb:Nat.beq (Nat.mod n 2) 0<;>cases hc:Nat.beq (Nat.mod m 2) 0<;>simp only [bQ,cQ,Tr.uv,hb,hc]
  ·rw [Tr.ZF v w r _ _ (key _ hb hc)]
  ·rw [Tr.ZF v w l _ _ (key _ hb hc)]
theorem alx (v:α):∀(xs:List α)(n:Nat)(t:Tr α)(k:Nat),k<xs.length->(Tr.uw xs n t).dt (n+k) v=Tr.uw (xs.set k v) n t
 |[],n,t,k,h=>by simp at h
 |x::xs,n,t,k,h=>by
  have out:∀(l:List α)(m:Nat)(s:Tr α),n<m->(Tr.uw l m s).dt n v=Tr.uw l m (s.dt n v):=by
   intro l
   induction l with
   |nil=>intro m s _;rfl
   |cons y l ih=>
    intro m s hm;simp only [Tr.HX];rw [ih (m+1) _ (by omega),Tr.ZF y v _ _ _ (show m≠n by omega)]
  cases k with
  |zero=>
   simp only [Fz,Nd,Tr.HX];rw [out xs (n+1) _ (by omega),Tr.alw]
  |succ k=>
   simp only [Nf,Tr.HX]
   have:=alx v xs (n+1) (t.dt n x) k (by simpa using h)
   rw [show n+(k+1)=n+1+k from by omega];exact this
theorem Tr.ayi (v:α)(t:Tr α)(n:Nat)(h:t.get n=none):t.dt n v=t:=by
 induction t generalizing n with
 |nil=>rfl
 |node o l r il ir=>
  cases n with
  |zero=>
   have:o=none:=h
   subst this;rfl
  |succ n=>
   simp only [Tr.pI] at h;simp only [Tr.uv];cases hb:Nat.beq (Nat.mod n 2) 0<;>rw [hb] at h<;>simp only [bQ,cQ] at h⊢
   ·rw [ir _ h]
   ·rw [il _ h]
end trees
theorem awd (xs:Fr)(d:Nat)(v:Value):(dj xs).dt d v=dj (xs.set d v):=by
 by_cases h:d<xs.length
 ·unfold dj;rw [gT]
  have:=alx v xs 0 (Tr.fill undef xs.length xs.length) d h
  rwa [cG] at this
 ·rw [Sq (Nh h)];refine Tr.ayi _ _ _ ?_;rw [L1];simp [Nh h]
theorem AH (xs:Fr)(d:Option Tmp)(v:Value):jt (dj xs) d v=dj (mU xs d v):=by
 cases d with
 |none=>rfl
 |some d=>exact awd xs d v
theorem yw (E:Env)(xs:Fr):ev E (dj xs)=tI E xs:=by
 funext x
 cases x with
 |tmp t=>
  show ((dj xs).get t).getD undef=xs.getD t undef;rw [L1,gu]
 |const v=>rfl
 |global g=>rfl
 |func f=>rfl
theorem ahg {fn:Func}{args:List Value}(h:args.length<=fn.ntmps):yS fn args=some (dj (O7 fn.ntmps args)):=by
 unfold yS;rw [Nat.ble_eq_true_of_le h];simp only [bQ,bc];unfold dj O7;have hl:(args++List.replicate (fn.ntmps - args.length) undef).length=fn.ntmps:=by simp;omega
 rw [hl];have app:∀(l m:List Value)(n:Nat)(t:Tr Value),Tr.uw (l++m) n t=Tr.uw m (n+l.length) (Tr.uw l n t):=by
  intro l
  induction l with
  |nil=>intro m n t;rfl
  |cons x l ih=>
   intro m n t;simp only [rR,Tr.HX,ih,gU];rw [show n+1+l.length=n+(l.length+1) from by omega]
 rw [app];have same:∀(k n:Nat)(t:Tr Value),(∀j,n<=j->j<n+k->t.get j=some undef)->Tr.uw (List.replicate k undef) n t=t:=by
  intro k
  induction k with
  |zero=>intro n t _;rfl
  |succ k ih=>
   intro n t ht;simp only [SC,Tr.HX];have e:t.dt n undef=t:=by
    have:=ht n (bq _) (by omega)
    clear ht ih
    induction t generalizing n with
    |nil=>rfl
    |node o l r il ir=>
     cases n with
     |zero=>
      have h0:o=some undef:=this;subst h0;rfl
     |succ n=>
      simp only [Tr.pI] at this;simp only [Tr.uv];cases hb:Nat.beq (Nat.mod n 2) 0<;>rw [hb] at this<;>simp only [bQ,cQ] at this⊢
      ·rw [ir _ this]
      ·rw [il _ this]
   rw [e];exact ih (n+1) t λj h1 h2=>ht j (by omega) (by omega)
 rw [same];intro j h1 h2;rw [R6,an (by omega),Tr.JO _ _ _ _ (bq _),ar (by omega)]
section
variable {E:Env}
theorem uJ {v:Value}{K:Bool->Prop}(h:asBool v K):∃b,v=.bool b/\K b:=by
 unfold asBool at h;split at h
 ·exact ⟨_,rfl,h⟩
 ·exact h.elim
theorem gF {k:IntKind}{v:Value}{K:Int->Prop}(h:asInt k v K):∃n,v=.int k n/\K n:=by
 unfold asInt at h;split at h
 ·rename_i j n;by_cases e:j=k
  ·subst e;simp only [decide_true,bQ] at h;exact ⟨_,rfl,h⟩
  ·simp only [e,SP,cQ] at h
 ·exact h.elim
theorem zO {v:Value}{K:Int->Prop}(h:w4 v K):∃k n,v=.int k n/\K n:=by
 unfold w4 at h;split at h
 ·exact ⟨_,_,rfl,h⟩
 ·exact h.elim
theorem FY {v:Value}{K:Nat->Nat->Prop}(h:asAddr v K):∃i o,v=.pointer (some ⟨i,o,none⟩)/\K i o:=by
 unfold asAddr at h;split at h
 ·exact ⟨_,_,rfl,h⟩
 ·exact h.elim
theorem apu {a:Option Addr}{K:Nat->Nat->Prop}(h:aV a K):∃i o,a=some ⟨i,o,none⟩/\K i o:=by
 unfold aV at h;split at h
 ·exact ⟨_,_,rfl,h⟩
 ·exact h.elim
theorem I5 {v:Value}{K:Option Addr->Nat->Prop}(h:asSlice v K):∃a l c,v=.slice a l c/\K a l:=by
 unfold asSlice at h;split at h
 ·exact ⟨_,_,_,rfl,h⟩
 ·exact h.elim
theorem DH {v:Value}{K:Option Nat->Prop}(h:BF v K):∃m,v=.map m/\K m:=by
 unfold BF at h;split at h
 ·exact ⟨_,rfl,h⟩
 ·exact h.elim
theorem ab9 {v:Value}{K:FuncId->List Value->List Value->Prop}(h:kQ v K):∃f fs cs,v=.func (.func f) fs cs/\K f fs.toList cs.toList:=by
 unfold kQ at h;split at h
 ·exact ⟨_,_,_,rfl,h⟩
 ·exact h.elim
theorem ab7 {v:Value}{K:List Value->Prop}(h:pz v K):∃l,cellsOf v=some l/\K l:=by
 unfold pz at h;split at h
 ·exact ⟨_,‹_›,h⟩
 ·exact h.elim
theorem uL {α:Type}{o:Option α}{K:α->Prop}(h:nR o K):∃x,o=some x/\K x:=by
 unfold nR at h;split at h
 ·exact ⟨_,rfl,h⟩
 ·exact h.elim
def FR (E:Env)(H:aa)(K:Value->aa->Prop):Option bV->Prop
 |some (.val v H')=>K v H'
 |some (.call f args)=>CA E f args H K
 |none=>False
theorem sK {H:aa}{K:Value->aa->Prop}{o:Option Value}(h:∃v,o=some v/\K v H):FR E H K (rv H o):=by
 obtain ⟨v,rfl,h⟩:=h;exact h
theorem Mb {H:aa}{K:Value->aa->Prop}{o:Option aa}(h:∃H',o=some H'/\K undef H'):FR E H K (rh o):=by
 obtain ⟨v,rfl,h⟩:=h;exact h
theorem HG {H:aa}{K:Value->aa->Prop}{o:Option (Value×aa)}(h:∃v H',o=some (v,H')/\K v H'):FR E H K (sN o):=by
 obtain ⟨v,H',rfl,h⟩:=h;exact h
theorem amq {t:Nat}{a:Value}{H:aa}{K:Value->Prop}(h:Z_ E t a H K):∃v,Av E H t a=some v/\K v:=by
 replace h:=FY h;obtain ⟨i,o,rfl,h⟩:=h;simp only [Av];split at h
 ·rename_i Ei;have⟨v,h1,h2⟩:=JI h;refine ⟨v,?_,h2⟩;unfold aa.cell at h1;split at h1
  ·rename_i w z c hg;rw [hg];simp only [Ei];exact h1
  ·cases h1
 ·rename_i Ei;split at h
  ·rename_i n hn;cases hb:Nat.beq n 0 with
   |true=>rw [hb] at h;exact h.elim
   |false=>
    rw [hb] at h;have⟨l,h1,h2⟩:=U4 h;refine ⟨_,?_,h2⟩;unfold aa.aM at h1;split at h1
    ·rename_i w z c hg;rw [hg];simp only [Ei,hn,bP];rw [an (Di hb),h1];rfl
    ·cases h1
  ·exact h.elim
 ·exact h.elim
theorem Zx {H:aa}{i o:Nat}{vs:List Value}{K:aa->Prop}(h:aq H i o vs K):∃H',sV H i o vs=some H'/\K H':=by
 have⟨z,c,h1,h2,h3⟩:=h;refine ⟨_,?_,h3⟩;unfold sV;rw [h1];simp only;rw [ar h2]
theorem aC1 {t:Nat}{a v:Value}{H:aa}{K:aa->Prop}(h:amt E t a v H K):∃H',CT E H t a v=some H'/\K H':=by
 replace h:=FY h;obtain ⟨i,o,rfl,h⟩:=h;have⟨vs,hc,h⟩:=ab7 h;split at h
 ·rename_i n hn;cases hb:Nat.beq vs.length n with
  |false=>rw [hb] at h;exact h.elim
  |true=>
   rw [hb] at h;have⟨H',h1,h2⟩:=Zx h;refine ⟨H',?_,h2⟩;simp only [CT,hc,hn,bP];rw [ar (nN hb)];exact h1
 ·exact h.elim
theorem amp {op:BinOp}{k:IntKind}{a b:Int}{K:Value->Prop}(h:Sf op k a b K):(Ch op=true->∃v,Mr op k a b=some v/\K v)/\(Ch op=false->∃v,G3 op k a b=some v/\K v):=by
 cases op<;>simp only [Sf,Ch] at h⊢ <;>refine ⟨λhs=>?_,λhs=>?_⟩<;>first
  |(cases hs;done)
  |(have⟨h1,h2⟩:=h
    refine ⟨_,?_,h2⟩
    first
     |(simp only [G3];rw [an h1])
     |(simp only [Mr];rw [an (by unfold nn at h1;omega)]))
  |exact uL h
theorem aCU {H:aa}{d t:Nat}{x y:Value}{K:Bool->Prop}(h:Z8 E t x y K):∃b,j7 E H (d+1) t x y=some b/\K b:=by
 unfold Z8 at h;split at h
 ·rename_i k hu;split at h
  ·rename_i k a j b;by_cases e:k=j
   ·subst e;simp only [decide_true,bQ] at h;refine ⟨_,?_,h⟩;simp [j7,hu]
   ·simp only [e,SP,cQ] at h
  ·exact h.elim
 ·rename_i hu;split at h
  ·refine ⟨_,?_,h⟩;simp [j7,hu]
  ·exact h.elim
 ·exact h.elim
theorem amj {H:aa}{d:Nat}{xs ys:Array Value}:∀{fs:List Field}{K:Bool->Prop},Sd E xs ys fs K->∃b,DZ E (j7 E H (d+1)) xs ys fs=some b/\K b
 |[],K,h=>⟨true,rfl,h⟩
 |f::fs,K,h=>by
  simp only [Sd] at h
  split at h
  ·rename_i u hu
   split at h
   ·rename_i v hv
    have⟨b,h1,h2⟩:=aCU (H:=H) (d:=d) h
    simp only [DZ,hu,hv,bP,h1]
    split at h2
    ·cases b with
     |true=>exact ⟨true,rfl,h2⟩
     |false=>exact ⟨false,rfl,h2⟩
    ·have⟨b',h3,h4⟩:=amj (H:=H) (d:=d) h2
     cases b with
     |true=>exact ⟨b',h3,by simpa using h4⟩
     |false=>exact ⟨false,rfl,by simpa using h4⟩
   ·exact h.elim
  ·exact h.elim
theorem ame {H:aa}{op:BinOp}{t:Nat}{x y:Value}{K:Value->Prop}(h:Sa E H op t x y K):∃v,nb E H op t x y=some v/\K v:=by
 unfold Sa at h;split at h
 ·rename_i k a;split at h
  ·rename_i j b;cases hs:Ch op with
   |true=>
    rw [hs] at h;have⟨v,h1,h2⟩:=(amp h).1 hs;exact ⟨v,by simp only [nb,hs,bQ];exact h1,h2⟩
   |false=>
    rw [hs] at h;simp only [cQ] at h;by_cases e:k=j
    ·subst e;simp only [decide_true,bQ] at h;have⟨v,h1,h2⟩:=(amp h).2 hs;exact ⟨v,by simp only [nb,hs,cQ,ar];exact h1,h2⟩
    ·simp only [e,SP,cQ] at h
  ·exact h.elim
 ·rename_i a;split at h
  ·rename_i b;split at h
   ·rename_i hu;split at h
    ·exact ⟨_,by simp [nb,pG,j7,hu],h⟩
    ·exact ⟨_,by simp [nb,pG,j7,hu],h⟩
    ·exact h.elim
   ·exact h.elim
  ·exact h.elim
 ·rename_i xs;split at h
  ·rename_i ys;cases hq:E.qp t with
   |false=>rw [hq] at h;exact h.elim
   |true=>
    rw [hq] at h;simp only [bQ] at h;split at h
    ·rename_i fields hu;have⟨b,h1,h2⟩:=amj (H:=H) (d:=2) h;have e:j7 E H 4 t (.agg xs) (.agg ys)=some b:=by
      unfold j7;simp only [hu,hq,bQ];exact h1
     split at h2
     ·exact ⟨_,by simp only [nb,hq,bQ,e,fa],h2⟩
     ·exact ⟨_,by simp only [nb,hq,bQ,e,fa],h2⟩
     ·exact h2.elim
    ·exact h.elim
  ·exact h.elim
 ·exact uL h
theorem aCY {H:aa}{op:BinOp}{t:Nat}{c v:Value}{K:Value->Prop}(h:aac E op t c v K):∃u,nb E H op t v c=some u/\K u:=by
 unfold aac ajW at h;split at h
 ·rename_i hu;split at h
  ·rename_i p;split at h<;>first
    |exact h.elim
    |(refine ⟨_,?_,h⟩
      cases p with
      |none=>simp [nb,pG,j7,hu]
      |some a=>simp [nb,pG,j7,hu])
  ·exact h.elim
 ·rename_i hu;split at h
  ·rename_i p _ _;split at h<;>first
    |exact h.elim
    |(refine ⟨_,?_,h⟩
      cases p with
      |none=>simp [nb,pG,j7,hu]
      |some a=>simp [nb,pG,j7,hu])
  ·exact h.elim
 ·rename_i hu;split at h
  ·rename_i p;split at h<;>first
    |exact h.elim
    |(refine ⟨_,?_,h⟩
      cases p with
      |none=>simp [nb,pG,j7,hu]
      |some a=>simp [nb,pG,j7,hu])
  ·exact h.elim
 ·rename_i hu;unfold ab8 at h;split at h
  ·split at h<;>first
    |exact h.elim
    |exact ⟨_,by simp [nb,pG,j7,hu],h⟩
  ·split at h<;>first
    |exact h.elim
    |exact ⟨_,by simp [nb,pG,j7,hu],h⟩
  ·exact h.elim
 ·exact h.elim
theorem ap3 {len:Nat}{hi:Option Value}{K:Nat->Prop}(h:Ua len hi K):∃n,tF 0 len len hi=some n/\K n:=by
 unfold Ua at h;split at h
 ·exact ⟨len,by simp [tF],h⟩
 ·replace h:=zO h;obtain ⟨k,n,rfl,h1,h2⟩:=h;exact ⟨_,by simp only [tF];rw [ar (by simpa [vc] using h1)],h2⟩
theorem ap4 {hh:Nat}{lo:Option Value}{K:Nat->Prop}(h:Ub hh lo K):∃n,tF 0 0 hh lo=some n/\K n:=by
 unfold Ub at h;split at h
 ·exact ⟨0,by simp [tF],h⟩
 ·replace h:=zO h;obtain ⟨k,n,rfl,h1,h2⟩:=h;exact ⟨_,by simp only [tF];rw [ar (by simpa [vc] using h1)],h2⟩
theorem aC0 {H:aa}{t:Nat}{x:Value}{lo hi mx:Option Value}{K:Value->Prop}(h:aad E H t x lo hi mx K):∃v,HP E H t x lo hi mx=some v/\K v:=by
 unfold aad at h;split at h
 ·exact h.elim
 ·split at h
  ·rename_i e hu;split at h
   ·rename_i n hn;replace h:=I5 h;obtain ⟨a,len,c,rfl,h⟩:=h;have⟨hh,h1,h⟩:=ap3 h;have⟨l,h2,h⟩:=ap4 h;unfold E6 at h;simp only [HP,hu,hn,bP,h1,h2];split at h
    ·exact ⟨_,rfl,h⟩
    ·have⟨⟨w,z,c,h3,h4⟩,h5⟩:=h;refine ⟨_,?_,h5⟩;simp only [h3];rw [ar h4]
    ·exact h.elim
   ·exact h.elim
  ·rename_i n e hu;split at h
   ·rename_i hn;replace h:=FY h;obtain ⟨i,o,rfl,⟨w,c,h3⟩,h5⟩:=h;exact ⟨_,by simp only [HP,hu,h3,hn,bP],h5⟩
   ·exact h.elim
  ·exact h.elim
theorem aCW {H:aa}{t:Nat}{x k:Value}{ok:Bool}{K:Value->Prop}(h:aaa E H t x k ok K):∃v,G9 E H t x k ok=some v/\K v:=by
 unfold aaa at h;split at h
 ·rename_i kt e hu;split at h
  ·rename_i kd hk;split at h
   ·rename_i z hz;replace h:=DH h;obtain ⟨m,rfl,r,hr,h⟩:=h;have⟨v,h1,h2⟩:=U6 h;refine ⟨_,?_,h2⟩;unfold gO at h1;unfold sH entriesOf at hr;simp only [G9,hu,hk,hz,bP];cases m with
    |none=>
     simp only [bP] at hr⊢;rw [hr];cases r with
     |none=>simp only at h1;subst h1;cases ok<;>rfl
     |some p=>have⟨j,u⟩:=p;simp only at h1;subst h1;cases ok<;>rfl
    |some i=>
     simp only at hr⊢;split at hr
     ·rename_i es ck hg;simp only [hg,bP] at hr⊢;rw [hr];cases r with
      |none=>simp only at h1;subst h1;cases ok<;>rfl
      |some p=>have⟨j,u⟩:=p;simp only at h1;subst h1;cases ok<;>rfl
     ·cases hr
   ·exact h.elim
  ·exact h.elim
 ·exact h.elim
theorem amr {H:aa}{t:Nat}{m k v:Value}{K:aa->Prop}(h:Sg E H t m k v K):∃H',Ax E H t m k v=some H'/\K H':=by
 unfold Sg at h;split at h
 ·rename_i kt e hu;split at h
  ·rename_i kd hk;replace h:=DH h;obtain ⟨m,rfl,i,es,ck,r,rfl,h1,h2,h3⟩:=h;refine ⟨_,?_,h3⟩;simp only [Ax,hu,hk,bP,h1,h2,fa,bc];cases r with
   |none=>rfl
   |some p=>rfl
  ·exact h.elim
 ·exact h.elim
theorem aCT {H:aa}{t:Nat}{m k:Value}{K:aa->Prop}(h:Z7 E H t m k K):∃H',DT E H t m k=some H'/\K H':=by
 unfold Z7 at h;split at h
 ·rename_i kt e hu;split at h
  ·rename_i kd hk;replace h:=DH h;obtain ⟨m,rfl,i,es,ck,r,rfl,h1,h2,h3⟩:=h;refine ⟨_,?_,h3⟩;simp only [DT,hu,hk,bP,h1,h2,fa,bc];cases r with
   |none=>rfl
   |some p=>rfl
  ·exact h.elim
 ·exact h.elim
theorem aCV {H:aa}{t:Nat}{x:Value}{K:Value->Prop}(h:Z9 E H t x K):∃v,lW E H t x=some v/\K v:=by
 unfold Z9 at h;split at h
 ·rename_i e hu;replace h:=I5 h;obtain ⟨a,n,c,rfl,h⟩:=h;exact ⟨_,by simp only [lW,hu];rfl,h⟩
 ·rename_i hu;split at h
  ·exact ⟨_,by simp only [lW,hu];rfl,h⟩
  ·exact h.elim
 ·rename_i n e hu;exact ⟨_,by simp only [lW,hu];rfl,h⟩
 ·rename_i kt e hu;replace h:=DH h;obtain ⟨m,rfl,es,h1,h2⟩:=h;unfold entriesOf at h1;cases m with
  |none=>
   simp only [bc] at h1;subst h1;exact ⟨_,by simp only [lW,hu];rfl,h2⟩
  |some i=>
   simp only at h1;split at h1
   ·rename_i es' ck hg;simp only [bc] at h1;subst h1;exact ⟨_,by simp only [lW,hu,hg];rfl,h2⟩
   ·cases h1
 ·exact h.elim
theorem aw2 {H:aa}{es:Nat}{a:Option Addr}{n c:Nat}{l:List Value}(h:rowOf H es a n=some l):yz H es n (.slice a n c)=some l:=by
 unfold rowOf at h;cases a with
 |none=>exact h
 |some A=>
  have⟨i,o,s⟩:=A;cases s<;>exact h
theorem aCO {H:aa}{ts:Array TypeId}{args:List Value}{K:Value->aa->Prop}(h:Z3 E H ts args K):∃v H',I1 E H ts args=some (v,H')/\K v H':=by
 unfold Z3 at h;split at h
 ·rename_i st xt hts;cases hb:Nat.beq xt st with
  |false=>rw [hb] at h;exact h.elim
  |true=>
   obtain rfl:=nN hb;rw [hb] at h;simp only [bQ] at h;split at h
   ·rename_i e hu;split at h
    ·rename_i es z i h1 h2 h3;cases hz:(Nat.beq es 0||Nat.beq i.bytes 0) with
     |true=>rw [hz] at h;exact h.elim
     |false=>
      rw [hz] at h;simp only [cQ] at h;simp only [Sz] at hz;split at h
      ·rename_i x y;replace h:=I5 h;obtain ⟨a,len,c,rfl,h⟩:=h;replace h:=I5 h;obtain ⟨b,n,c',rfl,new,nt,h⟩:=h;have J8:1<=i.bytes:=by have:=Di hz.2;omega
       simp only [I1,hts,ar,hu,h1,bP,Cm,aw2 nt,hz.1,cQ];cases tO:E.Gq xt with
       |false=>
        rw [tO] at h;simp only [cQ] at h;rcases h with ⟨rfl,h⟩|⟨hn,h⟩
        ·rw [ar rfl];refine ⟨_,_,rfl,?_⟩;exact h
        ·rw [an (by omega)];rcases h with ⟨rfl,rfl,B_,h⟩|⟨j,o,cs,rfl,hg,h⟩
         ·simp only [ar,so,h2,h3,bP];rw [ar ⟨B_,J8⟩];exact ⟨_,_,rfl,by simpa [vi] using h⟩
         ·simp only [hg,ar];rcases h with ⟨hc,H',hs,h⟩|⟨hc,old,ho,B_,h⟩
          ·rw [ar hc,hs];exact ⟨_,_,rfl,h⟩
          ·rw [an (by omega),ho];simp only [bP,tO,Bool.false_and,cQ,so,h2,h3];rw [ar ⟨B_,J8⟩];exact ⟨_,_,rfl,h⟩
       |true=>
        rw [tO] at h;simp only [bQ] at h;rcases h with ⟨rfl,h⟩|⟨hn,h⟩
        ·rw [ar rfl];exact ⟨_,_,rfl,h⟩
        ·rw [an (by omega)];rcases h with ⟨rfl,rfl,B_,h⟩|⟨j,o,cs,rfl,hg,h⟩
         ·simp only [ar,so,h2,h3,bP];rw [ar ⟨B_,J8⟩];exact ⟨_,_,rfl,by simpa [vi] using h⟩
         ·simp only [hg,ar];rcases h with ⟨hc,H',hs,h⟩|⟨hc,old,ho,B_,h⟩
          ·rw [ar hc,hs];exact ⟨_,_,rfl,h⟩
          ·rw [an (by omega),ho];rcases h with ⟨ar_,h⟩|⟨rfl,h⟩
           ·have hb:Nat.beq len 256=false:=by
             cases hx:Nat.beq len 256 with
             |false=>rfl
             |true=>exact absurd (nN hx) ar_
            simp only [bP,tO,hb,Bool.and_false,cQ,so,h2,h3];rw [ar ⟨B_,J8⟩];exact ⟨_,_,rfl,h⟩
           ·simp only [bP,tO,Nat.beq_refl,Bool.and_self,bQ,Gu,h2,h3];rw [ar ⟨B_,J8⟩];exact ⟨_,_,rfl,h⟩
      ·exact h.elim
    ·exact h.elim
   ·exact h.elim
 ·exact h.elim
theorem aCP {H:aa}{b:Builtin}{ts:Array TypeId}{args:List Value}{K:Value->aa->Prop}(h:Z5 E H b ts args K):FR E H K (yp E H b ts args):=by
 unfold Z5 at h;split at h
 ·exact HG (aCO h)
 ·have⟨v,H',h1,h2⟩:=h;obtain ⟨u,rfl,h2⟩:=JI h2;exact HG ⟨_,_,h1,h2⟩
 ·split at h
  ·rename_i t _ x _ ht;simp only [yp,ht];exact sK (aCV h)
  ·exact h.elim
 ·split at h
  ·rename_i t _ m k ht;simp only [yp,ht];exact Mb (aCT h)
  ·exact h.elim
 ·split at h
  ·rename_i t _ x ht;simp only [yp,ht];exact Mb (uL h)
  ·exact h.elim
 ·exact sK (uL h)
 ·exact sK (uL h)
 ·exact h.elim
theorem aaL {f:FuncId}{args:List Value}{H:aa}{z:Value}{K:Value->aa->Prop}(h:CA E f args H λv H'=>JH z λu=>v=u/\K u H'):CA E f args H K:=
 h.mono λv H' h=>by
  obtain ⟨u,rfl,h⟩:=aro h
  exact h
theorem aCQ {e:Operand->Value}{t:TypeId}{c:Call}{H:aa}{K:Value->aa->Prop}(h:Z6 E e t c H K)(he:∀f,e (.func f)=.func (.func f) #[] #[]) :
  FR E H K (match c.callee with
   |.value f=>DN E H (e f) (c.args.toList.map e)
   |.builtin b=>yp E H b c.argTypes (c.args.toList.map e)
   |.invoke _ _=>none):=by
 unfold Z6 at h;split at h
 ·rename_i f hf;rw [hf];simp only [he,DN,rQ,C7];unfold amf at h;split at h
  ·rename_i fn sA;simp only [sA];exact aaL h
  ·rename_i sA;simp only [sA];cases hc:E.clone f with
   |false=>rw [hc] at h;exact h.elim
   |true=>
    rw [hc] at h;simp only [bQ] at h⊢;split at h
    ·rename_i t v ha;obtain ⟨m,hv,i,es,ck,rfl,h1,h2⟩:=DH h;subst hv;simp only [Oq,ha,h1];exact h2
    ·exact h.elim
 ·rename_i f hf aW;rw [aW];have⟨k,fs,cs,hv,⟨fn,sA⟩,h⟩:=ab9 h;simp only [hv,DN,sA];exact aaL h
 ·rename_i b hb;rw [hb];exact aCP h
 ·exact h.elim
theorem aCX {H:aa}{t:Nat}{len cap:Value}{K:Value->aa->Prop}(h:aab E H t len cap K):∃v H',Ha E H t len cap=some (v,H')/\K v H':=by
 unfold aab at h;split at h
 ·rename_i e hu;split at h
  ·rename_i z i hz hi;replace h:=zO h;obtain ⟨k,l,rfl,h⟩:=h;replace h:=zO h;obtain ⟨k',c,rfl,h1,h⟩:=h;cases hb:(Nat.ble 1 i.bytes&&Nat.ble 1 z.length) with
   |false=>rw [hb] at h;exact h.elim
   |true=>
    rw [hb] at h;simp only [jX] at hb;refine ⟨_,_,?_,h⟩;simp only [Ha,hu,hz,hi,bP];rw [ar ⟨h1.1,h1.2.1,h1.2.2,aS hb.1,aS hb.2⟩];rfl
  ·exact h.elim
 ·exact h.elim
theorem MY {e:Operand->Value}{o:Oper}{H:aa}{K:Value->aa->Prop}(he:∀f,e (.func f)=.func (.func f) #[] #[])(hc:∀v,plain v=true->e (.const v)=v)(h:wpOp E e o H K):FR E H K (aH E e o.op H):=by
 unfold wpOp at h;split at h
 case h_1 bB=>simp only [bB,aH];exact h
 case h_2 bB=>simp only [bB,aH];exact h
 case h_3 c a b bB=>
  simp only [bB,aH];have⟨t,h1,h2⟩:=uJ h;simp only [h1];cases t<;>exact h2
 case h_4 t bB=>
  simp only [bB,aH];split at h
  ·rename_i vs hz;cases h1:zeroV E t with
   |none=>rw [h1] at hz;cases hz
   |some z=>
    rw [h1] at hz;simp only [bP] at hz⊢;refine HG ⟨_,_,by rw [uk,hz];rfl,h⟩
  ·exact h.elim
 case h_5 t x bB=>
  simp only [bB,aH];have⟨vs,h1,h2⟩:=ab7 h;exact HG ⟨_,_,by rw [uk,h1];rfl,h2⟩
 case h_6 t parts bB=>
  simp only [bB,aH];have e1:parts.map (λp=>(p.1,e p.2))=⟨parts.toList.map λp=>(p.1,e p.2)⟩:=by rw [<-FE];simp
  rw [e1];exact sK (uL h)
 case h_7 t len parts bB=>
  simp only [bB,aH];have e1:parts.map (λp=>(p.1,e p.2))=⟨parts.toList.map λp=>(p.1,e p.2)⟩:=by rw [<-FE];simp
  rw [e1];have⟨p,h1,h2⟩:=uL h;have h3:F5 E H t len ⟨parts.toList.map λp=>(p.1,e p.2)⟩=some (.slice (some ⟨H.next,0,none⟩) len 0,H.new (.cells true p.1 p.2)):=by
   unfold aer at h1;unfold F5;split at h1
   ·rename_i el hu;cases hz:pb E el with
    |none=>rw [hz] at h1;cases h1
    |some z=>
     rw [hz] at h1;simp only [hu,hz,bP] at h1⊢;cases hcd:(CP ⟨parts.toList.map λp=>(p.1,e p.2)⟩&&Nat.ble (len*z.length) 16777216&&Nat.ble 1 z.length) with
     |false=>rw [hcd] at h1;cases h1
     |true=>
     rw [hcd] at h1;simp only [bQ] at h1⊢;cases agn:Instr.fill (λi=>some (i*z.length,z.length)) ⟨fE len z⟩ (parts.toList.map λp=>(p.1,e p.2)) with
     |none=>rw [agn] at h1;cases h1
     |some cs=>
      rw [agn] at h1;simp only [bP] at h1⊢;cases ho:cs.toList.all one with
      |false=>rw [ho] at h1;cases h1
      |true=>
       rw [ho] at h1;simp only [bQ,bc] at h1;subst h1;simp [vi]
   ·cases h1
  exact HG ⟨_,_,h3,h2⟩
 case h_8 t a bB=>simp only [bB,aH];exact sK (amq h)
 case h_9 t a x bB=>simp only [bB,aH];exact Mb (aC1 h)
 case h_10 x bB=>
  simp only [bB,aH];split at h
  ·have⟨f,fs,cs,h1,h2⟩:=ab9 h;simp only [h1];exact h2
  ·have⟨i,o,h1,h2⟩:=FY h;simp only [h1];exact h2
 case h_11 op t x y t2 bB=>
  simp only [bB,aH];split at h
  ·rename_i c;cases hb:(ahk c&&plain c) with
   |true=>
    rw [hb] at h;simp only [jX] at hb;rw [hc _ hb.2];exact sK (aCY h)
   |false=>rw [hb] at h;exact sK (ame h)
  ·exact sK (ame h)
 case h_12 bB=>simp only [bB,aH];exact sK (uL h)
 case h_13 bB=>simp only [bB,aH];exact sK (uL h)
 case h_14 t x bB=>
  simp only [bB,aH];split at h
  ·exact h.elim
  ·rename_i d aW hd;rw [hd];cases d<;>first
    |exact h
    |exact (aW _ rfl).elim
  ·exact h.elim
 case h_15 f first captured bB=>
  simp only [bB,aH];have e1:first.map e=⟨first.toList.map e⟩:=by rw [<-FE];simp
  have e2:captured.map e=⟨captured.toList.map e⟩:=by rw [<-FE];simp
  rw [e1,e2];exact h
 case h_16 bB=>simp only [bB,aH];exact h
 case h_17 t r bB=>
  simp only [bB,aH];split at h
  ·rename_i kt e' hu;have⟨k,n,h1,h2⟩:=zO h;simp only [hu,h1];exact h2
  ·exact h.elim
 case h_18 bB=>simp only [bB,aH];exact HG (aCX h)
 case h_19 bB=>simp only [bB,aH];exact sK (aC0 h)
 case h_20 s x f bB=>
  simp only [bB,aH];unfold amk at h;split at h
  ·rename_i fields hu;split at h
   ·rename_i fd hf;split at h
    ·rename_i n hn;cases hb:Nat.beq n 0 with
     |true=>rw [hb] at h;exact h.elim
     |false=>
      rw [hb] at h;have⟨i,o,h1,h2⟩:=FY h;simp only [hu,h1,hf,hn,bP];rw [an (Di hb)];exact h2
    ·exact h.elim
   ·exact h.elim
  ·exact h.elim
 case h_21 t x f bB=>
  simp only [bB,aH];split at h
  ·rename_i fields cs hu hx;split at h
   ·rename_i fd hf;simp only [hu,hx,hf];exact sK (uL h)
   ·exact h.elim
  ·exact h.elim
 case h_22 t x ix bB=>
  simp only [bB,aH];unfold amo at h;split at h
  ·rename_i el hu;split at h
   ·rename_i s hs;have⟨a,len,c,hx,h1⟩:=I5 h;have⟨k,n,hi,hb,h2⟩:=zO h1;obtain ⟨i,o,rfl,h3⟩:=apu h2;simp only [hu,hx,hi,hs,bP];rw [ar (show _/\_ from hb)];exact h3
   ·exact h.elim
  ·rename_i len el hu;split at h
   ·rename_i s hs;have⟨i,o,hx,h⟩:=FY h;have⟨k,n,hi,hb,h⟩:=zO h;simp only [hu,hx,hi,hs,bP];rw [ar (show _/\_ from hb)];exact h
   ·exact h.elim
  ·exact h.elim
 case h_23 t x ix bB=>
  simp only [bB,aH];split at h
  ·rename_i len el hu;split at h
   ·rename_i cs s hx hs;have⟨k,n,hi,hb,h⟩:=zO h;simp only [hu,hx,hi,hs,bP];rw [ar (show _/\_ from hb)];exact sK (uL h)
   ·exact h.elim
  ·rename_i hu;split at h
   ·rename_i s hx;have⟨k,n,hi,h⟩:=zO h;have⟨v,h1,h⟩:=uL h;obtain ⟨u,rfl,h⟩:=JI h;simp only [hu,hx,hi];exact sK ⟨_,h1,h⟩
   ·exact h.elim
  ·exact h.elim
 case h_24 bB=>simp only [bB,aH];exact sK (aCW h)
 case h_25 bB=>simp only [bB,aH];exact Mb (amr h)
 case h_26 bB=>simp only [bB,aH];exact Mb (amr h)
 case h_27 x t0 asserted bB=>
  simp only [bB,aH];split at h
  ·exact h.elim
  ·rename_i d aW hu;split at h
   ·rename_i t v hx;cases hb:Nat.beq t asserted with
    |false=>rw [hb] at h;exact h.elim
    |true=>
     rw [hb] at h;have et:=nN hb;rw [hu,hx];cases d<;>first
      |(simp only;rw [ar et];exact h)
      |exact (aW _ rfl).elim
   ·exact h.elim
  ·exact h.elim
 case h_28 t ix bB=>
  simp only [bB,aH];split at h
  ·rename_i vs hx;split at h
   ·rename_i v hv;simp only [hx,hv];exact h
   ·exact h.elim
  ·exact h.elim
 case h_29 c bB=>simp only [bB,aH];exact aCQ h he
 case h_30=>exact h.elim
end
end
section
theorem bL {β α:Prop}(h:β)(e:α=β):α:=e.mpr h
section
variable {E:Env} {bm:Bool}
theorem JF (xs:Fr)(f:FuncId):tI E xs (.func f)=.func (.func f) #[] #[]:=rfl
theorem Gi (xs:Fr)(v:Value)(h:plain v=true):tI E xs (.const v)=v:=by simp [tI,h]
theorem nF {xs:Fr}{d:Nat}{v:Value}(h:xs[d]? =some v):xs.set d v=xs:=by
 obtain ⟨h1,rfl⟩:=bJ.1 h;exact List.set_getElem_self h1
theorem aae {ops:Array Oper}{xs:Fr}{o:Oper}{yes no:Fr->Prop}(h:M3 ops xs o yes no):(lg ops (dj xs) o=some true/\yes xs)∨(lg ops (dj xs) o=some false/\no xs):=by
 unfold M3 at h;unfold lg;cases hg:o.guard with
 |none=>rw [hg] at h;exact .inl ⟨rfl,h⟩
 |some p=>
  have⟨j,want⟩:=p;rw [hg] at h;simp only at h⊢;cases hd:(ops[j]?).bind (·.dst) with
  |none=>rw [hd] at h;exact .inr ⟨rfl,h⟩
  |some d=>
   rw [hd] at h;simp only [L1] at h⊢;split at h
   ·rename_i b hx;cases want<;>cases b<;>simp only [bQ,cQ,nF hx] at h
    ·exact .inl ⟨by rw [hx];rfl,h⟩
    ·exact .inr ⟨by rw [hx];rfl,h⟩
    ·exact .inr ⟨by rw [hx];rfl,h⟩
    ·exact .inl ⟨by rw [hx];rfl,h⟩
   ·rename_i hx;exact .inr ⟨by rw [hx],h⟩
   ·rename_i hx;exact .inr ⟨by rw [hx],h⟩
   ·exact h.elim
theorem MZ {ops:Array Oper}:∀{l:List Oper}{xs:Fr}{H:aa}{Q:Fr->aa->Prop},wpOps E ops l xs H Q->
  OA E ops l (dj xs) H λT H'=>∃aN,T=dj aN/\aN.length=xs.length/\(∀k,k∉iP l []->aN[k]? =xs[k]?)/\Q aN H'
 |[],xs,H,Q,h=>an0 ⟨xs,rfl,rfl,λ_ _=>rfl,h⟩
 |o::l,xs,H,Q,h=>by
  have mem:∀(l:List Oper)(ds:List Nat)(k:Nat),k∈ds->k∈iP l ds:=by
   intro l
   induction l with
   |nil=>intro ds k hk;exact hk
   |cons o l ih=>
    intro ds k hk;simp only [iP];split
    ·rename_i d hd;refine ih _ _ ?_;cases ds.any (Nat.beq d)
     ·exact iZ _ hk
     ·exact hk
    ·exact ih _ _ hk
  have Xv:∀(l:List Oper)(ds oJ:List Nat)(k:Nat),(∀k,k∈ds->k∈oJ)->k∈iP l ds->k∈iP l oJ:=by
   intro l
   induction l with
   |nil=>intro ds oJ k hs hk;exact hs _ hk
   |cons o l ih=>
    intro ds oJ k hs hk;simp only [iP] at hk⊢;cases hd:o.dst with
    |none=>rw [hd] at hk;exact ih _ _ _ hs hk
    |some d=>
     rw [hd] at hk;refine ih _ _ _ (λj hj=>?_) hk;have Eo:d∈(bif oJ.any (Nat.beq d) then oJ else oJ++[d]):=by
      cases ha:oJ.any (Nat.beq d) with
      |false=>simp
      |true=>
       simp only [Ia] at ha;have⟨u,hu,hb⟩:=ha;rw [bQ,nN hb];exact hu
     have hG:j∈ds∨j=d:=by
      cases ha:ds.any (Nat.beq d) with
      |false=>rw [ha] at hj;simpa using hj
      |true=>rw [ha] at hj;exact .inl hj
     rcases hG with hG|rfl
     ·have:=hs _ hG
      cases oJ.any (Nat.beq d)
      ·exact iZ _ this
      ·exact this
     ·exact Eo
  have same:∀(v:Value)(k:Nat),k∉iP (o::l) []->(mU xs o.dst v)[k]? =xs[k]? :=by
   intro v k hk;unfold mU;split
   ·rename_i d hd
    have:k≠d:=by
     rintro rfl;refine hk ?_;simp only [iP,hd];exact mem _ _ _ (by simp)
    rw [td (x7 this)]
   ·rfl
  have sub:∀k,k∉iP (o::l) []->k∉iP l []:=by
   intro k hk nX;refine hk ?_;simp only [iP];split
   ·exact Xv _ _ _ _ (by simp) nX
   ·exact nX
  have len:∀v,(mU xs o.dst v).length=xs.length:=by
   intro v;unfold mU;split<;>simp
  have lift:∀(v:Value)(T:Tr Value)(H':aa),(∃aN,T=dj aN/\aN.length=(mU xs o.dst v).length/\(∀k,k∉iP l []->aN[k]? =(mU xs o.dst v)[k]?)/\Q aN H')->
    ∃aN,T=dj aN/\aN.length=xs.length/\(∀k,k∉iP (o::l) []->aN[k]? =xs[k]?)/\Q aN H':=by
   rintro v T H' ⟨aN,h1,h2,h3,h4⟩;exact ⟨aN,h1,h2.trans (len v),λk hk=>(h3 k (sub k hk)).trans (same v k hk),h4⟩
  have XN:∀{l:List Oper}{T:Tr Value}{H:aa}{Q Q':Tr Value->aa->Prop},OA E ops l T H Q->(∀T H,Q T H->Q' T H)->OA E ops l T H Q':=
   λh hq=>let ⟨n,s,h1,h2⟩:=h;⟨n,s,h1,hq _ _ h2⟩
  rcases aae h with ⟨hw,h⟩|⟨hw,h⟩
  ·refine aa0 ?_;rw [hw];simp only [NQ];have h1:=MY (JF xs) (Gi xs) h;rw [yw];cases hr:aH E (tI E xs) o.op H with
   |none=>rw [hr] at h1;exact h1.elim
   |some r=>
    rw [hr] at h1;cases r with
    |val v H'=>
     simp only [TR,AH];exact XN (MZ h1) (lift v)
    |call f args=>
     simp only [TR,AH];exact CA.mono h1 λv H' h2=>XN (MZ h2) (lift v)
  ·refine aa0 ?_;rw [hw];simp only [NQ,AH];exact XN (MZ h) (lift undef)
theorem axz {v w:Value}(h:RJ v w):fv 8 v w=true:=by
 unfold RJ at h;split at h
 ·rename_i k a j b;by_cases e:k=j
  ·subst e;simp only [decide_true,bQ] at h;subst h;simp [fv]
  ·simp only [e,SP,cQ] at h
 ·subst h;simp [fv]
 ·subst h;simp [fv]
 ·obtain ⟨rfl,rfl,rfl⟩:=h;simp [fv]
 ·subst h;simp [fv]
 ·exact h
theorem apX {bm:Bool}{e:Operand->Value}{op:Op}{H:aa}{r:bV}(hb:eR bm op=true)(h:aH E e op H=some r):∃v H',r=.val v H':=by
 cases op
 case alloc t=>
  simp only [aH] at h;cases hz:zeroV E t with
  |none=>rw [hz] at h;cases h
  |some z=>rw [hz] at h;have⟨v,H',_,e2⟩:=sO h;exact ⟨_,_,e2⟩
 case box t x=>have⟨v,H',_,e2⟩:=sO (show sN _=some r from h);exact ⟨_,_,e2⟩
 case buildSlice t l p=>have⟨v,H',_,e2⟩:=sO (show sN _=some r from h);exact ⟨_,_,e2⟩
 case makeSlice t l p=>have⟨v,H',_,e2⟩:=sO (show sN _=some r from h);exact ⟨_,_,e2⟩
 case makeMap t rr=>
  cases rr with
  |none=>simp only [aH,bc] at h;exact ⟨_,_,h.symm⟩
  |some x=>
   simp only [aH] at h;split at h
   ·simp only [bc] at h;exact ⟨_,_,h.symm⟩
   ·cases h
 all_goals (simp [eR] at hb)
theorem Z4 {bm:Bool}{e:Operand->Value}{o:Oper}{K:Value->Obj->Prop}(he:∀f,e (.func f)=.func (.func f) #[] #[])(hc:∀v,plain v=true->e (.const v)=v)(hb:eR bm o.op=true)
  (h:wpOp E e o uY λv H'=>nR (H'.get 0) λob=>K v ob):∃v ob,sh E e o.op=some (v,ob)/\K v ob:=by
 have h1:=MY he hc h;cases hx:aH E e o.op uY with
 |none=>rw [hx] at h1;exact h1.elim
 |some q=>
  obtain ⟨v,H',rfl⟩:=apX hb hx;rw [hx] at h1;have⟨ob,h2,h3⟩:=uL h1;exact ⟨v,ob,by simp only [sh,hx,h2,fa],h3⟩
theorem avm {base:Nat}{r:DR}{xs:Fr}(hr:r.T=dj xs){H:aa}(hl:hO bm r.o.op=false)(h:Xq bm E base r H):looksAt bm E base r H=true:=by
 unfold Xq at h;unfold looksAt;have he:∀f,ev E r.T (.func f)=.func (.func f) #[] #[]:=by intro f;rw [hr,yw];rfl
 have hc:∀v,plain v=true->ev E r.T (.const v)=v:=by intro v hv;rw [hr,yw];exact Gi xs v hv
 split at h
 ·rename_i ty bB;simp only [bB];split at h
  ·rename_i vs hz;have⟨c,h1,h2⟩:=h;simp only [hz,h1,h2]
  ·exact h.elim
 ·rename_i aW;split
  ·rename_i ty bB;exact (aW ty bB).elim
  cases hb:eR bm r.o.op with
  |true=>
   rw [hb] at h;simp only [bQ] at h⊢;have⟨v,ob,h1,o,h2,h3⟩:=Z4 he hc hb h;simp only [h1,h2,h3]
  |false=>
  rw [hb] at h;simp only [cQ] at h⊢;have h1:=MY he hc h;have ct:xr r.o.op=false:=by rw [<-Q1 hb];exact hl
  have:∃v H',aH E (ev E r.T) r.o.op H=some (.val v H')/\RJ r.v v:=by
   cases hx:aH E (ev E r.T) r.o.op H with
   |none=>rw [hx] at h1;exact h1.elim
   |some q=>
    obtain ⟨v,rfl⟩:=IY ct hx;rw [hx] at h1;exact ⟨_,_,rfl,h1⟩
  have⟨v,H',h2,h3⟩:=this;simp only [h2,axz h3]
theorem aeu {base:Nat}{r:DR}{xs:Fr}(hr:r.T=dj xs)(hl:hO bm r.o.op=false){hs:List aa}:∀(n k:Nat),On bm E base r hs k n->F6 bm E base r hs k n=true
 |0,k,_=>rfl
 |n+1,k,h=>by
  simp only [On] at h
  simp only [F6]
  cases hk:hs[k]? with
  |none=>rw [hk] at h;exact h.1.elim
  |some H=>
   rw [hk] at h
   simp only [avm hr hl h.1,aeu hr hl n (k+1) h.2,Bool.and_self]
theorem Yc {base:Nat}{ss:List Bool}{ms:List Nat}{all:List DR}{hs:List aa}{m:Nat}:∀{l:List DR},(∀r∈l,∃xs,r.T=dj xs)->L_ bm E base ss ms all hs m l->CQ bm E base ss ms all hs m l=true
 |[],_,_=>rfl
 |r::l,hT,h=>by
  simp only [L_] at h;simp only [CQ];have⟨xs,hx⟩:=hT r (by simp);cases hb:(!r.w||hO bm r.o.op||At r.o.op||(ss.getD r.i false&& !eR bm r.o.op)) with
  |true=>
   rw [hb] at h;simp only [bQ] at h;simp only [Bool.true_or,Ij];exact Yc (λr hr=>hT r (by simp [hr])) h
  |false=>
   rw [hb] at h;simp only [cQ] at h;have hl:hO bm r.o.op=false:=by
    simp only [Sz] at hb;exact hb.1.1.2
   simp only [Bool.false_or,aeu hx hl _ _ h.1,Ij];exact Yc (λr hr=>hT r (by simp [hr])) h.2
theorem Rn {base:Nat}:∀(l:List Oper)(i:Nat)(os:List Obj)(H H':aa),EN bm E base l i os H=some H'->vp bm E base l i os H.tr=some H'.tr/\H'.next=H.next
 |[],i,os,H,H',h=>by
  simp only [EN,bc] at h
  subst h
  exact ⟨rfl,rfl⟩
 |o::l,i,os,H,H',h=>by
  simp only [EN] at h
  simp only [vp]
  rcases ahj o.op with ⟨ty,bB⟩|tT
  ·rw [bB] at h⊢
   simp only at h⊢
   cases hz:(zeroV E ty).bind cellsOf with
   |none=>rw [hz] at h;cases h
   |some vs=>
    rw [hz] at h
    have⟨h1,h2⟩:=Rn l (i+1) os _ H' h
    exact ⟨h1,h2⟩
  ·split at h
   ·rename_i ty bB;exact (tT _ bB).elim
   ·split
    ·rename_i ty bB;exact (tT _ bB).elim
    ·cases hb:eR bm o.op with
     |false=>
      rw [hb] at h
      exact Rn l (i+1) os H H' h
     |true=>
      rw [hb] at h
      simp only [bQ] at h⊢
      cases os with
      |nil=>cases h
      |cons ob os=>
       have⟨h1,h2⟩:=Rn l (i+1) os _ H' h
       exact ⟨h1,h2⟩
theorem Si {ops:Array Oper}{base:Nat}:∀{l:List Oper}{i:Nat}{xs:Fr}{H:aa}{k:Nat}{rs:List DR}{hs:List aa}{F:List DR->Fr->List aa->aa->Prop},
  Fs bm E ops base l i xs H k rs hs F->(∀r∈rs,∃xs,r.T=dj xs)->
  ∃n oP aN kf H',oN bm E (aF E n) ops base l i (dj xs) H k rs hs=some (oP,dj aN,kf,H')/\aN.length=xs.length/\(∀k,k∉iP l []->aN[k]? =xs[k]?)/\(∀r∈oP,∃xs,r.T=dj xs)/\F oP aN kf H'
 |[],i,xs,H,k,rs,hs,F,h,hT=>⟨0,rs,xs,hs,H,rfl,rfl,λ_ _=>rfl,hT,h⟩
 |o::l,i,xs,H,k,rs,hs,F,h,hT=>by
  have mem:∀(l:List Oper)(ds:List Nat)(k:Nat),k∈ds->k∈iP l ds:=by
   intro l
   induction l with
   |nil=>intro ds k hk;exact hk
   |cons o l ih=>
    intro ds k hk;simp only [iP];split
    ·rename_i d hd;refine ih _ _ ?_;cases ds.any (Nat.beq d)
     ·exact iZ _ hk
     ·exact hk
    ·exact ih _ _ hk
  have Xv:∀(l:List Oper)(ds oJ:List Nat)(k:Nat),(∀k,k∈ds->k∈oJ)->k∈iP l ds->k∈iP l oJ:=by
   intro l
   induction l with
   |nil=>intro ds oJ k hs hk;exact hs _ hk
   |cons o l ih=>
    intro ds oJ k hs hk;simp only [iP] at hk⊢;cases hd:o.dst with
    |none=>rw [hd] at hk;exact ih _ _ _ hs hk
    |some d=>
     rw [hd] at hk;refine ih _ _ _ (λj hj=>?_) hk;have Eo:d∈(bif oJ.any (Nat.beq d) then oJ else oJ++[d]):=by
      cases ha:oJ.any (Nat.beq d) with
      |false=>simp
      |true=>
       simp only [Ia] at ha;have⟨u,hu,hb⟩:=ha;rw [bQ,nN hb];exact hu
     have hG:j∈ds∨j=d:=by
      cases ha:ds.any (Nat.beq d) with
      |false=>rw [ha] at hj;simpa using hj
      |true=>rw [ha] at hj;exact .inl hj
     rcases hG with hG|rfl
     ·have:=hs _ hG
      cases oJ.any (Nat.beq d)
      ·exact iZ _ this
      ·exact this
     ·exact Eo
  have same:∀(v:Value)(k:Nat),k∉iP (o::l) []->(mU xs o.dst v)[k]? =xs[k]? :=by
   intro v k hk;unfold mU;split
   ·rename_i d hd
    have:k≠d:=by
     rintro rfl;refine hk ?_;simp only [iP,hd];exact mem _ _ _ (by simp)
    rw [td (x7 this)]
   ·rfl
  have sub:∀k,k∉iP (o::l) []->k∉iP l []:=by
   intro k hk nX;refine hk ?_;simp only [iP];split
   ·exact Xv _ _ _ _ (by simp) nX
   ·exact nX
  have len:∀v,(mU xs o.dst v).length=xs.length:=by
   intro v;unfold mU;split<;>simp
  have VU:∀(w:Bool)(v:Value),∀r∈(⟨i,o,w,dj xs,v,k⟩::rs:List DR),∃xs,r.T=dj xs:=by
   intro w v r hr;rcases dU.1 hr with rfl|hr
   ·exact ⟨xs,rfl⟩
   ·exact hT r hr
  rcases aae h with ⟨hw,h⟩|⟨hw,h⟩
  ·have step:∀(n:Nat)(v:Value)(H':aa),kH (aF E n) (tD bm E base i (ev E (dj xs)) o.op H) H=some (v,H')->
     (bif hO bm o.op then Fs bm E ops base l (i+1) (mU xs o.dst v) H' (k+1) (⟨i,o,true,dj xs,v,k⟩::rs) (hs++[H']) F
      else Fs bm E ops base l (i+1) (mU xs o.dst v) H k (⟨i,o,true,dj xs,v,k⟩::rs) hs F)->
     (hO bm o.op=false->H'=H)->
     ∃n oP aN kf H',oN bm E (aF E n) ops base (o::l) i (dj xs) H k rs hs=some (oP,dj aN,kf,H')/\aN.length=xs.length/\(∀k,k∉iP (o::l) []->aN[k]? =xs[k]?)/\(∀r∈oP,∃xs,r.T=dj xs)/\F oP aN kf H':=by
    intro n v H' hr h hq;cases hl:hO bm o.op with
    |true=>
     rw [hl] at h;simp only [bQ] at h;have⟨m,oP,aN,kf,H2,g1,g2,g3,g4,g5⟩:=Si h (VU _ _);refine ⟨max n m,oP,aN,kf,H2,?_,g2.trans (len v),λk hk=>(g3 k (sub k hk)).trans (same v k hk),g4,g5⟩;simp only [oN,hw];rw [HF (qJ (Fv n m)) hr];simp only [hl,bQ,AH];exact HA (qJ (C_ n m)) g1
    |false=>
     rw [hl] at h;simp only [cQ] at h;obtain rfl:=hq hl;have⟨m,oP,aN,kf,H2,g1,g2,g3,g4,g5⟩:=Si h (VU _ _);refine ⟨max n m,oP,aN,kf,H2,?_,g2.trans (len v),λk hk=>(g3 k (sub k hk)).trans (same v k hk),g4,g5⟩;simp only [oN,hw];rw [HF (qJ (Fv n m)) hr];simp only [hl,cQ,AH];exact HA (qJ (C_ n m)) g1
   unfold ams at h;rcases ahj o.op with ⟨ty,bB⟩|tT
   ·simp only [bB] at h;exact step 0 (.pointer (some ⟨base+i,0,none⟩)) H (by simp only [bB,tD,kH]) (by simp only [bB];exact h) (λ_=>rfl)
   ·split at h
    ·rename_i t bB;exact absurd bB (tT t)
    ·cases uW:eR bm o.op with
     |true=>
      rw [uW] at h;simp only [bQ] at h;have⟨v,ob,h1,h2⟩:=Z4 (JF xs) (Gi xs) uW h;refine step 0 (zQ (base+i) v) H ?_ h2 λ_=>rfl
      rw [yw];unfold tD;split
      ·rename_i t bB;exact absurd bB (tT t)
      ·rw [uW,h1];rfl
     |false=>
     rw [uW] at h;simp only [cQ] at h;have tT:=uW;have h1:=MY (JF xs) (Gi xs) h;have hD:=N9 (E:=E) (base:=base) (i:=i) (e:=tI E xs) (H:=H) uW;cases hr:aH E (tI E xs) o.op H with
     |none=>rw [hr] at h1;exact h1.elim
     |some r=>
      rw [hr] at h1;cases r with
      |val v H'=>
       refine step 0 v H' (by rw [yw,hD,hr];rfl) h1 λhl=>?_
       have ct:xr o.op=false:=by rw [<-Q1 tT];exact hl
       have⟨v',e⟩:=IY ct hr;injection e
      |call f args=>
       have⟨n,v,H',h2,h3⟩:=h1;refine step n v H' (by rw [yw,hD,hr];exact h2) h3 λhl=>?_
       have ct:xr o.op=false:=by rw [<-Q1 tT];exact hl
       have⟨v',e⟩:=IY ct hr;cases e
  ·have⟨m,oP,aN,kf,H2,g1,g2,g3,g4,g5⟩:=Si h (VU _ _);refine ⟨m,oP,aN,kf,H2,?_,g2.trans (len undef),λk hk=>(g3 k (sub k hk)).trans (same undef k hk),g4,g5⟩;simp only [oN,hw,AH];exact g1
theorem Sh {ops:Array Oper}{base:Nat}:∀{l:List Oper}{i:Nat}{xs:Fr}{H:aa}{os:List Obj}{F:List Obj->Prop},
  Ft E ops base l i xs H os F->∃n r,uq E (aF E n) ops base l i (dj xs) H os=some r/\F r
 |[],i,xs,H,os,F,h=>⟨0,_,rfl,h⟩
 |o::l,i,xs,H,os,F,h=>by
  simp only [Ft] at h;rcases aae h with ⟨hw,h⟩|⟨hw,h⟩
  ·cases hb:eR true o.op with
   |true=>
    rw [hb] at h;simp only [bQ] at h;have⟨v,ob,h1,h2⟩:=Z4 (JF xs) (Gi xs) hb h;have⟨n,r,g1,g2⟩:=Sh h2;refine ⟨n,r,?_,g2⟩;simp only [uq,hw,hb,bQ];rw [yw,h1];simp only [AH];exact g1
   |false=>
    rw [hb] at h;simp only [cQ] at h;have h1:=MY (JF xs) (Gi xs) h;have key:∃n v H',kH (aF E n) (aH E (ev E (dj xs)) o.op H) H=some (v,H')/\Ft E ops base l (i+1) (mU xs o.dst v) H' os F:=by
     rw [yw];cases hr:aH E (tI E xs) o.op H with
     |none=>rw [hr] at h1;exact h1.elim
     |some r=>
      rw [hr] at h1;cases r with
      |val v H'=>exact ⟨0,v,H',rfl,h1⟩
      |call f args=>
       have⟨n,v,H',h2,h3⟩:=h1;exact ⟨n,v,H',h2,h3⟩
    have⟨n,v,H',h2,h3⟩:=key;have⟨m,r,g1,g2⟩:=Sh h3;refine ⟨max n m,r,?_,g2⟩;simp only [uq,hw,hb,cQ];rw [HF (qJ (Fv n m)) h2];simp only [AH];exact Hz (qJ (C_ n m)) g1
  ·have⟨n,r,g1,g2⟩:=Sh h;refine ⟨n,r,?_,g2⟩;simp only [uq,hw,AH];exact g1
theorem amh {ops:Array Oper}{os:List Obj}{xs:Fr}{H:aa}{Q:Fr->aa->Prop}(h:Sc bm E ops os xs H Q) :
  ∃n s',xQ bm E (aF E n) ops os ⟨dj xs,H⟩=some s'/\∃aN,s'.T=dj aN/\aN.length=xs.length/\(∀k,k∉iP ops.toList []->aN[k]? =xs[k]?)/\Q aN s'.H:=by
 unfold Sc at h;split at h
 ·exact h.elim
 ·rename_i H0 hp;have⟨h1,h2⟩:=Rn _ _ _ _ _ hp;have⟨n,oP,aN,kf,H',g1,g2,g3,g4,g5,g6⟩:=Si h (by simp);have e0:H0=⟨H0.tr,H.next+ops.size⟩:=by
   cases H0 with
   |mk t m=>simp only [aa.ae] at h2⊢;rw [h2]
  refine ⟨n,⟨dj aN,H'⟩,?_,aN,rfl,g2,g3,g5⟩;unfold xQ;have D_:vp bm E H.next ops.toList 0 os H.tr=some H0.tr:=h1;simp only;rw [D_];simp only;rw [<-e0,g1];simp only;rw [Yc g4 g6];rfl
theorem ami {ops:Array Oper}{xs:Fr}{H:aa}{Q:Fr->aa->Prop}(h:Sb E ops xs H Q) :
  ∃n s',vu E (aF E n) ops ⟨dj xs,H⟩=some s'/\∃aN,s'.T=dj aN/\aN.length=xs.length/\(∀k,k∉iP ops.toList []->aN[k]? =xs[k]?)/\Q aN s'.H:=by
 unfold Sb at h;unfold vu;cases cB:pW false ops with
 |true=>rw [cB] at h;exact amh h
 |false=>
  rw [cB] at h;simp only [cQ] at h⊢;cases KF:pW true ops with
  |false=>rw [KF] at h;exact h.elim
  |true=>
   rw [KF] at h;simp only [bQ] at h⊢;have⟨n,os,h1,h2⟩:=Sh h;have⟨m,s',h3,h4⟩:=amh h2;refine ⟨max n m,s',?_,h4⟩;have e:uq E (aF E (max n m)) ops H.next ops.toList 0 (dj xs) ⟨H.tr,H.next+ops.size⟩ []=some os:=Hz (qJ (Fv n m)) h1;rw [e];exact Yq (qJ (C_ n m)) h3
theorem Sl:∀(l:List Oper)(ds:List Nat)(k:Nat),k∈iP l ds↔k∈ds∨k∈iP l []
 |[],ds,k=>by simp [iP]
 |o::l,ds,k=>by
  simp only [iP]
  cases hd:o.dst with
  |none=>exact Sl l ds k
  |some d=>
   simp only
   rw [Sl l _ k,Sl l (bif ([]:List Nat).any (Nat.beq d) then [] else []++[d]) k]
   simp only [List.any_nil,cQ,rQ,fo]
   cases ha:ds.any (Nat.beq d) with
   |false=>simp [or_assoc]
   |true=>
    simp only [Ia] at ha
    have⟨u,hu,hb⟩:=ha
    obtain rfl:=nN hb
    simp only [bQ]
    constructor
    ·rintro (h|h)
     ·exact .inl h
     ·exact .inr (.inr h)
    ·rintro (h|h|h)
     ·exact .inl h
     ·exact .inl (h▸hu)
     ·exact .inr h
theorem Sj:∀(c:Code)(ds:List Nat)(k:Nat),k∈nI c ds↔k∈ds∨k∈nI c []:=by
 intro c
 induction c with
 |region id ops d=>intro ds k;exact Sl _ _ _
 |seq a b oe nu=>
  intro ds k;simp only [nI];rw [nu (nI a ds) k,nu (nI a []) k,oe ds k,or_assoc]
 |cond c a b oe nu=>
  intro ds k;simp only [nI];rw [nu (nI a ds) k,nu (nI a []) k,oe ds k,or_assoc]
 |block id b ih=>intro ds k;exact ih ds k
 |loop b ih=>intro ds k;exact ih ds k
 |scope b ih=>intro ds k;exact ih ds k
 |_=>intro ds k;simp [nI]
theorem I4 {v:Value}{K:Option Addr->Nat->Prop}(h:q7 v K):∃a l,v=.slice a l 0/\K a l:=by
 unfold q7 at h;split at h
 ·rename_i a l c;cases hc:Nat.beq c 0 with
  |false=>rw [hc] at h;exact h.elim
  |true=>rw [hc] at h;rw [nN hc];exact ⟨_,_,rfl,h⟩
 ·exact h.elim
theorem T7 {v:Value}{K:Option Addr->Prop}(h:zP v K):∃p,v=.pointer p/\K p:=by
 unfold zP at h;split at h
 ·exact ⟨_,rfl,h⟩
 ·exact h.elim
theorem T6 {z v:Value}{K:Value->Prop}(h:F3 z v K):K v:=by
 unfold F3 at h;split at h
 ·replace h:=gF h;obtain ⟨n,rfl,h⟩:=h;exact h
 ·replace h:=uJ h;obtain ⟨b,rfl,h⟩:=h;exact h
 ·replace h:=I4 h;obtain ⟨a,l,rfl,h⟩:=h;exact h
 ·replace h:=T7 h;obtain ⟨p,rfl,h⟩:=h;exact h
 ·replace h:=DH h;obtain ⟨m,rfl,h⟩:=h;exact h
 ·exact h
theorem acd:∀{zs vs:List Value}{K:List Value->Prop},I2 zs vs K->K vs
 |[],[],K,h=>h
 |z::zs,v::vs,K,h=>acd (zs:=zs) (K:=λl=>K (v::l)) (T6 (K:=λu=>I2 zs vs λl=>K (u::l)) h)
 |[],_::_,K,h=>h.elim
 |_::_,[],K,h=>h.elim
theorem ab6 {v:Value}{K:List Value->Prop}(h:asAgg v K):∃l,v=.agg ⟨l⟩/\K l:=by
 unfold asAgg at h;split at h
 ·exact ⟨_,rfl,h⟩
 ·exact h.elim
theorem aca {z v:Value}{K:Value->Prop}(h:F0 z v K):K v:=by
 unfold F0 at h;split at h
 ·replace h:=ab6 h;obtain ⟨l,rfl,h⟩:=h;exact acd h
 ·exact T6 h
theorem XX {zs:oF}{K:Fr->Prop}{xs:Fr}:∀(ws:List Nat)(acc:Fr),acc.length=xs.length->(∀k,k∉ws->acc[k]? =xs[k]?)->Hu zs ws acc K xs->K xs
 |[],acc,hl,hs,h=>by
  have:acc=xs:=x9 λk=>hs k (by simp)
  subst this
  exact h
 |w::ws,acc,hl,hs,h=>by
  have h1:=aca h
  refine XX ws _ (by simpa using hl) (λk hk=>?_) h1
  by_cases e:k=w
  ·subst e
   by_cases aE:k<xs.length
   ·rw [vD (by omega),gu]
    simp [aE]
   ·rw [ji (by simp;omega),ji (by omega)]
  ·rw [td (x7 e)]
   exact hs k (by simp [e,hk])
theorem amg:∀(c:Code){Z:List oF}{xs:Fr}{H:aa}{Q:X->Fr->aa->Prop},gr E c Z xs H Q->
  WA E c (dj xs) H λx T H'=>∃aN,T=dj aN/\aN.length=xs.length/\(∀k,k∉writes c->aN[k]? =xs[k]?)/\Q x aN H':=by
 intro c
 induction c with
 |skip=>intro Z xs H Q h;exact abh ⟨xs,rfl,rfl,λ_ _=>rfl,h⟩
 |label l=>intro Z xs H Q h;exact ⟨0,.normal,⟨dj xs,H⟩,rfl,xs,rfl,rfl,λ_ _=>rfl,h⟩
 |exit id=>intro Z xs H Q h;exact abc ⟨xs,rfl,rfl,λ_ _=>rfl,h⟩
 |ret=>intro Z xs H Q h;exact abe ⟨xs,rfl,rfl,λ_ _=>rfl,h⟩
 |scope b ih=>intro Z xs H Q h;exact abf (ih h)
 |region id ops d=>
  intro Z xs H Q h;cases d with
  |false=>exact abd (MZ h)
  |true=>
   have⟨n,s,h1,h2⟩:=ami h;exact ⟨n,.normal,s,by simp only [cP,bQ];rw [h1],h2⟩
 |seq a b oe nu=>
  intro Z xs H Q h;refine abg ((oe h).mono ?_);rintro x T H' ⟨aN,rfl,h1,h2,h3⟩;have lift:∀jE:Fr,jE.length=aN.length->(∀k,k∉writes b->jE[k]? =aN[k]?)->jE.length=xs.length/\∀k,k∉writes (.seq a b)->jE[k]? =xs[k]? :=by
   intro jE g1 g2;refine ⟨g1.trans h1,λk hk=>?_⟩
   have:k∉writes a/\k∉writes b:=by
    simp only [writes,nI] at hk;rw [Sj] at hk;exact ⟨λe=>hk (.inl e),λe=>hk (.inr e)⟩
   exact (g2 k this.2).trans (h2 k this.1)
  cases x with
  |normal=>
   simp only [NY];refine (nu h3).mono ?_;rintro y T H' ⟨jE,rfl,g1,g2,g3⟩;exact ⟨jE,rfl,(lift jE g1 g2).1,(lift jE g1 g2).2,g3⟩
  |exit id=>exact ⟨aN,rfl,(lift aN rfl λ_ _=>rfl).1,(lift aN rfl λ_ _=>rfl).2,h3⟩
  |ret=>exact ⟨aN,rfl,(lift aN rfl λ_ _=>rfl).1,(lift aN rfl λ_ _=>rfl).2,h3⟩
 |cond c a b oe nu=>
  intro Z xs H Q h;have goal:∃t,ev E (dj xs) c=.bool t/\if t=true then gr E a Z xs H Q else gr E b (Z.drop (qE a)) xs H Q:=by
   simp only [gr] at h;rw [yw];split at h
   ·rename_i t;have⟨v,h1,h2⟩:=uJ h;refine ⟨v,h1,?_⟩;have hs:xs.set t (.bool v)=xs:=by
     by_cases aE:t<xs.length
     ·refine nF ?_;rw [gu] at h1;simp only [aE,cM,zr] at h1⊢;rw [h1]
     ·exact Sq (Nh aE)
    cases v with
    |true=>rw [ar rfl];simp only [bQ,hs] at h2;exact h2
    |false=>rw [an (by simp)];simp only [cQ,hs] at h2;exact h2
   ·have⟨v,h1,h2⟩:=uJ h;refine ⟨v,h1,?_⟩;cases v with
    |true=>rw [ar rfl];exact h2
    |false=>rw [an (by simp)];exact h2
  have⟨t,h1,h2⟩:=goal;refine abb h1 ?_;have sub:∀k,k∉writes (.cond c a b)->k∉writes a/\k∉writes b:=by
   intro k hk;simp only [writes,nI] at hk;rw [Sj] at hk;exact ⟨λe=>hk (.inl e),λe=>hk (.inr e)⟩
  cases t with
  |true=>
   rw [ar rfl] at h2⊢;refine (oe h2).mono ?_;rintro x T H' ⟨aN,rfl,g1,g2,g3⟩;exact ⟨aN,rfl,g1,λk hk=>g2 k (sub k hk).1,g3⟩
  |false=>
   rw [an (by simp)] at h2⊢;refine (nu h2).mono ?_;rintro x T H' ⟨aN,rfl,g1,g2,g3⟩;exact ⟨aN,rfl,g1,λk hk=>g2 k (sub k hk).2,g3⟩
 |block id b ih=>
  intro Z xs H Q h;refine aba ((ih h).mono ?_);rintro x T H' ⟨aN,rfl,g1,g2,g3⟩;cases x with
  |normal=>exact ⟨aN,rfl,g1,g2,g3⟩
  |ret=>exact ⟨aN,rfl,g1,g2,g3⟩
  |exit j=>
   simp only [NX];cases hb:Nat.beq j id with
   |true=>
    rw [ar (nN hb)];simp only [hb,bQ] at g3;exact ⟨aN,rfl,g1,g2,g3⟩
   |false=>
    rw [an (Di hb)];simp only [hb,cQ] at g3;exact ⟨aN,rfl,g1,g2,g3⟩
 |loop b ih=>
  intro Z xs H Q h;have h0:LA E b xs H ((xe b []).map λx=>(x,λaN H'=>Hu (Z.headD []) (writes b) xs (λjE=>Q x jE H') aN)):=h;refine WA.mono h0 ?_;rintro x T H' ⟨aN,rfl,g1,g2,p,hp,rfl,g3⟩;refine ⟨aN,rfl,g1,g2,?_⟩;simp only [cL] at hp;obtain ⟨y,hy,rfl⟩:=hp;exact XX (writes b) xs g1.symm (λk hk=>(g2 k hk).symm) g3
 |_=>intro Z xs H Q h;exact h.elim
theorem HH {xs:Fr}{H:aa}:∀{l:List ResultVar}{K:List Value->Prop},Mc E xs H l K->∃vs,mV E ⟨dj xs,H⟩ l=some vs/\K vs
 |[],K,h=>⟨[],rfl,h⟩
 |.tmp t::l,K,h=>by
  have⟨vs,h1,h2⟩:=HH (l:=l) h
  refine ⟨_,?_,h2⟩
  simp only [mV,h1,fa,L1,gu]
 |.cell a t::l,K,h=>by
  have⟨v,h1,h2⟩:=amq h
  have⟨vs,h3,h4⟩:=HH (l:=l) h2
  refine ⟨_,?_,h4⟩
  simp only [mV,h3,L1,<-gu,h1,bP,fa]
theorem amn {f:FuncId}{fn:Func}(ht:E.qL f=false)(hf:E.fn f=some fn){args:List Value}{H:aa}{R:Value->aa->Prop}{Z:List oF}(h:Se E Z fn args H R):CA E f args H R:=by
 unfold Se at h;split at h
 ·rename_i c hc;cases hb:Nat.ble args.length fn.ntmps with
  |false=>rw [hb] at h;exact h.elim
  |true=>
   rw [hb] at h;simp only [bQ] at h;refine aaK ht hf hc (ahg (aS hb)) ((amg c h).mono ?_);rintro x T H' ⟨aN,rfl,g1,g2,g3⟩;cases x with
   |normal=>exact HH g3
   |ret=>exact HH g3
   |exit id=>exact g3.elim
 ·exact h.elim
theorem aaM {f:FuncId}(ht:E.qL f=true){H:aa}{R:Value->aa->Prop}(h:R (.bool true) H):CA E f [] H R:=
 ⟨1,.bool true,H,by simp [aF,ht],h⟩
def XW:List Nat->Fr->(Fr->Prop)->Prop
 |[],acc,K=>K acc
 |w::ws,acc,K=>∀v,XW ws (acc.set w v) K
theorem ake {K:Fr->Prop}{xs:Fr}:∀(ws:List Nat)(acc:Fr),acc.length=xs.length->(∀k,k∉ws->acc[k]? =xs[k]?)->XW ws acc K->K xs
 |[],acc,hl,hs,h=>by
  have:acc=xs:=x9 λk=>hs k (by simp)
  subst this
  exact h
 |w::ws,acc,hl,hs,h=>by
  refine ake ws _ (by simpa using hl) (λk hk=>?_) (h (xs.getD w undef))
  by_cases e:k=w
  ·subst e
   by_cases aE:k<xs.length
   ·rw [vD (by omega),gu]
    simp [aE]
   ·rw [ji (by simp;omega),ji (by omega)]
  ·rw [td (x7 e)]
   exact hs k (by simp [e,hk])
def W3 (x y:X):Bool:=
 match x with
 |.normal=>match y with
  |.normal=>true
  |_=>false
 |.exit i=>match y with
  |.exit j=>Nat.beq i j
  |_=>false
 |.ret=>match y with
  |.ret=>true
  |_=>false
theorem auI {x y:X}(h:W3 x y=true):x=y:=by
 cases x<;>cases y<;>first
  |rfl
  |(cases h;done)
  |(rw [nN h])
def atEnd (x:X)(xs:Fr)(H:aa):List (X×(Fr->aa->Prop))->Prop
 |[]=>False
 |p::l=>bif W3 p.1 x then p.2 xs H else atEnd x xs H l
theorem T_ {x:X}{xs:Fr}{H:aa}:∀{l:List (X×(Fr->aa->Prop))},atEnd x xs H l->∃p∈l,p.1=x/\p.2 xs H
 |[],h=>h.elim
 |p::l,h=>by
  simp only [atEnd] at h
  cases hb:W3 p.1 x with
  |true=>rw [hb] at h;exact ⟨p,by simp,auI hb,h⟩
  |false=>
   rw [hb] at h
   have⟨q,h1,h2⟩:=T_ h
   exact ⟨q,by simp [h1],h2⟩
def kh (P:Nat->Fr->aa->Prop)(n:Nat)(Ks:List (X×(Fr->aa->Prop)))(x:X)(xs:Fr)(H:aa):Prop:=
 match x with
 |.normal=>∃m,m<n/\P m xs H
 |.exit id=>atEnd (.exit id) xs H Ks
 |.ret=>atEnd .ret xs H Ks
theorem ko {b:Code}{xs:Fr}{Z:List oF}(P:Nat->Fr->aa->Prop){Ks:List (X×(Fr->aa->Prop))}
  (cY:∀n H,XW (writes b) xs λaN=>P n aN H->gr E b Z aN H (kh P n Ks))(n:Nat)(H:aa)(h:P n xs H):LA E b xs H Ks:=by
 have key:∀n (M6:Fr)(H:aa),M6.length=xs.length->(∀k,k∉writes b->M6[k]? =xs[k]?)->P n M6 H->
   WA E (.loop b) (dj M6) H λx T H'=>∃aN,T=dj aN/\aN.length=xs.length/\(∀k,k∉writes b->aN[k]? =xs[k]?)/\∃p∈Ks,p.1=x/\p.2 aN H':=by
  intro n
  induction n using Nat.strongRecOn with
  |_ n ih=>
   intro M6 H hl hs hP;have h1:=ake (writes b) xs hl.symm (λk hk=>(hs k hk).symm) (cY n H) hP;refine aoe ((amg b h1).mono ?_);rintro x T H' ⟨aN,rfl,g1,g2,g3⟩;have s1:aN.length=xs.length:=g1.trans hl;have s2:∀k,k∉writes b->aN[k]? =xs[k]? :=λk hk=>(g2 k hk).trans (hs k hk)
   cases x with
   |normal=>
    have⟨m,hm,hP'⟩:=g3;exact ih m hm aN H' s1 s2 hP'
   |exit id=>exact ⟨aN,rfl,s1,s2,T_ g3⟩
   |ret=>exact ⟨aN,rfl,s1,s2,T_ g3⟩
 exact key n xs H rfl (λ_ _=>rfl) h
end
end
section
noncomputable section
def N6 (z:Value)(P:Value->Prop):Prop:=
 match z with
 |.int k _=>∀n,P (.int k n)
 |.bool _=>∀b,P (.bool b)
 |.slice _ _ _=>∀a l,P (.slice a l 0)
 |.pointer _=>∀p,P (.pointer p)
 |.map _=>∀m,P (.map m)
 |_=>∀v,P v
def N5:List Value->(List Value->Prop)->Prop
 |[],P=>P []
 |z::zs,P=>N6 z λv=>N5 zs λl=>P (v::l)
def T2 (z:Value)(P:Value->Prop):Prop:=
 match z with
 |.agg cs=>N5 cs.toList λl=>P (.agg ⟨l⟩)
 |z=>N6 z P
def O3:oF->Nat->Option Value
 |[],_=>none
 |(k,v)::l,w=>bif Nat.beq k w then some v else O3 l w
def JA (Z:oF)(xs:Fr):List Nat->List Value->(List Value->Prop)->Prop
 |[],vs,K=>K vs
 |w::ws,vs,K=>match O3 Z w with
  |none=>JA Z xs ws vs K
  |some z=>F0 z (xs.getD w undef) λv=>JA Z xs ws (vs++[v]) K
def Jz (Z:oF)(ys:Fr):List Nat->Fr->List Value->(List Value->Fr->Prop)->Prop
 |[],acc,vs,K=>K vs acc
 |w::ws,acc,vs,K=>match O3 Z w with
  |none=>Jz Z ys ws (acc.set w (ys.getD w undef)) vs K
  |some z=>T2 z λv=>Jz Z ys ws (acc.set w v) (vs++[v]) K
def wz:Code->Nat
 |.seq a b=>wz a+wz b+1
 |.cond _ a b=>wz a+wz b
 |.block _ b=>wz b
 |.scope b=>wz b
 |_=>0
abbrev Iu:=List (Option oF)
def qO (E:Env):Code->Iu->List oF->Fr->aa->(X->Fr->aa->Prop)->Prop
 |.skip,_,_,xs,H,Q=>Q .normal xs H
 |.label _,_,_,xs,H,Q=>Q .normal xs H
 |.region _ ops d,_,_,xs,H,Q=>bif d then Sb E ops xs H (Q .normal) else wpOps E ops ops.toList xs H (Q .normal)
 |.seq a b,C,Z,xs,H,Q=>match C.headD none with
  |none=>qO E a C.tail Z xs H λx xs H=>match x with
   |.normal=>qO E b (C.tail.drop (wz a)) (Z.drop (qE a)) xs H Q
   |.exit id=>Q (.exit id) xs H
   |.ret=>Q .ret xs H
  |some S=>∃J:List Value->aa->Prop,(qO E a C.tail Z xs H λx aN H'=>match x with
   |.normal=>JA S aN (writes a) [] λvs=>J vs H'
   |.exit id=>Q (.exit id) aN H'
   |.ret=>Q .ret aN H')/\
   ∀(ys:Fr)(H':aa),Jz S ys (writes a) xs [] λvs jE=>J vs H'->qO E b (C.tail.drop (wz a)) (Z.drop (qE a)) jE H' Q
 |.cond c a b,C,Z,xs,H,Q=>match c with
  |.tmp t=>asBool (xs.getD t undef) λv=>cond v (qO E a C Z (xs.set t (.bool true)) H Q) (qO E b (C.drop (wz a)) (Z.drop (qE a)) (xs.set t (.bool false)) H Q)
  |c=>asBool (tI E xs c) λv=>cond v (qO E a C Z xs H Q) (qO E b (C.drop (wz a)) (Z.drop (qE a)) xs H Q)
 |.block id b,C,Z,xs,H,Q=>qO E b C Z xs H λx xs H=>match x with
  |.normal=>Q .normal xs H
  |.exit j=>bif Nat.beq j id then Q .normal xs H else Q (.exit j) xs H
  |.ret=>Q .ret xs H
 |.loop b,_,Z,xs,H,Q=>LA E b xs H ((xe b []).map λx=>(x,λaN H'=>Hu (Z.headD []) (writes b) xs (λjE=>Q x jE H') aN))
 |.exit id,_,_,xs,H,Q=>Q (.exit id) xs H
 |.ret,_,_,xs,H,Q=>Q .ret xs H
 |.scope b,C,Z,xs,H,Q=>qO E b C Z xs H Q
 |_,_,_,_,_,_=>False
def aml (E:Env)(C:Iu)(Z:List oF)(fn:Func)(args:List Value)(H:aa)(R:Value->aa->Prop):Prop:=
 match fn.body with
 |some c=>bif Nat.ble args.length fn.ntmps then qO E c C Z (O7 fn.ntmps args) H (adX E fn R) else False
 |none=>False
end
section
variable {E:Env}
theorem ab_ {z v:Value}{K P:Value->Prop}(h:F3 z v K)(k:N6 z P):P v:=by
 unfold F3 at h;unfold N6 at k;split at h
 ·obtain ⟨n,rfl,_⟩:=gF h;exact k n
 ·obtain ⟨n,rfl,_⟩:=uJ h;exact k n
 ·obtain ⟨a,l,rfl,_⟩:=I4 h;exact k a l
 ·obtain ⟨n,rfl,_⟩:=T7 h;exact k n
 ·obtain ⟨n,rfl,_⟩:=DH h;exact k n
 ·rename_i h1 h2 h3 h4 h5;split at k
  ·exact (h1 _ _ rfl).elim
  ·exact (h2 _ rfl).elim
  ·exact (h3 _ _ _ rfl).elim
  ·exact (h4 _ rfl).elim
  ·exact (h5 _ rfl).elim
  ·exact k v
theorem acb:∀{zs vs:List Value}{K P:List Value->Prop},I2 zs vs K->N5 zs P->P vs
 |[],[],K,P,h,k=>k
 |[],_::_,K,P,h,k=>h.elim
 |_::_,[],K,P,h,k=>h.elim
 |z::zs,v::vs,K,P,h,k=>by
  have k1:N5 zs λl=>P (v::l):=ab_ h k
  exact acb (K:=λl=>K (v::l)) (P:=λl=>P (v::l)) (T6 h) k1
theorem aps {z v:Value}{K P:Value->Prop}(h:F0 z v K)(k:T2 z P):P v:=by
 unfold F0 at h;unfold T2 at k;split at h
 ·obtain ⟨l,rfl,h⟩:=ab6 h;exact acb h k
 ·rename_i hz;split at k
  ·exact (hz _ rfl).elim
  ·exact ab_ h k
theorem JB {Z:oF}{xs:Fr}{J:List Value->Prop}{B:Fr->Prop}:∀(ws:List Nat)(acc:Fr)(vs:List Value),acc.length=xs.length->(∀k,k∉ws->acc[k]? =xs[k]?)->
  JA Z xs ws vs J->Jz Z xs ws acc vs (λvs jE=>J vs->B jE)->B xs
 |[],acc,vs,hl,hs,h1,h2=>by
  have:acc=xs:=x9 λk=>hs k (by simp)
  subst this;exact h2 h1
 |w::ws,acc,vs,hl,hs,h1,h2=>by
  have next:∀k,k∉ws->(acc.set w (xs.getD w undef))[k]? =xs[k]? :=by
   intro k hk;by_cases e:k=w
   ·subst e;by_cases aE:k<xs.length
    ·rw [vD (by omega),gu];simp [aE]
    ·rw [ji (by simp;omega),ji (by omega)]
   ·rw [td (x7 e)];exact hs k (by simp [e,hk])
  simp only [JA] at h1;simp only [Jz] at h2;cases hf:O3 Z w with
  |none=>
   rw [hf] at h1 h2;exact JB ws _ vs (by simpa using hl) next h1 h2
  |some z=>
   rw [hf] at h1 h2;have k2:=aps h1 h2;exact JB ws _ _ (by simpa using hl) next (aca h1) k2
theorem aCR:∀(c:Code){C:Iu}{Z:List oF}{xs:Fr}{H:aa}{Q:X->Fr->aa->Prop},qO E c C Z xs H Q->
  WA E c (dj xs) H λx T H'=>∃aN,T=dj aN/\aN.length=xs.length/\(∀k,k∉writes c->aN[k]? =xs[k]?)/\Q x aN H':=by
 intro c
 induction c with
 |skip=>intro C Z xs H Q h;exact abh ⟨xs,rfl,rfl,λ_ _=>rfl,h⟩
 |label l=>intro C Z xs H Q h;exact ⟨0,.normal,⟨dj xs,H⟩,rfl,xs,rfl,rfl,λ_ _=>rfl,h⟩
 |exit id=>intro C Z xs H Q h;exact abc ⟨xs,rfl,rfl,λ_ _=>rfl,h⟩
 |ret=>intro C Z xs H Q h;exact abe ⟨xs,rfl,rfl,λ_ _=>rfl,h⟩
 |scope b ih=>intro C Z xs H Q h;exact abf (ih h)
 |region id ops d=>
  intro C Z xs H Q h;cases d with
  |false=>exact abd (MZ h)
  |true=>
   have⟨n,s,h1,h2⟩:=ami h;exact ⟨n,.normal,s,by simp only [cP,bQ];rw [h1],h2⟩
 |seq a b oe nu=>
  intro C Z xs H Q h;have goal:∃(Z':List oF)(C':Iu),WA E a (dj xs) H λx T H'=>∃aN,T=dj aN/\aN.length=xs.length/\(∀k,k∉writes a->aN[k]? =xs[k]?)/\
    (match x with
    |.normal=>qO E b C' Z' aN H' Q
    |.exit id=>Q (.exit id) aN H'
    |.ret=>Q .ret aN H'):=by
   simp only [qO] at h;split at h
   ·exact ⟨_,_,oe h⟩
   ·have⟨J,h1,h2⟩:=h;refine ⟨Z.drop (qE a),C.tail.drop (wz a),(oe h1).mono ?_⟩;rintro x T H' ⟨aN,rfl,g1,g2,g3⟩;refine ⟨aN,rfl,g1,g2,?_⟩;cases x with
    |normal=>exact JB (writes a) xs [] g1.symm (λk hk=>(g2 k hk).symm) g3 (h2 aN H')
    |exit id=>exact g3
    |ret=>exact g3
  have⟨Z',C',h⟩:=goal;refine abg (h.mono ?_);rintro x T H' ⟨aN,rfl,h1,h2,h3⟩;have lift:∀jE:Fr,jE.length=aN.length->(∀k,k∉writes b->jE[k]? =aN[k]?)->jE.length=xs.length/\∀k,k∉writes (.seq a b)->jE[k]? =xs[k]? :=by
   intro jE g1 g2;refine ⟨g1.trans h1,λk hk=>?_⟩
   have:k∉writes a/\k∉writes b:=by
    simp only [writes,nI] at hk;rw [Sj] at hk;exact ⟨λe=>hk (.inl e),λe=>hk (.inr e)⟩
   exact (g2 k this.2).trans (h2 k this.1)
  cases x with
  |normal=>
   simp only [NY];refine (nu h3).mono ?_;rintro y T H' ⟨jE,rfl,g1,g2,g3⟩;exact ⟨jE,rfl,(lift jE g1 g2).1,(lift jE g1 g2).2,g3⟩
  |exit id=>exact ⟨aN,rfl,(lift aN rfl λ_ _=>rfl).1,(lift aN rfl λ_ _=>rfl).2,h3⟩
  |ret=>exact ⟨aN,rfl,(lift aN rfl λ_ _=>rfl).1,(lift aN rfl λ_ _=>rfl).2,h3⟩
 |cond c a b oe nu=>
  intro C Z xs H Q h;have goal:∃t,ev E (dj xs) c=.bool t/\if t=true then qO E a C Z xs H Q else qO E b (C.drop (wz a)) (Z.drop (qE a)) xs H Q:=by
   simp only [qO] at h;rw [yw];split at h
   ·rename_i t;have⟨v,h1,h2⟩:=uJ h;refine ⟨v,h1,?_⟩;have hs:xs.set t (.bool v)=xs:=by
     by_cases aE:t<xs.length
     ·refine nF ?_;rw [gu] at h1;simp only [aE,cM,zr] at h1⊢;rw [h1]
     ·exact Sq (Nh aE)
    cases v with
    |true=>rw [ar rfl];simp only [bQ,hs] at h2;exact h2
    |false=>rw [an (by simp)];simp only [cQ,hs] at h2;exact h2
   ·have⟨v,h1,h2⟩:=uJ h;refine ⟨v,h1,?_⟩;cases v with
    |true=>rw [ar rfl];exact h2
    |false=>rw [an (by simp)];exact h2
  have⟨t,h1,h2⟩:=goal;refine abb h1 ?_;have sub:∀k,k∉writes (.cond c a b)->k∉writes a/\k∉writes b:=by
   intro k hk;simp only [writes,nI] at hk;rw [Sj] at hk;exact ⟨λe=>hk (.inl e),λe=>hk (.inr e)⟩
  cases t with
  |true=>
   rw [ar rfl] at h2⊢;refine (oe h2).mono ?_;rintro x T H' ⟨aN,rfl,g1,g2,g3⟩;exact ⟨aN,rfl,g1,λk hk=>g2 k (sub k hk).1,g3⟩
  |false=>
   rw [an (by simp)] at h2⊢;refine (nu h2).mono ?_;rintro x T H' ⟨aN,rfl,g1,g2,g3⟩;exact ⟨aN,rfl,g1,λk hk=>g2 k (sub k hk).2,g3⟩
 |block id b ih=>
  intro C Z xs H Q h;refine aba ((ih h).mono ?_);rintro x T H' ⟨aN,rfl,g1,g2,g3⟩;cases x with
  |normal=>exact ⟨aN,rfl,g1,g2,g3⟩
  |ret=>exact ⟨aN,rfl,g1,g2,g3⟩
  |exit j=>
   simp only [NX];cases hb:Nat.beq j id with
   |true=>
    rw [ar (nN hb)];simp only [hb,bQ] at g3;exact ⟨aN,rfl,g1,g2,g3⟩
   |false=>
    rw [an (Di hb)];simp only [hb,cQ] at g3;exact ⟨aN,rfl,g1,g2,g3⟩
 |loop b ih=>
  intro C Z xs H Q h;have h0:LA E b xs H ((xe b []).map λx=>(x,λaN H'=>Hu (Z.headD []) (writes b) xs (λjE=>Q x jE H') aN)):=h;refine WA.mono h0 ?_;rintro x T H' ⟨aN,rfl,g1,g2,p,hp,rfl,g3⟩;refine ⟨aN,rfl,g1,g2,?_⟩;simp only [cL] at hp;obtain ⟨y,hy,rfl⟩:=hp;exact XX (writes b) xs g1.symm (λk hk=>(g2 k hk).symm) g3
 |_=>intro C Z xs H Q h;exact h.elim
theorem amm {f:FuncId}{fn:Func}(ht:E.qL f=false)(hf:E.fn f=some fn){args:List Value}{H:aa}{R:Value->aa->Prop}{C:Iu}{Z:List oF}(h:aml E C Z fn args H R):CA E f args H R:=by
 unfold aml at h;split at h
 ·rename_i c hc;cases hb:Nat.ble args.length fn.ntmps with
  |false=>rw [hb] at h;exact h.elim
  |true=>
   rw [hb] at h;simp only [bQ] at h;refine aaK ht hf hc (ahg (aS hb)) ((aCR c h).mono ?_);rintro x T H' ⟨aN,rfl,g1,g2,g3⟩;cases x with
   |normal=>exact HH g3
   |ret=>exact HH g3
   |exit id=>exact g3.elim
 ·exact h.elim
end
end
section
abbrev ad (i:Nat):Option Addr:=some ⟨i,0,none⟩
abbrev iI (n:Int):Value:=.int .i64 n
abbrev iU (n:Int):Value:=.int .u64 n
abbrev pA (i j:Nat):Value:=.pointer (some ⟨i,j,none⟩)
abbrev pt (a:Option Addr):Value:=.pointer a
abbrev bb (b:Bool):Value:=.bool b
abbrev ud:Value:=undef
abbrev gd (y:Fr)(k:Nat):Value:=y.getD k undef
def gs (y:Fr)(i:Nat):Nat->Fr
 |0=>[]
 |n+1=>gd y i::gs y (i+1) n
def us:Nat->Fr
 |0=>[]
 |n+1=>ud::us n
abbrev aA (a:Option Addr)(K:Nat->Nat->Prop):Prop:=AS.asAddr (.pointer a) K
abbrev s0:Value:=.slice none 0 0
abbrev sl (a:Option Addr)(n:Nat):Value:=.slice a n 0
abbrev VH:Type:=Value->aa->Prop
abbrev LH:Type:=List Value->aa->Prop
abbrev FH:Type:=Fr->aa->Prop
abbrev Oa:Type:=Option Addr
theorem vz {E:Env}{f:FuncId}{args:List Value}{H:aa}{R:Value->aa->Prop}{P:Prop}(Z:List oF)(e:(E.qL f,match E.fn f with|some fn=>Se E Z fn args H R|none=>False)=(false,P))(h:P):CA E f args H R:=by
 have⟨h1,h2⟩:=Prod.mk.inj e;cases hf:E.fn f with
 |none=>rw [hf] at h2;exact (h2.mpr h).elim
 |some fn=>rw [hf] at h2;exact amn h1 hf (h2.mpr h)
theorem vk {E:Env}{f:FuncId}{args:List Value}{H:aa}{R:Value->aa->Prop}{P:Prop}(e:(E.qL f,match E.fn f with|some fn=>Se E [] fn args H R|none=>False)=(false,P))(h:P):CA E f args H R:=vz [] e h
end
end Go.AS
namespace Go.Proofs.YtjggeoghlicmdaaGreat
open Go Go.AS Go.RowKit
section
variable (H:aa)(R:VH)
set_option maxRecDepth 100000
set_option maxHeartbeats 2000000
theorem aBK (x0:Oa) :
  (aA x0 λi1 i2=>∃n3,H.cell i1 (i2+4)=some (iI n3)/\R (iI n3) H)->
  CA en F.RP [(pt x0)] H R:=vk (by kernel_rfl)
theorem aBR (x0:Oa) :
  (aA x0 λi1 i2=>∃m3,H.cell i1 i2=some (.map m3)/\QT H m3 λn4=>R (iI n4) H)->
  CA en F.Mv [(pt x0)] H R:=vk (by kernel_rfl)
theorem aBS (x0:Oa)(x1 x2:Int) :
  (CA en F.xV [(pt x0),(iI x1),(iI x2),(bb true),(.func (.func F.Zq) #[] #[])] H λv1 H2=>∃n3 b4,v1=(.tuple #[(iU n3),(bb b4)])/\R (.tuple #[(iU n3),(bb b4)]) H2)->
  CA en F.pV [(pt x0),(iI x1),(iI x2)] H R:=vk (by kernel_rfl)
theorem aBX (x0:Oa)(x1 x2 x3:Int) :
  (CA en F.Zr [(pt x0),(iI x1),(iI x2),(iU 18446744073709551615),(iU x3)] H λv1 H2=>∃b3,v1=(bb b3)/\R (bb b3) H2)->
  CA en F.y0 [(pt x0),(iI x1),(iI x2),(iU x3)] H R:=vk (by kernel_rfl)
theorem aBV (x0:Oa) :
  (aA x0 λi1 i2=>∃n3,H.cell i1 (i2+2)=some (iI n3)/\R (iI n3) H)->
  CA en F.RQ [(pt x0)] H R:=vk (by kernel_rfl)
theorem aB0 (x0:Int) :
  (aC H (.map [] 0) λi1 H2=>aC H2 (.cells true 0 [(.map (some i1)),(iI 0),(iI (if (if 65536<x0 then 65536 else x0)>0 then (if 65536<x0 then 65536 else x0) else 0)),(iI 0),(iI 0)]) λi3 H4=>R (pt (ad i3)) H4)->
  CA en F.RS [(iI x0)] H R:=vk (by kernel_rfl)
theorem alR (x0:Oa)(x1 x2:Int)(x3:Bool)(x4:Value) :
  (aA x0 λi1 i2=>∃n3,H.cell i1 (i2+3)=some (iI n3)/\aA x0 λi4 i5=>aq H i4 (i5+3) [(iI (IntKind.i64.wrap (n3+1)))] λH6=>aA x0 λi7 i8=>∃m9,H6.cell i7 i8=some (.map m9)/\∃r10,AS.sH H6 (.int .i64) m9 (iI x1)=some r10/\∃cu i12,gO r10 s0 (sl cu i12)/\bif (!x3) then (aA x0 λi13 i14=>∃bC,H6.cell i13 (i14+4)=some (iI bC)/\aA x0 λi16 i17=>aq H6 i16 (i17+4) [(iI (IntKind.i64.wrap (bC+1)))] λgv=>R (.tuple #[(iU 0),(bb false)]) gv) else (bif (decide (x2<0)) then (aA x0 λi19 i20=>∃bX,H6.cell i19 (i20+4)=some (iI bX)/\aA x0 λi22 i23=>aq H6 i22 (i23+4) [(iI (IntKind.i64.wrap (bX+1)))] λbM=>R (.tuple #[(iU 0),(bb false)]) bM) else (bif (decide (x2≥(i12:Int))) then (aA x0 λi25 i26=>∃jL,H6.cell i25 (i26+4)=some (iI jL)/\aA x0 λi28 i29=>aq H6 i28 (i29+4) [(iI (IntKind.i64.wrap (jL+1)))] λgI=>R (.tuple #[(iU 0),(bb false)]) gI) else (az x2 i12/\aV cu λi31 i32=>∃jq,H6.cell i31 (i32+(x2.toNat*1))=some (iU jq)/\AS.kQ x4 λf34 Xh Xi=>(∃fn,en.fn f34=some fn)/\CA en f34 (Xh++[(iU jq)]++Xi) H6 λFl tu=>∃jV,Fl=(iU jV)/\az x2 i12/\aV cu λi40 i41=>aq tu i40 (i41+(x2.toNat*1)) [(iU jV)] λuC=>R (.tuple #[(iU jq),(bb true)]) uC))))->
  CA en F.xV [(pt x0),(iI x1),(iI x2),(bb x3),x4] H R:=vk (by kernel_rfl)
theorem aBT (x0:Int) :
  (R (iU x0) H)->
  CA en F.Zq [(iU x0)] H R:=vk (by kernel_rfl)
theorem aBU (x0:Oa)(x1 x2 x3 x4:Int) :
  (CA en F.Zs [(pt x0),(iI x1),(iI x2),(iU x3),(iU x4)] H λv1 H2=>∃n3 b4,v1=(.tuple #[(iU n3),(bb b4)])/\R (bb b4) H2)->
  CA en F.Zr [(pt x0),(iI x1),(iI x2),(iU x3),(iU x4)] H R:=vk (by kernel_rfl)
theorem ZZ (x0:Oa)(x1:Int) :
  (bif (decide (x1<1)) then (R (.tuple #[(iI 0),(iI 1)]) H) else (bif (decide (x1>65536)) then (R (.tuple #[(iI 0),(iI 1)]) H) else (aA x0 λi1 i2=>∃n3,H.cell i1 (i2+2)=some (iI n3)/\bif (decide (x1>n3)) then (R (.tuple #[(iI 0),(iI 5)]) H) else (aA x0 λi4 i5=>∃n6,H.cell i4 (i5+1)=some (iI n6)/\aA x0 λi7 i8=>aq H i7 (i8+1) [(iI (IntKind.i64.wrap (n6+1)))] λH9=>aA x0 λi10 i11=>∃bH,H9.cell i10 (i11+2)=some (iI bH)/\aA x0 λi13 i14=>aq H9 i13 (i14+2) [(iI (IntKind.i64.wrap (bH - x1)))] λcz=>aA x0 λi16 i17=>∃Q2,(cz.ae 11).cell i16 i17=some (.map Q2)/\aA x0 λi19 i20=>∃bX,(cz.ae 11).cell i19 (i20+1)=some (iI bX)/\Q7 8 x1 x1/\aC (cz.ae 11) (.cells true 1 (fE x1.toNat [(iU 0)])) λi22 aZ=>R4 aZ (.int .i64) Q2 (iI bX) (.slice (ad i22) x1.toNat 0) λbM=>(aA x0 λi29 i30=>∃fY,bM.cell i29 (i30+1)=some (iI fY)/\R (.tuple #[(iI fY),(iI 0)]) bM)/\((∃dL,(cz.ae 11).cell i19 (i20+1)=some (iI dL)/\bX=dL)/\(∃cc,aZ.cell i19 (i20+1)=some (iI cc)/\bX=cc)/\True)/\((∃m28,(cz.ae 11).cell i16 i17=some (.map m28)/\Q2=m28)/\(∃K3,aZ.cell i16 i17=some (.map K3)/\Q2=K3)/\True)/\True))))->
  CA en F.wB [(pt x0),(iI x1)] H R:=vk (by kernel_rfl)
theorem aBN (x0:Oa) :
  (aA x0 λi1 i2=>∃n3,H.cell i1 (i2+3)=some (iI n3)/\R (iI n3) H)->
  CA en F.E7 [(pt x0)] H R:=vk (by kernel_rfl)
theorem aBY (x0:Oa)(x1 x2 x3 x4:Int) :
  (aC H (.cells true 0 [(iU x3)]) λi1 H2=>aC H2 (.cells true 0 [(iU x4)]) λi3 H4=>CA en F.xV [(pt x0),(iI x1),(iI x2),(bb true),(.func (.func F.Zt) #[] #[(pt (ad i1)),(pt (ad i3))])] H4 λv5 H6=>∃n7 b8,v5=(.tuple #[(iU n7),(bb b8)])/\R (.tuple #[(iU n7),(bb b8)]) H6)->
  CA en F.Zs [(pt x0),(iI x1),(iI x2),(iU x3),(iU x4)] H R:=vk (by kernel_rfl)
theorem aBQ (x0:Oa)(x1:Int) :
  (aA x0 λi1 i2=>∃m3,H.cell i1 i2=some (.map m3)/\∃r4,AS.sH H (.int .i64) m3 (iI x1)=some r4/\∃a5 i6,gO r4 s0 (sl a5 i6)/\aA x0 λi7 i8=>∃n9,H.cell i7 (i8+2)=some (iI n9)/\aA x0 λi10 i11=>aq H i10 (i11+2) [(iI (IntKind.i64.wrap (n9+(i6:Int))))] λbO=>aA x0 λi13 i14=>∃m15,bO.cell i13 i14=some (.map m15)/\JC bO (.int .i64) m15 (iI x1) λgC=>R (bb r4.isSome) gC)->
  CA en F.E9 [(pt x0),(iI x1)] H R:=vk (by kernel_rfl)
theorem aBZ (x0:Int)(c0 c1:Oa) :
  (aA c0 λi1 i2=>∃n3,H.cell i1 i2=some (iU n3)/\aA c1 λi4 i5=>∃n6,H.cell i4 i5=some (iU n6)/\CA en F.Mw [(iU x0),(iU n3),(iU n6)] H λv7 H8=>∃n9,v7=(iU n9)/\R (iU n9) H8)->
  CA en F.Zt [(iU x0),(pt c0),(pt c1)] H R:=vk (by kernel_rfl)
theorem aB1 (x0 x1 x2:Int) :
  (R (iU (IntKind.u64.wrap ((BitVec.ofInt 64 (IntKind.u64.wrap ((BitVec.ofInt 64 x0&&& ~~~(BitVec.ofInt 64 x1)).toNat:Int))|||(BitVec.ofInt 64 (IntKind.u64.wrap ((BitVec.ofInt 64 x2&&&(BitVec.ofInt 64 x1)).toNat:Int)))).toNat:Int))) H)->
  CA en F.Mw [(iU x0),(iU x1),(iU x2)] H R:=vk (by kernel_rfl)
theorem aBO (x0:Oa)(x1 x2 x3 x4 x5:Int) :
  (aC H (.cells true 0 [(iI x3)]) λi1 H2=>aC H2 (.cells true 0 [(iU x4)]) λi3 H4=>aC H4 (.cells true 0 [(iU x5)]) λi5 H6=>∃n7,H6.cell i1 0=some (iI n7)/\bif (n7==0) then (CA en F.xV [(pt x0),(iI x1),(iI x2),(bb true),(.func (.func F.E8) #[] #[(pt (ad i1)),(pt (ad i3)),(pt (ad i5))])] H6 λv8 H9=>∃fC DI,v8=(.tuple #[(iU fC),(bb DI)])/\R (.tuple #[(iU fC),(bb DI)]) H9) else (∃bH,H6.cell i1 0=some (iI bH)/\bif (bH==80) then (CA en F.xV [(pt x0),(iI x1),(iI x2),(bb true),(.func (.func F.E8) #[] #[(pt (ad i1)),(pt (ad i3)),(pt (ad i5))])] H6 λjC bt=>∃bC tE,jC=(.tuple #[(iU bC),(bb tE)])/\R (.tuple #[(iU bC),(bb tE)]) bt) else (∃dQ,H6.cell i1 0=some (iI dQ)/\bif (dQ==64) then (CA en F.xV [(pt x0),(iI x1),(iI x2),(bb true),(.func (.func F.E8) #[] #[(pt (ad i1)),(pt (ad i3)),(pt (ad i5))])] H6 λoY bf=>∃cU sb,oY=(.tuple #[(iU cU),(bb sb)])/\R (.tuple #[(iU cU),(bb sb)]) bf) else (∃jT,H6.cell i1 0=some (iI jT)/\CA en F.xV [(pt x0),(iI x1),(iI x2),(bb (jT==160)),(.func (.func F.E8) #[] #[(pt (ad i1)),(pt (ad i3)),(pt (ad i5))])] H6 λFi bM=>∃cc q_,Fi=(.tuple #[(iU cc),(bb q_)])/\R (.tuple #[(iU cc),(bb q_)]) bM))))->
  CA en F.xU [(pt x0),(iI x1),(iI x2),(iI x3),(iU x4),(iU x5)] H R:=vk (by kernel_rfl)
theorem aBL (x0:Oa)(x1 x2 x3 x4 x5:Int) :
  (aC H (.cells true 0 [(iU x3)]) λi1 H2=>aC H2 (.cells true 0 [(iU x4)]) λi3 H4=>aC H4 (.cells true 0 [(iU x5)]) λi5 H6=>CA en F.xV [(pt x0),(iI x1),(iI x2),(bb true),(.func (.func F.Zp) #[] #[(pt (ad i3)),(pt (ad i1)),(pt (ad i5))])] H6 λv7 H8=>∃n9 w5,v7=(.tuple #[(iU n9),(bb w5)])/\R (.tuple #[(iU n9),(bb w5)]) H8)->
  CA en F.HQ [(pt x0),(iI x1),(iI x2),(iU x3),(iU x4),(iU x5)] H R:=vk (by kernel_rfl)
theorem aBP (x0:Int)(c0 c1 c2:Oa) :
  (aA c0 λi1 i2=>∃n3,H.cell i1 i2=some (iI n3)/\aA c1 λi4 i5=>∃n6,H.cell i4 i5=some (iU n6)/\aA c2 λi7 i8=>∃n9,H.cell i7 i8=some (iU n9)/\aA c1 λi10 i11=>∃bH,H.cell i10 i11=some (iU bH)/\CA en F.Z0 [(iI n3),(bb true),(iU (IntKind.u64.wrap ((BitVec.ofInt 64 x0&&&(BitVec.ofInt 64 n6)).toNat:Int))),(iU (IntKind.u64.wrap ((BitVec.ofInt 64 n9&&&(BitVec.ofInt 64 bH)).toNat:Int)))] H λjC bt=>∃bC tE,jC=(.tuple #[(iU bC),(bb tE)])/\aA c1 λi17 i18=>∃fi,bt.cell i17 i18=some (iU fi)/\CA en F.Mw [(iU x0),(iU fi),(iU bC)] bt λv20 jZ=>∃jT,v20=(iU jT)/\R (iU jT) jZ)->
  CA en F.E8 [(iU x0),(pt c0),(pt c1),(pt c2)] H R:=vk (by kernel_rfl)
theorem aBW (x0:Oa)(x1:Int) :
  (aA x0 λi1 i2=>∃m3,H.cell i1 i2=some (.map m3)/\∃r4,AS.sH H (.int .i64) m3 (iI x1)=some r4/\∃a5 i6,gO r4 s0 (sl a5 i6)/\R (iI (i6:Int)) H)->
  CA en F.RR [(pt x0),(iI x1)] H R:=vk (by kernel_rfl)
theorem aBM (x0:Int)(c0 c1 c2:Oa) :
  (aA c0 λi1 i2=>∃n3,H.cell i1 i2=some (iU n3)/\aA c1 λi4 i5=>∃n6,H.cell i4 i5=some (iU n6)/\bif ((IntKind.u64.wrap ((BitVec.ofInt 64 (IntKind.u64.wrap ((BitVec.ofInt 64 x0 ^^^ (BitVec.ofInt 64 n3)).toNat:Int))&&&(BitVec.ofInt 64 n6)).toNat:Int)) !=0) then (R (iU x0) H) else (aA c1 λi7 i8=>∃n9,H.cell i7 i8=some (iU n9)/\aA c2 λi10 i11=>∃bH,H.cell i10 i11=some (iU bH)/\CA en F.Mw [(iU x0),(iU n9),(iU bH)] H λjC bt=>∃bC,jC=(iU bC)/\R (iU bC) bt))->
  CA en F.Zp [(iU x0),(pt c0),(pt c1),(pt c2)] H R:=vk (by kernel_rfl)
theorem aB2 (x0:Int)(x1:Bool)(x2 x3:Int) :
  (bif (x0==192) then (bif x1 then (nz 64/\nn (Int.tmod x3 64)/\R (.tuple #[(iU (IntKind.u64.wrap (Int.fdiv (IntKind.i64.wrap x2) (2 ^ (min (Int.tmod x3 64).toNat 64))))),(bb true)]) H) else (bif (x0==192) then (nz 32/\nn (Int.tmod x3 32)/\R (.tuple #[(iU (IntKind.u64.wrap (IntKind.u32.wrap (Int.fdiv (IntKind.i32.wrap x2) (2 ^ (min (Int.tmod x3 32).toNat 32)))))),(bb true)]) H) else (bif x1 then (CA en F.Z1 [(iI x0),(iU 64),(iU x2),(iU x3)] H λv1 H2=>∃n3 b4,v1=(.tuple #[(iU n3),(bb b4)])/\R (.tuple #[(iU n3),(bb b4)]) H2) else (CA en F.amb [(iI x0),(iU 32),(.int .u32 (IntKind.u32.wrap x2)),(.int .u32 (IntKind.u32.wrap x3))] H λv5 H6=>∃n7 b8,v5=(.tuple #[(.int .u32 n7),(bb b8)])/\R (.tuple #[(iU (IntKind.u64.wrap n7)),(bb b8)]) H6)))) else (bif (x0==192) then (nz 32/\nn (Int.tmod x3 32)/\R (.tuple #[(iU (IntKind.u64.wrap (IntKind.u32.wrap (Int.fdiv (IntKind.i32.wrap x2) (2 ^ (min (Int.tmod x3 32).toNat 32)))))),(bb true)]) H) else (bif x1 then (CA en F.Z1 [(iI x0),(iU 64),(iU x2),(iU x3)] H λv9 eO=>∃bI w6,v9=(.tuple #[(iU bI),(bb w6)])/\R (.tuple #[(iU bI),(bb w6)]) eO) else (CA en F.amb [(iI x0),(iU 32),(.int .u32 (IntKind.u32.wrap x2)),(.int .u32 (IntKind.u32.wrap x3))] H λjC bt=>∃bC tE,jC=(.tuple #[(.int .u32 bC),(bb tE)])/\R (.tuple #[(iU (IntKind.u64.wrap bC)),(bb tE)]) bt))))->
  CA en F.Z0 [(iI x0),(bb x1),(iU x2),(iU x3)] H R:=vk (by kernel_rfl)
theorem aB3 (x0 x1 x2 x3:Int) :
  (nz x1/\bif (x0==0) then (R (.tuple #[(iU (IntKind.u64.wrap (x2+x3))),(bb true)]) H) else (bif (x0==16) then (R (.tuple #[(iU (IntKind.u64.wrap (x2 - x3))),(bb true)]) H) else (bif (x0==32) then (R (.tuple #[(iU (IntKind.u64.wrap (x2*x3))),(bb true)]) H) else (bif (x0==48) then (CA en F.amc [(iU x2),(iU x3)] H λv1 H2=>∃n3 n4,v1=(.tuple #[(iU n3),(iU n4)])/\R (.tuple #[(iU n3),(bb true)]) H2) else (bif (x0==144) then (CA en F.amc [(iU x2),(iU x3)] H λv5 H6=>∃n7 n8,v5=(.tuple #[(iU n7),(iU n8)])/\R (.tuple #[(iU n8),(bb true)]) H6) else (bif (x0==64) then (R (.tuple #[(iU (IntKind.u64.wrap ((BitVec.ofInt 64 x2|||(BitVec.ofInt 64 x3)).toNat:Int))),(bb true)]) H) else (bif (x0==80) then (R (.tuple #[(iU (IntKind.u64.wrap ((BitVec.ofInt 64 x2&&&(BitVec.ofInt 64 x3)).toNat:Int))),(bb true)]) H) else (bif (x0==160) then (R (.tuple #[(iU (IntKind.u64.wrap ((BitVec.ofInt 64 x2 ^^^ (BitVec.ofInt 64 x3)).toNat:Int))),(bb true)]) H) else (bif (x0==96) then (nn (Int.tmod x3 x1)/\R (.tuple #[(iU (IntKind.u64.wrap (x2*2 ^ (min (Int.tmod x3 x1).toNat 64)))),(bb true)]) H) else (bif (x0==112) then (nn (Int.tmod x3 x1)/\R (.tuple #[(iU (Int.fdiv x2 (2 ^ (min (Int.tmod x3 x1).toNat 64)))),(bb true)]) H) else (bif (x0==128) then (R (.tuple #[(iU (IntKind.u64.wrap (0 - x2))),(bb true)]) H) else (bif (x0==176) then (R (.tuple #[(iU x3),(bb true)]) H) else (R (.tuple #[(iU 0),(bb false)]) H)))))))))))))->
  CA en F.Z1 [(iI x0),(iU x1),(iU x2),(iU x3)] H R:=vk (by kernel_rfl)
end
section
variable (H:aa)(R:VH)
set_option maxRecDepth 100000
set_option maxHeartbeats 2000000
theorem azL (x0 x1:Int) :
  (bif (decide (x1<1)) then (R (iI 0) H) else (nz x1/\bif (decide ((Int.tmod x0 x1)<0)) then (R (iI (IntKind.i64.wrap ((Int.tmod x0 x1)+x1))) H) else (R (iI (Int.tmod x0 x1)) H)))->
  CA en F.F9 [(iI x0),(iI x1)] H R:=vk (by kernel_rfl)
noncomputable def Tq:Code:=kE Go.Proofs.Tryz.f15 0
theorem azN (x0:Oa)(a_:Nat)(x1:Oa)(l4:Nat) :
  (bif ((a_:Int) !=(l4:Int)) then (R (bb false) H) else (LA en Tq [(sl x0 a_),(sl x1 l4),ud,ud,(bb false),(iI 0),(sl x0 a_),(iI (a_:Int)),(sl x1 l4),(iI (l4:Int)),(bb false),ud,ud,ud,ud,ud,ud,ud,ud,ud,ud,ud,ud,ud,ud,ud] H [(X.exit 0,λ(y1:Fr)(H2:aa)=>AS.asBool (y1.getD 4 undef) λb3=>R (bb true) H2),(X.ret,λ(y4:Fr)(H5:aa)=>AS.asBool (y4.getD 4 undef) λb6=>R (bb b6) H5)]))->
  CA en F.Ow [(sl x0 a_),(sl x1 l4)] H R:=vz [[(4,(bb false))]] (by kernel_rfl)
theorem ayn {t6 t7 t8 t9 t10:Value}{t0:Oa}{aU:Nat}{t1:Oa}{sW:Nat}{K0 K1:FH}{t4:Bool}{t5:Int}{t11 t12 t13 t14 t15 t16 t17 t18 t19 t20 t21 t22 t23 t24 t25:Value}{H:aa}(I:Nat->Bool->Int->aa->Prop)(n:Nat)(h0:I n t4 t5 H)
  (cY:∀(n:Nat)(t4:Bool)(t5:Int)(ys:Fr)(H:aa),I n t4 t5 H->
  (bif (decide (t5<(aU:Int))) then (az t5 aU/\aV t0 λi1 i2=>∃n3,(H.ae 9).cell i1 (i2+(t5.toNat*1))=some (iU n3)/\az t5 sW/\aV t1 λi4 i5=>∃n6,(H.ae 9).cell i4 (i5+(t5.toNat*1))=some (iU n6)/\(bif (n3 !=n6) then (K1 [(sl t0 aU),(sl t1 sW),ud,ud,(bb false),(iI t5),t6,t7,t8,t9,t10,(iI t5),(sl t0 aU),(iI (aU:Int)),(bb true),(gd ys 15),(gd ys 16),(sl t0 aU),(iI t5),(pA i1 (i2+(t5.toNat*1))),(iU n3),(sl t1 sW),(iI t5),(pA i4 (i5+(t5.toNat*1))),(iU n6),(bb true)] (H.ae 9)) else (∃k7,k7<n/\I k7 t4 (IntKind.i64.wrap (t5+1)) (H.ae 9)))/\True) else (K0 ([(sl t0 aU),(sl t1 sW),ud,ud,(bb t4),(iI t5),t6,t7,t8,t9,t10,(iI t5),(sl t0 aU),(iI (aU:Int)),(bb false)]++gs ys 15 11) H))) :
  LA en Tq [(sl t0 aU),(sl t1 sW),ud,ud,(bb t4),(iI t5),t6,t7,t8,t9,t10,t11,t12,t13,t14,t15,t16,t17,t18,t19,t20,t21,t22,t23,t24,t25] H [(X.exit 0,K0),(X.ret,K1)]:=by
 refine ko (Z:=[]) (λm xs H'=>AS.asBool (xs.getD 4 undef) λt4=>AS.asInt .i64 (xs.getD 5 undef) λt5=>I m t4 t5 H') ?_ n H ?_
 ·intro n H
  suffices hs:∀dz c6 c7 c8 cH c_ dB db dC dS dT dD dE s4 dA c9 s5:Value,((AS.asBool s4 λt4=>AS.asInt .i64 s5 λt5=>I n t4 t5 H)->gr en Tq [] [(sl t0 aU),(sl t1 sW),ud,ud,s4,s5,t6,t7,t8,t9,t10,dz,c6,c7,c8,dA,c9,cH,c_,dB,db,dC,dS,dT,dD,dE] H (kh (λm xs H'=>AS.asBool (xs.getD 4 undef) λt4=>AS.asInt .i64 (xs.getD 5 undef) λt5=>I m t4 t5 H') n [(X.exit 0,K0),(X.ret,K1)])) by
   apply bL hs
   kernel_rfl
  intro dz c6 c7 c8 cH c_ dB db dC dS dT dD dE s4 dA c9 s5 hP;replace hP:=uJ hP;obtain ⟨t4,rfl,hP⟩:=hP;replace hP:=gF hP;obtain ⟨t5,rfl,hP⟩:=hP;apply bL (cY n t4 t5 [(sl t0 aU),(sl t1 sW),ud,ud,(bb t4),(iI t5),t6,t7,t8,t9,t10,dz,c6,c7,c8,dA,c9,cH,c_,dB,db,dC,dS,dT,dD,dE] H hP);kernel_rfl
 ·apply bL h0
  kernel_rfl
noncomputable def To:Code:=kE Go.Proofs.Tryz.f16 0
theorem azK (x0:Oa)(a_:Nat) :
  (LA en To [(sl x0 a_),ud,s0,s0,(iI 0),ud,ud,ud,ud,ud,ud,ud,ud,ud,ud,ud,ud,ud,ud] H [(X.exit 0,λ(y1:Fr)(H2:aa)=>q7 (y1.getD 3 undef) λa3 i4=>R (sl a3 i4) H2)])->
  CA en F.F8 [(sl x0 a_)] H R:=vz [[(3,s0)]] (by kernel_rfl)
theorem ayl {t2:Value}{t0:Oa}{aU:Nat}{K0:FH}{t3:Oa}{ki:Nat}{t4:Int}{t5 t6 t7 t8 t9 t10 t11 t12 t13 t14 t15 t16 t17:Value}{H:aa}(I:Nat->Oa->Nat->Int->aa->Prop)(n:Nat)(h0:I n t3 ki t4 H)
  (cY:∀(n:Nat)(t3:Oa)(ki:Nat)(t4:Int)(ys:Fr)(H:aa),I n t3 ki t4 H->
  (bif (decide (t4<(aU:Int))) then (az t4 aU/\aV t0 λi1 i2=>∃n3,H.cell i1 (i2+(t4.toNat*1))=some (iU n3)/\aC H (.cells true 1 [(iU n3)]) λi4 H5=>∃l6,rowOf H5 1 (ad i4) 1=some l6/\iT H5 8 1 t3 ki 1 l6 λa7 i8 H9=>∃jS,jS<n/\I jS a7 i8 (IntKind.i64.wrap (t4+1)) H9) else (K0 ([(sl t0 aU),ud,t2,(sl t3 ki),(iI t4),(iI t4),(sl t0 aU),(iI (aU:Int)),(bb false)]++gs ys 9 9++[ud]) H))) :
  LA en To [(sl t0 aU),ud,t2,(sl t3 ki),(iI t4),t5,t6,t7,t8,t9,t10,t11,t12,t13,t14,t15,t16,t17,ud] H [(X.exit 0,K0)]:=by
 refine ko (Z:=[]) (λm xs H'=>q7 (xs.getD 3 undef) λt3 ki=>AS.asInt .i64 (xs.getD 4 undef) λt4=>I m t3 ki t4 H') ?_ n H ?_
 ·intro n H
  suffices hs:∀s5 s6 s7 s8 dz c6 c7 c8 dA c9 cH s3 s9 dR s4:Value,((q7 s3 λt3 ki=>AS.asInt .i64 s4 λt4=>I n t3 ki t4 H)->gr en To [] [(sl t0 aU),ud,t2,s3,s4,s5,s6,s7,s8,s9,dR,dz,c6,c7,c8,dA,c9,cH,ud] H (kh (λm xs H'=>q7 (xs.getD 3 undef) λt3 ki=>AS.asInt .i64 (xs.getD 4 undef) λt4=>I m t3 ki t4 H') n [(X.exit 0,K0)])) by
   apply bL hs
   kernel_rfl
  intro s5 s6 s7 s8 dz c6 c7 c8 dA c9 cH s3 s9 dR s4 hP;replace hP:=I4 hP;obtain ⟨t3,ki,rfl,hP⟩:=hP;replace hP:=gF hP;obtain ⟨t4,rfl,hP⟩:=hP;apply bL (cY n t3 ki t4 [(sl t0 aU),ud,t2,(sl t3 ki),(iI t4),s5,s6,s7,s8,s9,dR,dz,c6,c7,c8,dA,c9,cH,ud] H hP);kernel_rfl
 ·apply bL h0
  kernel_rfl
noncomputable def Ts:Code:=kE Go.Proofs.Tryz.f91 0
theorem azO (x0:Oa)(a_:Nat) :
  (LA en Ts [(sl x0 a_),ud,(iI 0),ud,ud,ud,ud,ud,ud,ud,ud,ud,ud,ud,ud] H [(X.exit 0,λ(y1:Fr)(H2:aa)=>R undef H2)])->
  CA en F.DQ [(sl x0 a_)] H R:=vz [[]] (by kernel_rfl)
theorem ayo {t0:Oa}{aU:Nat}{K0:FH}{t2:Int}{t3 t4 t5 t6 t7 t8 t9 t10 t11 t12 t13 t14:Value}{H:aa}(I:Nat->Int->aa->Prop)(n:Nat)(h0:I n t2 H)
  (cY:∀(n:Nat)(t2:Int)(ys:Fr)(H:aa),I n t2 H->
  (bif (decide (t2<(aU:Int))) then (CA en F.aeC [(iI (IntKind.i64.wrap (t2+7)))] H λv1 H2=>∃n3,v1=(iU n3)/\az t2 aU/\aV t0 λi4 i5=>aq H2 i4 (i5+(t2.toNat*1)) [(iU n3)] λH6=>∃k7,k7<n/\I k7 (IntKind.i64.wrap (t2+1)) H6) else (K0 ([(sl t0 aU),ud,(iI t2),(iI t2),(sl t0 aU),(iI (aU:Int)),(bb false)]++gs ys 7 8) H))) :
  LA en Ts [(sl t0 aU),ud,(iI t2),t3,t4,t5,t6,t7,t8,t9,t10,t11,t12,t13,t14] H [(X.exit 0,K0)]:=by
 refine ko (Z:=[]) (λm xs H'=>AS.asInt .i64 (xs.getD 2 undef) λt2=>I m t2 H') ?_ n H ?_
 ·intro n H
  suffices hs:∀s3 s4 s5 s6 s9 dR dz c6 c7 c8 s7 s8 s2:Value,((AS.asInt .i64 s2 λt2=>I n t2 H)->gr en Ts [] [(sl t0 aU),ud,s2,s3,s4,s5,s6,s7,s8,s9,dR,dz,c6,c7,c8] H (kh (λm xs H'=>AS.asInt .i64 (xs.getD 2 undef) λt2=>I m t2 H') n [(X.exit 0,K0)])) by
   apply bL hs
   kernel_rfl
  intro s3 s4 s5 s6 s9 dR dz c6 c7 c8 s7 s8 s2 hP;replace hP:=gF hP;obtain ⟨t2,rfl,hP⟩:=hP;apply bL (cY n t2 [(sl t0 aU),ud,(iI t2),s3,s4,s5,s6,s7,s8,s9,dR,dz,c6,c7,c8] H hP);kernel_rfl
 ·apply bL h0
  kernel_rfl
theorem azP (x0:Int) :
  (R (iU (IntKind.u64.wrap (7001+(IntKind.u64.wrap (13*(IntKind.u64.wrap x0)))))) H)->
  CA en F.aeC [(iI x0)] H R:=vk (by kernel_rfl)
noncomputable def Tp:Code:=kE Go.Proofs.Tryz.f44 0
theorem azM (x0:Oa)(a_:Nat)(x1:Int) :
  (LA en Tp [(sl x0 a_),(iI x1),ud,ud,(iI 0),(iI 70),(iI 0),ud,ud,ud,ud,ud,ud,ud,ud,ud,ud,ud,ud,ud,ud,ud,ud,ud,ud,ud,ud,ud,ud,ud,ud,ud,ud,ud] H [(X.exit 0,λ(y1:Fr)(H2:aa)=>AS.asInt .i64 (y1.getD 5 undef) λn3=>R (iI (IntKind.i64.wrap ((IntKind.i64.wrap (4*(IntKind.i64.wrap (x1+1))))*n3))) H2)])->
  CA en F.Uk [(sl x0 a_),(iI x1)] H R:=vz [[(5,(iI 0))]] (by kernel_rfl)
theorem aym {t1 t4:Value}{t0:Oa}{aU:Nat}{K0:FH}{t5 t6:Int}{t7 t8 t9 t10 t11 t12 t13 t14 t15 t16 t17 t18 t19 t20 t21 t22 t23 t24 t25 t26 t27 t28:Value}{H:aa}(I:Nat->Int->Int->aa->Prop)(n:Nat)(h0:I n t5 t6 H)
  (cY:∀(n:Nat)(t5 t6:Int)(ys:Fr)(H:aa),I n t5 t6 H->
  (bif (decide (t6<(aU:Int))) then (az t6 aU/\aV t0 λi1 i2=>∃n3,(H.ae 17).cell i1 ((i2+(t6.toNat*5))+1)=some (iI n3)/\az t6 aU/\aV t0 λi4 i5=>∃n6,(H.ae 17).cell i4 ((i5+(t6.toNat*5))+3)=some (iI n6)/\(∃k7,k7<n/\I k7 (if (IntKind.i64.wrap ((IntKind.i64.wrap ((IntKind.i64.wrap (10*n3))+(IntKind.i64.wrap (10*n6))))+70))>t5 then (IntKind.i64.wrap ((IntKind.i64.wrap ((IntKind.i64.wrap (10*n3))+(IntKind.i64.wrap (10*n6))))+70)) else t5) (IntKind.i64.wrap (t6+1)) (H.ae 17))/\True) else (K0 ([(sl t0 aU),t1,ud,ud,t4,(iI t5),(iI t6),(iI t6),(sl t0 aU),(iI (aU:Int)),(bb false)]++gs ys 11 18++[ud,ud,ud,ud,ud]) H))) :
  LA en Tp [(sl t0 aU),t1,ud,ud,t4,(iI t5),(iI t6),t7,t8,t9,t10,t11,t12,t13,t14,t15,t16,t17,t18,t19,t20,t21,t22,t23,t24,t25,t26,t27,t28,ud,ud,ud,ud,ud] H [(X.exit 0,K0)]:=by
 refine ko (Z:=[]) (λm xs H'=>AS.asInt .i64 (xs.getD 5 undef) λt5=>AS.asInt .i64 (xs.getD 6 undef) λt6=>I m t5 t6 H') ?_ n H ?_
 ·intro n H
  suffices hs:∀s7 s8 s9 dR c7 c8 dA c9 cH c_ dB db dC dS dT dD dE eS eT fF s5 dz c6 s6:Value,((AS.asInt .i64 s5 λt5=>AS.asInt .i64 s6 λt6=>I n t5 t6 H)->gr en Tp [] [(sl t0 aU),t1,ud,ud,t4,s5,s6,s7,s8,s9,dR,dz,c6,c7,c8,dA,c9,cH,c_,dB,db,dC,dS,dT,dD,dE,eS,eT,fF,ud,ud,ud,ud,ud] H (kh (λm xs H'=>AS.asInt .i64 (xs.getD 5 undef) λt5=>AS.asInt .i64 (xs.getD 6 undef) λt6=>I m t5 t6 H') n [(X.exit 0,K0)])) by
   apply bL hs
   kernel_rfl
  intro s7 s8 s9 dR c7 c8 dA c9 cH c_ dB db dC dS dT dD dE eS eT fF s5 dz c6 s6 hP;replace hP:=gF hP;obtain ⟨t5,rfl,hP⟩:=hP;replace hP:=gF hP;obtain ⟨t6,rfl,hP⟩:=hP;apply bL (cY n t5 t6 [(sl t0 aU),t1,ud,ud,t4,(iI t5),(iI t6),s7,s8,s9,dR,dz,c6,c7,c8,dA,c9,cH,c_,dB,db,dC,dS,dT,dD,dE,eS,eT,fF,ud,ud,ud,ud,ud] H hP);kernel_rfl
 ·apply bL h0
  kernel_rfl
end
end Go.Proofs.YtjggeoghlicmdaaGreat
namespace Go.AS
open Go.RowKit
section
theorem j9 (H:aa)(i:Nat)(o:Obj)(j:Nat):(H.set i o).get j=if j=i then some o else H.get j:=Tr.yC o H.tr i j
theorem tJ (H:aa)(o:Obj)(j:Nat):(H.new o).get j=if j=H.next then some o else H.get j:=Tr.yC o H.tr H.next j
theorem O_ (H:aa)(n j:Nat):(H.ae n).get j=H.get j:=rfl
theorem rG (H:aa)(i:Nat)(o:Obj):(H.set i o).next=H.next:=rfl
theorem iN (H:aa)(o:Obj):(H.new o).next=H.next+1:=rfl
theorem yW (H:aa)(n:Nat):(H.ae n).next=H.next+n:=rfl
theorem uT (H:aa)(i:Nat)(o:Obj):(H.set i o).get i=some o:=by rw [j9,ar rfl]
theorem oL {H:aa}{i j:Nat}{o:Obj}(h:j≠i):(H.set i o).get j=H.get j:=by rw [j9,an h]
theorem nm (H:aa)(o:Obj):(H.new o).get H.next=some o:=by rw [tJ,ar rfl]
theorem uS {H:aa}{j:Nat}{o:Obj}(h:j<H.next):(H.new o).get j=H.get j:=by rw [tJ,an (by omega)]
theorem arU {H:aa}{j:Nat}{o:Obj}(h:j≠H.next):(H.new o).get j=H.get j:=by rw [tJ,an h]
theorem Oi (H:aa)(n i o:Nat):(H.ae n).cell i o=H.cell i o:=rfl
theorem cell_of {H:aa}{i:Nat}{w:Bool}{z:Nat}{c:List Value}(h:H.get i=some (.cells w z c))(o:Nat):H.cell i o=c[o]? :=by
 unfold aa.cell;rw [h]
theorem nT {H:aa}{i:Nat}{w:Bool}{z:Nat}{c:List Value}(h:H.get i=some (.cells w z c))(o n:Nat):H.aM i o n=fm c o n:=by
 unfold aa.aM;rw [h]
theorem ae1 {H:aa}{i:Nat}{es:List MapEntry}{ck:Nat}(h:H.get i=some (.map es ck)):entriesOf H (some i)=some es:=by
 unfold entriesOf;simp only [h]
theorem RW {H:aa}{i o z:Nat}{c vs:List Value}{K:aa->Prop}(h:H.get i=some (.cells true z c))(hl:o+vs.length<=c.length)(k:K (H.set i (.cells true z (setAt c o vs)))):aq H i o vs K:=⟨z,c,h,hl,k⟩
theorem xW {H:aa}{i o z:Nat}{c vs:List Value}{K:aa->Prop}(h:H.get i=some (.cells true z c))(hl:o+vs.length<=c.length)(k:∀H',H'=H.set i (.cells true z (setAt c o vs))->K H'):aq H i o vs K:=⟨z,c,h,hl,k _ rfl⟩
theorem sJ {H:aa}{o:Obj}{K:Nat->aa->Prop}(k:∀i H',i=H.next->H'=H.new o->K i H'):aC H o K:=k _ _ rfl rfl
theorem IZ {H:aa}{bytes es i o len n:Nat}{c old new:List Value}{K:Option Addr->Nat->aa->Prop}(h:H.get i=some (.cells true es c))(hn:0<n)(hc:c.length<o+(len+n)*es)(ho:fm c o (len*es)=some old)
  (hl:(len+n)*bytes<=140737488355328)(k:∀j H',j=H.next->H'=(H.set i .dead).new (.cells true es (old++new))->K (some ⟨j,0,none⟩) (len+n) H'):iT H bytes es (some ⟨i,o,none⟩) len n new K:=
 .inr ⟨hn,.inr ⟨i,o,c,rfl,h,.inr ⟨hc,old,ho,hl,k _ _ rfl rfl⟩⟩⟩
theorem T5 {H:aa}{bytes es n:Nat}{new:List Value}{K:Option Addr->Nat->aa->Prop}(hn:0<n)(hl:n*bytes<=140737488355328)(k:∀j H',j=H.next->H'=H.new (.cells true es new)->K (some ⟨j,0,none⟩) n H'):iT H bytes es none 0 n new K:=
 .inr ⟨hn,.inl ⟨rfl,rfl,hl,k _ _ rfl rfl⟩⟩
theorem uI {i o:Nat}{K:Nat->Nat->Prop}:asAddr (.pointer (some ⟨i,o,none⟩)) K=K i o:=rfl
theorem I3 {i o:Nat}{K:Nat->Nat->Prop}:aV (some ⟨i,o,none⟩) K=K i o:=rfl
theorem apr {f:FuncId}{fs cs:Array Value}{K:FuncId->List Value->List Value->Prop}:kQ (.func (.func f) fs cs) K=K f fs.toList cs.toList:=rfl
theorem FZ {k:IntKind}{n:Int}{K:Int->Prop}:asInt k (.int k n) K=K n:=by simp [asInt]
theorem bl {b:Bool}{p q:Prop}(h:b=false)(hq:q):cond b p q:=by subst h;exact hq
theorem cm {b:Bool}{p q:Prop}(h:b=true)(hp:p):cond b p q:=by subst h;exact hp
theorem aI {b:Bool}{p q:Prop}(h1:b=true->p)(h2:b=false->q):cond b p q:=by
 cases b with
 |true=>exact h1 rfl
 |false=>exact h2 rfl
def aX (S:List Nat)(H H':aa):Prop:=H.next<=H'.next/\∀j,j<H.next->j∉S->H'.get j=H.get j
theorem aX.refl (S:List Nat)(H:aa):aX S H H:=⟨bq _,λ_ _ _=>rfl⟩
theorem aX.trans {S S':List Nat}{H H1 H2:aa}(h:aX S H H1)(k:aX S' H1 H2)(hs:∀j∈S',j∈S∨H.next<=j):aX S H H2:=
 ⟨wK h.1 k.1,λj hj hn=>by
  rw [k.2 j (De hj h.1) (λhm=>by rcases hs j hm with h1|h1;exact hn h1;omega),h.2 j hj hn]⟩
theorem aX.mono {S S':List Nat}{H H':aa}(h:aX S H H')(hs:∀j∈S,j∈S'):aX S' H H':=⟨h.1,λj hj hn=>h.2 j hj λhm=>hn (hs j hm)⟩
theorem aX.set {S:List Nat}{H H':aa}(h:aX S H H'){i:Nat}(o:Obj)(hi:i∈S∨H.next<=i):aX S H (H'.set i o):=
 ⟨h.1,λj hj hn=>by
  rw [oL (λe=>by subst e;rcases hi with h1|h1;exact hn h1;omega),h.2 j hj hn]⟩
theorem aX.new {S:List Nat}{H H':aa}(h:aX S H H')(o:Obj):aX S H (H'.new o):=
 ⟨Nat.le_succ_of_le h.1,λj hj hn=>by
  have:=h.1
  rw [arU (by omega),h.2 j hj hn]⟩
theorem aX.ae {S:List Nat}{H H':aa}(h:aX S H H')(n:Nat):aX S H (H'.ae n):=
 ⟨wK h.1 (Ic _ _),h.2⟩
section maps
variable {α:Type} (key:α->Int) (val:α->Value) (born:α->Nat) (ik:IntKind)
def gG (a:α):MapEntry:={key:=.int ik (key a),val:=val a,born:=born a}
theorem O1 (k:Int):∀(l:List α)(i:Nat),
  Instr.findNow (.int ik) (.int ik k) (l.map (gG key val born ik)) i=some (((l.findIdx? λa=>key a==k)).map λj=>(i+j,((l[j]?).map val).getD undef))
 |[],i=>by simp [Instr.findNow]
 |a::l,i=>by
  simp only [lL,Instr.findNow];have e:Instr.sameNow (.int ik) (.int ik k) (gG key val born ik a).key=some (k==key a):=by simp [Instr.sameNow,gG]
  rw [e];by_cases h:k=key a
  ·subst h;simp [gG,SE]
  ·have h1:(k==key a)=false:=by simpa using h
   have h2:(key a==k)=false:=by simpa using x7 h
   rw [h1];simp only;rw [O1 k l (i+1),SE,h2];simp only [Iq,Bb,Option.map_map]
   congr 2
   funext j
   simp [Fw,Ik 1 j]
end maps
theorem aqi {E:Env}(hE:E.Ok)(we:E.prog.follows .mixedOrders=true){f:FuncId}{args:List Value}{H:aa}{b:Bool}(h:CA E f args H λv _=>v=.bool b){μ:aJ}{w:World}{ec:Array Value}
  (hH:aO E w.heap.size μ H w)(ha:bE μ args ec.toList):Calls E.prog f ec w λe w'=>e=.returned (.bool b)/\Below w.heap.size w w':=by
 obtain ⟨n,v,H',h1,rfl⟩:=h;refine (Zf hE we w.heap.size n f args H _ H' h1 μ w ec hH ha).mono ?_;rintro e w' ⟨V,aD,rfl,h2,h3,h4,h5⟩;cases h3;exact ⟨rfl,h5⟩
end
section
abbrev W (w:BitVec 64):Value:=.int .u64 (w.toNat:Int)
theorem wrap_u64 (n:Int):IntKind.u64.wrap n=((BitVec.ofInt 64 n).toNat:Int):=by
 have h1:IntKind.u64.wrap n=n % 18446744073709551616:=rfl;rw [h1,SF]
 have:(0:Int)<=n % 18446744073709551616:=Np _ (by decide)
 omega
theorem rI (w:BitVec 64):BitVec.ofInt 64 (w.toNat:Int)=w:=by
 rw [BitVec.ofInt_natCast,BitVec.ofNat_toNat,BitVec.setWidth_eq]
theorem M4 (w:BitVec 64):IntKind.u64.wrap (w.toNat:Int)=(w.toNat:Int):=by rw [wrap_u64,rI]
theorem ofInt_add (a b:Int):BitVec.ofInt 64 (a+b)=BitVec.ofInt 64 a+BitVec.ofInt 64 b:=by
 exact BitVec.ofInt_add a b
theorem Z2 {n:Int}(h:(Lit.int .u64 n).wf=true):∃w:BitVec 64,n=(w.toNat:Int):=by
 refine ⟨BitVec.ofInt 64 n,?_⟩;have h2:n<18446744073709551616/\0<=n:=by
  have h1:=h;simp only [Lit.wf,IntKind.min,IntKind.max,jX,gf] at h1;have e1:IntKind.u64.signed=false:=rfl;have e2:IntKind.u64.bits=64:=rfl;simp [e1,e2] at h1;omega
 rw [SF];omega
theorem wrap_i64 {n:Int}(h: -9223372036854775808<=n/\n<9223372036854775808):IntKind.i64.wrap n=n:=by
 have e:IntKind.i64.wrap n=if 9223372036854775808<=n % 18446744073709551616 then n % 18446744073709551616 - 18446744073709551616 else n % 18446744073709551616:=by
  show (let m:=n % (2 ^ IntKind.i64.bits:Int);if (IntKind.i64.signed&&decide (m≥(2 ^ (IntKind.i64.bits - 1):Int)))=true then m - (2 ^ IntKind.i64.bits:Int) else m)=_;have h1:(2 ^ IntKind.i64.bits:Int)=18446744073709551616:=rfl;have h2:(2 ^ (IntKind.i64.bits - 1):Int)=9223372036854775808:=rfl;have h3:IntKind.i64.signed=true:=rfl;rw [h1,h2,h3];simp
 rw [e];split<;>omega
theorem ad2 {a b:BitVec 64}:((a.toNat:Int)=(b.toNat:Int))↔a=b:=by
 rw [<-BitVec.toNat_inj];omega
theorem bv_beq (a b:BitVec 64):(((a.toNat:Int)==(b.toNat:Int)):Bool)=(a==b):=by
 rw [p7];simp [ad2]
theorem Ud (a b:BitVec 64):(((a.toNat:Int) !=(b.toNat:Int)):Bool)=(a !=b):=by
 rw [p7];simp [ad2]
end
section
structure ax where
 bR:List Nat
 holds:aa->Prop
 loc:∀{H H':aa},(∀i∈bR,H'.get i=H.get i)->holds H->holds H'
def ly (L:List ax):List Nat:=L.flatMap ax.bR
structure Sep (H:aa)(L:List ax):Prop where
 all:∀A∈L,A.holds H
 nd:(ly L).Nodup
 lt:∀i∈ly L,i<H.next
def bx (i:Nat)(o:Obj):ax:=⟨[i],λH=>H.get i=some o,λh k=>by rw [h _ (by simp)];exact k⟩
abbrev cl (i:Nat)(c:List Value):ax:=bx i (.cells true 0 c)
def many (L:List ax):ax:=⟨ly L,λH=>∀A∈L,A.holds H,λh k A hA=>A.loc (λi hi=>h i (zk.2 ⟨A,hA,hi⟩)) (k A hA)⟩
theorem oK (A:ax)(L:List ax):ly (A::L)=A.bR++ly L:=by simp [ly]
theorem aru (L M:List ax):ly (L++M)=ly L++ly M:=by simp [ly]
variable {H H':aa} {L M:List ax} {A B:ax}
theorem Sep.nil:Sep H []:=⟨by simp,by simp [ly],by simp [ly]⟩
theorem Sep.perm (h:Sep H L)(p:L.Perm M):Sep H M:=by
 refine ⟨λA hA=>h.all A (p.mem_iff.2 hA),?_,λi hi=>h.lt i ?_⟩
 ·exact (p.flatMap_right _).nodup_iff.1 h.nd
 ·exact (p.flatMap_right ax.bR).mem_iff.2 hi
theorem OV:∀{L:List ax}{k:Nat}{A:ax},L[k]? =some A->L.Perm (A::L.eraseIdx k)
 |[],k,A,h=>by simp at h
 |B::L,0,A,h=>by simp at h;subst h;exact .refl _
 |B::L,k+1,A,h=>by
  have ih:=OV (L:=L) (k:=k) (A:=A) (by simpa using h)
  exact (ih.cons B).trans (List.Perm.swap A B _)
theorem set_perm:∀{L:List ax}{k:Nat}{A:ax},k<L.length->(L.set k A).Perm (A::L.eraseIdx k)
 |[],k,A,h=>by simp at h
 |B::L,0,A,h=>.refl _
 |B::L,k+1,A,h=>by
  have ih:=set_perm (L:=L) (k:=k) (A:=A) (by simpa using h)
  exact (ih.cons B).trans (List.Perm.swap A B _)
theorem Sep.out (h:Sep H L)(k:Nat)(hk:L[k]? =some A):Sep H (A::L.eraseIdx k):=h.perm (OV hk)
theorem Sep.back (k:Nat)(h:Sep H (A::L.eraseIdx k))(hk:k<L.length):Sep H (L.set k A):=h.perm (set_perm hk).symm
theorem Sep.tail (h:Sep H (A::L)):Sep H L:=
 ⟨λB hB=>h.all B (jh _ hB),by have:=h.nd;rw [oK] at this;exact (jG.1 this).2.1,λi hi=>h.lt i (by rw [oK];exact mE _ hi)⟩
theorem Sep.drop (h:Sep H L)(n:Nat):Sep H (L.drop n):=by
 induction n generalizing L with
 |zero=>exact h
 |succ n ih=>cases L with
  |nil=>exact h
  |cons A L=>exact ih h.tail
theorem Sep.one (h:Sep H L)(k:Nat)(hk:L[k]? =some A):A.holds H:=h.all A (dF hk)
theorem Sep.head (h:Sep H (A::L)):A.holds H:=h.all A (by simp)
theorem Sep.D5 (h:Sep H (A::L)){i:Nat}(hi:i∈A.bR):i<H.next:=h.lt i (by rw [oK];exact iZ _ hi)
theorem Sep.arC (h:Sep H (A::L)):A.bR.Nodup:=by have:=h.nd;rw [oK] at this;exact (jG.1 this).1
theorem Sep.fX:Sep H (many L::M)↔Sep H (L++M):=by
 have e:ly (many L::M)=ly (L++M):=by rw [oK,aru];rfl
 constructor
 ·intro h;refine ⟨λA hA=>?_,e▸h.nd,λi hi=>h.lt i (e▸hi)⟩;rcases dV.1 hA with hA|hA
  ·exact h.head A hA
  ·exact h.all A (jh _ hA)
 ·intro h;refine ⟨λA hA=>?_,e▸h.nd,λi hi=>h.lt i (e▸hi)⟩;rcases dU.1 hA with rfl|hA
  ·exact λB hB=>h.all B (iZ _ hB)
  ·exact h.all A (mE _ hA)
theorem Sep.dt {S:List Nat}(h:Sep H (A::L))(fr:aX S H H')(hS:∀j∈S,j∈A.bR∨H.next<=j)(hB:B.holds H')(hf:∀j∈B.bR,j∈A.bR∨H.next<=j)(hn:B.bR.Nodup)(hl:∀j∈B.bR,j<H'.next):Sep H' (B::L):=by
 have nd:=h.nd;rw [oK] at nd;have XF:=jG.1 nd;refine ⟨λC hC=>?_,?_,λi hi=>?_⟩
 ·rcases dU.1 hC with rfl|hC
  ·exact hB
  ·refine C.loc (λi hi=>?_) (h.all C (jh _ hC));have sD:i∈ly L:=zk.2 ⟨C,hC,hi⟩;have aE:=h.tail.lt i sD;refine fr.2 i aE λhs=>?_
   rcases hS i hs with h1|h1
   ·exact XF.2.2 i h1 i sD rfl
   ·omega
 ·rw [oK];refine jG.2 ⟨hn,XF.2.1,λa ha b hb e=>?_⟩;subst e;rcases hf a ha with h1|h1
  ·exact XF.2.2 a h1 a hb rfl
  ·have:=h.tail.lt a hb;omega
 ·rw [oK] at hi;rcases dV.1 hi with h1|h1
  ·exact hl i h1
  ·exact De (h.tail.lt i h1) fr.1
theorem Sep.iy (h:Sep H L)(fr:aX [] H H'):Sep H' L:=
 ⟨λA hA=>A.loc (λi hi=>fr.2 i (h.lt i (zk.2 ⟨A,hA,hi⟩)) (by simp)) (h.all A hA),h.nd,λi hi=>De (h.lt i hi) fr.1⟩
theorem Sep.ae (h:Sep H L)(n:Nat):Sep (H.ae n) L:=h.iy ((aX.refl _ _).ae n)
theorem Sep.new (h:Sep H L)(o:Obj):Sep (H.new o) (bx H.next o::L):=by
 refine ⟨λA hA=>?_,?_,λi hi=>?_⟩
 ·rcases dU.1 hA with rfl|hA
  ·exact nm _ _
  ·exact (h.iy ((aX.refl _ _).new o)).all A hA
 ·rw [oK];refine jG.2 ⟨by simp [bx],h.nd,λa ha b hb e=>?_⟩;simp only [bx,fo] at ha
  have:=h.lt b hb
  omega
 ·rw [oK] at hi;rcases dV.1 hi with h1|h1
  ·simp only [bx,fo] at h1;rw [iN];omega
  ·have:=h.lt i h1
   rw [iN];omega
theorem Sep.nw {o:Obj}{K:Nat->aa->Prop}(h:Sep H L)(k:∀i H',Sep H' (bx i o::L)->K i H'):aC H o K:=k _ _ (h.new o)
theorem Sep.axD {i:Nat}{o o':Obj}(h:Sep H (bx i o::L)):Sep (H.set i o') (bx i o'::L):=by
 refine h.dt (S:=[i]) ((aX.refl _ _).set _ (by simp)) (by simp [bx]) (uT _ _ _) (by simp [bx]) (by simp [bx]) ?_;intro j hj;simp only [bx,fo] at hj;subst hj;exact h.D5 (by simp [bx])
theorem Sep.set {i:Nat}{o:Obj}(h:Sep H L)(k:Nat)(o':Obj)(hk:L[k]? =some (bx i o)):Sep (H.set i o') (L.set k (bx i o')):=
 Sep.back k (h.out k hk).axD (by have:=bJ.1 hk;exact this.1)
theorem Sep.get {i:Nat}{o:Obj}(h:Sep H L)(k:Nat)(hk:L[k]? =some (bx i o)):H.get i=some o:=h.one k hk
theorem Sep.ld {i o z:Nat}{w:Bool}{c:List Value}{v:Value}(h:Sep H L)(k:Nat)(hk:L[k]? =some (bx i (.cells w z c)))(hv:c[o]? =some v):H.cell i o=some v:=by
 rw [cell_of (h.get k hk)];exact hv
theorem Sep.Cl {i o n z:Nat}{w:Bool}{c:List Value}{v:List Value}(h:Sep H L)(k:Nat)(hk:L[k]? =some (bx i (.cells w z c)))(hv:fm c o n=some v):H.aM i o n=some v:=by
 rw [nT (h.get k hk)];exact hv
theorem Sep.st {i o z:Nat}{c vs:List Value}{K:aa->Prop}(h:Sep H L)(k:Nat)(hk:L[k]? =some (bx i (.cells true z c)))(hl:o+vs.length<=c.length)
  (r:∀H',Sep H' (L.set k (bx i (.cells true z (setAt c o vs))))->K H'):aq H i o vs K:=RW (h.get k hk) hl (r _ (h.set k _ hk))
end
section
variable {H:aa} {L:List ax}
theorem bG {i o:Nat}{K:Nat->Nat->Prop}(h:K i o):aV (some ⟨i,o,none⟩) K:=h
theorem af {i o:Nat}{K:Nat->Nat->Prop}(h:K i o):asAddr (.pointer (some ⟨i,o,none⟩)) K:=h
theorem T8 {a:Option Addr}{l:Nat}{K:Option Addr->Nat->Prop}(h:K a l):q7 (.slice a l 0) K:=h
theorem wZ {k:IntKind}{n:Int}{K:Int->Prop}(h:K n):AS.asInt k (.int k n) K:=by rw [FZ];exact h
theorem uK {b:Bool}{K:Bool->Prop}(h:K b):AS.asBool (.bool b) K:=h
theorem eQ {f:FuncId}{fs cs:Array Value}{K:FuncId->List Value->List Value->Prop}(h:K f fs.toList cs.toList):kQ (.func (.func f) fs cs) K:=h
theorem apt {p:Option Addr}{K:Option Addr->Prop}(h:K p):zP (.pointer p) K:=h
theorem Sep.swap {A B:ax}(h:Sep H (A::B::L)):Sep H (B::A::L):=h.perm (List.Perm.swap B A L)
theorem Sep.JE (h:Sep H L)(k:Nat):Sep H (L.eraseIdx k):=by
 by_cases hk:k<L.length
 ·exact (h.perm (OV (cM hk))).tail
 ·rw [Ng (by omega)];exact h
theorem Sep.uu {A0:ax}(h:Sep H (A0::L)):Sep H (L):=Sep.JE h 0
theorem Sep.AL {A0 A1:ax}(h:Sep H (A0::A1::L)):Sep H (A0::L):=Sep.JE h 1
theorem Sep.rm3 {A0 A1 A2 A3:ax}(h:Sep H (A0::A1::A2::A3::L)):Sep H (A0::A1::A2::L):=Sep.JE h 3
theorem Sep.rm4 {A0 A1 A2 A3 A4:ax}(h:Sep H (A0::A1::A2::A3::A4::L)):Sep H (A0::A1::A2::A3::L):=Sep.JE h 4
theorem Sep.rm5 {A0 A1 A2 A3 A4 A5:ax}(h:Sep H (A0::A1::A2::A3::A4::A5::L)):Sep H (A0::A1::A2::A3::A4::L):=Sep.JE h 5
theorem Sep.iE {A0 A1:ax}(h:Sep H (A0::A1::L)):Sep H (A1::A0::L):=Sep.out h 1 rfl
theorem Sep.qM {A0 A1 A2:ax}(h:Sep H (A0::A1::A2::L)):Sep H (A2::A0::A1::L):=Sep.out h 2 rfl
theorem Sep.k_ {A0 A1 A2 A3:ax}(h:Sep H (A0::A1::A2::A3::L)):Sep H (A3::A0::A1::A2::L):=Sep.out h 3 rfl
theorem Sep.wG {A0 A1 A2 A3 A4:ax}(h:Sep H (A0::A1::A2::A3::A4::L)):Sep H (A4::A0::A1::A2::A3::L):=Sep.out h 4 rfl
theorem Sep.MK {A0 A1 A2 A3 A4 A5:ax}(h:Sep H (A0::A1::A2::A3::A4::A5::L)):Sep H (A5::A0::A1::A2::A3::A4::L):=Sep.out h 5 rfl
theorem Sep.Fh {A0 A1 A2 A3 A4 A5 A6:ax}(h:Sep H (A0::A1::A2::A3::A4::A5::A6::L)):Sep H (A6::A0::A1::A2::A3::A4::A5::L):=Sep.out h 6 rfl
theorem Sep.ZE {A0 A1 A2 A3 A4 A5 A6 A7:ax}(h:Sep H (A0::A1::A2::A3::A4::A5::A6::A7::L)):Sep H (A7::A0::A1::A2::A3::A4::A5::A6::L):=Sep.out h 7 rfl
theorem Sep.up8 {A0 A1 A2 A3 A4 A5 A6 A7 A8:ax}(h:Sep H (A0::A1::A2::A3::A4::A5::A6::A7::A8::L)):Sep H (A8::A0::A1::A2::A3::A4::A5::A6::A7::L):=Sep.out h 8 rfl
theorem Sep.aG {i z o:Nat}{w:Bool}{c:List Value}{v:Value}(h:Sep H (bx i (.cells w z c)::L))(hv:c[o]? =some v):H.cell i o=some v:=Sep.ld h 0 rfl hv
theorem Sep.jK {i z o n:Nat}{w:Bool}{c:List Value}{v:List Value}(h:Sep H (bx i (.cells w z c)::L))(hv:fm c o n=some v):H.aM i o n=some v:=Sep.Cl h 0 rfl hv
theorem Sep.gL {i:Nat}{x:Obj}(h:Sep H (bx i x::L)):H.get i=some x:=Sep.get h 0 rfl
theorem Sep.dp {i z o:Nat}{c vs:List Value}{K:aa->Prop}(h:Sep H (bx i (.cells true z c)::L))(hl:o+vs.length<=c.length)(r:∀H',Sep H' (bx i (.cells true z (setAt c o vs))::L)->K H'):aq H i o vs K:=Sep.st h 0 rfl hl r
theorem Sep.X5 {i:Nat}{x:Obj}(h:Sep H (bx i x::L))(y:Obj):Sep (H.set i y) (bx i y::L):=Sep.set h 0 y rfl
theorem Sep.bn {A0:ax}{i z o:Nat}{w:Bool}{c:List Value}{v:Value}(h:Sep H (A0::bx i (.cells w z c)::L))(hv:c[o]? =some v):H.cell i o=some v:=Sep.ld h 1 rfl hv
theorem Sep.wu {A0:ax}{i z o n:Nat}{w:Bool}{c:List Value}{v:List Value}(h:Sep H (A0::bx i (.cells w z c)::L))(hv:fm c o n=some v):H.aM i o n=some v:=Sep.Cl h 1 rfl hv
theorem Sep.yB {A0:ax}{i:Nat}{x:Obj}(h:Sep H (A0::bx i x::L)):H.get i=some x:=Sep.get h 1 rfl
theorem Sep.lK {A0:ax}{i z o:Nat}{c vs:List Value}{K:aa->Prop}(h:Sep H (A0::bx i (.cells true z c)::L))(hl:o+vs.length<=c.length)(r:∀H',Sep H' (A0::bx i (.cells true z (setAt c o vs))::L)->K H'):aq H i o vs K:=Sep.st h 1 rfl hl r
theorem Sep.awi {A0:ax}{A:ax}(h:Sep H (A0::A::L)):A.holds H:=Sep.one h 1 rfl
theorem Sep.eK {A0 A1:ax}{i z o:Nat}{w:Bool}{c:List Value}{v:Value}(h:Sep H (A0::A1::bx i (.cells w z c)::L))(hv:c[o]? =some v):H.cell i o=some v:=Sep.ld h 2 rfl hv
theorem Sep.yT {A0 A1:ax}{i z o n:Nat}{w:Bool}{c:List Value}{v:List Value}(h:Sep H (A0::A1::bx i (.cells w z c)::L))(hv:fm c o n=some v):H.aM i o n=some v:=Sep.Cl h 2 rfl hv
theorem Sep.arS {A0 A1:ax}{i:Nat}{x:Obj}(h:Sep H (A0::A1::bx i x::L)):H.get i=some x:=Sep.get h 2 rfl
theorem Sep.E_ {A0 A1:ax}{i z o:Nat}{c vs:List Value}{K:aa->Prop}(h:Sep H (A0::A1::bx i (.cells true z c)::L))(hl:o+vs.length<=c.length)(r:∀H',Sep H' (A0::A1::bx i (.cells true z (setAt c o vs))::L)->K H'):aq H i o vs K:=Sep.st h 2 rfl hl r
theorem Sep.iV {A0 A1 A2:ax}{i z o:Nat}{w:Bool}{c:List Value}{v:Value}(h:Sep H (A0::A1::A2::bx i (.cells w z c)::L))(hv:c[o]? =some v):H.cell i o=some v:=Sep.ld h 3 rfl hv
theorem Sep.avc {A0 A1 A2:ax}{i z o n:Nat}{w:Bool}{c:List Value}{v:List Value}(h:Sep H (A0::A1::A2::bx i (.cells w z c)::L))(hv:fm c o n=some v):H.aM i o n=some v:=Sep.Cl h 3 rfl hv
theorem Sep.Vj {A0 A1 A2:ax}{i:Nat}{x:Obj}(h:Sep H (A0::A1::A2::bx i x::L)):H.get i=some x:=Sep.get h 3 rfl
theorem Sep.HR {A0 A1 A2:ax}{i z o:Nat}{c vs:List Value}{K:aa->Prop}(h:Sep H (A0::A1::A2::bx i (.cells true z c)::L))(hl:o+vs.length<=c.length)(r:∀H',Sep H' (A0::A1::A2::bx i (.cells true z (setAt c o vs))::L)->K H'):aq H i o vs K:=Sep.st h 3 rfl hl r
theorem Sep.lD {A0 A1 A2 A3:ax}{i z o:Nat}{w:Bool}{c:List Value}{v:Value}(h:Sep H (A0::A1::A2::A3::bx i (.cells w z c)::L))(hv:c[o]? =some v):H.cell i o=some v:=Sep.ld h 4 rfl hv
theorem Sep.ah5 {A0 A1 A2 A3:ax}{i z o n:Nat}{w:Bool}{c:List Value}{v:List Value}(h:Sep H (A0::A1::A2::A3::bx i (.cells w z c)::L))(hv:fm c o n=some v):H.aM i o n=some v:=Sep.Cl h 4 rfl hv
theorem Sep.y_ {A0 A1 A2 A3:ax}{i z o:Nat}{c vs:List Value}{K:aa->Prop}(h:Sep H (A0::A1::A2::A3::bx i (.cells true z c)::L))(hl:o+vs.length<=c.length)(r:∀H',Sep H' (A0::A1::A2::A3::bx i (.cells true z (setAt c o vs))::L)->K H'):aq H i o vs K:=Sep.st h 4 rfl hl r
theorem Sep.iL {A0 A1 A2 A3 A4:ax}{i z o:Nat}{w:Bool}{c:List Value}{v:Value}(h:Sep H (A0::A1::A2::A3::A4::bx i (.cells w z c)::L))(hv:c[o]? =some v):H.cell i o=some v:=Sep.ld h 5 rfl hv
theorem Sep.QO {A0 A1 A2 A3 A4:ax}{i z o n:Nat}{w:Bool}{c:List Value}{v:List Value}(h:Sep H (A0::A1::A2::A3::A4::bx i (.cells w z c)::L))(hv:fm c o n=some v):H.aM i o n=some v:=Sep.Cl h 5 rfl hv
theorem Sep.arT {A0 A1 A2 A3 A4:ax}{i:Nat}{x:Obj}(h:Sep H (A0::A1::A2::A3::A4::bx i x::L)):H.get i=some x:=Sep.get h 5 rfl
theorem Sep.MA {A0 A1 A2 A3 A4:ax}{i z o:Nat}{c vs:List Value}{K:aa->Prop}(h:Sep H (A0::A1::A2::A3::A4::bx i (.cells true z c)::L))(hl:o+vs.length<=c.length)(r:∀H',Sep H' (A0::A1::A2::A3::A4::bx i (.cells true z (setAt c o vs))::L)->K H'):aq H i o vs K:=Sep.st h 5 rfl hl r
theorem Sep.wq {A0 A1 A2 A3 A4 A5:ax}{i z o:Nat}{w:Bool}{c:List Value}{v:Value}(h:Sep H (A0::A1::A2::A3::A4::A5::bx i (.cells w z c)::L))(hv:c[o]? =some v):H.cell i o=some v:=Sep.ld h 6 rfl hv
theorem Sep.HS {A0 A1 A2 A3 A4 A5:ax}{i z o:Nat}{c vs:List Value}{K:aa->Prop}(h:Sep H (A0::A1::A2::A3::A4::A5::bx i (.cells true z c)::L))(hl:o+vs.length<=c.length)(r:∀H',Sep H' (A0::A1::A2::A3::A4::A5::bx i (.cells true z (setAt c o vs))::L)->K H'):aq H i o vs K:=Sep.st h 6 rfl hl r
theorem Sep.Ck {A0 A1 A2 A3 A4 A5 A6:ax}{i z o:Nat}{w:Bool}{c:List Value}{v:Value}(h:Sep H (A0::A1::A2::A3::A4::A5::A6::bx i (.cells w z c)::L))(hv:c[o]? =some v):H.cell i o=some v:=Sep.ld h 7 rfl hv
theorem Sep.st7 {A0 A1 A2 A3 A4 A5 A6:ax}{i z o:Nat}{c vs:List Value}{K:aa->Prop}(h:Sep H (A0::A1::A2::A3::A4::A5::A6::bx i (.cells true z c)::L))(hl:o+vs.length<=c.length)(r:∀H',Sep H' (A0::A1::A2::A3::A4::A5::A6::bx i (.cells true z (setAt c o vs))::L)->K H'):aq H i o vs K:=Sep.st h 7 rfl hl r
theorem Sep.ld8 {A0 A1 A2 A3 A4 A5 A6 A7:ax}{i z o:Nat}{w:Bool}{c:List Value}{v:Value}(h:Sep H (A0::A1::A2::A3::A4::A5::A6::A7::bx i (.cells w z c)::L))(hv:c[o]? =some v):H.cell i o=some v:=Sep.ld h 8 rfl hv
theorem Sep.QP {A0 A1 A2 A3 A4 A5 A6 A7:ax}{i z o n:Nat}{w:Bool}{c:List Value}{v:List Value}(h:Sep H (A0::A1::A2::A3::A4::A5::A6::A7::bx i (.cells w z c)::L))(hv:fm c o n=some v):H.aM i o n=some v:=Sep.Cl h 8 rfl hv
theorem Sep.ld9 {A0 A1 A2 A3 A4 A5 A6 A7 A8:ax}{i z o:Nat}{w:Bool}{c:List Value}{v:Value}(h:Sep H (A0::A1::A2::A3::A4::A5::A6::A7::A8::bx i (.cells w z c)::L))(hv:c[o]? =some v):H.cell i o=some v:=Sep.ld h 9 rfl hv
theorem Sep.ah6 {A0 A1 A2 A3 A4 A5 A6 A7 A8:ax}{i z o n:Nat}{w:Bool}{c:List Value}{v:List Value}(h:Sep H (A0::A1::A2::A3::A4::A5::A6::A7::A8::bx i (.cells w z c)::L))(hv:fm c o n=some v):H.aM i o n=some v:=Sep.Cl h 9 rfl hv
theorem Sep.au8 {A0 A1 A2 A3 A4 A5 A6 A7 A8 A9:ax}{i z o:Nat}{w:Bool}{c:List Value}{v:Value}(h:Sep H (A0::A1::A2::A3::A4::A5::A6::A7::A8::A9::bx i (.cells w z c)::L))(hv:c[o]? =some v):H.cell i o=some v:=Sep.ld h 10 rfl hv
theorem Sep.au9 {A0 A1 A2 A3 A4 A5 A6 A7 A8 A9 SR:ax}{i z o:Nat}{w:Bool}{c:List Value}{v:Value}(h:Sep H (A0::A1::A2::A3::A4::A5::A6::A7::A8::A9::SR::bx i (.cells w z c)::L))(hv:c[o]? =some v):H.cell i o=some v:=Sep.ld h 11 rfl hv
theorem Sep.au_ {A0 A1 A2 A3 A4 A5 A6 A7 A8 A9 SR A11:ax}{i z o:Nat}{w:Bool}{c:List Value}{v:Value}(h:Sep H (A0::A1::A2::A3::A4::A5::A6::A7::A8::A9::SR::A11::bx i (.cells w z c)::L))(hv:c[o]? =some v):H.cell i o=some v:=Sep.ld h 12 rfl hv
end
section
variable {H:aa} {L:List ax}
theorem HJ {w:Nat}:∀(css:List (List Value)),(∀c∈css,c.length=w)->css.flatten.length=css.length*w
 |[],_=>by simp
 |c::css,h=>by
  rw [s_,e_,HJ css λd hd=>h d (jh _ hd),h c (by simp),gU,mB]
  omega
theorem Mg {w:Nat}:∀(css:List (List Value))(j:Nat),(∀c∈css,c.length=w)->css.flatten.drop (j*w)=(css.drop j).flatten
 |css,0,_=>by simp
 |[],j+1,_=>by simp
 |c::css,j+1,h=>by
  have hc:=h c (by simp)
  rw [s_,mB,Ba,Ik,<-hc,<-A_,List.drop_left,hc,aaw]
  exact Mg css j λd hd=>h d (jh _ hd)
theorem aw3 {w:Nat}{css:List (List Value)}{j:Nat}(h:∀c∈css,c.length=w)(hj:j<css.length):fm css.flatten (j*w) w=some css[j]:=by
 have h1:=HJ css h;have h2:j*w+w<=css.length*w:=by rw [<-Ns];exact x_ _ hj
 unfold fm;rw [ar (by omega),Mg css j h,zy hj,s_];have h3:(css[j]).length=w:=h _ (SL hj)
 congr 1
 conv=>lhs;rw [<-h3]
 exact List.take_left
theorem akI {w:Nat}{css:List (List Value)}{j k:Nat}(h:∀c∈css,c.length=w)(hj:j<css.length)(hk:k<w):css.flatten[j*w+k]? =(css[j])[k]? :=by
 have h3:(css[j]).length=w:=h _ (SL hj);rw [<-Bd,Mg css j h,zy hj,s_,uB (by omega)]
inductive Arg:Option Addr->Nat->List (List Value)->List ax->Prop where
 |none:Arg none 0 [] []
 |some (i:Nat)(css:List (List Value)):Arg (some ⟨i,0,Option.none⟩) css.length css [bx i (.cells false 0 css.flatten)]
theorem Sep.vh (h:Sep H L):Sep H (many []::L):=Sep.fX.2 h
theorem Sep.many1 {A:ax}:Sep H (many [A]::L)↔Sep H (A::L):=Sep.fX
theorem Sep.axO {A X B:List ax}:Sep H (many (A++(X++B))::L)↔Sep H (many X::many (A++B)::L):=by
 rw [Sep.fX,Sep.fX];have e:Sep H (X++many (A++B)::L)↔Sep H (many (A++B)::(X++L)):=⟨λh=>h.perm pf,λh=>h.perm pf.symm⟩;rw [e,Sep.fX];have p:(A++(X++B)++L).Perm (A++B++(X++L)):=by
  simp only [mC];exact List.Perm.append_left A (Ir X B L)
 exact ⟨λh=>h.perm p,λh=>h.perm p.symm⟩
variable {w k:Nat} {css:List (List Value)} {row:List Value}
theorem RN {α:Type}{l:List α}{k:Nat}{x:α}(hk:l[k]? =Option.some x):l.set k x=l:=by
 have⟨hl,hg⟩:=bJ.1 hk;rw [<-hg];exact List.set_getElem_self hl
theorem RM (hw:∀c∈css,c.length=w)(hr:row.length=w):∀c∈css.set k row,c.length=w:=by
 intro c hc;rcases aap hc with h|h
 ·exact hw c h
 ·rw [h];exact hr
theorem awQ (n:Nat)(z:List Value):fE n z=(List.replicate n z).flatten:=by
 induction n with
 |zero=>rfl
 |succ n ih=>simp only [fE,ih,SC,s_]
theorem afi {α β:Type}{f:α->List β}{l:List α}{k:Nat}{x:α}(hk:l[k]? =Option.some x):l.flatMap f=(l.take k).flatMap f++(f x++(l.drop (k+1)).flatMap f):=by
 have⟨hl,hg⟩:=bJ.1 hk
 conv=>lhs;rw [<-wN k l,zy hl,hg]
 simp [List.flatMap_append]
theorem arB {α β:Type}{f:α->List β}{l:List α}{k:Nat}{y:α}(hk:k<l.length):(l.set k y).flatMap f=(l.take k).flatMap f++(f y++(l.drop (k+1)).flatMap f):=by
 have h1:(l.set k y)[k]? =Option.some y:=by rw [vD hk]
 rw [afi h1,List.take_set,List.drop_set];rw [ar (by omega),Sq (by rw [km];omega)]
end
end Go.AS
namespace Go.Proofs.YtjggeoghlicmdaaGreat
open Go Go.AS Go.RowKit
section
abbrev P (i:Nat):Value:=.pointer (some ⟨i,0,none⟩)
abbrev I (n:Int):Value:=.int .i64 n
variable {H:aa} {R:Value->aa->Prop}
theorem NS {v n:Int}(hn:1<=n)(hl:n<=4611686018427387904)(hR:R (I (v % n)) H):CA en F.F9 [I v,I n] H R:=by
 apply azL;refine bl (by simp;omega) ⟨by unfold nz;omega,?_⟩;have hb:(v.tmod n).natAbs<n.natAbs:=by
  rw [Int.natAbs_tmod];exact FB _ (by omega)
 have h1:v % n=if v.tmod n<0 then v.tmod n+n else v.tmod n:=by
  have e1:=Int.tmod_add_mul_tdiv v n;split
  ·rename_i h
   have:v % n=(v.tmod n+n) % n:=by
    conv=>lhs;rw [<-e1]
    rw [Int.add_mul_emod_self_left,Int.add_emod_right]
   rw [this];exact Int.emod_eq_of_lt (by omega) (by omega)
  ·rename_i h
   have:v % n=(v.tmod n) % n:=by
    conv=>lhs;rw [<-e1]
    rw [Int.add_mul_emod_self_left]
   rw [this];exact Int.emod_eq_of_lt (by omega) (by omega)
 rw [h1] at hR;refine aI (λh=>?_) λh=>?_
 ·simp only [gf] at h;rw [ar h] at hR;rw [wrap_i64 (by omega)];exact hR
 ·simp only [jF] at h;rw [an h] at hR;exact hR
end
section
structure bz where
 h:Int
 b:Nat
 born:Nat
 ws:List (BitVec 64)
structure Sm where
 mp:Nat
 cl:Nat
 bp:List bz
 made:Int
 room:Int
 count:Int
 dY:Int
def bz.cells (r:bz):List Value:=r.ws.map W
def bz.gG (r:bz):MapEntry:=AS.gG bz.h (λr=>.slice (some ⟨r.b,0,none⟩) r.ws.length 0) bz.born .i64 r
def Sm.base (S:Sm):List Value:=[.map (some S.mp),.int .i64 S.made,.int .i64 S.room,.int .i64 S.count,.int .i64 S.dY]
def Sm.bR (S:Sm)(m:Nat):List Nat:=m::S.mp::S.bp.map bz.b
def Sm.find (S:Sm)(h:Int):Option bz:=S.bp.find? λr=>r.h==h
def Sm.size (S:Sm)(h:Int):Nat:=match S.find h with|some r=>r.ws.length|none=>0
structure dJ (H:aa)(m:Nat)(S:Sm):Prop where
 base:H.get m=some (.cells true 0 S.base)
 map:H.get S.mp=some (.map (S.bp.map bz.gG) S.cl)
 rows:∀r∈S.bp,H.get r.b=some (.cells true 1 r.cells)
 nodup:(S.bR m).Nodup
 lt:∀j∈S.bR m,j<H.next
 keys:(S.bp.map bz.h).Nodup
variable {H:aa} {m:Nat} {S:Sm} {R:Value->aa->Prop}
theorem dJ.JL (hm:dJ H m S){H':aa}{X:List Nat}(hf:aX X H H')(hx:∀j∈S.bR m,j∉X):dJ H' m S:=by
 have g:∀j∈S.bR m,H'.get j=H.get j:=λj hj=>hf.2 j (hm.lt j hj) (hx j hj)
 refine ⟨?_,?_,λr hr=>?_,hm.nodup,λj hj=>De (hm.lt j hj) hf.1,hm.keys⟩
 ·rw [g m (by simp [Sm.bR]),hm.base]
 ·rw [g S.mp (by simp [Sm.bR]),hm.map]
 ·rw [g r.b (by simp only [Sm.bR,dU,cL];exact .inr (.inr ⟨r,hr,rfl⟩)),hm.rows r hr]
theorem dJ.O8 (hm:dJ H m S){H':aa}(hf:aX [] H H'):dJ H' m S:=hm.JL hf (by simp)
theorem dJ.E3 (hm:dJ H m S){S':Sm}(h1:S'.mp=S.mp)(h2:S'.cl=S.cl)(h3:S'.bp=S.bp):dJ (H.set m (.cells true 0 S'.base)) m S':=by
 have hn:=hm.nodup;simp only [Sm.bR,l_,dU,cL,not_or,Nu,not_and] at hn;have Kj:S'.bR m=S.bR m:=by simp [Sm.bR,h1,h3]
 refine ⟨uT _ _ _,?_,λr hr=>?_,by rw [Kj];exact hm.nodup,λj hj=>by rw [rG];exact hm.lt j (by rw [<-Kj];exact hj),by rw [h3];exact hm.keys⟩
 ·rw [h1,h2,h3,oL (x7 hn.1.1),hm.map]
 ·rw [h3] at hr;rw [oL (λe=>hn.1.2 r hr e),hm.rows r hr]
theorem arx (S:Sm)(h:Int):(S.bp.findIdx? λa=>a.h==h).bind (λj=>S.bp[j]?)=S.find h:=by
 unfold Sm.find
 induction S.bp with
 |nil=>rfl
 |cons r l ih=>
  rw [SE,List.find?_cons];cases hr:r.h==h with
  |true=>simp
  |false=>
   simp only [Iq,Bb];rw [<-ih,Option.bind_map]
   congr 1
theorem dJ.sH (hm:dJ H m S)(h:Int):∃r,AS.sH H (.int .i64) (some S.mp) (I h)=some r/\
  (match S.find h with
   |some q=>∃j,r=some (j,.slice (some ⟨q.b,0,none⟩) q.ws.length 0)
   |none=>r=none):=by
 unfold AS.sH;rw [ae1 hm.map];simp only [bP];have e:=O1 bz.h (λr=>Value.slice (some ⟨r.b,0,none⟩) r.ws.length 0) bz.born .i64 h S.bp 0;refine ⟨_,e,?_⟩;rw [<-arx];cases hx:S.bp.findIdx? λa=>a.h==h with
 |none=>simp
 |some j=>
  have hj:j<S.bp.length:=(List.findIdx?_eq_some_iff_getElem.1 hx).1;simp only [bP,cM hj,fa,zr];exact ⟨0+j,rfl⟩
def addrOf:Option bz->Option Addr
 |some q=>some ⟨q.b,0,none⟩
 |none=>none
def lenOf:Option bz->Nat
 |some q=>q.ws.length
 |none=>0
theorem dJ.look (hm:dJ H m S)(h:Int){K:Option (Nat×Value)->Option Addr->Nat->Prop}(k:∀r:Option (Nat×Value),r.isSome=(S.find h).isSome->K r (addrOf (S.find h)) (lenOf (S.find h))) :
  ∃r,AS.sH H (.int .i64) (some S.mp) (I h)=some r/\∃a l,gO r (.slice none 0 0) (.slice a l 0)/\K r a l:=by
 have⟨r,h1,h2⟩:=hm.sH h;refine ⟨r,h1,addrOf (S.find h),lenOf (S.find h),?_,?_⟩
 ·cases hf:S.find h with
  |none=>rw [hf] at h2;simp only at h2;subst h2;rfl
  |some q=>rw [hf] at h2;obtain ⟨j,rfl⟩:=h2;rfl
 ·refine k r ?_;cases hf:S.find h with
  |none=>rw [hf] at h2;simp only at h2;subst h2;rfl
  |some q=>rw [hf] at h2;obtain ⟨j,rfl⟩:=h2;rfl
theorem Gk {h:Int}{q:bz}(hf:S.find h=some q):q∈S.bp/\q.h=h:=by
 unfold Sm.find at hf;exact ⟨List.mem_of_find?_eq_some hf,by simpa using List.find?_some hf⟩
def Sm.dt (S:Sm)(h:Int)(i:Nat)(w:BitVec 64):Sm:={S with bp:=S.bp.map λr=>if r.h=h then {r with ws:=r.ws.set i w} else r}
theorem ZG (S:Sm)(m:Nat)(h:Int)(i:Nat)(w:BitVec 64):(S.dt h i w).bR m=S.bR m:=by
 simp only [Sm.bR,Sm.dt,Il]
 congr 2
 refine M9 λr _=>?_
 simp only [Function.comp];split<;>rfl
theorem dJ.setRow (hm:dJ H m S){h:Int}{q:bz}(hf:S.find h=some q)(i:Nat)(w:BitVec 64):dJ (H.set q.b (.cells true 1 ((q.ws.set i w).map W))) m (S.dt h i w):=by
 obtain ⟨hq,rfl⟩:=Gk hf;have hn:=hm.nodup;simp only [Sm.bR,l_,dU,cL,not_or,Nu,not_and] at hn;have auR:∀r∈S.bp,r.h=q.h->r=q:=by
  intro r hr e
  have:=hm.keys
  rw [List.nodup_iff_pairwise_ne] at this;obtain ⟨a,ha,rfl⟩:=zw.1 hr;obtain ⟨b,hb,rfl⟩:=zw.1 hq;by_cases tM:a=b
  ·subst tM;rfl
  ·exfalso;rw [Sn] at this;rcases SG tM with h1|h1
   ·exact this a b (by simpa using ha) (by simpa using hb) h1 (by simpa using e)
   ·exact this b a (by simpa using hb) (by simpa using ha) h1 (by simpa using e.symm)
 have ap0:∀r∈S.bp,r.b=q.b->r=q:=by
  intro r hr e
  have:=hn.2.2
  rw [List.nodup_iff_pairwise_ne] at this;obtain ⟨a,ha,rfl⟩:=zw.1 hr;obtain ⟨b,hb,rfl⟩:=zw.1 hq;by_cases tM:a=b
  ·subst tM;rfl
  ·exfalso;rw [Sn] at this;rcases SG tM with h1|h1
   ·exact this a b (by simpa using ha) (by simpa using hb) h1 (by simpa using e)
   ·exact this b a (by simpa using hb) (by simpa using ha) h1 (by simpa using e.symm)
 refine ⟨?_,?_,λr hr=>?_,by rw [ZG];exact hm.nodup,λj hj=>by rw [rG];exact hm.lt j (by rw [ZG] at hj;exact hj),?_⟩
 ·rw [oL (λe=>hn.1.2 q hq e.symm),hm.base];rfl
 ·have e1:(S.dt q.h i w).bp.map bz.gG=S.bp.map bz.gG:=by
   simp only [Sm.dt,Il];refine M9 λr _=>?_
   simp only [Function.comp];split
   ·simp [bz.gG,AS.gG]
   ·rfl
  rw [e1];show (H.set q.b _).get S.mp=some (.map _ S.cl);rw [oL (λe=>hn.2.1 q hq e.symm),hm.map]
 ·simp only [Sm.dt,cL] at hr;obtain ⟨r0,h0,rfl⟩:=hr;by_cases e:r0.h=q.h
  ·rw [ar e];obtain rfl:=auR r0 h0 e;exact uT _ _ _
  ·rw [an e]
   have:r0.b≠q.b:=λe'=>e (by rw [ap0 r0 h0 e'])
   rw [oL this,hm.rows r0 h0]
 ·have e1:(S.dt q.h i w).bp.map bz.h=S.bp.map bz.h:=by
   simp only [Sm.dt,Il];refine M9 λr _=>?_
   simp only [Function.comp];split<;>rfl
  rw [e1];exact hm.keys
def wr (n:Int):Int:=IntKind.i64.wrap n
def Sm.ay (S:Sm):Sm:={S with count:=wr (S.count+1)}
def Sm.acc (S:Sm)(h i:Int)(may:Bool)(f:BitVec 64->BitVec 64):(BitVec 64×Bool)×Sm:=
 match S.find h with
 |some r=>if may=true/\0<=i/\i<r.ws.length then ((r.ws.getD i.toNat 0,true),S.ay.dt h i.toNat (f (r.ws.getD i.toNat 0))) else ((0,false),{S.ay with dY:=wr (S.dY+1)})
 |none=>((0,false),{S.ay with dY:=wr (S.dY+1)})
theorem ao3 (S:Sm)(m:Nat)(h i:Int)(may:Bool)(f:BitVec 64->BitVec 64):(S.acc h i may f).2.bR m=S.bR m:=by
 unfold Sm.acc;split
 ·split
  ·rw [ZG];rfl
  ·rfl
 ·rfl
def Iv (H:aa)(X:List Nat)(k:Nat)(fs cs:List Value)(f:BitVec 64->BitVec 64):Prop:=
 (∃fn,en.fn k=some fn)/\∀H1 w,aX X H H1->CA en k (fs++[W w]++cs) H1 λv H2=>v=W (f w)/\aX [] H1 H2
theorem N1 (hm:dJ H m S){h i:Int}{may:Bool}{k:Nat}{fs cs:List Value}{f:BitVec 64->BitVec 64}(hd:Iv H [m] k fs cs f)
  (hR:∀H',dJ H' m (S.acc h i may f).2->aX (S.bR m) H H'->R (.tuple #[W (S.acc h i may f).1.1,.bool (S.acc h i may f).1.2]) H') :
  CA en F.xV [P m,I h,I i,.bool may,.func (.func k) ⟨fs⟩ ⟨cs⟩] H R:=by
 apply alR;simp only [uI,cG];refine ⟨S.count,by rw [cell_of hm.base];rfl,?_⟩;refine xW hm.base (by simp [Sm.base]) λH1 e1=>?_
 have gk:dJ H1 m S.ay:=e1▸hm.E3 (S':=S.ay) rfl rfl rfl;have BS:aX [m] H H1:=e1▸(aX.refl _ _).set _ (by simp);clear e1;refine ⟨some S.mp,by rw [cell_of gk.base];rfl,?_⟩;refine gk.look h λr hr=>?_
 have as0:S.ay.find h=S.find h:=rfl;rw [as0];have bad:(S.acc h i may f)=((0,false),{S.ay with dY:=wr (S.dY+1)})->∃bC,H1.cell m 4=some (I bC)/\aq H1 m 4 [I (IntKind.i64.wrap (bC+1))] λgv=>R (.tuple #[.int .u64 0,.bool false]) gv:=by
  intro e;refine ⟨S.dY,by rw [cell_of gk.base];rfl,?_⟩;refine RW gk.base (by simp [Sm.base]) ?_
  have:=hR (H1.set m (.cells true 0 (setAt S.ay.base 4 [I (IntKind.i64.wrap (S.dY+1))])))
  rw [e] at this;refine this ?_ ?_
  ·exact gk.E3 (S':={S.ay with dY:=wr (S.dY+1)}) rfl rfl rfl
  ·exact (BS.mono (by simp [Sm.bR])).set _ (by simp [Sm.bR])
 cases may with
 |false=>exact bad (by unfold Sm.acc;split<;>simp)
 |true=>
  simp only [Ii,cQ];refine aI (λhi=>bad ?_) λhi=>?_
  ·simp only [gf] at hi;unfold Sm.acc;split
   ·rw [an (by omega)]
   ·rfl
  refine aI (λhl=>bad ?_) λhl=>?_
  ·simp only [gf,ge_iff_le] at hl;unfold Sm.acc;cases hf:S.find h with
   |none=>rfl
   |some q=>rw [hf] at hl;simp only [lenOf] at hl;simp only;rw [an (by omega)]
  simp only [jF,ge_iff_le] at hi hl;cases hf:S.find h with
  |none=>rw [hf] at hl;simp only [lenOf] at hl;omega
  |some q=>
   rw [hf] at hl;simp only [lenOf] at hl;simp only [lenOf,addrOf,I3,apr];have hq:=(Gk hf).1;have aE:i.toNat<q.ws.length:=by omega
   refine ⟨⟨by omega,by omega⟩,((q.ws.getD i.toNat 0).toNat:Int),?_,hd.1,?_⟩
   ·rw [cell_of (gk.rows q hq)];simp [bz.cells,aE,gu]
   ·refine (hd.2 H1 (q.ws.getD i.toNat 0) BS).mono ?_;rintro v H2 ⟨rfl,Gn⟩;refine ⟨_,rfl,⟨by omega,by omega⟩,?_⟩;have hm2:=gk.O8 Gn;refine RW (hm2.rows q hq) (by simp [bz.cells];omega) ?_;have aeV:S.acc h i true f=((q.ws.getD i.toNat 0,true),S.ay.dt h i.toNat (f (q.ws.getD i.toNat 0))):=by
     unfold Sm.acc;rw [hf];simp only;rw [ar (by refine ⟨?_,by omega,by omega⟩;trivial)]
    have sF:=hm2.setRow (h:=h) hf i.toNat (f (q.ws.getD i.toNat 0))
    have:=hR _ (by rw [aeV];exact sF) (by
     refine ((BS.mono (by simp [Sm.bR])).trans Gn (by simp)).set _ ?_;left;simp only [Sm.bR,dU,cL];exact .inr (.inr ⟨q,hq,rfl⟩))
    rw [aeV] at this;have aqX:setAt q.cells (0+i.toNat*1) [W (f (q.ws.getD i.toNat 0))]=(q.ws.set i.toNat (f (q.ws.getD i.toNat 0))).map W:=by
     simp [setAt,bz.cells,zC]
    rw [aqX];exact this
def under (w mask v:BitVec 64):BitVec 64:=(w&&& ~~~mask)|||(v&&&mask)
theorem ZD {w mask v:BitVec 64}(hR:R (W (under w mask v)) H):CA en F.Mw [W w,W mask,W v] H R:=by
 apply aB1;simp only [rI,M4];exact hR
theorem avj (X:List Nat):Iv H X F.Zq [] [] id:=
 ⟨dG.1 (by kernel_rfl),λH1 w _=>by
  apply aBT
  exact ⟨rfl,aX.refl _ _⟩⟩
theorem anU (hm:dJ H m S){h i:Int}
  (hR:∀H',dJ H' m (S.acc h i true id).2->aX (S.bR m) H H'->R (.tuple #[W (S.acc h i true id).1.1,.bool (S.acc h i true id).1.2]) H') :
  CA en F.pV [P m,I h,I i] H R:=by
 apply aBS;refine N1 hm (avj _) λH' lS fr=>?_
 exact ⟨_,_,rfl,hR H' lS fr⟩
theorem ax0 {X:List Nat}{b1 b2:Nat}{mask v:BitVec 64}(h1:H.get b1=some (.cells true 0 [W mask]))(h2:H.get b2=some (.cells true 0 [W v]))(l1:b1<H.next)(l2:b2<H.next)(n1:b1∉X)(n2:b2∉X) :
  Iv H X F.Zt [] [P b1,P b2] λw=>under w mask v:=
 ⟨dG.1 (by kernel_rfl),λH1 w fr=>by
  apply aBZ
  simp only [uI]
  refine ⟨mask.toNat,by rw [cell_of (by rw [fr.2 _ l1 n1];exact h1)];rfl,v.toNat,by rw [cell_of (by rw [fr.2 _ l2 n2];exact h2)];rfl,?_⟩
  refine ZD ⟨_,rfl,rfl,aX.refl _ _⟩⟩
theorem aoc (hm:dJ H m S){h i:Int}{mask v:BitVec 64}
  (hR:∀H',dJ H' m (S.acc h i true λw=>under w mask v).2->aX (S.bR m) H H'->R (.tuple #[W (S.acc h i true λw=>under w mask v).1.1,.bool (S.acc h i true λw=>under w mask v).1.2]) H') :
  CA en F.Zs [P m,I h,I i,W mask,W v] H R:=by
 apply aBY;have fr:aX [] H ((H.new (.cells true 0 [W mask])).new (.cells true 0 [W v])):=((aX.refl _ _).new _).new _;have gk:=hm.O8 fr;have aW:∀j∈[m],j<H.next:=by
  intro j hj;simp only [fo] at hj;subst hj;exact hm.lt _ (by simp [Sm.bR])
 refine N1 gk (ax0 (mask:=mask) (v:=v) ?_ ?_ ?_ ?_ ?_ ?_) λH' lS qt=>?_
 ·rw [uS (by simp [iN]),nm]
 ·rw [nm]
 ·simp only [iN];omega
 ·simp only [iN];omega
 ·intro hx;have:=aW _ hx;omega
 ·intro hx;have:=aW _ hx;simp only [iN] at this;omega
 ·exact ⟨_,_,rfl,hR H' lS ((aX.mono (S':=S.bR m) fr (by simp)).trans qt λj hj=>.inl hj)⟩
theorem anY (hm:dJ H m S){h i:Int}{mask v:BitVec 64}
  (hR:∀H',dJ H' m (S.acc h i true λw=>under w mask v).2->aX (S.bR m) H H'->R (.bool (S.acc h i true λw=>under w mask v).1.2) H') :
  CA en F.Zr [P m,I h,I i,W mask,W v] H R:=by
 apply aBU;exact aoc hm λH' lS qt=>⟨_,_,rfl,hR H' lS qt⟩
theorem ab1:(18446744073709551615:Int)=((BitVec.allOnes 64).toNat:Int):=by decide
theorem als (w v:BitVec 64):under w (BitVec.allOnes 64) v=v:=by
 unfold under;rw [BitVec.not_allOnes,BitVec.and_zero,BitVec.zero_or,aaA]
theorem aob (hm:dJ H m S){h i:Int}{v:BitVec 64}
  (hR:∀H',dJ H' m (S.acc h i true λ_=>v).2->aX (S.bR m) H H'->R (.bool (S.acc h i true λ_=>v).1.2) H') :
  CA en F.y0 [P m,I h,I i,W v] H R:=by
 apply aBX;rw [ab1];refine anY hm λH' lS qt=>⟨_,rfl,?_⟩
 simp only [als] at lS⊢;exact hR H' lS qt
def jd (mask old v w:BitVec 64):BitVec 64:=if (w ^^^ old)&&&mask=0 then under w mask v else w
theorem aqj {X:List Nat}{b0 b1 b2:Nat}{mask old v:BitVec 64}(h0:H.get b0=some (.cells true 0 [W old]))(h1:H.get b1=some (.cells true 0 [W mask]))(h2:H.get b2=some (.cells true 0 [W v]))
  (l0:b0<H.next)(l1:b1<H.next)(l2:b2<H.next)(n0:b0∉X)(n1:b1∉X)(n2:b2∉X) :
  Iv H X F.Zp [] [P b0,P b1,P b2] (jd mask old v):=
 ⟨dG.1 (by kernel_rfl),λH1 w fr=>by
  apply aBM
  simp only [uI]
  refine ⟨old.toNat,by rw [cell_of (by rw [fr.2 _ l0 n0];exact h0)];rfl,mask.toNat,by rw [cell_of (by rw [fr.2 _ l1 n1];exact h1)];rfl,?_⟩
  simp only [rI,M4]
  have e0:(0:Int)=(((0:BitVec 64).toNat:Nat):Int):=rfl
  rw [e0,Ud]
  refine aI (λh=>?_) λh=>?_
  ·refine ⟨?_,aX.refl _ _⟩
   unfold jd
   rw [an (by simpa using h)]
  ·refine ⟨mask.toNat,by rw [cell_of (by rw [fr.2 _ l1 n1];exact h1)];rfl,v.toNat,by rw [cell_of (by rw [fr.2 _ l2 n2];exact h2)];rfl,?_⟩
   refine ZD ⟨_,rfl,?_,aX.refl _ _⟩
   unfold jd
   rw [ar (by simpa using h)]⟩
theorem amQ (hm:dJ H m S){h i:Int}{mask old v:BitVec 64}
  (hR:∀H',dJ H' m (S.acc h i true (jd mask old v)).2->aX (S.bR m) H H'->R (.tuple #[W (S.acc h i true (jd mask old v)).1.1,.bool (S.acc h i true (jd mask old v)).1.2]) H') :
  CA en F.HQ [P m,I h,I i,W mask,W old,W v] H R:=by
 apply aBL;have fr:aX [] H (((H.new (.cells true 0 [W mask])).new (.cells true 0 [W old])).new (.cells true 0 [W v])):=(((aX.refl _ _).new _).new _).new _;have gk:=hm.O8 fr;have aW:∀j∈[m],j<H.next:=by
  intro j hj;simp only [fo] at hj;subst hj;exact hm.lt _ (by simp [Sm.bR])
 refine N1 gk (aqj (mask:=mask) (old:=old) (v:=v) ?_ ?_ ?_ ?_ ?_ ?_ ?_ ?_ ?_) λH' lS qt=>?_
 ·rw [uS (by simp [iN]),nm]
 ·rw [uS (by simp [iN];omega),uS (by simp [iN]),nm]
 ·rw [nm]
 ·simp only [iN];omega
 ·simp only [iN];omega
 ·simp only [iN];omega
 ·intro hx;have:=aW _ hx;simp only [iN] at this;omega
 ·intro hx;have:=aW _ hx;omega
 ·intro hx;have:=aW _ hx;simp only [iN] at this;omega
 ·exact ⟨_,_,rfl,hR H' lS ((aX.mono (S':=S.bR m) fr (by simp)).trans qt λj hj=>.inl hj)⟩
def N7 (op:Int)(a b:BitVec 64):BitVec 64:=if op=0 then a+b else if op=64 then a|||b else if op=80 then a&&&b else a ^^^ b
def isAtomic (op:Int):Bool:=op==0||op==80||op==64||op==160
def lz (op:Int)(mask v w:BitVec 64):BitVec 64:=under w mask (N7 op (w&&&mask) (v&&&mask))
theorem apc {op:Int}(ho:isAtomic op=true){a b:BitVec 64}(hR:R (.tuple #[W (N7 op a b),.bool true]) H):CA en F.Z0 [I op,.bool true,W a,W b] H R:=by
 have h4:op=0∨op=80∨op=64∨op=160:=by simpa [isAtomic,or_assoc] using ho
 apply aB2;have aqT:(op==192)=false:=by rcases h4 with rfl|rfl|rfl|rfl<;>rfl
 rw [aqT];simp only [cQ,bQ];apply aB3;refine ⟨show (64:Int)≠0 by decide,?_⟩;rcases h4 with rfl|rfl|rfl|rfl
 ·simp only [show ((0:Int)==0)=true from rfl,bQ];refine ⟨_,_,rfl,?_⟩;rw [wrap_u64,ofInt_add,rI,rI];exact hR
 ·simp only [show ((80:Int)==0)=false from rfl,show ((80:Int)==16)=false from rfl,show ((80:Int)==32)=false from rfl,show ((80:Int)==48)=false from rfl,show ((80:Int)==144)=false from rfl,show ((80:Int)==64)=false from rfl,show ((80:Int)==80)=true from rfl,bQ,cQ];refine ⟨_,_,rfl,?_⟩;simp only [wrap_u64,rI];exact hR
 ·simp only [show ((64:Int)==0)=false from rfl,show ((64:Int)==16)=false from rfl,show ((64:Int)==32)=false from rfl,show ((64:Int)==48)=false from rfl,show ((64:Int)==144)=false from rfl,show ((64:Int)==64)=true from rfl,bQ,cQ];refine ⟨_,_,rfl,?_⟩;simp only [wrap_u64,rI];exact hR
 ·simp only [show ((160:Int)==0)=false from rfl,show ((160:Int)==16)=false from rfl,show ((160:Int)==32)=false from rfl,show ((160:Int)==48)=false from rfl,show ((160:Int)==144)=false from rfl,show ((160:Int)==64)=false from rfl,show ((160:Int)==80)=false from rfl,show ((160:Int)==160)=true from rfl,bQ,cQ];refine ⟨_,_,rfl,?_⟩;simp only [wrap_u64,rI];exact hR
theorem arv {X:List Nat}{b0 b1 b2:Nat}{op:Int}{mask v:BitVec 64}(ho:isAtomic op=true)(h0:H.get b0=some (.cells true 0 [I op]))(h1:H.get b1=some (.cells true 0 [W mask]))(h2:H.get b2=some (.cells true 0 [W v]))
  (l0:b0<H.next)(l1:b1<H.next)(l2:b2<H.next)(n0:b0∉X)(n1:b1∉X)(n2:b2∉X) :
  Iv H X F.E8 [] [P b0,P b1,P b2] (lz op mask v):=
 ⟨dG.1 (by kernel_rfl),λH1 w fr=>by
  have c0:H1.cell b0 0=some (I op):=by rw [cell_of (by rw [fr.2 _ l0 n0];exact h0)];rfl
  have c1:H1.cell b1 0=some (W mask):=by rw [cell_of (by rw [fr.2 _ l1 n1];exact h1)];rfl
  have c2:H1.cell b2 0=some (W v):=by rw [cell_of (by rw [fr.2 _ l2 n2];exact h2)];rfl
  apply aBP;simp only [uI];refine ⟨_,c0,_,c1,_,c2,_,c1,?_⟩;simp only [rI,M4];refine apc ho ⟨_,_,rfl,_,c1,?_⟩;exact ZD ⟨_,rfl,rfl,aX.refl _ _⟩⟩
theorem ao5 (hm:dJ H m S){h i:Int}{k:Nat}{fs cs:List Value}(f:BitVec 64->BitVec 64)
  (hR:∀H',dJ H' m (S.acc h i false f).2->aX (S.bR m) H H'->R (.tuple #[W (S.acc h i false f).1.1,.bool (S.acc h i false f).1.2]) H') :
  CA en F.xV [P m,I h,I i,.bool false,.func (.func k) ⟨fs⟩ ⟨cs⟩] H R:=by
 apply alR;simp only [uI,cG];refine ⟨S.count,by rw [cell_of hm.base];rfl,?_⟩;refine xW hm.base (by simp [Sm.base]) λH1 e1=>?_
 have gk:dJ H1 m S.ay:=e1▸hm.E3 (S':=S.ay) rfl rfl rfl;have BS:aX [m] H H1:=e1▸(aX.refl _ _).set _ (by simp);clear e1;refine ⟨some S.mp,by rw [cell_of gk.base];rfl,?_⟩;refine gk.look h λr hr=>?_
 have e:(S.acc h i false f)=((0,false),{S.ay with dY:=wr (S.dY+1)}):=by unfold Sm.acc;split<;>simp
 simp only [Bool.not_false,bQ];refine ⟨S.dY,by rw [cell_of gk.base];rfl,?_⟩;refine RW gk.base (by simp [Sm.base]) ?_
 have:=hR (H1.set m (.cells true 0 (setAt S.ay.base 4 [I (IntKind.i64.wrap (S.dY+1))])))
 rw [e] at this;refine this ?_ ?_
 ·exact gk.E3 (S':={S.ay with dY:=wr (S.dY+1)}) rfl rfl rfl
 ·exact (BS.mono (by simp [Sm.bR])).set _ (by simp [Sm.bR])
theorem amS (hm:dJ H m S){h i op:Int}{mask v:BitVec 64}
  (hR:∀H',dJ H' m (S.acc h i (isAtomic op) (lz op mask v)).2->aX (S.bR m) H H'->R (.tuple #[W (S.acc h i (isAtomic op) (lz op mask v)).1.1,.bool (S.acc h i (isAtomic op) (lz op mask v)).1.2]) H') :
  CA en F.xU [P m,I h,I i,I op,W mask,W v] H R:=by
 apply aBO;have fr:aX [] H (((H.new (.cells true 0 [I op])).new (.cells true 0 [W mask])).new (.cells true 0 [W v])):=(((aX.refl _ _).new _).new _).new _;have gk:=hm.O8 fr;have aW:∀j∈[m],j<H.next:=by
  intro j hj;simp only [fo] at hj;subst hj;exact hm.lt _ (by simp [Sm.bR])
 have g0:(((H.new (.cells true 0 [I op])).new (.cells true 0 [W mask])).new (.cells true 0 [W v])).get H.next=some (.cells true 0 [I op]):=by
  rw [uS (by simp [iN];omega),uS (by simp [iN]),nm]
 have g1:(((H.new (.cells true 0 [I op])).new (.cells true 0 [W mask])).new (.cells true 0 [W v])).get (H.new (.cells true 0 [I op])).next=some (.cells true 0 [W mask]):=by
  rw [uS (by simp [iN]),nm]
 have g2:(((H.new (.cells true 0 [I op])).new (.cells true 0 [W mask])).new (.cells true 0 [W v])).get ((H.new (.cells true 0 [I op])).new (.cells true 0 [W mask])).next=some (.cells true 0 [W v]):=nm _ _;have c0:(((H.new (.cells true 0 [I op])).new (.cells true 0 [W mask])).new (.cells true 0 [W v])).cell H.next 0=some (I op):=by rw [cell_of g0];rfl
 have out:∀may,may=isAtomic op->CA en F.xV [P m,I h,I i,.bool may,.func (.func F.E8) #[] #[P H.next,P (H.new (.cells true 0 [I op])).next,P ((H.new (.cells true 0 [I op])).new (.cells true 0 [W mask])).next]]
   (((H.new (.cells true 0 [I op])).new (.cells true 0 [W mask])).new (.cells true 0 [W v])) λv1 H2=>∃n4 b5,v1=Value.tuple #[.int .u64 n4,.bool b5]/\R (.tuple #[.int .u64 n4,.bool b5]) H2:=by
  rintro may rfl;cases ho:isAtomic op with
  |true=>
   refine N1 gk (arv (op:=op) (mask:=mask) (v:=v) ho g0 g1 g2 ?_ ?_ ?_ ?_ ?_ ?_) λH' lS qt=>?_
   ·simp only [iN];omega
   ·simp only [iN];omega
   ·simp only [iN];omega
   ·intro hx;have:=aW _ hx;omega
   ·intro hx;have:=aW _ hx;simp only [iN] at this;omega
   ·intro hx;have:=aW _ hx;simp only [iN] at this;omega
   ·have:=hR H'
    rw [ho] at this;exact ⟨_,_,rfl,this lS ((aX.mono (S':=S.bR m) fr (by simp)).trans qt λj hj=>.inl hj)⟩
  |false=>
   refine ao5 gk (lz op mask v) λH' lS qt=>?_
   have:=hR H'
   rw [ho] at this;exact ⟨_,_,rfl,this lS ((aX.mono (S':=S.bR m) fr (by simp)).trans qt λj hj=>.inl hj)⟩
 refine ⟨_,c0,aI (λh0=>out true ?_) λh0=>⟨_,c0,aI (λh1=>out true ?_) λh1=>⟨_,c0,aI (λh2=>out true ?_) λh2=>⟨_,c0,out _ ?_⟩⟩⟩⟩
 ·simp [isAtomic,h0]
 ·simp [isAtomic,h1]
 ·simp [isAtomic,h2]
 ·simp [isAtomic,h0,h1,h2]
theorem anZ {room:Int}(hR:∀H' m mp,H.next<=m->dJ H' m ⟨mp,0,[],0,if (if 65536<room then 65536 else room)>0 then (if 65536<room then 65536 else room) else 0,0,0⟩->aX [] H H'->H.next<=mp->R (P m) H') :
  CA en F.RS [I room] H R:=by
 apply aB0;refine hR _ (H.new (.map [] 0)).next H.next (by simp [iN]) ⟨?_,?_,by simp,?_,?_,by simp⟩ (((aX.refl _ _).new _).new _) (bq _)
 ·rw [nm];rfl
 ·rw [uS (by simp [iN]),nm];rfl
 ·simp [Sm.bR,iN]
 ·intro j hj;simp only [Sm.bR,FA,dU,Ib,Db,iN] at hj⊢;omega
theorem amK (hm:dJ H m S)(hR:R (I S.dY) H):CA en F.RP [P m] H R:=by
 apply aBK;simp only [uI,cG];exact ⟨_,by rw [cell_of hm.base];rfl,hR⟩
theorem amR (hm:dJ H m S)(hR:R (I S.count) H):CA en F.E7 [P m] H R:=by
 apply aBN;simp only [uI,cG];exact ⟨_,by rw [cell_of hm.base];rfl,hR⟩
theorem an9 (hm:dJ H m S)(hR:R (I S.room) H):CA en F.RQ [P m] H R:=by
 apply aBV;simp only [uI,cG];exact ⟨_,by rw [cell_of hm.base];rfl,hR⟩
theorem anT (hm:dJ H m S)(hR:R (I S.bp.length) H):CA en F.Mv [P m] H R:=by
 apply aBR;simp only [uI,cG];refine ⟨some S.mp,by rw [cell_of hm.base];rfl,_,ae1 hm.map,?_⟩;rw [gb];exact hR
theorem an_ (hm:dJ H m S){h:Int}(hR:R (I (S.size h)) H):CA en F.RR [P m,I h] H R:=by
 apply aBW;simp only [uI,cG];refine ⟨some S.mp,by rw [cell_of hm.base];rfl,?_⟩;refine hm.look h (K:=λ_ _ l=>R (I l) H) λr hr=>?_
 have:lenOf (S.find h)=S.size h:=by unfold Sm.size lenOf;split<;>rfl
 rw [this];exact hR
theorem awR (n:Nat)(v:Value):fE n [v]=List.replicate n v:=by
 induction n with
 |zero=>rfl
 |succ n ih=>simp [fE,SC,ih]
def Sm.mk' (S:Sm)(b:Nat)(n:Nat):Sm:=
 {S with made:=wr (S.made+1),room:=wr (S.room - n),cl:=S.cl+1,bp:=S.bp++[⟨wr (S.made+1),b,S.cl,List.replicate n 0⟩]}
theorem aff {h:Int}(hf:S.find h=none):∀r∈S.bp,r.h≠h:=by
 unfold Sm.find at hf;intro r hr
 have:=SH.1 hf r hr
 simpa using this
theorem anV (hm:dJ H m S){n:Int}(hn:n<1∨65536<n)(hR:R (.tuple #[I 0,I 1]) H):CA en F.wB [P m,I n] H R:=by
 apply ZZ;refine aI (λ_=>hR) λh1=>aI (λ_=>hR) λh2=>?_
 simp only [jF,gt_iff_lt] at h1 h2;omega
theorem anW (hm:dJ H m S){n:Int}(hn:1<=n/\n<=65536)(hr:S.room<n)(hR:R (.tuple #[I 0,I 5]) H):CA en F.wB [P m,I n] H R:=by
 apply ZZ;refine aI (λh1=>?_) λh1=>aI (λh2=>?_) λh2=>?_
 ·simp only [gf] at h1;omega
 ·simp only [gf] at h2;omega
 simp only [uI,cG];refine ⟨S.room,by rw [cell_of hm.base];rfl,?_⟩;refine aI (λ_=>hR) λh3=>?_
 simp only [jF] at h3;omega
theorem anX (hm:dJ H m S){n:Int}(hn:1<=n/\n<=65536)(hr:n<=S.room)(hf:S.find (wr (S.made+1))=none)
  (hR:∀H' b,H.next<=b->dJ H' m (S.mk' b n.toNat)->aX (S.bR m) H H'->R (.tuple #[I (wr (S.made+1)),I 0]) H'):CA en F.wB [P m,I n] H R:=by
 have rD:=hm.nodup;simp only [Sm.bR,l_,dU,cL,not_or,Nu,not_and] at rD;apply ZZ;refine aI (λh1=>?_) λh1=>aI (λh2=>?_) λh2=>?_
 ·simp only [gf] at h1;omega
 ·simp only [gf] at h2;omega
 simp only [uI,cG];refine ⟨S.room,by rw [cell_of hm.base];rfl,?_⟩;refine aI (λh3=>?_) λh3=>?_
 ·simp only [gf] at h3;omega
 refine ⟨S.made,by rw [cell_of hm.base];rfl,?_⟩;refine xW hm.base (by simp [Sm.base]) λH9 e9=>?_
 have Qi:dJ H9 m {S with made:=wr (S.made+1)}:=e9▸hm.E3 (S':={S with made:=wr (S.made+1)}) rfl rfl rfl;have fr9:aX [m] H H9:=e9▸(aX.refl _ _).set _ (by simp);clear e9;refine ⟨S.room,by rw [cell_of Qi.base];rfl,?_⟩;refine xW Qi.base (by simp [Sm.base]) λcz DV=>?_
 have Ca:dJ cz m {S with made:=wr (S.made+1),room:=wr (S.room - n)}:=DV▸Qi.E3 (S':={S with made:=wr (S.made+1),room:=wr (S.room - n)}) rfl rfl rfl;have afu:aX [m] H cz:=DV▸fr9.set _ (by simp);clear DV Qi fr9;have c0:cz.cell m 0=some (.map (some S.mp)):=by rw [cell_of Ca.base];rfl
 have c1:cz.cell m 1=some (I (wr (S.made+1))):=by rw [cell_of Ca.base];rfl
 have aE:m<cz.next:=Ca.lt m (by simp [Sm.bR]);have hmp:S.mp<cz.next:=Ca.lt S.mp (by simp [Sm.bR]);have cn:∀o i,((cz.ae 11).new o).cell m i=cz.cell m i:=by
  intro o i;unfold aa.cell;rw [uS (by rw [yW];omega),O_]
 refine ⟨_,by rw [Oi];exact c0,_,by rw [Oi];exact c1,⟨by omega,Int.le_refl _,by omega⟩,?_⟩;have atu:((cz.ae 11).new (.cells true 1 (fE n.toNat [.int .u64 0]))).get S.mp=some (.map (S.bp.map bz.gG) S.cl):=by
  rw [uS (by rw [yW];omega),O_];exact Ca.map
 have sA:Instr.findNow (.int .i64) (I (wr (S.made+1))) (S.bp.map bz.gG) 0=some none:=by
  have e:=O1 bz.h (λr=>Value.slice (some ⟨r.b,0,none⟩) r.ws.length 0) bz.born .i64 (wr (S.made+1)) S.bp 0;have e2:(S.bp.findIdx? λa=>a.h==wr (S.made+1))=none:=by
   rw [List.findIdx?_eq_none_iff];intro r hr;simpa using aff hf r hr
  rw [e2] at e;exact e
 refine ⟨S.mp,_,_,none,rfl,atu,sA,?_⟩;have nt:dJ (((cz.ae 11).new (.cells true 1 (fE n.toNat [.int .u64 0]))).set S.mp (X6 (S.bp.map bz.gG) S.cl none (I (wr (S.made+1))) (.slice (some ⟨(cz.ae 11).next,0,none⟩) n.toNat 0))) m (S.mk' (cz.ae 11).next n.toNat):=by
  have Kj:(S.mk' (cz.ae 11).next n.toNat).bR m=S.bR m++[(cz.ae 11).next]:=by simp [Sm.bR,Sm.mk']
  have old:∀j∈S.bR m,j<cz.next:=λj hj=>Ca.lt j hj
  refine ⟨?_,?_,λr hr=>?_,?_,λj hj=>?_,?_⟩
  ·rw [oL (λe=>rD.1.1 e),uS (by rw [yW];omega),O_,Ca.base]
   have:((n.toNat:Nat):Int)=n:=by omega
   simp [Sm.base,Sm.mk',this]
  ·show aa.get _ S.mp=_;rw [uT];simp [X6,Sm.mk',bz.gG,AS.gG]
  ·simp only [Sm.mk',dV,fo] at hr;rcases hr with hr|rfl
   ·have hb:r.b<cz.next:=old _ (by simp only [Sm.bR,dU,cL];exact .inr (.inr ⟨r,hr,rfl⟩));rw [oL (λe=>rD.2.1 r hr e),uS (by rw [yW];omega),O_,Ca.rows r hr]
   ·show aa.get _ (cz.ae 11).next=_;rw [oL (by rw [yW];omega),nm,awR];simp [bz.cells]
  ·rw [Kj];refine jG.2 ⟨hm.nodup,by simp,?_⟩;intro a ha b hb;simp only [fo] at hb;subst hb
   have:=old a ha
   rw [yW];omega
  ·rw [Kj] at hj;simp only [dV,fo] at hj;rw [rG,iN];rcases hj with hj|rfl
   ·have:=old j hj;rw [yW];omega
   ·omega
  ·simp only [Sm.mk',fh,lL,FA];refine jG.2 ⟨hm.keys,by simp,?_⟩;intro a ha b hb;simp only [fo] at hb;subst hb;obtain ⟨r,hr,rfl⟩:=cL.1 ha;exact aff hf r hr
 refine ⟨⟨wr (S.made+1),?_,?_⟩,⟨⟨_,by rw [Oi];exact c1,rfl⟩,⟨_,by rw [cn];exact c1,rfl⟩,trivial⟩,⟨⟨_,by rw [Oi];exact c0,rfl⟩,⟨_,by rw [cn];exact c0,rfl⟩,trivial⟩,trivial⟩
 ·rw [cell_of nt.base];rfl
 ·refine hR _ _ ?_ nt ?_
  ·rw [yW];have:=afu.1;omega
  ·exact (((afu.mono (by simp [Sm.bR])).ae 11).new _).set _ (by simp [Sm.bR])
end
section
variable {H H':aa} {m:Nat} {S S':Sm} {R:Value->aa->Prop} {L:List ax}
def mem (m:Nat)(S:Sm):ax:=
 ⟨S.bR m,λH=>H.get m=some (.cells true 0 S.base)/\H.get S.mp=some (.map (S.bp.map bz.gG) S.cl)/\(∀r∈S.bp,H.get r.b=some (.cells true 1 r.cells))/\(S.bp.map bz.h).Nodup,
  λh k=>⟨by rw [h m (by simp [Sm.bR])];exact k.1,by rw [h S.mp (by simp [Sm.bR])];exact k.2.1,λr hr=>by rw [h r.b (by simp only [Sm.bR,dU,cL];exact .inr (.inr ⟨r,hr,rfl⟩))];exact k.2.2.1 r hr,k.2.2.2⟩⟩
theorem vd (h:Sep H (mem m S::L)):dJ H m S:=
 ⟨h.head.1,h.head.2.1,h.head.2.2.1,h.arC,λj hj=>h.D5 hj,h.head.2.2.2⟩
theorem Zg (h:Sep H (mem m S::L))(hm:dJ H' m S')(fr:aX (S.bR m) H H')(hf:∀j∈S'.bR m,j∈S.bR m∨H.next<=j):Sep H' (mem m S'::L):=
 h.dt fr (λj hj=>.inl hj) ⟨hm.base,hm.map,hm.rows,hm.keys⟩ hf hm.nodup hm.lt
theorem RL (h:Sep H (mem m S::L)){a i:Int}{may:Bool}{f:BitVec 64->BitVec 64}(hm:dJ H' m (S.acc a i may f).2)(fr:aX (S.bR m) H H'):Sep H' (mem m (S.acc a i may f).2::L):=
 Zg h hm fr λj hj=>.inl (by rw [ao3] at hj;exact hj)
theorem avk (h:Sep H (mem m S::L)){a i:Int}(hR:∀H',Sep H' (mem m (S.acc a i true id).2::L)->R (.tuple #[W (S.acc a i true id).1.1,.bool (S.acc a i true id).1.2]) H'):CA en F.pV [P m,I a,I i] H R:=
 anU (vd h) λH' hm fr=>hR H' (RL h hm fr)
theorem axY (h:Sep H (mem m S::L)){a i:Int}{v:BitVec 64}
  (hR:∀H',Sep H' (mem m (S.acc a i true λ_=>v).2::L)->R (.bool (S.acc a i true λ_=>v).1.2) H'):CA en F.y0 [P m,I a,I i,W v] H R:=
 aob (vd h) λH' hm fr=>hR H' (RL h hm fr)
theorem aqk (h:Sep H (mem m S::L)){a i:Int}{mask old v:BitVec 64}
  (hR:∀H',Sep H' (mem m (S.acc a i true (jd mask old v)).2::L)->R (.tuple #[W (S.acc a i true (jd mask old v)).1.1,.bool (S.acc a i true (jd mask old v)).1.2]) H'):CA en F.HQ [P m,I a,I i,W mask,W old,W v] H R:=
 amQ (vd h) λH' hm fr=>hR H' (RL h hm fr)
theorem afd (h:Sep H (mem m S::L)){a i op:Int}{mask v:BitVec 64}
  (hR:∀H',Sep H' (mem m (S.acc a i (isAtomic op) (lz op mask v)).2::L)->R (.tuple #[W (S.acc a i (isAtomic op) (lz op mask v)).1.1,.bool (S.acc a i (isAtomic op) (lz op mask v)).1.2]) H') :
  CA en F.xU [P m,I a,I i,I op,W mask,W v] H R:=
 amS (vd h) λH' hm fr=>hR H' (RL h hm fr)
theorem aw0 (h:Sep H (mem m S::L))(hR:R (I S.room) H):CA en F.RQ [P m] H R:=an9 (vd h) hR
theorem aib (h:Sep H (mem m S::L))(hR:R (I S.bp.length) H):CA en F.Mv [P m] H R:=anT (vd h) hR
theorem Jw (h:Sep H (mem m S::L))(hR:R (I S.count) H):CA en F.E7 [P m] H R:=amR (vd h) hR
theorem apS (h:Sep H (mem m S::L))(hR:R (I S.dY) H):CA en F.RP [P m] H R:=amK (vd h) hR
theorem axJ (h:Sep H (mem m S::L)){a:Int}(hR:R (I (S.size a)) H):CA en F.RR [P m,I a] H R:=an_ (vd h) hR
def DO (room:Int):Int:=if (if 65536<room then 65536 else room)>0 then (if 65536<room then 65536 else room) else 0
theorem aev (room:Int):DO room=max 0 (min room 65536):=by unfold DO;split<;>split<;>omega
def mS (mp:Nat)(room:Int):Sm:=⟨mp,0,[],0,DO room,0,0⟩
theorem avZ (h:Sep H L){room:Int}(hR:∀H' m mp,Sep H' (mem m (mS mp room)::L)->R (P m) H'):CA en F.RS [I room] H R:=
 anZ λH' m mp h1 hm fr h2=>hR H' m mp (by
  have h0:Sep H ((⟨[],λ_=>True,λ_ _=>trivial⟩:ax)::L):=⟨λA hA=>by
    rcases dU.1 hA with rfl|hA
    ·trivial
    ·exact h.all A hA,by rw [oK];exact h.nd,λi hi=>h.lt i (by rw [oK] at hi;exact hi)⟩
  refine h0.dt (B:=mem m (mS mp room)) fr (by simp) ⟨hm.base,hm.map,hm.rows,hm.keys⟩ (λj hj=>.inr ?_) hm.nodup hm.lt
  simp only [mem,mS,Sm.bR,FA,dU,Ib,Db] at hj
  omega)
def Sm.make (S:Sm)(b:Nat)(n:Int):(Int×Int)×Sm:=
 if n<1∨65536<n then ((0,1),S) else if S.room<n then ((0,5),S) else ((wr (S.made+1),0),S.mk' b n.toNat)
theorem avs (h:Sep H (mem m S::L)){n:Int}(hf:1<=n->n<=65536->n<=S.room->S.find (wr (S.made+1))=none)
  (hR:∀H' b,Sep H' (mem m (S.make b n).2::L)->R (.tuple #[I (S.make b n).1.1,I (S.make b n).1.2]) H'):CA en F.wB [P m,I n] H R:=by
 by_cases h1:n<1∨65536<n
 ·have:=hR H 0
  unfold Sm.make at this;rw [ar h1] at this;exact anV (vd h) h1 (this h)
 ·by_cases h2:S.room<n
  ·have:=hR H 0
   unfold Sm.make at this;rw [an h1,ar h2] at this;exact anW (vd h) (by omega) h2 (this h)
  ·refine anX (vd h) (by omega) (by omega) (hf (by omega) (by omega) (by omega)) λH' b hb hm fr=>?_
   have:=hR H' b
   unfold Sm.make at this;rw [an h1,an h2] at this;refine this (Zg h hm fr λj hj=>?_);simp only [Sm.bR,Sm.mk',fh,lL,FA,dU,dV,Ib,Db] at hj⊢;rcases hj with rfl|rfl|hj|rfl
   ·exact .inl (.inl rfl)
   ·exact .inl (.inr (.inl rfl))
   ·exact .inl (.inr (.inr hj))
   ·exact .inr hb
def Sm.free (S:Sm)(a:Int):Bool×Sm:=
 ((S.find a).isSome,{S with room:=wr (S.room+S.size a),bp:=S.bp.filter λr=>r.h !=a})
theorem ae9 {α β:Type}(f:α->β):∀(l:List α)(j:Nat),(l.map f).eraseIdx j=(l.eraseIdx j).map f
 |[],_=>rfl
 |_::_,0=>rfl
 |a::l,j+1=>by simp only [lL,Sr,ae9 f l j]
theorem ae8:∀{l:List bz}{a:Int}{j:Nat},(l.map bz.h).Nodup->(l.findIdx? λr=>r.h==a)=some j->l.eraseIdx j=l.filter λr=>r.h !=a
 |[],a,j,_,h=>by simp at h
 |r::l,a,j,hn,h=>by
  rw [SE] at h;simp only [lL,l_] at hn;cases hr:r.h==a with
  |true=>
   rw [hr] at h;simp only [pc,bc] at h;subst h;have ha:r.h=a:=by simpa using hr
   have e:(r.h !=a)=false:=by simp [ha]
   rw [List.eraseIdx_cons_zero,Ni,e];simp only [Iq,Bb];refine (Dg.2 λq hq=>?_).symm;simp only [zi,ne_eq];intro e;exact hn.1 (by rw [ha,<-e];exact cL.2 ⟨q,hq,rfl⟩)
  |false=>
   rw [hr] at h;simp only [Iq,Bb,aas] at h;obtain ⟨k,hk,rfl⟩:=h;have e:(r.h !=a)=true:=by simpa [bne] using hr
   rw [Sr,Ni,e,ar rfl,ae8 hn.2 hk]
theorem afw (h:Sep H (mem m S::L)){a:Int}(hR:∀H',Sep H' (mem m (S.free a).2::L)->R (.bool (S.free a).1) H'):CA en F.E9 [P m,I a] H R:=by
 have hm:=vd h;apply aBQ;simp only [uI,cG];refine ⟨some S.mp,by rw [cell_of hm.base];rfl,?_⟩;refine hm.look a λr hr=>?_
 have oc:lenOf (S.find a)=S.size a:=by unfold Sm.size lenOf;split<;>rfl
 refine ⟨S.room,by rw [cell_of hm.base];rfl,?_⟩;refine xW hm.base (by simp [Sm.base]) λH1 e1=>?_
 have gk:dJ H1 m {S with room:=wr (S.room+S.size a)}:=by
  subst e1
  have:=hm.E3 (S':={S with room:=wr (S.room+S.size a)}) rfl rfl rfl
  rw [oc];exact this
 have BS:aX (S.bR m) H H1:=by subst e1;exact (aX.refl _ _).set _ (by simp [Sm.bR])
 clear e1;refine ⟨some S.mp,by rw [cell_of gk.base];rfl,?_⟩;have sA:=O1 bz.h (λr=>Value.slice (some ⟨r.b,0,none⟩) r.ws.length 0) bz.born .i64 a S.bp 0;refine ⟨S.mp,_,_,_,rfl,gk.map,sA,?_⟩;have nd:=hm.nodup;simp only [Sm.bR,l_,dU,cL,not_or,Nu,not_and] at nd;have nt:dJ (H1.set S.mp (ON (S.bp.map bz.gG) S.cl ((S.bp.findIdx? λr=>r.h==a).map λj=>(0+j,((S.bp[j]?).map λr=>Value.slice (some ⟨r.b,0,none⟩) r.ws.length 0).getD undef)))) m (S.free a).2:=by
  have sub:∀r∈(S.free a).2.bp,r∈S.bp:=λr hr=>by
   simp only [Sm.free] at hr;exact (wL.1 hr).1
  have afz:List.Sublist ((S.free a).2.bR m) (S.bR m):=by
   simp only [Sm.bR,Sm.free];exact ((M_ (l:=S.bp)).map bz.b).cons_cons _ |>.cons_cons _
  refine ⟨?_,?_,λr hr=>?_,hm.nodup.sublist afz,λj hj=>?_,hm.keys.sublist ?_⟩
  ·rw [oL (λe=>nd.1.1 e)];exact gk.base
  ·show aa.get _ S.mp=_;rw [uT];cases hx:S.bp.findIdx? λr=>r.h==a with
   |none=>
    have e:(S.bp.filter λr=>r.h !=a)=S.bp:=Dg.2 λq hq=>by
     have:=List.findIdx?_eq_none_iff.1 hx q hq
     simpa [bne] using this
    simp [ON,Sm.free,e]
   |some j=>
    have e:=ae8 hm.keys hx;have e3:(S.bp.map bz.gG).eraseIdx j=(S.bp.eraseIdx j).map bz.gG:=by exact (ae9 _ _ _)
    simp only [fa,ON,Sm.free,cG];rw [e3,e]
  ·rw [oL (λe=>nd.2.1 r (sub r hr) e)];exact gk.rows r (sub r hr)
  ·rw [rG];exact De (hm.lt j (afz.mem hj)) BS.1
  ·simp only [Sm.free];exact (M_ (l:=S.bp)).map bz.h
 have:=hR _ (Zg h nt (BS.set _ (by simp [Sm.bR])) λj hj=>.inl (by
  simp only [Sm.bR,Sm.free,dU,cL,wL] at hj⊢;rcases hj with h1|h1|⟨r,h1,h2⟩
  ·exact .inl h1
  ·exact .inr (.inl h1)
  ·exact .inr (.inr ⟨r,h1.1,h2⟩)))
 have e:r.isSome=(S.free a).1:=hr;rw [e];exact this
end
end Go.Proofs.YtjggeoghlicmdaaGreat
namespace Go.AS
open Go.RowKit
section
variable {H H':aa} {L:List ax}
def addr (b:Option Nat):Option Addr:=b.map λi=>⟨i,0,none⟩
def gl (es:Nat)(b:Option Nat)(cs:List Value):ax:=many (match b with|none=>[]|some b=>[bx b (.cells true es cs)])
theorem dN {es b:Nat}{cs:List Value}:Sep H (gl es (some b) cs::L)↔Sep H (bx b (.cells true es cs)::L):=Sep.fX
theorem kx {es:Nat}{cs:List Value}:Sep H (gl es none cs::L)↔Sep H L:=Sep.fX
theorem Zy (c:List Value):fm c 0 c.length=some c:=by simp [fm]
theorem Pa {es b:Nat}{cs:List Value}(h:Sep H (gl es (some b) cs::L)):H.get b=some (.cells true es cs):=Sep.gL (dN.1 h)
theorem qo {es:Nat}{b:Option Nat}{cs new:List Value}{bytes len n:Nat}{K:Option Addr->Nat->aa->Prop}(h:Sep H (gl es b cs::L))(hb:b=none->cs=[])(iq:0<es)(hlen:cs.length=len*es)(hn:0<n)
  (nt:new.length=n*es)(uX:(len+n)*bytes<=140737488355328)(k:∀H' q,Sep H' (gl es (some q) (cs++new)::L)->K (addr (some q)) (len+n) H'):iT H bytes es (addr b) len n new K:=by
 cases b with
 |none=>
  have hc:=hb rfl;subst hc;have hl:len=0:=by
   simp only [nM] at hlen;rcases Nc len with h1|h1
   ·exact h1
   ·have:0<len*es:=Nt h1 iq
    omega
  subst hl;rw [cG] at uX
  refine T5 hn uX λj H2 ej e2=>?_
  have:=k H2 j
  rw [cG,rQ] at this;refine this (dN.2 ?_);subst ej e2;exact (kx.1 h).new _
 |some b=>
  have h1:=dN.1 h;refine IZ (Sep.gL h1) hn ?_ (by rw [<-hlen];exact Zy _) uX λj H2 ej e2=>?_
  ·rw [hlen,cG,mB]
   have:0<n*es:=Nt hn iq
   omega
  ·refine k H2 j (dN.2 ?_);have h2:=(Sep.X5 h1 .dead).new (.cells true es (cs++new));rw [<-e2,rG,<-ej] at h2;exact Sep.AL h2
theorem oO {es b n:Nat}{w:Bool}{z:Nat}{c cs:List Value}(hg:H.get b=some (.cells w z c))(hn:0<n*es)(hc:fm c 0 (n*es)=some cs):rowOf H es (some ⟨b,0,none⟩) n=some cs:=by
 show (if n*es=0 then some [] else match H.get b with|some (.cells _ _ c)=>fm c 0 (n*es)|_=>none)=some cs;rw [an (by omega),hg];exact hc
end
section
variable {H:aa} {L M:List ax}
abbrev aoa (H:aa)(P:List Value->Prop)(v:Value):Prop:=
 v=.slice Option.none 0 0∨∃(i:Nat)(cs:List (List Value)),v=.slice (Option.some ⟨i,0,Option.none⟩) cs.length 0/\i<H.next/\H.get i=Option.some (.cells false 0 cs.flatten)/\∀c∈cs,P c
theorem Arg.more {P:List Value->Prop}{v:Value}(h:aoa H P v)(hM:Sep H M)(hf:∀A∈M,∃i c,A=bx i (.cells false 0 c)) :
  ∃a n css M1 M',v=.slice a n 0/\Arg a n css M1/\(∀A∈M1,A∈M')/\(∀A∈M,A∈M')/\Sep H M'/\(∀A∈M',∃i c,A=bx i (.cells false 0 c))/\(∀c∈css,P c):=by
 rcases h with rfl|⟨i,cs,rfl,hi,hg,hc⟩
 ·exact ⟨_,_,[],[],M,rfl,.none,by simp,λA h=>h,hM,hf,by simp⟩
 ·by_cases hm:i∈ly M
  ·have⟨A,hA,hiA⟩:=zk.1 hm;obtain ⟨j,c,rfl⟩:=hf A hA;simp only [bx,fo] at hiA;subst hiA
   have:=hM.all _ hA
   have e:H.get i=Option.some (.cells false 0 c):=this;rw [hg] at e;have e2:cs.flatten=c:=by cases e;rfl
   subst e2;exact ⟨_,_,cs,_,M,rfl,.some i cs,by simpa using hA,λA h=>h,hM,hf,hc⟩
  ·refine ⟨_,_,cs,_,bx i (.cells false 0 cs.flatten)::M,rfl,.some i cs,by simp,λA h=>jh _ h,⟨?_,?_,?_⟩,?_,hc⟩
   ·intro A hA;rcases dU.1 hA with rfl|hA
    ·exact hg
    ·exact hM.all A hA
   ·rw [oK];refine jG.2 ⟨by simp [bx],hM.nd,λa ha b hb e=>?_⟩;simp only [bx,fo] at ha;exact hm (ha▸e▸hb)
   ·intro j hj;rw [oK] at hj;rcases dV.1 hj with h1|h1
    ·simp only [bx,fo] at h1;rw [h1];exact hi
    ·exact hM.lt j h1
   ·intro A hA;rcases dU.1 hA with rfl|hA
    ·exact ⟨_,_,rfl⟩
    ·exact hf A hA
theorem amd:∀(css:List (List Value)),(∀c∈css,∃n:Int,c=[.int .u64 n]/\(Lit.int .u64 n).wf=true)->∃l:List (BitVec 64),css=l.map λv=>[W v]
 |[],_=>⟨[],rfl⟩
 |c::css,h=>by
  obtain ⟨n,rfl,hn⟩:=h c (by simp)
  obtain ⟨w,rfl⟩:=Z2 hn
  obtain ⟨l,rfl⟩:=amd css λc hc=>h c (jh _ hc)
  exact ⟨w::l,rfl⟩
theorem aj0:∀(css:List (List Value)),(∀c∈css,∃n:Int,c=[.int .i64 n]/\(Lit.int .i64 n).wf=true)->∃l:List Int,css=l.map λv=>[.int .i64 v]
 |[],_=>⟨[],rfl⟩
 |c::css,h=>by
  obtain ⟨n,rfl,hn⟩:=h c (by simp)
  obtain ⟨l,rfl⟩:=aj0 css λc hc=>h c (jh _ hc)
  exact ⟨n::l,rfl⟩
theorem aCM (l:List (BitVec 64)):∀c∈l.map (λv=>[W v]),c.length=1:=by
 intro c hc;obtain ⟨v,_,rfl⟩:=cL.1 hc;rfl
theorem Sep.Vc {i:Nat}(o:Obj)(h:Sep H L)(hi:i<H.next)(hn:i∉ly L):Sep (H.set i o) (bx i o::L):=by
 refine ⟨λA hA=>?_,?_,λj hj=>?_⟩
 ·rcases dU.1 hA with rfl|hA
  ·exact uT _ _ _
  ·refine A.loc (λj hj=>?_) (h.all A hA)
   have:j∈ly L:=zk.2 ⟨A,hA,hj⟩
   exact oL λe=>hn (e▸this)
 ·rw [oK];refine jG.2 ⟨by simp [bx],h.nd,λa ha b hb e=>?_⟩;simp only [bx,fo] at ha;exact hn (ha▸e▸hb)
 ·rw [oK] at hj;rcases dV.1 hj with h1|h1
  ·simp only [bx,fo] at h1;rw [h1];exact hi
  ·exact h.lt j h1
theorem Sep.yA (h:Sep H L){n a:Nat}(o1:Obj)(ha:a<n):Sep ((H.ae n).set (H.next+a) o1) (bx (H.next+a) o1::L):=
 Sep.Vc o1 (h.ae n) (by rw [yW];omega) λhc=>by have:=h.lt _ hc;omega
theorem Sep.arD (h:Sep H L){n a b:Nat}(o1 o2:Obj)(ha:a<n)(hb:b<n)(tM:b≠a):Sep (((H.ae n).set (H.next+a) o1).set (H.next+b) o2) (bx (H.next+b) o2::bx (H.next+a) o1::L):=by
 refine Sep.Vc o2 (h.yA o1 ha) (by rw [rG,yW];omega) λhc=>?_
 rw [oK] at hc;rcases dV.1 hc with h2|h2
 ·simp only [bx,fo] at h2;omega
 ·have:=h.lt _ h2;omega
end
section
variable {H H':aa} {L:List ax} {ik:IntKind} {b:Nat} {l:List (Int×Value)} {k:Int} {v:Value}
abbrev KV:=List (Int×Value)
def zM:KV->Int->Option Value
 |[],_=>Option.none
 |(a,u)::l,k=>if a=k then Option.some u else zM l k
def zN:KV->Int->Value->KV
 |[],k,v=>[(k,v)]
 |(a,u)::l,k,v=>if a=k then (k,v)::l else (a,u)::zN l k v
def zL:KV->Int->KV
 |[],_=>[]
 |(a,u)::l,k=>if a=k then l else (a,u)::zL l k
def vf (es:List MapEntry):List (Value×Value):=es.map λe=>(e.key,e.val)
def ve (ik:IntKind)(l:KV):List (Value×Value):=l.map λp=>(.int ik p.1,p.2)
def im (ik:IntKind)(b:Nat)(l:KV):ax:=
 ⟨[b],λH=>∃es c,H.get b=Option.some (.map es c)/\vf es=ve ik l,λh ⟨es,c,h1,h2⟩=>⟨es,c,by rw [h _ (by simp)];exact h1,h2⟩⟩
theorem O4 (v:Value):∀(es:List MapEntry)(l:KV)(i:Nat),vf es=ve ik l->
  ∃r,Instr.findNow (.int ik) (.int ik k) es i=Option.some r/\(match r with
   |Option.none=>zM l k=Option.none/\zN l k v=l++[(k,v)]/\zL l k=l
   |Option.some (n,u)=>zM l k=Option.some u/\∃j,n=i+j/\vf (es.modify j λe=>{e with key:=.int ik k,val:=v})=ve ik (zN l k v)/\vf (es.eraseIdx j)=ve ik (zL l k))
 |[],[],i,_=>⟨Option.none,by simp [Instr.findNow],rfl,rfl,rfl⟩
 |[],_::_,i,h=>by simp [vf,ve] at h
 |_::_,[],i,h=>by simp [vf,ve] at h
 |e::es,(a,u)::l,i,h=>by
  simp only [vf,ve,lL,zj,iF] at h;have⟨⟨h1,h2⟩,h3⟩:=h;have es':Instr.sameNow (.int ik) (.int ik k) e.key=Option.some (k==a):=by rw [h1];simp [Instr.sameNow]
  simp only [Instr.findNow,es'];by_cases hk:k=a
  ·subst hk;refine ⟨Option.some (i,e.val),by simp,?_,0,rfl,?_,?_⟩
   ·simp [zM,h2]
   ·simp only [List.modify_zero_cons,vf,lL,zN,pc,ve,zj,true_and];exact h3
   ·simp only [List.eraseIdx_cons_zero,zL,pc];exact h3
  ·have hb:(k==a)=false:=by simpa using hk
   have ha:¬a=k:=λh=>hk h.symm
   rw [hb];have⟨r,r1,r2⟩:=O4 v es l (i+1) h3;refine ⟨r,r1,?_⟩;cases r with
   |none=>
    have⟨e1,e2,e3⟩:=r2;simp only [zM,zN,zL,an ha];exact ⟨e1,by rw [e2];rfl,by rw [e3]⟩
   |some p=>
    have⟨n,w⟩:=p;have⟨e1,j,e2,e3,e4⟩:=r2;simp only [zM,zN,zL,an ha];refine ⟨e1,j+1,by omega,?_,?_⟩
    ·simp only [List.modify_succ_cons,vf,ve,lL,zj,iF];exact ⟨⟨h1,h2⟩,e3⟩
    ·simp only [Sr,vf,ve,lL,zj,iF];exact ⟨⟨h1,h2⟩,e4⟩
theorem auz (h:Sep H (im ik b l::L))(k:Int){K:Option (Nat×Value)->Prop}(hK:∀r,r.map (·.2)=zM l k->K r):∃r,sH H (.int ik) (Option.some b) (.int ik k)=Option.some r/\K r:=by
 have⟨es,c,h1,h2⟩:=h.head;have⟨r,r1,r2⟩:=O4 (k:=k) (.nilFunc) es l 0 h2;refine ⟨r,?_,hK r ?_⟩
 ·simp only [sH,entriesOf,h1,bP];exact r1
 ·cases r with
  |none=>exact r2.1.symm
  |some p=>exact r2.1.symm
theorem QG (h:Sep H (im ik b l::L)){l':KV}{es:List MapEntry}{c:Nat}(he:vf es=ve ik l'):Sep (H.set b (.map es c)) (im ik b l'::L):=
 h.dt (S:=[b]) ((aX.refl _ _).set _ (by simp)) (by simp [im]) ⟨es,c,uT _ _ _,he⟩ (by simp [im]) (by simp [im]) (by
  intro j hj
  simp only [im,fo] at hj
  subst hj
  exact h.D5 (by simp [im]))
theorem auB (h:Sep H (im ik b l::L)){k:Int}{v:Value}{K:aa->Prop}(hK:∀H',Sep H' (im ik b (zN l k v)::L)->K H'):R4 H (.int ik) (Option.some b) (.int ik k) v K:=by
 have⟨es,c,h1,h2⟩:=h.head;have⟨r,r1,r2⟩:=O4 (k:=k) v es l 0 h2;refine ⟨b,es,c,r,rfl,h1,r1,hK _ ?_⟩;cases r with
 |none=>
  refine QG h ?_;rw [r2.2.1];simp only [vf,ve,fh,lL,FA];rw [show es.map (λe=>(e.key,e.val))=l.map λp=>(Value.int ik p.1,p.2) from h2]
 |some p=>
  have⟨n,u⟩:=p;obtain ⟨_,j,rfl,e3,_⟩:=r2;refine QG h ?_;rw [cG];exact e3
theorem ahe (h:Sep H (im ik b l::L)){k:Int}{K:aa->Prop}(hK:∀H',Sep H' (im ik b (zL l k)::L)->K H'):JC H (.int ik) (Option.some b) (.int ik k) K:=by
 have⟨es,c,h1,h2⟩:=h.head;have⟨r,r1,r2⟩:=O4 (k:=k) (.nilFunc) es l 0 h2;refine ⟨b,es,c,r,rfl,h1,r1,hK _ ?_⟩;cases r with
 |none=>
  refine QG h ?_;rw [r2.2.2];exact h2
 |some p=>
  have⟨n,u⟩:=p;obtain ⟨_,j,rfl,_,e4⟩:=r2;refine QG h ?_;rw [cG];exact e4
theorem auy (h:Sep H (im ik b l::L)){K:Int->Prop}(hK:K l.length):QT H (Option.some b) K:=by
 have⟨es,c,h1,h2⟩:=h.head;refine ⟨es,by simp only [entriesOf,h1],?_⟩
 have:=hZ List.length h2
 simp only [vf,ve,gb] at this;rw [this];exact hK
theorem auA (h:Sep H L){K:Nat->aa->Prop}(hK:∀b H',Sep H' (im ik b []::L)->K b H'):aC H (.map [] 0) K:=by
 refine Sep.nw h λb H' h'=>hK b H' ?_
 have h1:H'.get b=Option.some (.map [] 0):=Sep.gL h';exact h'.dt (S:=[]) (aX.refl _ _) (by simp) ⟨[],0,h1,rfl⟩ (by simp [im,bx]) (by simp [im]) (by
  intro j hj;simp only [im,fo] at hj;subst hj;exact h'.D5 (by simp [bx]))
end
section
variable {H H':aa} {L:List ax}
theorem akw (l:List ax):∀n,(List.range n).filterMap (λi=>l[i]?)=l.take n
 |0=>by simp
 |n+1=>by
  rw [No,List.filterMap_append,akw l n,vC]
  cases h:l[n]? <;>simp [h]
theorem Sep.sub {l l':List ax}(hs:l'.Sublist l):∀pre,Sep H (pre++l)->Sep H (pre++l'):=by
 induction hs with
 |slnil=>exact λpre h=>h
 |cons a _ ih=>exact λpre h=>ih pre (Sep.tail (h.perm pf))
 |cons_cons a _ ih=>
  intro pre h
  have:=ih (pre++[a]) (by simpa using h)
  simpa using this
theorem Sep.pick {l:List ax}(h:Sep H l)(n:Nat)(p:List Nat)(hp:(p++(List.range n).filter λi=> !p.contains i).isPerm (List.range n)=true:=by decide):Sep H (p.filterMap (λi=>l[i]?)++l.drop n):=by
 have h1:=(List.isPerm_iff.1 hp).filterMap (λi=>l[i]?);rw [akw,List.filterMap_append] at h1;have h2:Sep H ((p.filterMap (λi=>l[i]?)++(((List.range n).filter λi=> !p.contains i).filterMap λi=>l[i]?))++l.drop n):=by
  refine Sep.perm ?_ (h1.symm.append_right _);rw [wN];exact h
 rw [mC] at h2;exact Sep.sub (List.sublist_append_right _ _) _ h2
theorem Zi:∀(new tc:List Value)(len:Nat),len+new.length<=tc.length->(setAt tc len new).take (len+new.length)=tc.take len++new
 |[],tc,len,_=>by simp [setAt]
 |y::new,tc,len,h=>by
  simp only [gU] at h
  have:=Zi new (tc.set len y) (len+1) (by simp;omega)
  simp only [setAt,gU]
  rw [show len+(new.length+1)=len+1+new.length by omega,this,vC,vD (by omega),aax (by omega)]
  simp
theorem akY:∀(new tc:List Value)(len p:Nat),len+new.length<=p->(setAt tc len new).drop p=tc.drop p
 |[],tc,len,p,_=>by simp [setAt]
 |y::new,tc,len,p,h=>by
  simp only [gU] at h
  simp only [setAt]
  rw [akY new _ (len+1) p (by omega),List.drop_set_of_lt (by omega)]
theorem ak0:∀(new tc:List Value)(len p:Nat),p<=len->(setAt tc len new).take p=tc.take p
 |[],tc,len,p,_=>by simp [setAt]
 |y::new,tc,len,p,h=>by
  simp only [setAt]
  rw [ak0 new _ (len+1) p (by omega),aax (by omega)]
theorem apk {b:Option Nat}{es len n bytes:Nat}{tc new:List Value}{K:Option Addr->Nat->aa->Prop}(h:Sep H (gl es b tc::L))(hb:b=none->len=0)(iq:0<es)(hlen:len*es<=tc.length)(hn:0<n)(nt:new.length=n*es)(uX:(len+n)*bytes<=140737488355328)
  (k:∀H' b' CU,CU.take ((len+n)*es)=tc.take (len*es)++new->(len+n)*es<=CU.length->Sep H' (gl es (some b') CU::L)->K (some ⟨b',0,none⟩) (len+n) H'):iT H bytes es (addr b) len n new K:=by
 have hmul:(len+n)*es=len*es+n*es:=mB _ _ _;cases b with
 |none=>
  have h0:=hb rfl;subst h0;rw [cG] at uX
  refine T5 hn uX λj H2 ej e2=>?_
  have:=k H2 j new (by rw [SO,List.take_zero,rQ,hmul,SO,cG,<-nt,wM]) (by rw [hmul,nt];omega)
  rw [cG] at this;refine this (dN.2 ?_);subst ej e2;exact (kx.1 h).new _
 |some b=>
  have h1:=dN.1 h;rcases iY tc.length (0+(len+n)*es) with hc|hc
  ·refine IZ (old:=tc.take (len*es)) (Sep.gL h1) hn hc ?_ uX λj H' ej eH=>k H' j (tc.take (len*es)++new) ?_ ?_ (dN.2 ?_)
   ·unfold fm;rw [ar (by omega),Ig]
   ·rw [Nv (by rw [e_,km,nt,hmul];omega)]
   ·rw [e_,km,nt,hmul];omega
   ·have h2:=(Sep.X5 h1 .dead).new (.cells true es (tc.take (len*es)++new));rw [<-eH,rG,<-ej] at h2;exact Sep.AL h2
  ·refine .inr ⟨hn,.inr ⟨b,0,tc,rfl,Sep.gL h1,.inl ⟨hc,?_⟩⟩⟩;have cB:aq H b (0+len*es) new (λH'=>K (some ⟨b,0,none⟩) (len+n) H'):=by
    refine Sep.dp h1 (by rw [nt];omega) λH' h'=>k H' b _ ?_ ?_ (dN.2 h')
    ·rw [hmul,<-nt,cG];exact Zi _ _ _ (by omega)
    ·rw [Mn];omega
   exact Zx cB
end
end Go.AS
namespace Go.Proofs.YtjggeoghlicmdaaGreat
open Go Go.AS Go.RowKit
section
variable (H:aa)(R:VH)
set_option maxRecDepth 100000
set_option maxHeartbeats 2000000
theorem aAA (x0:Oa) :
  (aA x0 λi1 i2=>∃a3 i4,H.cell i1 (i2+3)=some (sl a3 i4)/\R (iI (i4:Int)) H)->
  CA en F.Vp [(pt x0)] H R:=vk (by kernel_rfl)
theorem aAy (x0:Oa)(x1:Int) :
  (bif (decide (x1<0)) then (R (bb false) H) else (aA x0 λi1 i2=>∃n3,H.cell i1 (i2+1)=some (iI n3)/\bif (decide (x1≥n3)) then (R (bb false) H) else (aA x0 λi4 i5=>∃m6,H.cell i4 (i5+2)=some (.map m6)/\∃r7,AS.sH H (.int .i64) m6 (iI x1)=some r7/\∃b8,gO r7 (bb false) (bb b8)/\bif b8 then (R (bb false) H) else (aA x0 λi9 i10=>∃m11,H.cell i9 (i10+2)=some (.map m11)/\R4 H (.int .i64) m11 (iI x1) (bb true) λbO=>R (bb true) bO))))->
  CA en F.Pf [(pt x0),(iI x1)] H R:=vk (by kernel_rfl)
noncomputable def TN:Code:=kE Go.Proofs.Tryz.f24 0
theorem aAz (x0:Oa)(x1:Int) :
  (aA x0 λi1 i2=>∃m3,H.cell i1 (i2+2)=some (.map m3)/\∃r4,AS.sH H (.int .i64) m3 (iI x1)=some r4/\∃b5,gO r4 (bb false) (bb b5)/\bif (!b5) then (R s0 H) else (aA x0 λi6 i7=>∃m8,H.cell i6 (i7+2)=some (.map m8)/\JC H (.int .i64) m8 (iI x1) λH9=>aA x0 λi10 i11=>∃bY i13,H9.cell i10 (i11+3)=some (sl bY i13)/\LA en TN [(pt x0),(iI x1),ud,ud,s0,ud,ud,(pt x0),(pA i1 i2),(pA i1 (i2+2)),(.map m3),(iI x1),(bb b5),(bb false),(pt x0),(pA i6 i7),(pA i6 (i7+2)),(.map m8),(iI x1),(pt x0),(pA i10 i11),(pA i10 (i11+3)),(sl bY i13),(iI (i13:Int)),(iI 0),ud,ud,ud,ud,ud,ud,ud,ud,ud] H9 [(X.exit 0,λ(y14:Fr)(cz:aa)=>CA en F.Pg [(pt x0)] cz λoX aQ=>∃de i19,oX=(sl de i19)/\R (sl de i19) aQ)]))->
  CA en F.Vo [(pt x0),(iI x1)] H R:=vz [[]] (by kernel_rfl)
theorem ayH {t0 t4 t7 t8 t9 t10 t11 t12 t13 t14 t15 t16 t17 t18 t19 t20 t21:Value}{t1:Int}{t22:Oa}{ME:Nat}{t23:Int}{K0:FH}{t24:Int}{t6 t25 t26 t27 t28 t29 t30 t31:Value}{H:aa}(I:Nat->Int->aa->Prop)(n:Nat)(h0:I n t24 H)
  (cY:∀(n:Nat)(t24:Int)(ys:Fr)(H:aa),I n t24 H->
  (bif (decide (t24<t23)) then (az t24 ME/\aV t22 λi1 i2=>∃n3 m4,H.aM i1 (i2+(t24.toNat*2)) 2=some [(iI n3),(.map m4)]/\aC H (.cells true 0 [(iI 0),(.map none)]) λi5 H6=>aq H6 i5 0 [(iI n3),(.map m4)] λH7=>∃m8,H7.cell i5 1=some (.map m8)/\JC H7 (.int .i64) m8 (iI t1) λH9=>∃jS,jS<n/\I jS (IntKind.i64.wrap (t24+1)) H9) else (K0 ([t0,(iI t1),ud,ud,t4,ud,(gd ys 6),t7,t8,t9,t10,t11,t12,t13,t14,t15,t16,t17,t18,t19,t20,t21,(sl t22 ME),(iI t23),(iI t24),(bb false)]++gs ys 26 6++[ud,ud]) H))) :
  LA en TN [t0,(iI t1),ud,ud,t4,ud,t6,t7,t8,t9,t10,t11,t12,t13,t14,t15,t16,t17,t18,t19,t20,t21,(sl t22 ME),(iI t23),(iI t24),t25,t26,t27,t28,t29,t30,t31,ud,ud] H [(X.exit 0,K0)]:=by
 refine ko (Z:=[]) (λm xs H'=>AS.asInt .i64 (xs.getD 24 undef) λt24=>I m t24 H') ?_ n H ?_
 ·intro n H
  suffices hs:∀dE eS eT s6 fF fG eU fH dD:Value,((AS.asInt .i64 dD λt24=>I n t24 H)->gr en TN [] [t0,(iI t1),ud,ud,t4,ud,s6,t7,t8,t9,t10,t11,t12,t13,t14,t15,t16,t17,t18,t19,t20,t21,(sl t22 ME),(iI t23),dD,dE,eS,eT,fF,fG,eU,fH,ud,ud] H (kh (λm xs H'=>AS.asInt .i64 (xs.getD 24 undef) λt24=>I m t24 H') n [(X.exit 0,K0)])) by
   apply bL hs
   kernel_rfl
  intro dE eS eT s6 fF fG eU fH dD hP;replace hP:=gF hP;obtain ⟨t24,rfl,hP⟩:=hP;apply bL (cY n t24 [t0,(iI t1),ud,ud,t4,ud,s6,t7,t8,t9,t10,t11,t12,t13,t14,t15,t16,t17,t18,t19,t20,t21,(sl t22 ME),(iI t23),(iI t24),dE,eS,eT,fF,fG,eU,fH,ud,ud] H hP);kernel_rfl
 ·apply bL h0
  kernel_rfl
theorem aAD (x0:Int)(x1:Oa) :
  (aC H (.map [] 0) λi1 H2=>aC H2 (.cells true 0 [(pt x1),(iI x0),(.map (some i1)),s0]) λi3 H4=>R (pt (ad i3)) H4)->
  CA en F.Vq [(iI x0),(pt x1)] H R:=vk (by kernel_rfl)
theorem aAB (x0:Oa) :
  (aC H (.cells true 0 [(pt x0)]) λi1 H2=>aC H2 (.cells true 0 [s0]) λi3 H4=>∃a5,(H4.ae 10).cell i1 0=some (pt a5)/\∃a6,(H4.ae 10).cell i1 0=some (pt a6)/\aA a6 λi7 i8=>∃a9 i10,(H4.ae 10).cell i7 (i8+3)=some (sl a9 i10)/\CA en F.Zm [(sl a9 i10),(.func (.func F.Ph) #[] #[(pt (ad i1)),(pt (ad i3))])] (H4.ae 10) λv11 bO=>∃iR i14,v11=(sl iR i14)/\aA a5 λi15 i16=>aq bO i15 (i16+3) [(sl iR i14)] λaQ=>(∃qh i21,aQ.cell i3 0=some (sl qh i21)/\aq aQ i3 0 [(sl qh i21)] λgg=>∃fT i24,gg.cell i3 0=some (sl fT i24)/\R (sl fT i24) gg)/\((∃j5,(H4.ae 10).cell i1 0=some (pt j5)/\a5=j5)/\(∃de,bO.cell i1 0=some (pt de)/\a5=de)/\True)/\True)->
  CA en F.Pg [(pt x0)] H R:=vk (by kernel_rfl)
theorem aAC (kJ:Int)(kK:Option Nat)(c0 c1:Oa) :
  (aC H (.cells true 0 [(iI kJ),(.map kK)]) λi1 H2=>∃m3,H2.cell i1 1=some (.map m3)/\QT H2 m3 λn4=>bif (decide (n4>0)) then (R (bb false) H2) else (aA c0 λi5 i6=>∃a7,(H2.ae 7).cell i5 i6=some (pt a7)/\aA a7 λi8 i9=>∃gx,(H2.ae 7).cell i8 i9=some (pt gx)/\∃bI,(H2.ae 7).cell i1 0=some (iI bI)/\CA en F.E9 [(pt gx),(iI bI)] (H2.ae 7) λrN cE=>∃uM,rN=(bb uM)/\(aA c1 λi15 i16=>∃mf i18,cE.cell i15 i16=some (sl mf i18)/\∃fi,cE.cell i1 0=some (iI fi)/\aC cE (.cells true 1 [(iI fi)]) λi20 jZ=>∃l22,rowOf jZ 1 (ad i20) 1=some l22/\iT jZ 8 1 mf i18 1 l22 λfT i24 cR=>aA c1 λi26 i27=>aq cR i26 i27 [(sl fT i24)] λbN=>R (bb true) bN)/\True))->
  CA en F.Ph [(.agg #[(iI kJ),(.map kK)]),(pt c0),(pt c1)] H R:=vk (by kernel_rfl)
theorem aAw (x0:Oa)(x1:Int) :
  (aC H (.cells true 0 [(iI x1)]) λi1 H2=>aA x0 λi3 i4=>∃a5,(H2.ae 15).cell i3 i4=some (pt a5)/\∃n6,(H2.ae 15).cell i1 0=some (iI n6)/\CA en F.RR [(pt a5),(iI n6)] (H2.ae 15) λv7 H8=>∃n9,v7=(iI n9)/\bif (n9==0) then ((R s0 H8)/\True) else (aA x0 λi10 i11=>∃bY i13,H8.cell i10 (i11+3)=some (sl bY i13)/\CA en F.Zl [(sl bY i13),(.func (.func F.Pe) #[] #[(pt (ad i1))])] H8 λAU cz=>∃tE,AU=(bb tE)/\(bif tE then (R s0 cz) else (aA x0 λi17 i18=>∃j5 i20,(cz.ae 17).cell i17 (i18+3)=some (sl j5 i20)/\∃bX,(cz.ae 17).cell i1 0=some (iI bX)/\aA x0 λi22 i23=>∃m24,(cz.ae 17).cell i22 (i23+2)=some (.map m24)/\CA en F.aiz [(.map m24)] (cz.ae 17) λvy eC=>∃K3,vy=(.map K3)/\aC eC (.cells true 2 [(iI bX),(.map K3)]) λi28 fq=>∃l30,rowOf fq 2 (ad i28) 1=some l30/\iT fq 16 2 j5 i20 1 l30 λfz i32 nO=>aA x0 λi34 i35=>aq nO i34 (i35+3) [(sl fz i32)] λmF=>(CA en F.Pg [(pt x0)] mF λMP p9=>∃kO i48,MP=(sl kO i48)/\R (sl kO i48) p9)/\((∃mv,(cz.ae 17).cell i1 0=some (iI mv)/\bX=mv)/\(∃iz,eC.cell i1 0=some (iI iz)/\bX=iz)/\True)/\((∃mh i44,(cz.ae 17).cell i17 (i18+3)=some (sl mh i44)/\(j5=mh/\i20=i44/\0=0))/\(∃gY i42,eC.cell i17 (i18+3)=some (sl gY i42)/\(j5=gY/\i20=i42/\0=0))/\(∃jn i40,fq.cell i17 (i18+3)=some (sl jn i40)/\(j5=jn/\i20=i40/\0=0))/\True)/\True))/\True))->
  CA en F.JP [(pt x0),(iI x1)] H R:=vk (by kernel_rfl)
theorem aAx (kJ:Int)(kK:Option Nat)(c0:Oa) :
  (aC H (.cells true 0 [(iI kJ),(.map kK)]) λi1 H2=>∃n3,H2.cell i1 0=some (iI n3)/\aA c0 λi4 i5=>∃n6,H2.cell i4 i5=some (iI n6)/\R (bb (n3==n6)) H2)->
  CA en F.Pe [(.agg #[(iI kJ),(.map kK)]),(pt c0)] H R:=vk (by kernel_rfl)
noncomputable def TP:Code:=kE Go.Proofs.Tryz.f116 0
theorem aBJ (x0:Oa)(a_:Nat)(x1:Value) :
  (CA en F.RO [(sl x0 a_),x1] H λv1 H2=>∃n3,v1=(iI n3)/\bif (n3==(-1)) then (R (sl x0 a_) H2) else (LA en TP [(sl x0 a_),x1,ud,ud,s0,(iI n3),(iI (IntKind.i64.wrap (n3+1))),ud,(sl x0 a_),x1,(iI n3),(iI n3),(bb false),ud,(iI n3),(iI (IntKind.i64.wrap (n3+1))),ud,ud,ud,ud,ud,ud,ud,ud,ud,ud,ud,ud,ud,ud,ud,ud,ud,ud,ud,ud,ud,ud,ud,ud,ud,ud] H2 [(X.exit 0,λ(y4:Fr)(H5:aa)=>AS.asInt .i64 (y4.getD 5 undef) λn6=>vc n6 a_/\E6 H5 x0 2 n6.toNat (a_ - n6.toNat) λv7=>nR (zR en H5 123 v7) λH8=>vc n6 a_/\E6 H8 x0 2 0 n6.toNat λv9=>R v9 H8)]))->
  CA en F.Zm [(sl x0 a_),x1] H R:=vz [[(5,(iI 0))]] (by kernel_rfl)
theorem ayJ {t4 t8 t10 t11 t12 t14 t15:Value}{t0:Oa}{aU:Nat}{t1 t9:Value}{K0:FH}{t5 t6:Int}{t7 t16 t17 t18 t19 t20 t21 t22 t23 t24 t25 t26 t27 t28 t29 t30 t31 t32 t33 t34 t35:Value}{H:aa}(I:Nat->Int->Int->aa->Prop)(n:Nat)(h0:I n t5 t6 H)
  (cY:∀(n:Nat)(t5 t6:Int)(ys:Fr)(H:aa),I n t5 t6 H->
  (bif (decide (t6<(aU:Int))) then (az t6 aU/\aV t0 λi1 i2=>∃n3 m4,H.aM i1 (i2+(t6.toNat*2)) 2=some [(iI n3),(.map m4)]/\aC H (.cells true 0 [(iI 0),(.map none)]) λi5 H6=>aq H6 i5 0 [(iI n3),(.map m4)] λH7=>∃n8 m9,H7.aM i5 0 2=some [(iI n8),(.map m9)]/\AS.kQ t1 λf10 Xd Xe=>(∃fn,en.fn f10=some fn)/\CA en f10 (Xd++[(.agg #[(iI n8),(.map m9)])]++Xe) H7 λjC bt=>∃uN,jC=(bb uN)/\bif (!uN) then (∃dy m17,bt.aM i5 0 2=some [(iI dy),(.map m17)]/\az t5 aU/\aV t0 λi18 i19=>aq bt i18 (i19+(t5.toNat*2)) [(iI dy),(.map m17)] λbu=>∃KN,KN<n/\I KN (IntKind.i64.wrap (t5+1)) (IntKind.i64.wrap (t6+1)) bu) else (∃KO,KO<n/\I KO t5 (IntKind.i64.wrap (t6+1)) bt)) else (K0 ([(sl t0 aU),t1,ud,ud,t4,(iI t5),(iI t6),(gd ys 7),t8,t9,t10,t11,t12,ud,t14,t15,(iI t6),(sl t0 aU),(iI (aU:Int)),(bb false)]++gs ys 20 16++us 6) H))) :
  LA en TP [(sl t0 aU),t1,ud,ud,t4,(iI t5),(iI t6),t7,t8,t9,t10,t11,t12,ud,t14,t15,t16,t17,t18,t19,t20,t21,t22,t23,t24,t25,t26,t27,t28,t29,t30,t31,t32,t33,t34,t35,ud,ud,ud,ud,ud,ud] H [(X.exit 0,K0)]:=by
 refine ko (Z:=[]) (λm xs H'=>AS.asInt .i64 (xs.getD 5 undef) λt5=>AS.asInt .i64 (xs.getD 6 undef) λt6=>I m t5 t6 H') ?_ n H ?_
 ·intro n H
  suffices hs:∀c9 cH c_ dB dS dT dD dE s7 eS eT fF fG eU fH fI eW eY eZ s5 db dC s6:Value,((AS.asInt .i64 s5 λt5=>AS.asInt .i64 s6 λt6=>I n t5 t6 H)->gr en TP [] ([(sl t0 aU),t1,ud,ud,t4,s5,s6,s7,t8,t9,t10,t11,t12,ud,t14,t15,c9,cH,c_,dB,db,dC,dS,dT,dD,dE,eS,eT,fF,fG,eU,fH,fI,eW,eY,eZ]++us 6) H (kh (λm xs H'=>AS.asInt .i64 (xs.getD 5 undef) λt5=>AS.asInt .i64 (xs.getD 6 undef) λt6=>I m t5 t6 H') n [(X.exit 0,K0)])) by
   apply bL hs
   kernel_rfl
  intro c9 cH c_ dB dS dT dD dE s7 eS eT fF fG eU fH fI eW eY eZ s5 db dC s6 hP;replace hP:=gF hP;obtain ⟨t5,rfl,hP⟩:=hP;replace hP:=gF hP;obtain ⟨t6,rfl,hP⟩:=hP;apply bL (cY n t5 t6 ([(sl t0 aU),t1,ud,ud,t4,(iI t5),(iI t6),s7,t8,t9,t10,t11,t12,ud,t14,t15,c9,cH,c_,dB,db,dC,dS,dT,dD,dE,eS,eT,fF,fG,eU,fH,fI,eW,eY,eZ]++us 6) H hP);kernel_rfl
 ·apply bL h0
  kernel_rfl
noncomputable def TQ:Code:=kE Go.Proofs.Tryz.f169 0
theorem alQ (x0:Oa)(a_:Nat)(x1:Value) :
  (LA en TQ [(sl x0 a_),x1,ud,ud,(iI 0),ud,(sl x0 a_),(iI (a_:Int)),(iI 0),ud,ud,ud,ud,ud,ud,ud,ud,ud,ud] H [(X.exit 0,λ(y1:Fr)(H2:aa)=>AS.asInt .i64 (y1.getD 4 undef) λn3=>R (iI (-1)) H2),(X.ret,λ(y4:Fr)(H5:aa)=>AS.asInt .i64 (y4.getD 4 undef) λn6=>R (iI n6) H5)])->
  CA en F.RO [(sl x0 a_),x1] H R:=vz [[(4,(iI 0))]] (by kernel_rfl)
theorem alz {t6:Value}{t0:Oa}{aU:Nat}{t1:Value}{t7:Int}{K0 K1:FH}{t4 t8:Int}{t5 t9 t10 t11 t12 t13 t14 t15 t16 t17 t18:Value}{H:aa}(I:Nat->Int->Int->aa->Prop)(n:Nat)(h0:I n t4 t8 H)
  (cY:∀(n:Nat)(t4 t8:Int)(ys:Fr)(H:aa),I n t4 t8 H->
  (bif (decide (t8<t7)) then (az t8 aU/\aV t0 λi1 i2=>∃n3 m4,H.aM i1 (i2+(t8.toNat*2)) 2=some [(iI n3),(.map m4)]/\AS.kQ t1 λf5 l6 l7=>(∃fn,en.fn f5=some fn)/\CA en f5 (l6++[(.agg #[(iI n3),(.map m4)])]++l7) H λv8 H9=>∃w5,v8=(bb w5)/\bif w5 then (K1 [(sl t0 aU),t1,ud,ud,(iI t8),(iI t8),t6,(iI t7),(iI t8),(bb true),(iI t8),t1,(sl t0 aU),(iI t8),(pA i1 (i2+(t8.toNat*2))),(.agg #[(iI n3),(.map m4)]),(bb true),(iI t8),(gd ys 18)] H9) else (∃Ci,Ci<n/\I Ci t4 (IntKind.i64.wrap (t8+1)) H9)) else (K0 ([(sl t0 aU),t1,ud,ud,(iI t4),(gd ys 5),t6,(iI t7),(iI t8),(bb false)]++gs ys 10 9) H))) :
  LA en TQ [(sl t0 aU),t1,ud,ud,(iI t4),t5,t6,(iI t7),(iI t8),t9,t10,t11,t12,t13,t14,t15,t16,t17,t18] H [(X.exit 0,K0),(X.ret,K1)]:=by
 refine ko (Z:=[]) (λm xs H'=>AS.asInt .i64 (xs.getD 4 undef) λt4=>AS.asInt .i64 (xs.getD 8 undef) λt8=>I m t4 t8 H') ?_ n H ?_
 ·intro n H
  suffices hs:∀s9 dR s5 dz c6 c7 c8 dA c9 cH s4 c_ s8:Value,((AS.asInt .i64 s4 λt4=>AS.asInt .i64 s8 λt8=>I n t4 t8 H)->gr en TQ [] [(sl t0 aU),t1,ud,ud,s4,s5,t6,(iI t7),s8,s9,dR,dz,c6,c7,c8,dA,c9,cH,c_] H (kh (λm xs H'=>AS.asInt .i64 (xs.getD 4 undef) λt4=>AS.asInt .i64 (xs.getD 8 undef) λt8=>I m t4 t8 H') n [(X.exit 0,K0),(X.ret,K1)])) by
   apply bL hs
   kernel_rfl
  intro s9 dR s5 dz c6 c7 c8 dA c9 cH s4 c_ s8 hP;replace hP:=gF hP;obtain ⟨t4,rfl,hP⟩:=hP;replace hP:=gF hP;obtain ⟨t8,rfl,hP⟩:=hP;apply bL (cY n t4 t8 [(sl t0 aU),t1,ud,ud,(iI t4),s5,t6,(iI t7),(iI t8),s9,dR,dz,c6,c7,c8,dA,c9,cH,c_] H hP);kernel_rfl
 ·apply bL h0
  kernel_rfl
theorem aBI (x0:Oa)(a_:Nat)(x1:Value) :
  (CA en F.RO [(sl x0 a_),x1] H λv1 H2=>∃n3,v1=(iI n3)/\R (bb (decide (n3≥0))) H2)->
  CA en F.Zl [(sl x0 a_),x1] H R:=vk (by kernel_rfl)
theorem aBH (x0:Option Nat) :
  (bif x0.isNone then (R (.map none) H) else (Ui H x0 λi1 H2=>R (.map (some i1)) H2))->
  CA en F.aiz [(.map x0)] H R:=vk (by kernel_rfl)
end
section
variable {H H':aa} {R:Value->aa->Prop} {L:List ax} {g m i1 i3:Nat} {ks:List Int} {k a:Int} {S:Sm} {gc junk:List Value}
def kC (ks:List Int):KV:=ks.map λk=>(k,.bool true)
theorem ahJ:∀(ks:List Int)(k:Int),zM (kC ks) k=if k∈ks then some (.bool true) else none
 |[],k=>rfl
 |a::ks,k=>by
  show (if a=k then some (.bool true) else zM (kC ks) k)=_
  rw [ahJ ks k]
  by_cases h:a=k
  ·simp [h]
  ·have:¬k=a:=λe=>h e.symm
   simp [h,this]
theorem ahK:∀{ks:List Int}{k:Int},k∉ks->zN (kC ks) k (.bool true)=kC (ks++[k])
 |[],k,_=>rfl
 |a::ks,k,h=>by
  simp only [dU,not_or] at h
  show (if a=k then (k,.bool true)::kC ks else (a,.bool true)::zN (kC ks) k (.bool true))=_
  rw [an (λe=>h.1 e.symm),ahK h.2];rfl
theorem Xa:∀(ks:List Int)(k:Int),zL (kC ks) k=kC (ks.erase k)
 |[],k=>rfl
 |a::ks,k=>by
  show (if a=k then kC ks else (a,.bool true)::zL (kC ks) k)=_
  rw [Xa ks k,List.erase_cons]
  by_cases h:a=k
  ·simp [h]
  ·simp [h,kC]
theorem auX (ks:List Int):(kC ks).length=ks.length:=by simp [kC]
theorem ahi {b:Nat}{K:Bool->Prop}(h:Sep H (im .i64 b (kC ks)::L))(a:Int)(hK:K (decide (a∈ks))):∃r,AS.sH H (.int .i64) (some b) (I a)=some r/\∃v,gO r (.bool false) (.bool v)/\K v:=by
 refine auz h a λr hr=>⟨decide (a∈ks),?_,hK⟩
 rw [ahJ] at hr;cases r with
 |none=>
  have:a∉ks:=λh=>by rw [ar h] at hr;simp at hr
  show Value.bool false=_;rw [Bc this]
 |some p=>
  have⟨n,u⟩:=p;by_cases ha:a∈ks
  ·rw [ar ha] at hr;simp only [fa,bc] at hr;show u=_;rw [hr,x8 ha]
  ·rw [an ha] at hr;simp at hr
structure Wt where
 h:Int
 mb:Nat
 ws:List Int
structure Gr where
 n:Int
 mi:Nat
 ins:List Int
 q:List Wt
 S:Sm
abbrev Wt.row (w:Wt):List Value:=[I w.h,.map (some w.mb)]
def rows (q:List Wt):List Value:=(q.map Wt.row).flatten
theorem vq:∀q:List Wt,(rows q).length=q.length*2
 |[]=>rfl
 |w::q=>by
  have e:rows (w::q)=w.row++rows q:=rfl
  rw [e,e_,vq q];simp;omega
theorem Yn (q p:List Wt):rows (q++p)=rows q++rows p:=by simp [rows]
theorem HK (q:List Wt)(j:Nat):(rows q).drop (j*2)=rows (q.drop j):=by
 have hw:∀c∈q.map Wt.row,c.length=2:=by intro c hc;obtain ⟨y,_,rfl⟩:=cL.1 hc;rfl
 have:=Mg (q.map Wt.row) j hw
 rw [<-List.map_drop] at this;exact this
def wA (w:Wt):ax:=im .i64 w.mb (kC w.ws)
def wm (q:List Wt):ax:=many (q.map wA)
theorem CZ {q:List Wt}{j:Nat}{w:Wt}(hj:q[j]? =some w):Sep H (wm q::L)↔Sep H (wA w::many ((q.take j).map wA++(q.drop (j+1)).map wA)::L):=by
 have e:q.map wA=(q.take j).map wA++([wA w]++(q.drop (j+1)).map wA):=by
  have⟨hl,hg⟩:=bJ.1 hj;have h1:q=q.take j++(w::q.drop (j+1)):=by rw [<-hg,<-zy hl,wN]
  conv=>lhs;rw [h1]
  rw [fh];rfl
 unfold wm;rw [e,Sep.axO,Sep.many1]
theorem aCK {q:List Wt}{j:Nat}{w w':Wt}(hj:q[j]? =some w):Sep H (wm (q.set j w')::L)↔Sep H (wA w'::many ((q.take j).map wA++(q.drop (j+1)).map wA)::L):=by
 have hl:=(bJ.1 hj).1;have h1:(q.set j w')[j]? =some w':=by rw [vD hl]
 rw [CZ h1,aax (bq _),List.drop_set_of_lt (by omega)]
theorem aCJ {q:List Wt}(p:Wt->Bool)(h:Sep H (wm q::L)):Sep H (wm (q.filter p)::L):=by
 have h1:=Sep.fX.1 h;refine Sep.fX.2 ?_;have h2:Sep H (L++q.map wA):=h1.perm FC;have hs:((q.filter p).map wA).Sublist (q.map wA):=aaG _ M_;exact (Sep.sub hs _ h2).perm FC
theorem aCL {q:List Wt}{w:Wt}(h:Sep H (wA w::wm q::L)):Sep H (wm (q++[w])::L):=by
 refine Sep.fX.2 ?_;have h1:=Sep.fX.1 (Sep.iE h);rw [fh];have e:q.map wA++[w].map wA++L=q.map wA++(wA w::L):=by simp
 rw [e];exact h1
theorem RC {b:Nat}{c:List Value}{q:List Wt}{j:Nat}{w:Wt}(hg:H.get b=some (.cells true 2 c))(hd:c.drop (j*2)=rows (q.drop j)++junk)(hl:j*2+2<=c.length)(hj:q[j]? =some w):H.aM b (0+j*2) 2=some w.row:=by
 rw [nT hg,cG];unfold fm;rw [ar hl,hd];have⟨hl,hg⟩:=bJ.1 hj;rw [zy hl,hg];rfl
abbrev ints (t:List Int):List Value:=t.map λv=>I v
theorem auH (s t:List Int):ints (s++t)=ints s++ints t:=fh
theorem ale {w:Wt}{f:Option Nat}{hs:List Int}(h:Sep H (bx i1 (.cells true 0 [P g])::bx i3 (.cells true 0 [.slice (addr f) hs.length 0])::gl 1 f (ints hs)::wA w::bx g (.cells true 0 (P m::gc))::mem m S::L))(hf:f=none->hs=[])(hl:hs.length<1000000)
  (hK:w.ws≠[]->∀H',Sep H' (bx i1 (.cells true 0 [P g])::bx i3 (.cells true 0 [.slice (addr f) hs.length 0])::gl 1 f (ints hs)::wA w::bx g (.cells true 0 (P m::gc))::mem m S::L)->R (.bool false) H')
  (hF:w.ws=[]->∀H' f',Sep H' (bx i1 (.cells true 0 [P g])::bx i3 (.cells true 0 [.slice (addr (some f')) (hs++[w.h]).length 0])::gl 1 (some f') (ints (hs++[w.h]))::wA w::bx g (.cells true 0 (P m::gc))::mem m (S.free w.h).2::L)->R (.bool true) H') :
  CA en F.Ph [.agg #[I w.h,.map (some w.mb)],P i1,P i3] H R:=by
 apply aAC;refine Sep.nw h λiw H2 h2=>⟨_,Sep.aG h2 rfl,auy (Sep.wG h2) ?_⟩
 rw [auX];refine aI (λc=>?_) λc=>?_
 ·have c:w.ws≠[]:=λe=>by rw [e] at c;simp at c
  exact hK c _ h2.tail
 ·have c:w.ws=[]:=by
   simp only [jF] at c;exact zB (by omega)
  have hB:=h2.ae 7;refine af ⟨_,Sep.bn hB rfl,af ⟨_,Sep.iL hB rfl,_,Sep.aG hB rfl,?_⟩⟩;refine afw (Sep.Fh hB) λcE gP=>⟨_,rfl,⟨af ⟨_,_,Sep.iV gP rfl,_,Sep.bn gP rfl,Sep.nw gP λi20 jZ mJ=>⟨[I w.h],oO (es:=1) (n:=1) (b:=i20) (Sep.gL mJ) (by decide) rfl,?_⟩⟩,trivial⟩⟩
  refine qo (b:=f) (len:=hs.length) (n:=1) (cs:=ints hs) (new:=[I w.h]) (Sep.MK mJ) (λh=>by rw [hf h];rfl) (by decide) (by simp) (by decide) rfl (by omega) λcR f' ij=>?_
  refine af (Sep.MA ij (aS rfl) λbN tL=>hF c bN f' ?_);have rm:=Sep.pick tL 8 [4,5,0,6,7,2];rw [e_,auH];exact rm
theorem HU {α:Type}{q:List α}{j:Nat}{w:α}(h:q[j]? =some w):q.take (j+1)=q.take j++[w]:=by rw [vC,h];rfl
def ne (w:Wt):Bool:= !w.ws.isEmpty
theorem ne_iff (w:Wt):ne w=true↔w.ws≠[]:=by unfold ne;cases w.ws<;>simp
def kept (q:List Wt):List Wt:=q.filter ne
def gone (q:List Wt):List Int:=(q.filter λw=> !ne w).map Wt.h
theorem W8 (q:List Wt)(w:Wt):kept (q++[w])=if w.ws=[] then kept q else kept q++[w]:=by
 unfold kept;rw [Fy];by_cases h:w.ws=[]
 ·have:ne w=false:=by unfold ne;rw [h];rfl
  simp [h,this]
 ·have:ne w=true:=(ne_iff w).2 h
  simp [h,this]
theorem Vn (q:List Wt)(w:Wt):gone (q++[w])=if w.ws=[] then gone q++[w.h] else gone q:=by
 unfold gone;rw [Fy,fh];by_cases h:w.ws=[]
 ·have:ne w=false:=by unfold ne;rw [h];rfl
  simp [h,this]
 ·have:ne w=true:=(ne_iff w).2 h
  simp [h,this]
theorem ahD {q:List Wt}(h:∀w∈q,w.ws≠[]):kept q=q:=Dg.2 λw hw=>(ne_iff w).2 (h w hw)
theorem Pc {q:List Wt}(h:∀w∈q,w.ws≠[]):gone q=[]:=by
 unfold gone;rw [List.filter_eq_nil_iff.2 λw hw=>by rw [(ne_iff w).2 (h w hw)];decide];rfl
def jH (S:Sm)(hs:List Int):Sm:=hs.foldl (λS h=>(S.free h).2) S
theorem arL (S:Sm)(hs:List Int)(h:Int):jH S (hs++[h])=((jH S hs).free h).2:=by unfold jH;rw [List.foldl_append];rfl
abbrev swF (i1 i3:Nat):Value:=.func (.func F.Ph) #[] #[P i1,P i3]
theorem aut {b:Option Nat}{q:List Wt}{n:Nat}(hn:n=q.length)(h:Sep H (bx i1 (.cells true 0 [P g])::bx i3 (.cells true 0 [.slice none 0 0])::gl 2 b (rows q++junk)::wm q::bx g (.cells true 0 (P m::gc))::mem m S::L))(hb:b=none->q=[])(hl:q.length<1000000)
  (hA:(∀w∈q,w.ws≠[])->∀H',Sep H' (bx i1 (.cells true 0 [P g])::bx i3 (.cells true 0 [.slice none 0 0])::gl 2 b (rows q++junk)::wm q::bx g (.cells true 0 (P m::gc))::mem m S::L)->R (I (-1)) H')
  (hF:∀(j:Nat) w,q[j]? =some w->w.ws=[]->(∀u∈q.take j,u.ws≠[])->∀H' f,Sep H' (bx i1 (.cells true 0 [P g])::bx i3 (.cells true 0 [.slice (addr (some f)) [w.h].length 0])::gl 1 (some f) (ints [w.h])::gl 2 b (rows q++junk)::wm q::bx g (.cells true 0 (P m::gc))::mem m (S.free w.h).2::L)->R (I j) H') :
  CA en F.RO [.slice (addr b) n 0,swF i1 i3] H R:=by
 subst hn;apply alQ;refine alz (λk t4 t8 H=>∃j:Nat,j<=q.length/\k=q.length - j/\t8=(j:Int)/\(∀u∈q.take j,u.ws≠[])/\Sep H (bx i1 (.cells true 0 [P g])::bx i3 (.cells true 0 [.slice none 0 0])::gl 2 b (rows q++junk)::wm q::bx g (.cells true 0 (P m::gc))::mem m S::L)) q.length ⟨0,by omega,rfl,rfl,by simp,h⟩ ?_;clear h;rintro k t4 t8 ys H3 ⟨j,hj,rfl,rfl,lA,hs⟩;refine aI (λh1=>?_) λh1=>?_
 ·have hG:j<q.length:=by simp only [gf] at h1;omega
  have⟨w,hw⟩:∃w,q[j]? =some w:=⟨_,cM hG⟩;cases b with
  |none=>rw [hb rfl] at hG;simp at hG
  |some b=>
   have hg:H3.get b=some (.cells true 2 (rows q++junk)):=Pa (Sep.qM hs);have sF:=RC (junk:=junk) (j:=j) (w:=w) hg (by rw [FD (by rw [vq];omega),HK]) (by rw [e_,vq];omega) hw;refine ⟨by unfold az;omega,bG ⟨_,_,sF,eQ ⟨dG.1 (by kernel_rfl),?_⟩⟩⟩;have h2:=(CZ hw).1 (Sep.k_ hs);have h3:Sep H3 (bx i1 (.cells true 0 [P g])::bx i3 (.cells true 0 [.slice (addr none) ([]:List Int).length 0])::gl 1 none (ints [])::wA w::bx g (.cells true 0 (P m::gc))::mem m S::many ((q.take j).map wA++(q.drop (j+1)).map wA)::gl 2 (some b) (rows q++junk)::L):=by
    have h4:=Sep.pick h2 7 [2,3,0,5,6,1,4];have h5:Sep H3 (bx i1 (.cells true 0 [P g])::bx i3 (.cells true 0 [.slice none 0 0])::wA w::bx g (.cells true 0 (P m::gc))::mem m S::many ((q.take j).map wA++(q.drop (j+1)).map wA)::gl 2 (some b) (rows q++junk)::L):=h4;exact Sep.qM (Sep.qM (kx.2 h5))
   refine ale h3 (λ_=>rfl) (by simp) (λaW H9 h9=>⟨_,rfl,bl rfl ?_⟩) λhe H9 f h9=>⟨_,rfl,cm rfl ?_⟩
   ·refine ⟨q.length - (j+1),by omega,j+1,by omega,rfl,?_,?_,?_⟩
    ·rw [wrap_i64 (by omega)];omega
    ·rw [HU hw];intro u hu;rcases dV.1 hu with hu|hu
     ·exact lA u hu
     ·simp at hu;subst hu;exact aW
    ·have eI:=Sep.pick h9 8 [3,6,0,1,7,4,5];have jo:Sep H9 (wA w::many ((q.take j).map wA++(q.drop (j+1)).map wA)::bx i1 (.cells true 0 [P g])::bx i3 (.cells true 0 [.slice none 0 0])::gl 2 (some b) (rows q++junk)::bx g (.cells true 0 (P m::gc))::mem m S::L):=eI;exact Sep.pick ((CZ hw).2 jo) 6 [1,2,3,0,4,5]
   ·refine wZ ?_;refine hF j w hw he lA _ f ?_;have eI:=Sep.pick h9 8 [3,6,0,1,2,7,4,5];have jo:Sep H9 (wA w::many ((q.take j).map wA++(q.drop (j+1)).map wA)::bx i1 (.cells true 0 [P g])::bx i3 (.cells true 0 [.slice (addr (some f)) [w.h].length 0])::gl 1 (some f) (ints [w.h])::gl 2 (some b) (rows q++junk)::bx g (.cells true 0 (P m::gc))::mem m (S.free w.h).2::L):=eI;exact Sep.pick ((CZ hw).2 jo) 7 [1,2,3,4,0,5,6]
 ·obtain rfl:j=q.length:=by simp only [jF] at h1;omega
  rw [wM] at lA;exact wZ (hA lA H3 hs)
end
section
variable {H H':aa} {R:Value->aa->Prop} {L:List ax} {g m i1 i3:Nat} {k a:Int} {S:Sm} {gc junk:List Value}
theorem auO (q:List Wt):(kept q).length<=q.length:=List.length_filter_le _ _
theorem W6:∀q:List Wt,(kept q).length+(gone q).length=q.length
 |[]=>rfl
 |w::q=>by
  have ih:=W6 q
  unfold kept gone at ih⊢
  rw [Ni,Ni]
  cases ne w<;>simp<;>simp at ih<;>omega
theorem aqL {b:Option Nat}{q:List Wt}{n:Nat}(hn:n=q.length)(h:Sep H (bx i1 (.cells true 0 [P g])::bx i3 (.cells true 0 [.slice none 0 0])::gl 2 b (rows q++junk)::wm q::bx g (.cells true 0 (P m::gc))::mem m S::L))(hb:b=none->q=[])(xj:b=none->junk=[])(hl:q.length<1000000)
  (hR:∀H' f QK,(f=none->gone q=[])->(b=none->QK=[])->Sep H' (bx i1 (.cells true 0 [P g])::bx i3 (.cells true 0 [.slice (addr f) (gone q).length 0])::gl 1 f (ints (gone q))::gl 2 b (rows (kept q)++QK)::wm (kept q)::bx g (.cells true 0 (P m::gc))::mem m (jH S (gone q))::L)->R (.slice (addr b) (kept q).length 0) H') :
  CA en F.Zm [.slice (addr b) n 0,swF i1 i3] H R:=by
 apply aBJ;refine aut hn h hb hl (λlA H2 h2=>⟨_,rfl,cm rfl ?_⟩) λj0 w0 Qx Ac kT H2 f0 h2=>⟨_,rfl,bl (by simp) ?_⟩
 ·have:=hR H2 none junk (λ_=>Pc lA) xj
  rw [ahD lA,Pc lA] at this;rw [hn];refine this ?_;have h3:Sep H2 (gl 1 none (ints [])::bx i1 (.cells true 0 [P g])::bx i3 (.cells true 0 [.slice none 0 0])::gl 2 b (rows q++junk)::wm q::bx g (.cells true 0 (P m::gc))::mem m S::L):=kx.2 h2;exact Sep.qM (Sep.qM h3)
 have Kq:=(bJ.1 Qx).1;subst hn;cases b with
 |none=>rw [hb rfl] at Kq;simp at Kq
 |some b=>
  have k0:kept (q.take (j0+1))=q.take j0:=by rw [HU Qx,W8,ar Ac,ahD kT]
  have g0:gone (q.take (j0+1))=[w0.h]:=by rw [HU Qx,Vn,ar Ac,Pc kT];rfl
  have lU:=vq q;refine ayJ (λk t5 t6 H=>∃(j f:Nat)(C:List Value),j<=q.length/\k=q.length - j/\t6=(j:Int)/\t5=((kept (q.take j)).length:Int)/\0<(gone (q.take j)).length/\C.length=(rows q++junk).length/\C.take ((kept (q.take j)).length*2)=rows (kept (q.take j))/\C.drop (j*2)=rows (q.drop j)++junk/\
   Sep H (bx i1 (.cells true 0 [P g])::bx i3 (.cells true 0 [.slice (addr (some f)) (gone (q.take j)).length 0])::gl 1 (some f) (ints (gone (q.take j)))::bx b (.cells true 2 C)::wm q::bx g (.cells true 0 (P m::gc))::mem m (jH S (gone (q.take j)))::L)) (q.length - (j0+1))
   ⟨j0+1,f0,rows q++junk,by omega,rfl,?_,?_,?_,rfl,?_,?_,?_⟩ ?_
  ·rw [wrap_i64 (by omega)];omega
  ·rw [k0,km];omega
  ·rw [g0];simp
  ·rw [k0,SQ (by rw [lU,km];omega)];have e:q=q.take j0++q.drop j0:=(wN _ _).symm
   conv=>lhs;rw [e,Yn]
   rw [SQ (by rw [vq];simp),Nv (by rw [vq];simp)]
  ·rw [FD (by rw [lU];omega),HK]
  ·rw [g0];have h3:=Sep.pick h2 7 [0,1,2,3,4,5,6];have h4:Sep H2 (bx i1 (.cells true 0 [P g])::bx i3 (.cells true 0 [.slice (addr (some f0)) [w0.h].length 0])::gl 1 (some f0) (ints [w0.h])::gl 2 (some b) (rows q++junk)::wm q::bx g (.cells true 0 (P m::gc))::mem m (S.free w0.h).2::L):=h3;exact Sep.pick (dN.1 (Sep.k_ h4)) 7 [1,2,3,0,4,5,6]
  clear h h2 Qx Ac kT Kq k0 g0;rintro k t5 t6 ys H3 ⟨j,f,C,hj,rfl,rfl,rfl,B5,Eh,Pt,VK,hs⟩;have Ku:=W6 (q.take j);rw [km,Nl hj] at Ku;have aDo:C.length=q.length*2+junk.length:=by rw [Eh,e_,lU]
  refine aI (λh1=>?_) λh1=>?_
  ·have hG:j<q.length:=by simp only [gf] at h1;omega
   have⟨w,hw⟩:∃w,q[j]? =some w:=⟨_,cM hG⟩;have GY:=HU hw;have sF:=RC (junk:=junk) (j:=j) (w:=w) (Sep.Vj hs) VK (by omega) hw;have hw1:IntKind.i64.wrap ((j:Int)+1)=((j+1:Nat):Int):=by rw [wrap_i64 (by omega)];omega
   refine ⟨by unfold az;omega,bG ⟨_,_,sF,Sep.nw hs λi5 H6 h6=>Sep.dp h6 (aS rfl) λH7 h7=>⟨_,_,Sep.jK h7 rfl,eQ ⟨dG.1 (by kernel_rfl),?_⟩⟩⟩⟩;have h7:Sep H7 (bx i5 (.cells true 0 w.row)::bx i1 (.cells true 0 [P g])::bx i3 (.cells true 0 [.slice (addr (some f)) (gone (q.take j)).length 0])::gl 1 (some f) (ints (gone (q.take j)))::bx b (.cells true 2 C)::wm q::bx g (.cells true 0 (P m::gc))::mem m (jH S (gone (q.take j)))::L):=h7;have h8:=(CZ hw).1 (Sep.MK h7);have h9:Sep H7 (bx i1 (.cells true 0 [P g])::bx i3 (.cells true 0 [.slice (addr (some f)) (gone (q.take j)).length 0])::gl 1 (some f) (ints (gone (q.take j)))::wA w::bx g (.cells true 0 (P m::gc))::mem m (jH S (gone (q.take j)))::bx i5 (.cells true 0 w.row)::many ((q.take j).map wA++(q.drop (j+1)).map wA)::bx b (.cells true 2 C)::L):=Sep.pick h8 9 [3,4,5,0,7,8,2,1,6];refine ale h9 (λh=>by cases h) (by omega) (λaW bt ig=>⟨_,rfl,cm rfl ?_⟩) λhe bt f' ig=>⟨_,rfl,bl rfl ?_⟩
   ·have ek:kept (q.take (j+1))=kept (q.take j)++[w]:=by rw [GY,W8,an aW]
    have eg:gone (q.take (j+1))=gone (q.take j):=by rw [GY,Vn,an aW]
    have sr:Sep bt (bx b (.cells true 2 C)::wA w::many ((q.take j).map wA++(q.drop (j+1)).map wA)::bx i1 (.cells true 0 [P g])::bx i3 (.cells true 0 [.slice (addr (some f)) (gone (q.take j)).length 0])::gl 1 (some f) (ints (gone (q.take j)))::bx g (.cells true 0 (P m::gc))::mem m (jH S (gone (q.take j)))::bx i5 (.cells true 0 w.row)::L):=Sep.pick ig 9 [8,3,7,0,1,2,4,5,6];refine ⟨_,_,Sep.QP sr rfl,by unfold az;omega,bG (Sep.dp sr (by rw [dr];simp only [gU,nM];omega) λbu fV=>?_)⟩;rw [cG,dr] at fV;have mJ:Sep bu (wA w::many ((q.take j).map wA++(q.drop (j+1)).map wA)::bx i1 (.cells true 0 [P g])::bx i3 (.cells true 0 [.slice (addr (some f)) (gone (q.take j)).length 0])::gl 1 (some f) (ints (gone (q.take j)))::bx b (.cells true 2 (setAt C ((kept (q.take j)).length*2) w.row))::bx g (.cells true 0 (P m::gc))::mem m (jH S (gone (q.take j)))::L):=Sep.pick fV 9 [1,2,3,4,5,0,6,7];have j_:=(CZ hw).2 mJ;have wl:w.row.length=2:=rfl;refine ⟨q.length - (j+1),by omega,j+1,f,setAt C ((kept (q.take j)).length*2) w.row,by omega,rfl,hw1,?_,?_,?_,?_,?_,?_⟩
    ·rw [ek,e_,wrap_i64 (by omega)];simp
    ·rw [eg];exact B5
    ·rw [Mn];exact Eh
    ·rw [ek,e_,Yn]
     have:=Zi w.row C ((kept (q.take j)).length*2) (by rw [wl];omega)
     rw [wl,Pt] at this;rw [show ((kept (q.take j)).length+[w].length)*2=(kept (q.take j)).length*2+2 by simp;omega,this];rfl
    ·rw [akY _ _ _ _ (by rw [wl];omega)]
     have:C.drop ((j+1)*2)=(C.drop (j*2)).drop 2:=by rw [A_];congr 1;omega
     rw [this,VK,FD (by rw [vq,C9];omega)];have h2:=HK (q.drop j) 1;rw [Ba,A_] at h2;rw [h2]
    ·rw [eg];exact Sep.pick j_ 7 [1,2,3,4,0,5,6]
   ·have ek:kept (q.take (j+1))=kept (q.take j):=by rw [GY,W8,ar he]
    have eg:gone (q.take (j+1))=gone (q.take j)++[w.h]:=by rw [GY,Vn,ar he]
    have sr:Sep bt (wA w::many ((q.take j).map wA++(q.drop (j+1)).map wA)::bx i1 (.cells true 0 [P g])::bx i3 (.cells true 0 [.slice (addr (some f')) (gone (q.take j)++[w.h]).length 0])::gl 1 (some f') (ints (gone (q.take j)++[w.h]))::bx b (.cells true 2 C)::bx g (.cells true 0 (P m::gc))::mem m ((jH S (gone (q.take j))).free w.h).2::L):=Sep.pick ig 9 [3,7,0,1,2,8,4,5];have iJ:=(CZ hw).2 sr;refine ⟨q.length - (j+1),by omega,j+1,f',C,by omega,rfl,hw1,by rw [ek],by rw [eg];simp,Eh,by rw [ek];exact Pt,?_,?_⟩
    ·have:C.drop ((j+1)*2)=(C.drop (j*2)).drop 2:=by rw [A_];congr 1;omega
     rw [this,VK,FD (by rw [vq,C9];omega)];have h2:=HK (q.drop j) 1;rw [Ba,A_] at h2;rw [h2]
    ·rw [eg,arL];exact Sep.pick iJ 7 [1,2,3,4,0,5,6]
  ·obtain rfl:j=q.length:=by simp only [jF] at h1;omega
   rw [wM] at Pt B5 hs Ku⊢;refine wZ ⟨by unfold vc;omega,⟨⟨_,_,_,Sep.Vj hs,.inr rfl⟩,?_⟩⟩;rw [dr];have hz:q.length - (kept q).length=(q.length - (kept q).length - 1)+1:=by omega
   generalize q.length - (kept q).length - 1=z at hz;rw [hz];have sy:zR en H3 123 (.slice (some ⟨b,0+(kept q).length*2,none⟩) (z+1) 0)=sV H3 b (0+(kept q).length*2) (fE (z+1) [I 0,.map none]):=by kernel_rfl
   have EE:(fE (z+1) [I 0,.map none]).length=(z+1)*2:=by
    have:∀n,(fE n [I 0,Value.map none]).length=n*2:=by
     intro n
     induction n with
     |zero=>rfl
     |succ n ih=>simp only [fE,e_,ih,gU,nM];omega
    exact this _
   show nR (zR en H3 123 (.slice (some ⟨b,0+(kept q).length*2,none⟩) (z+1) 0)) _;rw [sy];have cB:aq H3 b (0+(kept q).length*2) (fE (z+1) [I 0,.map none]) λH8=>vc ((kept q).length:Int) q.length/\E6 H8 (some ⟨b,0,none⟩) 2 0 (kept q).length λv9=>R v9 H8:=by
    refine Sep.HR hs (by rw [EE];omega) λH8 h8=>⟨by unfold vc;omega,⟨⟨_,_,_,Sep.Vj h8,.inr rfl⟩,?_⟩⟩
    have ht:(setAt C (0+(kept q).length*2) (fE (z+1) [I 0,.map none])).take ((kept q).length*2)=rows (kept q):=by rw [ak0 _ _ _ _ (by omega),Pt]
    have⟨J,pM⟩:∃J,setAt C (0+(kept q).length*2) (fE (z+1) [I 0,.map none])=rows (kept q)++J:=⟨(setAt C (0+(kept q).length*2) (fE (z+1) [I 0,.map none])).drop ((kept q).length*2),by rw [<-ht,wN]⟩;rw [pM] at h8;refine hR H8 (some f) J (λh=>by cases h) (λh=>by cases h) ?_;have h9:=dN.2 (Sep.k_ h8);have eI:Sep H8 (wm q::bx i1 (.cells true 0 [P g])::bx i3 (.cells true 0 [.slice (addr (some f)) (gone q).length 0])::gl 1 (some f) (ints (gone q))::gl 2 (some b) (rows (kept q)++J)::bx g (.cells true 0 (P m::gc))::mem m (jH S (gone q))::L):=Sep.pick h9 7 [4,1,2,3,0,5,6];exact Sep.pick (aCJ ne eI) 7 [1,2,3,4,0,5,6]
   have⟨H8,e8,k8⟩:=Zx cB;rw [e8];exact k8
end
section
variable {H H':aa} {R:Value->aa->Prop} {L:List ax} {g m i1 i3:Nat} {k a:Int} {S:Sm} {junk:List Value} {b:Option Nat} {G:Gr}
abbrev GS (g m:Nat)(b:Option Nat)(junk:List Value)(G:Gr)(L:List ax):List ax:=
 bx g (.cells true 0 [P m,I G.n,.map (some G.mi),.slice (addr b) G.q.length 0])::im .i64 G.mi (kC G.ins)::gl 2 b (rows G.q++junk)::wm G.q::mem m G.S::L
structure tw (H:aa)(g m:Nat)(G:Gr)(L:List ax):Prop where
 ex:∃b junk,(b=none->G.q=[])/\(b=none->junk=[])/\Sep H (GS g m b junk G L)
def Gr.nH (G:Gr):Gr:={G with q:=kept G.q,S:=jH G.S (gone G.q)}
theorem alg (hg:tw H g m G L)(hl:G.q.length<100000)(hR:∀H' f,(f=none->gone G.q=[])->tw H' g m G.nH (gl 1 f (ints (gone G.q))::L)->R (.slice (addr f) (gone G.q).length 0) H'):CA en F.Pg [P g] H R:=by
 have⟨b,junk,hb,xj,h⟩:=hg.ex;apply aAB;refine Sep.nw h λi1 H2 h2=>Sep.nw h2 λi3 H4 h4=>?_
 have hB:=h4.ae 10;refine ⟨_,Sep.bn hB rfl,_,Sep.bn hB rfl,af ⟨_,_,Sep.eK hB rfl,?_⟩⟩;have h5:Sep (H4.ae 10) (bx i1 (.cells true 0 [P g])::bx i3 (.cells true 0 [.slice none 0 0])::gl 2 b (rows G.q++junk)::wm G.q::bx g (.cells true 0 (P m::[I G.n,.map (some G.mi),.slice (addr b) G.q.length 0]))::mem m G.S::im .i64 G.mi (kC G.ins)::L):=Sep.pick hB 7 [1,0,4,5,2,6,3];refine aqL rfl h5 hb xj (by omega) λbO f QK hf hj fA=>⟨_,_,rfl,af (Sep.MA fA (aS rfl) λaQ g_=>⟨⟨_,_,Sep.bn g_ rfl,Sep.lK g_ (aS rfl) λgg j_=>⟨_,_,Sep.bn j_ rfl,?_⟩⟩,⟨⟨_,Sep.bn hB rfl,rfl⟩,⟨_,Sep.aG fA rfl,rfl⟩,trivial⟩,trivial⟩)⟩
 refine hR gg f hf ⟨b,QK,λe=>?_,hj,Sep.pick j_ 8 [5,7,3,4,6,2]⟩;show kept G.q=[];rw [hb e];rfl
theorem aCC (hg:tw H g m G L)(hR:R (I G.q.length) H):CA en F.Vp [P g] H R:=by
 have⟨b,junk,hb,xj,h⟩:=hg.ex;apply aAA;exact af ⟨_,_,Sep.aG h rfl,hR⟩
def Gr.enter (G:Gr)(a:Int):Bool×Gr:=if a<0∨G.n<=a∨a∈G.ins then (false,G) else (true,{G with ins:=G.ins++[a]})
theorem ard (hg:tw H g m G L)(hR:∀H',tw H' g m (G.enter a).2 L->R (.bool (G.enter a).1) H'):CA en F.Pf [P g,I a] H R:=by
 have⟨b,junk,hb,xj,h⟩:=hg.ex;apply aAy;have no:(a<0∨G.n<=a∨a∈G.ins)->R (.bool false) H:=λhc=>by
  have:=hR H
  unfold Gr.enter at this;rw [ar hc] at this;exact this hg
 refine aI (λc=>no (.inl (by simpa using c))) λc=>af ⟨_,Sep.aG h rfl,aI (λd=>no (.inr (.inl (by simpa using d)))) λd=>af ⟨_,Sep.aG h rfl,ahi (Sep.iE h) a (aI (λe=>no (.inr (.inr (by simpa using e)))) λe=>af ⟨_,Sep.aG h rfl,auB (Sep.iE h) λbO fA=>?_⟩)⟩⟩
 have c:¬a<0:=by simpa using c
 have d:¬G.n<=a:=by simpa using d
 have e:a∉G.ins:=by simpa using e
 have:=hR bO
 unfold Gr.enter at this;rw [an (by simp only [not_or];exact ⟨c,d,e⟩)] at this;rw [ahK e] at fA;exact this ⟨b,junk,hb,xj,Sep.iE fA⟩
def er (a:Int)(w:Wt):Wt:={w with ws:=w.ws.erase a}
theorem aw4 (a:Int)(q:List Wt):rows (q.map (er a))=rows q:=by
 unfold rows;rw [Il];rfl
def Gr.left (G:Gr)(a:Int):Gr:={G with ins:=G.ins.erase a,q:=G.q.map (er a)}
def Gr.leave (G:Gr)(a:Int):List Int×Gr:=if a∈G.ins then (gone (G.left a).q,(G.left a).nH) else ([],G)
theorem avf (hg:tw H g m G L)(hl:G.q.length<100000)(hR:∀H' f,(f=none->(G.leave a).1=[])->tw H' g m (G.leave a).2 (gl 1 f (ints (G.leave a).1)::L)->R (.slice (addr f) (G.leave a).1.length 0) H'):CA en F.Vo [P g,I a] H R:=by
 have⟨b,junk,hb,xj,h⟩:=hg.ex;apply aAz;refine af ⟨_,Sep.aG h rfl,ahi (Sep.iE h) a (aI (λc=>?_) λc=>?_)⟩
 ·have c:a∉G.ins:=by simpa using c
  have:=hR H none
  unfold Gr.leave at this;rw [an c] at this;refine this (λ_=>rfl) ⟨b,junk,hb,xj,?_⟩;exact Sep.pick (kx.2 h:Sep H (gl 1 none (ints [])::GS g m b junk G L)) 6 [1,2,3,4,5,0]
 ·have c:a∈G.ins:=by simpa using c
  refine af ⟨_,Sep.aG h rfl,ahe (Sep.iE h) λH9 h9=>?_⟩;rw [Xa] at h9;have h9:Sep H9 (bx g (.cells true 0 [P m,I G.n,.map (some G.mi),.slice (addr b) G.q.length 0])::im .i64 G.mi (kC (G.ins.erase a))::gl 2 b (rows G.q++junk)::wm G.q::mem m G.S::L):=Sep.iE h9;refine af ⟨_,_,Sep.aG h9 rfl,?_⟩;refine ayH (λk t24 H=>∃j:Nat,j<=G.q.length/\k=G.q.length - j/\t24=(j:Int)/\Sep H (bx g (.cells true 0 [P m,I G.n,.map (some G.mi),.slice (addr b) G.q.length 0])::im .i64 G.mi (kC (G.ins.erase a))::gl 2 b (rows G.q++junk)::wm ((G.q.take j).map (er a)++G.q.drop j)::mem m G.S::L)) G.q.length ⟨0,by omega,rfl,rfl,by simpa using h9⟩ ?_;clear h h9;rintro k t24 ys H3 ⟨j,hj,rfl,rfl,hs⟩;refine aI (λh1=>?_) λh1=>?_
  ·have hG:j<G.q.length:=by simp only [gf] at h1;omega
   have⟨w,hw⟩:∃w,G.q[j]? =some w:=⟨_,cM hG⟩;cases b with
   |none=>rw [hb rfl] at hG;simp at hG
   |some b=>
    have hgb:H3.get b=some (.cells true 2 (rows G.q++junk)):=Pa (Sep.qM hs);have sF:=RC (junk:=junk) (j:=j) (w:=w) hgb (by rw [FD (by rw [vq];omega),HK]) (by rw [e_,vq];omega) hw;have aE:((G.q.take j).map (er a)).length=j:=by rw [gb,km];omega
    have KI:((G.q.take j).map (er a)++G.q.drop j)[j]? =some w:=by
     rw [ya (by omega),aE,x6,Bd,Fz];exact hw
    refine ⟨by unfold az;omega,bG ⟨_,_,sF,Sep.nw hs λi5 H6 h6=>Sep.dp h6 (aS rfl) λH7 h7=>⟨_,Sep.aG h7 rfl,?_⟩⟩⟩;have h8:=(CZ KI).1 (Sep.wG h7);refine ahe h8 λH9 h9=>⟨G.q.length - (j+1),by omega,j+1,by omega,rfl,?_,?_⟩
    ·rw [wrap_i64 (by omega)];omega
    ·rw [Xa] at h9;have eI:=(aCK (w':=er a w) KI).2 h9;have e:((G.q.take j).map (er a)++G.q.drop j).set j (er a w)=(G.q.take (j+1)).map (er a)++G.q.drop (j+1):=by
      have⟨Ew,sC⟩:=bJ.1 hw;rw [M8 _ _ (by omega),aE,x6,zy Ew,Nd,HU hw,fh,mC];rfl
     rw [e] at eI;exact Sep.pick eI 6 [2,3,4,0,5]
  ·obtain rfl:j=G.q.length:=by simp only [jF] at h1;omega
   rw [wM,Nj,C7] at hs;have hL:tw H3 g m (G.left a) L:=⟨b,junk,λe=>by show G.q.map _=[];rw [hb e];rfl,xj,by
    show Sep H3 (bx g (.cells true 0 [P m,I G.n,.map (some G.mi),.slice (addr b) (G.q.map (er a)).length 0])::im .i64 G.mi (kC (G.ins.erase a))::gl 2 b (rows (G.q.map (er a))++junk)::wm (G.q.map (er a))::mem m G.S::L);rw [aw4,gb];exact hs⟩
   have wc:G.leave a=(gone (G.left a).q,(G.left a).nH):=ar c;rw [wc] at hR;refine alg hL (by show (G.q.map (er a)).length<_;rw [gb];exact hl) λaQ f hf g_=>⟨_,_,rfl,hR aQ f hf g_⟩
theorem aqI {w:Wt}{h:Int}(hs:Sep H (bx i1 (.cells true 0 [I h])::L))(hR:∀H',Sep H' (bx i1 (.cells true 0 [I h])::L)->R (.bool (w.h==h)) H'):CA en F.Pe [.agg #[I w.h,.map (some w.mb)],P i1] H R:=by
 apply aAx;exact Sep.nw hs λi H2 h2=>⟨_,Sep.aG h2 rfl,af ⟨_,Sep.bn h2 rfl,hR _ h2.tail⟩⟩
theorem asy {q:List Wt}{n:Nat}{h:Int}(hn:n=q.length)(hs:Sep H (bx i1 (.cells true 0 [I h])::gl 2 b (rows q++junk)::L))(hb:b=none->q=[])(hl:q.length<1000000)
  (hR:∀H',Sep H' (bx i1 (.cells true 0 [I h])::gl 2 b (rows q++junk)::L)->R (.bool (decide (h∈q.map Wt.h))) H') :
  CA en F.Zl [.slice (addr b) n 0,.func (.func F.Pe) #[] #[P i1]] H R:=by
 subst hn;apply aBI;apply alQ;refine alz (λk t4 t8 H=>∃j:Nat,j<=q.length/\k=q.length - j/\t8=(j:Int)/\(∀u∈q.take j,u.h≠h)/\Sep H (bx i1 (.cells true 0 [I h])::gl 2 b (rows q++junk)::L)) q.length ⟨0,by omega,rfl,rfl,by simp,hs⟩ ?_;clear hs;rintro k t4 t8 ys H3 ⟨j,hj,rfl,rfl,lA,hs⟩;refine aI (λh1=>?_) λh1=>?_
 ·have hG:j<q.length:=by simp only [gf] at h1;omega
  have⟨w,hw⟩:∃w,q[j]? =some w:=⟨_,cM hG⟩;cases b with
  |none=>rw [hb rfl] at hG;simp at hG
  |some b=>
   have hg:H3.get b=some (.cells true 2 (rows q++junk)):=Pa (Sep.iE hs);have sF:=RC (junk:=junk) (j:=j) (w:=w) hg (by rw [FD (by rw [vq];omega),HK]) (by rw [e_,vq];omega) hw;refine ⟨by unfold az;omega,bG ⟨_,_,sF,eQ ⟨dG.1 (by kernel_rfl),aqI hs λH9 h9=>⟨_,rfl,aI (λe=>?_) λe=>?_⟩⟩⟩⟩
   ·have e:w.h=h:=by simpa using e
    refine wZ ⟨_,rfl,?_⟩
    have:=hR H9 h9
    rw [x8 (cL.2 ⟨w,dF hw,e⟩)] at this;have e2:decide (((j:Nat):Int)≥0)=true:=by simp
    rw [e2];exact this
   ·have e:¬w.h=h:=by simpa using e
    refine ⟨q.length - (j+1),by omega,j+1,by omega,rfl,?_,?_,h9⟩
    ·rw [wrap_i64 (by omega)];omega
    ·rw [HU hw];intro u hu;rcases dV.1 hu with hu|hu
     ·exact lA u hu
     ·simp at hu;subst hu;exact e
 ·obtain rfl:j=q.length:=by simp only [jF] at h1;omega
  rw [wM] at lA;refine wZ ⟨_,rfl,?_⟩
  have:=hR H3 hs
  rw [Bc (λhc=>by have⟨w,hw,e⟩:=cL.1 hc;exact lA w hw e)] at this;exact this
theorem auw {ik:IntKind}{b:Nat}{l:KV}(h:Sep H (im ik b l::L)){K:Nat->aa->Prop}(hK:∀b' H',Sep H' (im ik b' l::im ik b l::L)->K b' H'):Ui H (some b) K:=by
 have⟨es,c,h1,h2⟩:=h.head;refine ⟨b,es,c,rfl,h1,Sep.nw h λb' H' h'=>hK b' H' ?_⟩;have h3:H'.get b'=some (.map es c):=Sep.gL h';exact h'.dt (S:=[]) (aX.refl _ _) (by simp) ⟨es,c,h3,h2⟩ (by simp [im,bx]) (by simp [im]) (by
  intro j hj;simp only [im,fo] at hj;subst hj;exact h'.D5 (by simp [bx]))
def Gr.add (G:Gr)(h:Int)(mb:Nat):Gr:={G with q:=G.q++[⟨h,mb,G.ins⟩]}
def Gr.defer (G:Gr)(h:Int)(mb:Nat):List Int×Gr:=if G.S.size h=0∨h∈G.q.map Wt.h then ([],G) else (gone (G.add h mb).q,(G.add h mb).nH)
theorem aqK {h:Int}(hg:tw H g m G L)(hl:G.q.length<10000)(hR:∀H' f mb,(f=none->(G.defer h mb).1=[])->tw H' g m (G.defer h mb).2 (gl 1 f (ints (G.defer h mb).1)::L)->R (.slice (addr f) (G.defer h mb).1.length 0) H'):CA en F.JP [P g,I h] H R:=by
 have⟨b,junk,hb,xj,hs⟩:=hg.ex;apply aAw;have no:∀H',(G.S.size h=0∨h∈G.q.map Wt.h)->Sep H' (GS g m b junk G L)->R (.slice none 0 0) H':=λH' hc h'=>by
  have:=hR H' none 0
  unfold Gr.defer at this;rw [ar hc] at this;refine this (λ_=>rfl) ⟨b,junk,hb,xj,?_⟩;exact Sep.pick (kx.2 h':Sep H' (gl 1 none (ints [])::GS g m b junk G L)) 6 [1,2,3,4,5,0]
 refine Sep.nw hs λi1 H2 h2=>?_
 have hB:=h2.ae 15;refine af ⟨_,Sep.bn hB rfl,_,Sep.aG hB rfl,?_⟩;refine axJ (Sep.MK hB) ⟨_,rfl,aI (λc=>⟨no _ (.inl (by simpa using c)) hB.tail,trivial⟩) λc=>?_⟩;have c:G.S.size h≠0:=by intro e;rw [e] at c;simp at c
 refine af ⟨_,_,Sep.bn hB rfl,?_⟩;have h3:Sep (H2.ae 15) (bx i1 (.cells true 0 [I h])::gl 2 b (rows G.q++junk)::bx g (.cells true 0 [P m,I G.n,.map (some G.mi),.slice (addr b) G.q.length 0])::im .i64 G.mi (kC G.ins)::wm G.q::mem m G.S::L):=Sep.pick hB 6 [0,3,1,2,4,5];refine asy rfl h3 hb (by omega) λcz sr=>⟨_,rfl,⟨aI (λd=>?_) λd=>?_,trivial⟩⟩
 ·exact no _ (.inr (by simpa using d)) (Sep.pick sr 6 [2,3,1,4,5])
 ·have d:h∉G.q.map Wt.h:=by simpa using d
  have iJ:=sr.ae 17;refine af ⟨_,_,Sep.eK iJ rfl,_,Sep.aG iJ rfl,af ⟨_,Sep.eK iJ rfl,?_⟩⟩;apply aBH;refine bl rfl (auw (Sep.k_ iJ) λmb eC tK=>⟨_,rfl,Sep.nw tK λi28 fq rm=>⟨[I h,.map (some mb)],oO (es:=2) (n:=1) (b:=i28) (Sep.gL rm) (by decide) rfl,?_⟩⟩);have lU:=vq G.q;refine apk (b:=b) (es:=2) (len:=G.q.length) (n:=1) (tc:=rows G.q++junk) (new:=[I h,.map (some mb)]) (Sep.wG rm) (λe=>by rw [hb e];rfl) (by decide) (by rw [e_,lU];omega) (by decide) rfl (by omega) λnO b' CU e1 e2 JQ=>?_
  have e0:(rows G.q++junk).take (G.q.length*2)=rows G.q:=by
   rw [SQ (by omega)];exact Nv (by omega)
  rw [e0] at e1;have Ec:Sep nO (bx g (.cells true 0 [P m,I G.n,.map (some G.mi),.slice (addr b) G.q.length 0])::im .i64 G.mi (kC G.ins)::gl 2 (some b') CU::wA ⟨h,mb,G.ins⟩::wm G.q::mem m G.S::L):=Sep.pick JQ 8 [5,3,0,2,6,7];refine af (Sep.dp Ec (aS rfl) λmF qw=>⟨?_,⟨⟨_,Sep.aG iJ rfl,rfl⟩,⟨_,Sep.eK tK rfl,rfl⟩,trivial⟩,⟨⟨_,_,Sep.eK iJ rfl,rfl,rfl,rfl⟩,⟨_,_,Sep.lD tK rfl,rfl,rfl,rfl⟩,⟨_,_,Sep.iL rm rfl,rfl,rfl,rfl⟩,trivial⟩,trivial⟩);have vV:=aCL (Sep.pick qw 6 [3,4,0,1,2,5]:Sep mF (wA ⟨h,mb,G.ins⟩::wm G.q::bx g (.cells true 0 [P m,I G.n,.map (some G.mi),.slice (addr (some b')) (G.q.length+1) 0])::im .i64 G.mi (kC G.ins)::gl 2 (some b') CU::mem m G.S::L));have⟨J,hJ⟩:∃J,CU=rows (G.q++[⟨h,mb,G.ins⟩])++J:=⟨CU.drop ((G.q.length+1)*2),by
   rw [Yn]
   have:rows [⟨h,mb,G.ins⟩]=[I h,.map (some mb)]:=rfl
   rw [this,<-e1,wN]⟩
  rw [hJ] at vV;have hlen:(G.q++[(⟨h,mb,G.ins⟩:Wt)]).length=G.q.length+1:=by simp
  have hA:tw mF g m (G.add h mb) L:=⟨some b',J,(λh=>by cases h),(λh=>by cases h),by
   show Sep mF (bx g (.cells true 0 [P m,I G.n,.map (some G.mi),.slice (addr (some b')) (G.q++[(⟨h,mb,G.ins⟩:Wt)]).length 0])::im .i64 G.mi (kC G.ins)::gl 2 (some b') (rows (G.q++[(⟨h,mb,G.ins⟩:Wt)])++J)::wm (G.q++[(⟨h,mb,G.ins⟩:Wt)])::mem m G.S::L);rw [hlen];exact Sep.pick vV 5 [1,2,3,0,4]⟩
  have hdf:G.defer h mb=(gone (G.add h mb).q,(G.add h mb).nH):=an (by simp only [not_or];exact ⟨c,d⟩);refine alg hA (by show (G.q++[(⟨h,mb,G.ins⟩:Wt)]).length<_;rw [hlen];omega) λp9 f hf BU=>⟨_,_,rfl,?_⟩
  have:=hR p9 f mb
  rw [hdf] at this;exact this hf BU
end
section
variable {G:Gr} {a h k:Int} {q:List Wt}
theorem Vm:h∈gone q↔∃w∈q,w.ws=[]/\w.h=h:=by
 unfold gone;rw [cL];constructor
 ·rintro ⟨w,hw,e⟩;rw [wL] at hw;refine ⟨w,hw.1,?_,e⟩;by_cases hn:w.ws=[]
  ·exact hn
  ·have:=(ne_iff w).2 hn
   rw [this] at hw;simp at hw
 ·rintro ⟨w,hw,hn,e⟩;refine ⟨w,wL.2 ⟨hw,?_⟩,e⟩;unfold ne;rw [hn];rfl
theorem W7:h∈(kept q).map Wt.h↔∃w∈q,w.ws≠[]/\w.h=h:=by
 unfold kept;rw [cL];constructor
 ·rintro ⟨w,hw,e⟩;rw [wL] at hw;exact ⟨w,hw.1,(ne_iff w).1 hw.2,e⟩
 ·rintro ⟨w,hw,hn,e⟩;exact ⟨w,wL.2 ⟨hw,(ne_iff w).2 hn⟩,e⟩
theorem akS:∀{q:List Wt},(q.map Wt.h).Nodup->∀{w w':Wt},w∈q->w'∈q->w.h=w'.h->w=w'
 |[],_,_,_,h1,_,_=>by simp at h1
 |x::q,nd,w,w',h1,h2,e=>by
  rw [lL,l_] at nd
  rcases dU.1 h1 with h1|h1
  ·rcases dU.1 h2 with h2|h2
   ·rw [h1,h2]
   ·exact (nd.1 (cL.2 ⟨w',h2,by rw [<-e,h1]⟩)).elim
  ·rcases dU.1 h2 with h2|h2
   ·exact (nd.1 (cL.2 ⟨w,h1,by rw [e,h2]⟩)).elim
   ·exact akS nd.2 h1 h2 e
theorem afI (nd:(q.map Wt.h).Nodup)(h1:h∈gone q):h∉(kept q).map Wt.h:=λh2=>by
 have⟨w,hw,e,eh⟩:=Vm.1 h1
 have⟨w',KI,e',eh'⟩:=W7.1 h2
 exact e' (akS nd hw KI (eh.trans eh'.symm)▸e)
theorem afJ (h1:h∈gone q):h∈q.map Wt.h:=by
 have⟨w,hw,_,e⟩:=Vm.1 h1;exact cL.2 ⟨w,hw,e⟩
theorem auQ (h1:h∈(kept q).map Wt.h):h∈q.map Wt.h:=by
 have⟨w,hw,_,e⟩:=W7.1 h1;exact cL.2 ⟨w,hw,e⟩
theorem arY (nd:(q.map Wt.h).Nodup):(gone q).Nodup:=List.Sublist.nodup (aaG _ M_) nd
theorem auP (nd:(q.map Wt.h).Nodup):((kept q).map Wt.h).Nodup:=List.Sublist.nodup (aaG _ M_) nd
structure FP (G:Gr):Prop where
 ind:G.ins.Nodup
 nd:(G.q.map Wt.h).Nodup
 ws:∀w∈G.q,(∀a∈w.ws,a∈G.ins)/\w.ws.Nodup
structure Ok (G:Gr):Prop extends FP G where
 full:∀w∈G.q,w.ws≠[]
theorem FP.nH (p:FP G):Ok G.nH:=by
 refine ⟨⟨p.ind,auP p.nd,λw hw=>p.ws w (wL.1 hw).1⟩,λw hw=>(ne_iff w).1 (wL.1 hw).2⟩
theorem aix (a:Int)(q:List Wt):(q.map (er a)).map Wt.h=q.map Wt.h:=by rw [Il];rfl
theorem Ok.left (p:Ok G):FP (G.left a):=by
 refine ⟨p.ind.erase a,?_,λw hw=>?_⟩
 ·show ((G.q.map (er a)).map Wt.h).Nodup;rw [aix];exact p.nd
 ·obtain ⟨u,hu,rfl⟩:=cL.1 hw;refine ⟨λb hb=>?_,(p.ws u hu).2.erase a⟩;have PY:b∈u.ws.erase a:=hb;rw [(p.ws u hu).2.mem_erase_iff] at PY;show b∈G.ins.erase a;rw [p.ind.mem_erase_iff];exact ⟨PY.1,(p.ws u hu).1 b PY.2⟩
theorem Ok.leave (p:Ok G):Ok (G.leave a).2:=by
 unfold Gr.leave;split
 ·exact p.left.nH
 ·exact p
theorem Ok.add {mb:Nat}(p:Ok G)(h:Int)(hn:h∉G.q.map Wt.h):FP (G.add h mb):=by
 refine ⟨p.ind,?_,λw hw=>?_⟩
 ·show ((G.q++[_]).map Wt.h).Nodup;rw [fh];exact jG.2 ⟨p.nd,by simp,λx hx y hy e=>by simp at hy;subst hy;subst e;exact hn hx⟩
 ·rcases dV.1 hw with hw|hw
  ·exact p.ws w hw
  ·simp at hw;subst hw;exact ⟨λa h=>h,p.ind⟩
theorem ave:(G.leave a).2.q.length<=G.q.length:=by
 unfold Gr.leave;split
 ·exact wK (auO _) (by show (G.q.map (er a)).length<=_;simp)
 ·exact bq _
theorem avd (p:Ok G):k∈(G.leave a).2.ins↔k∈G.ins/\k≠a:=by
 unfold Gr.leave;split
 ·show k∈G.ins.erase a↔_;rw [p.ind.mem_erase_iff];exact and_comm
 ·rename_i h;exact ⟨λh1=>⟨h1,λe=>h (e▸h1)⟩,λh=>h.1⟩
end
section
variable (H:aa)(R:VH)
set_option maxRecDepth 100000
set_option maxHeartbeats 2000000
theorem aBB (x0:Oa)(x1 x2:Int) :
  (aC H (.cells true 0 [(pt x0),(iI x1),(iI x2),(iU 0),.nilFunc]) λi1 H2=>aq H2 i1 4 [(.func (.func F.QW) #[(pt (ad i1))] #[])] λH3=>R (pt (ad i1)) H3)->
  CA en F.Xo [(pt x0),(iI x1),(iI x2)] H R:=vk (by kernel_rfl)
theorem aBC (x0:Oa) :
  (aA x0 λi1 i2=>∃v3,H.cell i1 (i2+4)=some v3/\AS.kQ v3 λf4 l5 l6=>(∃fn,en.fn f4=some fn)/\CA en f4 (l5++[]++l6) H λv7 H8=>∃b9,v7=(bb b9)/\R (bb b9) H8)->
  CA en F.Xp [(pt x0)] H R:=vk (by kernel_rfl)
theorem aBA (x0:Oa)(x1 x2:Int) :
  (CA en F.QZ [(pt x0),(iI x1),(iI (IntKind.i64.wrap (x2+1)))] H λv1 H2=>∃n3 b4,v1=(.tuple #[(iU n3),(bb b4)])/\R (bb b4) H2)->
  CA en F.QV [(pt x0),(iI x1),(iI x2)] H R:=vk (by kernel_rfl)
theorem aBD (x0:Oa) :
  (aA x0 λi1 i2=>∃a3,(H.ae 18).cell i1 i2=some (pt a3)/\aA x0 λi4 i5=>∃n6,(H.ae 18).cell i4 (i5+1)=some (iI n6)/\aA x0 λi7 i8=>∃n9,(H.ae 18).cell i7 (i8+2)=some (iI n9)/\CA en F.QZ [(pt a3),(iI n6),(iI n9)] (H.ae 18) λv10 cj=>∃bH pB,v10=(.tuple #[(iU bH),(bb pB)])/\(bif pB then (aA x0 λi14 i15=>aq cj i14 (i15+3) [(iU bH)] λgC=>aA x0 λi17 i18=>aq gC i17 (i18+4) [(.func (.func F.QY) #[(pt x0)] #[])] λbf=>R (bb false) bf) else (R (bb false) cj))/\True)->
  CA en F.QW [(pt x0)] H R:=vk (by kernel_rfl)
theorem aBG (x0:Oa)(x1 x2:Int) :
  (CA en F.xU [(pt x0),(iI x1),(iI x2),(iI 0),(iU 18446744073709551615),(iU 1)] H λv1 H2=>∃n3 b4,v1=(.tuple #[(iU n3),(bb b4)])/\R (.tuple #[(iU n3),(bb b4)]) H2)->
  CA en F.QZ [(pt x0),(iI x1),(iI x2)] H R:=vk (by kernel_rfl)
theorem aBF (x0:Oa) :
  (aA x0 λi1 i2=>∃a3,(H.ae 19).cell i1 i2=some (pt a3)/\aA x0 λi4 i5=>∃n6,(H.ae 19).cell i4 (i5+1)=some (iI n6)/\aA x0 λi7 i8=>∃n9,(H.ae 19).cell i7 (i8+2)=some (iI n9)/\CA en F.pV [(pt a3),(iI n6),(iI (IntKind.i64.wrap (n9+1)))] (H.ae 19) λv10 cj=>∃bH pB,v10=(.tuple #[(iU bH),(bb pB)])/\(bif (!pB) then (R (bb false) cj) else (aA x0 λi14 i15=>∃dy,cj.cell i14 (i15+3)=some (iU dy)/\bif (bH !=dy) then (R (bb false) cj) else (aA x0 λi17 i18=>aq cj i17 (i18+4) [(.func (.func F.QX) #[(pt x0)] #[])] λbf=>R (bb true) bf)))/\True)->
  CA en F.QY [(pt x0)] H R:=vk (by kernel_rfl)
theorem aBE (x0:Oa) :
  (R (bb true) H)->
  CA en F.QX [(pt x0)] H R:=vk (by kernel_rfl)
end
section
variable {m:Nat}
theorem o_ {n:Int}(h: -9223372036854775808<=n/\n<9223372036854775808):wr n=n:=wrap_i64 h
def tkc (m i:Nat)(t:BitVec 64)(f b:Nat):List Value:=[P m,I 1,I i,W t,.func (.func f) #[P b] #[]]
abbrev tk (m i:Nat)(t:BitVec 64)(f b:Nat):ax:=bx b (.cells true 0 (tkc m i t f b))
end
section
variable (H:aa)(R:VH)
set_option maxRecDepth 100000
set_option maxHeartbeats 2000000
theorem aAu (x0:Int) :
  (aC H (.cells true 0 [(iI 0),(bb false),(bb false),s0,(bb false)]) λi1 H2=>aC H2 (.cells true 1 [(iI 1),(iI 2),(iI 4)]) λi3 H4=>aC H4 (.cells true 1 [(iI 6),(iI 7),(iI 8)]) λi5 H6=>aC H6 (.cells true 1 [(iI 3),(iI 5)]) λi7 H8=>∃l9,rowOf H8 1 (ad i3) 3=some l9/\iT H8 8 1 (ad i7) 2 3 l9 λgx i11 bO=>aC bO (.cells true 1 [(iI 3)]) λi13 bt=>∃Cj,rowOf bt 1 (ad i3) 3=some Cj/\iT bt 8 1 (ad i13) 1 3 Cj λjR i17 gv=>aC gv (.cells true 1 [(iI 6),(iI 8)]) λi19 bu=>aC bu (.cells true 0 [(iI 0),(bb false),(bb false),s0,(bb false),(iI 0),(bb false),(bb false),s0,(bb false),(iI 0),(bb false),(bb false),s0,(bb false),(iI 0),(bb false),(bb false),s0,(bb false),(iI 0),(bb false),(bb false),s0,(bb false),(iI 0),(bb false),(bb false),s0,(bb false),(iI 0),(bb false),(bb false),s0,(bb false),(iI 0),(bb false),(bb false),s0,(bb false),(iI 0),(bb false),(bb false),s0,(bb false),(iI 0),(bb false),(bb false),s0,(bb false),(iI 0),(bb false),(bb false),s0,(bb false)]) λi21 gg=>aq gg i21 0 [(iI 0),(bb false),(bb false),s0,(bb false),(iI 1),(bb false),(bb false),(sl (ad i3) 3),(bb false),(iI 1),(bb false),(bb false),(sl (ad i3) 3),(bb false),(iI 4),(bb false),(bb false),(sl (ad i3) 3),(bb false),(iI 1),(bb true),(bb false),(sl gx i11),(bb true),(iI 1),(bb false),(bb false),(sl gx i11),(bb false),(iI 4),(bb false),(bb false),(sl (ad i5) 3),(bb false),(iI 4),(bb false),(bb false),(sl (ad i5) 3),(bb false),(iI 1),(bb true),(bb false),(sl (ad i19) 2),(bb false),(iI 1),(bb false),(bb true),(sl jR i17),(bb false),(iI 1),(bb true),(bb true),(sl jR i17),(bb true)] λaZ=>bif (decide (x0<1)) then (aq aZ i1 0 [(iI 0),(bb false),(bb false),s0,(bb false)] λbM=>∃cc q_ se eF i29 m_,bM.aM i1 0 5=some [(iI cc),(bb q_),(bb se),(sl eF i29),(bb m_)]/\R (.tuple #[(.agg #[(iI cc),(bb q_),(bb se),(sl eF i29),(bb m_)]),(bb false)]) bM) else (bif (decide (x0≥11)) then (aq aZ i1 0 [(iI 0),(bb false),(bb false),s0,(bb false)] λft=>∃fZ uP Jf iS i36 b37,ft.aM i1 0 5=some [(iI fZ),(bb uP),(bb Jf),(sl iS i36),(bb b37)]/\R (.tuple #[(.agg #[(iI fZ),(bb uP),(bb Jf),(sl iS i36),(bb b37)]),(bb false)]) ft) else (az x0 11/\∃mv Jg w7 gY i42 BI,aZ.aM i21 (0+(x0.toNat*5)) 5=some [(iI mv),(bb Jg),(bb w7),(sl gY i42),(bb BI)]/\aq aZ i1 0 [(iI mv),(bb Jg),(bb w7),(sl gY i42),(bb BI)] λgV=>∃ua w8 BJ m7 i49 w9,gV.aM i1 0 5=some [(iI ua),(bb w8),(bb BJ),(sl m7 i49),(bb w9)]/\R (.tuple #[(.agg #[(iI ua),(bb w8),(bb BJ),(sl m7 i49),(bb w9)]),(bb true)]) gV)))->
  CA en F.nU [(iI x0)] H R:=vk (by kernel_rfl)
theorem aAv (x0 x1:Int) :
  (bif (decide (x0≥1)) then (R (bb (decide (x0<=x1))) H) else (R (bb false) H))->
  CA en F.zS [(iI x0),(iI x1)] H R:=vk (by kernel_rfl)
theorem aAr (x0 x1:Int) :
  (bif (decide (x1<1)) then (R (iI 0) H) else (nn 32/\nz (IntKind.u64.wrap x1)/\R (iI (IntKind.i64.wrap (Int.tmod (Int.fdiv (IntKind.u64.wrap (x0*11400714819323198485)) 4294967296) (IntKind.u64.wrap x1)))) H))->
  CA en F.Gd [(iU x0),(iI x1)] H R:=vk (by kernel_rfl)
theorem azY (x0 x1:Int) :
  (bif (decide (x1<1)) then (R (iI 0) H) else (nz 4294967296/\nz (IntKind.u64.wrap x1)/\R (iI (IntKind.i64.wrap (Int.tmod (IntKind.u64.wrap (Int.tdiv (IntKind.u64.wrap (x0*11400714819323198485)) 4294967296)) (IntKind.u64.wrap x1)))) H))->
  CA en F.BO [(iU x0),(iI x1)] H R:=vk (by kernel_rfl)
theorem alJ (x0:Int) :
  (bif (x0==9) then (R (bb true) H) else (R (bb (x0==10)) H))->
  CA en F.iH [(iI x0)] H R:=vk (by kernel_rfl)
theorem az2 (x0:Int) :
  (bif (x0==4) then (R (bb true) H) else (bif (x0==8) then (R (bb true) H) else (R (bb (x0==10)) H)))->
  CA en F.yq [(iI x0)] H R:=vk (by kernel_rfl)
theorem az4 (x0:Int) :
  (bif (x0==1) then (R (bb true) H) else (bif (x0==2) then (R (bb true) H) else (bif (x0==4) then (R (bb true) H) else (bif (x0==8) then (R (bb true) H) else (bif (x0==16) then (R (bb true) H) else (R (bb (x0==32)) H))))))->
  CA en F.Gb [(iI x0)] H R:=vk (by kernel_rfl)
theorem azW (kJ kK nJ nK nL x1 x2:Int) :
  (aC H (.cells true 0 [(iI kJ),(iI kK),(iI nJ),(iI nK),(iI nL)]) λi1 H2=>∃n3,H2.cell i1 0=some (iI n3)/\bif (n3==4) then (∃n4,H2.cell i1 3=some (iI n4)/\CA en F.BO [(iU x1),(iI n4)] H2 λv5 H6=>∃n7,v5=(iI n7)/\∃n8,H6.cell i1 3=some (iI n8)/\CA en F.BO [(iU x2),(iI n8)] H6 λv9 eO=>∃bI,v9=(iI bI)/\bif (n7 !=bI) then (R (bb (decide (n7<bI))) eO) else (R (bb (decide (x1<x2))) eO)) else (∃bH,H2.cell i1 0=some (iI bH)/\bif (bH==10) then (∃gQ,H2.cell i1 3=some (iI gQ)/\CA en F.BO [(iU x1),(iI gQ)] H2 λAU cz=>∃dy,AU=(iI dy)/\∃dQ,cz.cell i1 3=some (iI dQ)/\CA en F.BO [(iU x2),(iI dQ)] cz λoY bf=>∃cU,oY=(iI cU)/\bif (dy !=cU) then (R (bb (decide (dy<cU))) bf) else (R (bb (decide (x1<x2))) bf)) else (R (bb (decide (x1<x2))) H2)))->
  CA en F.Jx [(.agg #[(iI kJ),(iI kK),(iI nJ),(iI nK),(iI nL)]),(iU x1),(iU x2)] H R:=vk (by kernel_rfl)
noncomputable def Ty:Code:=kE Go.Proofs.Tryz.f261 0
theorem azX (x0 x1:Int) :
  (LA en Ty [(iU x0),(iI x1),ud,ud,(iI 0),(iU 0),(iU (IntKind.u64.wrap (x0*14029467366897019727))),(iU 0),(iI 0),ud,(iU x0),(iU (IntKind.u64.wrap (x0*14029467366897019727))),ud,ud,ud,ud,ud,ud,ud,ud,ud,ud,ud,ud,ud,ud,ud,ud,ud,ud,ud,ud,ud,ud,ud,ud,ud,ud,ud,ud,ud,ud,ud,ud,ud] H [(X.exit 0,λ(y1:Fr)(H2:aa)=>AS.asInt .u64 (y1.getD 7 undef) λn3=>CA en F.BO [(iU x0),(iI x1)] H2 λv4 H5=>∃n6,v4=(iI n6)/\R (.tuple #[(iI n6),(iU n3)]) H5)])->
  CA en F.aeE [(iU x0),(iI x1)] H R:=vz [[(7,(iU 0))]] (by kernel_rfl)
theorem ayu {t0 t1 t4 t5 t10 t11:Value}{t6:Int}{K0:FH}{t7 t8:Int}{t9 t12 t13 t14 t15 t16 t17 t18 t19 t20 t21 t22 t23 t24 t25 t26 t27 t28 t29 t30 t31 t32 t33 t34 t35 t36 t37 t38 t39 t40:Value}{H:aa}(I:Nat->Int->Int->aa->Prop)(n:Nat)(h0:I n t7 t8 H)
  (cY:∀(n:Nat)(t7 t8:Int)(ys:Fr)(H:aa),I n t7 t8 H->
  (bif (decide (t8<64)) then (nn 58/\bif ((Int.fdiv t6 288230376151711744)==(IntKind.u64.wrap t8)) then (nn (IntKind.u64.wrap t8)/\∃k1,k1<n/\I k1 (IntKind.u64.wrap (t7+(IntKind.u64.wrap (1*2 ^ (min (IntKind.u64.wrap t8).toNat 64))))) (IntKind.i64.wrap (t8+1)) H) else (nn 52/\nz 64/\bif ((Int.tmod (Int.fdiv t6 4503599627370496) 64)==(IntKind.u64.wrap t8)) then (nn (IntKind.u64.wrap t8)/\∃k2,k2<n/\I k2 (IntKind.u64.wrap (t7+(IntKind.u64.wrap (1*2 ^ (min (IntKind.u64.wrap t8).toNat 64))))) (IntKind.i64.wrap (t8+1)) H) else (nn 46/\nz 64/\bif ((Int.tmod (Int.fdiv t6 70368744177664) 64)==(IntKind.u64.wrap t8)) then (nn (IntKind.u64.wrap t8)/\∃k3,k3<n/\I k3 (IntKind.u64.wrap (t7+(IntKind.u64.wrap (1*2 ^ (min (IntKind.u64.wrap t8).toNat 64))))) (IntKind.i64.wrap (t8+1)) H) else (∃k4,k4<n/\I k4 t7 (IntKind.i64.wrap (t8+1)) H)))) else (K0 [t0,t1,ud,ud,t4,t5,(iU t6),(iU t7),(iI t8),(gd ys 9),t10,t11,(iI t8),(bb false),(gd ys 14),(gd ys 15),(gd ys 16),(gd ys 17),(gd ys 18),(gd ys 19),(gd ys 20),(gd ys 21),(gd ys 22),(gd ys 23),(gd ys 24),(gd ys 25),(gd ys 26),(gd ys 27),(gd ys 28),(gd ys 29),(gd ys 30),(gd ys 31),(gd ys 32),(gd ys 33),(gd ys 34),(gd ys 35),(gd ys 36),(gd ys 37),(gd ys 38),(gd ys 39),(gd ys 40),ud,ud,ud,ud] H))) :
  LA en Ty [t0,t1,ud,ud,t4,t5,(iU t6),(iU t7),(iI t8),t9,t10,t11,t12,t13,t14,t15,t16,t17,t18,t19,t20,t21,t22,t23,t24,t25,t26,t27,t28,t29,t30,t31,t32,t33,t34,t35,t36,t37,t38,t39,t40,ud,ud,ud,ud] H [(X.exit 0,K0)]:=by
 refine ko (Z:=[]) (λm xs H'=>AS.asInt .u64 (xs.getD 7 undef) λt7=>AS.asInt .i64 (xs.getD 8 undef) λt8=>I m t7 t8 H') ?_ n H ?_
 ·intro n H
  suffices hs:∀c6 c7 c9 cH s9 c_ dB db dC dS dT dD dE eS eT fF fG eU fH fI eW eY eZ fJ fK fL fM fN s7 c8 dA s8:Value,((AS.asInt .u64 s7 λt7=>AS.asInt .i64 s8 λt8=>I n t7 t8 H)->gr en Ty [] [t0,t1,ud,ud,t4,t5,(iU t6),s7,s8,s9,t10,t11,c6,c7,c8,dA,c9,cH,c_,dB,db,dC,dS,dT,dD,dE,eS,eT,fF,fG,eU,fH,fI,eW,eY,eZ,fJ,fK,fL,fM,fN,ud,ud,ud,ud] H (kh (λm xs H'=>AS.asInt .u64 (xs.getD 7 undef) λt7=>AS.asInt .i64 (xs.getD 8 undef) λt8=>I m t7 t8 H') n [(X.exit 0,K0)])) by
   apply bL hs
   kernel_rfl
  intro c6 c7 c9 cH s9 c_ dB db dC dS dT dD dE eS eT fF fG eU fH fI eW eY eZ fJ fK fL fM fN s7 c8 dA s8 hP;replace hP:=gF hP;obtain ⟨t7,rfl,hP⟩:=hP;replace hP:=gF hP;obtain ⟨t8,rfl,hP⟩:=hP;apply bL (cY n t7 t8 [t0,t1,ud,ud,t4,t5,(iU t6),(iU t7),(iI t8),s9,t10,t11,c6,c7,c8,dA,c9,cH,c_,dB,db,dC,dS,dT,dD,dE,eS,eT,fF,fG,eU,fH,fI,eW,eY,eZ,fJ,fK,fL,fM,fN,ud,ud,ud,ud] H hP);kernel_rfl
 ·apply bL h0
  kernel_rfl
end
section
variable (H:aa)(R:VH)
set_option maxRecDepth 100000
set_option maxHeartbeats 2000000
theorem az1 (x0 x1:Int) :
  (bif (x0==1) then (bif (x0==4) then (bif (x0==6) then (bif (x1==1) then (R (bb true) H) else (bif (x1==2) then (R (bb true) H) else (bif (x1==4) then (R (bb true) H) else (bif (x1==3) then (R (bb true) H) else (bif (x1==5) then (R (bb true) H) else (bif (x1==6) then (R (bb true) H) else (bif (x1==8) then (R (bb true) H) else (bif (x1==7) then (R (bb true) H) else (R (bb false) H))))))))) else (bif (x1==1) then (R (bb true) H) else (bif (x1==2) then (R (bb true) H) else (bif (x1==4) then (R (bb true) H) else (bif (x1==3) then (R (bb true) H) else (bif (x1==5) then (R (bb true) H) else (bif (x1==6) then (bif (x0==7) then (R (bb true) H) else (R (bb (x0==8)) H)) else (bif (x1==8) then (bif (x0==7) then (R (bb true) H) else (R (bb (x0==8)) H)) else (bif (x1==7) then (R (bb (x0==7)) H) else (R (bb false) H)))))))))) else (bif (x0==6) then (bif (x1==1) then (R (bb true) H) else (bif (x1==2) then (R (bb true) H) else (bif (x1==4) then (R (bb true) H) else (bif (x1==3) then (bif (x0==5) then (R (bb true) H) else (CA en F.iH [(iI x0)] H λv1 H2=>∃b3,v1=(bb b3)/\R (bb b3) H2)) else (bif (x1==5) then (R (bb (x0==5)) H) else (bif (x1==6) then (R (bb true) H) else (bif (x1==8) then (R (bb true) H) else (bif (x1==7) then (R (bb true) H) else (R (bb false) H))))))))) else (bif (x1==1) then (R (bb true) H) else (bif (x1==2) then (R (bb true) H) else (bif (x1==4) then (R (bb true) H) else (bif (x1==3) then (bif (x0==5) then (R (bb true) H) else (CA en F.iH [(iI x0)] H λv4 H5=>∃b6,v4=(bb b6)/\R (bb b6) H5)) else (bif (x1==5) then (R (bb (x0==5)) H) else (bif (x1==6) then (bif (x0==7) then (R (bb true) H) else (R (bb (x0==8)) H)) else (bif (x1==8) then (bif (x0==7) then (R (bb true) H) else (R (bb (x0==8)) H)) else (bif (x1==7) then (R (bb (x0==7)) H) else (R (bb false) H))))))))))) else (bif (x0==2) then (bif (x0==4) then (bif (x0==6) then (bif (x1==1) then (R (bb true) H) else (bif (x1==2) then (R (bb true) H) else (bif (x1==4) then (R (bb true) H) else (bif (x1==3) then (R (bb true) H) else (bif (x1==5) then (R (bb true) H) else (bif (x1==6) then (R (bb true) H) else (bif (x1==8) then (R (bb true) H) else (bif (x1==7) then (R (bb true) H) else (R (bb false) H))))))))) else (bif (x1==1) then (R (bb true) H) else (bif (x1==2) then (R (bb true) H) else (bif (x1==4) then (R (bb true) H) else (bif (x1==3) then (R (bb true) H) else (bif (x1==5) then (R (bb true) H) else (bif (x1==6) then (bif (x0==7) then (R (bb true) H) else (R (bb (x0==8)) H)) else (bif (x1==8) then (bif (x0==7) then (R (bb true) H) else (R (bb (x0==8)) H)) else (bif (x1==7) then (R (bb (x0==7)) H) else (R (bb false) H)))))))))) else (bif (x0==6) then (bif (x1==1) then (R (bb true) H) else (bif (x1==2) then (R (bb true) H) else (bif (x1==4) then (R (bb true) H) else (bif (x1==3) then (bif (x0==5) then (R (bb true) H) else (CA en F.iH [(iI x0)] H λv7 H8=>∃b9,v7=(bb b9)/\R (bb b9) H8)) else (bif (x1==5) then (R (bb (x0==5)) H) else (bif (x1==6) then (R (bb true) H) else (bif (x1==8) then (R (bb true) H) else (bif (x1==7) then (R (bb true) H) else (R (bb false) H))))))))) else (bif (x1==1) then (R (bb true) H) else (bif (x1==2) then (R (bb true) H) else (bif (x1==4) then (R (bb true) H) else (bif (x1==3) then (bif (x0==5) then (R (bb true) H) else (CA en F.iH [(iI x0)] H λv10 cj=>∃w6,v10=(bb w6)/\R (bb w6) cj)) else (bif (x1==5) then (R (bb (x0==5)) H) else (bif (x1==6) then (bif (x0==7) then (R (bb true) H) else (R (bb (x0==8)) H)) else (bif (x1==8) then (bif (x0==7) then (R (bb true) H) else (R (bb (x0==8)) H)) else (bif (x1==7) then (R (bb (x0==7)) H) else (R (bb false) H))))))))))) else (bif (x0==4) then (bif (x0==6) then (bif (x1==1) then (bif (x0==3) then (R (bb true) H) else (R (bb true) H)) else (bif (x1==2) then (bif (x0==3) then (R (bb true) H) else (R (bb true) H)) else (bif (x1==4) then (bif (x0==3) then (R (bb true) H) else (R (bb true) H)) else (bif (x1==3) then (R (bb true) H) else (bif (x1==5) then (R (bb true) H) else (bif (x1==6) then (R (bb true) H) else (bif (x1==8) then (R (bb true) H) else (bif (x1==7) then (R (bb true) H) else (R (bb false) H))))))))) else (bif (x1==1) then (bif (x0==3) then (R (bb true) H) else (R (bb true) H)) else (bif (x1==2) then (bif (x0==3) then (R (bb true) H) else (R (bb true) H)) else (bif (x1==4) then (bif (x0==3) then (R (bb true) H) else (R (bb true) H)) else (bif (x1==3) then (R (bb true) H) else (bif (x1==5) then (R (bb true) H) else (bif (x1==6) then (bif (x0==7) then (R (bb true) H) else (R (bb (x0==8)) H)) else (bif (x1==8) then (bif (x0==7) then (R (bb true) H) else (R (bb (x0==8)) H)) else (bif (x1==7) then (R (bb (x0==7)) H) else (R (bb false) H)))))))))) else (bif (x0==6) then (bif (x1==1) then (bif (x0==3) then (R (bb true) H) else (bif (x0==5) then (R (bb true) H) else (CA en F.iH [(iI x0)] H λjC bt=>∃uN,jC=(bb uN)/\R (bb uN) bt))) else (bif (x1==2) then (bif (x0==3) then (R (bb true) H) else (bif (x0==5) then (R (bb true) H) else (CA en F.iH [(iI x0)] H λoX aQ=>∃b18,oX=(bb b18)/\R (bb b18) aQ))) else (bif (x1==4) then (bif (x0==3) then (R (bb true) H) else (bif (x0==5) then (R (bb true) H) else (CA en F.iH [(iI x0)] H λoZ bu=>∃sb,oZ=(bb sb)/\R (bb sb) bu))) else (bif (x1==3) then (bif (x0==5) then (R (bb true) H) else (CA en F.iH [(iI x0)] H λqN aZ=>∃pC,qN=(bb pC)/\R (bb pC) aZ)) else (bif (x1==5) then (R (bb (x0==5)) H) else (bif (x1==6) then (R (bb true) H) else (bif (x1==8) then (R (bb true) H) else (bif (x1==7) then (R (bb true) H) else (R (bb false) H))))))))) else (bif (x1==1) then (bif (x0==3) then (R (bb true) H) else (bif (x0==5) then (R (bb true) H) else (CA en F.iH [(iI x0)] H λvy eC=>∃se,vy=(bb se)/\R (bb se) eC))) else (bif (x1==2) then (bif (x0==3) then (R (bb true) H) else (bif (x0==5) then (R (bb true) H) else (CA en F.iH [(iI x0)] H λvB fq=>∃m_,vB=(bb m_)/\R (bb m_) fq))) else (bif (x1==4) then (bif (x0==3) then (R (bb true) H) else (bif (x0==5) then (R (bb true) H) else (CA en F.iH [(iI x0)] H λwI bU=>∃uP,wI=(bb uP)/\R (bb uP) bU))) else (bif (x1==3) then (bif (x0==5) then (R (bb true) H) else (CA en F.iH [(iI x0)] H λCW jk=>∃BH,CW=(bb BH)/\R (bb BH) jk)) else (bif (x1==5) then (R (bb (x0==5)) H) else (bif (x1==6) then (bif (x0==7) then (R (bb true) H) else (R (bb (x0==8)) H)) else (bif (x1==8) then (bif (x0==7) then (R (bb true) H) else (R (bb (x0==8)) H)) else (bif (x1==7) then (R (bb (x0==7)) H) else (R (bb false) H)))))))))))))->
  CA en F.Ur [(iI x0),(iI x1)] H R:=vk (by kernel_rfl)
theorem az0 (kJ kK nJ nK nL fc fe fg fP jD:Int) :
  (aC H (.cells true 0 [(iI kJ),(iI kK),(iI nJ),(iI nK),(iI nL)]) λi1 H2=>aC H2 (.cells true 0 [(iI fc),(iI fe),(iI fg),(iI fP),(iI jD)]) λi3 H4=>∃n5,H4.cell i1 0=some (iI n5)/\∃n6,H4.cell i3 0=some (iI n6)/\bif (n5==n6) then (∃n7,H4.cell i1 1=some (iI n7)/\∃n8,H4.cell i3 1=some (iI n8)/\bif (n7==n8) then (∃n9,H4.cell i1 2=some (iI n9)/\∃fC,H4.cell i3 2=some (iI fC)/\bif (n9==fC) then (∃bI,H4.cell i1 3=some (iI bI)/\∃bH,H4.cell i3 3=some (iI bH)/\bif (bI==bH) then (∃gQ,H4.cell i1 4=some (iI gQ)/\∃cO,H4.cell i3 4=some (iI cO)/\R (bb (gQ==cO)) H4) else (R (bb false) H4)) else (R (bb false) H4)) else (R (bb false) H4)) else (R (bb false) H4))->
  CA en F.Oy [(.agg #[(iI kJ),(iI kK),(iI nJ),(iI nK),(iI nL)]),(.agg #[(iI fc),(iI fe),(iI fg),(iI fP),(iI jD)])] H R:=vk (by kernel_rfl)
end
end Go.Proofs.YtjggeoghlicmdaaGreat
namespace Go.AS
open Go.RowKit
section
section
variable {E:Env}
def F7 (E:Env):List Field->Nat->Option Nat
 |[],o=>some o
 |f::fs,o=>bif Nat.beq f.offset o then (match cK E f.type with
  |some n=>F7 E fs (o+n)
  |none=>none) else none
def wx (E:Env):Nat->Nat->Bool
 |0,_=>false
 |d+1,t=>match dq E t with
  |some .bool=>true
  |some (.int _)=>true
  |some (.slice e)=>wx E d e&&(match cK E e with
   |some n=>Nat.ble 1 n
   |none=>false)
  |some (.struct fs)=>(fs.toList.all λf=>wx E d f.type)&&(match cK E t,F7 E fs.toList 0 with
   |some n,some m=>Nat.beq n m
   |_,_=>false)
  |_=>false
def Ms (p:Nat->List Value->Prop):List Field->List Value->Prop
 |[],vs=>vs=[]
 |f::fs,vs=>∃a b,vs=a++b/\p f.type a/\Ms p fs b
def nG (E:Env)(H:aa):Nat->Nat->List Value->Prop
 |0,_,_=>False
 |d+1,t,vs=>match dq E t with
  |some .bool=>∃b,vs=[.bool b]
  |some (.int k)=>∃n,vs=[.int k n]/\(Lit.int k n).wf=true
  |some (.slice e)=>vs=[.slice none 0 0]∨∃(i:Nat)(cs:List (List Value)),vs=[.slice (some ⟨i,0,none⟩) cs.length 0]/\i<H.next/\H.get i=some (.cells false 0 cs.flatten)/\∀c∈cs,nG E H d e c
  |some (.struct fs)=>Ms (λt vs=>nG E H d t vs) fs.toList vs
  |_=>False
theorem ak1 {p q:Nat->List Value->Prop}(h:∀t vs,p t vs->q t vs):∀{fs:List Field}{vs:List Value},Ms p fs vs->Ms q fs vs
 |[],vs,hp=>hp
 |f::fs,vs,⟨a,b,e,h1,h2⟩=>⟨a,b,e,h _ _ h1,ak1 h h2⟩
theorem E5 {H H':aa}(hf:aX [] H H'):∀{d t:Nat}{vs:List Value},nG E H d t vs->nG E H' d t vs
 |0,_,_,h=>h.elim
 |d+1,t,vs,h=>by
  unfold nG at h⊢
  split
  ·rename_i hu;rw [hu] at h;exact h
  ·rename_i hu;rw [hu] at h;exact h
  ·rename_i hu
   rw [hu] at h
   rcases h with h|⟨i,cs,h1,h2,h3,h4⟩
   ·exact .inl h
   ·exact .inr ⟨i,cs,h1,De h2 hf.1,by rw [hf.2 i h2 (by simp)];exact h3,λc hc=>E5 hf (h4 c hc)⟩
  ·rename_i hu
   rw [hu] at h
   exact ak1 (λt vs hs=>E5 hf hs) h
  ·rename_i h1 h2 h3 h4
   split at h
   ·rename_i hu;exact (h1 hu).elim
   ·rename_i hu;exact (h2 _ hu).elim
   ·rename_i hu;exact (h3 _ hu).elim
   ·rename_i hu;exact (h4 _ hu).elim
   ·exact h
def IC (E:Env)(w:World)(μ:aJ)(H:aa)(P:aa->List Value->Prop)(CS:List Value):Prop:=
 ∃(aD:aJ)(H':aa)(vs:List Value),cD H μ H' aD/\aO E w.heap.size aD H' w/\bE aD vs CS/\P H' vs/\aX [] H H'/\vs.all one=true
theorem afp {μ:aJ}:∀{cs CS:List (List Value)},cs.length=CS.length->(∀(j:Nat)(c C:List Value),cs[j]? =some c->CS[j]? =some C->bE μ c C)->bE μ cs.flatten CS.flatten
 |[],[],_,_=>.nil
 |[],_::_,h,_=>by simp at h
 |_::_,[],h,_=>by simp at h
 |c::cs,C::CS,h,hh=>by
  simp only [s_]
  exact (hh 0 c C rfl rfl).append (afp (by simpa using h) λj a b ha hb=>hh (j+1) a b (by simpa using ha) (by simpa using hb))
variable {w:World} {D:Type} {enc:TypeId×Value->D} {spare:Nat->Bool} {held:Bool}
theorem akc {p:aa->List Value->Prop}(hp:∀{H H':aa}{vs:List Value},aX [] H H'->p H vs->p H' vs):∀(ox:List (List Value)),
  (∀CS∈ox,∀{μ:aJ}{H:aa},aO E w.heap.size μ H w->IC E w μ H p CS)->∀{μ:aJ}{H:aa},aO E w.heap.size μ H w->
  ∃(aD:aJ)(H':aa)(css:List (List Value)),cD H μ H' aD/\aO E w.heap.size aD H' w/\css.length=ox.length/\(∀(j:Nat)(c C:List Value),css[j]? =some c->ox[j]? =some C->bE aD c C)/\(∀c∈css,p H' c)/\aX [] H H'/\(∀c∈css,c.all one=true)
 |[],_,μ,H,hH=>⟨μ,H,[],cD.refl _ _,hH,rfl,by simp,by simp,aX.refl _ _,by simp⟩
 |CS::ox,bB,μ,H,hH=>by
  have⟨kL,H1,vs,g1,h1,r1,p1,f1,o1⟩:=bB CS (by simp) hH
  have⟨Bj,H2,css,g2,h2,l2,r2,p2,f2,o2⟩:=akc (p:=p) hp ox (λC hC=>bB C (jh _ hC)) h1
  refine ⟨Bj,H2,vs::css,g1.trans g2,h2,by simp [l2],?_,?_,f1.trans f2 (by simp),?_⟩
  ·intro j c C hc hC
   cases j with
   |zero=>simp at hc hC;subst hc;subst hC;exact bE.mono g2.le r1
   |succ j=>simp at hc hC;exact r2 j c C hc hC
  ·intro c hc
   rcases dU.1 hc with rfl|hc
   ·exact hp f2 p1
   ·exact p2 c hc
  ·intro c hc
   rcases dU.1 hc with rfl|hc
   ·exact o1
   ·exact o2 c hc
theorem akb {d fuel:Nat}(hE:E.Ok)(ih:∀(t:Nat)(CS:List Value) x,DataW.trod enc E.prog w 0 spare held fuel t CS=some x->wx E d t=true->∀{μ:aJ}{H:aa},aO E w.heap.size μ H w->IC E w μ H (λH' vs=>nG E H' d t vs) CS) :
  ∀(fs:List Field)(o:Nat)(CS:List Value),(∀f∈fs,wx E d f.type=true)->F7 E fs o=some CS.length->(∀f∈fs,∃x,DataW.trod enc E.prog w 0 spare held fuel f.type ((CS.drop f.offset).take (E.prog.cellsOf f.type))=some x)->
  ∀{μ:aJ}{H:aa},aO E w.heap.size μ H w->IC E w μ H (λH' vs=>Ms (λt vs=>nG E H' d t vs) fs vs) (CS.drop o)
 |[],o,CS,_,hc,_,μ,H,hH=>by
  simp only [F7,bc] at hc;subst hc;refine ⟨μ,H,[],cD.refl _ _,hH,?_,rfl,aX.refl _ _,rfl⟩;rw [Nj];exact .nil
 |f::fs,o,CS,cF,hc,hx,μ,H,hH=>by
  simp only [F7] at hc;cases hb:Nat.beq f.offset o with
  |false=>rw [hb] at hc;cases hc
  |true=>
   rw [hb] at hc;obtain rfl:=nN hb;simp only [bQ] at hc;cases hs:cK E f.type with
   |none=>rw [hs] at hc;cases hc
   |some n=>
    rw [hs] at hc;simp only at hc;have⟨x,wo⟩:=hx f (by simp);have⟨kL,H1,vs,g1,h1,r1,p1,f1,o1⟩:=ih f.type _ x wo (cF f (by simp)) hH;have yK:E.prog.cellsOf f.type=n:=by
     unfold cK at hs;cases hi:E.ty f.type with
     |none=>rw [hi] at hs;cases hs
     |some i=>
      rw [hi] at hs;simp only [fa,bc] at hs
      have:=hE.ty _ _ hi
      unfold Program.cellsOf;rw [this];simpa using hs
    have⟨Bj,H2,vs2,g2,h2,r2,p2,f2,o2⟩:=akb hE ih fs (f.offset+n) CS (λg hg=>cF g (by simp [hg])) hc (λg hg=>hx g (by simp [hg])) h1;refine ⟨Bj,H2,vs++vs2,g1.trans g2,h2,?_,⟨vs,vs2,rfl,E5 f2 p1,p2⟩,f1.trans f2 (by simp),by simp [o1,o2]⟩;have e:CS.drop f.offset=(CS.drop f.offset).take n++CS.drop (f.offset+n):=by
     rw [<-A_];exact (wN _ _).symm
    rw [e];rw [yK] at r1;exact (bE.mono g2.le r1).append r2
theorem aes (hE:E.Ok){t n:Nat}(hs:cK E t=some n):E.prog.cellsOf t=n:=by
 unfold cK at hs;cases hi:E.ty t with
 |none=>rw [hi] at hs;cases hs
 |some i=>
  rw [hi] at hs;simp only [fa,bc] at hs
  have:=hE.ty _ _ hi
  unfold Program.cellsOf;rw [this];simpa using hs
theorem Oj {w:World}{a:Addr}{n:Nat}{CS:List Value}(h:w.cells? 0 a n=some CS):CS.length=n/\∀j,j<n->w.cell? (a.add j)=CS[j]? :=by
 unfold World.cells? at h;rw [ar (h_ _)] at h;refine ⟨by simpa using mapM_some_length h,λj hj=>?_⟩;exact mapM_some_get h j j (by simp [hj])
theorem Va {α:Type}{z:Nat}:∀{l:List (List α)},(∀c∈l,c.length=z)->l.flatten.length=l.length*z
 |[],_=>by simp
 |c::l,h=>by
  simp only [s_,e_,gU]
  rw [h c (by simp),Va λc hc=>h c (by simp [hc]),Ns,Ik]
theorem afo {α:Type}{z:Nat}:∀{l:List (List α)}{k:Nat},(∀c∈l,c.length=z)->0<z->k<l.length*z->∃c,l[k / z]? =some c/\l.flatten[k]? =c[k % z]?
 |[],k,_,_,h=>by simp at h
 |c::l,k,h,hz,hk=>by
  have hc:=h c (by simp);by_cases aE:k<z
  ·refine ⟨c,by rw [Nat.div_eq_of_lt aE];rfl,?_⟩;rw [s_,uB (by omega),Da aE]
  ·have nX:k - z<l.length*z:=by
    simp only [gU,Ns] at hk;omega
   have⟨c',h1,h2⟩:=afo (l:=l) (k:=k - z) (λc hc=>h c (by simp [hc])) hz nX;have kB:k=(k - z)+z:=by omega
   refine ⟨c',?_,?_⟩
   ·rw [kB,Nat.add_div_right _ hz];simpa using h1
   ·rw [s_,ya (by omega),hc,h2]
    conv=>rhs;rw [kB,Nat.add_mod_right]
theorem aka (hE:E.Ok):∀(fuel t:Nat)(CS:List Value)(x:DataW D×List MemPlace),DataW.trod enc E.prog w 0 spare held fuel t CS=some x->∀(d:Nat),wx E d t=true->
  ∀{μ:aJ}{H:aa},aO E w.heap.size μ H w->IC E w μ H (λH' vs=>nG E H' d t vs) CS
 |0,t,CS,x,h,d,ho,μ,H,hH=>by simp [DataW.trod] at h
 |fuel+1,t,CS,x,h,0,ho,μ,H,hH=>by simp [wx] at ho
 |fuel+1,t,CS,x,h,d+1,ho,μ,H,hH=>by
  have ih:=aka hE fuel;unfold wx at ho;split at ho
  ·rename_i hu;have hP:=sX hE hu;unfold DataW.trod at h;rw [hP] at h;split at h<;>simp_all
   exact ⟨μ,H,[.bool _],cD.refl _ _,hH,.cons (.bool _) .nil,by unfold nG;rw [hu];exact ⟨_,rfl⟩,aX.refl _ _,rfl⟩
  ·rename_i k hu;have hP:=sX hE hu;obtain ⟨n,rfl,hx,hw⟩:=DataW.trod_int hP h;exact ⟨μ,H,[.int k n],cD.refl _ _,hH,.cons (.int _ _) .nil,by unfold nG;rw [hu];exact ⟨n,rfl,hw⟩,aX.refl _ _,rfl⟩
  ·rename_i e hu;have hP:=sX hE hu;simp only [jX] at ho;have⟨EB,tU⟩:=ho;cases hs:cK E e with
   |none=>rw [hs] at tU;cases tU
   |some z=>
    rw [hs] at tU;simp only at tU;have hz:0<z:=aS tU;have yK:=aes hE hs;have as2:CS=[.slice none 0 0]∨∃a len cap,CS=[.slice (some a) len cap]:=by
     unfold DataW.trod at h;rw [hP] at h;split at h<;>simp_all
    rcases as2 with rfl|⟨a,len,cap,rfl⟩
    ·exact ⟨μ,H,[.slice none 0 0],cD.refl _ _,hH,.cons .AQ .nil,by unfold nG;rw [hu];exact .inl rfl,aX.refl _ _,rfl⟩
    ·have nr:len<=cap/\∃elems:List (DataW D×List MemPlace),(List.range len).mapM (λi=>(w.cells? 0 (a.add (i*z)) z).bind (DataW.trod enc E.prog w 0 spare held fuel e))=some elems:=by
      unfold DataW.trod at h;rw [hP] at h;simp only [yK] at h;split at h
      ·rename_i hc;refine ⟨hc.2.1,?_⟩;cases hm:(List.range len).mapM (λi=>(w.cells? 0 (a.add (i*z)) z).bind (DataW.trod enc E.prog w 0 spare held fuel e)) with
       |none=>rw [hm] at h;simp at h
       |some el=>exact ⟨el,rfl⟩
      ·cases h
     have⟨hle,elems,nr⟩:=nr;have each:∀i,i<len->∃C x,w.cells? 0 (a.add (i*z)) z=some C/\DataW.trod enc E.prog w 0 spare held fuel e C=some x:=by
      intro i hi;have h1:=mapM_some_get nr i i (by simp [hi]);have hl:=mapM_some_length nr;simp only [List.length_range] at hl;rw [cM (by omega:i<elems.length)] at h1;cases hc:w.cells? 0 (a.add (i*z)) z with
      |none=>rw [hc] at h1;cases h1
      |some C=>rw [hc] at h1;exact ⟨C,_,rfl,h1⟩
     let ox:List (List Value):=(List.range len).map λi=>(w.cells? 0 (a.add (i*z)) z).getD []
     have Eh:ox.length=len:=by simp [ox]
     have Ps:∀i,i<len->∃C,ox[i]? =some C/\w.cells? 0 (a.add (i*z)) z=some C:=by
      intro i hi;have⟨C,x',h1,h2⟩:=each i hi;exact ⟨C,by simp [ox,hi,h1],h1⟩
     have⟨kL,H1,css,g1,h1,l1,r1,p1,f1,o1⟩:=akc (E:=E) (w:=w) (p:=λH' vs=>nG E H' d e vs) (λhf hs=>E5 hf hs) ox (λC hC=>by
      obtain ⟨i,hi,rfl⟩:=zw.1 hC;have⟨C',x',h1,h2⟩:=each i (by omega);have⟨C'',h3,h4⟩:=Ps i (by omega);rw [cM hi] at h3;injection h3 with h3
      rw [h1] at h4;injection h4 with h4;subst h4
      rw [h3];intro μ H hH;exact ih e _ x' h2 d EB hH) hH
     have W0:∀C∈ox,C.length=z:=by
      intro C hC;obtain ⟨i,hi,rfl⟩:=zw.1 hC;have⟨C'',h3,h4⟩:=Ps i (by omega);rw [cM hi] at h3;injection h3 with h3
      rw [h3];exact (Oj h4).1
     have hvr:bE kL css.flatten ox.flatten:=afp l1 r1;have atG:css.flatten=[]∨∃C el fr,a.block<w.heap.size/\w.heap[a.block]? =some (.cells C el fr)/\a.spot=none/\nc kL css.flatten C a.off:=by
      by_cases h0:len=0
      ·left
       have:css=[]:=zB (by omega)
       rw [this];rfl
      ·right;have⟨C0,h3,h4⟩:=Ps 0 (by omega);have rz:=(Oj h4).2 0 hz;have e0:(a.add (0*z)).add 0=a:=by simp [Addr.add]
       rw [e0] at rz;have VJ:C0[0]? ≠none:=by
        have:=(Oj h4).1
        rw [cM (by omega)];simp
       unfold World.cell? at rz;cases hb:w.heap[a.block]? with
       |none=>rw [hb] at rz;exact absurd rz.symm VJ
       |some ob=>
        rw [hb] at rz;cases ob with
        |cells C el fr=>
         simp only at rz;have pM:a.spot=none:=by
          cases pM:a.spot with
          |none=>rfl
          |some s=>rw [pM] at rz;simp only [Option.isSome_some,pc] at rz;exact absurd rz.symm VJ
         refine ⟨C,el,fr,?_,rfl,pM,?_⟩
         ·rcases iY a.block w.heap.size with h|h
          ·exact h
          ·rw [tg h] at hb;cases hb
         ·intro j v hj;have⟨V,hV,hr⟩:=hvr.get hj;refine ⟨V,?_,hr⟩;have mM:ox.flatten.length=ox.length*z:=Va W0;have u0:j<ox.length*z:=by
           rw [<-mM];rcases iY j ox.flatten.length with h|h
           ·exact h
           ·rw [ji h] at hV;cases hV
          have⟨c,Wb,Aa⟩:=afo W0 hz u0;have hi:j / z<len:=by
           rw [Eh] at u0;exact (Nat.div_lt_iff_lt_mul hz).2 u0
          have⟨C',h5,h6⟩:=Ps (j / z) hi;rw [Wb] at h5;injection h5 with h5;subst h5
          have h7:=(Oj h6).2 (j % z) (FB _ hz);rw [Aa] at hV;rw [hV] at h7;have ea:(a.add (j / z*z)).add (j % z)=⟨a.block,a.off+j,none⟩:=by
           have hdm:j / z*z+j % z=j:=by rw [Nat.mul_comm];exact Nat.div_add_mod j z
           unfold Addr.add;cases a with
           |mk ab ao asp=>
           simp only at pM;subst pM;split<;>split<;>simp only [Addr.mk.injEq,and_true,true_and]<;>omega
          rw [ea] at h7;unfold World.cell? at h7;rw [hb] at h7;simpa using h7
        |_=>simp at rz;exact absurd rz.symm (by simpa using VJ)
     have lA:css.flatten.all one=true:=by
      rw [qU];intro v hv;have⟨c,hc,hvc⟩:=zo.1 hv;exact qU.1 (o1 c hc) v hvc
     have WE:kL H1.next=none:=h1.fresh _ (bq _);have fin:∀L:Loc,L.sn=0->(∀i oi Li,H1.get i=some oi->oi.pN=true->kL i=some Li->Li.bA≠L.bA)->
       (css.flatten=[]∨∃C el fr,L.bA<w.heap.size/\w.heap[L.bA]? =some (.cells C el fr)/\nc kL css.flatten C L.off)->
       (∀aD:aJ,aD H1.next=some L->aL aD (.slice (some ⟨H1.next,0,none⟩) css.length 0) (.slice (some a) len cap))->
       IC E w μ H (λH' vs=>nG E H' (d+1) t vs) [.slice (some a) len cap]:=by
      intro L hL sB asJ hv;have hH2:aO E w.heap.size (kL.add H1.next L) (H1.new (.cells false 0 css.flatten)) w:=by
       refine h1.N2 H1.next L _ WE (λj=>tJ _ _ _) (zA _) (SK _) (λi oi Li a b c=>sB i oi Li a (b.elim (λh=>by cases h.1) λh=>h.1) c) ?_;refine ⟨L,aJ.r_ _ _ _,hL,lA,?_⟩;rcases asJ with h0|⟨C,el,fr,aE,hb,hr⟩
       ·exact .inl h0
       ·exact .inr ⟨C,el,fr,hb,hr.mono (aJ.Au L WE)⟩
      refine ⟨_,_,[.slice (some ⟨H1.next,0,none⟩) css.length 0],g1.trans (cD.new _ L WE),hH2,.cons (hv _ (aJ.r_ _ _ _)) .nil,?_,f1.trans ((aX.refl [] _).new _) (by simp),rfl⟩;unfold nG;rw [hu];exact .inr ⟨H1.next,css,rfl,SK _,nm _ _,λc hc=>E5 ((aX.refl [] _).new _) (p1 c hc)⟩
     have own:∀i oi Li,H1.get i=some oi->oi.pN=true->kL i=some Li->w.heap.size<=Li.bA/\Li.bA<w.heap.size:=by
      intro i oi Li hi tV hm;have⟨L2,e1,e2,e3⟩:=(h1.obj i oi hi ⟨Li,hm⟩).Rc tV;rw [hm] at e1;injection e1 with e1;subst e1
      exact ⟨e2,e3⟩
     rcases atG with h0|⟨C,el,fr,aE,hb,pM,hr⟩
     ·have h00:len=0:=by
       have h2:css.flatten.length=css.length*z:=Va λc hc=>by
        obtain ⟨i,hi,rfl⟩:=zw.1 hc;have sD:i<ox.length:=by omega
        have:=(r1 i css[i] ox[i] (cM hi) (cM sD)).length
        rw [this];exact W0 _ (SL _)
       rw [h0] at h2;simp only [nM] at h2;rcases Nat.mul_eq_zero.1 h2.symm with h|h
       ·omega
       ·omega
      refine fin ⟨w.heap.size,0,0,0⟩ rfl (λi oi Li a b c=>?_) (.inl h0) λaD hm=>?_
      ·have:=own i oi Li a b c
       show Li.bA≠w.heap.size;omega
      ·rw [l1,Eh,h00];exact .pU hm (.inl rfl)
     ·refine fin ⟨a.block,a.off,0,0⟩ rfl (λi oi Li a' b c=>?_) (.inr ⟨C,el,fr,aE,hb,hr⟩) λaD hm=>?_
      ·have:=own i oi Li a' b c
       show Li.bA≠a.block;omega
      ·rw [l1,Eh];have e:a=⟨a.block,a.off+0,none⟩:=by cases a;simp only at pM;subst pM;rfl
       rw [e];exact .slice hm hle (.inl rfl)
  ·rename_i fs hu;have hP:=sX hE hu;simp only [jX,qU] at ho;have⟨EB,tU⟩:=ho;cases hs:cK E t with
   |none=>rw [hs] at tU;cases tU
   |some n=>
    cases hc:F7 E fs.toList 0 with
    |none=>rw [hs,hc] at tU;cases tU
    |some m=>
     rw [hs,hc] at tU;obtain rfl:=nN tU;have yK:=aes hE hs;have at1:CS.length=n/\∃xs:List (DataW D×List MemPlace),fs.toList.mapM (λf=>DataW.trod enc E.prog w 0 spare held fuel f.type ((CS.drop f.offset).take (E.prog.cellsOf f.type)))=some xs:=by
      unfold DataW.trod at h;rw [hP,yK] at h;split at h<;>simp_all
      have⟨hl,xs,hm,_⟩:=h;exact ⟨xs,hm⟩
     have⟨hl,xs,hm⟩:=at1
     have:=akb (spare:=spare) (held:=held) (enc:=enc) (d:=d) (fuel:=fuel) hE (λt CS x h ho {μ H} hH=>ih t CS x h d ho hH) fs.toList 0 CS (λf hf=>EB f hf) (by rw [hc,hl]) (λf hf=>by
      obtain ⟨i,hi,rfl⟩:=zw.1 hf;have h1:=mapM_some_get hm i _ (cM hi);have hlen:=mapM_some_length hm;rw [cM (by omega:i<xs.length)] at h1;exact ⟨_,h1⟩) hH
     simp only [Ig] at this;have⟨aD,H',vs,a1,a2,a3,a4,a5,a6⟩:=this;exact ⟨aD,H',vs,a1,a2,a3,by unfold nG;rw [hu];exact a4,a5,a6⟩
  ·cases ho
end
end
open Go.RowKit Go.ChangeShapes Go.WideShapes
section
section
variable {E:Env}
def AP (E:Env)(H:aa)(d t:Nat)(v:Value):Prop:=
 match dq E t with
 |some (.struct _)=>∃l,v=.agg ⟨l⟩/\nG E H d t l
 |_=>nG E H d t [v]
def Mt (E:Env)(H:aa)(d:Nat):List Nat->List Value->Prop
 |[],vs=>vs=[]
 |t::ts,vs=>∃v us,vs=v::us/\AP E H d t v/\Mt E H d ts us
theorem axH {H H':aa}(hf:aX [] H H'){d t:Nat}{v:Value}(h:AP E H d t v):AP E H' d t v:=by
 unfold AP at h⊢;split
 ·rename_i hu;rw [hu] at h;have⟨l,e,h⟩:=h;exact ⟨l,e,E5 hf h⟩
 ·rename_i hu;split at h
  ·rename_i hu2;exact (hu _ hu2).elim
  ·exact E5 hf h
variable {w:World} {D:Type} {enc:TypeId×Value->D} {spare:Nat->Bool} {held:Bool} {r:Reach} {bs:Nat}
theorem awn (hE:E.Ok){t d:Nat}{v:Value}{x:DataW D}{ps:List MemPlace}(h:DataW.Trod enc E.prog w 0 spare held t v x ps)(hv:Value.okWide E.prog w r bs t v)(ho:wx E d t=true)
  {μ:aJ}{H:aa}(hH:aO E w.heap.size μ H w):∃(aD:aJ)(H':aa)(u:Value),cD H μ H' aD/\aO E w.heap.size aD H' w/\aL aD u v/\AP E H' d t u/\aX [] H H':=by
 have⟨fuel,h⟩:=h;have⟨aD,H',vs,g1,h1,r1,s1,f1,o1⟩:=aka hE fuel t _ _ h d ho hH;cases d with
 |zero=>simp [wx] at ho
 |succ d=>
 unfold wx at ho;split at ho
 ·rename_i hu;have hP:=sX hE hu;have⟨b,hb⟩:∃b,v=.bool b:=by
   simp only [Value.okWide,hP,Cell.okWide,Cell.ok] at hv;cases v<;>simp_all
  subst hb;unfold nG at s1;rw [hu] at s1;obtain ⟨b',rfl⟩:=s1;refine ⟨aD,H',.bool b',g1,h1,?_,by unfold AP;rw [hu];unfold nG;rw [hu];exact ⟨_,rfl⟩,f1⟩;cases r1 with
  |cons a b=>exact a
 ·rename_i k hu;have hP:=sX hE hu;have⟨n,hb⟩:=okWide_int hP hv;subst hb;have qH:=s1;unfold nG at s1;rw [hu] at s1;obtain ⟨b',rfl,hw⟩:=s1;refine ⟨aD,H',.int k b',g1,h1,?_,by unfold AP;rw [hu];exact qH,f1⟩;cases r1 with
  |cons a b=>exact a
 ·rename_i e hu;have hP:=sX hE hu;have⟨a,len,cap,hb⟩:=okWide_slice hP hv;subst hb;have qH:=s1;unfold nG at s1;rw [hu] at s1;obtain ⟨u,rfl⟩:∃u,vs=[u]:=by
   rcases s1 with rfl|⟨i,cs,rfl,_⟩<;>exact ⟨_,rfl⟩
  refine ⟨aD,H',u,g1,h1,?_,by unfold AP;rw [hu];exact qH,f1⟩;cases r1 with
  |cons a b=>exact a
 ·rename_i fs hu;have hP:=sX hE hu;have hb:∃cs,v=.agg cs:=by
   simp only [Value.okWide,hP] at hv;have⟨cs,e,_⟩:=hv;exact ⟨cs,e⟩
  obtain ⟨cs,rfl⟩:=hb;exact ⟨aD,H',.agg ⟨vs⟩,g1,h1,.agg r1,by unfold AP;rw [hu];exact ⟨vs,rfl,s1⟩,f1⟩
 ·cases ho
theorem aj_ (hE:E.Ok){d:Nat}:∀(ts:List TypeId)(vs:List Value)(xs:List (DataW D))(ps:List MemPlace),DataW.TrodAll enc E.prog w 0 spare held ts vs xs ps->
  (∀(j:Nat) t v,ts[j]? =some t->vs[j]? =some v->Value.okWide E.prog w r bs t v)->ts.all (wx E d)=true->∀{μ:aJ}{H:aa},aO E w.heap.size μ H w->
  ∃(aD:aJ)(H':aa)(us:List Value),aO E w.heap.size aD H' w/\bE aD us vs/\Mt E H' d ts us/\cD H μ H' aD/\aX [] H H'
 |[],vs,xs,ps,h,_,_,μ,H,hH=>by
  obtain ⟨rfl,rfl,rfl⟩:=Go.ChangeShapes.trodAll_nil h
  exact ⟨μ,H,[],hH,.nil,rfl,cD.refl _ _,aX.refl _ _⟩
 |t::ts,vs,xs,ps,h,hv,ho,μ,H,hH=>by
  obtain ⟨v,H_,x,aN,p,q,rfl,rfl,rfl,h1,h2⟩:=Go.ChangeShapes.trodAll_cons h
  simp only [Nq,jX] at ho
  have⟨kL,H1,u,g1,k1,r1,s1,f1⟩:=awn hE h1 (hv 0 t v rfl rfl) ho.1 hH
  have⟨Bj,H2,us,k2,r2,s2,g2,f2⟩:=aj_ hE ts H_ aN q h2 (λj t v a b=>hv (j+1) t v (by simpa using a) (by simpa using b)) ho.2 k1
  exact ⟨Bj,H2,u::us,k2,.cons (r1.mono g2.le) r2,⟨u,us,rfl,axH f2 s1,s2⟩,g1.trans g2,f1.trans f2 (by simp)⟩
theorem au7 (hE:E.Ok)(we:E.prog.follows .mixedOrders=true){f:FuncId}{d:Nat}{ts:List TypeId}(atn:∀H us,Mt E H d ts us->CA E f us H λv _=>v=.bool true)
  (ho:ts.all (wx E d)=true){vs:Array Value}{xs:List (DataW D)}{ps:List MemPlace}(h:DataW.TrodAll enc E.prog w 0 spare held ts vs.toList xs ps)
  (hv:∀(j:Nat) t v,ts[j]? =some t->vs[j]? =some v->Value.okWide E.prog w r bs t v) :
  Calls E.prog f vs w λe w'=>e=.returned (.bool true)/\Below w.heap.size w w':=by
 have⟨μ,H,us,h1,h2,h3,_,_⟩:=aj_ hE ts vs.toList xs ps h (λj t v a b=>hv j t v a (by rw [<-rS];exact b)) ho (agU E w);exact aqi hE we (atn H us h3) h1 h2
end
end
end Go.AS
namespace Go.Proofs.YtjggeoghlicmdaaGreat
open Go Go.AS Go.RowKit
section
set_option maxRecDepth 100000
abbrev T.aaZ:List Nat:=[81]
theorem apm {H:aa}{us:List Value}(h:Mt en H 7 T.aaZ us) :
  (∃(R8:Value)(u41:List Value),us=R8::u41/\(∃KW:List Value,R8=.agg ⟨KW⟩/\(∃(mh Jh:List Value),KW=mh++Jh/\(∃b:Bool,mh=[.bool b])/\(∃(oH w8:List Value),Jh=oH++w8/\(∃n:Int,oH=[.int .i64 n]/\(Lit.int .i64 n).wf=true)/\(∃(kO b48:List Value),w8=kO++b48/\(∃n:Int,kO=[.int .i64 n]/\(Lit.int .i64 n).wf=true)/\(∃(nQ w9:List Value),b48=nQ++w9/\(∃n:Int,nQ=[.int .i64 n]/\(Lit.int .i64 n).wf=true)/\(∃(px BK:List Value),w9=px++BK/\(px=[.slice none 0 0]∨∃(i:Nat)(cs:List (List Value)),px=[.slice (some ⟨i,0,none⟩) cs.length 0]/\i<H.next/\H.get i=some (AS.Obj.cells false 0 cs.flatten)/\∀c53∈cs,(c53=[.slice none 0 0]∨∃(i:Nat)(cs:List (List Value)),c53=[.slice (some ⟨i,0,none⟩) cs.length 0]/\i<H.next/\H.get i=some (AS.Obj.cells false 0 cs.flatten)/\∀c54∈cs,(∃(lQ vP:List Value),c54=lQ++vP/\(∃n:Int,lQ=[.int .i64 n]/\(Lit.int .i64 n).wf=true)/\(∃(wV b58:List Value),vP=wV++b58/\(∃(lu uQ:List Value),wV=lu++uQ/\(∃n:Int,lu=[.int .i64 n]/\(Lit.int .i64 n).wf=true)/\(∃(wW Jk:List Value),uQ=wW++Jk/\(∃n:Int,wW=[.int .u64 n]/\(Lit.int .u64 n).wf=true)/\(∃(zK b64:List Value),Jk=zK++b64/\(zK=[.slice none 0 0]∨∃(i:Nat)(cs:List (List Value)),zK=[.slice (some ⟨i,0,none⟩) cs.length 0]/\i<H.next/\H.get i=some (AS.Obj.cells false 0 cs.flatten)/\∀c65∈cs,(∃n:Int,c65=[.int .u64 n]/\(Lit.int .u64 n).wf=true))/\(∃(IU Jm:List Value),b64=IU++Jm/\(∃n:Int,IU=[.int .i64 n]/\(Lit.int .i64 n).wf=true)/\(∃(wX Jn:List Value),Jm=wX++Jn/\(∃n:Int,wX=[.int .i64 n]/\(Lit.int .i64 n).wf=true)/\Jn=[])))))/\(∃(qi BL:List Value),b58=qi++BL/\(∃n:Int,qi=[.int .u64 n]/\(Lit.int .u64 n).wf=true)/\BL=[])))))/\(∃(vL Jo:List Value),BK=vL++Jo/\(vL=[.slice none 0 0]∨∃(i:Nat)(cs:List (List Value)),vL=[.slice (some ⟨i,0,none⟩) cs.length 0]/\i<H.next/\H.get i=some (AS.Obj.cells false 0 cs.flatten)/\∀c74∈cs,(∃n:Int,c74=[.int .i64 n]/\(Lit.int .i64 n).wf=true))/\Jo=[])))))))/\u41=[]):=by
 apply bL h
 kernel_rfl
end
end Go.Proofs.YtjggeoghlicmdaaGreat
