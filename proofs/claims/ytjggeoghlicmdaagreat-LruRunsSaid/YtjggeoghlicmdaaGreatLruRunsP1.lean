/-
  lruRuns.proved: part 1 of its proof. No condition.
  Written by a program out of the texts As1 As2 As3 As4 As5 As6 As7 As8 As9 As10 As11 As13 Env As50 As51 Srt Truths.
-/
import Derived.Tactics
import Derived.Orders
import Derived.LoopN
import Derived.Scope
import Derived.Below
import Derived.Laws.CopyRow
import Derived.Laws.NewBlocks
import Derived.Laws.AppendOwn
import Derived.Laws.MakeOwn
import Derived.Laws.StructEq
import Derived.Laws.Build
import Derived.Test.YtjggeoghlicmdaaGreatRows
import Derived.Eval
import Derived.Shelf.SlSortCmp.NoneTotal
import Derived.WalkKit
set_option linter.unusedVariables false
namespace Go.AS
section
inductive Tr (α:Type) where
 |nil
 |node (v:Option α)(l r:Tr α)
noncomputable def Tr.get {α:Type} (t:Tr α):Nat->Option α:=
 Tr.rec (motive:=λ_=>Nat->Option α) (λ_=>none)
  (λv _ _ il ir n=>Nat.rec (motive:=λ_=>Option α) v (λm _=>bif Nat.beq (Nat.mod m 2) 0 then il (Nat.div m 2) else ir (Nat.div m 2)) n) t
noncomputable def Tr.one {α:Type}(v:α)(f:Nat):Nat->Tr α:=
 Nat.rec (motive:=λ_=>Nat->Tr α) (λ_=>.node (some v) .nil .nil)
  (λ_ ih n=>Nat.rec (motive:=λ_=>Tr α) (.node (some v) .nil .nil) (λm _=>bif Nat.beq (Nat.mod m 2) 0 then .node none (ih (Nat.div m 2)) .nil else .node none .nil (ih (Nat.div m 2))) n) f
noncomputable def Tr.put {α:Type}(t:Tr α):Nat->α->Tr α:=
 Tr.rec (motive:=λ_=>Nat->α->Tr α) (λn v=>Tr.one v n n)
  (λo l r il ir n v=>Nat.rec (motive:=λ_=>Tr α) (.node (some v) l r) (λm _=>bif Nat.beq (Nat.mod m 2) 0 then .node o (il (Nat.div m 2) v) r else .node o l (ir (Nat.div m 2) v)) n) t
noncomputable def Tr.upd {α:Type}(t:Tr α):Nat->α->Tr α:=
 Tr.rec (motive:=λ_=>Nat->α->Tr α) (λ_ _=>.nil)
  (λo l r il ir n v=>Nat.rec (motive:=λ_=>Tr α) (.node (Option.rec none (λ_=>some v) o) l r) (λm _=>bif Nat.beq (Nat.mod m 2) 0 then .node o (il (Nat.div m 2) v) r else .node o l (ir (Nat.div m 2) v)) n) t
noncomputable def Tr.fill {α:Type}(v:α)(f:Nat):Nat->Tr α:=
 Nat.rec (motive:=λ_=>Nat->Tr α) (λ_=>.nil)
  (λ_ ih n=>Nat.rec (motive:=λ_=>Tr α) .nil (λm _=>.node (some v) (ih (Nat.div (m+1) 2)) (ih (Nat.div m 2))) n) f
noncomputable def Tr.ofListFrom {α:Type}(l:List α):Nat->Tr α->Tr α:=
 List.rec (motive:=λ_=>Nat->Tr α->Tr α) (λ_ t=>t) (λx _ ih n t=>ih (n+1) (t.put n x)) l
noncomputable def Tr.updsFrom {α:Type}(l:List α):Nat->Tr α->Tr α:=
 List.rec (motive:=λ_=>Nat->Tr α->Tr α) (λ_ t=>t) (λx _ ih n t=>ih (n+1) (t.upd n x)) l
section
variable {α:Type}
theorem Tr.get_nil (n:Nat):(Tr.nil:Tr α).get n=none:=rfl
theorem Tr.get_zero (v:Option α)(l r:Tr α):(Tr.node v l r).get 0=v:=rfl
theorem Tr.get_succ (v:Option α)(l r:Tr α)(m:Nat):(Tr.node v l r).get (m+1)=bif Nat.beq (Nat.mod m 2) 0 then l.get (Nat.div m 2) else r.get (Nat.div m 2):=rfl
theorem Tr.one_z (v:α)(n:Nat):Tr.one v 0 n=.node (some v) .nil .nil:=rfl
theorem Tr.one_zero (v:α)(f:Nat):Tr.one v (f+1) 0=.node (some v) .nil .nil:=rfl
theorem Tr.one_succ (v:α)(f m:Nat):Tr.one v (f+1) (m+1)=bif Nat.beq (Nat.mod m 2) 0 then .node none (Tr.one v f (Nat.div m 2)) .nil else .node none .nil (Tr.one v f (Nat.div m 2)):=rfl
theorem Tr.put_nil (n:Nat)(v:α):(Tr.nil:Tr α).put n v=Tr.one v n n:=rfl
theorem Tr.put_zero (o:Option α)(l r:Tr α)(v:α):(Tr.node o l r).put 0 v=.node (some v) l r:=rfl
theorem Tr.put_succ (o:Option α)(l r:Tr α)(m:Nat)(v:α):(Tr.node o l r).put (m+1) v=bif Nat.beq (Nat.mod m 2) 0 then .node o (l.put (Nat.div m 2) v) r else .node o l (r.put (Nat.div m 2) v):=rfl
theorem Tr.upd_nil (n:Nat)(v:α):(Tr.nil:Tr α).upd n v=.nil:=rfl
theorem Tr.upd_zero (o:Option α)(l r:Tr α)(v:α):(Tr.node o l r).upd 0 v=.node (o.map λ_=>v) l r:=by cases o<;>rfl
theorem Tr.upd_succ (o:Option α)(l r:Tr α)(m:Nat)(v:α):(Tr.node o l r).upd (m+1) v=bif Nat.beq (Nat.mod m 2) 0 then .node o (l.upd (Nat.div m 2) v) r else .node o l (r.upd (Nat.div m 2) v):=rfl
theorem Tr.fill_z (v:α)(n:Nat):Tr.fill v 0 n=.nil:=rfl
theorem Tr.fill_zero (v:α)(f:Nat):Tr.fill v (f+1) 0=.nil:=rfl
theorem Tr.fill_succ (v:α)(f m:Nat):Tr.fill v (f+1) (m+1)=.node (some v) (Tr.fill v f (Nat.div (m+1) 2)) (Tr.fill v f (Nat.div m 2)):=rfl
theorem Tr.ofListFrom_nil (n:Nat)(t:Tr α):Tr.ofListFrom [] n t=t:=rfl
theorem Tr.ofListFrom_cons (x:α)(l:List α)(n:Nat)(t:Tr α):Tr.ofListFrom (x::l) n t=Tr.ofListFrom l (n+1) (t.put n x):=rfl
theorem Tr.updsFrom_nil (n:Nat)(t:Tr α):Tr.updsFrom [] n t=t:=rfl
theorem Tr.updsFrom_cons (x:α)(l:List α)(n:Nat)(t:Tr α):Tr.updsFrom (x::l) n t=Tr.updsFrom l (n+1) (t.upd n x):=rfl
end
noncomputable section
inductive Obj where
 |cells (own:Bool)(esz:Nat)(c:List Value)
 |map (es:List MapEntry)(clock:Nat)
 |dead
structure Heap where
 tr:Tr Obj
 next:Nat
def Heap.get (H:Heap)(i:Nat):Option Obj:=H.tr.get i
def Heap.set (H:Heap)(i:Nat)(o:Obj):Heap:=⟨H.tr.put i o,H.next⟩
def Heap.new (H:Heap)(o:Obj):Heap:=⟨H.tr.put H.next o,H.next+1⟩
structure Env where
 prog:Program
 ty:Nat->Option TypeInfo
 fn:Nat->Option Func
 eqOk:Nat->Bool
 clone:Nat->Bool
 truth:Nat->Bool
 ng:Nat
 frz:Nat->Bool:=λ_=>false
 prim:Nat->Option (List Value->Heap->Option (Value×Heap)):=λ_=>none
def anyv:Value:=.chan (some 0)
def plainN:Nat->Value->Bool
 |0,_=>false
 |d+1,v=>match v with
  |.bool _|.int _ _|.string _|.float _ _|.complex _ _ _|.nilFunc|.nilIface|.pointer none|.slice none 0 0|.map none=>true
  |.func (.func _) ⟨[]⟩ ⟨[]⟩=>true
  |.agg cs=>cs.toList.all (plainN d)
  |.tuple cs=>cs.toList.all (plainN d)
  |_=>false
def plain (v:Value):Bool:=plainN 6 v
def ev (E:Env)(T:Tr Value):Operand->Value
 |.tmp t=>(T.get t).getD undef
 |.const v=>bif plain v then v else anyv
 |.global g=>bif Nat.ble (g+1) E.ng then .pointer (some ⟨g,0,none⟩) else anyv
 |.func f=>.func (.func f) #[] #[]
def und (E:Env)(t:Nat):Option TypeDesc:=
 match E.ty t with
 |some i=>match i.desc with
  |.named _ u=>(E.ty u).map (·.desc)
  |d=>some d
 |none=>none
def isAggA (E:Env)(t:Nat):Option Bool:=
 match und E t with
 |some (.struct _)=>some true
 |some (.array _ _)=>some true
 |some _=>some false
 |none=>none
def sizeA (E:Env)(t:Nat):Option Nat:=(E.ty t).map (·.size)
def takeAt (c:List Value)(o n:Nat):Option (List Value):=
 if o+n<=c.length then some ((c.drop o).take n) else none
def setAt:List Value->Nat->List Value->List Value
 |c,_,[]=>c
 |c,o,v::vs=>setAt (c.set o v) (o+1) vs
def loadV (E:Env)(H:Heap)(t:Nat)(a:Value):Option Value:=
 match a with
 |.pointer (some ⟨i,o,none⟩)=>match H.get i with
  |some (.cells _ _ c)=>match isAggA E t with
   |some true=>(sizeA E t).bind λn=>if n=0 then none else (takeAt c o n).map λl=>.agg ⟨l⟩
   |some false=>c[o]?
   |none=>none
  |_=>none
 |_=>none
def one:Value->Bool
 |.agg _|.tuple _|.chan _=>false
 |_=>true
def cellsOf (v:Value):Option (List Value):=
 match v with
 |.agg cs=>bif cs.toList.all one then some cs.toList else none
 |.tuple _=>none
 |.chan _=>none
 |v=>some [v]
def storeCellsA (H:Heap)(i o:Nat)(vs:List Value):Option Heap:=
 match H.get i with
 |some (.cells true z c)=>if o+vs.length<=c.length then some (H.set i (.cells true z (setAt c o vs))) else none
 |_=>none
def storeV (E:Env)(H:Heap)(t:Nat)(a v:Value):Option Heap:=
 match a with
 |.pointer (some ⟨i,o,none⟩)=>
  (cellsOf v).bind λvs=>(sizeA E t).bind λn=>
   if vs.length=n then storeCellsA H i o vs else none
 |_=>none
def asI:Value->Option (IntKind×Int)
 |.int k n=>some (k,n)
 |_=>none
def newVal (H:Heap)(v:Value):Option (Value×Heap):=
 (cellsOf v).map λvs=>(.pointer (some ⟨H.next,0,none⟩),H.new (.cells true 0 vs))
def zeroV (E:Env)(t:Nat):Option Value:=
 match E.ty t with
 |some i=>match i.zero with
  |some z=>bif plain z then some z else none
  |none=>none
 |none=>none
def noTop:Value->Bool
 |.chan _=>false
 |.tuple _=>false
 |_=>true
def partsOk (ps:Array (Nat×Value)):Bool:=ps.toList.all λp=>noTop p.2
def buildV (E:Env)(t:Nat)(parts:Array (Nat×Value)):Option Value:=
 (zeroV E t).bind λz=>bif partsOk parts&&noTop z then
  match und E t with
  |some (.struct fields)=>
   (fields.toList.mapM λf=>(sizeA E f.type).map λn=>(f.offset,n)).bind λplaces=>
    (Instr.fill (places[·]?) z.cells parts.toList).map .agg
  |some (.array _ e)=>
   (sizeA E e).bind λn=>(Instr.fill (λi=>some (i*n,n)) z.cells parts.toList).map .agg
  |_=>none
 else none
def zeroCellsA (E:Env)(e:Nat):Option (List Value):=
 (zeroV E e).bind λz=>(cellsOf z).bind λl=>(sizeA E e).bind λn=>if l.length=n then some l else none
def reps (n:Nat)(z:List Value):List Value:=
 match n with
 |0=>[]
 |m+1=>z++reps m z
def newRowA (H:Heap)(esz len:Nat)(c:List Value):Value×Heap:=
 (.slice (some ⟨H.next,0,none⟩) len 0,H.new (.cells true esz c))
def buildSliceA (E:Env)(H:Heap)(t len:Nat)(parts:Array (Nat×Value)):Option (Value×Heap):=
 match und E t with
 |some (.slice e)=>(zeroCellsA E e).bind λz=>
  bif partsOk parts&&Nat.ble (len*z.length) 16777216&&Nat.ble 1 z.length then
   (Instr.fill (λi=>some (i*z.length,z.length)) ⟨reps len z⟩ parts.toList).bind λcs=>
    if cs.toList.all one then some (newRowA H z.length len cs.toList) else none
  else none
 |_=>none
def makeSliceA (E:Env)(H:Heap)(t:Nat)(len cap:Value):Option (Value×Heap):=
 match und E t,len,cap with
 |some (.slice e),.int _ l,.int _ c=>(zeroCellsA E e).bind λz=>(E.ty e).bind λi=>
  if 0<=l/\l<=c/\i.bytes*c.toNat<=140737488355328/\1<=i.bytes/\1<=z.length then some (newRowA H z.length l.toNat (reps c.toNat z)) else none
 |_,_,_=>none
def boundA (lo:Nat)(d:Nat)(hi:Nat):Option Value->Option Nat
 |none=>if lo<=d/\d<=hi then some d else none
 |some (.int _ n)=>if lo<=n/\n<=hi then some n.toNat else none
 |_=>none
def sliceA (E:Env)(H:Heap)(t:Nat)(x:Value)(lo hi mx:Option Value):Option Value:=
 match mx with
 |some _=>none
 |none=>match und E t,x with
  |some (.slice e),.slice a len _=>
   (sizeA E e).bind λn=>(boundA 0 len len hi).bind λh=>(boundA 0 0 h lo).bind λl=>
    match a with
    |none=>some (.slice none 0 0)
    |some ⟨i,o,none⟩=>match H.get i with
     |some (.cells _ z _)=>if z=0∨z=n then some (.slice (some ⟨i,o+l*n,none⟩) (h - l) 0) else none
     |_=>none
    |_=>none
  |some (.array n e),.pointer (some ⟨i,o,none⟩)=>
   match lo,hi,H.get i with
   |none,none,some (.cells _ 0 _)=>(sizeA E e).bind λ_=>some (.slice (some ⟨i,o,none⟩) n 0)
   |_,_,_=>none
  |_,_=>none
def lenOfA:Value->Option Nat
 |.slice _ n _=>some n
 |.string s=>some s.size
 |_=>none
def firstCellsA (H:Heap)(es n:Nat):Value->Option (List Value)
 |.slice (some ⟨i,o,none⟩) _ _=>if n*es=0 then some [] else match H.get i with
  |some (.cells _ _ c)=>takeAt c o (n*es)
  |_=>none
 |.slice none _ _=>if n=0 then some [] else none
 |_=>none
def growsA (E:Env)(H:Heap)(e es need:Nat)(old new:List Value):Option (Value×Heap):=
 (E.ty e).bind λi=>(zeroCellsA E e).bind λ_=>
  if need*i.bytes<=140737488355328/\1<=i.bytes then some (newRowA H es need (old++new)) else none
def growsF (E:Env)(H:Heap)(e es need:Nat)(old new:List Value):Option (Value×Heap):=
 (E.ty e).bind λi=>(zeroCellsA E e).bind λ_=>
  if need*i.bytes<=140737488355328/\1<=i.bytes then some (.slice (some ⟨H.next,0,none⟩) need 0,H.new (.cells false es (old++new))) else none
def appendA (E:Env)(H:Heap)(argTypes:Array TypeId)(args:List Value):Option (Value×Heap):=
 match argTypes.toList,args with
 |[st,xt],[.slice base len _,x]=>if xt=st then match und E st with
  |some (.slice e)=>(sizeA E e).bind λes=>(lenOfA x).bind λn=>(firstCellsA H es n x).bind λnew=>
    bif Nat.beq es 0 then none else
    if n=0 then some (.slice base len 0,H) else
    match base with
    |none=>if len=0 then growsA E H e es n [] new else none
    |some ⟨i,o,none⟩=>match H.get i with
     |some (.cells true z c)=>
      if z=es then
       if o+(len+n)*es<=c.length then (storeCellsA H i (o+len*es) new).map λH'=>(.slice base (len+n) 0,H')
       else (takeAt c o (len*es)).bind λold=>
        bif E.frz st&&Nat.beq len 256 then growsF E (H.set i (.cells false es (c.take (o+len*es)))) e es (len+n) old new
        else growsA E (H.set i .dead) e es (len+n) old new
      else none
     |_=>none
    |_=>none
  |_=>none
  else none
 |_,_=>none
def copyA (E:Env)(H:Heap)(argTypes:Array TypeId)(args:List Value):Option (Value×Heap):=
 match argTypes.toList,args with
 |st::_,[.slice base len _,x]=>match und E st with
  |some (.slice e)=>(sizeA E e).bind λes=>(lenOfA x).bind λn=>
   (firstCellsA H es (Nat.min n len) x).bind λnew=>
   match base with
   |none=>some (goInt (Nat.min n len),H)
   |some ⟨i,o,none⟩=>(storeCellsA H i o new).map λH'=>(goInt (Nat.min n len),H')
   |_=>none
  |_=>none
 |_,_=>none
def simpleKey (E:Env)(t:Nat):Option TypeDesc:=
 match und E t with
 |some (.int k)=>some (.int k)
 |some .bool=>some .bool
 |_=>none
def lookupA (E:Env)(H:Heap)(t:Nat)(m k:Value)(ok:Bool):Option Value:=
 match und E t with
 |some (.map kt e)=>(simpleKey E kt).bind λkd=>(zeroV E e).bind λz=>
  (match m with
   |.map none=>some []
   |.map (some i)=>match H.get i with
    |some (.map es _)=>some es
    |_=>none
   |_=>none).bind λes=>
   (Instr.findNow kd k es 0).bind λr=>
    let p:Value×Bool:=match r with
     |some (_,v)=>(v,true)
     |none=>(z,false)
    some (bif ok then .tuple #[p.1,.bool p.2] else p.1)
 |_=>none
def mapUpdateA (E:Env)(H:Heap)(t:Nat)(m k v:Value):Option Heap:=
 match und E t,m with
 |some (.map kt _),.map (some i)=>(simpleKey E kt).bind λkd=>
  match H.get i with
  |some (.map es clock)=>(Instr.findNow kd k es 0).map λr=>
   match r with
   |some (j,_)=>H.set i (.map (es.modify j λe=>{e with key:=k,val:=v}) clock)
   |none=>H.set i (.map (es++[{key:=k,val:=v,born:=clock}]) (clock+1))
  |_=>none
 |_,_=>none
def deleteA (E:Env)(H:Heap)(t:Nat)(m k:Value):Option Heap:=
 match und E t,m with
 |some (.map kt _),.map (some i)=>(simpleKey E kt).bind λkd=>
  match H.get i with
  |some (.map es clock)=>(Instr.findNow kd k es 0).map λr=>
   match r with
   |some (j,_)=>H.set i (.map (es.eraseIdx j) clock)
   |none=>H.set i (.map es clock)
  |_=>none
 |_,_=>none
def clearA (E:Env)(H:Heap)(t:Nat)(x:Value):Option Heap:=
 match und E t,x with
 |some (.map _ _),.map (some i)=>match H.get i with
  |some (.map _ clock)=>some (H.set i (.map [] clock))
  |_=>none
 |some (.slice _),.slice _ 0 _=>some H
 |some (.slice e),.slice (some ⟨i,o,none⟩) n _=>(zeroCellsA E e).bind λz=>if 1<=z.length then storeCellsA H i o (reps n z) else none
 |_,_=>none
def lenA (E:Env)(H:Heap)(t:Nat)(x:Value):Option Value:=
 match und E t,x with
 |some (.slice _),.slice _ n _=>some (goInt n)
 |some .string,.string s=>some (goInt s.size)
 |some (.array n _),_=>some (goInt n)
 |some (.map _ _),.map none=>some (goInt 0)
 |some (.map _ _),.map (some i)=>match H.get i with
  |some (.map es _)=>some (goInt es.length)
  |_=>none
 |_,_=>none
def intBinA (op:BinOp)(k:IntKind)(a b:Int):Option Value:=
 match op with
 |.add=>some (.int k (k.wrap (a+b)))
 |.sub=>some (.int k (k.wrap (a - b)))
 |.mul=>some (.int k (k.wrap (a*b)))
 |.quo=>if b=0 then none else some (.int k (k.wrap (a.tdiv b)))
 |.rem=>if b=0 then none else some (.int k (a.tmod b))
 |.and=>some (.int k (k.wrap (BitVec.ofInt k.bits a&&&BitVec.ofInt k.bits b).toNat))
 |.or=>some (.int k (k.wrap (BitVec.ofInt k.bits a|||BitVec.ofInt k.bits b).toNat))
 |.xor=>some (.int k (k.wrap (BitVec.ofInt k.bits a ^^^ BitVec.ofInt k.bits b).toNat))
 |.andNot=>some (.int k (k.wrap (BitVec.ofInt k.bits a&&& ~~~(BitVec.ofInt k.bits b)).toNat))
 |.eql=>some (.bool (a==b))
 |.neq=>some (.bool (a !=b))
 |.lss=>some (.bool (a<b))
 |.leq=>some (.bool (a<=b))
 |.gtr=>some (.bool (a>b))
 |.geq=>some (.bool (a≥b))
 |_=>none
def shiftA (op:BinOp)(k:IntKind)(a b:Int):Option Value:=
 if b<0 then none else
 match op with
 |.shl=>some (.int k (k.wrap (a*2 ^ (min b.toNat k.bits))))
 |.shr=>some (.int k (a.fdiv (2 ^ (min b.toNat k.bits))))
 |_=>none
def isShift:BinOp->Bool
 |.shl|.shr=>true
 |_=>false
def ownAt (H:Heap)(a:Addr):Bool:=
 a.spot.isNone&&match H.get a.block with
  |some (.cells true _ _)=>true
  |_=>false
def partA (E:Env)(t:Nat)(cs:Array Value)(o:Nat):Option Value:=
 match isAggA E t with
 |some true=>(sizeA E t).map λn=>.agg (cs.extract o (o+n))
 |some false=>cs[o]?
 |none=>none
def eqFieldsA (E:Env)(eq:Nat->Value->Value->Option Bool)(xs ys:Array Value):List Field->Option Bool
 |[]=>some true
 |f::fs=>(partA E f.type xs f.offset).bind λu=>(partA E f.type ys f.offset).bind λv=>(eq f.type u v).bind λb=>
  bif b then eqFieldsA E eq xs ys fs else some false
def eqA (E:Env)(H:Heap):Nat->Nat->Value->Value->Option Bool
 |0,_,_,_=>none
 |d+1,t,x,y=>
  match und E t,x,y with
  |some .bool,.bool a,.bool b=>some (a==b)
  |some (.int _),.int k a,.int k' b=>if k=k' then some (a==b) else none
  |some (.pointer _),.pointer none,.pointer b=>some b.isNone
  |some (.pointer _),.pointer _,.pointer none=>some false
  |some (.pointer e),.pointer (some a),.pointer (some b)=>
   (sizeA E e).bind λn=>if n≠0/\ownAt H a/\ownAt H b then some (a==b) else none
  |some (.slice _),.slice none _ _,.slice b _ _=>some b.isNone
  |some (.slice _),.slice _ _ _,.slice none _ _=>some false
  |some (.map _ _),.map none,.map b=>some b.isNone
  |some (.map _ _),.map _,.map none=>some false
  |some (.func _ _ _),.nilFunc,.nilFunc=>some true
  |some (.func _ _ _),.nilFunc,.func _ _ _=>some false
  |some (.func _ _ _),.func _ _ _,.nilFunc=>some false
  |some (.struct fields),.agg xs,.agg ys=>
   bif E.eqOk t then
    eqFieldsA E (eqA E H d) xs ys fields.toList
   else none
  |_,_,_=>none
def eqKind:Value->Bool
 |.bool _|.pointer _|.slice _ _ _|.map _|.func _ _ _|.nilFunc=>true
 |_=>false
def binA (E:Env)(H:Heap)(op:BinOp)(t:Nat)(x y:Value):Option Value:=
 match x,y with
 |.int k a,.int k' b=>bif isShift op then shiftA op k a b else if k=k' then intBinA op k a b else none
 |.agg xs,.agg ys=>match op with
  |.eql=>bif E.eqOk t then (eqA E H 4 t (.agg xs) (.agg ys)).map .bool else none
  |.neq=>bif E.eqOk t then (eqA E H 4 t (.agg xs) (.agg ys)).map λb=>.bool !b else none
  |_=>none
 |x,y=>bif eqKind x then
  match op with
  |.eql=>(eqA E H 4 t x y).map .bool
  |.neq=>(eqA E H 4 t x y).map λb=>.bool !b
  |_=>none
  else none
def unA (op:UnOp)(x:Value):Option Value:=
 match op,x with
 |.neg,.int k n=>some (.int k (k.wrap (0 - n)))
 |.xor,.int k n=>some (.int k (k.wrap (BitVec.ofInt k.bits (if k.signed then -1 else k.max) ^^^ BitVec.ofInt k.bits n).toNat))
 |.not,.bool b=>some (.bool !b)
 |_,_=>none
def max2A:Value->Value->Option Value
 |.int k a,.int k' b=>if k=k' then some (.int k (if b>a then b else a)) else none
 |_,_=>none
def min2A:Value->Value->Option Value
 |.int k a,.int k' b=>if k=k' then some (.int k (if b<a then b else a)) else none
 |_,_=>none
def foldA (f:Value->Value->Option Value):Value->List Value->Option Value
 |x,[]=>some x
 |x,y::l=>(f x y).bind λz=>foldA f z l
def maxA:List Value->Option Value
 |[]=>none
 |x::l=>foldA max2A x l
def minA:List Value->Option Value
 |[]=>none
 |x::l=>foldA min2A x l
inductive Res where
 |val (v:Value)(H:Heap)
 |call (f:FuncId)(args:List Value)
def rv (H:Heap)(o:Option Value):Option Res:=o.map λv=>.val v H
def rh (o:Option Heap):Option Res:=o.map λH=>.val undef H
def rvh (o:Option (Value×Heap)):Option Res:=o.map λp=>.val p.1 p.2
def builtinA (E:Env)(H:Heap)(b:Builtin)(argTypes:Array TypeId)(args:List Value):Option Res:=
 match b with
 |.append=>rvh (appendA E H argTypes args)
 |.copy=>rvh (copyA E H argTypes args)
 |.len=>match argTypes.toList,args with
  |t::_,x::_=>rv H (lenA E H t x)
  |_,_=>none
 |.delete=>match argTypes.toList,args with
  |t::_,[m,k]=>rh (deleteA E H t m k)
  |_,_=>none
 |.clear=>match argTypes.toList,args with
  |t::_,[x]=>rh (clearA E H t x)
  |_,_=>none
 |.max=>rv H (maxA args)
 |.min=>rv H (minA args)
 |_=>none
def cloneA (H:Heap):List Value->Option Res
 |[.iface t (.map (some i))]=>match H.get i with
  |some (.map es clock)=>some (.val (.iface t (.map (some H.next))) (H.new (.map es clock)))
  |_=>none
 |_=>none
def byteA (s:ByteArray)(n:Int):Option Value:=
 if 0<=n then (s[n.toNat]?).map λb=>.int .u8 b.toNat else none
def callA (E:Env)(H:Heap)(f:Value)(args:List Value):Option Res:=
 match f with
 |.func (.func f) first captured=>
  match E.fn f with
  |some _=>some (.call f (first.toList++args++captured.toList))
  |none=>bif E.clone f then cloneA H (first.toList++args++captured.toList) else none
 |_=>none
def convertA (E:Env)(src dst:Nat)(x:Value):Option Value:=
 match und E src,und E dst,x with
 |some _,some (.int k),.int _ n=>some (.int k (k.wrap n))
 |_,_,_=>none
def aop (E:Env)(e:Operand->Value)(op:Op)(H:Heap):Option Res:=
 match op with
 |.move x=>some (.val (e x) H)
 |.assign x=>some (.val (e x) H)
 |.pick c a b=>match e c with
  |.bool t=>some (.val (bif t then e a else e b) H)
  |_=>none
 |.alloc t=>(zeroV E t).bind λz=>rvh (newVal H z)
 |.box _ x=>rvh (newVal H (e x))
 |.build t parts=>rv H (buildV E t (parts.map λp=>(p.1,e p.2)))
 |.buildSlice t len parts=>rvh (buildSliceA E H t len (parts.map λp=>(p.1,e p.2)))
 |.load t a=>rv H (loadV E H t (e a))
 |.store t a x=>rh (storeV E H t (e a) (e x))
 |.nilCheck x=>match e x with
  |.pointer (some a)=>some (.val (.pointer (some a)) H)
  |.func (.func f) fs cs=>some (.val (.func (.func f) fs cs) H)
  |_=>none
 |.binOp op t x y _=>rv H (binA E H op t (e x) (e y))
 |.unOp op _ x=>rv H (unA op (e x))
 |.convert src dst x=>rv H (convertA E src dst (e x))
 |.makeInterface t x=>match und E t with
  |some (.interface _)=>none
  |some _=>some (.val (.iface t (e x)) H)
  |none=>none
 |.makeFunc (.func f) first captured=>some (.val (.func (.func f) (first.map e) (captured.map e)) H)
 |.makeMap _ none=>some (.val (.map (some H.next)) (H.new (.map [] 0)))
 |.makeMap t (some r)=>match und E t,e r with
  |some (.map _ _),.int _ _=>some (.val (.map (some H.next)) (H.new (.map [] 0)))
  |_,_=>none
 |.makeSlice t l c=>rvh (makeSliceA E H t (e l) (e c))
 |.slice t x lo hi mx=>rv H (sliceA E H t (e x) (lo.map e) (hi.map e) (mx.map e))
 |.fieldAddr s x f=>match und E s,e x with
  |some (.struct fields),.pointer (some ⟨i,o,none⟩)=>match fields[f]? with
   |some fd=>(sizeA E fd.type).bind λn=>if n=0 then none else some (.val (.pointer (some ⟨i,o+fd.offset,none⟩)) H)
   |none=>none
  |_,_=>none
 |.field t x f=>match und E t,e x with
  |some (.struct fields),.agg cs=>match fields[f]? with
   |some fd=>rv H (partA E fd.type cs fd.offset)
   |none=>none
  |_,_=>none
 |.indexAddr t x ix=>match und E t,e x,e ix with
  |some (.slice el),.slice (some ⟨i,o,none⟩) len _,.int _ n=>(sizeA E el).bind λs=>
   if 0<=n/\n<len then some (.val (.pointer (some ⟨i,o+n.toNat*s,none⟩)) H) else none
  |some (.array len el),.pointer (some ⟨i,o,none⟩),.int _ n=>(sizeA E el).bind λs=>
   if 0<=n/\n<len then some (.val (.pointer (some ⟨i,o+n.toNat*s,none⟩)) H) else none
  |_,_,_=>none
 |.index t x ix=>match und E t,e x,e ix with
  |some (.array len el),.agg cs,.int _ n=>(sizeA E el).bind λs=>
   if 0<=n/\n<len then rv H (partA E el cs (n.toNat*s)) else none
  |some .string,.string s,.int _ n=>rv H (byteA s n)
  |_,_,_=>none
 |.lookup t x k ok=>rv H (lookupA E H t (e x) (e k) ok)
 |.mapUpdate t m k x=>rh (mapUpdateA E H t (e m) (e k) (e x))
 |.insert t m k x=>rh (mapUpdateA E H t (e m) (e k) (e x))
 |.typeAssert x _ asserted false=>match und E asserted,e x with
  |some (.interface _),_=>none
  |some _,.iface t v=>if t=asserted then some (.val v H) else none
  |_,_=>none
 |.extract t ix=>match e t with
  |.tuple vs=>match vs[ix]? with
   |some v=>some (.val v H)
   |none=>none
  |_=>none
 |.call c=>match c.callee with
  |.value f=>callA E H (e f) (c.args.toList.map e)
  |.builtin b=>builtinA E H b c.argTypes (c.args.toList.map e)
  |.invoke _ _=>none
 |_=>none
structure St where
 T:Tr Value
 H:Heap
def putT (T:Tr Value)(d:Option Tmp)(v:Value):Tr Value:=
 match d with
 |some d=>T.upd d v
 |none=>T
abbrev FSem:=FuncId->List Value->Heap->Option (Value×Heap)
def wantedA (ops:Array Oper)(T:Tr Value)(o:Oper):Option Bool:=
 match o.guard with
 |none=>some true
 |some (j,want)=>match (ops[j]?).bind (·.dst) with
  |none=>some false
  |some d=>match T.get d with
   |some (.bool b)=>some (b==want)
   |some (.tuple ⟨[]⟩)=>some false
   |none=>some false
   |_=>none
def resA (sem:FSem)(r:Option Res)(H:Heap):Option (Value×Heap):=
 match r with
 |some (.val v H')=>some (v,H')
 |some (.call f args)=>sem f args H
 |none=>none
def stepA (E:Env)(sem:FSem)(ops:Array Oper)(o:Oper)(s:St):Option St:=
 match wantedA ops s.T o with
 |some true=>match resA sem (aop E (ev E s.T) o.op s.H) s.H with
  |some (v,H')=>some ⟨putT s.T o.dst v,H'⟩
  |none=>none
 |some false=>some ⟨putT s.T o.dst undef,s.H⟩
 |none=>none
def runOps (E:Env)(sem:FSem)(ops:Array Oper):List Oper->St->Option St
 |[],s=>some s
 |o::l,s=>match stepA E sem ops o s with
  |some s'=>runOps E sem ops l s'
  |none=>none
def isLoud:Op->Bool
 |.alloc _|.box _ _|.buildSlice _ _ _|.store _ _ _|.makeMap _ _|.makeSlice _ _ _|.mapUpdate _ _ _ _|.insert _ _ _ _=>true
 |.call c=>match c.callee with
  |.builtin .len=>false
  |.builtin .max=>false
  |.builtin .min=>false
  |_=>true
 |_=>false
def isPure:Op->Bool
 |.move _|.assign _|.pick _ _ _|.nilCheck _|.unOp _ _ _|.convert _ _ _|.makeInterface _ _|.makeFunc _ _ _|.fieldAddr _ _ _|.field _ _ _
 |.indexAddr _ _ _|.index _ _ _|.extract _ _|.build _ _=>true
 |_=>false
def sameN:Nat->Value->Value->Bool
 |0,_,_=>false
 |d+1,v,w=>match v,w with
  |.bool a,.bool b=>a==b
  |.int k a,.int j b=>decide (k=j)&&decide (a=b)
  |.pointer a,.pointer b=>decide (a=b)
  |.slice a l c,.slice b m d=>decide (a=b)&&decide (l=m)&&decide (c=d)
  |.map a,.map b=>decide (a=b)
  |.nilFunc,.nilFunc=>true
  |.nilIface,.nilIface=>true
  |.func f xs ys,.func g us vs=>decide (f=g)&&sameL d xs.toList us.toList&&sameL d ys.toList vs.toList
  |.agg xs,.agg us=>sameL d xs.toList us.toList
  |.tuple xs,.tuple us=>sameL d xs.toList us.toList
  |_,_=>false
 where
 sameL (d:Nat):List Value->List Value->Bool
  |[],[]=>true
  |v::l,w::m=>sameN d v w&&sameL d l m
  |_,_=>false
def isBirth (b:Bool)(op:Op):Bool:=
 match op with
 |.alloc _=>true
 |.box _ _=>b
 |.buildSlice _ _ _=>b
 |.makeMap _ _=>b
 |.makeSlice _ _ _=>b
 |_=>false
def atBlk (d:Nat):Value->Value
 |.pointer (some _)=>.pointer (some ⟨d,0,none⟩)
 |.slice (some _) l c=>.slice (some ⟨d,0,none⟩) l c
 |.map (some _)=>.map (some d)
 |v=>v
def heap1:Heap:=⟨.nil,0⟩
def bornA (E:Env)(e:Operand->Value)(op:Op):Option (Value×Obj):=
 match aop E e op heap1 with
 |some (.val v H)=>(H.get 0).map λo=>(v,o)
 |_=>none
def sameObj:Obj->Obj->Bool
 |.cells true z c,.cells true z' c'=>Nat.beq z z'&&sameN.sameL 8 c c'
 |.map [] 0,.map [] 0=>true
 |_,_=>false
structure DR where
 i:Nat
 o:Oper
 w:Bool
 T:Tr Value
 v:Value
 k:Nat
def aopD (b:Bool)(E:Env)(base i:Nat)(e:Operand->Value)(op:Op)(H:Heap):Option Res:=
 match op with
 |.alloc _=>some (.val (.pointer (some ⟨base+i,0,none⟩)) H)
 |op=>bif isBirth b op then (bornA E e op).map λp=>.val (atBlk (base+i) p.1) H else aop E e op H
def isLoudD (b:Bool)(op:Op):Bool:=bif isBirth b op then false else isLoud op
def preA (b:Bool)(E:Env)(base:Nat):List Oper->Nat->List Obj->Tr Obj->Option (Tr Obj)
 |[],_,_,t=>some t
 |o::l,i,os,t=>match o.op with
  |.alloc ty=>match (zeroV E ty).bind cellsOf with
   |some vs=>preA b E base l (i+1) os (t.put (base+i) (.cells true 0 vs))
   |none=>none
  |op=>bif isBirth b op then (match os with
   |ob::os=>preA b E base l (i+1) os (t.put (base+i) ob)
   |[]=>none) else preA b E base l (i+1) os t
def DR.loud (b:Bool)(r:DR):Bool:=r.w&&isLoudD b r.o.op
def pass0 (E : Env)(sem : FSem)(ops : Array Oper)(base : Nat) : List Oper -> Nat -> Tr Value -> Heap -> List Obj -> Option (List Obj)
  | [], _, _, _, os => some os.reverse
  | o :: l, i, T, H, os =>
    match wantedA ops T o with
    | none => none
    | some false => pass0 E sem ops base l (i + 1) (putT T o.dst undef) H (bif isBirth true o.op && !isBirth false o.op then .dead :: os else os)
    | some true => bif isBirth true o.op then (match bornA E (ev E T) o.op with
        | none => none
        | some p => pass0 E sem ops base l (i + 1) (putT T o.dst (atBlk (base + i) p.1)) (H.set (base + i) p.2) (bif isBirth false o.op then os else p.2 :: os))
      else match resA sem (aop E (ev E T) o.op H) H with
        | none => none
        | some (v, H') => pass0 E sem ops base l (i + 1) (putT T o.dst v) H' os
def pass1 (b:Bool)(E:Env)(sem:FSem)(ops:Array Oper)(base:Nat):List Oper->Nat->Tr Value->Heap->Nat->List DR->List Heap->Option (List DR×Tr Value×List Heap×Heap)
 |[],_,T,H,_,rs,hs=>some (rs,T,hs,H)
 |o::l,i,T,H,k,rs,hs=>
  match wantedA ops T o with
  |none=>none
  |some false=>pass1 b E sem ops base l (i+1) (putT T o.dst undef) H k (⟨i,o,false,T,undef,k⟩::rs) hs
  |some true=>match resA sem (aopD b E base i (ev E T) o.op H) H with
   |none=>none
   |some (v,H')=>bif isLoudD b o.op then pass1 b E sem ops base l (i+1) (putT T o.dst v) H' (k+1) (⟨i,o,true,T,v,k⟩::rs) (hs++[H'])
    else pass1 b E sem ops base l (i+1) (putT T o.dst v) H k (⟨i,o,true,T,v,k⟩::rs) hs
def binding (e:Edge):Bool:=Region.binds .any e
def maskOf (acc:List Nat)(o:Oper):Nat:=
 o.after.toList.foldl (λs e=>bif binding e then s|||2 ^ e.on|||acc.getD e.on 0 else s) 0
def masksFrom:List Oper->List Nat->List Nat
 |[],acc=>acc
 |o::l,acc=>masksFrom l (acc++[maskOf acc o])
def pairsOk (b:Bool)(ops:Array Oper):List (Oper×Nat)->Bool
 |[]=>true
 |(o,m)::earlier=>earlier.zipIdx.all (λ(p:(Oper×Nat)×Nat)=>
   let i:=earlier.length - 1 - p.2
   m.testBit i||(Oper.apart ops p.1.1 o&& !(isLoudD b p.1.1.op&&isLoudD b o.op)))&&
   o.after.toList.all (λe=> !binding e||Nat.ble (e.on+1) earlier.length)&&pairsOk b ops earlier
def staticOk (b:Bool)(ops:Array Oper):Bool:=pairsOk b ops (ops.toList.zip (masksFrom ops.toList [])).reverse
def looksAt (b:Bool)(E:Env)(base:Nat)(r:DR)(H:Heap):Bool:=
 match r.o.op with
 |.alloc ty=>match (zeroV E ty).bind cellsOf,H.get (base+r.i) with
  |some vs,some (.cells true 0 c)=>sameN.sameL 8 vs c
  |_,_=>false
 |op=>bif isBirth b op then (match bornA E (ev E r.T) op,H.get (base+r.i) with
   |some p,some o=>sameObj p.2 o
   |_,_=>false)
  else match aop E (ev E r.T) op H with
  |some (.val v _)=>sameN 8 r.v v
  |_=>false
def checkAt (b:Bool)(E:Env)(base:Nat)(r:DR)(hs:List Heap):Nat->Nat->Bool
 |_,0=>true
 |k,n+1=>(match hs[k]? with
  |some H=>looksAt b E base r H
  |none=>false)&&checkAt b E base r hs (k+1) n
def countLoud (b:Bool)(p:DR->Bool):List DR->Nat
 |[]=>0
 |r::l=>bif r.loud b&&p r then countLoud b p l+1 else countLoud b p l
def strictAt (b:Bool)(ops:Array Oper)(ms:List Nat)(j:Nat):Bool:=
 ops.toList.zipIdx.all λp=>Nat.beq p.2 j|| !isLoudD b p.1.op||(ms.getD j 0).testBit p.2||(ms.getD p.2 0).testBit j
def stricts (b:Bool)(ops:Array Oper)(ms:List Nat):List Bool:=(List.range ops.size).map (strictAt b ops ms)
def quietOk (b:Bool)(E:Env)(base:Nat)(ss:List Bool)(ms:List Nat)(all:List DR)(hs:List Heap)(m:Nat):List DR->Bool
 |[]=>true
 |r::l=>(!r.w||isLoudD b r.o.op||isPure r.o.op||(ss.getD r.i false&& !isBirth b r.o.op)||
   (let lo:=countLoud b (λq=>(ms.getD r.i 0).testBit q.i) all
    let hi:=m - countLoud b (λq=>(ms.getD q.i 0).testBit r.i) all
    checkAt b E base r hs lo (hi+1 - lo)))&&quietOk b E base ss ms all hs m l
def runDrawB (b:Bool)(E:Env)(sem:FSem)(ops:Array Oper)(os:List Obj)(s:St):Option St:=
 match preA b E s.H.next ops.toList 0 os s.H.tr with
 |none=>none
 |some tr=>
  match pass1 b E sem ops s.H.next ops.toList 0 s.T ⟨tr,s.H.next+ops.size⟩ 0 [] [⟨tr,s.H.next+ops.size⟩] with
  |some (rs,T,hs,H)=>bif quietOk b E s.H.next (stricts b ops (masksFrom ops.toList [])) (masksFrom ops.toList []) rs hs (hs.length - 1) rs then some ⟨T,H⟩ else none
  |none=>none
def runDraw (E:Env)(sem:FSem)(ops:Array Oper)(s:St):Option St:=
 bif staticOk false ops then runDrawB false E sem ops [] s
 else bif staticOk true ops then (match pass0 E sem ops s.H.next ops.toList 0 s.T ⟨s.H.tr,s.H.next+ops.size⟩ [] with
  |some os=>runDrawB true E sem ops os s
  |none=>none)
 else none
inductive X where
 |normal
 |exit (id:Nat)
 |ret
def loopN (f:St->Option (X×St)):Nat->St->Option (X×St)
 |0,_=>none
 |n+1,s=>match f s with
  |some (.normal,s')=>loopN f n s'
  |r=>r
def runCode (E:Env)(sem:FSem)(n:Nat):Code->St->Option (X×St)
 |.skip,s=>some (.normal,s)
 |.label _,s=>some (.normal,s)
 |.region _ ops d,s=>match (bif d then runDraw E sem ops s else runOps E sem ops ops.toList s) with
  |some s'=>some (.normal,s')
  |none=>none
 |.seq a b,s=>match runCode E sem n a s with
  |some (.normal,s')=>runCode E sem n b s'
  |r=>r
 |.cond c a b,s=>match ev E s.T c with
  |.bool t=>bif t then runCode E sem n a s else runCode E sem n b s
  |_=>none
 |.block id b,s=>match runCode E sem n b s with
  |some (.exit j,s')=>bif Nat.beq j id then some (.normal,s') else some (.exit j,s')
  |r=>r
 |.loop b,s=>loopN (runCode E sem n b) n s
 |.exit id,s=>some (.exit id,s)
 |.ret,s=>some (.ret,s)
 |.scope b,s=>runCode E sem n b s
 |_,_=>none
def initT (fn:Func)(args:List Value):Option (Tr Value):=
 bif Nat.ble args.length fn.ntmps then some (Tr.updsFrom args 0 (Tr.fill undef fn.ntmps fn.ntmps)) else none
def resultsL (E:Env)(s:St):List ResultVar->Option (List Value)
 |[]=>some []
 |.tmp t::l=>(resultsL E s l).map λvs=>(s.T.get t).getD undef::vs
 |.cell a t::l=>(loadV E s.H t ((s.T.get a).getD undef)).bind λv=>(resultsL E s l).map λvs=>v::vs
def resultOf:List Value->Value
 |[v]=>v
 |vs=>.tuple ⟨vs⟩
def sem (E:Env):Nat->FSem
 |0=>λ_ _ _=>none
 |n+1=>λf args H=>bif E.truth f&&args.isEmpty then some (.bool true,H) else match E.prim f with
  |some p=>p args H
  |none=>match E.fn f with
  |some fn=>match fn.body with
   |some c=>match initT fn args with
    |some T=>match runCode E (sem E n) n c ⟨T,H⟩ with
     |some (.normal,s)=>(resultsL E s fn.results.toList).map λvs=>(resultOf vs,s.H)
     |some (.ret,s)=>(resultsL E s fn.results.toList).map λvs=>(resultOf vs,s.H)
     |_=>none
    |none=>none
   |none=>none
  |none=>none
end
end
open Go.RowKit
section
structure Loc where
 blk:Nat
 off:Nat
 room:Nat
 esz:Nat
abbrev Inj:=Nat->Option Loc
def Inj.le (μ μ':Inj):Prop:=∀i L,μ i=some L->μ' i=some L
theorem Inj.le_refl (μ:Inj):Inj.le μ μ:=λ_ _ h=>h
theorem Inj.le_trans {a b c:Inj}(h:Inj.le a b)(k:Inj.le b c):Inj.le a c:=λi L e=>k i L (h i L e)
def Inj.add (μ:Inj)(n:Nat)(L:Loc):Inj:=λi=>if i=n then some L else μ i
theorem Inj.le_add {μ : Inj}{n : Nat}(L : Loc)(h : μ n = none) : Inj.le μ (μ.add n L) := by
  intro i K e
  unfold Inj.add
  split
  · subst_vars; rw [h] at e; cases e
  · exact e
theorem Inj.add_self (μ:Inj)(n:Nat)(L:Loc):μ.add n L n=some L:=by simp [Inj.add]
mutual
inductive VRel (μ:Inj):Value->Value->Prop
 |top (V:Value):VRel μ (.chan (some 0)) V
 |bool (b:Bool):VRel μ (.bool b) (.bool b)
 |int (k:IntKind)(n:Int):VRel μ (.int k n) (.int k n)
 |float (k:FloatKind)(n:Nat):VRel μ (.float k n) (.float k n)
 |complex (k:FloatKind)(n m:Nat):VRel μ (.complex k n m) (.complex k n m)
 |string (s:ByteArray):VRel μ (.string s) (.string s)
 |nilFunc:VRel μ .nilFunc .nilFunc
 |nilIface:VRel μ .nilIface .nilIface
 |ptrNil:VRel μ (.pointer none) (.pointer none)
 |mapNil:VRel μ (.map none) (.map none)
 |sliceNil:VRel μ (.slice none 0 0) (.slice none 0 0)
 |ptr {i o:Nat}{L:Loc}(h:μ i=some L):VRel μ (.pointer (some ⟨i,o,none⟩)) (.pointer (some ⟨L.blk,L.off+o,none⟩))
 |slice {i o len c cap:Nat}{L:Loc}(h:μ i=some L)(hl:len<=cap)(hr:L.esz=0∨o+cap*L.esz=L.room) :
   VRel μ (.slice (some ⟨i,o,none⟩) len c) (.slice (some ⟨L.blk,L.off+o,none⟩) len cap)
 |sliceEnd {i o c cap:Nat}{A:Addr}{L:Loc}(h:μ i=some L)(ho:L.esz=0∨(o=L.room/\cap=0)) :
   VRel μ (.slice (some ⟨i,o,none⟩) 0 c) (.slice (some A) 0 cap)
 |map {i:Nat}{L:Loc}(h:μ i=some L):VRel μ (.map (some i)) (.map (some L.blk))
 |func {f:FuncId}{fs FSz cs CS:Array Value}(h1:VRels μ fs.toList FSz.toList)(h2:VRels μ cs.toList CS.toList) :
   VRel μ (.func (.func f) fs cs) (.func (.func f) FSz CS)
 |iface {t:TypeId}{v V:Value}(h:VRel μ v V):VRel μ (.iface t v) (.iface t V)
 |agg {cs CS:Array Value}(h:VRels μ cs.toList CS.toList):VRel μ (.agg cs) (.agg CS)
 |tuple {cs CS:Array Value}(h:VRels μ cs.toList CS.toList):VRel μ (.tuple cs) (.tuple CS)
inductive VRels (μ:Inj):List Value->List Value->Prop
 |nil:VRels μ [] []
 |cons {v V:Value}{l L:List Value}(h:VRel μ v V)(hs:VRels μ l L):VRels μ (v::l) (V::L)
end
mutual
theorem VRel.mono {μ μ':Inj}(hle:Inj.le μ μ'):∀{v V:Value},VRel μ v V->VRel μ' v V
 |_,_,.top V=>.top V
 |_,_,.bool b=>.bool b
 |_,_,.int k n=>.int k n
 |_,_,.float k n=>.float k n
 |_,_,.complex k n m=>.complex k n m
 |_,_,.string s=>.string s
 |_,_,.nilFunc=>.nilFunc
 |_,_,.nilIface=>.nilIface
 |_,_,.ptrNil=>.ptrNil
 |_,_,.mapNil=>.mapNil
 |_,_,.sliceNil=>.sliceNil
 |_,_,.ptr h=>.ptr (hle _ _ h)
 |_,_,.slice h hl hr=>.slice (hle _ _ h) hl hr
 |_,_,.sliceEnd h ho=>.sliceEnd (hle _ _ h) ho
 |_,_,.map h=>.map (hle _ _ h)
 |_,_,.func h1 h2=>.func (VRels.mono hle h1) (VRels.mono hle h2)
 |_,_,.iface h=>.iface (VRel.mono hle h)
 |_,_,.agg h=>.agg (VRels.mono hle h)
 |_,_,.tuple h=>.tuple (VRels.mono hle h)
theorem VRels.mono {μ μ':Inj}(hle:Inj.le μ μ'):∀{l L:List Value},VRels μ l L->VRels μ' l L
 |_,_,.nil=>.nil
 |_,_,.cons h hs=>.cons (VRel.mono hle h) (VRels.mono hle hs)
end
theorem VRels.length {μ:Inj}:∀{l L:List Value},VRels μ l L->l.length=L.length
 |_,_,.nil=>rfl
 |_,_,.cons _ hs=>by simp [VRels.length hs]
theorem VRels.get {μ:Inj}:∀{l L:List Value},VRels μ l L->∀{j:Nat}{v:Value},l[j]? =some v->∃V,L[j]? =some V/\VRel μ v V
 |_,_,.nil,j,v,h=>by simp at h
 |_,_,.cons h0 hs,j,v,h=>by
  cases j with
  |zero=>simp at h;subst h;exact ⟨_,by simp,h0⟩
  |succ j=>simp at h⊢;exact VRels.get hs h
theorem VRels.of_get {μ:Inj}:∀{l L:List Value},l.length=L.length->(∀(j:Nat)(v V:Value),l[j]? =some v->L[j]? =some V->VRel μ v V)->VRels μ l L
 |[],[],_,_=>.nil
 |[],_::_,h,_=>by simp at h
 |_::_,[],h,_=>by simp at h
 |v::l,V::L,h,hh=>.cons (hh 0 v V rfl rfl) (VRels.of_get (by simpa using h) λj a b ha hb=>hh (j+1) a b (by simpa using ha) (by simpa using hb))
theorem VRels.append {μ:Inj}:∀{l L m M:List Value},VRels μ l L->VRels μ m M->VRels μ (l++m) (L++M)
 |_,_,_,_,.nil,h=>h
 |_,_,_,_,.cons h hs,k=>.cons h (VRels.append hs k)
theorem VRels.map {μ:Inj}{α:Type}(f g:α->Value):∀(l:List α),(∀x∈l,VRel μ (f x) (g x))->VRels μ (l.map f) (l.map g)
 |[],_=>.nil
 |x::l,h=>.cons (h x (by simp)) (VRels.map f g l λy hy=>h y (by simp [hy]))
theorem all_rels {μ:Inj}(p:Value->Bool)(hp:∀v,p v=true->VRel μ v v):∀(l:List Value),l.all p=true->VRels μ l l
 |[],_=>.nil
 |v::l,h=>by simp at h;exact .cons (hp v h.1) (all_rels p hp l (by simpa using h.2))
theorem plainN_rel {μ:Inj}:∀(d:Nat)(v:Value),plainN d v=true->VRel μ v v
 |0,_,h=>by simp [plainN] at h
 |d+1,v,h=>by
  unfold plainN at h
  split at h
  any_goals (first|(cases h;done)|constructor;done)
  ·exact .func .nil .nil
  ·exact .agg (all_rels _ (plainN_rel d) _ h)
  ·exact .tuple (all_rels _ (plainN_rel d) _ h)
theorem plain_rel {μ:Inj}{v:Value}(h:plain v=true):VRel μ v v:=plainN_rel 6 v h
theorem one_rel {μ:Inj}{v V:Value}(h1:one v=true)(h:VRel μ v V):V.oneCell'=true/\V.cells= #[V]:=by
 cases h<;>first|(simp [one] at h1;done)|exact ⟨rfl,rfl⟩
theorem ones_rel {μ:Inj}:∀{l L:List Value},l.all one=true->VRels μ l L->∀V∈L,V.oneCell'=true
 |_,_,_,.nil,V,h=>by simp at h
 |_,_,h1,.cons h hs,V,hV=>by
  simp only [List.all_cons,Bool.and_eq_true] at h1
  rcases List.mem_cons.1 hV with rfl|hV
  ·exact (one_rel h1.1 h).1
  ·exact ones_rel h1.2 hs V hV
theorem cellsOf_agg {cs:Array Value}{vs:List Value}(h:cellsOf (.agg cs)=some vs):cs.toList.all one=true/\vs=cs.toList:=by
 simp only [cellsOf] at h;cases hc:cs.toList.all one<;>rw [hc] at h
 ·cases h
 ·simp only [cond_true,Option.some.injEq] at h;exact ⟨rfl,h.symm⟩
theorem cellsOf_one {v:Value}{vs:List Value}(h:cellsOf v=some vs):vs.all one=true:=by
 cases v
 case agg cs=>
  obtain ⟨h1,rfl⟩:=cellsOf_agg h;exact h1
 all_goals first|(cases h;done)|(injection h with h;subst h;rfl)
theorem cellsOf_rel {μ:Inj}{v V:Value}{vs:List Value}(h:cellsOf v=some vs)(hv:VRel μ v V):VRels μ vs V.cells.toList:=by
 have h1:=cellsOf_one h;cases v
 case agg cs=>
  obtain ⟨_,rfl⟩:=cellsOf_agg h;cases hv with
  |agg h=>exact h
 all_goals first
  |(cases h;done)
  |(injection h with h;subst h
    simp only [List.all_cons,List.all_nil,Bool.and_true] at h1;rw [(one_rel h1 hv).2];exact .cons hv .nil)
theorem even_of {n:Nat}(h:Nat.beq (Nat.mod n 2) 0=true):n % 2=0:=Nat.eq_of_beq_eq_true h
theorem odd_of {n:Nat}(h:Nat.beq (Nat.mod n 2) 0=false):n % 2=1:=by
 have:n % 2≠0:=Nat.ne_of_beq_eq_false h
 omega
theorem div_def (n:Nat):Nat.div n 2=n / 2:=rfl
theorem Tr.get_one {α:Type}(v:α):∀(f n m:Nat),n<=f->(Tr.one v f n).get m=if m=n then some v else none
 |0,n,m,h=>by
  obtain rfl:n=0:=by omega
  cases m with
  |zero=>rfl
  |succ m=>cases hb:Nat.beq (Nat.mod m 2) 0<;>simp [Tr.one_z,Tr.one_zero,Tr.one_succ,Tr.get_nil,Tr.get_zero,Tr.get_succ,hb]
 |f+1,0,m,h=>by
  cases m with
  |zero=>rfl
  |succ m=>cases hb:Nat.beq (Nat.mod m 2) 0<;>simp [Tr.one_z,Tr.one_zero,Tr.one_succ,Tr.get_nil,Tr.get_zero,Tr.get_succ,hb]
 |f+1,n+1,m,h=>by
  have hd:Nat.div n 2<=f:=by rw [div_def];omega
  have ih:=λk=>Tr.get_one v f (Nat.div n 2) k hd
  cases hb:Nat.beq (Nat.mod n 2) 0<;>cases m with
  |zero=>simp [Tr.one_z,Tr.one_zero,Tr.one_succ,Tr.get_nil,Tr.get_zero,Tr.get_succ,hb]
  |succ m=>
   cases hc:Nat.beq (Nat.mod m 2) 0<;>simp only [Tr.one_z,Tr.one_zero,Tr.one_succ,Tr.get_nil,Tr.get_zero,Tr.get_succ,hb,hc,cond_true,cond_false,ih]<;>
    (first|(have hb:=even_of hb)|(have hb:=odd_of hb))<;>(first|(have hc:=even_of hc)|(have hc:=odd_of hc))<;>
    (try simp only [div_def])<;>first|(rw [if_neg (by omega)];done)|(congr 1;simp only [eq_iff_iff];omega)
theorem Tr.get_put {α:Type}(v:α):∀(t:Tr α)(n m:Nat),(t.put n v).get m=if m=n then some v else t.get m
 |.nil,n,m=>by
  simp only [Tr.put_nil,Tr.put_zero,Tr.put_succ,Tr.get_one v n n m (Nat.le_refl _),Tr.get_nil,Tr.get_zero,Tr.get_succ]
 |.node o l r,0,m=>by cases m<;>simp [Tr.put_nil,Tr.put_zero,Tr.put_succ,Tr.get_nil,Tr.get_zero,Tr.get_succ]
 |.node o l r,n+1,0=>by cases hb:Nat.beq (Nat.mod n 2) 0<;>simp [Tr.put_nil,Tr.put_zero,Tr.put_succ,Tr.get_nil,Tr.get_zero,Tr.get_succ,hb]
 |.node o l r,n+1,m+1=>by
  have il:=λk=>Tr.get_put v l (Nat.div n 2) k
  have ir:=λk=>Tr.get_put v r (Nat.div n 2) k
  cases hb:Nat.beq (Nat.mod n 2) 0<;>cases hc:Nat.beq (Nat.mod m 2) 0<;>simp only [Tr.put_nil,Tr.put_zero,Tr.put_succ,Tr.get_nil,Tr.get_zero,Tr.get_succ,hb,hc,cond_true,cond_false,il,ir]<;>
   (first|(have hb:=even_of hb)|(have hb:=odd_of hb))<;>(first|(have hc:=even_of hc)|(have hc:=odd_of hc))<;>
   (try simp only [div_def])<;>first|(rw [if_neg (by omega)];done)|(congr 1;simp only [eq_iff_iff];omega)
theorem Tr.get_upd {α:Type}(v:α):∀(t:Tr α)(n m:Nat),(t.upd n v).get m=if m=n then (t.get m).map (λ_=>v) else t.get m
 |.nil,n,m=>by simp [Tr.upd_nil,Tr.upd_zero,Tr.upd_succ,Tr.get_nil,Tr.get_zero,Tr.get_succ]
 |.node o l r,0,m=>by cases m<;>simp [Tr.upd_nil,Tr.upd_zero,Tr.upd_succ,Tr.get_nil,Tr.get_zero,Tr.get_succ]
 |.node o l r,n+1,0=>by cases hb:Nat.beq (Nat.mod n 2) 0<;>simp [Tr.upd_nil,Tr.upd_zero,Tr.upd_succ,Tr.get_nil,Tr.get_zero,Tr.get_succ,hb]
 |.node o l r,n+1,m+1=>by
  have il:=λk=>Tr.get_upd v l (Nat.div n 2) k
  have ir:=λk=>Tr.get_upd v r (Nat.div n 2) k
  cases hb:Nat.beq (Nat.mod n 2) 0<;>cases hc:Nat.beq (Nat.mod m 2) 0<;>simp only [Tr.upd_nil,Tr.upd_zero,Tr.upd_succ,Tr.get_nil,Tr.get_zero,Tr.get_succ,hb,hc,cond_true,cond_false,il,ir]<;>
   (first|(have hb:=even_of hb)|(have hb:=odd_of hb))<;>(first|(have hc:=even_of hc)|(have hc:=odd_of hc))<;>
   (try simp only [div_def])<;>first|(rw [if_neg (by omega)];done)|(congr 1;simp only [eq_iff_iff];omega)
theorem Tr.get_fill {α:Type}(v:α):∀(f n m:Nat),n<=f->(Tr.fill v f n).get m=if m<n then some v else none
 |0,n,m,h=>by
  obtain rfl:n=0:=by omega
  simp [Tr.fill_z,Tr.fill_zero,Tr.fill_succ,Tr.get_nil,Tr.get_zero,Tr.get_succ]
 |f+1,0,m,h=>by simp [Tr.fill_z,Tr.fill_zero,Tr.fill_succ,Tr.get_nil,Tr.get_zero,Tr.get_succ]
 |f+1,n+1,0,h=>by simp [Tr.fill_z,Tr.fill_zero,Tr.fill_succ,Tr.get_nil,Tr.get_zero,Tr.get_succ]
 |f+1,n+1,m+1,h=>by
  have il:=λk=>Tr.get_fill v f (Nat.div (n+1) 2) k (by rw [div_def];omega)
  have ir:=λk=>Tr.get_fill v f (Nat.div n 2) k (by rw [div_def];omega)
  cases hc:Nat.beq (Nat.mod m 2) 0<;>simp only [Tr.fill_z,Tr.fill_zero,Tr.fill_succ,Tr.get_nil,Tr.get_zero,Tr.get_succ,hc,cond_true,cond_false,il,ir]<;>
   (first|(have hc:=even_of hc)|(have hc:=odd_of hc))<;>
   (try simp only [div_def])<;>(congr 1;simp only [eq_iff_iff];omega)
theorem Heap.get_set (H:Heap)(i j:Nat)(o:Obj):(H.set i o).get j=if j=i then some o else H.get j:=Tr.get_put _ _ _ _
theorem Heap.get_new (H:Heap)(j:Nat)(o:Obj):(H.new o).get j=if j=H.next then some o else H.get j:=Tr.get_put _ _ _ _
@[simp] theorem Heap.next_set (H : Heap)(i : Nat)(o : Obj) : (H.set i o).next = H.next := rfl
def cellsRel (μ:Inj)(c:List Value)(C:Array Value)(off:Nat):Prop:=∀j v,c[j]? =some v->∃V,C[off+j]? =some V/\VRel μ v V
theorem cellsRel.mono {μ μ':Inj}(hle:Inj.le μ μ'){c:List Value}{C:Array Value}{off:Nat}(h:cellsRel μ c C off):cellsRel μ' c C off:=
 λj v e=>let ⟨V,a,b⟩:=h j v e;⟨V,a,b.mono hle⟩
inductive ERels (μ:Inj):List MapEntry->List MapEntry->Prop
 |nil:ERels μ [] []
 |cons {e E:MapEntry}{l L:List MapEntry}(hk:VRel μ e.key E.key)(hv:VRel μ e.val E.val)(hb:e.born=E.born)(hs:ERels μ l L):ERels μ (e::l) (E::L)
theorem ERels.mono {μ μ':Inj}(hle:Inj.le μ μ'):∀{l L:List MapEntry},ERels μ l L->ERels μ' l L
 |_,_,.nil=>.nil
 |_,_,.cons hk hv hb hs=>.cons (hk.mono hle) (hv.mono hle) hb (hs.mono hle)
def ORel (B0:Nat)(μ:Inj)(w:World)(i:Nat):Obj->Prop
 |.cells true z c=>∃L C el,μ i=some L/\B0<=L.blk/\L.esz=z/\w.heap[L.blk]? =some (.cells C el (0,0))/\c.length<=L.room/\L.off+L.room<=C.size/\
   cellsRel μ c C L.off/\c.all one=true
 |.cells false z c=>∃L,μ i=some L/\L.esz=z/\c.all one=true/\(c=[]∨∃C el fr,w.heap[L.blk]? =some (.cells C el fr)/\cellsRel μ c C L.off)
 |.map es clock=>∃L ES,μ i=some L/\B0<=L.blk/\w.heap[L.blk]? =some (.map ES clock)/\ERels μ es ES.toList
 |.dead=>True
def Obj.isOwn:Obj->Bool
 |.cells b _ _=>b
 |.map _ _=>true
 |.dead=>false
def Obj.held:Obj->Bool
 |.cells b _ c=>b|| !c.isEmpty
 |.map _ _=>true
 |.dead=>false
theorem held_of_own {o:Obj}(h:o.isOwn=true):o.held=true:=by
 cases o with
 |cells b z c=>
  have h:b=true:=h;subst h;rfl
 |map es ck=>rfl
 |dead=>cases h
structure HRel (E:Env)(B0:Nat)(μ:Inj)(H:Heap)(w:World):Prop where
 fresh:∀i,H.next<=i->μ i=none
 glob:∀g,g<E.ng->∃L,μ g=some L/\L.blk=g/\L.off=0
 obj:∀i o,H.get i=some o->(∃L,μ i=some L)->ORel B0 μ w i o
 apart:∀i j oi oj Li Lj,H.get i=some oi->H.get j=some oj->oi.isOwn=true->oj.held=true->μ i=some Li->μ j=some Lj->Li.blk=Lj.blk->i=j
 base:B0<=w.heap.size
theorem ORel.mono {B0:Nat}{μ μ':Inj}(hle:Inj.le μ μ'){w:World}{i:Nat}:∀{o:Obj},ORel B0 μ w i o->ORel B0 μ' w i o
 |.cells true _ _,⟨L,C,el,h1,h2,h3,h4,h5,h6,h7,h8⟩=>⟨L,C,el,hle _ _ h1,h2,h3,h4,h5,h6,h7.mono hle,h8⟩
 |.cells false _ _,⟨L,h1,h3,h8,hc⟩=>⟨L,hle _ _ h1,h3,h8,hc.imp id λ⟨C,el,fr,h4,h7⟩=>⟨C,el,fr,h4,h7.mono hle⟩⟩
 |.map _ _,⟨L,ES,h1,h2,h3,h4⟩=>⟨L,ES,hle _ _ h1,h2,h3,h4.mono hle⟩
 |.dead,_=>trivial
theorem ORel.own_loc {B0:Nat}{μ:Inj}{w:World}{i:Nat}:∀{o:Obj},ORel B0 μ w i o->o.isOwn=true->∃L,μ i=some L/\B0<=L.blk/\L.blk<w.heap.size
 |.cells true _ _,⟨L,C,el,h1,h2,h3,h4,_⟩,_=>⟨L,h1,h2,by rcases Nat.lt_or_ge L.blk w.heap.size with h|h;exact h;rw [Array.getElem?_eq_none h] at h4;cases h4⟩
 |.map _ _,⟨L,ES,h1,h2,h3,_⟩,_=>⟨L,h1,h2,by rcases Nat.lt_or_ge L.blk w.heap.size with h|h;exact h;rw [Array.getElem?_eq_none h] at h3;cases h3⟩
 |.cells false _ _,_,h=>by simp [Obj.isOwn] at h
 |.dead,_,h=>by simp [Obj.isOwn] at h
theorem ORel.held_loc {B0:Nat}{μ:Inj}{w:World}{i:Nat}:∀{o:Obj},ORel B0 μ w i o->o.held=true->∃L,μ i=some L/\L.blk<w.heap.size
 |.cells true _ _,h,_=>let ⟨L,h1,_,h3⟩:=h.own_loc rfl;⟨L,h1,h3⟩
 |.map _ _,h,_=>let ⟨L,h1,_,h3⟩:=h.own_loc rfl;⟨L,h1,h3⟩
 |.cells false _ c,⟨L,h1,_,_,hc⟩,hh=>by
  rcases hc with hc|⟨C,el,fr,h4,_⟩
  ·subst hc;cases hh
  ·exact ⟨L,h1,by rcases Nat.lt_or_ge L.blk w.heap.size with h|h;exact h;rw [Array.getElem?_eq_none h] at h4;cases h4⟩
 |.dead,_,h=>by cases h
theorem ORel.world {B0:Nat}{μ:Inj}{w w':World}{i:Nat}:∀{o:Obj},ORel B0 μ w i o->(∀L,μ i=some L->L.blk<w.heap.size->w'.heap[L.blk]? =w.heap[L.blk]?)->ORel B0 μ w' i o
 |.cells true _ _,⟨L,C,el,h1,h2,h3,h4,h5⟩,h=>⟨L,C,el,h1,h2,h3,by rw [h L h1 (lt_of h4)];exact h4,h5⟩
 |.cells false _ _,⟨L,h1,h3,h8,hc⟩,h=>⟨L,h1,h3,h8,hc.imp id λ⟨C,el,fr,h4,h7⟩=>⟨C,el,fr,by rw [h L h1 (lt_of h4)];exact h4,h7⟩⟩
 |.map _ _,⟨L,ES,h1,h2,h3,h4⟩,h=>⟨L,ES,h1,h2,by rw [h L h1 (lt_of h3)];exact h3,h4⟩
 |.dead,_,_=>trivial
 where
 lt_of {w:World}{k:Nat}{x:Go.Obj}(h:w.heap[k]? =some x):k<w.heap.size:=by
  rcases Nat.lt_or_ge k w.heap.size with h'|h'
  ·exact h'
  ·rw [Array.getElem?_eq_none h'] at h;cases h
theorem HRel.world {E:Env}{B0:Nat}{μ:Inj}{H:Heap}{w w':World}(h:HRel E B0 μ H w)(hk:∀k,k<w.heap.size->w'.heap[k]? =w.heap[k]?)(hs:w.heap.size<=w'.heap.size):HRel E B0 μ H w' where
 fresh:=h.fresh
 glob:=h.glob
 obj i o ho hm:=(h.obj i o ho hm).world λL _ hl=>hk _ hl
 apart:=h.apart
 base:=Nat.le_trans h.base hs
theorem HRel.heap {E:Env}{B0:Nat}{μ:Inj}{H:Heap}{w w':World}(h:HRel E B0 μ H w)(hk:w'.heap=w.heap):HRel E B0 μ H w':=
 h.world (λk _=>by rw [hk]) (by rw [hk];exact Nat.le_refl _)
theorem HRel.drop {E:Env}{B0:Nat}{μ:Inj}{H:Heap}{w:World}(h:HRel E B0 μ H w)(i:Nat):HRel E B0 μ (H.set i .dead) w where
 fresh:=h.fresh
 glob:=h.glob
 obj j o ho hm:=by
  rw [Heap.get_set] at ho;split at ho
  ·injection ho with ho;subst ho;trivial
  ·exact h.obj j o ho hm
 apart:=by
  intro a b oa ob La Lb ha hb wa wb ma mb hbl;rw [Heap.get_set] at ha hb;split at ha
  ·injection ha with ha;subst ha;simp [Obj.isOwn] at wa
  ·split at hb
   ·injection hb with hb;subst hb;simp [Obj.held] at wb
   ·exact h.apart a b oa ob La Lb ha hb wa wb ma mb hbl
 base:=h.base
theorem HRel.adoptAt {E:Env}{B0:Nat}{μ:Inj}{H H':Heap}{w:World}(h:HRel E B0 μ H w)(d:Nat)(L:Loc)(o:Obj)(hd:μ d=none)(hg:∀j,H'.get j=if j=d then some o else H.get j)
  (hn:H.next<=H'.next)(hdn:d<H'.next)(hfree:∀i oi Li,H.get i=some oi->(o.isOwn=true/\oi.held=true∨oi.isOwn=true/\o.held=true)->μ i=some Li->Li.blk≠L.blk)
  (ho:ORel B0 (μ.add d L) w d o):HRel E B0 (μ.add d L) H' w where
 fresh i hi:=by
  unfold Inj.add;rw [if_neg (by omega)];exact h.fresh i (by omega)
 glob g hg:=by
  have⟨K,h1,h2,h3⟩:=h.glob g hg;exact ⟨K,Inj.le_add L hd _ _ h1,h2,h3⟩
 obj j x hx hm:=by
  rw [hg] at hx;split at hx
  ·injection hx with hx;subst hx;subst_vars;exact ho
  ·rename_i hne;have⟨K,hK⟩:=hm;unfold Inj.add at hK;rw [if_neg hne] at hK;exact (h.obj j x hx ⟨K,hK⟩).mono (Inj.le_add L hd)
 apart:=by
  intro a b oa ob La Lb ha hb wa wb ma mb hbl;rw [hg] at ha hb;unfold Inj.add at ma mb;split at ha
  ·rename_i e1;split at hb
   ·rename_i e2;rw [e1,e2]
   ·rename_i e2;rw [if_pos e1] at ma;rw [if_neg e2] at mb;injection ma with ma;subst ma
    injection ha with ha;subst ha
    exact absurd hbl.symm (hfree b ob Lb hb (.inl ⟨wa,wb⟩) mb)
  ·rename_i e1;rw [if_neg e1] at ma;split at hb
   ·rename_i e2;rw [if_pos e2] at mb;injection mb with mb;subst mb
    injection hb with hb;subst hb
    exact absurd hbl (hfree a oa La ha (.inr ⟨wa,wb⟩) ma)
   ·rename_i e2;rw [if_neg e2] at mb;exact h.apart a b oa ob La Lb ha hb wa wb ma mb hbl
 base:=h.base
theorem HRel.adopt {E:Env}{B0:Nat}{μ:Inj}{H:Heap}{w:World}(h:HRel E B0 μ H w)(L:Loc)(o:Obj)
  (hfree:∀i oi Li,H.get i=some oi->(o.isOwn=true/\oi.held=true∨oi.isOwn=true/\o.held=true)->μ i=some Li->Li.blk≠L.blk)
  (ho:ORel B0 (μ.add H.next L) w H.next o):HRel E B0 (μ.add H.next L) (H.new o) w:=
 h.adoptAt H.next L o (h.fresh _ (Nat.le_refl _)) (λj=>Heap.get_new H j o) (Nat.le_succ _) (Nat.lt_succ_self _) hfree ho
def Grow (H:Heap)(μ:Inj)(H':Heap)(μ':Inj):Prop:=Inj.le μ μ'/\(∀i,i<H.next->μ' i=μ i)/\H.next<=H'.next
theorem Grow.le {H H':Heap}{μ μ':Inj}(h:Grow H μ H' μ'):Inj.le μ μ':=h.1
theorem Grow.same {H H':Heap}(μ:Inj)(h:H'.next=H.next):Grow H μ H' μ:=⟨Inj.le_refl _,λ_ _=>rfl,by omega⟩
theorem Grow.refl (H:Heap)(μ:Inj):Grow H μ H μ:=Grow.same μ rfl
theorem Grow.trans {H H' H'':Heap}{μ μ' μ'':Inj}(h:Grow H μ H' μ')(k:Grow H' μ' H'' μ''):Grow H μ H'' μ'':=
 ⟨Inj.le_trans h.1 k.1,λi hi=>(k.2.1 i (by have:=h.2.2;omega)).trans (h.2.1 i hi),Nat.le_trans h.2.2 k.2.2⟩
theorem Grow.new {H:Heap}{μ:Inj}(o:Obj)(L:Loc)(h:μ H.next=none):Grow H μ (H.new o) (μ.add H.next L):=
 ⟨Inj.le_add L h,λi hi=>by unfold Inj.add;rw [if_neg (by omega)],Nat.le_succ _⟩
theorem heap_alloc_self (w:World)(o:Go.Obj):(w.alloc o).heap[w.heap.size]? =some o:=by
 show (w.heap.push o)[w.heap.size]? =some o;exact Array.getElem?_push_size
theorem HRel.alloc {E:Env}{B0:Nat}{μ:Inj}{H:Heap}{w:World}(h:HRel E B0 μ H w)(o:Go.Obj):HRel E B0 μ H (w.alloc o):=
 h.world (λk hk=>Below.heap_alloc w o k hk) (by simp)
theorem HRel.newCells {E:Env}{B0:Nat}{μ:Inj}{H:Heap}{w:World}(h:HRel E B0 μ H w)(z room:Nat)(c:List Value)(C:Array Value)(el:TypeId)
  (hc:cellsRel μ c C 0)(h1:c.length<=room)(h2:room<=C.size)(hone:c.all one=true) :
  Grow H μ (H.new (.cells true z c)) (μ.add H.next ⟨w.heap.size,0,room,z⟩)/\HRel E B0 (μ.add H.next ⟨w.heap.size,0,room,z⟩) (H.new (.cells true z c)) (w.alloc (.cells C el))/\Below B0 w (w.alloc (.cells C el)):=by
 have hle:=Inj.le_add (⟨w.heap.size,0,room,z⟩:Loc) (h.fresh _ (Nat.le_refl _));refine ⟨Grow.new _ _ (h.fresh _ (Nat.le_refl _)),(h.alloc _).adopt _ _ ?_ ?_,(Below.refl _ _).alloc h.base _⟩
 ·intro i oi Li hi hw hm;have⟨K,k1,k3⟩:=(h.obj i oi hi ⟨_,hm⟩).held_loc (hw.elim (λh=>h.2) λh=>held_of_own h.1);rw [hm] at k1;injection k1 with k1
  subst k1;exact λe=>by simp only at e;omega
 ·exact ⟨_,C,el,Inj.add_self _ _ _,h.base,rfl,heap_alloc_self _ _,h1,by simpa using h2,hc.mono hle,hone⟩
theorem HRel.newMap {E:Env}{B0:Nat}{μ:Inj}{H:Heap}{w:World}(h:HRel E B0 μ H w)(es:List MapEntry)(ES:Array MapEntry)(ck:Nat)(he:ERels μ es ES.toList) :
  Grow H μ (H.new (.map es ck)) (μ.add H.next ⟨w.heap.size,0,0,0⟩)/\HRel E B0 (μ.add H.next ⟨w.heap.size,0,0,0⟩) (H.new (.map es ck)) (w.alloc (.map ES ck))/\Below B0 w (w.alloc (.map ES ck)):=by
 have hle:=Inj.le_add (⟨w.heap.size,0,0,0⟩:Loc) (h.fresh _ (Nat.le_refl _));refine ⟨Grow.new _ _ (h.fresh _ (Nat.le_refl _)),(h.alloc _).adopt _ _ ?_ ?_,(Below.refl _ _).alloc h.base _⟩
 ·intro i oi Li hi hw hm;have⟨K,k1,k3⟩:=(h.obj i oi hi ⟨_,hm⟩).held_loc (hw.elim (λh=>h.2) λh=>held_of_own h.1);rw [hm] at k1;injection k1 with k1
  subst k1;exact λe=>by simp only at e;omega
 ·exact ⟨_,ES,Inj.add_self _ _ _,h.base,heap_alloc_self _ _,he.mono hle⟩
theorem HRel.put {E:Env}{B0:Nat}{μ:Inj}{H:Heap}{w w':World}(h:HRel E B0 μ H w){i:Nat}{o o':Obj}{L:Loc}(hi:H.get i=some o)(hw:o.isOwn=true)(hw':o'.isOwn=true)(hm:μ i=some L)
  (hk:∀k,k≠L.blk->w'.heap[k]? =w.heap[k]?)(hs:w'.heap.size=w.heap.size)(ho:ORel B0 μ w' i o'):HRel E B0 μ (H.set i o') w' where
 fresh:=h.fresh
 glob:=h.glob
 obj j x hx hmj:=by
  rw [Heap.get_set] at hx;split at hx
  ·injection hx with hx;subst hx;subst_vars;exact ho
  ·rename_i hne;have hr:=h.obj j x hx hmj;have⟨L',l1,l2,_⟩:=(h.obj i o hi ⟨_,hm⟩).own_loc hw;rw [hm] at l1;injection l1 with l1;subst l1
   have key:∀K,μ j=some K->x.held=true->K.blk≠L.blk:=λK hK hx0 e=>hne (h.apart i j o x L K hi hx hw hx0 hm hK e.symm).symm
   cases x with
   |dead=>trivial
   |map es ck=>exact hr.world λK hK hlt=>hk _ (key K hK rfl)
   |cells b z c=>
    cases b with
    |true=>exact hr.world λK hK hlt=>hk _ (key K hK rfl)
    |false=>
     have⟨K,q1,q2,q4,q5⟩:=hr;by_cases hc:c=[]
     ·exact ⟨K,q1,q2,q4,.inl hc⟩
     ·refine ⟨K,q1,q2,q4,q5.imp id λ⟨C,el,fr,r2,r3⟩=>⟨C,el,fr,?_,r3⟩⟩;rw [hk _ (key K q1 (by cases c with|nil=>exact absurd rfl hc|cons v c=>rfl))];exact r2
 apart:=by
  intro a b oa ob La Lb ha hb wa wb ma mb hbl;rw [Heap.get_set] at ha hb;by_cases ea:a=i
  ·by_cases eb:b=i
   ·rw [ea,eb]
   ·rw [if_neg eb] at hb;subst ea;exact h.apart _ b o ob La Lb hi hb hw wb ma mb hbl
  ·rw [if_neg ea] at ha;by_cases eb:b=i
   ·subst eb;exact h.apart a _ oa o La Lb ha hi wa (held_of_own hw) ma mb hbl
   ·rw [if_neg eb] at hb;exact h.apart a b oa ob La Lb ha hb wa wb ma mb hbl
 base:=by rw [hs];exact h.base
theorem setRow_other (w:World)(g k:Nat)(C:Array Value)(h:k≠g):(w.setRow g C).heap[k]? =w.heap[k]? :=by
 simp only [World.setRow,Array.getElem?_modify];rw [if_neg (λe=>h e.symm)]
theorem setRow_size (w:World)(g:Nat)(C:Array Value):(w.setRow g C).heap.size=w.heap.size:=by simp [World.setRow]
theorem setAt_length:∀(c:List Value)(o:Nat)(vs:List Value),(setAt c o vs).length=c.length
 |_,_,[]=>rfl
 |c,o,v::vs=>by simp [setAt,setAt_length (c.set o v) (o+1) vs]
theorem setAt_get:∀(vs c:List Value)(o j:Nat),o+vs.length<=c.length->(setAt c o vs)[j]? =if o<=j/\j<o+vs.length then vs[j - o]? else c[j]?
 |[],c,o,j,_=>by
  simp only [setAt,List.length_nil,Nat.add_zero]
  rw [if_neg (by omega)]
 |v::vs,c,o,j,h=>by
  simp only [List.length_cons] at h⊢
  rw [setAt,setAt_get vs (c.set o v) (o+1) j (by simp;omega)]
  by_cases h1:o+1<=j/\j<o+1+vs.length
  ·rw [if_pos h1,if_pos (by omega),show j - o=(j - (o+1))+1 from by omega]
   rfl
  ·rw [if_neg h1]
   by_cases h2:o=j
   ·subst h2
    rw [if_pos (by omega),List.getElem?_set_self (by omega),Nat.sub_self]
    rfl
   ·rw [if_neg (by omega),List.getElem?_set_ne h2]
theorem setAt_one:∀(vs c:List Value)(o:Nat),c.all one=true->vs.all one=true->(setAt c o vs).all one=true
 |[],_,_,h,_=>h
 |v::vs,c,o,h,h1=>by
  simp only [List.all_cons,Bool.and_eq_true] at h1
  refine setAt_one vs _ _ ?_ h1.2
  rw [List.all_eq_true] at h⊢
  intro x hx
  rcases List.mem_or_eq_of_mem_set hx with hx|rfl
  ·exact h x hx
  ·exact h1.1
def spliced (C:Array Value)(o:Nat)(VS:List Value):Array Value:=(C.toList.take o++VS++C.toList.drop (o+VS.length)).toArray
theorem spliced_size (C:Array Value)(o:Nat)(VS:List Value)(h:o+VS.length<=C.size):(spliced C o VS).size=C.size:=by
 simp [spliced];omega
theorem spliced_get (C:Array Value)(o:Nat)(VS:List Value)(h:o+VS.length<=C.size)(j:Nat) :
  (spliced C o VS)[j]? =if o<=j/\j<o+VS.length then VS[j - o]? else C[j]? :=by
 unfold spliced;rw [List.getElem?_toArray,List.append_assoc,List.getElem?_append];simp only [List.length_take,Array.length_toList];rw [Nat.min_eq_left (by omega)];by_cases h1:j<o
 ·rw [if_pos h1,if_neg (by omega),List.getElem?_take_of_lt h1,Array.getElem?_toList]
 ·rw [if_neg h1,List.getElem?_append];by_cases h2:j - o<VS.length
  ·rw [if_pos h2,if_pos (by omega)]
  ·rw [if_neg h2,if_neg (by omega),List.getElem?_drop,Array.getElem?_toList]
   congr 1;omega
theorem addr_add (g o n:Nat):(⟨g,o,none⟩:Addr).add n=⟨g,o+n,none⟩:=by unfold Addr.add;split<;>simp_all
theorem HRel.storeCells {E:Env}{B0:Nat}{μ:Inj}{H H':Heap}{w:World}(h:HRel E B0 μ H w){i o:Nat}{vs VS:List Value}{L:Loc}(hm:μ i=some L)
  (hs:storeCellsA H i o vs=some H')(hv:VRels μ vs VS)(h1:vs.all one=true)(P:Program) :
  ∃w',(Go.storeCells ⟨L.blk,L.off+o,none⟩ VS).run P w=.ok () w'/\HRel E B0 μ H' w'/\Below B0 w w':=by
 unfold storeCellsA at hs
 split at hs
 case h_2=>cases hs
 rename_i z c hg
 split at hs
 case isFalse=>cases hs
 rename_i hl
 injection hs with hs;subst hs
 have⟨L',C,el,k1,k2,k3,k4,k5,k6,k7,k8⟩:=h.obj i _ hg ⟨_,hm⟩
 rw [hm] at k1;injection k1 with k1;subst k1
 have hlen:=hv.length
 have hrun:=run_storeCells_at (P:=P) L.blk (L.off+o) el VS 0 C w k4 (by omega) (ones_rel h1 hv)
 refine ⟨_,hrun,?_,?_⟩
 ·have hsz:L.off+o+VS.length<=C.size:=by omega
  refine h.put hg rfl rfl hm (λk hk=>setRow_other _ _ _ _ hk) (setRow_size _ _ _) ⟨L,spliced C (L.off+o) VS,el,hm,k2,k3,?_,?_,?_,?_,?_⟩
  ·simpa [spliced] using setRow_heap w L.blk C _ el _ k4
  ·rw [setAt_length];exact k5
  ·rw [spliced_size _ _ _ hsz];exact k6
  ·intro j v hj
   rw [setAt_get _ _ _ _ hl] at hj
   rw [spliced_get _ _ _ hsz]
   split at hj
   ·rename_i hb
    have⟨V,hV,hr⟩:=hv.get hj
    rw [if_pos (by omega),show L.off+j - (L.off+o)=j - o from by omega]
    exact ⟨V,hV,hr⟩
   ·rw [if_neg (by omega)]
    exact k7 j v hj
  ·exact setAt_one _ _ _ k8 h1
 ·refine ⟨rfl,rfl,rfl,by rw [setRow_size];exact Nat.le_refl _,λk hk=>setRow_other _ _ _ _ (by omega)⟩
end
section
def PrimOK (E:Env)(f:FuncId)(p:List Value->Heap->Option (Value×Heap)):Prop:=
 ∀B0 args H v H',p args H=some (v,H')->∀μ w (ARGS:Array Value),HRel E B0 μ H w->VRels μ args ARGS.toList->
  Calls E.prog f ARGS w λe w'=>∃V μ',e=.returned V/\Grow H μ H' μ'/\VRel μ' v V/\HRel E B0 μ' H' w'/\Below B0 w w'
theorem HRel.env {E E':Env}(h:E'.ng=E.ng){B0:Nat}{μ:Inj}{H:Heap}{w:World}(k:HRel E B0 μ H w):HRel E' B0 μ H w:=
 ⟨k.fresh,by rw [h];exact k.glob,k.obj,k.apart,k.base⟩
theorem PrimOK.env {E E':Env}(hp:E'.prog=E.prog)(h:E'.ng=E.ng){f:FuncId}{p:List Value->Heap->Option (Value×Heap)}(k:PrimOK E f p):PrimOK E' f p:=λB0 args H v H' e μ w ARGS hH ha=>by
 rw [hp]
 exact (k B0 args H v H' e μ w ARGS (hH.env h.symm) ha).mono λe w' ⟨V,μ',h1,h2,h3,h4,h5⟩=>⟨V,μ',h1,h2,h3,h4.env h,h5⟩
structure Env.Ok (E : Env) : Prop where
  ty : ∀ t i, E.ty t = some i -> E.prog.info? t = some i
  fn : ∀ f fn, E.fn f = some fn → E.prog.funcs[f]? = some fn ∧ fn.body.isSome = true ∧ (fn.name == "runtime.NumGoroutine") = false
  eqOk : ∀ t, E.eqOk t = true → E.prog.stoodInHeld t = false ∧ E.prog.eqGuardType E.prog.depth t = false ∧ ∀ fs, E.prog.underlying t = some (.struct fs) → ∀ f ∈ fs.toList, f.name ≠ "_"
  clone : ∀ f, E.clone f = true → ∃ fn, E.prog.funcs[f]? = some fn ∧ fn.body = none ∧ (fn.name == "runtime.NumGoroutine") = false ∧ Extern.findNext fn = none ∧
    Extern.find fn = some Extern.MapsClone.clone
  truth : ∀ f, E.truth f = true -> ∀ w : World, Calls E.prog f #[] w λe w' => e = .returned (.bool true) /\ Below w.heap.size w w'
  prim : ∀ f p, E.prim f = some p -> PrimOK E f p
section
variable {E:Env} (hE:E.Ok) {B0:Nat} {μ:Inj} {H:Heap} {w:World}
include hE
theorem und_ok {t:Nat}{d:TypeDesc}(h:und E t=some d):E.prog.underlying t=some d:=by
 unfold und at h;split at h
 case h_2=>cases h
 rename_i i hi;have h1:=hE.ty _ _ hi;unfold Program.underlying;rw [h1];cases i with
 |mk desc=>
  cases desc
  case named n u=>
   simp only at h⊢;cases hu:E.ty u with
   |none=>rw [hu] at h;cases h
   |some j=>rw [hu] at h;rw [hE.ty _ _ hu];exact h
  all_goals (simp only at h⊢;exact h)
theorem run_und {t:Nat}{d:TypeDesc}(h:und E t=some d)(w:World):(underlying t).run E.prog w=.ok d w:=run_underlying (und_ok hE h) w
theorem run_info {t:Nat}{i:TypeInfo}(h:E.ty t=some i)(w:World):(typeInfo t).run E.prog w=.ok i w:=by
 simp [typeInfo,hE.ty _ _ h]
theorem run_size {t n:Nat}(h:sizeA E t=some n)(w:World):(sizeOf t).run E.prog w=.ok n w:=by
 unfold sizeA at h;cases hi:E.ty t with
 |none=>rw [hi] at h;cases h
 |some i=>
  rw [hi] at h;injection h with h
  simp [sizeOf,run_info hE hi,h]
theorem run_zero {t:Nat}{z:Value}(h:zeroV E t=some z)(w:World):(zeroValue t).run E.prog w=.ok z w/\plain z=true:=by
 unfold zeroV at h;split at h
 ·rename_i i hi;split at h
  ·rename_i z' hz;cases hp:plain z' with
   |false=>rw [hp] at h;cases h
   |true=>
    rw [hp] at h;injection h with h;subst h
    exact ⟨by simp [zeroValue,run_info hE hi,hz],hp⟩
  ·cases h
 ·cases h
theorem run_isAgg {t:Nat}{b:Bool}(h:isAggA E t=some b)(w:World):(isAgg t).run E.prog w=.ok b w:=by
 unfold isAggA at h;split at h
 ·rename_i fs hu;injection h with h;subst h;simp [isAgg,run_und hE hu]
 ·rename_i a c hu;injection h with h;subst h;simp [isAgg,run_und hE hu]
 ·rename_i d h1 h2 hu;injection h with h;subst h
  simp only [isAgg,Sem.run_bind,run_und hE hu,Result.andThen_ok];rfl
 ·cases h
omit hE
theorem HRel.cellsAt (h:HRel E B0 μ H w){i:Nat}{L:Loc}{b:Bool}{z:Nat}{c:List Value}(hm:μ i=some L)(hg:H.get i=some (.cells b z c))(hne:c≠[]) :
  ∃C el fr,w.heap[L.blk]? =some (.cells C el fr)/\cellsRel μ c C L.off/\c.all one=true:=by
 have ho:=h.obj i _ hg ⟨_,hm⟩;cases b with
 |true=>
  have⟨L',C,el,k1,k2,k3,k4,k5,k6,k7,k8⟩:=ho;rw [hm] at k1;injection k1 with k1;subst k1
  exact ⟨C,el,_,k4,k7,k8⟩
 |false=>
  have⟨L',k1,k3,k8,kc⟩:=ho;rw [hm] at k1;injection k1 with k1;subst k1
  rcases kc with kc|⟨C,el,fr,k4,k7⟩
  ·exact absurd kc hne
  ·exact ⟨C,el,fr,k4,k7,k8⟩
theorem takeAt_ne {c l:List Value}{o n:Nat}(h:takeAt c o n=some l)(hn:¬n=0):c≠[]:=by
 unfold takeAt at h;split at h
 ·rename_i hl;intro e;subst e;simp at hl;omega
 ·cases h
theorem cell_at {L:Loc}{C:Array Value}{el:TypeId}{fr:Nat×Nat}(hw:w.heap[L.blk]? =some (.cells C el fr))(o:Nat):w.cell? ⟨L.blk,o,none⟩=C[o]? :=by
 simp [World.cell?,hw]
theorem takeAt_rel {c l:List Value}{C:Array Value}{off o n:Nat}(hc:cellsRel μ c C off)(h:takeAt c o n=some l) :
  ∃CS:List Value,CS.length=n/\VRels μ l CS/\∀j v,CS[j]? =some v->C[off+o+j]? =some v:=by
 unfold takeAt at h;split at h
 case isFalse=>cases h
 rename_i hl;injection h with h;subst h
 have hget:∀j,j<n->∃v V,c[o+j]? =some v/\C[off+o+j]? =some V/\VRel μ v V:=by
  intro j hj;have hlt:o+j<c.length:=by omega
  have⟨V,hV,hr⟩:=hc (o+j) c[o+j] (by simp [hlt]);exact ⟨_,V,by simp [hlt],by rw [show off+o+j=off+(o+j) from by omega];exact hV,hr⟩
 refine ⟨(C.toList.drop (off+o)).take n,?_,?_,?_⟩
 ·simp only [List.length_take,List.length_drop,Array.length_toList];rcases Nat.eq_zero_or_pos n with rfl|hn
  ·simp
  ·have⟨v,V,_,hV,_⟩:=hget (n - 1) (by omega)
   have:off+o+(n - 1)<C.size:=by
    rcases Nat.lt_or_ge (off+o+(n - 1)) C.size with h|h
    ·exact h
    ·rw [Array.getElem?_eq_none h] at hV;cases hV
   omega
 ·have hlen:((C.toList.drop (off+o)).take n).length=n:=by
   simp only [List.length_take,List.length_drop,Array.length_toList];rcases Nat.eq_zero_or_pos n with rfl|hn
   ·simp
   ·have⟨v,V,_,hV,_⟩:=hget (n - 1) (by omega)
    have:off+o+(n - 1)<C.size:=by
     rcases Nat.lt_or_ge (off+o+(n - 1)) C.size with h|h
     ·exact h
     ·rw [Array.getElem?_eq_none h] at hV;cases hV
    omega
  refine VRels.of_get (by rw [hlen];simp;omega) ?_;intro j v V hv hV;have hj:j<n:=by
   rcases Nat.lt_or_ge j n with h|h
   ·exact h
   ·rw [List.getElem?_eq_none (by rw [hlen];exact h)] at hV;cases hV
  have⟨v',V',h1,h2,h3⟩:=hget j hj;rw [List.getElem?_take_of_lt hj,List.getElem?_drop] at hv hV;rw [h1] at hv;rw [Array.getElem?_toList,h2] at hV;injection hv with hv;injection hV with hV
  subst hv;subst hV;exact h3
 ·intro j v hv;have hj:j<n:=by
   rcases Nat.lt_or_ge j n with h|h
   ·exact h
   ·rw [List.getElem?_eq_none (by simp;omega)] at hv;cases hv
  rw [List.getElem?_take_of_lt hj,List.getElem?_drop,Array.getElem?_toList] at hv;exact hv
theorem run_cells {L:Loc}{C:Array Value}{el:TypeId}{fr:Nat×Nat}(hw:w.heap[L.blk]? =some (.cells C el fr)){o:Nat}{CS:List Value}(h:∀j v,CS[j]? =some v->C[L.off+o+j]? =some v)(P:Program) :
  (loadCells ⟨L.blk,L.off+o,none⟩ CS.length).run P w=.ok CS.toArray w:=by
 refine run_loadCells_list w _ CS λj v hj=>?_
 rw [addr_add,cell_at hw];exact h j v hj
include hE
theorem load_ok (hH:HRel E B0 μ H w){t:Nat}{a A v:Value}(ha:VRel μ a A)(h:loadV E H t a=some v) :
  ∃V,(Instr.loadAt t A).run E.prog w=.ok V w/\VRel μ v V:=by
 unfold loadV at h;split at h
 case h_2=>cases h
 rename_i i o;cases ha with
 |@ptr _ _ L hm=>
 split at h
 case h_2=>cases h
 rename_i b z c hg;split at h
 ·rename_i hagg;cases hs:sizeA E t with
  |none=>rw [hs] at h;cases h
  |some n=>
   rw [hs] at h;simp only [Option.bind_some] at h;split at h
   ·cases h
   rename_i hn0;cases ht:takeAt c o n with
   |none=>rw [ht] at h;cases h
   |some l=>
    rw [ht] at h;injection h with h;subst h
    have⟨C,el,fr,hw,hc,h1⟩:=hH.cellsAt hm hg (takeAt_ne ht hn0);have⟨CS,e1,e2,e3⟩:=takeAt_rel hc ht;refine ⟨.agg CS.toArray,?_,.agg (by simpa using e2)⟩
    have:=run_cells hw e3 E.prog
    rw [e1] at this;simp [Instr.loadAt,Instr.sureAddr,loadVar,run_isAgg hE hagg,run_size hE hs,this]
 ·rename_i hagg;have⟨C,el,fr,hw,hc,h1⟩:=hH.cellsAt hm hg (by intro e;subst e;simp at h);have⟨V,hV,hr⟩:=hc o v h;refine ⟨V,?_,hr⟩;simp [Instr.loadAt,Instr.sureAddr,loadVar,run_isAgg hE hagg,cell_at hw,hV]
 ·cases h
theorem store_ok (hH:HRel E B0 μ H w){t:Nat}{a A v V:Value}{H':Heap}(ha:VRel μ a A)(hv:VRel μ v V)(h:storeV E H t a v=some H') :
  ∃w',(Instr.storeAt t A V).run E.prog w=.ok () w'/\HRel E B0 μ H' w'/\Below B0 w w':=by
 unfold storeV at h;split at h
 case h_2=>cases h
 rename_i i o;cases ha with
 |@ptr _ _ L hm=>
 cases hc:cellsOf v with
 |none=>rw [hc] at h;cases h
 |some vs=>
  cases hs:sizeA E t with
  |none=>rw [hc,hs] at h;cases h
  |some n=>
   rw [hc,hs] at h;simp only [Option.bind_some] at h;split at h
   case isFalse=>cases h
   rename_i hn;have hr:=cellsOf_rel hc hv;have⟨w',e1,e2,e3⟩:=hH.storeCells hm h hr (cellsOf_one hc) E.prog;refine ⟨w',?_,e2,e3⟩;have hsz:V.cells.size=n:=by rw [<-Array.length_toList,<-hr.length,hn]
   simp [Instr.storeAt,Instr.sureAddr,storeVar,run_size hE hs,hsz,e1]
omit hE
theorem cellsRel_of_rels {vs:List Value}{VS:Array Value}(h:VRels μ vs VS.toList):cellsRel μ vs VS 0:=by
 intro j v hj;have⟨V,hV,hr⟩:=h.get hj;exact ⟨V,by rw [Nat.zero_add,<-Array.getElem?_toList];exact hV,hr⟩
def Makes (E:Env)(B0:Nat)(μ:Inj)(H:Heap)(w:World)(s:Sem Value)(v:Value)(H':Heap):Prop:=
 ∃V w' μ',s.run E.prog w=.ok V w'/\Grow H μ H' μ'/\VRel μ' v V/\HRel E B0 μ' H' w'/\Below B0 w w'
theorem newVal_ok (hH:HRel E B0 μ H w){v V p:Value}{H':Heap}(hv:VRel μ v V)(h:newVal H v=some (p,H'))(t:TypeId) :
  ∃μ',(newVar t V).run E.prog w=.ok ⟨w.heap.size,0,none⟩ (w.alloc (.cells V.cells t))/\Grow H μ H' μ'/\VRel μ' p (.pointer (some ⟨w.heap.size,0,none⟩))/\
   HRel E B0 μ' H' (w.alloc (.cells V.cells t))/\Below B0 w (w.alloc (.cells V.cells t)):=by
 unfold newVal at h;cases hc:cellsOf v with
 |none=>rw [hc] at h;cases h
 |some vs=>
  rw [hc] at h;simp only [Option.map_some,Option.some.injEq,Prod.mk.injEq] at h;obtain ⟨rfl,rfl⟩:=h;have hr:=cellsOf_rel hc hv;have⟨k1,k2,k3⟩:=hH.newCells 0 V.cells.size vs V.cells t (cellsRel_of_rels hr) (by rw [hr.length];simp) (Nat.le_refl _) (cellsOf_one hc);refine ⟨_,by simp [newVar,newRow],k1,?_,k2,k3⟩;exact .ptr (L:=⟨w.heap.size,0,V.cells.size,0⟩) (Inj.add_self _ _ _)
theorem box_ok (hH:HRel E B0 μ H w){v V p:Value}{H':Heap}(hv:VRel μ v V)(h:newVal H v=some (p,H'))(t:TypeId):Makes E B0 μ H w (Instr.box t V) p H':=by
 have⟨μ',h1,h2,h3,h4,h5⟩:=newVal_ok hH hv h t;exact ⟨_,_,μ',by simp [Instr.box,h1],h2,h3,h4,h5⟩
include hE in
theorem alloc_ok (hH:HRel E B0 μ H w){z p:Value}{H':Heap}{t:TypeId}(hz:zeroV E t=some z)(h:newVal H z=some (p,H')):Makes E B0 μ H w (Instr.alloc t true (.tuple #[])) p H':=by
 have⟨hr,hp⟩:=run_zero hE hz w;have⟨μ',h1,h2,h3,h4,h5⟩:=newVal_ok hH (plain_rel hp) h t;exact ⟨_,_,μ',by simp [Instr.alloc,hr,h1],h2,h3,h4,h5⟩
theorem VRels.set {l L:List Value}(h:VRels μ l L)(i:Nat){v V:Value}(hv:VRel μ v V):VRels μ (l.set i v) (L.set i V):=by
 refine VRels.of_get (by simp [h.length]) λj a b ha hb=>?_
 rw [List.getElem?_set] at ha hb;by_cases e:i=j
 ·rw [if_pos e] at ha hb;split at ha<;>split at hb<;>simp_all
 ·rw [if_neg e] at ha hb;have⟨V',h1,h2⟩:=h.get ha;rw [hb] at h1;injection h1 with h1;subst h1
  exact h2
theorem noTop_cells {v V:Value}(h1:noTop v=true)(h:VRel μ v V):VRels μ v.cells.toList V.cells.toList:=by
 cases h<;>first
  |(simp [noTop] at h1;done)
  |exact ‹VRels _ _ _›
  |exact .cons (by constructor<;>assumption) .nil
  |exact .cons .ptrNil .nil
theorem fold_rel:∀{l L:List Value},VRels μ l L->∀(k off:Nat)(c C:Array Value),VRels μ c.toList C.toList->
  VRels μ ((l.zipIdx k).foldl (λcs (p:Value×Nat)=>cs.setIfInBounds (off+p.2) p.1) c).toList ((L.zipIdx k).foldl (λcs (p:Value×Nat)=>cs.setIfInBounds (off+p.2) p.1) C).toList
 |_,_,.nil,_,_,_,_,h=>h
 |_,_,.cons hv hs,k,off,c,C,h=>by
  simp only [List.zipIdx_cons,List.foldl_cons]
  exact fold_rel hs (k+1) off _ _ (by simpa using h.set (off+k) hv)
theorem zip_fold (off:Nat)(a c:Array Value) :
  (a.zipIdx.foldl (λcs (p:Value×Nat)=>cs.setIfInBounds (off+p.2) p.1) c)=a.toList.zipIdx.foldl (λcs (p:Value×Nat)=>cs.setIfInBounds (off+p.2) p.1) c:=by
 rw [<-Array.foldl_toList,Array.toList_zipIdx]
theorem fill_rel (place:Nat->Option (Nat×Nat))(e e':Operand->Value)(he:∀x,VRel μ (e x) (e' x)):∀(ps:List (Nat×Operand))(c C c':Array Value),
  (ps.map λp=>(p.1,e p.2)).all (λp=>noTop p.2)=true->VRels μ c.toList C.toList->Instr.fill place c (ps.map λp=>(p.1,e p.2))=some c'->
  ∃C',Instr.fill place C (ps.map λp=>(p.1,e' p.2))=some C'/\VRels μ c'.toList C'.toList
 |[],c,C,c',_,hc,h=>by
  simp only [List.map_nil,Instr.fill,Option.some.injEq] at h⊢
  subst h
  exact ⟨C,rfl,hc⟩
 |p::ps,c,C,c',ht,hc,h=>by
  simp only [List.map_cons,List.all_cons,Bool.and_eq_true] at ht
  simp only [List.map_cons,Instr.fill] at h⊢
  cases hp:place p.1 with
  |none=>rw [hp] at h;cases h
  |some q=>
   have⟨off,size⟩:=q
   rw [hp] at h
   simp only at h⊢
   have hcr:=noTop_cells ht.1 (he p.2)
   have hl:=hcr.length
   simp only [Array.length_toList] at hl
   have hl2:=hc.length
   simp only [Array.length_toList] at hl2
   rw [<-hl,<-hl2]
   split at h
   ·cases h
   ·rename_i hb
    rw [if_neg hb]
    refine fill_rel place e e' he ps _ _ c' ht.2 ?_ h
    rw [zip_fold,zip_fold]
    exact fold_rel hcr 0 off c C hc
include hE in
theorem run_places {w:World}:∀(fs:List Field)(ps:List (Nat×Nat)),(fs.mapM λf=>(sizeA E f.type).map λn=>(f.offset,n))=some ps->
  (fs.mapM λf=>Functor.map (Prod.mk f.offset) (sizeOf f.type)).run E.prog w=.ok ps w
 |[],ps,h=>by
  simp only [List.mapM_nil] at h⊢
  injection h with h;subst h;rfl
 |f::fs,ps,h=>by
  simp only [List.mapM_cons] at h⊢
  cases hs:sizeA E f.type with
  |none=>simp [hs] at h
  |some n=>
   cases hr:(fs.mapM λf=>(sizeA E f.type).map λn=>(f.offset,n)) with
   |none=>simp [hs,hr] at h
   |some qs=>
    simp only [hs,hr,Option.map_some,Option.bind_eq_bind,Option.bind_some,Option.pure_def,Option.some.injEq] at h
    subst h
    have ih:=run_places (w:=w) fs qs hr
    simp [run_size hE hs,ih]
include hE in
theorem build_ok {t:TypeId}{parts:Array (Nat×Operand)}{e e':Operand->Value}{v:Value}(he:∀x,VRel μ (e x) (e' x))
  (h:buildV E t (parts.map λp=>(p.1,e p.2))=some v) :
  ∃V,(Instr.build t (parts.map λp=>(p.1,e' p.2))).run E.prog w=.ok V w/\VRel μ v V:=by
 unfold buildV at h;cases hz:zeroV E t with
 |none=>rw [hz] at h;cases h
 |some z=>
  rw [hz] at h;simp only [Option.bind_some] at h;cases hok:(partsOk (parts.map λp=>(p.1,e p.2))&&noTop z) with
  |false=>rw [hok] at h;cases h
  |true=>
   rw [hok] at h;simp only [cond_true] at h;have⟨hrz,hpz⟩:=run_zero hE hz w;simp only [Bool.and_eq_true,partsOk,Array.toList_map] at hok;have hzz:VRels μ z.cells.toList z.cells.toList:=noTop_cells hok.2 (plain_rel hpz);split at h
   ·rename_i fields hu;cases hm:(fields.toList.mapM λf=>(sizeA E f.type).map λn=>(f.offset,n)) with
    |none=>rw [hm] at h;cases h
    |some places=>
     rw [hm] at h;simp only [Option.bind_some,Array.toList_map] at h;cases hf:Instr.fill (λx=>places[x]?) z.cells (parts.toList.map λp=>(p.1,e p.2)) with
     |none=>rw [hf] at h;cases h
     |some c'=>
      rw [hf] at h;simp only [Option.map_some,Option.some.injEq] at h;subst h;have⟨C',h1,h2⟩:=fill_rel (λx=>places[x]?) e e' he parts.toList z.cells z.cells c' hok.1 hzz hf;refine ⟨.agg C',?_,.agg h2⟩;have hrun:=run_places hE (w:=w) fields.toList places hm;simp [Instr.build,hrz,run_und hE hu,Array.mapM_eq_mapM_toList,hrun,h1]
   ·rename_i len el hu;cases hs:sizeA E el with
    |none=>rw [hs] at h;cases h
    |some n=>
     rw [hs] at h;simp only [Option.bind_some,Array.toList_map] at h;cases hf:Instr.fill (λi=>some (i*n,n)) z.cells (parts.toList.map λp=>(p.1,e p.2)) with
     |none=>rw [hf] at h;cases h
     |some c'=>
      rw [hf] at h;simp only [Option.map_some,Option.some.injEq] at h;subst h;have⟨C',h1,h2⟩:=fill_rel (λi=>some (i*n,n)) e e' he parts.toList z.cells z.cells c' hok.1 hzz hf;refine ⟨.agg C',?_,.agg h2⟩;simp [Instr.build,hrz,run_und hE hu,run_size hE hs,h1]
   ·cases h
theorem cellsOf_cells {v:Value}{l:List Value}(h:cellsOf v=some l):v.cells=⟨l⟩:=by
 cases v
 case agg cs=>obtain ⟨_,rfl⟩:=cellsOf_agg h;rfl
 all_goals first|(cases h;done)|(injection h with h;subst h;rfl)
theorem reps_length (z:List Value):∀n,(reps n z).length=n*z.length
 |0=>by simp [reps]
 |n+1=>by simp [reps,reps_length z n,Nat.add_mul,Nat.add_comm]
theorem reps_get (z:List Value)(hz:1<=z.length):∀(n j:Nat),j<n*z.length->(reps n z)[j]? =z[j % z.length]?
 |0,j,h=>by simp at h
 |n+1,j,h=>by
  simp only [reps,List.getElem?_append];split
  ·rename_i hj;rw [Nat.mod_eq_of_lt hj]
  ·rename_i hj;rw [reps_get z hz n (j - z.length) (by rw [Nat.add_mul] at h;omega)]
   have:j % z.length=(j - z.length) % z.length:=by rw [Nat.mod_eq_sub_mod (by omega)]
   rw [this]
theorem reps_made (z:List Value)(hz:1<=z.length)(n:Nat):madeCells ⟨z⟩ (n*z.length)=⟨reps n z⟩:=by
 apply Array.ext';apply List.ext_getElem?;intro j;rw [Array.getElem?_toList];by_cases h:j<n*z.length
 ·have hm:j % z.length<z.length:=Nat.mod_lt _ (by omega);have e1:(madeCells ⟨z⟩ (n*z.length))[j]? =some z[j % z.length]:=by
   simp [madeCells,h,hm]
  rw [e1,reps_get z hz n j h];simp [hm]
 ·rw [Array.getElem?_eq_none (by rw [size_madeCells];omega),List.getElem?_eq_none (by rw [reps_length];omega)]
theorem reps_all {z:List Value}{p:Value->Bool}(h:z.all p=true):∀n,(reps n z).all p=true
 |0=>rfl
 |n+1=>by simp only [reps,List.all_append,h,reps_all h n,Bool.and_self]
theorem reps_rels {z:List Value}(h:VRels μ z z):∀n,VRels μ (reps n z) (reps n z)
 |0=>.nil
 |n+1=>h.append (reps_rels h n)
theorem zeroCells_of {e:Nat}{z:List Value}(h:zeroCellsA E e=some z) :
  ∃zv i,zeroV E e=some zv/\cellsOf zv=some z/\E.ty e=some i/\i.size=z.length/\i.zero=some zv/\plain zv=true/\z.all one=true:=by
 unfold zeroCellsA at h;cases hz:zeroV E e with
 |none=>rw [hz] at h;cases h
 |some zv=>
  rw [hz] at h;simp only [Option.bind_some] at h;cases hc:cellsOf zv with
  |none=>rw [hc] at h;cases h
  |some l=>
   rw [hc] at h;simp only [Option.bind_some] at h;unfold zeroV at hz;unfold sizeA at h;cases ht:E.ty e with
   |none=>rw [ht] at hz;cases hz
   |some i=>
    rw [ht] at hz h;simp only [Option.map_some,Option.bind_some] at h hz;split at h
    case isFalse=>cases h
    rename_i hl;injection h with h;subst h
    cases hzz:i.zero with
    |none=>rw [hzz] at hz;cases hz
    |some z'=>
     rw [hzz] at hz;simp only at hz;cases hp:plain z' with
     |false=>rw [hp] at hz;cases hz
     |true=>
      rw [hp] at hz;injection hz with hz;subst hz
      exact ⟨z',i,rfl,hc,rfl,hl.symm,hzz,hp,cellsOf_one hc⟩
theorem zeroCells_rel {e:Nat}{z:List Value}(h:zeroCellsA E e=some z):VRels μ z z:=by
 have⟨zv,i,h1,h2,h3,h4,h5,h6,h7⟩:=zeroCells_of h
 have:=cellsOf_rel (μ:=μ) h2 (plain_rel h6)
 rwa [cellsOf_cells h2] at this
theorem newRow_ok (hH:HRel E B0 μ H w){es len cap:Nat}{c:List Value}{C:Array Value}{el:TypeId}(hc:cellsRel μ c C 0)(h1:c.length<=C.size)(hone:c.all one=true)(hl:len<=cap)(hsz:C.size=cap*es) :
  ∃μ',Grow H μ (newRowA H es len c).2 μ'/\VRel μ' (newRowA H es len c).1 (.slice (some ⟨w.heap.size,0,none⟩) len cap)/\HRel E B0 μ' (newRowA H es len c).2 (w.alloc (.cells C el))/\Below B0 w (w.alloc (.cells C el)):=by
 have⟨k1,k2,k3⟩:=hH.newCells es C.size c C el hc h1 (Nat.le_refl _) hone;refine ⟨_,k1,?_,k2,k3⟩;exact .slice (L:=⟨w.heap.size,0,C.size,es⟩) (Inj.add_self _ _ _) hl (.inr (by simp only [Nat.zero_add];exact hsz.symm))
def RowMade (E:Env)(μ:Inj)(w:World)(H:Heap)(s:Sem Value)(v:Value)(H':Heap):Prop:=
 ∃es len c C el cap,(v,H')=newRowA H es len c/\s.run E.prog w=.ok (.slice (some ⟨w.heap.size,0,none⟩) len cap) (w.alloc (.cells C el))/\cellsRel μ c C 0/\c.length<=C.size/\c.all one=true/\len<=cap/\C.size=cap*es
theorem RowMade.makes {s:Sem Value}{v:Value}{H':Heap}(h:RowMade E μ w H s v H')(hH:HRel E B0 μ H w):Makes E B0 μ H w s v H':=by
 have⟨es,len,c,C,el,cap,h1,h2,h3,h4,h5,h6,h7⟩:=h;have⟨μ',q1,q2,q3,q4⟩:=newRow_ok (el:=el) hH (es:=es) h3 h4 h5 h6 h7;rw [<-h1] at q1 q2 q3;exact ⟨_,_,μ',h2,q1,q2,q3,q4⟩
include hE in
theorem makeSlice_run (w:World){t:Nat}{l c L C:Value}{v:Value}{H':Heap}(hl:VRel μ l L)(hc:VRel μ c C)(h:makeSliceA E H t l c=some (v,H')):RowMade E μ w H (Instr.makeSlice t L C) v H':=by
 unfold makeSliceA at h;split at h
 case h_2=>cases h
 rename_i e k1 n1 k2 n2 hu;cases hl;cases hc;cases hz:zeroCellsA E e with
 |none=>rw [hz] at h;cases h
 |some z=>
  rw [hz] at h;simp only [Option.bind_some] at h;have⟨zv,i,h1,h2,h3,h4,h5,h6,h7⟩:=zeroCells_of hz;rw [h3] at h;simp only [Option.bind_some] at h;split at h
  case isFalse=>cases h
  rename_i hb;have⟨b1,b2,b3,b4,b5⟩:=hb;simp only [Option.some.injEq] at h;obtain ⟨m,rfl⟩:=Int.eq_ofNat_of_zero_le (show 0<=n2 by omega);simp only [Int.toNat_natCast] at *;have hm:m<=140737488355328:=Nat.le_trans (Nat.le_mul_of_pos_left m b4) b3;have hby:(i.bytes:Int)*(m:Int)<=281474976710656:=by
   have h9:((i.bytes*m:Nat):Int)<=140737488355328:=by omega
   rw [Int.natCast_mul] at h9;omega
  have hrun:=run_make (P:=E.prog) w t e i zv (und_ok hE hu) (hE.ty _ _ h3) h5 k1 k2 n1 (m:Int) b1 (by omega) hby (by omega);rw [cellsOf_cells h2,h4,Int.toNat_natCast,reps_made z b5] at hrun;exact ⟨z.length,n1.toNat,reps m z,⟨reps m z⟩,e,m,h.symm,hrun,cellsRel_of_rels (reps_rels (zeroCells_rel hz) m),Nat.le_refl _,reps_all h7 m,by omega,by simp [reps_length]⟩
include hE in
theorem makeSlice_ok (hH:HRel E B0 μ H w){t:Nat}{l c L C:Value}{v:Value}{H':Heap}(hl:VRel μ l L)(hc:VRel μ c C)(h:makeSliceA E H t l c=some (v,H')):Makes E B0 μ H w (Instr.makeSlice t L C) v H':=
 (makeSlice_run hE w hl hc h).makes hH
include hE in
theorem buildSlice_run (w:World){t len:Nat}{parts:Array (Nat×Operand)}{e e':Operand->Value}{v:Value}{H':Heap}(he:∀x,VRel μ (e x) (e' x))
  (h:buildSliceA E H t len (parts.map λp=>(p.1,e p.2))=some (v,H')):RowMade E μ w H (Instr.buildSlice t len (parts.map λp=>(p.1,e' p.2))) v H':=by
 unfold buildSliceA at h;split at h
 case h_2=>cases h
 rename_i el hu;cases hz:zeroCellsA E el with
 |none=>rw [hz] at h;cases h
 |some z=>
  rw [hz] at h;simp only [Option.bind_some] at h;have⟨zv,i,h1,h2,h3,h4,h5,h6,h7⟩:=zeroCells_of hz;cases hok:(partsOk (parts.map λp=>(p.1,e p.2))&&Nat.ble (len*z.length) 16777216&&Nat.ble 1 z.length) with
  |false=>rw [hok] at h;cases h
  |true=>
   rw [hok] at h;simp only [cond_true] at h;simp only [Bool.and_eq_true,partsOk,Array.toList_map,Nat.ble_eq] at hok;have⟨⟨hok,hle⟩,hz1⟩:=hok;simp only [Array.toList_map] at h;cases hf:Instr.fill (λi=>some (i*z.length,z.length)) ⟨reps len z⟩ (parts.toList.map λp=>(p.1,e p.2)) with
   |none=>rw [hf] at h;cases h
   |some c'=>
    rw [hf] at h;simp only [Option.bind_some] at h;split at h
    case isFalse=>cases h
    rename_i hone;simp only [Option.some.injEq] at h;have⟨C',f1,f2⟩:=fill_rel (λi=>some (i*z.length,z.length)) e e' he parts.toList ⟨reps len z⟩ ⟨reps len z⟩ c' hok (reps_rels (zeroCells_rel hz) len) hf;have hsz:∀(ps:List (Nat×Value))(c d:Array Value),Instr.fill (λi=>some (i*z.length,z.length)) c ps=some d->d.size=c.size:=by
     intro ps
     induction ps with
     |nil=>intro c d hd;simp only [Instr.fill,Option.some.injEq] at hd;rw [hd]
     |cons p ps ih=>
      intro c d hd;simp only [Instr.fill] at hd;split at hd
      ·cases hd
      ·rw [ih _ _ hd,zip_fold]
       have:∀(l:List (Value×Nat))(c:Array Value),(l.foldl (λcs (p':Value×Nat)=>cs.setIfInBounds (p.1*z.length+p'.2) p'.1) c).size=c.size:=by
        intro l
        induction l with
        |nil=>intro c;rfl
        |cons x l ih=>intro c;simp only [List.foldl_cons];rw [ih];simp
       exact this _ _
    have hc's:=hsz _ _ _ hf;have hC's:=hsz _ _ _ f1;simp only [List.size_toArray,reps_length] at hc's hC's;refine ⟨z.length,len,c'.toList,C',el,len,h.symm,?_,cellsRel_of_rels f2,by simp;omega,hone,Nat.le_refl _,hC's⟩;have hrun:(Instr.buildSlice t len (parts.map λp=>(p.1,e' p.2))).run E.prog w=.ok (.slice (some ⟨w.heap.size,0,none⟩) len len) (w.alloc (.cells C' el)):=by
     have hzs:sizeA E el=some z.length:=by simp [sizeA,h3,h4]
     have hn:¬(16777216<len*z.length):=by omega
     have hr2:=(run_zero hE h1 w).1;have hmade:(Array.range (len*z.length)).map (λx=>z[x % z.length]?.getD default)=⟨reps len z⟩:=by
      have:=reps_made z hz1 len
      simpa [madeCells] using this
     by_cases h0:len*z.length=0
     ·have hl0:len=0:=by rcases Nat.mul_eq_zero.1 h0 with h|h;exact h;omega
      subst hl0;simp only [reps] at f1;simp [Instr.buildSlice,run_und hE hu,run_size hE hzs,Array.range_zero',f1,newRow]
     ·simp [Instr.buildSlice,run_und hE hu,run_size hE hzs,hn,h0,hr2,cellsOf_cells h2,hmade,f1,newRow]
    exact hrun
include hE in
theorem buildSlice_ok (hH:HRel E B0 μ H w){t len:Nat}{parts:Array (Nat×Operand)}{e e':Operand->Value}{v:Value}{H':Heap}(he:∀x,VRel μ (e x) (e' x))
  (h:buildSliceA E H t len (parts.map λp=>(p.1,e p.2))=some (v,H')):Makes E B0 μ H w (Instr.buildSlice t len (parts.map λp=>(p.1,e' p.2))) v H':=
 (buildSlice_run hE w he h).makes hH
end
end
section
section
variable {E:Env} (hE:E.Ok) {B0:Nat} {μ:Inj} {H:Heap} {w:World}
theorem bound_opt {lo d hi r:Nat}{x:Option Value}(h:boundA lo d hi x=some r):lo<=r/\r<=hi/\((x=none/\r=d)∨∃k n,x=some (.int k n)/\r=n.toNat/\(0<=n)/\n<=hi):=by
 unfold boundA at h;split at h
 ·split at h
  ·injection h with h;subst h;rename_i hh;exact ⟨hh.1,hh.2,.inl ⟨rfl,rfl⟩⟩
  ·cases h
 ·split at h
  ·injection h with h;subst h;rename_i hh;exact ⟨by omega,by omega,.inr ⟨_,_,rfl,rfl,by omega,hh.2⟩⟩
  ·cases h
 ·cases h
theorem opt_rel {x:Option Operand}{e e':Operand->Value}(he:∀x,VRel μ (e x) (e' x)){k:IntKind}{n:Int}(h:x.map e=some (.int k n)):x.map e'=some (.int k n):=by
 cases x with
 |none=>cases h
 |some x=>
  simp only [Option.map_some,Option.some.injEq] at h⊢
  have:=he x
  rw [h] at this;generalize e' x=y at this;cases this;rfl
theorem opt_none {x:Option Operand}{e e':Operand->Value}(h:x.map e=none):x.map e'=none:=by
 cases x with
 |none=>rfl
 |some x=>cases h
theorem run_bound (P:Program)(k:IntKind)(n:Int)(y:Nat)(code:BoundsCode)(h0:0<=n)(h1:n<=y):(Instr.sliceBound (.int k n) y code).run P w=.ok n.toNat w:=by
 simp [Instr.sliceBound,asIntOf,h0,h1]
theorem run_bounds {len cap l h:Nat}{lo hi:Option Operand}{e e':Operand->Value}(he:∀x,VRel μ (e x) (e' x))(hc:len<=cap)
  (h1:boundA 0 len len (hi.map e)=some h)(h2:boundA 0 0 h (lo.map e)=some l)(b:Bool)(P:Program) :
  (Instr.sliceBounds b len cap (lo.map e') (hi.map e') none).run P w=.ok (l,h,cap) w:=by
 have⟨_,a2,a3⟩:=bound_opt h1;have⟨_,b2,b3⟩:=bound_opt h2;rcases a3 with ⟨a3,rfl⟩|⟨k,n,a3,rfl,a4,a5⟩
 ·rw [opt_none (e':=e') a3];rcases b3 with ⟨b3,rfl⟩|⟨k',n',b3,rfl,b4,b5⟩
  ·rw [opt_none (e':=e') b3];simp [Instr.sliceBounds]
  ·rw [opt_rel he b3];simp [Instr.sliceBounds,run_bound P k' n' _ _ b4 b5]
 ·rw [opt_rel he a3];have hn:=λc=>run_bound (w:=w) P k n cap c a4 (by omega)
  rcases b3 with ⟨b3,rfl⟩|⟨k',n',b3,rfl,b4,b5⟩
  ·rw [opt_none (e':=e') b3];simp [Instr.sliceBounds,hn]
  ·rw [opt_rel he b3];simp [Instr.sliceBounds,hn,run_bound P k' n' _ _ b4 b5]
theorem HRel.esz (hH:HRel E B0 μ H w){i:Nat}{L:Loc}{b:Bool}{z:Nat}{c:List Value}(hm:μ i=some L)(hg:H.get i=some (.cells b z c)):L.esz=z:=by
 have ho:=hH.obj i _ hg ⟨_,hm⟩;cases b with
 |true=>
  have⟨L',C,el,k1,k2,k3,_⟩:=ho;rw [hm] at k1;injection k1 with k1;subst k1
  exact k3
 |false=>
  have⟨L',k1,k3,_⟩:=ho;rw [hm] at k1;injection k1 with k1;subst k1
  exact k3
include hE in
theorem slice_ok (hH:HRel E B0 μ H w){t:Nat}{x X v:Value}{lo hi mx:Option Operand}{e e':Operand->Value}(he:∀x,VRel μ (e x) (e' x))(hx:VRel μ x X)
  (h:sliceA E H t x (lo.map e) (hi.map e) (mx.map e)=some v) :
  ∃V,(Instr.sliceAt t X (lo.map e') (hi.map e') (mx.map e')).run E.prog w=.ok V w/\VRel μ v V:=by
 unfold sliceA at h;cases mx with
 |some m=>simp only [Option.map_some] at h;cases h
 |none=>
  simp only [Option.map_none] at h;split at h
  ·rename_i el a len c hu;cases hs:sizeA E el with
   |none=>rw [hs] at h;cases h
   |some n=>
    rw [hs] at h;simp only [Option.bind_some] at h;cases h1:boundA 0 len len (hi.map e) with
    |none=>rw [h1] at h;cases h
    |some hh=>
     rw [h1] at h;simp only [Option.bind_some] at h;cases h2:boundA 0 0 hh (lo.map e) with
     |none=>rw [h2] at h;cases h
     |some l=>
      rw [h2] at h;simp only [Option.bind_some] at h;have b1:=(bound_opt h1).2.1;have b2:=(bound_opt h2).2.1;cases hx with
      |sliceNil=>
       simp only [Option.some.injEq] at h;subst h;obtain rfl:hh=0:=by omega
       obtain rfl:l=0:=by omega
       refine ⟨.slice none 0 0,?_,.sliceNil⟩;have hb:=run_bounds (w:=w) he (Nat.le_refl 0) h1 h2 true E.prog;simp [Instr.sliceAt,Instr.slice,run_und hE hu,hb,run_size hE hs]
      |@slice i o _ _ cap L hm hl hr=>
       simp only at h;split at h
       case h_2=>cases h
       rename_i b z c hg;split at h
       case isFalse=>cases h
       rename_i hz;injection h with h;subst h
       have hez:=hH.esz hm hg;have hb:=run_bounds (w:=w) he hl h1 h2 true E.prog;by_cases hcl:cap=l
       ·refine ⟨.slice (some ⟨L.blk,L.off+o,none⟩) (hh - l) (cap - l),?_,?_⟩
        ·subst hcl;simp [Instr.sliceAt,Instr.slice,run_und hE hu,hb,run_size hE hs]
        ·have e1:hh - l=0:=by omega
         have e2:cap - l=0:=by omega
         rw [e1,e2];refine .sliceEnd hm ?_;rcases hr with hr|hr
         ·exact .inl hr
         ·rcases hz with hz|hz
          ·exact .inl (by rw [hez,hz])
          ·right;exact ⟨by rw [<-hr,hez,hz,hcl],rfl⟩
       ·refine ⟨.slice (some ⟨L.blk,L.off+(o+l*n),none⟩) (hh - l) (cap - l),?_,?_⟩
        ·simp [Instr.sliceAt,Instr.slice,run_und hE hu,hb,run_size hE hs,hcl,addr_add,Nat.add_assoc]
        ·refine .slice hm (by omega) ?_;rcases hr with hr|hr
         ·exact .inl hr
         ·rcases hz with hz|hz
          ·exact .inl (by rw [hez,hz])
          ·right;rw [<-hr,hez,hz,Nat.add_assoc,<-Nat.add_mul]
           congr 2;omega
      |@sliceEnd i o _ cap A L hm ho=>
       obtain rfl:hh=0:=by omega
       obtain rfl:l=0:=by omega
       simp only at h;split at h
       case h_2=>cases h
       rename_i b z c hg;split at h
       case isFalse=>cases h
       injection h with h;subst h
       have hb:=run_bounds (w:=w) he (Nat.zero_le cap) h1 h2 true E.prog;refine ⟨.slice (some A) 0 cap,?_,?_⟩
       ·simp [Instr.sliceAt,Instr.slice,run_und hE hu,hb,run_size hE hs,Addr.add_zero']
       ·simp only [Nat.zero_mul,Nat.add_zero,Nat.sub_self];exact .sliceEnd hm ho
  ·rename_i n el i o hu;split at h
   case h_2=>cases h
   rename_i z c hlo hhi hg;cases hs:sizeA E el with
   |none=>rw [hs] at h;cases h
   |some n'=>
    rw [hs] at h;simp only [Option.bind_some,Option.some.injEq] at h;subst h;cases hx with
    |@ptr _ _ L hm=>
    rw [opt_none (e':=e') hlo,opt_none (e':=e') hhi];refine ⟨.slice (some ⟨L.blk,L.off+o,none⟩) n n,?_,.slice hm (Nat.le_refl _) (.inl (hH.esz hm hg))⟩;simp [Instr.sliceAt,run_und hE hu,Instr.sureAddr,Instr.sliceBounds,run_size hE hs,addr_add]
  ·cases h
theorem firstCells_ok (hH:HRel E B0 μ H w){es n:Nat}{x X:Value}{new:List Value}(hx:VRel μ x X)(hn:lenOfA x=some n){m:Nat}(hmn:m<=n)(h:firstCellsA H es m x=some new) :
  ∃NEW:List Value,VRels μ new NEW/\new.all one=true/\NEW.length=m*es/\
   ((X=.slice none 0 0/\NEW=[]/\n=0)∨∃a c,X=.slice (some a) n c/\∀j v,NEW[j]? =some v->w.cell? (a.add j)=some v):=by
 unfold firstCellsA at h;split at h
 ·rename_i i o len c;simp only [lenOfA,Option.some.injEq] at hn;subst hn;split at h
  ·rename_i hz0;injection h with h;subst h
   refine ⟨[],.nil,rfl,hz0.symm,?_⟩;right;cases hx with
   |slice hm hl hr=>exact ⟨_,_,rfl,λj v hj=>by simp at hj⟩
   |sliceEnd hm ho=>exact ⟨_,_,rfl,λj v hj=>by simp at hj⟩
  rename_i hz0;split at h
  case h_2=>cases h
  rename_i b z c hg;cases hx with
  |@slice _ _ _ _ cap L hm hl hr=>
   have⟨C,el,fr,hw,hc,h1⟩:=hH.cellsAt hm hg (takeAt_ne h hz0);have⟨CS,e1,e2,e3⟩:=takeAt_rel hc h;refine ⟨CS,e2,?_,e1,.inr ⟨_,_,rfl,λj v hj=>?_⟩⟩
   ·unfold takeAt at h;split at h
    case isFalse=>cases h
    injection h with h;subst h
    rw [List.all_eq_true] at h1⊢;exact λx hx=>h1 x (List.mem_of_mem_drop (List.mem_of_mem_take hx))
   ·rw [addr_add,cell_at hw];exact e3 j v hj
  |sliceEnd hm ho=>
   obtain rfl:m=0:=by omega
   simp at hz0
 ·split at h
  case isFalse=>cases h
  rename_i hm0;injection h with h;subst h
  simp only [lenOfA,Option.some.injEq] at hn;subst hm0;cases hx with
  |sliceNil=>exact ⟨[],.nil,rfl,by simp,.inl ⟨rfl,rfl,hn.symm⟩⟩
 ·cases h
theorem run_first {es n m:Nat}{X:Value}{NEW:List Value}(h1:NEW.length=m*es)
  (h:(X=.slice none 0 0/\NEW=[]/\n=0)∨∃a c,X=.slice (some a) n c/\∀j v,NEW[j]? =some v->w.cell? (a.add j)=some v)(P:Program) :
  (Builtin.firstCells es m X).run P w=.ok NEW.toArray w/\(Builtin.lenOf X).run P w=.ok n w:=by
 rcases h with ⟨rfl,rfl,rfl⟩|⟨a,c,rfl,hc⟩
 ·exact ⟨run_firstCells_none w _ _ _ _,rfl⟩
 ·exact ⟨run_firstCells_some w es m a n c NEW h1 hc,rfl⟩
theorem HRel.untouched (h:HRel E B0 μ H w){w':World}{g:Nat}(hg:B0<=g)(hfree:∀i oi Li,H.get i=some oi->oi.held=true->μ i=some Li->Li.blk≠g)
  (hk:∀k,k≠g->w'.heap[k]? =w.heap[k]?)(hs:w'.heap.size=w.heap.size):HRel E B0 μ H w' where
 fresh:=h.fresh
 glob:=h.glob
 obj j x hx hm:=by
  have hr:=h.obj j x hx hm;have key:∀K,μ j=some K->x.held=true->K.blk≠g:=λK hK hx0=>hfree j x K hx hx0 hK
  cases x with
  |dead=>trivial
  |map es ck=>exact hr.world λK hK _=>hk _ (key K hK rfl)
  |cells b z c=>
   cases b with
   |true=>exact hr.world λK hK _=>hk _ (key K hK rfl)
   |false=>
    have⟨K,q1,q2,q4,q5⟩:=hr;by_cases hc:c=[]
    ·exact ⟨K,q1,q2,q4,.inl hc⟩
    ·refine ⟨K,q1,q2,q4,q5.imp id λ⟨C,el,fr,r2,r3⟩=>⟨C,el,fr,?_,r3⟩⟩;rw [hk _ (key K q1 (by cases c with|nil=>exact absurd rfl hc|cons v c=>rfl))];exact r2
 apart:=h.apart
 base:=by rw [hs];exact h.base
theorem storeCellsA_next {i o:Nat}{vs:List Value}{H':Heap}(h:storeCellsA H i o vs=some H'):H'.next=H.next:=by
 unfold storeCellsA at h;split at h
 ·split at h
  ·injection h with h;subst h;rfl
  ·cases h
 ·cases h
theorem cellsRel_append {old new OLD NEW:List Value}{C:Array Value}{off:Nat}(ho:VRels μ old OLD)(hn:VRels μ new NEW)
  (h1:∀j v,OLD[j]? =some v->C[off+j]? =some v)(h2:∀j v,NEW[j]? =some v->C[off+old.length+j]? =some v):cellsRel μ (old++new) C off:=by
 intro j v hj;rw [List.getElem?_append] at hj;split at hj
 ·have⟨V,a,b⟩:=ho.get hj;exact ⟨V,h1 _ _ a,b⟩
 ·have⟨V,a,b⟩:=hn.get hj
  have:=h2 _ _ a
  rw [show off+old.length+(j - old.length)=off+j from by omega] at this;exact ⟨V,this,b⟩
theorem grows_ok' (hE:E.Ok)(hH:HRel E B0 μ H w){t e es len n:Nat}{old new OLD NEW:List Value}{v:Value}{H':Heap}{ty:TypeId}{S X:Value}
  (hu:und E t=some (.slice e))(hes:sizeA E e=some es)(hes0:0<es)(ho:VRels μ old OLD)(hn:VRels μ new NEW)(ho1:old.all one=true)(hn1:new.all one=true)
  (hlo:OLD.length=len*es)(hln:NEW.length=n*es)(h0:0<n)
  (hS:(S=.slice none 0 0/\len=0)∨∃a sc,S=.slice (some a) len sc/\sc<len+n/\∀j v,OLD[j]? =some v->w.cell? (a.add j)=some v)
  (hX:(X=.slice none 0 0/\NEW=[]/\n=0)∨∃a c,X=.slice (some a) n c/\∀j v,NEW[j]? =some v->w.cell? (a.add j)=some v)
  (h:growsA E H e es (len+n) old new=some (v,H')):∃V w' μ',(Builtin.append_ #[t,t] ty #[S,X]).run E.prog w=.ok V w'/\Grow H μ H' μ'/\VRel μ' v V/\HRel E B0 μ' H' w'/\Below B0 w w'/\∀k,k<w.heap.size->w'.heap[k]? =w.heap[k]? :=by
 unfold growsA at h;cases hi:E.ty e with
 |none=>rw [hi] at h;cases h
 |some i=>
  rw [hi] at h;simp only [Option.bind_some] at h;cases hz:zeroCellsA E e with
  |none=>rw [hz] at h;cases h
  |some z=>
   rw [hz] at h;simp only [Option.bind_some] at h;have⟨zv,i',z1,z2,z3,z4,z5,z6,z7⟩:=zeroCells_of hz;rw [hi] at z3;injection z3 with z3;subst z3
   have hsz:i.size=es:=by
    simp only [sizeA,hi,Option.map_some,Option.some.injEq] at hes;exact hes
   split at h
   case isFalse=>cases h
   rename_i hb;have⟨b1,b2⟩:=hb;simp only [Option.some.injEq] at h;have hneed:len+n<=140737488355328:=Nat.le_trans (Nat.le_mul_of_pos_right _ b2) b1;rcases hX with ⟨_,_,rfl⟩|⟨a,c,rfl,hcx⟩
   ·omega
   have key:∀(sc:Nat),(Builtin.append_ #[t,t] ty #[S,.slice (some a) n c]).run E.prog w=
     .ok (.slice (some ⟨w.heap.size,0,none⟩) (len+n) (grownCap w (len+n) sc e)) (w.drew.alloc (.cells (OLD.toArray++NEW.toArray++Builtin.zeroCells zv.cells (grownCap w (len+n) sc e - (len+n))) e))->
     ∃V w' μ',(Builtin.append_ #[t,t] ty #[S,.slice (some a) n c]).run E.prog w=.ok V w'/\Grow H μ H' μ'/\VRel μ' v V/\HRel E B0 μ' H' w'/\Below B0 w w'/\∀k,k<w.heap.size->w'.heap[k]? =w.heap[k]? :=by
    intro sc hrun;have hge:=grownCap_ge w (len+n) sc e;have hCs:(OLD.toArray++NEW.toArray++Builtin.zeroCells zv.cells (grownCap w (len+n) sc e - (len+n))).size=grownCap w (len+n) sc e*es:=by
     have hzz:zv.cells.size=es:=by rw [cellsOf_cells z2];simp;omega
     simp only [Array.size_append,List.size_toArray,size_zeroCells,hzz,hlo,hln,<-Nat.add_mul]
     congr 1;omega
    have hold:=ho.length;have⟨μ',q1,q2,q3,q4⟩:=newRow_ok (el:=e) (hH.heap (w':=w.drew) rfl) (es:=es) (len:=len+n) (cap:=grownCap w (len+n) sc e) (c:=old++new)
     (C:=OLD.toArray++NEW.toArray++Builtin.zeroCells zv.cells (grownCap w (len+n) sc e - (len+n)))
     (cellsRel_append ho hn (λj v hj=>by
       have:j<OLD.length:=by
        rcases Nat.lt_or_ge j OLD.length with h|h
        ·exact h
        ·rw [List.getElem?_eq_none h] at hj;cases hj
       rw [Nat.zero_add,Array.getElem?_append_left (by simp;omega),Array.getElem?_append_left (by simpa using this)];simpa using hj)
      (λj v hj=>by
       have:j<NEW.length:=by
        rcases Nat.lt_or_ge j NEW.length with h|h
        ·exact h
        ·rw [List.getElem?_eq_none h] at hj;cases hj
       rw [Nat.zero_add,hold,Array.getElem?_append_left (by simp;omega),Array.getElem?_append_right (by simp)];simpa using hj))
     (by rw [hCs,List.length_append,hold,hn.length,hlo,hln,<-Nat.add_mul];exact Nat.mul_le_mul_right _ hge)
     (by rw [List.all_append,ho1,hn1];rfl) hge hCs
    rw [h] at q1 q2 q3;exact ⟨_,_,μ',hrun,q1,q2,q3,(Below.refl _ _).drew.trans q4,λk hk=>Below.heap_alloc w.drew _ k hk⟩
   rcases hS with ⟨rfl,rfl⟩|⟨b,sc,rfl,hsc,hcs⟩
   ·refine key 0 ?_;have hol:OLD=[]:=List.eq_nil_of_length_eq_zero (by simpa using hlo);subst hol
    have:=run_append_nil (P:=E.prog) w t ty e i zv (und_ok hE hu) (hE.ty _ _ hi) z5 a n c NEW (by rw [hsz];exact hln) hcx h0 (by omega) (by have:=b1;simp only [Nat.zero_add] at this;omega)
    simpa using this
   ·refine key sc ?_;exact run_append_grow (P:=E.prog) w t ty e i zv (und_ok hE hu) (hE.ty _ _ hi) z5 b len sc OLD (by rw [hsz];exact hlo) hcs a n c NEW (by rw [hsz];exact hln) hcx hsc (by omega)
     (growslice_fits hsc b1)
theorem grows_ok (hE:E.Ok)(hH:HRel E B0 μ H w){t e es len n:Nat}{old new OLD NEW:List Value}{v:Value}{H':Heap}{ty:TypeId}{S X:Value}
  (hu:und E t=some (.slice e))(hes:sizeA E e=some es)(hes0:0<es)(ho:VRels μ old OLD)(hn:VRels μ new NEW)(ho1:old.all one=true)(hn1:new.all one=true)
  (hlo:OLD.length=len*es)(hln:NEW.length=n*es)(h0:0<n)
  (hS:(S=.slice none 0 0/\len=0)∨∃a sc,S=.slice (some a) len sc/\sc<len+n/\∀j v,OLD[j]? =some v->w.cell? (a.add j)=some v)
  (hX:(X=.slice none 0 0/\NEW=[]/\n=0)∨∃a c,X=.slice (some a) n c/\∀j v,NEW[j]? =some v->w.cell? (a.add j)=some v)
  (h:growsA E H e es (len+n) old new=some (v,H')):Makes E B0 μ H w (Builtin.append_ #[t,t] ty #[S,X]) v H':=by
 have⟨V,w',μ',h1,h2,h3,h4,h5,_⟩:=grows_ok' (ty:=ty) hE hH hu hes hes0 ho hn ho1 hn1 hlo hln h0 hS hX h;exact ⟨V,w',μ',h1,h2,h3,h4,h5⟩
theorem HRel.revive (h:HRel E B0 μ H w){i z:Nat}{L:Loc}{c:List Value}{C:Array Value}{el:TypeId}(hm:μ i=some L)(hz:L.esz=z)(h1:c.all one=true)(hC:w.heap[L.blk]? =some (.cells C el (0,0)))
  (hr:cellsRel μ c C L.off)(hfree:∀a oa La,a≠i->H.get a=some oa->oa.isOwn=true->μ a=some La->La.blk≠L.blk):HRel E B0 μ (H.set i (.cells false z c)) w where
 fresh:=h.fresh
 glob:=h.glob
 obj j x hx hmj:=by
  rw [Heap.get_set] at hx;split at hx
  ·injection hx with hx;subst hx;subst_vars;exact ⟨L,hm,rfl,h1,.inr ⟨C,el,(0,0),hC,hr⟩⟩
  ·exact h.obj j x hx hmj
 apart:=by
  intro a b oa ob La Lb ha hb wa wb ma mb hbl;rw [Heap.get_set] at ha hb;split at ha
  ·injection ha with ha;subst ha;cases wa
  ·rename_i hai;split at hb
   ·rename_i hbi;subst hbi;rw [hm] at mb;injection mb with mb;subst mb
    exact absurd hbl (hfree a oa La hai ha wa ma)
   ·exact h.apart a b oa ob La Lb ha hb wa wb ma mb hbl
 base:=h.base
theorem HRel.congr {H':Heap}(h:HRel E B0 μ H w)(hg:∀i,H'.get i=H.get i)(hn:H'.next=H.next):HRel E B0 μ H' w:=
 ⟨λi hi=>h.fresh i (by omega),h.glob,λi o ho hm=>h.obj i o (by rw [<-hg];exact ho) hm,λi j oi oj Li Lj h1 h2=>h.apart i j oi oj Li Lj (by rw [<-hg];exact h1) (by rw [<-hg];exact h2),h.base⟩
theorem all_take {c:List Value}(h:c.all one=true)(n:Nat):(c.take n).all one=true:=by
 rw [List.all_eq_true] at h⊢;exact λx hx=>h x (List.mem_of_mem_take hx)
theorem growsA_of_F {H1 H2:Heap}{e es need:Nat}{old new:List Value}{v:Value}{H':Heap}(h:growsF E H1 e es need old new=some (v,H')):∃v' H'',growsA E H2 e es need old new=some (v',H''):=by
 unfold growsF at h;unfold growsA;cases hi:E.ty e with
 |none=>rw [hi] at h;cases h
 |some inf=>
  rw [hi] at h;simp only [Option.bind_some] at h⊢;cases hzc:zeroCellsA E e with
  |none=>rw [hzc] at h;cases h
  |some zc=>
   rw [hzc] at h;simp only [Option.bind_some] at h⊢;split at h
   case isFalse=>cases h
   rename_i hb;rw [if_pos hb];exact ⟨_,_,rfl⟩
theorem cellsRel.take {μ:Inj}{c:List Value}{C:Array Value}{off:Nat}(h:cellsRel μ c C off)(n:Nat):cellsRel μ (c.take n) C off:=λj v e=>by
 rw [List.getElem?_take] at e
 split at e
 ·exact h j v e
 ·cases e
theorem frozen_of {H0:Heap}{i z e es need:Nat}{L:Loc}{cs old new:List Value}{v:Value}{H':Heap}{C:Array Value}{el:TypeId}{μ':Inj}{V:Value}{w':World}
  (hnext:i<H0.next)(h:growsF E (H0.set i (.cells false z cs)) e es need old new=some (v,H'))(g:∀v1 H1,growsA E (H0.set i .dead) e es need old new=some (v1,H1)->Grow (H0.set i .dead) μ H1 μ'/\VRel μ' v1 V/\HRel E B0 μ' H1 w')
  (hm:μ i=some L)(hz:L.esz=z)(h1:cs.all one=true)(hC:w'.heap[L.blk]? =some (.cells C el (0,0)))(hr:cellsRel μ cs C L.off)(hB:B0<=L.blk)
  (hfree:∀a oa La,a≠i->H0.get a=some oa->oa.isOwn=true->μ a=some La->La.blk≠L.blk) :
  Grow H0 μ H' μ'/\VRel μ' v V/\HRel E B0 μ' H' w':=by
 unfold growsF at h;cases hi:E.ty e with
 |none=>rw [hi] at h;cases h
 |some inf=>
  rw [hi] at h;simp only [Option.bind_some] at h;cases hzc:zeroCellsA E e with
  |none=>rw [hzc] at h;cases h
  |some zc=>
   rw [hzc] at h;simp only [Option.bind_some] at h;split at h
   case isFalse=>cases h
   rename_i hb;simp only [Option.some.injEq,Prod.mk.injEq] at h;obtain ⟨rfl,rfl⟩:=h;have⟨g1,g2,g3⟩:=g (newRowA (H0.set i .dead) es need (old++new)).1 (newRowA (H0.set i .dead) es need (old++new)).2 (by unfold growsA;rw [hi];simp only [Option.bind_some,hzc];rw [if_pos hb]);have hni:i≠H0.next:=by omega
   refine ⟨⟨g1.1,g1.2.1,g1.2.2⟩,g2,?_⟩;have hg0:((H0.set i .dead).new (.cells true es (old++new))).get H0.next=some (.cells true es (old++new)):=by rw [Heap.get_new];exact if_pos rfl
   have g3:HRel E B0 μ' ((H0.set i .dead).new (.cells true es (old++new))) w':=g3;by_cases hmn:∃Ln,μ' H0.next=some Ln
   ·have⟨Ln,C2,el2,k1,k2,k3,k4,k5,k6,k7,k8⟩:=g3.obj H0.next _ hg0 hmn;have r1:=g3.revive (i:=H0.next) (c:=old++new) k1 k3 k8 k4 k7 λa oa La hne ha hoa hma hbl=>by
     exact hne (g3.apart a H0.next oa _ La Ln ha hg0 hoa rfl hma k1 hbl)
    have r2:=r1.revive (i:=i) (c:=cs) (g1.1 _ _ hm) hz h1 hC (hr.mono g1.1) λa oa La hne ha hoa hma hbl=>by
     rw [Heap.get_set] at ha;split at ha
     ·injection ha with ha;subst ha;cases hoa
     ·rename_i hnn;rw [Heap.get_new,Heap.next_set,if_neg hnn,Heap.get_set,if_neg hne] at ha;have hma0:μ a=some La:=by
       rcases Nat.lt_or_ge a H0.next with hl|hl
       ·rw [<-g1.2.1 a hl];exact hma
       ·have:a<((H0.set i .dead).new (.cells true es (old++new))).next:=by
         rcases Nat.lt_or_ge a ((H0.set i .dead).new (.cells true es (old++new))).next with h|h
         ·exact h
         ·rw [g3.fresh a h] at hma;cases hma
        have e:((H0.set i .dead).new (.cells true es (old++new))).next=H0.next+1:=rfl;omega
      exact hfree a oa La hne ha hoa hma0 hbl
    refine r2.congr (λj=>?_) rfl;rw [Heap.get_new,Heap.get_set,Heap.get_set,Heap.get_set,Heap.get_new,Heap.get_set,Heap.next_set,Heap.next_set];by_cases e1:j=i
    ·subst e1;rw [if_neg hni,if_pos rfl,if_pos rfl]
    ·rw [if_neg e1,if_neg e1,if_neg e1];by_cases e2:j=H0.next
     ·rw [if_pos e2,if_pos e2]
     ·rw [if_neg e2,if_neg e2];exact (if_neg e2).symm
   ·exfalso;cases g2 with
    |slice hmi=>exact hmn ⟨_,hmi⟩
    |sliceEnd hmi=>exact hmn ⟨_,hmi⟩
include hE in
theorem append_ok (hH:HRel E B0 μ H w){argTypes:Array TypeId}{ty:TypeId}{args ARGS:List Value}{v:Value}{H':Heap}(ha:VRels μ args ARGS)(h:appendA E H argTypes args=some (v,H')) :
  Makes E B0 μ H w (Builtin.append_ argTypes ty ARGS.toArray) v H':=by
 unfold appendA at h;split at h
 case h_2=>cases h
 rename_i st xt base len c x hat;obtain ⟨at_⟩:=argTypes;simp only at hat;subst hat;split at h
 case isFalse=>cases h
 rename_i hxt;subst hxt;cases ha with|cons hs0 ha=>
 cases ha with|cons hx ha=>
 cases ha
 rename_i S X;split at h
 case h_2=>cases h
 rename_i e hu;cases hes:sizeA E e with
 |none=>rw [hes] at h;cases h
 |some es=>
  rw [hes] at h;simp only [Option.bind_some] at h;cases hl:lenOfA x with
  |none=>rw [hl] at h;cases h
  |some n=>
   rw [hl] at h;simp only [Option.bind_some] at h;cases hf:firstCellsA H es n x with
   |none=>rw [hf] at h;cases h
   |some new=>
    rw [hf] at h;simp only [Option.bind_some] at h;obtain ⟨NEW,n1,n2,n3,n4⟩:=firstCells_ok hH hx hl (Nat.le_refl _) hf;obtain ⟨rf1,rf2⟩:=run_first n3 n4 E.prog;cases hz:Nat.beq es 0 with
    |true=>rw [hz] at h;cases h
    |false=>
     rw [hz] at h;simp only [cond_false] at h;have hes0:0<es:=Nat.pos_of_ne_zero (Nat.ne_of_beq_eq_false hz);by_cases hn0:n=0
     ·rw [if_pos hn0] at h;simp only [Option.some.injEq,Prod.mk.injEq] at h;obtain ⟨rfl,rfl⟩:=h;subst hn0;have hN:NEW=[]:=List.eq_nil_of_length_eq_zero (by simpa using n3);subst hN;refine ⟨S,w,μ,?_,Grow.refl _ _,?_,hH,Below.refl _ _⟩
      ·cases hs0 with
       |sliceNil=>simp [Builtin.append_,run_und hE hu,run_size hE hes,rf2,rf1]
       |slice hm hle hr=>simp [Builtin.append_,run_und hE hu,run_size hE hes,rf2,rf1,hle,storeCells]
       |sliceEnd hm ho=>simp [Builtin.append_,run_und hE hu,run_size hE hes,rf2,rf1,storeCells,Nat.zero_le]
      ·cases hs0 with
       |sliceNil=>exact .sliceNil
       |slice hm hle hr=>exact .slice hm hle hr
       |sliceEnd hm ho=>exact .sliceEnd hm ho
     ·rw [if_neg hn0] at h;have hnp:0<n:=Nat.pos_of_ne_zero hn0;split at h
      ·
       cases hs0
       simp only [if_true] at h;exact grows_ok hE hH (old:=[]) (OLD:=[]) hu hes hes0 .nil n1 rfl n2 (by simp) n3 hnp (.inl ⟨rfl,rfl⟩) n4 (by simpa using h)
      ·rename_i i o;split at h
       case h_2=>cases h
       rename_i z cs hg;split at h
       case isFalse=>cases h
       rename_i hze;subst hze;obtain ⟨L',C,el,k1,k2,k3,k4,k5,k6,k7,k8⟩:=hH.obj i _ hg (by cases hs0 with|slice hm _ _=>exact ⟨_,hm⟩|sliceEnd hm _=>exact ⟨_,hm⟩);split at h
       ·
        rename_i hroom;cases hst:storeCellsA H i (o+len*z) new with
        |none=>rw [hst] at h;cases h
        |some H1=>
         rw [hst] at h;simp only [Option.map_some,Option.some.injEq,Prod.mk.injEq] at h;obtain ⟨rfl,rfl⟩:=h;cases hs0 with
         |@slice _ _ _ _ cap L hm hle hr=>
          rw [hm] at k1;injection k1 with k1;subst k1
          have hcap:o+cap*z=L.room:=by
           rcases hr with hr|hr
           ·omega
           ·rw [k3] at hr;exact hr
          have hfit:len+n<=cap:=by
           rcases Nat.lt_or_ge cap (len+n) with hlt|hge
           ·have:=Nat.mul_lt_mul_of_pos_right hlt hes0
            omega
           ·exact hge
          obtain ⟨w',e1,e2,e3⟩:=hH.storeCells hm hst n1 n2 E.prog;refine ⟨.slice (some ⟨L.blk,L.off+o,none⟩) (len+n) cap,w',μ,?_,Grow.same _ (storeCellsA_next hst),.slice hm hfit hr,e2,e3⟩;rw [<-Nat.add_assoc] at e1;simp [Builtin.append_,run_und hE hu,run_size hE hes,rf2,rf1,hfit,addr_add,e1]
         |@sliceEnd _ _ _ cap A L hm ho=>
          rw [hm] at k1;injection k1 with k1;subst k1
          exfalso;have hpos:0<n*z:=Nat.mul_pos hnp hes0;have hr':o=L.room:=by
           rcases ho with ho|ho
           ·omega
           ·exact ho.1
          simp only [Nat.zero_add] at hroom;omega
       ·rename_i hroom;cases ht:takeAt cs o (len*z) with
        |none=>rw [ht] at h;cases h
        |some old=>
         rw [ht] at h;simp only [Option.bind_some] at h;have hold1:old.all one=true:=by
          unfold takeAt at ht;split at ht
          case isFalse=>cases ht
          injection ht with ht;subst ht
          rw [List.all_eq_true] at k8⊢;exact λx hx=>k8 x (List.mem_of_mem_drop (List.mem_of_mem_take hx))
         have hdrop:=hH.drop i;cases hs0 with
         |@slice _ _ _ _ cap L hm hle hr=>
          rw [hm] at k1;injection k1 with k1;subst k1
          obtain ⟨OLD,o1,o2,o3⟩:=takeAt_rel k7 ht;have hcap:o+cap*z=L.room:=by
           rcases hr with hr|hr
           ·omega
           ·rw [k3] at hr;exact hr
          have hnext:i<H.next:=by
           rcases Nat.lt_or_ge i H.next with hl|hl
           ·exact hl
           ·rw [hH.fresh i hl] at hm;cases hm
          have hfree0:∀a oa La,a≠i->H.get a=some oa->oa.isOwn=true->μ a=some La->La.blk≠L.blk:=λa oa La hne ha hoa hma hbl=>hne (hH.apart i a _ oa L La hg ha rfl (held_of_own hoa) hm hma hbl.symm).symm
          by_cases hfit:len+n<=cap
          ·
           have inplace:∀v1 H1,growsA E (H.set i .dead) e z (len+n) old new=some (v1,H1)->(Builtin.append_ #[xt,xt] ty #[.slice (some ⟨L.blk,L.off+o,none⟩) len cap,X]).run E.prog w=.ok (.slice (some ⟨L.blk,L.off+o,none⟩) (len+n) cap) (w.setRow L.blk (spliced C (L.off+o+len*z) NEW))/\Grow (H.set i .dead) μ H1 (μ.add (H.set i Obj.dead).next ⟨L.blk,L.off+o,L.room - o,z⟩)/\VRel (μ.add (H.set i Obj.dead).next ⟨L.blk,L.off+o,L.room - o,z⟩) v1 (.slice (some ⟨L.blk,L.off+o,none⟩) (len+n) cap)/\HRel E B0 (μ.add (H.set i Obj.dead).next ⟨L.blk,L.off+o,L.room - o,z⟩) H1 (w.setRow L.blk (spliced C (L.off+o+len*z) NEW))/\Below B0 w (w.setRow L.blk (spliced C (L.off+o+len*z) NEW)):=by
            intro v H' h;unfold growsA at h;cases hi:E.ty e with
            |none=>rw [hi] at h;cases h
            |some inf=>
             rw [hi] at h;simp only [Option.bind_some] at h;cases hzc:zeroCellsA E e with
             |none=>rw [hzc] at h;cases h
             |some zc=>
              rw [hzc] at h;simp only [Option.bind_some] at h;split at h
              case isFalse=>cases h
              simp only [Option.some.injEq,newRowA,Prod.mk.injEq] at h;obtain ⟨rfl,rfl⟩:=h;have hNl:=n1.length;have hfitz:(len+n)*z<=cap*z:=Nat.mul_le_mul_right _ hfit;rw [Nat.add_mul] at hfitz;have hCsz:L.off+o+len*z+NEW.length<=C.size:=by omega
              have hrun:=run_storeCells_at (P:=E.prog) L.blk (L.off+o+len*z) el NEW 0 C w k4 (by omega) (ones_rel n2 n1);have hfree:∀a oa La,(H.set i .dead).get a=some oa->oa.held=true->μ a=some La->La.blk≠L.blk:=by
               intro a oa La ha hoa hma hbl;rw [Heap.get_set] at ha;split at ha
               ·injection ha with ha;subst ha;simp [Obj.held] at hoa
               ·rename_i hne;exact hne (hH.apart i a _ oa L La hg ha rfl hoa hm hma hbl.symm).symm
              have hU:=hdrop.untouched (w':=w.setRow L.blk (spliced C (L.off+o+len*z) NEW)) k2 hfree (λk hk=>setRow_other _ _ _ _ hk) (setRow_size _ _ _);have hNew:ORel B0 (μ.add (H.set i Obj.dead).next ⟨L.blk,L.off+o,L.room - o,z⟩) (w.setRow L.blk (spliced C (L.off+o+len*z) NEW)) (H.set i Obj.dead).next (.cells true z (old++new)):=by
               refine ⟨_,spliced C (L.off+o+len*z) NEW,el,Inj.add_self _ _ _,k2,rfl,?_,?_,?_,?_,?_⟩
               ·simpa [spliced] using setRow_heap w L.blk C _ el _ k4
               ·simp only [List.length_append,o2.length,n1.length,o1,n3];omega
               ·simp only;rw [spliced_size _ _ _ hCsz];omega
               ·show cellsRel _ _ _ (L.off+o);refine (cellsRel_append (μ:=μ) o2 n1 ?_ ?_).mono (Inj.le_add _ (hH.fresh _ (Nat.le_refl _)))
                ·intro j v hj;have hjl:j<OLD.length:=by
                  rcases Nat.lt_or_ge j OLD.length with h|h
                  ·exact h
                  ·rw [List.getElem?_eq_none h] at hj;cases hj
                 rw [spliced_get _ _ _ hCsz,if_neg (by omega)];exact o3 j v hj
                ·intro j v hj;have hjl:j<NEW.length:=by
                  rcases Nat.lt_or_ge j NEW.length with h|h
                  ·exact h
                  ·rw [List.getElem?_eq_none h] at hj;cases hj
                 rw [o2.length,o1,spliced_get _ _ _ hCsz,if_pos (by omega),show L.off+o+len*z+j - (L.off+o+len*z)=j from by omega];exact hj
               ·rw [List.all_append,hold1,n2];rfl
              refine ⟨?_,Grow.new (H:=H.set i .dead) _ _ (hH.fresh _ (Nat.le_refl _)),?_,hU.adopt ⟨L.blk,L.off+o,L.room - o,z⟩ _ (λa oa La ha hh hma=>hfree a oa La ha (hh.elim (λh=>h.2) λh=>held_of_own h.1) hma) hNew,?_⟩
              ·simp only [spliced,Nat.add_zero] at hrun⊢;simp [Builtin.append_,run_und hE hu,run_size hE hes,rf2,rf1,hfit,addr_add,hrun]
              ·exact .slice (L:=⟨L.blk,L.off+o,L.room - o,z⟩) (Inj.add_self _ _ _) hfit (.inr (by simp only [Nat.zero_add];omega))
              ·exact ⟨rfl,rfl,rfl,by rw [setRow_size];exact Nat.le_refl _,λk hk=>setRow_other _ _ _ _ (by omega)⟩
           cases hfz:(E.frz xt&&Nat.beq len 256) with
           |false=>
            rw [hfz] at h;simp only [cond_false] at h;obtain ⟨p1,p2,p3,p4,p5⟩:=inplace v H' h;exact ⟨_,_,_,p1,p2,p3,p4,p5⟩
           |true=>
            rw [hfz] at h;simp only [cond_true] at h;obtain ⟨v0,H0,hA⟩:=growsA_of_F (H2:=H.set i .dead) h;obtain ⟨p1,_,_,_,p5⟩:=inplace v0 H0 hA;have hfitz:(len+n)*z<=cap*z:=Nat.mul_le_mul_right _ hfit;rw [Nat.add_mul] at hfitz;have hNl:=n1.length;have hCsz:L.off+o+len*z+NEW.length<=C.size:=by omega
            have hfr:=frozen_of (μ:=μ) (H0:=H) (i:=i) (C:=spliced C (L.off+o+len*z) NEW) (el:=el) hnext h (λv1 H1 h1=>let ⟨_,q2,q3,q4,_⟩:=inplace v1 H1 h1;⟨q2,q3,q4⟩) hm k3 (all_take k8 _)
             (by simpa [spliced] using setRow_heap w L.blk C _ el _ k4) (λj v hj=>by
              have hjl:j<o+len*z:=by
               rw [List.getElem?_take] at hj;split at hj
               ·assumption
               ·cases hj
              rw [spliced_get _ _ _ hCsz,if_neg (by omega)];exact k7.take _ j v hj) k2 hfree0
            exact ⟨_,_,_,p1,hfr.1,hfr.2.1,hfr.2.2,p5⟩
          ·cases hfz:(E.frz xt&&Nat.beq len 256) with
           |false=>
            rw [hfz] at h;simp only [cond_false] at h;exact grows_ok hE hdrop hu hes hes0 o2 n1 hold1 n2 o1 n3 hnp (.inr ⟨_,cap,rfl,by omega,λj v hj=>by rw [addr_add,cell_at k4];exact o3 j v hj⟩) n4 h
           |true=>
            rw [hfz] at h;simp only [cond_true] at h;obtain ⟨v0,H0,hA⟩:=growsA_of_F (H2:=H.set i .dead) h;obtain ⟨V,w',μ',p1,p2,p3,p4,p5,p6⟩:=grows_ok' (ty:=ty) hE hdrop hu hes hes0 o2 n1 hold1 n2 o1 n3 hnp (.inr ⟨_,cap,rfl,by omega,λj v hj=>by rw [addr_add,cell_at k4];exact o3 j v hj⟩) n4 hA;have hblk:L.blk<w.heap.size:=by
             rcases Nat.lt_or_ge L.blk w.heap.size with h|h
             ·exact h
             ·rw [Array.getElem?_eq_none h] at k4;cases k4
            have hfr:=frozen_of (μ:=μ) (H0:=H) (i:=i) (C:=C) (el:=el) hnext h (λv1 H1 h1=>by
              rw [hA] at h1;simp only [Option.some.injEq,Prod.mk.injEq] at h1;obtain ⟨rfl,rfl⟩:=h1;exact ⟨p2,p3,p4⟩) hm k3 (all_take k8 _) (by rw [p6 _ hblk];exact k4) (k7.take _) k2 hfree0
            exact ⟨_,_,_,p1,hfr.1,hfr.2.1,hfr.2.2,p5⟩
         |@sliceEnd _ _ _ cap A L hm ho=>
          rw [hm] at k1;injection k1 with k1;subst k1
          obtain rfl:cap=0:=by
           rcases ho with ho|ho
           ·omega
           ·exact ho.2
          have hol:old=[]:=by
           unfold takeAt at ht;split at ht
           case isFalse=>cases ht
           injection ht with ht
           simpa using ht.symm
          subst hol;have hfz:(E.frz xt&&Nat.beq 0 256)=false:=Bool.and_false _;rw [hfz] at h;simp only [cond_false] at h;exact grows_ok hE hdrop (OLD:=[]) hu hes hes0 .nil n1 rfl n2 (by simp) n3 hnp (.inr ⟨A,0,rfl,by omega,λj v hj=>by simp at hj⟩) n4 h
      ·cases h
end
end
section
section
variable {E:Env} (hE:E.Ok) {B0:Nat} {μ:Inj} {H:Heap} {w:World}
include hE in
theorem copy_ok (hH:HRel E B0 μ H w){argTypes:Array TypeId}{ty:TypeId}{args ARGS:List Value}{v:Value}{H':Heap}(ha:VRels μ args ARGS)(h:copyA E H argTypes args=some (v,H')) :
  Makes E B0 μ H w (Builtin.copy_ argTypes ty ARGS.toArray) v H':=by
 unfold copyA at h;split at h
 case h_2=>cases h
 rename_i st rest base len c x hat;have⟨at_⟩:=argTypes;simp only at hat;subst hat;cases ha with|cons hs0 ha=>
 cases ha with|cons hx ha=>
 cases ha
 rename_i S X;split at h
 case h_2=>cases h
 rename_i e hu;cases hes:sizeA E e with
 |none=>rw [hes] at h;cases h
 |some es=>
  rw [hes] at h;simp only [Option.bind_some] at h;cases hl:lenOfA x with
  |none=>rw [hl] at h;cases h
  |some n=>
   rw [hl] at h;simp only [Option.bind_some] at h;cases hf:firstCellsA H es (Nat.min n len) x with
   |none=>rw [hf] at h;cases h
   |some new=>
    rw [hf] at h;simp only [Option.bind_some] at h;have⟨NEW,n1,n2,n3,n4⟩:=firstCells_ok hH hx hl (Nat.min_le_left _ _) hf;have⟨rf1,rf2⟩:=run_first n3 n4 E.prog;split at h
    ·cases hs0
     simp only [Option.some.injEq,Prod.mk.injEq] at h;obtain ⟨rfl,rfl⟩:=h;refine ⟨goInt (Nat.min n 0),w,μ,?_,Grow.refl _ _,.int _ _,hH,Below.refl _ _⟩;rw [show min n 0=0 from Nat.min_zero n] at rf1;simp [Builtin.copy_,run_und hE hu,run_size hE hes,rf2,rf1]
    ·rename_i i o;cases hst:storeCellsA H i o new with
     |none=>rw [hst] at h;cases h
     |some H1=>
      rw [hst] at h;simp only [Option.map_some,Option.some.injEq,Prod.mk.injEq] at h;obtain ⟨rfl,rfl⟩:=h;cases hs0 with
      |@slice _ _ _ _ cap L hm hle hr=>
       have⟨w',e1,e2,e3⟩:=hH.storeCells hm hst n1 n2 E.prog;refine ⟨goInt (Nat.min n len),w',μ,?_,Grow.same _ (storeCellsA_next hst),.int _ _,e2,e3⟩;simp [Builtin.copy_,run_und hE hu,run_size hE hes,rf2,rf1,e1]
      |@sliceEnd _ _ _ cap A L hm ho=>
       have hN:NEW=[]:=List.eq_nil_of_length_eq_zero (by rw [n3];simp);subst hN;cases n1;have hH1:HRel E B0 μ H1 w:=by
        have⟨w',e1,e2,e3⟩:=hH.storeCells hm hst .nil rfl E.prog;simp only [storeCells,Sem.run_pure,Result.ok.injEq] at e1;rw [e1.2];exact e2
       refine ⟨goInt (Nat.min n 0),w,μ,?_,Grow.same _ (storeCellsA_next hst),.int _ _,hH1,Below.refl _ _⟩;rw [show min n 0=0 from Nat.min_zero n] at rf1;simp [Builtin.copy_,run_und hE hu,run_size hE hes,rf2,rf1,storeCells]
    ·cases h
theorem sameNow_rel {kd:TypeDesc}{k K x X:Value}(hk:VRel μ k K)(hx:VRel μ x X){b:Bool}(h:Instr.sameNow kd k x=some b):Instr.sameNow kd K X=some b:=by
 unfold Instr.sameNow at h;split at h
 ·cases hk;cases hx;exact h
 ·cases hk;cases hx;exact h
 ·cases hk;cases hx;exact h
 ·cases h
theorem sameNow_bits {kd:TypeDesc}{k x:Value}(hkd:kd≠.string)(h:Instr.sameNow kd k x=some true):Instr.sameBits 10000 x k=true:=by
 unfold Instr.sameNow at h;split at h
 ·split at h
  ·rename_i e;subst e;simp only [Option.some.injEq] at h
   have:=(beq_iff_eq.1 h)
   subst this;simp [Instr.sameBits]
  ·cases h
 ·exact absurd rfl hkd
 ·simp only [Option.some.injEq] at h;have:=(beq_iff_eq.1 h);subst this;simp [Instr.sameBits]
 ·cases h
theorem findNow_rel {kd:TypeDesc}{k K:Value}(hkd:kd≠.string)(hk:VRel μ k K):∀{es ES:List MapEntry},ERels μ es ES->∀(i:Nat)(r:Option (Nat×Value)),Instr.findNow kd k es i=some r->
  ∃R,Instr.findNow kd K ES i=some R/\((r=none/\R=none)∨∃j v V,r=some (j,v)/\R=some (j,V)/\VRel μ v V/\i<=j/\j - i<ES.length/\
   ∃E',ES[j - i]? =some E'/\Instr.sameBits 10000 E'.key K=true)
 |_,_,.nil,i,r,h=>by
  simp only [Instr.findNow,Option.some.injEq] at h⊢
  subst h
  exact ⟨none,rfl,.inl ⟨rfl,rfl⟩⟩
 |_,_,.cons hkk hv hb hs,i,r,h=>by
  simp only [Instr.findNow] at h⊢
  split at h
  ·rename_i hsn
   injection h with h;subst h
   have h2:=sameNow_rel hk hkk hsn
   rw [h2]
   exact ⟨_,rfl,.inr ⟨i,_,_,rfl,rfl,hv,Nat.le_refl _,by simp,_,by simp,sameNow_bits hkd h2⟩⟩
  ·rename_i hsn
   rw [sameNow_rel hk hkk hsn]
   have⟨R,h1,h2⟩:=findNow_rel hkd hk hs (i+1) r h
   refine ⟨R,h1,h2.imp id ?_⟩
   rintro ⟨j,v,V,e1,e2,e3,e4,e5,E',e6,e7⟩
   refine ⟨j,v,V,e1,e2,e3,by omega,by simp;omega,E',?_,e7⟩
   rw [show j - i=(j - (i+1))+1 from by omega]
   simpa using e6
  ·cases h
include hE in
theorem simpleKey_ok {t:Nat}{kd:TypeDesc}(h:simpleKey E t=some kd):E.prog.underlying t=some kd/\kd≠.string/\(∀(b:Bool)(n:Nat)(k:Value)(w:World),(Instr.checkKey b (n+1) t k).run E.prog w=.ok () w):=by
 unfold simpleKey at h;split at h
 all_goals first
  |(rename_i hu
    injection h with h;subst h
    refine ⟨und_ok hE hu,by simp,λb n k w=>?_⟩;simp [Instr.checkKey,run_und hE hu])
  |cases h
theorem run_findKey {kt:Nat}{kd:TypeDesc}{K:Value}{ES:List MapEntry}{R:Option (Nat×Value)}{P:Program}(hu:P.underlying kt=some kd)(h:Instr.findNow kd K ES 0=some R):(Instr.findKey kt K ES).run P w=.ok R w:=by
 simp [Instr.findKey,run_underlying hu,h]
theorem ERels.length {es ES:List MapEntry}(h:ERels μ es ES):es.length=ES.length:=by
 induction h with
 |nil=>rfl
 |cons _ _ _ _ ih=>simp [ih]
theorem HRel.mapAt (h:HRel E B0 μ H w){i:Nat}{L:Loc}{es:List MapEntry}{ck:Nat}(hm:μ i=some L)(hg:H.get i=some (.map es ck)) :
  ∃ES:Array MapEntry,B0<=L.blk/\w.heap[L.blk]? =some (.map ES ck)/\ERels μ es ES.toList:=by
 have⟨L',ES,k1,k2,k3,k4⟩:=h.obj i _ hg ⟨_,hm⟩;rw [hm] at k1;injection k1 with k1;subst k1
 exact ⟨ES,k2,k3,k4⟩
theorem run_getObj {r:Nat}{ES:Array MapEntry}{ck:Nat}{P:Program}(h:w.heap[r]? =some (.map ES ck)):(getObj r).run P w=.ok (.map ES ck) w:=by
 simp [getObj,Sem.run,h]
theorem run_setObj {r:Nat}{ES:Array MapEntry}{ck:Nat}{P:Program}(h:w.heap[r]? =some (.map ES ck))(o:Go.Obj):(setObj r o).run P w=.ok () {w with heap:=w.heap.setIfInBounds r o}:=by
 simp [setObj,Sem.run,h]
theorem HRel.setMap (h:HRel E B0 μ H w){i:Nat}{L:Loc}{es es':List MapEntry}{ck ck':Nat}{ES':Array MapEntry}(hm:μ i=some L)(hg:H.get i=some (.map es ck))(he:ERels μ es' ES'.toList) :
  HRel E B0 μ (H.set i (.map es' ck')) {w with heap:=w.heap.setIfInBounds L.blk (.map ES' ck')}/\Below B0 w {w with heap:=w.heap.setIfInBounds L.blk (.map ES' ck')}:=by
 have⟨ES,k2,k3,k4⟩:=h.mapAt hm hg;have hlt:L.blk<w.heap.size:=by
  rcases Nat.lt_or_ge L.blk w.heap.size with h|h
  ·exact h
  ·rw [Array.getElem?_eq_none h] at k3;cases k3
 refine ⟨h.put hg rfl rfl hm (λk hk=>?_) (by simp) ⟨L,ES',hm,k2,?_,he⟩,⟨rfl,rfl,rfl,by simp,λk hk=>?_⟩⟩
 ·exact Array.getElem?_setIfInBounds_ne (λe=>hk e.symm)
 ·simp [hlt]
 ·exact Array.getElem?_setIfInBounds_ne (by omega)
include hE in
theorem lookup_ok (hH:HRel E B0 μ H w){t:Nat}{m M k K v:Value}{ok:Bool}(hm:VRel μ m M)(hk:VRel μ k K)(h:lookupA E H t m k ok=some v) :
  ∃V,(Instr.lookup t M K ok).run E.prog w=.ok V w/\VRel μ v V:=by
 unfold lookupA at h;split at h
 case h_2=>cases h
 rename_i kt e hu;cases hkd:simpleKey E kt with
 |none=>rw [hkd] at h;cases h
 |some kd=>
  rw [hkd] at h;simp only [Option.bind_some] at h;cases hz:zeroV E e with
  |none=>rw [hz] at h;cases h
  |some z=>
   rw [hz] at h;simp only [Option.bind_some] at h;have⟨ku,kn,kc⟩:=simpleKey_ok hE hkd;have⟨hrz,hpz⟩:=run_zero hE hz w;have key:∀(es ES:List MapEntry),ERels μ es ES->((Instr.findNow kd k es 0).bind λr=>
     let p:Value×Bool:=match r with
      |some (_,v)=>(v,true)
      |none=>(z,false)
     some (bif ok then .tuple #[p.1,.bool p.2] else p.1))=some v->
     ∃R V,Instr.findNow kd K ES 0=some R/\VRel μ v V/\V=(let p:Value×Bool:=(match R with
      |some (_,v)=>(v,true)
      |none=>(z,false));if ok then .tuple #[p.1,.bool p.2] else p.1):=by
    intro es ES hr hh;cases hf:Instr.findNow kd k es 0 with
    |none=>rw [hf] at hh;cases hh
    |some r=>
     rw [hf] at hh;simp only [Option.bind_some,Option.some.injEq] at hh;have⟨R,r1,r2⟩:=findNow_rel kn hk hr 0 r hf;refine ⟨R,_,r1,?_,rfl⟩;rcases r2 with ⟨rfl,rfl⟩|⟨j,v',V',rfl,rfl,e3,_⟩
     ·subst hh;cases ok
      ·exact plain_rel hpz
      ·exact .tuple (.cons (plain_rel hpz) (.cons (.bool _) .nil))
     ·subst hh;cases ok
      ·exact e3
      ·exact .tuple (.cons e3 (.cons (.bool _) .nil))
   split at h
   ·cases hm
    obtain ⟨R,V,r1,r2,rfl⟩:=key [] [] .nil h;refine ⟨_,?_,r2⟩;simp only [Instr.findNow,Option.some.injEq] at r1;subst r1;simp [Instr.lookup,run_und hE hu,kc,run_findKey ku (show Instr.findNow kd K [] 0=some none from rfl),hrz]
   ·rename_i i;split at h
    ·rename_i es ck hg;simp only [Option.bind_some] at h;cases hm with
     |@map _ L hm=>
     have⟨ES,k2,k3,k4⟩:=hH.mapAt hm hg;obtain ⟨R,V,r1,r2,rfl⟩:=key es ES.toList k4 h;refine ⟨_,?_,r2⟩;cases R with
     |none=>simp [Instr.lookup,run_und hE hu,kc,run_getObj k3,run_findKey ku r1,hrz]
     |some p=>simp [Instr.lookup,run_und hE hu,kc,run_getObj k3,run_findKey ku r1]
    ·cases h
   ·cases h
theorem ERels.modify {es ES:List MapEntry}(h:ERels μ es ES){k K v V:Value}(hk:VRel μ k K)(hv:VRel μ v V)(j:Nat) :
  ERels μ (es.modify j λe=>{e with key:=k,val:=v}) (ES.modify j λe=>{e with key:=K,val:=V}):=by
 induction h generalizing j with
 |nil=>simp;exact .nil
 |cons h1 h2 h3 hs ih=>
  cases j with
  |zero=>simp only [List.modify_zero_cons];exact .cons hk hv h3 hs
  |succ j=>simp only [List.modify_succ_cons];exact .cons h1 h2 h3 (ih j)
theorem ERels.append {es ES fs FSz:List MapEntry}(h:ERels μ es ES)(h':ERels μ fs FSz):ERels μ (es++fs) (ES++FSz):=by
 induction h with
 |nil=>exact h'
 |cons h1 h2 h3 hs ih=>exact .cons h1 h2 h3 ih
theorem ERels.erase {es ES:List MapEntry}(h:ERels μ es ES)(j:Nat):ERels μ (es.eraseIdx j) (ES.eraseIdx j):=by
 induction h generalizing j with
 |nil=>simp;exact .nil
 |cons h1 h2 h3 hs ih=>
  cases j with
  |zero=>simp only [List.eraseIdx_zero,List.tail_cons];exact hs
  |succ j=>simp only [List.eraseIdx_cons_succ];exact .cons h1 h2 h3 (ih j)
include hE in
theorem mapUpdate_ok (hH:HRel E B0 μ H w){t:Nat}{m M k K v V:Value}{H':Heap}(hm:VRel μ m M)(hk:VRel μ k K)(hv:VRel μ v V)(h:mapUpdateA E H t m k v=some H') :
  ∃w',(Instr.mapUpdate t M K V).run E.prog w=.ok () w'/\HRel E B0 μ H' w'/\Below B0 w w':=by
 unfold mapUpdateA at h;split at h
 case h_2=>cases h
 rename_i kt e i hu;cases hkd:simpleKey E kt with
 |none=>rw [hkd] at h;cases h
 |some kd=>
  rw [hkd] at h;simp only [Option.bind_some] at h;have⟨ku,kn,kc⟩:=simpleKey_ok hE hkd;split at h
  case h_2=>cases h
  rename_i es ck hg;cases hm with
  |@map _ L hm=>
  have⟨ES,k2,k3,k4⟩:=hH.mapAt hm hg;cases hf:Instr.findNow kd k es 0 with
  |none=>rw [hf] at h;cases h
  |some r=>
   rw [hf] at h;simp only [Option.map_some,Option.some.injEq] at h;have⟨R,r1,r2⟩:=findNow_rel kn hk k4 0 r hf;rcases r2 with ⟨rfl,rfl⟩|⟨j,v',V',rfl,rfl,e3,e4,e5,E',e6,e7⟩
   ·subst h
    have:=hH.setMap (es':=es++[{key:=k,val:=v,born:=ck}]) (ck':=ck+1) (ES':=ES.push {key:=K,val:=V,born:=ck}) hm hg (by
     rw [Array.toList_push];exact k4.append (.cons hk hv rfl .nil))
    refine ⟨_,?_,this⟩;simp [Instr.mapUpdate,run_und hE hu,run_getObj k3,kc,run_findKey ku r1,run_setObj k3]
   ·subst h
    have:=hH.setMap (es':=es.modify j λe=>{e with key:=k,val:=v}) (ck':=ck) (ES':=ES.modify j λe=>{e with key:=K,val:=V}) hm hg (by
     rw [Array.toList_modify];exact k4.modify hk hv j)
    refine ⟨_,?_,this⟩;have hj:ES[j]? =some E':=by rw [<-Array.getElem?_toList];simpa using e6
    simp [Instr.mapUpdate,run_und hE hu,run_getObj k3,kc,run_findKey ku r1,run_setObj k3,Instr.keyThatStays,hj,e7]
include hE in
theorem delete_ok (hH:HRel E B0 μ H w){t:Nat}{argTypes:Array TypeId}{ty:TypeId}{m M k K:Value}{H':Heap}(ht:argTypes[0]? =some t)(hm:VRel μ m M)(hk:VRel μ k K)(h:deleteA E H t m k=some H') :
  ∃w',(Builtin.delete_ argTypes ty #[M,K]).run E.prog w=.ok (.tuple #[]) w'/\HRel E B0 μ H' w'/\Below B0 w w':=by
 unfold deleteA at h;split at h
 case h_2=>cases h
 rename_i kt e i hu;cases hkd:simpleKey E kt with
 |none=>rw [hkd] at h;cases h
 |some kd=>
  rw [hkd] at h;simp only [Option.bind_some] at h;have⟨ku,kn,kc⟩:=simpleKey_ok hE hkd;split at h
  case h_2=>cases h
  rename_i es ck hg;cases hm with
  |@map _ L hm=>
  have⟨ES,k2,k3,k4⟩:=hH.mapAt hm hg;cases hf:Instr.findNow kd k es 0 with
  |none=>rw [hf] at h;cases h
  |some r=>
   rw [hf] at h;simp only [Option.map_some,Option.some.injEq] at h;have⟨R,r1,r2⟩:=findNow_rel kn hk k4 0 r hf;rcases r2 with ⟨rfl,rfl⟩|⟨j,v',V',rfl,rfl,e3,e4,e5,E',e6,e7⟩
   ·subst h
    have:=hH.setMap (es':=es) (ck':=ck) (ES':=ES) hm hg k4
    refine ⟨_,?_,this⟩;simp [Builtin.delete_,ht,run_und hE hu,run_getObj k3,kc,run_findKey ku r1,run_setObj k3]
   ·subst h
    have:=hH.setMap (es':=es.eraseIdx j) (ck':=ck) (ES':=ES.eraseIdxIfInBounds j) hm hg (by
     rw [Array.toList_eraseIdxIfInBounds];exact k4.erase j)
    refine ⟨_,?_,this⟩;simp [Builtin.delete_,ht,run_und hE hu,run_getObj k3,kc,run_findKey ku r1,run_setObj k3]
theorem eqGuard_int (P:Program)(op:BinOp)(t:TypeId)(x y:Operand)(k:IntKind)(n:Int)(v:Value)(w:World):(eqGuard op t x y (.int k n) v).run P w=.ok () w:=by
 rw [eqGuard_at_int];rfl
theorem intBin_ok {op:BinOp}{t:TypeId}{k:IntKind}{a b:Int}{v:Value}{P:Program}(hs:isShift op=false)(h:intBinA op k a b=some v) :
  (binOp op t (.int k a) (.int k b)).run P w=.ok v w/\VRel μ v v:=by
 unfold intBinA at h;split at h
 all_goals first
  |(cases h;done)
  |(injection h with h;subst h
    first
     |(refine ⟨?_,.int _ _⟩;simp only [binOp_and,binOp_or,binOp_xor,binOp_andNot];rfl)
     |exact ⟨by simp [binOp,Op.intArith],.int _ _⟩
     |exact ⟨by simp [binOp,Op.intCmp],.bool _⟩)
  |(split at h
    ·cases h
    ·rename_i hb;injection h with h;subst h
     exact ⟨by simp [binOp,Op.intDiv,hb],.int _ _⟩)
theorem shift_ok {op:BinOp}{t:TypeId}{k k':IntKind}{a b:Int}{v:Value}{P:Program}(h:shiftA op k a b=some v) :
  (binOp op t (.int k a) (.int k' b)).run P w=.ok v w/\VRel μ v v:=by
 unfold shiftA at h;split at h
 ·cases h
 ·rename_i hb;split at h
  ·injection h with h;subst h;exact ⟨by simp [binOp,Op.shift,hb],.int _ _⟩
  ·injection h with h;subst h;exact ⟨by simp [binOp,Op.shift,hb],.int _ _⟩
  ·cases h
theorem HRel.own_frozen (hH:HRel E B0 μ H w){a:Addr}(hmm:∃L,μ a.block=some L)(h:ownAt H a=true):∃L C el,a=⟨a.block,a.off,none⟩/\μ a.block=some L/\w.heap[L.blk]? =some (.cells C el (0,0))/\(∃o,H.get a.block=some o/\o.isOwn=true):=by
 unfold ownAt at h;simp only [Bool.and_eq_true] at h;have⟨h1,h2⟩:=h;split at h2
 ·rename_i z c hg;have⟨L,C,el,k1,k2,k3,k4,_⟩:=hH.obj _ _ hg hmm;refine ⟨L,C,el,?_,k1,k4,_,hg,rfl⟩;cases a with
  |mk b o s=>cases s with
   |none=>rfl
   |some s=>simp at h1
 ·cases h2
theorem run_sameAddr {g g' o o':Nat}{C C':Array Value}{el el':TypeId}(P:Program)(h1:w.heap[g]? =some (.cells C el (0,0)))(h2:w.heap[g']? =some (.cells C' el' (0,0))) :
  (sameAddr ⟨g,o,none⟩ ⟨g',o',none⟩).run P w=.ok ((⟨g,o,none⟩:Addr)==⟨g',o',none⟩) w:=by
 by_cases hb:g=g'
 ·subst hb;simp [sameAddr]
 ·have hb':(g==g')=false:=by simpa using hb
  have hne:((⟨g,o,none⟩:Addr)==⟨g',o',none⟩)=false:=by simp [hb]
  have hs1:w.shape? g=some (el,C.size):=by simp [World.shape?,h1]
  have hs2:w.shape? g'=some (el',C'.size):=by simp [World.shape?,h2]
  have hf1:∀o,w.frozen? ⟨g,o,none⟩=false:=λo=>by simp [World.frozen?,h1]
  have hf2:∀o,w.frozen? ⟨g',o,none⟩=false:=λo=>by simp [World.frozen?,h2]
  simp [sameAddr,hb,noView,viewAt,hs1,hs2,hf1,hf2,mayBeOne,stringish]
theorem part_ok (hE:E.Ok){t o:Nat}{cs CS:Array Value}{v:Value}(hc:VRels μ cs.toList CS.toList)(h:partA E t cs o=some v):∃V,(part t CS o).run E.prog w=.ok V w/\VRel μ v V:=by
 unfold partA at h;split at h
 ·rename_i ha;cases hs:sizeA E t with
  |none=>rw [hs] at h;cases h
  |some n=>
   rw [hs] at h;simp only [Option.map_some,Option.some.injEq] at h;subst h;refine ⟨.agg (CS.extract o (o+n)),by simp [part,run_isAgg hE ha,run_size hE hs],.agg ?_⟩;have hl:=hc.length;refine VRels.of_get (by simp at hl⊢;omega) λj v V hv hV=>?_
   rw [Array.getElem?_toList,Array.getElem?_extract] at hv hV;split at hv
   ·split at hV
    ·rw [<-Array.getElem?_toList] at hv hV;have⟨V',h1,h2⟩:=hc.get hv;rw [hV] at h1;injection h1 with h1;subst h1;exact h2
    ·cases hV
   ·cases hv
 ·rename_i ha;rw [<-Array.getElem?_toList] at h;have⟨V,h1,h2⟩:=hc.get h;rw [Array.getElem?_toList] at h1;exact ⟨V,by simp [part,run_isAgg hE ha,h1],h2⟩
 ·cases h
theorem eqFields_ok (hE : E.Ok){eq : Nat -> Value -> Value -> Option Bool}{D : Nat}{xs ys XS YS : Array Value}(hx : VRels μ xs.toList XS.toList)(hy : VRels μ ys.toList YS.toList)
    (heq : ∀ (t : Nat)(u U v V : Value)(b : Bool), VRel μ u U -> VRel μ v V -> eq t u v = some b -> (Op.equalIn D t U V).run E.prog w = .ok b w) :
    ∀ (fs : List Field) (b : Bool), (∀ f ∈ fs, f.name ≠ "_") → eqFieldsA E eq xs ys fs = some b → (Op.eqFields D XS YS fs).run E.prog w = .ok b w
  | [], b, _, h => by
    simp only [eqFieldsA, Option.some.injEq] at h
    subst h
    simp [Op.eqFields]
  | f :: fs, b, hn, h => by
    simp only [eqFieldsA] at h
    cases h1 : partA E f.type xs f.offset with
    | none => rw [h1] at h; cases h
    | some u =>
      cases h2 : partA E f.type ys f.offset with
      | none => rw [h1, h2] at h; cases h
      | some v =>
        cases h3 : eq f.type u v with
        | none => rw [h1, h2] at h; simp only [Option.bind_some, h3] at h; cases h
        | some r =>
          rw [h1, h2] at h
          simp only [Option.bind_some, h3] at h
          obtain ⟨U, p1, p2⟩ := part_ok (w := w) hE hx h1
          obtain ⟨V, q1, q2⟩ := part_ok (w := w) hE hy h2
          have hr := heq _ _ _ _ _ _ p2 q2 h3
          have hnf : f.name ≠ "_" := hn f (by simp)
          rw [Op.eqFields, if_pos hnf]
          cases r with
          | false =>
            simp only [cond_false, Option.some.injEq] at h
            subst h
            simp [p1, q1, hr]
          | true =>
            simp only [cond_true] at h
            have ih := eqFields_ok hE hx hy heq fs b (λf hf => hn f (by simp [hf])) h
            simp [p1, q1, hr, ih]
set_option maxHeartbeats 1600000 in
theorem eq_ok (hE:E.Ok)(hH:HRel E B0 μ H w):∀(d D t:Nat)(x X y Y:Value)(b:Bool),d<=D->VRel μ x X->VRel μ y Y->eqA E H d t x y=some b->(Op.equalIn D t X Y).run E.prog w=.ok b w
 |0,_,_,_,_,_,_,_,_,_,_,h=>by simp [eqA] at h
 |d+1,0,_,_,_,_,_,_,hd,_,_,_=>by omega
 |d+1,D+1,t,x,X,y,Y,b,hd,hx,hy,h=>by
  unfold eqA at h;split at h
  ·rename_i hu;cases hx;cases hy;injection h with h;subst h;simp [Op.equalIn,run_und hE hu]
  ·rename_i hu;cases hx;cases hy;split at h
   ·rename_i e;injection h with h;subst h;subst e;simp [Op.equalIn,run_und hE hu]
   ·cases h
  ·rename_i hu;cases hx;injection h with h;subst h
   cases hy<;>simp [Op.equalIn,run_und hE hu]
  ·rename_i hu;cases hy;injection h with h;subst h
   cases hx<;>first|(simp [Op.equalIn,run_und hE hu];done)|(exfalso;simp_all;done)
  ·rename_i e a b' hu;cases hs:sizeA E e with
   |none=>rw [hs] at h;cases h
   |some n=>
    rw [hs] at h;simp only [Option.bind_some] at h;split at h
    case isFalse=>cases h
    rename_i hc;injection h with h;subst h
    have⟨hn,ha,hb⟩:=hc;cases hx with
    |@ptr i o K hm=>
    cases hy with
    |@ptr i' o' K' hm'=>
    have⟨L,C,el,a1,a2,a3,oa,a4,a5⟩:=hH.own_frozen ⟨_,hm⟩ ha;have⟨L',C',el',b1,b2,b3,ob,b4,b5⟩:=hH.own_frozen ⟨_,hm'⟩ hb;simp only at a2 b2 a4 b4;rw [hm] at a2;injection a2 with a2;subst a2
    rw [hm'] at b2;injection b2 with b2;subst b2
    have hsame:=run_sameAddr (w:=w) (o:=K.off+o) (o':=K'.off+o') E.prog a3 b3;simp only [Op.equalIn,Sem.run_bind,run_und hE hu,Result.andThen_ok,run_size hE hs,ne_eq,hn,not_false_eq_true,if_true,hsame,Sem.run_ite]
    congr 1
    by_cases e:i=i'
    ·subst e;rw [hm] at hm';injection hm' with hm';subst hm'
     rw [Bool.eq_iff_iff];simp
    ·have hne:K.blk≠K'.blk:=λhbl=>e (hH.apart i i' oa ob K K' a4 b4 a5 (held_of_own b5) hm hm' hbl)
     rw [Bool.eq_iff_iff];simp [e,hne]
  ·rename_i hu;cases hx;injection h with h;subst h
   cases hy<;>simp [Op.equalIn,run_und hE hu]
  ·rename_i hu;cases hy;injection h with h;subst h
   cases hx<;>first|(simp [Op.equalIn,run_und hE hu];done)|(exfalso;simp_all;done)
  ·rename_i hu;cases hx;injection h with h;subst h
   cases hy<;>simp [Op.equalIn,run_und hE hu]
  ·rename_i hu;cases hy;injection h with h;subst h
   cases hx<;>first|(simp [Op.equalIn,run_und hE hu];done)|(exfalso;simp_all;done)
  ·rename_i hu;cases hx;cases hy;injection h with h;subst h;simp [Op.equalIn,run_und hE hu]
  ·rename_i hu;cases hx;cases hy;injection h with h;subst h;simp [Op.equalIn,run_und hE hu]
  ·rename_i hu;cases hx;cases hy;injection h with h;subst h;simp [Op.equalIn,run_und hE hu]
  ·rename_i fields xs ys hu;cases hq:E.eqOk t with
   |false=>rw [hq] at h;cases h
   |true=>
    rw [hq] at h;simp only [cond_true] at h;have hst:=(hE.eqOk _ hq).1;cases hx with
    |@agg _ XS hx=>
    cases hy with
    |@agg _ YS hy=>
    have hu':=und_ok hE hu;have hname:=(hE.eqOk _ hq).2.2 fields hu';have hf:E.prog.fieldsOf t=fields:=by simp [Program.fieldsOf,hu']
    rw [run_equalIn_struct w D t XS YS (by rw [hf];exact hu') hst,hf];exact eqFields_ok hE hx hy (λt u U v V b hu hv hh=>eq_ok hE hH d D t u U v V b (by omega) hu hv hh) fields.toList b hname h
  ·cases h
theorem run_eqGuard_simple {op:BinOp}{t:TypeId}{x y:Operand}{X Y:Value}(h1:X≠.nilIface)(h2:∀cs,X≠.agg cs):(eqGuard op t x y X Y).run E.prog w=.ok () w:=by
 cases X<;>first
  |exact absurd rfl h1
  |exact absurd rfl (h2 _)
  |(cases op<;>rfl)
theorem eqls_ok (hE:E.Ok)(hH:HRel E B0 μ H w){t:TypeId}{x X y Y:Value}{b:Bool}(hx:VRel μ x X)(hy:VRel μ y Y)(h:eqA E H 4 t x y=some b):(Op.equal t X Y).run E.prog w=.ok b w:=
 eq_ok hE hH 4 10000 t x X y Y b (by omega) hx hy h
include hE in
theorem bin_ok (hH:HRel E B0 μ H w){op:BinOp}{t:TypeId}{xo yo:Operand}{x X y Y v:Value}(hx:VRel μ x X)(hy:VRel μ y Y)(h:binA E H op t x y=some v) :
  (do eqGuard op t xo yo X Y;binOp op t X Y:Sem Value).run E.prog w=.ok v w/\VRel μ v v:=by
 unfold binA at h;split at h
 ·rename_i k a k' b;cases hx;cases hy;simp only [Sem.run_bind,eqGuard_int,Result.andThen_ok];cases hs:isShift op with
  |true=>
   rw [hs] at h;exact shift_ok h
  |false=>
   rw [hs] at h;simp only [cond_false] at h;split at h
   ·rename_i e;subst e;exact intBin_ok hs h
   ·cases h
 ·rename_i xs ys;cases hx with
  |@agg _ XS hx=>
  cases hy with
  |@agg _ YS hy=>
  split at h
  ·cases hq:E.eqOk t with
   |false=>rw [hq] at h;cases h
   |true=>
    rw [hq] at h;simp only [cond_true] at h;cases hr:eqA E H 4 t (.agg xs) (.agg ys) with
    |none=>rw [hr] at h;cases h
    |some b=>
     rw [hr] at h;simp only [Option.map_some,Option.some.injEq] at h;subst h
     have:=eqls_ok hE hH (.agg hx) (.agg hy) hr
     refine ⟨?_,.bool _⟩;have hg:=run_eqGuard_agg (P:=E.prog) w .eql t xo yo XS YS (hE.eqOk _ hq).2.1;simp [hg,binOp,this]
  ·cases hq:E.eqOk t with
   |false=>rw [hq] at h;cases h
   |true=>
    rw [hq] at h;simp only [cond_true] at h;cases hr:eqA E H 4 t (.agg xs) (.agg ys) with
    |none=>rw [hr] at h;cases h
    |some b=>
     rw [hr] at h;simp only [Option.map_some,Option.some.injEq] at h;subst h
     have:=eqls_ok hE hH (.agg hx) (.agg hy) hr
     refine ⟨?_,.bool _⟩;have hg:=run_eqGuard_agg (P:=E.prog) w .neq t xo yo XS YS (hE.eqOk _ hq).2.1;simp [hg,binOp,this]
  ·cases h
 ·rename_i hnint hnagg;cases hk:eqKind x with
  |false=>rw [hk] at h;cases h
  |true=>
   rw [hk] at h;simp only [cond_true] at h;have hkX:eqKind X=true:=by cases hx<;>first|rfl|(simp [eqKind] at hk;done)
   have hg:(eqGuard op t xo yo X Y).run E.prog w=.ok () w:=run_eqGuard_simple (by rintro rfl;simp [eqKind] at hkX) (by rintro cs rfl;simp [eqKind] at hkX);have he:binOp .eql t X Y=(do pure (.bool (<-Op.equal t X Y))):=by cases X<;>first|rfl|(simp [eqKind] at hkX;done)
   have hn:binOp .neq t X Y=(do pure (.bool (!(<-Op.equal t X Y)))):=by cases X<;>first|rfl|(simp [eqKind] at hkX;done)
   split at h
   all_goals first
    |(cases h;done)
    |(cases hr:eqA E H 4 t x y with
      |none=>rw [hr] at h;cases h
      |some b=>
       rw [hr] at h;simp only [Option.map_some,Option.some.injEq] at h;subst h
       have:=eqls_ok hE hH hx hy hr
       refine ⟨?_,.bool _⟩;simp [hg,he,hn,this])
theorem un_ok {op:UnOp}{x X v:Value}{P:Program}(hx:VRel μ x X)(h:unA op x=some v):(Op.unary op X).run P w=.ok v w/\VRel μ v v:=by
 unfold unA at h;split at h
 ·cases hx;injection h with h;subst h;exact ⟨by simp [Op.unary,Op.intArith],.int _ _⟩
 ·cases hx;injection h with h;subst h;exact ⟨rfl,.int _ _⟩
 ·cases hx;injection h with h;subst h;exact ⟨rfl,.bool _⟩
 ·cases h
theorem foldA_ok {f:Value->Value->Option Value}{g:Value->Value->Sem Value}{P:Program}(hfg:∀(x X y Y v:Value),VRel μ x X->VRel μ y Y->f x y=some v->∃V,(g X Y).run P w=.ok V w/\VRel μ v V) :
  ∀(l L:List Value)(x X v:Value),VRels μ l L->VRel μ x X->foldA f x l=some v->∃V,(L.foldlM g X).run P w=.ok V w/\VRel μ v V
 |_,_,x,X,v,.nil,hx,h=>by
  simp only [foldA,Option.some.injEq] at h
  subst h
  exact ⟨X,by simp,hx⟩
 |_,_,x,X,v,.cons hy hs,hx,h=>by
  simp only [foldA] at h
  cases hr:f x _ with
  |none=>rw [hr] at h;cases h
  |some z=>
   rw [hr] at h
   have⟨Z,z1,z2⟩:=hfg _ _ _ _ _ hx hy hr
   have⟨V,v1,v2⟩:=foldA_ok hfg _ _ z Z v hs z2 h
   exact ⟨V,by simp [z1,v1],v2⟩
theorem max_ok {args ARGS:List Value}{v:Value}{ts:Array TypeId}{ty:TypeId}{P:Program}(ha:VRels μ args ARGS)(h:maxA args=some v):∃V,(Builtin.max_ ts ty ARGS.toArray).run P w=.ok V w/\VRel μ v V:=by
 cases ha with
 |nil=>cases h
 |cons hx hs=>
  exact foldA_ok (λx X y Y v hx hy h=>by
   unfold max2A at h;split at h
   ·cases hx;cases hy
    split at h
    ·injection h with h;subst h;exact ⟨_,rfl,.int _ _⟩
    ·cases h
   ·cases h) _ _ _ _ v hs hx h
theorem min_ok {args ARGS:List Value}{v:Value}{ts:Array TypeId}{ty:TypeId}{P:Program}(ha:VRels μ args ARGS)(h:minA args=some v):∃V,(Builtin.min_ ts ty ARGS.toArray).run P w=.ok V w/\VRel μ v V:=by
 cases ha with
 |nil=>cases h
 |cons hx hs=>
  exact foldA_ok (λx X y Y v hx hy h=>by
   unfold min2A at h;split at h
   ·cases hx;cases hy
    split at h
    ·injection h with h;subst h;exact ⟨_,rfl,.int _ _⟩
    ·cases h
   ·cases h) _ _ _ _ v hs hx h
include hE in
theorem len_ok (hH:HRel E B0 μ H w){t:Nat}{argTypes:Array TypeId}{ty:TypeId}{args:Array Value}{x X v:Value}(ht:argTypes[0]? =some t)(ha:args[0]? =some X)(hx:VRel μ x X)(h:lenA E H t x=some v) :
  (Builtin.len_ argTypes ty args).run E.prog w=.ok v w/\VRel μ v v:=by
 unfold lenA at h;split at h
 ·rename_i hu;cases hx<;>(injection h with h;subst h;exact ⟨by simp [Builtin.len_,ht,ha,run_und hE hu],.int _ _⟩)
 ·rename_i hu;cases hx;injection h with h;subst h;exact ⟨by simp [Builtin.len_,ht,ha,run_und hE hu],.int _ _⟩
 ·rename_i hu;injection h with h;subst h;exact ⟨by simp [Builtin.len_,ht,ha,run_und hE hu],.int _ _⟩
 ·rename_i hu;cases hx;injection h with h;subst h;exact ⟨by simp [Builtin.len_,ht,ha,run_und hE hu],.int _ _⟩
 ·rename_i i hu;split at h
  ·rename_i es ck hg;injection h with h;subst h
   cases hx with
   |@map _ L hm=>
   have⟨ES,k2,k3,k4⟩:=hH.mapAt hm hg;have hl:=k4.length;simp only [Array.length_toList] at hl;exact ⟨by simp [Builtin.len_,ht,ha,run_und hE hu,run_getObj k3,hl],.int _ _⟩
  ·cases h
 ·cases h
include hE in
theorem clear_ok (hH:HRel E B0 μ H w){t:Nat}{argTypes:Array TypeId}{ty:TypeId}{x X:Value}{H':Heap}(ht:argTypes[0]? =some t)(hx:VRel μ x X)(h:clearA E H t x=some H') :
  ∃w',(Builtin.clear_ argTypes ty #[X]).run E.prog w=.ok (.tuple #[]) w'/\HRel E B0 μ H' w'/\Below B0 w w':=by
 unfold clearA at h;split at h
 ·rename_i i hu;split at h
  ·rename_i es ck hg;injection h with h;subst h
   cases hx with
   |@map _ L hm=>
   have⟨ES,k2,k3,k4⟩:=hH.mapAt hm hg
   have:=hH.setMap (es':=[]) (ck':=ck) (ES':= #[]) hm hg .nil
   refine ⟨_,?_,this⟩;simp [Builtin.clear_,ht,run_und hE hu,run_getObj k3,run_setObj k3]
  ·cases h
 ·rename_i hu;injection h with h;subst h
  refine ⟨w,?_,hH,Below.refl _ _⟩;cases hx<;>simp [Builtin.clear_,ht,run_und hE hu]
 ·rename_i hu;cases hz:zeroCellsA E _ with
  |none=>rw [hz] at h;cases h
  |some z=>
   rw [hz] at h;simp only [Option.bind_some] at h;have⟨zv,i,h1,h2,h3,h4,h5,h6,h7⟩:=zeroCells_of hz;split at h
   case isFalse=>cases h
   rename_i hz1;rename_i n c _ hn0;cases hx with
   |@slice _ _ _ _ cap L hm hle hr=>
    have⟨w',e1,e2,e3⟩:=hH.storeCells hm h (reps_rels (zeroCells_rel hz) _) (reps_all h7 _) E.prog;refine ⟨w',?_,e2,e3⟩;have hz0:=(run_zero hE h1 w).1;have hmade:∀n,Builtin.zeroCells ⟨z⟩ n=⟨reps n z⟩:=λn=>reps_made z hz1 n
    cases c with
    |zero=>exact (by simp at hn0:False).elim
    |succ n=>simp [Builtin.clear_,ht,run_und hE hu,hz0,cellsOf_cells h2,hmade,e1]
   |sliceEnd hm ho=>exact (by simp at hn0:False).elim
 ·cases h
theorem mapUpdateA_next {t:Nat}{m k v:Value}{H':Heap}(h:mapUpdateA E H t m k v=some H'):H'.next=H.next:=by
 unfold mapUpdateA at h;split at h
 ·have⟨kd,_,h⟩:=Option.bind_eq_some_iff.1 h;split at h
  ·have⟨r,_,h⟩:=Option.map_eq_some_iff.1 h;subst h;split<;>rfl
  ·cases h
 ·cases h
theorem deleteA_next {t:Nat}{m k:Value}{H':Heap}(h:deleteA E H t m k=some H'):H'.next=H.next:=by
 unfold deleteA at h;split at h
 ·have⟨kd,_,h⟩:=Option.bind_eq_some_iff.1 h;split at h
  ·have⟨r,_,h⟩:=Option.map_eq_some_iff.1 h;subst h;split<;>rfl
  ·cases h
 ·cases h
theorem clearA_next {t:Nat}{x:Value}{H':Heap}(h:clearA E H t x=some H'):H'.next=H.next:=by
 unfold clearA at h;split at h
 ·split at h
  ·injection h with h;subst h;rfl
  ·cases h
 ·injection h with h;subst h;rfl
 ·have⟨z,_,h⟩:=Option.bind_eq_some_iff.1 h;split at h
  ·exact storeCellsA_next h
  ·cases h
 ·cases h
theorem storeV_next {t:Nat}{a v:Value}{H':Heap}(h:storeV E H t a v=some H'):H'.next=H.next:=by
 unfold storeV at h;split at h
 ·have⟨vs,_,h⟩:=Option.bind_eq_some_iff.1 h;have⟨n,_,h⟩:=Option.bind_eq_some_iff.1 h;split at h
  ·exact storeCellsA_next h
  ·cases h
 ·cases h
def OpOK (E:Env)(B0:Nat)(μ:Inj)(H:Heap)(w:World)(s:Sem Next):Res->Prop
 |.val v H'=>∃N V w' μ',s.run E.prog w=.ok N w'/\(N=.value V∨(N=.skip/\V=undef))/\Grow H μ H' μ'/\VRel μ' v V/\HRel E B0 μ' H' w'/\Below B0 w w'
 |.call f args=>∃ARGS,s.run E.prog w=.ok (.enter f ARGS) w/\VRels μ args ARGS.toList
theorem OpOK.of_makes {s:Sem Value}{v:Value}{H':Heap}(h:Makes E B0 μ H w s v H'):OpOK E B0 μ H w (do pure (.value (<-s))) (.val v H'):=by
 have⟨V,w',μ',h1,h2⟩:=h;exact ⟨.value V,V,w',μ',by simp [h1],.inl rfl,h2⟩
theorem OpOK.of_value (hH:HRel E B0 μ H w){s:Sem Value}{v:Value}(h:∃V,s.run E.prog w=.ok V w/\VRel μ v V):OpOK E B0 μ H w (do pure (.value (<-s))) (.val v H):=by
 have⟨V,h1,h2⟩:=h;exact ⟨.value V,V,w,μ,by simp [h1],.inl rfl,Grow.refl _ _,h2,hH,Below.refl _ _⟩
theorem OpOK.of_unit {s:Sem Unit}{H':Heap}(hn:H'.next=H.next)(h:∃w',s.run E.prog w=.ok () w'/\HRel E B0 μ H' w'/\Below B0 w w'):OpOK E B0 μ H w (do s;pure .skip) (.val undef H'):=by
 have⟨w',h1,h2,h3⟩:=h;exact ⟨.skip,undef,w',μ,by simp [h1],.inr ⟨rfl,rfl⟩,Grow.same _ hn,.tuple .nil,h2,h3⟩
theorem OpOK.of_undef {s:Sem Value}{H':Heap}(hn:H'.next=H.next)(h:∃w',s.run E.prog w=.ok (.tuple #[]) w'/\HRel E B0 μ H' w'/\Below B0 w w'):OpOK E B0 μ H w (do pure (.value (<-s))) (.val undef H'):=by
 have⟨w',h1,h2,h3⟩:=h;exact ⟨.value undef,undef,w',μ,by simp [h1,undef],.inl rfl,Grow.same _ hn,.tuple .nil,h2,h3⟩
theorem OpOK.pure_value (hH:HRel E B0 μ H w){v V:Value}(h:VRel μ v V):OpOK E B0 μ H w (pure (.value V)) (.val v H):=
 ⟨.value V,V,w,μ,rfl,.inl rfl,Grow.refl _ _,h,hH,Below.refl _ _⟩
theorem rv_some {o:Option Value}{r:Res}(h:rv H o=some r):∃v,o=some v/\r=.val v H:=by
 unfold rv at h;cases o with
 |none=>cases h
 |some v=>injection h with h;exact ⟨v,rfl,h.symm⟩
theorem rh_some {o:Option Heap}{r:Res}(h:rh o=some r):∃H',o=some H'/\r=.val undef H':=by
 unfold rh at h;cases o with
 |none=>cases h
 |some v=>injection h with h;exact ⟨v,rfl,h.symm⟩
theorem rvh_some {o:Option (Value×Heap)}{r:Res}(h:rvh o=some r):∃v H',o=some (v,H')/\r=.val v H':=by
 unfold rvh at h;cases o with
 |none=>cases h
 |some v=>injection h with h;exact ⟨v.1,v.2,rfl,h.symm⟩
include hE in
theorem bltn_ok (hH:HRel E B0 μ H w){b:Builtin}{argTypes:Array TypeId}{ty:TypeId}{cs:Array Bool}{args ARGS:List Value}{r:Res}(ha:VRels μ args ARGS)(h:builtinA E H b argTypes args=some r) :
  OpOK E B0 μ H w (builtin b argTypes ty cs ARGS.toArray) r:=by
 unfold builtinA at h;split at h
 ·obtain ⟨v,H',h1,rfl⟩:=rvh_some h;exact OpOK.of_makes (append_ok hE hH ha h1)
 ·obtain ⟨v,H',h1,rfl⟩:=rvh_some h;exact OpOK.of_makes (copy_ok hE hH ha h1)
 ·split at h
  ·rename_i t ts x xs hat;obtain ⟨v,h1,rfl⟩:=rv_some h;have⟨at_⟩:=argTypes;simp only at hat;subst hat;cases ha with
   |cons hx hs=>
    rename_i X L
    have:=len_ok hE hH (argTypes:=⟨t::ts⟩) (ty:=ty) (args:=(X::L).toArray) (by rfl) (by rfl) hx h1
    exact OpOK.of_value hH ⟨v,this.1,this.2⟩
  ·cases h
 ·split at h
  ·rename_i t ts m k hat;obtain ⟨H',h1,rfl⟩:=rh_some h;have⟨at_⟩:=argTypes;simp only at hat;subst hat;cases ha with
   |cons hm hs=>
   cases hs with
   |cons hk hs=>
   cases hs
   exact OpOK.of_undef (deleteA_next h1) (delete_ok hE hH (argTypes:=⟨t::ts⟩) (by rfl) hm hk h1)
  ·cases h
 ·split at h
  ·rename_i t ts x hat;obtain ⟨H',h1,rfl⟩:=rh_some h;have⟨at_⟩:=argTypes;simp only at hat;subst hat;cases ha with
   |cons hx hs=>
   cases hs
   exact OpOK.of_undef (clearA_next h1) (clear_ok hE hH (argTypes:=⟨t::ts⟩) (by rfl) hx h1)
  ·cases h
 ·obtain ⟨v,h1,rfl⟩:=rv_some h;exact OpOK.of_value hH (max_ok ha h1)
 ·obtain ⟨v,h1,rfl⟩:=rv_some h;exact OpOK.of_value hH (min_ok ha h1)
 ·cases h
theorem clone_ok (hH:HRel E B0 μ H w){args ARGS:List Value}{r:Res}(ha:VRels μ args ARGS)(h:cloneA H args=some r) :
  OpOK E B0 μ H w (do pure (.value (<-Extern.MapsClone.clone ARGS.toArray))) r:=by
 unfold cloneA at h;split at h
 case h_2=>cases h
 rename_i t i;split at h
 case h_2=>cases h
 rename_i es ck hg;injection h with h;subst h
 cases ha with
 |cons hx hs=>
 cases hs
 cases hx with
 |iface hx=>
 cases hx with
 |@map _ L hm=>
 have⟨ES,k2,k3,k4⟩:=hH.mapAt hm hg;have⟨q1,q2,q3⟩:=hH.newMap es ES ck k4;obtain ⟨g,hg1,hg2⟩:∃g:Go.Obj->Sem Value,Extern.MapsClone.clone #[.iface t (.map (some L.blk))]=(getObj L.blk >>=g)/\
   g (.map ES ck)=(do pure (.iface t (.map (some (<-newObj (.map ES ck)))))):=⟨_,rfl,rfl⟩
 refine OpOK.of_makes ⟨.iface t (.map (some w.heap.size)),_,_,?_,q1,.iface (.map (L:=⟨w.heap.size,0,0,0⟩) (Inj.add_self _ _ _)),q2,q3⟩;rw [show (List.toArray [Value.iface t (.map (some L.blk))])= #[.iface t (.map (some L.blk))] from rfl,hg1];simp [run_getObj k3,hg2]
include hE in
theorem call_ok (hH : HRel E B0 μ H w){f F : Value}{args ARGS : List Value}{r : Res}(hf : VRel μ f F)(ha : VRels μ args ARGS)(h : callA E H f args = some r) :
    OpOK E B0 μ H w (do let d <- Deferred.ofValue F ARGS.toArray; invoke d.target d.args) r := by
  unfold callA at h
  split at h
  case h_2 => cases h
  rename_i id first captured
  cases hf with
  | @func _ _ FSz _ CS h1 h2 =>
  have hall : VRels μ (first.toList ++ args ++ captured.toList) (FSz ++ ARGS.toArray ++ CS).toList := by
    simp only [Array.toList_append]
    exact (h1.append ha).append h2
  split at h
  · rename_i fn hfn
    injection h with h; subst h
    obtain ⟨g1, g2, g3⟩ := hE.fn _ _ hfn
    have g2' : ¬ fn.body = none := by cases hb : fn.body <;> simp_all
    have g3' : ¬ fn.name = "runtime.NumGoroutine" := by simpa using g3
    refine ⟨FSz ++ ARGS.toArray ++ CS, ?_, hall⟩
    simp [Deferred.ofValue, invoke, callFunc, g1, g2', g3']
  · cases hc : E.clone id with
    | false => rw [hc] at h; cases h
    | true =>
      rw [hc] at h
      obtain ⟨fn, g1, g2, g3, g4, g5⟩ := hE.clone _ hc
      have := clone_ok hH hall h
      have g3' : ¬ fn.name = "runtime.NumGoroutine" := by simpa using g3
      have e : (do let d <- Deferred.ofValue (.func (.func id) FSz CS) ARGS.toArray; invoke d.target d.args : Sem Next).run E.prog w = (do pure (.value (<- Extern.MapsClone.clone (FSz ++ ARGS.toArray ++ CS))) : Sem Next).run E.prog w := by
        simp [Deferred.ofValue, invoke, callFunc, g1, g2, g3', g4, g5]
      cases r with
      | val v H' =>
        obtain ⟨N, V, w', μ', q1, q2⟩ := this
        exact ⟨N, V, w', μ', by rw [e]; exact q1, q2⟩
      | call f' args' =>
        obtain ⟨A, q1, q2⟩ := this
        exact ⟨A, by rw [e]; exact q1, q2⟩
end
end
section
section
variable {E:Env} (hE:E.Ok) {B0:Nat} {μ:Inj} {H:Heap} {w:World}
include hE in
theorem fieldAddr_ok (hH:HRel E B0 μ H w){s f:Nat}{X:Value}{fields:Array Field}{i o n:Nat}{fd:Field}(hu:und E s=some (.struct fields))(hx:VRel μ (.pointer (some ⟨i,o,none⟩)) X)
  (hf:fields[f]? =some fd)(hs:sizeA E fd.type=some n)(hn:¬n=0) :
  ∃V,(Instr.fieldAt s X f).run E.prog w=.ok V w/\VRel μ (.pointer (some ⟨i,o+fd.offset,none⟩)) V:=by
 cases hx with
 |@ptr _ _ L hm=>
 refine ⟨.pointer (some ⟨L.blk,L.off+(o+fd.offset),none⟩),?_,.ptr hm⟩;simp [Instr.fieldAt,run_und hE hu,hf,Instr.sureAddr,fieldPlace,run_size hE hs,hn,addr_add,Nat.add_assoc]
include hE in
theorem indexSlice_ok {t el i o len c s:Nat}{n:Int}{k:IntKind}{X:Value}(hu:und E t=some (.slice el))(hx:VRel μ (.slice (some ⟨i,o,none⟩) len c) X)(hs:sizeA E el=some s)(hn:0<=n/\n<len) :
  ∃V,(Instr.indexAt t X (.int k n)).run E.prog w=.ok V w/\VRel μ (.pointer (some ⟨i,o+n.toNat*s,none⟩)) V:=by
 cases hx with
 |@slice _ _ _ _ cap L hm hl hr=>
  refine ⟨.pointer (some ⟨L.blk,L.off+(o+n.toNat*s),none⟩),?_,.ptr hm⟩;simp [Instr.indexAt,asIntOf,run_und hE hu,hn.1,hn.2,run_size hE hs,addr_add,Nat.add_assoc]
 |sliceEnd hm ho=>omega
include hE in
theorem indexArr_ok {t el i o len s:Nat}{n:Int}{k:IntKind}{X:Value}(hu:und E t=some (.array len el))(hx:VRel μ (.pointer (some ⟨i,o,none⟩)) X)(hs:sizeA E el=some s)(hn:0<=n/\n<len) :
  ∃V,(Instr.indexAt t X (.int k n)).run E.prog w=.ok V w/\VRel μ (.pointer (some ⟨i,o+n.toNat*s,none⟩)) V:=by
 cases hx with
 |@ptr _ _ L hm=>
  refine ⟨.pointer (some ⟨L.blk,L.off+(o+n.toNat*s),none⟩),?_,.ptr hm⟩;simp [Instr.indexAt,asIntOf,run_und hE hu,Instr.sureAddr,hn.1,hn.2,run_size hE hs,addr_add,Nat.add_assoc]
theorem rels_map {e e':Operand->Value}(he:∀x,VRel μ (e x) (e' x))(l:Array Operand):VRels μ (l.map e).toList (l.map e').toList:=by
 simp only [Array.toList_map];exact VRels.map e e' _ λx _=>he x
theorem VRel.bool_eq {t:Bool}{V:Value}(h:VRel μ (.bool t) V):V=.bool t:=by cases h;rfl
theorem VRel.int_eq {k:IntKind}{n:Int}{V:Value}(h:VRel μ (.int k n) V):V=.int k n:=by cases h;rfl
include hE in
theorem aop_ok (hH:HRel E B0 μ H w){o:Oper}{e e':Operand->Value}(he:∀x,VRel μ (e x) (e' x)){r:Res}(h:aop E e o.op H=some r):OpOK E B0 μ H w (execOp e' o) r:=by
 have⟨dst,op,ty,pos,aft,grd⟩:=o;simp only at h;unfold execOp;dsimp only;cases op<;>dsimp only
 case move x=>injection h with h;subst h;exact OpOK.pure_value hH (he x)
 case assign x=>injection h with h;subst h;exact OpOK.pure_value hH (he x)
 case pick c a b=>
  simp only [aop] at h;split at h
  case h_2=>cases h
  rename_i t hc;injection h with h;subst h
  have h1:=he c;rw [hc] at h1;rw [h1.bool_eq];cases t
  ·exact ⟨.value (e' b),e' b,w,μ,by simp [asBool],.inl rfl,Grow.refl _ _,he b,hH,Below.refl _ _⟩
  ·exact ⟨.value (e' a),e' a,w,μ,by simp [asBool],.inl rfl,Grow.refl _ _,he a,hH,Below.refl _ _⟩
 case alloc t=>
  simp only [aop] at h;cases hz:zeroV E t with
  |none=>rw [hz] at h;cases h
  |some z=>
   rw [hz] at h;obtain ⟨v,H',h1,rfl⟩:=rvh_some h;exact OpOK.of_makes (alloc_ok hE hH hz h1)
 case box t x=>
  obtain ⟨v,H',h1,rfl⟩:=rvh_some h;exact OpOK.of_makes (box_ok hH (he x) h1 t)
 case build t parts=>
  obtain ⟨v,h1,rfl⟩:=rv_some h;exact OpOK.of_value hH (build_ok hE he h1)
 case buildSlice t len parts=>
  obtain ⟨v,H',h1,rfl⟩:=rvh_some h;exact OpOK.of_makes (buildSlice_ok hE hH he h1)
 case load t a=>
  obtain ⟨v,h1,rfl⟩:=rv_some h;exact OpOK.of_value hH (load_ok hE hH (he a) h1)
 case store t a x=>
  obtain ⟨H',h1,rfl⟩:=rh_some h;exact OpOK.of_unit (storeV_next h1) (store_ok hE hH (he a) (he x) h1)
 case nilCheck x=>
  simp only [aop] at h;have h1:=he x;generalize e x=y at h h1;generalize e' x=Y at h1;split at h
  ·injection h with h;subst h
   cases h1 with
   |ptr hm=>exact OpOK.pure_value hH (.ptr hm)
  ·injection h with h;subst h
   cases h1 with
   |func q1 q2=>exact OpOK.pure_value hH (.func q1 q2)
  ·cases h
 case binOp op t x y yt=>
  obtain ⟨v,h1,rfl⟩:=rv_some h;have⟨b1,b2⟩:=bin_ok hE hH (xo:=x) (yo:=y) (he x) (he y) h1;exact OpOK.of_value hH ⟨v,b1,b2⟩
 case unOp op t x=>
  obtain ⟨v,h1,rfl⟩:=rv_some h;have⟨b1,b2⟩:=un_ok (P:=E.prog) (w:=w) (he x) h1;exact OpOK.of_value hH ⟨v,b1,b2⟩
 case convert src dst x=>
  obtain ⟨v,h1,rfl⟩:=rv_some h;have h2:=he x;unfold convertA at h1;split at h1
  ·rename_i sd k k' n hs hu hx;rw [hx] at h2;rw [h2.int_eq];injection h1 with h1;subst h1
   refine OpOK.of_value hH ⟨_,?_,.int _ _⟩;simp [convert,run_und hE hs,run_und hE hu,Conv.intToInt]
  ·cases h1
 case makeInterface t x=>
  simp only [aop] at h;split at h
  ·cases h
  ·rename_i d hd hu;injection h with h;subst h
   refine OpOK.of_value hH ⟨.iface t (e' x),?_,.iface (he x)⟩;have hu':=und_ok hE hu;have hc:E.prog.concrete t=true:=by
    unfold Program.concrete;rw [hu'];cases d<;>first|rfl|exact (hd _ rfl).elim
   exact run_makeInterface w t _ hc
  ·cases h
 case makeFunc fn first captured=>
  cases fn with
  |func f=>
   simp only [aop] at h;injection h with h;subst h
   exact OpOK.of_value hH ⟨_,rfl,.func (rels_map he _) (rels_map he _)⟩
  |_=>simp only [aop] at h;cases h
 case makeMap t rr=>
  have hmk:OpOK E B0 μ H w (do pure (.value (<-(do pure (.map (some (<-newObj (.map #[] 0)))):Sem Value)))) (.val (.map (some H.next)) (H.new (.map [] 0))):=by
   have⟨q1,q2,q3⟩:=hH.newMap [] #[] 0 .nil;exact OpOK.of_makes ⟨.map (some w.heap.size),_,_,by simp,q1,.map (L:=⟨w.heap.size,0,0,0⟩) (Inj.add_self _ _ _),q2,q3⟩
  cases rr with
  |none=>
   simp only [aop] at h;injection h with h;subst h
   exact hmk
  |some x=>
   simp only [aop] at h;split at h
   ·rename_i kt et k n hu hx;injection h with h;subst h
    have h2:=he x;rw [hx] at h2;have⟨N,V,w',μ',g1,g2⟩:=hmk;refine ⟨N,V,w',μ',?_,g2⟩;rw [<-g1];simp [Instr.makeMap,run_und hE hu,h2.int_eq,asInt,asIntOf]
   ·cases h
 case makeSlice t l c=>
  obtain ⟨v,H',h1,rfl⟩:=rvh_some h;exact OpOK.of_makes (makeSlice_ok hE hH (he l) (he c) h1)
 case slice t x lo hi mx=>
  obtain ⟨v,h1,rfl⟩:=rv_some h;exact OpOK.of_value hH (slice_ok hE hH he (he x) h1)
 case fieldAddr s x f=>
  simp only [aop] at h;split at h
  ·rename_i fields i o hu hx;split at h
   ·rename_i fd hf;cases hs:sizeA E fd.type with
    |none=>rw [hs] at h;cases h
    |some n=>
     rw [hs] at h;simp only [Option.bind_some] at h;split at h
     ·cases h
     ·rename_i hn;injection h with h;subst h
      have h1:=he x;rw [hx] at h1;exact OpOK.of_value hH (fieldAddr_ok hE hH hu h1 hf hs hn)
   ·cases h
  ·cases h
 case field t x f=>
  simp only [aop] at h;split at h
  ·rename_i fields cs hu hx;split at h
   ·rename_i fd hf;obtain ⟨v,h1,rfl⟩:=rv_some h;have h2:=he x;rw [hx] at h2;generalize e' x=X at h2;cases h2 with
    |@agg _ CS hc=>
     have⟨V,p1,p2⟩:=part_ok (w:=w) hE hc h1;exact OpOK.of_value hH ⟨V,by simp [Instr.field,run_und hE hu,hf,asAgg,p1],p2⟩
   ·cases h
  ·cases h
 case indexAddr t x ix=>
  simp only [aop] at h;split at h
  ·rename_i el i o len c k n hu hx hix;cases hs:sizeA E el with
   |none=>rw [hs] at h;cases h
   |some s=>
    rw [hs] at h;simp only [Option.bind_some] at h;split at h
    ·rename_i hn;injection h with h;subst h
     have h1:=he x;have h2:=he ix;rw [hx] at h1;rw [hix] at h2;rw [h2.int_eq];exact OpOK.of_value hH (indexSlice_ok hE hu h1 hs hn)
    ·cases h
  ·rename_i len el i o k n hu hx hix;cases hs:sizeA E el with
   |none=>rw [hs] at h;cases h
   |some s=>
    rw [hs] at h;simp only [Option.bind_some] at h;split at h
    ·rename_i hn;injection h with h;subst h
     have h1:=he x;have h2:=he ix;rw [hx] at h1;rw [hix] at h2;rw [h2.int_eq];exact OpOK.of_value hH (indexArr_ok hE hu h1 hs hn)
    ·cases h
  ·cases h
 case index t x ix=>
  simp only [aop] at h;split at h
  ·rename_i len el cs k n hu hx hix;cases hs:sizeA E el with
   |none=>rw [hs] at h;cases h
   |some s=>
    rw [hs] at h;simp only [Option.bind_some] at h;split at h
    ·rename_i hn;obtain ⟨v,h0,rfl⟩:=rv_some h;have h1:=he x;have h2:=he ix;rw [hx] at h1;rw [hix] at h2;rw [h2.int_eq];generalize e' x=X at h1;cases h1 with
     |@agg _ CS hc=>
      have⟨V,p1,p2⟩:=part_ok (w:=w) hE hc h0;exact OpOK.of_value hH ⟨V,by simp [Instr.index,asIntOf,run_und hE hu,hn.1,hn.2,run_size hE hs,p1],p2⟩
    ·cases h
  ·rename_i s k n hu hx hix;obtain ⟨v,h0,rfl⟩:=rv_some h;have h1:=he x;have h2:=he ix;rw [hx] at h1;rw [hix] at h2;rw [h2.int_eq];generalize e' x=X at h1;cases h1;unfold byteA at h0;split at h0
   ·rename_i hn;cases hb:s[n.toNat]? with
    |none=>rw [hb] at h0;cases h0
    |some b=>
     rw [hb] at h0;simp only [Option.map_some,Option.some.injEq] at h0;subst h0;exact OpOK.of_value hH ⟨.int .u8 b.toNat,by simp [Instr.index,asIntOf,run_und hE hu,hn,hb],.int _ _⟩
   ·cases h0
  ·cases h
 case lookup t x k ok=>
  obtain ⟨v,h1,rfl⟩:=rv_some h;exact OpOK.of_value hH (lookup_ok hE hH (he x) (he k) h1)
 case mapUpdate t m k x=>
  obtain ⟨H',h1,rfl⟩:=rh_some h;exact OpOK.of_unit (mapUpdateA_next h1) (mapUpdate_ok hE hH (he m) (he k) (he x) h1)
 case insert t m k x=>
  obtain ⟨H',h1,rfl⟩:=rh_some h;exact OpOK.of_unit (mapUpdateA_next h1) (mapUpdate_ok hE hH (he m) (he k) (he x) h1)
 case typeAssert x xt asserted ok=>
  cases ok with
  |true=>simp only [aop] at h;cases h
  |false=>
  simp only [aop] at h;split at h
  ·cases h
  ·rename_i d t v hd hu hx;split at h
   ·rename_i hta;injection h with h;subst h
    subst hta;have h1:=he x;rw [hx] at h1;generalize e' x=X at h1;cases h1 with
    |@iface _ _ V hv=>
     refine OpOK.of_value hH ⟨V,?_,hv⟩;cases d<;>first
      |exact (hd _ _ rfl rfl).elim
      |exact (hd _ rfl).elim
      |simp [Instr.typeAssert,run_und hE hu]
   ·cases h
  ·cases h
 case extract t ix=>
  simp only [aop] at h;split at h
  ·rename_i vs hx;split at h
   ·rename_i v hv;injection h with h;subst h
    have h1:=he t;rw [hx] at h1;generalize e' t=X at h1;cases h1 with
    |@tuple _ VS hc=>
     rw [<-Array.getElem?_toList] at hv;have⟨V,p1,p2⟩:=hc.get hv;rw [Array.getElem?_toList] at p1;exact OpOK.of_value hH ⟨V,by simp [Instr.extract,p1],p2⟩
   ·cases h
  ·cases h
 case call c=>
  simp only [aop] at h;have⟨callee,args,argTypes⟩:=c;cases callee with
  |value f=>
   simp only at h
   have:=call_ok hE hH (he f) (VRels.map e e' args.toList λx _=>he x) h
   have e1:(args.toList.map e').toArray=args.map e':=by rw [<-Array.toList_map,Array.toArray_toList]
   rw [e1] at this;exact this
  |invoke r n=>cases h
  |builtin b=>
   simp only at h
   have:=bltn_ok hE hH (ty:=ty) (cs:=args.map fun|.const _=>true|_=>false) (VRels.map e e' args.toList λx _=>he x) h
   have e1:(args.toList.map e').toArray=args.map e':=by rw [<-Array.toList_map,Array.toArray_toList]
   rw [e1] at this;exact this
 all_goals (simp only [aop] at h;cases h)
end
end
section
def FOK (E:Env)(B0:Nat)(sem:FSem):Prop:=
 ∀f args H v H',sem f args H=some (v,H')->∀μ w (ARGS:Array Value),HRel E B0 μ H w->VRels μ args ARGS.toList->
  Calls E.prog f ARGS w λe w'=>∃V μ',e=.returned V/\Grow H μ H' μ'/\VRel μ' v V/\HRel E B0 μ' H' w'/\Below B0 w w'
def TRel (μ:Inj)(T:Tr Value)(a:Act):Prop:=
 (∀t,(T.get t=none/\a.tmps[t]? =none)∨∃v V,T.get t=some v/\a.tmps[t]? =some V/\VRel μ v V)/\a.defers=[]
section
variable {E:Env} (hE:E.Ok) {B0:Nat} {μ:Inj} {H:Heap} {w:World}
theorem TRel.mono {μ':Inj}(hle:Inj.le μ μ'){T:Tr Value}{a:Act}(h:TRel μ T a):TRel μ' T a:=
 ⟨λt=>(h.1 t).imp id λ⟨v,V,h1,h2,h3⟩=>⟨v,V,h1,h2,h3.mono hle⟩,h.2⟩
theorem VRel.undef:VRel μ undef undef:=.tuple .nil
theorem TRel.at {T:Tr Value}{a:Act}(h:TRel μ T a)(t:Nat):VRel μ ((T.get t).getD Go.undef) (a.tmps.getD t Go.undef):=by
 rcases h.1 t with ⟨h1,h2⟩|⟨v,V,h1,h2,h3⟩
 ·rw [h1,Array.getD_eq_getD_getElem?,h2];exact VRel.undef
 ·rw [h1,Array.getD_eq_getD_getElem?,h2];exact h3
theorem ev_rel (hH:HRel E B0 μ H w){T:Tr Value}{a:Act}(h:TRel μ T a)(x:Operand):VRel μ (ev E T x) (a.eval x):=by
 cases x with
 |tmp t=>exact h.at t
 |const v=>
  simp only [ev,Act.eval];cases hp:plain v with
  |true=>exact plain_rel hp
  |false=>exact .top _
 |global g=>
  simp only [ev,Act.eval];cases hb:Nat.ble (g+1) E.ng with
  |true=>
   have⟨L,h1,h2,h3⟩:=hH.glob g (Nat.le_of_ble_eq_true hb)
   have:=VRel.ptr (μ:=μ) (i:=g) (o:=0) h1
   rw [h2,h3] at this;exact this
  |false=>exact .top _
 |func f=>exact .func .nil .nil
theorem TRel.put {T:Tr Value}{a:Act}(h:TRel μ T a)(d:Option Tmp){v V:Value}(hv:VRel μ v V):TRel μ (putT T d v) (a.put d V):=by
 cases d with
 |none=>exact h
 |some d=>
  refine ⟨λt=>?_,h.2⟩;simp only [putT,Act.put,Tr.get_upd];rw [Array.getElem?_setIfInBounds];by_cases e:t=d
  ·subst e;rw [if_pos rfl,if_pos rfl];rcases h.1 t with ⟨h1,h2⟩|⟨v',V',h1,h2,h3⟩
   ·left;refine ⟨by rw [h1];rfl,?_⟩;rw [if_neg];intro hlt;rw [Array.getElem?_eq_getElem hlt] at h2;cases h2
   ·right;refine ⟨v,V,by rw [h1];rfl,?_,hv⟩;rw [if_pos];rcases Nat.lt_or_ge t a.tmps.size with hlt|hge
    ·exact hlt
    ·rw [Array.getElem?_eq_none hge] at h2;cases h2
  ·rw [if_neg e,if_neg (λh=>e h.symm)];exact h.1 t
theorem wanted_ok {ops:Array Oper}{T:Tr Value}{a:Act}(h:TRel μ T a){o:Oper}{b:Bool}(hw:wantedA ops T o=some b):Region.wanted o (yielded ops a.tmps)=b:=by
 unfold wantedA at hw;unfold Region.wanted;cases hg:o.guard with
 |none=>rw [hg] at hw;simpa using hw
 |some p=>
  have⟨j,want⟩:=p;rw [hg] at hw;simp only at hw⊢;unfold yielded;cases hd:(ops[j]?).bind (·.dst) with
  |none=>rw [hd] at hw;simp only [Option.some.injEq] at hw;subst hw;rfl
  |some d=>
   rw [hd] at hw;simp only [Option.bind_some] at hw⊢;rcases h.1 d with ⟨h1,h2⟩|⟨v,V,h1,h2,h3⟩
   ·rw [h1] at hw;rw [h2];simp only [Option.some.injEq] at hw;subst hw;rfl
   ·rw [h1] at hw;rw [h2];cases h3
    case tuple cs CS hs=>
     have⟨cs⟩:=cs;have⟨CS⟩:=CS;cases hs with
     |nil=>simp only [Option.some.injEq] at hw;subst hw;rfl
     |cons _ _=>cases hw
    case bool x=>simp only [Option.some.injEq] at hw;subst hw;rfl
    all_goals (cases hw)
theorem oper_ok (hE:E.Ok){sem:FSem}(hF:FOK E B0 sem)(hH:HRel E B0 μ H w){o:Oper}{T T0:Tr Value}{a:Act}(hev:∀x,VRel μ (ev E T0 x) (a.eval x))(hT:TRel μ T a)
  {v:Value}{H':Heap}(h:resA sem (aop E (ev E T0) o.op H) H=some (v,H')){K:Act->World->Prop}{Q:Exit->Act->World->Prop}
  (hK:∀V μ' w',Grow H μ H' μ'->VRel μ' v V->TRel μ' (putT T o.dst v) (a.put o.dst V)->HRel E B0 μ' H' w'->Below B0 w w'->K (a.put o.dst V) w'):o.wp E.prog a w K Q:=by
 unfold Oper.wp;cases hr:aop E (ev E T0) o.op H with
 |none=>rw [hr] at h;cases h
 |some r=>
  rw [hr] at h;have hop:=aop_ok hE hH hev hr;cases r with
  |val v0 H0=>
   simp only [resA,Option.some.injEq,Prod.mk.injEq] at h;obtain ⟨rfl,rfl⟩:=h;have⟨N,V,w',μ',h1,h2,h3,h4,h5,h6⟩:=hop;rw [h1];rcases h2 with rfl|⟨rfl,rfl⟩
   ·exact hK V μ' w' h3 h4 ((hT.mono h3.le).put _ h4) h5 h6
   ·exact hK Go.undef μ' w' h3 h4 ((hT.mono h3.le).put _ h4) h5 h6
  |call f args=>
   simp only [resA] at h;have⟨ARGS,h1,h2⟩:=hop;rw [h1];refine (hF f args H v H' h μ w ARGS hH h2).mono ?_;rintro e w' ⟨V,μ',rfl,h3,h4,h5,h6⟩;exact hK V μ' w' h3 h4 ((hT.mono h3.le).put _ h4) h5 h6
def SRel (E:Env)(B0:Nat)(μ:Inj)(s:St)(a:Act)(w:World):Prop:=TRel μ s.T a/\HRel E B0 μ s.H w
theorem runOps_ok (hE:E.Ok){sem:FSem}(hF:FOK E B0 sem){ops:Array Oper}{Q:Exit->Act->World->Prop}:∀(l:List Oper)(s s':St)(μ:Inj)(a:Act)(w:World),
  runOps E sem ops l s=some s'->SRel E B0 μ s a w->(∀μ' a' w',Grow s.H μ s'.H μ'->SRel E B0 μ' s' a' w'->Below B0 w w'->Q .normal a' w')->wpList E.prog ops Q l a w
 |[],s,s',μ,a,w,h,hs,hQ=>by
  simp only [runOps,Option.some.injEq] at h
  subst h
  exact hQ μ a w (Grow.refl _ _) hs (Below.refl _ _)
 |o::l,s,s',μ,a,w,h,hs,hQ=>by
  simp only [runOps] at h
  cases hst:stepA E sem ops o s with
  |none=>rw [hst] at h;cases h
  |some s1=>
   rw [hst] at h
   simp only at h
   unfold stepA at hst
   unfold wpList
   cases hw:wantedA ops s.T o with
   |none=>rw [hw] at hst;cases hst
   |some b=>
    rw [hw] at hst
    have hwt:=wanted_ok hs.1 hw
    rw [hwt]
    cases b with
    |false=>
     simp only [Option.some.injEq] at hst
     subst hst
     rw [if_neg (by simp)]
     exact runOps_ok hE hF l _ s' μ _ w h ⟨hs.1.put _ VRel.undef,hs.2⟩ hQ
    |true=>
     simp only at hst
     rw [if_pos rfl]
     left
     cases hr:resA sem (aop E (ev E s.T) o.op s.H) s.H with
     |none=>rw [hr] at hst;cases hst
     |some p=>
      have⟨v,H'⟩:=p
      rw [hr] at hst
      simp only [Option.some.injEq] at hst
      subst hst
      refine oper_ok hE hF hs.2 (λx=>ev_rel hs.2 hs.1 x) hs.1 hr ?_
      intro V μ' w' q1 q2 q3 q4 q5
      exact runOps_ok hE hF l _ s' μ' _ w' h ⟨q3,q4⟩ λμ2 a2 w2 r1 r2 r3=>hQ μ2 a2 w2 (q1.trans r1) r2 (q5.trans r3)
end
end
section
theorem sameL_eq (d:Nat)(ih:∀v w,sameN d v w=true->v=w):∀l m:List Value,sameN.sameL d l m=true->l=m
 |[],[],_=>rfl
 |[],_::_,h=>by simp [sameN.sameL] at h
 |_::_,[],h=>by simp [sameN.sameL] at h
 |v::l,w::m,h=>by
  simp only [sameN.sameL,Bool.and_eq_true] at h
  rw [ih v w h.1,sameL_eq d ih l m h.2]
theorem sameN_eq:∀(d:Nat)(v w:Value),sameN d v w=true->v=w
 |0,_,_,h=>by simp [sameN] at h
 |d+1,v,w,h=>by
  unfold sameN at h
  split at h
  all_goals first
   |(cases h;done)
   |rfl
   |(simp only [Bool.and_eq_true,decide_eq_true_eq,beq_iff_eq] at h;simp only [h];done)
   |(simp only [Bool.and_eq_true,decide_eq_true_eq] at h
     have⟨⟨h1,h2⟩,h3⟩:=h
     have e2:=sameL_eq d (sameN_eq d) _ _ h2
     have e3:=sameL_eq d (sameN_eq d) _ _ h3
     rw [h1,Array.toList_inj.1 e2,Array.toList_inj.1 e3])
   |(have e2:=sameL_eq d (sameN_eq d) _ _ h
     rw [Array.toList_inj.1 e2])
section
variable {E:Env}
theorem rv_val {H:Heap}{o:Option Value}{r:Res}(h:rv H o=some r):∃v,r=.val v H:=by
 obtain ⟨v,_,rfl⟩:=rv_some h;exact ⟨v,rfl⟩
theorem aop_quiet {e : Operand -> Value}{op : Op}{H : Heap}{r : Res}(hl : isLoud op = false)(h : aop E e op H = some r) : ∃ v, r = .val v H := by
  cases op
  case call c =>
    obtain ⟨callee, args, ts⟩ := c
    cases callee with
    | value f => simp [isLoud] at hl
    | invoke r n => simp [isLoud] at hl
    | builtin b =>
      cases b <;> first
        | (simp [isLoud] at hl; done)
        | (simp only [aop, builtinA] at h
           first
             | exact rv_val h
             | (split at h
                · exact rv_val h
                · cases h))
  all_goals first
    | (simp [isLoud] at hl; done)
    | (simp only [aop] at h; exact rv_val h)
    | (simp only [aop] at h; cases h; done)
    | (simp only [aop, Option.some.injEq] at h; exact ⟨_, h.symm⟩)
    | skip
  case makeFunc fn first captured =>
    cases fn <;> simp only [aop] at h <;> first
      | (cases h; done)
      | (simp only [Option.some.injEq] at h; exact ⟨_, h.symm⟩)
  case typeAssert x xt asserted ok =>
    cases ok <;> simp only [aop] at h
    · split at h
      · cases h
      · split at h
        · simp only [Option.some.injEq] at h; exact ⟨_, h.symm⟩
        · cases h
      · cases h
    · cases h
  all_goals
    simp only [aop] at h
    split at h
    all_goals first
      | (cases h; done)
      | (simp only [Option.some.injEq] at h; exact ⟨_, h.symm⟩)
      | exact rv_val h
      | skip
    all_goals first
      | (split at h
         all_goals first
           | (cases h; done)
           | exact rv_val h
           | (simp only [Option.some.injEq] at h; exact ⟨_, h.symm⟩)
           | (obtain ⟨n, _, h⟩ := Option.bind_eq_some_iff.1 h
              split at h
              · cases h
              · simp only [Option.some.injEq] at h; exact ⟨_, h.symm⟩))
      | (obtain ⟨n, _, h⟩ := Option.bind_eq_some_iff.1 h
         split at h
         · first
             | exact rv_val h
             | (simp only [Option.some.injEq] at h; exact ⟨_, h.symm⟩)
         · cases h)
theorem rv_pure {H:Heap}{o:Option Value}{r:Res}(h:rv H o=some r)(H':Heap):∃v,r=.val v H/\rv H' o=some (.val v H'):=by
 obtain ⟨v,e,rfl⟩:=rv_some h;exact ⟨v,rfl,by rw [e];rfl⟩
theorem aop_pure {e : Operand -> Value}{op : Op}{H : Heap}{r : Res}(hl : isPure op = true)(h : aop E e op H = some r)(H' : Heap) : ∃ v, r = .val v H /\ aop E e op H' = some (.val v H') := by
  cases op
  all_goals first
    | (simp [isPure] at hl; done)
    | (simp only [aop] at h ⊢; exact rv_pure h H')
    | (simp only [aop, Option.some.injEq] at h ⊢; exact ⟨_, h.symm, rfl⟩)
    | skip
  case makeFunc fn first captured =>
    cases fn <;> simp only [aop] at h ⊢ <;> first
      | (cases h; done)
      | (simp only [Option.some.injEq] at h; exact ⟨_, h.symm, rfl⟩)
  all_goals
    simp only [aop] at h ⊢
    split at h
    all_goals first
      | (cases h; done)
      | (simp only [Option.some.injEq] at h; exact ⟨_, h.symm, rfl⟩)
      | exact rv_pure h H'
      | skip
    all_goals first
      | (split at h
         all_goals first
           | (cases h; done)
           | exact rv_pure h H'
           | (simp only [Option.some.injEq] at h; exact ⟨_, h.symm, rfl⟩)
           | (obtain ⟨n, hn, h⟩ := Option.bind_eq_some_iff.1 h
              split at h
              · cases h
              · rename_i hc
                simp only [Option.some.injEq] at h; exact ⟨_, h.symm, by rw [hn]; simp only [Option.bind_some]; rw [if_neg hc]⟩))
      | (obtain ⟨n, hn, h⟩ := Option.bind_eq_some_iff.1 h
         split at h
         · rename_i hc
           first
             | (obtain ⟨v, h1, h2⟩ := rv_pure h H'
                exact ⟨v, h1, by rw [hn]; simp only [Option.bind_some]; rw [if_pos hc]; exact h2⟩)
             | (simp only [Option.some.injEq] at h; exact ⟨_, h.symm, by rw [hn]; simp only [Option.bind_some]; rw [if_pos hc]⟩)
         · cases h)
theorem loudD_of {b:Bool}{op:Op}(h:isBirth b op=false):isLoudD b op=isLoud op:=by
 unfold isLoudD;rw [h];rfl
theorem birth_loud {b:Bool}{op:Op}(h:isBirth b op=true):isLoudD b op=false:=by
 unfold isLoudD;rw [h];rfl
theorem loud_noBirth {b:Bool}{op:Op}(h:isLoudD b op=true):isBirth b op=false:=by
 cases hb:isBirth b op with
 |false=>rfl
 |true=>rw [birth_loud hb] at h;cases h
theorem birth_pure {b:Bool}{op:Op}(h:isBirth b op=true):isPure op=false:=by
 cases op<;>first|rfl|(simp [isBirth] at h)
theorem aopD_of {b:Bool}{base i:Nat}{e:Operand->Value}{op:Op}{H:Heap}(h:isBirth b op=false):aopD b E base i e op H=aop E e op H:=by
 unfold aopD;split
 ·simp [isBirth] at h
 ·rw [h];rfl
theorem isAlloc (op:Op):(∃t,op=.alloc t)∨∀t,op≠.alloc t:=by
 cases op<;>first|exact .inl ⟨_,rfl⟩|exact .inr λ_ h=>by cases h
theorem aop_congr {e e':Operand->Value}{op:Op}{H:Heap}(h:∀x∈op.operands,e x=e' x):aop E e op H=aop E e' op H:=by
 cases op
 case build t parts=>
  have:(parts.map λp=>(p.1,e p.2))=parts.map λp=>(p.1,e' p.2):=Array.map_congr_left λp hp=>by rw [h p.2 (by simp [Op.operands];exact ⟨p.1,hp⟩)]
  simp only [aop,this]
 case buildSlice t len parts=>
  have:(parts.map λp=>(p.1,e p.2))=parts.map λp=>(p.1,e' p.2):=Array.map_congr_left λp hp=>by rw [h p.2 (by simp [Op.operands];exact ⟨p.1,hp⟩)]
  simp only [aop,this]
 case makeFunc fn first captured=>
  have h1:first.map e=first.map e':=Array.map_congr_left λp hp=>h p (by simp [Op.operands,hp])
  have h2:captured.map e=captured.map e':=Array.map_congr_left λp hp=>h p (by simp [Op.operands,hp])
  cases fn<;>simp only [aop,h1,h2]
 case makeMap t r=>
  cases r with
  |none=>rfl
  |some x=>simp only [aop,h x (by simp [Op.operands])]
 case slice t x lo hi mx=>
  have ho:∀(o:Option Operand),(∀y∈o,y∈(Op.slice t x lo hi mx).operands)->o.map e=o.map e':=by
   intro o ho;cases o with
   |none=>rfl
   |some y=>simp only [Option.map_some,h y (ho y rfl)]
  simp only [aop,h x (by simp [Op.operands]),ho lo (by intro y hy;cases hy;simp [Op.operands]),ho hi (by intro y hy;cases hy;simp [Op.operands]),ho mx (by intro y hy;cases hy;simp [Op.operands])]
 case typeAssert x a b ok=>cases ok<;>simp only [aop,h x (by simp [Op.operands])]
 case call c=>
  have⟨callee,args,ts⟩:=c;have ha:args.toList.map e=args.toList.map e':=List.map_congr_left λp hp=>h p (by simp [Op.operands,Call.operands];right;simpa using hp)
  cases callee with
  |value f=>simp only [aop,ha,h f (by simp [Op.operands,Call.operands])]
  |builtin b=>simp only [aop,ha]
  |invoke r n=>rfl
 all_goals first
  |rfl
  |(simp only [aop,h _ (show _∈Op.operands _ by simp [Op.operands])];done)
  |skip
 case move x=>simp only [aop,h x (by simp [Op.operands])]
 case assign x=>simp only [aop,h x (by simp [Op.operands])]
 case box t x=>simp only [aop,h x (by simp [Op.operands])]
 case load t x=>simp only [aop,h x (by simp [Op.operands])]
 case nilCheck x=>simp only [aop,h x (by simp [Op.operands])]
 case unOp o t x=>simp only [aop,h x (by simp [Op.operands])]
 case convert s t x=>simp only [aop,h x (by simp [Op.operands])]
 case makeInterface t x=>simp only [aop,h x (by simp [Op.operands])]
 case fieldAddr t x f=>simp only [aop,h x (by simp [Op.operands])]
 case field t x f=>simp only [aop,h x (by simp [Op.operands])]
 case extract x i=>simp only [aop,h x (by simp [Op.operands])]
 case pick c a b=>simp only [aop,h c (by simp [Op.operands]),h a (by simp [Op.operands]),h b (by simp [Op.operands])]
 case store t a v=>simp only [aop,h a (by simp [Op.operands]),h v (by simp [Op.operands])]
 case binOp op t a v u=>simp only [aop,h a (by simp [Op.operands]),h v (by simp [Op.operands])]
 case makeSlice t a v=>simp only [aop,h a (by simp [Op.operands]),h v (by simp [Op.operands])]
 case indexAddr t a v=>simp only [aop,h a (by simp [Op.operands]),h v (by simp [Op.operands])]
 case index t a v=>simp only [aop,h a (by simp [Op.operands]),h v (by simp [Op.operands])]
 case lookup t a v ok=>simp only [aop,h a (by simp [Op.operands]),h v (by simp [Op.operands])]
 case mapUpdate t a v u=>simp only [aop,h a (by simp [Op.operands]),h v (by simp [Op.operands]),h u (by simp [Op.operands])]
 case insert t a v u=>simp only [aop,h a (by simp [Op.operands]),h v (by simp [Op.operands]),h u (by simp [Op.operands])]
theorem bornA_congr {e e':Operand->Value}{op:Op}(h:∀x∈op.operands,e x=e' x):bornA E e op=bornA E e' op:=by
 unfold bornA;rw [aop_congr h]
theorem masksFrom_append:∀(l:List Oper)(acc:List Nat),∃m,masksFrom l acc=acc++m/\m.length=l.length
 |[],acc=>⟨[],by simp [masksFrom],rfl⟩
 |o::l,acc=>by
  have⟨m,h1,h2⟩:=masksFrom_append l (acc++[maskOf acc o])
  exact ⟨maskOf acc o::m,by simp [masksFrom,h1],by simp [h2]⟩
theorem masksFrom_get:∀(l:List Oper)(acc:List Nat)(j:Nat)(o:Oper),l[j]? =some o->(masksFrom l acc)[acc.length+j]? =some (maskOf ((masksFrom l acc).take (acc.length+j)) o)
 |[],_,j,o,h=>by simp at h
 |o'::l,acc,j,o,h=>by
  cases j with
  |zero=>
   simp only [List.getElem?_cons_zero,Option.some.injEq] at h
   subst h
   simp only [masksFrom]
   have⟨m,h1,h2⟩:=masksFrom_append l (acc++[maskOf acc o'])
   rw [h1]
   simp
  |succ j=>
   simp only [List.getElem?_cons_succ] at h
   have:=masksFrom_get l (acc++[maskOf acc o']) j o h
   simp only [List.length_append,List.length_cons,List.length_nil,Nat.zero_add] at this
   simp only [masksFrom]
   rw [show acc.length+(j+1)=acc.length+1+j from by omega]
   exact this
theorem maskOf_bit (acc:List Nat)(o:Oper)(i:Nat)(h:(maskOf acc o).testBit i=true):∃e∈o.after.toList,binding e=true/\(e.on=i∨(acc.getD e.on 0).testBit i=true):=by
 unfold maskOf at h;have key:∀(l:List Edge)(s:Nat),(l.foldl (λs e=>bif binding e then s|||2 ^ e.on|||acc.getD e.on 0 else s) s).testBit i=true->s.testBit i=true∨∃e∈l,binding e=true/\(e.on=i∨(acc.getD e.on 0).testBit i=true):=by
  intro l
  induction l with
  |nil=>intro s h;exact .inl h
  |cons e l ih=>
   intro s h;simp only [List.foldl_cons] at h;rcases ih _ h with h|⟨e',h1,h2⟩
   ·cases hb:binding e with
    |false=>rw [hb] at h;exact .inl h
    |true=>
     rw [hb] at h;simp only [cond_true,Nat.testBit_or,Bool.or_eq_true] at h;rcases h with (h|h)|h
     ·exact .inl h
     ·right;refine ⟨e,by simp,hb,.inl ?_⟩;rw [Nat.testBit_two_pow] at h;simpa using h
     ·exact .inr ⟨e,by simp,hb,.inr h⟩
   ·exact .inr ⟨e',by simp [h1],h2⟩
 rcases key _ _ h with h|h
 ·simp at h
 ·exact h
def Closed (ops:Array Oper)(L:Nat->Bool):Prop:=∀j o,L j=true->ops[j]? =some o->∀e∈o.after.toList,binding e=true->L e.on=true
theorem closed_mask {ops:Array Oper}{L:Nat->Bool}(hc:Closed ops L):∀(j:Nat)(o:Oper),ops[j]? =some o->L j=true->∀i,((masksFrom ops.toList []).getD j 0).testBit i=true->L i=true:=by
 intro j
 induction j using Nat.strongRecOn with
 |_ j ih=>
  intro o ho hL i hi;have hg:=masksFrom_get ops.toList [] j o (by simpa using ho);simp only [List.length_nil,Nat.zero_add] at hg;rw [List.getD_eq_getElem?_getD,hg] at hi;simp only [Option.getD_some] at hi;have⟨e,he,hb,hor⟩:=maskOf_bit _ _ _ hi;have hLe:=hc j o hL ho e he hb;rcases hor with rfl|hbit
  ·exact hLe
  ·rw [List.getD_eq_getElem?_getD,List.getElem?_take] at hbit;split at hbit
   ·rename_i hlt;cases hoe:ops[e.on]? with
    |none=>
     have:(masksFrom ops.toList [])[e.on]? =none:=by
      have⟨m,h1,h2⟩:=masksFrom_append ops.toList [];rw [h1,List.nil_append,List.getElem?_eq_none];rw [h2,Array.length_toList];rcases Nat.lt_or_ge e.on ops.size with h|h
      ·rw [Array.getElem?_eq_getElem h] at hoe;cases hoe
      ·exact h
     rw [this] at hbit;simp at hbit
    |some o'=>exact ih e.on hlt o' hoe hLe i (by rw [List.getD_eq_getElem?_getD];exact hbit)
   ·simp at hbit
def PairOk (bm:Bool)(ops:Array Oper)(x y:Oper)(i m:Nat):Prop:=m.testBit i=true∨(Oper.apart ops x y=true/\¬(isLoudD bm x.op=true/\isLoudD bm y.op=true))
theorem pairs_spec {bm:Bool}{ops:Array Oper}:∀(l:List (Oper×Nat)),pairsOk bm ops l=true->∀(j:Nat)(p:Oper×Nat),l.reverse[j]? =some p->
  (∀i q,i<j->l.reverse[i]? =some q->PairOk bm ops q.1 p.1 i p.2)/\(∀e∈p.1.after.toList,binding e=true->e.on<j)
 |[],_,j,p,h=>by simp at h
 |(o,m)::l,hok,j,p,h=>by
  simp only [pairsOk,Bool.and_eq_true] at hok;have⟨⟨h1,h2⟩,h3⟩:=hok;simp only [List.reverse_cons] at h⊢;by_cases hj:j<l.length
  ·rw [List.getElem?_append_left (by simpa using hj)] at h;have⟨a,b⟩:=pairs_spec l h3 j p h;refine ⟨λi q hi hq=>a i q hi ?_,b⟩
   rwa [List.getElem?_append_left (by simp;omega)] at hq
  ·rw [List.getElem?_append_right (by simp;omega)] at h;simp only [List.length_reverse] at h;have hj0:j - l.length=0:=by
    rcases Nat.eq_zero_or_pos (j - l.length) with h'|h'
    ·exact h'
    ·rw [List.getElem?_eq_none (by simp;omega)] at h;cases h
   rw [hj0] at h;simp only [List.getElem?_cons_zero,Option.some.injEq] at h;subst h;have hjl:j=l.length:=by omega
   subst hjl;refine ⟨λi q hi hq=>?_,λe he hb=>?_⟩
   ·rw [List.getElem?_append_left (by simpa using hi),List.getElem?_reverse hi] at hq;rw [List.all_eq_true] at h1;have hm:(q,l.length - 1 - i)∈l.zipIdx:=by
     rw [List.mem_zipIdx_iff_getElem?];exact hq
    have:=h1 _ hm
    simp only at this;rw [show l.length - 1 - (l.length - 1 - i)=i from by omega] at this;simp only [Bool.or_eq_true,Bool.and_eq_true,Bool.not_eq_true',Bool.and_eq_false_imp] at this;rcases this with h|⟨ha,hb⟩
    ·exact .inl h
    ·exact .inr ⟨ha,λ⟨c,d⟩=>by rw [hb c] at d;cases d⟩
   ·rw [List.all_eq_true] at h2
    have:=h2 e he
    simp only [hb,Bool.not_true,Bool.false_or,Nat.ble_eq] at this;exact this
theorem static_spec {bm:Bool}{ops:Array Oper}(h:staticOk bm ops=true){i j:Nat}{x y:Oper}(hi:ops[i]? =some x)(hj:ops[j]? =some y)(hij:i<j) :
  PairOk bm ops x y i ((masksFrom ops.toList []).getD j 0):=by
 unfold staticOk at h;have⟨m,h1,h2⟩:=masksFrom_append ops.toList [];rw [List.nil_append] at h1;have hget:∀k z,ops[k]? =some z->((ops.toList.zip (masksFrom ops.toList [])).reverse.reverse)[k]? =some (z,(masksFrom ops.toList []).getD k 0):=by
  intro k z hk;rw [List.reverse_reverse,List.getElem?_zip_eq_some];refine ⟨by simpa using hk,?_⟩;have hlt:k<(masksFrom ops.toList []).length:=by
   rw [h1,h2,Array.length_toList];rcases Nat.lt_or_ge k ops.size with h|h
   ·exact h
   ·rw [Array.getElem?_eq_none h] at hk;cases hk
  rw [List.getD_eq_getElem?_getD,List.getElem?_eq_getElem hlt];rfl
 exact (pairs_spec _ h j _ (hget j y hj)).1 i _ hij (hget i x hi)
theorem static_edges {bm:Bool}{ops:Array Oper}(h:staticOk bm ops=true){j:Nat}{y:Oper}(hj:ops[j]? =some y):∀e∈y.after.toList,binding e=true->e.on<j:=by
 unfold staticOk at h;have⟨m,h1,h2⟩:=masksFrom_append ops.toList [];rw [List.nil_append] at h1;have hget:((ops.toList.zip (masksFrom ops.toList [])).reverse.reverse)[j]? =some (y,(masksFrom ops.toList []).getD j 0):=by
  rw [List.reverse_reverse,List.getElem?_zip_eq_some];refine ⟨by simpa using hj,?_⟩;have hlt:j<(masksFrom ops.toList []).length:=by
   rw [h1,h2,Array.length_toList];rcases Nat.lt_or_ge j ops.size with h|h
   ·exact h
   ·rw [Array.getElem?_eq_none h] at hj;cases hj
  rw [List.getD_eq_getElem?_getD,List.getElem?_eq_getElem hlt];rfl
 exact (pairs_spec _ h j _ hget).2
end
end
section
section
variable {E:Env} {bm:Bool}
def lastW (L:Nat->Bool)(t:Nat):List DR->Option Value
 |[]=>none
 |r::rest=>if L r.i=true/\r.o.dst=some t then some r.v else lastW L t rest
noncomputable def TL (T0:Tr Value)(L:Nat->Bool):List DR->Tr Value
 |[]=>T0
 |r::rest=>bif L r.i then putT (TL T0 L rest) r.o.dst r.v else TL T0 L rest
theorem TL_get (T0:Tr Value)(L:Nat->Bool)(t:Nat):∀rs,(TL T0 L rs).get t=(T0.get t).map λv=>(lastW L t rs).getD v
 |[]=>by simp [TL,lastW]
 |r::rest=>by
  simp only [TL,lastW]
  cases hL:L r.i with
  |false=>simp [TL_get T0 L t rest]
  |true=>
   cases hd:r.o.dst with
   |none=>simp [putT,TL_get T0 L t rest]
   |some d=>
    simp only [cond_true,putT,Tr.get_upd,TL_get T0 L t rest]
    by_cases e:t=d
    ·subst e;simp;cases T0.get t<;>rfl
    ·rw [if_neg e,if_neg (by simp;exact λh=>e h.symm)]
theorem lastW_congr {L L':Nat->Bool}{t:Nat}:∀{rs:List DR},(∀r∈rs,r.o.dst=some t->L r.i=L' r.i)->lastW L t rs=lastW L' t rs
 |[],_=>rfl
 |r::rest,h=>by
  simp only [lastW]
  rw [lastW_congr λq hq=>h q (by simp [hq])]
  by_cases hd:r.o.dst=some t
  ·rw [h r (by simp) hd]
  ·rw [if_neg (by simp [hd]),if_neg (by simp [hd])]
structure Fact (bm:Bool)(E:Env)(sem:FSem)(ops:Array Oper)(base:Nat)(T0:Tr Value)(rs:List DR)(hs:List Heap)(r:DR):Prop where
 op:ops[r.i]? =some r.o
 temps:∀t,r.T.get t=(TL T0 (λx=>decide (x<r.i)) rs).get t
 want:wantedA ops r.T r.o=some r.w
 idle:r.w=false->r.v=undef
 does:r.w=true->∃H1 H2,hs[r.k]? =some H1/\resA sem (aopD bm E base r.i (ev E r.T) r.o.op H1) H1=some (r.v,H2)/\(isLoudD bm r.o.op=true->hs[r.k+1]? =some H2)
 cnt:r.k=countLoud bm (λq=>decide (q.i<r.i)) rs
structure PInv (bm:Bool)(E:Env)(sem:FSem)(ops:Array Oper)(base:Nat)(T0:Tr Value)(H0:Heap)(i:Nat)(T:Tr Value)(H:Heap)(k:Nat)(rs:List DR)(hs:List Heap):Prop where
 idx:rs.map DR.i=(List.range i).reverse
 facts:∀r∈rs,Fact bm E sem ops base T0 rs hs r
 temps:∀t,T.get t=(TL T0 (λ_=>true) rs).get t
 hlen:hs.length=k+1
 cur:hs[k]? =some H
 cnt:k=countLoud bm (λ_=>true) rs
 first:hs[0]? =some H0
theorem countLoud_congr {p q:DR->Bool}:∀{rs:List DR},(∀r∈rs,r.loud bm=true->p r=q r)->countLoud bm p rs=countLoud bm q rs
 |[],_=>rfl
 |r::rest,h=>by
  have ih:=countLoud_congr (rs:=rest) λx hx=>h x (List.mem_cons_of_mem _ hx)
  have:=h r (by simp)
  simp only [countLoud,ih]
  cases hl:r.loud bm with
  |false=>simp
  |true=>rw [this hl]
theorem countLoud_le {p q:DR->Bool}:∀{rs:List DR},(∀r∈rs,r.loud bm=true->p r=true->q r=true)->countLoud bm p rs<=countLoud bm q rs
 |[],_=>Nat.le_refl _
 |r::rest,h=>by
  have ih:=countLoud_le (rs:=rest) λx hx=>h x (List.mem_cons_of_mem _ hx)
  have:=h r (by simp)
  simp only [countLoud]
  cases hl:r.loud bm<;>cases hp:p r<;>cases hq:q r<;>simp_all<;>omega
theorem countLoud_add {p q:DR->Bool}:∀{rs:List DR},(∀r∈rs,r.loud bm=true->¬(p r=true/\q r=true))->countLoud bm p rs+countLoud bm q rs<=countLoud bm (λ_=>true) rs
 |[],_=>Nat.le_refl _
 |r::rest,h=>by
  have ih:=countLoud_add (rs:=rest) λx hx=>h x (List.mem_cons_of_mem _ hx)
  have:=h r (by simp)
  simp only [countLoud]
  cases hl:r.loud bm<;>cases hp:p r<;>cases hq:q r<;>simp_all<;>omega
theorem PInv.step {sem:FSem}{ops:Array Oper}{base:Nat}{T0:Tr Value}{H0:Heap}{i:Nat}{T:Tr Value}{H:Heap}{k:Nat}{rs:List DR}{hs:List Heap}(h:PInv bm E sem ops base T0 H0 i T H k rs hs)
  {o:Oper}(ho:ops[i]? =some o){b:Bool}(hw:wantedA ops T o=some b){v:Value}{H':Heap}{hs':List Heap}{k':Nat}
  (hidle:b=false->v=undef)(hdo:b=true->∃H2,resA sem (aopD bm E base i (ev E T) o.op H) H=some (v,H2)/\(isLoudD bm o.op=true->H2=H'))
  (hhs:(b=true/\isLoudD bm o.op=true/\hs'=hs++[H']/\k'=k+1)∨((b=false∨isLoudD bm o.op=false)/\hs'=hs/\k'=k/\H'=H)) :
  PInv bm E sem ops base T0 H0 (i+1) (putT T o.dst v) H' k' (⟨i,o,b,T,v,k⟩::rs) hs':=by
 have hmem:∀r∈rs,r.i<i:=by
  intro r hr
  have:r.i∈rs.map DR.i:=List.mem_map_of_mem hr
  rw [h.idx] at this;simpa using this
 have hpre:∀(n:Nat)(x:Heap),hs[n]? =some x->hs'[n]? =some x:=by
  intro n x hx;have hn:n<hs.length:=by
   rcases Nat.lt_or_ge n hs.length with h|h
   ·exact h
   ·rw [List.getElem?_eq_none h] at hx;cases hx
  rcases hhs with ⟨_,_,e,_⟩|⟨_,e,_⟩
  ·rw [e,List.getElem?_append_left hn];exact hx
  ·rw [e];exact hx
 have hTLold:∀(j:Nat),j<=i->∀t,(TL T0 (λx=>decide (x<j)) (⟨i,o,b,T,v,k⟩::rs)).get t=(TL T0 (λx=>decide (x<j)) rs).get t:=by
  intro j hj t;simp only [TL];rw [show decide (i<j)=false from by simp;omega];rfl
 have hcntold:∀(j:Nat),j<=i->countLoud bm (λq=>decide (q.i<j)) (⟨i,o,b,T,v,k⟩::rs)=countLoud bm (λq=>decide (q.i<j)) rs:=by
  intro j hj;simp only [countLoud];rw [show decide (i<j)=false from by simp;omega];simp
 refine ⟨?_,?_,?_,?_,?_,?_,?_⟩
 ·simp only [List.map_cons,h.idx,List.range_succ,List.reverse_append,List.reverse_cons,List.reverse_nil,List.nil_append,List.cons_append]
 ·intro r hr;rcases List.mem_cons.1 hr with rfl|hr
  ·refine ⟨ho,λt=>?_,hw,hidle,λhb=>?_,?_⟩
   ·rw [hTLold i (Nat.le_refl _) t,h.temps t];have e1:=TL_get T0 (λ_=>true) t rs;have e2:=TL_get T0 (λx=>decide (x<i)) t rs;rw [e1,e2,lastW_congr (L:=λ_=>true) (L':=λx=>decide (x<i)) λq hq _=>by simp [hmem q hq]]
   ·have⟨H2,q1,q2⟩:=hdo hb;refine ⟨H,H2,hpre _ _ h.cur,q1,λhl=>?_⟩;rw [q2 hl];rcases hhs with ⟨_,_,e,_⟩|⟨hor,_⟩
    ·rw [e,List.getElem?_append_right (by simp only;rw [h.hlen];exact Nat.le_refl _),h.hlen];simp
    ·rcases hor with hor|hor
     ·simp only at hb;rw [hor] at hb;cases hb
     ·rw [hor] at hl;cases hl
   ·rw [hcntold i (Nat.le_refl _)];rw [h.cnt];exact countLoud_congr λq hq _=>by simp [hmem q hq]
  ·have f:=h.facts r hr;have hri:=hmem r hr;refine ⟨f.op,λt=>?_,f.want,f.idle,λhb=>?_,?_⟩
   ·rw [hTLold r.i (by omega) t];exact f.temps t
   ·have⟨H1,H2,q1,q2,q3⟩:=f.does hb;exact ⟨H1,H2,hpre _ _ q1,q2,λhl=>hpre _ _ (q3 hl)⟩
   ·rw [hcntold r.i (by omega)];exact f.cnt
 ·intro t;simp only [TL,cond_true];cases hd:o.dst with
  |none=>exact h.temps t
  |some d=>simp only [putT,Tr.get_upd,h.temps t]
 ·rcases hhs with ⟨_,_,e,e2⟩|⟨_,e,e2,_⟩
  ·rw [e,e2];simp [h.hlen]
  ·rw [e,e2];exact h.hlen
 ·rcases hhs with ⟨_,_,e,e2⟩|⟨_,e,e2,e3⟩
  ·rw [e,e2,List.getElem?_append_right (by rw [h.hlen];exact Nat.le_refl _),h.hlen];simp
  ·rw [e,e2,e3];exact h.cur
 ·simp only [countLoud,DR.loud,Bool.and_true,<-h.cnt];rcases hhs with ⟨e1,e2,_,e3⟩|⟨hor,_,e3,_⟩
  ·rw [e1,e2,e3];rfl
  ·rw [e3];rcases hor with hor|hor<;>rw [hor]<;>simp
 ·exact hpre 0 H0 h.first
theorem pass1_ok {sem:FSem}{ops:Array Oper}{base:Nat}{T0:Tr Value}{H0:Heap}:∀(l:List Oper)(i:Nat)(T:Tr Value)(H:Heap)(k:Nat)(rs:List DR)(hs:List Heap)(rs':List DR)(T':Tr Value)(hs':List Heap)(H':Heap),
  pass1 bm E sem ops base l i T H k rs hs=some (rs',T',hs',H')->(∀j,l[j]? =ops[i+j]?)->PInv bm E sem ops base T0 H0 i T H k rs hs->∃k',PInv bm E sem ops base T0 H0 (i+l.length) T' H' k' rs' hs'
 |[],i,T,H,k,rs,hs,rs',T',hs',H',h,_,hI=>by
  simp only [pass1,Option.some.injEq,Prod.mk.injEq] at h;obtain ⟨rfl,rfl,rfl,rfl⟩:=h;exact ⟨k,hI⟩
 |o::l,i,T,H,k,rs,hs,rs',T',hs',H',h,hl,hI=>by
  have ho:ops[i]? =some o:=by have:=hl 0;simpa using this.symm
  have hl':∀j,l[j]? =ops[i+1+j]? :=λj=>by have:=hl (j+1);rw [show i+1+j=i+(j+1) from by omega];simpa using this
  have hlen:i+(o::l).length=i+1+l.length:=by simp;omega
  simp only [pass1] at h;rw [hlen];cases hw:wantedA ops T o with
  |none=>rw [hw] at h;cases h
  |some b=>
   rw [hw] at h;cases b with
   |false=>exact pass1_ok l _ _ _ _ _ _ _ _ _ _ h hl' (hI.step ho hw (λ_=>rfl) (λe=>by cases e) (.inr ⟨.inl rfl,rfl,rfl,rfl⟩))
   |true=>
    simp only at h;cases hr:resA sem (aopD bm E base i (ev E T) o.op H) H with
    |none=>rw [hr] at h;cases h
    |some p=>
     have⟨v,H2⟩:=p;rw [hr] at h;simp only at h;cases hld:isLoudD bm o.op with
     |true=>
      rw [hld] at h;exact pass1_ok l _ _ _ _ _ _ _ _ _ _ h hl' (hI.step ho hw (λe=>by cases e) (λ_=>⟨H2,hr,λ_=>rfl⟩) (.inl ⟨rfl,hld,rfl,rfl⟩))
     |false=>
      rw [hld] at h;exact pass1_ok l _ _ _ _ _ _ _ _ _ _ h hl' (hI.step ho hw (λe=>by cases e) (λ_=>⟨H2,hr,λe=>by rw [hld] at e;cases e⟩) (.inr ⟨.inr hld,rfl,rfl,rfl⟩))
def Lf (listed:Array Bool)(j:Nat):Bool:=listed.getD j false
theorem Lf_set {listed:Array Bool}{i:Nat}(hi:i<listed.size)(j:Nat):Lf (listed.setIfInBounds i true) j=(Lf listed j||decide (j=i)):=by
 unfold Lf;rw [Array.getD_eq_getD_getElem?,Array.getD_eq_getD_getElem?,Array.getElem?_setIfInBounds];by_cases e:i=j
 ·subst e;simp [hi]
 ·rw [if_neg e];simp [show ¬j=i from λh=>e h.symm]
theorem ready_spec {ops:Array Oper}{listed:Array Bool}{i:Nat}(h:i∈Region.ready .any ops listed):∃o,ops[i]? =some o/\(i<listed.size->Lf listed i=false)/\i<ops.size/\∀e∈o.after.toList,binding e=true->Lf listed e.on=true:=by
 unfold Region.ready at h;simp only [List.mem_filter,List.mem_range,Bool.and_eq_true] at h;have⟨hi,h1,h2⟩:=h;rw [Array.getElem?_eq_getElem hi] at h2⊢;refine ⟨ops[i],rfl,λhl=>?_,hi,λe he hb=>?_⟩
 ·unfold Lf;rw [Array.getD_eq_getD_getElem?,Array.getElem?_eq_getElem hl] at *;simpa using h1
 ·simp only [Option.map_some,Option.getD_some] at h2;rw [<-Array.all_toList,List.all_eq_true] at h2
  have:=h2 e he
  simp only [Bool.or_eq_true,Bool.not_eq_true'] at this;rcases this with h|h
  ·unfold binding at hb;rw [h] at hb;cases hb
  ·exact h
theorem ready_of {ops:Array Oper}{listed:Array Bool}{i:Nat}{o:Oper}(ho:ops[i]? =some o)(hs:listed.size=ops.size)(hl:Lf listed i=false)(he:∀e∈o.after.toList,binding e=true->Lf listed e.on=true) :
  i∈Region.ready .any ops listed:=by
 have hi:i<ops.size:=by
  rcases Nat.lt_or_ge i ops.size with h|h
  ·exact h
  ·rw [Array.getElem?_eq_none h] at ho;cases ho
 unfold Region.ready;simp only [List.mem_filter,List.mem_range,Bool.and_eq_true];refine ⟨hi,?_,?_⟩
 ·unfold Lf at hl;rw [Array.getD_eq_getD_getElem?,Array.getElem?_eq_getElem (by omega)] at *;simpa using hl
 ·rw [ho];simp only [Option.map_some,Option.getD_some];rw [<-Array.all_toList,List.all_eq_true];intro e hee;cases hb:Region.binds .any e with
  |false=>rfl
  |true=>exact he e hee hb
theorem quiet_spec {base:Nat}{ss:List Bool}{ms:List Nat}{all:List DR}{hs:List Heap}{m:Nat}:∀{l:List DR},quietOk bm E base ss ms all hs m l=true->∀r∈l,r.w=true->isLoudD bm r.o.op=false->isPure r.o.op=false->(ss.getD r.i false&& !isBirth bm r.o.op)=false->
  ∀k,countLoud bm (λq=>(ms.getD r.i 0).testBit q.i) all<=k->k<=m - countLoud bm (λq=>(ms.getD q.i 0).testBit r.i) all->
   ∃H,hs[k]? =some H/\looksAt bm E base r H=true
 |[],_,r,hr,_,_,_,_,_,_,_=>by simp at hr
 |q::l,h,r,hr,hw,hl,hp,hss,k,h1,h2=>by
  simp only [quietOk,Bool.and_eq_true] at h;rcases List.mem_cons.1 hr with rfl|hr
  ·have h3:=h.1;simp only [hw,hl,hp,hss,Bool.not_true,Bool.false_or,Bool.or_false] at h3;have key:∀(n k0:Nat),checkAt bm E base r hs k0 n=true->k0<=k->k<k0+n->∃H,hs[k]? =some H/\looksAt bm E base r H=true:=by
    intro n
    induction n with
    |zero=>intro k0 _ a b;omega
    |succ n ih=>
     intro k0 hc a b;simp only [checkAt,Bool.and_eq_true] at hc;by_cases e:k0=k
     ·subst e;have h5:=hc.1;split at h5
      ·rename_i H hH;exact ⟨H,hH,h5⟩
      ·cases h5
     ·exact ih (k0+1) hc.2 (by omega) (by omega)
   exact key _ _ h3 h1 (by omega)
  ·exact quiet_spec h.2 r hr hw hl hp hss k h1 h2
theorem stricts_spec {ops:Array Oper}{ms:List Nat}{j:Nat}(h:(stricts bm ops ms).getD j false=true){i:Nat}{o:Oper}(hi:ops[i]? =some o)(hne:i≠j)(hl:isLoudD bm o.op=true) :
  (ms.getD j 0).testBit i=true∨(ms.getD i 0).testBit j=true:=by
 unfold stricts at h;rw [List.getD_eq_getElem?_getD,List.getElem?_map] at h;cases hr:(List.range ops.size)[j]? with
 |none=>rw [hr] at h;cases h
 |some k=>
  rw [hr] at h;have hk:k=j:=by
   rw [List.getElem?_range (by
    rcases Nat.lt_or_ge j ops.size with h'|h'
    ·exact h'
    ·rw [List.getElem?_eq_none (by simpa using h')] at hr;cases hr)] at hr
   injection hr with hr;exact hr.symm
  subst hk;simp only [Option.map_some,Option.getD_some,strictAt,List.all_eq_true] at h;have hm:(o,i)∈ops.toList.zipIdx:=by
   rw [List.mem_zipIdx_iff_getElem?];simpa using hi
  have:=h _ hm
  simp only [hl,Bool.not_true,Bool.or_false,Bool.or_eq_true] at this;rcases this with (h1|h1)|h1
  ·exact absurd (Nat.eq_of_beq_eq_true h1) hne
  ·exact .inl h1
  ·exact .inr h1
theorem looks_value {base:Nat}{r:DR}{H:Heap}(hn:isBirth bm r.o.op=false)(h:looksAt bm E base r H=true):∃v H2,aop E (ev E r.T) r.o.op H=some (.val v H2)/\sameN 8 r.v v=true:=by
 unfold looksAt at h;split at h
 ·rename_i ty hop;rw [hop] at hn;simp [isBirth] at hn
 ·rw [hn] at h;simp only [cond_false] at h;split at h
  ·rename_i v H2 hv;exact ⟨v,H2,hv,h⟩
  ·cases h
theorem sameObj_eq {o o':Obj}(h:sameObj o o'=true):o=o':=by
 unfold sameObj at h;split at h
 ·simp only [Bool.and_eq_true] at h;rw [Nat.eq_of_beq_eq_true h.1,sameL_eq 8 (sameN_eq 8) _ _ h.2]
 ·rfl
 ·cases h
theorem heap1_get0 (o:Obj):(heap1.new o).get 0=some o:=by
 unfold Heap.get Heap.new heap1;rw [Tr.get_put,if_pos rfl]
theorem born_alloc {e:Operand->Value}{ty:TypeId}{z:Value}{vs:List Value}(hz:zeroV E ty=some z)(hc:cellsOf z=some vs):bornA E e (.alloc ty)=some (.pointer (some ⟨0,0,none⟩),.cells true 0 vs):=by
 simp only [bornA,aop,hz,Option.bind_some,newVal,hc,Option.map_some,rvh,heap1_get0];rfl
theorem looks_birth {base:Nat}{r:DR}{H:Heap}(hb:isBirth bm r.o.op=true)(h:looksAt bm E base r H=true) :
  ∃v o,bornA E (ev E r.T) r.o.op=some (v,o)/\H.get (base+r.i)=some o:=by
 unfold looksAt at h;split at h
 ·rename_i ty hop;cases hz:zeroV E ty with
  |none=>rw [hz] at h;simp at h
  |some z=>
   rw [hz] at h;simp only [Option.bind_some] at h;cases hc:cellsOf z with
   |none=>rw [hc] at h;simp at h
   |some vs=>
    rw [hc] at h;split at h
    ·rename_i a b c e1 e2;injection e1 with e1;subst e1
     have e3:=sameL_eq 8 (sameN_eq 8) _ _ h;subst e3;rw [hop];exact ⟨_,_,born_alloc hz hc,e2⟩
    ·cases h
 ·rw [hb] at h;simp only [cond_true] at h;split at h
  ·rename_i p o h1 h2;rw [<-sameObj_eq h] at h2;exact ⟨p.1,p.2,h1,h2⟩
  ·cases h
theorem preA_get (base:Nat):∀(l:List Oper)(i:Nat)(os:List Obj)(t t':Tr Obj),preA bm E base l i os t=some t'->∀j,j<base->t'.get j=t.get j
 |[],i,os,t,t',h,j,hj=>by simp only [preA,Option.some.injEq] at h;rw [h]
 |o::l,i,os,t,t',h,j,hj=>by
  unfold preA at h
  split at h
  ·split at h
   ·rw [preA_get base l _ _ _ _ h j hj,Tr.get_put,if_neg (by omega)]
   ·cases h
  ·cases hb:isBirth bm o.op with
   |false=>rw [hb] at h;exact preA_get base l _ _ _ _ h j hj
   |true=>
    rw [hb] at h
    simp only [cond_true] at h
    cases os with
    |nil=>cases h
    |cons ob os=>rw [preA_get base l _ _ _ _ h j hj,Tr.get_put,if_neg (by omega)]
theorem HRel.pre {B0:Nat}{μ:Inj}{H:Heap}{w:World}(h:HRel E B0 μ H w){t:Tr Obj}(n:Nat)(hg:∀j,j<H.next->t.get j=H.get j):HRel E B0 μ ⟨t,H.next+n⟩ w:=by
 have hlt:∀i L,μ i=some L->i<H.next:=by
  intro i L hL;rcases Nat.lt_or_ge i H.next with h1|h1
  ·exact h1
  ·rw [h.fresh i h1] at hL;cases hL
 refine ⟨λi hi=>h.fresh i (by simp only at hi;omega),h.glob,?_,?_,h.base⟩
 ·intro i o ho ⟨L,hL⟩
  have:t.get i=some o:=ho
  rw [hg i (hlt i L hL)] at this;exact h.obj i o this ⟨L,hL⟩
 ·intro i j oi oj Li Lj hi hj wi wj mi mj hb;have h1:t.get i=some oi:=hi;have h2:t.get j=some oj:=hj;rw [hg i (hlt i Li mi)] at h1;rw [hg j (hlt j Lj mj)] at h2;exact h.apart i j oi oj Li Lj h1 h2 wi wj mi mj hb
theorem HRel.takeCells {B0:Nat}{μ:Inj}{H:Heap}{w:World}(hH:HRel E B0 μ H w){d z:Nat}{c:List Value}(hd:μ d=none)(hdn:d<H.next)(hg:H.get d=some (.cells true z c))(room:Nat)(C:Array Value)(el:TypeId)
  (hc:cellsRel μ c C 0)(h1:c.length<=room)(h2:room<=C.size)(hone:c.all one=true) :
  HRel E B0 (μ.add d ⟨w.heap.size,0,room,z⟩) H (w.alloc (.cells C el))/\Below B0 w (w.alloc (.cells C el)):=by
 refine ⟨(hH.alloc _).adoptAt d _ (.cells true z c) hd (λj=>?_) (Nat.le_refl _) hdn ?_ ?_,(Below.refl _ _).alloc hH.base _⟩
 ·split
  ·subst_vars;exact hg
  ·rfl
 ·intro i oi Li hi hw hm;have⟨K,k1,k3⟩:=(hH.obj i oi hi ⟨_,hm⟩).held_loc (hw.elim (λh=>h.2) λh=>held_of_own h.1);rw [hm] at k1;injection k1 with k1
  subst k1;exact λe=>by simp only at e;omega
 ·exact ⟨_,C,el,Inj.add_self _ _ _,hH.base,rfl,heap_alloc_self _ _,h1,by simpa using h2,hc.mono (Inj.le_add _ hd),hone⟩
theorem HRel.takeMap {B0:Nat}{μ:Inj}{H:Heap}{w:World}(hH:HRel E B0 μ H w){d:Nat}(hd:μ d=none)(hdn:d<H.next)(hg:H.get d=some (.map [] 0)) :
  HRel E B0 (μ.add d ⟨w.heap.size,0,0,0⟩) H (w.alloc (.map #[] 0))/\Below B0 w (w.alloc (.map #[] 0)):=by
 refine ⟨(hH.alloc _).adoptAt d _ (.map [] 0) hd (λj=>?_) (Nat.le_refl _) hdn ?_ ?_,(Below.refl _ _).alloc hH.base _⟩
 ·split
  ·subst_vars;exact hg
  ·rfl
 ·intro i oi Li hi hw hm;have⟨K,k1,k3⟩:=(hH.obj i oi hi ⟨_,hm⟩).held_loc (hw.elim (λh=>h.2) λh=>held_of_own h.1);rw [hm] at k1;injection k1 with k1
  subst k1;exact λe=>by simp only at e;omega
 ·exact ⟨_, #[],Inj.add_self _ _ _,hH.base,heap_alloc_self _ _,.nil⟩
theorem born_of {e:Operand->Value}{op:Op}{v:Value}{o:Obj}(h:bornA E e op=some (v,o)):∃H,aop E e op heap1=some (.val v H)/\H.get 0=some o:=by
 unfold bornA at h;split at h
 ·rename_i v' H h1;cases hg:H.get 0 with
  |none=>rw [hg] at h;cases h
  |some o'=>
   rw [hg] at h;simp only [Option.map_some,Option.some.injEq,Prod.mk.injEq] at h;obtain ⟨rfl,rfl⟩:=h;exact ⟨H,h1,hg⟩
 ·cases h
theorem RowMade.at {B0:Nat}{μ:Inj}{H:Heap}{w:World}{s:Sem Value}{v:Value}{o:Obj}{H1:Heap}(hm:RowMade E μ w heap1 s v H1)(ho:H1.get 0=some o)(hH:HRel E B0 μ H w){d:Nat}(hd:μ d=none)(hdn:d<H.next)(hg:H.get d=some o) :
  ∃L V w',s.run E.prog w=.ok V w'/\VRel (μ.add d L) (atBlk d v) V/\HRel E B0 (μ.add d L) H w'/\Below B0 w w':=by
 have⟨es,len,c,C,el,cap,h1,h2,h3,h4,h5,h6,h7⟩:=hm;have ev:v=.slice (some ⟨heap1.next,0,none⟩) len 0:=(Prod.mk.inj h1).1;have eH:H1=heap1.new (.cells true es c):=(Prod.mk.inj h1).2;rw [eH,heap1_get0] at ho;injection ho with ho
 subst ho;have⟨q1,q2⟩:=hH.takeCells hd hdn hg C.size C el h3 h4 (Nat.le_refl _) h5;refine ⟨_,_,_,h2,?_,q1,q2⟩;rw [ev];exact .slice (L:=⟨w.heap.size,0,C.size,es⟩) (Inj.add_self _ _ _) h6 (.inr (by simp only [Nat.zero_add];exact h7.symm))
theorem newVal_at {B0:Nat}{μ:Inj}{H:Heap}{w:World}(hH:HRel E B0 μ H w){v V p:Value}{H1:Heap}{o:Obj}(hv:VRel μ v V)(h:newVal heap1 v=some (p,H1))(ho:H1.get 0=some o){d:Nat}(hd:μ d=none)(hdn:d<H.next)(hg:H.get d=some o)(t:TypeId) :
  ∃L,(newVar t V).run E.prog w=.ok ⟨w.heap.size,0,none⟩ (w.alloc (.cells V.cells t))/\VRel (μ.add d L) (atBlk d p) (.pointer (some ⟨w.heap.size,0,none⟩))/\HRel E B0 (μ.add d L) H (w.alloc (.cells V.cells t))/\Below B0 w (w.alloc (.cells V.cells t)):=by
 unfold newVal at h;cases hc:cellsOf v with
 |none=>rw [hc] at h;cases h
 |some vs=>
  rw [hc] at h;simp only [Option.map_some,Option.some.injEq,Prod.mk.injEq] at h;obtain ⟨rfl,rfl⟩:=h;rw [heap1_get0] at ho;injection ho with ho
  subst ho;have hr:=cellsOf_rel hc hv;have⟨k2,k3⟩:=hH.takeCells hd hdn hg V.cells.size V.cells t (cellsRel_of_rels hr) (by rw [hr.length];simp) (Nat.le_refl _) (cellsOf_one hc);exact ⟨⟨w.heap.size,0,V.cells.size,0⟩,by simp [newVar,newRow],.ptr (L:=⟨w.heap.size,0,V.cells.size,0⟩) (Inj.add_self _ _ _),k2,k3⟩
theorem bornD_ok (hE:E.Ok){B0:Nat}{μ:Inj}{H:Heap}{w:World}(hH:HRel E B0 μ H w){o:Oper}(hb:isBirth bm o.op=true){e e':Operand->Value}(he:∀x,VRel μ (e x) (e' x)){v:Value}{ob:Obj}(h:bornA E e o.op=some (v,ob))
  {d:Nat}(hd:μ d=none)(hdn:d<H.next)(hg:H.get d=some ob) :
  ∃L V w',(execOp e' o).run E.prog w=.ok (.value V) w'/\VRel (μ.add d L) (atBlk d v) V/\HRel E B0 (μ.add d L) H w'/\Below B0 w w':=by
 have⟨H1,h1,h2⟩:=born_of h;have⟨dst,op,ty',pos,aft,grd⟩:=o;simp only at hb h1⊢;cases op
 case alloc t=>
  simp only [aop] at h1;cases hz:zeroV E t with
  |none=>rw [hz] at h1;cases h1
  |some z=>
   rw [hz] at h1;have⟨u,H2,e1,e2⟩:=rvh_some h1;injection e2 with e2 e3
   subst e2 e3;have⟨hr,hp⟩:=run_zero hE hz w;have⟨L,q1,q2,q3,q4⟩:=newVal_at hH (plain_rel hp) e1 h2 hd hdn hg t;exact ⟨L,_,_,by simp [execOp,Instr.alloc,hr,q1],q2,q3,q4⟩
 case box t x=>
  simp only [aop] at h1;have⟨u,H2,e1,e2⟩:=rvh_some h1;injection e2 with e2 e3
  subst e2 e3;have⟨L,q1,q2,q3,q4⟩:=newVal_at hH (he x) e1 h2 hd hdn hg t;exact ⟨L,_,_,by simp [execOp,Instr.box,q1],q2,q3,q4⟩
 case buildSlice t len parts=>
  simp only [aop] at h1;have⟨u,H2,e1,e2⟩:=rvh_some h1;injection e2 with e2 e3
  subst e2 e3;have⟨L,V,w',q1,q2,q3,q4⟩:=(buildSlice_run hE w he e1).at h2 hH hd hdn hg;exact ⟨L,V,w',by simp [execOp,q1],q2,q3,q4⟩
 case makeSlice t l c=>
  simp only [aop] at h1;have⟨u,H2,e1,e2⟩:=rvh_some h1;injection e2 with e2 e3
  subst e2 e3;have⟨L,V,w',q1,q2,q3,q4⟩:=(makeSlice_run hE w (he l) (he c) e1).at h2 hH hd hdn hg;exact ⟨L,V,w',by simp [execOp,q1],q2,q3,q4⟩
 case makeMap t rr=>
  have key:v=.map (some 0)/\ob=.map [] 0/\(execOp e' ⟨dst,.makeMap t rr,ty',pos,aft,grd⟩).run E.prog w=.ok (.value (.map (some w.heap.size))) (w.alloc (.map #[] 0)):=by
   cases rr with
   |none=>
    simp only [aop,Option.some.injEq,Res.val.injEq] at h1;obtain ⟨rfl,rfl⟩:=h1;rw [heap1_get0] at h2;exact ⟨rfl,(Option.some.inj h2).symm,by simp [execOp,Instr.makeMap]⟩
   |some x=>
    simp only [aop] at h1;split at h1
    ·rename_i kt et k n hu hx;simp only [Option.some.injEq,Res.val.injEq] at h1;obtain ⟨rfl,rfl⟩:=h1;rw [heap1_get0] at h2;have h3:=he x;rw [hx] at h3;exact ⟨rfl,(Option.some.inj h2).symm,by simp [execOp,Instr.makeMap,run_und hE hu,h3.int_eq,asInt,asIntOf]⟩
    ·cases h1
  obtain ⟨rfl,rfl,hr⟩:=key;have⟨q1,q2⟩:=hH.takeMap hd hdn hg;exact ⟨_,_,_,hr,.map (L:=⟨w.heap.size,0,0,0⟩) (Inj.add_self _ _ _),q1,q2⟩
 all_goals (simp [isBirth] at hb)
theorem wantedA_congr {ops:Array Oper}{T T':Tr Value}{o:Oper}(h:∀t,t∈o.looksAt ops->T.get t=T'.get t):wantedA ops T o=wantedA ops T' o:=by
 unfold wantedA;cases hg:o.guard with
 |none=>rfl
 |some p=>
  have⟨j,want⟩:=p;simp only;cases hd:(ops[j]?).bind (·.dst) with
  |none=>rfl
  |some d=>
   simp only;rw [h d (by simp [Oper.looksAt,hg,hd])]
theorem ev_congr {ops:Array Oper}{T T':Tr Value}{o:Oper}(h:∀t,t∈o.looksAt ops->T.get t=T'.get t):∀x∈o.op.operands,ev E T x=ev E T' x:=by
 intro x hx;cases x with
 |tmp t=>
  simp only [ev];rw [h t (by simp only [Oper.looksAt,List.mem_append,List.mem_filterMap];left;exact ⟨.tmp t,by simpa using hx,rfl⟩)]
 |_=>rfl
theorem TRel_congr {μ:Inj}{T T':Tr Value}{a:Act}(h:∀t,T.get t=T'.get t)(hT:TRel μ T a):TRel μ T' a:=⟨λt=>by rw [<-h t];exact hT.1 t,hT.2⟩
theorem countLoud_succ {p q:DR->Bool}{i:Nat}:∀{rs:List DR}{n:Nat},rs.map DR.i=(List.range n).reverse->i<n->(∀r∈rs,q r=(p r||decide (r.i=i)))->(∀r∈rs,r.i=i->p r=false)->
  ∀r∈rs,r.i=i->countLoud bm q rs=countLoud bm p rs+(if r.loud bm=true then 1 else 0)
 |[],n,h,hi,_,_,r,hr,_=>by simp at hr
 |x::rest,n,h,hi,hq,hp,r,hr,hri=>by
  cases n with
  |zero=>omega
  |succ n=>
   simp only [List.map_cons,List.range_succ,List.reverse_append,List.reverse_cons,List.reverse_nil,List.nil_append,List.cons_append,List.cons.injEq] at h;have⟨hx,hrest⟩:=h;have hmem:∀y∈rest,y.i<n:=by
    intro y hy
    have:y.i∈rest.map DR.i:=List.mem_map_of_mem hy
    rw [hrest] at this;simpa using this
   simp only [countLoud];by_cases e:n=i
   ·subst e;have hrx:r=x:=by
     rcases List.mem_cons.1 hr with h|h
     ·exact h
     ·have:=hmem r h;omega
    subst hrx;have e1:countLoud bm q rest=countLoud bm p rest:=countLoud_congr λy hy _=>by
     rw [hq y (by simp [hy])]
     have:=hmem y hy
     simp;omega
    rw [e1,hq r (by simp),hp r (by simp) hri,hri];cases r.loud bm<;>simp
   ·have hr':r∈rest:=by
     rcases List.mem_cons.1 hr with h|h
     ·subst h;omega
     ·exact h
    have ih:=countLoud_succ (p:=p) (q:=q) hrest (by omega) (λy hy=>hq y (by simp [hy])) (λy hy=>hp y (by simp [hy])) r hr' hri;have e2:q x=p x:=by rw [hq x (by simp)];simp;omega
    rw [ih,e2];cases x.loud bm<;>cases p x<;>simp<;>omega
theorem lastW_hit {L:Nat->Bool}{d:Nat}:∀{rs:List DR}{n:Nat},rs.map DR.i=(List.range n).reverse->∀r∈rs,L r.i=true->r.o.dst=some d->(∀q∈rs,r.i<q.i->q.o.dst=some d->L q.i=false)->lastW L d rs=some r.v
 |[],_,_,r,hr,_,_,_=>by simp at hr
 |x::rest,n,h,r,hr,h1,h2,h3=>by
  cases n with
  |zero=>simp at h
  |succ n=>
   simp only [List.map_cons,List.range_succ,List.reverse_append,List.reverse_cons,List.reverse_nil,List.nil_append,List.cons_append,List.cons.injEq] at h;have⟨hx,hrest⟩:=h;simp only [lastW];rcases List.mem_cons.1 hr with rfl|hr'
   ·rw [if_pos ⟨h1,h2⟩]
   ·have hlt:r.i<n:=by
     have:r.i∈rest.map DR.i:=List.mem_map_of_mem hr'
     rw [hrest] at this;simpa using this
    rw [if_neg]
    ·exact lastW_hit hrest r hr' h1 h2 λq hq=>h3 q (List.mem_cons_of_mem _ hq)
    ·intro ⟨a,b⟩
     have:=h3 x (by simp) (by omega) b
     rw [this] at a;cases a
theorem mask_lt {ops:Array Oper}(hst:staticOk bm ops=true)(j i:Nat)(h:((masksFrom ops.toList []).getD j 0).testBit i=true):i<j:=by
 induction j using Nat.strongRecOn generalizing i with
 |_ j ih=>
  cases ho:ops[j]? with
  |none=>
   have:(masksFrom ops.toList [])[j]? =none:=by
    have⟨m,h1,h2⟩:=masksFrom_append ops.toList [];rw [h1,List.nil_append,List.getElem?_eq_none];rw [h2,Array.length_toList];rcases Nat.lt_or_ge j ops.size with h|h
    ·rw [Array.getElem?_eq_getElem h] at ho;cases ho
    ·exact h
   rw [List.getD_eq_getElem?_getD,this] at h;simp at h
  |some o=>
   have hg:=masksFrom_get ops.toList [] j o (by simpa using ho);simp only [List.length_nil,Nat.zero_add] at hg;rw [List.getD_eq_getElem?_getD,hg] at h;simp only [Option.getD_some] at h;have⟨e,he,hb,hor⟩:=maskOf_bit _ _ _ h;have hlt:=static_edges hst ho e he hb;rcases hor with rfl|hbit
   ·exact hlt
   ·rw [List.getD_eq_getElem?_getD,List.getElem?_take] at hbit;split at hbit
    ·have:=ih e.on hlt i (by rw [List.getD_eq_getElem?_getD];exact hbit)
     omega
    ·omega
theorem runDrawB_ok (hE:E.Ok){B0:Nat}{sem:FSem}(hF:FOK E B0 sem){ops:Array Oper}(hst:staticOk bm ops=true){os:List Obj}{s s':St}{μ:Inj}{a:Act}{w:World}(h:runDrawB bm E sem ops os s=some s')(hs:SRel E B0 μ s a w)
  {Q:Exit->Act->World->Prop}(hQ:∀μ' a' w',Grow s.H μ s'.H μ'->SRel E B0 μ' s' a' w'->Below B0 w w'->Q .normal a' w') :
  wpAny E.prog .any ops Q ops.size (Array.replicate ops.size false) a w:=by
 unfold runDrawB at h
 cases hpa:preA bm E s.H.next ops.toList 0 os s.H.tr with
 |none=>rw [hpa] at h;cases h
 |some tr=>
 rw [hpa] at h
 simp only at h
 cases hp1:pass1 bm E sem ops s.H.next ops.toList 0 s.T ⟨tr,s.H.next+ops.size⟩ 0 [] [⟨tr,s.H.next+ops.size⟩] with
 |none=>rw [hp1] at h;cases h
 |some out=>
 have⟨rs,T',hsl,H'⟩:=out
 rw [hp1] at h
 simp only at h
 cases hq:quietOk bm E s.H.next (stricts bm ops (masksFrom ops.toList [])) (masksFrom ops.toList []) rs hsl (hsl.length - 1) rs with
 |false=>rw [hq] at h;cases h
 |true=>
 rw [hq] at h
 simp only [cond_true,Option.some.injEq] at h
 subst h
 have⟨m,hI⟩:=pass1_ok (T0:=s.T) (H0:=⟨tr,s.H.next+ops.size⟩) ops.toList 0 s.T _ 0 [] _ rs T' hsl H' hp1 (λj=>by simp) ⟨rfl,by simp,λt=>rfl,rfl,rfl,rfl,rfl⟩
 simp only [Nat.zero_add,Array.length_toList] at hI
 have hmlen:hsl.length - 1=m:=by rw [hI.hlen];omega
 rw [hmlen] at hq
 have hmem:∀r∈rs,r.i<ops.size:=by
  intro r hr
  have:r.i∈rs.map DR.i:=List.mem_map_of_mem hr
  rw [hI.idx] at this
  simpa using this
 have hrec:∀i,i<ops.size->∃r∈rs,r.i=i:=by
  intro i hi
  have:i∈rs.map DR.i:=by rw [hI.idx];simpa using hi
  have⟨r,hr,e⟩:=List.mem_map.1 this
  exact ⟨r,hr,e⟩
 have finish:∀(listed:Array Bool)(a1:Act)(w1:World)(μ1:Inj)(Hc:Heap),(∀j,j<ops.size->Lf listed j=true)->Grow s.H μ Hc μ1->TRel μ1 (TL s.T (Lf listed) rs) a1->
   hsl[countLoud bm (λq=>Lf listed q.i) rs]? =some Hc->HRel E B0 μ1 Hc w1->Below B0 w w1->Q .normal a1 w1:=by
  intro listed a1 w1 μ1 Hc hall hle hT hHc hH hB
  have hc:countLoud bm (λq=>Lf listed q.i) rs=m:=by
   rw [hI.cnt]
   exact countLoud_congr λr hr _=>hall _ (hmem r hr)
  rw [hc,hI.cur] at hHc
  injection hHc with hHc
  subst hHc
  refine hQ μ1 a1 w1 hle ⟨TRel_congr (λt=>?_) hT,hH⟩ hB
  show (TL s.T (Lf listed) rs).get t=T'.get t
  rw [hI.temps t,TL_get,TL_get,lastW_congr (L':=λ_=>true) λr hr _=>hall _ (hmem r hr)]
 have main:∀(fuel:Nat)(listed:Array Bool)(a1:Act)(w1:World)(μ1:Inj)(Hc:Heap),listed.size=ops.size->listed.toList.count false<=fuel->Closed ops (Lf listed)->Grow s.H μ Hc μ1->s.H.next+ops.size<=Hc.next->(∀j o,ops[j]? =some o->isBirth bm o.op=true->Lf listed j=false->μ1 (s.H.next+j)=none)->
   TRel μ1 (TL s.T (Lf listed) rs) a1->hsl[countLoud bm (λq=>Lf listed q.i) rs]? =some Hc->HRel E B0 μ1 Hc w1->Below B0 w w1->wpAny E.prog .any ops Q fuel listed a1 w1:=by
  intro fuel
  induction fuel with
  |zero=>
   intro listed a1 w1 μ1 Hc hsz hfu hcl hle hnx hun hT hHc hH hB
   have hall:∀j,j<ops.size->Lf listed j=true:=by
    intro j hj
    have h0:listed.toList.count false=0:=by omega
    rw [List.count_eq_zero] at h0
    unfold Lf
    rw [Array.getD_eq_getD_getElem?,Array.getElem?_eq_getElem (by omega)]
    simp only [Option.getD_some]
    cases hb:listed[j]'(by omega) with
    |true=>rfl
    |false=>exact absurd (by rw [<-hb];exact Array.getElem_mem_toList (by omega)) h0
   have hfin:=finish listed a1 w1 μ1 Hc hall hle hT hHc hH hB
   refine ⟨?_,hfin⟩
   cases hr:Region.ready .any ops listed with
   |nil=>rfl
   |cons i rest=>
    have hi:i∈Region.ready .any ops listed:=by rw [hr];simp
    have⟨o,_,h2,h3,_⟩:=ready_spec hi
    have:=h2 (by omega)
    rw [hall i h3] at this
    cases this
  |succ fuel ih=>
   intro listed a1 w1 μ1 Hc hsz hfu hcl hle hnx hun hT hHc hH hB
   refine ⟨λhnil=>?_,λi hi=>?_⟩
   ·have hall:∀j,j<ops.size->Lf listed j=true:=by
     intro j
     induction j using Nat.strongRecOn with
     |_ j ihj=>
      intro hj
      cases hL:Lf listed j with
      |true=>rfl
      |false=>
       have hmemr:=ready_of (Array.getElem?_eq_getElem hj) hsz hL (λe he hb=>by
        have hlt:=static_edges hst (Array.getElem?_eq_getElem hj) e he hb
        exact ihj e.on hlt (by omega))
       rw [hnil] at hmemr
       simp at hmemr
    exact finish listed a1 w1 μ1 Hc hall hle hT hHc hH hB
   ·have⟨o,ho,hLi,hio,hedges⟩:=ready_spec hi
    have hLi:=hLi (by omega)
    have⟨r,hr,hri⟩:=hrec i hio
    subst hri
    have f:=hI.facts r hr
    have hoo:r.o=o:=by have:=f.op;rw [ho] at this;injection this with this;exact this.symm
    subst hoo
    have hbnd:r.i<listed.size:=by omega
    have hL':=Lf_set hbnd
    have hcl':Closed ops (Lf (listed.setIfInBounds r.i true)):=by
     intro j o' hj ho' e he hb
     rw [hL'] at hj⊢
     simp only [Bool.or_eq_true,decide_eq_true_eq] at hj⊢
     rcases hj with hj|rfl
     ·exact .inl (hcl j o' hj ho' e he hb)
     ·rw [ho] at ho';injection ho' with ho';subst ho'
      exact .inl (hedges e he hb)
    have hself:Lf (listed.setIfInBounds r.i true) r.i=true:=by rw [hL'];simp
    have hpast:∀x,((masksFrom ops.toList []).getD r.i 0).testBit x=true->x≠r.i->Lf listed x=true:=by
     intro x hx hne
     have:=closed_mask hcl' r.i r.o ho hself x hx
     rw [hL'] at this
     simpa [hne] using this
    have hnext:∀q∈rs,((masksFrom ops.toList []).getD q.i 0).testBit r.i=true->Lf listed q.i=false:=by
     intro q hq hb
     cases hLq:Lf listed q.i with
     |false=>rfl
     |true=>
      have:=closed_mask hcl q.i q.o (hI.facts q hq).op hLq r.i hb
      rw [hLi] at this;cases this
    have hsame:∀q∈rs,q.i=r.i->q.o=r.o:=by
     intro q hq e
     have:=(hI.facts q hq).op
     rw [e,ho] at this
     injection this with this
     exact this.symm
    have hlooks:∀t∈r.o.looksAt ops,(TL s.T (Lf listed) rs).get t=r.T.get t:=by
     intro t ht
     rw [f.temps t,TL_get,TL_get]
     rw [lastW_congr (L:=Lf listed) (L':=λx=>decide (x<r.i))]
     intro q hq hd
     rcases Nat.lt_trichotomy q.i r.i with hlt|heq|hgt
     ·rcases static_spec hst (hI.facts q hq).op ho hlt with hbit|⟨hap,_⟩
      ·rw [hpast _ hbit (by omega)];simp [hlt]
      ·exact absurd ht ((Oper.apart_spec hap).1 t hd)
     ·rw [heq,hLi];simp
     ·rcases static_spec hst ho (hI.facts q hq).op hgt with hbit|⟨hap,_⟩
      ·rw [hnext q hq hbit];simp;omega
      ·exact absurd ht ((Oper.apart_spec hap).2.2 t hd)
    have hwant:wantedA ops (TL s.T (Lf listed) rs) r.o=some r.w:=by rw [wantedA_congr hlooks];exact f.want
    have hwt:=wanted_ok hT hwant
    have haop:∀Hx,aop E (ev E (TL s.T (Lf listed) rs)) r.o.op Hx=aop E (ev E r.T) r.o.op Hx:=λHx=>aop_congr (ev_congr hlooks)
    have hun':∀{μ':Inj}{Hx:Heap},Grow Hc μ1 Hx μ'->∀j o,ops[j]? =some o->isBirth bm o.op=true->Lf (listed.setIfInBounds r.i true) j=false->μ' (s.H.next+j)=none:=by
     intro μ' Hx hgr j o' h1 h2 h3
     rw [hL'] at h3
     simp only [Bool.or_eq_false_iff] at h3
     have hjs:j<ops.size:=by
      rcases Nat.lt_or_ge j ops.size with h|h
      ·exact h
      ·rw [Array.getElem?_eq_none h] at h1;cases h1
     rw [hgr.2.1 _ (by omega)]
     exact hun j o' h1 h2 h3.1
    have hput:∀t,(putT (TL s.T (Lf listed) rs) r.o.dst r.v).get t=(TL s.T (Lf (listed.setIfInBounds r.i true)) rs).get t:=by
     intro t
     have hoth:r.o.dst≠some t->lastW (Lf listed) t rs=lastW (Lf (listed.setIfInBounds r.i true)) t rs:=by
      intro hne
      refine lastW_congr λq hq hd=>?_
      rw [hL']
      have:¬q.i=r.i:=λe=>by rw [hsame q hq e] at hd;exact hne hd
      simp [this]
     cases hd:r.o.dst with
     |none=>
      simp only [putT]
      rw [TL_get,TL_get,hoth (by rw [hd];simp)]
     |some d=>
      simp only [putT,Tr.get_upd]
      by_cases e:t=d
      ·subst e
       rw [if_pos rfl,TL_get,TL_get,lastW_hit hI.idx r hr hself hd]
       ·cases s.T.get t<;>rfl
       ·intro q hq hgt hdq
        rw [hL']
        rcases static_spec hst ho (hI.facts q hq).op hgt with hbit|⟨hap,_⟩
        ·rw [hnext q hq hbit];simp;omega
        ·exact absurd hdq ((Oper.apart_spec hap).2.1 t hd)
      ·rw [if_neg e,TL_get,TL_get,hoth (by rw [hd];simp;exact λh=>e h.symm)]
    have hcount:countLoud bm (λq=>Lf (listed.setIfInBounds r.i true) q.i) rs=countLoud bm (λq=>Lf listed q.i) rs+(if r.loud bm=true then 1 else 0):=
     countLoud_succ hI.idx hio (λq _=>hL' q.i) (λq _ e=>by rw [e];exact hLi) r hr rfl
    have hfuel:(listed.setIfInBounds r.i true).toList.count false<=fuel:=by
     have hlf:listed[r.i]'hbnd=false:=by
      unfold Lf at hLi
      rw [Array.getD_eq_getD_getElem?,Array.getElem?_eq_getElem hbnd] at hLi
      simpa using hLi
     rw [Array.toList_setIfInBounds,List.count_set (by simpa using hbnd)]
     have hpos:0<listed.toList.count false:=List.count_pos_iff.2 (by rw [<-hlf];exact Array.getElem_mem_toList hbnd)
     simp only [Array.getElem_toList,hlf]
     rw [if_pos (by rfl),if_neg (by decide)]
     omega
    have hsz':(listed.setIfInBounds r.i true).size=ops.size:=by simpa using hsz
    show wpOp E.prog ops Q r.i (wpAny E.prog .any ops Q fuel (listed.setIfInBounds r.i true)) a1 w1
    unfold wpOp
    rw [ho]
    simp only
    rw [hwt]
    cases hw:r.w with
    |false=>
     rw [if_neg (by simp)]
     have hnl:r.loud bm=false:=by simp [DR.loud,hw]
     have hv:=f.idle hw
     refine ih _ _ w1 μ1 Hc hsz' hfuel hcl' hle hnx (hun' (Grow.refl _ _)) (TRel_congr hput ?_) ?_ hH hB
     ·rw [hv];exact hT.put _ VRel.undef
     ·rw [hcount,if_neg (by simp [hnl])];exact hHc
    |true=>
     rw [if_pos rfl]
     left
     have⟨H1,H2,d1,d2,d3⟩:=f.does hw
     cases hld:isLoudD bm r.o.op with
     |true=>
      have hrl:r.loud bm=true:=by simp [DR.loud,hw,hld]
      have hk:countLoud bm (λq=>Lf listed q.i) rs=r.k:=by
       rw [f.cnt]
       refine countLoud_congr λq hq hql=>?_
       have hqop:isLoudD bm q.o.op=true:=by simp only [DR.loud,Bool.and_eq_true] at hql;exact hql.2
       rcases Nat.lt_trichotomy q.i r.i with hlt|heq|hgt
       ·rcases static_spec hst (hI.facts q hq).op ho hlt with hbit|⟨_,hno⟩
        ·rw [hpast _ hbit (by omega)];simp [hlt]
        ·exact absurd ⟨hqop,hld⟩ hno
       ·rw [heq,hLi];simp
       ·rcases static_spec hst ho (hI.facts q hq).op hgt with hbit|⟨_,hno⟩
        ·rw [hnext q hq hbit];simp;omega
        ·exact absurd ⟨hld,hqop⟩ hno
      rw [hk,d1] at hHc
      injection hHc with hHc
      subst hHc
      have hna:isBirth bm r.o.op=false:=loud_noBirth hld
      rw [aopD_of hna,<-haop] at d2
      refine oper_ok hE hF hH (λx=>ev_rel hH hT x) hT d2 ?_
      intro V μ' w' q1 q2 q3 q4 q5
      refine ih _ _ w' μ' H2 hsz' hfuel hcl' (hle.trans q1) (Nat.le_trans hnx q1.2.2) (hun' q1) (TRel_congr hput q3) ?_ q4 (hB.trans q5)
      rw [hcount,if_pos hrl,hk]
      exact d3 hld
     |false=>
      have hrl:r.loud bm=false:=by simp [DR.loud,hld]
      have hlo:countLoud bm (λq=>((masksFrom ops.toList []).getD r.i 0).testBit q.i) rs<=countLoud bm (λq=>Lf listed q.i) rs:=by
       refine countLoud_le λq hq hql hb=>hpast _ hb λe=>?_
       simp only [DR.loud,Bool.and_eq_true] at hql
       rw [hsame q hq e,hld] at hql
       cases hql.2
      have hhi:countLoud bm (λq=>Lf listed q.i) rs<=m - countLoud bm (λq=>((masksFrom ops.toList []).getD q.i 0).testBit r.i) rs:=by
       have:=countLoud_add (bm:=bm) (p:=λq=>Lf listed q.i) (q:=λq=>((masksFrom ops.toList []).getD q.i 0).testBit r.i) (rs:=rs) (λq hq _ ⟨x,y⟩=>by rw [hnext q hq y] at x;cases x)
       rw [<-hI.cnt] at this
       omega
      cases hal:isBirth bm r.o.op with
      |true=>
       have hpu:isPure r.o.op=false:=birth_pure hal
       have⟨Hx,g1,g2⟩:=quiet_spec hq r hr hw hld hpu (by rw [hal];simp) _ hlo hhi
       rw [hHc] at g1;injection g1 with g1;subst g1
       have⟨v,ob,z1,z3⟩:=looks_birth hal g2
       have hv:r.v=atBlk (s.H.next+r.i) v:=by
        unfold aopD at d2
        split at d2
        ·rename_i ty hop
         rw [hop] at z1
         simp only [resA,Option.some.injEq,Prod.mk.injEq] at d2
         have⟨Hq,y1,y2⟩:=born_of z1
         simp only [aop] at y1
         cases hz:zeroV E ty with
         |none=>rw [hz] at y1;cases y1
         |some zz=>
          rw [hz] at y1
          have⟨u,H9,x1,x2⟩:=rvh_some y1
          injection x2 with x2 x3
          unfold newVal at x1
          cases hc9:cellsOf zz with
          |none=>rw [hc9] at x1;cases x1
          |some vs9=>
           rw [hc9] at x1
           simp only [Option.map_some,Option.some.injEq,Prod.mk.injEq] at x1
           rw [x2,<-x1.1]
           exact d2.1.symm
        ·rw [hal,z1] at d2
         simp only [cond_true,Option.map_some,resA,Option.some.injEq,Prod.mk.injEq] at d2
         exact d2.1.symm
       rw [<-bornA_congr (ev_congr hlooks)] at z1
       have hmu:=hun r.i r.o ho hal hLi
       have⟨L,V,w',e1,e2,e3,e4⟩:=bornD_ok hE hH hal (λx=>ev_rel hH hT x) z1 hmu (by omega) z3
       unfold Oper.wp
       rw [e1]
       rw [<-hv] at e2
       have hle1:=Inj.le_add L hmu
       refine ih _ _ w' _ Hc hsz' hfuel hcl' ⟨Inj.le_trans hle.1 hle1,λi hi=>?_,hle.2.2⟩ hnx ?_ (TRel_congr hput ((hT.mono hle1).put _ e2)) ?_ e3 (hB.trans e4)
       ·unfold Inj.add
        rw [if_neg (by omega)]
        exact hle.2.1 i hi
       ·intro j o' h1 h2 h3
        rw [hL'] at h3
        simp only [Bool.or_eq_false_iff,decide_eq_false_iff_not] at h3
        unfold Inj.add
        rw [if_neg (by omega)]
        exact hun j o' h1 h2 h3.1
       ·rw [hcount,if_neg (by simp [hrl])]
        exact hHc
      |false=>
      have hna:=hal
      have hld':isLoud r.o.op=false:=by rw [<-loudD_of hna];exact hld
      rw [aopD_of hna] at d2
      have hres:resA sem (aop E (ev E (TL s.T (Lf listed) rs)) r.o.op Hc) Hc=some (r.v,Hc):=by
       rw [haop]
       cases hrr:aop E (ev E r.T) r.o.op H1 with
       |none=>rw [hrr] at d2;cases d2
       |some rr=>
        obtain ⟨v0,rfl⟩:=aop_quiet hld' hrr
        rw [hrr] at d2
        simp only [resA,Option.some.injEq,Prod.mk.injEq] at d2
        obtain ⟨rfl,rfl⟩:=d2
        cases hpu:isPure r.o.op with
        |true=>
         have⟨v1,e1,e2⟩:=aop_pure hpu hrr Hc
         injection e1 with e1
         rw [e2,e1];rfl
        |false=>
         cases hss:(stricts bm ops (masksFrom ops.toList [])).getD r.i false with
         |true=>
          have hk:countLoud bm (λq=>Lf listed q.i) rs=r.k:=by
           rw [f.cnt]
           refine countLoud_congr λq hq hql=>?_
           have hqop:isLoudD bm q.o.op=true:=by simp only [DR.loud,Bool.and_eq_true] at hql;exact hql.2
           have hqr:q.i≠r.i:=λe=>by rw [hsame q hq e,hld] at hqop;cases hqop
           rcases stricts_spec hss (hI.facts q hq).op hqr hqop with hbit|hbit
           ·rw [hpast _ hbit hqr]
            rcases Nat.lt_or_ge q.i r.i with hlt|hge
            ·simp [hlt]
            ·exact absurd hbit (by
              intro hbit
              have:=mask_lt hst r.i q.i hbit
              omega)
           ·rw [hnext q hq hbit]
            rcases Nat.lt_or_ge r.i q.i with hlt|hge
            ·simp;omega
            ·exact absurd hbit (by
              intro hbit
              have:=mask_lt hst q.i r.i hbit
              omega)
          rw [hk,d1] at hHc
          injection hHc with hHc
          subst hHc
          rw [hrr];rfl
         |false=>
         have⟨Hx,g1,g2⟩:=quiet_spec hq r hr hw hld hpu (by rw [hss];rfl) _ hlo hhi
         rw [hHc] at g1;injection g1 with g1;subst g1
         have⟨v1,Hy,g2,g3⟩:=looks_value hna g2
         have⟨v2,e2⟩:=aop_quiet hld' g2
         injection e2 with e3 e4
         rw [g2,e4,<-sameN_eq 8 _ _ g3]
         rfl
      refine oper_ok hE hF hH (λx=>ev_rel hH hT x) hT hres ?_
      intro V μ' w' q1 q2 q3 q4 q5
      refine ih _ _ w' μ' Hc hsz' hfuel hcl' (hle.trans q1) hnx (hun' q1) (TRel_congr hput q3) ?_ q4 (hB.trans q5)
      rw [hcount,if_neg (by simp [hrl])]
      exact hHc
 have hHpre:HRel E B0 μ ⟨tr,s.H.next+ops.size⟩ w:=hs.2.pre ops.size λj hj=>preA_get s.H.next ops.toList 0 os _ _ hpa j hj
 have h0:∀j,Lf (Array.replicate ops.size false) j=false:=by
  intro j
  unfold Lf
  rw [Array.getD_eq_getD_getElem?,Array.getElem?_replicate]
  split<;>rfl
 have hc0:countLoud bm (λq=>Lf (Array.replicate ops.size false) q.i) rs=0:=by
  rw [countLoud_congr (q:=λ_=>false) λr _ _=>h0 _]
  clear main finish hI hq hp1 hmem hrec hHpre
  induction rs with
  |nil=>rfl
  |cons x rest ih=>simp [countLoud,ih]
 refine main ops.size _ a w μ ⟨tr,s.H.next+ops.size⟩ (by simp) ?_ (λj o hj=>by rw [h0] at hj;cases hj) ⟨Inj.le_refl _,λ_ _=>rfl,by simp⟩ (Nat.le_refl _) (λj o _ _ _=>hs.2.fresh _ (by omega)) ?_ (by rw [hc0];exact hI.first) hHpre (Below.refl _ _)
 ·simp
 ·refine TRel_congr (λt=>?_) hs.1
  rw [TL_get]
  have:lastW (Lf (Array.replicate ops.size false)) t rs=none:=by
   clear main finish hI hq hp1 hmem hrec hc0 hHpre
   induction rs with
   |nil=>rfl
   |cons x rest ih=>simp [lastW,h0,ih]
  rw [this]
  cases s.T.get t<;>rfl
theorem runDraw_ok (hE:E.Ok){B0:Nat}{sem:FSem}(hF:FOK E B0 sem){ops:Array Oper}{s s':St}{μ:Inj}{a:Act}{w:World}(h:runDraw E sem ops s=some s')(hs:SRel E B0 μ s a w)
  {Q:Exit->Act->World->Prop}(hQ:∀μ' a' w',Grow s.H μ s'.H μ'->SRel E B0 μ' s' a' w'->Below B0 w w'->Q .normal a' w') :
  wpAny E.prog .any ops Q ops.size (Array.replicate ops.size false) a w:=by
 unfold runDraw at h;cases h0:staticOk false ops with
 |true=>rw [h0] at h;exact runDrawB_ok hE hF h0 h hs hQ
 |false=>
  rw [h0] at h;simp only [cond_false] at h;cases h1:staticOk true ops with
  |false=>rw [h1] at h;cases h
  |true=>
   rw [h1] at h;simp only [cond_true] at h;split at h
   ·exact runDrawB_ok hE hF h1 h hs hQ
   ·cases h
end
end
section
section
variable {E:Env}
def X.toExit:X->Exit
 |.normal=>.normal
 |.exit id=>.exit id
 |.ret=>.ret
def Post (E:Env)(B0:Nat)(H:Heap)(μ:Inj)(w:World)(x:X)(s:St)(Q:Exit->Act->World->Prop):Prop:=
 ∀μ' a' w',Grow H μ s.H μ'->SRel E B0 μ' s a' w'->Below B0 w w'->Q x.toExit a' w'
theorem Post.trans {B0:Nat}{H H':Heap}{μ μ':Inj}{w w':World}{x:X}{s:St}{Q:Exit->Act->World->Prop}(h:Post E B0 H μ w x s Q)(hle:Grow H μ H' μ')(hB:Below B0 w w'):Post E B0 H' μ' w' x s Q:=
 λμ2 a2 w2 h1 h2 h3=>h μ2 a2 w2 (hle.trans h1) h2 (hB.trans h3)
theorem runCode_ok (hE:E.Ok)(hmix:E.prog.follows .mixedOrders=true){B0:Nat}{sem:FSem}(hF:FOK E B0 sem)(n:Nat):∀(c:Code)(s s':St)(x:X)(μ:Inj)(a:Act)(w:World)(Q:Exit->Act->World->Prop),
  runCode E sem n c s=some (x,s')->SRel E B0 μ s a w->Post E B0 s.H μ w x s' Q->c.wp E.prog Q a w:=by
 intro c
 induction c with
 |skip=>
  intro s s' x μ a w Q h hs hQ;simp only [runCode,Option.some.injEq,Prod.mk.injEq] at h;obtain ⟨rfl,rfl⟩:=h;exact wp_skip (hQ μ a w (Grow.refl _ _) hs (Below.refl _ _))
 |label l=>
  intro s s' x μ a w Q h hs hQ;simp only [runCode,Option.some.injEq,Prod.mk.injEq] at h;obtain ⟨rfl,rfl⟩:=h;exact wp_label (hQ μ a w (Grow.refl _ _) hs (Below.refl _ _))
 |region id ops d=>
  intro s s' x μ a w Q h hs hQ;simp only [runCode] at h;cases d with
  |true=>
   simp only [cond_true] at h;cases hr:runDraw E sem ops s with
   |none=>rw [hr] at h;cases h
   |some s1=>
    rw [hr] at h;simp only [Option.some.injEq,Prod.mk.injEq] at h;obtain ⟨rfl,rfl⟩:=h;refine wp_region_any hmix ?_;exact runDraw_ok (w:=w.drew) hE hF hr ⟨hs.1,hs.2.heap rfl⟩ λμ' a' w' h1 h2 h3=>hQ μ' a' w' h1 h2 ((Below.refl B0 w).drew.trans h3)
  |false=>
   simp only [cond_false] at h;cases hr:runOps E sem ops ops.toList s with
   |none=>rw [hr] at h;cases h
   |some s1=>
    rw [hr] at h;simp only [Option.some.injEq,Prod.mk.injEq] at h;obtain ⟨rfl,rfl⟩:=h;exact wp_region_list (runOps_ok hE hF ops.toList s s1 μ a w hr hs hQ)
 |seq c1 c2 ih1 ih2=>
  intro s s' x μ a w Q h hs hQ;simp only [runCode] at h;refine wp_seq ?_;cases h1:runCode E sem n c1 s with
  |none=>rw [h1] at h;cases h
  |some p=>
   have⟨x1,s1⟩:=p;rw [h1] at h;cases x1 with
   |normal=>
    simp only at h;refine ih1 s s1 .normal μ a w _ h1 hs λμ' a' w' q1 q2 q3=>?_
    exact ih2 s1 s' x μ' a' w' Q h q2 (hQ.trans q1 q3)
   |exit id=>
    simp only [Option.some.injEq,Prod.mk.injEq] at h;obtain ⟨rfl,rfl⟩:=h;exact ih1 s s1 _ μ a w _ h1 hs hQ
   |ret=>
    simp only [Option.some.injEq,Prod.mk.injEq] at h;obtain ⟨rfl,rfl⟩:=h;exact ih1 s s1 _ μ a w _ h1 hs hQ
 |cond c t e ih1 ih2=>
  intro s s' x μ a w Q h hs hQ;simp only [runCode] at h;split at h
  case h_2=>cases h
  rename_i b hc;have hev:=ev_rel hs.2 hs.1 c;rw [hc] at hev;cases b with
  |true=>exact wp_cond_true hev.bool_eq (ih1 s s' x μ a w Q h hs hQ)
  |false=>exact wp_cond_false hev.bool_eq (ih2 s s' x μ a w Q h hs hQ)
 |block id c ih=>
  intro s s' x μ a w Q h hs hQ;simp only [runCode] at h;refine wp_block ?_;cases h1:runCode E sem n c s with
  |none=>rw [h1] at h;cases h
  |some p=>
   have⟨x1,s1⟩:=p;rw [h1] at h;cases x1 with
   |normal=>
    simp only [Option.some.injEq,Prod.mk.injEq] at h;obtain ⟨rfl,rfl⟩:=h;exact ih s s1 _ μ a w _ h1 hs hQ
   |exit j=>
    simp only at h;cases hj:Nat.beq j id with
    |true=>
     rw [hj] at h;simp only [cond_true,Option.some.injEq,Prod.mk.injEq] at h;obtain ⟨rfl,rfl⟩:=h;refine ih s s1 _ μ a w _ h1 hs λμ' a' w' q1 q2 q3=>?_
     simp only [X.toExit,Exit.inBlock];rw [if_pos (Nat.eq_of_beq_eq_true hj)];exact hQ μ' a' w' q1 q2 q3
    |false=>
     rw [hj] at h;simp only [cond_false,Option.some.injEq,Prod.mk.injEq] at h;obtain ⟨rfl,rfl⟩:=h;refine ih s s1 _ μ a w _ h1 hs λμ' a' w' q1 q2 q3=>?_
     simp only [X.toExit,Exit.inBlock];rw [if_neg (Nat.ne_of_beq_eq_false hj)];exact hQ μ' a' w' q1 q2 q3
   |ret=>
    simp only [Option.some.injEq,Prod.mk.injEq] at h;obtain ⟨rfl,rfl⟩:=h;exact ih s s1 _ μ a w _ h1 hs hQ
 |loop c ih=>
  intro s s' x μ a w Q h hs hQ;simp only [runCode] at h;have key:∀(k:Nat)(s s':St)(x:X)(μ:Inj)(a:Act)(w:World),loopN (runCode E sem n c) k s=some (x,s')->SRel E B0 μ s a w->Post E B0 s.H μ w x s' Q->Code.rounds E.prog c Q k a w:=by
   intro k
   induction k with
   |zero=>intro s s' x μ a w h;simp [loopN] at h
   |succ k ihk=>
    intro s s' x μ a w h hs hQ;simp only [loopN] at h;rw [rounds_succ];cases h1:runCode E sem n c s with
    |none=>rw [h1] at h;cases h
    |some p=>
     have⟨x1,s1⟩:=p;rw [h1] at h;cases x1 with
     |normal=>
      simp only at h;refine ih s s1 .normal μ a w _ h1 hs λμ' a' w' q1 q2 q3=>?_
      exact ihk s1 s' x μ' a' w' h q2 (hQ.trans q1 q3)
     |exit id=>
      simp only [Option.some.injEq,Prod.mk.injEq] at h;obtain ⟨rfl,rfl⟩:=h;exact ih s s1 _ μ a w _ h1 hs hQ
     |ret=>
      simp only [Option.some.injEq,Prod.mk.injEq] at h;obtain ⟨rfl,rfl⟩:=h;exact ih s s1 _ μ a w _ h1 hs hQ
  exact wp_loop_rounds n (key n s s' x μ a w h hs hQ)
 |exit id=>
  intro s s' x μ a w Q h hs hQ;simp only [runCode,Option.some.injEq,Prod.mk.injEq] at h;obtain ⟨rfl,rfl⟩:=h;exact wp_exit (hQ μ a w (Grow.refl _ _) hs (Below.refl _ _))
 |ret=>
  intro s s' x μ a w Q h hs hQ;simp only [runCode,Option.some.injEq,Prod.mk.injEq] at h;obtain ⟨rfl,rfl⟩:=h;exact wp_ret (hQ μ a w (Grow.refl _ _) hs (Below.refl _ _))
 |scope c ih=>
  intro s s' x μ a w Q h hs hQ;simp only [runCode] at h;refine wp_scope_straight (ih s s' x μ a w _ h hs λμ' a' w' q1 q2 q3=>?_)
  have:=hQ μ' a' w' q1 q2 q3
  cases x<;>exact this
 |rangeFunc f ps as1 b ih1 ih2=>intro s s' x μ a w Q h;simp [runCode] at h
 |goto l=>intro s s' x μ a w Q h;simp [runCode] at h
 |refuse w=>intro s s' x μ a w Q h;simp [runCode] at h
theorem updsFrom_get:∀(l:List Value)(n:Nat)(T:Tr Value)(t:Nat),(Tr.updsFrom l n T).get t=if n<=t/\t<n+l.length then (T.get t).map (λ_=>l.getD (t - n) undef) else T.get t
 |[],n,T,t=>by
  simp only [Tr.updsFrom_nil,List.length_nil,Nat.add_zero]
  rw [if_neg (by omega)]
 |v::l,n,T,t=>by
  simp only [Tr.updsFrom_cons,updsFrom_get l (n+1) _ t,Tr.get_upd,List.length_cons]
  by_cases h1:n+1<=t/\t<n+1+l.length
  ·rw [if_pos h1,if_neg (by omega),if_pos (by omega),show t - n=(t - (n+1))+1 from by omega]
   rfl
  ·rw [if_neg h1]
   by_cases h2:t=n
   ·subst h2
    rw [if_pos rfl,if_pos (by omega),Nat.sub_self]
    rfl
   ·rw [if_neg h2,if_neg (by omega)]
theorem initT_ok {fn:Func}{args:List Value}{T:Tr Value}{μ:Inj}{ARGS:Array Value}(h:initT fn args=some T)(ha:VRels μ args ARGS.toList) :
  TRel μ T {tmps:=ARGS++Array.replicate (fn.ntmps - ARGS.size) undef,defers:=[]}:=by
 unfold initT at h;cases hb:Nat.ble args.length fn.ntmps with
 |false=>rw [hb] at h;cases h
 |true=>
  rw [hb] at h;simp only [cond_true,Option.some.injEq] at h;subst h;have hle:=Nat.le_of_ble_eq_true hb;have hl:=ha.length;simp only [Array.length_toList] at hl;refine ⟨λt=>?_,rfl⟩;rw [updsFrom_get,Tr.get_fill _ _ _ _ (Nat.le_refl _),Array.getElem?_append,Array.getElem?_replicate];by_cases h1:t<args.length
  ·right;have hlt:t<fn.ntmps:=by omega
   have c1:0<=t/\t<0+args.length:=by omega
   have c2:t<ARGS.size:=by omega
   have⟨V,hV,hr⟩:=ha.get (j:=t) (v:=args[t]) (by simp [h1]);rw [if_pos c1,if_pos hlt,if_pos c2];refine ⟨args[t],V,?_,?_,hr⟩
   ·simp [h1]
   ·rw [<-Array.getElem?_toList];exact hV
  ·have c1:¬(0<=t/\t<0+args.length):=by omega
   have c2:¬t<ARGS.size:=by omega
   rw [if_neg c1,if_neg c2];by_cases h2:t<fn.ntmps
   ·right;have c3:t - ARGS.size<fn.ntmps - ARGS.size:=by omega
    rw [if_pos h2,if_pos c3];exact ⟨_,_,rfl,rfl,VRel.undef⟩
   ·left;have c3:¬t - ARGS.size<fn.ntmps - ARGS.size:=by omega
    rw [if_neg h2,if_neg c3];exact ⟨rfl,rfl⟩
def resOne (tmps:Array Value):ResultVar->Sem Value
 |.tmp t=>pure (tmps.getD t undef)
 |.cell a t=>do loadVar t (<-asAddr (tmps.getD a undef))
theorem resultsL_ok (hE:E.Ok){B0:Nat}{μ:Inj}{s:St}{a:Act}{w:World}(hs:SRel E B0 μ s a w):∀(l:List ResultVar)(vs:List Value),resultsL E s l=some vs->
  ∃VS:List Value,VRels μ vs VS/\(l.mapM (resOne a.tmps)).run E.prog w=.ok VS w
 |[],vs,h=>by
  simp only [resultsL,Option.some.injEq] at h
  subst h
  exact ⟨[],.nil,by simp⟩
 |.tmp t::l,vs,h=>by
  simp only [resultsL] at h
  cases hr:resultsL E s l with
  |none=>rw [hr] at h;cases h
  |some us=>
   rw [hr] at h
   simp only [Option.map_some,Option.some.injEq] at h
   subst h
   have⟨VS,h1,h2⟩:=resultsL_ok hE hs l us hr
   exact ⟨_::VS,.cons (hs.1.at t) h1,by simp [List.mapM_cons,resOne,h2]⟩
 |.cell x t::l,vs,h=>by
  simp only [resultsL] at h
  cases hv:loadV E s.H t ((s.T.get x).getD undef) with
  |none=>rw [hv] at h;cases h
  |some v=>
   rw [hv] at h
   cases hr:resultsL E s l with
   |none=>rw [hr] at h;cases h
   |some us=>
    rw [hr] at h
    simp only [Option.bind_some,Option.map_some,Option.some.injEq] at h
    subst h
    have⟨VS,h1,h2⟩:=resultsL_ok hE hs l us hr
    have⟨V,g1,g2⟩:=load_ok hE hs.2 (hs.1.at x) hv
    refine ⟨V::VS,.cons g2 h1,?_⟩
    have hat:=hs.1.at x
    generalize (s.T.get x).getD undef=y at hv hat
    generalize hY:a.tmps.getD x undef=Y at hat g1
    unfold loadV at hv
    split at hv
    case h_2=>cases hv
    cases hat with
    |@ptr i o L hm=>
     simp only [Instr.loadAt,Instr.sureAddr,Sem.run_bind,Sem.run_pure,Result.andThen_ok] at g1
     simp [List.mapM_cons,resOne,hY,asAddr,g1,h2]
theorem results_ok (hE:E.Ok){B0:Nat}{μ:Inj}{s:St}{a:Act}{w:World}(hs:SRel E B0 μ s a w){fn:Func}{vs:List Value}(h:resultsL E s fn.results.toList=some vs) :
  ∃V,(results fn a.tmps).run E.prog w=.ok V w/\VRel μ (resultOf vs) V:=by
 have⟨VS,h1,h2⟩:=resultsL_ok hE hs _ _ h;refine ⟨resultOf VS,?_,?_⟩
 ·have e0:results fn a.tmps=(fn.results.mapM (resOne a.tmps) >>=λvs=>pure (if h:vs.size=1 then vs[0] else .tuple vs)):=rfl;rw [e0,Array.mapM_eq_mapM_toList];simp only [Sem.run_bind,Sem.run_map,h2,Result.andThen_ok,Sem.run_pure]
  congr 1
  cases VS with
  |nil=>rfl
  |cons v l=>cases l with
   |nil=>rfl
   |cons u l=>simp [resultOf]
 ·cases h1 with
  |nil=>exact .tuple .nil
  |cons g gs=>cases gs with
   |nil=>exact g
   |cons g' gs'=>exact .tuple (.cons g (.cons g' gs'))
theorem sem_ok (hE:E.Ok)(hmix:E.prog.follows .mixedOrders=true)(B0:Nat):∀n,FOK E B0 (sem E n)
 |0=>by intro f args H v H' h;simp [sem] at h
 |n+1=>by
  intro f args H v H' h μ w ARGS hH ha;simp only [sem] at h;cases ht:(E.truth f&&args.isEmpty) with
  |true=>
   rw [ht] at h;simp only [cond_true,Option.some.injEq,Prod.mk.injEq] at h;obtain ⟨rfl,rfl⟩:=h;simp only [Bool.and_eq_true,List.isEmpty_iff] at ht;obtain ⟨ht,rfl⟩:=ht;have hA:ARGS= #[]:=by
    have:=ha.length
    simp only [List.length_nil,Array.length_toList] at this;exact Array.eq_empty_of_size_eq_zero this.symm
   subst hA;refine (hE.truth f ht w).mono ?_;rintro e w' ⟨rfl,hB⟩;exact ⟨_,μ,rfl,Grow.refl _ _,.bool _,hH.world hB.block hB.size,hB.mono hH.base⟩
  |false=>
  rw [ht] at h;simp only [cond_false] at h;cases hpr:E.prim f with
  |some p=>rw [hpr] at h;exact hE.prim f p hpr B0 args H v H' h μ w ARGS hH ha
  |none=>
  rw [hpr] at h;simp only at h;cases hfn:E.fn f with
  |none=>rw [hfn] at h;cases h
  |some fn=>
   rw [hfn] at h;simp only at h;cases hb:fn.body with
   |none=>rw [hb] at h;cases h
   |some c=>
    rw [hb] at h;simp only at h;cases hi:initT fn args with
    |none=>rw [hi] at h;cases h
    |some T=>
     rw [hi] at h;simp only at h;refine calls_of_wp (hE.fn _ _ hfn).1 hb ?_;cases hr:runCode E (sem E n) n c ⟨T,H⟩ with
     |none=>rw [hr] at h;cases h
     |some p=>
      have⟨x,s⟩:=p;rw [hr] at h;have hfin:∀(hh:(resultsL E s fn.results.toList).map (λvs=>(resultOf vs,s.H))=some (v,H')),∀μ' a' w',Grow H μ s.H μ'->SRel E B0 μ' s a' w'->Below B0 w w'->
        a'.defers=[]/\∃V,(results fn a'.tmps).run E.prog w'=.ok V w'/\∃V' μ'',Ending.returned V=.returned V'/\Grow H μ H' μ''/\VRel μ'' v V'/\HRel E B0 μ'' H' w'/\Below B0 w w':=by
       intro hh μ' a' w' q1 q2 q3;cases hrl:resultsL E s fn.results.toList with
       |none=>rw [hrl] at hh;cases hh
       |some vs=>
        rw [hrl] at hh;simp only [Option.map_some,Option.some.injEq,Prod.mk.injEq] at hh;obtain ⟨rfl,rfl⟩:=hh;have⟨V,g1,g2⟩:=results_ok hE q2 hrl;exact ⟨q2.1.2,V,g1,V,μ',rfl,q1,g2,q2.2,q3⟩
      refine runCode_ok hE hmix (sem_ok hE hmix B0 n) n c ⟨T,H⟩ s x μ _ w _ hr ⟨initT_ok hi ha,hH⟩ ?_;cases x with
      |normal=>exact λμ' a' w' q1 q2 q3=>hfin h μ' a' w' q1 q2 q3
      |ret=>exact λμ' a' w' q1 q2 q3=>hfin h μ' a' w' q1 q2 q3
      |exit id=>simp at h
end
end
section
theorem ofListFrom_get {α:Type}:∀(l:List α)(n:Nat)(t:Tr α)(i:Nat),(Tr.ofListFrom l n t).get i=if n<=i/\i<n+l.length then l[i - n]? else t.get i
 |[],n,t,i=>by
  simp only [Tr.ofListFrom_nil,List.length_nil,Nat.add_zero]
  rw [if_neg (by omega)]
 |x::l,n,t,i=>by
  simp only [Tr.ofListFrom_cons,ofListFrom_get l (n+1) _ i,Tr.get_put,List.length_cons]
  by_cases h1:n+1<=i/\i<n+1+l.length
  ·rw [if_pos h1,if_pos (by omega),show i - n=(i - (n+1))+1 from by omega]
   rfl
  ·rw [if_neg h1]
   by_cases h2:i=n
   ·subst h2
    rw [if_pos rfl,if_pos (by omega),Nat.sub_self]
    rfl
   ·rw [if_neg h2,if_neg (by omega)]
noncomputable def Env.of (P:Program)(tys:Tr TypeInfo)(fns:Tr Func)(eqs clones:List Nat):Env where
 prog:=P
 ty:=tys.get
 fn:=λf=>match fns.get f with
  |some fn=>match fn.body with
   |some _=>some fn
   |none=>none
  |none=>none
 eqOk:=λt=>eqs.any (Nat.beq t)
 clone:=λf=>clones.any (Nat.beq f)
 truth:=λ_=>false
 ng:=P.globals.size
noncomputable def Env.doing (E:Env)(f:Nat)(p:List Value->Heap->Option (Value×Heap)):Env:={E with prim:=λg=>bif Nat.beq g f then some p else E.prim g}
theorem Env.doing_ok {E:Env}(h:E.Ok){f:Nat}{p:List Value->Heap->Option (Value×Heap)}(hp:PrimOK E f p):(E.doing f p).Ok:=
 ⟨h.ty,h.fn,h.eqOk,h.clone,h.truth,λg p' hg=>by
  simp only [Env.doing] at hg
  cases hb:Nat.beq g f with
  |true=>
   rw [hb] at hg
   simp only [cond_true,Option.some.injEq] at hg
   obtain rfl:=Nat.eq_of_beq_eq_true hb
   subst hg
   exact PrimOK.env (E:=E) (E':=E.doing g p) rfl rfl hp
  |false=>
   rw [hb] at hg
   exact PrimOK.env (E:=E) (E':=E.doing f p) rfl rfl (h.prim g p' hg)⟩
def eqFine (P : Program)(t : Nat) : Bool :=
  !P.stoodInHeld t && !P.eqGuardType P.depth t && (match P.underlying t with
    | some (.struct fs) => fs.toList.all fun f => !(f.name == "_")
    | _ => true)
def cloneFine (P : Program) (f : Nat) : Prop := ∃ fn, P.funcs[f]? = some fn ∧ fn.body = none ∧ (fn.name == "runtime.NumGoroutine") = false ∧ Extern.findNext fn = none ∧ Extern.find fn = some Extern.MapsClone.clone
theorem Env.of_ok {P:Program}{tys:Tr TypeInfo}{fns:Tr Func}{eqs clones:List Nat}(ht:tys=Tr.ofListFrom P.types.toList 0 .nil)(hf:fns=Tr.ofListFrom P.funcs.toList 0 .nil)
    (hn : P.funcs.toList.all (fun f => !(f.name == "runtime.NumGoroutine")) = true)
  (he:eqs.all (eqFine P)=true)(hc:∀f∈clones,cloneFine P f):(Env.of P tys fns eqs clones).Ok:=by
 subst ht;subst hf
 refine ⟨λt i h=>?_,λf fn h=>?_,λt h=>?_,λf h=>?_,(λf h=>by cases h),(λf p h=>by cases h)⟩
 ·simp only [Env.of,ofListFrom_get,Nat.zero_add,Nat.sub_zero,Tr.get_nil] at h
  split at h
  ·rename_i hb
   show P.info? t=some i
   unfold Tables.info?
   rw [if_pos (by simpa using hb.2)]
   simpa using h
  ·cases h
 ·simp only [Env.of,ofListFrom_get,Nat.zero_add,Nat.sub_zero,Tr.get_nil] at h
  split at h
  ·rename_i g hg
   split at hg
   ·split at h
    ·rename_i c hb
     injection h with h;subst h
     rw [Array.getElem?_toList] at hg
     refine ⟨hg,by rw [hb];rfl,?_⟩
     rw [List.all_eq_true] at hn
     have:=hn g (by rw [Array.mem_toList_iff];exact Array.mem_of_getElem? hg)
     simpa using this
    ·cases h
   ·cases hg
  ·cases h
 ·simp only [Env.of,List.any_eq_true] at h
  have⟨u,hu,hb⟩:=h
  obtain rfl:=Nat.eq_of_beq_eq_true hb
  rw [List.all_eq_true] at he
  have:=he t hu
  simp only [eqFine,Bool.and_eq_true,Bool.not_eq_true'] at this
  refine ⟨this.1.1,this.1.2,λfs hfs f hff=>?_⟩
  have h3:=this.2
  have hfs':P.underlying t=some (.struct fs):=hfs
  rw [hfs'] at h3
  simp only [List.all_eq_true] at h3
  have:=h3 f hff
  simpa using this
 ·simp only [Env.of,List.any_eq_true] at h
  have⟨u,hu,hb⟩:=h
  obtain rfl:=Nat.eq_of_beq_eq_true hb
  exact hc f hu
noncomputable def heap0 (E:Env):Heap:=⟨.nil,E.ng⟩
def inj0 (E:Env):Inj:=λg=>if g<E.ng then some ⟨g,0,0,0⟩ else none
theorem hrel0 (E:Env)(w:World):HRel E w.heap.size (inj0 E) (heap0 E) w where
 fresh i hi:=by
  have:¬i<E.ng:=by have:E.ng<=i:=hi;omega
  simp [inj0,this]
 glob g hg:=⟨⟨g,0,0,0⟩,by simp [inj0,hg],rfl,rfl⟩
 obj i o h _:=by simp [heap0,Heap.get,Tr.get_nil] at h
 apart i j oi oj Li Lj h:=by simp [heap0,Heap.get,Tr.get_nil] at h
 base:=Nat.le_refl _
theorem closed_calls {E:Env}(hE:E.Ok)(hmix:E.prog.follows .mixedOrders=true){n f:Nat}(h:(sem E n f [] (heap0 E)).map (·.1)=some (.bool true))(w:World) :
  Calls E.prog f #[] w λe w'=>e=.returned (.bool true)/\Below w.heap.size w w':=by
 cases hs:sem E n f [] (heap0 E) with
 |none=>rw [hs] at h;cases h
 |some p=>
  have⟨v,H'⟩:=p;rw [hs] at h;simp only [Option.map_some,Option.some.injEq] at h;subst h;refine (sem_ok hE hmix w.heap.size n f [] (heap0 E) _ H' hs (inj0 E) w #[] (hrel0 E w) .nil).mono ?_;rintro e w' ⟨V,μ',rfl,h1,h2,h3,h4⟩;cases h2;exact ⟨rfl,h4⟩
noncomputable def Env.knows (E:Env)(l:List Nat):Env:={E with truth:=λf=>l.any (Nat.beq f)}
theorem Env.knows_ok {E:Env}{l:List Nat}(hE:E.Ok)(h:∀f∈l,∀w:World,Calls E.prog f #[] w λe w'=>e=.returned (.bool true)/\Below w.heap.size w w'):(E.knows l).Ok where
 ty:=hE.ty
 fn:=hE.fn
 eqOk:=hE.eqOk
 clone:=hE.clone
 prim:=λf p hp=>PrimOK.env (E:=E) (E':=E.knows l) rfl rfl (hE.prim f p hp)
 truth:=λf hf=>by
  simp only [Env.knows,List.any_eq_true] at hf
  have⟨u,hu,hb⟩:=hf
  obtain rfl:=Nat.eq_of_beq_eq_true hb
  exact h _ hu
end
section
noncomputable section
def a_move (E:Env)(e:Operand->Value)(H:Heap)(x:Operand):Option Res:=some (.val (e x) H)
def a_assign (E:Env)(e:Operand->Value)(H:Heap)(x:Operand):Option Res:=some (.val (e x) H)
def a_pick (E:Env)(e:Operand->Value)(H:Heap)(c:Operand)(a:Operand)(b:Operand):Option Res:=(match e c with
  |.bool t=>some (.val (bif t then e a else e b) H)
  |_=>none)
def a_alloc (E:Env)(e:Operand->Value)(H:Heap)(elem:TypeId):Option Res:=(zeroV E elem).bind λz=>rvh (newVal H z)
def a_box (E:Env)(e:Operand->Value)(H:Heap)(elem:TypeId)(v:Operand):Option Res:=rvh (newVal H (e v))
def a_build (E:Env)(e:Operand->Value)(H:Heap)(t:TypeId)(parts:Array (Nat×Operand)):Option Res:=aop E e (.build t parts) H
def a_buildSlice (E:Env)(e:Operand->Value)(H:Heap)(t:TypeId)(len:Nat)(parts:Array (Nat×Operand)):Option Res:=aop E e (.buildSlice t len parts) H
def a_insert (E:Env)(e:Operand->Value)(H:Heap)(t:TypeId)(m:Operand)(k:Operand)(x:Operand):Option Res:=aop E e (.insert t m k x) H
def a_load (E:Env)(e:Operand->Value)(H:Heap)(t:TypeId)(a:Operand):Option Res:=rv H (loadV E H t (e a))
def a_store (E:Env)(e:Operand->Value)(H:Heap)(t:TypeId)(a:Operand)(x:Operand):Option Res:=rh (storeV E H t (e a) (e x))
def a_ready (E:Env)(e:Operand->Value)(H:Heap)(g:Nat):Option Res:=aop E e (.ready g) H
def a_waits (E:Env)(e:Operand->Value)(H:Heap)(g:Nat):Option Res:=aop E e (.waits g) H
def a_nilCheck (E:Env)(e:Operand->Value)(H:Heap)(x:Operand):Option Res:=(match e x with
  |.pointer (some a)=>some (.val (.pointer (some a)) H)
  |.func (.func f) fs cs=>some (.val (.func (.func f) fs cs) H)
  |_=>none)
def a_binOp (E:Env)(e:Operand->Value)(H:Heap)(op:BinOp)(t:TypeId)(x:Operand)(y:Operand)(u:TypeId):Option Res:=rv H (binA E H op t (e x) (e y))
def a_unOp (E:Env)(e:Operand->Value)(H:Heap)(op:UnOp)(t:TypeId)(x:Operand):Option Res:=rv H (unA op (e x))
def a_convert (E:Env)(e:Operand->Value)(H:Heap)(src:TypeId)(dst:TypeId)(x:Operand):Option Res:=rv H (convertA E src dst (e x))
def a_sliceToArrayPointer (E:Env)(e:Operand->Value)(H:Heap)(d:TypeId)(x:Operand):Option Res:=aop E e (.sliceToArrayPointer d x) H
def a_makeInterface (E:Env)(e:Operand->Value)(H:Heap)(t:TypeId)(x:Operand):Option Res:=aop E e (.makeInterface t x) H
def a_makeFunc (E:Env)(e:Operand->Value)(H:Heap)(f:Fn)(a:Array Operand)(b:Array Operand):Option Res:=aop E e (.makeFunc f a b) H
def a_makeMap (E:Env)(e:Operand->Value)(H:Heap)(t:TypeId)(r:Option Operand):Option Res:=aop E e (.makeMap t r) H
def a_makeChan (E:Env)(e:Operand->Value)(H:Heap)(t:TypeId)(s:Operand):Option Res:=aop E e (.makeChan t s) H
def a_makeSlice (E:Env)(e:Operand->Value)(H:Heap)(t:TypeId)(l:Operand)(c:Operand):Option Res:=aop E e (.makeSlice t l c) H
def a_slice (E:Env)(e:Operand->Value)(H:Heap)(t:TypeId)(x:Operand)(lo:Option Operand)(hi:Option Operand)(mx:Option Operand):Option Res:=aop E e (.slice t x lo hi mx) H
def a_fieldAddr (E:Env)(e:Operand->Value)(H:Heap)(s:TypeId)(x:Operand)(f:Nat):Option Res:=(match und E s,e x with
  |some (.struct fields),.pointer (some ⟨i,o,none⟩)=>match fields[f]? with
   |some fd=>(sizeA E fd.type).bind λn=>if n=0 then none else some (.val (.pointer (some ⟨i,o+fd.offset,none⟩)) H)
   |none=>none
  |_,_=>none)
def a_field (E:Env)(e:Operand->Value)(H:Heap)(t:TypeId)(x:Operand)(f:Nat):Option Res:=(match und E t,e x with
  |some (.struct fields),.agg cs=>match fields[f]? with
   |some fd=>rv H (partA E fd.type cs fd.offset)
   |none=>none
  |_,_=>none)
def a_indexAddr (E:Env)(e:Operand->Value)(H:Heap)(t:TypeId)(x:Operand)(ix:Operand):Option Res:=(match und E t,e x,e ix with
  |some (.slice el),.slice (some ⟨i,o,none⟩) len _,.int _ n=>(sizeA E el).bind λs=>
   if 0<=n/\n<len then some (.val (.pointer (some ⟨i,o+n.toNat*s,none⟩)) H) else none
  |some (.array len el),.pointer (some ⟨i,o,none⟩),.int _ n=>(sizeA E el).bind λs=>
   if 0<=n/\n<len then some (.val (.pointer (some ⟨i,o+n.toNat*s,none⟩)) H) else none
  |_,_,_=>none)
def a_index (E:Env)(e:Operand->Value)(H:Heap)(t:TypeId)(x:Operand)(ix:Operand):Option Res:=aop E e (.index t x ix) H
def a_lookup (E:Env)(e:Operand->Value)(H:Heap)(t:TypeId)(x:Operand)(k:Operand)(ok:Bool):Option Res:=rv H (lookupA E H t (e x) (e k) ok)
def a_mapUpdate (E:Env)(e:Operand->Value)(H:Heap)(t:TypeId)(m:Operand)(k:Operand)(x:Operand):Option Res:=rh (mapUpdateA E H t (e m) (e k) (e x))
def a_mapEntry (E:Env)(e:Operand->Value)(H:Heap)(t:TypeId)(m:Operand)(k:Operand):Option Res:=aop E e (.mapEntry t m k) H
def a_entryStore (E:Env)(e:Operand->Value)(H:Heap)(t:TypeId)(m:Operand)(st:Operand)(v:Operand):Option Res:=aop E e (.entryStore t m st v) H
def a_range (E:Env)(e:Operand->Value)(H:Heap)(t:TypeId)(x:Operand):Option Res:=aop E e (.range t x) H
def a_next (E:Env)(e:Operand->Value)(H:Heap)(i:Operand)(s:Bool):Option Res:=aop E e (.next i s) H
def a_entry (E:Env)(e:Operand->Value)(H:Heap)(i:Operand):Option Res:=aop E e (.entry i) H
def a_typeAssert (E:Env)(e:Operand->Value)(H:Heap)(x:Operand)(t:TypeId)(a:TypeId)(ok:Bool):Option Res:=aop E e (.typeAssert x t a ok) H
def a_extract (E:Env)(e:Operand->Value)(H:Heap)(t:Operand)(ix:Nat):Option Res:=(match e t with
  |.tuple vs=>match vs[ix]? with
   |some v=>some (.val v H)
   |none=>none
  |_=>none)
def a_call (E:Env)(e:Operand->Value)(H:Heap)(c:Call):Option Res:=(match c.callee with
  |.value f=>callA E H (e f) (c.args.toList.map e)
  |.builtin b=>builtinA E H b c.argTypes (c.args.toList.map e)
  |.invoke _ _=>none)
def a_go (E:Env)(e:Operand->Value)(H:Heap)(c:Call):Option Res:=aop E e (.go c) H
def a_defer (E:Env)(e:Operand->Value)(H:Heap)(c:Call):Option Res:=aop E e (.defer c) H
def a_panic (E:Env)(e:Operand->Value)(H:Heap)(x:Operand):Option Res:=aop E e (.panic x) H
def a_send (E:Env)(e:Operand->Value)(H:Heap)(c:Operand)(x:Operand):Option Res:=aop E e (.send c x) H
def a_recv (E:Env)(e:Operand->Value)(H:Heap)(t:TypeId)(c:Operand)(ok:Bool):Option Res:=aop E e (.recv t c ok) H
def a_select (E:Env)(e:Operand->Value)(H:Heap)(cs:Array SelectCase)(b:Bool):Option Res:=aop E e (.select cs b) H
def aopF (E:Env)(e:Operand->Value)(op:Op)(H:Heap):Option Res:=
 Op.rec (motive:=λ_=>Option Res)
  (λx=>a_move E e H x)
  (λx=>a_assign E e H x)
  (λc a b=>a_pick E e H c a b)
  (λelem=>a_alloc E e H elem)
  (λelem v=>a_box E e H elem v)
  (λt parts=>a_build E e H t parts)
  (λt len parts=>a_buildSlice E e H t len parts)
  (λt m k x=>a_insert E e H t m k x)
  (λt a=>a_load E e H t a)
  (λt a x=>a_store E e H t a x)
  (λg=>a_ready E e H g)
  (λg=>a_waits E e H g)
  (λx=>a_nilCheck E e H x)
  (λop t x y u=>a_binOp E e H op t x y u)
  (λop t x=>a_unOp E e H op t x)
  (λsrc dst x=>a_convert E e H src dst x)
  (λd x=>a_sliceToArrayPointer E e H d x)
  (λt x=>a_makeInterface E e H t x)
  (λf a b=>a_makeFunc E e H f a b)
  (λt r=>a_makeMap E e H t r)
  (λt s=>a_makeChan E e H t s)
  (λt l c=>a_makeSlice E e H t l c)
  (λt x lo hi mx=>a_slice E e H t x lo hi mx)
  (λs x f=>a_fieldAddr E e H s x f)
  (λt x f=>a_field E e H t x f)
  (λt x ix=>a_indexAddr E e H t x ix)
  (λt x ix=>a_index E e H t x ix)
  (λt x k ok=>a_lookup E e H t x k ok)
  (λt m k x=>a_mapUpdate E e H t m k x)
  (λt m k=>a_mapEntry E e H t m k)
  (λt m st v=>a_entryStore E e H t m st v)
  (λt x=>a_range E e H t x)
  (λi s=>a_next E e H i s)
  (λi=>a_entry E e H i)
  (λx t a ok=>a_typeAssert E e H x t a ok)
  (λt ix=>a_extract E e H t ix)
  (λc=>a_call E e H c)
  (λc=>a_go E e H c)
  (λc=>a_defer E e H c)
  (λx=>a_panic E e H x)
  (λc x=>a_send E e H c x)
  (λt c ok=>a_recv E e H t c ok)
  (λcs b=>a_select E e H cs b)
  op
theorem aopF_eq (E:Env)(e:Operand->Value)(op:Op)(H:Heap):aopF E e op H=aop E e op H:=by cases op<;>rfl
def resF (sem:FSem)(r:Option Res)(H:Heap):Option (Value×Heap):=
 Option.rec (motive:=λ_=>Option (Value×Heap)) none (λr=>Res.rec (motive:=λ_=>Option (Value×Heap)) (λv H'=>some (v,H')) (λf args=>sem f args H) r) r
theorem resF_eq (sem:FSem)(r:Option Res)(H:Heap):resF sem r H=resA sem r H:=by
 cases r with
 |none=>rfl
 |some r=>cases r<;>rfl
def stepF (E:Env)(sem:FSem)(ops:Array Oper)(o:Oper)(s:St):Option St:=
 Option.rec (motive:=λ_=>Option St) none
  (λb=>Bool.rec (motive:=λ_=>Option St) (some ⟨putT s.T o.dst undef,s.H⟩)
   (Option.rec (motive:=λ_=>Option St) none (λp=>some ⟨putT s.T o.dst p.1,p.2⟩) (resF sem (aopF E (ev E s.T) o.op s.H) s.H)) b) (wantedA ops s.T o)
theorem stepF_eq (E:Env)(sem:FSem)(ops:Array Oper)(o:Oper)(s:St):stepF E sem ops o s=stepA E sem ops o s:=by
 unfold stepF stepA;rw [resF_eq,aopF_eq];cases wantedA ops s.T o with
 |none=>rfl
 |some b=>cases b with
  |false=>rfl
  |true=>simp only;cases resA sem (aop E (ev E s.T) o.op s.H) s.H<;>rfl
def runOpsF (E:Env)(sem:FSem)(ops:Array Oper)(l:List Oper):St->Option St:=
 List.rec (motive:=λ_=>St->Option St) (λs=>some s) (λo _ ih s=>Option.rec (motive:=λ_=>Option St) none (λs'=>ih s') (stepF E sem ops o s)) l
theorem runOpsF_eq (E:Env)(sem:FSem)(ops:Array Oper):∀(l:List Oper)(s:St),runOpsF E sem ops l s=runOps E sem ops l s
 |[],s=>rfl
 |o::l,s=>by
  show Option.rec (motive:=λ_=>Option St) none (λs'=>runOpsF E sem ops l s') (stepF E sem ops o s)=runOps E sem ops (o::l) s
  rw [stepF_eq]
  simp only [runOps]
  cases stepA E sem ops o s with
  |none=>rfl
  |some s'=>exact runOpsF_eq E sem ops l s'
def aopDF (bm:Bool)(E:Env)(base i:Nat)(e:Operand->Value)(op:Op)(H:Heap):Option Res:=
 Bool.rec (motive:=λ_=>Option Res) (aopF E e op H) (aopD bm E base i e op H) (isBirth bm op)
theorem aopDF_eq (bm:Bool)(E:Env)(base i:Nat)(e:Operand->Value)(op:Op)(H:Heap):aopDF bm E base i e op H=aopD bm E base i e op H:=by
 unfold aopDF;cases hb:isBirth bm op with
 |true=>rfl
 |false=>exact (aopF_eq E e op H).trans (aopD_of hb).symm
def pass1F (bm:Bool)(E:Env)(sem:FSem)(ops:Array Oper)(base:Nat)(l:List Oper):Nat->Tr Value->Heap->Nat->List DR->List Heap->Option (List DR×Tr Value×List Heap×Heap):=
 List.rec (motive:=λ_=>Nat->Tr Value->Heap->Nat->List DR->List Heap->Option (List DR×Tr Value×List Heap×Heap)) (λ_ T H _ rs hs=>some (rs,T,hs,H))
  (λo _ ih i T H k rs hs=>
   Option.rec (motive:=λ_=>Option (List DR×Tr Value×List Heap×Heap)) none
    (λb=>Bool.rec (motive:=λ_=>Option (List DR×Tr Value×List Heap×Heap)) (ih (i+1) (putT T o.dst undef) H k (⟨i,o,false,T,undef,k⟩::rs) hs)
     (Option.rec (motive:=λ_=>Option (List DR×Tr Value×List Heap×Heap)) none
      (λp=>Bool.rec (motive:=λ_=>Option (List DR×Tr Value×List Heap×Heap)) (ih (i+1) (putT T o.dst p.1) H k (⟨i,o,true,T,p.1,k⟩::rs) hs)
       (ih (i+1) (putT T o.dst p.1) p.2 (k+1) (⟨i,o,true,T,p.1,k⟩::rs) (hs++[p.2])) (isLoudD bm o.op))
      (resF sem (aopDF bm E base i (ev E T) o.op H) H)) b)
    (wantedA ops T o)) l
theorem pass1F_eq (bm:Bool)(E:Env)(sem:FSem)(ops:Array Oper)(base:Nat):∀(l:List Oper)(i:Nat)(T:Tr Value)(H:Heap)(k:Nat)(rs:List DR)(hs:List Heap),
  pass1F bm E sem ops base l i T H k rs hs=pass1 bm E sem ops base l i T H k rs hs
 |[],_,_,_,_,_,_=>rfl
 |o::l,i,T,H,k,rs,hs=>by
  have ih:=pass1F_eq bm E sem ops base l
  simp only [pass1]
  show Option.rec (motive:=λ_=>Option (List DR×Tr Value×List Heap×Heap)) none
    (λb=>Bool.rec (motive:=λ_=>Option (List DR×Tr Value×List Heap×Heap)) (pass1F bm E sem ops base l (i+1) (putT T o.dst undef) H k (⟨i,o,false,T,undef,k⟩::rs) hs)
     (Option.rec (motive:=λ_=>Option (List DR×Tr Value×List Heap×Heap)) none
      (λp=>Bool.rec (motive:=λ_=>Option (List DR×Tr Value×List Heap×Heap)) (pass1F bm E sem ops base l (i+1) (putT T o.dst p.1) H k (⟨i,o,true,T,p.1,k⟩::rs) hs)
       (pass1F bm E sem ops base l (i+1) (putT T o.dst p.1) p.2 (k+1) (⟨i,o,true,T,p.1,k⟩::rs) (hs++[p.2])) (isLoudD bm o.op))
      (resF sem (aopDF bm E base i (ev E T) o.op H) H)) b)
    (wantedA ops T o)=_
  rw [resF_eq,aopDF_eq]
  cases wantedA ops T o with
  |none=>rfl
  |some b=>cases b with
   |false=>exact ih _ _ _ _ _ _
   |true=>
    cases resA sem (aopD bm E base i (ev E T) o.op H) H with
    |none=>rfl
    |some p=>
     have⟨v,H'⟩:=p
     simp only
     cases isLoudD bm o.op with
     |true=>exact ih _ _ _ _ _ _
     |false=>exact ih _ _ _ _ _ _
def runDrawBF (bm:Bool)(E:Env)(sem:FSem)(ops:Array Oper)(os:List Obj)(s:St):Option St:=
 match preA bm E s.H.next ops.toList 0 os s.H.tr with
 |none=>none
 |some tr=>
  match pass1F bm E sem ops s.H.next ops.toList 0 s.T ⟨tr,s.H.next+ops.size⟩ 0 [] [⟨tr,s.H.next+ops.size⟩] with
  |some (rs,T,hs,H)=>bif quietOk bm E s.H.next (stricts bm ops (masksFrom ops.toList [])) (masksFrom ops.toList []) rs hs (hs.length - 1) rs then some ⟨T,H⟩ else none
  |none=>none
def runDrawF (E:Env)(sem:FSem)(ops:Array Oper)(s:St):Option St:=
 bif staticOk false ops then runDrawBF false E sem ops [] s
 else bif staticOk true ops then (match pass0 E sem ops s.H.next ops.toList 0 s.T ⟨s.H.tr,s.H.next+ops.size⟩ [] with
  |some os=>runDrawBF true E sem ops os s
  |none=>none)
 else none
theorem runDrawBF_eq (bm:Bool)(E:Env)(sem:FSem)(ops:Array Oper)(os:List Obj)(s:St):runDrawBF bm E sem ops os s=runDrawB bm E sem ops os s:=by
 unfold runDrawBF runDrawB;simp only [pass1F_eq]<;>rfl
theorem runDrawF_eq (E:Env)(sem:FSem)(ops:Array Oper)(s:St):runDrawF E sem ops s=runDraw E sem ops s:=by
 unfold runDrawF runDraw;simp only [runDrawBF_eq]<;>rfl
def thenF (k:St->Option (X×St))(r:Option (X×St)):Option (X×St):=
 Option.rec (motive:=λ_=>Option (X×St)) none (λp=>X.rec (motive:=λ_=>Option (X×St)) (k p.2) (λi=>some (.exit i,p.2)) (some (.ret,p.2)) p.1) r
def loopF (f:St->Option (X×St))(n:Nat):St->Option (X×St):=
 Nat.rec (motive:=λ_=>St->Option (X×St)) (λ_=>none) (λ_ ih s=>thenF ih (f s)) n
theorem loopF_eq (f g:St->Option (X×St))(h:∀s,f s=g s):∀(n:Nat)(s:St),loopF f n s=loopN g n s
 |0,s=>rfl
 |n+1,s=>by
  show thenF (loopF f n) (f s)=_
  rw [h]
  simp only [loopN]
  cases g s with
  |none=>rfl
  |some p=>
   have⟨x,s'⟩:=p
   cases x with
   |normal=>exact loopF_eq f g h n s'
   |exit i=>rfl
   |ret=>rfl
def runCodeF (E:Env)(sem:FSem)(n:Nat)(c:Code):St->Option (X×St):=
 Code.rec (motive:=λ_=>St->Option (X×St)) (λs=>some (.normal,s))
  (λ_ ops d s=>Option.rec (motive:=λ_=>Option (X×St)) none (λs'=>some (.normal,s')) (Bool.rec (motive:=λ_=>Option St) (runOpsF E sem ops ops.toList s) (runDrawF E sem ops s) d))
  (λ_ _ ia ib s=>thenF ib (ia s))
  (λc _ _ ia ib s=>match ev E s.T c with
   |.bool t=>Bool.rec (motive:=λ_=>Option (X×St)) (ib s) (ia s) t
   |_=>none)
  (λid _ ib s=>Option.rec (motive:=λ_=>Option (X×St)) none (λp=>X.rec (motive:=λ_=>Option (X×St)) (some (.normal,p.2)) (λj=>bif Nat.beq j id then some (.normal,p.2) else some (.exit j,p.2)) (some (.ret,p.2)) p.1) (ib s))
  (λ_ ib s=>loopF ib n s)
  (λ_ _ _ _ _ _ _=>none)
  (λid s=>some (.exit id,s))
  (λ_ ib s=>ib s)
  (λ_ s=>some (.normal,s))
  (λ_ _=>none)
  (λs=>some (.ret,s))
  (λ_ _=>none) c
theorem runCodeF_eq (E:Env)(sem:FSem)(n:Nat):∀(c:Code)(s:St),runCodeF E sem n c s=runCode E sem n c s:=by
 intro c
 induction c with
 |region id ops d=>
  intro s;show Option.rec (motive:=λ_=>Option (X×St)) none (λs'=>some (.normal,s')) (Bool.rec (motive:=λ_=>Option St) (runOpsF E sem ops ops.toList s) (runDrawF E sem ops s) d)=_;rw [runDrawF_eq];simp only [runCode];cases d with
  |true=>simp only [cond_true];cases runDraw E sem ops s<;>rfl
  |false=>simp only [cond_false];rw [runOpsF_eq];cases runOps E sem ops ops.toList s<;>rfl
 |seq a b iha ihb=>
  intro s;show thenF (runCodeF E sem n b) (runCodeF E sem n a s)=_;rw [iha,funext ihb];simp only [runCode];cases runCode E sem n a s with
  |none=>rfl
  |some p=>have⟨x,s'⟩:=p;cases x<;>rfl
 |cond c a b iha ihb=>
  intro s;show (match ev E s.T c with
   |.bool t=>Bool.rec (motive:=λ_=>Option (X×St)) (runCodeF E sem n b s) (runCodeF E sem n a s) t
   |_=>none)=_
  simp only [runCode];cases ev E s.T c with
  |bool t=>cases t with
   |true=>exact iha s
   |false=>exact ihb s
  |_=>rfl
 |block id a ih=>
  intro s;show Option.rec (motive:=λ_=>Option (X×St)) none (λp=>X.rec (motive:=λ_=>Option (X×St)) (some (.normal,p.2)) (λj=>bif Nat.beq j id then some (.normal,p.2) else some (.exit j,p.2)) (some (.ret,p.2)) p.1) (runCodeF E sem n a s)=_;rw [ih];simp only [runCode];cases runCode E sem n a s with
  |none=>rfl
  |some p=>have⟨x,s'⟩:=p;cases x<;>rfl
 |loop a ih=>
  intro s;show loopF (runCodeF E sem n a) n s=_;simp only [runCode];exact loopF_eq _ _ ih n s
 |scope a ih=>intro s;exact ih s
 |_=>intro s;rfl
def semF (E:Env)(n:Nat):FSem:=
 Nat.rec (motive:=λ_=>FSem) (λ_ _ _=>none)
  (λn ih f args H=>bif E.truth f&&args.isEmpty then some (.bool true,H) else match E.prim f with
   |some p=>p args H
   |none=>match E.fn f with
   |some fn=>match fn.body with
    |some c=>match initT fn args with
     |some T=>match runCodeF E ih n c ⟨T,H⟩ with
      |some (.normal,s)=>(resultsL E s fn.results.toList).map λvs=>(resultOf vs,s.H)
      |some (.ret,s)=>(resultsL E s fn.results.toList).map λvs=>(resultOf vs,s.H)
      |_=>none
     |none=>none
    |none=>none
   |none=>none) n
theorem semF_eq (E:Env):∀n,semF E n=sem E n
 |0=>rfl
 |n+1=>by
  have ih:=semF_eq E n
  funext f args H
  show (bif E.truth f&&args.isEmpty then some (.bool true,H) else match E.prim f with
   |some p=>p args H
   |none=>match E.fn f with
   |some fn=>match fn.body with
    |some c=>match initT fn args with
     |some T=>match runCodeF E (semF E n) n c ⟨T,H⟩ with
      |some (.normal,s)=>(resultsL E s fn.results.toList).map λvs=>(resultOf vs,s.H)
      |some (.ret,s)=>(resultsL E s fn.results.toList).map λvs=>(resultOf vs,s.H)
      |_=>none
     |none=>none
    |none=>none
   |none=>none)=_
  rw [ih]
  simp only [runCodeF_eq,sem]<;>rfl
end
theorem closed_callsF {E:Env}(hE:E.Ok)(hmix:E.prog.follows .mixedOrders=true){n f:Nat}(h:(semF E n f [] (heap0 E)).map (·.1)=some (.bool true))(w:World) :
  Calls E.prog f #[] w λe w'=>e=.returned (.bool true)/\Below w.heap.size w w':=closed_calls hE hmix (by rw [<-semF_eq];exact h) w
end
end Go.AS
namespace Go.Proofs.YtjggeoghlicmdaaGreat
open Go.AS
section
noncomputable def tys:Tr TypeInfo:=Tr.ofListFrom Tryz.prog.types.toList 0 .nil
noncomputable def fns:Tr Func:=Tr.ofListFrom Tryz.prog.funcs.toList 0 .nil
noncomputable def env:Env:=Env.of Tryz.prog tys fns [166] [297]
theorem env_ok:env.Ok:=by
 refine Env.of_ok rfl rfl (by kernel_rfl) (by kernel_rfl) ?_;intro f hf;simp only [List.mem_cons,List.not_mem_nil,or_false] at hf;subst hf;exact ⟨Tryz.f297,by kernel_rfl,by kernel_rfl,by kernel_rfl,by kernel_rfl,by kernel_rfl⟩
theorem env_mix:env.prog.follows .mixedOrders=true:=Checked.mixed Tryz.checked
end
end Go.Proofs.YtjggeoghlicmdaaGreat
namespace Go.AS
open Go.RowKit
section
def numI:Value->Int
 |.int _ n=>n
 |_=>0
def isU:Value->Bool
 |.int .u64 _=>true
 |_=>false
def srtI (l:List Int):List Int:=l.mergeSort λa b=>decide (a<=b)
noncomputable def sortP (g:FuncId):List Value->Heap->Option (Value×Heap)
 |[.slice a len _,.func (.func f) ⟨[]⟩ ⟨[]⟩],H=>bif Nat.beq f g then
   (if len=0 then some (.tuple ⟨[]⟩,H) else match a with
    |some ⟨i,0,none⟩=>match H.get i with
     |some (.cells true 1 c)=>if c.length=len/\len<=16777216/\c.all isU=true then some (.tuple ⟨[]⟩,H.set i (.cells true 1 ((srtI (c.map numI)).map (Value.int .u64)))) else none
     |_=>none
    |_=>none) else none
 |_,_=>none
end
open Go.RowKit Go.Proofs Go.Sort
section
structure DoesSort (P:Program)(f g:FuncId):Prop where
 some:∀(blk off cap:Nat)(d:Array Int)(w:World),Holds (Value.int .u64) w blk off d->blk<w.heap.size->d.size<4611686018427387904->
  Calls P f #[.slice (Option.some ⟨blk,off,Option.none⟩) d.size cap,.func (.func g) #[] #[]] w λe w'=>e=.returned (.tuple #[])/\∃n os,w'=sortWorld (Value.int .u64) w blk off n (srtI d.toList).toArray os
 none:∀(p:Option Addr)(cap:Nat)(fv:Value)(w:World),Calls P f #[.slice p 0 cap,fv] w λe w'=>e=.returned (.tuple #[])/\w'=w
theorem sortWorld_heap {w:World}{blk off n:Nat}{d:Array Int}{os:Array Go.Obj}(hb:blk<w.heap.size) :
  (∀k,k≠blk->k<w.heap.size->(sortWorld (Value.int .u64) w blk off n d os).heap[k]? =w.heap[k]?)/\
  (sortWorld (Value.int .u64) w blk off n d os).heap[blk]? =(w.heap[blk]?).map (onCells (putCells (Value.int .u64) off d))/\
  w.heap.size<=(sortWorld (Value.int .u64) w blk off n d os).heap.size:=by
 have e1:∀k,k<w.heap.size->(sortWorld (Value.int .u64) w blk off n d os).heap[k]? =if blk=k then (w.heap[k]?).map (onCells (putCells (Value.int .u64) off d)) else w.heap[k]? :=λk hk=>by
  show (w.heap.modify blk (onCells (putCells (Value.int .u64) off d))++os)[k]? =_;rw [Array.getElem?_append_left (by simpa using hk),Array.getElem?_modify]
 refine ⟨λk h1 h2=>?_,?_,?_⟩
 ·rw [e1 k h2,if_neg (Ne.symm h1)]
 ·rw [e1 blk hb,if_pos rfl]
 ·show w.heap.size<=(w.heap.modify blk _++os).size;simp
theorem sortP_ok {E:Env}{f g:FuncId}(hs:DoesSort E.prog f g):PrimOK E f (sortP g):=by
 intro B0 args H v H' h μ w ARGS hH ha;unfold sortP at h;split at h
 case h_2=>cases h
 rename_i a len cp f';cases hf:Nat.beq f' g with
 |false=>rw [hf] at h;cases h
 |true=>
  rw [hf] at h;obtain rfl:=Nat.eq_of_beq_eq_true hf;simp only [cond_true] at h;have⟨A,hA⟩:∃A,ARGS=⟨A⟩:=⟨ARGS.toList,rfl⟩;subst hA;have ha:VRels μ [.slice a len cp,.func (.func f') ⟨[]⟩ ⟨[]⟩] A:=ha;cases ha with
  |cons h0 hs1=>
   cases hs1 with
   |cons h1 hs2=>
    cases hs2
    cases h1 with
    |@func _ fs FSz cs CS k1 k2=>
     have eF:FSz= #[]:=by cases FSz with|mk l=>cases k1;rfl
     have eC:CS= #[]:=by cases CS with|mk l=>cases k2;rfl
     subst eF;subst eC;by_cases hl:len=0
     ·subst hl;rw [if_pos rfl] at h;simp only [Option.some.injEq,Prod.mk.injEq] at h;obtain ⟨rfl,rfl⟩:=h;have key:∀p cap,Calls E.prog f #[.slice p 0 cap,.func (.func f') #[] #[]] w λe w'=>∃V μ',e=.returned V/\Grow H μ H μ'/\VRel μ' (.tuple ⟨[]⟩) V/\HRel E B0 μ' H w'/\Below B0 w w':=λp cap=>
       (hs.none p cap _ w).mono λe w' ⟨h1,h2⟩=>by subst h2;exact ⟨_,μ,h1,Grow.refl _ _,.tuple .nil,hH,Below.refl _ _⟩
      cases h0 with
      |sliceNil=>exact key _ _
      |slice h hl hr=>exact key _ _
      |sliceEnd h ho=>exact key _ _
     ·rw [if_neg hl] at h;split at h
      case h_2=>cases h
      rename_i i;split at h
      case h_2=>cases h
      rename_i c hg;split at h
      case isFalse=>cases h
      rename_i hc;have⟨hlen,hle,hu⟩:=hc;simp only [Option.some.injEq,Prod.mk.injEq] at h;obtain ⟨rfl,rfl⟩:=h;cases h0 with
      |sliceEnd h ho=>exact absurd rfl hl
      |@slice _ _ _ _ cap L hm hlc hr=>
       have⟨L',C,el,k1,k2,k3,k4,k5,k6,k7,k8⟩:=hH.obj i _ hg ⟨_,hm⟩;rw [hm] at k1;injection k1 with k1;subst k1
       have hblk:L.blk<w.heap.size:=by
        rcases Nat.lt_or_ge L.blk w.heap.size with h|h
        ·exact h
        ·rw [Array.getElem?_eq_none h] at k4;cases k4
       have hcell:∀j n,(c.map numI)[j]? =some n->C[L.off+j]? =some (.int .u64 n):=λj n hj=>by
        rw [List.getElem?_map] at hj;cases hcj:c[j]? with
        |none=>rw [hcj] at hj;cases hj
        |some x=>
         rw [hcj] at hj;simp only [Option.map_some,Option.some.injEq] at hj;have⟨V,h1,h2⟩:=k7 j x hcj;rw [List.all_eq_true] at hu;have hx:=hu x (List.mem_of_getElem? hcj);cases x with
         |int k m=>
          cases k<;>first|(cases hx;done)|skip
          cases h2
          subst hj;exact h1
         |_=>cases hx
       have hD:((c.map numI).toArray).size=len:=by simp [hlen]
       have hH0:Holds (Value.int .u64) w L.blk (L.off+0) (c.map numI).toArray:=λj hj=>by
        have hj':j<(c.map numI).length:=by simpa using hj
        have h1:=hcell j _ (List.getElem?_eq_getElem hj');refine ⟨?_,?_⟩
        ·show (match w.heap[L.blk]? with|some (.cells c _ _)=>if (none:Option _).isSome then none else c[L.off+0+j]? |_=>none)=_;rw [k4,Nat.add_zero];simp only [Option.isSome_none,Bool.false_eq_true,if_false];rw [h1]
         congr 2
         rw [getElem!_pos _ j hj];simp
        ·unfold World.frozen?;rw [k4];simp
       have hcall:=hs.some L.blk (L.off+0) cap (c.map numI).toArray w hH0 hblk (by rw [hD];omega);rw [hD] at hcall;refine hcall.mono ?_;rintro e w' ⟨rfl,n,os,rfl⟩;have⟨g1,g2,g3⟩:=sortWorld_heap (w:=w) (blk:=L.blk) (off:=L.off+0) (n:=n) (d:=(srtI (c.map numI)).toArray) (os:=os) hblk;rw [k4] at g2;have hsl:(srtI (c.map numI)).length=len:=by unfold srtI;rw [List.length_mergeSort,List.length_map,hlen]
       refine ⟨_,μ,rfl,Grow.same μ rfl,.tuple .nil,?_,⟨rfl,rfl,rfl,g3,λk hk=>g1 k (by omega) (Nat.lt_of_lt_of_le hk hH.base)⟩⟩;have hj0:HRel E B0 μ (H.set i (.cells true 1 ((srtI (c.map numI)).map (Value.int .u64)))) {w with heap:=w.heap.modify L.blk (onCells (putCells (Value.int .u64) (L.off+0) (srtI (c.map numI)).toArray))}:=by
        refine hH.put hg rfl rfl hm (λk hk=>?_) (by simp) ⟨L,putCells (Value.int .u64) (L.off+0) (srtI (c.map numI)).toArray C,el,hm,k2,k3,?_,by rw [List.length_map];omega,?_,λj x hx=>?_,?_⟩
        ·show (w.heap.modify _ _)[k]? =_;rw [Array.getElem?_modify,if_neg (Ne.symm hk)]
        ·show (w.heap.modify _ _)[L.blk]? =_;rw [Array.getElem?_modify,if_pos rfl,k4];rfl
        ·unfold putCells;rw [Array.size_mapIdx];exact k6
        ·rw [List.getElem?_map] at hx;cases hs2:(srtI (c.map numI))[j]? with
         |none=>rw [hs2] at hx;cases hx
         |some m=>
          rw [hs2] at hx;simp only [Option.map_some,Option.some.injEq] at hx;subst hx;have hj:j<(srtI (c.map numI)).length:=(List.getElem?_eq_some_iff.1 hs2).1;have hCs:L.off+j<C.size:=by omega
          refine ⟨.int .u64 m,?_,.int _ _⟩;unfold putCells;rw [Array.getElem?_mapIdx,Array.getElem?_eq_getElem hCs];simp only [Option.map_some,Option.some.injEq,Nat.add_zero];rw [if_pos ⟨by omega,by simp;omega⟩];have e0:L.off+j - L.off=j:=by omega
          rw [e0,getElem!_pos _ j (by simpa using hj)]
          have:=(List.getElem?_eq_some_iff.1 hs2).2
          simp [this]
        ·rw [List.all_eq_true];intro x hx;obtain ⟨m,_,rfl⟩:=List.mem_map.1 hx;rfl
       refine hj0.world (λk hk=>?_) ?_
       ·show (w.heap.modify L.blk _++os)[k]? =(w.heap.modify L.blk _)[k]?;rw [Array.getElem?_append_left hk]
       ·show (w.heap.modify L.blk _).size<=(w.heap.modify L.blk _++os).size;simp
end
end Go.AS
namespace Go.Proofs.YtjggeoghlicmdaaGreat
open Go Go.Proofs Go.Shelf Go.RowKit Go.Lib Go.Sort
section
def sortL_ren:Go.Shelf.Ren:=⟨fun|6=>97|15=>153|14=>152|28=>211|29=>212|20=>203|21=>204|22=>205|23=>206|24=>207|25=>208|26=>209|27=>210|46=>266|47=>267|48=>268|49=>269|50=>270|57=>294|n=>n,fun|22=>22|24=>32|25=>173|3=>3|39=>53|0=>0|53=>244|55=>32|4=>4|46=>237|45=>236|50=>241|5=>5|9=>9|66=>264|70=>268|76=>280|77=>42|n=>n,fun|n=>n⟩
theorem sortL : Go.Proofs.SlLaysF.n6 Tryz.prog sortL_ren where
  mixed := by kernel_rfl
  f6 := ⟨Tryz.f97.name, by kernel_rfl, Tryz.func97.trans (congrArg some (by kernel_rfl))⟩
  f14 := ⟨Tryz.f152.name, by kernel_rfl, Tryz.func152.trans (congrArg some (by kernel_rfl))⟩
  f15 := Tryz.func153.trans (congrArg some (by kernel_rfl))
  f20 := ⟨Tryz.f203.name, by kernel_rfl, Tryz.func203.trans (congrArg some (by kernel_rfl))⟩
  f21 := ⟨Tryz.f204.name, by kernel_rfl, Tryz.func204.trans (congrArg some (by kernel_rfl))⟩
  f22 := ⟨Tryz.f205.name, by kernel_rfl, Tryz.func205.trans (congrArg some (by kernel_rfl))⟩
  f23 := ⟨Tryz.f206.name, by kernel_rfl, Tryz.func206.trans (congrArg some (by kernel_rfl))⟩
  f24 := ⟨Tryz.f207.name, by kernel_rfl, Tryz.func207.trans (congrArg some (by kernel_rfl))⟩
  f25 := ⟨Tryz.f208.name, by kernel_rfl, Tryz.func208.trans (congrArg some (by kernel_rfl))⟩
  f26 := ⟨Tryz.f209.name, by kernel_rfl, Tryz.func209.trans (congrArg some (by kernel_rfl))⟩
  f27 := ⟨Tryz.f210.name, by kernel_rfl, Tryz.func210.trans (congrArg some (by kernel_rfl))⟩
  f28 := Tryz.func211.trans (congrArg some (by kernel_rfl))
  f29 := Tryz.func212.trans (congrArg some (by kernel_rfl))
  f46 := ⟨Tryz.f266.name, by kernel_rfl, Tryz.func266.trans (congrArg some (by kernel_rfl))⟩
  f47 := Tryz.func267.trans (congrArg some (by kernel_rfl))
  f48 := Tryz.func268.trans (congrArg some (by kernel_rfl))
  f49 := ⟨Tryz.f269.name, by kernel_rfl, Tryz.func269.trans (congrArg some (by kernel_rfl))⟩
  f50 := ⟨Tryz.f270.name, by kernel_rfl, Tryz.func270.trans (congrArg some (by kernel_rfl))⟩
  f57 := ⟨Tryz.f294.name, by kernel_rfl, Tryz.func294.trans (congrArg some (by kernel_rfl))⟩
  t0 := Tryz.underlying0
  a0 := Tryz.isAgg0
  z0 := Tryz.sizeOf0
  v0 := Tryz.zeroValue0
  t3 := Tryz.underlying3
  a3 := Tryz.isAgg3
  z3 := Tryz.sizeOf3
  v3 := Tryz.zeroValue3
  t4 := Tryz.underlying4
  a4 := Tryz.isAgg4
  z4 := Tryz.sizeOf4
  v4 := Tryz.zeroValue4
  t5 := Tryz.underlying5
  a5 := Tryz.isAgg5
  z5 := Tryz.sizeOf5
  v5 := Tryz.zeroValue5
  t9 := Tryz.underlying9
  a9 := Tryz.isAgg9
  z9 := Tryz.sizeOf9
  v9 := Tryz.zeroValue9
  t22 := Tryz.underlying22
  a22 := Tryz.isAgg22
  z22 := Tryz.sizeOf22
  v22 := Tryz.zeroValue22
  a24 := Tryz.isAgg32
  z24 := Tryz.sizeOf32
  t25 := Tryz.underlying173
  a25 := Tryz.isAgg173
  z25 := Tryz.sizeOf173
  v25 := Tryz.zeroValue173
  t39 := Tryz.underlying53
  a39 := Tryz.isAgg53
  z39 := Tryz.sizeOf53
  v39 := Tryz.zeroValue53
  t45 := Tryz.underlying236
  a45 := Tryz.isAgg236
  z45 := Tryz.sizeOf236
  v45 := Tryz.zeroValue236
  t46 := Tryz.underlying237
  a46 := Tryz.isAgg237
  z46 := Tryz.sizeOf237
  v46 := Tryz.zeroValue237
  t50 := Tryz.underlying241
  a50 := Tryz.isAgg241
  z50 := Tryz.sizeOf241
  v50 := Tryz.zeroValue241
  t53 := Tryz.underlying244
  a53 := Tryz.isAgg244
  z53 := Tryz.sizeOf244
  v53 := Tryz.zeroValue244
  t55 := Tryz.underlying32
  a55 := Tryz.isAgg32
  z55 := Tryz.sizeOf32
  v55 := Tryz.zeroValue32
  t66 := Tryz.underlying264
  a66 := Tryz.isAgg264
  z66 := Tryz.sizeOf264
  v66 := Tryz.zeroValue264
  t70 := Tryz.underlying268
  a70 := Tryz.isAgg268
  z70 := Tryz.sizeOf268
  v70 := Tryz.zeroValue268
  t76 := Tryz.underlying280
  a76 := Tryz.isAgg280
  z76 := Tryz.sizeOf280
  v76 := Tryz.zeroValue280
  t77 := Tryz.underlying42
  a77 := Tryz.isAgg42
  z77 := Tryz.sizeOf42
  v77 := Tryz.zeroValue42
theorem ltU (x y:Int):ltOf Lib.compareInt x y=decide (x<y):=by
 unfold ltOf Lib.compareInt;by_cases h1:x<y
 ·simp [h1]
 ·by_cases h2:y<x<;>simp [h1,h2]
theorem swoU:SWO (ltOf Lib.compareInt) where
 irrefl x:=by rw [ltU];simp
 trans x y z h1 h2:=by rw [ltU] at *;simp at *;omega
 ntrans x y z h1 h2:=by rw [ltU] at *;simp at *;omega
theorem totU (x y:Int)(h1:ltOf Lib.compareInt x y=false)(h2:ltOf Lib.compareInt y x=false):x=y:=by rw [ltU] at *;simp at *;omega
theorem geU:(λx y:Int=> !ltOf Lib.compareInt y x)=λx y=>decide (x<=y):=by
 funext x y
 rw [ltU];by_cases h:x<=y
 ·have h':¬y<x:=by omega
  simp [h,h']
 ·have h':y<x:=by omega
  simp [h,h']
theorem isnanU (x:Int)(w:World):Calls Tryz.prog 154 #[.int .u64 x] w λe w'=>e=.returned (.bool false)/\w'=w:=by
 go_enter Tryz.func154,Tryz.ntmps154
 go_wp2
 go_ret
 exact ⟨by simp,rfl⟩
set_option maxHeartbeats 1000000 in
theorem cmpU (x y:Int)(w:World):Calls Tryz.prog 98 #[.int .u64 x,.int .u64 y] w λe w'=>e=.returned (.int .i64 (Lib.compareInt x y))/\w'=w:=by
 go_enter Tryz.func98,Tryz.ntmps98
 go_wp2_with (go_at_call 154;refine (isnanU _ _).mono ?_;rintro e w' ⟨rfl,hw⟩;rw [hw])
 all_goals (go_ret;refine ⟨?_,rfl⟩;unfold Lib.compareInt;(repeat' split)<;>first|rfl|(exfalso;omega))
theorem cmpReadsU (blk off size:Nat)(w:World):CmpReads Tryz.prog 98 #[] (Value.int .u64) Lib.compareInt blk off size w:=λ_ _ _ _ x y=>(cmpU x y _).mono λe w' ⟨h1,h2⟩=>⟨h1,0,h2⟩
theorem sorts:Go.AS.DoesSort env.prog 97 98 where
 some blk off cap d w hH hb hsz:=by
  have eg:∀args w,(callFunc 98 args).run Tryz.prog w=.ok (.enter 98 args) w:=enters_of Tryz.func98 (by kernel_rfl) rfl;have hS:=Any.slices_SortFunc_total sortL (Value.int .u64) (λ_=>rfl) Lib.compareInt swoU 98 #[] blk off cap d w eg (cmpReadsU blk off d.size w).lays hH hb hsz totU;rw [geU] at hS;exact hS
 none p cap fv w:=AnyF.slices_SortFunc_none (P:=Tryz.prog) (ρ:=sortL_ren) {sortL with} p cap fv w
end
open Go.AS Go.RowKit
section
theorem ran11:(semF env 1000 11 [] (heap0 env)).map (·.1)=some (.bool true):=by kernel_rfl
theorem ran30:(semF env 1000 30 [] (heap0 env)).map (·.1)=some (.bool true):=by kernel_rfl
noncomputable def en:Env:=(env.knows [11,30]).doing 97 (sortP 98)
theorem en_ok:en.Ok:=by
 refine Env.doing_ok (Env.knows_ok env_ok ?_) (sortP_ok (E:=env.knows [11,30]) sorts);intro f hf w;simp only [List.mem_cons,List.not_mem_nil,or_false] at hf;rcases hf with rfl|rfl
 ·exact closed_callsF env_ok env_mix ran11 w
 ·exact closed_callsF env_ok env_mix ran30 w
theorem en_mix:en.prog.follows .mixedOrders=true:=Checked.mixed Tryz.checked
end
end Go.Proofs.YtjggeoghlicmdaaGreat
