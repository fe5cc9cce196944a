/-
  hashAgrees.proved: part 1 of its proof. No condition.
  Written by a program out of the texts As1 As2 As3 As4 As5 As6 As7 As8 As9 As10 As11 As13 Env Truths Names As12.
-/
import Derived.Tactics
import Derived.Orders
import Derived.LoopN
import Derived.Scope
import Derived.Below
import Derived.Laws.CopyRow
import Derived.Laws.NewBlocks
import Derived.Laws.AppendOwn
import Derived.Laws.MakeOwn
import Derived.Laws.StructEq
import Derived.Laws.Build
import Derived.Test.YtjggeoghlicmdaaGreatRows
import Derived.Eval
set_option linter.unusedVariables false
namespace Go
section
abbrev Fv:=@Nat.le_max_left
abbrev Io:=@BitVec.toNat_ofNat
abbrev Iq:=@Bool.false_eq_true
abbrev Nv:=@List.take_of_length_le
abbrev SQ:=@List.take_append_of_le_length
abbrev zA:=@Nat.le_succ
abbrev FE:=@Array.toList_inj
abbrev Nw:=@List.getElem?_replicate
abbrev zC:=@List.map_set
abbrev Is:=@List.pairwise_append
abbrev pc:=@if_true
abbrev C7:=@List.append_nil
abbrev A_:=@List.drop_drop
abbrev Ng:=@List.eraseIdx_of_length_le
abbrev Fy:=@List.filter_append
abbrev C8:=@Array.toList_map
abbrev C9:=@List.length_drop
abbrev C_:=@Nat.le_max_right
abbrev Da:=@Nat.mod_eq_of_lt
abbrev x6:=@Nat.sub_self
abbrev Bc:=@decide_eq_false
abbrev Dd:=@Bool.not_eq_true'
abbrev wK:=@Nat.le_trans
abbrev De:=@Nat.lt_of_lt_of_le
abbrev Df:=@decide_eq_true_iff
abbrev FC:=@List.perm_append_comm
abbrev zj:=@List.cons.injEq
abbrev Dg:=@List.filter_eq_self
abbrev Ip:=@Int.fdiv_eq_ediv_of_nonneg
abbrev rP:=@beq_iff_eq
abbrev x8:=@decide_eq_true
abbrev Ir:=@List.perm_append_comm_assoc
abbrev zk:=@List.mem_flatMap
abbrev zo:=@List.mem_flatten
abbrev zr:=@Option.getD_some
abbrev Bd:=@List.getElem?_drop
abbrev Be:=@List.getElem?_take
abbrev Bf:=@List.pairwise_cons
abbrev Dh:=@List.getElem?_zipWith
abbrev Di:=@Nat.ne_of_beq_eq_false
abbrev wL:=@List.mem_filter
abbrev x9:=@List.ext_getElem?
abbrev wM:=@List.take_length
abbrev FD:=@List.drop_append_of_le_length
abbrev zw:=@List.mem_iff_getElem
abbrev Dj:=@Int.tmod_eq_emod_of_nonneg
abbrev Bg:=@Option.bind_eq_some_iff
abbrev ou:=@Nat.mul_one
abbrev Bh:=@List.eq_of_mem_replicate
abbrev vC:=@List.take_add_one
abbrev x_:=@Nat.mul_le_mul_right
abbrev rQ:=@List.nil_append
abbrev mB:=@Nat.add_mul
abbrev Bi:=@Array.getD_eq_getD_getElem?
abbrev zx:=@Array.getElem?_eq_getElem
abbrev zy:=@List.drop_eq_getElem_cons
abbrev wN:=@List.take_append_drop
abbrev rR:=@List.cons_append
abbrev s_:=@List.flatten_cons
abbrev hZ:=@congrArg
abbrev uA:=@Array.length_toList
abbrev p7:=@Bool.eq_iff_iff
abbrev qU:=@List.all_eq_true
abbrev pf:=@List.perm_middle
abbrev ya:=@List.getElem?_append_right
abbrev vD:=@List.getElem?_set_self
abbrev zB:=@List.eq_nil_of_length_eq_zero
abbrev td:=@List.getElem?_set_ne
abbrev nM:=@List.length_nil
abbrev lL:=@List.map_cons
abbrev tf:=@BitVec.eq_of_toNat_eq
abbrev tg:=@Array.getElem?_eq_none
abbrev rS:=@Array.getElem?_toList
abbrev qV:=@List.getElem?_of_mem
abbrev uB:=@List.getElem?_append_left
abbrev l_:=@List.nodup_cons
abbrev h_:=@Nat.zero_le
abbrev iY:=@Nat.lt_or_ge
abbrev mC:=@List.append_assoc
abbrev mD:=@List.getElem?_set
abbrev rT:=@Classical.byContradiction
abbrev iF:=@Prod.mk.injEq
abbrev km:=@List.length_take
abbrev nN:=@Nat.eq_of_beq_eq_true
abbrev mc:=@beq_eq_false_iff_ne
abbrev jX:=@Bool.and_eq_true
abbrev mE:=@List.mem_append_right
abbrev jY:=@Bool.false_ne_true
abbrev jG:=@List.nodup_append
abbrev jg:=@List.getElem?_map
abbrev gT:=@List.length_set
abbrev gU:=@List.length_cons
abbrev gb:=@List.length_map
abbrev dU:=@List.mem_cons
abbrev jh:=@List.mem_cons_of_mem
abbrev iZ:=@List.mem_append_left
abbrev fh:=@List.map_append
abbrev ji:=@List.getElem?_eq_none
abbrev fa:=@Option.map_some
abbrev gf:=@decide_eq_true_eq
abbrev ga:=@of_decide_eq_true
abbrev cL:=@List.mem_map
abbrev jF:=@decide_eq_false_iff_not
abbrev dV:=@List.mem_append
abbrev cG:=@Nat.zero_add
abbrev dM:=@Option.some.inj
abbrev fQ:=@of_decide_eq_false
abbrev fo:=@List.mem_singleton
abbrev e_:=@List.length_append
abbrev dr:=@Int.toNat_natCast
abbrev bq:=@Nat.le_refl
abbrev gu:=@List.getD_eq_getElem?_getD
abbrev dF:=@List.mem_of_getElem?
abbrev bP:=@Option.bind_some
abbrev dG:=@Option.isSome_iff_exists
abbrev ar:=@if_pos
abbrev cM:=@List.getElem?_eq_getElem
abbrev an:=@if_neg
abbrev bc:=@Option.some.injEq
abbrev bJ:=@List.getElem?_eq_some_iff
abbrev aS:=@Nat.le_of_ble_eq_true
abbrev bQ:=@cond_true
abbrev cQ:=@cond_false
abbrev M8:=@List.set_append_right
abbrev Sn:=@List.pairwise_iff_getElem
abbrev So:=@Nat.shiftRight_eq_div_pow
abbrev Sp:=@List.getElem?_take_of_lt
abbrev Sq:=@List.set_eq_of_length_le
abbrev Sr:=@List.eraseIdx_cons_succ
abbrev M9:=@List.map_congr_left
abbrev M_:=@List.filter_sublist
abbrev Na:=@List.getD_cons_succ
abbrev Nb:=@List.getD_cons_zero
abbrev Ia:=@List.any_eq_true
abbrev Ib:=@List.not_mem_nil
abbrev Ic:=@Nat.le_add_right
abbrev Nc:=@Nat.eq_zero_or_pos
abbrev Nd:=@List.set_cons_zero
abbrev Nf:=@List.set_cons_succ
abbrev Ba:=@Nat.one_mul
abbrev Su:=@BitVec.getLsbD_twoPow
abbrev Sv:=@List.length_replicate
abbrev Fw:=@Nat.add_assoc
abbrev zi:=@bne_iff_ne
abbrev Fx:=@List.sum_cons
abbrev aao:=@Array.getElem?_append_left
abbrev Sw:=@List.getElem?_append
abbrev Sx:=@List.mem_of_mem_take
abbrev Sy:=@Array.map_congr_left
abbrev Sz:=@Bool.or_eq_false_iff
abbrev SA:=@List.mem_of_getLast?
abbrev aap:=@List.mem_or_eq_of_mem_set
abbrev Ie:=@List.mem_range
abbrev Ig:=@List.drop_zero
abbrev Ih:=@List.Perm.refl
abbrev Nh:=@Nat.le_of_not_lt
abbrev Ni:=@List.filter_cons
abbrev Nj:=@List.drop_length
abbrev Nk:=@BitVec.toNat_add
abbrev SB:=@List.mem_map_of_mem
abbrev SC:=@List.replicate_succ
abbrev SD:=@List.flatten_append
abbrev Fz:=@Nat.add_zero
abbrev FA:=@List.map_nil
abbrev aaq:=@BitVec.toNat_ushiftRight
abbrev Nl:=@Nat.min_eq_left
abbrev Nn:=@Bool.or_eq_true
abbrev Ii:=@Bool.not_true
abbrev No:=@List.range_succ
abbrev Ij:=@Bool.true_and
abbrev SE:=@List.findIdx?_cons
abbrev SF:=@BitVec.toNat_ofInt
abbrev Np:=@Int.emod_nonneg
abbrev SG:=@Nat.lt_or_gt_of_ne
abbrev SH:=@List.find?_eq_none
abbrev aar:=@BitVec.eq_of_getLsbD_eq
abbrev SI:=@Bool.not_eq_false'
abbrev amE:=@List.set_eq_take_append_cons_drop
abbrev aas:=@Option.map_eq_some_iff
abbrev amF:=@Array.getElem?_setIfInBounds_ne
abbrev SJ:=@List.reverse_cons
abbrev Ik:=@Nat.add_comm
abbrev Il:=@List.map_map
abbrev aat:=@List.length_singleton
abbrev Im:=@List.set_set
abbrev SK:=@Nat.lt_succ_self
abbrev SL:=@List.getElem_mem
abbrev aau:=@List.getLast?_concat
abbrev Nq:=@List.all_cons
abbrev amG:=@Array.getElem?_setIfInBounds
abbrev amH:=@List.mem_zipIdx_iff_getElem?
abbrev Nr:=@Bool.or_false
abbrev FB:=@Nat.mod_lt
abbrev aav:=@List.reverse_append
abbrev aaw:=@List.drop_succ_cons
abbrev aax:=@List.take_set_of_le
abbrev aay:=@bne_eq_false_iff_eq
abbrev aaz:=@Nat.mul_le_mul_left
abbrev Bb:=@if_false
abbrev Ns:=@Nat.succ_mul
abbrev aaA:=@BitVec.and_allOnes
abbrev aaB:=@List.mem_cons_self
abbrev x7:=@Ne.symm
abbrev SM:=@List.nodup_nil
abbrev SN:=@Nat.mul_le_mul
abbrev aaC:=@BitVec.getLsbD_or
abbrev aaD:=@Bool.not_eq_false
abbrev aaE:=@List.flatMap_cons
abbrev Nt:=@Nat.mul_pos
abbrev Db:=@or_false
abbrev aaF:=@List.reverse_nil
abbrev aaG:=@List.Sublist.map
abbrev aaH:=@BitVec.ofNat_add
abbrev aaI:=@BitVec.add_assoc
abbrev SO:=@Nat.zero_mul
abbrev SP:=@decide_false
abbrev Nu:=@not_exists
end
end Go
namespace Go.AS
section
inductive Tr (α:Type) where
 |nil
 |node (v:Option α)(l r:Tr α)
noncomputable def Tr.get {α:Type} (t:Tr α):Nat->Option α:=
 Tr.rec (motive:=λ_=>Nat->Option α) (λ_=>none)
  (λv _ _ il ir n=>Nat.rec (motive:=λ_=>Option α) v (λm _=>bif Nat.beq (Nat.mod m 2) 0 then il (Nat.div m 2) else ir (Nat.div m 2)) n) t
noncomputable def Tr.one {α:Type}(v:α)(f:Nat):Nat->Tr α:=
 Nat.rec (motive:=λ_=>Nat->Tr α) (λ_=>.node (some v) .nil .nil)
  (λ_ ih n=>Nat.rec (motive:=λ_=>Tr α) (.node (some v) .nil .nil) (λm _=>bif Nat.beq (Nat.mod m 2) 0 then .node none (ih (Nat.div m 2)) .nil else .node none .nil (ih (Nat.div m 2))) n) f
noncomputable def Tr.put {α:Type}(t:Tr α):Nat->α->Tr α:=
 Tr.rec (motive:=λ_=>Nat->α->Tr α) (λn v=>Tr.one v n n)
  (λo l r il ir n v=>Nat.rec (motive:=λ_=>Tr α) (.node (some v) l r) (λm _=>bif Nat.beq (Nat.mod m 2) 0 then .node o (il (Nat.div m 2) v) r else .node o l (ir (Nat.div m 2) v)) n) t
noncomputable def Tr.dt {α:Type}(t:Tr α):Nat->α->Tr α:=
 Tr.rec (motive:=λ_=>Nat->α->Tr α) (λ_ _=>.nil)
  (λo l r il ir n v=>Nat.rec (motive:=λ_=>Tr α) (.node (Option.rec none (λ_=>some v) o) l r) (λm _=>bif Nat.beq (Nat.mod m 2) 0 then .node o (il (Nat.div m 2) v) r else .node o l (ir (Nat.div m 2) v)) n) t
noncomputable def Tr.fill {α:Type}(v:α)(f:Nat):Nat->Tr α:=
 Nat.rec (motive:=λ_=>Nat->Tr α) (λ_=>.nil)
  (λ_ ih n=>Nat.rec (motive:=λ_=>Tr α) .nil (λm _=>.node (some v) (ih (Nat.div (m+1) 2)) (ih (Nat.div m 2))) n) f
noncomputable def Tr.CM {α:Type}(l:List α):Nat->Tr α->Tr α:=
 List.rec (motive:=λ_=>Nat->Tr α->Tr α) (λ_ t=>t) (λx _ ih n t=>ih (n+1) (t.put n x)) l
noncomputable def Tr.uw {α:Type}(l:List α):Nat->Tr α->Tr α:=
 List.rec (motive:=λ_=>Nat->Tr α->Tr α) (λ_ t=>t) (λx _ ih n t=>ih (n+1) (t.dt n x)) l
section
variable {α:Type}
theorem Tr.get_nil (n:Nat):(Tr.nil:Tr α).get n=none:=rfl
theorem Tr.ri (v:Option α)(l r:Tr α):(Tr.node v l r).get 0=v:=rfl
theorem Tr.pI (v:Option α)(l r:Tr α)(m:Nat):(Tr.node v l r).get (m+1)=bif Nat.beq (Nat.mod m 2) 0 then l.get (Nat.div m 2) else r.get (Nat.div m 2):=rfl
theorem Tr.Q9 (v:α)(n:Nat):Tr.one v 0 n=.node (some v) .nil .nil:=rfl
theorem Tr.Q_ (v:α)(f:Nat):Tr.one v (f+1) 0=.node (some v) .nil .nil:=rfl
theorem Tr.Q8 (v:α)(f m:Nat):Tr.one v (f+1) (m+1)=bif Nat.beq (Nat.mod m 2) 0 then .node none (Tr.one v f (Nat.div m 2)) .nil else .node none .nil (Tr.one v f (Nat.div m 2)):=rfl
theorem Tr.Rq (n:Nat)(v:α):(Tr.nil:Tr α).put n v=Tr.one v n n:=rfl
theorem Tr.Rt (o:Option α)(l r:Tr α)(v:α):(Tr.node o l r).put 0 v=.node (some v) l r:=rfl
theorem Tr.Rs (o:Option α)(l r:Tr α)(m:Nat)(v:α):(Tr.node o l r).put (m+1) v=bif Nat.beq (Nat.mod m 2) 0 then .node o (l.put (Nat.div m 2) v) r else .node o l (r.put (Nat.div m 2) v):=rfl
theorem Tr.R5 (n:Nat)(v:α):(Tr.nil:Tr α).dt n v=.nil:=rfl
theorem Tr.CV (o:Option α)(l r:Tr α)(v:α):(Tr.node o l r).dt 0 v=.node (o.map λ_=>v) l r:=by cases o<;>rfl
theorem Tr.uv (o:Option α)(l r:Tr α)(m:Nat)(v:α):(Tr.node o l r).dt (m+1) v=bif Nat.beq (Nat.mod m 2) 0 then .node o (l.dt (Nat.div m 2) v) r else .node o l (r.dt (Nat.div m 2) v):=rfl
theorem Tr.OZ (v:α)(n:Nat):Tr.fill v 0 n=.nil:=rfl
theorem Tr.O0 (v:α)(f:Nat):Tr.fill v (f+1) 0=.nil:=rfl
theorem Tr.OY (v:α)(f m:Nat):Tr.fill v (f+1) (m+1)=.node (some v) (Tr.fill v f (Nat.div (m+1) 2)) (Tr.fill v f (Nat.div m 2)):=rfl
theorem Tr.awf (n:Nat)(t:Tr α):Tr.CM [] n t=t:=rfl
theorem Tr.awe (x:α)(l:List α)(n:Nat)(t:Tr α):Tr.CM (x::l) n t=Tr.CM l (n+1) (t.put n x):=rfl
theorem Tr.ayk (n:Nat)(t:Tr α):Tr.uw [] n t=t:=rfl
theorem Tr.HX (x:α)(l:List α)(n:Nat)(t:Tr α):Tr.uw (x::l) n t=Tr.uw l (n+1) (t.dt n x):=rfl
end
noncomputable section
inductive Obj where
 |cells (own:Bool)(sn:Nat)(c:List Value)
 |map (es:List MapEntry)(clock:Nat)
 |dead
structure aa where
 tr:Tr Obj
 next:Nat
def aa.get (H:aa)(i:Nat):Option Obj:=H.tr.get i
def aa.set (H:aa)(i:Nat)(o:Obj):aa:=⟨H.tr.put i o,H.next⟩
def aa.new (H:aa)(o:Obj):aa:=⟨H.tr.put H.next o,H.next+1⟩
structure Env where
 prog:Program
 ty:Nat->Option TypeInfo
 fn:Nat->Option Func
 qp:Nat->Bool
 clone:Nat->Bool
 qL:Nat->Bool
 ng:Nat
 Gq:Nat->Bool:=λ_=>false
def FX:Value:=.chan (some 0)
def HC:Nat->Value->Bool
 |0,_=>false
 |d+1,v=>match v with
  |.bool _|.int _ _|.string _|.float _ _|.complex _ _ _|.nilFunc|.nilIface|.pointer none|.slice none 0 0|.map none=>true
  |.func (.func _) ⟨[]⟩ ⟨[]⟩=>true
  |.agg cs=>cs.toList.all (HC d)
  |.tuple cs=>cs.toList.all (HC d)
  |_=>false
def plain (v:Value):Bool:=HC 6 v
def ev (E:Env)(T:Tr Value):Operand->Value
 |.tmp t=>(T.get t).getD undef
 |.const v=>bif plain v then v else FX
 |.global g=>bif Nat.ble (g+1) E.ng then .pointer (some ⟨g,0,none⟩) else FX
 |.func f=>.func (.func f) #[] #[]
def dq (E:Env)(t:Nat):Option TypeDesc:=
 match E.ty t with
 |some i=>match i.desc with
  |.named _ u=>(E.ty u).map (·.desc)
  |d=>some d
 |none=>none
def KK (E:Env)(t:Nat):Option Bool:=
 match dq E t with
 |some (.struct _)=>some true
 |some (.array _ _)=>some true
 |some _=>some false
 |none=>none
def cK (E:Env)(t:Nat):Option Nat:=(E.ty t).map (·.size)
def fm (c:List Value)(o n:Nat):Option (List Value):=
 if o+n<=c.length then some ((c.drop o).take n) else none
def setAt:List Value->Nat->List Value->List Value
 |c,_,[]=>c
 |c,o,v::vs=>setAt (c.set o v) (o+1) vs
def Av (E:Env)(H:aa)(t:Nat)(a:Value):Option Value:=
 match a with
 |.pointer (some ⟨i,o,none⟩)=>match H.get i with
  |some (.cells _ _ c)=>match KK E t with
   |some true=>(cK E t).bind λn=>if n=0 then none else (fm c o n).map λl=>.agg ⟨l⟩
   |some false=>c[o]?
   |none=>none
  |_=>none
 |_=>none
def one:Value->Bool
 |.agg _|.tuple _|.chan _=>false
 |_=>true
def cellsOf (v:Value):Option (List Value):=
 match v with
 |.agg cs=>bif cs.toList.all one then some cs.toList else none
 |.tuple _=>none
 |.chan _=>none
 |v=>some [v]
def sV (H:aa)(i o:Nat)(vs:List Value):Option aa:=
 match H.get i with
 |some (.cells true z c)=>if o+vs.length<=c.length then some (H.set i (.cells true z (setAt c o vs))) else none
 |_=>none
def CT (E:Env)(H:aa)(t:Nat)(a v:Value):Option aa:=
 match a with
 |.pointer (some ⟨i,o,none⟩)=>
  (cellsOf v).bind λvs=>(cK E t).bind λn=>
   if vs.length=n then sV H i o vs else none
 |_=>none
def asI:Value->Option (IntKind×Int)
 |.int k n=>some (k,n)
 |_=>none
def uk (H:aa)(v:Value):Option (Value×aa):=
 (cellsOf v).map λvs=>(.pointer (some ⟨H.next,0,none⟩),H.new (.cells true 0 vs))
def zeroV (E:Env)(t:Nat):Option Value:=
 match E.ty t with
 |some i=>match i.zero with
  |some z=>bif plain z then some z else none
  |none=>none
 |none=>none
def Hl:Value->Bool
 |.chan _=>false
 |.tuple _=>false
 |_=>true
def CP (ps:Array (Nat×Value)):Bool:=ps.toList.all λp=>Hl p.2
def Oh (E:Env)(t:Nat)(parts:Array (Nat×Value)):Option Value:=
 (zeroV E t).bind λz=>bif CP parts&&Hl z then
  match dq E t with
  |some (.struct fields)=>
   (fields.toList.mapM λf=>(cK E f.type).map λn=>(f.offset,n)).bind λL8=>
    (Instr.fill (L8[·]?) z.cells parts.toList).map .agg
  |some (.array _ e)=>
   (cK E e).bind λn=>(Instr.fill (λi=>some (i*n,n)) z.cells parts.toList).map .agg
  |_=>none
 else none
def pb (E:Env)(e:Nat):Option (List Value):=
 (zeroV E e).bind λz=>(cellsOf z).bind λl=>(cK E e).bind λn=>if l.length=n then some l else none
def fE (n:Nat)(z:List Value):List Value:=
 match n with
 |0=>[]
 |m+1=>z++fE m z
def vi (H:aa)(sn len:Nat)(c:List Value):Value×aa:=
 (.slice (some ⟨H.next,0,none⟩) len 0,H.new (.cells true sn c))
def F5 (E:Env)(H:aa)(t len:Nat)(parts:Array (Nat×Value)):Option (Value×aa):=
 match dq E t with
 |some (.slice e)=>(pb E e).bind λz=>
  bif CP parts&&Nat.ble (len*z.length) 16777216&&Nat.ble 1 z.length then
   (Instr.fill (λi=>some (i*z.length,z.length)) ⟨fE len z⟩ parts.toList).bind λcs=>
    if cs.toList.all one then some (vi H z.length len cs.toList) else none
  else none
 |_=>none
def Ha (E:Env)(H:aa)(t:Nat)(len cap:Value):Option (Value×aa):=
 match dq E t,len,cap with
 |some (.slice e),.int _ l,.int _ c=>(pb E e).bind λz=>(E.ty e).bind λi=>
  if 0<=l/\l<=c/\i.bytes*c.toNat<=140737488355328/\1<=i.bytes/\1<=z.length then some (vi H z.length l.toNat (fE c.toNat z)) else none
 |_,_,_=>none
def tF (lo:Nat)(d:Nat)(hi:Nat):Option Value->Option Nat
 |none=>if lo<=d/\d<=hi then some d else none
 |some (.int _ n)=>if lo<=n/\n<=hi then some n.toNat else none
 |_=>none
def HP (E:Env)(H:aa)(t:Nat)(x:Value)(lo hi mx:Option Value):Option Value:=
 match mx with
 |some _=>none
 |none=>match dq E t,x with
  |some (.slice e),.slice a len _=>
   (cK E e).bind λn=>(tF 0 len len hi).bind λh=>(tF 0 0 h lo).bind λl=>
    match a with
    |none=>some (.slice none 0 0)
    |some ⟨i,o,none⟩=>match H.get i with
     |some (.cells _ z _)=>if z=0∨z=n then some (.slice (some ⟨i,o+l*n,none⟩) (h - l) 0) else none
     |_=>none
    |_=>none
  |some (.array n e),.pointer (some ⟨i,o,none⟩)=>
   match lo,hi,H.get i with
   |none,none,some (.cells _ 0 _)=>(cK E e).bind λ_=>some (.slice (some ⟨i,o,none⟩) n 0)
   |_,_,_=>none
  |_,_=>none
def Cm:Value->Option Nat
 |.slice _ n _=>some n
 |.string s=>some s.size
 |_=>none
def yz (H:aa)(es n:Nat):Value->Option (List Value)
 |.slice (some ⟨i,o,none⟩) _ _=>if n*es=0 then some [] else match H.get i with
  |some (.cells _ _ c)=>fm c o (n*es)
  |_=>none
 |.slice none _ _=>if n=0 then some [] else none
 |_=>none
def so (E:Env)(H:aa)(e es kF:Nat)(old new:List Value):Option (Value×aa):=
 (E.ty e).bind λi=>(pb E e).bind λ_=>
  if kF*i.bytes<=140737488355328/\1<=i.bytes then some (vi H es kF (old++new)) else none
def Gu (E:Env)(H:aa)(e es kF:Nat)(old new:List Value):Option (Value×aa):=
 (E.ty e).bind λi=>(pb E e).bind λ_=>
  if kF*i.bytes<=140737488355328/\1<=i.bytes then some (.slice (some ⟨H.next,0,none⟩) kF 0,H.new (.cells false es (old++new))) else none
def I1 (E:Env)(H:aa)(argTypes:Array TypeId)(args:List Value):Option (Value×aa):=
 match argTypes.toList,args with
 |[st,xt],[.slice base len _,x]=>if xt=st then match dq E st with
  |some (.slice e)=>(cK E e).bind λes=>(Cm x).bind λn=>(yz H es n x).bind λnew=>
    bif Nat.beq es 0 then none else
    if n=0 then some (.slice base len 0,H) else
    match base with
    |none=>if len=0 then so E H e es n [] new else none
    |some ⟨i,o,none⟩=>match H.get i with
     |some (.cells true z c)=>
      if z=es then
       if o+(len+n)*es<=c.length then (sV H i (o+len*es) new).map λH'=>(.slice base (len+n) 0,H')
       else (fm c o (len*es)).bind λold=>
        bif E.Gq st&&Nat.beq len 256 then Gu E (H.set i (.cells false es (c.take (o+len*es)))) e es (len+n) old new
        else so E (H.set i .dead) e es (len+n) old new
      else none
     |_=>none
    |_=>none
  |_=>none
  else none
 |_,_=>none
def Ov (E:Env)(H:aa)(argTypes:Array TypeId)(args:List Value):Option (Value×aa):=
 match argTypes.toList,args with
 |st::_,[.slice base len _,x]=>match dq E st with
  |some (.slice e)=>(cK E e).bind λes=>(Cm x).bind λn=>
   (yz H es (Nat.min n len) x).bind λnew=>
   match base with
   |none=>some (goInt (Nat.min n len),H)
   |some ⟨i,o,none⟩=>(sV H i o new).map λH'=>(goInt (Nat.min n len),H')
   |_=>none
  |_=>none
 |_,_=>none
def xT (E:Env)(t:Nat):Option TypeDesc:=
 match dq E t with
 |some (.int k)=>some (.int k)
 |some .bool=>some .bool
 |_=>none
def G9 (E:Env)(H:aa)(t:Nat)(m k:Value)(ok:Bool):Option Value:=
 match dq E t with
 |some (.map kt e)=>(xT E kt).bind λkd=>(zeroV E e).bind λz=>
  (match m with
   |.map none=>some []
   |.map (some i)=>match H.get i with
    |some (.map es _)=>some es
    |_=>none
   |_=>none).bind λes=>
   (Instr.findNow kd k es 0).bind λr=>
    let p:Value×Bool:=match r with
     |some (_,v)=>(v,true)
     |none=>(z,false)
    some (bif ok then .tuple #[p.1,.bool p.2] else p.1)
 |_=>none
def Ax (E:Env)(H:aa)(t:Nat)(m k v:Value):Option aa:=
 match dq E t,m with
 |some (.map kt _),.map (some i)=>(xT E kt).bind λkd=>
  match H.get i with
  |some (.map es clock)=>(Instr.findNow kd k es 0).map λr=>
   match r with
   |some (j,_)=>H.set i (.map (es.modify j λe=>{e with key:=k,val:=v}) clock)
   |none=>H.set i (.map (es++[{key:=k,val:=v,born:=clock}]) (clock+1))
  |_=>none
 |_,_=>none
def DT (E:Env)(H:aa)(t:Nat)(m k:Value):Option aa:=
 match dq E t,m with
 |some (.map kt _),.map (some i)=>(xT E kt).bind λkd=>
  match H.get i with
  |some (.map es clock)=>(Instr.findNow kd k es 0).map λr=>
   match r with
   |some (j,_)=>H.set i (.map (es.eraseIdx j) clock)
   |none=>H.set i (.map es clock)
  |_=>none
 |_,_=>none
def zR (E:Env)(H:aa)(t:Nat)(x:Value):Option aa:=
 match dq E t,x with
 |some (.map _ _),.map (some i)=>match H.get i with
  |some (.map _ clock)=>some (H.set i (.map [] clock))
  |_=>none
 |some (.slice _),.slice _ 0 _=>some H
 |some (.slice e),.slice (some ⟨i,o,none⟩) n _=>(pb E e).bind λz=>if 1<=z.length then sV H i o (fE n z) else none
 |_,_=>none
def lW (E:Env)(H:aa)(t:Nat)(x:Value):Option Value:=
 match dq E t,x with
 |some (.slice _),.slice _ n _=>some (goInt n)
 |some .string,.string s=>some (goInt s.size)
 |some (.array n _),_=>some (goInt n)
 |some (.map _ _),.map none=>some (goInt 0)
 |some (.map _ _),.map (some i)=>match H.get i with
  |some (.map es _)=>some (goInt es.length)
  |_=>none
 |_,_=>none
def G3 (op:BinOp)(k:IntKind)(a b:Int):Option Value:=
 match op with
 |.add=>some (.int k (k.wrap (a+b)))
 |.sub=>some (.int k (k.wrap (a - b)))
 |.mul=>some (.int k (k.wrap (a*b)))
 |.quo=>if b=0 then none else some (.int k (k.wrap (a.tdiv b)))
 |.rem=>if b=0 then none else some (.int k (a.tmod b))
 |.and=>some (.int k (k.wrap (BitVec.ofInt k.bits a&&&BitVec.ofInt k.bits b).toNat))
 |.or=>some (.int k (k.wrap (BitVec.ofInt k.bits a|||BitVec.ofInt k.bits b).toNat))
 |.xor=>some (.int k (k.wrap (BitVec.ofInt k.bits a ^^^ BitVec.ofInt k.bits b).toNat))
 |.andNot=>some (.int k (k.wrap (BitVec.ofInt k.bits a&&& ~~~(BitVec.ofInt k.bits b)).toNat))
 |.eql=>some (.bool (a==b))
 |.neq=>some (.bool (a !=b))
 |.lss=>some (.bool (a<b))
 |.leq=>some (.bool (a<=b))
 |.gtr=>some (.bool (a>b))
 |.geq=>some (.bool (a≥b))
 |_=>none
def Mr (op:BinOp)(k:IntKind)(a b:Int):Option Value:=
 if b<0 then none else
 match op with
 |.shl=>some (.int k (k.wrap (a*2 ^ (min b.toNat k.bits))))
 |.shr=>some (.int k (a.fdiv (2 ^ (min b.toNat k.bits))))
 |_=>none
def Ch:BinOp->Bool
 |.shl|.shr=>true
 |_=>false
def Rb (H:aa)(a:Addr):Bool:=
 a.spot.isNone&&match H.get a.block with
  |some (.cells true _ _)=>true
  |_=>false
def vm (E:Env)(t:Nat)(cs:Array Value)(o:Nat):Option Value:=
 match KK E t with
 |some true=>(cK E t).map λn=>.agg (cs.extract o (o+n))
 |some false=>cs[o]?
 |none=>none
def DZ (E:Env)(eq:Nat->Value->Value->Option Bool)(xs ys:Array Value):List Field->Option Bool
 |[]=>some true
 |f::fs=>(vm E f.type xs f.offset).bind λu=>(vm E f.type ys f.offset).bind λv=>(eq f.type u v).bind λb=>
  bif b then DZ E eq xs ys fs else some false
def j7 (E:Env)(H:aa):Nat->Nat->Value->Value->Option Bool
 |0,_,_,_=>none
 |d+1,t,x,y=>
  match dq E t,x,y with
  |some .bool,.bool a,.bool b=>some (a==b)
  |some (.int _),.int k a,.int k' b=>if k=k' then some (a==b) else none
  |some (.pointer _),.pointer none,.pointer b=>some b.isNone
  |some (.pointer _),.pointer _,.pointer none=>some false
  |some (.pointer e),.pointer (some a),.pointer (some b)=>
   (cK E e).bind λn=>if n≠0/\Rb H a/\Rb H b then some (a==b) else none
  |some (.slice _),.slice none _ _,.slice b _ _=>some b.isNone
  |some (.slice _),.slice _ _ _,.slice none _ _=>some false
  |some (.map _ _),.map none,.map b=>some b.isNone
  |some (.map _ _),.map _,.map none=>some false
  |some (.func _ _ _),.nilFunc,.nilFunc=>some true
  |some (.func _ _ _),.nilFunc,.func _ _ _=>some false
  |some (.func _ _ _),.func _ _ _,.nilFunc=>some false
  |some (.struct fields),.agg xs,.agg ys=>
   bif E.qp t then
    DZ E (j7 E H d) xs ys fields.toList
   else none
  |_,_,_=>none
def pG:Value->Bool
 |.bool _|.pointer _|.slice _ _ _|.map _|.func _ _ _|.nilFunc=>true
 |_=>false
def nb (E:Env)(H:aa)(op:BinOp)(t:Nat)(x y:Value):Option Value:=
 match x,y with
 |.int k a,.int k' b=>bif Ch op then Mr op k a b else if k=k' then G3 op k a b else none
 |.agg xs,.agg ys=>match op with
  |.eql=>bif E.qp t then (j7 E H 4 t (.agg xs) (.agg ys)).map .bool else none
  |.neq=>bif E.qp t then (j7 E H 4 t (.agg xs) (.agg ys)).map λb=>.bool !b else none
  |_=>none
 |x,y=>bif pG x then
  match op with
  |.eql=>(j7 E H 4 t x y).map .bool
  |.neq=>(j7 E H 4 t x y).map λb=>.bool !b
  |_=>none
  else none
def MJ (op:UnOp)(x:Value):Option Value:=
 match op,x with
 |.neg,.int k n=>some (.int k (k.wrap (0 - n)))
 |.xor,.int k n=>some (.int k (k.wrap (BitVec.ofInt k.bits (if k.signed then -1 else k.max) ^^^ BitVec.ofInt k.bits n).toNat))
 |.not,.bool b=>some (.bool !b)
 |_,_=>none
def aiC:Value->Value->Option Value
 |.int k a,.int k' b=>if k=k' then some (.int k (if b>a then b else a)) else none
 |_,_=>none
def aiF:Value->Value->Option Value
 |.int k a,.int k' b=>if k=k' then some (.int k (if b<a then b else a)) else none
 |_,_=>none
def Gm (f:Value->Value->Option Value):Value->List Value->Option Value
 |x,[]=>some x
 |x,y::l=>(f x y).bind λz=>Gm f z l
def Xu:List Value->Option Value
 |[]=>none
 |x::l=>Gm aiC x l
def Xw:List Value->Option Value
 |[]=>none
 |x::l=>Gm aiF x l
inductive bV where
 |val (v:Value)(H:aa)
 |call (f:FuncId)(args:List Value)
def rv (H:aa)(o:Option Value):Option bV:=o.map λv=>.val v H
def rh (o:Option aa):Option bV:=o.map λH=>.val undef H
def sN (o:Option (Value×aa)):Option bV:=o.map λp=>.val p.1 p.2
def yp (E:Env)(H:aa)(b:Builtin)(argTypes:Array TypeId)(args:List Value):Option bV:=
 match b with
 |.append=>sN (I1 E H argTypes args)
 |.copy=>sN (Ov E H argTypes args)
 |.len=>match argTypes.toList,args with
  |t::_,x::_=>rv H (lW E H t x)
  |_,_=>none
 |.delete=>match argTypes.toList,args with
  |t::_,[m,k]=>rh (DT E H t m k)
  |_,_=>none
 |.clear=>match argTypes.toList,args with
  |t::_,[x]=>rh (zR E H t x)
  |_,_=>none
 |.max=>rv H (Xu args)
 |.min=>rv H (Xw args)
 |_=>none
def Oq (H:aa):List Value->Option bV
 |[.iface t (.map (some i))]=>match H.get i with
  |some (.map es clock)=>some (.val (.iface t (.map (some H.next))) (H.new (.map es clock)))
  |_=>none
 |_=>none
def Ue (s:ByteArray)(n:Int):Option Value:=
 if 0<=n then (s[n.toNat]?).map λb=>.int .u8 b.toNat else none
def DN (E:Env)(H:aa)(f:Value)(args:List Value):Option bV:=
 match f with
 |.func (.func f) first captured=>
  match E.fn f with
  |some _=>some (.call f (first.toList++args++captured.toList))
  |none=>bif E.clone f then Oq H (first.toList++args++captured.toList) else none
 |_=>none
def Ou (E:Env)(src dst:Nat)(x:Value):Option Value:=
 match dq E src,dq E dst,x with
 |some _,some (.int k),.int _ n=>some (.int k (k.wrap n))
 |_,_,_=>none
def aH (E:Env)(e:Operand->Value)(op:Op)(H:aa):Option bV:=
 match op with
 |.move x=>some (.val (e x) H)
 |.assign x=>some (.val (e x) H)
 |.pick c a b=>match e c with
  |.bool t=>some (.val (bif t then e a else e b) H)
  |_=>none
 |.alloc t=>(zeroV E t).bind λz=>sN (uk H z)
 |.box _ x=>sN (uk H (e x))
 |.build t parts=>rv H (Oh E t (parts.map λp=>(p.1,e p.2)))
 |.buildSlice t len parts=>sN (F5 E H t len (parts.map λp=>(p.1,e p.2)))
 |.load t a=>rv H (Av E H t (e a))
 |.store t a x=>rh (CT E H t (e a) (e x))
 |.nilCheck x=>match e x with
  |.pointer (some a)=>some (.val (.pointer (some a)) H)
  |.func (.func f) fs cs=>some (.val (.func (.func f) fs cs) H)
  |_=>none
 |.binOp op t x y _=>rv H (nb E H op t (e x) (e y))
 |.unOp op _ x=>rv H (MJ op (e x))
 |.convert src dst x=>rv H (Ou E src dst (e x))
 |.makeInterface t x=>match dq E t with
  |some (.interface _)=>none
  |some _=>some (.val (.iface t (e x)) H)
  |none=>none
 |.makeFunc (.func f) first captured=>some (.val (.func (.func f) (first.map e) (captured.map e)) H)
 |.makeMap _ none=>some (.val (.map (some H.next)) (H.new (.map [] 0)))
 |.makeMap t (some r)=>match dq E t,e r with
  |some (.map _ _),.int _ _=>some (.val (.map (some H.next)) (H.new (.map [] 0)))
  |_,_=>none
 |.makeSlice t l c=>sN (Ha E H t (e l) (e c))
 |.slice t x lo hi mx=>rv H (HP E H t (e x) (lo.map e) (hi.map e) (mx.map e))
 |.fieldAddr s x f=>match dq E s,e x with
  |some (.struct fields),.pointer (some ⟨i,o,none⟩)=>match fields[f]? with
   |some fd=>(cK E fd.type).bind λn=>if n=0 then none else some (.val (.pointer (some ⟨i,o+fd.offset,none⟩)) H)
   |none=>none
  |_,_=>none
 |.field t x f=>match dq E t,e x with
  |some (.struct fields),.agg cs=>match fields[f]? with
   |some fd=>rv H (vm E fd.type cs fd.offset)
   |none=>none
  |_,_=>none
 |.indexAddr t x ix=>match dq E t,e x,e ix with
  |some (.slice el),.slice (some ⟨i,o,none⟩) len _,.int _ n=>(cK E el).bind λs=>
   if 0<=n/\n<len then some (.val (.pointer (some ⟨i,o+n.toNat*s,none⟩)) H) else none
  |some (.array len el),.pointer (some ⟨i,o,none⟩),.int _ n=>(cK E el).bind λs=>
   if 0<=n/\n<len then some (.val (.pointer (some ⟨i,o+n.toNat*s,none⟩)) H) else none
  |_,_,_=>none
 |.index t x ix=>match dq E t,e x,e ix with
  |some (.array len el),.agg cs,.int _ n=>(cK E el).bind λs=>
   if 0<=n/\n<len then rv H (vm E el cs (n.toNat*s)) else none
  |some .string,.string s,.int _ n=>rv H (Ue s n)
  |_,_,_=>none
 |.lookup t x k ok=>rv H (G9 E H t (e x) (e k) ok)
 |.mapUpdate t m k x=>rh (Ax E H t (e m) (e k) (e x))
 |.insert t m k x=>rh (Ax E H t (e m) (e k) (e x))
 |.typeAssert x _ asserted false=>match dq E asserted,e x with
  |some (.interface _),_=>none
  |some _,.iface t v=>if t=asserted then some (.val v H) else none
  |_,_=>none
 |.extract t ix=>match e t with
  |.tuple vs=>match vs[ix]? with
   |some v=>some (.val v H)
   |none=>none
  |_=>none
 |.call c=>match c.callee with
  |.value f=>DN E H (e f) (c.args.toList.map e)
  |.builtin b=>yp E H b c.argTypes (c.args.toList.map e)
  |.invoke _ _=>none
 |_=>none
structure St where
 T:Tr Value
 H:aa
def jt (T:Tr Value)(d:Option Tmp)(v:Value):Tr Value:=
 match d with
 |some d=>T.dt d v
 |none=>T
abbrev fp:=FuncId->List Value->aa->Option (Value×aa)
def lg (ops:Array Oper)(T:Tr Value)(o:Oper):Option Bool:=
 match o.guard with
 |none=>some true
 |some (j,want)=>match (ops[j]?).bind (·.dst) with
  |none=>some false
  |some d=>match T.get d with
   |some (.bool b)=>some (b==want)
   |some (.tuple ⟨[]⟩)=>some false
   |none=>some false
   |_=>none
def kH (aF:fp)(r:Option bV)(H:aa):Option (Value×aa):=
 match r with
 |some (.val v H')=>some (v,H')
 |some (.call f args)=>aF f args H
 |none=>none
def vx (E:Env)(aF:fp)(ops:Array Oper)(o:Oper)(s:St):Option St:=
 match lg ops s.T o with
 |some true=>match kH aF (aH E (ev E s.T) o.op s.H) s.H with
  |some (v,H')=>some ⟨jt s.T o.dst v,H'⟩
  |none=>none
 |some false=>some ⟨jt s.T o.dst undef,s.H⟩
 |none=>none
def pT (E:Env)(aF:fp)(ops:Array Oper):List Oper->St->Option St
 |[],s=>some s
 |o::l,s=>match vx E aF ops o s with
  |some s'=>pT E aF ops l s'
  |none=>none
def xr:Op->Bool
 |.alloc _|.box _ _|.buildSlice _ _ _|.store _ _ _|.makeMap _ _|.makeSlice _ _ _|.mapUpdate _ _ _ _|.insert _ _ _ _=>true
 |.call c=>match c.callee with
  |.builtin .len=>false
  |.builtin .max=>false
  |.builtin .min=>false
  |_=>true
 |_=>false
def At:Op->Bool
 |.move _|.assign _|.pick _ _ _|.nilCheck _|.unOp _ _ _|.convert _ _ _|.makeInterface _ _|.makeFunc _ _ _|.fieldAddr _ _ _|.field _ _ _
 |.indexAddr _ _ _|.index _ _ _|.extract _ _|.build _ _=>true
 |_=>false
def fv:Nat->Value->Value->Bool
 |0,_,_=>false
 |d+1,v,w=>match v,w with
  |.bool a,.bool b=>a==b
  |.int k a,.int j b=>decide (k=j)&&decide (a=b)
  |.pointer a,.pointer b=>decide (a=b)
  |.slice a l c,.slice b m d=>decide (a=b)&&decide (l=m)&&decide (c=d)
  |.map a,.map b=>decide (a=b)
  |.nilFunc,.nilFunc=>true
  |.nilIface,.nilIface=>true
  |.func f xs ys,.func g us vs=>decide (f=g)&&jP d xs.toList us.toList&&jP d ys.toList vs.toList
  |.agg xs,.agg us=>jP d xs.toList us.toList
  |.tuple xs,.tuple us=>jP d xs.toList us.toList
  |_,_=>false
 where
 jP (d:Nat):List Value->List Value->Bool
  |[],[]=>true
  |v::l,w::m=>fv d v w&&jP d l m
  |_,_=>false
def eR (b:Bool)(op:Op):Bool:=
 match op with
 |.alloc _=>true
 |.box _ _=>b
 |.buildSlice _ _ _=>b
 |.makeMap _ _=>b
 |.makeSlice _ _ _=>b
 |_=>false
def zQ (d:Nat):Value->Value
 |.pointer (some _)=>.pointer (some ⟨d,0,none⟩)
 |.slice (some _) l c=>.slice (some ⟨d,0,none⟩) l c
 |.map (some _)=>.map (some d)
 |v=>v
def uY:aa:=⟨.nil,0⟩
def sh (E:Env)(e:Operand->Value)(op:Op):Option (Value×Obj):=
 match aH E e op uY with
 |some (.val v H)=>(H.get 0).map λo=>(v,o)
 |_=>none
def AO:Obj->Obj->Bool
 |.cells true z c,.cells true z' c'=>Nat.beq z z'&&fv.jP 8 c c'
 |.map [] 0,.map [] 0=>true
 |_,_=>false
structure DR where
 i:Nat
 o:Oper
 w:Bool
 T:Tr Value
 v:Value
 k:Nat
def tD (b:Bool)(E:Env)(base i:Nat)(e:Operand->Value)(op:Op)(H:aa):Option bV:=
 match op with
 |.alloc _=>some (.val (.pointer (some ⟨base+i,0,none⟩)) H)
 |op=>bif eR b op then (sh E e op).map λp=>.val (zQ (base+i) p.1) H else aH E e op H
def hO (b:Bool)(op:Op):Bool:=bif eR b op then false else xr op
def vp (b:Bool)(E:Env)(base:Nat):List Oper->Nat->List Obj->Tr Obj->Option (Tr Obj)
 |[],_,_,t=>some t
 |o::l,i,os,t=>match o.op with
  |.alloc ty=>match (zeroV E ty).bind cellsOf with
   |some vs=>vp b E base l (i+1) os (t.put (base+i) (.cells true 0 vs))
   |none=>none
  |op=>bif eR b op then (match os with
   |ob::os=>vp b E base l (i+1) os (t.put (base+i) ob)
   |[]=>none) else vp b E base l (i+1) os t
def DR.ny (b:Bool)(r:DR):Bool:=r.w&&hO b r.o.op
def uq (E : Env)(aF : fp)(ops : Array Oper)(base : Nat) : List Oper -> Nat -> Tr Value -> aa -> List Obj -> Option (List Obj)
  | [], _, _, _, os => some os.reverse
  | o :: l, i, T, H, os =>
    match lg ops T o with
    | none => none
    | some false => uq E aF ops base l (i + 1) (jt T o.dst undef) H (bif eR true o.op && !eR false o.op then .dead :: os else os)
    | some true => bif eR true o.op then (match sh E (ev E T) o.op with
        | none => none
        | some p => uq E aF ops base l (i + 1) (jt T o.dst (zQ (base + i) p.1)) (H.set (base + i) p.2) (bif eR false o.op then os else p.2 :: os))
      else match kH aF (aH E (ev E T) o.op H) H with
        | none => none
        | some (v, H') => uq E aF ops base l (i + 1) (jt T o.dst v) H' os
def oN (b:Bool)(E:Env)(aF:fp)(ops:Array Oper)(base:Nat):List Oper->Nat->Tr Value->aa->Nat->List DR->List aa->Option (List DR×Tr Value×List aa×aa)
 |[],_,T,H,_,rs,hs=>some (rs,T,hs,H)
 |o::l,i,T,H,k,rs,hs=>
  match lg ops T o with
  |none=>none
  |some false=>oN b E aF ops base l (i+1) (jt T o.dst undef) H k (⟨i,o,false,T,undef,k⟩::rs) hs
  |some true=>match kH aF (tD b E base i (ev E T) o.op H) H with
   |none=>none
   |some (v,H')=>bif hO b o.op then oN b E aF ops base l (i+1) (jt T o.dst v) H' (k+1) (⟨i,o,true,T,v,k⟩::rs) (hs++[H'])
    else oN b E aF ops base l (i+1) (jt T o.dst v) H k (⟨i,o,true,T,v,k⟩::rs) hs
def vQ (e:Edge):Bool:=Region.binds .any e
def Cp (acc:List Nat)(o:Oper):Nat:=
 o.after.toList.foldl (λs e=>bif vQ e then s|||2 ^ e.on|||acc.getD e.on 0 else s) 0
def iM:List Oper->List Nat->List Nat
 |[],acc=>acc
 |o::l,acc=>iM l (acc++[Cp acc o])
def Rd (b:Bool)(ops:Array Oper):List (Oper×Nat)->Bool
 |[]=>true
 |(o,m)::OS=>OS.zipIdx.all (λ(p:(Oper×Nat)×Nat)=>
   let i:=OS.length - 1 - p.2
   m.testBit i||(Oper.apart ops p.1.1 o&& !(hO b p.1.1.op&&hO b o.op)))&&
   o.after.toList.all (λe=> !vQ e||Nat.ble (e.on+1) OS.length)&&Rd b ops OS
def pW (b:Bool)(ops:Array Oper):Bool:=Rd b ops (ops.toList.zip (iM ops.toList [])).reverse
def looksAt (b:Bool)(E:Env)(base:Nat)(r:DR)(H:aa):Bool:=
 match r.o.op with
 |.alloc ty=>match (zeroV E ty).bind cellsOf,H.get (base+r.i) with
  |some vs,some (.cells true 0 c)=>fv.jP 8 vs c
  |_,_=>false
 |op=>bif eR b op then (match sh E (ev E r.T) op,H.get (base+r.i) with
   |some p,some o=>AO p.2 o
   |_,_=>false)
  else match aH E (ev E r.T) op H with
  |some (.val v _)=>fv 8 r.v v
  |_=>false
def F6 (b:Bool)(E:Env)(base:Nat)(r:DR)(hs:List aa):Nat->Nat->Bool
 |_,0=>true
 |k,n+1=>(match hs[k]? with
  |some H=>looksAt b E base r H
  |none=>false)&&F6 b E base r hs (k+1) n
def fU (b:Bool)(p:DR->Bool):List DR->Nat
 |[]=>0
 |r::l=>bif r.ny b&&p r then fU b p l+1 else fU b p l
def alb (b:Bool)(ops:Array Oper)(ms:List Nat)(j:Nat):Bool:=
 ops.toList.zipIdx.all λp=>Nat.beq p.2 j|| !hO b p.1.op||(ms.getD j 0).testBit p.2||(ms.getD p.2 0).testBit j
def Fa (b:Bool)(ops:Array Oper)(ms:List Nat):List Bool:=(List.range ops.size).map (alb b ops ms)
def CQ (b:Bool)(E:Env)(base:Nat)(ss:List Bool)(ms:List Nat)(all:List DR)(hs:List aa)(m:Nat):List DR->Bool
 |[]=>true
 |r::l=>(!r.w||hO b r.o.op||At r.o.op||(ss.getD r.i false&& !eR b r.o.op)||
   (let lo:=fU b (λq=>(ms.getD r.i 0).testBit q.i) all
    let hi:=m - fU b (λq=>(ms.getD q.i 0).testBit r.i) all
    F6 b E base r hs lo (hi+1 - lo)))&&CQ b E base ss ms all hs m l
def xQ (b:Bool)(E:Env)(aF:fp)(ops:Array Oper)(os:List Obj)(s:St):Option St:=
 match vp b E s.H.next ops.toList 0 os s.H.tr with
 |none=>none
 |some tr=>
  match oN b E aF ops s.H.next ops.toList 0 s.T ⟨tr,s.H.next+ops.size⟩ 0 [] [⟨tr,s.H.next+ops.size⟩] with
  |some (rs,T,hs,H)=>bif CQ b E s.H.next (Fa b ops (iM ops.toList [])) (iM ops.toList []) rs hs (hs.length - 1) rs then some ⟨T,H⟩ else none
  |none=>none
def vu (E:Env)(aF:fp)(ops:Array Oper)(s:St):Option St:=
 bif pW false ops then xQ false E aF ops [] s
 else bif pW true ops then (match uq E aF ops s.H.next ops.toList 0 s.T ⟨s.H.tr,s.H.next+ops.size⟩ [] with
  |some os=>xQ true E aF ops os s
  |none=>none)
 else none
inductive X where
 |normal
 |exit (id:Nat)
 |ret
def tY (f:St->Option (X×St)):Nat->St->Option (X×St)
 |0,_=>none
 |n+1,s=>match f s with
  |some (.normal,s')=>tY f n s'
  |r=>r
def cP (E:Env)(aF:fp)(n:Nat):Code->St->Option (X×St)
 |.skip,s=>some (.normal,s)
 |.label _,s=>some (.normal,s)
 |.region _ ops d,s=>match (bif d then vu E aF ops s else pT E aF ops ops.toList s) with
  |some s'=>some (.normal,s')
  |none=>none
 |.seq a b,s=>match cP E aF n a s with
  |some (.normal,s')=>cP E aF n b s'
  |r=>r
 |.cond c a b,s=>match ev E s.T c with
  |.bool t=>bif t then cP E aF n a s else cP E aF n b s
  |_=>none
 |.block id b,s=>match cP E aF n b s with
  |some (.exit j,s')=>bif Nat.beq j id then some (.normal,s') else some (.exit j,s')
  |r=>r
 |.loop b,s=>tY (cP E aF n b) n s
 |.exit id,s=>some (.exit id,s)
 |.ret,s=>some (.ret,s)
 |.scope b,s=>cP E aF n b s
 |_,_=>none
def yS (fn:Func)(args:List Value):Option (Tr Value):=
 bif Nat.ble args.length fn.ntmps then some (Tr.uw args 0 (Tr.fill undef fn.ntmps fn.ntmps)) else none
def mV (E:Env)(s:St):List ResultVar->Option (List Value)
 |[]=>some []
 |.tmp t::l=>(mV E s l).map λvs=>(s.T.get t).getD undef::vs
 |.cell a t::l=>(Av E s.H t ((s.T.get a).getD undef)).bind λv=>(mV E s l).map λvs=>v::vs
def rJ:List Value->Value
 |[v]=>v
 |vs=>.tuple ⟨vs⟩
def aF (E:Env):Nat->fp
 |0=>λ_ _ _=>none
 |n+1=>λf args H=>bif E.qL f&&args.isEmpty then some (.bool true,H) else match E.fn f with
  |some fn=>match fn.body with
   |some c=>match yS fn args with
    |some T=>match cP E (aF E n) n c ⟨T,H⟩ with
     |some (.normal,s)=>(mV E s fn.results.toList).map λvs=>(rJ vs,s.H)
     |some (.ret,s)=>(mV E s fn.results.toList).map λvs=>(rJ vs,s.H)
     |_=>none
    |none=>none
   |none=>none
  |none=>none
end
end
open Go.RowKit
section
structure Loc where
 bA:Nat
 off:Nat
 room:Nat
 sn:Nat
abbrev aJ:=Nat->Option Loc
def aJ.le (μ aD:aJ):Prop:=∀i L,μ i=some L->aD i=some L
theorem aJ.le_refl (μ:aJ):aJ.le μ μ:=λ_ _ h=>h
theorem aJ.le_trans {a b c:aJ}(h:aJ.le a b)(k:aJ.le b c):aJ.le a c:=λi L e=>k i L (h i L e)
def aJ.add (μ:aJ)(n:Nat)(L:Loc):aJ:=λi=>if i=n then some L else μ i
theorem aJ.Au {μ : aJ}{n : Nat}(L : Loc)(h : μ n = none) : aJ.le μ (μ.add n L) := by
  intro i K e
  unfold aJ.add
  split
  · subst_vars; rw [h] at e; cases e
  · exact e
theorem aJ.r_ (μ:aJ)(n:Nat)(L:Loc):μ.add n L n=some L:=by simp [aJ.add]
mutual
inductive aL (μ:aJ):Value->Value->Prop
 |top (V:Value):aL μ (.chan (some 0)) V
 |bool (b:Bool):aL μ (.bool b) (.bool b)
 |int (k:IntKind)(n:Int):aL μ (.int k n) (.int k n)
 |float (k:FloatKind)(n:Nat):aL μ (.float k n) (.float k n)
 |complex (k:FloatKind)(n m:Nat):aL μ (.complex k n m) (.complex k n m)
 |string (s:ByteArray):aL μ (.string s) (.string s)
 |nilFunc:aL μ .nilFunc .nilFunc
 |nilIface:aL μ .nilIface .nilIface
 |X4:aL μ (.pointer none) (.pointer none)
 |aiu:aL μ (.map none) (.map none)
 |AQ:aL μ (.slice none 0 0) (.slice none 0 0)
 |ptr {i o:Nat}{L:Loc}(h:μ i=some L):aL μ (.pointer (some ⟨i,o,none⟩)) (.pointer (some ⟨L.bA,L.off+o,none⟩))
 |slice {i o len c cap:Nat}{L:Loc}(h:μ i=some L)(hl:len<=cap)(hr:L.sn=0∨o+cap*L.sn=L.room) :
   aL μ (.slice (some ⟨i,o,none⟩) len c) (.slice (some ⟨L.bA,L.off+o,none⟩) len cap)
 |pU {i o c cap:Nat}{A:Addr}{L:Loc}(h:μ i=some L)(ho:L.sn=0∨(o=L.room/\cap=0)) :
   aL μ (.slice (some ⟨i,o,none⟩) 0 c) (.slice (some A) 0 cap)
 |map {i:Nat}{L:Loc}(h:μ i=some L):aL μ (.map (some i)) (.map (some L.bA))
 |func {f:FuncId}{fs FSz cs CS:Array Value}(h1:bE μ fs.toList FSz.toList)(h2:bE μ cs.toList CS.toList) :
   aL μ (.func (.func f) fs cs) (.func (.func f) FSz CS)
 |iface {t:TypeId}{v V:Value}(h:aL μ v V):aL μ (.iface t v) (.iface t V)
 |agg {cs CS:Array Value}(h:bE μ cs.toList CS.toList):aL μ (.agg cs) (.agg CS)
 |tuple {cs CS:Array Value}(h:bE μ cs.toList CS.toList):aL μ (.tuple cs) (.tuple CS)
inductive bE (μ:aJ):List Value->List Value->Prop
 |nil:bE μ [] []
 |cons {v V:Value}{l L:List Value}(h:aL μ v V)(hs:bE μ l L):bE μ (v::l) (V::L)
end
mutual
theorem aL.mono {μ aD:aJ}(hle:aJ.le μ aD):∀{v V:Value},aL μ v V->aL aD v V
 |_,_,.top V=>.top V
 |_,_,.bool b=>.bool b
 |_,_,.int k n=>.int k n
 |_,_,.float k n=>.float k n
 |_,_,.complex k n m=>.complex k n m
 |_,_,.string s=>.string s
 |_,_,.nilFunc=>.nilFunc
 |_,_,.nilIface=>.nilIface
 |_,_,.X4=>.X4
 |_,_,.aiu=>.aiu
 |_,_,.AQ=>.AQ
 |_,_,.ptr h=>.ptr (hle _ _ h)
 |_,_,.slice h hl hr=>.slice (hle _ _ h) hl hr
 |_,_,.pU h ho=>.pU (hle _ _ h) ho
 |_,_,.map h=>.map (hle _ _ h)
 |_,_,.func h1 h2=>.func (bE.mono hle h1) (bE.mono hle h2)
 |_,_,.iface h=>.iface (aL.mono hle h)
 |_,_,.agg h=>.agg (bE.mono hle h)
 |_,_,.tuple h=>.tuple (bE.mono hle h)
theorem bE.mono {μ aD:aJ}(hle:aJ.le μ aD):∀{l L:List Value},bE μ l L->bE aD l L
 |_,_,.nil=>.nil
 |_,_,.cons h hs=>.cons (aL.mono hle h) (bE.mono hle hs)
end
theorem bE.length {μ:aJ}:∀{l L:List Value},bE μ l L->l.length=L.length
 |_,_,.nil=>rfl
 |_,_,.cons _ hs=>by simp [bE.length hs]
theorem bE.get {μ:aJ}:∀{l L:List Value},bE μ l L->∀{j:Nat}{v:Value},l[j]? =some v->∃V,L[j]? =some V/\aL μ v V
 |_,_,.nil,j,v,h=>by simp at h
 |_,_,.cons h0 hs,j,v,h=>by
  cases j with
  |zero=>simp at h;subst h;exact ⟨_,by simp,h0⟩
  |succ j=>simp at h⊢;exact bE.get hs h
theorem bE.Q6 {μ:aJ}:∀{l L:List Value},l.length=L.length->(∀(j:Nat)(v V:Value),l[j]? =some v->L[j]? =some V->aL μ v V)->bE μ l L
 |[],[],_,_=>.nil
 |[],_::_,h,_=>by simp at h
 |_::_,[],h,_=>by simp at h
 |v::l,V::L,h,hh=>.cons (hh 0 v V rfl rfl) (bE.Q6 (by simpa using h) λj a b ha hb=>hh (j+1) a b (by simpa using ha) (by simpa using hb))
theorem bE.append {μ:aJ}:∀{l L m M:List Value},bE μ l L->bE μ m M->bE μ (l++m) (L++M)
 |_,_,_,_,.nil,h=>h
 |_,_,_,_,.cons h hs,k=>.cons h (bE.append hs k)
theorem bE.map {μ:aJ}{α:Type}(f g:α->Value):∀(l:List α),(∀x∈l,aL μ (f x) (g x))->bE μ (l.map f) (l.map g)
 |[],_=>.nil
 |x::l,h=>.cons (h x (by simp)) (bE.map f g l λy hy=>h y (by simp [hy]))
theorem T3 {μ:aJ}(p:Value->Bool)(hp:∀v,p v=true->aL μ v v):∀(l:List Value),l.all p=true->bE μ l l
 |[],_=>.nil
 |v::l,h=>by simp at h;exact .cons (hp v h.1) (T3 p hp l (by simpa using h.2))
theorem X3 {μ:aJ}:∀(d:Nat)(v:Value),HC d v=true->aL μ v v
 |0,_,h=>by simp [HC] at h
 |d+1,v,h=>by
  unfold HC at h
  split at h
  any_goals (first|(cases h;done)|constructor;done)
  ·exact .func .nil .nil
  ·exact .agg (T3 _ (X3 d) _ h)
  ·exact .tuple (T3 _ (X3 d) _ h)
theorem EM {μ:aJ}{v:Value}(h:plain v=true):aL μ v v:=X3 6 v h
theorem aj9 {μ:aJ}{v V:Value}(h1:one v=true)(h:aL μ v V):V.oneCell'=true/\V.cells= #[V]:=by
 cases h<;>first|(simp [one] at h1;done)|exact ⟨rfl,rfl⟩
theorem XR {μ:aJ}:∀{l L:List Value},l.all one=true->bE μ l L->∀V∈L,V.oneCell'=true
 |_,_,_,.nil,V,h=>by simp at h
 |_,_,h1,.cons h hs,V,hV=>by
  simp only [Nq,jX] at h1
  rcases dU.1 hV with rfl|hV
  ·exact (aj9 h1.1 h).1
  ·exact XR h1.2 hs V hV
theorem Uh {cs:Array Value}{vs:List Value}(h:cellsOf (.agg cs)=some vs):cs.toList.all one=true/\vs=cs.toList:=by
 simp only [cellsOf] at h;cases hc:cs.toList.all one<;>rw [hc] at h
 ·cases h
 ·simp only [bQ,bc] at h;exact ⟨rfl,h.symm⟩
theorem Jv {v:Value}{vs:List Value}(h:cellsOf v=some vs):vs.all one=true:=by
 cases v
 case agg cs=>
  obtain ⟨h1,rfl⟩:=Uh h;exact h1
 all_goals first|(cases h;done)|(injection h with h;subst h;rfl)
theorem Ol {μ:aJ}{v V:Value}{vs:List Value}(h:cellsOf v=some vs)(hv:aL μ v V):bE μ vs V.cells.toList:=by
 have h1:=Jv h;cases v
 case agg cs=>
  obtain ⟨_,rfl⟩:=Uh h;cases hv with
  |agg h=>exact h
 all_goals first
  |(cases h;done)
  |(injection h with h;subst h
    simp only [Nq,List.all_nil,Bool.and_true] at h1;rw [(aj9 h1 hv).2];exact .cons hv .nil)
theorem zT {n:Nat}(h:Nat.beq (Nat.mod n 2) 0=true):n % 2=0:=nN h
theorem AD {n:Nat}(h:Nat.beq (Nat.mod n 2) 0=false):n % 2=1:=by
 have:n % 2≠0:=Di h
 omega
theorem div_def (n:Nat):Nat.div n 2=n / 2:=rfl
theorem Tr.afF {α:Type}(v:α):∀(f n m:Nat),n<=f->(Tr.one v f n).get m=if m=n then some v else none
 |0,n,m,h=>by
  obtain rfl:n=0:=by omega
  cases m with
  |zero=>rfl
  |succ m=>cases hb:Nat.beq (Nat.mod m 2) 0<;>simp [Tr.Q9,Tr.Q_,Tr.Q8,Tr.get_nil,Tr.ri,Tr.pI,hb]
 |f+1,0,m,h=>by
  cases m with
  |zero=>rfl
  |succ m=>cases hb:Nat.beq (Nat.mod m 2) 0<;>simp [Tr.Q9,Tr.Q_,Tr.Q8,Tr.get_nil,Tr.ri,Tr.pI,hb]
 |f+1,n+1,m,h=>by
  have hd:Nat.div n 2<=f:=by rw [div_def];omega
  have ih:=λk=>Tr.afF v f (Nat.div n 2) k hd
  cases hb:Nat.beq (Nat.mod n 2) 0<;>cases m with
  |zero=>simp [Tr.Q9,Tr.Q_,Tr.Q8,Tr.get_nil,Tr.ri,Tr.pI,hb]
  |succ m=>
   cases hc:Nat.beq (Nat.mod m 2) 0<;>simp only [Tr.Q9,Tr.Q_,Tr.Q8,Tr.get_nil,Tr.ri,Tr.pI,hb,hc,bQ,cQ,ih]<;>
    (first|(have hb:=zT hb)|(have hb:=AD hb))<;>(first|(have hc:=zT hc)|(have hc:=AD hc))<;>
    (try simp only [div_def])<;>first|(rw [an (by omega)];done)|(congr 1;simp only [eq_iff_iff];omega)
theorem Tr.yC {α:Type}(v:α):∀(t:Tr α)(n m:Nat),(t.put n v).get m=if m=n then some v else t.get m
 |.nil,n,m=>by
  simp only [Tr.Rq,Tr.Rt,Tr.Rs,Tr.afF v n n m (bq _),Tr.get_nil,Tr.ri,Tr.pI]
 |.node o l r,0,m=>by cases m<;>simp [Tr.Rq,Tr.Rt,Tr.Rs,Tr.get_nil,Tr.ri,Tr.pI]
 |.node o l r,n+1,0=>by cases hb:Nat.beq (Nat.mod n 2) 0<;>simp [Tr.Rq,Tr.Rt,Tr.Rs,Tr.get_nil,Tr.ri,Tr.pI,hb]
 |.node o l r,n+1,m+1=>by
  have il:=λk=>Tr.yC v l (Nat.div n 2) k
  have ir:=λk=>Tr.yC v r (Nat.div n 2) k
  cases hb:Nat.beq (Nat.mod n 2) 0<;>cases hc:Nat.beq (Nat.mod m 2) 0<;>simp only [Tr.Rq,Tr.Rt,Tr.Rs,Tr.get_nil,Tr.ri,Tr.pI,hb,hc,bQ,cQ,il,ir]<;>
   (first|(have hb:=zT hb)|(have hb:=AD hb))<;>(first|(have hc:=zT hc)|(have hc:=AD hc))<;>
   (try simp only [div_def])<;>first|(rw [an (by omega)];done)|(congr 1;simp only [eq_iff_iff];omega)
theorem Tr.D7 {α:Type}(v:α):∀(t:Tr α)(n m:Nat),(t.dt n v).get m=if m=n then (t.get m).map (λ_=>v) else t.get m
 |.nil,n,m=>by simp [Tr.R5,Tr.CV,Tr.uv,Tr.get_nil,Tr.ri,Tr.pI]
 |.node o l r,0,m=>by cases m<;>simp [Tr.R5,Tr.CV,Tr.uv,Tr.get_nil,Tr.ri,Tr.pI]
 |.node o l r,n+1,0=>by cases hb:Nat.beq (Nat.mod n 2) 0<;>simp [Tr.R5,Tr.CV,Tr.uv,Tr.get_nil,Tr.ri,Tr.pI,hb]
 |.node o l r,n+1,m+1=>by
  have il:=λk=>Tr.D7 v l (Nat.div n 2) k
  have ir:=λk=>Tr.D7 v r (Nat.div n 2) k
  cases hb:Nat.beq (Nat.mod n 2) 0<;>cases hc:Nat.beq (Nat.mod m 2) 0<;>simp only [Tr.R5,Tr.CV,Tr.uv,Tr.get_nil,Tr.ri,Tr.pI,hb,hc,bQ,cQ,il,ir]<;>
   (first|(have hb:=zT hb)|(have hb:=AD hb))<;>(first|(have hc:=zT hc)|(have hc:=AD hc))<;>
   (try simp only [div_def])<;>first|(rw [an (by omega)];done)|(congr 1;simp only [eq_iff_iff];omega)
theorem Tr.JO {α:Type}(v:α):∀(f n m:Nat),n<=f->(Tr.fill v f n).get m=if m<n then some v else none
 |0,n,m,h=>by
  obtain rfl:n=0:=by omega
  simp [Tr.OZ,Tr.O0,Tr.OY,Tr.get_nil,Tr.ri,Tr.pI]
 |f+1,0,m,h=>by simp [Tr.OZ,Tr.O0,Tr.OY,Tr.get_nil,Tr.ri,Tr.pI]
 |f+1,n+1,0,h=>by simp [Tr.OZ,Tr.O0,Tr.OY,Tr.get_nil,Tr.ri,Tr.pI]
 |f+1,n+1,m+1,h=>by
  have il:=λk=>Tr.JO v f (Nat.div (n+1) 2) k (by rw [div_def];omega)
  have ir:=λk=>Tr.JO v f (Nat.div n 2) k (by rw [div_def];omega)
  cases hc:Nat.beq (Nat.mod m 2) 0<;>simp only [Tr.OZ,Tr.O0,Tr.OY,Tr.get_nil,Tr.ri,Tr.pI,hc,bQ,cQ,il,ir]<;>
   (first|(have hc:=zT hc)|(have hc:=AD hc))<;>
   (try simp only [div_def])<;>(congr 1;simp only [eq_iff_iff];omega)
theorem aa.j9 (H:aa)(i j:Nat)(o:Obj):(H.set i o).get j=if j=i then some o else H.get j:=Tr.yC _ _ _ _
theorem aa.tJ (H:aa)(j:Nat)(o:Obj):(H.new o).get j=if j=H.next then some o else H.get j:=Tr.yC _ _ _ _
@[simp] theorem aa.rG (H : aa)(i : Nat)(o : Obj) : (H.set i o).next = H.next := rfl
def nc (μ:aJ)(c:List Value)(C:Array Value)(off:Nat):Prop:=∀j v,c[j]? =some v->∃V,C[off+j]? =some V/\aL μ v V
theorem nc.mono {μ aD:aJ}(hle:aJ.le μ aD){c:List Value}{C:Array Value}{off:Nat}(h:nc μ c C off):nc aD c C off:=
 λj v e=>let ⟨V,a,b⟩:=h j v e;⟨V,a,b.mono hle⟩
inductive lM (μ:aJ):List MapEntry->List MapEntry->Prop
 |nil:lM μ [] []
 |cons {e E:MapEntry}{l L:List MapEntry}(hk:aL μ e.key E.key)(hv:aL μ e.val E.val)(hb:e.born=E.born)(hs:lM μ l L):lM μ (e::l) (E::L)
theorem lM.mono {μ aD:aJ}(hle:aJ.le μ aD):∀{l L:List MapEntry},lM μ l L->lM aD l L
 |_,_,.nil=>.nil
 |_,_,.cons hk hv hb hs=>.cons (hk.mono hle) (hv.mono hle) hb (hs.mono hle)
def rY (B0:Nat)(μ:aJ)(w:World)(i:Nat):Obj->Prop
 |.cells true z c=>∃L C el,μ i=some L/\B0<=L.bA/\L.sn=z/\w.heap[L.bA]? =some (.cells C el (0,0))/\c.length<=L.room/\L.off+L.room<=C.size/\
   nc μ c C L.off/\c.all one=true
 |.cells false z c=>∃L,μ i=some L/\L.sn=z/\c.all one=true/\(c=[]∨∃C el fr,w.heap[L.bA]? =some (.cells C el fr)/\nc μ c C L.off)
 |.map es clock=>∃L ES,μ i=some L/\B0<=L.bA/\w.heap[L.bA]? =some (.map ES clock)/\lM μ es ES.toList
 |.dead=>True
def Obj.pN:Obj->Bool
 |.cells b _ _=>b
 |.map _ _=>true
 |.dead=>false
def Obj.held:Obj->Bool
 |.cells b _ c=>b|| !c.isEmpty
 |.map _ _=>true
 |.dead=>false
theorem B4 {o:Obj}(h:o.pN=true):o.held=true:=by
 cases o with
 |cells b z c=>
  have h:b=true:=h;subst h;rfl
 |map es ck=>rfl
 |dead=>cases h
structure aO (E:Env)(B0:Nat)(μ:aJ)(H:aa)(w:World):Prop where
 fresh:∀i,H.next<=i->μ i=none
 rj:∀g,g<E.ng->∃L,μ g=some L/\L.bA=g/\L.off=0
 obj:∀i o,H.get i=some o->(∃L,μ i=some L)->rY B0 μ w i o
 apart:∀i j oi oj Li Lj,H.get i=some oi->H.get j=some oj->oi.pN=true->oj.held=true->μ i=some Li->μ j=some Lj->Li.bA=Lj.bA->i=j
 base:B0<=w.heap.size
theorem rY.mono {B0:Nat}{μ aD:aJ}(hle:aJ.le μ aD){w:World}{i:Nat}:∀{o:Obj},rY B0 μ w i o->rY B0 aD w i o
 |.cells true _ _,⟨L,C,el,h1,h2,h3,h4,h5,h6,h7,h8⟩=>⟨L,C,el,hle _ _ h1,h2,h3,h4,h5,h6,h7.mono hle,h8⟩
 |.cells false _ _,⟨L,h1,h3,h8,hc⟩=>⟨L,hle _ _ h1,h3,h8,hc.imp id λ⟨C,el,fr,h4,h7⟩=>⟨C,el,fr,h4,h7.mono hle⟩⟩
 |.map _ _,⟨L,ES,h1,h2,h3,h4⟩=>⟨L,ES,hle _ _ h1,h2,h3,h4.mono hle⟩
 |.dead,_=>trivial
theorem rY.Rc {B0:Nat}{μ:aJ}{w:World}{i:Nat}:∀{o:Obj},rY B0 μ w i o->o.pN=true->∃L,μ i=some L/\B0<=L.bA/\L.bA<w.heap.size
 |.cells true _ _,⟨L,C,el,h1,h2,h3,h4,_⟩,_=>⟨L,h1,h2,by rcases iY L.bA w.heap.size with h|h;exact h;rw [tg h] at h4;cases h4⟩
 |.map _ _,⟨L,ES,h1,h2,h3,_⟩,_=>⟨L,h1,h2,by rcases iY L.bA w.heap.size with h|h;exact h;rw [tg h] at h3;cases h3⟩
 |.cells false _ _,_,h=>by simp [Obj.pN] at h
 |.dead,_,h=>by simp [Obj.pN] at h
theorem rY.P9 {B0:Nat}{μ:aJ}{w:World}{i:Nat}:∀{o:Obj},rY B0 μ w i o->o.held=true->∃L,μ i=some L/\L.bA<w.heap.size
 |.cells true _ _,h,_=>let ⟨L,h1,_,h3⟩:=h.Rc rfl;⟨L,h1,h3⟩
 |.map _ _,h,_=>let ⟨L,h1,_,h3⟩:=h.Rc rfl;⟨L,h1,h3⟩
 |.cells false _ c,⟨L,h1,_,_,hc⟩,hh=>by
  rcases hc with hc|⟨C,el,fr,h4,_⟩
  ·subst hc;cases hh
  ·exact ⟨L,h1,by rcases iY L.bA w.heap.size with h|h;exact h;rw [tg h] at h4;cases h4⟩
 |.dead,_,h=>by cases h
theorem rY.world {B0:Nat}{μ:aJ}{w w':World}{i:Nat}:∀{o:Obj},rY B0 μ w i o->(∀L,μ i=some L->L.bA<w.heap.size->w'.heap[L.bA]? =w.heap[L.bA]?)->rY B0 μ w' i o
 |.cells true _ _,⟨L,C,el,h1,h2,h3,h4,h5⟩,h=>⟨L,C,el,h1,h2,h3,by rw [h L h1 (Xs h4)];exact h4,h5⟩
 |.cells false _ _,⟨L,h1,h3,h8,hc⟩,h=>⟨L,h1,h3,h8,hc.imp id λ⟨C,el,fr,h4,h7⟩=>⟨C,el,fr,by rw [h L h1 (Xs h4)];exact h4,h7⟩⟩
 |.map _ _,⟨L,ES,h1,h2,h3,h4⟩,h=>⟨L,ES,h1,h2,by rw [h L h1 (Xs h3)];exact h3,h4⟩
 |.dead,_,_=>trivial
 where
 Xs {w:World}{k:Nat}{x:Go.Obj}(h:w.heap[k]? =some x):k<w.heap.size:=by
  rcases iY k w.heap.size with h'|h'
  ·exact h'
  ·rw [tg h'] at h;cases h
theorem aO.world {E:Env}{B0:Nat}{μ:aJ}{H:aa}{w w':World}(h:aO E B0 μ H w)(hk:∀k,k<w.heap.size->w'.heap[k]? =w.heap[k]?)(hs:w.heap.size<=w'.heap.size):aO E B0 μ H w' where
 fresh:=h.fresh
 rj:=h.rj
 obj i o ho hm:=(h.obj i o ho hm).world λL _ hl=>hk _ hl
 apart:=h.apart
 base:=wK h.base hs
theorem aO.heap {E:Env}{B0:Nat}{μ:aJ}{H:aa}{w w':World}(h:aO E B0 μ H w)(hk:w'.heap=w.heap):aO E B0 μ H w':=
 h.world (λk _=>by rw [hk]) (by rw [hk];exact bq _)
theorem aO.drop {E:Env}{B0:Nat}{μ:aJ}{H:aa}{w:World}(h:aO E B0 μ H w)(i:Nat):aO E B0 μ (H.set i .dead) w where
 fresh:=h.fresh
 rj:=h.rj
 obj j o ho hm:=by
  rw [aa.j9] at ho;split at ho
  ·injection ho with ho;subst ho;trivial
  ·exact h.obj j o ho hm
 apart:=by
  intro a b oa ob La Lb ha hb wa wb ma mb mL;rw [aa.j9] at ha hb;split at ha
  ·injection ha with ha;subst ha;simp [Obj.pN] at wa
  ·split at hb
   ·injection hb with hb;subst hb;simp [Obj.held] at wb
   ·exact h.apart a b oa ob La Lb ha hb wa wb ma mb mL
 base:=h.base
theorem aO.N2 {E:Env}{B0:Nat}{μ:aJ}{H H':aa}{w:World}(h:aO E B0 μ H w)(d:Nat)(L:Loc)(o:Obj)(hd:μ d=none)(hg:∀j,H'.get j=if j=d then some o else H.get j)
  (hn:H.next<=H'.next)(gH:d<H'.next)(sB:∀i oi Li,H.get i=some oi->(o.pN=true/\oi.held=true∨oi.pN=true/\o.held=true)->μ i=some Li->Li.bA≠L.bA)
  (ho:rY B0 (μ.add d L) w d o):aO E B0 (μ.add d L) H' w where
 fresh i hi:=by
  unfold aJ.add;rw [an (by omega)];exact h.fresh i (by omega)
 rj g hg:=by
  have⟨K,h1,h2,h3⟩:=h.rj g hg;exact ⟨K,aJ.Au L hd _ _ h1,h2,h3⟩
 obj j x hx hm:=by
  rw [hg] at hx;split at hx
  ·injection hx with hx;subst hx;subst_vars;exact ho
  ·rename_i aW;have⟨K,hK⟩:=hm;unfold aJ.add at hK;rw [an aW] at hK;exact (h.obj j x hx ⟨K,hK⟩).mono (aJ.Au L hd)
 apart:=by
  intro a b oa ob La Lb ha hb wa wb ma mb mL;rw [hg] at ha hb;unfold aJ.add at ma mb;split at ha
  ·rename_i e1;split at hb
   ·rename_i e2;rw [e1,e2]
   ·rename_i e2;rw [ar e1] at ma;rw [an e2] at mb;injection ma with ma;subst ma
    injection ha with ha;subst ha
    exact absurd mL.symm (sB b ob Lb hb (.inl ⟨wa,wb⟩) mb)
  ·rename_i e1;rw [an e1] at ma;split at hb
   ·rename_i e2;rw [ar e2] at mb;injection mb with mb;subst mb
    injection hb with hb;subst hb
    exact absurd mL (sB a oa La ha (.inr ⟨wa,wb⟩) ma)
   ·rename_i e2;rw [an e2] at mb;exact h.apart a b oa ob La Lb ha hb wa wb ma mb mL
 base:=h.base
theorem aO.TY {E:Env}{B0:Nat}{μ:aJ}{H:aa}{w:World}(h:aO E B0 μ H w)(L:Loc)(o:Obj)
  (sB:∀i oi Li,H.get i=some oi->(o.pN=true/\oi.held=true∨oi.pN=true/\o.held=true)->μ i=some Li->Li.bA≠L.bA)
  (ho:rY B0 (μ.add H.next L) w H.next o):aO E B0 (μ.add H.next L) (H.new o) w:=
 h.N2 H.next L o (h.fresh _ (bq _)) (λj=>aa.tJ H j o) (zA _) (SK _) sB ho
def cD (H:aa)(μ:aJ)(H':aa)(aD:aJ):Prop:=aJ.le μ aD/\(∀i,i<H.next->aD i=μ i)/\H.next<=H'.next
theorem cD.le {H H':aa}{μ aD:aJ}(h:cD H μ H' aD):aJ.le μ aD:=h.1
theorem cD.same {H H':aa}(μ:aJ)(h:H'.next=H.next):cD H μ H' μ:=⟨aJ.le_refl _,λ_ _=>rfl,by omega⟩
theorem cD.refl (H:aa)(μ:aJ):cD H μ H μ:=cD.same μ rfl
theorem cD.trans {H H' rU:aa}{μ aD It:aJ}(h:cD H μ H' aD)(k:cD H' aD rU It):cD H μ rU It:=
 ⟨aJ.le_trans h.1 k.1,λi hi=>(k.2.1 i (by have:=h.2.2;omega)).trans (h.2.1 i hi),wK h.2.2 k.2.2⟩
theorem cD.new {H:aa}{μ:aJ}(o:Obj)(L:Loc)(h:μ H.next=none):cD H μ (H.new o) (μ.add H.next L):=
 ⟨aJ.Au L h,λi hi=>by unfold aJ.add;rw [an (by omega)],zA _⟩
theorem P8 (w:World)(o:Go.Obj):(w.alloc o).heap[w.heap.size]? =some o:=by
 show (w.heap.push o)[w.heap.size]? =some o;exact Array.getElem?_push_size
theorem aO.alloc {E:Env}{B0:Nat}{μ:aJ}{H:aa}{w:World}(h:aO E B0 μ H w)(o:Go.Obj):aO E B0 μ H (w.alloc o):=
 h.world (λk hk=>Below.heap_alloc w o k hk) (by simp)
theorem aO.ajR {E:Env}{B0:Nat}{μ:aJ}{H:aa}{w:World}(h:aO E B0 μ H w)(z room:Nat)(c:List Value)(C:Array Value)(el:TypeId)
  (hc:nc μ c C 0)(h1:c.length<=room)(h2:room<=C.size)(u6:c.all one=true) :
  cD H μ (H.new (.cells true z c)) (μ.add H.next ⟨w.heap.size,0,room,z⟩)/\aO E B0 (μ.add H.next ⟨w.heap.size,0,room,z⟩) (H.new (.cells true z c)) (w.alloc (.cells C el))/\Below B0 w (w.alloc (.cells C el)):=by
 have hle:=aJ.Au (⟨w.heap.size,0,room,z⟩:Loc) (h.fresh _ (bq _));refine ⟨cD.new _ _ (h.fresh _ (bq _)),(h.alloc _).TY _ _ ?_ ?_,(Below.refl _ _).alloc h.base _⟩
 ·intro i oi Li hi hw hm;have⟨K,k1,k3⟩:=(h.obj i oi hi ⟨_,hm⟩).P9 (hw.elim (λh=>h.2) λh=>B4 h.1);rw [hm] at k1;injection k1 with k1
  subst k1;exact λe=>by simp only at e;omega
 ·exact ⟨_,C,el,aJ.r_ _ _ _,h.base,rfl,P8 _ _,h1,by simpa using h2,hc.mono hle,u6⟩
theorem aO.ajS {E:Env}{B0:Nat}{μ:aJ}{H:aa}{w:World}(h:aO E B0 μ H w)(es:List MapEntry)(ES:Array MapEntry)(ck:Nat)(he:lM μ es ES.toList) :
  cD H μ (H.new (.map es ck)) (μ.add H.next ⟨w.heap.size,0,0,0⟩)/\aO E B0 (μ.add H.next ⟨w.heap.size,0,0,0⟩) (H.new (.map es ck)) (w.alloc (.map ES ck))/\Below B0 w (w.alloc (.map ES ck)):=by
 have hle:=aJ.Au (⟨w.heap.size,0,0,0⟩:Loc) (h.fresh _ (bq _));refine ⟨cD.new _ _ (h.fresh _ (bq _)),(h.alloc _).TY _ _ ?_ ?_,(Below.refl _ _).alloc h.base _⟩
 ·intro i oi Li hi hw hm;have⟨K,k1,k3⟩:=(h.obj i oi hi ⟨_,hm⟩).P9 (hw.elim (λh=>h.2) λh=>B4 h.1);rw [hm] at k1;injection k1 with k1
  subst k1;exact λe=>by simp only at e;omega
 ·exact ⟨_,ES,aJ.r_ _ _ _,h.base,P8 _ _,he.mono hle⟩
theorem aO.put {E:Env}{B0:Nat}{μ:aJ}{H:aa}{w w':World}(h:aO E B0 μ H w){i:Nat}{o o':Obj}{L:Loc}(hi:H.get i=some o)(hw:o.pN=true)(KI:o'.pN=true)(hm:μ i=some L)
  (hk:∀k,k≠L.bA->w'.heap[k]? =w.heap[k]?)(hs:w'.heap.size=w.heap.size)(ho:rY B0 μ w' i o'):aO E B0 μ (H.set i o') w' where
 fresh:=h.fresh
 rj:=h.rj
 obj j x hx Wy:=by
  rw [aa.j9] at hx;split at hx
  ·injection hx with hx;subst hx;subst_vars;exact ho
  ·rename_i aW;have hr:=h.obj j x hx Wy;have⟨L',l1,l2,_⟩:=(h.obj i o hi ⟨_,hm⟩).Rc hw;rw [hm] at l1;injection l1 with l1;subst l1
   have key:∀K,μ j=some K->x.held=true->K.bA≠L.bA:=λK hK wo e=>aW (h.apart i j o x L K hi hx hw wo hm hK e.symm).symm
   cases x with
   |dead=>trivial
   |map es ck=>exact hr.world λK hK aE=>hk _ (key K hK rfl)
   |cells b z c=>
    cases b with
    |true=>exact hr.world λK hK aE=>hk _ (key K hK rfl)
    |false=>
     have⟨K,q1,q2,q4,q5⟩:=hr;by_cases hc:c=[]
     ·exact ⟨K,q1,q2,q4,.inl hc⟩
     ·refine ⟨K,q1,q2,q4,q5.imp id λ⟨C,el,fr,r2,r3⟩=>⟨C,el,fr,?_,r3⟩⟩;rw [hk _ (key K q1 (by cases c with|nil=>exact absurd rfl hc|cons v c=>rfl))];exact r2
 apart:=by
  intro a b oa ob La Lb ha hb wa wb ma mb mL;rw [aa.j9] at ha hb;by_cases ea:a=i
  ·by_cases eb:b=i
   ·rw [ea,eb]
   ·rw [an eb] at hb;subst ea;exact h.apart _ b o ob La Lb hi hb hw wb ma mb mL
  ·rw [an ea] at ha;by_cases eb:b=i
   ·subst eb;exact h.apart a _ oa o La Lb ha hi wa (B4 hw) ma mb mL
   ·rw [an eb] at hb;exact h.apart a b oa ob La Lb ha hb wa wb ma mb mL
 base:=by rw [hs];exact h.base
theorem setRow_other (w:World)(g k:Nat)(C:Array Value)(h:k≠g):(w.setRow g C).heap[k]? =w.heap[k]? :=by
 simp only [World.setRow,Array.getElem?_modify];rw [an (λe=>h e.symm)]
theorem setRow_size (w:World)(g:Nat)(C:Array Value):(w.setRow g C).heap.size=w.heap.size:=by simp [World.setRow]
theorem Mn:∀(c:List Value)(o:Nat)(vs:List Value),(setAt c o vs).length=c.length
 |_,_,[]=>rfl
 |c,o,v::vs=>by simp [setAt,Mn (c.set o v) (o+1) vs]
theorem akZ:∀(vs c:List Value)(o j:Nat),o+vs.length<=c.length->(setAt c o vs)[j]? =if o<=j/\j<o+vs.length then vs[j - o]? else c[j]?
 |[],c,o,j,_=>by
  simp only [setAt,nM,Fz]
  rw [an (by omega)]
 |v::vs,c,o,j,h=>by
  simp only [gU] at h⊢
  rw [setAt,akZ vs (c.set o v) (o+1) j (by simp;omega)]
  by_cases h1:o+1<=j/\j<o+1+vs.length
  ·rw [ar h1,ar (by omega),show j - o=(j - (o+1))+1 from by omega]
   rfl
  ·rw [an h1]
   by_cases h2:o=j
   ·subst h2
    rw [ar (by omega),vD (by omega),x6]
    rfl
   ·rw [an (by omega),td h2]
theorem Mo:∀(vs c:List Value)(o:Nat),c.all one=true->vs.all one=true->(setAt c o vs).all one=true
 |[],_,_,h,_=>h
 |v::vs,c,o,h,h1=>by
  simp only [Nq,jX] at h1
  refine Mo vs _ _ ?_ h1.2
  rw [qU] at h⊢
  intro x hx
  rcases aap hx with hx|rfl
  ·exact h x hx
  ·exact h1.1
def spliced (C:Array Value)(o:Nat)(VS:List Value):Array Value:=(C.toList.take o++VS++C.toList.drop (o+VS.length)).toArray
theorem ak4 (C:Array Value)(o:Nat)(VS:List Value)(h:o+VS.length<=C.size):(spliced C o VS).size=C.size:=by
 simp [spliced];omega
theorem RT (C:Array Value)(o:Nat)(VS:List Value)(h:o+VS.length<=C.size)(j:Nat) :
  (spliced C o VS)[j]? =if o<=j/\j<o+VS.length then VS[j - o]? else C[j]? :=by
 unfold spliced;rw [List.getElem?_toArray,mC,Sw];simp only [km,uA];rw [Nl (by omega)];by_cases h1:j<o
 ·rw [ar h1,an (by omega),Sp h1,rS]
 ·rw [an h1,Sw];by_cases h2:j - o<VS.length
  ·rw [ar h2,ar (by omega)]
  ·rw [an h2,an (by omega),Bd,rS]
   congr 1;omega
theorem wY (g o n:Nat):(⟨g,o,none⟩:Addr).add n=⟨g,o+n,none⟩:=by unfold Addr.add;split<;>simp_all
theorem aO.storeCells {E:Env}{B0:Nat}{μ:aJ}{H H':aa}{w:World}(h:aO E B0 μ H w){i o:Nat}{vs VS:List Value}{L:Loc}(hm:μ i=some L)
  (hs:sV H i o vs=some H')(hv:bE μ vs VS)(h1:vs.all one=true)(P:Program) :
  ∃w',(Go.storeCells ⟨L.bA,L.off+o,none⟩ VS).run P w=.ok () w'/\aO E B0 μ H' w'/\Below B0 w w':=by
 unfold sV at hs
 split at hs
 case h_2=>cases hs
 rename_i z c hg
 split at hs
 case isFalse=>cases hs
 rename_i hl
 injection hs with hs;subst hs
 have⟨L',C,el,k1,k2,k3,k4,k5,k6,k7,k8⟩:=h.obj i _ hg ⟨_,hm⟩
 rw [hm] at k1;injection k1 with k1;subst k1
 have hlen:=hv.length
 have fB:=run_storeCells_at (P:=P) L.bA (L.off+o) el VS 0 C w k4 (by omega) (XR h1 hv)
 refine ⟨_,fB,?_,?_⟩
 ·have oc:L.off+o+VS.length<=C.size:=by omega
  refine h.put hg rfl rfl hm (λk hk=>setRow_other _ _ _ _ hk) (setRow_size _ _ _) ⟨L,spliced C (L.off+o) VS,el,hm,k2,k3,?_,?_,?_,?_,?_⟩
  ·simpa [spliced] using setRow_heap w L.bA C _ el _ k4
  ·rw [Mn];exact k5
  ·rw [ak4 _ _ _ oc];exact k6
  ·intro j v hj
   rw [akZ _ _ _ _ hl] at hj
   rw [RT _ _ _ oc]
   split at hj
   ·rename_i hb
    have⟨V,hV,hr⟩:=hv.get hj
    rw [ar (by omega),show L.off+j - (L.off+o)=j - o from by omega]
    exact ⟨V,hV,hr⟩
   ·rw [an (by omega)]
    exact k7 j v hj
  ·exact Mo _ _ _ k8 h1
 ·refine ⟨rfl,rfl,rfl,by rw [setRow_size];exact bq _,λk hk=>setRow_other _ _ _ _ (by omega)⟩
end
section
structure Env.Ok (E : Env) : Prop where
  ty : ∀ t i, E.ty t = some i -> E.prog.info? t = some i
  fn : ∀ f fn, E.fn f = some fn → E.prog.funcs[f]? = some fn ∧ fn.body.isSome = true ∧ (fn.name == "runtime.NumGoroutine") = false
  qp : ∀ t, E.qp t = true → E.prog.stoodInHeld t = false ∧ E.prog.eqGuardType E.prog.depth t = false ∧ ∀ fs, E.prog.underlying t = some (.struct fs) → ∀ f ∈ fs.toList, f.name ≠ "_"
  clone : ∀ f, E.clone f = true → ∃ fn, E.prog.funcs[f]? = some fn ∧ fn.body = none ∧ (fn.name == "runtime.NumGoroutine") = false ∧ Extern.findNext fn = none ∧
    Extern.find fn = some Extern.MapsClone.clone
  qL : ∀ f, E.qL f = true -> ∀ w : World, Calls E.prog f #[] w λe w' => e = .returned (.bool true) /\ Below w.heap.size w w'
section
variable {E:Env} (hE:E.Ok) {B0:Nat} {μ:aJ} {H:aa} {w:World}
include hE
theorem sX {t:Nat}{d:TypeDesc}(h:dq E t=some d):E.prog.underlying t=some d:=by
 unfold dq at h;split at h
 case h_2=>cases h
 rename_i i hi;have h1:=hE.ty _ _ hi;unfold Program.underlying;rw [h1];cases i with
 |mk desc=>
  cases desc
  case named n u=>
   simp only at h⊢;cases hu:E.ty u with
   |none=>rw [hu] at h;cases h
   |some j=>rw [hu] at h;rw [hE.ty _ _ hu];exact h
  all_goals (simp only at h⊢;exact h)
theorem c5 {t:Nat}{d:TypeDesc}(h:dq E t=some d)(w:World):(underlying t).run E.prog w=.ok d w:=run_underlying (sX hE h) w
theorem akO {t:Nat}{i:TypeInfo}(h:E.ty t=some i)(w:World):(typeInfo t).run E.prog w=.ok i w:=by
 simp [typeInfo,hE.ty _ _ h]
theorem lI {t n:Nat}(h:cK E t=some n)(w:World):(sizeOf t).run E.prog w=.ok n w:=by
 unfold cK at h;cases hi:E.ty t with
 |none=>rw [hi] at h;cases h
 |some i=>
  rw [hi] at h;injection h with h
  simp [sizeOf,akO hE hi,h]
theorem HL {t:Nat}{z:Value}(h:zeroV E t=some z)(w:World):(zeroValue t).run E.prog w=.ok z w/\plain z=true:=by
 unfold zeroV at h;split at h
 ·rename_i i hi;split at h
  ·rename_i z' hz;cases hp:plain z' with
   |false=>rw [hp] at h;cases h
   |true=>
    rw [hp] at h;injection h with h;subst h
    exact ⟨by simp [zeroValue,akO hE hi,hz],hp⟩
  ·cases h
 ·cases h
theorem RG {t:Nat}{b:Bool}(h:KK E t=some b)(w:World):(isAgg t).run E.prog w=.ok b w:=by
 unfold KK at h;split at h
 ·rename_i fs hu;injection h with h;subst h;simp [isAgg,c5 hE hu]
 ·rename_i a c hu;injection h with h;subst h;simp [isAgg,c5 hE hu]
 ·rename_i d h1 h2 hu;injection h with h;subst h
  simp only [isAgg,Sem.run_bind,c5 hE hu,Result.andThen_ok];rfl
 ·cases h
omit hE
theorem aO.aM (h:aO E B0 μ H w){i:Nat}{L:Loc}{b:Bool}{z:Nat}{c:List Value}(hm:μ i=some L)(hg:H.get i=some (.cells b z c))(aW:c≠[]) :
  ∃C el fr,w.heap[L.bA]? =some (.cells C el fr)/\nc μ c C L.off/\c.all one=true:=by
 have ho:=h.obj i _ hg ⟨_,hm⟩;cases b with
 |true=>
  have⟨L',C,el,k1,k2,k3,k4,k5,k6,k7,k8⟩:=ho;rw [hm] at k1;injection k1 with k1;subst k1
  exact ⟨C,el,_,k4,k7,k8⟩
 |false=>
  have⟨L',k1,k3,k8,kc⟩:=ho;rw [hm] at k1;injection k1 with k1;subst k1
  rcases kc with kc|⟨C,el,fr,k4,k7⟩
  ·exact absurd kc aW
  ·exact ⟨C,el,fr,k4,k7,k8⟩
theorem ali {c l:List Value}{o n:Nat}(h:fm c o n=some l)(hn:¬n=0):c≠[]:=by
 unfold fm at h;split at h
 ·rename_i hl;intro e;subst e;simp at hl;omega
 ·cases h
theorem Jt {L:Loc}{C:Array Value}{el:TypeId}{fr:Nat×Nat}(hw:w.heap[L.bA]? =some (.cells C el fr))(o:Nat):w.cell? ⟨L.bA,o,none⟩=C[o]? :=by
 simp [World.cell?,hw]
theorem Zz {c l:List Value}{C:Array Value}{off o n:Nat}(hc:nc μ c C off)(h:fm c o n=some l) :
  ∃CS:List Value,CS.length=n/\bE μ l CS/\∀j v,CS[j]? =some v->C[off+o+j]? =some v:=by
 unfold fm at h;split at h
 case isFalse=>cases h
 rename_i hl;injection h with h;subst h
 have B6:∀j,j<n->∃v V,c[o+j]? =some v/\C[off+o+j]? =some V/\aL μ v V:=by
  intro j hj;have aE:o+j<c.length:=by omega
  have⟨V,hV,hr⟩:=hc (o+j) c[o+j] (by simp [aE]);exact ⟨_,V,by simp [aE],by rw [show off+o+j=off+(o+j) from by omega];exact hV,hr⟩
 refine ⟨(C.toList.drop (off+o)).take n,?_,?_,?_⟩
 ·simp only [km,C9,uA];rcases Nc n with rfl|hn
  ·simp
  ·have⟨v,V,_,hV,_⟩:=B6 (n - 1) (by omega)
   have:off+o+(n - 1)<C.size:=by
    rcases iY (off+o+(n - 1)) C.size with h|h
    ·exact h
    ·rw [tg h] at hV;cases hV
   omega
 ·have hlen:((C.toList.drop (off+o)).take n).length=n:=by
   simp only [km,C9,uA];rcases Nc n with rfl|hn
   ·simp
   ·have⟨v,V,_,hV,_⟩:=B6 (n - 1) (by omega)
    have:off+o+(n - 1)<C.size:=by
     rcases iY (off+o+(n - 1)) C.size with h|h
     ·exact h
     ·rw [tg h] at hV;cases hV
    omega
  refine bE.Q6 (by rw [hlen];simp;omega) ?_;intro j v V hv hV;have hj:j<n:=by
   rcases iY j n with h|h
   ·exact h
   ·rw [ji (by rw [hlen];exact h)] at hV;cases hV
  have⟨v',V',h1,h2,h3⟩:=B6 j hj;rw [Sp hj,Bd] at hv hV;rw [h1] at hv;rw [rS,h2] at hV;injection hv with hv;injection hV with hV
  subst hv;subst hV;exact h3
 ·intro j v hv;have hj:j<n:=by
   rcases iY j n with h|h
   ·exact h
   ·rw [ji (by simp;omega)] at hv;cases hv
  rw [Sp hj,Bd,rS] at hv;exact hv
theorem axa {L:Loc}{C:Array Value}{el:TypeId}{fr:Nat×Nat}(hw:w.heap[L.bA]? =some (.cells C el fr)){o:Nat}{CS:List Value}(h:∀j v,CS[j]? =some v->C[L.off+o+j]? =some v)(P:Program) :
  (loadCells ⟨L.bA,L.off+o,none⟩ CS.length).run P w=.ok CS.toArray w:=by
 refine run_loadCells_list w _ CS λj v hj=>?_
 rw [wY,Jt hw];exact h j v hj
include hE
theorem aid (hH:aO E B0 μ H w){t:Nat}{a A v:Value}(ha:aL μ a A)(h:Av E H t a=some v) :
  ∃V,(Instr.loadAt t A).run E.prog w=.ok V w/\aL μ v V:=by
 unfold Av at h;split at h
 case h_2=>cases h
 rename_i i o;cases ha with
 |@ptr _ _ L hm=>
 split at h
 case h_2=>cases h
 rename_i b z c hg;split at h
 ·rename_i Ei;cases hs:cK E t with
  |none=>rw [hs] at h;cases h
  |some n=>
   rw [hs] at h;simp only [bP] at h;split at h
   ·cases h
   rename_i Ai;cases ht:fm c o n with
   |none=>rw [ht] at h;cases h
   |some l=>
    rw [ht] at h;injection h with h;subst h
    have⟨C,el,fr,hw,hc,h1⟩:=hH.aM hm hg (ali ht Ai);have⟨CS,e1,e2,e3⟩:=Zz hc ht;refine ⟨.agg CS.toArray,?_,.agg (by simpa using e2)⟩
    have:=axa hw e3 E.prog
    rw [e1] at this;simp [Instr.loadAt,Instr.sureAddr,loadVar,RG hE Ei,lI hE hs,this]
 ·rename_i Ei;have⟨C,el,fr,hw,hc,h1⟩:=hH.aM hm hg (by intro e;subst e;simp at h);have⟨V,hV,hr⟩:=hc o v h;refine ⟨V,?_,hr⟩;simp [Instr.loadAt,Instr.sureAddr,loadVar,RG hE Ei,Jt hw,hV]
 ·cases h
theorem axX (hH:aO E B0 μ H w){t:Nat}{a A v V:Value}{H':aa}(ha:aL μ a A)(hv:aL μ v V)(h:CT E H t a v=some H') :
  ∃w',(Instr.storeAt t A V).run E.prog w=.ok () w'/\aO E B0 μ H' w'/\Below B0 w w':=by
 unfold CT at h;split at h
 case h_2=>cases h
 rename_i i o;cases ha with
 |@ptr _ _ L hm=>
 cases hc:cellsOf v with
 |none=>rw [hc] at h;cases h
 |some vs=>
  cases hs:cK E t with
  |none=>rw [hc,hs] at h;cases h
  |some n=>
   rw [hc,hs] at h;simp only [bP] at h;split at h
   case isFalse=>cases h
   rename_i hn;have hr:=Ol hc hv;have⟨w',e1,e2,e3⟩:=hH.storeCells hm h hr (Jv hc) E.prog;refine ⟨w',?_,e2,e3⟩;have oc:V.cells.size=n:=by rw [<-uA,<-hr.length,hn]
   simp [Instr.storeAt,Instr.sureAddr,storeVar,lI hE hs,oc,e1]
omit hE
theorem Om {vs:List Value}{VS:Array Value}(h:bE μ vs VS.toList):nc μ vs VS 0:=by
 intro j v hj;have⟨V,hV,hr⟩:=h.get hj;exact ⟨V,by rw [cG,<-rS];exact hV,hr⟩
def zH (E:Env)(B0:Nat)(μ:aJ)(H:aa)(w:World)(s:Sem Value)(v:Value)(H':aa):Prop:=
 ∃V w' aD,s.run E.prog w=.ok V w'/\cD H μ H' aD/\aL aD v V/\aO E B0 aD H' w'/\Below B0 w w'
theorem ajV (hH:aO E B0 μ H w){v V p:Value}{H':aa}(hv:aL μ v V)(h:uk H v=some (p,H'))(t:TypeId) :
  ∃aD,(newVar t V).run E.prog w=.ok ⟨w.heap.size,0,none⟩ (w.alloc (.cells V.cells t))/\cD H μ H' aD/\aL aD p (.pointer (some ⟨w.heap.size,0,none⟩))/\
   aO E B0 aD H' (w.alloc (.cells V.cells t))/\Below B0 w (w.alloc (.cells V.cells t)):=by
 unfold uk at h;cases hc:cellsOf v with
 |none=>rw [hc] at h;cases h
 |some vs=>
  rw [hc] at h;simp only [fa,bc,iF] at h;obtain ⟨rfl,rfl⟩:=h;have hr:=Ol hc hv;have⟨k1,k2,k3⟩:=hH.ajR 0 V.cells.size vs V.cells t (Om hr) (by rw [hr.length];simp) (bq _) (Jv hc);refine ⟨_,by simp [newVar,newRow],k1,?_,k2,k3⟩;exact .ptr (L:=⟨w.heap.size,0,V.cells.size,0⟩) (aJ.r_ _ _ _)
theorem ap8 (hH:aO E B0 μ H w){v V p:Value}{H':aa}(hv:aL μ v V)(h:uk H v=some (p,H'))(t:TypeId):zH E B0 μ H w (Instr.box t V) p H':=by
 have⟨aD,h1,h2,h3,h4,h5⟩:=ajV hH hv h t;exact ⟨_,_,aD,by simp [Instr.box,h1],h2,h3,h4,h5⟩
include hE in
theorem apb (hH:aO E B0 μ H w){z p:Value}{H':aa}{t:TypeId}(hz:zeroV E t=some z)(h:uk H z=some (p,H')):zH E B0 μ H w (Instr.alloc t true (.tuple #[])) p H':=by
 have⟨hr,hp⟩:=HL hE hz w;have⟨aD,h1,h2,h3,h4,h5⟩:=ajV hH (EM hp) h t;exact ⟨_,_,aD,by simp [Instr.alloc,hr,h1],h2,h3,h4,h5⟩
theorem bE.set {l L:List Value}(h:bE μ l L)(i:Nat){v V:Value}(hv:aL μ v V):bE μ (l.set i v) (L.set i V):=by
 refine bE.Q6 (by simp [h.length]) λj a b ha hb=>?_
 rw [mD] at ha hb;by_cases e:i=j
 ·rw [ar e] at ha hb;split at ha<;>split at hb<;>simp_all
 ·rw [an e] at ha hb;have⟨V',h1,h2⟩:=h.get ha;rw [hb] at h1;injection h1 with h1;subst h1
  exact h2
theorem ajY {v V:Value}(h1:Hl v=true)(h:aL μ v V):bE μ v.cells.toList V.cells.toList:=by
 cases h<;>first
  |(simp [Hl] at h1;done)
  |exact ‹bE _ _ _›
  |exact .cons (by constructor<;>assumption) .nil
  |exact .cons .X4 .nil
theorem afq:∀{l L:List Value},bE μ l L->∀(k off:Nat)(c C:Array Value),bE μ c.toList C.toList->
  bE μ ((l.zipIdx k).foldl (λcs (p:Value×Nat)=>cs.setIfInBounds (off+p.2) p.1) c).toList ((L.zipIdx k).foldl (λcs (p:Value×Nat)=>cs.setIfInBounds (off+p.2) p.1) C).toList
 |_,_,.nil,_,_,_,_,h=>h
 |_,_,.cons hv hs,k,off,c,C,h=>by
  simp only [List.zipIdx_cons,List.foldl_cons]
  exact afq hs (k+1) off _ _ (by simpa using h.set (off+k) hv)
theorem aak (off:Nat)(a c:Array Value) :
  (a.zipIdx.foldl (λcs (p:Value×Nat)=>cs.setIfInBounds (off+p.2) p.1) c)=a.toList.zipIdx.foldl (λcs (p:Value×Nat)=>cs.setIfInBounds (off+p.2) p.1) c:=by
 rw [<-Array.foldl_toList,Array.toList_zipIdx]
theorem OX (place:Nat->Option (Nat×Nat))(e e':Operand->Value)(he:∀x,aL μ (e x) (e' x)):∀(ps:List (Nat×Operand))(c C c':Array Value),
  (ps.map λp=>(p.1,e p.2)).all (λp=>Hl p.2)=true->bE μ c.toList C.toList->Instr.fill place c (ps.map λp=>(p.1,e p.2))=some c'->
  ∃C',Instr.fill place C (ps.map λp=>(p.1,e' p.2))=some C'/\bE μ c'.toList C'.toList
 |[],c,C,c',_,hc,h=>by
  simp only [FA,Instr.fill,bc] at h⊢
  subst h
  exact ⟨C,rfl,hc⟩
 |p::ps,c,C,c',ht,hc,h=>by
  simp only [lL,Nq,jX] at ht
  simp only [lL,Instr.fill] at h⊢
  cases hp:place p.1 with
  |none=>rw [hp] at h;cases h
  |some q=>
   have⟨off,size⟩:=q
   rw [hp] at h
   simp only at h⊢
   have Ke:=ajY ht.1 (he p.2)
   have hl:=Ke.length
   simp only [uA] at hl
   have Ew:=hc.length
   simp only [uA] at Ew
   rw [<-hl,<-Ew]
   split at h
   ·cases h
   ·rename_i hb
    rw [an hb]
    refine OX place e e' he ps _ _ c' ht.2 ?_ h
    rw [aak,aak]
    exact afq Ke 0 off c C hc
include hE in
theorem run_places {w:World}:∀(fs:List Field)(ps:List (Nat×Nat)),(fs.mapM λf=>(cK E f.type).map λn=>(f.offset,n))=some ps->
  (fs.mapM λf=>Functor.map (Prod.mk f.offset) (sizeOf f.type)).run E.prog w=.ok ps w
 |[],ps,h=>by
  simp only [List.mapM_nil] at h⊢
  injection h with h;subst h;rfl
 |f::fs,ps,h=>by
  simp only [List.mapM_cons] at h⊢
  cases hs:cK E f.type with
  |none=>simp [hs] at h
  |some n=>
   cases hr:(fs.mapM λf=>(cK E f.type).map λn=>(f.offset,n)) with
   |none=>simp [hs,hr] at h
   |some qs=>
    simp only [hs,hr,fa,Option.bind_eq_bind,bP,Option.pure_def,bc] at h
    subst h
    have ih:=run_places (w:=w) fs qs hr
    simp [lI hE hs,ih]
include hE in
theorem aqa {t:TypeId}{parts:Array (Nat×Operand)}{e e':Operand->Value}{v:Value}(he:∀x,aL μ (e x) (e' x))
  (h:Oh E t (parts.map λp=>(p.1,e p.2))=some v) :
  ∃V,(Instr.build t (parts.map λp=>(p.1,e' p.2))).run E.prog w=.ok V w/\aL μ v V:=by
 unfold Oh at h;cases hz:zeroV E t with
 |none=>rw [hz] at h;cases h
 |some z=>
  rw [hz] at h;simp only [bP] at h;cases cF:(CP (parts.map λp=>(p.1,e p.2))&&Hl z) with
  |false=>rw [cF] at h;cases h
  |true=>
   rw [cF] at h;simp only [bQ] at h;have⟨EE,Qp⟩:=HL hE hz w;simp only [jX,CP,C8] at cF;have Cg:bE μ z.cells.toList z.cells.toList:=ajY cF.2 (EM Qp);split at h
   ·rename_i fields hu;cases hm:(fields.toList.mapM λf=>(cK E f.type).map λn=>(f.offset,n)) with
    |none=>rw [hm] at h;cases h
    |some L8=>
     rw [hm] at h;simp only [bP,C8] at h;cases hf:Instr.fill (λx=>L8[x]?) z.cells (parts.toList.map λp=>(p.1,e p.2)) with
     |none=>rw [hf] at h;cases h
     |some c'=>
      rw [hf] at h;simp only [fa,bc] at h;subst h;have⟨C',h1,h2⟩:=OX (λx=>L8[x]?) e e' he parts.toList z.cells z.cells c' cF.1 Cg hf;refine ⟨.agg C',?_,.agg h2⟩;have fB:=run_places hE (w:=w) fields.toList L8 hm;simp [Instr.build,EE,c5 hE hu,Array.mapM_eq_mapM_toList,fB,h1]
   ·rename_i len el hu;cases hs:cK E el with
    |none=>rw [hs] at h;cases h
    |some n=>
     rw [hs] at h;simp only [bP,C8] at h;cases hf:Instr.fill (λi=>some (i*n,n)) z.cells (parts.toList.map λp=>(p.1,e p.2)) with
     |none=>rw [hf] at h;cases h
     |some c'=>
      rw [hf] at h;simp only [fa,bc] at h;subst h;have⟨C',h1,h2⟩:=OX (λi=>some (i*n,n)) e e' he parts.toList z.cells z.cells c' cF.1 Cg hf;refine ⟨.agg C',?_,.agg h2⟩;simp [Instr.build,EE,c5 hE hu,lI hE hs,h1]
   ·cases h
theorem Ju {v:Value}{l:List Value}(h:cellsOf v=some l):v.cells=⟨l⟩:=by
 cases v
 case agg cs=>obtain ⟨_,rfl⟩:=Uh h;rfl
 all_goals first|(cases h;done)|(injection h with h;subst h;rfl)
theorem Rx (z:List Value):∀n,(fE n z).length=n*z.length
 |0=>by simp [fE]
 |n+1=>by simp [fE,Rx z n,mB,Ik]
theorem akC (z:List Value)(hz:1<=z.length):∀(n j:Nat),j<n*z.length->(fE n z)[j]? =z[j % z.length]?
 |0,j,h=>by simp at h
 |n+1,j,h=>by
  simp only [fE,Sw];split
  ·rename_i hj;rw [Da hj]
  ·rename_i hj;rw [akC z hz n (j - z.length) (by rw [mB] at h;omega)]
   have:j % z.length=(j - z.length) % z.length:=by rw [Nat.mod_eq_sub_mod (by omega)]
   rw [this]
theorem Yi (z:List Value)(hz:1<=z.length)(n:Nat):madeCells ⟨z⟩ (n*z.length)=⟨fE n z⟩:=by
 apply Array.ext';apply x9;intro j;rw [rS];by_cases h:j<n*z.length
 ·have hm:j % z.length<z.length:=FB _ (by omega);have e1:(madeCells ⟨z⟩ (n*z.length))[j]? =some z[j % z.length]:=by
   simp [madeCells,h,hm]
  rw [e1,akC z hz n j h];simp [hm]
 ·rw [tg (by rw [size_madeCells];omega),ji (by rw [Rx];omega)]
theorem Yh {z:List Value}{p:Value->Bool}(h:z.all p=true):∀n,(fE n z).all p=true
 |0=>rfl
 |n+1=>by simp only [fE,List.all_append,h,Yh h n,Bool.and_self]
theorem Ry {z:List Value}(h:bE μ z z):∀n,bE μ (fE n z) (fE n z)
 |0=>.nil
 |n+1=>h.append (Ry h n)
theorem M7 {e:Nat}{z:List Value}(h:pb E e=some z) :
  ∃zv i,zeroV E e=some zv/\cellsOf zv=some z/\E.ty e=some i/\i.size=z.length/\i.zero=some zv/\plain zv=true/\z.all one=true:=by
 unfold pb at h;cases hz:zeroV E e with
 |none=>rw [hz] at h;cases h
 |some zv=>
  rw [hz] at h;simp only [bP] at h;cases hc:cellsOf zv with
  |none=>rw [hc] at h;cases h
  |some l=>
   rw [hc] at h;simp only [bP] at h;unfold zeroV at hz;unfold cK at h;cases ht:E.ty e with
   |none=>rw [ht] at hz;cases hz
   |some i=>
    rw [ht] at hz h;simp only [fa,bP] at h hz;split at h
    case isFalse=>cases h
    rename_i hl;injection h with h;subst h
    cases Cg:i.zero with
    |none=>rw [Cg] at hz;cases hz
    |some z'=>
     rw [Cg] at hz;simp only at hz;cases hp:plain z' with
     |false=>rw [hp] at hz;cases hz
     |true=>
      rw [hp] at hz;injection hz with hz;subst hz
      exact ⟨z',i,rfl,hc,rfl,hl.symm,Cg,hp,Jv hc⟩
theorem aaj {e:Nat}{z:List Value}(h:pb E e=some z):bE μ z z:=by
 have⟨zv,i,h1,h2,h3,h4,h5,h6,h7⟩:=M7 h
 have:=Ol (μ:=μ) h2 (EM h6)
 rwa [Ju h2] at this
theorem ajT (hH:aO E B0 μ H w){es len cap:Nat}{c:List Value}{C:Array Value}{el:TypeId}(hc:nc μ c C 0)(h1:c.length<=C.size)(u6:c.all one=true)(hl:len<=cap)(oc:C.size=cap*es) :
  ∃aD,cD H μ (vi H es len c).2 aD/\aL aD (vi H es len c).1 (.slice (some ⟨w.heap.size,0,none⟩) len cap)/\aO E B0 aD (vi H es len c).2 (w.alloc (.cells C el))/\Below B0 w (w.alloc (.cells C el)):=by
 have⟨k1,k2,k3⟩:=hH.ajR es C.size c C el hc h1 (bq _) u6;refine ⟨_,k1,?_,k2,k3⟩;exact .slice (L:=⟨w.heap.size,0,C.size,es⟩) (aJ.r_ _ _ _) hl (.inr (by simp only [cG];exact oc.symm))
def FT (E:Env)(μ:aJ)(w:World)(H:aa)(s:Sem Value)(v:Value)(H':aa):Prop:=
 ∃es len c C el cap,(v,H')=vi H es len c/\s.run E.prog w=.ok (.slice (some ⟨w.heap.size,0,none⟩) len cap) (w.alloc (.cells C el))/\nc μ c C 0/\c.length<=C.size/\c.all one=true/\len<=cap/\C.size=cap*es
theorem FT.makes {s:Sem Value}{v:Value}{H':aa}(h:FT E μ w H s v H')(hH:aO E B0 μ H w):zH E B0 μ H w s v H':=by
 have⟨es,len,c,C,el,cap,h1,h2,h3,h4,h5,h6,h7⟩:=h;have⟨aD,q1,q2,q3,q4⟩:=ajT (el:=el) hH (es:=es) h3 h4 h5 h6 h7;rw [<-h1] at q1 q2 q3;exact ⟨_,_,aD,h2,q1,q2,q3,q4⟩
include hE in
theorem ais (w:World){t:Nat}{l c L C:Value}{v:Value}{H':aa}(hl:aL μ l L)(hc:aL μ c C)(h:Ha E H t l c=some (v,H')):FT E μ w H (Instr.makeSlice t L C) v H':=by
 unfold Ha at h;split at h
 case h_2=>cases h
 rename_i e k1 n1 k2 n2 hu;cases hl;cases hc;cases hz:pb E e with
 |none=>rw [hz] at h;cases h
 |some z=>
  rw [hz] at h;simp only [bP] at h;have⟨zv,i,h1,h2,h3,h4,h5,h6,h7⟩:=M7 hz;rw [h3] at h;simp only [bP] at h;split at h
  case isFalse=>cases h
  rename_i hb;have⟨b1,b2,b3,b4,b5⟩:=hb;simp only [bc] at h;obtain ⟨m,rfl⟩:=Int.eq_ofNat_of_zero_le (show 0<=n2 by omega);simp only [dr] at *;have hm:m<=140737488355328:=wK (Nat.le_mul_of_pos_left m b4) b3;have uX:(i.bytes:Int)*(m:Int)<=281474976710656:=by
   have h9:((i.bytes*m:Nat):Int)<=140737488355328:=by omega
   rw [Int.natCast_mul] at h9;omega
  have fB:=run_make (P:=E.prog) w t e i zv (sX hE hu) (hE.ty _ _ h3) h5 k1 k2 n1 (m:Int) b1 (by omega) uX (by omega);rw [Ju h2,h4,dr,Yi z b5] at fB;exact ⟨z.length,n1.toNat,fE m z,⟨fE m z⟩,e,m,h.symm,fB,Om (Ry (aaj hz) m),bq _,Yh h7 m,by omega,by simp [Rx]⟩
include hE in
theorem avr (hH:aO E B0 μ H w){t:Nat}{l c L C:Value}{v:Value}{H':aa}(hl:aL μ l L)(hc:aL μ c C)(h:Ha E H t l c=some (v,H')):zH E B0 μ H w (Instr.makeSlice t L C) v H':=
 (ais hE w hl hc h).makes hH
include hE in
theorem ad1 (w:World){t len:Nat}{parts:Array (Nat×Operand)}{e e':Operand->Value}{v:Value}{H':aa}(he:∀x,aL μ (e x) (e' x))
  (h:F5 E H t len (parts.map λp=>(p.1,e p.2))=some (v,H')):FT E μ w H (Instr.buildSlice t len (parts.map λp=>(p.1,e' p.2))) v H':=by
 unfold F5 at h;split at h
 case h_2=>cases h
 rename_i el hu;cases hz:pb E el with
 |none=>rw [hz] at h;cases h
 |some z=>
  rw [hz] at h;simp only [bP] at h;have⟨zv,i,h1,h2,h3,h4,h5,h6,h7⟩:=M7 hz;cases cF:(CP (parts.map λp=>(p.1,e p.2))&&Nat.ble (len*z.length) 16777216&&Nat.ble 1 z.length) with
  |false=>rw [cF] at h;cases h
  |true=>
   rw [cF] at h;simp only [bQ] at h;simp only [jX,CP,C8,Nat.ble_eq] at cF;have⟨⟨cF,hle⟩,WZ⟩:=cF;simp only [C8] at h;cases hf:Instr.fill (λi=>some (i*z.length,z.length)) ⟨fE len z⟩ (parts.toList.map λp=>(p.1,e p.2)) with
   |none=>rw [hf] at h;cases h
   |some c'=>
    rw [hf] at h;simp only [bP] at h;split at h
    case isFalse=>cases h
    rename_i u6;simp only [bc] at h;have⟨C',f1,f2⟩:=OX (λi=>some (i*z.length,z.length)) e e' he parts.toList ⟨fE len z⟩ ⟨fE len z⟩ c' cF (Ry (aaj hz) len) hf;have oc:∀(ps:List (Nat×Value))(c d:Array Value),Instr.fill (λi=>some (i*z.length,z.length)) c ps=some d->d.size=c.size:=by
     intro ps
     induction ps with
     |nil=>intro c d hd;simp only [Instr.fill,bc] at hd;rw [hd]
     |cons p ps ih=>
      intro c d hd;simp only [Instr.fill] at hd;split at hd
      ·cases hd
      ·rw [ih _ _ hd,aak]
       have:∀(l:List (Value×Nat))(c:Array Value),(l.foldl (λcs (p':Value×Nat)=>cs.setIfInBounds (p.1*z.length+p'.2) p'.1) c).size=c.size:=by
        intro l
        induction l with
        |nil=>intro c;rfl
        |cons x l ih=>intro c;simp only [List.foldl_cons];rw [ih];simp
       exact this _ _
    have asF:=oc _ _ _ hf;have af0:=oc _ _ _ f1;simp only [List.size_toArray,Rx] at asF af0;refine ⟨z.length,len,c'.toList,C',el,len,h.symm,?_,Om f2,by simp;omega,u6,bq _,af0⟩;have fB:(Instr.buildSlice t len (parts.map λp=>(p.1,e' p.2))).run E.prog w=.ok (.slice (some ⟨w.heap.size,0,none⟩) len len) (w.alloc (.cells C' el)):=by
     have hzs:cK E el=some z.length:=by simp [cK,h3,h4]
     have hn:¬(16777216<len*z.length):=by omega
     have hr2:=(HL hE h1 w).1;have rC:(Array.range (len*z.length)).map (λx=>z[x % z.length]?.getD default)=⟨fE len z⟩:=by
      have:=Yi z WZ len
      simpa [madeCells] using this
     by_cases h0:len*z.length=0
     ·have Qg:len=0:=by rcases Nat.mul_eq_zero.1 h0 with h|h;exact h;omega
      subst Qg;simp only [fE] at f1;simp [Instr.buildSlice,c5 hE hu,lI hE hzs,Array.range_zero',f1,newRow]
     ·simp [Instr.buildSlice,c5 hE hu,lI hE hzs,hn,h0,hr2,Ju h2,rC,f1,newRow]
    exact fB
include hE in
theorem ap_ (hH:aO E B0 μ H w){t len:Nat}{parts:Array (Nat×Operand)}{e e':Operand->Value}{v:Value}{H':aa}(he:∀x,aL μ (e x) (e' x))
  (h:F5 E H t len (parts.map λp=>(p.1,e p.2))=some (v,H')):zH E B0 μ H w (Instr.buildSlice t len (parts.map λp=>(p.1,e' p.2))) v H':=
 (ad1 hE w he h).makes hH
end
end
section
section
variable {E:Env} (hE:E.Ok) {B0:Nat} {μ:aJ} {H:aa} {w:World}
theorem Og {lo d hi r:Nat}{x:Option Value}(h:tF lo d hi x=some r):lo<=r/\r<=hi/\((x=none/\r=d)∨∃k n,x=some (.int k n)/\r=n.toNat/\(0<=n)/\n<=hi):=by
 unfold tF at h;split at h
 ·split at h
  ·injection h with h;subst h;rename_i hh;exact ⟨hh.1,hh.2,.inl ⟨rfl,rfl⟩⟩
  ·cases h
 ·split at h
  ·injection h with h;subst h;rename_i hh;exact ⟨by omega,by omega,.inr ⟨_,_,rfl,rfl,by omega,hh.2⟩⟩
  ·cases h
 ·cases h
theorem XU {x:Option Operand}{e e':Operand->Value}(he:∀x,aL μ (e x) (e' x)){k:IntKind}{n:Int}(h:x.map e=some (.int k n)):x.map e'=some (.int k n):=by
 cases x with
 |none=>cases h
 |some x=>
  simp only [fa,bc] at h⊢
  have:=he x
  rw [h] at this;generalize e' x=y at this;cases this;rfl
theorem L3 {x:Option Operand}{e e':Operand->Value}(h:x.map e=none):x.map e'=none:=by
 cases x with
 |none=>rfl
 |some x=>cases h
theorem Yt (P:Program)(k:IntKind)(n:Int)(y:Nat)(code:BoundsCode)(h0:0<=n)(h1:n<=y):(Instr.sliceBound (.int k n) y code).run P w=.ok n.toNat w:=by
 simp [Instr.sliceBound,asIntOf,h0,h1]
theorem Yu {len cap l h:Nat}{lo hi:Option Operand}{e e':Operand->Value}(he:∀x,aL μ (e x) (e' x))(hc:len<=cap)
  (h1:tF 0 len len (hi.map e)=some h)(h2:tF 0 0 h (lo.map e)=some l)(b:Bool)(P:Program) :
  (Instr.sliceBounds b len cap (lo.map e') (hi.map e') none).run P w=.ok (l,h,cap) w:=by
 have⟨_,a2,a3⟩:=Og h1;have⟨_,b2,b3⟩:=Og h2;rcases a3 with ⟨a3,rfl⟩|⟨k,n,a3,rfl,a4,a5⟩
 ·rw [L3 (e':=e') a3];rcases b3 with ⟨b3,rfl⟩|⟨k',n',b3,rfl,b4,b5⟩
  ·rw [L3 (e':=e') b3];simp [Instr.sliceBounds]
  ·rw [XU he b3];simp [Instr.sliceBounds,Yt P k' n' _ _ b4 b5]
 ·rw [XU he a3];have hn:=λc=>Yt (w:=w) P k n cap c a4 (by omega)
  rcases b3 with ⟨b3,rfl⟩|⟨k',n',b3,rfl,b4,b5⟩
  ·rw [L3 (e':=e') b3];simp [Instr.sliceBounds,hn]
  ·rw [XU he b3];simp [Instr.sliceBounds,hn,Yt P k' n' _ _ b4 b5]
theorem aO.sn (hH:aO E B0 μ H w){i:Nat}{L:Loc}{b:Bool}{z:Nat}{c:List Value}(hm:μ i=some L)(hg:H.get i=some (.cells b z c)):L.sn=z:=by
 have ho:=hH.obj i _ hg ⟨_,hm⟩;cases b with
 |true=>
  have⟨L',C,el,k1,k2,k3,_⟩:=ho;rw [hm] at k1;injection k1 with k1;subst k1
  exact k3
 |false=>
  have⟨L',k1,k3,_⟩:=ho;rw [hm] at k1;injection k1 with k1;subst k1
  exact k3
include hE in
theorem axK (hH:aO E B0 μ H w){t:Nat}{x X v:Value}{lo hi mx:Option Operand}{e e':Operand->Value}(he:∀x,aL μ (e x) (e' x))(hx:aL μ x X)
  (h:HP E H t x (lo.map e) (hi.map e) (mx.map e)=some v) :
  ∃V,(Instr.sliceAt t X (lo.map e') (hi.map e') (mx.map e')).run E.prog w=.ok V w/\aL μ v V:=by
 unfold HP at h;cases mx with
 |some m=>simp only [fa] at h;cases h
 |none=>
  simp only [Option.map_none] at h;split at h
  ·rename_i el a len c hu;cases hs:cK E el with
   |none=>rw [hs] at h;cases h
   |some n=>
    rw [hs] at h;simp only [bP] at h;cases h1:tF 0 len len (hi.map e) with
    |none=>rw [h1] at h;cases h
    |some hh=>
     rw [h1] at h;simp only [bP] at h;cases h2:tF 0 0 hh (lo.map e) with
     |none=>rw [h2] at h;cases h
     |some l=>
      rw [h2] at h;simp only [bP] at h;have b1:=(Og h1).2.1;have b2:=(Og h2).2.1;cases hx with
      |AQ=>
       simp only [bc] at h;subst h;obtain rfl:hh=0:=by omega
       obtain rfl:l=0:=by omega
       refine ⟨.slice none 0 0,?_,.AQ⟩;have hb:=Yu (w:=w) he (bq 0) h1 h2 true E.prog;simp [Instr.sliceAt,Instr.slice,c5 hE hu,hb,lI hE hs]
      |@slice i o _ _ cap L hm hl hr=>
       simp only at h;split at h
       case h_2=>cases h
       rename_i b z c hg;split at h
       case isFalse=>cases h
       rename_i hz;injection h with h;subst h
       have P_:=hH.sn hm hg;have hb:=Yu (w:=w) he hl h1 h2 true E.prog;by_cases sy:cap=l
       ·refine ⟨.slice (some ⟨L.bA,L.off+o,none⟩) (hh - l) (cap - l),?_,?_⟩
        ·subst sy;simp [Instr.sliceAt,Instr.slice,c5 hE hu,hb,lI hE hs]
        ·have e1:hh - l=0:=by omega
         have e2:cap - l=0:=by omega
         rw [e1,e2];refine .pU hm ?_;rcases hr with hr|hr
         ·exact .inl hr
         ·rcases hz with hz|hz
          ·exact .inl (by rw [P_,hz])
          ·right;exact ⟨by rw [<-hr,P_,hz,sy],rfl⟩
       ·refine ⟨.slice (some ⟨L.bA,L.off+(o+l*n),none⟩) (hh - l) (cap - l),?_,?_⟩
        ·simp [Instr.sliceAt,Instr.slice,c5 hE hu,hb,lI hE hs,sy,wY,Fw]
        ·refine .slice hm (by omega) ?_;rcases hr with hr|hr
         ·exact .inl hr
         ·rcases hz with hz|hz
          ·exact .inl (by rw [P_,hz])
          ·right;rw [<-hr,P_,hz,Fw,<-mB]
           congr 2;omega
      |@pU i o _ cap A L hm ho=>
       obtain rfl:hh=0:=by omega
       obtain rfl:l=0:=by omega
       simp only at h;split at h
       case h_2=>cases h
       rename_i b z c hg;split at h
       case isFalse=>cases h
       injection h with h;subst h
       have hb:=Yu (w:=w) he (h_ cap) h1 h2 true E.prog;refine ⟨.slice (some A) 0 cap,?_,?_⟩
       ·simp [Instr.sliceAt,Instr.slice,c5 hE hu,hb,lI hE hs,Addr.add_zero']
       ·simp only [SO,Fz,x6];exact .pU hm ho
  ·rename_i n el i o hu;split at h
   case h_2=>cases h
   rename_i z c v_ Qc hg;cases hs:cK E el with
   |none=>rw [hs] at h;cases h
   |some n'=>
    rw [hs] at h;simp only [bP,bc] at h;subst h;cases hx with
    |@ptr _ _ L hm=>
    rw [L3 (e':=e') v_,L3 (e':=e') Qc];refine ⟨.slice (some ⟨L.bA,L.off+o,none⟩) n n,?_,.slice hm (bq _) (.inl (hH.sn hm hg))⟩;simp [Instr.sliceAt,c5 hE hu,Instr.sureAddr,Instr.sliceBounds,lI hE hs,wY]
  ·cases h
theorem afh (hH:aO E B0 μ H w){es n:Nat}{x X:Value}{new:List Value}(hx:aL μ x X)(hn:Cm x=some n){m:Nat}(Qj:m<=n)(h:yz H es m x=some new) :
  ∃fb:List Value,bE μ new fb/\new.all one=true/\fb.length=m*es/\
   ((X=.slice none 0 0/\fb=[]/\n=0)∨∃a c,X=.slice (some a) n c/\∀j v,fb[j]? =some v->w.cell? (a.add j)=some v):=by
 unfold yz at h;split at h
 ·rename_i i o len c;simp only [Cm,bc] at hn;subst hn;split at h
  ·rename_i G0;injection h with h;subst h
   refine ⟨[],.nil,rfl,G0.symm,?_⟩;right;cases hx with
   |slice hm hl hr=>exact ⟨_,_,rfl,λj v hj=>by simp at hj⟩
   |pU hm ho=>exact ⟨_,_,rfl,λj v hj=>by simp at hj⟩
  rename_i G0;split at h
  case h_2=>cases h
  rename_i b z c hg;cases hx with
  |@slice _ _ _ _ cap L hm hl hr=>
   have⟨C,el,fr,hw,hc,h1⟩:=hH.aM hm hg (ali h G0);have⟨CS,e1,e2,e3⟩:=Zz hc h;refine ⟨CS,e2,?_,e1,.inr ⟨_,_,rfl,λj v hj=>?_⟩⟩
   ·unfold fm at h;split at h
    case isFalse=>cases h
    injection h with h;subst h
    rw [qU] at h1⊢;exact λx hx=>h1 x (List.mem_of_mem_drop (Sx hx))
   ·rw [wY,Jt hw];exact e3 j v hj
  |pU hm ho=>
   obtain rfl:m=0:=by omega
   simp at G0
 ·split at h
  case isFalse=>cases h
  rename_i hm0;injection h with h;subst h
  simp only [Cm,bc] at hn;subst hm0;cases hx with
  |AQ=>exact ⟨[],.nil,rfl,by simp,.inl ⟨rfl,rfl,hn.symm⟩⟩
 ·cases h
theorem akN {es n m:Nat}{X:Value}{fb:List Value}(h1:fb.length=m*es)
  (h:(X=.slice none 0 0/\fb=[]/\n=0)∨∃a c,X=.slice (some a) n c/\∀j v,fb[j]? =some v->w.cell? (a.add j)=some v)(P:Program) :
  (Builtin.firstCells es m X).run P w=.ok fb.toArray w/\(Builtin.lenOf X).run P w=.ok n w:=by
 rcases h with ⟨rfl,rfl,rfl⟩|⟨a,c,rfl,hc⟩
 ·exact ⟨run_firstCells_none w _ _ _ _,rfl⟩
 ·exact ⟨run_firstCells_some w es m a n c fb h1 hc,rfl⟩
theorem aO.ayg (h:aO E B0 μ H w){w':World}{g:Nat}(hg:B0<=g)(sB:∀i oi Li,H.get i=some oi->oi.held=true->μ i=some Li->Li.bA≠g)
  (hk:∀k,k≠g->w'.heap[k]? =w.heap[k]?)(hs:w'.heap.size=w.heap.size):aO E B0 μ H w' where
 fresh:=h.fresh
 rj:=h.rj
 obj j x hx hm:=by
  have hr:=h.obj j x hx hm;have key:∀K,μ j=some K->x.held=true->K.bA≠g:=λK hK wo=>sB j x K hx wo hK
  cases x with
  |dead=>trivial
  |map es ck=>exact hr.world λK hK _=>hk _ (key K hK rfl)
  |cells b z c=>
   cases b with
   |true=>exact hr.world λK hK _=>hk _ (key K hK rfl)
   |false=>
    have⟨K,q1,q2,q4,q5⟩:=hr;by_cases hc:c=[]
    ·exact ⟨K,q1,q2,q4,.inl hc⟩
    ·refine ⟨K,q1,q2,q4,q5.imp id λ⟨C,el,fr,r2,r3⟩=>⟨C,el,fr,?_,r3⟩⟩;rw [hk _ (key K q1 (by cases c with|nil=>exact absurd rfl hc|cons v c=>rfl))];exact r2
 apart:=h.apart
 base:=by rw [hs];exact h.base
theorem MC {i o:Nat}{vs:List Value}{H':aa}(h:sV H i o vs=some H'):H'.next=H.next:=by
 unfold sV at h;split at h
 ·split at h
  ·injection h with h;subst h;rfl
  ·cases h
 ·cases h
theorem aet {old new OLD fb:List Value}{C:Array Value}{off:Nat}(ho:bE μ old OLD)(hn:bE μ new fb)
  (h1:∀j v,OLD[j]? =some v->C[off+j]? =some v)(h2:∀j v,fb[j]? =some v->C[off+old.length+j]? =some v):nc μ (old++new) C off:=by
 intro j v hj;rw [Sw] at hj;split at hj
 ·have⟨V,a,b⟩:=ho.get hj;exact ⟨V,h1 _ _ a,b⟩
 ·have⟨V,a,b⟩:=hn.get hj
  have:=h2 _ _ a
  rw [show off+old.length+(j - old.length)=off+j from by omega] at this;exact ⟨V,this,b⟩
theorem afM (hE:E.Ok)(hH:aO E B0 μ H w){t e es len n:Nat}{old new OLD fb:List Value}{v:Value}{H':aa}{ty:TypeId}{S X:Value}
  (hu:dq E t=some (.slice e))(iq:cK E e=some es)(Ae:0<es)(ho:bE μ old OLD)(hn:bE μ new fb)(EB:old.all one=true)(Ez:new.all one=true)
  (v_:OLD.length=len*es)(tS:fb.length=n*es)(h0:0<n)
  (hS:(S=.slice none 0 0/\len=0)∨∃a sc,S=.slice (some a) len sc/\sc<len+n/\∀j v,OLD[j]? =some v->w.cell? (a.add j)=some v)
  (hX:(X=.slice none 0 0/\fb=[]/\n=0)∨∃a c,X=.slice (some a) n c/\∀j v,fb[j]? =some v->w.cell? (a.add j)=some v)
  (h:so E H e es (len+n) old new=some (v,H')):∃V w' aD,(Builtin.append_ #[t,t] ty #[S,X]).run E.prog w=.ok V w'/\cD H μ H' aD/\aL aD v V/\aO E B0 aD H' w'/\Below B0 w w'/\∀k,k<w.heap.size->w'.heap[k]? =w.heap[k]? :=by
 unfold so at h;cases hi:E.ty e with
 |none=>rw [hi] at h;cases h
 |some i=>
  rw [hi] at h;simp only [bP] at h;cases hz:pb E e with
  |none=>rw [hz] at h;cases h
  |some z=>
   rw [hz] at h;simp only [bP] at h;have⟨zv,i',z1,z2,z3,z4,z5,z6,z7⟩:=M7 hz;rw [hi] at z3;injection z3 with z3;subst z3
   have oc:i.size=es:=by
    simp only [cK,hi,fa,bc] at iq;exact iq
   split at h
   case isFalse=>cases h
   rename_i hb;have⟨b1,b2⟩:=hb;simp only [bc] at h;have aDL:len+n<=140737488355328:=wK (Nat.le_mul_of_pos_right _ b2) b1;rcases hX with ⟨_,_,rfl⟩|⟨a,c,rfl,hcx⟩
   ·omega
   have key:∀(sc:Nat),(Builtin.append_ #[t,t] ty #[S,.slice (some a) n c]).run E.prog w=
     .ok (.slice (some ⟨w.heap.size,0,none⟩) (len+n) (grownCap w (len+n) sc e)) (w.drew.alloc (.cells (OLD.toArray++fb.toArray++Builtin.zeroCells zv.cells (grownCap w (len+n) sc e - (len+n))) e))->
     ∃V w' aD,(Builtin.append_ #[t,t] ty #[S,.slice (some a) n c]).run E.prog w=.ok V w'/\cD H μ H' aD/\aL aD v V/\aO E B0 aD H' w'/\Below B0 w w'/\∀k,k<w.heap.size->w'.heap[k]? =w.heap[k]? :=by
    intro sc fB;have vZ:=grownCap_ge w (len+n) sc e;have VL:(OLD.toArray++fb.toArray++Builtin.zeroCells zv.cells (grownCap w (len+n) sc e - (len+n))).size=grownCap w (len+n) sc e*es:=by
     have Cg:zv.cells.size=es:=by rw [Ju z2];simp;omega
     simp only [Array.size_append,List.size_toArray,size_zeroCells,Cg,v_,tS,<-mB]
     congr 1;omega
    have hold:=ho.length;have⟨aD,q1,q2,q3,q4⟩:=ajT (el:=e) (hH.heap (w':=w.drew) rfl) (es:=es) (len:=len+n) (cap:=grownCap w (len+n) sc e) (c:=old++new)
     (C:=OLD.toArray++fb.toArray++Builtin.zeroCells zv.cells (grownCap w (len+n) sc e - (len+n)))
     (aet ho hn (λj v hj=>by
       have:j<OLD.length:=by
        rcases iY j OLD.length with h|h
        ·exact h
        ·rw [ji h] at hj;cases hj
       rw [cG,aao (by simp;omega),aao (by simpa using this)];simpa using hj)
      (λj v hj=>by
       have:j<fb.length:=by
        rcases iY j fb.length with h|h
        ·exact h
        ·rw [ji h] at hj;cases hj
       rw [cG,hold,aao (by simp;omega),Array.getElem?_append_right (by simp)];simpa using hj))
     (by rw [VL,e_,hold,hn.length,v_,tS,<-mB];exact x_ _ vZ)
     (by rw [List.all_append,EB,Ez];rfl) vZ VL
    rw [h] at q1 q2 q3;exact ⟨_,_,aD,fB,q1,q2,q3,(Below.refl _ _).drew.trans q4,λk hk=>Below.heap_alloc w.drew _ k hk⟩
   rcases hS with ⟨rfl,rfl⟩|⟨b,sc,rfl,sG,P5⟩
   ·refine key 0 ?_;have WI:OLD=[]:=zB (by simpa using v_);subst WI
    have:=run_append_nil (P:=E.prog) w t ty e i zv (sX hE hu) (hE.ty _ _ hi) z5 a n c fb (by rw [oc];exact tS) hcx h0 (by omega) (by have:=b1;simp only [cG] at this;omega)
    simpa using this
   ·refine key sc ?_;exact run_append_grow (P:=E.prog) w t ty e i zv (sX hE hu) (hE.ty _ _ hi) z5 b len sc OLD (by rw [oc];exact v_) P5 a n c fb (by rw [oc];exact tS) hcx sG (by omega)
     (growslice_fits sG b1)
theorem Vt (hE:E.Ok)(hH:aO E B0 μ H w){t e es len n:Nat}{old new OLD fb:List Value}{v:Value}{H':aa}{ty:TypeId}{S X:Value}
  (hu:dq E t=some (.slice e))(iq:cK E e=some es)(Ae:0<es)(ho:bE μ old OLD)(hn:bE μ new fb)(EB:old.all one=true)(Ez:new.all one=true)
  (v_:OLD.length=len*es)(tS:fb.length=n*es)(h0:0<n)
  (hS:(S=.slice none 0 0/\len=0)∨∃a sc,S=.slice (some a) len sc/\sc<len+n/\∀j v,OLD[j]? =some v->w.cell? (a.add j)=some v)
  (hX:(X=.slice none 0 0/\fb=[]/\n=0)∨∃a c,X=.slice (some a) n c/\∀j v,fb[j]? =some v->w.cell? (a.add j)=some v)
  (h:so E H e es (len+n) old new=some (v,H')):zH E B0 μ H w (Builtin.append_ #[t,t] ty #[S,X]) v H':=by
 have⟨V,w',aD,h1,h2,h3,h4,h5,_⟩:=afM (ty:=ty) hE hH hu iq Ae ho hn EB Ez v_ tS h0 hS hX h;exact ⟨V,w',aD,h1,h2,h3,h4,h5⟩
theorem aO.akF (h:aO E B0 μ H w){i z:Nat}{L:Loc}{c:List Value}{C:Array Value}{el:TypeId}(hm:μ i=some L)(hz:L.sn=z)(h1:c.all one=true)(hC:w.heap[L.bA]? =some (.cells C el (0,0)))
  (hr:nc μ c C L.off)(sB:∀a oa La,a≠i->H.get a=some oa->oa.pN=true->μ a=some La->La.bA≠L.bA):aO E B0 μ (H.set i (.cells false z c)) w where
 fresh:=h.fresh
 rj:=h.rj
 obj j x hx Wy:=by
  rw [aa.j9] at hx;split at hx
  ·injection hx with hx;subst hx;subst_vars;exact ⟨L,hm,rfl,h1,.inr ⟨C,el,(0,0),hC,hr⟩⟩
  ·exact h.obj j x hx Wy
 apart:=by
  intro a b oa ob La Lb ha hb wa wb ma mb mL;rw [aa.j9] at ha hb;split at ha
  ·injection ha with ha;subst ha;cases wa
  ·rename_i hai;split at hb
   ·rename_i hbi;subst hbi;rw [hm] at mb;injection mb with mb;subst mb
    exact absurd mL (sB a oa La hai ha wa ma)
   ·exact h.apart a b oa ob La Lb ha hb wa wb ma mb mL
 base:=h.base
theorem aO.congr {H':aa}(h:aO E B0 μ H w)(hg:∀i,H'.get i=H.get i)(hn:H'.next=H.next):aO E B0 μ H' w:=
 ⟨λi hi=>h.fresh i (by omega),h.rj,λi o ho hm=>h.obj i o (by rw [<-hg];exact ho) hm,λi j oi oj Li Lj h1 h2=>h.apart i j oi oj Li Lj (by rw [<-hg];exact h1) (by rw [<-hg];exact h2),h.base⟩
theorem ab2 {c:List Value}(h:c.all one=true)(n:Nat):(c.take n).all one=true:=by
 rw [qU] at h⊢;exact λx hx=>h x (Sx hx)
theorem afL {H1 H2:aa}{e es kF:Nat}{old new:List Value}{v:Value}{H':aa}(h:Gu E H1 e es kF old new=some (v,H')):∃v' rU,so E H2 e es kF old new=some (v',rU):=by
 unfold Gu at h;unfold so;cases hi:E.ty e with
 |none=>rw [hi] at h;cases h
 |some inf=>
  rw [hi] at h;simp only [bP] at h⊢;cases Ar:pb E e with
  |none=>rw [Ar] at h;cases h
  |some zc=>
   rw [Ar] at h;simp only [bP] at h⊢;split at h
   case isFalse=>cases h
   rename_i hb;rw [ar hb];exact ⟨_,_,rfl⟩
theorem nc.take {μ:aJ}{c:List Value}{C:Array Value}{off:Nat}(h:nc μ c C off)(n:Nat):nc μ (c.take n) C off:=λj v e=>by
 rw [Be] at e
 split at e
 ·exact h j v e
 ·cases e
theorem afy {H0:aa}{i z e es kF:Nat}{L:Loc}{cs old new:List Value}{v:Value}{H':aa}{C:Array Value}{el:TypeId}{aD:aJ}{V:Value}{w':World}
  (Aj:i<H0.next)(h:Gu E (H0.set i (.cells false z cs)) e es kF old new=some (v,H'))(g:∀v1 H1,so E (H0.set i .dead) e es kF old new=some (v1,H1)->cD (H0.set i .dead) μ H1 aD/\aL aD v1 V/\aO E B0 aD H1 w')
  (hm:μ i=some L)(hz:L.sn=z)(h1:cs.all one=true)(hC:w'.heap[L.bA]? =some (.cells C el (0,0)))(hr:nc μ cs C L.off)(hB:B0<=L.bA)
  (sB:∀a oa La,a≠i->H0.get a=some oa->oa.pN=true->μ a=some La->La.bA≠L.bA) :
  cD H0 μ H' aD/\aL aD v V/\aO E B0 aD H' w':=by
 unfold Gu at h;cases hi:E.ty e with
 |none=>rw [hi] at h;cases h
 |some inf=>
  rw [hi] at h;simp only [bP] at h;cases Ar:pb E e with
  |none=>rw [Ar] at h;cases h
  |some zc=>
   rw [Ar] at h;simp only [bP] at h;split at h
   case isFalse=>cases h
   rename_i hb;simp only [bc,iF] at h;obtain ⟨rfl,rfl⟩:=h;have⟨g1,g2,g3⟩:=g (vi (H0.set i .dead) es kF (old++new)).1 (vi (H0.set i .dead) es kF (old++new)).2 (by unfold so;rw [hi];simp only [bP,Ar];rw [ar hb]);have hni:i≠H0.next:=by omega
   refine ⟨⟨g1.1,g1.2.1,g1.2.2⟩,g2,?_⟩;have B5:((H0.set i .dead).new (.cells true es (old++new))).get H0.next=some (.cells true es (old++new)):=by rw [aa.tJ];exact ar rfl
   have g3:aO E B0 aD ((H0.set i .dead).new (.cells true es (old++new))) w':=g3;by_cases Qj:∃Ln,aD H0.next=some Ln
   ·have⟨Ln,C2,el2,k1,k2,k3,k4,k5,k6,k7,k8⟩:=g3.obj H0.next _ B5 Qj;have r1:=g3.akF (i:=H0.next) (c:=old++new) k1 k3 k8 k4 k7 λa oa La aW ha Al xl mL=>by
     exact aW (g3.apart a H0.next oa _ La Ln ha B5 Al rfl xl k1 mL)
    have r2:=r1.akF (i:=i) (c:=cs) (g1.1 _ _ hm) hz h1 hC (hr.mono g1.1) λa oa La aW ha Al xl mL=>by
     rw [aa.j9] at ha;split at ha
     ·injection ha with ha;subst ha;cases Al
     ·rename_i EA;rw [aa.tJ,aa.rG,an EA,aa.j9,an aW] at ha;have ats:μ a=some La:=by
       rcases iY a H0.next with hl|hl
       ·rw [<-g1.2.1 a hl];exact xl
       ·have:a<((H0.set i .dead).new (.cells true es (old++new))).next:=by
         rcases iY a ((H0.set i .dead).new (.cells true es (old++new))).next with h|h
         ·exact h
         ·rw [g3.fresh a h] at xl;cases xl
        have e:((H0.set i .dead).new (.cells true es (old++new))).next=H0.next+1:=rfl;omega
      exact sB a oa La aW ha Al ats mL
    refine r2.congr (λj=>?_) rfl;rw [aa.tJ,aa.j9,aa.j9,aa.j9,aa.tJ,aa.j9,aa.rG,aa.rG];by_cases e1:j=i
    ·subst e1;rw [an hni,ar rfl,ar rfl]
    ·rw [an e1,an e1,an e1];by_cases e2:j=H0.next
     ·rw [ar e2,ar e2]
     ·rw [an e2,an e2];exact (an e2).symm
   ·exfalso;cases g2 with
    |slice Wx=>exact Qj ⟨_,Wx⟩
    |pU Wx=>exact Qj ⟨_,Wx⟩
include hE in
theorem apl (hH:aO E B0 μ H w){argTypes:Array TypeId}{ty:TypeId}{args ec:List Value}{v:Value}{H':aa}(ha:bE μ args ec)(h:I1 E H argTypes args=some (v,H')) :
  zH E B0 μ H w (Builtin.append_ argTypes ty ec.toArray) v H':=by
 unfold I1 at h;split at h
 case h_2=>cases h
 rename_i st xt base len c x cX;obtain ⟨at_⟩:=argTypes;simp only at cX;subst cX;split at h
 case isFalse=>cases h
 rename_i hxt;subst hxt;cases ha with|cons kU ha=>
 cases ha with|cons hx ha=>
 cases ha
 rename_i S X;split at h
 case h_2=>cases h
 rename_i e hu;cases iq:cK E e with
 |none=>rw [iq] at h;cases h
 |some es=>
  rw [iq] at h;simp only [bP] at h;cases hl:Cm x with
  |none=>rw [hl] at h;cases h
  |some n=>
   rw [hl] at h;simp only [bP] at h;cases hf:yz H es n x with
   |none=>rw [hf] at h;cases h
   |some new=>
    rw [hf] at h;simp only [bP] at h;obtain ⟨fb,n1,n2,n3,n4⟩:=afh hH hx hl (bq _) hf;obtain ⟨xP,AK⟩:=akN n3 n4 E.prog;cases hz:Nat.beq es 0 with
    |true=>rw [hz] at h;cases h
    |false=>
     rw [hz] at h;simp only [cQ] at h;have Ae:0<es:=Nat.pos_of_ne_zero (Di hz);by_cases Ai:n=0
     ·rw [ar Ai] at h;simp only [bc,iF] at h;obtain ⟨rfl,rfl⟩:=h;subst Ai;have hN:fb=[]:=zB (by simpa using n3);subst hN;refine ⟨S,w,μ,?_,cD.refl _ _,?_,hH,Below.refl _ _⟩
      ·cases kU with
       |AQ=>simp [Builtin.append_,c5 hE hu,lI hE iq,AK,xP]
       |slice hm hle hr=>simp [Builtin.append_,c5 hE hu,lI hE iq,AK,xP,hle,storeCells]
       |pU hm ho=>simp [Builtin.append_,c5 hE hu,lI hE iq,AK,xP,storeCells,h_]
      ·cases kU with
       |AQ=>exact .AQ
       |slice hm hle hr=>exact .slice hm hle hr
       |pU hm ho=>exact .pU hm ho
     ·rw [an Ai] at h;have Kz:0<n:=Nat.pos_of_ne_zero Ai;split at h
      ·
       cases kU
       simp only [pc] at h;exact Vt hE hH (old:=[]) (OLD:=[]) hu iq Ae .nil n1 rfl n2 (by simp) n3 Kz (.inl ⟨rfl,rfl⟩) n4 (by simpa using h)
      ·rename_i i o;split at h
       case h_2=>cases h
       rename_i z cs hg;split at h
       case isFalse=>cases h
       rename_i hze;subst hze;obtain ⟨L',C,el,k1,k2,k3,k4,k5,k6,k7,k8⟩:=hH.obj i _ hg (by cases kU with|slice hm _ _=>exact ⟨_,hm⟩|pU hm _=>exact ⟨_,hm⟩);split at h
       ·
        rename_i lB;cases cB:sV H i (o+len*z) new with
        |none=>rw [cB] at h;cases h
        |some H1=>
         rw [cB] at h;simp only [fa,bc,iF] at h;obtain ⟨rfl,rfl⟩:=h;cases kU with
         |@slice _ _ _ _ cap L hm hle hr=>
          rw [hm] at k1;injection k1 with k1;subst k1
          have asH:o+cap*z=L.room:=by
           rcases hr with hr|hr
           ·omega
           ·rw [k3] at hr;exact hr
          have Er:len+n<=cap:=by
           rcases iY cap (len+n) with aE|vZ
           ·have:=Nat.mul_lt_mul_of_pos_right aE Ae
            omega
           ·exact vZ
          obtain ⟨w',e1,e2,e3⟩:=hH.storeCells hm cB n1 n2 E.prog;refine ⟨.slice (some ⟨L.bA,L.off+o,none⟩) (len+n) cap,w',μ,?_,cD.same _ (MC cB),.slice hm Er hr,e2,e3⟩;rw [<-Fw] at e1;simp [Builtin.append_,c5 hE hu,lI hE iq,AK,xP,Er,wY,e1]
         |@pU _ _ _ cap A L hm ho=>
          rw [hm] at k1;injection k1 with k1;subst k1
          exfalso;have yN:0<n*z:=Nt Kz Ae;have qC:o=L.room:=by
           rcases ho with ho|ho
           ·omega
           ·exact ho.1
          simp only [cG] at lB;omega
       ·rename_i lB;cases ht:fm cs o (len*z) with
        |none=>rw [ht] at h;cases h
        |some old=>
         rw [ht] at h;simp only [bP] at h;have WJ:old.all one=true:=by
          unfold fm at ht;split at ht
          case isFalse=>cases ht
          injection ht with ht;subst ht
          rw [qU] at k8⊢;exact λx hx=>k8 x (List.mem_of_mem_drop (Sx hx))
         have P7:=hH.drop i;cases kU with
         |@slice _ _ _ _ cap L hm hle hr=>
          rw [hm] at k1;injection k1 with k1;subst k1
          obtain ⟨OLD,o1,o2,o3⟩:=Zz k7 ht;have asH:o+cap*z=L.room:=by
           rcases hr with hr|hr
           ·omega
           ·rw [k3] at hr;exact hr
          have Aj:i<H.next:=by
           rcases iY i H.next with hl|hl
           ·exact hl
           ·rw [hH.fresh i hl] at hm;cases hm
          have ago:∀a oa La,a≠i->H.get a=some oa->oa.pN=true->μ a=some La->La.bA≠L.bA:=λa oa La aW ha Al xl mL=>aW (hH.apart i a _ oa L La hg ha rfl (B4 Al) hm xl mL.symm).symm
          by_cases Er:len+n<=cap
          ·
           have W2:∀v1 H1,so E (H.set i .dead) e z (len+n) old new=some (v1,H1)->(Builtin.append_ #[xt,xt] ty #[.slice (some ⟨L.bA,L.off+o,none⟩) len cap,X]).run E.prog w=.ok (.slice (some ⟨L.bA,L.off+o,none⟩) (len+n) cap) (w.setRow L.bA (spliced C (L.off+o+len*z) fb))/\cD (H.set i .dead) μ H1 (μ.add (H.set i Obj.dead).next ⟨L.bA,L.off+o,L.room - o,z⟩)/\aL (μ.add (H.set i Obj.dead).next ⟨L.bA,L.off+o,L.room - o,z⟩) v1 (.slice (some ⟨L.bA,L.off+o,none⟩) (len+n) cap)/\aO E B0 (μ.add (H.set i Obj.dead).next ⟨L.bA,L.off+o,L.room - o,z⟩) H1 (w.setRow L.bA (spliced C (L.off+o+len*z) fb))/\Below B0 w (w.setRow L.bA (spliced C (L.off+o+len*z) fb)):=by
            intro v H' h;unfold so at h;cases hi:E.ty e with
            |none=>rw [hi] at h;cases h
            |some inf=>
             rw [hi] at h;simp only [bP] at h;cases Ar:pb E e with
             |none=>rw [Ar] at h;cases h
             |some zc=>
              rw [Ar] at h;simp only [bP] at h;split at h
              case isFalse=>cases h
              simp only [bc,vi,iF] at h;obtain ⟨rfl,rfl⟩:=h;have hNl:=n1.length;have Wg:(len+n)*z<=cap*z:=x_ _ Er;rw [mB] at Wg;have JU:L.off+o+len*z+fb.length<=C.size:=by omega
              have fB:=run_storeCells_at (P:=E.prog) L.bA (L.off+o+len*z) el fb 0 C w k4 (by omega) (XR n2 n1);have sB:∀a oa La,(H.set i .dead).get a=some oa->oa.held=true->μ a=some La->La.bA≠L.bA:=by
               intro a oa La ha Al xl mL;rw [aa.j9] at ha;split at ha
               ·injection ha with ha;subst ha;simp [Obj.held] at Al
               ·rename_i aW;exact aW (hH.apart i a _ oa L La hg ha rfl Al hm xl mL.symm).symm
              have hU:=P7.ayg (w':=w.setRow L.bA (spliced C (L.off+o+len*z) fb)) k2 sB (λk hk=>setRow_other _ _ _ _ hk) (setRow_size _ _ _);have asq:rY B0 (μ.add (H.set i Obj.dead).next ⟨L.bA,L.off+o,L.room - o,z⟩) (w.setRow L.bA (spliced C (L.off+o+len*z) fb)) (H.set i Obj.dead).next (.cells true z (old++new)):=by
               refine ⟨_,spliced C (L.off+o+len*z) fb,el,aJ.r_ _ _ _,k2,rfl,?_,?_,?_,?_,?_⟩
               ·simpa [spliced] using setRow_heap w L.bA C _ el _ k4
               ·simp only [e_,o2.length,n1.length,o1,n3];omega
               ·simp only;rw [ak4 _ _ _ JU];omega
               ·show nc _ _ _ (L.off+o);refine (aet (μ:=μ) o2 n1 ?_ ?_).mono (aJ.Au _ (hH.fresh _ (bq _)))
                ·intro j v hj;have u0:j<OLD.length:=by
                  rcases iY j OLD.length with h|h
                  ·exact h
                  ·rw [ji h] at hj;cases hj
                 rw [RT _ _ _ JU,an (by omega)];exact o3 j v hj
                ·intro j v hj;have u0:j<fb.length:=by
                  rcases iY j fb.length with h|h
                  ·exact h
                  ·rw [ji h] at hj;cases hj
                 rw [o2.length,o1,RT _ _ _ JU,ar (by omega),show L.off+o+len*z+j - (L.off+o+len*z)=j from by omega];exact hj
               ·rw [List.all_append,WJ,n2];rfl
              refine ⟨?_,cD.new (H:=H.set i .dead) _ _ (hH.fresh _ (bq _)),?_,hU.TY ⟨L.bA,L.off+o,L.room - o,z⟩ _ (λa oa La ha hh xl=>sB a oa La ha (hh.elim (λh=>h.2) λh=>B4 h.1) xl) asq,?_⟩
              ·simp only [spliced,Fz] at fB⊢;simp [Builtin.append_,c5 hE hu,lI hE iq,AK,xP,Er,wY,fB]
              ·exact .slice (L:=⟨L.bA,L.off+o,L.room - o,z⟩) (aJ.r_ _ _ _) Er (.inr (by simp only [cG];omega))
              ·exact ⟨rfl,rfl,rfl,by rw [setRow_size];exact bq _,λk hk=>setRow_other _ _ _ _ (by omega)⟩
           cases tO:(E.Gq xt&&Nat.beq len 256) with
           |false=>
            rw [tO] at h;simp only [cQ] at h;obtain ⟨p1,p2,p3,p4,p5⟩:=W2 v H' h;exact ⟨_,_,_,p1,p2,p3,p4,p5⟩
           |true=>
            rw [tO] at h;simp only [bQ] at h;obtain ⟨v0,H0,hA⟩:=afL (H2:=H.set i .dead) h;obtain ⟨p1,_,_,_,p5⟩:=W2 v0 H0 hA;have Wg:(len+n)*z<=cap*z:=x_ _ Er;rw [mB] at Wg;have hNl:=n1.length;have JU:L.off+o+len*z+fb.length<=C.size:=by omega
            have Es:=afy (μ:=μ) (H0:=H) (i:=i) (C:=spliced C (L.off+o+len*z) fb) (el:=el) Aj h (λv1 H1 h1=>let ⟨_,q2,q3,q4,_⟩:=W2 v1 H1 h1;⟨q2,q3,q4⟩) hm k3 (ab2 k8 _)
             (by simpa [spliced] using setRow_heap w L.bA C _ el _ k4) (λj v hj=>by
              have u0:j<o+len*z:=by
               rw [Be] at hj;split at hj
               ·assumption
               ·cases hj
              rw [RT _ _ _ JU,an (by omega)];exact k7.take _ j v hj) k2 ago
            exact ⟨_,_,_,p1,Es.1,Es.2.1,Es.2.2,p5⟩
          ·cases tO:(E.Gq xt&&Nat.beq len 256) with
           |false=>
            rw [tO] at h;simp only [cQ] at h;exact Vt hE P7 hu iq Ae o2 n1 WJ n2 o1 n3 Kz (.inr ⟨_,cap,rfl,by omega,λj v hj=>by rw [wY,Jt k4];exact o3 j v hj⟩) n4 h
           |true=>
            rw [tO] at h;simp only [bQ] at h;obtain ⟨v0,H0,hA⟩:=afL (H2:=H.set i .dead) h;obtain ⟨V,w',aD,p1,p2,p3,p4,p5,p6⟩:=afM (ty:=ty) hE P7 hu iq Ae o2 n1 WJ n2 o1 n3 Kz (.inr ⟨_,cap,rfl,by omega,λj v hj=>by rw [wY,Jt k4];exact o3 j v hj⟩) n4 hA;have asC:L.bA<w.heap.size:=by
             rcases iY L.bA w.heap.size with h|h
             ·exact h
             ·rw [tg h] at k4;cases k4
            have Es:=afy (μ:=μ) (H0:=H) (i:=i) (C:=C) (el:=el) Aj h (λv1 H1 h1=>by
              rw [hA] at h1;simp only [bc,iF] at h1;obtain ⟨rfl,rfl⟩:=h1;exact ⟨p2,p3,p4⟩) hm k3 (ab2 k8 _) (by rw [p6 _ asC];exact k4) (k7.take _) k2 ago
            exact ⟨_,_,_,p1,Es.1,Es.2.1,Es.2.2,p5⟩
         |@pU _ _ _ cap A L hm ho=>
          rw [hm] at k1;injection k1 with k1;subst k1
          obtain rfl:cap=0:=by
           rcases ho with ho|ho
           ·omega
           ·exact ho.2
          have WI:old=[]:=by
           unfold fm at ht;split at ht
           case isFalse=>cases ht
           injection ht with ht
           simpa using ht.symm
          subst WI;have tO:(E.Gq xt&&Nat.beq 0 256)=false:=Bool.and_false _;rw [tO] at h;simp only [cQ] at h;exact Vt hE P7 (OLD:=[]) hu iq Ae .nil n1 rfl n2 (by simp) n3 Kz (.inr ⟨A,0,rfl,by omega,λj v hj=>by simp at hj⟩) n4 h
      ·cases h
end
end
section
section
variable {E:Env} (hE:E.Ok) {B0:Nat} {μ:aJ} {H:aa} {w:World}
include hE in
theorem aqw (hH:aO E B0 μ H w){argTypes:Array TypeId}{ty:TypeId}{args ec:List Value}{v:Value}{H':aa}(ha:bE μ args ec)(h:Ov E H argTypes args=some (v,H')) :
  zH E B0 μ H w (Builtin.copy_ argTypes ty ec.toArray) v H':=by
 unfold Ov at h;split at h
 case h_2=>cases h
 rename_i st rest base len c x cX;have⟨at_⟩:=argTypes;simp only at cX;subst cX;cases ha with|cons kU ha=>
 cases ha with|cons hx ha=>
 cases ha
 rename_i S X;split at h
 case h_2=>cases h
 rename_i e hu;cases iq:cK E e with
 |none=>rw [iq] at h;cases h
 |some es=>
  rw [iq] at h;simp only [bP] at h;cases hl:Cm x with
  |none=>rw [hl] at h;cases h
  |some n=>
   rw [hl] at h;simp only [bP] at h;cases hf:yz H es (Nat.min n len) x with
   |none=>rw [hf] at h;cases h
   |some new=>
    rw [hf] at h;simp only [bP] at h;have⟨fb,n1,n2,n3,n4⟩:=afh hH hx hl (Nat.min_le_left _ _) hf;have⟨xP,AK⟩:=akN n3 n4 E.prog;split at h
    ·cases kU
     simp only [bc,iF] at h;obtain ⟨rfl,rfl⟩:=h;refine ⟨goInt (Nat.min n 0),w,μ,?_,cD.refl _ _,.int _ _,hH,Below.refl _ _⟩;rw [show min n 0=0 from Nat.min_zero n] at xP;simp [Builtin.copy_,c5 hE hu,lI hE iq,AK,xP]
    ·rename_i i o;cases cB:sV H i o new with
     |none=>rw [cB] at h;cases h
     |some H1=>
      rw [cB] at h;simp only [fa,bc,iF] at h;obtain ⟨rfl,rfl⟩:=h;cases kU with
      |@slice _ _ _ _ cap L hm hle hr=>
       have⟨w',e1,e2,e3⟩:=hH.storeCells hm cB n1 n2 E.prog;refine ⟨goInt (Nat.min n len),w',μ,?_,cD.same _ (MC cB),.int _ _,e2,e3⟩;simp [Builtin.copy_,c5 hE hu,lI hE iq,AK,xP,e1]
      |@pU _ _ _ cap A L hm ho=>
       have hN:fb=[]:=zB (by rw [n3];simp);subst hN;cases n1;have hH1:aO E B0 μ H1 w:=by
        have⟨w',e1,e2,e3⟩:=hH.storeCells hm cB .nil rfl E.prog;simp only [storeCells,Sem.run_pure,Result.ok.injEq] at e1;rw [e1.2];exact e2
       refine ⟨goInt (Nat.min n 0),w,μ,?_,cD.same _ (MC cB),.int _ _,hH1,Below.refl _ _⟩;rw [show min n 0=0 from Nat.min_zero n] at xP;simp [Builtin.copy_,c5 hE hu,lI hE iq,AK,xP,storeCells]
    ·cases h
theorem akR {kd:TypeDesc}{k K x X:Value}(hk:aL μ k K)(hx:aL μ x X){b:Bool}(h:Instr.sameNow kd k x=some b):Instr.sameNow kd K X=some b:=by
 unfold Instr.sameNow at h;split at h
 ·cases hk;cases hx;exact h
 ·cases hk;cases hx;exact h
 ·cases hk;cases hx;exact h
 ·cases h
theorem axx {kd:TypeDesc}{k x:Value}(mO:kd≠.string)(h:Instr.sameNow kd k x=some true):Instr.sameBits 10000 x k=true:=by
 unfold Instr.sameNow at h;split at h
 ·split at h
  ·rename_i e;subst e;simp only [bc] at h
   have:=(rP.1 h)
   subst this;simp [Instr.sameBits]
  ·cases h
 ·exact absurd rfl mO
 ·simp only [bc] at h;have:=(rP.1 h);subst this;simp [Instr.sameBits]
 ·cases h
theorem O2 {kd:TypeDesc}{k K:Value}(mO:kd≠.string)(hk:aL μ k K):∀{es ES:List MapEntry},lM μ es ES->∀(i:Nat)(r:Option (Nat×Value)),Instr.findNow kd k es i=some r->
  ∃R,Instr.findNow kd K ES i=some R/\((r=none/\R=none)∨∃j v V,r=some (j,v)/\R=some (j,V)/\aL μ v V/\i<=j/\j - i<ES.length/\
   ∃E',ES[j - i]? =some E'/\Instr.sameBits 10000 E'.key K=true)
 |_,_,.nil,i,r,h=>by
  simp only [Instr.findNow,bc] at h⊢
  subst h
  exact ⟨none,rfl,.inl ⟨rfl,rfl⟩⟩
 |_,_,.cons Wp hv hb hs,i,r,h=>by
  simp only [Instr.findNow] at h⊢
  split at h
  ·rename_i WS
   injection h with h;subst h
   have h2:=akR hk Wp WS
   rw [h2]
   exact ⟨_,rfl,.inr ⟨i,_,_,rfl,rfl,hv,bq _,by simp,_,by simp,axx mO h2⟩⟩
  ·rename_i WS
   rw [akR hk Wp WS]
   have⟨R,h1,h2⟩:=O2 mO hk hs (i+1) r h
   refine ⟨R,h1,h2.imp id ?_⟩
   rintro ⟨j,v,V,e1,e2,e3,e4,e5,E',e6,e7⟩
   refine ⟨j,v,V,e1,e2,e3,by omega,by simp;omega,E',?_,e7⟩
   rw [show j - i=(j - (i+1))+1 from by omega]
   simpa using e6
  ·cases h
include hE in
theorem Zj {t:Nat}{kd:TypeDesc}(h:xT E t=some kd):E.prog.underlying t=some kd/\kd≠.string/\(∀(b:Bool)(n:Nat)(k:Value)(w:World),(Instr.checkKey b (n+1) t k).run E.prog w=.ok () w):=by
 unfold xT at h;split at h
 all_goals first
  |(rename_i hu
    injection h with h;subst h
    refine ⟨sX hE hu,by simp,λb n k w=>?_⟩;simp [Instr.checkKey,c5 hE hu])
  |cases h
theorem run_findKey {kt:Nat}{kd:TypeDesc}{K:Value}{ES:List MapEntry}{R:Option (Nat×Value)}{P:Program}(hu:P.underlying kt=some kd)(h:Instr.findNow kd K ES 0=some R):(Instr.findKey kt K ES).run P w=.ok R w:=by
 simp [Instr.findKey,run_underlying hu,h]
theorem lM.length {es ES:List MapEntry}(h:lM μ es ES):es.length=ES.length:=by
 induction h with
 |nil=>rfl
 |cons _ _ _ _ ih=>simp [ih]
theorem aO.EI (h:aO E B0 μ H w){i:Nat}{L:Loc}{es:List MapEntry}{ck:Nat}(hm:μ i=some L)(hg:H.get i=some (.map es ck)) :
  ∃ES:Array MapEntry,B0<=L.bA/\w.heap[L.bA]? =some (.map ES ck)/\lM μ es ES.toList:=by
 have⟨L',ES,k1,k2,k3,k4⟩:=h.obj i _ hg ⟨_,hm⟩;rw [hm] at k1;injection k1 with k1;subst k1
 exact ⟨ES,k2,k3,k4⟩
theorem AN {r:Nat}{ES:Array MapEntry}{ck:Nat}{P:Program}(h:w.heap[r]? =some (.map ES ck)):(getObj r).run P w=.ok (.map ES ck) w:=by
 simp [getObj,Sem.run,h]
theorem Mh {r:Nat}{ES:Array MapEntry}{ck:Nat}{P:Program}(h:w.heap[r]? =some (.map ES ck))(o:Go.Obj):(setObj r o).run P w=.ok () {w with heap:=w.heap.setIfInBounds r o}:=by
 simp [setObj,Sem.run,h]
theorem aO.Mp (h:aO E B0 μ H w){i:Nat}{L:Loc}{es es':List MapEntry}{ck ck':Nat}{ES':Array MapEntry}(hm:μ i=some L)(hg:H.get i=some (.map es ck))(he:lM μ es' ES'.toList) :
  aO E B0 μ (H.set i (.map es' ck')) {w with heap:=w.heap.setIfInBounds L.bA (.map ES' ck')}/\Below B0 w {w with heap:=w.heap.setIfInBounds L.bA (.map ES' ck')}:=by
 have⟨ES,k2,k3,k4⟩:=h.EI hm hg;have aE:L.bA<w.heap.size:=by
  rcases iY L.bA w.heap.size with h|h
  ·exact h
  ·rw [tg h] at k3;cases k3
 refine ⟨h.put hg rfl rfl hm (λk hk=>?_) (by simp) ⟨L,ES',hm,k2,?_,he⟩,⟨rfl,rfl,rfl,by simp,λk hk=>?_⟩⟩
 ·exact amF (λe=>hk e.symm)
 ·simp [aE]
 ·exact amF (by omega)
include hE in
theorem avp (hH:aO E B0 μ H w){t:Nat}{m M k K v:Value}{ok:Bool}(hm:aL μ m M)(hk:aL μ k K)(h:G9 E H t m k ok=some v) :
  ∃V,(Instr.lookup t M K ok).run E.prog w=.ok V w/\aL μ v V:=by
 unfold G9 at h;split at h
 case h_2=>cases h
 rename_i kt e hu;cases mO:xT E kt with
 |none=>rw [mO] at h;cases h
 |some kd=>
  rw [mO] at h;simp only [bP] at h;cases hz:zeroV E e with
  |none=>rw [hz] at h;cases h
  |some z=>
   rw [hz] at h;simp only [bP] at h;have⟨ku,kn,kc⟩:=Zj hE mO;have⟨EE,Qp⟩:=HL hE hz w;have key:∀(es ES:List MapEntry),lM μ es ES->((Instr.findNow kd k es 0).bind λr=>
     let p:Value×Bool:=match r with
      |some (_,v)=>(v,true)
      |none=>(z,false)
     some (bif ok then .tuple #[p.1,.bool p.2] else p.1))=some v->
     ∃R V,Instr.findNow kd K ES 0=some R/\aL μ v V/\V=(let p:Value×Bool:=(match R with
      |some (_,v)=>(v,true)
      |none=>(z,false));if ok then .tuple #[p.1,.bool p.2] else p.1):=by
    intro es ES hr hh;cases hf:Instr.findNow kd k es 0 with
    |none=>rw [hf] at hh;cases hh
    |some r=>
     rw [hf] at hh;simp only [bP,bc] at hh;have⟨R,r1,r2⟩:=O2 kn hk hr 0 r hf;refine ⟨R,_,r1,?_,rfl⟩;rcases r2 with ⟨rfl,rfl⟩|⟨j,v',V',rfl,rfl,e3,_⟩
     ·subst hh;cases ok
      ·exact EM Qp
      ·exact .tuple (.cons (EM Qp) (.cons (.bool _) .nil))
     ·subst hh;cases ok
      ·exact e3
      ·exact .tuple (.cons e3 (.cons (.bool _) .nil))
   split at h
   ·cases hm
    obtain ⟨R,V,r1,r2,rfl⟩:=key [] [] .nil h;refine ⟨_,?_,r2⟩;simp only [Instr.findNow,bc] at r1;subst r1;simp [Instr.lookup,c5 hE hu,kc,run_findKey ku (show Instr.findNow kd K [] 0=some none from rfl),EE]
   ·rename_i i;split at h
    ·rename_i es ck hg;simp only [bP] at h;cases hm with
     |@map _ L hm=>
     have⟨ES,k2,k3,k4⟩:=hH.EI hm hg;obtain ⟨R,V,r1,r2,rfl⟩:=key es ES.toList k4 h;refine ⟨_,?_,r2⟩;cases R with
     |none=>simp [Instr.lookup,c5 hE hu,kc,AN k3,run_findKey ku r1,EE]
     |some p=>simp [Instr.lookup,c5 hE hu,kc,AN k3,run_findKey ku r1]
    ·cases h
   ·cases h
theorem lM.modify {es ES:List MapEntry}(h:lM μ es ES){k K v V:Value}(hk:aL μ k K)(hv:aL μ v V)(j:Nat) :
  lM μ (es.modify j λe=>{e with key:=k,val:=v}) (ES.modify j λe=>{e with key:=K,val:=V}):=by
 induction h generalizing j with
 |nil=>simp;exact .nil
 |cons h1 h2 h3 hs ih=>
  cases j with
  |zero=>simp only [List.modify_zero_cons];exact .cons hk hv h3 hs
  |succ j=>simp only [List.modify_succ_cons];exact .cons h1 h2 h3 (ih j)
theorem lM.append {es ES fs FSz:List MapEntry}(h:lM μ es ES)(h':lM μ fs FSz):lM μ (es++fs) (ES++FSz):=by
 induction h with
 |nil=>exact h'
 |cons h1 h2 h3 hs ih=>exact .cons h1 h2 h3 ih
theorem lM.erase {es ES:List MapEntry}(h:lM μ es ES)(j:Nat):lM μ (es.eraseIdx j) (ES.eraseIdx j):=by
 induction h generalizing j with
 |nil=>simp;exact .nil
 |cons h1 h2 h3 hs ih=>
  cases j with
  |zero=>simp only [List.eraseIdx_zero,List.tail_cons];exact hs
  |succ j=>simp only [Sr];exact .cons h1 h2 h3 (ih j)
include hE in
theorem aiw (hH:aO E B0 μ H w){t:Nat}{m M k K v V:Value}{H':aa}(hm:aL μ m M)(hk:aL μ k K)(hv:aL μ v V)(h:Ax E H t m k v=some H') :
  ∃w',(Instr.mapUpdate t M K V).run E.prog w=.ok () w'/\aO E B0 μ H' w'/\Below B0 w w':=by
 unfold Ax at h;split at h
 case h_2=>cases h
 rename_i kt e i hu;cases mO:xT E kt with
 |none=>rw [mO] at h;cases h
 |some kd=>
  rw [mO] at h;simp only [bP] at h;have⟨ku,kn,kc⟩:=Zj hE mO;split at h
  case h_2=>cases h
  rename_i es ck hg;cases hm with
  |@map _ L hm=>
  have⟨ES,k2,k3,k4⟩:=hH.EI hm hg;cases hf:Instr.findNow kd k es 0 with
  |none=>rw [hf] at h;cases h
  |some r=>
   rw [hf] at h;simp only [fa,bc] at h;have⟨R,r1,r2⟩:=O2 kn hk k4 0 r hf;rcases r2 with ⟨rfl,rfl⟩|⟨j,v',V',rfl,rfl,e3,e4,e5,E',e6,e7⟩
   ·subst h
    have:=hH.Mp (es':=es++[{key:=k,val:=v,born:=ck}]) (ck':=ck+1) (ES':=ES.push {key:=K,val:=V,born:=ck}) hm hg (by
     rw [Array.toList_push];exact k4.append (.cons hk hv rfl .nil))
    refine ⟨_,?_,this⟩;simp [Instr.mapUpdate,c5 hE hu,AN k3,kc,run_findKey ku r1,Mh k3]
   ·subst h
    have:=hH.Mp (es':=es.modify j λe=>{e with key:=k,val:=v}) (ck':=ck) (ES':=ES.modify j λe=>{e with key:=K,val:=V}) hm hg (by
     rw [Array.toList_modify];exact k4.modify hk hv j)
    refine ⟨_,?_,this⟩;have hj:ES[j]? =some E':=by rw [<-rS];simpa using e6
    simp [Instr.mapUpdate,c5 hE hu,AN k3,kc,run_findKey ku r1,Mh k3,Instr.keyThatStays,hj,e7]
include hE in
theorem aqN (hH:aO E B0 μ H w){t:Nat}{argTypes:Array TypeId}{ty:TypeId}{m M k K:Value}{H':aa}(ht:argTypes[0]? =some t)(hm:aL μ m M)(hk:aL μ k K)(h:DT E H t m k=some H') :
  ∃w',(Builtin.delete_ argTypes ty #[M,K]).run E.prog w=.ok (.tuple #[]) w'/\aO E B0 μ H' w'/\Below B0 w w':=by
 unfold DT at h;split at h
 case h_2=>cases h
 rename_i kt e i hu;cases mO:xT E kt with
 |none=>rw [mO] at h;cases h
 |some kd=>
  rw [mO] at h;simp only [bP] at h;have⟨ku,kn,kc⟩:=Zj hE mO;split at h
  case h_2=>cases h
  rename_i es ck hg;cases hm with
  |@map _ L hm=>
  have⟨ES,k2,k3,k4⟩:=hH.EI hm hg;cases hf:Instr.findNow kd k es 0 with
  |none=>rw [hf] at h;cases h
  |some r=>
   rw [hf] at h;simp only [fa,bc] at h;have⟨R,r1,r2⟩:=O2 kn hk k4 0 r hf;rcases r2 with ⟨rfl,rfl⟩|⟨j,v',V',rfl,rfl,e3,e4,e5,E',e6,e7⟩
   ·subst h
    have:=hH.Mp (es':=es) (ck':=ck) (ES':=ES) hm hg k4
    refine ⟨_,?_,this⟩;simp [Builtin.delete_,ht,c5 hE hu,AN k3,kc,run_findKey ku r1,Mh k3]
   ·subst h
    have:=hH.Mp (es':=es.eraseIdx j) (ck':=ck) (ES':=ES.eraseIdxIfInBounds j) hm hg (by
     rw [Array.toList_eraseIdxIfInBounds];exact k4.erase j)
    refine ⟨_,?_,this⟩;simp [Builtin.delete_,ht,c5 hE hu,AN k3,kc,run_findKey ku r1,Mh k3]
theorem arh (P:Program)(op:BinOp)(t:TypeId)(x y:Operand)(k:IntKind)(n:Int)(v:Value)(w:World):(eqGuard op t x y (.int k n) v).run P w=.ok () w:=by
 rw [eqGuard_at_int];rfl
theorem auG {op:BinOp}{t:TypeId}{k:IntKind}{a b:Int}{v:Value}{P:Program}(hs:Ch op=false)(h:G3 op k a b=some v) :
  (binOp op t (.int k a) (.int k b)).run P w=.ok v w/\aL μ v v:=by
 unfold G3 at h;split at h
 all_goals first
  |(cases h;done)
  |(injection h with h;subst h
    first
     |(refine ⟨?_,.int _ _⟩;simp only [binOp_and,binOp_or,binOp_xor,binOp_andNot];rfl)
     |exact ⟨by simp [binOp,Op.intArith],.int _ _⟩
     |exact ⟨by simp [binOp,Op.intCmp],.bool _⟩)
  |(split at h
    ·cases h
    ·rename_i hb;injection h with h;subst h
     exact ⟨by simp [binOp,Op.intDiv,hb],.int _ _⟩)
theorem axE {op:BinOp}{t:TypeId}{k k':IntKind}{a b:Int}{v:Value}{P:Program}(h:Mr op k a b=some v) :
  (binOp op t (.int k a) (.int k' b)).run P w=.ok v w/\aL μ v v:=by
 unfold Mr at h;split at h
 ·cases h
 ·rename_i hb;split at h
  ·injection h with h;subst h;exact ⟨by simp [binOp,Op.shift,hb],.int _ _⟩
  ·injection h with h;subst h;exact ⟨by simp [binOp,Op.shift,hb],.int _ _⟩
  ·cases h
theorem aO.akf (hH:aO E B0 μ H w){a:Addr}(hmm:∃L,μ a.block=some L)(h:Rb H a=true):∃L C el,a=⟨a.block,a.off,none⟩/\μ a.block=some L/\w.heap[L.bA]? =some (.cells C el (0,0))/\(∃o,H.get a.block=some o/\o.pN=true):=by
 unfold Rb at h;simp only [jX] at h;have⟨h1,h2⟩:=h;split at h2
 ·rename_i z c hg;have⟨L,C,el,k1,k2,k3,k4,_⟩:=hH.obj _ _ hg hmm;refine ⟨L,C,el,?_,k1,k4,_,hg,rfl⟩;cases a with
  |mk b o s=>cases s with
   |none=>rfl
   |some s=>simp at h1
 ·cases h2
theorem axc {g g' o o':Nat}{C C':Array Value}{el Gg:TypeId}(P:Program)(h1:w.heap[g]? =some (.cells C el (0,0)))(h2:w.heap[g']? =some (.cells C' Gg (0,0))) :
  (sameAddr ⟨g,o,none⟩ ⟨g',o',none⟩).run P w=.ok ((⟨g,o,none⟩:Addr)==⟨g',o',none⟩) w:=by
 by_cases hb:g=g'
 ·subst hb;simp [sameAddr]
 ·have PY:(g==g')=false:=by simpa using hb
  have aW:((⟨g,o,none⟩:Addr)==⟨g',o',none⟩)=false:=by simp [hb]
  have Qq:w.shape? g=some (el,C.size):=by simp [World.shape?,h1]
  have iu:w.shape? g'=some (Gg,C'.size):=by simp [World.shape?,h2]
  have hf1:∀o,w.frozen? ⟨g,o,none⟩=false:=λo=>by simp [World.frozen?,h1]
  have Ep:∀o,w.frozen? ⟨g',o,none⟩=false:=λo=>by simp [World.frozen?,h2]
  simp [sameAddr,hb,noView,viewAt,Qq,iu,hf1,Ep,mayBeOne,stringish]
theorem Re (hE:E.Ok){t o:Nat}{cs CS:Array Value}{v:Value}(hc:bE μ cs.toList CS.toList)(h:vm E t cs o=some v):∃V,(part t CS o).run E.prog w=.ok V w/\aL μ v V:=by
 unfold vm at h;split at h
 ·rename_i ha;cases hs:cK E t with
  |none=>rw [hs] at h;cases h
  |some n=>
   rw [hs] at h;simp only [fa,bc] at h;subst h;refine ⟨.agg (CS.extract o (o+n)),by simp [part,RG hE ha,lI hE hs],.agg ?_⟩;have hl:=hc.length;refine bE.Q6 (by simp at hl⊢;omega) λj v V hv hV=>?_
   rw [rS,Array.getElem?_extract] at hv hV;split at hv
   ·split at hV
    ·rw [<-rS] at hv hV;have⟨V',h1,h2⟩:=hc.get hv;rw [hV] at h1;injection h1 with h1;subst h1;exact h2
    ·cases hV
   ·cases hv
 ·rename_i ha;rw [<-rS] at h;have⟨V,h1,h2⟩:=hc.get h;rw [rS] at h1;exact ⟨V,by simp [part,RG hE ha,h1],h2⟩
 ·cases h
theorem ae5 (hE : E.Ok){eq : Nat -> Value -> Value -> Option Bool}{D : Nat}{xs ys XS YS : Array Value}(hx : bE μ xs.toList XS.toList)(hy : bE μ ys.toList YS.toList)
    (heq : ∀ (t : Nat)(u U v V : Value)(b : Bool), aL μ u U -> aL μ v V -> eq t u v = some b -> (Op.equalIn D t U V).run E.prog w = .ok b w) :
    ∀ (fs : List Field) (b : Bool), (∀ f ∈ fs, f.name ≠ "_") → DZ E eq xs ys fs = some b → (Op.eqFields D XS YS fs).run E.prog w = .ok b w
  | [], b, _, h => by
    simp only [DZ, bc] at h
    subst h
    simp [Op.eqFields]
  | f :: fs, b, hn, h => by
    simp only [DZ] at h
    cases h1 : vm E f.type xs f.offset with
    | none => rw [h1] at h; cases h
    | some u =>
      cases h2 : vm E f.type ys f.offset with
      | none => rw [h1, h2] at h; cases h
      | some v =>
        cases h3 : eq f.type u v with
        | none => rw [h1, h2] at h; simp only [bP, h3] at h; cases h
        | some r =>
          rw [h1, h2] at h
          simp only [bP, h3] at h
          obtain ⟨U, p1, p2⟩ := Re (w := w) hE hx h1
          obtain ⟨V, q1, q2⟩ := Re (w := w) hE hy h2
          have hr := heq _ _ _ _ _ _ p2 q2 h3
          have xm : f.name ≠ "_" := hn f (by simp)
          rw [Op.eqFields, ar xm]
          cases r with
          | false =>
            simp only [cQ, bc] at h
            subst h
            simp [p1, q1, hr]
          | true =>
            simp only [bQ] at h
            have ih := ae5 hE hx hy heq fs b (λf hf => hn f (by simp [hf])) h
            simp [p1, q1, hr, ih]
set_option maxHeartbeats 1600000 in
theorem ae7 (hE:E.Ok)(hH:aO E B0 μ H w):∀(d D t:Nat)(x X y Y:Value)(b:Bool),d<=D->aL μ x X->aL μ y Y->j7 E H d t x y=some b->(Op.equalIn D t X Y).run E.prog w=.ok b w
 |0,_,_,_,_,_,_,_,_,_,_,h=>by simp [j7] at h
 |d+1,0,_,_,_,_,_,_,hd,_,_,_=>by omega
 |d+1,D+1,t,x,X,y,Y,b,hd,hx,hy,h=>by
  unfold j7 at h;split at h
  ·rename_i hu;cases hx;cases hy;injection h with h;subst h;simp [Op.equalIn,c5 hE hu]
  ·rename_i hu;cases hx;cases hy;split at h
   ·rename_i e;injection h with h;subst h;subst e;simp [Op.equalIn,c5 hE hu]
   ·cases h
  ·rename_i hu;cases hx;injection h with h;subst h
   cases hy<;>simp [Op.equalIn,c5 hE hu]
  ·rename_i hu;cases hy;injection h with h;subst h
   cases hx<;>first|(simp [Op.equalIn,c5 hE hu];done)|(exfalso;simp_all;done)
  ·rename_i e a b' hu;cases hs:cK E e with
   |none=>rw [hs] at h;cases h
   |some n=>
    rw [hs] at h;simp only [bP] at h;split at h
    case isFalse=>cases h
    rename_i hc;injection h with h;subst h
    have⟨hn,ha,hb⟩:=hc;cases hx with
    |@ptr i o K hm=>
    cases hy with
    |@ptr i' o' K' lS=>
    have⟨L,C,el,a1,a2,a3,oa,a4,a5⟩:=hH.akf ⟨_,hm⟩ ha;have⟨L',C',Gg,b1,b2,b3,ob,b4,b5⟩:=hH.akf ⟨_,lS⟩ hb;simp only at a2 b2 a4 b4;rw [hm] at a2;injection a2 with a2;subst a2
    rw [lS] at b2;injection b2 with b2;subst b2
    have EF:=axc (w:=w) (o:=K.off+o) (o':=K'.off+o') E.prog a3 b3;simp only [Op.equalIn,Sem.run_bind,c5 hE hu,Result.andThen_ok,lI hE hs,ne_eq,hn,not_false_eq_true,pc,EF,Sem.run_ite]
    congr 1
    by_cases e:i=i'
    ·subst e;rw [hm] at lS;injection lS with lS;subst lS
     rw [p7];simp
    ·have aW:K.bA≠K'.bA:=λmL=>e (hH.apart i i' oa ob K K' a4 b4 a5 (B4 b5) hm lS mL)
     rw [p7];simp [e,aW]
  ·rename_i hu;cases hx;injection h with h;subst h
   cases hy<;>simp [Op.equalIn,c5 hE hu]
  ·rename_i hu;cases hy;injection h with h;subst h
   cases hx<;>first|(simp [Op.equalIn,c5 hE hu];done)|(exfalso;simp_all;done)
  ·rename_i hu;cases hx;injection h with h;subst h
   cases hy<;>simp [Op.equalIn,c5 hE hu]
  ·rename_i hu;cases hy;injection h with h;subst h
   cases hx<;>first|(simp [Op.equalIn,c5 hE hu];done)|(exfalso;simp_all;done)
  ·rename_i hu;cases hx;cases hy;injection h with h;subst h;simp [Op.equalIn,c5 hE hu]
  ·rename_i hu;cases hx;cases hy;injection h with h;subst h;simp [Op.equalIn,c5 hE hu]
  ·rename_i hu;cases hx;cases hy;injection h with h;subst h;simp [Op.equalIn,c5 hE hu]
  ·rename_i fields xs ys hu;cases hq:E.qp t with
   |false=>rw [hq] at h;cases h
   |true=>
    rw [hq] at h;simp only [bQ] at h;have cB:=(hE.qp _ hq).1;cases hx with
    |@agg _ XS hx=>
    cases hy with
    |@agg _ YS hy=>
    have KH:=sX hE hu;have atA:=(hE.qp _ hq).2.2 fields KH;have hf:E.prog.fieldsOf t=fields:=by simp [Program.fieldsOf,KH]
    rw [run_equalIn_struct w D t XS YS (by rw [hf];exact KH) cB,hf];exact ae5 hE hx hy (λt u U v V b hu hv hh=>ae7 hE hH d D t u U v V b (by omega) hu hv hh) fields.toList b atA h
  ·cases h
theorem axb {op:BinOp}{t:TypeId}{x y:Operand}{X Y:Value}(h1:X≠.nilIface)(h2:∀cs,X≠.agg cs):(eqGuard op t x y X Y).run E.prog w=.ok () w:=by
 cases X<;>first
  |exact absurd rfl h1
  |exact absurd rfl (h2 _)
  |(cases op<;>rfl)
theorem UZ (hE:E.Ok)(hH:aO E B0 μ H w){t:TypeId}{x X y Y:Value}{b:Bool}(hx:aL μ x X)(hy:aL μ y Y)(h:j7 E H 4 t x y=some b):(Op.equal t X Y).run E.prog w=.ok b w:=
 ae7 hE hH 4 10000 t x X y Y b (by omega) hx hy h
include hE in
theorem apU (hH:aO E B0 μ H w){op:BinOp}{t:TypeId}{xo yo:Operand}{x X y Y v:Value}(hx:aL μ x X)(hy:aL μ y Y)(h:nb E H op t x y=some v) :
  (do eqGuard op t xo yo X Y;binOp op t X Y:Sem Value).run E.prog w=.ok v w/\aL μ v v:=by
 unfold nb at h;split at h
 ·rename_i k a k' b;cases hx;cases hy;simp only [Sem.run_bind,arh,Result.andThen_ok];cases hs:Ch op with
  |true=>
   rw [hs] at h;exact axE h
  |false=>
   rw [hs] at h;simp only [cQ] at h;split at h
   ·rename_i e;subst e;exact auG hs h
   ·cases h
 ·rename_i xs ys;cases hx with
  |@agg _ XS hx=>
  cases hy with
  |@agg _ YS hy=>
  split at h
  ·cases hq:E.qp t with
   |false=>rw [hq] at h;cases h
   |true=>
    rw [hq] at h;simp only [bQ] at h;cases hr:j7 E H 4 t (.agg xs) (.agg ys) with
    |none=>rw [hr] at h;cases h
    |some b=>
     rw [hr] at h;simp only [fa,bc] at h;subst h
     have:=UZ hE hH (.agg hx) (.agg hy) hr
     refine ⟨?_,.bool _⟩;have hg:=run_eqGuard_agg (P:=E.prog) w .eql t xo yo XS YS (hE.qp _ hq).2.1;simp [hg,binOp,this]
  ·cases hq:E.qp t with
   |false=>rw [hq] at h;cases h
   |true=>
    rw [hq] at h;simp only [bQ] at h;cases hr:j7 E H 4 t (.agg xs) (.agg ys) with
    |none=>rw [hr] at h;cases h
    |some b=>
     rw [hr] at h;simp only [fa,bc] at h;subst h
     have:=UZ hE hH (.agg hx) (.agg hy) hr
     refine ⟨?_,.bool _⟩;have hg:=run_eqGuard_agg (P:=E.prog) w .neq t xo yo XS YS (hE.qp _ hq).2.1;simp [hg,binOp,this]
  ·cases h
 ·rename_i aDN aDK;cases hk:pG x with
  |false=>rw [hk] at h;cases h
  |true=>
   rw [hk] at h;simp only [bQ] at h;have Qd:pG X=true:=by cases hx<;>first|rfl|(simp [pG] at hk;done)
   have hg:(eqGuard op t xo yo X Y).run E.prog w=.ok () w:=axb (by rintro rfl;simp [pG] at Qd) (by rintro cs rfl;simp [pG] at Qd);have he:binOp .eql t X Y=(do pure (.bool (<-Op.equal t X Y))):=by cases X<;>first|rfl|(simp [pG] at Qd;done)
   have hn:binOp .neq t X Y=(do pure (.bool (!(<-Op.equal t X Y)))):=by cases X<;>first|rfl|(simp [pG] at Qd;done)
   split at h
   all_goals first
    |(cases h;done)
    |(cases hr:j7 E H 4 t x y with
      |none=>rw [hr] at h;cases h
      |some b=>
       rw [hr] at h;simp only [fa,bc] at h;subst h
       have:=UZ hE hH hx hy hr
       refine ⟨?_,.bool _⟩;simp [hg,he,hn,this])
theorem ayf {op:UnOp}{x X v:Value}{P:Program}(hx:aL μ x X)(h:MJ op x=some v):(Op.unary op X).run P w=.ok v w/\aL μ v v:=by
 unfold MJ at h;split at h
 ·cases hx;injection h with h;subst h;exact ⟨by simp [Op.unary,Op.intArith],.int _ _⟩
 ·cases hx;injection h with h;subst h;exact ⟨rfl,.int _ _⟩
 ·cases hx;injection h with h;subst h;exact ⟨rfl,.bool _⟩
 ·cases h
theorem Vb {f:Value->Value->Option Value}{g:Value->Value->Sem Value}{P:Program}(hfg:∀(x X y Y v:Value),aL μ x X->aL μ y Y->f x y=some v->∃V,(g X Y).run P w=.ok V w/\aL μ v V) :
  ∀(l L:List Value)(x X v:Value),bE μ l L->aL μ x X->Gm f x l=some v->∃V,(L.foldlM g X).run P w=.ok V w/\aL μ v V
 |_,_,x,X,v,.nil,hx,h=>by
  simp only [Gm,bc] at h
  subst h
  exact ⟨X,by simp,hx⟩
 |_,_,x,X,v,.cons hy hs,hx,h=>by
  simp only [Gm] at h
  cases hr:f x _ with
  |none=>rw [hr] at h;cases h
  |some z=>
   rw [hr] at h
   have⟨Z,z1,z2⟩:=hfg _ _ _ _ _ hx hy hr
   have⟨V,v1,v2⟩:=Vb hfg _ _ z Z v hs z2 h
   exact ⟨V,by simp [z1,v1],v2⟩
theorem avt {args ec:List Value}{v:Value}{ts:Array TypeId}{ty:TypeId}{P:Program}(ha:bE μ args ec)(h:Xu args=some v):∃V,(Builtin.max_ ts ty ec.toArray).run P w=.ok V w/\aL μ v V:=by
 cases ha with
 |nil=>cases h
 |cons hx hs=>
  exact Vb (λx X y Y v hx hy h=>by
   unfold aiC at h;split at h
   ·cases hx;cases hy
    split at h
    ·injection h with h;subst h;exact ⟨_,rfl,.int _ _⟩
    ·cases h
   ·cases h) _ _ _ _ v hs hx h
theorem avv {args ec:List Value}{v:Value}{ts:Array TypeId}{ty:TypeId}{P:Program}(ha:bE μ args ec)(h:Xw args=some v):∃V,(Builtin.min_ ts ty ec.toArray).run P w=.ok V w/\aL μ v V:=by
 cases ha with
 |nil=>cases h
 |cons hx hs=>
  exact Vb (λx X y Y v hx hy h=>by
   unfold aiF at h;split at h
   ·cases hx;cases hy
    split at h
    ·injection h with h;subst h;exact ⟨_,rfl,.int _ _⟩
    ·cases h
   ·cases h) _ _ _ _ v hs hx h
include hE in
theorem avg (hH:aO E B0 μ H w){t:Nat}{argTypes:Array TypeId}{ty:TypeId}{args:Array Value}{x X v:Value}(ht:argTypes[0]? =some t)(ha:args[0]? =some X)(hx:aL μ x X)(h:lW E H t x=some v) :
  (Builtin.len_ argTypes ty args).run E.prog w=.ok v w/\aL μ v v:=by
 unfold lW at h;split at h
 ·rename_i hu;cases hx<;>(injection h with h;subst h;exact ⟨by simp [Builtin.len_,ht,ha,c5 hE hu],.int _ _⟩)
 ·rename_i hu;cases hx;injection h with h;subst h;exact ⟨by simp [Builtin.len_,ht,ha,c5 hE hu],.int _ _⟩
 ·rename_i hu;injection h with h;subst h;exact ⟨by simp [Builtin.len_,ht,ha,c5 hE hu],.int _ _⟩
 ·rename_i hu;cases hx;injection h with h;subst h;exact ⟨by simp [Builtin.len_,ht,ha,c5 hE hu],.int _ _⟩
 ·rename_i i hu;split at h
  ·rename_i es ck hg;injection h with h;subst h
   cases hx with
   |@map _ L hm=>
   have⟨ES,k2,k3,k4⟩:=hH.EI hm hg;have hl:=k4.length;simp only [uA] at hl;exact ⟨by simp [Builtin.len_,ht,ha,c5 hE hu,AN k3,hl],.int _ _⟩
  ·cases h
 ·cases h
include hE in
theorem aqp (hH:aO E B0 μ H w){t:Nat}{argTypes:Array TypeId}{ty:TypeId}{x X:Value}{H':aa}(ht:argTypes[0]? =some t)(hx:aL μ x X)(h:zR E H t x=some H') :
  ∃w',(Builtin.clear_ argTypes ty #[X]).run E.prog w=.ok (.tuple #[]) w'/\aO E B0 μ H' w'/\Below B0 w w':=by
 unfold zR at h;split at h
 ·rename_i i hu;split at h
  ·rename_i es ck hg;injection h with h;subst h
   cases hx with
   |@map _ L hm=>
   have⟨ES,k2,k3,k4⟩:=hH.EI hm hg
   have:=hH.Mp (es':=[]) (ck':=ck) (ES':= #[]) hm hg .nil
   refine ⟨_,?_,this⟩;simp [Builtin.clear_,ht,c5 hE hu,AN k3,Mh k3]
  ·cases h
 ·rename_i hu;injection h with h;subst h
  refine ⟨w,?_,hH,Below.refl _ _⟩;cases hx<;>simp [Builtin.clear_,ht,c5 hE hu]
 ·rename_i hu;cases hz:pb E _ with
  |none=>rw [hz] at h;cases h
  |some z=>
   rw [hz] at h;simp only [bP] at h;have⟨zv,i,h1,h2,h3,h4,h5,h6,h7⟩:=M7 hz;split at h
   case isFalse=>cases h
   rename_i WZ;rename_i n c _ Ai;cases hx with
   |@slice _ _ _ _ cap L hm hle hr=>
    have⟨w',e1,e2,e3⟩:=hH.storeCells hm h (Ry (aaj hz) _) (Yh h7 _) E.prog;refine ⟨w',?_,e2,e3⟩;have G0:=(HL hE h1 w).1;have rC:∀n,Builtin.zeroCells ⟨z⟩ n=⟨fE n z⟩:=λn=>Yi z WZ n
    cases c with
    |zero=>exact (by simp at Ai:False).elim
    |succ n=>simp [Builtin.clear_,ht,c5 hE hu,G0,Ju h2,rC,e1]
   |pU hm ho=>exact (by simp at Ai:False).elim
 ·cases h
theorem aiv {t:Nat}{m k v:Value}{H':aa}(h:Ax E H t m k v=some H'):H'.next=H.next:=by
 unfold Ax at h;split at h
 ·have⟨kd,_,h⟩:=Bg.1 h;split at h
  ·have⟨r,_,h⟩:=aas.1 h;subst h;split<;>rfl
  ·cases h
 ·cases h
theorem aqM {t:Nat}{m k:Value}{H':aa}(h:DT E H t m k=some H'):H'.next=H.next:=by
 unfold DT at h;split at h
 ·have⟨kd,_,h⟩:=Bg.1 h;split at h
  ·have⟨r,_,h⟩:=aas.1 h;subst h;split<;>rfl
  ·cases h
 ·cases h
theorem aqo {t:Nat}{x:Value}{H':aa}(h:zR E H t x=some H'):H'.next=H.next:=by
 unfold zR at h;split at h
 ·split at h
  ·injection h with h;subst h;rfl
  ·cases h
 ·injection h with h;subst h;rfl
 ·have⟨z,_,h⟩:=Bg.1 h;split at h
  ·exact MC h
  ·cases h
 ·cases h
theorem axW {t:Nat}{a v:Value}{H':aa}(h:CT E H t a v=some H'):H'.next=H.next:=by
 unfold CT at h;split at h
 ·have⟨vs,_,h⟩:=Bg.1 h;have⟨n,_,h⟩:=Bg.1 h;split at h
  ·exact MC h
  ·cases h
 ·cases h
def dK (E:Env)(B0:Nat)(μ:aJ)(H:aa)(w:World)(s:Sem Next):bV->Prop
 |.val v H'=>∃N V w' aD,s.run E.prog w=.ok N w'/\(N=.value V∨(N=.skip/\V=undef))/\cD H μ H' aD/\aL aD v V/\aO E B0 aD H' w'/\Below B0 w w'
 |.call f args=>∃ec,s.run E.prog w=.ok (.enter f ec) w/\bE μ args ec.toList
theorem dK.CN {s:Sem Value}{v:Value}{H':aa}(h:zH E B0 μ H w s v H'):dK E B0 μ H w (do pure (.value (<-s))) (.val v H'):=by
 have⟨V,w',aD,h1,h2⟩:=h;exact ⟨.value V,V,w',aD,by simp [h1],.inl rfl,h2⟩
theorem dK.oh (hH:aO E B0 μ H w){s:Sem Value}{v:Value}(h:∃V,s.run E.prog w=.ok V w/\aL μ v V):dK E B0 μ H w (do pure (.value (<-s))) (.val v H):=by
 have⟨V,h1,h2⟩:=h;exact ⟨.value V,V,w,μ,by simp [h1],.inl rfl,cD.refl _ _,h2,hH,Below.refl _ _⟩
theorem dK.XP {s:Sem Unit}{H':aa}(hn:H'.next=H.next)(h:∃w',s.run E.prog w=.ok () w'/\aO E B0 μ H' w'/\Below B0 w w'):dK E B0 μ H w (do s;pure .skip) (.val undef H'):=by
 have⟨w',h1,h2,h3⟩:=h;exact ⟨.skip,undef,w',μ,by simp [h1],.inr ⟨rfl,rfl⟩,cD.same _ hn,.tuple .nil,h2,h3⟩
theorem dK.aj7 {s:Sem Value}{H':aa}(hn:H'.next=H.next)(h:∃w',s.run E.prog w=.ok (.tuple #[]) w'/\aO E B0 μ H' w'/\Below B0 w w'):dK E B0 μ H w (do pure (.value (<-s))) (.val undef H'):=by
 have⟨w',h1,h2,h3⟩:=h;exact ⟨.value undef,undef,w',μ,by simp [h1,undef],.inl rfl,cD.same _ hn,.tuple .nil,h2,h3⟩
theorem dK.Rp (hH:aO E B0 μ H w){v V:Value}(h:aL μ v V):dK E B0 μ H w (pure (.value V)) (.val v H):=
 ⟨.value V,V,w,μ,rfl,.inl rfl,cD.refl _ _,h,hH,Below.refl _ _⟩
theorem sM {o:Option Value}{r:bV}(h:rv H o=some r):∃v,o=some v/\r=.val v H:=by
 unfold rv at h;cases o with
 |none=>cases h
 |some v=>injection h with h;exact ⟨v,rfl,h.symm⟩
theorem Mf {o:Option aa}{r:bV}(h:rh o=some r):∃H',o=some H'/\r=.val undef H':=by
 unfold rh at h;cases o with
 |none=>cases h
 |some v=>injection h with h;exact ⟨v,rfl,h.symm⟩
theorem sO {o:Option (Value×aa)}{r:bV}(h:sN o=some r):∃v H',o=some (v,H')/\r=.val v H':=by
 unfold sN at h;cases o with
 |none=>cases h
 |some v=>injection h with h;exact ⟨v.1,v.2,rfl,h.symm⟩
include hE in
theorem aqb (hH:aO E B0 μ H w){b:Builtin}{argTypes:Array TypeId}{ty:TypeId}{cs:Array Bool}{args ec:List Value}{r:bV}(ha:bE μ args ec)(h:yp E H b argTypes args=some r) :
  dK E B0 μ H w (builtin b argTypes ty cs ec.toArray) r:=by
 unfold yp at h;split at h
 ·obtain ⟨v,H',h1,rfl⟩:=sO h;exact dK.CN (apl hE hH ha h1)
 ·obtain ⟨v,H',h1,rfl⟩:=sO h;exact dK.CN (aqw hE hH ha h1)
 ·split at h
  ·rename_i t ts x xs cX;obtain ⟨v,h1,rfl⟩:=sM h;have⟨at_⟩:=argTypes;simp only at cX;subst cX;cases ha with
   |cons hx hs=>
    rename_i X L
    have:=avg hE hH (argTypes:=⟨t::ts⟩) (ty:=ty) (args:=(X::L).toArray) (by rfl) (by rfl) hx h1
    exact dK.oh hH ⟨v,this.1,this.2⟩
  ·cases h
 ·split at h
  ·rename_i t ts m k cX;obtain ⟨H',h1,rfl⟩:=Mf h;have⟨at_⟩:=argTypes;simp only at cX;subst cX;cases ha with
   |cons hm hs=>
   cases hs with
   |cons hk hs=>
   cases hs
   exact dK.aj7 (aqM h1) (aqN hE hH (argTypes:=⟨t::ts⟩) (by rfl) hm hk h1)
  ·cases h
 ·split at h
  ·rename_i t ts x cX;obtain ⟨H',h1,rfl⟩:=Mf h;have⟨at_⟩:=argTypes;simp only at cX;subst cX;cases ha with
   |cons hx hs=>
   cases hs
   exact dK.aj7 (aqo h1) (aqp hE hH (argTypes:=⟨t::ts⟩) (by rfl) hx h1)
  ·cases h
 ·obtain ⟨v,h1,rfl⟩:=sM h;exact dK.oh hH (avt ha h1)
 ·obtain ⟨v,h1,rfl⟩:=sM h;exact dK.oh hH (avv ha h1)
 ·cases h
theorem aqt (hH:aO E B0 μ H w){args ec:List Value}{r:bV}(ha:bE μ args ec)(h:Oq H args=some r) :
  dK E B0 μ H w (do pure (.value (<-Extern.MapsClone.clone ec.toArray))) r:=by
 unfold Oq at h;split at h
 case h_2=>cases h
 rename_i t i;split at h
 case h_2=>cases h
 rename_i es ck hg;injection h with h;subst h
 cases ha with
 |cons hx hs=>
 cases hs
 cases hx with
 |iface hx=>
 cases hx with
 |@map _ L hm=>
 have⟨ES,k2,k3,k4⟩:=hH.EI hm hg;have⟨q1,q2,q3⟩:=hH.ajS es ES ck k4;obtain ⟨g,hg1,sC⟩:∃g:Go.Obj->Sem Value,Extern.MapsClone.clone #[.iface t (.map (some L.bA))]=(getObj L.bA >>=g)/\
   g (.map ES ck)=(do pure (.iface t (.map (some (<-newObj (.map ES ck)))))):=⟨_,rfl,rfl⟩
 refine dK.CN ⟨.iface t (.map (some w.heap.size)),_,_,?_,q1,.iface (.map (L:=⟨w.heap.size,0,0,0⟩) (aJ.r_ _ _ _)),q2,q3⟩;rw [show (List.toArray [Value.iface t (.map (some L.bA))])= #[.iface t (.map (some L.bA))] from rfl,hg1];simp [AN k3,sC]
include hE in
theorem aqh (hH : aO E B0 μ H w){f F : Value}{args ec : List Value}{r : bV}(hf : aL μ f F)(ha : bE μ args ec)(h : DN E H f args = some r) :
    dK E B0 μ H w (do let d <- Deferred.ofValue F ec.toArray; invoke d.target d.args) r := by
  unfold DN at h
  split at h
  case h_2 => cases h
  rename_i id first captured
  cases hf with
  | @func _ _ FSz _ CS h1 h2 =>
  have lA : bE μ (first.toList ++ args ++ captured.toList) (FSz ++ ec.toArray ++ CS).toList := by
    simp only [Array.toList_append]
    exact (h1.append ha).append h2
  split at h
  · rename_i fn sA
    injection h with h; subst h
    obtain ⟨g1, g2, g3⟩ := hE.fn _ _ sA
    have O9 : ¬ fn.body = none := by cases hb : fn.body <;> simp_all
    have Vi : ¬ fn.name = "runtime.NumGoroutine" := by simpa using g3
    refine ⟨FSz ++ ec.toArray ++ CS, ?_, lA⟩
    simp [Deferred.ofValue, invoke, callFunc, g1, O9, Vi]
  · cases hc : E.clone id with
    | false => rw [hc] at h; cases h
    | true =>
      rw [hc] at h
      obtain ⟨fn, g1, g2, g3, g4, g5⟩ := hE.clone _ hc
      have := aqt hH lA h
      have Vi : ¬ fn.name = "runtime.NumGoroutine" := by simpa using g3
      have e : (do let d <- Deferred.ofValue (.func (.func id) FSz CS) ec.toArray; invoke d.target d.args : Sem Next).run E.prog w = (do pure (.value (<- Extern.MapsClone.clone (FSz ++ ec.toArray ++ CS))) : Sem Next).run E.prog w := by
        simp [Deferred.ofValue, invoke, callFunc, g1, g2, Vi, g4, g5]
      cases r with
      | val v H' =>
        obtain ⟨N, V, w', aD, q1, q2⟩ := this
        exact ⟨N, V, w', aD, by rw [e]; exact q1, q2⟩
      | call f' aDd =>
        obtain ⟨A, q1, q2⟩ := this
        exact ⟨A, by rw [e]; exact q1, q2⟩
end
end
section
section
variable {E:Env} (hE:E.Ok) {B0:Nat} {μ:aJ} {H:aa} {w:World}
include hE in
theorem arw (hH:aO E B0 μ H w){s f:Nat}{X:Value}{fields:Array Field}{i o n:Nat}{fd:Field}(hu:dq E s=some (.struct fields))(hx:aL μ (.pointer (some ⟨i,o,none⟩)) X)
  (hf:fields[f]? =some fd)(hs:cK E fd.type=some n)(hn:¬n=0) :
  ∃V,(Instr.fieldAt s X f).run E.prog w=.ok V w/\aL μ (.pointer (some ⟨i,o+fd.offset,none⟩)) V:=by
 cases hx with
 |@ptr _ _ L hm=>
 refine ⟨.pointer (some ⟨L.bA,L.off+(o+fd.offset),none⟩),?_,.ptr hm⟩;simp [Instr.fieldAt,c5 hE hu,hf,Instr.sureAddr,fieldPlace,lI hE hs,hn,wY,Fw]
include hE in
theorem auD {t el i o len c s:Nat}{n:Int}{k:IntKind}{X:Value}(hu:dq E t=some (.slice el))(hx:aL μ (.slice (some ⟨i,o,none⟩) len c) X)(hs:cK E el=some s)(hn:0<=n/\n<len) :
  ∃V,(Instr.indexAt t X (.int k n)).run E.prog w=.ok V w/\aL μ (.pointer (some ⟨i,o+n.toNat*s,none⟩)) V:=by
 cases hx with
 |@slice _ _ _ _ cap L hm hl hr=>
  refine ⟨.pointer (some ⟨L.bA,L.off+(o+n.toNat*s),none⟩),?_,.ptr hm⟩;simp [Instr.indexAt,asIntOf,c5 hE hu,hn.1,hn.2,lI hE hs,wY,Fw]
 |pU hm ho=>omega
include hE in
theorem auC {t el i o len s:Nat}{n:Int}{k:IntKind}{X:Value}(hu:dq E t=some (.array len el))(hx:aL μ (.pointer (some ⟨i,o,none⟩)) X)(hs:cK E el=some s)(hn:0<=n/\n<len) :
  ∃V,(Instr.indexAt t X (.int k n)).run E.prog w=.ok V w/\aL μ (.pointer (some ⟨i,o+n.toNat*s,none⟩)) V:=by
 cases hx with
 |@ptr _ _ L hm=>
  refine ⟨.pointer (some ⟨L.bA,L.off+(o+n.toNat*s),none⟩),?_,.ptr hm⟩;simp [Instr.indexAt,asIntOf,c5 hE hu,Instr.sureAddr,hn.1,hn.2,lI hE hs,wY,Fw]
theorem akA {e e':Operand->Value}(he:∀x,aL μ (e x) (e' x))(l:Array Operand):bE μ (l.map e).toList (l.map e').toList:=by
 simp only [C8];exact bE.map e e' _ λx _=>he x
theorem aL.Uc {t:Bool}{V:Value}(h:aL μ (.bool t) V):V=.bool t:=by cases h;rfl
theorem aL.int_eq {k:IntKind}{n:Int}{V:Value}(h:aL μ (.int k n) V):V=.int k n:=by cases h;rfl
include hE in
theorem apg (hH:aO E B0 μ H w){o:Oper}{e e':Operand->Value}(he:∀x,aL μ (e x) (e' x)){r:bV}(h:aH E e o.op H=some r):dK E B0 μ H w (execOp e' o) r:=by
 have⟨dst,op,ty,pos,aft,grd⟩:=o;simp only at h;unfold execOp;dsimp only;cases op<;>dsimp only
 case move x=>injection h with h;subst h;exact dK.Rp hH (he x)
 case assign x=>injection h with h;subst h;exact dK.Rp hH (he x)
 case pick c a b=>
  simp only [aH] at h;split at h
  case h_2=>cases h
  rename_i t hc;injection h with h;subst h
  have h1:=he c;rw [hc] at h1;rw [h1.Uc];cases t
  ·exact ⟨.value (e' b),e' b,w,μ,by simp [asBool],.inl rfl,cD.refl _ _,he b,hH,Below.refl _ _⟩
  ·exact ⟨.value (e' a),e' a,w,μ,by simp [asBool],.inl rfl,cD.refl _ _,he a,hH,Below.refl _ _⟩
 case alloc t=>
  simp only [aH] at h;cases hz:zeroV E t with
  |none=>rw [hz] at h;cases h
  |some z=>
   rw [hz] at h;obtain ⟨v,H',h1,rfl⟩:=sO h;exact dK.CN (apb hE hH hz h1)
 case box t x=>
  obtain ⟨v,H',h1,rfl⟩:=sO h;exact dK.CN (ap8 hH (he x) h1 t)
 case build t parts=>
  obtain ⟨v,h1,rfl⟩:=sM h;exact dK.oh hH (aqa hE he h1)
 case buildSlice t len parts=>
  obtain ⟨v,H',h1,rfl⟩:=sO h;exact dK.CN (ap_ hE hH he h1)
 case load t a=>
  obtain ⟨v,h1,rfl⟩:=sM h;exact dK.oh hH (aid hE hH (he a) h1)
 case store t a x=>
  obtain ⟨H',h1,rfl⟩:=Mf h;exact dK.XP (axW h1) (axX hE hH (he a) (he x) h1)
 case nilCheck x=>
  simp only [aH] at h;have h1:=he x;generalize e x=y at h h1;generalize e' x=Y at h1;split at h
  ·injection h with h;subst h
   cases h1 with
   |ptr hm=>exact dK.Rp hH (.ptr hm)
  ·injection h with h;subst h
   cases h1 with
   |func q1 q2=>exact dK.Rp hH (.func q1 q2)
  ·cases h
 case binOp op t x y yt=>
  obtain ⟨v,h1,rfl⟩:=sM h;have⟨b1,b2⟩:=apU hE hH (xo:=x) (yo:=y) (he x) (he y) h1;exact dK.oh hH ⟨v,b1,b2⟩
 case unOp op t x=>
  obtain ⟨v,h1,rfl⟩:=sM h;have⟨b1,b2⟩:=ayf (P:=E.prog) (w:=w) (he x) h1;exact dK.oh hH ⟨v,b1,b2⟩
 case convert src dst x=>
  obtain ⟨v,h1,rfl⟩:=sM h;have h2:=he x;unfold Ou at h1;split at h1
  ·rename_i sd k k' n hs hu hx;rw [hx] at h2;rw [h2.int_eq];injection h1 with h1;subst h1
   refine dK.oh hH ⟨_,?_,.int _ _⟩;simp [convert,c5 hE hs,c5 hE hu,Conv.intToInt]
  ·cases h1
 case makeInterface t x=>
  simp only [aH] at h;split at h
  ·cases h
  ·rename_i d hd hu;injection h with h;subst h
   refine dK.oh hH ⟨.iface t (e' x),?_,.iface (he x)⟩;have KH:=sX hE hu;have hc:E.prog.concrete t=true:=by
    unfold Program.concrete;rw [KH];cases d<;>first|rfl|exact (hd _ rfl).elim
   exact run_makeInterface w t _ hc
  ·cases h
 case makeFunc fn first captured=>
  cases fn with
  |func f=>
   simp only [aH] at h;injection h with h;subst h
   exact dK.oh hH ⟨_,rfl,.func (akA he _) (akA he _)⟩
  |_=>simp only [aH] at h;cases h
 case makeMap t rr=>
  have Wz:dK E B0 μ H w (do pure (.value (<-(do pure (.map (some (<-newObj (.map #[] 0)))):Sem Value)))) (.val (.map (some H.next)) (H.new (.map [] 0))):=by
   have⟨q1,q2,q3⟩:=hH.ajS [] #[] 0 .nil;exact dK.CN ⟨.map (some w.heap.size),_,_,by simp,q1,.map (L:=⟨w.heap.size,0,0,0⟩) (aJ.r_ _ _ _),q2,q3⟩
  cases rr with
  |none=>
   simp only [aH] at h;injection h with h;subst h
   exact Wz
  |some x=>
   simp only [aH] at h;split at h
   ·rename_i kt et k n hu hx;injection h with h;subst h
    have h2:=he x;rw [hx] at h2;have⟨N,V,w',aD,g1,g2⟩:=Wz;refine ⟨N,V,w',aD,?_,g2⟩;rw [<-g1];simp [Instr.makeMap,c5 hE hu,h2.int_eq,asInt,asIntOf]
   ·cases h
 case makeSlice t l c=>
  obtain ⟨v,H',h1,rfl⟩:=sO h;exact dK.CN (avr hE hH (he l) (he c) h1)
 case slice t x lo hi mx=>
  obtain ⟨v,h1,rfl⟩:=sM h;exact dK.oh hH (axK hE hH he (he x) h1)
 case fieldAddr s x f=>
  simp only [aH] at h;split at h
  ·rename_i fields i o hu hx;split at h
   ·rename_i fd hf;cases hs:cK E fd.type with
    |none=>rw [hs] at h;cases h
    |some n=>
     rw [hs] at h;simp only [bP] at h;split at h
     ·cases h
     ·rename_i hn;injection h with h;subst h
      have h1:=he x;rw [hx] at h1;exact dK.oh hH (arw hE hH hu h1 hf hs hn)
   ·cases h
  ·cases h
 case field t x f=>
  simp only [aH] at h;split at h
  ·rename_i fields cs hu hx;split at h
   ·rename_i fd hf;obtain ⟨v,h1,rfl⟩:=sM h;have h2:=he x;rw [hx] at h2;generalize e' x=X at h2;cases h2 with
    |@agg _ CS hc=>
     have⟨V,p1,p2⟩:=Re (w:=w) hE hc h1;exact dK.oh hH ⟨V,by simp [Instr.field,c5 hE hu,hf,asAgg,p1],p2⟩
   ·cases h
  ·cases h
 case indexAddr t x ix=>
  simp only [aH] at h;split at h
  ·rename_i el i o len c k n hu hx Ev;cases hs:cK E el with
   |none=>rw [hs] at h;cases h
   |some s=>
    rw [hs] at h;simp only [bP] at h;split at h
    ·rename_i hn;injection h with h;subst h
     have h1:=he x;have h2:=he ix;rw [hx] at h1;rw [Ev] at h2;rw [h2.int_eq];exact dK.oh hH (auD hE hu h1 hs hn)
    ·cases h
  ·rename_i len el i o k n hu hx Ev;cases hs:cK E el with
   |none=>rw [hs] at h;cases h
   |some s=>
    rw [hs] at h;simp only [bP] at h;split at h
    ·rename_i hn;injection h with h;subst h
     have h1:=he x;have h2:=he ix;rw [hx] at h1;rw [Ev] at h2;rw [h2.int_eq];exact dK.oh hH (auC hE hu h1 hs hn)
    ·cases h
  ·cases h
 case index t x ix=>
  simp only [aH] at h;split at h
  ·rename_i len el cs k n hu hx Ev;cases hs:cK E el with
   |none=>rw [hs] at h;cases h
   |some s=>
    rw [hs] at h;simp only [bP] at h;split at h
    ·rename_i hn;obtain ⟨v,h0,rfl⟩:=sM h;have h1:=he x;have h2:=he ix;rw [hx] at h1;rw [Ev] at h2;rw [h2.int_eq];generalize e' x=X at h1;cases h1 with
     |@agg _ CS hc=>
      have⟨V,p1,p2⟩:=Re (w:=w) hE hc h0;exact dK.oh hH ⟨V,by simp [Instr.index,asIntOf,c5 hE hu,hn.1,hn.2,lI hE hs,p1],p2⟩
    ·cases h
  ·rename_i s k n hu hx Ev;obtain ⟨v,h0,rfl⟩:=sM h;have h1:=he x;have h2:=he ix;rw [hx] at h1;rw [Ev] at h2;rw [h2.int_eq];generalize e' x=X at h1;cases h1;unfold Ue at h0;split at h0
   ·rename_i hn;cases hb:s[n.toNat]? with
    |none=>rw [hb] at h0;cases h0
    |some b=>
     rw [hb] at h0;simp only [fa,bc] at h0;subst h0;exact dK.oh hH ⟨.int .u8 b.toNat,by simp [Instr.index,asIntOf,c5 hE hu,hn,hb],.int _ _⟩
   ·cases h0
  ·cases h
 case lookup t x k ok=>
  obtain ⟨v,h1,rfl⟩:=sM h;exact dK.oh hH (avp hE hH (he x) (he k) h1)
 case mapUpdate t m k x=>
  obtain ⟨H',h1,rfl⟩:=Mf h;exact dK.XP (aiv h1) (aiw hE hH (he m) (he k) (he x) h1)
 case insert t m k x=>
  obtain ⟨H',h1,rfl⟩:=Mf h;exact dK.XP (aiv h1) (aiw hE hH (he m) (he k) (he x) h1)
 case typeAssert x xt asserted ok=>
  cases ok with
  |true=>simp only [aH] at h;cases h
  |false=>
  simp only [aH] at h;split at h
  ·cases h
  ·rename_i d t v hd hu hx;split at h
   ·rename_i hta;injection h with h;subst h
    subst hta;have h1:=he x;rw [hx] at h1;generalize e' x=X at h1;cases h1 with
    |@iface _ _ V hv=>
     refine dK.oh hH ⟨V,?_,hv⟩;cases d<;>first
      |exact (hd _ _ rfl rfl).elim
      |exact (hd _ rfl).elim
      |simp [Instr.typeAssert,c5 hE hu]
   ·cases h
  ·cases h
 case extract t ix=>
  simp only [aH] at h;split at h
  ·rename_i vs hx;split at h
   ·rename_i v hv;injection h with h;subst h
    have h1:=he t;rw [hx] at h1;generalize e' t=X at h1;cases h1 with
    |@tuple _ VS hc=>
     rw [<-rS] at hv;have⟨V,p1,p2⟩:=hc.get hv;rw [rS] at p1;exact dK.oh hH ⟨V,by simp [Instr.extract,p1],p2⟩
   ·cases h
  ·cases h
 case call c=>
  simp only [aH] at h;have⟨callee,args,argTypes⟩:=c;cases callee with
  |value f=>
   simp only at h
   have:=aqh hE hH (he f) (bE.map e e' args.toList λx _=>he x) h
   have e1:(args.toList.map e').toArray=args.map e':=by rw [<-C8,Array.toArray_toList]
   rw [e1] at this;exact this
  |invoke r n=>cases h
  |builtin b=>
   simp only at h
   have:=aqb hE hH (ty:=ty) (cs:=args.map fun|.const _=>true|_=>false) (bE.map e e' args.toList λx _=>he x) h
   have e1:(args.toList.map e').toArray=args.map e':=by rw [<-C8,Array.toArray_toList]
   rw [e1] at this;exact this
 all_goals (simp only [aH] at h;cases h)
end
end
section
def FG (E:Env)(B0:Nat)(aF:fp):Prop:=
 ∀f args H v H',aF f args H=some (v,H')->∀μ w (ec:Array Value),aO E B0 μ H w->bE μ args ec.toList->
  Calls E.prog f ec w λe w'=>∃V aD,e=.returned V/\cD H μ H' aD/\aL aD v V/\aO E B0 aD H' w'/\Below B0 w w'
def pv (μ:aJ)(T:Tr Value)(a:Act):Prop:=
 (∀t,(T.get t=none/\a.tmps[t]? =none)∨∃v V,T.get t=some v/\a.tmps[t]? =some V/\aL μ v V)/\a.defers=[]
section
variable {E:Env} (hE:E.Ok) {B0:Nat} {μ:aJ} {H:aa} {w:World}
theorem pv.mono {aD:aJ}(hle:aJ.le μ aD){T:Tr Value}{a:Act}(h:pv μ T a):pv aD T a:=
 ⟨λt=>(h.1 t).imp id λ⟨v,V,h1,h2,h3⟩=>⟨v,V,h1,h2,h3.mono hle⟩,h.2⟩
theorem aL.undef:aL μ undef undef:=.tuple .nil
theorem pv.at {T:Tr Value}{a:Act}(h:pv μ T a)(t:Nat):aL μ ((T.get t).getD Go.undef) (a.tmps.getD t Go.undef):=by
 rcases h.1 t with ⟨h1,h2⟩|⟨v,V,h1,h2,h3⟩
 ·rw [h1,Bi,h2];exact aL.undef
 ·rw [h1,Bi,h2];exact h3
theorem JG (hH:aO E B0 μ H w){T:Tr Value}{a:Act}(h:pv μ T a)(x:Operand):aL μ (ev E T x) (a.eval x):=by
 cases x with
 |tmp t=>exact h.at t
 |const v=>
  simp only [ev,Act.eval];cases hp:plain v with
  |true=>exact EM hp
  |false=>exact .top _
 |global g=>
  simp only [ev,Act.eval];cases hb:Nat.ble (g+1) E.ng with
  |true=>
   have⟨L,h1,h2,h3⟩:=hH.rj g (aS hb)
   have:=aL.ptr (μ:=μ) (i:=g) (o:=0) h1
   rw [h2,h3] at this;exact this
  |false=>exact .top _
 |func f=>exact .func .nil .nil
theorem pv.put {T:Tr Value}{a:Act}(h:pv μ T a)(d:Option Tmp){v V:Value}(hv:aL μ v V):pv μ (jt T d v) (a.put d V):=by
 cases d with
 |none=>exact h
 |some d=>
  refine ⟨λt=>?_,h.2⟩;simp only [jt,Act.put,Tr.D7];rw [amG];by_cases e:t=d
  ·subst e;rw [ar rfl,ar rfl];rcases h.1 t with ⟨h1,h2⟩|⟨v',V',h1,h2,h3⟩
   ·left;refine ⟨by rw [h1];rfl,?_⟩;rw [an];intro aE;rw [zx aE] at h2;cases h2
   ·right;refine ⟨v,V,by rw [h1];rfl,?_,hv⟩;rw [ar];rcases iY t a.tmps.size with aE|vZ
    ·exact aE
    ·rw [tg vZ] at h2;cases h2
  ·rw [an e,an (λh=>e h.symm)];exact h.1 t
theorem al9 {ops:Array Oper}{T:Tr Value}{a:Act}(h:pv μ T a){o:Oper}{b:Bool}(hw:lg ops T o=some b):Region.wanted o (yielded ops a.tmps)=b:=by
 unfold lg at hw;unfold Region.wanted;cases hg:o.guard with
 |none=>rw [hg] at hw;simpa using hw
 |some p=>
  have⟨j,want⟩:=p;rw [hg] at hw;simp only at hw⊢;unfold yielded;cases hd:(ops[j]?).bind (·.dst) with
  |none=>rw [hd] at hw;simp only [bc] at hw;subst hw;rfl
  |some d=>
   rw [hd] at hw;simp only [bP] at hw⊢;rcases h.1 d with ⟨h1,h2⟩|⟨v,V,h1,h2,h3⟩
   ·rw [h1] at hw;rw [h2];simp only [bc] at hw;subst hw;rfl
   ·rw [h1] at hw;rw [h2];cases h3
    case tuple cs CS hs=>
     have⟨cs⟩:=cs;have⟨CS⟩:=CS;cases hs with
     |nil=>simp only [bc] at hw;subst hw;rfl
     |cons _ _=>cases hw
    case bool x=>simp only [bc] at hw;subst hw;rfl
    all_goals (cases hw)
theorem XT (hE:E.Ok){aF:fp}(hF:FG E B0 aF)(hH:aO E B0 μ H w){o:Oper}{T T0:Tr Value}{a:Act}(Ki:∀x,aL μ (ev E T0 x) (a.eval x))(hT:pv μ T a)
  {v:Value}{H':aa}(h:kH aF (aH E (ev E T0) o.op H) H=some (v,H')){K:Act->World->Prop}{Q:Exit->Act->World->Prop}
  (hK:∀V aD w',cD H μ H' aD->aL aD v V->pv aD (jt T o.dst v) (a.put o.dst V)->aO E B0 aD H' w'->Below B0 w w'->K (a.put o.dst V) w'):o.wp E.prog a w K Q:=by
 unfold Oper.wp;cases hr:aH E (ev E T0) o.op H with
 |none=>rw [hr] at h;cases h
 |some r=>
  rw [hr] at h;have bB:=apg hE hH Ki hr;cases r with
  |val v0 H0=>
   simp only [kH,bc,iF] at h;obtain ⟨rfl,rfl⟩:=h;have⟨N,V,w',aD,h1,h2,h3,h4,h5,h6⟩:=bB;rw [h1];rcases h2 with rfl|⟨rfl,rfl⟩
   ·exact hK V aD w' h3 h4 ((hT.mono h3.le).put _ h4) h5 h6
   ·exact hK Go.undef aD w' h3 h4 ((hT.mono h3.le).put _ h4) h5 h6
  |call f args=>
   simp only [kH] at h;have⟨ec,h1,h2⟩:=bB;rw [h1];refine (hF f args H v H' h μ w ec hH h2).mono ?_;rintro e w' ⟨V,aD,rfl,h3,h4,h5,h6⟩;exact hK V aD w' h3 h4 ((hT.mono h3.le).put _ h4) h5 h6
def vJ (E:Env)(B0:Nat)(μ:aJ)(s:St)(a:Act)(w:World):Prop:=pv μ s.T a/\aO E B0 μ s.H w
theorem Ys (hE:E.Ok){aF:fp}(hF:FG E B0 aF){ops:Array Oper}{Q:Exit->Act->World->Prop}:∀(l:List Oper)(s s':St)(μ:aJ)(a:Act)(w:World),
  pT E aF ops l s=some s'->vJ E B0 μ s a w->(∀aD a' w',cD s.H μ s'.H aD->vJ E B0 aD s' a' w'->Below B0 w w'->Q .normal a' w')->wpList E.prog ops Q l a w
 |[],s,s',μ,a,w,h,hs,hQ=>by
  simp only [pT,bc] at h
  subst h
  exact hQ μ a w (cD.refl _ _) hs (Below.refl _ _)
 |o::l,s,s',μ,a,w,h,hs,hQ=>by
  simp only [pT] at h
  cases cB:vx E aF ops o s with
  |none=>rw [cB] at h;cases h
  |some s1=>
   rw [cB] at h
   simp only at h
   unfold vx at cB
   unfold wpList
   cases hw:lg ops s.T o with
   |none=>rw [hw] at cB;cases cB
   |some b=>
    rw [hw] at cB
    have WW:=al9 hs.1 hw
    rw [WW]
    cases b with
    |false=>
     simp only [bc] at cB
     subst cB
     rw [an (by simp)]
     exact Ys hE hF l _ s' μ _ w h ⟨hs.1.put _ aL.undef,hs.2⟩ hQ
    |true=>
     simp only at cB
     rw [ar rfl]
     left
     cases hr:kH aF (aH E (ev E s.T) o.op s.H) s.H with
     |none=>rw [hr] at cB;cases cB
     |some p=>
      have⟨v,H'⟩:=p
      rw [hr] at cB
      simp only [bc] at cB
      subst cB
      refine XT hE hF hs.2 (λx=>JG hs.2 hs.1 x) hs.1 hr ?_
      intro V aD w' q1 q2 q3 q4 q5
      exact Ys hE hF l _ s' aD _ w' h ⟨q3,q4⟩ λBj a2 w2 r1 r2 r3=>hQ Bj a2 w2 (q1.trans r1) r2 (q5.trans r3)
end
end
section
theorem HN (d:Nat)(ih:∀v w,fv d v w=true->v=w):∀l m:List Value,fv.jP d l m=true->l=m
 |[],[],_=>rfl
 |[],_::_,h=>by simp [fv.jP] at h
 |_::_,[],h=>by simp [fv.jP] at h
 |v::l,w::m,h=>by
  simp only [fv.jP,jX] at h
  rw [ih v w h.1,HN d ih l m h.2]
theorem HO:∀(d:Nat)(v w:Value),fv d v w=true->v=w
 |0,_,_,h=>by simp [fv] at h
 |d+1,v,w,h=>by
  unfold fv at h
  split at h
  all_goals first
   |(cases h;done)
   |rfl
   |(simp only [jX,gf,rP] at h;simp only [h];done)
   |(simp only [jX,gf] at h
     have⟨⟨h1,h2⟩,h3⟩:=h
     have e2:=HN d (HO d) _ _ h2
     have e3:=HN d (HO d) _ _ h3
     rw [h1,FE.1 e2,FE.1 e3])
   |(have e2:=HN d (HO d) _ _ h
     rw [FE.1 e2])
section
variable {E:Env}
theorem HM {H:aa}{o:Option Value}{r:bV}(h:rv H o=some r):∃v,r=.val v H:=by
 obtain ⟨v,_,rfl⟩:=sM h;exact ⟨v,rfl⟩
theorem IY {e : Operand -> Value}{op : Op}{H : aa}{r : bV}(hl : xr op = false)(h : aH E e op H = some r) : ∃ v, r = .val v H := by
  cases op
  case call c =>
    obtain ⟨callee, args, ts⟩ := c
    cases callee with
    | value f => simp [xr] at hl
    | invoke r n => simp [xr] at hl
    | builtin b =>
      cases b <;> first
        | (simp [xr] at hl; done)
        | (simp only [aH, yp] at h
           first
             | exact HM h
             | (split at h
                · exact HM h
                · cases h))
  all_goals first
    | (simp [xr] at hl; done)
    | (simp only [aH] at h; exact HM h)
    | (simp only [aH] at h; cases h; done)
    | (simp only [aH, bc] at h; exact ⟨_, h.symm⟩)
    | skip
  case makeFunc fn first captured =>
    cases fn <;> simp only [aH] at h <;> first
      | (cases h; done)
      | (simp only [bc] at h; exact ⟨_, h.symm⟩)
  case typeAssert x xt asserted ok =>
    cases ok <;> simp only [aH] at h
    · split at h
      · cases h
      · split at h
        · simp only [bc] at h; exact ⟨_, h.symm⟩
        · cases h
      · cases h
    · cases h
  all_goals
    simp only [aH] at h
    split at h
    all_goals first
      | (cases h; done)
      | (simp only [bc] at h; exact ⟨_, h.symm⟩)
      | exact HM h
      | skip
    all_goals first
      | (split at h
         all_goals first
           | (cases h; done)
           | exact HM h
           | (simp only [bc] at h; exact ⟨_, h.symm⟩)
           | (obtain ⟨n, _, h⟩ := Bg.1 h
              split at h
              · cases h
              · simp only [bc] at h; exact ⟨_, h.symm⟩))
      | (obtain ⟨n, _, h⟩ := Bg.1 h
         split at h
         · first
             | exact HM h
             | (simp only [bc] at h; exact ⟨_, h.symm⟩)
         · cases h)
theorem RH {H:aa}{o:Option Value}{r:bV}(h:rv H o=some r)(H':aa):∃v,r=.val v H/\rv H' o=some (.val v H'):=by
 obtain ⟨v,e,rfl⟩:=sM h;exact ⟨v,rfl,by rw [e];rfl⟩
theorem aph {e : Operand -> Value}{op : Op}{H : aa}{r : bV}(hl : At op = true)(h : aH E e op H = some r)(H' : aa) : ∃ v, r = .val v H /\ aH E e op H' = some (.val v H') := by
  cases op
  all_goals first
    | (simp [At] at hl; done)
    | (simp only [aH] at h ⊢; exact RH h H')
    | (simp only [aH, bc] at h ⊢; exact ⟨_, h.symm, rfl⟩)
    | skip
  case makeFunc fn first captured =>
    cases fn <;> simp only [aH] at h ⊢ <;> first
      | (cases h; done)
      | (simp only [bc] at h; exact ⟨_, h.symm, rfl⟩)
  all_goals
    simp only [aH] at h ⊢
    split at h
    all_goals first
      | (cases h; done)
      | (simp only [bc] at h; exact ⟨_, h.symm, rfl⟩)
      | exact RH h H'
      | skip
    all_goals first
      | (split at h
         all_goals first
           | (cases h; done)
           | exact RH h H'
           | (simp only [bc] at h; exact ⟨_, h.symm, rfl⟩)
           | (obtain ⟨n, hn, h⟩ := Bg.1 h
              split at h
              · cases h
              · rename_i hc
                simp only [bc] at h; exact ⟨_, h.symm, by rw [hn]; simp only [bP]; rw [an hc]⟩))
      | (obtain ⟨n, hn, h⟩ := Bg.1 h
         split at h
         · rename_i hc
           first
             | (obtain ⟨v, h1, h2⟩ := RH h H'
                exact ⟨v, h1, by rw [hn]; simp only [bP]; rw [ar hc]; exact h2⟩)
             | (simp only [bc] at h; exact ⟨_, h.symm, by rw [hn]; simp only [bP]; rw [ar hc]⟩)
         · cases h)
theorem Q1 {b:Bool}{op:Op}(h:eR b op=false):hO b op=xr op:=by
 unfold hO;rw [h];rfl
theorem apV {b:Bool}{op:Op}(h:eR b op=true):hO b op=false:=by
 unfold hO;rw [h];rfl
theorem avq {b:Bool}{op:Op}(h:hO b op=true):eR b op=false:=by
 cases hb:eR b op with
 |false=>rfl
 |true=>rw [apV hb] at h;cases h
theorem apW {b:Bool}{op:Op}(h:eR b op=true):At op=false:=by
 cases op<;>first|rfl|(simp [eR] at h)
theorem N9 {b:Bool}{base i:Nat}{e:Operand->Value}{op:Op}{H:aa}(h:eR b op=false):tD b E base i e op H=aH E e op H:=by
 unfold tD;split
 ·simp [eR] at h
 ·rw [h];rfl
theorem ahj (op:Op):(∃t,op=.alloc t)∨∀t,op≠.alloc t:=by
 cases op<;>first|exact .inl ⟨_,rfl⟩|exact .inr λ_ h=>by cases h
theorem ab4 {e e':Operand->Value}{op:Op}{H:aa}(h:∀x∈op.operands,e x=e' x):aH E e op H=aH E e' op H:=by
 cases op
 case build t parts=>
  have:(parts.map λp=>(p.1,e p.2))=parts.map λp=>(p.1,e' p.2):=Sy λp hp=>by rw [h p.2 (by simp [Op.operands];exact ⟨p.1,hp⟩)]
  simp only [aH,this]
 case buildSlice t len parts=>
  have:(parts.map λp=>(p.1,e p.2))=parts.map λp=>(p.1,e' p.2):=Sy λp hp=>by rw [h p.2 (by simp [Op.operands];exact ⟨p.1,hp⟩)]
  simp only [aH,this]
 case makeFunc fn first captured=>
  have h1:first.map e=first.map e':=Sy λp hp=>h p (by simp [Op.operands,hp])
  have h2:captured.map e=captured.map e':=Sy λp hp=>h p (by simp [Op.operands,hp])
  cases fn<;>simp only [aH,h1,h2]
 case makeMap t r=>
  cases r with
  |none=>rfl
  |some x=>simp only [aH,h x (by simp [Op.operands])]
 case slice t x lo hi mx=>
  have ho:∀(o:Option Operand),(∀y∈o,y∈(Op.slice t x lo hi mx).operands)->o.map e=o.map e':=by
   intro o ho;cases o with
   |none=>rfl
   |some y=>simp only [fa,h y (ho y rfl)]
  simp only [aH,h x (by simp [Op.operands]),ho lo (by intro y hy;cases hy;simp [Op.operands]),ho hi (by intro y hy;cases hy;simp [Op.operands]),ho mx (by intro y hy;cases hy;simp [Op.operands])]
 case typeAssert x a b ok=>cases ok<;>simp only [aH,h x (by simp [Op.operands])]
 case call c=>
  have⟨callee,args,ts⟩:=c;have ha:args.toList.map e=args.toList.map e':=M9 λp hp=>h p (by simp [Op.operands,Call.operands];right;simpa using hp)
  cases callee with
  |value f=>simp only [aH,ha,h f (by simp [Op.operands,Call.operands])]
  |builtin b=>simp only [aH,ha]
  |invoke r n=>rfl
 all_goals first
  |rfl
  |(simp only [aH,h _ (show _∈Op.operands _ by simp [Op.operands])];done)
  |skip
 case move x=>simp only [aH,h x (by simp [Op.operands])]
 case assign x=>simp only [aH,h x (by simp [Op.operands])]
 case box t x=>simp only [aH,h x (by simp [Op.operands])]
 case load t x=>simp only [aH,h x (by simp [Op.operands])]
 case nilCheck x=>simp only [aH,h x (by simp [Op.operands])]
 case unOp o t x=>simp only [aH,h x (by simp [Op.operands])]
 case convert s t x=>simp only [aH,h x (by simp [Op.operands])]
 case makeInterface t x=>simp only [aH,h x (by simp [Op.operands])]
 case fieldAddr t x f=>simp only [aH,h x (by simp [Op.operands])]
 case field t x f=>simp only [aH,h x (by simp [Op.operands])]
 case extract x i=>simp only [aH,h x (by simp [Op.operands])]
 case pick c a b=>simp only [aH,h c (by simp [Op.operands]),h a (by simp [Op.operands]),h b (by simp [Op.operands])]
 case store t a v=>simp only [aH,h a (by simp [Op.operands]),h v (by simp [Op.operands])]
 case binOp op t a v u=>simp only [aH,h a (by simp [Op.operands]),h v (by simp [Op.operands])]
 case makeSlice t a v=>simp only [aH,h a (by simp [Op.operands]),h v (by simp [Op.operands])]
 case indexAddr t a v=>simp only [aH,h a (by simp [Op.operands]),h v (by simp [Op.operands])]
 case index t a v=>simp only [aH,h a (by simp [Op.operands]),h v (by simp [Op.operands])]
 case lookup t a v ok=>simp only [aH,h a (by simp [Op.operands]),h v (by simp [Op.operands])]
 case mapUpdate t a v u=>simp only [aH,h a (by simp [Op.operands]),h v (by simp [Op.operands]),h u (by simp [Op.operands])]
 case insert t a v u=>simp only [aH,h a (by simp [Op.operands]),h v (by simp [Op.operands]),h u (by simp [Op.operands])]
theorem ap5 {e e':Operand->Value}{op:Op}(h:∀x∈op.operands,e x=e' x):sh E e op=sh E e' op:=by
 unfold sh;rw [ab4 h]
theorem Hb:∀(l:List Oper)(acc:List Nat),∃m,iM l acc=acc++m/\m.length=l.length
 |[],acc=>⟨[],by simp [iM],rfl⟩
 |o::l,acc=>by
  have⟨m,h1,h2⟩:=Hb l (acc++[Cp acc o])
  exact ⟨Cp acc o::m,by simp [iM,h1],by simp [h2]⟩
theorem Xt:∀(l:List Oper)(acc:List Nat)(j:Nat)(o:Oper),l[j]? =some o->(iM l acc)[acc.length+j]? =some (Cp ((iM l acc).take (acc.length+j)) o)
 |[],_,j,o,h=>by simp at h
 |o'::l,acc,j,o,h=>by
  cases j with
  |zero=>
   simp only [List.getElem?_cons_zero,bc] at h
   subst h
   simp only [iM]
   have⟨m,h1,h2⟩:=Hb l (acc++[Cp acc o'])
   rw [h1]
   simp
  |succ j=>
   simp only [List.getElem?_cons_succ] at h
   have:=Xt l (acc++[Cp acc o']) j o h
   simp only [e_,gU,nM,cG] at this
   simp only [iM]
   rw [show acc.length+(j+1)=acc.length+1+j from by omega]
   exact this
theorem aiA (acc:List Nat)(o:Oper)(i:Nat)(h:(Cp acc o).testBit i=true):∃e∈o.after.toList,vQ e=true/\(e.on=i∨(acc.getD e.on 0).testBit i=true):=by
 unfold Cp at h;have key:∀(l:List Edge)(s:Nat),(l.foldl (λs e=>bif vQ e then s|||2 ^ e.on|||acc.getD e.on 0 else s) s).testBit i=true->s.testBit i=true∨∃e∈l,vQ e=true/\(e.on=i∨(acc.getD e.on 0).testBit i=true):=by
  intro l
  induction l with
  |nil=>intro s h;exact .inl h
  |cons e l ih=>
   intro s h;simp only [List.foldl_cons] at h;rcases ih _ h with h|⟨e',h1,h2⟩
   ·cases hb:vQ e with
    |false=>rw [hb] at h;exact .inl h
    |true=>
     rw [hb] at h;simp only [bQ,Nat.testBit_or,Nn] at h;rcases h with (h|h)|h
     ·exact .inl h
     ·right;refine ⟨e,by simp,hb,.inl ?_⟩;rw [Nat.testBit_two_pow] at h;simpa using h
     ·exact .inr ⟨e,by simp,hb,.inr h⟩
   ·exact .inr ⟨e',by simp [h1],h2⟩
 rcases key _ _ h with h|h
 ·simp at h
 ·exact h
def SS (ops:Array Oper)(L:Nat->Bool):Prop:=∀j o,L j=true->ops[j]? =some o->∀e∈o.after.toList,vQ e=true->L e.on=true
theorem aey {ops:Array Oper}{L:Nat->Bool}(hc:SS ops L):∀(j:Nat)(o:Oper),ops[j]? =some o->L j=true->∀i,((iM ops.toList []).getD j 0).testBit i=true->L i=true:=by
 intro j
 induction j using Nat.strongRecOn with
 |_ j ih=>
  intro o ho hL i hi;have hg:=Xt ops.toList [] j o (by simpa using ho);simp only [nM,cG] at hg;rw [gu,hg] at hi;simp only [zr] at hi;have⟨e,he,hb,mQ⟩:=aiA _ _ _ hi;have hLe:=hc j o hL ho e he hb;rcases mQ with rfl|jI
  ·exact hLe
  ·rw [gu,Be] at jI;split at jI
   ·rename_i aE;cases WH:ops[e.on]? with
    |none=>
     have:(iM ops.toList [])[e.on]? =none:=by
      have⟨m,h1,h2⟩:=Hb ops.toList [];rw [h1,rQ,ji];rw [h2,uA];rcases iY e.on ops.size with h|h
      ·rw [zx h] at WH;cases WH
      ·exact h
     rw [this] at jI;simp at jI
    |some o'=>exact ih e.on aE o' WH hLe i (by rw [gu];exact jI)
   ·simp at jI
def aa1 (bm:Bool)(ops:Array Oper)(x y:Oper)(i m:Nat):Prop:=m.testBit i=true∨(Oper.apart ops x y=true/\¬(hO bm x.op=true/\hO bm y.op=true))
theorem XY {bm:Bool}{ops:Array Oper}:∀(l:List (Oper×Nat)),Rd bm ops l=true->∀(j:Nat)(p:Oper×Nat),l.reverse[j]? =some p->
  (∀i q,i<j->l.reverse[i]? =some q->aa1 bm ops q.1 p.1 i p.2)/\(∀e∈p.1.after.toList,vQ e=true->e.on<j)
 |[],_,j,p,h=>by simp at h
 |(o,m)::l,cF,j,p,h=>by
  simp only [Rd,jX] at cF;have⟨⟨h1,h2⟩,h3⟩:=cF;simp only [SJ] at h⊢;by_cases hj:j<l.length
  ·rw [uB (by simpa using hj)] at h;have⟨a,b⟩:=XY l h3 j p h;refine ⟨λi q hi hq=>a i q hi ?_,b⟩
   rwa [uB (by simp;omega)] at hq
  ·rw [ya (by simp;omega)] at h;simp only [List.length_reverse] at h;have Kq:j - l.length=0:=by
    rcases Nc (j - l.length) with h'|h'
    ·exact h'
    ·rw [ji (by simp;omega)] at h;cases h
   rw [Kq] at h;simp only [List.getElem?_cons_zero,bc] at h;subst h;have u0:j=l.length:=by omega
   subst u0;refine ⟨λi q hi hq=>?_,λe he hb=>?_⟩
   ·rw [uB (by simpa using hi),List.getElem?_reverse hi] at hq;rw [qU] at h1;have hm:(q,l.length - 1 - i)∈l.zipIdx:=by
     rw [amH];exact hq
    have:=h1 _ hm
    simp only at this;rw [show l.length - 1 - (l.length - 1 - i)=i from by omega] at this;simp only [Nn,jX,Dd,Bool.and_eq_false_imp] at this;rcases this with h|⟨ha,hb⟩
    ·exact .inl h
    ·exact .inr ⟨ha,λ⟨c,d⟩=>by rw [hb c] at d;cases d⟩
   ·rw [qU] at h2
    have:=h2 e he
    simp only [hb,Ii,Bool.false_or,Nat.ble_eq] at this;exact this
theorem MB {bm:Bool}{ops:Array Oper}(h:pW bm ops=true){i j:Nat}{x y:Oper}(hi:ops[i]? =some x)(hj:ops[j]? =some y)(Wj:i<j) :
  aa1 bm ops x y i ((iM ops.toList []).getD j 0):=by
 unfold pW at h;have⟨m,h1,h2⟩:=Hb ops.toList [];rw [rQ] at h1;have B6:∀k z,ops[k]? =some z->((ops.toList.zip (iM ops.toList [])).reverse.reverse)[k]? =some (z,(iM ops.toList []).getD k 0):=by
  intro k z hk;rw [List.reverse_reverse,List.getElem?_zip_eq_some];refine ⟨by simpa using hk,?_⟩;have aE:k<(iM ops.toList []).length:=by
   rw [h1,h2,uA];rcases iY k ops.size with h|h
   ·exact h
   ·rw [tg h] at hk;cases hk
  rw [gu,cM aE];rfl
 exact (XY _ h j _ (B6 j y hj)).1 i _ Wj (B6 i x hi)
theorem ak8 {bm:Bool}{ops:Array Oper}(h:pW bm ops=true){j:Nat}{y:Oper}(hj:ops[j]? =some y):∀e∈y.after.toList,vQ e=true->e.on<j:=by
 unfold pW at h;have⟨m,h1,h2⟩:=Hb ops.toList [];rw [rQ] at h1;have B6:((ops.toList.zip (iM ops.toList [])).reverse.reverse)[j]? =some (y,(iM ops.toList []).getD j 0):=by
  rw [List.reverse_reverse,List.getElem?_zip_eq_some];refine ⟨by simpa using hj,?_⟩;have aE:j<(iM ops.toList []).length:=by
   rw [h1,h2,uA];rcases iY j ops.size with h|h
   ·exact h
   ·rw [tg h] at hj;cases hj
  rw [gu,cM aE];rfl
 exact (XY _ h j _ B6).2
end
end
section
section
variable {E:Env} {bm:Bool}
def vg (L:Nat->Bool)(t:Nat):List DR->Option Value
 |[]=>none
 |r::rest=>if L r.i=true/\r.o.dst=some t then some r.v else vg L t rest
noncomputable def TL (T0:Tr Value)(L:Nat->Bool):List DR->Tr Value
 |[]=>T0
 |r::rest=>bif L r.i then jt (TL T0 L rest) r.o.dst r.v else TL T0 L rest
theorem q6 (T0:Tr Value)(L:Nat->Bool)(t:Nat):∀rs,(TL T0 L rs).get t=(T0.get t).map λv=>(vg L t rs).getD v
 |[]=>by simp [TL,vg]
 |r::rest=>by
  simp only [TL,vg]
  cases hL:L r.i with
  |false=>simp [q6 T0 L t rest]
  |true=>
   cases hd:r.o.dst with
   |none=>simp [jt,q6 T0 L t rest]
   |some d=>
    simp only [bQ,jt,Tr.D7,q6 T0 L t rest]
    by_cases e:t=d
    ·subst e;simp;cases T0.get t<;>rfl
    ·rw [an e,an (by simp;exact λh=>e h.symm)]
theorem KX {L L':Nat->Bool}{t:Nat}:∀{rs:List DR},(∀r∈rs,r.o.dst=some t->L r.i=L' r.i)->vg L t rs=vg L' t rs
 |[],_=>rfl
 |r::rest,h=>by
  simp only [vg]
  rw [KX λq hq=>h q (by simp [hq])]
  by_cases hd:r.o.dst=some t
  ·rw [h r (by simp) hd]
  ·rw [an (by simp [hd]),an (by simp [hd])]
structure Fact (bm:Bool)(E:Env)(aF:fp)(ops:Array Oper)(base:Nat)(T0:Tr Value)(rs:List DR)(hs:List aa)(r:DR):Prop where
 op:ops[r.i]? =some r.o
 Fg:∀t,r.T.get t=(TL T0 (λx=>decide (x<r.i)) rs).get t
 want:lg ops r.T r.o=some r.w
 idle:r.w=false->r.v=undef
 tH:r.w=true->∃H1 H2,hs[r.k]? =some H1/\kH aF (tD bm E base r.i (ev E r.T) r.o.op H1) H1=some (r.v,H2)/\(hO bm r.o.op=true->hs[r.k+1]? =some H2)
 ay:r.k=fU bm (λq=>decide (q.i<r.i)) rs
structure IF (bm:Bool)(E:Env)(aF:fp)(ops:Array Oper)(base:Nat)(T0:Tr Value)(H0:aa)(i:Nat)(T:Tr Value)(H:aa)(k:Nat)(rs:List DR)(hs:List aa):Prop where
 idx:rs.map DR.i=(List.range i).reverse
 facts:∀r∈rs,Fact bm E aF ops base T0 rs hs r
 Fg:∀t,T.get t=(TL T0 (λ_=>true) rs).get t
 hlen:hs.length=k+1
 cur:hs[k]? =some H
 ay:k=fU bm (λ_=>true) rs
 first:hs[0]? =some H0
theorem DP {p q:DR->Bool}:∀{rs:List DR},(∀r∈rs,r.ny bm=true->p r=q r)->fU bm p rs=fU bm q rs
 |[],_=>rfl
 |r::rest,h=>by
  have ih:=DP (rs:=rest) λx hx=>h x (jh _ hx)
  have:=h r (by simp)
  simp only [fU,ih]
  cases hl:r.ny bm with
  |false=>simp
  |true=>rw [this hl]
theorem aeA {p q:DR->Bool}:∀{rs:List DR},(∀r∈rs,r.ny bm=true->p r=true->q r=true)->fU bm p rs<=fU bm q rs
 |[],_=>bq _
 |r::rest,h=>by
  have ih:=aeA (rs:=rest) λx hx=>h x (jh _ hx)
  have:=h r (by simp)
  simp only [fU]
  cases hl:r.ny bm<;>cases hp:p r<;>cases hq:q r<;>simp_all<;>omega
theorem aez {p q:DR->Bool}:∀{rs:List DR},(∀r∈rs,r.ny bm=true->¬(p r=true/\q r=true))->fU bm p rs+fU bm q rs<=fU bm (λ_=>true) rs
 |[],_=>bq _
 |r::rest,h=>by
  have ih:=aez (rs:=rest) λx hx=>h x (jh _ hx)
  have:=h r (by simp)
  simp only [fU]
  cases hl:r.ny bm<;>cases hp:p r<;>cases hq:q r<;>simp_all<;>omega
theorem IF.step {aF:fp}{ops:Array Oper}{base:Nat}{T0:Tr Value}{H0:aa}{i:Nat}{T:Tr Value}{H:aa}{k:Nat}{rs:List DR}{hs:List aa}(h:IF bm E aF ops base T0 H0 i T H k rs hs)
  {o:Oper}(ho:ops[i]? =some o){b:Bool}(hw:lg ops T o=some b){v:Value}{H':aa}{kf:List aa}{k':Nat}
  (ath:b=false->v=undef)(hdo:b=true->∃H2,kH aF (tD bm E base i (ev E T) o.op H) H=some (v,H2)/\(hO bm o.op=true->H2=H'))
  (Kn:(b=true/\hO bm o.op=true/\kf=hs++[H']/\k'=k+1)∨((b=false∨hO bm o.op=false)/\kf=hs/\k'=k/\H'=H)) :
  IF bm E aF ops base T0 H0 (i+1) (jt T o.dst v) H' k' (⟨i,o,b,T,v,k⟩::rs) kf:=by
 have qB:∀r∈rs,r.i<i:=by
  intro r hr
  have:r.i∈rs.map DR.i:=SB hr
  rw [h.idx] at this;simpa using this
 have kT:∀(n:Nat)(x:aa),hs[n]? =some x->kf[n]? =some x:=by
  intro n x hx;have hn:n<hs.length:=by
   rcases iY n hs.length with h|h
   ·exact h
   ·rw [ji h] at hx;cases hx
  rcases Kn with ⟨_,_,e,_⟩|⟨_,e,_⟩
  ·rw [e,uB hn];exact hx
  ·rw [e];exact hx
 have af5:∀(j:Nat),j<=i->∀t,(TL T0 (λx=>decide (x<j)) (⟨i,o,b,T,v,k⟩::rs)).get t=(TL T0 (λx=>decide (x<j)) rs).get t:=by
  intro j hj t;simp only [TL];rw [show decide (i<j)=false from by simp;omega];rfl
 have agh:∀(j:Nat),j<=i->fU bm (λq=>decide (q.i<j)) (⟨i,o,b,T,v,k⟩::rs)=fU bm (λq=>decide (q.i<j)) rs:=by
  intro j hj;simp only [fU];rw [show decide (i<j)=false from by simp;omega];simp
 refine ⟨?_,?_,?_,?_,?_,?_,?_⟩
 ·simp only [lL,h.idx,No,aav,SJ,aaF,rQ,rR]
 ·intro r hr;rcases dU.1 hr with rfl|hr
  ·refine ⟨ho,λt=>?_,hw,ath,λhb=>?_,?_⟩
   ·rw [af5 i (bq _) t,h.Fg t];have e1:=q6 T0 (λ_=>true) t rs;have e2:=q6 T0 (λx=>decide (x<i)) t rs;rw [e1,e2,KX (L:=λ_=>true) (L':=λx=>decide (x<i)) λq hq _=>by simp [qB q hq]]
   ·have⟨H2,q1,q2⟩:=hdo hb;refine ⟨H,H2,kT _ _ h.cur,q1,λhl=>?_⟩;rw [q2 hl];rcases Kn with ⟨_,_,e,_⟩|⟨mQ,_⟩
    ·rw [e,ya (by simp only;rw [h.hlen];exact bq _),h.hlen];simp
    ·rcases mQ with mQ|mQ
     ·simp only at hb;rw [mQ] at hb;cases hb
     ·rw [mQ] at hl;cases hl
   ·rw [agh i (bq _)];rw [h.ay];exact DP λq hq _=>by simp [qB q hq]
  ·have f:=h.facts r hr;have GW:=qB r hr;refine ⟨f.op,λt=>?_,f.want,f.idle,λhb=>?_,?_⟩
   ·rw [af5 r.i (by omega) t];exact f.Fg t
   ·have⟨H1,H2,q1,q2,q3⟩:=f.tH hb;exact ⟨H1,H2,kT _ _ q1,q2,λhl=>kT _ _ (q3 hl)⟩
   ·rw [agh r.i (by omega)];exact f.ay
 ·intro t;simp only [TL,bQ];cases hd:o.dst with
  |none=>exact h.Fg t
  |some d=>simp only [jt,Tr.D7,h.Fg t]
 ·rcases Kn with ⟨_,_,e,e2⟩|⟨_,e,e2,_⟩
  ·rw [e,e2];simp [h.hlen]
  ·rw [e,e2];exact h.hlen
 ·rcases Kn with ⟨_,_,e,e2⟩|⟨_,e,e2,e3⟩
  ·rw [e,e2,ya (by rw [h.hlen];exact bq _),h.hlen];simp
  ·rw [e,e2,e3];exact h.cur
 ·simp only [fU,DR.ny,Bool.and_true,<-h.ay];rcases Kn with ⟨e1,e2,_,e3⟩|⟨mQ,_,e3,_⟩
  ·rw [e1,e2,e3];rfl
  ·rw [e3];rcases mQ with mQ|mQ<;>rw [mQ]<;>simp
 ·exact kT 0 H0 h.first
theorem Rf {aF:fp}{ops:Array Oper}{base:Nat}{T0:Tr Value}{H0:aa}:∀(l:List Oper)(i:Nat)(T:Tr Value)(H:aa)(k:Nat)(rs:List DR)(hs:List aa)(oP:List DR)(T':Tr Value)(kf:List aa)(H':aa),
  oN bm E aF ops base l i T H k rs hs=some (oP,T',kf,H')->(∀j,l[j]? =ops[i+j]?)->IF bm E aF ops base T0 H0 i T H k rs hs->∃k',IF bm E aF ops base T0 H0 (i+l.length) T' H' k' oP kf
 |[],i,T,H,k,rs,hs,oP,T',kf,H',h,_,hI=>by
  simp only [oN,bc,iF] at h;obtain ⟨rfl,rfl,rfl,rfl⟩:=h;exact ⟨k,hI⟩
 |o::l,i,T,H,k,rs,hs,oP,T',kf,H',h,hl,hI=>by
  have ho:ops[i]? =some o:=by have:=hl 0;simpa using this.symm
  have ct:∀j,l[j]? =ops[i+1+j]? :=λj=>by have:=hl (j+1);rw [show i+1+j=i+(j+1) from by omega];simpa using this
  have hlen:i+(o::l).length=i+1+l.length:=by simp;omega
  simp only [oN] at h;rw [hlen];cases hw:lg ops T o with
  |none=>rw [hw] at h;cases h
  |some b=>
   rw [hw] at h;cases b with
   |false=>exact Rf l _ _ _ _ _ _ _ _ _ _ h ct (hI.step ho hw (λ_=>rfl) (λe=>by cases e) (.inr ⟨.inl rfl,rfl,rfl,rfl⟩))
   |true=>
    simp only at h;cases hr:kH aF (tD bm E base i (ev E T) o.op H) H with
    |none=>rw [hr] at h;cases h
    |some p=>
     have⟨v,H2⟩:=p;rw [hr] at h;simp only at h;cases qA:hO bm o.op with
     |true=>
      rw [qA] at h;exact Rf l _ _ _ _ _ _ _ _ _ _ h ct (hI.step ho hw (λe=>by cases e) (λ_=>⟨H2,hr,λ_=>rfl⟩) (.inl ⟨rfl,qA,rfl,rfl⟩))
     |false=>
      rw [qA] at h;exact Rf l _ _ _ _ _ _ _ _ _ _ h ct (hI.step ho hw (λe=>by cases e) (λ_=>⟨H2,hr,λe=>by rw [qA] at e;cases e⟩) (.inr ⟨.inr qA,rfl,rfl,rfl⟩))
def Lf (cC:Array Bool)(j:Nat):Bool:=cC.getD j false
theorem anS {cC:Array Bool}{i:Nat}(hi:i<cC.size)(j:Nat):Lf (cC.setIfInBounds i true) j=(Lf cC j||decide (j=i)):=by
 unfold Lf;rw [Bi,Bi,amG];by_cases e:i=j
 ·subst e;simp [hi]
 ·rw [an e];simp [show ¬j=i from λh=>e h.symm]
theorem akz {ops:Array Oper}{cC:Array Bool}{i:Nat}(h:i∈Region.ready .any ops cC):∃o,ops[i]? =some o/\(i<cC.size->Lf cC i=false)/\i<ops.size/\∀e∈o.after.toList,vQ e=true->Lf cC e.on=true:=by
 unfold Region.ready at h;simp only [wL,Ie,jX] at h;have⟨hi,h1,h2⟩:=h;rw [zx hi] at h2⊢;refine ⟨ops[i],rfl,λhl=>?_,hi,λe he hb=>?_⟩
 ·unfold Lf;rw [Bi,zx hl] at *;simpa using h1
 ·simp only [fa,zr] at h2;rw [<-Array.all_toList,qU] at h2
  have:=h2 e he
  simp only [Nn,Dd] at this;rcases this with h|h
  ·unfold vQ at hb;rw [h] at hb;cases hb
  ·exact h
theorem awN {ops:Array Oper}{cC:Array Bool}{i:Nat}{o:Oper}(ho:ops[i]? =some o)(hs:cC.size=ops.size)(hl:Lf cC i=false)(he:∀e∈o.after.toList,vQ e=true->Lf cC e.on=true) :
  i∈Region.ready .any ops cC:=by
 have hi:i<ops.size:=by
  rcases iY i ops.size with h|h
  ·exact h
  ·rw [tg h] at ho;cases ho
 unfold Region.ready;simp only [wL,Ie,jX];refine ⟨hi,?_,?_⟩
 ·unfold Lf at hl;rw [Bi,zx (by omega)] at *;simpa using hl
 ·rw [ho];simp only [fa,zr];rw [<-Array.all_toList,qU];intro e hee;cases hb:Region.binds .any e with
  |false=>rfl
  |true=>exact he e hee hb
theorem Yd {base:Nat}{ss:List Bool}{ms:List Nat}{all:List DR}{hs:List aa}{m:Nat}:∀{l:List DR},CQ bm E base ss ms all hs m l=true->∀r∈l,r.w=true->hO bm r.o.op=false->At r.o.op=false->(ss.getD r.i false&& !eR bm r.o.op)=false->
  ∀k,fU bm (λq=>(ms.getD r.i 0).testBit q.i) all<=k->k<=m - fU bm (λq=>(ms.getD q.i 0).testBit r.i) all->
   ∃H,hs[k]? =some H/\looksAt bm E base r H=true
 |[],_,r,hr,_,_,_,_,_,_,_=>by simp at hr
 |q::l,h,r,hr,hw,hl,hp,yR,k,h1,h2=>by
  simp only [CQ,jX] at h;rcases dU.1 hr with rfl|hr
  ·have h3:=h.1;simp only [hw,hl,hp,yR,Ii,Bool.false_or,Nr] at h3;have key:∀(n k0:Nat),F6 bm E base r hs k0 n=true->k0<=k->k<k0+n->∃H,hs[k]? =some H/\looksAt bm E base r H=true:=by
    intro n
    induction n with
    |zero=>intro k0 _ a b;omega
    |succ n ih=>
     intro k0 hc a b;simp only [F6,jX] at hc;by_cases e:k0=k
     ·subst e;have h5:=hc.1;split at h5
      ·rename_i H hH;exact ⟨H,hH,h5⟩
      ·cases h5
     ·exact ih (k0+1) hc.2 (by omega) (by omega)
   exact key _ _ h3 h1 (by omega)
  ·exact Yd h.2 r hr hw hl hp yR k h1 h2
theorem axZ {ops:Array Oper}{ms:List Nat}{j:Nat}(h:(Fa bm ops ms).getD j false=true){i:Nat}{o:Oper}(hi:ops[i]? =some o)(aW:i≠j)(hl:hO bm o.op=true) :
  (ms.getD j 0).testBit i=true∨(ms.getD i 0).testBit j=true:=by
 unfold Fa at h;rw [gu,jg] at h;cases hr:(List.range ops.size)[j]? with
 |none=>rw [hr] at h;cases h
 |some k=>
  rw [hr] at h;have hk:k=j:=by
   rw [List.getElem?_range (by
    rcases iY j ops.size with h'|h'
    ·exact h'
    ·rw [ji (by simpa using h')] at hr;cases hr)] at hr
   injection hr with hr;exact hr.symm
  subst hk;simp only [fa,zr,alb,qU] at h;have hm:(o,i)∈ops.toList.zipIdx:=by
   rw [amH];simpa using hi
  have:=h _ hm
  simp only [hl,Ii,Nr,Nn] at this;rcases this with (h1|h1)|h1
  ·exact absurd (nN h1) aW
  ·exact .inl h1
  ·exact .inr h1
theorem avo {base:Nat}{r:DR}{H:aa}(hn:eR bm r.o.op=false)(h:looksAt bm E base r H=true):∃v H2,aH E (ev E r.T) r.o.op H=some (.val v H2)/\fv 8 r.v v=true:=by
 unfold looksAt at h;split at h
 ·rename_i ty bB;rw [bB] at hn;simp [eR] at hn
 ·rw [hn] at h;simp only [cQ] at h;split at h
  ·rename_i v H2 hv;exact ⟨v,H2,hv,h⟩
  ·cases h
theorem axy {o o':Obj}(h:AO o o'=true):o=o':=by
 unfold AO at h;split at h
 ·simp only [jX] at h;rw [nN h.1,HN 8 (HO 8) _ _ h.2]
 ·rfl
 ·cases h
theorem Kh (o:Obj):(uY.new o).get 0=some o:=by
 unfold aa.get aa.new uY;rw [Tr.yC,ar rfl]
theorem ap7 {e:Operand->Value}{ty:TypeId}{z:Value}{vs:List Value}(hz:zeroV E ty=some z)(hc:cellsOf z=some vs):sh E e (.alloc ty)=some (.pointer (some ⟨0,0,none⟩),.cells true 0 vs):=by
 simp only [sh,aH,hz,bP,uk,hc,fa,sN,Kh];rfl
theorem avn {base:Nat}{r:DR}{H:aa}(hb:eR bm r.o.op=true)(h:looksAt bm E base r H=true) :
  ∃v o,sh E (ev E r.T) r.o.op=some (v,o)/\H.get (base+r.i)=some o:=by
 unfold looksAt at h;split at h
 ·rename_i ty bB;cases hz:zeroV E ty with
  |none=>rw [hz] at h;simp at h
  |some z=>
   rw [hz] at h;simp only [bP] at h;cases hc:cellsOf z with
   |none=>rw [hc] at h;simp at h
   |some vs=>
    rw [hc] at h;split at h
    ·rename_i a b c e1 e2;injection e1 with e1;subst e1
     have e3:=HN 8 (HO 8) _ _ h;subst e3;rw [bB];exact ⟨_,_,ap7 hz hc,e2⟩
    ·cases h
 ·rw [hb] at h;simp only [bQ] at h;split at h
  ·rename_i p o h1 h2;rw [<-axy h] at h2;exact ⟨p.1,p.2,h1,h2⟩
  ·cases h
theorem Rm (base:Nat):∀(l:List Oper)(i:Nat)(os:List Obj)(t t':Tr Obj),vp bm E base l i os t=some t'->∀j,j<base->t'.get j=t.get j
 |[],i,os,t,t',h,j,hj=>by simp only [vp,bc] at h;rw [h]
 |o::l,i,os,t,t',h,j,hj=>by
  unfold vp at h
  split at h
  ·split at h
   ·rw [Rm base l _ _ _ _ h j hj,Tr.yC,an (by omega)]
   ·cases h
  ·cases hb:eR bm o.op with
   |false=>rw [hb] at h;exact Rm base l _ _ _ _ h j hj
   |true=>
    rw [hb] at h
    simp only [bQ] at h
    cases os with
    |nil=>cases h
    |cons ob os=>rw [Rm base l _ _ _ _ h j hj,Tr.yC,an (by omega)]
theorem aO.pre {B0:Nat}{μ:aJ}{H:aa}{w:World}(h:aO E B0 μ H w){t:Tr Obj}(n:Nat)(hg:∀j,j<H.next->t.get j=H.get j):aO E B0 μ ⟨t,H.next+n⟩ w:=by
 have aE:∀i L,μ i=some L->i<H.next:=by
  intro i L hL;rcases iY i H.next with h1|h1
  ·exact h1
  ·rw [h.fresh i h1] at hL;cases hL
 refine ⟨λi hi=>h.fresh i (by simp only at hi;omega),h.rj,?_,?_,h.base⟩
 ·intro i o ho ⟨L,hL⟩
  have:t.get i=some o:=ho
  rw [hg i (aE i L hL)] at this;exact h.obj i o this ⟨L,hL⟩
 ·intro i j oi oj Li Lj hi hj wi wj mi mj hb;have h1:t.get i=some oi:=hi;have h2:t.get j=some oj:=hj;rw [hg i (aE i Li mi)] at h1;rw [hg j (aE j Lj mj)] at h2;exact h.apart i j oi oj Li Lj h1 h2 wi wj mi mj hb
theorem aO.alj {B0:Nat}{μ:aJ}{H:aa}{w:World}(hH:aO E B0 μ H w){d z:Nat}{c:List Value}(hd:μ d=none)(gH:d<H.next)(hg:H.get d=some (.cells true z c))(room:Nat)(C:Array Value)(el:TypeId)
  (hc:nc μ c C 0)(h1:c.length<=room)(h2:room<=C.size)(u6:c.all one=true) :
  aO E B0 (μ.add d ⟨w.heap.size,0,room,z⟩) H (w.alloc (.cells C el))/\Below B0 w (w.alloc (.cells C el)):=by
 refine ⟨(hH.alloc _).N2 d _ (.cells true z c) hd (λj=>?_) (bq _) gH ?_ ?_,(Below.refl _ _).alloc hH.base _⟩
 ·split
  ·subst_vars;exact hg
  ·rfl
 ·intro i oi Li hi hw hm;have⟨K,k1,k3⟩:=(hH.obj i oi hi ⟨_,hm⟩).P9 (hw.elim (λh=>h.2) λh=>B4 h.1);rw [hm] at k1;injection k1 with k1
  subst k1;exact λe=>by simp only at e;omega
 ·exact ⟨_,C,el,aJ.r_ _ _ _,hH.base,rfl,P8 _ _,h1,by simpa using h2,hc.mono (aJ.Au _ hd),u6⟩
theorem aO.ax3 {B0:Nat}{μ:aJ}{H:aa}{w:World}(hH:aO E B0 μ H w){d:Nat}(hd:μ d=none)(gH:d<H.next)(hg:H.get d=some (.map [] 0)) :
  aO E B0 (μ.add d ⟨w.heap.size,0,0,0⟩) H (w.alloc (.map #[] 0))/\Below B0 w (w.alloc (.map #[] 0)):=by
 refine ⟨(hH.alloc _).N2 d _ (.map [] 0) hd (λj=>?_) (bq _) gH ?_ ?_,(Below.refl _ _).alloc hH.base _⟩
 ·split
  ·subst_vars;exact hg
  ·rfl
 ·intro i oi Li hi hw hm;have⟨K,k1,k3⟩:=(hH.obj i oi hi ⟨_,hm⟩).P9 (hw.elim (λh=>h.2) λh=>B4 h.1);rw [hm] at k1;injection k1 with k1
  subst k1;exact λe=>by simp only at e;omega
 ·exact ⟨_, #[],aJ.r_ _ _ _,hH.base,P8 _ _,.nil⟩
theorem adZ {e:Operand->Value}{op:Op}{v:Value}{o:Obj}(h:sh E e op=some (v,o)):∃H,aH E e op uY=some (.val v H)/\H.get 0=some o:=by
 unfold sh at h;split at h
 ·rename_i v' H h1;cases hg:H.get 0 with
  |none=>rw [hg] at h;cases h
  |some o'=>
   rw [hg] at h;simp only [fa,bc,iF] at h;obtain ⟨rfl,rfl⟩:=h;exact ⟨H,h1,hg⟩
 ·cases h
theorem FT.at {B0:Nat}{μ:aJ}{H:aa}{w:World}{s:Sem Value}{v:Value}{o:Obj}{H1:aa}(hm:FT E μ w uY s v H1)(ho:H1.get 0=some o)(hH:aO E B0 μ H w){d:Nat}(hd:μ d=none)(gH:d<H.next)(hg:H.get d=some o) :
  ∃L V w',s.run E.prog w=.ok V w'/\aL (μ.add d L) (zQ d v) V/\aO E B0 (μ.add d L) H w'/\Below B0 w w':=by
 have⟨es,len,c,C,el,cap,h1,h2,h3,h4,h5,h6,h7⟩:=hm;have ev:v=.slice (some ⟨uY.next,0,none⟩) len 0:=(Prod.mk.inj h1).1;have eH:H1=uY.new (.cells true es c):=(Prod.mk.inj h1).2;rw [eH,Kh] at ho;injection ho with ho
 subst ho;have⟨q1,q2⟩:=hH.alj hd gH hg C.size C el h3 h4 (bq _) h5;refine ⟨_,_,_,h2,?_,q1,q2⟩;rw [ev];exact .slice (L:=⟨w.heap.size,0,C.size,es⟩) (aJ.r_ _ _ _) h6 (.inr (by simp only [cG];exact h7.symm))
theorem ajU {B0:Nat}{μ:aJ}{H:aa}{w:World}(hH:aO E B0 μ H w){v V p:Value}{H1:aa}{o:Obj}(hv:aL μ v V)(h:uk uY v=some (p,H1))(ho:H1.get 0=some o){d:Nat}(hd:μ d=none)(gH:d<H.next)(hg:H.get d=some o)(t:TypeId) :
  ∃L,(newVar t V).run E.prog w=.ok ⟨w.heap.size,0,none⟩ (w.alloc (.cells V.cells t))/\aL (μ.add d L) (zQ d p) (.pointer (some ⟨w.heap.size,0,none⟩))/\aO E B0 (μ.add d L) H (w.alloc (.cells V.cells t))/\Below B0 w (w.alloc (.cells V.cells t)):=by
 unfold uk at h;cases hc:cellsOf v with
 |none=>rw [hc] at h;cases h
 |some vs=>
  rw [hc] at h;simp only [fa,bc,iF] at h;obtain ⟨rfl,rfl⟩:=h;rw [Kh] at ho;injection ho with ho
  subst ho;have hr:=Ol hc hv;have⟨k2,k3⟩:=hH.alj hd gH hg V.cells.size V.cells t (Om hr) (by rw [hr.length];simp) (bq _) (Jv hc);exact ⟨⟨w.heap.size,0,V.cells.size,0⟩,by simp [newVar,newRow],.ptr (L:=⟨w.heap.size,0,V.cells.size,0⟩) (aJ.r_ _ _ _),k2,k3⟩
theorem ap6 (hE:E.Ok){B0:Nat}{μ:aJ}{H:aa}{w:World}(hH:aO E B0 μ H w){o:Oper}(hb:eR bm o.op=true){e e':Operand->Value}(he:∀x,aL μ (e x) (e' x)){v:Value}{ob:Obj}(h:sh E e o.op=some (v,ob))
  {d:Nat}(hd:μ d=none)(gH:d<H.next)(hg:H.get d=some ob) :
  ∃L V w',(execOp e' o).run E.prog w=.ok (.value V) w'/\aL (μ.add d L) (zQ d v) V/\aO E B0 (μ.add d L) H w'/\Below B0 w w':=by
 have⟨H1,h1,h2⟩:=adZ h;have⟨dst,op,ty',pos,aft,grd⟩:=o;simp only at hb h1⊢;cases op
 case alloc t=>
  simp only [aH] at h1;cases hz:zeroV E t with
  |none=>rw [hz] at h1;cases h1
  |some z=>
   rw [hz] at h1;have⟨u,H2,e1,e2⟩:=sO h1;injection e2 with e2 e3
   subst e2 e3;have⟨hr,hp⟩:=HL hE hz w;have⟨L,q1,q2,q3,q4⟩:=ajU hH (EM hp) e1 h2 hd gH hg t;exact ⟨L,_,_,by simp [execOp,Instr.alloc,hr,q1],q2,q3,q4⟩
 case box t x=>
  simp only [aH] at h1;have⟨u,H2,e1,e2⟩:=sO h1;injection e2 with e2 e3
  subst e2 e3;have⟨L,q1,q2,q3,q4⟩:=ajU hH (he x) e1 h2 hd gH hg t;exact ⟨L,_,_,by simp [execOp,Instr.box,q1],q2,q3,q4⟩
 case buildSlice t len parts=>
  simp only [aH] at h1;have⟨u,H2,e1,e2⟩:=sO h1;injection e2 with e2 e3
  subst e2 e3;have⟨L,V,w',q1,q2,q3,q4⟩:=(ad1 hE w he e1).at h2 hH hd gH hg;exact ⟨L,V,w',by simp [execOp,q1],q2,q3,q4⟩
 case makeSlice t l c=>
  simp only [aH] at h1;have⟨u,H2,e1,e2⟩:=sO h1;injection e2 with e2 e3
  subst e2 e3;have⟨L,V,w',q1,q2,q3,q4⟩:=(ais hE w (he l) (he c) e1).at h2 hH hd gH hg;exact ⟨L,V,w',by simp [execOp,q1],q2,q3,q4⟩
 case makeMap t rr=>
  have key:v=.map (some 0)/\ob=.map [] 0/\(execOp e' ⟨dst,.makeMap t rr,ty',pos,aft,grd⟩).run E.prog w=.ok (.value (.map (some w.heap.size))) (w.alloc (.map #[] 0)):=by
   cases rr with
   |none=>
    simp only [aH,bc,bV.val.injEq] at h1;obtain ⟨rfl,rfl⟩:=h1;rw [Kh] at h2;exact ⟨rfl,(dM h2).symm,by simp [execOp,Instr.makeMap]⟩
   |some x=>
    simp only [aH] at h1;split at h1
    ·rename_i kt et k n hu hx;simp only [bc,bV.val.injEq] at h1;obtain ⟨rfl,rfl⟩:=h1;rw [Kh] at h2;have h3:=he x;rw [hx] at h3;exact ⟨rfl,(dM h2).symm,by simp [execOp,Instr.makeMap,c5 hE hu,h3.int_eq,asInt,asIntOf]⟩
    ·cases h1
  obtain ⟨rfl,rfl,hr⟩:=key;have⟨q1,q2⟩:=hH.ax3 hd gH hg;exact ⟨_,_,_,hr,.map (L:=⟨w.heap.size,0,0,0⟩) (aJ.r_ _ _ _),q1,q2⟩
 all_goals (simp [eR] at hb)
theorem aCD {ops:Array Oper}{T T':Tr Value}{o:Oper}(h:∀t,t∈o.looksAt ops->T.get t=T'.get t):lg ops T o=lg ops T' o:=by
 unfold lg;cases hg:o.guard with
 |none=>rfl
 |some p=>
  have⟨j,want⟩:=p;simp only;cases hd:(ops[j]?).bind (·.dst) with
  |none=>rfl
  |some d=>
   simp only;rw [h d (by simp [Oper.looksAt,hg,hd])]
theorem afa {ops:Array Oper}{T T':Tr Value}{o:Oper}(h:∀t,t∈o.looksAt ops->T.get t=T'.get t):∀x∈o.op.operands,ev E T x=ev E T' x:=by
 intro x hx;cases x with
 |tmp t=>
  simp only [ev];rw [h t (by simp only [Oper.looksAt,dV,List.mem_filterMap];left;exact ⟨.tmp t,by simpa using hx,rfl⟩)]
 |_=>rfl
theorem FU {μ:aJ}{T T':Tr Value}{a:Act}(h:∀t,T.get t=T'.get t)(hT:pv μ T a):pv μ T' a:=⟨λt=>by rw [<-h t];exact hT.1 t,hT.2⟩
theorem aeB {p q:DR->Bool}{i:Nat}:∀{rs:List DR}{n:Nat},rs.map DR.i=(List.range n).reverse->i<n->(∀r∈rs,q r=(p r||decide (r.i=i)))->(∀r∈rs,r.i=i->p r=false)->
  ∀r∈rs,r.i=i->fU bm q rs=fU bm p rs+(if r.ny bm=true then 1 else 0)
 |[],n,h,hi,_,_,r,hr,_=>by simp at hr
 |x::rest,n,h,hi,hq,hp,r,hr,GW=>by
  cases n with
  |zero=>omega
  |succ n=>
   simp only [lL,No,aav,SJ,aaF,rQ,rR,zj] at h;have⟨hx,yQ⟩:=h;have qB:∀y∈rest,y.i<n:=by
    intro y hy
    have:y.i∈rest.map DR.i:=SB hy
    rw [yQ] at this;simpa using this
   simp only [fU];by_cases e:n=i
   ·subst e;have hrx:r=x:=by
     rcases dU.1 hr with h|h
     ·exact h
     ·have:=qB r h;omega
    subst hrx;have e1:fU bm q rest=fU bm p rest:=DP λy hy _=>by
     rw [hq y (by simp [hy])]
     have:=qB y hy
     simp;omega
    rw [e1,hq r (by simp),hp r (by simp) GW,GW];cases r.ny bm<;>simp
   ·have qC:r∈rest:=by
     rcases dU.1 hr with h|h
     ·subst h;omega
     ·exact h
    have ih:=aeB (p:=p) (q:=q) yQ (by omega) (λy hy=>hq y (by simp [hy])) (λy hy=>hp y (by simp [hy])) r qC GW;have e2:q x=p x:=by rw [hq x (by simp)];simp;omega
    rw [ih,e2];cases x.ny bm<;>cases p x<;>simp<;>omega
theorem ah2 {L:Nat->Bool}{d:Nat}:∀{rs:List DR}{n:Nat},rs.map DR.i=(List.range n).reverse->∀r∈rs,L r.i=true->r.o.dst=some d->(∀q∈rs,r.i<q.i->q.o.dst=some d->L q.i=false)->vg L d rs=some r.v
 |[],_,_,r,hr,_,_,_=>by simp at hr
 |x::rest,n,h,r,hr,h1,h2,h3=>by
  cases n with
  |zero=>simp at h
  |succ n=>
   simp only [lL,No,aav,SJ,aaF,rQ,rR,zj] at h;have⟨hx,yQ⟩:=h;simp only [vg];rcases dU.1 hr with rfl|qC
   ·rw [ar ⟨h1,h2⟩]
   ·have aE:r.i<n:=by
     have:r.i∈rest.map DR.i:=SB qC
     rw [yQ] at this;simpa using this
    rw [an]
    ·exact ah2 yQ r qC h1 h2 λq hq=>h3 q (jh _ hq)
    ·intro ⟨a,b⟩
     have:=h3 x (by simp) (by omega) b
     rw [this] at a;cases a
theorem aiB {ops:Array Oper}(cB:pW bm ops=true)(j i:Nat)(h:((iM ops.toList []).getD j 0).testBit i=true):i<j:=by
 induction j using Nat.strongRecOn generalizing i with
 |_ j ih=>
  cases ho:ops[j]? with
  |none=>
   have:(iM ops.toList [])[j]? =none:=by
    have⟨m,h1,h2⟩:=Hb ops.toList [];rw [h1,rQ,ji];rw [h2,uA];rcases iY j ops.size with h|h
    ·rw [zx h] at ho;cases ho
    ·exact h
   rw [gu,this] at h;simp at h
  |some o=>
   have hg:=Xt ops.toList [] j o (by simpa using ho);simp only [nM,cG] at hg;rw [gu,hg] at h;simp only [zr] at h;have⟨e,he,hb,mQ⟩:=aiA _ _ _ h;have aE:=ak8 cB ho e he hb;rcases mQ with rfl|jI
   ·exact aE
   ·rw [gu,Be] at jI;split at jI
    ·have:=ih e.on aE i (by rw [gu];exact jI)
     omega
    ·omega
theorem akL (hE:E.Ok){B0:Nat}{aF:fp}(hF:FG E B0 aF){ops:Array Oper}(cB:pW bm ops=true){os:List Obj}{s s':St}{μ:aJ}{a:Act}{w:World}(h:xQ bm E aF ops os s=some s')(hs:vJ E B0 μ s a w)
  {Q:Exit->Act->World->Prop}(hQ:∀aD a' w',cD s.H μ s'.H aD->vJ E B0 aD s' a' w'->Below B0 w w'->Q .normal a' w') :
  wpAny E.prog .any ops Q ops.size (Array.replicate ops.size false) a w:=by
 unfold xQ at h
 cases WM:vp bm E s.H.next ops.toList 0 os s.H.tr with
 |none=>rw [WM] at h;cases h
 |some tr=>
 rw [WM] at h
 simp only at h
 cases u7:oN bm E aF ops s.H.next ops.toList 0 s.T ⟨tr,s.H.next+ops.size⟩ 0 [] [⟨tr,s.H.next+ops.size⟩] with
 |none=>rw [u7] at h;cases h
 |some out=>
 have⟨rs,T',xn,H'⟩:=out
 rw [u7] at h
 simp only at h
 cases hq:CQ bm E s.H.next (Fa bm ops (iM ops.toList [])) (iM ops.toList []) rs xn (xn.length - 1) rs with
 |false=>rw [hq] at h;cases h
 |true=>
 rw [hq] at h
 simp only [bQ,bc] at h
 subst h
 have⟨m,hI⟩:=Rf (T0:=s.T) (H0:=⟨tr,s.H.next+ops.size⟩) ops.toList 0 s.T _ 0 [] _ rs T' xn H' u7 (λj=>by simp) ⟨rfl,by simp,λt=>rfl,rfl,rfl,rfl,rfl⟩
 simp only [cG,uA] at hI
 have atx:xn.length - 1=m:=by rw [hI.hlen];omega
 rw [atx] at hq
 have qB:∀r∈rs,r.i<ops.size:=by
  intro r hr
  have:r.i∈rs.map DR.i:=SB hr
  rw [hI.idx] at this
  simpa using this
 have WO:∀i,i<ops.size->∃r∈rs,r.i=i:=by
  intro i hi
  have:i∈rs.map DR.i:=by rw [hI.idx];simpa using hi
  have⟨r,hr,e⟩:=cL.1 this
  exact ⟨r,hr,e⟩
 have finish:∀(cC:Array Bool)(a1:Act)(w1:World)(kL:aJ)(Hc:aa),(∀j,j<ops.size->Lf cC j=true)->cD s.H μ Hc kL->pv kL (TL s.T (Lf cC) rs) a1->
   xn[fU bm (λq=>Lf cC q.i) rs]? =some Hc->aO E B0 kL Hc w1->Below B0 w w1->Q .normal a1 w1:=by
  intro cC a1 w1 kL Hc lA hle hT np hH hB
  have hc:fU bm (λq=>Lf cC q.i) rs=m:=by
   rw [hI.ay]
   exact DP λr hr _=>lA _ (qB r hr)
  rw [hc,hI.cur] at np
  injection np with np
  subst np
  refine hQ kL a1 w1 hle ⟨FU (λt=>?_) hT,hH⟩ hB
  show (TL s.T (Lf cC) rs).get t=T'.get t
  rw [hI.Fg t,q6,q6,KX (L':=λ_=>true) λr hr _=>lA _ (qB r hr)]
 have main:∀(fuel:Nat)(cC:Array Bool)(a1:Act)(w1:World)(kL:aJ)(Hc:aa),cC.size=ops.size->cC.toList.count false<=fuel->SS ops (Lf cC)->cD s.H μ Hc kL->s.H.next+ops.size<=Hc.next->(∀j o,ops[j]? =some o->eR bm o.op=true->Lf cC j=false->kL (s.H.next+j)=none)->
   pv kL (TL s.T (Lf cC) rs) a1->xn[fU bm (λq=>Lf cC q.i) rs]? =some Hc->aO E B0 kL Hc w1->Below B0 w w1->wpAny E.prog .any ops Q fuel cC a1 w1:=by
  intro fuel
  induction fuel with
  |zero=>
   intro cC a1 w1 kL Hc oc hfu sy hle Ak Qw hT np hH hB
   have lA:∀j,j<ops.size->Lf cC j=true:=by
    intro j hj
    have h0:cC.toList.count false=0:=by omega
    rw [List.count_eq_zero] at h0
    unfold Lf
    rw [Bi,zx (by omega)]
    simp only [zr]
    cases hb:cC[j]'(by omega) with
    |true=>rfl
    |false=>exact absurd (by rw [<-hb];exact Array.getElem_mem_toList (by omega)) h0
   have Qa:=finish cC a1 w1 kL Hc lA hle hT np hH hB
   refine ⟨?_,Qa⟩
   cases hr:Region.ready .any ops cC with
   |nil=>rfl
   |cons i rest=>
    have hi:i∈Region.ready .any ops cC:=by rw [hr];simp
    have⟨o,_,h2,h3,_⟩:=akz hi
    have:=h2 (by omega)
    rw [lA i h3] at this
    cases this
  |succ fuel ih=>
   intro cC a1 w1 kL Hc oc hfu sy hle Ak Qw hT np hH hB
   refine ⟨λatE=>?_,λi hi=>?_⟩
   ·have lA:∀j,j<ops.size->Lf cC j=true:=by
     intro j
     induction j using Nat.strongRecOn with
     |_ j ihj=>
      intro hj
      cases hL:Lf cC j with
      |true=>rfl
      |false=>
       have agK:=awN (zx hj) oc hL (λe he hb=>by
        have aE:=ak8 cB (zx hj) e he hb
        exact ihj e.on aE (by omega))
       rw [atE] at agK
       simp at agK
    exact finish cC a1 w1 kL Hc lA hle hT np hH hB
   ·have⟨o,ho,yH,hio,asT⟩:=akz hi
    have yH:=yH (by omega)
    have⟨r,hr,GW⟩:=WO i hio
    subst GW
    have f:=hI.facts r hr
    have hoo:r.o=o:=by have:=f.op;rw [ho] at this;injection this with this;exact this.symm
    subst hoo
    have J_:r.i<cC.size:=by omega
    have BV:=anS J_
    have Kd:SS ops (Lf (cC.setIfInBounds r.i true)):=by
     intro j o' hj KA e he hb
     rw [BV] at hj⊢
     simp only [Nn,gf] at hj⊢
     rcases hj with hj|rfl
     ·exact .inl (sy j o' hj KA e he hb)
     ·rw [ho] at KA;injection KA with KA;subst KA
      exact .inl (asT e he hb)
    have agV:Lf (cC.setIfInBounds r.i true) r.i=true:=by rw [BV];simp
    have Qm:∀x,((iM ops.toList []).getD r.i 0).testBit x=true->x≠r.i->Lf cC x=true:=by
     intro x hx aW
     have:=aey Kd r.i r.o ho agV x hx
     rw [BV] at this
     simpa [aW] using this
    have Aj:∀q∈rs,((iM ops.toList []).getD q.i 0).testBit r.i=true->Lf cC q.i=false:=by
     intro q hq hb
     cases hLq:Lf cC q.i with
     |false=>rfl
     |true=>
      have:=aey sy q.i q.o (hI.facts q hq).op hLq r.i hb
      rw [yH] at this;cases this
    have EF:∀q∈rs,q.i=r.i->q.o=r.o:=by
     intro q hq e
     have:=(hI.facts q hq).op
     rw [e,ho] at this
     injection this with this
     exact this.symm
    have Wu:∀t∈r.o.looksAt ops,(TL s.T (Lf cC) rs).get t=r.T.get t:=by
     intro t ht
     rw [f.Fg t,q6,q6]
     rw [KX (L:=Lf cC) (L':=λx=>decide (x<r.i))]
     intro q hq hd
     rcases Nat.lt_trichotomy q.i r.i with aE|heq|GI
     ·rcases MB cB (hI.facts q hq).op ho aE with jI|⟨JY,_⟩
      ·rw [Qm _ jI (by omega)];simp [aE]
      ·exact absurd ht ((Oper.apart_spec JY).1 t hd)
     ·rw [heq,yH];simp
     ·rcases MB cB ho (hI.facts q hq).op GI with jI|⟨JY,_⟩
      ·rw [Aj q hq jI];simp;omega
      ·exact absurd ht ((Oper.apart_spec JY).2.2 t hd)
    have aug:lg ops (TL s.T (Lf cC) rs) r.o=some r.w:=by rw [aCD Wu];exact f.want
    have WW:=al9 hT aug
    have af9:∀Hx,aH E (ev E (TL s.T (Lf cC) rs)) r.o.op Hx=aH E (ev E r.T) r.o.op Hx:=λHx=>ab4 (afa Wu)
    have WT:∀{aD:aJ}{Hx:aa},cD Hc kL Hx aD->∀j o,ops[j]? =some o->eR bm o.op=true->Lf (cC.setIfInBounds r.i true) j=false->aD (s.H.next+j)=none:=by
     intro aD Hx hgr j o' h1 h2 h3
     rw [BV] at h3
     simp only [Sz] at h3
     have hjs:j<ops.size:=by
      rcases iY j ops.size with h|h
      ·exact h
      ·rw [tg h] at h1;cases h1
     rw [hgr.2.1 _ (by omega)]
     exact Qw j o' h1 h2 h3.1
    have Qo:∀t,(jt (TL s.T (Lf cC) rs) r.o.dst r.v).get t=(TL s.T (Lf (cC.setIfInBounds r.i true)) rs).get t:=by
     intro t
     have GP:r.o.dst≠some t->vg (Lf cC) t rs=vg (Lf (cC.setIfInBounds r.i true)) t rs:=by
      intro aW
      refine KX λq hq hd=>?_
      rw [BV]
      have:¬q.i=r.i:=λe=>by rw [EF q hq e] at hd;exact aW hd
      simp [this]
     cases hd:r.o.dst with
     |none=>
      simp only [jt]
      rw [q6,q6,GP (by rw [hd];simp)]
     |some d=>
      simp only [jt,Tr.D7]
      by_cases e:t=d
      ·subst e
       rw [ar rfl,q6,q6,ah2 hI.idx r hr agV hd]
       ·cases s.T.get t<;>rfl
       ·intro q hq GI hdq
        rw [BV]
        rcases MB cB ho (hI.facts q hq).op GI with jI|⟨JY,_⟩
        ·rw [Aj q hq jI];simp;omega
        ·exact absurd hdq ((Oper.apart_spec JY).2.1 t hd)
      ·rw [an e,q6,q6,GP (by rw [hd];simp;exact λh=>e h.symm)]
    have P4:fU bm (λq=>Lf (cC.setIfInBounds r.i true) q.i) rs=fU bm (λq=>Lf cC q.i) rs+(if r.ny bm=true then 1 else 0):=
     aeB hI.idx hio (λq _=>BV q.i) (λq _ e=>by rw [e];exact yH) r hr rfl
    have Qb:(cC.setIfInBounds r.i true).toList.count false<=fuel:=by
     have hlf:cC[r.i]'J_=false:=by
      unfold Lf at yH
      rw [Bi,zx J_] at yH
      simpa using yH
     rw [Array.toList_setIfInBounds,List.count_set (by simpa using J_)]
     have yN:0<cC.toList.count false:=List.count_pos_iff.2 (by rw [<-hlf];exact Array.getElem_mem_toList J_)
     simp only [Array.getElem_toList,hlf]
     rw [ar (by rfl),an (by decide)]
     omega
    have Qu:(cC.setIfInBounds r.i true).size=ops.size:=by simpa using oc
    show wpOp E.prog ops Q r.i (wpAny E.prog .any ops Q fuel (cC.setIfInBounds r.i true)) a1 w1
    unfold wpOp
    rw [ho]
    simp only
    rw [WW]
    cases hw:r.w with
    |false=>
     rw [an (by simp)]
     have Ky:r.ny bm=false:=by simp [DR.ny,hw]
     have hv:=f.idle hw
     refine ih _ _ w1 kL Hc Qu Qb Kd hle Ak (WT (cD.refl _ _)) (FU Qo ?_) ?_ hH hB
     ·rw [hv];exact hT.put _ aL.undef
     ·rw [P4,an (by simp [Ky])];exact np
    |true=>
     rw [ar rfl]
     left
     have⟨H1,H2,d1,d2,d3⟩:=f.tH hw
     cases qA:hO bm r.o.op with
     |true=>
      have lU:r.ny bm=true:=by simp [DR.ny,hw,qA]
      have hk:fU bm (λq=>Lf cC q.i) rs=r.k:=by
       rw [f.ay]
       refine DP λq hq An=>?_
       have GV:hO bm q.o.op=true:=by simp only [DR.ny,jX] at An;exact An.2
       rcases Nat.lt_trichotomy q.i r.i with aE|heq|GI
       ·rcases MB cB (hI.facts q hq).op ho aE with jI|⟨_,fW⟩
        ·rw [Qm _ jI (by omega)];simp [aE]
        ·exact absurd ⟨GV,qA⟩ fW
       ·rw [heq,yH];simp
       ·rcases MB cB ho (hI.facts q hq).op GI with jI|⟨_,fW⟩
        ·rw [Aj q hq jI];simp;omega
        ·exact absurd ⟨qA,GV⟩ fW
      rw [hk,d1] at np
      injection np with np
      subst np
      have tT:eR bm r.o.op=false:=avq qA
      rw [N9 tT,<-af9] at d2
      refine XT hE hF hH (λx=>JG hH hT x) hT d2 ?_
      intro V aD w' q1 q2 q3 q4 q5
      refine ih _ _ w' aD H2 Qu Qb Kd (hle.trans q1) (wK Ak q1.2.2) (WT q1) (FU Qo q3) ?_ q4 (hB.trans q5)
      rw [P4,ar lU,hk]
      exact d3 qA
     |false=>
      have lU:r.ny bm=false:=by simp [DR.ny,qA]
      have v_:fU bm (λq=>((iM ops.toList []).getD r.i 0).testBit q.i) rs<=fU bm (λq=>Lf cC q.i) rs:=by
       refine aeA λq hq An hb=>Qm _ hb λe=>?_
       simp only [DR.ny,jX] at An
       rw [EF q hq e,qA] at An
       cases An.2
      have Qc:fU bm (λq=>Lf cC q.i) rs<=m - fU bm (λq=>((iM ops.toList []).getD q.i 0).testBit r.i) rs:=by
       have:=aez (bm:=bm) (p:=λq=>Lf cC q.i) (q:=λq=>((iM ops.toList []).getD q.i 0).testBit r.i) (rs:=rs) (λq hq _ ⟨x,y⟩=>by rw [Aj q hq y] at x;cases x)
       rw [<-hI.ay] at this
       omega
      cases zZ:eR bm r.o.op with
      |true=>
       have Qn:At r.o.op=false:=apW zZ
       have⟨Hx,g1,g2⟩:=Yd hq r hr hw qA Qn (by rw [zZ];simp) _ v_ Qc
       rw [np] at g1;injection g1 with g1;subst g1
       have⟨v,ob,z1,z3⟩:=avn zZ g2
       have hv:r.v=zQ (s.H.next+r.i) v:=by
        unfold tD at d2
        split at d2
        ·rename_i ty bB
         rw [bB] at z1
         simp only [kH,bc,iF] at d2
         have⟨Hq,y1,y2⟩:=adZ z1
         simp only [aH] at y1
         cases hz:zeroV E ty with
         |none=>rw [hz] at y1;cases y1
         |some zz=>
          rw [hz] at y1
          have⟨u,H9,x1,x2⟩:=sO y1
          injection x2 with x2 x3
          unfold uk at x1
          cases hc9:cellsOf zz with
          |none=>rw [hc9] at x1;cases x1
          |some vs9=>
           rw [hc9] at x1
           simp only [fa,bc,iF] at x1
           rw [x2,<-x1.1]
           exact d2.1.symm
        ·rw [zZ,z1] at d2
         simp only [bQ,fa,kH,bc,iF] at d2
         exact d2.1.symm
       rw [<-ap5 (afa Wu)] at z1
       have hmu:=Qw r.i r.o ho zZ yH
       have⟨L,V,w',e1,e2,e3,e4⟩:=ap6 hE hH zZ (λx=>JG hH hT x) z1 hmu (by omega) z3
       unfold Oper.wp
       rw [e1]
       rw [<-hv] at e2
       have agD:=aJ.Au L hmu
       refine ih _ _ w' _ Hc Qu Qb Kd ⟨aJ.le_trans hle.1 agD,λi hi=>?_,hle.2.2⟩ Ak ?_ (FU Qo ((hT.mono agD).put _ e2)) ?_ e3 (hB.trans e4)
       ·unfold aJ.add
        rw [an (by omega)]
        exact hle.2.1 i hi
       ·intro j o' h1 h2 h3
        rw [BV] at h3
        simp only [Sz,jF] at h3
        unfold aJ.add
        rw [an (by omega)]
        exact Qw j o' h1 h2 h3.1
       ·rw [P4,an (by simp [lU])]
        exact np
      |false=>
      have tT:=zZ
      have agC:xr r.o.op=false:=by rw [<-Q1 tT];exact qA
      rw [N9 tT] at d2
      have atN:kH aF (aH E (ev E (TL s.T (Lf cC) rs)) r.o.op Hc) Hc=some (r.v,Hc):=by
       rw [af9]
       cases KC:aH E (ev E r.T) r.o.op H1 with
       |none=>rw [KC] at d2;cases d2
       |some rr=>
        obtain ⟨v0,rfl⟩:=IY agC KC
        rw [KC] at d2
        simp only [kH,bc,iF] at d2
        obtain ⟨rfl,rfl⟩:=d2
        cases Qn:At r.o.op with
        |true=>
         have⟨v1,e1,e2⟩:=aph Qn KC Hc
         injection e1 with e1
         rw [e2,e1];rfl
        |false=>
         cases yR:(Fa bm ops (iM ops.toList [])).getD r.i false with
         |true=>
          have hk:fU bm (λq=>Lf cC q.i) rs=r.k:=by
           rw [f.ay]
           refine DP λq hq An=>?_
           have GV:hO bm q.o.op=true:=by simp only [DR.ny,jX] at An;exact An.2
           have hqr:q.i≠r.i:=λe=>by rw [EF q hq e,qA] at GV;cases GV
           rcases axZ yR (hI.facts q hq).op hqr GV with jI|jI
           ·rw [Qm _ jI hqr]
            rcases iY q.i r.i with aE|vZ
            ·simp [aE]
            ·exact absurd jI (by
              intro jI
              have:=aiB cB r.i q.i jI
              omega)
           ·rw [Aj q hq jI]
            rcases iY r.i q.i with aE|vZ
            ·simp;omega
            ·exact absurd jI (by
              intro jI
              have:=aiB cB q.i r.i jI
              omega)
          rw [hk,d1] at np
          injection np with np
          subst np
          rw [KC];rfl
         |false=>
         have⟨Hx,g1,g2⟩:=Yd hq r hr hw qA Qn (by rw [yR];rfl) _ v_ Qc
         rw [np] at g1;injection g1 with g1;subst g1
         have⟨v1,Hy,g2,g3⟩:=avo tT g2
         have⟨v2,e2⟩:=IY agC g2
         injection e2 with e3 e4
         rw [g2,e4,<-HO 8 _ _ g3]
         rfl
      refine XT hE hF hH (λx=>JG hH hT x) hT atN ?_
      intro V aD w' q1 q2 q3 q4 q5
      refine ih _ _ w' aD Hc Qu Qb Kd (hle.trans q1) Ak (WT q1) (FU Qo q3) ?_ q4 (hB.trans q5)
      rw [P4,an (by simp [lU])]
      exact np
 have VP:aO E B0 μ ⟨tr,s.H.next+ops.size⟩ w:=hs.2.pre ops.size λj hj=>Rm s.H.next ops.toList 0 os _ _ WM j hj
 have h0:∀j,Lf (Array.replicate ops.size false) j=false:=by
  intro j
  unfold Lf
  rw [Bi,Array.getElem?_replicate]
  split<;>rfl
 have rz:fU bm (λq=>Lf (Array.replicate ops.size false) q.i) rs=0:=by
  rw [DP (q:=λ_=>false) λr _ _=>h0 _]
  clear main finish hI hq u7 qB WO VP
  induction rs with
  |nil=>rfl
  |cons x rest ih=>simp [fU,ih]
 refine main ops.size _ a w μ ⟨tr,s.H.next+ops.size⟩ (by simp) ?_ (λj o hj=>by rw [h0] at hj;cases hj) ⟨aJ.le_refl _,λ_ _=>rfl,by simp⟩ (bq _) (λj o _ _ _=>hs.2.fresh _ (by omega)) ?_ (by rw [rz];exact hI.first) VP (Below.refl _ _)
 ·simp
 ·refine FU (λt=>?_) hs.1
  rw [q6]
  have:vg (Lf (Array.replicate ops.size false)) t rs=none:=by
   clear main finish hI hq u7 qB WO rz VP
   induction rs with
   |nil=>rfl
   |cons x rest ih=>simp [vg,h0,ih]
  rw [this]
  cases s.T.get t<;>rfl
theorem aw_ (hE:E.Ok){B0:Nat}{aF:fp}(hF:FG E B0 aF){ops:Array Oper}{s s':St}{μ:aJ}{a:Act}{w:World}(h:vu E aF ops s=some s')(hs:vJ E B0 μ s a w)
  {Q:Exit->Act->World->Prop}(hQ:∀aD a' w',cD s.H μ s'.H aD->vJ E B0 aD s' a' w'->Below B0 w w'->Q .normal a' w') :
  wpAny E.prog .any ops Q ops.size (Array.replicate ops.size false) a w:=by
 unfold vu at h;cases h0:pW false ops with
 |true=>rw [h0] at h;exact akL hE hF h0 h hs hQ
 |false=>
  rw [h0] at h;simp only [cQ] at h;cases h1:pW true ops with
  |false=>rw [h1] at h;cases h
  |true=>
   rw [h1] at h;simp only [bQ] at h;split at h
   ·exact akL hE hF h1 h hs hQ
   ·cases h
end
end
section
section
variable {E:Env}
def X.ZC:X->Exit
 |.normal=>.normal
 |.exit id=>.exit id
 |.ret=>.ret
def Post (E:Env)(B0:Nat)(H:aa)(μ:aJ)(w:World)(x:X)(s:St)(Q:Exit->Act->World->Prop):Prop:=
 ∀aD a' w',cD H μ s.H aD->vJ E B0 aD s a' w'->Below B0 w w'->Q x.ZC a' w'
theorem Post.trans {B0:Nat}{H H':aa}{μ aD:aJ}{w w':World}{x:X}{s:St}{Q:Exit->Act->World->Prop}(h:Post E B0 H μ w x s Q)(hle:cD H μ H' aD)(hB:Below B0 w w'):Post E B0 H' aD w' x s Q:=
 λBj a2 w2 h1 h2 h3=>h Bj a2 w2 (hle.trans h1) h2 (hB.trans h3)
theorem aw6 (hE:E.Ok)(we:E.prog.follows .mixedOrders=true){B0:Nat}{aF:fp}(hF:FG E B0 aF)(n:Nat):∀(c:Code)(s s':St)(x:X)(μ:aJ)(a:Act)(w:World)(Q:Exit->Act->World->Prop),
  cP E aF n c s=some (x,s')->vJ E B0 μ s a w->Post E B0 s.H μ w x s' Q->c.wp E.prog Q a w:=by
 intro c
 induction c with
 |skip=>
  intro s s' x μ a w Q h hs hQ;simp only [cP,bc,iF] at h;obtain ⟨rfl,rfl⟩:=h;exact wp_skip (hQ μ a w (cD.refl _ _) hs (Below.refl _ _))
 |label l=>
  intro s s' x μ a w Q h hs hQ;simp only [cP,bc,iF] at h;obtain ⟨rfl,rfl⟩:=h;exact wp_label (hQ μ a w (cD.refl _ _) hs (Below.refl _ _))
 |region id ops d=>
  intro s s' x μ a w Q h hs hQ;simp only [cP] at h;cases d with
  |true=>
   simp only [bQ] at h;cases hr:vu E aF ops s with
   |none=>rw [hr] at h;cases h
   |some s1=>
    rw [hr] at h;simp only [bc,iF] at h;obtain ⟨rfl,rfl⟩:=h;refine wp_region_any we ?_;exact aw_ (w:=w.drew) hE hF hr ⟨hs.1,hs.2.heap rfl⟩ λaD a' w' h1 h2 h3=>hQ aD a' w' h1 h2 ((Below.refl B0 w).drew.trans h3)
  |false=>
   simp only [cQ] at h;cases hr:pT E aF ops ops.toList s with
   |none=>rw [hr] at h;cases h
   |some s1=>
    rw [hr] at h;simp only [bc,iF] at h;obtain ⟨rfl,rfl⟩:=h;exact wp_region_list (Ys hE hF ops.toList s s1 μ a w hr hs hQ)
 |seq c1 c2 ih1 ih2=>
  intro s s' x μ a w Q h hs hQ;simp only [cP] at h;refine wp_seq ?_;cases h1:cP E aF n c1 s with
  |none=>rw [h1] at h;cases h
  |some p=>
   have⟨x1,s1⟩:=p;rw [h1] at h;cases x1 with
   |normal=>
    simp only at h;refine ih1 s s1 .normal μ a w _ h1 hs λaD a' w' q1 q2 q3=>?_
    exact ih2 s1 s' x aD a' w' Q h q2 (hQ.trans q1 q3)
   |exit id=>
    simp only [bc,iF] at h;obtain ⟨rfl,rfl⟩:=h;exact ih1 s s1 _ μ a w _ h1 hs hQ
   |ret=>
    simp only [bc,iF] at h;obtain ⟨rfl,rfl⟩:=h;exact ih1 s s1 _ μ a w _ h1 hs hQ
 |cond c t e ih1 ih2=>
  intro s s' x μ a w Q h hs hQ;simp only [cP] at h;split at h
  case h_2=>cases h
  rename_i b hc;have Ki:=JG hs.2 hs.1 c;rw [hc] at Ki;cases b with
  |true=>exact wp_cond_true Ki.Uc (ih1 s s' x μ a w Q h hs hQ)
  |false=>exact wp_cond_false Ki.Uc (ih2 s s' x μ a w Q h hs hQ)
 |block id c ih=>
  intro s s' x μ a w Q h hs hQ;simp only [cP] at h;refine wp_block ?_;cases h1:cP E aF n c s with
  |none=>rw [h1] at h;cases h
  |some p=>
   have⟨x1,s1⟩:=p;rw [h1] at h;cases x1 with
   |normal=>
    simp only [bc,iF] at h;obtain ⟨rfl,rfl⟩:=h;exact ih s s1 _ μ a w _ h1 hs hQ
   |exit j=>
    simp only at h;cases hj:Nat.beq j id with
    |true=>
     rw [hj] at h;simp only [bQ,bc,iF] at h;obtain ⟨rfl,rfl⟩:=h;refine ih s s1 _ μ a w _ h1 hs λaD a' w' q1 q2 q3=>?_
     simp only [X.ZC,Exit.inBlock];rw [ar (nN hj)];exact hQ aD a' w' q1 q2 q3
    |false=>
     rw [hj] at h;simp only [cQ,bc,iF] at h;obtain ⟨rfl,rfl⟩:=h;refine ih s s1 _ μ a w _ h1 hs λaD a' w' q1 q2 q3=>?_
     simp only [X.ZC,Exit.inBlock];rw [an (Di hj)];exact hQ aD a' w' q1 q2 q3
   |ret=>
    simp only [bc,iF] at h;obtain ⟨rfl,rfl⟩:=h;exact ih s s1 _ μ a w _ h1 hs hQ
 |loop c ih=>
  intro s s' x μ a w Q h hs hQ;simp only [cP] at h;have key:∀(k:Nat)(s s':St)(x:X)(μ:aJ)(a:Act)(w:World),tY (cP E aF n c) k s=some (x,s')->vJ E B0 μ s a w->Post E B0 s.H μ w x s' Q->Code.rounds E.prog c Q k a w:=by
   intro k
   induction k with
   |zero=>intro s s' x μ a w h;simp [tY] at h
   |succ k ihk=>
    intro s s' x μ a w h hs hQ;simp only [tY] at h;rw [rounds_succ];cases h1:cP E aF n c s with
    |none=>rw [h1] at h;cases h
    |some p=>
     have⟨x1,s1⟩:=p;rw [h1] at h;cases x1 with
     |normal=>
      simp only at h;refine ih s s1 .normal μ a w _ h1 hs λaD a' w' q1 q2 q3=>?_
      exact ihk s1 s' x aD a' w' h q2 (hQ.trans q1 q3)
     |exit id=>
      simp only [bc,iF] at h;obtain ⟨rfl,rfl⟩:=h;exact ih s s1 _ μ a w _ h1 hs hQ
     |ret=>
      simp only [bc,iF] at h;obtain ⟨rfl,rfl⟩:=h;exact ih s s1 _ μ a w _ h1 hs hQ
  exact wp_loop_rounds n (key n s s' x μ a w h hs hQ)
 |exit id=>
  intro s s' x μ a w Q h hs hQ;simp only [cP,bc,iF] at h;obtain ⟨rfl,rfl⟩:=h;exact wp_exit (hQ μ a w (cD.refl _ _) hs (Below.refl _ _))
 |ret=>
  intro s s' x μ a w Q h hs hQ;simp only [cP,bc,iF] at h;obtain ⟨rfl,rfl⟩:=h;exact wp_ret (hQ μ a w (cD.refl _ _) hs (Below.refl _ _))
 |scope c ih=>
  intro s s' x μ a w Q h hs hQ;simp only [cP] at h;refine wp_scope_straight (ih s s' x μ a w _ h hs λaD a' w' q1 q2 q3=>?_)
  have:=hQ aD a' w' q1 q2 q3
  cases x<;>exact this
 |rangeFunc f ps as1 b ih1 ih2=>intro s s' x μ a w Q h;simp [cP] at h
 |goto l=>intro s s' x μ a w Q h;simp [cP] at h
 |refuse w=>intro s s' x μ a w Q h;simp [cP] at h
theorem R6:∀(l:List Value)(n:Nat)(T:Tr Value)(t:Nat),(Tr.uw l n T).get t=if n<=t/\t<n+l.length then (T.get t).map (λ_=>l.getD (t - n) undef) else T.get t
 |[],n,T,t=>by
  simp only [Tr.ayk,nM,Fz]
  rw [an (by omega)]
 |v::l,n,T,t=>by
  simp only [Tr.HX,R6 l (n+1) _ t,Tr.D7,gU]
  by_cases h1:n+1<=t/\t<n+1+l.length
  ·rw [ar h1,an (by omega),ar (by omega),show t - n=(t - (n+1))+1 from by omega]
   rfl
  ·rw [an h1]
   by_cases h2:t=n
   ·subst h2
    rw [ar rfl,ar (by omega),x6]
    rfl
   ·rw [an h2,an (by omega)]
theorem auE {fn:Func}{args:List Value}{T:Tr Value}{μ:aJ}{ec:Array Value}(h:yS fn args=some T)(ha:bE μ args ec.toList) :
  pv μ T {tmps:=ec++Array.replicate (fn.ntmps - ec.size) undef,defers:=[]}:=by
 unfold yS at h;cases hb:Nat.ble args.length fn.ntmps with
 |false=>rw [hb] at h;cases h
 |true=>
  rw [hb] at h;simp only [bQ,bc] at h;subst h;have hle:=aS hb;have hl:=ha.length;simp only [uA] at hl;refine ⟨λt=>?_,rfl⟩;rw [R6,Tr.JO _ _ _ _ (bq _),Array.getElem?_append,Array.getElem?_replicate];by_cases h1:t<args.length
  ·right;have aE:t<fn.ntmps:=by omega
   have c1:0<=t/\t<0+args.length:=by omega
   have c2:t<ec.size:=by omega
   have⟨V,hV,hr⟩:=ha.get (j:=t) (v:=args[t]) (by simp [h1]);rw [ar c1,ar aE,ar c2];refine ⟨args[t],V,?_,?_,hr⟩
   ·simp [h1]
   ·rw [<-rS];exact hV
  ·have c1:¬(0<=t/\t<0+args.length):=by omega
   have c2:¬t<ec.size:=by omega
   rw [an c1,an c2];by_cases h2:t<fn.ntmps
   ·right;have c3:t - ec.size<fn.ntmps - ec.size:=by omega
    rw [ar h2,ar c3];exact ⟨_,_,rfl,rfl,aL.undef⟩
   ·left;have c3:¬t - ec.size<fn.ntmps - ec.size:=by omega
    rw [an h2,an c3];exact ⟨rfl,rfl⟩
def RA (tmps:Array Value):ResultVar->Sem Value
 |.tmp t=>pure (tmps.getD t undef)
 |.cell a t=>do loadVar t (<-asAddr (tmps.getD a undef))
theorem Yj (hE:E.Ok){B0:Nat}{μ:aJ}{s:St}{a:Act}{w:World}(hs:vJ E B0 μ s a w):∀(l:List ResultVar)(vs:List Value),mV E s l=some vs->
  ∃VS:List Value,bE μ vs VS/\(l.mapM (RA a.tmps)).run E.prog w=.ok VS w
 |[],vs,h=>by
  simp only [mV,bc] at h
  subst h
  exact ⟨[],.nil,by simp⟩
 |.tmp t::l,vs,h=>by
  simp only [mV] at h
  cases hr:mV E s l with
  |none=>rw [hr] at h;cases h
  |some us=>
   rw [hr] at h
   simp only [fa,bc] at h
   subst h
   have⟨VS,h1,h2⟩:=Yj hE hs l us hr
   exact ⟨_::VS,.cons (hs.1.at t) h1,by simp [List.mapM_cons,RA,h2]⟩
 |.cell x t::l,vs,h=>by
  simp only [mV] at h
  cases hv:Av E s.H t ((s.T.get x).getD undef) with
  |none=>rw [hv] at h;cases h
  |some v=>
   rw [hv] at h
   cases hr:mV E s l with
   |none=>rw [hr] at h;cases h
   |some us=>
    rw [hr] at h
    simp only [bP,fa,bc] at h
    subst h
    have⟨VS,h1,h2⟩:=Yj hE hs l us hr
    have⟨V,g1,g2⟩:=aid hE hs.2 (hs.1.at x) hv
    refine ⟨V::VS,.cons g2 h1,?_⟩
    have cX:=hs.1.at x
    generalize (s.T.get x).getD undef=y at hv cX
    generalize hY:a.tmps.getD x undef=Y at cX g1
    unfold Av at hv
    split at hv
    case h_2=>cases hv
    cases cX with
    |@ptr i o L hm=>
     simp only [Instr.loadAt,Instr.sureAddr,Sem.run_bind,Sem.run_pure,Result.andThen_ok] at g1
     simp [List.mapM_cons,RA,hY,asAddr,g1,h2]
theorem awS (hE:E.Ok){B0:Nat}{μ:aJ}{s:St}{a:Act}{w:World}(hs:vJ E B0 μ s a w){fn:Func}{vs:List Value}(h:mV E s fn.results.toList=some vs) :
  ∃V,(results fn a.tmps).run E.prog w=.ok V w/\aL μ (rJ vs) V:=by
 have⟨VS,h1,h2⟩:=Yj hE hs _ _ h;refine ⟨rJ VS,?_,?_⟩
 ·have e0:results fn a.tmps=(fn.results.mapM (RA a.tmps) >>=λvs=>pure (if h:vs.size=1 then vs[0] else .tuple vs)):=rfl;rw [e0,Array.mapM_eq_mapM_toList];simp only [Sem.run_bind,Sem.run_map,h2,Result.andThen_ok,Sem.run_pure]
  congr 1
  cases VS with
  |nil=>rfl
  |cons v l=>cases l with
   |nil=>rfl
   |cons u l=>simp [rJ]
 ·cases h1 with
  |nil=>exact .tuple .nil
  |cons g gs=>cases gs with
   |nil=>exact g
   |cons g' gs'=>exact .tuple (.cons g (.cons g' gs'))
theorem Zf (hE:E.Ok)(we:E.prog.follows .mixedOrders=true)(B0:Nat):∀n,FG E B0 (aF E n)
 |0=>by intro f args H v H' h;simp [aF] at h
 |n+1=>by
  intro f args H v H' h μ w ec hH ha;simp only [aF] at h;cases ht:(E.qL f&&args.isEmpty) with
  |true=>
   rw [ht] at h;simp only [bQ,bc,iF] at h;obtain ⟨rfl,rfl⟩:=h;simp only [jX,List.isEmpty_iff] at ht;obtain ⟨ht,rfl⟩:=ht;have hA:ec= #[]:=by
    have:=ha.length
    simp only [nM,uA] at this;exact Array.eq_empty_of_size_eq_zero this.symm
   subst hA;refine (hE.qL f ht w).mono ?_;rintro e w' ⟨rfl,hB⟩;exact ⟨_,μ,rfl,cD.refl _ _,.bool _,hH.world hB.block hB.size,hB.mono hH.base⟩
  |false=>
  rw [ht] at h;simp only [cQ] at h;cases sA:E.fn f with
  |none=>rw [sA] at h;cases h
  |some fn=>
   rw [sA] at h;simp only at h;cases hb:fn.body with
   |none=>rw [hb] at h;cases h
   |some c=>
    rw [hb] at h;simp only at h;cases hi:yS fn args with
    |none=>rw [hi] at h;cases h
    |some T=>
     rw [hi] at h;simp only at h;refine calls_of_wp (hE.fn _ _ sA).1 hb ?_;cases hr:cP E (aF E n) n c ⟨T,H⟩ with
     |none=>rw [hr] at h;cases h
     |some p=>
      have⟨x,s⟩:=p;rw [hr] at h;have Qa:∀(hh:(mV E s fn.results.toList).map (λvs=>(rJ vs,s.H))=some (v,H')),∀aD a' w',cD H μ s.H aD->vJ E B0 aD s a' w'->Below B0 w w'->
        a'.defers=[]/\∃V,(results fn a'.tmps).run E.prog w'=.ok V w'/\∃V' It,Ending.returned V=.returned V'/\cD H μ H' It/\aL It v V'/\aO E B0 It H' w'/\Below B0 w w':=by
       intro hh aD a' w' q1 q2 q3;cases lU:mV E s fn.results.toList with
       |none=>rw [lU] at hh;cases hh
       |some vs=>
        rw [lU] at hh;simp only [fa,bc,iF] at hh;obtain ⟨rfl,rfl⟩:=hh;have⟨V,g1,g2⟩:=awS hE q2 lU;exact ⟨q2.1.2,V,g1,V,aD,rfl,q1,g2,q2.2,q3⟩
      refine aw6 hE we (Zf hE we B0 n) n c ⟨T,H⟩ s x μ _ w _ hr ⟨auE hi ha,hH⟩ ?_;cases x with
      |normal=>exact λaD a' w' q1 q2 q3=>Qa h aD a' w' q1 q2 q3
      |ret=>exact λaD a' w' q1 q2 q3=>Qa h aD a' w' q1 q2 q3
      |exit id=>simp at h
end
end
section
theorem XO {α:Type}:∀(l:List α)(n:Nat)(t:Tr α)(i:Nat),(Tr.CM l n t).get i=if n<=i/\i<n+l.length then l[i - n]? else t.get i
 |[],n,t,i=>by
  simp only [Tr.awf,nM,Fz]
  rw [an (by omega)]
 |x::l,n,t,i=>by
  simp only [Tr.awe,XO l (n+1) _ i,Tr.yC,gU]
  by_cases h1:n+1<=i/\i<n+1+l.length
  ·rw [ar h1,ar (by omega),show i - n=(i - (n+1))+1 from by omega]
   rfl
  ·rw [an h1]
   by_cases h2:i=n
   ·subst h2
    rw [ar rfl,ar (by omega),x6]
    rfl
   ·rw [an h2,an (by omega)]
noncomputable def Env.of (P:Program)(HW:Tr TypeInfo)(fns:Tr Func)(eqs Ot:List Nat):Env where
 prog:=P
 ty:=HW.get
 fn:=λf=>match fns.get f with
  |some fn=>match fn.body with
   |some _=>some fn
   |none=>none
  |none=>none
 qp:=λt=>eqs.any (Nat.beq t)
 clone:=λf=>Ot.any (Nat.beq f)
 qL:=λ_=>false
 ng:=P.globals.size
def ae6 (P : Program)(t : Nat) : Bool :=
  !P.stoodInHeld t && !P.eqGuardType P.depth t && (match P.underlying t with
    | some (.struct fs) => fs.toList.all fun f => !(f.name == "_")
    | _ => true)
def aqr (P : Program) (f : Nat) : Prop := ∃ fn, P.funcs[f]? = some fn ∧ fn.body = none ∧ (fn.name == "runtime.NumGoroutine") = false ∧ Extern.findNext fn = none ∧ Extern.find fn = some Extern.MapsClone.clone
theorem Env.awg {P:Program}{HW:Tr TypeInfo}{fns:Tr Func}{eqs Ot:List Nat}(ht:HW=Tr.CM P.types.toList 0 .nil)(hf:fns=Tr.CM P.funcs.toList 0 .nil)
    (hn : P.funcs.toList.all (fun f => !(f.name == "runtime.NumGoroutine")) = true)
  (he:eqs.all (ae6 P)=true)(hc:∀f∈Ot,aqr P f):(Env.of P HW fns eqs Ot).Ok:=by
 subst ht;subst hf
 refine ⟨λt i h=>?_,λf fn h=>?_,λt h=>?_,λf h=>?_,λf h=>by cases h⟩
 ·simp only [Env.of,XO,cG,Nat.sub_zero,Tr.get_nil] at h
  split at h
  ·rename_i hb
   show P.info? t=some i
   unfold Tables.info?
   rw [ar (by simpa using hb.2)]
   simpa using h
  ·cases h
 ·simp only [Env.of,XO,cG,Nat.sub_zero,Tr.get_nil] at h
  split at h
  ·rename_i g hg
   split at hg
   ·split at h
    ·rename_i c hb
     injection h with h;subst h
     rw [rS] at hg
     refine ⟨hg,by rw [hb];rfl,?_⟩
     rw [qU] at hn
     have:=hn g (by rw [Array.mem_toList_iff];exact Array.mem_of_getElem? hg)
     simpa using this
    ·cases h
   ·cases hg
  ·cases h
 ·simp only [Env.of,Ia] at h
  have⟨u,hu,hb⟩:=h
  obtain rfl:=nN hb
  rw [qU] at he
  have:=he t hu
  simp only [ae6,jX,Dd] at this
  refine ⟨this.1.1,this.1.2,λfs hfs f hff=>?_⟩
  have h3:=this.2
  have as4:P.underlying t=some (.struct fs):=hfs
  rw [as4] at h3
  simp only [qU] at h3
  have:=h3 f hff
  simpa using this
 ·simp only [Env.of,Ia] at h
  have⟨u,hu,hb⟩:=h
  obtain rfl:=nN hb
  exact hc f hu
noncomputable def Ad (E:Env):aa:=⟨.nil,E.ng⟩
def QH (E:Env):aJ:=λg=>if g<E.ng then some ⟨g,0,0,0⟩ else none
theorem agU (E:Env)(w:World):aO E w.heap.size (QH E) (Ad E) w where
 fresh i hi:=by
  have:¬i<E.ng:=by have:E.ng<=i:=hi;omega
  simp [QH,this]
 rj g hg:=⟨⟨g,0,0,0⟩,by simp [QH,hg],rfl,rfl⟩
 obj i o h _:=by simp [Ad,aa.get,Tr.get_nil] at h
 apart i j oi oj Li Lj h:=by simp [Ad,aa.get,Tr.get_nil] at h
 base:=bq _
theorem aqu {E:Env}(hE:E.Ok)(we:E.prog.follows .mixedOrders=true){n f:Nat}(h:(aF E n f [] (Ad E)).map (·.1)=some (.bool true))(w:World) :
  Calls E.prog f #[] w λe w'=>e=.returned (.bool true)/\Below w.heap.size w w':=by
 cases hs:aF E n f [] (Ad E) with
 |none=>rw [hs] at h;cases h
 |some p=>
  have⟨v,H'⟩:=p;rw [hs] at h;simp only [fa,bc] at h;subst h;refine (Zf hE we w.heap.size n f [] (Ad E) _ H' hs (QH E) w #[] (agU E w) .nil).mono ?_;rintro e w' ⟨V,aD,rfl,h1,h2,h3,h4⟩;cases h2;exact ⟨rfl,h4⟩
noncomputable def Env.W_ (E:Env)(l:List Nat):Env:={E with qL:=λf=>l.any (Nat.beq f)}
theorem Env.auW {E:Env}{l:List Nat}(hE:E.Ok)(h:∀f∈l,∀w:World,Calls E.prog f #[] w λe w'=>e=.returned (.bool true)/\Below w.heap.size w w'):(E.W_ l).Ok where
 ty:=hE.ty
 fn:=hE.fn
 qp:=hE.qp
 clone:=hE.clone
 qL:=λf hf=>by
  simp only [Env.W_,Ia] at hf
  have⟨u,hu,hb⟩:=hf
  obtain rfl:=nN hb
  exact h _ hu
end
section
noncomputable section
def aoM (E:Env)(e:Operand->Value)(H:aa)(x:Operand):Option bV:=some (.val (e x) H)
def aol (E:Env)(e:Operand->Value)(H:aa)(x:Operand):Option bV:=some (.val (e x) H)
def aoQ (E:Env)(e:Operand->Value)(H:aa)(c:Operand)(a:Operand)(b:Operand):Option bV:=(match e c with
  |.bool t=>some (.val (bif t then e a else e b) H)
  |_=>none)
def aok (E:Env)(e:Operand->Value)(H:aa)(elem:TypeId):Option bV:=(zeroV E elem).bind λz=>sN (uk H z)
def aon (E:Env)(e:Operand->Value)(H:aa)(elem:TypeId)(v:Operand):Option bV:=sN (uk H (e v))
def aoo (E:Env)(e:Operand->Value)(H:aa)(t:TypeId)(parts:Array (Nat×Operand)):Option bV:=aH E e (.build t parts) H
def aoq (E:Env)(e:Operand->Value)(H:aa)(t:TypeId)(len:Nat)(parts:Array (Nat×Operand)):Option bV:=aH E e (.buildSlice t len parts) H
def aoC (E:Env)(e:Operand->Value)(H:aa)(t:TypeId)(m:Operand)(k:Operand)(x:Operand):Option bV:=aH E e (.insert t m k x) H
def aoD (E:Env)(e:Operand->Value)(H:aa)(t:TypeId)(a:Operand):Option bV:=rv H (Av E H t (e a))
def aoY (E:Env)(e:Operand->Value)(H:aa)(t:TypeId)(a:Operand)(x:Operand):Option bV:=rh (CT E H t (e a) (e x))
def aoS (E:Env)(e:Operand->Value)(H:aa)(g:Nat):Option bV:=aH E e (.ready g) H
def ao1 (E:Env)(e:Operand->Value)(H:aa)(g:Nat):Option bV:=aH E e (.waits g) H
def aoO (E:Env)(e:Operand->Value)(H:aa)(x:Operand):Option bV:=(match e x with
  |.pointer (some a)=>some (.val (.pointer (some a)) H)
  |.func (.func f) fs cs=>some (.val (.func (.func f) fs cs) H)
  |_=>none)
def aom (E:Env)(e:Operand->Value)(H:aa)(op:BinOp)(t:TypeId)(x:Operand)(y:Operand)(u:TypeId):Option bV:=rv H (nb E H op t (e x) (e y))
def ao0 (E:Env)(e:Operand->Value)(H:aa)(op:UnOp)(t:TypeId)(x:Operand):Option bV:=rv H (MJ op (e x))
def aos (E:Env)(e:Operand->Value)(H:aa)(src:TypeId)(dst:TypeId)(x:Operand):Option bV:=rv H (Ou E src dst (e x))
def aoX (E:Env)(e:Operand->Value)(H:aa)(d:TypeId)(x:Operand):Option bV:=aH E e (.sliceToArrayPointer d x) H
def aoH (E:Env)(e:Operand->Value)(H:aa)(t:TypeId)(x:Operand):Option bV:=aH E e (.makeInterface t x) H
def aoG (E:Env)(e:Operand->Value)(H:aa)(f:Fn)(a:Array Operand)(b:Array Operand):Option bV:=aH E e (.makeFunc f a b) H
def aoI (E:Env)(e:Operand->Value)(H:aa)(t:TypeId)(r:Option Operand):Option bV:=aH E e (.makeMap t r) H
def aoF (E:Env)(e:Operand->Value)(H:aa)(t:TypeId)(s:Operand):Option bV:=aH E e (.makeChan t s) H
def aoJ (E:Env)(e:Operand->Value)(H:aa)(t:TypeId)(l:Operand)(c:Operand):Option bV:=aH E e (.makeSlice t l c) H
def aoW (E:Env)(e:Operand->Value)(H:aa)(t:TypeId)(x:Operand)(lo:Option Operand)(hi:Option Operand)(mx:Option Operand):Option bV:=aH E e (.slice t x lo hi mx) H
def aoy (E:Env)(e:Operand->Value)(H:aa)(s:TypeId)(x:Operand)(f:Nat):Option bV:=(match dq E s,e x with
  |some (.struct fields),.pointer (some ⟨i,o,none⟩)=>match fields[f]? with
   |some fd=>(cK E fd.type).bind λn=>if n=0 then none else some (.val (.pointer (some ⟨i,o+fd.offset,none⟩)) H)
   |none=>none
  |_,_=>none)
def aox (E:Env)(e:Operand->Value)(H:aa)(t:TypeId)(x:Operand)(f:Nat):Option bV:=(match dq E t,e x with
  |some (.struct fields),.agg cs=>match fields[f]? with
   |some fd=>rv H (vm E fd.type cs fd.offset)
   |none=>none
  |_,_=>none)
def aoB (E:Env)(e:Operand->Value)(H:aa)(t:TypeId)(x:Operand)(ix:Operand):Option bV:=(match dq E t,e x,e ix with
  |some (.slice el),.slice (some ⟨i,o,none⟩) len _,.int _ n=>(cK E el).bind λs=>
   if 0<=n/\n<len then some (.val (.pointer (some ⟨i,o+n.toNat*s,none⟩)) H) else none
  |some (.array len el),.pointer (some ⟨i,o,none⟩),.int _ n=>(cK E el).bind λs=>
   if 0<=n/\n<len then some (.val (.pointer (some ⟨i,o+n.toNat*s,none⟩)) H) else none
  |_,_,_=>none)
def aoA (E:Env)(e:Operand->Value)(H:aa)(t:TypeId)(x:Operand)(ix:Operand):Option bV:=aH E e (.index t x ix) H
def aoE (E:Env)(e:Operand->Value)(H:aa)(t:TypeId)(x:Operand)(k:Operand)(ok:Bool):Option bV:=rv H (G9 E H t (e x) (e k) ok)
def aoL (E:Env)(e:Operand->Value)(H:aa)(t:TypeId)(m:Operand)(k:Operand)(x:Operand):Option bV:=rh (Ax E H t (e m) (e k) (e x))
def aoK (E:Env)(e:Operand->Value)(H:aa)(t:TypeId)(m:Operand)(k:Operand):Option bV:=aH E e (.mapEntry t m k) H
def aov (E:Env)(e:Operand->Value)(H:aa)(t:TypeId)(m:Operand)(st:Operand)(v:Operand):Option bV:=aH E e (.entryStore t m st v) H
def aoR (E:Env)(e:Operand->Value)(H:aa)(t:TypeId)(x:Operand):Option bV:=aH E e (.range t x) H
def aoN (E:Env)(e:Operand->Value)(H:aa)(i:Operand)(s:Bool):Option bV:=aH E e (.next i s) H
def aou (E:Env)(e:Operand->Value)(H:aa)(i:Operand):Option bV:=aH E e (.entry i) H
def aoZ (E:Env)(e:Operand->Value)(H:aa)(x:Operand)(t:TypeId)(a:TypeId)(ok:Bool):Option bV:=aH E e (.typeAssert x t a ok) H
def aow (E:Env)(e:Operand->Value)(H:aa)(t:Operand)(ix:Nat):Option bV:=(match e t with
  |.tuple vs=>match vs[ix]? with
   |some v=>some (.val v H)
   |none=>none
  |_=>none)
def aor (E:Env)(e:Operand->Value)(H:aa)(c:Call):Option bV:=(match c.callee with
  |.value f=>DN E H (e f) (c.args.toList.map e)
  |.builtin b=>yp E H b c.argTypes (c.args.toList.map e)
  |.invoke _ _=>none)
def aoz (E:Env)(e:Operand->Value)(H:aa)(c:Call):Option bV:=aH E e (.go c) H
def aot (E:Env)(e:Operand->Value)(H:aa)(c:Call):Option bV:=aH E e (.defer c) H
def aoP (E:Env)(e:Operand->Value)(H:aa)(x:Operand):Option bV:=aH E e (.panic x) H
def aoV (E:Env)(e:Operand->Value)(H:aa)(c:Operand)(x:Operand):Option bV:=aH E e (.send c x) H
def aoT (E:Env)(e:Operand->Value)(H:aa)(t:TypeId)(c:Operand)(ok:Bool):Option bV:=aH E e (.recv t c ok) H
def aoU (E:Env)(e:Operand->Value)(H:aa)(cs:Array SelectCase)(b:Bool):Option bV:=aH E e (.select cs b) H
def T4 (E:Env)(e:Operand->Value)(op:Op)(H:aa):Option bV:=
 Op.rec (motive:=λ_=>Option bV)
  (λx=>aoM E e H x)
  (λx=>aol E e H x)
  (λc a b=>aoQ E e H c a b)
  (λelem=>aok E e H elem)
  (λelem v=>aon E e H elem v)
  (λt parts=>aoo E e H t parts)
  (λt len parts=>aoq E e H t len parts)
  (λt m k x=>aoC E e H t m k x)
  (λt a=>aoD E e H t a)
  (λt a x=>aoY E e H t a x)
  (λg=>aoS E e H g)
  (λg=>ao1 E e H g)
  (λx=>aoO E e H x)
  (λop t x y u=>aom E e H op t x y u)
  (λop t x=>ao0 E e H op t x)
  (λsrc dst x=>aos E e H src dst x)
  (λd x=>aoX E e H d x)
  (λt x=>aoH E e H t x)
  (λf a b=>aoG E e H f a b)
  (λt r=>aoI E e H t r)
  (λt s=>aoF E e H t s)
  (λt l c=>aoJ E e H t l c)
  (λt x lo hi mx=>aoW E e H t x lo hi mx)
  (λs x f=>aoy E e H s x f)
  (λt x f=>aox E e H t x f)
  (λt x ix=>aoB E e H t x ix)
  (λt x ix=>aoA E e H t x ix)
  (λt x k ok=>aoE E e H t x k ok)
  (λt m k x=>aoL E e H t m k x)
  (λt m k=>aoK E e H t m k)
  (λt m st v=>aov E e H t m st v)
  (λt x=>aoR E e H t x)
  (λi s=>aoN E e H i s)
  (λi=>aou E e H i)
  (λx t a ok=>aoZ E e H x t a ok)
  (λt ix=>aow E e H t ix)
  (λc=>aor E e H c)
  (λc=>aoz E e H c)
  (λc=>aot E e H c)
  (λx=>aoP E e H x)
  (λc x=>aoV E e H c x)
  (λt c ok=>aoT E e H t c ok)
  (λcs b=>aoU E e H cs b)
  op
theorem ab3 (E:Env)(e:Operand->Value)(op:Op)(H:aa):T4 E e op H=aH E e op H:=by cases op<;>rfl
def Rz (aF:fp)(r:Option bV)(H:aa):Option (Value×aa):=
 Option.rec (motive:=λ_=>Option (Value×aa)) none (λr=>bV.rec (motive:=λ_=>Option (Value×aa)) (λv H'=>some (v,H')) (λf args=>aF f args H) r) r
theorem akD (aF:fp)(r:Option bV)(H:aa):Rz aF r H=kH aF r H:=by
 cases r with
 |none=>rfl
 |some r=>cases r<;>rfl
def RX (E:Env)(aF:fp)(ops:Array Oper)(o:Oper)(s:St):Option St:=
 Option.rec (motive:=λ_=>Option St) none
  (λb=>Bool.rec (motive:=λ_=>Option St) (some ⟨jt s.T o.dst undef,s.H⟩)
   (Option.rec (motive:=λ_=>Option St) none (λp=>some ⟨jt s.T o.dst p.1,p.2⟩) (Rz aF (T4 E (ev E s.T) o.op s.H) s.H)) b) (lg ops s.T o)
theorem axV (E:Env)(aF:fp)(ops:Array Oper)(o:Oper)(s:St):RX E aF ops o s=vx E aF ops o s:=by
 unfold RX vx;rw [akD,ab3];cases lg ops s.T o with
 |none=>rfl
 |some b=>cases b with
  |false=>rfl
  |true=>simp only;cases kH aF (aH E (ev E s.T) o.op s.H) s.H<;>rfl
def RF (E:Env)(aF:fp)(ops:Array Oper)(l:List Oper):St->Option St:=
 List.rec (motive:=λ_=>St->Option St) (λs=>some s) (λo _ ih s=>Option.rec (motive:=λ_=>Option St) none (λs'=>ih s') (RX E aF ops o s)) l
theorem akM (E:Env)(aF:fp)(ops:Array Oper):∀(l:List Oper)(s:St),RF E aF ops l s=pT E aF ops l s
 |[],s=>rfl
 |o::l,s=>by
  show Option.rec (motive:=λ_=>Option St) none (λs'=>RF E aF ops l s') (RX E aF ops o s)=pT E aF ops (o::l) s
  rw [axV]
  simp only [pT]
  cases vx E aF ops o s with
  |none=>rfl
  |some s'=>exact akM E aF ops l s'
def N8 (bm:Bool)(E:Env)(base i:Nat)(e:Operand->Value)(op:Op)(H:aa):Option bV:=
 Bool.rec (motive:=λ_=>Option bV) (T4 E e op H) (tD bm E base i e op H) (eR bm op)
theorem apf (bm:Bool)(E:Env)(base i:Nat)(e:Operand->Value)(op:Op)(H:aa):N8 bm E base i e op H=tD bm E base i e op H:=by
 unfold N8;cases hb:eR bm op with
 |true=>rfl
 |false=>exact (ab3 E e op H).trans (N9 hb).symm
def L4 (bm:Bool)(E:Env)(aF:fp)(ops:Array Oper)(base:Nat)(l:List Oper):Nat->Tr Value->aa->Nat->List DR->List aa->Option (List DR×Tr Value×List aa×aa):=
 List.rec (motive:=λ_=>Nat->Tr Value->aa->Nat->List DR->List aa->Option (List DR×Tr Value×List aa×aa)) (λ_ T H _ rs hs=>some (rs,T,hs,H))
  (λo _ ih i T H k rs hs=>
   Option.rec (motive:=λ_=>Option (List DR×Tr Value×List aa×aa)) none
    (λb=>Bool.rec (motive:=λ_=>Option (List DR×Tr Value×List aa×aa)) (ih (i+1) (jt T o.dst undef) H k (⟨i,o,false,T,undef,k⟩::rs) hs)
     (Option.rec (motive:=λ_=>Option (List DR×Tr Value×List aa×aa)) none
      (λp=>Bool.rec (motive:=λ_=>Option (List DR×Tr Value×List aa×aa)) (ih (i+1) (jt T o.dst p.1) H k (⟨i,o,true,T,p.1,k⟩::rs) hs)
       (ih (i+1) (jt T o.dst p.1) p.2 (k+1) (⟨i,o,true,T,p.1,k⟩::rs) (hs++[p.2])) (hO bm o.op))
      (Rz aF (N8 bm E base i (ev E T) o.op H) H)) b)
    (lg ops T o)) l
theorem akg (bm:Bool)(E:Env)(aF:fp)(ops:Array Oper)(base:Nat):∀(l:List Oper)(i:Nat)(T:Tr Value)(H:aa)(k:Nat)(rs:List DR)(hs:List aa),
  L4 bm E aF ops base l i T H k rs hs=oN bm E aF ops base l i T H k rs hs
 |[],_,_,_,_,_,_=>rfl
 |o::l,i,T,H,k,rs,hs=>by
  have ih:=akg bm E aF ops base l
  simp only [oN]
  show Option.rec (motive:=λ_=>Option (List DR×Tr Value×List aa×aa)) none
    (λb=>Bool.rec (motive:=λ_=>Option (List DR×Tr Value×List aa×aa)) (L4 bm E aF ops base l (i+1) (jt T o.dst undef) H k (⟨i,o,false,T,undef,k⟩::rs) hs)
     (Option.rec (motive:=λ_=>Option (List DR×Tr Value×List aa×aa)) none
      (λp=>Bool.rec (motive:=λ_=>Option (List DR×Tr Value×List aa×aa)) (L4 bm E aF ops base l (i+1) (jt T o.dst p.1) H k (⟨i,o,true,T,p.1,k⟩::rs) hs)
       (L4 bm E aF ops base l (i+1) (jt T o.dst p.1) p.2 (k+1) (⟨i,o,true,T,p.1,k⟩::rs) (hs++[p.2])) (hO bm o.op))
      (Rz aF (N8 bm E base i (ev E T) o.op H) H)) b)
    (lg ops T o)=_
  rw [akD,apf]
  cases lg ops T o with
  |none=>rfl
  |some b=>cases b with
   |false=>exact ih _ _ _ _ _ _
   |true=>
    cases kH aF (tD bm E base i (ev E T) o.op H) H with
    |none=>rfl
    |some p=>
     have⟨v,H'⟩:=p
     simp only
     cases hO bm o.op with
     |true=>exact ih _ _ _ _ _ _
     |false=>exact ih _ _ _ _ _ _
def RD (bm:Bool)(E:Env)(aF:fp)(ops:Array Oper)(os:List Obj)(s:St):Option St:=
 match vp bm E s.H.next ops.toList 0 os s.H.tr with
 |none=>none
 |some tr=>
  match L4 bm E aF ops s.H.next ops.toList 0 s.T ⟨tr,s.H.next+ops.size⟩ 0 [] [⟨tr,s.H.next+ops.size⟩] with
  |some (rs,T,hs,H)=>bif CQ bm E s.H.next (Fa bm ops (iM ops.toList [])) (iM ops.toList []) rs hs (hs.length - 1) rs then some ⟨T,H⟩ else none
  |none=>none
def RE (E:Env)(aF:fp)(ops:Array Oper)(s:St):Option St:=
 bif pW false ops then RD false E aF ops [] s
 else bif pW true ops then (match uq E aF ops s.H.next ops.toList 0 s.T ⟨s.H.tr,s.H.next+ops.size⟩ [] with
  |some os=>RD true E aF ops os s
  |none=>none)
 else none
theorem aw7 (bm:Bool)(E:Env)(aF:fp)(ops:Array Oper)(os:List Obj)(s:St):RD bm E aF ops os s=xQ bm E aF ops os s:=by
 unfold RD xQ;simp only [akg]<;>rfl
theorem aw8 (E:Env)(aF:fp)(ops:Array Oper)(s:St):RE E aF ops s=vu E aF ops s:=by
 unfold RE vu;simp only [aw7]<;>rfl
def R3 (k:St->Option (X×St))(r:Option (X×St)):Option (X×St):=
 Option.rec (motive:=λ_=>Option (X×St)) none (λp=>X.rec (motive:=λ_=>Option (X×St)) (k p.2) (λi=>some (.exit i,p.2)) (some (.ret,p.2)) p.1) r
def Q0 (f:St->Option (X×St))(n:Nat):St->Option (X×St):=
 Nat.rec (motive:=λ_=>St->Option (X×St)) (λ_=>none) (λ_ ih s=>R3 ih (f s)) n
theorem ail (f g:St->Option (X×St))(h:∀s,f s=g s):∀(n:Nat)(s:St),Q0 f n s=tY g n s
 |0,s=>rfl
 |n+1,s=>by
  show R3 (Q0 f n) (f s)=_
  rw [h]
  simp only [tY]
  cases g s with
  |none=>rfl
  |some p=>
   have⟨x,s'⟩:=p
   cases x with
   |normal=>exact ail f g h n s'
   |exit i=>rfl
   |ret=>rfl
def AM (E:Env)(aF:fp)(n:Nat)(c:Code):St->Option (X×St):=
 Code.rec (motive:=λ_=>St->Option (X×St)) (λs=>some (.normal,s))
  (λ_ ops d s=>Option.rec (motive:=λ_=>Option (X×St)) none (λs'=>some (.normal,s')) (Bool.rec (motive:=λ_=>Option St) (RF E aF ops ops.toList s) (RE E aF ops s) d))
  (λ_ _ ia ib s=>R3 ib (ia s))
  (λc _ _ ia ib s=>match ev E s.T c with
   |.bool t=>Bool.rec (motive:=λ_=>Option (X×St)) (ib s) (ia s) t
   |_=>none)
  (λid _ ib s=>Option.rec (motive:=λ_=>Option (X×St)) none (λp=>X.rec (motive:=λ_=>Option (X×St)) (some (.normal,p.2)) (λj=>bif Nat.beq j id then some (.normal,p.2) else some (.exit j,p.2)) (some (.ret,p.2)) p.1) (ib s))
  (λ_ ib s=>Q0 ib n s)
  (λ_ _ _ _ _ _ _=>none)
  (λid s=>some (.exit id,s))
  (λ_ ib s=>ib s)
  (λ_ s=>some (.normal,s))
  (λ_ _=>none)
  (λs=>some (.ret,s))
  (λ_ _=>none) c
theorem aw5 (E:Env)(aF:fp)(n:Nat):∀(c:Code)(s:St),AM E aF n c s=cP E aF n c s:=by
 intro c
 induction c with
 |region id ops d=>
  intro s;show Option.rec (motive:=λ_=>Option (X×St)) none (λs'=>some (.normal,s')) (Bool.rec (motive:=λ_=>Option St) (RF E aF ops ops.toList s) (RE E aF ops s) d)=_;rw [aw8];simp only [cP];cases d with
  |true=>simp only [bQ];cases vu E aF ops s<;>rfl
  |false=>simp only [cQ];rw [akM];cases pT E aF ops ops.toList s<;>rfl
 |seq a b oe nu=>
  intro s;show R3 (AM E aF n b) (AM E aF n a s)=_;rw [oe,funext nu];simp only [cP];cases cP E aF n a s with
  |none=>rfl
  |some p=>have⟨x,s'⟩:=p;cases x<;>rfl
 |cond c a b oe nu=>
  intro s;show (match ev E s.T c with
   |.bool t=>Bool.rec (motive:=λ_=>Option (X×St)) (AM E aF n b s) (AM E aF n a s) t
   |_=>none)=_
  simp only [cP];cases ev E s.T c with
  |bool t=>cases t with
   |true=>exact oe s
   |false=>exact nu s
  |_=>rfl
 |block id a ih=>
  intro s;show Option.rec (motive:=λ_=>Option (X×St)) none (λp=>X.rec (motive:=λ_=>Option (X×St)) (some (.normal,p.2)) (λj=>bif Nat.beq j id then some (.normal,p.2) else some (.exit j,p.2)) (some (.ret,p.2)) p.1) (AM E aF n a s)=_;rw [ih];simp only [cP];cases cP E aF n a s with
  |none=>rfl
  |some p=>have⟨x,s'⟩:=p;cases x<;>rfl
 |loop a ih=>
  intro s;show Q0 (AM E aF n a) n s=_;simp only [cP];exact ail _ _ ih n s
 |scope a ih=>intro s;exact ih s
 |_=>intro s;rfl
def Mm (E:Env)(n:Nat):fp:=
 Nat.rec (motive:=λ_=>fp) (λ_ _ _=>none)
  (λn ih f args H=>bif E.qL f&&args.isEmpty then some (.bool true,H) else match E.fn f with
   |some fn=>match fn.body with
    |some c=>match yS fn args with
     |some T=>match AM E ih n c ⟨T,H⟩ with
      |some (.normal,s)=>(mV E s fn.results.toList).map λvs=>(rJ vs,s.H)
      |some (.ret,s)=>(mV E s fn.results.toList).map λvs=>(rJ vs,s.H)
      |_=>none
     |none=>none
    |none=>none
   |none=>none) n
theorem akX (E:Env):∀n,Mm E n=aF E n
 |0=>rfl
 |n+1=>by
  have ih:=akX E n
  funext f args H
  show (bif E.qL f&&args.isEmpty then some (.bool true,H) else match E.fn f with
   |some fn=>match fn.body with
    |some c=>match yS fn args with
     |some T=>match AM E (Mm E n) n c ⟨T,H⟩ with
      |some (.normal,s)=>(mV E s fn.results.toList).map λvs=>(rJ vs,s.H)
      |some (.ret,s)=>(mV E s fn.results.toList).map λvs=>(rJ vs,s.H)
      |_=>none
     |none=>none
    |none=>none
   |none=>none)=_
  rw [ih]
  simp only [aw5,aF]<;>rfl
end
theorem aex {E:Env}(hE:E.Ok)(we:E.prog.follows .mixedOrders=true){n f:Nat}(h:(Mm E n f [] (Ad E)).map (·.1)=some (.bool true))(w:World) :
  Calls E.prog f #[] w λe w'=>e=.returned (.bool true)/\Below w.heap.size w w':=aqu hE we (by rw [<-akX];exact h) w
end
end Go.AS
namespace Go.Proofs.YtjggeoghlicmdaaGreat
open Go.AS
section
noncomputable def HW:Tr TypeInfo:=Tr.CM Tryz.prog.types.toList 0 .nil
noncomputable def fns:Tr Func:=Tr.CM Tryz.prog.funcs.toList 0 .nil
noncomputable def env:Env:=Env.of Tryz.prog HW fns [166] [297]
theorem UY:env.Ok:=by
 refine Env.awg rfl rfl (by kernel_rfl) (by kernel_rfl) ?_;intro f hf;simp only [dU,Ib,Db] at hf;subst hf;exact ⟨Tryz.f297,by kernel_rfl,by kernel_rfl,by kernel_rfl,by kernel_rfl,by kernel_rfl⟩
theorem ae3:env.prog.follows .mixedOrders=true:=Checked.mixed Tryz.checked
end
open Go.AS Go.RowKit
section
theorem awH:(Mm env 1000 11 [] (Ad env)).map (·.1)=some (.bool true):=by kernel_rfl
theorem awI:(Mm env 1000 30 [] (Ad env)).map (·.1)=some (.bool true):=by kernel_rfl
noncomputable def en:Env:=env.W_ [11,30]
theorem aq_:en.Ok:=by
 refine Env.auW UY ?_;intro f hf w;simp only [dU,Ib,Db] at hf;rcases hf with rfl|rfl
 ·exact aex UY ae3 awH w
 ·exact aex UY ae3 awI w
theorem aq9:en.prog.follows .mixedOrders=true:=Checked.mixed Tryz.checked
end
section
abbrev F.Ul:Nat:=8
abbrev F.F9:Nat:=12
abbrev F.Ow:Nat:=15
abbrev F.F8:Nat:=16
abbrev F.RP:Nat:=17
abbrev F.Vp:Nat:=18
abbrev F.Mv:Nat:=19
abbrev F.Pf:Nat:=21
abbrev F.pV:Nat:=22
abbrev F.y0:Nat:=23
abbrev F.Vo:Nat:=24
abbrev F.RQ:Nat:=25
abbrev F.VZ:Nat:=28
abbrev F.aeD:Nat:=30
abbrev F.BW:Nat:=33
abbrev F.V3:Nat:=34
abbrev F.V1:Nat:=35
abbrev F.V7:Nat:=36
abbrev F.J4:Nat:=37
abbrev F.V8:Nat:=39
abbrev F.V0:Nat:=40
abbrev F.Uz:Nat:=42
abbrev F.Um:Nat:=43
abbrev F.Uk:Nat:=44
abbrev F.UD:Nat:=45
abbrev F.Ox:Nat:=46
abbrev F.Uo:Nat:=47
abbrev F.Un:Nat:=48
abbrev F.RS:Nat:=57
abbrev F.Vq:Nat:=63
abbrev F.xV:Nat:=64
abbrev F.Zq:Nat:=65
abbrev F.Zr:Nat:=66
abbrev F.Pg:Nat:=67
abbrev F.V2:Nat:=68
abbrev F.BY:Nat:=69
abbrev F.yJ:Nat:=70
abbrev F.Gd:Nat:=71
abbrev F.GB:Nat:=72
abbrev F.PI:Nat:=73
abbrev F.Pv:Nat:=74
abbrev F.PA:Nat:=75
abbrev F.Mu:Nat:=76
abbrev F.z8:Nat:=77
abbrev F.V_:Nat:=78
abbrev F.PW:Nat:=79
abbrev F.J5:Nat:=80
abbrev F.z_:Nat:=81
abbrev F.Pw:Nat:=82
abbrev F.BZ:Nat:=83
abbrev F.wB:Nat:=84
abbrev F.UE:Nat:=85
abbrev F.OI:Nat:=86
abbrev F.lR:Nat:=87
abbrev F.Ga:Nat:=88
abbrev F.F_:Nat:=89
abbrev F.UC:Nat:=90
abbrev F.DQ:Nat:=91
abbrev F.OM:Nat:=103
abbrev F.E7:Nat:=107
abbrev F.Zs:Nat:=115
abbrev F.Zm:Nat:=116
abbrev F.Ph:Nat:=117
abbrev F.E9:Nat:=118
abbrev F.J3:Nat:=119
abbrev F.Xo:Nat:=120
abbrev F.J0:Nat:=121
abbrev F.uV:Nat:=122
abbrev F.Xp:Nat:=123
abbrev F.JZ:Nat:=124
abbrev F.PJ:Nat:=125
abbrev F.PK:Nat:=126
abbrev F.mK:Nat:=127
abbrev F.Ek:Nat:=128
abbrev F.xi:Nat:=129
abbrev F.ru:Nat:=130
abbrev F.rq:Nat:=131
abbrev F.ry:Nat:=132
abbrev F.J6:Nat:=133
abbrev F.J7:Nat:=134
abbrev F.QV:Nat:=135
abbrev F.Uq:Nat:=136
abbrev F.OJ:Nat:=137
abbrev F.UF:Nat:=138
abbrev F.DS:Nat:=139
abbrev F.V9:Nat:=140
abbrev F.OH:Nat:=141
abbrev F.OK:Nat:=142
abbrev F.Uw:Nat:=143
abbrev F.Jy:Nat:=144
abbrev F.aeC:Nat:=145
abbrev F.UH:Nat:=161
abbrev F.Zt:Nat:=167
abbrev F.Mw:Nat:=168
abbrev F.RO:Nat:=169
abbrev F.PD:Nat:=170
abbrev F.PM:Nat:=171
abbrev F.V4:Nat:=172
abbrev F.GC:Nat:=173
abbrev F.PF:Nat:=174
abbrev F.PG:Nat:=175
abbrev F.PB:Nat:=176
abbrev F.V5:Nat:=177
abbrev F.PH:Nat:=178
abbrev F.BX:Nat:=179
abbrev F.QW:Nat:=180
abbrev F.J2:Nat:=181
abbrev F.PC:Nat:=182
abbrev F.z9:Nat:=183
abbrev F.Py:Nat:=184
abbrev F.Ej:Nat:=185
abbrev F.xU:Nat:=186
abbrev F.PR:Nat:=187
abbrev F.PO:Nat:=188
abbrev F.QZ:Nat:=189
abbrev F.Us:Nat:=190
abbrev F.aeG:Nat:=191
abbrev F.BO:Nat:=192
abbrev F.Up:Nat:=193
abbrev F.UA:Nat:=194
abbrev F.PU:Nat:=195
abbrev F.PV:Nat:=196
abbrev F.Ux:Nat:=197
abbrev F.Oz:Nat:=198
abbrev F.aeF:Nat:=199
abbrev F.aqx:Nat:=200
abbrev F.OD:Nat:=201
abbrev F.JP:Nat:=221
abbrev F.nU:Nat:=229
abbrev F.zS:Nat:=230
abbrev F.Q3:Nat:=231
abbrev F.PN:Nat:=237
abbrev F.V6:Nat:=238
abbrev F.QY:Nat:=239
abbrev F.B1:Nat:=240
abbrev F.HQ:Nat:=241
abbrev F.Px:Nat:=242
abbrev F.J1:Nat:=243
abbrev F.E8:Nat:=244
abbrev F.Z0:Nat:=245
abbrev F.PS:Nat:=246
abbrev F.PT:Nat:=247
abbrev F.Em:Nat:=248
abbrev F.PQ:Nat:=249
abbrev F.yq:Nat:=250
abbrev F.Gb:Nat:=251
abbrev F.iH:Nat:=252
abbrev F.UB:Nat:=253
abbrev F.Ur:Nat:=254
abbrev F.Oy:Nat:=255
abbrev F.Uy:Nat:=256
abbrev F.OG:Nat:=257
abbrev F.Uu:Nat:=258
abbrev F.Gc:Nat:=259
abbrev F.OE:Nat:=260
abbrev F.aeE:Nat:=261
abbrev F.Ut:Nat:=262
abbrev F.Uv:Nat:=263
abbrev F.OC:Nat:=264
abbrev F.OF:Nat:=265
abbrev F.RR:Nat:=275
abbrev F.Zl:Nat:=276
abbrev F.Pe:Nat:=277
abbrev F.aiz:Nat:=278
abbrev F.QX:Nat:=289
abbrev F.Zp:Nat:=290
abbrev F.Z1:Nat:=291
abbrev F.amb:Nat:=292
abbrev F.Jx:Nat:=293
abbrev F.amc:Nat:=298
end
end Go.Proofs.YtjggeoghlicmdaaGreat
namespace Go.AS
open Go.RowKit
section
section
variable {E:Env}
def zE (fs gs:fp):Prop:=∀f a H r,fs f a H=some r->gs f a H=some r
theorem HF {fs gs:fp}(h:zE fs gs){r:Option bV}{H:aa}{p:Value×aa}(hr:kH fs r H=some p):kH gs r H=some p:=by
 cases r with
 |none=>cases hr
 |some r=>cases r with
  |val v H'=>exact hr
  |call f args=>exact h _ _ _ _ hr
theorem axU {fs gs:fp}(h:zE fs gs){ops:Array Oper}{o:Oper}{s s':St}(hr:vx E fs ops o s=some s'):vx E gs ops o s=some s':=by
 unfold vx at hr⊢;cases hw:lg ops s.T o with
 |none=>rw [hw] at hr;cases hr
 |some b=>
  rw [hw] at hr;cases b with
  |false=>exact hr
  |true=>
   simp only at hr⊢;cases hx:kH fs (aH E (ev E s.T) o.op s.H) s.H with
   |none=>rw [hx] at hr;cases hr
   |some p=>rw [hx] at hr;rw [HF h hx];exact hr
theorem Yr {fs gs:fp}(h:zE fs gs){ops:Array Oper}:∀{l:List Oper}{s s':St},pT E fs ops l s=some s'->pT E gs ops l s=some s'
 |[],s,s',hr=>hr
 |o::l,s,s',hr=>by
  simp only [pT] at hr⊢
  cases hx:vx E fs ops o s with
  |none=>rw [hx] at hr;cases hr
  |some s1=>rw [hx] at hr;rw [axU h hx];exact Yr h hr
theorem HA {bm:Bool}{fs gs:fp}(h:zE fs gs){ops:Array Oper}{base:Nat}:∀{l:List Oper}{i:Nat}{T:Tr Value}{H:aa}{k:Nat}{rs:List DR}{hs:List aa}{r:List DR×Tr Value×List aa×aa},
  oN bm E fs ops base l i T H k rs hs=some r->oN bm E gs ops base l i T H k rs hs=some r
 |[],_,_,_,_,_,_,_,hr=>hr
 |o::l,i,T,H,k,rs,hs,r,hr=>by
  simp only [oN] at hr⊢
  cases hw:lg ops T o with
  |none=>rw [hw] at hr;cases hr
  |some b=>
   rw [hw] at hr
   cases b with
   |false=>exact HA h hr
   |true=>
    simp only at hr⊢
    cases hx:kH fs (tD bm E base i (ev E T) o.op H) H with
    |none=>rw [hx] at hr;cases hr
    |some p=>
     have⟨v,H'⟩:=p
     rw [hx] at hr;rw [HF h hx]
     simp only at hr⊢
     cases hl:hO bm o.op with
     |true=>rw [hl] at hr;exact HA h hr
     |false=>rw [hl] at hr;exact HA h hr
theorem Hz {fs gs:fp}(h:zE fs gs){ops:Array Oper}{base:Nat}:∀{l:List Oper}{i:Nat}{T:Tr Value}{H:aa}{os r:List Obj},
  uq E fs ops base l i T H os=some r->uq E gs ops base l i T H os=some r
 |[],_,_,_,_,_,hr=>hr
 |o::l,i,T,H,os,r,hr=>by
  simp only [uq] at hr⊢
  cases hw:lg ops T o with
  |none=>rw [hw] at hr;cases hr
  |some b=>
   rw [hw] at hr
   cases b with
   |false=>exact Hz h hr
   |true=>
    simp only at hr⊢
    cases hb:eR true o.op with
    |true=>
     rw [hb] at hr
     simp only [bQ] at hr⊢
     cases hx:sh E (ev E T) o.op with
     |none=>rw [hx] at hr;cases hr
     |some p=>rw [hx] at hr;exact Hz h hr
    |false=>
     rw [hb] at hr
     simp only [cQ] at hr⊢
     cases hx:kH fs (aH E (ev E T) o.op H) H with
     |none=>rw [hx] at hr;cases hr
     |some p=>
      have⟨v,H'⟩:=p
      rw [hx] at hr;rw [HF h hx]
      exact Hz h hr
theorem Yq {bm:Bool}{fs gs:fp}(h:zE fs gs){ops:Array Oper}{os:List Obj}{s s':St}(hr:xQ bm E fs ops os s=some s'):xQ bm E gs ops os s=some s':=by
 unfold xQ at hr⊢;cases hp:vp bm E s.H.next ops.toList 0 os s.H.tr with
 |none=>rw [hp] at hr;cases hr
 |some tr=>
 rw [hp] at hr;simp only at hr⊢;cases hx:oN bm E fs ops s.H.next ops.toList 0 s.T ⟨tr,s.H.next+ops.size⟩ 0 [] [⟨tr,s.H.next+ops.size⟩] with
 |none=>rw [hx] at hr;cases hr
 |some r=>rw [hx] at hr;rw [HA h hx];exact hr
theorem aw9 {fs gs:fp}(h:zE fs gs){ops:Array Oper}{s s':St}(hr:vu E fs ops s=some s'):vu E gs ops s=some s':=by
 unfold vu at hr⊢;cases cB:pW false ops with
 |true=>rw [cB] at hr;exact Yq h hr
 |false=>
  rw [cB] at hr;simp only [cQ] at hr⊢;cases KF:pW true ops with
  |false=>rw [KF] at hr;cases hr
  |true=>
   rw [KF] at hr;simp only [bQ] at hr⊢;cases hx:uq E fs ops s.H.next ops.toList 0 s.T ⟨s.H.tr,s.H.next+ops.size⟩ [] with
   |none=>rw [hx] at hr;cases hr
   |some os=>rw [hx] at hr;rw [Hz h hx];exact Yq h hr
theorem Xr {f g:St->Option (X×St)}(h:∀s r,f s=some r->g s=some r):∀{n m:Nat}{s:St}{r:X×St},n<=m->tY f n s=some r->tY g m s=some r
 |0,_,_,_,_,hr=>by simp [tY] at hr
 |n+1,0,_,_,hle,_=>by omega
 |n+1,m+1,s,r,hle,hr=>by
  simp only [tY] at hr⊢
  cases hx:f s with
  |none=>rw [hx] at hr;cases hr
  |some p=>
   have⟨x,s1⟩:=p
   rw [hx] at hr
   rw [h _ _ hx]
   cases x with
   |normal=>exact Xr h (by omega) hr
   |exit id=>exact hr
   |ret=>exact hr
theorem ER {fs gs:fp}(h:zE fs gs){n m:Nat}(hle:n<=m):∀(c:Code)(s:St)(r:X×St),cP E fs n c s=some r->cP E gs m c s=some r:=by
 intro c
 induction c with
 |region id ops d=>
  intro s r hr;simp only [cP] at hr⊢;cases d with
  |true=>
   simp only [bQ] at hr⊢;cases hx:vu E fs ops s with
   |none=>rw [hx] at hr;cases hr
   |some s1=>rw [hx] at hr;rw [aw9 h hx];exact hr
  |false=>
   simp only [cQ] at hr⊢;cases hx:pT E fs ops ops.toList s with
   |none=>rw [hx] at hr;cases hr
   |some s1=>rw [hx] at hr;rw [Yr h hx];exact hr
 |seq a b oe nu=>
  intro s r hr;simp only [cP] at hr⊢;cases hx:cP E fs n a s with
  |none=>rw [hx] at hr;cases hr
  |some p=>
   have⟨x,s1⟩:=p;rw [hx] at hr;rw [oe _ _ hx];cases x with
   |normal=>exact nu _ _ hr
   |exit id=>exact hr
   |ret=>exact hr
 |cond c a b oe nu=>
  intro s r hr;simp only [cP] at hr⊢;split at hr
  ·rename_i t hc;cases t with
   |true=>exact oe _ _ hr
   |false=>exact nu _ _ hr
  ·cases hr
 |block id a ih=>
  intro s r hr;simp only [cP] at hr⊢;cases hx:cP E fs n a s with
  |none=>rw [hx] at hr;cases hr
  |some p=>
   have⟨x,s1⟩:=p;rw [hx] at hr;rw [ih _ _ hx];exact hr
 |loop a ih=>
  intro s r hr;simp only [cP] at hr⊢;exact Xr (λs r=>ih s r) hle hr
 |scope a ih=>
  intro s r hr;simp only [cP] at hr⊢;exact ih _ _ hr
 |_=>intro s r hr;exact hr
theorem qJ:∀{n m:Nat},n<=m->zE (aF E n) (aF E m)
 |0,_,_=>by intro f a H r h;simp [aF] at h
 |n+1,0,hle=>by omega
 |n+1,m+1,hle=>by
  intro f a H r h
  simp only [aF] at h⊢
  cases ht:(E.qL f&&a.isEmpty) with
  |true=>rw [ht] at h;exact h
  |false=>
  rw [ht] at h
  simp only [cQ] at h⊢
  cases hf:E.fn f with
  |none=>rw [hf] at h;cases h
  |some fn=>
   rw [hf] at h
   simp only at h⊢
   cases hb:fn.body with
   |none=>rw [hb] at h;cases h
   |some c=>
    rw [hb] at h
    simp only at h⊢
    cases hi:yS fn a with
    |none=>rw [hi] at h;cases h
    |some T=>
     rw [hi] at h
     simp only at h⊢
     cases hr:cP E (aF E n) n c ⟨T,H⟩ with
     |none=>rw [hr] at h;cases h
     |some p=>
      rw [hr] at h
      rw [ER (qJ (show n<=m by omega)) (by omega) _ _ _ hr]
      exact h
def CA (E:Env)(f:FuncId)(args:List Value)(H:aa)(R:Value->aa->Prop):Prop:=∃n v H',aF E n f args H=some (v,H')/\R v H'
def WA (E:Env)(c:Code)(T:Tr Value)(H:aa)(Q:X->Tr Value->aa->Prop):Prop:=∃n x s',cP E (aF E n) n c ⟨T,H⟩=some (x,s')/\Q x s'.T s'.H
def OA (E:Env)(ops:Array Oper)(l:List Oper)(T:Tr Value)(H:aa)(Q:Tr Value->aa->Prop):Prop:=∃n s',pT E (aF E n) ops l ⟨T,H⟩=some s'/\Q s'.T s'.H
theorem CA.mono {f:FuncId}{args:List Value}{H:aa}{R R':Value->aa->Prop}(h:CA E f args H R)(hr:∀v H',R v H'->R' v H'):CA E f args H R':=
 let ⟨n,v,H',h1,h2⟩:=h;⟨n,v,H',h1,hr _ _ h2⟩
theorem WA.mono {c:Code}{T:Tr Value}{H:aa}{Q Q':X->Tr Value->aa->Prop}(h:WA E c T H Q)(hr:∀x T H,Q x T H->Q' x T H):WA E c T H Q':=
 let ⟨n,x,s,h1,h2⟩:=h;⟨n,x,s,h1,hr _ _ _ h2⟩
def NY (K:Tr Value->aa->Prop)(Q:X->Tr Value->aa->Prop):X->Tr Value->aa->Prop
 |.normal=>K
 |x=>Q x
def NX (id:Nat)(Q:X->Tr Value->aa->Prop):X->Tr Value->aa->Prop
 |.exit j=>if j=id then Q .normal else Q (.exit j)
 |x=>Q x
theorem abg {a b:Code}{T:Tr Value}{H:aa}{Q:X->Tr Value->aa->Prop}(h:WA E a T H (NY (λT H=>WA E b T H Q) Q)):WA E (.seq a b) T H Q:=by
 have⟨n,x,s,h1,h2⟩:=h;cases x with
 |normal=>
  have⟨m,y,s2,h3,h4⟩:=h2;refine ⟨max n m,y,s2,?_,h4⟩;simp only [cP];rw [ER (qJ (Fv n m)) (Fv n m) _ _ _ h1];exact ER (qJ (C_ n m)) (C_ n m) _ _ _ h3
 |exit id=>exact ⟨n,_,s,by simp only [cP];rw [h1],h2⟩
 |ret=>exact ⟨n,_,s,by simp only [cP];rw [h1],h2⟩
theorem abb {c:Operand}{a b:Code}{T:Tr Value}{H:aa}{Q:X->Tr Value->aa->Prop}{t:Bool}(hc:ev E T c=.bool t)(h:if t=true then WA E a T H Q else WA E b T H Q):WA E (.cond c a b) T H Q:=by
 cases t with
 |true=>
  have⟨n,x,s,h1,h2⟩:=(by simpa using h:WA E a T H Q);exact ⟨n,x,s,by simp only [cP];rw [hc];exact h1,h2⟩
 |false=>
  have⟨n,x,s,h1,h2⟩:=(by simpa using h:WA E b T H Q);exact ⟨n,x,s,by simp only [cP];rw [hc];exact h1,h2⟩
theorem aba {id:Nat}{a:Code}{T:Tr Value}{H:aa}{Q:X->Tr Value->aa->Prop}(h:WA E a T H (NX id Q)):WA E (.block id a) T H Q:=by
 have⟨n,x,s,h1,h2⟩:=h;cases x with
 |normal=>exact ⟨n,.normal,s,by simp only [cP];rw [h1],h2⟩
 |ret=>exact ⟨n,.ret,s,by simp only [cP];rw [h1],h2⟩
 |exit j=>
  simp only [NX] at h2;by_cases e:j=id
  ·subst e;rw [ar rfl] at h2;exact ⟨n,.normal,s,by simp only [cP];rw [h1];simp,h2⟩
  ·rw [an e] at h2;refine ⟨n,.exit j,s,?_,h2⟩;simp only [cP];rw [h1];simp only
   have:Nat.beq j id=false:=by
    cases hb:Nat.beq j id with
    |false=>rfl
    |true=>exact absurd (nN hb) e
   rw [this];rfl
theorem aoe {a:Code}{T:Tr Value}{H:aa}{Q:X->Tr Value->aa->Prop}(h:WA E a T H (NY (λT H=>WA E (.loop a) T H Q) Q)):WA E (.loop a) T H Q:=by
 have⟨n,x,s,h1,h2⟩:=h;cases x with
 |normal=>
  have⟨m,y,s2,h3,h4⟩:=h2;refine ⟨max n m+1,y,s2,?_,h4⟩;simp only [cP,tY];rw [ER (qJ (show n<=max n m+1 by omega)) (show n<=max n m+1 by omega) _ _ _ h1];simp only [cP] at h3;exact Xr (λs r hr=>ER (qJ (show m<=max n m+1 by omega)) (show m<=max n m+1 by omega) _ _ _ hr) (C_ n m) h3
 |exit id=>exact ⟨n+1,_,s,by simp only [cP,tY];rw [ER (qJ (zA n)) (zA n) _ _ _ h1],h2⟩
 |ret=>exact ⟨n+1,_,s,by simp only [cP,tY];rw [ER (qJ (zA n)) (zA n) _ _ _ h1],h2⟩
theorem abh {T:Tr Value}{H:aa}{Q:X->Tr Value->aa->Prop}(h:Q .normal T H):WA E .skip T H Q:=⟨0,.normal,⟨T,H⟩,rfl,h⟩
theorem abc {id:Nat}{T:Tr Value}{H:aa}{Q:X->Tr Value->aa->Prop}(h:Q (.exit id) T H):WA E (.exit id) T H Q:=⟨0,.exit id,⟨T,H⟩,rfl,h⟩
theorem abe {T:Tr Value}{H:aa}{Q:X->Tr Value->aa->Prop}(h:Q .ret T H):WA E .ret T H Q:=⟨0,.ret,⟨T,H⟩,rfl,h⟩
theorem abf {a:Code}{T:Tr Value}{H:aa}{Q:X->Tr Value->aa->Prop}(h:WA E a T H Q):WA E (.scope a) T H Q:=
 let ⟨n,x,s,h1,h2⟩:=h;⟨n,x,s,h1,h2⟩
theorem abd {id:Nat}{ops:Array Oper}{T:Tr Value}{H:aa}{Q:X->Tr Value->aa->Prop}(h:OA E ops ops.toList T H (Q .normal)):WA E (.region id ops false) T H Q:=by
 have⟨n,s,h1,h2⟩:=h;exact ⟨n,.normal,s,by simp only [cP,cQ];rw [h1],h2⟩
theorem an0 {ops:Array Oper}{T:Tr Value}{H:aa}{Q:Tr Value->aa->Prop}(h:Q T H):OA E ops [] T H Q:=⟨0,⟨T,H⟩,rfl,h⟩
def TR (E:Env)(o:Oper)(T:Tr Value)(H:aa)(K:Tr Value->aa->Prop):Option bV->Prop
 |some (.val v H')=>K (jt T o.dst v) H'
 |some (.call f args)=>CA E f args H λv H'=>K (jt T o.dst v) H'
 |none=>False
def NQ (E:Env)(o:Oper)(T:Tr Value)(H:aa)(K:Tr Value->aa->Prop):Option Bool->Prop
 |some true=>TR E o T H K (aH E (ev E T) o.op H)
 |some false=>K (jt T o.dst undef) H
 |none=>False
theorem aa0 {ops:Array Oper}{o:Oper}{l:List Oper}{T:Tr Value}{H:aa}{Q:Tr Value->aa->Prop}(h:NQ E o T H (λT H=>OA E ops l T H Q) (lg ops T o)):OA E ops (o::l) T H Q:=by
 cases hw:lg ops T o with
 |none=>rw [hw] at h;exact h.elim
 |some b=>
  rw [hw] at h;cases b with
  |false=>
   have⟨n,s,h1,h2⟩:=h;exact ⟨n,s,by simp only [pT,vx];rw [hw];exact h1,h2⟩
  |true=>
   simp only [NQ] at h;cases hr:aH E (ev E T) o.op H with
   |none=>rw [hr] at h;exact h.elim
   |some r=>
    rw [hr] at h;cases r with
    |val v H'=>
     have⟨n,s,h1,h2⟩:=h;exact ⟨n,s,by simp only [pT,vx];rw [hw];simp only [hr,kH];exact h1,h2⟩
    |call f args=>
     have⟨n,v,H',h1,m,s,h2,h3⟩:=h;refine ⟨max n m,s,?_,h3⟩;simp only [pT,vx];rw [hw];simp only [hr,kH];rw [qJ (Fv n m) _ _ _ _ h1];exact Yr (qJ (C_ n m)) h2
def amJ (E:Env)(fn:Func)(R:Value->aa->Prop):X->Tr Value->aa->Prop
 |.normal,T,H=>∃vs,mV E ⟨T,H⟩ fn.results.toList=some vs/\R (rJ vs) H
 |.ret,T,H=>∃vs,mV E ⟨T,H⟩ fn.results.toList=some vs/\R (rJ vs) H
 |_,_,_=>False
theorem aaK {f:FuncId}{fn:Func}{c:Code}{args:List Value}{T:Tr Value}{H:aa}{R:Value->aa->Prop}(ht:E.qL f=false)(hf:E.fn f=some fn)(hb:fn.body=some c)(hi:yS fn args=some T)
  (h:WA E c T H (amJ E fn R)):CA E f args H R:=by
 have⟨n,x,s,h1,h2⟩:=h;cases x with
 |normal=>
  have⟨vs,h3,h4⟩:=h2;refine ⟨n+1,rJ vs,s.H,?_,h4⟩;simp only [aF,ht,Bool.false_and,cQ,hf,hb,hi,h1];rw [h3];rfl
 |ret=>
  have⟨vs,h3,h4⟩:=h2;refine ⟨n+1,rJ vs,s.H,?_,h4⟩;simp only [aF,ht,Bool.false_and,cQ,hf,hb,hi,h1];rw [h3];rfl
 |exit id=>exact h2.elim
end
end
end Go.AS
