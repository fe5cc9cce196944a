/-
  lruRuns.proved: part 2 of its proof. No condition.
  Written by a program out of the texts Names As12 As20 As21 As22 As41 Sq VcM.
-/
import Derived.Test.YtjggeoghlicmdaaGreatLruRunsP1
set_option linter.unusedVariables false
namespace Go.Proofs.YtjggeoghlicmdaaGreat
section
abbrev F.crossbarlaw16_LruRuns:Nat:=10
abbrev F.crossbarlaw16_known:Nat:=11
abbrev F.crossbarkit_Pick:Nat:=12
abbrev F.crossbarkit_SameWords:Nat:=15
abbrev F.crossbarkit_CopyWords:Nat:=16
abbrev F.smem_Mem_Bad:Nat:=17
abbrev F.grace_Grace_Waits:Nat:=18
abbrev F.smem_Mem_Live:Nat:=19
abbrev F.lru_Map_Cell:Nat:=20
abbrev F.grace_Grace_Enter:Nat:=21
abbrev F.smem_Mem_Load:Nat:=22
abbrev F.smem_Mem_Store:Nat:=23
abbrev F.grace_Grace_Leave:Nat:=24
abbrev F.smem_Mem_Room:Nat:=25
abbrev F.crossbarkit_Rounds:Nat:=44
abbrev F.lru_Map_Room:Nat:=49
abbrev F.lru_Run_Step:Nat:=50
abbrev F.lru_Map_Begin:Nat:=51
abbrev F.lru_Visit_Keys:Nat:=52
abbrev F.lru_Visit_Take:Nat:=53
abbrev F.lru_Visit_Look:Nat:=54
abbrev F.lru_Visit_Leave:Nat:=55
abbrev F.lru_New:Nat:=56
abbrev F.smem_New:Nat:=57
abbrev F.lru_Run_Result:Nat:=58
abbrev F.crossbarlaw16_Big:Nat:=59
abbrev F.crossbarlaw16_begin:Nat:=60
abbrev F.crossbarlaw16_side_step:Nat:=61
abbrev F.crossbarlaw16_side_rest:Nat:=62
abbrev F.grace_New:Nat:=63
abbrev F.smem_Mem_access:Nat:=64
abbrev F.smem_Mem_Load_1:Nat:=65
abbrev F.smem_Mem_Mask:Nat:=66
abbrev F.grace_Grace_sweep:Nat:=67
abbrev F.slices_Clone_uint64_uint64:Nat:=76
abbrev F.smem_Mem_Make:Nat:=84
abbrev F.crossbarkit_SpoilWords:Nat:=91
abbrev F.lru_Run_enter:Nat:=92
abbrev F.lru_Map_Room_1:Nat:=93
abbrev F.lru_Run_walk:Nat:=94
abbrev F.lru_Map_Room_1_1:Nat:=95
abbrev F.lru_Map_Room_1_2:Nat:=96
abbrev F.slices_SortFunc_uint64_uint64:Nat:=97
abbrev F.cmp_Compare_uint64:Nat:=98
abbrev F.lru_Run_give:Nat:=99
abbrev F.lru_Run_begin:Nat:=100
abbrev F.lru_Visit_run:Nat:=101
abbrev F.lru_Run_away:Nat:=102
abbrev F.decl_Check:Nat:=103
abbrev F.crossbarkit_Cut:Nat:=104
abbrev F.crossbarref16_New:Nat:=105
abbrev F.crossbarlaw16_side_start:Nat:=106
abbrev F.smem_Mem_Count:Nat:=107
abbrev F.crossbarlaw16_side_runs:Nat:=108
abbrev F.crossbarlaw16_side_told:Nat:=109
abbrev F.crossbarlaw16_side_enters:Nat:=110
abbrev F.crossbarlaw16_side_visits:Nat:=111
abbrev F.crossbarlaw16_side_leaves:Nat:=112
abbrev F.crossbarlaw16_side_cell:Nat:=113
abbrev F.crossbarlaw16_side_finish:Nat:=114
abbrev F.smem_Mem_Swap:Nat:=115
abbrev F.slices_DeleteFunc_grace_wait_grace_wait:Nat:=116
abbrev F.grace_Grace_sweep_1:Nat:=117
abbrev F.smem_Mem_Free:Nat:=118
abbrev F.lock_Take:Nat:=120
abbrev F.lock_Taker_Step:Nat:=123
abbrev F.lock_Drop:Nat:=135
abbrev F.crossbarkit_markWords:Nat:=145
abbrev F.lru_Run_enter_1:Nat:=146
abbrev F.lru_Run_head:Nat:=147
abbrev F.lru_Run_walk_1:Nat:=148
abbrev F.lru_Run_load:Nat:=149
abbrev F.lru_Run_walk_1_1:Nat:=150
abbrev F.lru_Run_walk_1_1_1:Nat:=151
abbrev F.lru_Run_nearer:Nat:=155
abbrev F.lru_Run_nearest:Nat:=156
abbrev F.lru_Run_begin_1:Nat:=157
abbrev F.lru_Run_found:Nat:=158
abbrev F.lru_Run_absent:Nat:=159
abbrev F.lru_Run_away_1:Nat:=160
abbrev F.decl_check:Nat:=161
abbrev F.crossbarkit_FitOp:Nat:=162
abbrev F.crossbarkit_CopyOp:Nat:=163
abbrev F.crossbarlaw16_side_took:Nat:=164
abbrev F.crossbarkit_SameRes:Nat:=165
abbrev F.crossbarref16_Map_Keys:Nat:=166
abbrev F.smem_Mem_Swap_1:Nat:=167
abbrev F.smem_under:Nat:=168
abbrev F.slices_IndexFunc_grace_wait_grace_wait:Nat:=169
abbrev F.lock_Taker_draw:Nat:=180
abbrev F.smem_Mem_Fetch:Nat:=186
abbrev F.lock_more:Nat:=189
abbrev F.lru_Run_load_1:Nat:=202
abbrev F.lru_Run_none:Nat:=213
abbrev F.lru_Run_store:Nat:=214
abbrev F.lru_Run_found_1:Nat:=215
abbrev F.lru_Run_used:Nat:=216
abbrev F.lru_Run_found_2:Nat:=217
abbrev F.lru_Run_found_3:Nat:=218
abbrev F.lru_Run_unlink:Nat:=219
abbrev F.lru_Run_found_3_1:Nat:=220
abbrev F.grace_Grace_Defer:Nat:=221
abbrev F.lru_Run_more:Nat:=222
abbrev F.lru_Run_found_4:Nat:=223
abbrev F.lru_Run_absent_1:Nat:=224
abbrev F.lru_Run_lay:Nat:=225
abbrev F.lru_Run_absent_1_1:Nat:=226
abbrev F.lru_Run_absent_1_2:Nat:=227
abbrev F.lru_Run_absent_1_2_1:Nat:=228
abbrev F.decl_kinds:Nat:=229
abbrev F.decl_within:Nat:=230
abbrev F.math_bits_OnesCount:Nat:=231
abbrev F.crossbarkit_kinds:Nat:=232
abbrev F.crossbarkit_CopyRes:Nat:=233
abbrev F.crossbarkit_LikeRes:Nat:=234
abbrev F.crossbarref16_Map_Do:Nat:=235
abbrev F.crossbarkit_Pairs_May:Nat:=236
abbrev F.lock_Taker_wait:Nat:=239
abbrev F.smem_Mem_Fetch_1:Nat:=244
abbrev F.word_Alu:Nat:=245
abbrev F.lru_Run_store_1:Nat:=271
abbrev F.lru_Run_used_1:Nat:=272
abbrev F.lru_Run_youngest:Nat:=273
abbrev F.lru_Run_unlink_1:Nat:=274
abbrev F.smem_Mem_Size:Nat:=275
abbrev F.slices_ContainsFunc_grace_wait_grace_wait:Nat:=276
abbrev F.grace_Grace_Defer_1:Nat:=277
abbrev F.maps_Clone_map_intbool_int_bool:Nat:=278
abbrev F.lru_Run_more_1:Nat:=279
abbrev F.lru_Run_lay_1:Nat:=280
abbrev F.lru_Run_lay_1_1:Nat:=281
abbrev F.lru_Run_lay_1_1_1:Nat:=282
abbrev F.crossbarref16_Map_find:Nat:=285
abbrev F.crossbarref16_Map_next:Nat:=286
abbrev F.crossbarref16_Map_update:Nat:=287
abbrev F.crossbarref16_Map_out:Nat:=288
abbrev F.lock_Taker_got:Nat:=289
abbrev F.word_alu_uint64:Nat:=291
abbrev F.word_alu_uint32:Nat:=292
abbrev F.lru_Run_youngest_1:Nat:=295
abbrev F.lru_Run_youngest_1_1:Nat:=296
abbrev F.word_divide_uint64:Nat:=298
end
end Go.Proofs.YtjggeoghlicmdaaGreat
namespace Go.AS
open Go.RowKit
section
section
variable {E:Env}
def FLe (fs gs:FSem):Prop:=∀f a H r,fs f a H=some r->gs f a H=some r
theorem resA_mono {fs gs:FSem}(h:FLe fs gs){r:Option Res}{H:Heap}{p:Value×Heap}(hr:resA fs r H=some p):resA gs r H=some p:=by
 cases r with
 |none=>cases hr
 |some r=>cases r with
  |val v H'=>exact hr
  |call f args=>exact h _ _ _ _ hr
theorem stepA_mono {fs gs:FSem}(h:FLe fs gs){ops:Array Oper}{o:Oper}{s s':St}(hr:stepA E fs ops o s=some s'):stepA E gs ops o s=some s':=by
 unfold stepA at hr⊢;cases hw:wantedA ops s.T o with
 |none=>rw [hw] at hr;cases hr
 |some b=>
  rw [hw] at hr;cases b with
  |false=>exact hr
  |true=>
   simp only at hr⊢;cases hx:resA fs (aop E (ev E s.T) o.op s.H) s.H with
   |none=>rw [hx] at hr;cases hr
   |some p=>rw [hx] at hr;rw [resA_mono h hx];exact hr
theorem runOps_mono {fs gs:FSem}(h:FLe fs gs){ops:Array Oper}:∀{l:List Oper}{s s':St},runOps E fs ops l s=some s'->runOps E gs ops l s=some s'
 |[],s,s',hr=>hr
 |o::l,s,s',hr=>by
  simp only [runOps] at hr⊢
  cases hx:stepA E fs ops o s with
  |none=>rw [hx] at hr;cases hr
  |some s1=>rw [hx] at hr;rw [stepA_mono h hx];exact runOps_mono h hr
theorem pass1_mono {bm:Bool}{fs gs:FSem}(h:FLe fs gs){ops:Array Oper}{base:Nat}:∀{l:List Oper}{i:Nat}{T:Tr Value}{H:Heap}{k:Nat}{rs:List DR}{hs:List Heap}{r:List DR×Tr Value×List Heap×Heap},
  pass1 bm E fs ops base l i T H k rs hs=some r->pass1 bm E gs ops base l i T H k rs hs=some r
 |[],_,_,_,_,_,_,_,hr=>hr
 |o::l,i,T,H,k,rs,hs,r,hr=>by
  simp only [pass1] at hr⊢
  cases hw:wantedA ops T o with
  |none=>rw [hw] at hr;cases hr
  |some b=>
   rw [hw] at hr
   cases b with
   |false=>exact pass1_mono h hr
   |true=>
    simp only at hr⊢
    cases hx:resA fs (aopD bm E base i (ev E T) o.op H) H with
    |none=>rw [hx] at hr;cases hr
    |some p=>
     have⟨v,H'⟩:=p
     rw [hx] at hr;rw [resA_mono h hx]
     simp only at hr⊢
     cases hl:isLoudD bm o.op with
     |true=>rw [hl] at hr;exact pass1_mono h hr
     |false=>rw [hl] at hr;exact pass1_mono h hr
theorem pass0_mono {fs gs:FSem}(h:FLe fs gs){ops:Array Oper}{base:Nat}:∀{l:List Oper}{i:Nat}{T:Tr Value}{H:Heap}{os r:List Obj},
  pass0 E fs ops base l i T H os=some r->pass0 E gs ops base l i T H os=some r
 |[],_,_,_,_,_,hr=>hr
 |o::l,i,T,H,os,r,hr=>by
  simp only [pass0] at hr⊢
  cases hw:wantedA ops T o with
  |none=>rw [hw] at hr;cases hr
  |some b=>
   rw [hw] at hr
   cases b with
   |false=>exact pass0_mono h hr
   |true=>
    simp only at hr⊢
    cases hb:isBirth true o.op with
    |true=>
     rw [hb] at hr
     simp only [cond_true] at hr⊢
     cases hx:bornA E (ev E T) o.op with
     |none=>rw [hx] at hr;cases hr
     |some p=>rw [hx] at hr;exact pass0_mono h hr
    |false=>
     rw [hb] at hr
     simp only [cond_false] at hr⊢
     cases hx:resA fs (aop E (ev E T) o.op H) H with
     |none=>rw [hx] at hr;cases hr
     |some p=>
      have⟨v,H'⟩:=p
      rw [hx] at hr;rw [resA_mono h hx]
      exact pass0_mono h hr
theorem runDrawB_mono {bm:Bool}{fs gs:FSem}(h:FLe fs gs){ops:Array Oper}{os:List Obj}{s s':St}(hr:runDrawB bm E fs ops os s=some s'):runDrawB bm E gs ops os s=some s':=by
 unfold runDrawB at hr⊢;cases hp:preA bm E s.H.next ops.toList 0 os s.H.tr with
 |none=>rw [hp] at hr;cases hr
 |some tr=>
 rw [hp] at hr;simp only at hr⊢;cases hx:pass1 bm E fs ops s.H.next ops.toList 0 s.T ⟨tr,s.H.next+ops.size⟩ 0 [] [⟨tr,s.H.next+ops.size⟩] with
 |none=>rw [hx] at hr;cases hr
 |some r=>rw [hx] at hr;rw [pass1_mono h hx];exact hr
theorem runDraw_mono {fs gs:FSem}(h:FLe fs gs){ops:Array Oper}{s s':St}(hr:runDraw E fs ops s=some s'):runDraw E gs ops s=some s':=by
 unfold runDraw at hr⊢;cases hst:staticOk false ops with
 |true=>rw [hst] at hr;exact runDrawB_mono h hr
 |false=>
  rw [hst] at hr;simp only [cond_false] at hr⊢;cases hst2:staticOk true ops with
  |false=>rw [hst2] at hr;cases hr
  |true=>
   rw [hst2] at hr;simp only [cond_true] at hr⊢;cases hx:pass0 E fs ops s.H.next ops.toList 0 s.T ⟨s.H.tr,s.H.next+ops.size⟩ [] with
   |none=>rw [hx] at hr;cases hr
   |some os=>rw [hx] at hr;rw [pass0_mono h hx];exact runDrawB_mono h hr
theorem loopN_mono {f g:St->Option (X×St)}(h:∀s r,f s=some r->g s=some r):∀{n m:Nat}{s:St}{r:X×St},n<=m->loopN f n s=some r->loopN g m s=some r
 |0,_,_,_,_,hr=>by simp [loopN] at hr
 |n+1,0,_,_,hle,_=>by omega
 |n+1,m+1,s,r,hle,hr=>by
  simp only [loopN] at hr⊢
  cases hx:f s with
  |none=>rw [hx] at hr;cases hr
  |some p=>
   have⟨x,s1⟩:=p
   rw [hx] at hr
   rw [h _ _ hx]
   cases x with
   |normal=>exact loopN_mono h (by omega) hr
   |exit id=>exact hr
   |ret=>exact hr
theorem runCode_mono {fs gs:FSem}(h:FLe fs gs){n m:Nat}(hle:n<=m):∀(c:Code)(s:St)(r:X×St),runCode E fs n c s=some r->runCode E gs m c s=some r:=by
 intro c
 induction c with
 |region id ops d=>
  intro s r hr;simp only [runCode] at hr⊢;cases d with
  |true=>
   simp only [cond_true] at hr⊢;cases hx:runDraw E fs ops s with
   |none=>rw [hx] at hr;cases hr
   |some s1=>rw [hx] at hr;rw [runDraw_mono h hx];exact hr
  |false=>
   simp only [cond_false] at hr⊢;cases hx:runOps E fs ops ops.toList s with
   |none=>rw [hx] at hr;cases hr
   |some s1=>rw [hx] at hr;rw [runOps_mono h hx];exact hr
 |seq a b iha ihb=>
  intro s r hr;simp only [runCode] at hr⊢;cases hx:runCode E fs n a s with
  |none=>rw [hx] at hr;cases hr
  |some p=>
   have⟨x,s1⟩:=p;rw [hx] at hr;rw [iha _ _ hx];cases x with
   |normal=>exact ihb _ _ hr
   |exit id=>exact hr
   |ret=>exact hr
 |cond c a b iha ihb=>
  intro s r hr;simp only [runCode] at hr⊢;split at hr
  ·rename_i t hc;cases t with
   |true=>exact iha _ _ hr
   |false=>exact ihb _ _ hr
  ·cases hr
 |block id a ih=>
  intro s r hr;simp only [runCode] at hr⊢;cases hx:runCode E fs n a s with
  |none=>rw [hx] at hr;cases hr
  |some p=>
   have⟨x,s1⟩:=p;rw [hx] at hr;rw [ih _ _ hx];exact hr
 |loop a ih=>
  intro s r hr;simp only [runCode] at hr⊢;exact loopN_mono (λs r=>ih s r) hle hr
 |scope a ih=>
  intro s r hr;simp only [runCode] at hr⊢;exact ih _ _ hr
 |_=>intro s r hr;exact hr
theorem sem_mono:∀{n m:Nat},n<=m->FLe (sem E n) (sem E m)
 |0,_,_=>by intro f a H r h;simp [sem] at h
 |n+1,0,hle=>by omega
 |n+1,m+1,hle=>by
  intro f a H r h
  simp only [sem] at h⊢
  cases ht:(E.truth f&&a.isEmpty) with
  |true=>rw [ht] at h;exact h
  |false=>
  rw [ht] at h
  simp only [cond_false] at h⊢
  cases hpr:E.prim f with
  |some p=>rw [hpr] at h;exact h
  |none=>
  rw [hpr] at h
  simp only at h⊢
  cases hf:E.fn f with
  |none=>rw [hf] at h;cases h
  |some fn=>
   rw [hf] at h
   simp only at h⊢
   cases hb:fn.body with
   |none=>rw [hb] at h;cases h
   |some c=>
    rw [hb] at h
    simp only at h⊢
    cases hi:initT fn a with
    |none=>rw [hi] at h;cases h
    |some T=>
     rw [hi] at h
     simp only at h⊢
     cases hr:runCode E (sem E n) n c ⟨T,H⟩ with
     |none=>rw [hr] at h;cases h
     |some p=>
      rw [hr] at h
      rw [runCode_mono (sem_mono (show n<=m by omega)) (by omega) _ _ _ hr]
      exact h
def CA (E:Env)(f:FuncId)(args:List Value)(H:Heap)(R:Value->Heap->Prop):Prop:=∃n v H',sem E n f args H=some (v,H')/\R v H'
def WA (E:Env)(c:Code)(T:Tr Value)(H:Heap)(Q:X->Tr Value->Heap->Prop):Prop:=∃n x s',runCode E (sem E n) n c ⟨T,H⟩=some (x,s')/\Q x s'.T s'.H
def OA (E:Env)(ops:Array Oper)(l:List Oper)(T:Tr Value)(H:Heap)(Q:Tr Value->Heap->Prop):Prop:=∃n s',runOps E (sem E n) ops l ⟨T,H⟩=some s'/\Q s'.T s'.H
theorem CA.mono {f:FuncId}{args:List Value}{H:Heap}{R R':Value->Heap->Prop}(h:CA E f args H R)(hr:∀v H',R v H'->R' v H'):CA E f args H R':=
 let ⟨n,v,H',h1,h2⟩:=h;⟨n,v,H',h1,hr _ _ h2⟩
theorem WA.mono {c:Code}{T:Tr Value}{H:Heap}{Q Q':X->Tr Value->Heap->Prop}(h:WA E c T H Q)(hr:∀x T H,Q x T H->Q' x T H):WA E c T H Q':=
 let ⟨n,x,s,h1,h2⟩:=h;⟨n,x,s,h1,hr _ _ _ h2⟩
def XThen (K:Tr Value->Heap->Prop)(Q:X->Tr Value->Heap->Prop):X->Tr Value->Heap->Prop
 |.normal=>K
 |x=>Q x
def XBlock (id:Nat)(Q:X->Tr Value->Heap->Prop):X->Tr Value->Heap->Prop
 |.exit j=>if j=id then Q .normal else Q (.exit j)
 |x=>Q x
theorem WA_seq {a b:Code}{T:Tr Value}{H:Heap}{Q:X->Tr Value->Heap->Prop}(h:WA E a T H (XThen (λT H=>WA E b T H Q) Q)):WA E (.seq a b) T H Q:=by
 have⟨n,x,s,h1,h2⟩:=h;cases x with
 |normal=>
  have⟨m,y,s2,h3,h4⟩:=h2;refine ⟨max n m,y,s2,?_,h4⟩;simp only [runCode];rw [runCode_mono (sem_mono (Nat.le_max_left n m)) (Nat.le_max_left n m) _ _ _ h1];exact runCode_mono (sem_mono (Nat.le_max_right n m)) (Nat.le_max_right n m) _ _ _ h3
 |exit id=>exact ⟨n,_,s,by simp only [runCode];rw [h1],h2⟩
 |ret=>exact ⟨n,_,s,by simp only [runCode];rw [h1],h2⟩
theorem WA_cond {c:Operand}{a b:Code}{T:Tr Value}{H:Heap}{Q:X->Tr Value->Heap->Prop}{t:Bool}(hc:ev E T c=.bool t)(h:if t=true then WA E a T H Q else WA E b T H Q):WA E (.cond c a b) T H Q:=by
 cases t with
 |true=>
  have⟨n,x,s,h1,h2⟩:=(by simpa using h:WA E a T H Q);exact ⟨n,x,s,by simp only [runCode];rw [hc];exact h1,h2⟩
 |false=>
  have⟨n,x,s,h1,h2⟩:=(by simpa using h:WA E b T H Q);exact ⟨n,x,s,by simp only [runCode];rw [hc];exact h1,h2⟩
theorem WA_block {id:Nat}{a:Code}{T:Tr Value}{H:Heap}{Q:X->Tr Value->Heap->Prop}(h:WA E a T H (XBlock id Q)):WA E (.block id a) T H Q:=by
 have⟨n,x,s,h1,h2⟩:=h;cases x with
 |normal=>exact ⟨n,.normal,s,by simp only [runCode];rw [h1],h2⟩
 |ret=>exact ⟨n,.ret,s,by simp only [runCode];rw [h1],h2⟩
 |exit j=>
  simp only [XBlock] at h2;by_cases e:j=id
  ·subst e;rw [if_pos rfl] at h2;exact ⟨n,.normal,s,by simp only [runCode];rw [h1];simp,h2⟩
  ·rw [if_neg e] at h2;refine ⟨n,.exit j,s,?_,h2⟩;simp only [runCode];rw [h1];simp only
   have:Nat.beq j id=false:=by
    cases hb:Nat.beq j id with
    |false=>rfl
    |true=>exact absurd (Nat.eq_of_beq_eq_true hb) e
   rw [this];rfl
theorem WA_loop {a:Code}{T:Tr Value}{H:Heap}{Q:X->Tr Value->Heap->Prop}(h:WA E a T H (XThen (λT H=>WA E (.loop a) T H Q) Q)):WA E (.loop a) T H Q:=by
 have⟨n,x,s,h1,h2⟩:=h;cases x with
 |normal=>
  have⟨m,y,s2,h3,h4⟩:=h2;refine ⟨max n m+1,y,s2,?_,h4⟩;simp only [runCode,loopN];rw [runCode_mono (sem_mono (show n<=max n m+1 by omega)) (show n<=max n m+1 by omega) _ _ _ h1];simp only [runCode] at h3;exact loopN_mono (λs r hr=>runCode_mono (sem_mono (show m<=max n m+1 by omega)) (show m<=max n m+1 by omega) _ _ _ hr) (Nat.le_max_right n m) h3
 |exit id=>exact ⟨n+1,_,s,by simp only [runCode,loopN];rw [runCode_mono (sem_mono (Nat.le_succ n)) (Nat.le_succ n) _ _ _ h1],h2⟩
 |ret=>exact ⟨n+1,_,s,by simp only [runCode,loopN];rw [runCode_mono (sem_mono (Nat.le_succ n)) (Nat.le_succ n) _ _ _ h1],h2⟩
theorem WA_skip {T:Tr Value}{H:Heap}{Q:X->Tr Value->Heap->Prop}(h:Q .normal T H):WA E .skip T H Q:=⟨0,.normal,⟨T,H⟩,rfl,h⟩
theorem WA_exit {id:Nat}{T:Tr Value}{H:Heap}{Q:X->Tr Value->Heap->Prop}(h:Q (.exit id) T H):WA E (.exit id) T H Q:=⟨0,.exit id,⟨T,H⟩,rfl,h⟩
theorem WA_ret {T:Tr Value}{H:Heap}{Q:X->Tr Value->Heap->Prop}(h:Q .ret T H):WA E .ret T H Q:=⟨0,.ret,⟨T,H⟩,rfl,h⟩
theorem WA_scope {a:Code}{T:Tr Value}{H:Heap}{Q:X->Tr Value->Heap->Prop}(h:WA E a T H Q):WA E (.scope a) T H Q:=
 let ⟨n,x,s,h1,h2⟩:=h;⟨n,x,s,h1,h2⟩
theorem WA_region {id:Nat}{ops:Array Oper}{T:Tr Value}{H:Heap}{Q:X->Tr Value->Heap->Prop}(h:OA E ops ops.toList T H (Q .normal)):WA E (.region id ops false) T H Q:=by
 have⟨n,s,h1,h2⟩:=h;exact ⟨n,.normal,s,by simp only [runCode,cond_false];rw [h1],h2⟩
theorem OA_nil {ops:Array Oper}{T:Tr Value}{H:Heap}{Q:Tr Value->Heap->Prop}(h:Q T H):OA E ops [] T H Q:=⟨0,⟨T,H⟩,rfl,h⟩
def OpA (E:Env)(o:Oper)(T:Tr Value)(H:Heap)(K:Tr Value->Heap->Prop):Option Res->Prop
 |some (.val v H')=>K (putT T o.dst v) H'
 |some (.call f args)=>CA E f args H λv H'=>K (putT T o.dst v) H'
 |none=>False
def OpW (E:Env)(o:Oper)(T:Tr Value)(H:Heap)(K:Tr Value->Heap->Prop):Option Bool->Prop
 |some true=>OpA E o T H K (aop E (ev E T) o.op H)
 |some false=>K (putT T o.dst undef) H
 |none=>False
theorem OA_cons {ops:Array Oper}{o:Oper}{l:List Oper}{T:Tr Value}{H:Heap}{Q:Tr Value->Heap->Prop}(h:OpW E o T H (λT H=>OA E ops l T H Q) (wantedA ops T o)):OA E ops (o::l) T H Q:=by
 cases hw:wantedA ops T o with
 |none=>rw [hw] at h;exact h.elim
 |some b=>
  rw [hw] at h;cases b with
  |false=>
   have⟨n,s,h1,h2⟩:=h;exact ⟨n,s,by simp only [runOps,stepA];rw [hw];exact h1,h2⟩
  |true=>
   simp only [OpW] at h;cases hr:aop E (ev E T) o.op H with
   |none=>rw [hr] at h;exact h.elim
   |some r=>
    rw [hr] at h;cases r with
    |val v H'=>
     have⟨n,s,h1,h2⟩:=h;exact ⟨n,s,by simp only [runOps,stepA];rw [hw];simp only [hr,resA];exact h1,h2⟩
    |call f args=>
     have⟨n,v,H',h1,m,s,h2,h3⟩:=h;refine ⟨max n m,s,?_,h3⟩;simp only [runOps,stepA];rw [hw];simp only [hr,resA];rw [sem_mono (Nat.le_max_left n m) _ _ _ _ h1];exact runOps_mono (sem_mono (Nat.le_max_right n m)) h2
def Back (E:Env)(fn:Func)(R:Value->Heap->Prop):X->Tr Value->Heap->Prop
 |.normal,T,H=>∃vs,resultsL E ⟨T,H⟩ fn.results.toList=some vs/\R (resultOf vs) H
 |.ret,T,H=>∃vs,resultsL E ⟨T,H⟩ fn.results.toList=some vs/\R (resultOf vs) H
 |_,_,_=>False
theorem CA_enter {f:FuncId}{fn:Func}{c:Code}{args:List Value}{T:Tr Value}{H:Heap}{R:Value->Heap->Prop}(ht:E.truth f=false)(hf:E.fn f=some fn)(hb:fn.body=some c)(hi:initT fn args=some T)
  (h:WA E c T H (Back E fn R))(hpr:E.prim f=none):CA E f args H R:=by
 have⟨n,x,s,h1,h2⟩:=h;cases x with
 |normal=>
  have⟨vs,h3,h4⟩:=h2;refine ⟨n+1,resultOf vs,s.H,?_,h4⟩;simp only [sem,ht,Bool.false_and,cond_false,hpr,hf,hb,hi,h1];rw [h3];rfl
 |ret=>
  have⟨vs,h3,h4⟩:=h2;refine ⟨n+1,resultOf vs,s.H,?_,h4⟩;simp only [sem,ht,Bool.false_and,cond_false,hpr,hf,hb,hi,h1];rw [h3];rfl
 |exit id=>exact h2.elim
end
end
section
abbrev Fr:=List Value
noncomputable section
def ofL (xs:Fr):Tr Value:=Tr.updsFrom xs 0 (Tr.fill undef xs.length xs.length)
def evL (E:Env)(xs:Fr):Operand->Value
 |.tmp t=>xs.getD t undef
 |.const v=>bif plain v then v else anyv
 |.global g=>bif Nat.ble (g+1) E.ng then .pointer (some ⟨g,0,none⟩) else anyv
 |.func f=>.func (.func f) #[] #[]
def putL (xs:Fr)(d:Option Tmp)(v:Value):Fr:=
 match d with
 |some d=>xs.set d v
 |none=>xs
def Heap.bump (H:Heap)(n:Nat):Heap:=⟨H.tr,H.next+n⟩
def Heap.cell (H:Heap)(i o:Nat):Option Value:=
 match H.get i with
 |some (.cells _ _ c)=>c[o]?
 |_=>none
def Heap.cellsAt (H:Heap)(i o n:Nat):Option (List Value):=
 match H.get i with
 |some (.cells _ _ c)=>takeAt c o n
 |_=>none
def asBool (v:Value)(K:Bool->Prop):Prop:=
 match v with
 |.bool b=>K b
 |_=>False
def asInt (k:IntKind)(v:Value)(K:Int->Prop):Prop:=
 match v with
 |.int j n=>cond (decide (j=k)) (K n) False
 |_=>False
def asNum (v:Value)(K:Int->Prop):Prop:=
 match v with
 |.int _ n=>K n
 |_=>False
def asAddr (v:Value)(K:Nat->Nat->Prop):Prop:=
 match v with
 |.pointer (some ⟨i,o,none⟩)=>K i o
 |_=>False
def asRow (a:Option Addr)(K:Nat->Nat->Prop):Prop:=
 match a with
 |some ⟨i,o,none⟩=>K i o
 |_=>False
def asSlice (v:Value)(K:Option Addr->Nat->Prop):Prop:=
 match v with
 |.slice a l _=>K a l
 |_=>False
def asMap (v:Value)(K:Option Nat->Prop):Prop:=
 match v with
 |.map m=>K m
 |_=>False
def asFn (v:Value)(K:FuncId->List Value->List Value->Prop):Prop:=
 match v with
 |.func (.func f) fs cs=>K f fs.toList cs.toList
 |_=>False
def asCells (v:Value)(K:List Value->Prop):Prop:=
 match cellsOf v with
 |some l=>K l
 |none=>False
def asSome {α:Type}(o:Option α)(K:α->Prop):Prop:=
 match o with
 |some x=>K x
 |none=>False
def exOne (z:Value)(P:Value->Prop):Prop:=
 match z with
 |.int k _=>∃n,P (.int k n)
 |.bool _=>∃b,P (.bool b)
 |.slice _ _ _=>∃a l,P (.slice a l 0)
 |.pointer _=>∃p,P (.pointer p)
 |.map _=>∃m,P (.map m)
 |.string _=>∃s,P (.string s)
 |_=>∃v,P v
def exLeaf (z:Value)(P:Value->Prop):Prop:=
 match z with
 |.nilFunc=>P .nilFunc∨∃f l b,P (.func (.func f) ⟨l⟩ ⟨b⟩)
 |z=>exOne z P
def exCells:List Value->(List Value->Prop)->Prop
 |[],P=>P []
 |z::zs,P=>exLeaf z λv=>exCells zs λl=>P (v::l)
def exPart (z:Value)(P:Value->Prop):Prop:=
 match z with
 |.agg cs=>exCells cs.toList λl=>P (.agg ⟨l⟩)
 |z=>exOne z P
def exParts:List Value->(List Value->Prop)->Prop
 |[],P=>P []
 |z::zs,P=>exPart z λv=>exParts zs λl=>P (v::l)
def exLike (z:Value)(P:Value->Prop):Prop:=
 match z with
 |.tuple cs=>exParts cs.toList λl=>P (.tuple ⟨l⟩)
 |z=>exPart z P
theorem exOne_some {z:Value}{P:Value->Prop}(h:exOne z P):∃v,P v:=by
 unfold exOne at h;split at h
 all_goals first
  |(have⟨a,b,h⟩:=h;exact ⟨_,h⟩)
  |(have⟨a,h⟩:=h;exact ⟨_,h⟩)
theorem exLeaf_some {z:Value}{P:Value->Prop}(h:exLeaf z P):∃v,P v:=by
 unfold exLeaf at h;split at h
 ·rcases h with h|⟨f,l,b,h⟩
  ·exact ⟨_,h⟩
  ·exact ⟨_,h⟩
 ·exact exOne_some h
theorem exCells_some:∀{zs:List Value}{P:List Value->Prop},exCells zs P->∃l,P l
 |[],P,h=>⟨[],h⟩
 |z::zs,P,h=>by
  have⟨v,h⟩:=exLeaf_some h
  have⟨l,h⟩:=exCells_some h
  exact ⟨_,h⟩
theorem exPart_some {z:Value}{P:Value->Prop}(h:exPart z P):∃v,P v:=by
 unfold exPart at h;split at h
 ·have⟨l,h⟩:=exCells_some h;exact ⟨_,h⟩
 ·exact exOne_some h
theorem exParts_some:∀{zs:List Value}{P:List Value->Prop},exParts zs P->∃l,P l
 |[],P,h=>⟨[],h⟩
 |z::zs,P,h=>by
  have⟨v,h⟩:=exPart_some h
  have⟨l,h⟩:=exParts_some h
  exact ⟨_,h⟩
theorem exLike_some {z:Value}{P:Value->Prop}(h:exLike z P):∃v,P v:=by
 unfold exLike at h;split at h
 ·have⟨l,h⟩:=exParts_some h;exact ⟨_,h⟩
 ·exact exPart_some h
def zeroOf (E:Env)(t:Nat):Value:=
 match E.ty t with
 |some i=>match i.zero with
  |some z=>z
  |none=>anyv
 |none=>anyv
def nwH (H:Heap)(o:Obj)(K:Nat->Heap->Prop):Prop:=K H.next (H.new o)
def wpLoad (E:Env)(t:Nat)(a:Value)(H:Heap)(K:Value->Prop):Prop:=
 asAddr a λi o=>match isAggA E t with
  |some false=>exOne (zeroOf E t) λv=>H.cell i o=some v/\K v
  |some true=>match sizeA E t with
   |some n=>bif Nat.beq n 0 then False else exCells (zeroOf E t).cells.toList λl=>H.cellsAt i o n=some l/\K (.agg ⟨l⟩)
   |none=>False
  |none=>False
def stc (H:Heap)(i o:Nat)(vs:List Value)(K:Heap->Prop):Prop:=
 ∃z c,H.get i=some (.cells true z c)/\o+vs.length<=c.length/\K (H.set i (.cells true z (setAt c o vs)))
def wpStore (E:Env)(t:Nat)(a v:Value)(H:Heap)(K:Heap->Prop):Prop:=
 asAddr a λi o=>asCells v λvs=>match sizeA E t with
  |some n=>bif Nat.beq vs.length n then stc H i o vs K else False
  |none=>False
def nz (b:Int):Prop:=b≠0
def nn (b:Int):Prop:=0<=b
def inB (n:Int)(len:Nat):Prop:=0<=n/\n<len
def inS (n:Int)(len:Nat):Prop:=0<=n/\n<=len
def okLen (bytes:Nat)(l c:Int):Prop:=0<=l/\l<=c/\bytes*c.toNat<=140737488355328
def wpInt (op:BinOp)(k:IntKind)(a b:Int)(K:Value->Prop):Prop:=
 match op with
 |.quo=>nz b/\K (.int k (k.wrap (a.tdiv b)))
 |.rem=>nz b/\K (.int k (a.tmod b))
 |.shl=>nn b/\K (.int k (k.wrap (a*2 ^ (min b.toNat k.bits))))
 |.shr=>nn b/\K (.int k (a.fdiv (2 ^ (min b.toNat k.bits))))
 |op=>asSome (intBinA op k a b) K
def wpEqS (E:Env)(t:Nat)(x y:Value)(K:Bool->Prop):Prop:=
 match und E t with
 |some (.int _)=>match x,y with
  |.int k a,.int j b=>cond (decide (k=j)) (K (a==b)) False
  |_,_=>False
 |some .bool=>match x,y with
  |.bool a,.bool b=>K (a==b)
  |_,_=>False
 |_=>False
def wpEqF (E:Env)(xs ys:Array Value):List Field->(Bool->Prop)->Prop
 |[],K=>K true
 |f::fs,K=>match partA E f.type xs f.offset with
  |some u=>match partA E f.type ys f.offset with
   |some v=>wpEqS E f.type u v λb=>match fs with
    |[]=>K b
    |_::_=>wpEqF E xs ys fs λb'=>K (b&&b')
   |none=>False
  |none=>False
def isNilLit:Value->Bool
 |.pointer none=>true
 |.slice none _ _=>true
 |.map none=>true
 |.nilFunc=>true
 |_=>false
def asFnNil (v:Value)(K:Bool->Prop):Prop:=
 match v with
 |.nilFunc=>K true
 |.func _ _ _=>K false
 |_=>False
def nilFor (E:Env)(t:Nat)(c v:Value)(K:Bool->Prop):Prop:=
 match und E t,c with
 |some (.pointer _),.pointer none=>match v with
  |.pointer p=>K p.isNone
  |_=>False
 |some (.slice _),.slice none _ _=>match v with
  |.slice a _ _=>K a.isNone
  |_=>False
 |some (.map _ _),.map none=>match v with
  |.map m=>K m.isNone
  |_=>False
 |some (.func _ _ _),.nilFunc=>asFnNil v K
 |_,_=>False
def wpNilCmp (E:Env)(op:BinOp)(t:Nat)(c v:Value)(K:Value->Prop):Prop:=
 nilFor E t c v λb=>match op with
  |.eql=>K (.bool b)
  |.neq=>K (.bool !b)
  |_=>False
def wpBin (E:Env)(H:Heap)(op:BinOp)(t:Nat)(x y:Value)(K:Value->Prop):Prop:=
 match x with
 |.int k a=>match y with
  |.int j b=>bif isShift op then wpInt op k a b K else cond (decide (k=j)) (wpInt op k a b K) False
  |_=>False
 |.bool a=>match y with
  |.bool b=>match und E t with
   |some .bool=>match op with
    |.eql=>K (.bool (a==b))
    |.neq=>K (.bool !(a==b))
    |_=>False
   |_=>False
  |_=>False
 |.agg xs=>match y with
  |.agg ys=>bif E.eqOk t then match und E t with
   |some (.struct fields)=>wpEqF E xs ys fields.toList λb=>match op with
    |.eql=>K (.bool b)
    |.neq=>K (.bool !b)
    |_=>False
   |_=>False
   else False
  |_=>False
 |x=>asSome (binA E H op t x y) K
def wpPick (c a b:Value)(K:Value->Prop):Prop:=
 asBool c λt=>cond t (K a) (K b)
def slK (H:Heap)(a:Option Addr)(n l m:Nat)(K:Value->Prop):Prop:=
 match a with
 |none=>K (.slice none 0 0)
 |some ⟨i,o,none⟩=>(∃w z c,H.get i=some (.cells w z c)/\(z=0∨z=n))/\K (.slice (some ⟨i,o+l*n,none⟩) m 0)
 |_=>False
def bndHi (len:Nat)(hi:Option Value)(K:Nat->Prop):Prop:=
 match hi with
 |none=>K len
 |some v=>asNum v λn=>inS n len/\K n.toNat
def bndLo (h:Nat)(lo:Option Value)(K:Nat->Prop):Prop:=
 match lo with
 |none=>K 0
 |some v=>asNum v λn=>inS n h/\K n.toNat
def wpSlice (E:Env)(H:Heap)(t:Nat)(x:Value)(lo hi mx:Option Value)(K:Value->Prop):Prop:=
 match mx with
 |some _=>False
 |none=>match und E t with
  |some (.slice e)=>match sizeA E e with
   |some n=>asSlice x λa len=>bndHi len hi λh=>bndLo h lo λl=>slK H a n l (h - l) K
   |none=>False
  |some (.array n e)=>match sizeA E e,lo,hi with
   |some _,none,none=>asAddr x λi o=>(∃w c,H.get i=some (.cells w 0 c))/\K (.slice (some ⟨i,o,none⟩) n 0)
   |_,_,_=>False
  |_=>False
def wpIndexAddr (E:Env)(t:Nat)(x ix:Value)(K:Value->Prop):Prop:=
 match und E t with
 |some (.slice el)=>match sizeA E el with
  |some s=>asSlice x λa len=>asNum ix λn=>inB n len/\asRow a λi o=>K (.pointer (some ⟨i,o+n.toNat*s,none⟩))
  |none=>False
 |some (.array len el)=>match sizeA E el with
  |some s=>asAddr x λi o=>asNum ix λn=>inB n len/\K (.pointer (some ⟨i,o+n.toNat*s,none⟩))
  |none=>False
 |_=>False
def wpFieldAddr (E:Env)(t:Nat)(x:Value)(f:Nat)(K:Value->Prop):Prop:=
 match und E t with
 |some (.struct fields)=>match fields[f]? with
  |some fd=>match sizeA E fd.type with
   |some n=>bif Nat.beq n 0 then False else asAddr x λi o=>K (.pointer (some ⟨i,o+fd.offset,none⟩))
   |none=>False
  |none=>False
 |_=>False
def entriesOf (H:Heap)(m:Option Nat):Option (List MapEntry):=
 match m with
 |none=>some []
 |some i=>match H.get i with
  |some (.map es _)=>some es
  |_=>none
def mapGet (H:Heap)(kd:TypeDesc)(m:Option Nat)(k:Value):Option (Option (Nat×Value)):=
 (entriesOf H m).bind λes=>Instr.findNow kd k es 0
def got (r:Option (Nat×Value))(z v:Value):Prop:=
 match r with
 |some (_,u)=>u=v
 |none=>z=v
def wpLookup (E:Env)(H:Heap)(t:Nat)(x k:Value)(ok:Bool)(K:Value->Prop):Prop:=
 match und E t with
 |some (.map kt e)=>match simpleKey E kt with
  |some kd=>match zeroV E e with
   |some z=>asMap x λm=>∃r,mapGet H kd m k=some r/\exPart z λv=>got r z v/\K (bif ok then .tuple #[v,.bool r.isSome] else v)
   |none=>False
  |none=>False
 |_=>False
def putMap (es:List MapEntry)(clock:Nat)(r:Option (Nat×Value))(k v:Value):Obj:=
 match r with
 |some (j,_)=>.map (es.modify j λe=>{e with key:=k,val:=v}) clock
 |none=>.map (es++[{key:=k,val:=v,born:=clock}]) (clock+1)
def delMap (es:List MapEntry)(clock:Nat)(r:Option (Nat×Value)):Obj:=
 match r with
 |some (j,_)=>.map (es.eraseIdx j) clock
 |none=>.map es clock
def upM (H:Heap)(kd:TypeDesc)(m:Option Nat)(k v:Value)(K:Heap->Prop):Prop:=
 ∃i es clock r,m=some i/\H.get i=some (.map es clock)/\Instr.findNow kd k es 0=some r/\K (H.set i (putMap es clock r k v))
def dlM (H:Heap)(kd:TypeDesc)(m:Option Nat)(k:Value)(K:Heap->Prop):Prop:=
 ∃i es clock r,m=some i/\H.get i=some (.map es clock)/\Instr.findNow kd k es 0=some r/\K (H.set i (delMap es clock r))
def wpMapUpdate (E:Env)(H:Heap)(t:Nat)(m k v:Value)(K:Heap->Prop):Prop:=
 match und E t with
 |some (.map kt _)=>match simpleKey E kt with
  |some kd=>asMap m λm=>upM H kd m k v K
  |none=>False
 |_=>False
def wpDelete (E:Env)(H:Heap)(t:Nat)(m k:Value)(K:Heap->Prop):Prop:=
 match und E t with
 |some (.map kt _)=>match simpleKey E kt with
  |some kd=>asMap m λm=>dlM H kd m k K
  |none=>False
 |_=>False
def lnM (H:Heap)(m:Option Nat)(K:Int->Prop):Prop:=∃es,entriesOf H m=some es/\K es.length
def wpLen (E:Env)(H:Heap)(t:Nat)(x:Value)(K:Value->Prop):Prop:=
 match und E t with
 |some (.slice _)=>asSlice x λ_ n=>K (.int .i64 n)
 |some .string=>match x with
  |.string s=>K (.int .i64 s.size)
  |_=>False
 |some (.array n _)=>K (.int .i64 n)
 |some (.map _ _)=>asMap x λm=>lnM H m λn=>K (.int .i64 n)
 |_=>False
def rowOf (H:Heap)(es:Nat)(a:Option Addr)(n:Nat):Option (List Value):=firstCellsA H es n (.slice a n 0)
def apd (H:Heap)(bytes es:Nat)(a:Option Addr)(len n:Nat)(new:List Value)(K:Option Addr->Nat->Heap->Prop):Prop:=
 (n=0/\K a len H)∨(0<n/\(
  (a=none/\len=0/\n*bytes<=140737488355328/\K (some ⟨H.next,0,none⟩) n (H.new (.cells true es new)))∨
  (∃i o c,a=some ⟨i,o,none⟩/\H.get i=some (.cells true es c)/\(
   (o+(len+n)*es<=c.length/\∃H',storeCellsA H i (o+len*es) new=some H'/\K a (len+n) H')∨
   (c.length<o+(len+n)*es/\∃old,takeAt c o (len*es)=some old/\(len+n)*bytes<=140737488355328/\
    K (some ⟨H.next,0,none⟩) (len+n) ((H.set i .dead).new (.cells true es (old++new))))))))
def apdF (H:Heap)(bytes es:Nat)(a:Option Addr)(len n:Nat)(new:List Value)(K:Option Addr->Nat->Heap->Prop):Prop:=
 (n=0/\K a len H)∨(0<n/\(
  (a=none/\len=0/\n*bytes<=140737488355328/\K (some ⟨H.next,0,none⟩) n (H.new (.cells true es new)))∨
  (∃i o c,a=some ⟨i,o,none⟩/\H.get i=some (.cells true es c)/\(
   (o+(len+n)*es<=c.length/\∃H',storeCellsA H i (o+len*es) new=some H'/\K a (len+n) H')∨
   (c.length<o+(len+n)*es/\∃old,takeAt c o (len*es)=some old/\(len+n)*bytes<=140737488355328/\
    ((len≠256/\K (some ⟨H.next,0,none⟩) (len+n) ((H.set i .dead).new (.cells true es (old++new))))∨
     (len=256/\K (some ⟨H.next,0,none⟩) (len+n) ((H.set i (.cells false es (c.take (o+len*es)))).new (.cells false es (old++new))))))))))
def wpAppend (E:Env)(H:Heap)(argTypes:Array TypeId)(args:List Value)(K:Value->Heap->Prop):Prop:=
 match argTypes.toList with
 |[st,xt]=>bif Nat.beq xt st then match und E st with
  |some (.slice e)=>match sizeA E e,zeroCellsA E e,E.ty e with
   |some es,some _,some i=>bif Nat.beq es 0||Nat.beq i.bytes 0 then False else match args with
    |[x,y]=>asSlice x λa len=>asSlice y λb n=>∃new,rowOf H es b n=some new/\bif E.frz st then (apdF H i.bytes es a len n new λa l H'=>K (.slice a l 0) H') else (apd H i.bytes es a len n new λa l H'=>K (.slice a l 0) H')
    |_=>False
   |_,_,_=>False
  |_=>False
  else False
 |_=>False
def wpCopy (E:Env)(H:Heap)(argTypes:Array TypeId)(args:List Value)(K:Value->Heap->Prop):Prop:=
 ∃v H',copyA E H argTypes args=some (v,H')/\exOne (.int .i64 0) λu=>v=u/\K u H'
def wpBuiltin (E:Env)(H:Heap)(b:Builtin)(argTypes:Array TypeId)(args:List Value)(K:Value->Heap->Prop):Prop:=
 match b with
 |.append=>wpAppend E H argTypes args K
 |.copy=>wpCopy E H argTypes args K
 |.len=>match argTypes.toList,args with
  |t::_,x::_=>wpLen E H t x λv=>K v H
  |_,_=>False
 |.delete=>match argTypes.toList,args with
  |t::_,[m,k]=>wpDelete E H t m k λH'=>K undef H'
  |_,_=>False
 |.clear=>match argTypes.toList,args with
  |t::_,[x]=>asSome (clearA E H t x) λH'=>K undef H'
  |_,_=>False
 |.max=>asSome (maxA args) λv=>K v H
 |.min=>asSome (minA args) λv=>K v H
 |_=>False
def clM (H:Heap)(m:Option Nat)(K:Nat->Heap->Prop):Prop:=
 ∃i es clock,m=some i/\H.get i=some (.map es clock)/\nwH H (.map es clock) K
def wpCallF (E:Env)(t:TypeId)(f:FuncId)(args:List Value)(H:Heap)(K:Value->Heap->Prop):Prop:=
 match E.fn f with
 |some _=>CA E f args H λv H'=>exLike (zeroOf E t) λu=>v=u/\K u H'
 |none=>bif E.clone f then match args with
   |[.iface t v]=>asMap v λm=>clM H m λi H'=>K (.iface t (.map (some i))) H'
   |_=>False
  else False
def wpCall (E:Env)(e:Operand->Value)(t:TypeId)(c:Call)(H:Heap)(K:Value->Heap->Prop):Prop:=
 match c.callee with
 |.value (.func f)=>wpCallF E t f (c.args.toList.map e) H K
 |.value f=>asFn (e f) λf fs cs=>(∃fn,E.fn f=some fn)/\CA E f (fs++c.args.toList.map e++cs) H λv H'=>exLike (zeroOf E t) λu=>v=u/\K u H'
 |.builtin b=>wpBuiltin E H b c.argTypes (c.args.toList.map e) K
 |.invoke _ _=>False
def wpMakeSlice (E:Env)(H:Heap)(t:Nat)(len cap:Value)(K:Value->Heap->Prop):Prop:=
 match und E t with
 |some (.slice e)=>match zeroCellsA E e,E.ty e with
  |some z,some i=>asNum len λl=>asNum cap λc=>
   okLen i.bytes l c/\bif Nat.ble 1 i.bytes&&Nat.ble 1 z.length then nwH H (.cells true z.length (reps c.toNat z)) λi H'=>K (.slice (some ⟨i,0,none⟩) l.toNat 0) H' else False
  |_,_=>False
 |_=>False
def cellsBuilt (E:Env)(t len:Nat)(parts:Array (Nat×Value)):Option (Nat×List Value):=
 match und E t with
 |some (.slice e)=>(zeroCellsA E e).bind λz=>
  bif partsOk parts&&Nat.ble (len*z.length) 16777216&&Nat.ble 1 z.length then
   (Instr.fill (λi=>some (i*z.length,z.length)) ⟨reps len z⟩ parts.toList).bind λcs=>
    bif cs.toList.all one then some (z.length,cs.toList) else none
  else none
 |_=>none
def wpOp (E:Env)(e:Operand->Value)(o:Oper)(H:Heap)(K:Value->Heap->Prop):Prop:=
 match o.op with
 |.move x=>K (e x) H
 |.assign x=>K (e x) H
 |.pick c a b=>wpPick (e c) (e a) (e b) λv=>K v H
 |.alloc t=>match (zeroV E t).bind cellsOf with
  |some vs=>nwH H (.cells true 0 vs) λi H'=>K (.pointer (some ⟨i,0,none⟩)) H'
  |none=>False
 |.box _ x=>asCells (e x) λvs=>nwH H (.cells true 0 vs) λi H'=>K (.pointer (some ⟨i,0,none⟩)) H'
 |.build t parts=>asSome (buildV E t ⟨parts.toList.map λp=>(p.1,e p.2)⟩) λv=>K v H
 |.buildSlice t len parts=>asSome (cellsBuilt E t len ⟨parts.toList.map λp=>(p.1,e p.2)⟩) λp=>nwH H (.cells true p.1 p.2) λi H'=>K (.slice (some ⟨i,0,none⟩) len 0) H'
 |.load t a=>wpLoad E t (e a) H λv=>K v H
 |.store t a x=>wpStore E t (e a) (e x) H λH'=>K undef H'
 |.nilCheck x=>match und E o.type with
  |some (.func _ _ _)=>asFn (e x) λf fs cs=>K (.func (.func f) ⟨fs⟩ ⟨cs⟩) H
  |_=>asAddr (e x) λi o=>K (.pointer (some ⟨i,o,none⟩)) H
 |.binOp op t x y _=>match y with
  |.const c=>bif isNilLit c&&plain c then wpNilCmp E op t c (e x) λv=>K v H else wpBin E H op t (e x) (e y) λv=>K v H
  |_=>wpBin E H op t (e x) (e y) λv=>K v H
 |.unOp op _ x=>asSome (unA op (e x)) λv=>K v H
 |.convert src dst x=>asSome (convertA E src dst (e x)) λv=>K v H
 |.makeInterface t x=>match und E t with
  |some (.interface _)=>False
  |some _=>K (.iface t (e x)) H
  |none=>False
 |.makeFunc (.func f) first captured=>K (.func (.func f) ⟨first.toList.map e⟩ ⟨captured.toList.map e⟩) H
 |.makeMap _ none=>nwH H (.map [] 0) λi H'=>K (.map (some i)) H'
 |.makeMap t (some r)=>match und E t with
  |some (.map _ _)=>asNum (e r) λ_=>nwH H (.map [] 0) λi H'=>K (.map (some i)) H'
  |_=>False
 |.makeSlice t l c=>wpMakeSlice E H t (e l) (e c) K
 |.slice t x lo hi mx=>wpSlice E H t (e x) (lo.map e) (hi.map e) (mx.map e) λv=>K v H
 |.fieldAddr s x f=>wpFieldAddr E s (e x) f λv=>K v H
 |.field t x f=>match und E t,e x with
  |some (.struct fields),.agg cs=>match fields[f]? with
   |some fd=>asSome (partA E fd.type cs fd.offset) λv=>K v H
   |none=>False
  |_,_=>False
 |.indexAddr t x ix=>wpIndexAddr E t (e x) (e ix) λv=>K v H
 |.index t x ix=>match und E t with
  |some (.array len el)=>match e x,sizeA E el with
   |.agg cs,some s=>asNum (e ix) λn=>inB n len/\asSome (partA E el cs (n.toNat*s)) λv=>K v H
   |_,_=>False
  |some .string=>match e x with
   |.string s=>asNum (e ix) λn=>asSome (byteA s n) λv=>exOne (.int .u8 0) λu=>v=u/\K u H
   |_=>False
  |_=>False
 |.lookup t x k ok=>wpLookup E H t (e x) (e k) ok λv=>K v H
 |.mapUpdate t m k x=>wpMapUpdate E H t (e m) (e k) (e x) λH'=>K undef H'
 |.insert t m k x=>wpMapUpdate E H t (e m) (e k) (e x) λH'=>K undef H'
 |.typeAssert x _ asserted false=>match und E asserted with
  |some (.interface _)=>False
  |some _=>match e x with
   |.iface t v=>bif Nat.beq t asserted then K v H else False
   |_=>False
  |none=>False
 |.extract t ix=>match e t with
  |.tuple vs=>match vs[ix]? with
   |some v=>K v H
   |none=>False
  |_=>False
 |.call c=>wpCall E e o.type c H K
 |_=>False
def wpWant (ops:Array Oper)(xs:Fr)(o:Oper)(yes no:Fr->Prop):Prop:=
 match o.guard with
 |none=>yes xs
 |some (j,want)=>match (ops[j]?).bind (·.dst) with
  |none=>no xs
  |some d=>match xs[d]? with
   |some (.bool b)=>bif want then cond b (yes (xs.set d (.bool true))) (no (xs.set d (.bool false))) else cond b (no (xs.set d (.bool true))) (yes (xs.set d (.bool false)))
   |some (.tuple ⟨[]⟩)=>no xs
   |none=>no xs
   |_=>False
def wpOps (E:Env)(ops:Array Oper):List Oper->Fr->Heap->(Fr->Heap->Prop)->Prop
 |[],xs,H,Q=>Q xs H
 |o::l,xs,H,Q=>wpWant ops xs o
   (λxs=>wpOp E (evL E xs) o H λv H'=>wpOps E ops l (putL xs o.dst v) H' Q)
   (λxs=>wpOps E ops l (putL xs o.dst undef) H Q)
def wpOpD (b:Bool)(E:Env)(base i:Nat)(e:Operand->Value)(o:Oper)(H:Heap)(K:Value->Heap->Prop):Prop:=
 match o.op with
 |.alloc _=>K (.pointer (some ⟨base+i,0,none⟩)) H
 |_=>bif isBirth b o.op then wpOp E e o heap1 λv H'=>asSome (H'.get 0) λ_=>K (atBlk (base+i) v) H else wpOp E e o H K
def wpPass (b:Bool)(E:Env)(ops:Array Oper)(base:Nat):List Oper->Nat->Fr->Heap->Nat->List DR->List Heap->(List DR->Fr->List Heap->Heap->Prop)->Prop
 |[],_,xs,H,_,rs,hs,F=>F rs xs hs H
 |o::l,i,xs,H,k,rs,hs,F=>wpWant ops xs o
   (λxs=>wpOpD b E base i (evL E xs) o H λv H'=>
    bif isLoudD b o.op then wpPass b E ops base l (i+1) (putL xs o.dst v) H' (k+1) (⟨i,o,true,ofL xs,v,k⟩::rs) (hs++[H']) F
    else wpPass b E ops base l (i+1) (putL xs o.dst v) H k (⟨i,o,true,ofL xs,v,k⟩::rs) hs F)
   (λxs=>wpPass b E ops base l (i+1) (putL xs o.dst undef) H k (⟨i,o,false,ofL xs,undef,k⟩::rs) hs F)
def wpPass0 (E:Env)(ops:Array Oper)(base:Nat):List Oper->Nat->Fr->Heap->List Obj->(List Obj->Prop)->Prop
 |[],_,_,_,os,F=>F os.reverse
 |o::l,i,xs,H,os,F=>wpWant ops xs o
   (λxs=>bif isBirth true o.op then wpOp E (evL E xs) o heap1 λv H'=>asSome (H'.get 0) λob=>wpPass0 E ops base l (i+1) (putL xs o.dst (atBlk (base+i) v)) (H.set (base+i) ob) (bif isBirth false o.op then os else ob::os) F
    else wpOp E (evL E xs) o H λv H'=>wpPass0 E ops base l (i+1) (putL xs o.dst v) H' os F)
   (λxs=>wpPass0 E ops base l (i+1) (putL xs o.dst undef) H (bif isBirth true o.op&& !isBirth false o.op then .dead::os else os) F)
def sameP (v w:Value):Prop:=
 match v,w with
 |.int k a,.int j b=>cond (decide (k=j)) (a=b) False
 |.bool a,.bool b=>a=b
 |.pointer a,.pointer b=>a=b
 |.slice a l c,.slice b m d=>a=b/\l=m/\c=d
 |.map a,.map b=>a=b
 |v,w=>sameN 8 v w=true
def looksP (b:Bool)(E:Env)(base:Nat)(r:DR)(H:Heap):Prop:=
 match r.o.op with
 |.alloc ty=>match (zeroV E ty).bind cellsOf with
  |some vs=>∃c,H.get (base+r.i)=some (.cells true 0 c)/\sameN.sameL 8 vs c=true
  |none=>False
 |_=>bif isBirth b r.o.op then wpOp E (ev E r.T) r.o heap1 λ_ H'=>asSome (H'.get 0) λob=>∃o,H.get (base+r.i)=some o/\sameObj ob o=true
  else wpOp E (ev E r.T) r.o H λv _=>sameP r.v v
def checkP (b:Bool)(E:Env)(base:Nat)(r:DR)(hs:List Heap):Nat->Nat->Prop
 |_,0=>True
 |k,n+1=>(match hs[k]? with
  |some H=>looksP b E base r H
  |none=>False)/\checkP b E base r hs (k+1) n
def quietP (b:Bool)(E:Env)(base:Nat)(ss:List Bool)(ms:List Nat)(all:List DR)(hs:List Heap)(m:Nat):List DR->Prop
 |[]=>True
 |r::l=>bif (!r.w||isLoudD b r.o.op||isPure r.o.op||(ss.getD r.i false&& !isBirth b r.o.op)) then quietP b E base ss ms all hs m l
  else (let lo:=countLoud b (λq=>(ms.getD r.i 0).testBit q.i) all
     let hi:=m - countLoud b (λq=>(ms.getD q.i 0).testBit r.i) all
     checkP b E base r hs lo (hi+1 - lo))/\quietP b E base ss ms all hs m l
def preH (b:Bool)(E:Env)(base:Nat):List Oper->Nat->List Obj->Heap->Option Heap
 |[],_,_,H=>some H
 |o::l,i,os,H=>match o.op with
  |.alloc ty=>match (zeroV E ty).bind cellsOf with
   |some vs=>preH b E base l (i+1) os (H.set (base+i) (.cells true 0 vs))
   |none=>none
  |op=>bif isBirth b op then (match os with
   |ob::os=>preH b E base l (i+1) os (H.set (base+i) ob)
   |[]=>none) else preH b E base l (i+1) os H
def wpDrawB (b:Bool)(E:Env)(ops:Array Oper)(os:List Obj)(xs:Fr)(H:Heap)(Q:Fr->Heap->Prop):Prop:=
 match preH b E H.next ops.toList 0 os (H.bump ops.size) with
 |none=>False
 |some H0=>wpPass b E ops H.next ops.toList 0 xs H0 0 [] [H0] λrs xs' hs H'=>
   Q xs' H'/\quietP b E H.next (stricts b ops (masksFrom ops.toList [])) (masksFrom ops.toList []) rs hs (hs.length - 1) rs
def wpDraw (E:Env)(ops:Array Oper)(xs:Fr)(H:Heap)(Q:Fr->Heap->Prop):Prop:=
 bif staticOk false ops then wpDrawB false E ops [] xs H Q
 else bif staticOk true ops then wpPass0 E ops H.next ops.toList 0 xs (H.bump ops.size) [] λos=>wpDrawB true E ops os xs H Q
 else False
def writesOps (l:List Oper)(ds:List Nat):List Nat:=
 match l with
 |[]=>ds
 |o::l=>match o.dst with
  |some d=>writesOps l (bif ds.any (Nat.beq d) then ds else ds++[d])
  |none=>writesOps l ds
def writesIn:Code->List Nat->List Nat
 |.region _ ops _,ds=>writesOps ops.toList ds
 |.seq a b,ds=>writesIn b (writesIn a ds)
 |.cond _ a b,ds=>writesIn b (writesIn a ds)
 |.block _ b,ds=>writesIn b ds
 |.loop b,ds=>writesIn b ds
 |.scope b,ds=>writesIn b ds
 |_,ds=>ds
def writes (c:Code):List Nat:=writesIn c []
def exitsIn:Code->List X->List X
 |.seq a b,es=>exitsIn b (exitsIn a es)
 |.cond _ a b,es=>exitsIn b (exitsIn a es)
 |.block id b,es=>es++(exitsIn b []).filter λx=>match x with
  |.exit j=> !(Nat.beq j id)
  |_=>true
 |.loop b,es=>exitsIn b es
 |.scope b,es=>exitsIn b es
 |.exit id,es=>bif es.any (λx=>match x with|.exit j=>Nat.beq j id|_=>false) then es else es++[.exit id]
 |.ret,es=>bif es.any (λx=>match x with|.ret=>true|_=>false) then es else es++[.ret]
 |_,es=>es
def asSl (v:Value)(K:Option Addr->Nat->Prop):Prop:=
 match v with
 |.slice a l c=>cond (Nat.beq c 0) (K a l) False
 |_=>False
def asPtr (v:Value)(K:Option Addr->Prop):Prop:=
 match v with
 |.pointer p=>K p
 |_=>False
def asLike0 (z v:Value)(K:Value->Prop):Prop:=
 match z with
 |.int k _=>asInt k v λn=>K (.int k n)
 |.bool _=>asBool v λb=>K (.bool b)
 |.slice _ _ _=>asSl v λa l=>K (.slice a l 0)
 |.pointer _=>asPtr v λp=>K (.pointer p)
 |.map _=>asMap v λm=>K (.map m)
 |_=>K v
def asLikes:List Value->List Value->(List Value->Prop)->Prop
 |[],[],K=>K []
 |z::zs,v::vs,K=>asLike0 z v λu=>asLikes zs vs λl=>K (u::l)
 |_,_,_=>False
def asAgg (v:Value)(K:List Value->Prop):Prop:=
 match v with
 |.agg cs=>K cs.toList
 |_=>False
def asLike (z v:Value)(K:Value->Prop):Prop:=
 match z with
 |.agg cs=>asAgg v λl=>asLikes cs.toList l λl=>K (.agg ⟨l⟩)
 |z=>asLike0 z v K
def LA (E:Env)(b:Code)(xs:Fr)(H:Heap)(Ks:List (X×(Fr->Heap->Prop))):Prop:=
 WA E (.loop b) (ofL xs) H λx T H'=>∃xs',T=ofL xs'/\xs'.length=xs.length/\(∀k,k∉writes b->xs'[k]? =xs[k]?)/\∃p∈Ks,p.1=x/\p.2 xs' H'
abbrev Sorts:=List (Nat×Value)
def sortOf:Sorts->Nat->Value
 |[],_=>undef
 |(k,v)::l,w=>bif Nat.beq k w then v else sortOf l w
def outOf (Z:Sorts):List Nat->Fr->(Fr->Prop)->Fr->Prop
 |[],acc,K,_=>K acc
 |w::ws,acc,K,xs=>asLike (sortOf Z w) (xs.getD w undef) λv=>outOf Z ws (acc.set w v) K xs
def loopsN:Code->Nat
 |.seq a b=>loopsN a+loopsN b
 |.cond _ a b=>loopsN a+loopsN b
 |.block _ b=>loopsN b
 |.loop b=>loopsN b+1
 |.scope b=>loopsN b
 |_=>0
def wpCode (E:Env):Code->List Sorts->Fr->Heap->(X->Fr->Heap->Prop)->Prop
 |.skip,_,xs,H,Q=>Q .normal xs H
 |.label _,_,xs,H,Q=>Q .normal xs H
 |.region _ ops d,_,xs,H,Q=>bif d then wpDraw E ops xs H (Q .normal) else wpOps E ops ops.toList xs H (Q .normal)
 |.seq a b,Z,xs,H,Q=>wpCode E a Z xs H λx xs H=>match x with
  |.normal=>wpCode E b (Z.drop (loopsN a)) xs H Q
  |.exit id=>Q (.exit id) xs H
  |.ret=>Q .ret xs H
 |.cond c a b,Z,xs,H,Q=>match c with
  |.tmp t=>asBool (xs.getD t undef) λv=>cond v (wpCode E a Z (xs.set t (.bool true)) H Q) (wpCode E b (Z.drop (loopsN a)) (xs.set t (.bool false)) H Q)
  |c=>asBool (evL E xs c) λv=>cond v (wpCode E a Z xs H Q) (wpCode E b (Z.drop (loopsN a)) xs H Q)
 |.block id b,Z,xs,H,Q=>wpCode E b Z xs H λx xs H=>match x with
  |.normal=>Q .normal xs H
  |.exit j=>bif Nat.beq j id then Q .normal xs H else Q (.exit j) xs H
  |.ret=>Q .ret xs H
 |.loop b,Z,xs,H,Q=>LA E b xs H ((exitsIn b []).map λx=>(x,λxs' H'=>outOf (Z.headD []) (writes b) xs (λxs''=>Q x xs'' H') xs'))
 |.exit id,_,xs,H,Q=>Q (.exit id) xs H
 |.ret,_,xs,H,Q=>Q .ret xs H
 |.scope b,Z,xs,H,Q=>wpCode E b Z xs H Q
 |_,_,_,_,_=>False
def loopsIn:Code->List Code
 |.seq a b=>loopsIn a++loopsIn b
 |.cond _ a b=>loopsIn a++loopsIn b
 |.block _ b=>loopsIn b
 |.loop b=>b::loopsIn b
 |.scope b=>loopsIn b
 |_=>[]
def loopAt (f:Func)(k:Nat):Code:=
 match f.body with
 |some c=>(loopsIn c).getD k .skip
 |none=>.skip
def resOfL (E:Env)(xs:Fr)(H:Heap):List ResultVar->(List Value->Prop)->Prop
 |[],K=>K []
 |.tmp t::l,K=>resOfL E xs H l λvs=>K (xs.getD t undef::vs)
 |.cell a t::l,K=>wpLoad E t (xs.getD a undef) H λv=>resOfL E xs H l λvs=>K (v::vs)
def backL (E:Env)(fn:Func)(R:Value->Heap->Prop)(x:X)(xs:Fr)(H:Heap):Prop:=
 match x with
 |.normal=>resOfL E xs H fn.results.toList λvs=>R (resultOf vs) H
 |.ret=>resOfL E xs H fn.results.toList λvs=>R (resultOf vs) H
 |.exit _=>False
def fr0 (n:Nat)(args:List Value):Fr:=args++List.replicate (n - args.length) undef
def wpFn (E:Env)(Z:List Sorts)(fn:Func)(args:List Value)(H:Heap)(R:Value->Heap->Prop):Prop:=
 match fn.body with
 |some c=>bif Nat.ble args.length fn.ntmps then wpCode E c Z (fr0 fn.ntmps args) H (backL E fn R) else False
 |none=>False
end
end
section
theorem ofL_get (xs:Fr)(k:Nat):(ofL xs).get k=xs[k]? :=by
 unfold ofL;rw [updsFrom_get,Tr.get_fill _ _ _ _ (Nat.le_refl _)];by_cases h:k<xs.length
 ·rw [if_pos (by omega),if_pos h];simp [h]
 ·rw [if_neg (by omega),if_neg h];simp [Nat.le_of_not_lt h]
section trees
variable {α:Type}
theorem Tr.upd_upd (v w:α):∀(t:Tr α)(n:Nat),(t.upd n v).upd n w=t.upd n w
 |.nil,n=>rfl
 |.node o l r,0=>by cases o<;>rfl
 |.node o l r,n+1=>by
  simp only [Tr.upd_succ]
  cases hb:Nat.beq (Nat.mod n 2) 0<;>simp only [cond_true,cond_false,Tr.upd_succ,hb,Tr.upd_upd v w]
theorem Tr.upd_comm (v w:α):∀(t:Tr α)(n m:Nat),n≠m->(t.upd n v).upd m w=(t.upd m w).upd n v
 |.nil,n,m,_=>rfl
 |.node o l r,0,0,h=>absurd rfl h
 |.node o l r,0,m+1,h=>by
  simp only [Tr.upd_succ,Tr.upd_zero];cases hb:Nat.beq (Nat.mod m 2) 0<;>simp only [cond_true,cond_false,Tr.upd_succ,Tr.upd_zero,hb]
 |.node o l r,n+1,0,h=>by
  simp only [Tr.upd_succ,Tr.upd_zero];cases hb:Nat.beq (Nat.mod n 2) 0<;>simp only [cond_true,cond_false,Tr.upd_succ,Tr.upd_zero,hb]
 |.node o l r,n+1,m+1,h=>by
  simp only [Tr.upd_succ];have key:∀b,Nat.beq (Nat.mod n 2) 0=b->Nat.beq (Nat.mod m 2) 0=b->Nat.div n 2≠Nat.div m 2:=by
   intro b h1 h2;cases b with
   |true=>have e1:=even_of h1;have e2:=even_of h2;simp only [div_def];omega
   |false=>have e1:=odd_of h1;have e2:=odd_of h2;simp only [div_def];omega
  cases hb:Nat.beq (Nat.mod n 2) 0<;>cases hc:Nat.beq (Nat.mod m 2) 0<;>simp only [cond_true,cond_false,Tr.upd_succ,hb,hc]
  ·rw [Tr.upd_comm v w r _ _ (key _ hb hc)]
  ·rw [Tr.upd_comm v w l _ _ (key _ hb hc)]
theorem updsFrom_upd (v:α):∀(xs:List α)(n:Nat)(t:Tr α)(k:Nat),k<xs.length->(Tr.updsFrom xs n t).upd (n+k) v=Tr.updsFrom (xs.set k v) n t
 |[],n,t,k,h=>by simp at h
 |x::xs,n,t,k,h=>by
  have out:∀(l:List α)(m:Nat)(s:Tr α),n<m->(Tr.updsFrom l m s).upd n v=Tr.updsFrom l m (s.upd n v):=by
   intro l
   induction l with
   |nil=>intro m s _;rfl
   |cons y l ih=>
    intro m s hm;simp only [Tr.updsFrom_cons];rw [ih (m+1) _ (by omega),Tr.upd_comm y v _ _ _ (show m≠n by omega)]
  cases k with
  |zero=>
   simp only [Nat.add_zero,List.set_cons_zero,Tr.updsFrom_cons];rw [out xs (n+1) _ (by omega),Tr.upd_upd]
  |succ k=>
   simp only [List.set_cons_succ,Tr.updsFrom_cons]
   have:=updsFrom_upd v xs (n+1) (t.upd n x) k (by simpa using h)
   rw [show n+(k+1)=n+1+k from by omega];exact this
theorem Tr.upd_out (v:α)(t:Tr α)(n:Nat)(h:t.get n=none):t.upd n v=t:=by
 induction t generalizing n with
 |nil=>rfl
 |node o l r il ir=>
  cases n with
  |zero=>
   have:o=none:=h
   subst this;rfl
  |succ n=>
   simp only [Tr.get_succ] at h;simp only [Tr.upd_succ];cases hb:Nat.beq (Nat.mod n 2) 0<;>rw [hb] at h<;>simp only [cond_true,cond_false] at h⊢
   ·rw [ir _ h]
   ·rw [il _ h]
end trees
theorem ofL_set (xs:Fr)(d:Nat)(v:Value):(ofL xs).upd d v=ofL (xs.set d v):=by
 by_cases h:d<xs.length
 ·unfold ofL;rw [List.length_set]
  have:=updsFrom_upd v xs 0 (Tr.fill undef xs.length xs.length) d h
  rwa [Nat.zero_add] at this
 ·rw [List.set_eq_of_length_le (Nat.le_of_not_lt h)];refine Tr.upd_out _ _ _ ?_;rw [ofL_get];simp [Nat.le_of_not_lt h]
theorem putT_ofL (xs:Fr)(d:Option Tmp)(v:Value):putT (ofL xs) d v=ofL (putL xs d v):=by
 cases d with
 |none=>rfl
 |some d=>exact ofL_set xs d v
theorem ev_ofL (E:Env)(xs:Fr):ev E (ofL xs)=evL E xs:=by
 funext x
 cases x with
 |tmp t=>
  show ((ofL xs).get t).getD undef=xs.getD t undef;rw [ofL_get,List.getD_eq_getElem?_getD]
 |const v=>rfl
 |global g=>rfl
 |func f=>rfl
theorem initT_ofL {fn:Func}{args:List Value}(h:args.length<=fn.ntmps):initT fn args=some (ofL (fr0 fn.ntmps args)):=by
 unfold initT;rw [Nat.ble_eq_true_of_le h];simp only [cond_true,Option.some.injEq];unfold ofL fr0;have hl:(args++List.replicate (fn.ntmps - args.length) undef).length=fn.ntmps:=by simp;omega
 rw [hl];have app:∀(l m:List Value)(n:Nat)(t:Tr Value),Tr.updsFrom (l++m) n t=Tr.updsFrom m (n+l.length) (Tr.updsFrom l n t):=by
  intro l
  induction l with
  |nil=>intro m n t;rfl
  |cons x l ih=>
   intro m n t;simp only [List.cons_append,Tr.updsFrom_cons,ih,List.length_cons];rw [show n+1+l.length=n+(l.length+1) from by omega]
 rw [app];have same:∀(k n:Nat)(t:Tr Value),(∀j,n<=j->j<n+k->t.get j=some undef)->Tr.updsFrom (List.replicate k undef) n t=t:=by
  intro k
  induction k with
  |zero=>intro n t _;rfl
  |succ k ih=>
   intro n t ht;simp only [List.replicate_succ,Tr.updsFrom_cons];have e:t.upd n undef=t:=by
    have:=ht n (Nat.le_refl _) (by omega)
    clear ht ih
    induction t generalizing n with
    |nil=>rfl
    |node o l r il ir=>
     cases n with
     |zero=>
      have h0:o=some undef:=this;subst h0;rfl
     |succ n=>
      simp only [Tr.get_succ] at this;simp only [Tr.upd_succ];cases hb:Nat.beq (Nat.mod n 2) 0<;>rw [hb] at this<;>simp only [cond_true,cond_false] at this⊢
      ·rw [ir _ this]
      ·rw [il _ this]
   rw [e];exact ih (n+1) t λj h1 h2=>ht j (by omega) (by omega)
 rw [same];intro j h1 h2;rw [updsFrom_get,if_neg (by omega),Tr.get_fill _ _ _ _ (Nat.le_refl _),if_pos (by omega)]
section
variable {E:Env}
theorem asBool_elim {v:Value}{K:Bool->Prop}(h:asBool v K):∃b,v=.bool b/\K b:=by
 unfold asBool at h;split at h
 ·exact ⟨_,rfl,h⟩
 ·exact h.elim
theorem asInt_elim {k:IntKind}{v:Value}{K:Int->Prop}(h:asInt k v K):∃n,v=.int k n/\K n:=by
 unfold asInt at h;split at h
 ·rename_i j n;by_cases e:j=k
  ·subst e;simp only [decide_true,cond_true] at h;exact ⟨_,rfl,h⟩
  ·simp only [e,decide_false,cond_false] at h
 ·exact h.elim
theorem asNum_elim {v:Value}{K:Int->Prop}(h:asNum v K):∃k n,v=.int k n/\K n:=by
 unfold asNum at h;split at h
 ·exact ⟨_,_,rfl,h⟩
 ·exact h.elim
theorem asAddr_elim {v:Value}{K:Nat->Nat->Prop}(h:asAddr v K):∃i o,v=.pointer (some ⟨i,o,none⟩)/\K i o:=by
 unfold asAddr at h;split at h
 ·exact ⟨_,_,rfl,h⟩
 ·exact h.elim
theorem asRow_elim {a:Option Addr}{K:Nat->Nat->Prop}(h:asRow a K):∃i o,a=some ⟨i,o,none⟩/\K i o:=by
 unfold asRow at h;split at h
 ·exact ⟨_,_,rfl,h⟩
 ·exact h.elim
theorem asSlice_elim {v:Value}{K:Option Addr->Nat->Prop}(h:asSlice v K):∃a l c,v=.slice a l c/\K a l:=by
 unfold asSlice at h;split at h
 ·exact ⟨_,_,_,rfl,h⟩
 ·exact h.elim
theorem asMap_elim {v:Value}{K:Option Nat->Prop}(h:asMap v K):∃m,v=.map m/\K m:=by
 unfold asMap at h;split at h
 ·exact ⟨_,rfl,h⟩
 ·exact h.elim
theorem asFn_elim {v:Value}{K:FuncId->List Value->List Value->Prop}(h:asFn v K):∃f fs cs,v=.func (.func f) fs cs/\K f fs.toList cs.toList:=by
 unfold asFn at h;split at h
 ·exact ⟨_,_,_,rfl,h⟩
 ·exact h.elim
theorem asCells_elim {v:Value}{K:List Value->Prop}(h:asCells v K):∃l,cellsOf v=some l/\K l:=by
 unfold asCells at h;split at h
 ·exact ⟨_,‹_›,h⟩
 ·exact h.elim
theorem asSome_elim {α:Type}{o:Option α}{K:α->Prop}(h:asSome o K):∃x,o=some x/\K x:=by
 unfold asSome at h;split at h
 ·exact ⟨_,rfl,h⟩
 ·exact h.elim
def ResK (E:Env)(H:Heap)(K:Value->Heap->Prop):Option Res->Prop
 |some (.val v H')=>K v H'
 |some (.call f args)=>CA E f args H K
 |none=>False
theorem resK_rv {H:Heap}{K:Value->Heap->Prop}{o:Option Value}(h:∃v,o=some v/\K v H):ResK E H K (rv H o):=by
 obtain ⟨v,rfl,h⟩:=h;exact h
theorem resK_rh {H:Heap}{K:Value->Heap->Prop}{o:Option Heap}(h:∃H',o=some H'/\K undef H'):ResK E H K (rh o):=by
 obtain ⟨v,rfl,h⟩:=h;exact h
theorem resK_rvh {H:Heap}{K:Value->Heap->Prop}{o:Option (Value×Heap)}(h:∃v H',o=some (v,H')/\K v H'):ResK E H K (rvh o):=by
 obtain ⟨v,H',rfl,h⟩:=h;exact h
theorem wpLoad_ok {t:Nat}{a:Value}{H:Heap}{K:Value->Prop}(h:wpLoad E t a H K):∃v,loadV E H t a=some v/\K v:=by
 replace h:=asAddr_elim h;obtain ⟨i,o,rfl,h⟩:=h;simp only [loadV];split at h
 ·rename_i hagg;have⟨v,h1,h2⟩:=exOne_some h;refine ⟨v,?_,h2⟩;unfold Heap.cell at h1;split at h1
  ·rename_i w z c hg;rw [hg];simp only [hagg];exact h1
  ·cases h1
 ·rename_i hagg;split at h
  ·rename_i n hn;cases hb:Nat.beq n 0 with
   |true=>rw [hb] at h;exact h.elim
   |false=>
    rw [hb] at h;have⟨l,h1,h2⟩:=exCells_some h;refine ⟨_,?_,h2⟩;unfold Heap.cellsAt at h1;split at h1
    ·rename_i w z c hg;rw [hg];simp only [hagg,hn,Option.bind_some];rw [if_neg (Nat.ne_of_beq_eq_false hb),h1];rfl
    ·cases h1
  ·exact h.elim
 ·exact h.elim
theorem stc_ok {H:Heap}{i o:Nat}{vs:List Value}{K:Heap->Prop}(h:stc H i o vs K):∃H',storeCellsA H i o vs=some H'/\K H':=by
 have⟨z,c,h1,h2,h3⟩:=h;refine ⟨_,?_,h3⟩;unfold storeCellsA;rw [h1];simp only;rw [if_pos h2]
theorem wpStore_ok {t:Nat}{a v:Value}{H:Heap}{K:Heap->Prop}(h:wpStore E t a v H K):∃H',storeV E H t a v=some H'/\K H':=by
 replace h:=asAddr_elim h;obtain ⟨i,o,rfl,h⟩:=h;have⟨vs,hc,h⟩:=asCells_elim h;split at h
 ·rename_i n hn;cases hb:Nat.beq vs.length n with
  |false=>rw [hb] at h;exact h.elim
  |true=>
   rw [hb] at h;have⟨H',h1,h2⟩:=stc_ok h;refine ⟨H',?_,h2⟩;simp only [storeV,hc,hn,Option.bind_some];rw [if_pos (Nat.eq_of_beq_eq_true hb)];exact h1
 ·exact h.elim
theorem wpInt_ok {op:BinOp}{k:IntKind}{a b:Int}{K:Value->Prop}(h:wpInt op k a b K):(isShift op=true->∃v,shiftA op k a b=some v/\K v)/\(isShift op=false->∃v,intBinA op k a b=some v/\K v):=by
 cases op<;>simp only [wpInt,isShift] at h⊢ <;>refine ⟨λhs=>?_,λhs=>?_⟩<;>first
  |(cases hs;done)
  |(have⟨h1,h2⟩:=h
    refine ⟨_,?_,h2⟩
    first
     |(simp only [intBinA];rw [if_neg h1])
     |(simp only [shiftA];rw [if_neg (by unfold nn at h1;omega)]))
  |exact asSome_elim h
theorem wpEqS_ok {H:Heap}{d t:Nat}{x y:Value}{K:Bool->Prop}(h:wpEqS E t x y K):∃b,eqA E H (d+1) t x y=some b/\K b:=by
 unfold wpEqS at h;split at h
 ·rename_i k hu;split at h
  ·rename_i k a j b;by_cases e:k=j
   ·subst e;simp only [decide_true,cond_true] at h;refine ⟨_,?_,h⟩;simp [eqA,hu]
   ·simp only [e,decide_false,cond_false] at h
  ·exact h.elim
 ·rename_i hu;split at h
  ·refine ⟨_,?_,h⟩;simp [eqA,hu]
  ·exact h.elim
 ·exact h.elim
theorem wpEqF_ok {H:Heap}{d:Nat}{xs ys:Array Value}:∀{fs:List Field}{K:Bool->Prop},wpEqF E xs ys fs K->∃b,eqFieldsA E (eqA E H (d+1)) xs ys fs=some b/\K b
 |[],K,h=>⟨true,rfl,h⟩
 |f::fs,K,h=>by
  simp only [wpEqF] at h
  split at h
  ·rename_i u hu
   split at h
   ·rename_i v hv
    have⟨b,h1,h2⟩:=wpEqS_ok (H:=H) (d:=d) h
    simp only [eqFieldsA,hu,hv,Option.bind_some,h1]
    split at h2
    ·cases b with
     |true=>exact ⟨true,rfl,h2⟩
     |false=>exact ⟨false,rfl,h2⟩
    ·have⟨b',h3,h4⟩:=wpEqF_ok (H:=H) (d:=d) h2
     cases b with
     |true=>exact ⟨b',h3,by simpa using h4⟩
     |false=>exact ⟨false,rfl,by simpa using h4⟩
   ·exact h.elim
  ·exact h.elim
theorem wpBin_ok {H:Heap}{op:BinOp}{t:Nat}{x y:Value}{K:Value->Prop}(h:wpBin E H op t x y K):∃v,binA E H op t x y=some v/\K v:=by
 unfold wpBin at h;split at h
 ·rename_i k a;split at h
  ·rename_i j b;cases hs:isShift op with
   |true=>
    rw [hs] at h;have⟨v,h1,h2⟩:=(wpInt_ok h).1 hs;exact ⟨v,by simp only [binA,hs,cond_true];exact h1,h2⟩
   |false=>
    rw [hs] at h;simp only [cond_false] at h;by_cases e:k=j
    ·subst e;simp only [decide_true,cond_true] at h;have⟨v,h1,h2⟩:=(wpInt_ok h).2 hs;exact ⟨v,by simp only [binA,hs,cond_false,if_pos];exact h1,h2⟩
    ·simp only [e,decide_false,cond_false] at h
  ·exact h.elim
 ·rename_i a;split at h
  ·rename_i b;split at h
   ·rename_i hu;split at h
    ·exact ⟨_,by simp [binA,eqKind,eqA,hu],h⟩
    ·exact ⟨_,by simp [binA,eqKind,eqA,hu],h⟩
    ·exact h.elim
   ·exact h.elim
  ·exact h.elim
 ·rename_i xs;split at h
  ·rename_i ys;cases hq:E.eqOk t with
   |false=>rw [hq] at h;exact h.elim
   |true=>
    rw [hq] at h;simp only [cond_true] at h;split at h
    ·rename_i fields hu;have⟨b,h1,h2⟩:=wpEqF_ok (H:=H) (d:=2) h;have e:eqA E H 4 t (.agg xs) (.agg ys)=some b:=by
      unfold eqA;simp only [hu,hq,cond_true];exact h1
     split at h2
     ·exact ⟨_,by simp only [binA,hq,cond_true,e,Option.map_some],h2⟩
     ·exact ⟨_,by simp only [binA,hq,cond_true,e,Option.map_some],h2⟩
     ·exact h2.elim
    ·exact h.elim
  ·exact h.elim
 ·exact asSome_elim h
theorem wpNilCmp_ok {H:Heap}{op:BinOp}{t:Nat}{c v:Value}{K:Value->Prop}(h:wpNilCmp E op t c v K):∃u,binA E H op t v c=some u/\K u:=by
 unfold wpNilCmp nilFor at h;split at h
 ·rename_i hu;split at h
  ·rename_i p;split at h<;>first
    |exact h.elim
    |(refine ⟨_,?_,h⟩
      cases p with
      |none=>simp [binA,eqKind,eqA,hu]
      |some a=>simp [binA,eqKind,eqA,hu])
  ·exact h.elim
 ·rename_i hu;split at h
  ·rename_i p _ _;split at h<;>first
    |exact h.elim
    |(refine ⟨_,?_,h⟩
      cases p with
      |none=>simp [binA,eqKind,eqA,hu]
      |some a=>simp [binA,eqKind,eqA,hu])
  ·exact h.elim
 ·rename_i hu;split at h
  ·rename_i p;split at h<;>first
    |exact h.elim
    |(refine ⟨_,?_,h⟩
      cases p with
      |none=>simp [binA,eqKind,eqA,hu]
      |some a=>simp [binA,eqKind,eqA,hu])
  ·exact h.elim
 ·rename_i hu;unfold asFnNil at h;split at h
  ·split at h<;>first
    |exact h.elim
    |exact ⟨_,by simp [binA,eqKind,eqA,hu],h⟩
  ·split at h<;>first
    |exact h.elim
    |exact ⟨_,by simp [binA,eqKind,eqA,hu],h⟩
  ·exact h.elim
 ·exact h.elim
theorem bndHi_ok {len:Nat}{hi:Option Value}{K:Nat->Prop}(h:bndHi len hi K):∃n,boundA 0 len len hi=some n/\K n:=by
 unfold bndHi at h;split at h
 ·exact ⟨len,by simp [boundA],h⟩
 ·replace h:=asNum_elim h;obtain ⟨k,n,rfl,h1,h2⟩:=h;exact ⟨_,by simp only [boundA];rw [if_pos (by simpa [inS] using h1)],h2⟩
theorem bndLo_ok {hh:Nat}{lo:Option Value}{K:Nat->Prop}(h:bndLo hh lo K):∃n,boundA 0 0 hh lo=some n/\K n:=by
 unfold bndLo at h;split at h
 ·exact ⟨0,by simp [boundA],h⟩
 ·replace h:=asNum_elim h;obtain ⟨k,n,rfl,h1,h2⟩:=h;exact ⟨_,by simp only [boundA];rw [if_pos (by simpa [inS] using h1)],h2⟩
theorem wpSlice_ok {H:Heap}{t:Nat}{x:Value}{lo hi mx:Option Value}{K:Value->Prop}(h:wpSlice E H t x lo hi mx K):∃v,sliceA E H t x lo hi mx=some v/\K v:=by
 unfold wpSlice at h;split at h
 ·exact h.elim
 ·split at h
  ·rename_i e hu;split at h
   ·rename_i n hn;replace h:=asSlice_elim h;obtain ⟨a,len,c,rfl,h⟩:=h;have⟨hh,h1,h⟩:=bndHi_ok h;have⟨l,h2,h⟩:=bndLo_ok h;unfold slK at h;simp only [sliceA,hu,hn,Option.bind_some,h1,h2];split at h
    ·exact ⟨_,rfl,h⟩
    ·have⟨⟨w,z,c,h3,h4⟩,h5⟩:=h;refine ⟨_,?_,h5⟩;simp only [h3];rw [if_pos h4]
    ·exact h.elim
   ·exact h.elim
  ·rename_i n e hu;split at h
   ·rename_i hn;replace h:=asAddr_elim h;obtain ⟨i,o,rfl,⟨w,c,h3⟩,h5⟩:=h;exact ⟨_,by simp only [sliceA,hu,h3,hn,Option.bind_some],h5⟩
   ·exact h.elim
  ·exact h.elim
theorem wpLookup_ok {H:Heap}{t:Nat}{x k:Value}{ok:Bool}{K:Value->Prop}(h:wpLookup E H t x k ok K):∃v,lookupA E H t x k ok=some v/\K v:=by
 unfold wpLookup at h;split at h
 ·rename_i kt e hu;split at h
  ·rename_i kd hk;split at h
   ·rename_i z hz;replace h:=asMap_elim h;obtain ⟨m,rfl,r,hr,h⟩:=h;have⟨v,h1,h2⟩:=exPart_some h;refine ⟨_,?_,h2⟩;unfold got at h1;unfold mapGet entriesOf at hr;simp only [lookupA,hu,hk,hz,Option.bind_some];cases m with
    |none=>
     simp only [Option.bind_some] at hr⊢;rw [hr];cases r with
     |none=>simp only at h1;subst h1;cases ok<;>rfl
     |some p=>have⟨j,u⟩:=p;simp only at h1;subst h1;cases ok<;>rfl
    |some i=>
     simp only at hr⊢;split at hr
     ·rename_i es ck hg;simp only [hg,Option.bind_some] at hr⊢;rw [hr];cases r with
      |none=>simp only at h1;subst h1;cases ok<;>rfl
      |some p=>have⟨j,u⟩:=p;simp only at h1;subst h1;cases ok<;>rfl
     ·cases hr
   ·exact h.elim
  ·exact h.elim
 ·exact h.elim
theorem wpMapUpdate_ok {H:Heap}{t:Nat}{m k v:Value}{K:Heap->Prop}(h:wpMapUpdate E H t m k v K):∃H',mapUpdateA E H t m k v=some H'/\K H':=by
 unfold wpMapUpdate at h;split at h
 ·rename_i kt e hu;split at h
  ·rename_i kd hk;replace h:=asMap_elim h;obtain ⟨m,rfl,i,es,ck,r,rfl,h1,h2,h3⟩:=h;refine ⟨_,?_,h3⟩;simp only [mapUpdateA,hu,hk,Option.bind_some,h1,h2,Option.map_some,Option.some.injEq];cases r with
   |none=>rfl
   |some p=>rfl
  ·exact h.elim
 ·exact h.elim
theorem wpDelete_ok {H:Heap}{t:Nat}{m k:Value}{K:Heap->Prop}(h:wpDelete E H t m k K):∃H',deleteA E H t m k=some H'/\K H':=by
 unfold wpDelete at h;split at h
 ·rename_i kt e hu;split at h
  ·rename_i kd hk;replace h:=asMap_elim h;obtain ⟨m,rfl,i,es,ck,r,rfl,h1,h2,h3⟩:=h;refine ⟨_,?_,h3⟩;simp only [deleteA,hu,hk,Option.bind_some,h1,h2,Option.map_some,Option.some.injEq];cases r with
   |none=>rfl
   |some p=>rfl
  ·exact h.elim
 ·exact h.elim
theorem wpLen_ok {H:Heap}{t:Nat}{x:Value}{K:Value->Prop}(h:wpLen E H t x K):∃v,lenA E H t x=some v/\K v:=by
 unfold wpLen at h;split at h
 ·rename_i e hu;replace h:=asSlice_elim h;obtain ⟨a,n,c,rfl,h⟩:=h;exact ⟨_,by simp only [lenA,hu];rfl,h⟩
 ·rename_i hu;split at h
  ·exact ⟨_,by simp only [lenA,hu];rfl,h⟩
  ·exact h.elim
 ·rename_i n e hu;exact ⟨_,by simp only [lenA,hu];rfl,h⟩
 ·rename_i kt e hu;replace h:=asMap_elim h;obtain ⟨m,rfl,es,h1,h2⟩:=h;unfold entriesOf at h1;cases m with
  |none=>
   simp only [Option.some.injEq] at h1;subst h1;exact ⟨_,by simp only [lenA,hu];rfl,h2⟩
  |some i=>
   simp only at h1;split at h1
   ·rename_i es' ck hg;simp only [Option.some.injEq] at h1;subst h1;exact ⟨_,by simp only [lenA,hu,hg];rfl,h2⟩
   ·cases h1
 ·exact h.elim
theorem rowOf_ok {H:Heap}{es:Nat}{a:Option Addr}{n c:Nat}{l:List Value}(h:rowOf H es a n=some l):firstCellsA H es n (.slice a n c)=some l:=by
 unfold rowOf at h;cases a with
 |none=>exact h
 |some A=>
  have⟨i,o,s⟩:=A;cases s<;>exact h
theorem wpAppend_ok {H:Heap}{ts:Array TypeId}{args:List Value}{K:Value->Heap->Prop}(h:wpAppend E H ts args K):∃v H',appendA E H ts args=some (v,H')/\K v H':=by
 unfold wpAppend at h;split at h
 ·rename_i st xt hts;cases hb:Nat.beq xt st with
  |false=>rw [hb] at h;exact h.elim
  |true=>
   obtain rfl:=Nat.eq_of_beq_eq_true hb;rw [hb] at h;simp only [cond_true] at h;split at h
   ·rename_i e hu;split at h
    ·rename_i es z i h1 h2 h3;cases hz:(Nat.beq es 0||Nat.beq i.bytes 0) with
     |true=>rw [hz] at h;exact h.elim
     |false=>
      rw [hz] at h;simp only [cond_false] at h;simp only [Bool.or_eq_false_iff] at hz;split at h
      ·rename_i x y;replace h:=asSlice_elim h;obtain ⟨a,len,c,rfl,h⟩:=h;replace h:=asSlice_elim h;obtain ⟨b,n,c',rfl,new,hnew,h⟩:=h;have hb1:1<=i.bytes:=by have:=Nat.ne_of_beq_eq_false hz.2;omega
       simp only [appendA,hts,if_pos,hu,h1,Option.bind_some,lenOfA,rowOf_ok hnew,hz.1,cond_false];cases hfz:E.frz xt with
       |false=>
        rw [hfz] at h;simp only [cond_false] at h;rcases h with ⟨rfl,h⟩|⟨hn,h⟩
        ·rw [if_pos rfl];refine ⟨_,_,rfl,?_⟩;exact h
        ·rw [if_neg (by omega)];rcases h with ⟨rfl,rfl,hlim,h⟩|⟨j,o,cs,rfl,hg,h⟩
         ·simp only [if_pos,growsA,h2,h3,Option.bind_some];rw [if_pos ⟨hlim,hb1⟩];exact ⟨_,_,rfl,by simpa [newRowA] using h⟩
         ·simp only [hg,if_pos];rcases h with ⟨hc,H',hs,h⟩|⟨hc,old,ho,hlim,h⟩
          ·rw [if_pos hc,hs];exact ⟨_,_,rfl,h⟩
          ·rw [if_neg (by omega),ho];simp only [Option.bind_some,hfz,Bool.false_and,cond_false,growsA,h2,h3];rw [if_pos ⟨hlim,hb1⟩];exact ⟨_,_,rfl,h⟩
       |true=>
        rw [hfz] at h;simp only [cond_true] at h;rcases h with ⟨rfl,h⟩|⟨hn,h⟩
        ·rw [if_pos rfl];exact ⟨_,_,rfl,h⟩
        ·rw [if_neg (by omega)];rcases h with ⟨rfl,rfl,hlim,h⟩|⟨j,o,cs,rfl,hg,h⟩
         ·simp only [if_pos,growsA,h2,h3,Option.bind_some];rw [if_pos ⟨hlim,hb1⟩];exact ⟨_,_,rfl,by simpa [newRowA] using h⟩
         ·simp only [hg,if_pos];rcases h with ⟨hc,H',hs,h⟩|⟨hc,old,ho,hlim,h⟩
          ·rw [if_pos hc,hs];exact ⟨_,_,rfl,h⟩
          ·rw [if_neg (by omega),ho];rcases h with ⟨h256,h⟩|⟨rfl,h⟩
           ·have hb:Nat.beq len 256=false:=by
             cases hx:Nat.beq len 256 with
             |false=>rfl
             |true=>exact absurd (Nat.eq_of_beq_eq_true hx) h256
            simp only [Option.bind_some,hfz,hb,Bool.and_false,cond_false,growsA,h2,h3];rw [if_pos ⟨hlim,hb1⟩];exact ⟨_,_,rfl,h⟩
           ·simp only [Option.bind_some,hfz,Nat.beq_refl,Bool.and_self,cond_true,growsF,h2,h3];rw [if_pos ⟨hlim,hb1⟩];exact ⟨_,_,rfl,h⟩
      ·exact h.elim
    ·exact h.elim
   ·exact h.elim
 ·exact h.elim
theorem wpBuiltin_ok {H:Heap}{b:Builtin}{ts:Array TypeId}{args:List Value}{K:Value->Heap->Prop}(h:wpBuiltin E H b ts args K):ResK E H K (builtinA E H b ts args):=by
 unfold wpBuiltin at h;split at h
 ·exact resK_rvh (wpAppend_ok h)
 ·have⟨v,H',h1,h2⟩:=h;obtain ⟨u,rfl,h2⟩:=exOne_some h2;exact resK_rvh ⟨_,_,h1,h2⟩
 ·split at h
  ·rename_i t _ x _ ht;simp only [builtinA,ht];exact resK_rv (wpLen_ok h)
  ·exact h.elim
 ·split at h
  ·rename_i t _ m k ht;simp only [builtinA,ht];exact resK_rh (wpDelete_ok h)
  ·exact h.elim
 ·split at h
  ·rename_i t _ x ht;simp only [builtinA,ht];exact resK_rh (asSome_elim h)
  ·exact h.elim
 ·exact resK_rv (asSome_elim h)
 ·exact resK_rv (asSome_elim h)
 ·exact h.elim
theorem CA_like {f:FuncId}{args:List Value}{H:Heap}{z:Value}{K:Value->Heap->Prop}(h:CA E f args H λv H'=>exLike z λu=>v=u/\K u H'):CA E f args H K:=
 h.mono λv H' h=>by
  obtain ⟨u,rfl,h⟩:=exLike_some h
  exact h
theorem wpCall_ok {e:Operand->Value}{t:TypeId}{c:Call}{H:Heap}{K:Value->Heap->Prop}(h:wpCall E e t c H K)(he:∀f,e (.func f)=.func (.func f) #[] #[]) :
  ResK E H K (match c.callee with
   |.value f=>callA E H (e f) (c.args.toList.map e)
   |.builtin b=>builtinA E H b c.argTypes (c.args.toList.map e)
   |.invoke _ _=>none):=by
 unfold wpCall at h;split at h
 ·rename_i f hf;rw [hf];simp only [he,callA,List.nil_append,List.append_nil];unfold wpCallF at h;split at h
  ·rename_i fn hfn;simp only [hfn];exact CA_like h
  ·rename_i hfn;simp only [hfn];cases hc:E.clone f with
   |false=>rw [hc] at h;exact h.elim
   |true=>
    rw [hc] at h;simp only [cond_true] at h⊢;split at h
    ·rename_i t v ha;obtain ⟨m,hv,i,es,ck,rfl,h1,h2⟩:=asMap_elim h;subst hv;simp only [cloneA,ha,h1];exact h2
    ·exact h.elim
 ·rename_i f hf hne;rw [hne];have⟨k,fs,cs,hv,⟨fn,hfn⟩,h⟩:=asFn_elim h;simp only [hv,callA,hfn];exact CA_like h
 ·rename_i b hb;rw [hb];exact wpBuiltin_ok h
 ·exact h.elim
theorem wpMakeSlice_ok {H:Heap}{t:Nat}{len cap:Value}{K:Value->Heap->Prop}(h:wpMakeSlice E H t len cap K):∃v H',makeSliceA E H t len cap=some (v,H')/\K v H':=by
 unfold wpMakeSlice at h;split at h
 ·rename_i e hu;split at h
  ·rename_i z i hz hi;replace h:=asNum_elim h;obtain ⟨k,l,rfl,h⟩:=h;replace h:=asNum_elim h;obtain ⟨k',c,rfl,h1,h⟩:=h;cases hb:(Nat.ble 1 i.bytes&&Nat.ble 1 z.length) with
   |false=>rw [hb] at h;exact h.elim
   |true=>
    rw [hb] at h;simp only [Bool.and_eq_true] at hb;refine ⟨_,_,?_,h⟩;simp only [makeSliceA,hu,hz,hi,Option.bind_some];rw [if_pos ⟨h1.1,h1.2.1,h1.2.2,Nat.le_of_ble_eq_true hb.1,Nat.le_of_ble_eq_true hb.2⟩];rfl
  ·exact h.elim
 ·exact h.elim
theorem wpOp_ok {e:Operand->Value}{o:Oper}{H:Heap}{K:Value->Heap->Prop}(he:∀f,e (.func f)=.func (.func f) #[] #[])(hc:∀v,plain v=true->e (.const v)=v)(h:wpOp E e o H K):ResK E H K (aop E e o.op H):=by
 unfold wpOp at h;split at h
 case h_1 hop=>simp only [hop,aop];exact h
 case h_2 hop=>simp only [hop,aop];exact h
 case h_3 c a b hop=>
  simp only [hop,aop];have⟨t,h1,h2⟩:=asBool_elim h;simp only [h1];cases t<;>exact h2
 case h_4 t hop=>
  simp only [hop,aop];split at h
  ·rename_i vs hz;cases h1:zeroV E t with
   |none=>rw [h1] at hz;cases hz
   |some z=>
    rw [h1] at hz;simp only [Option.bind_some] at hz⊢;refine resK_rvh ⟨_,_,by rw [newVal,hz];rfl,h⟩
  ·exact h.elim
 case h_5 t x hop=>
  simp only [hop,aop];have⟨vs,h1,h2⟩:=asCells_elim h;exact resK_rvh ⟨_,_,by rw [newVal,h1];rfl,h2⟩
 case h_6 t parts hop=>
  simp only [hop,aop];have e1:parts.map (λp=>(p.1,e p.2))=⟨parts.toList.map λp=>(p.1,e p.2)⟩:=by rw [<-Array.toList_inj];simp
  rw [e1];exact resK_rv (asSome_elim h)
 case h_7 t len parts hop=>
  simp only [hop,aop];have e1:parts.map (λp=>(p.1,e p.2))=⟨parts.toList.map λp=>(p.1,e p.2)⟩:=by rw [<-Array.toList_inj];simp
  rw [e1];have⟨p,h1,h2⟩:=asSome_elim h;have h3:buildSliceA E H t len ⟨parts.toList.map λp=>(p.1,e p.2)⟩=some (.slice (some ⟨H.next,0,none⟩) len 0,H.new (.cells true p.1 p.2)):=by
   unfold cellsBuilt at h1;unfold buildSliceA;split at h1
   ·rename_i el hu;cases hz:zeroCellsA E el with
    |none=>rw [hz] at h1;cases h1
    |some z=>
     rw [hz] at h1;simp only [hu,hz,Option.bind_some] at h1⊢;cases hcd:(partsOk ⟨parts.toList.map λp=>(p.1,e p.2)⟩&&Nat.ble (len*z.length) 16777216&&Nat.ble 1 z.length) with
     |false=>rw [hcd] at h1;cases h1
     |true=>
     rw [hcd] at h1;simp only [cond_true] at h1⊢;cases hfill:Instr.fill (λi=>some (i*z.length,z.length)) ⟨reps len z⟩ (parts.toList.map λp=>(p.1,e p.2)) with
     |none=>rw [hfill] at h1;cases h1
     |some cs=>
      rw [hfill] at h1;simp only [Option.bind_some] at h1⊢;cases ho:cs.toList.all one with
      |false=>rw [ho] at h1;cases h1
      |true=>
       rw [ho] at h1;simp only [cond_true,Option.some.injEq] at h1;subst h1;simp [newRowA]
   ·cases h1
  exact resK_rvh ⟨_,_,h3,h2⟩
 case h_8 t a hop=>simp only [hop,aop];exact resK_rv (wpLoad_ok h)
 case h_9 t a x hop=>simp only [hop,aop];exact resK_rh (wpStore_ok h)
 case h_10 x hop=>
  simp only [hop,aop];split at h
  ·have⟨f,fs,cs,h1,h2⟩:=asFn_elim h;simp only [h1];exact h2
  ·have⟨i,o,h1,h2⟩:=asAddr_elim h;simp only [h1];exact h2
 case h_11 op t x y t2 hop=>
  simp only [hop,aop];split at h
  ·rename_i c;cases hb:(isNilLit c&&plain c) with
   |true=>
    rw [hb] at h;simp only [Bool.and_eq_true] at hb;rw [hc _ hb.2];exact resK_rv (wpNilCmp_ok h)
   |false=>rw [hb] at h;exact resK_rv (wpBin_ok h)
  ·exact resK_rv (wpBin_ok h)
 case h_12 hop=>simp only [hop,aop];exact resK_rv (asSome_elim h)
 case h_13 hop=>simp only [hop,aop];exact resK_rv (asSome_elim h)
 case h_14 t x hop=>
  simp only [hop,aop];split at h
  ·exact h.elim
  ·rename_i d hne hd;rw [hd];cases d<;>first
    |exact h
    |exact (hne _ rfl).elim
  ·exact h.elim
 case h_15 f first captured hop=>
  simp only [hop,aop];have e1:first.map e=⟨first.toList.map e⟩:=by rw [<-Array.toList_inj];simp
  have e2:captured.map e=⟨captured.toList.map e⟩:=by rw [<-Array.toList_inj];simp
  rw [e1,e2];exact h
 case h_16 hop=>simp only [hop,aop];exact h
 case h_17 t r hop=>
  simp only [hop,aop];split at h
  ·rename_i kt e' hu;have⟨k,n,h1,h2⟩:=asNum_elim h;simp only [hu,h1];exact h2
  ·exact h.elim
 case h_18 hop=>simp only [hop,aop];exact resK_rvh (wpMakeSlice_ok h)
 case h_19 hop=>simp only [hop,aop];exact resK_rv (wpSlice_ok h)
 case h_20 s x f hop=>
  simp only [hop,aop];unfold wpFieldAddr at h;split at h
  ·rename_i fields hu;split at h
   ·rename_i fd hf;split at h
    ·rename_i n hn;cases hb:Nat.beq n 0 with
     |true=>rw [hb] at h;exact h.elim
     |false=>
      rw [hb] at h;have⟨i,o,h1,h2⟩:=asAddr_elim h;simp only [hu,h1,hf,hn,Option.bind_some];rw [if_neg (Nat.ne_of_beq_eq_false hb)];exact h2
    ·exact h.elim
   ·exact h.elim
  ·exact h.elim
 case h_21 t x f hop=>
  simp only [hop,aop];split at h
  ·rename_i fields cs hu hx;split at h
   ·rename_i fd hf;simp only [hu,hx,hf];exact resK_rv (asSome_elim h)
   ·exact h.elim
  ·exact h.elim
 case h_22 t x ix hop=>
  simp only [hop,aop];unfold wpIndexAddr at h;split at h
  ·rename_i el hu;split at h
   ·rename_i s hs;have⟨a,len,c,hx,h1⟩:=asSlice_elim h;have⟨k,n,hi,hb,h2⟩:=asNum_elim h1;obtain ⟨i,o,rfl,h3⟩:=asRow_elim h2;simp only [hu,hx,hi,hs,Option.bind_some];rw [if_pos (show _/\_ from hb)];exact h3
   ·exact h.elim
  ·rename_i len el hu;split at h
   ·rename_i s hs;have⟨i,o,hx,h⟩:=asAddr_elim h;have⟨k,n,hi,hb,h⟩:=asNum_elim h;simp only [hu,hx,hi,hs,Option.bind_some];rw [if_pos (show _/\_ from hb)];exact h
   ·exact h.elim
  ·exact h.elim
 case h_23 t x ix hop=>
  simp only [hop,aop];split at h
  ·rename_i len el hu;split at h
   ·rename_i cs s hx hs;have⟨k,n,hi,hb,h⟩:=asNum_elim h;simp only [hu,hx,hi,hs,Option.bind_some];rw [if_pos (show _/\_ from hb)];exact resK_rv (asSome_elim h)
   ·exact h.elim
  ·rename_i hu;split at h
   ·rename_i s hx;have⟨k,n,hi,h⟩:=asNum_elim h;have⟨v,h1,h⟩:=asSome_elim h;obtain ⟨u,rfl,h⟩:=exOne_some h;simp only [hu,hx,hi];exact resK_rv ⟨_,h1,h⟩
   ·exact h.elim
  ·exact h.elim
 case h_24 hop=>simp only [hop,aop];exact resK_rv (wpLookup_ok h)
 case h_25 hop=>simp only [hop,aop];exact resK_rh (wpMapUpdate_ok h)
 case h_26 hop=>simp only [hop,aop];exact resK_rh (wpMapUpdate_ok h)
 case h_27 x t0 asserted hop=>
  simp only [hop,aop];split at h
  ·exact h.elim
  ·rename_i d hne hu;split at h
   ·rename_i t v hx;cases hb:Nat.beq t asserted with
    |false=>rw [hb] at h;exact h.elim
    |true=>
     rw [hb] at h;have et:=Nat.eq_of_beq_eq_true hb;rw [hu,hx];cases d<;>first
      |(simp only;rw [if_pos et];exact h)
      |exact (hne _ rfl).elim
   ·exact h.elim
  ·exact h.elim
 case h_28 t ix hop=>
  simp only [hop,aop];split at h
  ·rename_i vs hx;split at h
   ·rename_i v hv;simp only [hx,hv];exact h
   ·exact h.elim
  ·exact h.elim
 case h_29 c hop=>simp only [hop,aop];exact wpCall_ok h he
 case h_30=>exact h.elim
end
end
section
theorem turnInto {β α:Prop}(h:β)(e:α=β):α:=e.mpr h
section
variable {E:Env} {bm:Bool}
theorem evL_func (xs:Fr)(f:FuncId):evL E xs (.func f)=.func (.func f) #[] #[]:=rfl
theorem evL_const (xs:Fr)(v:Value)(h:plain v=true):evL E xs (.const v)=v:=by simp [evL,h]
theorem set_self {xs:Fr}{d:Nat}{v:Value}(h:xs[d]? =some v):xs.set d v=xs:=by
 obtain ⟨h1,rfl⟩:=List.getElem?_eq_some_iff.1 h;exact List.set_getElem_self h1
theorem wpWant_ok {ops:Array Oper}{xs:Fr}{o:Oper}{yes no:Fr->Prop}(h:wpWant ops xs o yes no):(wantedA ops (ofL xs) o=some true/\yes xs)∨(wantedA ops (ofL xs) o=some false/\no xs):=by
 unfold wpWant at h;unfold wantedA;cases hg:o.guard with
 |none=>rw [hg] at h;exact .inl ⟨rfl,h⟩
 |some p=>
  have⟨j,want⟩:=p;rw [hg] at h;simp only at h⊢;cases hd:(ops[j]?).bind (·.dst) with
  |none=>rw [hd] at h;exact .inr ⟨rfl,h⟩
  |some d=>
   rw [hd] at h;simp only [ofL_get] at h⊢;split at h
   ·rename_i b hx;cases want<;>cases b<;>simp only [cond_true,cond_false,set_self hx] at h
    ·exact .inl ⟨by rw [hx];rfl,h⟩
    ·exact .inr ⟨by rw [hx];rfl,h⟩
    ·exact .inr ⟨by rw [hx];rfl,h⟩
    ·exact .inl ⟨by rw [hx];rfl,h⟩
   ·rename_i hx;exact .inr ⟨by rw [hx],h⟩
   ·rename_i hx;exact .inr ⟨by rw [hx],h⟩
   ·exact h.elim
theorem wpOps_ok {ops:Array Oper}:∀{l:List Oper}{xs:Fr}{H:Heap}{Q:Fr->Heap->Prop},wpOps E ops l xs H Q->
  OA E ops l (ofL xs) H λT H'=>∃xs',T=ofL xs'/\xs'.length=xs.length/\(∀k,k∉writesOps l []->xs'[k]? =xs[k]?)/\Q xs' H'
 |[],xs,H,Q,h=>OA_nil ⟨xs,rfl,rfl,λ_ _=>rfl,h⟩
 |o::l,xs,H,Q,h=>by
  have mem:∀(l:List Oper)(ds:List Nat)(k:Nat),k∈ds->k∈writesOps l ds:=by
   intro l
   induction l with
   |nil=>intro ds k hk;exact hk
   |cons o l ih=>
    intro ds k hk;simp only [writesOps];split
    ·rename_i d hd;refine ih _ _ ?_;cases ds.any (Nat.beq d)
     ·exact List.mem_append_left _ hk
     ·exact hk
    ·exact ih _ _ hk
  have mem':∀(l:List Oper)(ds ds':List Nat)(k:Nat),(∀k,k∈ds->k∈ds')->k∈writesOps l ds->k∈writesOps l ds':=by
   intro l
   induction l with
   |nil=>intro ds ds' k hs hk;exact hs _ hk
   |cons o l ih=>
    intro ds ds' k hs hk;simp only [writesOps] at hk⊢;cases hd:o.dst with
    |none=>rw [hd] at hk;exact ih _ _ _ hs hk
    |some d=>
     rw [hd] at hk;refine ih _ _ _ (λj hj=>?_) hk;have hd':d∈(bif ds'.any (Nat.beq d) then ds' else ds'++[d]):=by
      cases ha:ds'.any (Nat.beq d) with
      |false=>simp
      |true=>
       simp only [List.any_eq_true] at ha;have⟨u,hu,hb⟩:=ha;rw [cond_true,Nat.eq_of_beq_eq_true hb];exact hu
     have hj':j∈ds∨j=d:=by
      cases ha:ds.any (Nat.beq d) with
      |false=>rw [ha] at hj;simpa using hj
      |true=>rw [ha] at hj;exact .inl hj
     rcases hj' with hj'|rfl
     ·have:=hs _ hj'
      cases ds'.any (Nat.beq d)
      ·exact List.mem_append_left _ this
      ·exact this
     ·exact hd'
  have same:∀(v:Value)(k:Nat),k∉writesOps (o::l) []->(putL xs o.dst v)[k]? =xs[k]? :=by
   intro v k hk;unfold putL;split
   ·rename_i d hd
    have:k≠d:=by
     rintro rfl;refine hk ?_;simp only [writesOps,hd];exact mem _ _ _ (by simp)
    rw [List.getElem?_set_ne (Ne.symm this)]
   ·rfl
  have sub:∀k,k∉writesOps (o::l) []->k∉writesOps l []:=by
   intro k hk hk';refine hk ?_;simp only [writesOps];split
   ·exact mem' _ _ _ _ (by simp) hk'
   ·exact hk'
  have len:∀v,(putL xs o.dst v).length=xs.length:=by
   intro v;unfold putL;split<;>simp
  have lift:∀(v:Value)(T:Tr Value)(H':Heap),(∃xs',T=ofL xs'/\xs'.length=(putL xs o.dst v).length/\(∀k,k∉writesOps l []->xs'[k]? =(putL xs o.dst v)[k]?)/\Q xs' H')->
    ∃xs',T=ofL xs'/\xs'.length=xs.length/\(∀k,k∉writesOps (o::l) []->xs'[k]? =xs[k]?)/\Q xs' H':=by
   rintro v T H' ⟨xs',h1,h2,h3,h4⟩;exact ⟨xs',h1,h2.trans (len v),λk hk=>(h3 k (sub k hk)).trans (same v k hk),h4⟩
  have oam:∀{l:List Oper}{T:Tr Value}{H:Heap}{Q Q':Tr Value->Heap->Prop},OA E ops l T H Q->(∀T H,Q T H->Q' T H)->OA E ops l T H Q':=
   λh hq=>let ⟨n,s,h1,h2⟩:=h;⟨n,s,h1,hq _ _ h2⟩
  rcases wpWant_ok h with ⟨hw,h⟩|⟨hw,h⟩
  ·refine OA_cons ?_;rw [hw];simp only [OpW];have h1:=wpOp_ok (evL_func xs) (evL_const xs) h;rw [ev_ofL];cases hr:aop E (evL E xs) o.op H with
   |none=>rw [hr] at h1;exact h1.elim
   |some r=>
    rw [hr] at h1;cases r with
    |val v H'=>
     simp only [OpA,putT_ofL];exact oam (wpOps_ok h1) (lift v)
    |call f args=>
     simp only [OpA,putT_ofL];exact CA.mono h1 λv H' h2=>oam (wpOps_ok h2) (lift v)
  ·refine OA_cons ?_;rw [hw];simp only [OpW,putT_ofL];exact oam (wpOps_ok h) (lift undef)
theorem sameP_ok {v w:Value}(h:sameP v w):sameN 8 v w=true:=by
 unfold sameP at h;split at h
 ·rename_i k a j b;by_cases e:k=j
  ·subst e;simp only [decide_true,cond_true] at h;subst h;simp [sameN]
  ·simp only [e,decide_false,cond_false] at h
 ·subst h;simp [sameN]
 ·subst h;simp [sameN]
 ·obtain ⟨rfl,rfl,rfl⟩:=h;simp [sameN]
 ·subst h;simp [sameN]
 ·exact h
theorem birth_val {bm:Bool}{e:Operand->Value}{op:Op}{H:Heap}{r:Res}(hb:isBirth bm op=true)(h:aop E e op H=some r):∃v H',r=.val v H':=by
 cases op
 case alloc t=>
  simp only [aop] at h;cases hz:zeroV E t with
  |none=>rw [hz] at h;cases h
  |some z=>rw [hz] at h;have⟨v,H',_,e2⟩:=rvh_some h;exact ⟨_,_,e2⟩
 case box t x=>have⟨v,H',_,e2⟩:=rvh_some (show rvh _=some r from h);exact ⟨_,_,e2⟩
 case buildSlice t l p=>have⟨v,H',_,e2⟩:=rvh_some (show rvh _=some r from h);exact ⟨_,_,e2⟩
 case makeSlice t l p=>have⟨v,H',_,e2⟩:=rvh_some (show rvh _=some r from h);exact ⟨_,_,e2⟩
 case makeMap t rr=>
  cases rr with
  |none=>simp only [aop,Option.some.injEq] at h;exact ⟨_,_,h.symm⟩
  |some x=>
   simp only [aop] at h;split at h
   ·simp only [Option.some.injEq] at h;exact ⟨_,_,h.symm⟩
   ·cases h
 all_goals (simp [isBirth] at hb)
theorem wpBorn_ok {bm:Bool}{e:Operand->Value}{o:Oper}{K:Value->Obj->Prop}(he:∀f,e (.func f)=.func (.func f) #[] #[])(hc:∀v,plain v=true->e (.const v)=v)(hb:isBirth bm o.op=true)
  (h:wpOp E e o heap1 λv H'=>asSome (H'.get 0) λob=>K v ob):∃v ob,bornA E e o.op=some (v,ob)/\K v ob:=by
 have h1:=wpOp_ok he hc h;cases hx:aop E e o.op heap1 with
 |none=>rw [hx] at h1;exact h1.elim
 |some q=>
  obtain ⟨v,H',rfl⟩:=birth_val hb hx;rw [hx] at h1;have⟨ob,h2,h3⟩:=asSome_elim h1;exact ⟨v,ob,by simp only [bornA,hx,h2,Option.map_some],h3⟩
theorem looksP_ok {base:Nat}{r:DR}{xs:Fr}(hr:r.T=ofL xs){H:Heap}(hl:isLoudD bm r.o.op=false)(h:looksP bm E base r H):looksAt bm E base r H=true:=by
 unfold looksP at h;unfold looksAt;have he:∀f,ev E r.T (.func f)=.func (.func f) #[] #[]:=by intro f;rw [hr,ev_ofL];rfl
 have hc:∀v,plain v=true->ev E r.T (.const v)=v:=by intro v hv;rw [hr,ev_ofL];exact evL_const xs v hv
 split at h
 ·rename_i ty hop;simp only [hop];split at h
  ·rename_i vs hz;have⟨c,h1,h2⟩:=h;simp only [hz,h1,h2]
  ·exact h.elim
 ·rename_i hne;split
  ·rename_i ty hop;exact (hne ty hop).elim
  cases hb:isBirth bm r.o.op with
  |true=>
   rw [hb] at h;simp only [cond_true] at h⊢;have⟨v,ob,h1,o,h2,h3⟩:=wpBorn_ok he hc hb h;simp only [h1,h2,h3]
  |false=>
  rw [hb] at h;simp only [cond_false] at h⊢;have h1:=wpOp_ok he hc h;have hl':isLoud r.o.op=false:=by rw [<-loudD_of hb];exact hl
  have:∃v H',aop E (ev E r.T) r.o.op H=some (.val v H')/\sameP r.v v:=by
   cases hx:aop E (ev E r.T) r.o.op H with
   |none=>rw [hx] at h1;exact h1.elim
   |some q=>
    obtain ⟨v,rfl⟩:=aop_quiet hl' hx;rw [hx] at h1;exact ⟨_,_,rfl,h1⟩
  have⟨v,H',h2,h3⟩:=this;simp only [h2,sameP_ok h3]
theorem checkP_ok {base:Nat}{r:DR}{xs:Fr}(hr:r.T=ofL xs)(hl:isLoudD bm r.o.op=false){hs:List Heap}:∀(n k:Nat),checkP bm E base r hs k n->checkAt bm E base r hs k n=true
 |0,k,_=>rfl
 |n+1,k,h=>by
  simp only [checkP] at h
  simp only [checkAt]
  cases hk:hs[k]? with
  |none=>rw [hk] at h;exact h.1.elim
  |some H=>
   rw [hk] at h
   simp only [looksP_ok hr hl h.1,checkP_ok hr hl n (k+1) h.2,Bool.and_self]
theorem quietP_ok {base:Nat}{ss:List Bool}{ms:List Nat}{all:List DR}{hs:List Heap}{m:Nat}:∀{l:List DR},(∀r∈l,∃xs,r.T=ofL xs)->quietP bm E base ss ms all hs m l->quietOk bm E base ss ms all hs m l=true
 |[],_,_=>rfl
 |r::l,hT,h=>by
  simp only [quietP] at h;simp only [quietOk];have⟨xs,hx⟩:=hT r (by simp);cases hb:(!r.w||isLoudD bm r.o.op||isPure r.o.op||(ss.getD r.i false&& !isBirth bm r.o.op)) with
  |true=>
   rw [hb] at h;simp only [cond_true] at h;simp only [Bool.true_or,Bool.true_and];exact quietP_ok (λr hr=>hT r (by simp [hr])) h
  |false=>
   rw [hb] at h;simp only [cond_false] at h;have hl:isLoudD bm r.o.op=false:=by
    simp only [Bool.or_eq_false_iff] at hb;exact hb.1.1.2
   simp only [Bool.false_or,checkP_ok hx hl _ _ h.1,Bool.true_and];exact quietP_ok (λr hr=>hT r (by simp [hr])) h.2
theorem preH_ok {base:Nat}:∀(l:List Oper)(i:Nat)(os:List Obj)(H H':Heap),preH bm E base l i os H=some H'->preA bm E base l i os H.tr=some H'.tr/\H'.next=H.next
 |[],i,os,H,H',h=>by
  simp only [preH,Option.some.injEq] at h
  subst h
  exact ⟨rfl,rfl⟩
 |o::l,i,os,H,H',h=>by
  simp only [preH] at h
  simp only [preA]
  rcases isAlloc o.op with ⟨ty,hop⟩|hna
  ·rw [hop] at h⊢
   simp only at h⊢
   cases hz:(zeroV E ty).bind cellsOf with
   |none=>rw [hz] at h;cases h
   |some vs=>
    rw [hz] at h
    have⟨h1,h2⟩:=preH_ok l (i+1) os _ H' h
    exact ⟨h1,h2⟩
  ·split at h
   ·rename_i ty hop;exact (hna _ hop).elim
   ·split
    ·rename_i ty hop;exact (hna _ hop).elim
    ·cases hb:isBirth bm o.op with
     |false=>
      rw [hb] at h
      exact preH_ok l (i+1) os H H' h
     |true=>
      rw [hb] at h
      simp only [cond_true] at h⊢
      cases os with
      |nil=>cases h
      |cons ob os=>
       have⟨h1,h2⟩:=preH_ok l (i+1) os _ H' h
       exact ⟨h1,h2⟩
theorem wpPass_ok {ops:Array Oper}{base:Nat}:∀{l:List Oper}{i:Nat}{xs:Fr}{H:Heap}{k:Nat}{rs:List DR}{hs:List Heap}{F:List DR->Fr->List Heap->Heap->Prop},
  wpPass bm E ops base l i xs H k rs hs F->(∀r∈rs,∃xs,r.T=ofL xs)->
  ∃n rs' xs' hs' H',pass1 bm E (sem E n) ops base l i (ofL xs) H k rs hs=some (rs',ofL xs',hs',H')/\xs'.length=xs.length/\(∀k,k∉writesOps l []->xs'[k]? =xs[k]?)/\(∀r∈rs',∃xs,r.T=ofL xs)/\F rs' xs' hs' H'
 |[],i,xs,H,k,rs,hs,F,h,hT=>⟨0,rs,xs,hs,H,rfl,rfl,λ_ _=>rfl,hT,h⟩
 |o::l,i,xs,H,k,rs,hs,F,h,hT=>by
  have mem:∀(l:List Oper)(ds:List Nat)(k:Nat),k∈ds->k∈writesOps l ds:=by
   intro l
   induction l with
   |nil=>intro ds k hk;exact hk
   |cons o l ih=>
    intro ds k hk;simp only [writesOps];split
    ·rename_i d hd;refine ih _ _ ?_;cases ds.any (Nat.beq d)
     ·exact List.mem_append_left _ hk
     ·exact hk
    ·exact ih _ _ hk
  have mem':∀(l:List Oper)(ds ds':List Nat)(k:Nat),(∀k,k∈ds->k∈ds')->k∈writesOps l ds->k∈writesOps l ds':=by
   intro l
   induction l with
   |nil=>intro ds ds' k hs hk;exact hs _ hk
   |cons o l ih=>
    intro ds ds' k hs hk;simp only [writesOps] at hk⊢;cases hd:o.dst with
    |none=>rw [hd] at hk;exact ih _ _ _ hs hk
    |some d=>
     rw [hd] at hk;refine ih _ _ _ (λj hj=>?_) hk;have hd':d∈(bif ds'.any (Nat.beq d) then ds' else ds'++[d]):=by
      cases ha:ds'.any (Nat.beq d) with
      |false=>simp
      |true=>
       simp only [List.any_eq_true] at ha;have⟨u,hu,hb⟩:=ha;rw [cond_true,Nat.eq_of_beq_eq_true hb];exact hu
     have hj':j∈ds∨j=d:=by
      cases ha:ds.any (Nat.beq d) with
      |false=>rw [ha] at hj;simpa using hj
      |true=>rw [ha] at hj;exact .inl hj
     rcases hj' with hj'|rfl
     ·have:=hs _ hj'
      cases ds'.any (Nat.beq d)
      ·exact List.mem_append_left _ this
      ·exact this
     ·exact hd'
  have same:∀(v:Value)(k:Nat),k∉writesOps (o::l) []->(putL xs o.dst v)[k]? =xs[k]? :=by
   intro v k hk;unfold putL;split
   ·rename_i d hd
    have:k≠d:=by
     rintro rfl;refine hk ?_;simp only [writesOps,hd];exact mem _ _ _ (by simp)
    rw [List.getElem?_set_ne (Ne.symm this)]
   ·rfl
  have sub:∀k,k∉writesOps (o::l) []->k∉writesOps l []:=by
   intro k hk hk';refine hk ?_;simp only [writesOps];split
   ·exact mem' _ _ _ _ (by simp) hk'
   ·exact hk'
  have len:∀v,(putL xs o.dst v).length=xs.length:=by
   intro v;unfold putL;split<;>simp
  have hT':∀(w:Bool)(v:Value),∀r∈(⟨i,o,w,ofL xs,v,k⟩::rs:List DR),∃xs,r.T=ofL xs:=by
   intro w v r hr;rcases List.mem_cons.1 hr with rfl|hr
   ·exact ⟨xs,rfl⟩
   ·exact hT r hr
  rcases wpWant_ok h with ⟨hw,h⟩|⟨hw,h⟩
  ·have step:∀(n:Nat)(v:Value)(H':Heap),resA (sem E n) (aopD bm E base i (ev E (ofL xs)) o.op H) H=some (v,H')->
     (bif isLoudD bm o.op then wpPass bm E ops base l (i+1) (putL xs o.dst v) H' (k+1) (⟨i,o,true,ofL xs,v,k⟩::rs) (hs++[H']) F
      else wpPass bm E ops base l (i+1) (putL xs o.dst v) H k (⟨i,o,true,ofL xs,v,k⟩::rs) hs F)->
     (isLoudD bm o.op=false->H'=H)->
     ∃n rs' xs' hs' H',pass1 bm E (sem E n) ops base (o::l) i (ofL xs) H k rs hs=some (rs',ofL xs',hs',H')/\xs'.length=xs.length/\(∀k,k∉writesOps (o::l) []->xs'[k]? =xs[k]?)/\(∀r∈rs',∃xs,r.T=ofL xs)/\F rs' xs' hs' H':=by
    intro n v H' hr h hq;cases hl:isLoudD bm o.op with
    |true=>
     rw [hl] at h;simp only [cond_true] at h;have⟨m,rs',xs',hs',H2,g1,g2,g3,g4,g5⟩:=wpPass_ok h (hT' _ _);refine ⟨max n m,rs',xs',hs',H2,?_,g2.trans (len v),λk hk=>(g3 k (sub k hk)).trans (same v k hk),g4,g5⟩;simp only [pass1,hw];rw [resA_mono (sem_mono (Nat.le_max_left n m)) hr];simp only [hl,cond_true,putT_ofL];exact pass1_mono (sem_mono (Nat.le_max_right n m)) g1
    |false=>
     rw [hl] at h;simp only [cond_false] at h;obtain rfl:=hq hl;have⟨m,rs',xs',hs',H2,g1,g2,g3,g4,g5⟩:=wpPass_ok h (hT' _ _);refine ⟨max n m,rs',xs',hs',H2,?_,g2.trans (len v),λk hk=>(g3 k (sub k hk)).trans (same v k hk),g4,g5⟩;simp only [pass1,hw];rw [resA_mono (sem_mono (Nat.le_max_left n m)) hr];simp only [hl,cond_false,putT_ofL];exact pass1_mono (sem_mono (Nat.le_max_right n m)) g1
   unfold wpOpD at h;rcases isAlloc o.op with ⟨ty,hop⟩|hna
   ·simp only [hop] at h;exact step 0 (.pointer (some ⟨base+i,0,none⟩)) H (by simp only [hop,aopD,resA]) (by simp only [hop];exact h) (λ_=>rfl)
   ·split at h
    ·rename_i t hop;exact absurd hop (hna t)
    ·cases hbb:isBirth bm o.op with
     |true=>
      rw [hbb] at h;simp only [cond_true] at h;have⟨v,ob,h1,h2⟩:=wpBorn_ok (evL_func xs) (evL_const xs) hbb h;refine step 0 (atBlk (base+i) v) H ?_ h2 λ_=>rfl
      rw [ev_ofL];unfold aopD;split
      ·rename_i t hop;exact absurd hop (hna t)
      ·rw [hbb,h1];rfl
     |false=>
     rw [hbb] at h;simp only [cond_false] at h;have hna:=hbb;have h1:=wpOp_ok (evL_func xs) (evL_const xs) h;have hD:=aopD_of (E:=E) (base:=base) (i:=i) (e:=evL E xs) (H:=H) hbb;cases hr:aop E (evL E xs) o.op H with
     |none=>rw [hr] at h1;exact h1.elim
     |some r=>
      rw [hr] at h1;cases r with
      |val v H'=>
       refine step 0 v H' (by rw [ev_ofL,hD,hr];rfl) h1 λhl=>?_
       have hl':isLoud o.op=false:=by rw [<-loudD_of hna];exact hl
       have⟨v',e⟩:=aop_quiet hl' hr;injection e
      |call f args=>
       have⟨n,v,H',h2,h3⟩:=h1;refine step n v H' (by rw [ev_ofL,hD,hr];exact h2) h3 λhl=>?_
       have hl':isLoud o.op=false:=by rw [<-loudD_of hna];exact hl
       have⟨v',e⟩:=aop_quiet hl' hr;cases e
  ·have⟨m,rs',xs',hs',H2,g1,g2,g3,g4,g5⟩:=wpPass_ok h (hT' _ _);refine ⟨m,rs',xs',hs',H2,?_,g2.trans (len undef),λk hk=>(g3 k (sub k hk)).trans (same undef k hk),g4,g5⟩;simp only [pass1,hw,putT_ofL];exact g1
theorem wpPass0_ok {ops:Array Oper}{base:Nat}:∀{l:List Oper}{i:Nat}{xs:Fr}{H:Heap}{os:List Obj}{F:List Obj->Prop},
  wpPass0 E ops base l i xs H os F->∃n r,pass0 E (sem E n) ops base l i (ofL xs) H os=some r/\F r
 |[],i,xs,H,os,F,h=>⟨0,_,rfl,h⟩
 |o::l,i,xs,H,os,F,h=>by
  simp only [wpPass0] at h;rcases wpWant_ok h with ⟨hw,h⟩|⟨hw,h⟩
  ·cases hb:isBirth true o.op with
   |true=>
    rw [hb] at h;simp only [cond_true] at h;have⟨v,ob,h1,h2⟩:=wpBorn_ok (evL_func xs) (evL_const xs) hb h;have⟨n,r,g1,g2⟩:=wpPass0_ok h2;refine ⟨n,r,?_,g2⟩;simp only [pass0,hw,hb,cond_true];rw [ev_ofL,h1];simp only [putT_ofL];exact g1
   |false=>
    rw [hb] at h;simp only [cond_false] at h;have h1:=wpOp_ok (evL_func xs) (evL_const xs) h;have key:∃n v H',resA (sem E n) (aop E (ev E (ofL xs)) o.op H) H=some (v,H')/\wpPass0 E ops base l (i+1) (putL xs o.dst v) H' os F:=by
     rw [ev_ofL];cases hr:aop E (evL E xs) o.op H with
     |none=>rw [hr] at h1;exact h1.elim
     |some r=>
      rw [hr] at h1;cases r with
      |val v H'=>exact ⟨0,v,H',rfl,h1⟩
      |call f args=>
       have⟨n,v,H',h2,h3⟩:=h1;exact ⟨n,v,H',h2,h3⟩
    have⟨n,v,H',h2,h3⟩:=key;have⟨m,r,g1,g2⟩:=wpPass0_ok h3;refine ⟨max n m,r,?_,g2⟩;simp only [pass0,hw,hb,cond_false];rw [resA_mono (sem_mono (Nat.le_max_left n m)) h2];simp only [putT_ofL];exact pass0_mono (sem_mono (Nat.le_max_right n m)) g1
  ·have⟨n,r,g1,g2⟩:=wpPass0_ok h;refine ⟨n,r,?_,g2⟩;simp only [pass0,hw,putT_ofL];exact g1
theorem wpDrawB_ok {ops:Array Oper}{os:List Obj}{xs:Fr}{H:Heap}{Q:Fr->Heap->Prop}(h:wpDrawB bm E ops os xs H Q) :
  ∃n s',runDrawB bm E (sem E n) ops os ⟨ofL xs,H⟩=some s'/\∃xs',s'.T=ofL xs'/\xs'.length=xs.length/\(∀k,k∉writesOps ops.toList []->xs'[k]? =xs[k]?)/\Q xs' s'.H:=by
 unfold wpDrawB at h;split at h
 ·exact h.elim
 ·rename_i H0 hp;have⟨h1,h2⟩:=preH_ok _ _ _ _ _ hp;have⟨n,rs',xs',hs',H',g1,g2,g3,g4,g5,g6⟩:=wpPass_ok h (by simp);have e0:H0=⟨H0.tr,H.next+ops.size⟩:=by
   cases H0 with
   |mk t m=>simp only [Heap.bump] at h2⊢;rw [h2]
  refine ⟨n,⟨ofL xs',H'⟩,?_,xs',rfl,g2,g3,g5⟩;unfold runDrawB;have h1':preA bm E H.next ops.toList 0 os H.tr=some H0.tr:=h1;simp only;rw [h1'];simp only;rw [<-e0,g1];simp only;rw [quietP_ok g4 g6];rfl
theorem wpDraw_ok {ops:Array Oper}{xs:Fr}{H:Heap}{Q:Fr->Heap->Prop}(h:wpDraw E ops xs H Q) :
  ∃n s',runDraw E (sem E n) ops ⟨ofL xs,H⟩=some s'/\∃xs',s'.T=ofL xs'/\xs'.length=xs.length/\(∀k,k∉writesOps ops.toList []->xs'[k]? =xs[k]?)/\Q xs' s'.H:=by
 unfold wpDraw at h;unfold runDraw;cases hst:staticOk false ops with
 |true=>rw [hst] at h;exact wpDrawB_ok h
 |false=>
  rw [hst] at h;simp only [cond_false] at h⊢;cases hst2:staticOk true ops with
  |false=>rw [hst2] at h;exact h.elim
  |true=>
   rw [hst2] at h;simp only [cond_true] at h⊢;have⟨n,os,h1,h2⟩:=wpPass0_ok h;have⟨m,s',h3,h4⟩:=wpDrawB_ok h2;refine ⟨max n m,s',?_,h4⟩;have e:pass0 E (sem E (max n m)) ops H.next ops.toList 0 (ofL xs) ⟨H.tr,H.next+ops.size⟩ []=some os:=pass0_mono (sem_mono (Nat.le_max_left n m)) h1;rw [e];exact runDrawB_mono (sem_mono (Nat.le_max_right n m)) h3
theorem writesOps_iff:∀(l:List Oper)(ds:List Nat)(k:Nat),k∈writesOps l ds↔k∈ds∨k∈writesOps l []
 |[],ds,k=>by simp [writesOps]
 |o::l,ds,k=>by
  simp only [writesOps]
  cases hd:o.dst with
  |none=>exact writesOps_iff l ds k
  |some d=>
   simp only
   rw [writesOps_iff l _ k,writesOps_iff l (bif ([]:List Nat).any (Nat.beq d) then [] else []++[d]) k]
   simp only [List.any_nil,cond_false,List.nil_append,List.mem_singleton]
   cases ha:ds.any (Nat.beq d) with
   |false=>simp [or_assoc]
   |true=>
    simp only [List.any_eq_true] at ha
    have⟨u,hu,hb⟩:=ha
    obtain rfl:=Nat.eq_of_beq_eq_true hb
    simp only [cond_true]
    constructor
    ·rintro (h|h)
     ·exact .inl h
     ·exact .inr (.inr h)
    ·rintro (h|h|h)
     ·exact .inl h
     ·exact .inl (h▸hu)
     ·exact .inr h
theorem writesIn_iff:∀(c:Code)(ds:List Nat)(k:Nat),k∈writesIn c ds↔k∈ds∨k∈writesIn c []:=by
 intro c
 induction c with
 |region id ops d=>intro ds k;exact writesOps_iff _ _ _
 |seq a b iha ihb=>
  intro ds k;simp only [writesIn];rw [ihb (writesIn a ds) k,ihb (writesIn a []) k,iha ds k,or_assoc]
 |cond c a b iha ihb=>
  intro ds k;simp only [writesIn];rw [ihb (writesIn a ds) k,ihb (writesIn a []) k,iha ds k,or_assoc]
 |block id b ih=>intro ds k;exact ih ds k
 |loop b ih=>intro ds k;exact ih ds k
 |scope b ih=>intro ds k;exact ih ds k
 |_=>intro ds k;simp [writesIn]
theorem asSl_elim {v:Value}{K:Option Addr->Nat->Prop}(h:asSl v K):∃a l,v=.slice a l 0/\K a l:=by
 unfold asSl at h;split at h
 ·rename_i a l c;cases hc:Nat.beq c 0 with
  |false=>rw [hc] at h;exact h.elim
  |true=>rw [hc] at h;rw [Nat.eq_of_beq_eq_true hc];exact ⟨_,_,rfl,h⟩
 ·exact h.elim
theorem asPtr_elim {v:Value}{K:Option Addr->Prop}(h:asPtr v K):∃p,v=.pointer p/\K p:=by
 unfold asPtr at h;split at h
 ·exact ⟨_,rfl,h⟩
 ·exact h.elim
theorem asLike0_self {z v:Value}{K:Value->Prop}(h:asLike0 z v K):K v:=by
 unfold asLike0 at h;split at h
 ·replace h:=asInt_elim h;obtain ⟨n,rfl,h⟩:=h;exact h
 ·replace h:=asBool_elim h;obtain ⟨b,rfl,h⟩:=h;exact h
 ·replace h:=asSl_elim h;obtain ⟨a,l,rfl,h⟩:=h;exact h
 ·replace h:=asPtr_elim h;obtain ⟨p,rfl,h⟩:=h;exact h
 ·replace h:=asMap_elim h;obtain ⟨m,rfl,h⟩:=h;exact h
 ·exact h
theorem asLikes_self:∀{zs vs:List Value}{K:List Value->Prop},asLikes zs vs K->K vs
 |[],[],K,h=>h
 |z::zs,v::vs,K,h=>asLikes_self (zs:=zs) (K:=λl=>K (v::l)) (asLike0_self (K:=λu=>asLikes zs vs λl=>K (u::l)) h)
 |[],_::_,K,h=>h.elim
 |_::_,[],K,h=>h.elim
theorem asAgg_elim {v:Value}{K:List Value->Prop}(h:asAgg v K):∃l,v=.agg ⟨l⟩/\K l:=by
 unfold asAgg at h;split at h
 ·exact ⟨_,rfl,h⟩
 ·exact h.elim
theorem asLike_self {z v:Value}{K:Value->Prop}(h:asLike z v K):K v:=by
 unfold asLike at h;split at h
 ·replace h:=asAgg_elim h;obtain ⟨l,rfl,h⟩:=h;exact asLikes_self h
 ·exact asLike0_self h
theorem outOf_ok {zs:Sorts}{K:Fr->Prop}{xs:Fr}:∀(ws:List Nat)(acc:Fr),acc.length=xs.length->(∀k,k∉ws->acc[k]? =xs[k]?)->outOf zs ws acc K xs->K xs
 |[],acc,hl,hs,h=>by
  have:acc=xs:=List.ext_getElem? λk=>hs k (by simp)
  subst this
  exact h
 |w::ws,acc,hl,hs,h=>by
  have h1:=asLike_self h
  refine outOf_ok ws _ (by simpa using hl) (λk hk=>?_) h1
  by_cases e:k=w
  ·subst e
   by_cases hlt:k<xs.length
   ·rw [List.getElem?_set_self (by omega),List.getD_eq_getElem?_getD]
    simp [hlt]
   ·rw [List.getElem?_eq_none (by simp;omega),List.getElem?_eq_none (by omega)]
  ·rw [List.getElem?_set_ne (Ne.symm e)]
   exact hs k (by simp [e,hk])
theorem wpCode_ok:∀(c:Code){Z:List Sorts}{xs:Fr}{H:Heap}{Q:X->Fr->Heap->Prop},wpCode E c Z xs H Q->
  WA E c (ofL xs) H λx T H'=>∃xs',T=ofL xs'/\xs'.length=xs.length/\(∀k,k∉writes c->xs'[k]? =xs[k]?)/\Q x xs' H':=by
 intro c
 induction c with
 |skip=>intro Z xs H Q h;exact WA_skip ⟨xs,rfl,rfl,λ_ _=>rfl,h⟩
 |label l=>intro Z xs H Q h;exact ⟨0,.normal,⟨ofL xs,H⟩,rfl,xs,rfl,rfl,λ_ _=>rfl,h⟩
 |exit id=>intro Z xs H Q h;exact WA_exit ⟨xs,rfl,rfl,λ_ _=>rfl,h⟩
 |ret=>intro Z xs H Q h;exact WA_ret ⟨xs,rfl,rfl,λ_ _=>rfl,h⟩
 |scope b ih=>intro Z xs H Q h;exact WA_scope (ih h)
 |region id ops d=>
  intro Z xs H Q h;cases d with
  |false=>exact WA_region (wpOps_ok h)
  |true=>
   have⟨n,s,h1,h2⟩:=wpDraw_ok h;exact ⟨n,.normal,s,by simp only [runCode,cond_true];rw [h1],h2⟩
 |seq a b iha ihb=>
  intro Z xs H Q h;refine WA_seq ((iha h).mono ?_);rintro x T H' ⟨xs',rfl,h1,h2,h3⟩;have lift:∀xs'':Fr,xs''.length=xs'.length->(∀k,k∉writes b->xs''[k]? =xs'[k]?)->xs''.length=xs.length/\∀k,k∉writes (.seq a b)->xs''[k]? =xs[k]? :=by
   intro xs'' g1 g2;refine ⟨g1.trans h1,λk hk=>?_⟩
   have:k∉writes a/\k∉writes b:=by
    simp only [writes,writesIn] at hk;rw [writesIn_iff] at hk;exact ⟨λe=>hk (.inl e),λe=>hk (.inr e)⟩
   exact (g2 k this.2).trans (h2 k this.1)
  cases x with
  |normal=>
   simp only [XThen];refine (ihb h3).mono ?_;rintro y T H' ⟨xs'',rfl,g1,g2,g3⟩;exact ⟨xs'',rfl,(lift xs'' g1 g2).1,(lift xs'' g1 g2).2,g3⟩
  |exit id=>exact ⟨xs',rfl,(lift xs' rfl λ_ _=>rfl).1,(lift xs' rfl λ_ _=>rfl).2,h3⟩
  |ret=>exact ⟨xs',rfl,(lift xs' rfl λ_ _=>rfl).1,(lift xs' rfl λ_ _=>rfl).2,h3⟩
 |cond c a b iha ihb=>
  intro Z xs H Q h;have goal:∃t,ev E (ofL xs) c=.bool t/\if t=true then wpCode E a Z xs H Q else wpCode E b (Z.drop (loopsN a)) xs H Q:=by
   simp only [wpCode] at h;rw [ev_ofL];split at h
   ·rename_i t;have⟨v,h1,h2⟩:=asBool_elim h;refine ⟨v,h1,?_⟩;have hs:xs.set t (.bool v)=xs:=by
     by_cases hlt:t<xs.length
     ·refine set_self ?_;rw [List.getD_eq_getElem?_getD] at h1;simp only [hlt,List.getElem?_eq_getElem,Option.getD_some] at h1⊢;rw [h1]
     ·exact List.set_eq_of_length_le (Nat.le_of_not_lt hlt)
    cases v with
    |true=>rw [if_pos rfl];simp only [cond_true,hs] at h2;exact h2
    |false=>rw [if_neg (by simp)];simp only [cond_false,hs] at h2;exact h2
   ·have⟨v,h1,h2⟩:=asBool_elim h;refine ⟨v,h1,?_⟩;cases v with
    |true=>rw [if_pos rfl];exact h2
    |false=>rw [if_neg (by simp)];exact h2
  have⟨t,h1,h2⟩:=goal;refine WA_cond h1 ?_;have sub:∀k,k∉writes (.cond c a b)->k∉writes a/\k∉writes b:=by
   intro k hk;simp only [writes,writesIn] at hk;rw [writesIn_iff] at hk;exact ⟨λe=>hk (.inl e),λe=>hk (.inr e)⟩
  cases t with
  |true=>
   rw [if_pos rfl] at h2⊢;refine (iha h2).mono ?_;rintro x T H' ⟨xs',rfl,g1,g2,g3⟩;exact ⟨xs',rfl,g1,λk hk=>g2 k (sub k hk).1,g3⟩
  |false=>
   rw [if_neg (by simp)] at h2⊢;refine (ihb h2).mono ?_;rintro x T H' ⟨xs',rfl,g1,g2,g3⟩;exact ⟨xs',rfl,g1,λk hk=>g2 k (sub k hk).2,g3⟩
 |block id b ih=>
  intro Z xs H Q h;refine WA_block ((ih h).mono ?_);rintro x T H' ⟨xs',rfl,g1,g2,g3⟩;cases x with
  |normal=>exact ⟨xs',rfl,g1,g2,g3⟩
  |ret=>exact ⟨xs',rfl,g1,g2,g3⟩
  |exit j=>
   simp only [XBlock];cases hb:Nat.beq j id with
   |true=>
    rw [if_pos (Nat.eq_of_beq_eq_true hb)];simp only [hb,cond_true] at g3;exact ⟨xs',rfl,g1,g2,g3⟩
   |false=>
    rw [if_neg (Nat.ne_of_beq_eq_false hb)];simp only [hb,cond_false] at g3;exact ⟨xs',rfl,g1,g2,g3⟩
 |loop b ih=>
  intro Z xs H Q h;have h0:LA E b xs H ((exitsIn b []).map λx=>(x,λxs' H'=>outOf (Z.headD []) (writes b) xs (λxs''=>Q x xs'' H') xs')):=h;refine WA.mono h0 ?_;rintro x T H' ⟨xs',rfl,g1,g2,p,hp,rfl,g3⟩;refine ⟨xs',rfl,g1,g2,?_⟩;simp only [List.mem_map] at hp;obtain ⟨y,hy,rfl⟩:=hp;exact outOf_ok (writes b) xs g1.symm (λk hk=>(g2 k hk).symm) g3
 |_=>intro Z xs H Q h;exact h.elim
theorem resOfL_ok {xs:Fr}{H:Heap}:∀{l:List ResultVar}{K:List Value->Prop},resOfL E xs H l K->∃vs,resultsL E ⟨ofL xs,H⟩ l=some vs/\K vs
 |[],K,h=>⟨[],rfl,h⟩
 |.tmp t::l,K,h=>by
  have⟨vs,h1,h2⟩:=resOfL_ok (l:=l) h
  refine ⟨_,?_,h2⟩
  simp only [resultsL,h1,Option.map_some,ofL_get,List.getD_eq_getElem?_getD]
 |.cell a t::l,K,h=>by
  have⟨v,h1,h2⟩:=wpLoad_ok h
  have⟨vs,h3,h4⟩:=resOfL_ok (l:=l) h2
  refine ⟨_,?_,h4⟩
  simp only [resultsL,h3,ofL_get,<-List.getD_eq_getElem?_getD,h1,Option.bind_some,Option.map_some]
theorem wpFn_ok {f:FuncId}{fn:Func}(ht:E.truth f=false)(hf:E.fn f=some fn){args:List Value}{H:Heap}{R:Value->Heap->Prop}{Z:List Sorts}(h:wpFn E Z fn args H R)(hpr:E.prim f=none:=by kernel_rfl):CA E f args H R:=by
 unfold wpFn at h;split at h
 ·rename_i c hc;cases hb:Nat.ble args.length fn.ntmps with
  |false=>rw [hb] at h;exact h.elim
  |true=>
   rw [hb] at h;simp only [cond_true] at h;refine CA_enter ht hf hc (initT_ofL (Nat.le_of_ble_eq_true hb)) ((wpCode_ok c h).mono ?_) hpr;rintro x T H' ⟨xs',rfl,g1,g2,g3⟩;cases x with
   |normal=>exact resOfL_ok g3
   |ret=>exact resOfL_ok g3
   |exit id=>exact g3.elim
 ·exact h.elim
theorem CA_truth {f:FuncId}(ht:E.truth f=true){H:Heap}{R:Value->Heap->Prop}(h:R (.bool true) H):CA E f [] H R:=
 ⟨1,.bool true,H,by simp [sem,ht],h⟩
theorem CA_prim {f:FuncId}{p:List Value->Heap->Option (Value×Heap)}(ht:E.truth f=false)(hp:E.prim f=some p){args:List Value}{H H':Heap}{v:Value}{R:Value->Heap->Prop}(h:p args H=some (v,H'))(hR:R v H'):CA E f args H R:=
 ⟨1,v,H',by simp [sem,ht,hp,h],hR⟩
def outAll:List Nat->Fr->(Fr->Prop)->Prop
 |[],acc,K=>K acc
 |w::ws,acc,K=>∀v,outAll ws (acc.set w v) K
theorem outAll_ok {K:Fr->Prop}{xs:Fr}:∀(ws:List Nat)(acc:Fr),acc.length=xs.length->(∀k,k∉ws->acc[k]? =xs[k]?)->outAll ws acc K->K xs
 |[],acc,hl,hs,h=>by
  have:acc=xs:=List.ext_getElem? λk=>hs k (by simp)
  subst this
  exact h
 |w::ws,acc,hl,hs,h=>by
  refine outAll_ok ws _ (by simpa using hl) (λk hk=>?_) (h (xs.getD w undef))
  by_cases e:k=w
  ·subst e
   by_cases hlt:k<xs.length
   ·rw [List.getElem?_set_self (by omega),List.getD_eq_getElem?_getD]
    simp [hlt]
   ·rw [List.getElem?_eq_none (by simp;omega),List.getElem?_eq_none (by omega)]
  ·rw [List.getElem?_set_ne (Ne.symm e)]
   exact hs k (by simp [e,hk])
def isX (x y:X):Bool:=
 match x with
 |.normal=>match y with
  |.normal=>true
  |_=>false
 |.exit i=>match y with
  |.exit j=>Nat.beq i j
  |_=>false
 |.ret=>match y with
  |.ret=>true
  |_=>false
theorem isX_eq {x y:X}(h:isX x y=true):x=y:=by
 cases x<;>cases y<;>first
  |rfl
  |(cases h;done)
  |(rw [Nat.eq_of_beq_eq_true h])
def atEnd (x:X)(xs:Fr)(H:Heap):List (X×(Fr->Heap->Prop))->Prop
 |[]=>False
 |p::l=>bif isX p.1 x then p.2 xs H else atEnd x xs H l
theorem atEnd_ok {x:X}{xs:Fr}{H:Heap}:∀{l:List (X×(Fr->Heap->Prop))},atEnd x xs H l->∃p∈l,p.1=x/\p.2 xs H
 |[],h=>h.elim
 |p::l,h=>by
  simp only [atEnd] at h
  cases hb:isX p.1 x with
  |true=>rw [hb] at h;exact ⟨p,by simp,isX_eq hb,h⟩
  |false=>
   rw [hb] at h
   have⟨q,h1,h2⟩:=atEnd_ok h
   exact ⟨q,by simp [h1],h2⟩
def loopQ (P:Nat->Fr->Heap->Prop)(n:Nat)(Ks:List (X×(Fr->Heap->Prop)))(x:X)(xs:Fr)(H:Heap):Prop:=
 match x with
 |.normal=>∃m,m<n/\P m xs H
 |.exit id=>atEnd (.exit id) xs H Ks
 |.ret=>atEnd .ret xs H Ks
theorem LA_rule {b:Code}{xs:Fr}{Z:List Sorts}(P:Nat->Fr->Heap->Prop){Ks:List (X×(Fr->Heap->Prop))}
  (hstep:∀n H,outAll (writes b) xs λxs'=>P n xs' H->wpCode E b Z xs' H (loopQ P n Ks))(n:Nat)(H:Heap)(h:P n xs H):LA E b xs H Ks:=by
 have key:∀n (xs1:Fr)(H:Heap),xs1.length=xs.length->(∀k,k∉writes b->xs1[k]? =xs[k]?)->P n xs1 H->
   WA E (.loop b) (ofL xs1) H λx T H'=>∃xs',T=ofL xs'/\xs'.length=xs.length/\(∀k,k∉writes b->xs'[k]? =xs[k]?)/\∃p∈Ks,p.1=x/\p.2 xs' H':=by
  intro n
  induction n using Nat.strongRecOn with
  |_ n ih=>
   intro xs1 H hl hs hP;have h1:=outAll_ok (writes b) xs hl.symm (λk hk=>(hs k hk).symm) (hstep n H) hP;refine WA_loop ((wpCode_ok b h1).mono ?_);rintro x T H' ⟨xs',rfl,g1,g2,g3⟩;have s1:xs'.length=xs.length:=g1.trans hl;have s2:∀k,k∉writes b->xs'[k]? =xs[k]? :=λk hk=>(g2 k hk).trans (hs k hk)
   cases x with
   |normal=>
    have⟨m,hm,hP'⟩:=g3;exact ih m hm xs' H' s1 s2 hP'
   |exit id=>exact ⟨xs',rfl,s1,s2,atEnd_ok g3⟩
   |ret=>exact ⟨xs',rfl,s1,s2,atEnd_ok g3⟩
 exact key n xs H rfl (λ_ _=>rfl) h
end
end
section
noncomputable section
def allOne (z:Value)(P:Value->Prop):Prop:=
 match z with
 |.int k _=>∀n,P (.int k n)
 |.bool _=>∀b,P (.bool b)
 |.slice _ _ _=>∀a l,P (.slice a l 0)
 |.pointer _=>∀p,P (.pointer p)
 |.map _=>∀m,P (.map m)
 |_=>∀v,P v
def allCells:List Value->(List Value->Prop)->Prop
 |[],P=>P []
 |z::zs,P=>allOne z λv=>allCells zs λl=>P (v::l)
def allLike (z:Value)(P:Value->Prop):Prop:=
 match z with
 |.agg cs=>allCells cs.toList λl=>P (.agg ⟨l⟩)
 |z=>allOne z P
def findS:Sorts->Nat->Option Value
 |[],_=>none
 |(k,v)::l,w=>bif Nat.beq k w then some v else findS l w
def cutOut (Z:Sorts)(xs:Fr):List Nat->List Value->(List Value->Prop)->Prop
 |[],vs,K=>K vs
 |w::ws,vs,K=>match findS Z w with
  |none=>cutOut Z xs ws vs K
  |some z=>asLike z (xs.getD w undef) λv=>cutOut Z xs ws (vs++[v]) K
def cutIn (Z:Sorts)(ys:Fr):List Nat->Fr->List Value->(List Value->Fr->Prop)->Prop
 |[],acc,vs,K=>K vs acc
 |w::ws,acc,vs,K=>match findS Z w with
  |none=>cutIn Z ys ws (acc.set w (ys.getD w undef)) vs K
  |some z=>allLike z λv=>cutIn Z ys ws (acc.set w v) (vs++[v]) K
def seqsN:Code->Nat
 |.seq a b=>seqsN a+seqsN b+1
 |.cond _ a b=>seqsN a+seqsN b
 |.block _ b=>seqsN b
 |.scope b=>seqsN b
 |_=>0
abbrev Cuts:=List (Option Sorts)
def wpCodeC (E:Env):Code->Cuts->List Sorts->Fr->Heap->(X->Fr->Heap->Prop)->Prop
 |.skip,_,_,xs,H,Q=>Q .normal xs H
 |.label _,_,_,xs,H,Q=>Q .normal xs H
 |.region _ ops d,_,_,xs,H,Q=>bif d then wpDraw E ops xs H (Q .normal) else wpOps E ops ops.toList xs H (Q .normal)
 |.seq a b,C,Z,xs,H,Q=>match C.headD none with
  |none=>wpCodeC E a C.tail Z xs H λx xs H=>match x with
   |.normal=>wpCodeC E b (C.tail.drop (seqsN a)) (Z.drop (loopsN a)) xs H Q
   |.exit id=>Q (.exit id) xs H
   |.ret=>Q .ret xs H
  |some S=>∃J:List Value->Heap->Prop,(wpCodeC E a C.tail Z xs H λx xs' H'=>match x with
   |.normal=>cutOut S xs' (writes a) [] λvs=>J vs H'
   |.exit id=>Q (.exit id) xs' H'
   |.ret=>Q .ret xs' H')/\
   ∀(ys:Fr)(H':Heap),cutIn S ys (writes a) xs [] λvs xs''=>J vs H'->wpCodeC E b (C.tail.drop (seqsN a)) (Z.drop (loopsN a)) xs'' H' Q
 |.cond c a b,C,Z,xs,H,Q=>match c with
  |.tmp t=>asBool (xs.getD t undef) λv=>cond v (wpCodeC E a C Z (xs.set t (.bool true)) H Q) (wpCodeC E b (C.drop (seqsN a)) (Z.drop (loopsN a)) (xs.set t (.bool false)) H Q)
  |c=>asBool (evL E xs c) λv=>cond v (wpCodeC E a C Z xs H Q) (wpCodeC E b (C.drop (seqsN a)) (Z.drop (loopsN a)) xs H Q)
 |.block id b,C,Z,xs,H,Q=>wpCodeC E b C Z xs H λx xs H=>match x with
  |.normal=>Q .normal xs H
  |.exit j=>bif Nat.beq j id then Q .normal xs H else Q (.exit j) xs H
  |.ret=>Q .ret xs H
 |.loop b,_,Z,xs,H,Q=>LA E b xs H ((exitsIn b []).map λx=>(x,λxs' H'=>outOf (Z.headD []) (writes b) xs (λxs''=>Q x xs'' H') xs'))
 |.exit id,_,_,xs,H,Q=>Q (.exit id) xs H
 |.ret,_,_,xs,H,Q=>Q .ret xs H
 |.scope b,C,Z,xs,H,Q=>wpCodeC E b C Z xs H Q
 |_,_,_,_,_,_=>False
def wpFnC (E:Env)(C:Cuts)(Z:List Sorts)(fn:Func)(args:List Value)(H:Heap)(R:Value->Heap->Prop):Prop:=
 match fn.body with
 |some c=>bif Nat.ble args.length fn.ntmps then wpCodeC E c C Z (fr0 fn.ntmps args) H (backL E fn R) else False
 |none=>False
end
section
variable {E:Env}
theorem asLike0_all {z v:Value}{K P:Value->Prop}(h:asLike0 z v K)(k:allOne z P):P v:=by
 unfold asLike0 at h;unfold allOne at k;split at h
 ·obtain ⟨n,rfl,_⟩:=asInt_elim h;exact k n
 ·obtain ⟨n,rfl,_⟩:=asBool_elim h;exact k n
 ·obtain ⟨a,l,rfl,_⟩:=asSl_elim h;exact k a l
 ·obtain ⟨n,rfl,_⟩:=asPtr_elim h;exact k n
 ·obtain ⟨n,rfl,_⟩:=asMap_elim h;exact k n
 ·rename_i h1 h2 h3 h4 h5;split at k
  ·exact (h1 _ _ rfl).elim
  ·exact (h2 _ rfl).elim
  ·exact (h3 _ _ _ rfl).elim
  ·exact (h4 _ rfl).elim
  ·exact (h5 _ rfl).elim
  ·exact k v
theorem asLikes_all:∀{zs vs:List Value}{K P:List Value->Prop},asLikes zs vs K->allCells zs P->P vs
 |[],[],K,P,h,k=>k
 |[],_::_,K,P,h,k=>h.elim
 |_::_,[],K,P,h,k=>h.elim
 |z::zs,v::vs,K,P,h,k=>by
  have k1:allCells zs λl=>P (v::l):=asLike0_all h k
  exact asLikes_all (K:=λl=>K (v::l)) (P:=λl=>P (v::l)) (asLike0_self h) k1
theorem asLike_all {z v:Value}{K P:Value->Prop}(h:asLike z v K)(k:allLike z P):P v:=by
 unfold asLike at h;unfold allLike at k;split at h
 ·obtain ⟨l,rfl,h⟩:=asAgg_elim h;exact asLikes_all h k
 ·rename_i hz;split at k
  ·exact (hz _ rfl).elim
  ·exact asLike0_all h k
theorem cut_ok {Z:Sorts}{xs:Fr}{J:List Value->Prop}{B:Fr->Prop}:∀(ws:List Nat)(acc:Fr)(vs:List Value),acc.length=xs.length->(∀k,k∉ws->acc[k]? =xs[k]?)->
  cutOut Z xs ws vs J->cutIn Z xs ws acc vs (λvs xs''=>J vs->B xs'')->B xs
 |[],acc,vs,hl,hs,h1,h2=>by
  have:acc=xs:=List.ext_getElem? λk=>hs k (by simp)
  subst this;exact h2 h1
 |w::ws,acc,vs,hl,hs,h1,h2=>by
  have next:∀k,k∉ws->(acc.set w (xs.getD w undef))[k]? =xs[k]? :=by
   intro k hk;by_cases e:k=w
   ·subst e;by_cases hlt:k<xs.length
    ·rw [List.getElem?_set_self (by omega),List.getD_eq_getElem?_getD];simp [hlt]
    ·rw [List.getElem?_eq_none (by simp;omega),List.getElem?_eq_none (by omega)]
   ·rw [List.getElem?_set_ne (Ne.symm e)];exact hs k (by simp [e,hk])
  simp only [cutOut] at h1;simp only [cutIn] at h2;cases hf:findS Z w with
  |none=>
   rw [hf] at h1 h2;exact cut_ok ws _ vs (by simpa using hl) next h1 h2
  |some z=>
   rw [hf] at h1 h2;have k2:=asLike_all h1 h2;exact cut_ok ws _ _ (by simpa using hl) next (asLike_self h1) k2
theorem wpCodeC_ok:∀(c:Code){C:Cuts}{Z:List Sorts}{xs:Fr}{H:Heap}{Q:X->Fr->Heap->Prop},wpCodeC E c C Z xs H Q->
  WA E c (ofL xs) H λx T H'=>∃xs',T=ofL xs'/\xs'.length=xs.length/\(∀k,k∉writes c->xs'[k]? =xs[k]?)/\Q x xs' H':=by
 intro c
 induction c with
 |skip=>intro C Z xs H Q h;exact WA_skip ⟨xs,rfl,rfl,λ_ _=>rfl,h⟩
 |label l=>intro C Z xs H Q h;exact ⟨0,.normal,⟨ofL xs,H⟩,rfl,xs,rfl,rfl,λ_ _=>rfl,h⟩
 |exit id=>intro C Z xs H Q h;exact WA_exit ⟨xs,rfl,rfl,λ_ _=>rfl,h⟩
 |ret=>intro C Z xs H Q h;exact WA_ret ⟨xs,rfl,rfl,λ_ _=>rfl,h⟩
 |scope b ih=>intro C Z xs H Q h;exact WA_scope (ih h)
 |region id ops d=>
  intro C Z xs H Q h;cases d with
  |false=>exact WA_region (wpOps_ok h)
  |true=>
   have⟨n,s,h1,h2⟩:=wpDraw_ok h;exact ⟨n,.normal,s,by simp only [runCode,cond_true];rw [h1],h2⟩
 |seq a b iha ihb=>
  intro C Z xs H Q h;have goal:∃(Z':List Sorts)(C':Cuts),WA E a (ofL xs) H λx T H'=>∃xs',T=ofL xs'/\xs'.length=xs.length/\(∀k,k∉writes a->xs'[k]? =xs[k]?)/\
    (match x with
    |.normal=>wpCodeC E b C' Z' xs' H' Q
    |.exit id=>Q (.exit id) xs' H'
    |.ret=>Q .ret xs' H'):=by
   simp only [wpCodeC] at h;split at h
   ·exact ⟨_,_,iha h⟩
   ·have⟨J,h1,h2⟩:=h;refine ⟨Z.drop (loopsN a),C.tail.drop (seqsN a),(iha h1).mono ?_⟩;rintro x T H' ⟨xs',rfl,g1,g2,g3⟩;refine ⟨xs',rfl,g1,g2,?_⟩;cases x with
    |normal=>exact cut_ok (writes a) xs [] g1.symm (λk hk=>(g2 k hk).symm) g3 (h2 xs' H')
    |exit id=>exact g3
    |ret=>exact g3
  have⟨Z',C',h⟩:=goal;refine WA_seq (h.mono ?_);rintro x T H' ⟨xs',rfl,h1,h2,h3⟩;have lift:∀xs'':Fr,xs''.length=xs'.length->(∀k,k∉writes b->xs''[k]? =xs'[k]?)->xs''.length=xs.length/\∀k,k∉writes (.seq a b)->xs''[k]? =xs[k]? :=by
   intro xs'' g1 g2;refine ⟨g1.trans h1,λk hk=>?_⟩
   have:k∉writes a/\k∉writes b:=by
    simp only [writes,writesIn] at hk;rw [writesIn_iff] at hk;exact ⟨λe=>hk (.inl e),λe=>hk (.inr e)⟩
   exact (g2 k this.2).trans (h2 k this.1)
  cases x with
  |normal=>
   simp only [XThen];refine (ihb h3).mono ?_;rintro y T H' ⟨xs'',rfl,g1,g2,g3⟩;exact ⟨xs'',rfl,(lift xs'' g1 g2).1,(lift xs'' g1 g2).2,g3⟩
  |exit id=>exact ⟨xs',rfl,(lift xs' rfl λ_ _=>rfl).1,(lift xs' rfl λ_ _=>rfl).2,h3⟩
  |ret=>exact ⟨xs',rfl,(lift xs' rfl λ_ _=>rfl).1,(lift xs' rfl λ_ _=>rfl).2,h3⟩
 |cond c a b iha ihb=>
  intro C Z xs H Q h;have goal:∃t,ev E (ofL xs) c=.bool t/\if t=true then wpCodeC E a C Z xs H Q else wpCodeC E b (C.drop (seqsN a)) (Z.drop (loopsN a)) xs H Q:=by
   simp only [wpCodeC] at h;rw [ev_ofL];split at h
   ·rename_i t;have⟨v,h1,h2⟩:=asBool_elim h;refine ⟨v,h1,?_⟩;have hs:xs.set t (.bool v)=xs:=by
     by_cases hlt:t<xs.length
     ·refine set_self ?_;rw [List.getD_eq_getElem?_getD] at h1;simp only [hlt,List.getElem?_eq_getElem,Option.getD_some] at h1⊢;rw [h1]
     ·exact List.set_eq_of_length_le (Nat.le_of_not_lt hlt)
    cases v with
    |true=>rw [if_pos rfl];simp only [cond_true,hs] at h2;exact h2
    |false=>rw [if_neg (by simp)];simp only [cond_false,hs] at h2;exact h2
   ·have⟨v,h1,h2⟩:=asBool_elim h;refine ⟨v,h1,?_⟩;cases v with
    |true=>rw [if_pos rfl];exact h2
    |false=>rw [if_neg (by simp)];exact h2
  have⟨t,h1,h2⟩:=goal;refine WA_cond h1 ?_;have sub:∀k,k∉writes (.cond c a b)->k∉writes a/\k∉writes b:=by
   intro k hk;simp only [writes,writesIn] at hk;rw [writesIn_iff] at hk;exact ⟨λe=>hk (.inl e),λe=>hk (.inr e)⟩
  cases t with
  |true=>
   rw [if_pos rfl] at h2⊢;refine (iha h2).mono ?_;rintro x T H' ⟨xs',rfl,g1,g2,g3⟩;exact ⟨xs',rfl,g1,λk hk=>g2 k (sub k hk).1,g3⟩
  |false=>
   rw [if_neg (by simp)] at h2⊢;refine (ihb h2).mono ?_;rintro x T H' ⟨xs',rfl,g1,g2,g3⟩;exact ⟨xs',rfl,g1,λk hk=>g2 k (sub k hk).2,g3⟩
 |block id b ih=>
  intro C Z xs H Q h;refine WA_block ((ih h).mono ?_);rintro x T H' ⟨xs',rfl,g1,g2,g3⟩;cases x with
  |normal=>exact ⟨xs',rfl,g1,g2,g3⟩
  |ret=>exact ⟨xs',rfl,g1,g2,g3⟩
  |exit j=>
   simp only [XBlock];cases hb:Nat.beq j id with
   |true=>
    rw [if_pos (Nat.eq_of_beq_eq_true hb)];simp only [hb,cond_true] at g3;exact ⟨xs',rfl,g1,g2,g3⟩
   |false=>
    rw [if_neg (Nat.ne_of_beq_eq_false hb)];simp only [hb,cond_false] at g3;exact ⟨xs',rfl,g1,g2,g3⟩
 |loop b ih=>
  intro C Z xs H Q h;have h0:LA E b xs H ((exitsIn b []).map λx=>(x,λxs' H'=>outOf (Z.headD []) (writes b) xs (λxs''=>Q x xs'' H') xs')):=h;refine WA.mono h0 ?_;rintro x T H' ⟨xs',rfl,g1,g2,p,hp,rfl,g3⟩;refine ⟨xs',rfl,g1,g2,?_⟩;simp only [List.mem_map] at hp;obtain ⟨y,hy,rfl⟩:=hp;exact outOf_ok (writes b) xs g1.symm (λk hk=>(g2 k hk).symm) g3
 |_=>intro C Z xs H Q h;exact h.elim
theorem wpFnC_ok {f:FuncId}{fn:Func}(ht:E.truth f=false)(hf:E.fn f=some fn){args:List Value}{H:Heap}{R:Value->Heap->Prop}{C:Cuts}{Z:List Sorts}(h:wpFnC E C Z fn args H R)(hpr:E.prim f=none:=by kernel_rfl):CA E f args H R:=by
 unfold wpFnC at h;split at h
 ·rename_i c hc;cases hb:Nat.ble args.length fn.ntmps with
  |false=>rw [hb] at h;exact h.elim
  |true=>
   rw [hb] at h;simp only [cond_true] at h;refine CA_enter ht hf hc (initT_ofL (Nat.le_of_ble_eq_true hb)) ((wpCodeC_ok c h).mono ?_) hpr;rintro x T H' ⟨xs',rfl,g1,g2,g3⟩;cases x with
   |normal=>exact resOfL_ok g3
   |ret=>exact resOfL_ok g3
   |exit id=>exact g3.elim
 ·exact h.elim
end
end
section
abbrev ad (i:Nat):Option Addr:=some ⟨i,0,none⟩
abbrev iI (n:Int):Value:=.int .i64 n
abbrev iU (n:Int):Value:=.int .u64 n
abbrev pA (i j:Nat):Value:=.pointer (some ⟨i,j,none⟩)
abbrev pt (a:Option Addr):Value:=.pointer a
abbrev bb (b:Bool):Value:=.bool b
abbrev ud:Value:=undef
abbrev gd (y:Fr)(k:Nat):Value:=y.getD k undef
def gs (y:Fr)(i:Nat):Nat->Fr
 |0=>[]
 |n+1=>gd y i::gs y (i+1) n
def us:Nat->Fr
 |0=>[]
 |n+1=>ud::us n
abbrev aA (a:Option Addr)(K:Nat->Nat->Prop):Prop:=AS.asAddr (.pointer a) K
abbrev s0:Value:=.slice none 0 0
abbrev sl (a:Option Addr)(n:Nat):Value:=.slice a n 0
abbrev VH:Type:=Value->Heap->Prop
abbrev LH:Type:=List Value->Heap->Prop
abbrev FH:Type:=Fr->Heap->Prop
abbrev Oa:Type:=Option Addr
theorem vz {E:Env}{f:FuncId}{args:List Value}{H:Heap}{R:Value->Heap->Prop}{P:Prop}(Z:List Sorts)(e:(E.truth f,E.prim f,match E.fn f with|some fn=>wpFn E Z fn args H R|none=>False)=(false,none,P))(h:P):CA E f args H R:=by
 have⟨h1,h2⟩:=Prod.mk.inj e;have⟨h3,h2⟩:=Prod.mk.inj h2;cases hf:E.fn f with
 |none=>rw [hf] at h2;exact (h2.mpr h).elim
 |some fn=>rw [hf] at h2;exact wpFn_ok h1 hf (h2.mpr h) h3
theorem vk {E:Env}{f:FuncId}{args:List Value}{H:Heap}{R:Value->Heap->Prop}{P:Prop}(e:(E.truth f,E.prim f,match E.fn f with|some fn=>wpFn E [] fn args H R|none=>False)=(false,none,P))(h:P):CA E f args H R:=vz [] e h
end
end Go.AS
namespace Go.Proofs.YtjggeoghlicmdaaGreat
open Go Go.AS Go.RowKit
section
set_option maxRecDepth 100000
set_option maxHeartbeats 2000000
theorem vc_smem_Mem_Bad (x0:Option Addr)(H:Heap)(R:Value->Heap->Prop) :
  (
 AS.asAddr (.pointer x0) λi1 i2=>
 ∃n3,H.cell i1 (i2+4)=some (.int .i64 n3)/\
 R (.int .i64 n3) H)->
  CA en F.smem_Mem_Bad [(.pointer x0)] H R:=by
 intro h;refine wpFn_ok (Z:=[]) (fn:=Go.Proofs.Tryz.f17) ?_ ?_ ?_
 ·kernel_rfl
 ·kernel_rfl
 ·apply turnInto h
  kernel_rfl
theorem vc_smem_Mem_Live (x0:Option Addr)(H:Heap)(R:Value->Heap->Prop) :
  (
 AS.asAddr (.pointer x0) λi1 i2=>
 ∃m3,H.cell i1 i2=some (.map m3)/\
 lnM H m3 λn4=>
 R (.int .i64 n4) H)->
  CA en F.smem_Mem_Live [(.pointer x0)] H R:=by
 intro h;refine wpFn_ok (Z:=[]) (fn:=Go.Proofs.Tryz.f19) ?_ ?_ ?_
 ·kernel_rfl
 ·kernel_rfl
 ·apply turnInto h
  kernel_rfl
theorem vc_smem_Mem_Load (x0:Option Addr)(x1:Int)(x2:Int)(H:Heap)(R:Value->Heap->Prop) :
  (
 CA en F.smem_Mem_access [(.pointer x0),(.int .i64 x1),(.int .i64 x2),(.bool true),(.func (.func F.smem_Mem_Load_1) #[] #[])] H λv1 H2=>
 ∃n3,∃b4,v1=(.tuple #[(.int .u64 n3),(.bool b4)])/\
 R (.tuple #[(.int .u64 n3),(.bool b4)]) H2)->
  CA en F.smem_Mem_Load [(.pointer x0),(.int .i64 x1),(.int .i64 x2)] H R:=by
 intro h;refine wpFn_ok (Z:=[]) (fn:=Go.Proofs.Tryz.f22) ?_ ?_ ?_
 ·kernel_rfl
 ·kernel_rfl
 ·apply turnInto h
  kernel_rfl
theorem vc_smem_Mem_Store (x0:Option Addr)(x1:Int)(x2:Int)(x3:Int)(H:Heap)(R:Value->Heap->Prop) :
  (
 CA en F.smem_Mem_Mask [(.pointer x0),(.int .i64 x1),(.int .i64 x2),(.int .u64 18446744073709551615),(.int .u64 x3)] H λv1 H2=>
 ∃b3,v1=(.bool b3)/\
 R (.bool b3) H2)->
  CA en F.smem_Mem_Store [(.pointer x0),(.int .i64 x1),(.int .i64 x2),(.int .u64 x3)] H R:=by
 intro h;refine wpFn_ok (Z:=[]) (fn:=Go.Proofs.Tryz.f23) ?_ ?_ ?_
 ·kernel_rfl
 ·kernel_rfl
 ·apply turnInto h
  kernel_rfl
theorem vc_smem_Mem_Room (x0:Option Addr)(H:Heap)(R:Value->Heap->Prop) :
  (
 AS.asAddr (.pointer x0) λi1 i2=>
 ∃n3,H.cell i1 (i2+2)=some (.int .i64 n3)/\
 R (.int .i64 n3) H)->
  CA en F.smem_Mem_Room [(.pointer x0)] H R:=by
 intro h;refine wpFn_ok (Z:=[]) (fn:=Go.Proofs.Tryz.f25) ?_ ?_ ?_
 ·kernel_rfl
 ·kernel_rfl
 ·apply turnInto h
  kernel_rfl
theorem vc_smem_New (x0:Int)(H:Heap)(R:Value->Heap->Prop) :
  (
 nwH H (.map [] 0) λi1 H2=>
 nwH H2 (.cells true 0 [(.map (some i1)),(.int .i64 0),(.int .i64 (if (if 65536<x0 then 65536 else x0)>0 then (if 65536<x0 then 65536 else x0) else 0)),(.int .i64 0),(.int .i64 0)]) λi3 H4=>
 R (.pointer (some ⟨i3,0,none⟩)) H4)->
  CA en F.smem_New [(.int .i64 x0)] H R:=by
 intro h;refine wpFn_ok (Z:=[]) (fn:=Go.Proofs.Tryz.f57) ?_ ?_ ?_
 ·kernel_rfl
 ·kernel_rfl
 ·apply turnInto h
  kernel_rfl
theorem vc_smem_Mem_access (x0:Option Addr)(x1:Int)(x2:Int)(x3:Bool)(x4:Value)(H:Heap)(R:Value->Heap->Prop) :
  (
 AS.asAddr (.pointer x0) λi1 i2=>
 ∃n3,H.cell i1 (i2+3)=some (.int .i64 n3)/\
 AS.asAddr (.pointer x0) λi4 i5=>
 stc H i4 (i5+3) [(.int .i64 (IntKind.i64.wrap (n3+1)))] λH6=>
 AS.asAddr (.pointer x0) λi7 i8=>
 ∃m9,H6.cell i7 i8=some (.map m9)/\
 ∃r10,AS.mapGet H6 (.int .i64) m9 (.int .i64 x1)=some r10/\
 ∃a11 i12,got r10 (.slice none 0 0) (.slice a11 i12 0)/\
 bif (!x3) then (
 AS.asAddr (.pointer x0) λi13 i14=>
 ∃n15,H6.cell i13 (i14+4)=some (.int .i64 n15)/\
 AS.asAddr (.pointer x0) λi16 i17=>
 stc H6 i16 (i17+4) [(.int .i64 (IntKind.i64.wrap (n15+1)))] λH18=>
 R (.tuple #[(.int .u64 0),(.bool false)]) H18)
 else (
 bif (decide (x2<0)) then (
 AS.asAddr (.pointer x0) λi19 i20=>
 ∃n21,H6.cell i19 (i20+4)=some (.int .i64 n21)/\
 AS.asAddr (.pointer x0) λi22 i23=>
 stc H6 i22 (i23+4) [(.int .i64 (IntKind.i64.wrap (n21+1)))] λH24=>
 R (.tuple #[(.int .u64 0),(.bool false)]) H24)
 else (
 bif (decide (x2≥((i12:Nat):Int))) then (
 AS.asAddr (.pointer x0) λi25 i26=>
 ∃n27,H6.cell i25 (i26+4)=some (.int .i64 n27)/\
 AS.asAddr (.pointer x0) λi28 i29=>
 stc H6 i28 (i29+4) [(.int .i64 (IntKind.i64.wrap (n27+1)))] λH30=>
 R (.tuple #[(.int .u64 0),(.bool false)]) H30)
 else (
 inB x2 i12/\
 asRow a11 λi31 i32=>
 ∃n33,H6.cell i31 (i32+(x2.toNat*1))=some (.int .u64 n33)/\
 AS.asFn x4 λf34 l35 l36=>
 (∃fn,en.fn f34=some fn)/\
 CA en f34 (l35++[(.int .u64 n33)]++l36) H6 λv37 H38=>
 ∃n39,v37=(.int .u64 n39)/\
 inB x2 i12/\
 asRow a11 λi40 i41=>
 stc H38 i40 (i41+(x2.toNat*1)) [(.int .u64 n39)] λH42=>
 R (.tuple #[(.int .u64 n33),(.bool true)]) H42))))->
  CA en F.smem_Mem_access [(.pointer x0),(.int .i64 x1),(.int .i64 x2),(.bool x3),x4] H R:=by
 intro h;refine wpFn_ok (Z:=[]) (fn:=Go.Proofs.Tryz.f64) ?_ ?_ ?_
 ·kernel_rfl
 ·kernel_rfl
 ·apply turnInto h
  kernel_rfl
theorem vc_smem_Mem_Load_1 (x0:Int)(H:Heap)(R:Value->Heap->Prop) :
  (
 R (.int .u64 x0) H)->
  CA en F.smem_Mem_Load_1 [(.int .u64 x0)] H R:=by
 intro h;refine wpFn_ok (Z:=[]) (fn:=Go.Proofs.Tryz.f65) ?_ ?_ ?_
 ·kernel_rfl
 ·kernel_rfl
 ·apply turnInto h
  kernel_rfl
theorem vc_smem_Mem_Mask (x0:Option Addr)(x1:Int)(x2:Int)(x3:Int)(x4:Int)(H:Heap)(R:Value->Heap->Prop) :
  (
 CA en F.smem_Mem_Swap [(.pointer x0),(.int .i64 x1),(.int .i64 x2),(.int .u64 x3),(.int .u64 x4)] H λv1 H2=>
 ∃n3,∃b4,v1=(.tuple #[(.int .u64 n3),(.bool b4)])/\
 R (.bool b4) H2)->
  CA en F.smem_Mem_Mask [(.pointer x0),(.int .i64 x1),(.int .i64 x2),(.int .u64 x3),(.int .u64 x4)] H R:=by
 intro h;refine wpFn_ok (Z:=[]) (fn:=Go.Proofs.Tryz.f66) ?_ ?_ ?_
 ·kernel_rfl
 ·kernel_rfl
 ·apply turnInto h
  kernel_rfl
theorem vc_smem_Mem_Make (x0:Option Addr)(x1:Int)(H:Heap)(R:Value->Heap->Prop) :
  (
 bif (decide (x1<1)) then (
 R (.tuple #[(.int .i64 0),(.int .i64 1)]) H)
 else (
 bif (decide (x1>65536)) then (
 R (.tuple #[(.int .i64 0),(.int .i64 1)]) H)
 else (
 AS.asAddr (.pointer x0) λi1 i2=>
 ∃n3,H.cell i1 (i2+2)=some (.int .i64 n3)/\
 bif (decide (x1>n3)) then (
 R (.tuple #[(.int .i64 0),(.int .i64 5)]) H)
 else (
 AS.asAddr (.pointer x0) λi4 i5=>
 ∃n6,H.cell i4 (i5+1)=some (.int .i64 n6)/\
 AS.asAddr (.pointer x0) λi7 i8=>
 stc H i7 (i8+1) [(.int .i64 (IntKind.i64.wrap (n6+1)))] λH9=>
 AS.asAddr (.pointer x0) λi10 i11=>
 ∃n12,H9.cell i10 (i11+2)=some (.int .i64 n12)/\
 AS.asAddr (.pointer x0) λi13 i14=>
 stc H9 i13 (i14+2) [(.int .i64 (IntKind.i64.wrap (n12 - x1)))] λH15=>
 AS.asAddr (.pointer x0) λi16 i17=>
 ∃m18,(H15.bump 11).cell i16 i17=some (.map m18)/\
 AS.asAddr (.pointer x0) λi19 i20=>
 ∃n21,(H15.bump 11).cell i19 (i20+1)=some (.int .i64 n21)/\
 okLen 8 x1 x1/\
 nwH (H15.bump 11) (.cells true 1 (reps x1.toNat [(.int .u64 0)])) λi22 H23=>
 upM H23 (.int .i64) m18 (.int .i64 n21) (.slice (some ⟨i22,0,none⟩) x1.toNat 0) λH24=>
 (
 AS.asAddr (.pointer x0) λi29 i30=>
 ∃n31,H24.cell i29 (i30+1)=some (.int .i64 n31)/\
 R (.tuple #[(.int .i64 n31),(.int .i64 0)]) H24)/\
 ((∃n26,(H15.bump 11).cell i19 (i20+1)=some (.int .i64 n26)/\
 n21=n26)/\(∃n25,H23.cell i19 (i20+1)=some (.int .i64 n25)/\
 n21=n25)/\True)/\
 ((∃m28,(H15.bump 11).cell i16 i17=some (.map m28)/\
 m18=m28)/\(∃m27,H23.cell i16 i17=some (.map m27)/\
 m18=m27)/\True)/\
 True))))->
  CA en F.smem_Mem_Make [(.pointer x0),(.int .i64 x1)] H R:=by
 intro h;refine wpFn_ok (Z:=[]) (fn:=Go.Proofs.Tryz.f84) ?_ ?_ ?_
 ·kernel_rfl
 ·kernel_rfl
 ·apply turnInto h
  kernel_rfl
theorem vc_smem_Mem_Count (x0:Option Addr)(H:Heap)(R:Value->Heap->Prop) :
  (
 AS.asAddr (.pointer x0) λi1 i2=>
 ∃n3,H.cell i1 (i2+3)=some (.int .i64 n3)/\
 R (.int .i64 n3) H)->
  CA en F.smem_Mem_Count [(.pointer x0)] H R:=by
 intro h;refine wpFn_ok (Z:=[]) (fn:=Go.Proofs.Tryz.f107) ?_ ?_ ?_
 ·kernel_rfl
 ·kernel_rfl
 ·apply turnInto h
  kernel_rfl
theorem vc_smem_Mem_Swap (x0:Option Addr)(x1:Int)(x2:Int)(x3:Int)(x4:Int)(H:Heap)(R:Value->Heap->Prop) :
  (
 nwH H (.cells true 0 [(.int .u64 x3)]) λi1 H2=>
 nwH H2 (.cells true 0 [(.int .u64 x4)]) λi3 H4=>
 CA en F.smem_Mem_access [(.pointer x0),(.int .i64 x1),(.int .i64 x2),(.bool true),(.func (.func F.smem_Mem_Swap_1) #[] #[(.pointer (some ⟨i1,0,none⟩)),(.pointer (some ⟨i3,0,none⟩))])] H4 λv5 H6=>
 ∃n7,∃b8,v5=(.tuple #[(.int .u64 n7),(.bool b8)])/\
 R (.tuple #[(.int .u64 n7),(.bool b8)]) H6)->
  CA en F.smem_Mem_Swap [(.pointer x0),(.int .i64 x1),(.int .i64 x2),(.int .u64 x3),(.int .u64 x4)] H R:=by
 intro h;refine wpFn_ok (Z:=[]) (fn:=Go.Proofs.Tryz.f115) ?_ ?_ ?_
 ·kernel_rfl
 ·kernel_rfl
 ·apply turnInto h
  kernel_rfl
theorem vc_smem_Mem_Free (x0:Option Addr)(x1:Int)(H:Heap)(R:Value->Heap->Prop) :
  (
 AS.asAddr (.pointer x0) λi1 i2=>
 ∃m3,H.cell i1 i2=some (.map m3)/\
 ∃r4,AS.mapGet H (.int .i64) m3 (.int .i64 x1)=some r4/\
 ∃a5 i6,got r4 (.slice none 0 0) (.slice a5 i6 0)/\
 AS.asAddr (.pointer x0) λi7 i8=>
 ∃n9,H.cell i7 (i8+2)=some (.int .i64 n9)/\
 AS.asAddr (.pointer x0) λi10 i11=>
 stc H i10 (i11+2) [(.int .i64 (IntKind.i64.wrap (n9+((i6:Nat):Int))))] λH12=>
 AS.asAddr (.pointer x0) λi13 i14=>
 ∃m15,H12.cell i13 i14=some (.map m15)/\
 dlM H12 (.int .i64) m15 (.int .i64 x1) λH16=>
 R (.bool r4.isSome) H16)->
  CA en F.smem_Mem_Free [(.pointer x0),(.int .i64 x1)] H R:=by
 intro h;refine wpFn_ok (Z:=[]) (fn:=Go.Proofs.Tryz.f118) ?_ ?_ ?_
 ·kernel_rfl
 ·kernel_rfl
 ·apply turnInto h
  kernel_rfl
theorem vc_smem_Mem_Swap_1 (x0:Int)(c0:Option Addr)(c1:Option Addr)(H:Heap)(R:Value->Heap->Prop) :
  (
 AS.asAddr (.pointer c0) λi1 i2=>
 ∃n3,H.cell i1 i2=some (.int .u64 n3)/\
 AS.asAddr (.pointer c1) λi4 i5=>
 ∃n6,H.cell i4 i5=some (.int .u64 n6)/\
 CA en F.smem_under [(.int .u64 x0),(.int .u64 n3),(.int .u64 n6)] H λv7 H8=>
 ∃n9,v7=(.int .u64 n9)/\
 R (.int .u64 n9) H8)->
  CA en F.smem_Mem_Swap_1 [(.int .u64 x0),(.pointer c0),(.pointer c1)] H R:=by
 intro h;refine wpFn_ok (Z:=[]) (fn:=Go.Proofs.Tryz.f167) ?_ ?_ ?_
 ·kernel_rfl
 ·kernel_rfl
 ·apply turnInto h
  kernel_rfl
theorem vc_smem_under (x0:Int)(x1:Int)(x2:Int)(H:Heap)(R:Value->Heap->Prop) :
  (
 R (.int .u64 (IntKind.u64.wrap ((BitVec.ofInt 64 (IntKind.u64.wrap ((BitVec.ofInt 64 x0&&& ~~~(BitVec.ofInt 64 x1)).toNat:Int))|||(BitVec.ofInt 64 (IntKind.u64.wrap ((BitVec.ofInt 64 x2&&&(BitVec.ofInt 64 x1)).toNat:Int)))).toNat:Int))) H)->
  CA en F.smem_under [(.int .u64 x0),(.int .u64 x1),(.int .u64 x2)] H R:=by
 intro h;refine wpFn_ok (Z:=[]) (fn:=Go.Proofs.Tryz.f168) ?_ ?_ ?_
 ·kernel_rfl
 ·kernel_rfl
 ·apply turnInto h
  kernel_rfl
theorem vc_smem_Mem_Fetch (x0:Option Addr)(x1:Int)(x2:Int)(x3:Int)(x4:Int)(x5:Int)(H:Heap)(R:Value->Heap->Prop) :
  (
 nwH H (.cells true 0 [(.int .i64 x3)]) λi1 H2=>
 nwH H2 (.cells true 0 [(.int .u64 x4)]) λi3 H4=>
 nwH H4 (.cells true 0 [(.int .u64 x5)]) λi5 H6=>
 ∃n7,H6.cell i1 0=some (.int .i64 n7)/\
 bif (n7==0) then (
 CA en F.smem_Mem_access [(.pointer x0),(.int .i64 x1),(.int .i64 x2),(.bool true),(.func (.func F.smem_Mem_Fetch_1) #[] #[(.pointer (some ⟨i1,0,none⟩)),(.pointer (some ⟨i3,0,none⟩)),(.pointer (some ⟨i5,0,none⟩))])] H6 λv8 H9=>
 ∃n10,∃b11,v8=(.tuple #[(.int .u64 n10),(.bool b11)])/\
 R (.tuple #[(.int .u64 n10),(.bool b11)]) H9)
 else (
 ∃n12,H6.cell i1 0=some (.int .i64 n12)/\
 bif (n12==80) then (
 CA en F.smem_Mem_access [(.pointer x0),(.int .i64 x1),(.int .i64 x2),(.bool true),(.func (.func F.smem_Mem_Fetch_1) #[] #[(.pointer (some ⟨i1,0,none⟩)),(.pointer (some ⟨i3,0,none⟩)),(.pointer (some ⟨i5,0,none⟩))])] H6 λv13 H14=>
 ∃n15,∃b16,v13=(.tuple #[(.int .u64 n15),(.bool b16)])/\
 R (.tuple #[(.int .u64 n15),(.bool b16)]) H14)
 else (
 ∃n17,H6.cell i1 0=some (.int .i64 n17)/\
 bif (n17==64) then (
 CA en F.smem_Mem_access [(.pointer x0),(.int .i64 x1),(.int .i64 x2),(.bool true),(.func (.func F.smem_Mem_Fetch_1) #[] #[(.pointer (some ⟨i1,0,none⟩)),(.pointer (some ⟨i3,0,none⟩)),(.pointer (some ⟨i5,0,none⟩))])] H6 λv18 H19=>
 ∃n20,∃b21,v18=(.tuple #[(.int .u64 n20),(.bool b21)])/\
 R (.tuple #[(.int .u64 n20),(.bool b21)]) H19)
 else (
 ∃n22,H6.cell i1 0=some (.int .i64 n22)/\
 CA en F.smem_Mem_access [(.pointer x0),(.int .i64 x1),(.int .i64 x2),(.bool (n22==160)),(.func (.func F.smem_Mem_Fetch_1) #[] #[(.pointer (some ⟨i1,0,none⟩)),(.pointer (some ⟨i3,0,none⟩)),(.pointer (some ⟨i5,0,none⟩))])] H6 λv23 H24=>
 ∃n25,∃b26,v23=(.tuple #[(.int .u64 n25),(.bool b26)])/\
 R (.tuple #[(.int .u64 n25),(.bool b26)]) H24))))->
  CA en F.smem_Mem_Fetch [(.pointer x0),(.int .i64 x1),(.int .i64 x2),(.int .i64 x3),(.int .u64 x4),(.int .u64 x5)] H R:=by
 intro h;refine wpFn_ok (Z:=[]) (fn:=Go.Proofs.Tryz.f186) ?_ ?_ ?_
 ·kernel_rfl
 ·kernel_rfl
 ·apply turnInto h
  kernel_rfl
theorem vc_smem_Mem_Fetch_1 (x0:Int)(c0:Option Addr)(c1:Option Addr)(c2:Option Addr)(H:Heap)(R:Value->Heap->Prop) :
  (
 AS.asAddr (.pointer c0) λi1 i2=>
 ∃n3,H.cell i1 i2=some (.int .i64 n3)/\
 AS.asAddr (.pointer c1) λi4 i5=>
 ∃n6,H.cell i4 i5=some (.int .u64 n6)/\
 AS.asAddr (.pointer c2) λi7 i8=>
 ∃n9,H.cell i7 i8=some (.int .u64 n9)/\
 AS.asAddr (.pointer c1) λi10 i11=>
 ∃n12,H.cell i10 i11=some (.int .u64 n12)/\
 CA en F.word_Alu [(.int .i64 n3),(.bool true),(.int .u64 (IntKind.u64.wrap ((BitVec.ofInt 64 x0&&&(BitVec.ofInt 64 n6)).toNat:Int))),(.int .u64 (IntKind.u64.wrap ((BitVec.ofInt 64 n9&&&(BitVec.ofInt 64 n12)).toNat:Int)))] H λv13 H14=>
 ∃n15,∃b16,v13=(.tuple #[(.int .u64 n15),(.bool b16)])/\
 AS.asAddr (.pointer c1) λi17 i18=>
 ∃n19,H14.cell i17 i18=some (.int .u64 n19)/\
 CA en F.smem_under [(.int .u64 x0),(.int .u64 n19),(.int .u64 n15)] H14 λv20 H21=>
 ∃n22,v20=(.int .u64 n22)/\
 R (.int .u64 n22) H21)->
  CA en F.smem_Mem_Fetch_1 [(.int .u64 x0),(.pointer c0),(.pointer c1),(.pointer c2)] H R:=by
 intro h;refine wpFn_ok (Z:=[]) (fn:=Go.Proofs.Tryz.f244) ?_ ?_ ?_
 ·kernel_rfl
 ·kernel_rfl
 ·apply turnInto h
  kernel_rfl
theorem vc_smem_Mem_Size (x0:Option Addr)(x1:Int)(H:Heap)(R:Value->Heap->Prop) :
  (
 AS.asAddr (.pointer x0) λi1 i2=>
 ∃m3,H.cell i1 i2=some (.map m3)/\
 ∃r4,AS.mapGet H (.int .i64) m3 (.int .i64 x1)=some r4/\
 ∃a5 i6,got r4 (.slice none 0 0) (.slice a5 i6 0)/\
 R (.int .i64 ((i6:Nat):Int)) H)->
  CA en F.smem_Mem_Size [(.pointer x0),(.int .i64 x1)] H R:=by
 intro h;refine wpFn_ok (Z:=[]) (fn:=Go.Proofs.Tryz.f275) ?_ ?_ ?_
 ·kernel_rfl
 ·kernel_rfl
 ·apply turnInto h
  kernel_rfl
theorem vc_word_Alu (x0:Int)(x1:Bool)(x2:Int)(x3:Int)(H:Heap)(R:Value->Heap->Prop) :
  (
 bif (x0==192) then (
 bif x1 then (
 nz 64/\
 nn (Int.tmod x3 64)/\
 R (.tuple #[(.int .u64 (IntKind.u64.wrap (Int.fdiv (IntKind.i64.wrap x2) (2 ^ (min (Int.tmod x3 64).toNat 64))))),(.bool true)]) H)
 else (
 bif (x0==192) then (
 nz 32/\
 nn (Int.tmod x3 32)/\
 R (.tuple #[(.int .u64 (IntKind.u64.wrap (IntKind.u32.wrap (Int.fdiv (IntKind.i32.wrap x2) (2 ^ (min (Int.tmod x3 32).toNat 32)))))),(.bool true)]) H)
 else (
 bif x1 then (
 CA en F.word_alu_uint64 [(.int .i64 x0),(.int .u64 64),(.int .u64 x2),(.int .u64 x3)] H λv1 H2=>
 ∃n3,∃b4,v1=(.tuple #[(.int .u64 n3),(.bool b4)])/\
 R (.tuple #[(.int .u64 n3),(.bool b4)]) H2)
 else (
 CA en F.word_alu_uint32 [(.int .i64 x0),(.int .u64 32),(.int .u32 (IntKind.u32.wrap x2)),(.int .u32 (IntKind.u32.wrap x3))] H λv5 H6=>
 ∃n7,∃b8,v5=(.tuple #[(.int .u32 n7),(.bool b8)])/\
 R (.tuple #[(.int .u64 (IntKind.u64.wrap n7)),(.bool b8)]) H6))))
 else (
 bif (x0==192) then (
 nz 32/\
 nn (Int.tmod x3 32)/\
 R (.tuple #[(.int .u64 (IntKind.u64.wrap (IntKind.u32.wrap (Int.fdiv (IntKind.i32.wrap x2) (2 ^ (min (Int.tmod x3 32).toNat 32)))))),(.bool true)]) H)
 else (
 bif x1 then (
 CA en F.word_alu_uint64 [(.int .i64 x0),(.int .u64 64),(.int .u64 x2),(.int .u64 x3)] H λv9 H10=>
 ∃n11,∃b12,v9=(.tuple #[(.int .u64 n11),(.bool b12)])/\
 R (.tuple #[(.int .u64 n11),(.bool b12)]) H10)
 else (
 CA en F.word_alu_uint32 [(.int .i64 x0),(.int .u64 32),(.int .u32 (IntKind.u32.wrap x2)),(.int .u32 (IntKind.u32.wrap x3))] H λv13 H14=>
 ∃n15,∃b16,v13=(.tuple #[(.int .u32 n15),(.bool b16)])/\
 R (.tuple #[(.int .u64 (IntKind.u64.wrap n15)),(.bool b16)]) H14))))->
  CA en F.word_Alu [(.int .i64 x0),(.bool x1),(.int .u64 x2),(.int .u64 x3)] H R:=by
 intro h;refine wpFn_ok (Z:=[]) (fn:=Go.Proofs.Tryz.f245) ?_ ?_ ?_
 ·kernel_rfl
 ·kernel_rfl
 ·apply turnInto h
  kernel_rfl
theorem vc_word_alu_uint64 (x0:Int)(x1:Int)(x2:Int)(x3:Int)(H:Heap)(R:Value->Heap->Prop) :
  (
 nz x1/\
 bif (x0==0) then (
 R (.tuple #[(.int .u64 (IntKind.u64.wrap (x2+x3))),(.bool true)]) H)
 else (
 bif (x0==16) then (
 R (.tuple #[(.int .u64 (IntKind.u64.wrap (x2 - x3))),(.bool true)]) H)
 else (
 bif (x0==32) then (
 R (.tuple #[(.int .u64 (IntKind.u64.wrap (x2*x3))),(.bool true)]) H)
 else (
 bif (x0==48) then (
 CA en F.word_divide_uint64 [(.int .u64 x2),(.int .u64 x3)] H λv1 H2=>
 ∃n3,∃n4,v1=(.tuple #[(.int .u64 n3),(.int .u64 n4)])/\
 R (.tuple #[(.int .u64 n3),(.bool true)]) H2)
 else (
 bif (x0==144) then (
 CA en F.word_divide_uint64 [(.int .u64 x2),(.int .u64 x3)] H λv5 H6=>
 ∃n7,∃n8,v5=(.tuple #[(.int .u64 n7),(.int .u64 n8)])/\
 R (.tuple #[(.int .u64 n8),(.bool true)]) H6)
 else (
 bif (x0==64) then (
 R (.tuple #[(.int .u64 (IntKind.u64.wrap ((BitVec.ofInt 64 x2|||(BitVec.ofInt 64 x3)).toNat:Int))),(.bool true)]) H)
 else (
 bif (x0==80) then (
 R (.tuple #[(.int .u64 (IntKind.u64.wrap ((BitVec.ofInt 64 x2&&&(BitVec.ofInt 64 x3)).toNat:Int))),(.bool true)]) H)
 else (
 bif (x0==160) then (
 R (.tuple #[(.int .u64 (IntKind.u64.wrap ((BitVec.ofInt 64 x2 ^^^ (BitVec.ofInt 64 x3)).toNat:Int))),(.bool true)]) H)
 else (
 bif (x0==96) then (
 nn (Int.tmod x3 x1)/\
 R (.tuple #[(.int .u64 (IntKind.u64.wrap (x2*2 ^ (min (Int.tmod x3 x1).toNat 64)))),(.bool true)]) H)
 else (
 bif (x0==112) then (
 nn (Int.tmod x3 x1)/\
 R (.tuple #[(.int .u64 (Int.fdiv x2 (2 ^ (min (Int.tmod x3 x1).toNat 64)))),(.bool true)]) H)
 else (
 bif (x0==128) then (
 R (.tuple #[(.int .u64 (IntKind.u64.wrap (0 - x2))),(.bool true)]) H)
 else (
 bif (x0==176) then (
 R (.tuple #[(.int .u64 x3),(.bool true)]) H)
 else (
 R (.tuple #[(.int .u64 0),(.bool false)]) H)))))))))))))->
  CA en F.word_alu_uint64 [(.int .i64 x0),(.int .u64 x1),(.int .u64 x2),(.int .u64 x3)] H R:=by
 intro h;refine wpFn_ok (Z:=[]) (fn:=Go.Proofs.Tryz.f291) ?_ ?_ ?_
 ·kernel_rfl
 ·kernel_rfl
 ·apply turnInto h
  kernel_rfl
end
end Go.Proofs.YtjggeoghlicmdaaGreat
