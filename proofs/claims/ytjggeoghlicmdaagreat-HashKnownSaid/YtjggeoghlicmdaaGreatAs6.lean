/-
  The plain machine's operations are the model's: all of them.
-/
import Derived.Test.YtjggeoghlicmdaaGreatAs5
import Derived.Laws.Build
namespace Go.AS
open Go.RowKit
set_option linter.unusedVariables false

section
variable {E : Env} (hE : E.Ok) {B0 : Nat} {μ : Inj} {H : Heap} {w : World}

include hE in
theorem fieldAddr_ok (hH : HRel E B0 μ H w) {s f : Nat} {X : Value} {fields : Array Field} {i o n : Nat} {fd : Field} (hu : und E s = some (.struct fields)) (hx : VRel μ (.pointer (some ⟨i, o, none⟩)) X)
    (hf : fields[f]? = some fd) (hs : sizeA E fd.type = some n) (hn : ¬ n = 0) :
    ∃ V, (Instr.fieldAt s X f).run E.prog w = .ok V w ∧ VRel μ (.pointer (some ⟨i, o + fd.offset, none⟩)) V := by
  cases hx with
  | @ptr _ _ L hm =>
  refine ⟨.pointer (some ⟨L.blk, L.off + (o + fd.offset), none⟩), ?_, .ptr hm⟩
  simp [Instr.fieldAt, run_und hE hu, hf, Instr.sureAddr, fieldPlace, run_size hE hs, hn, addr_add, Nat.add_assoc]

include hE in
theorem indexSlice_ok {t el i o len c s : Nat} {n : Int} {k : IntKind} {X : Value} (hu : und E t = some (.slice el)) (hx : VRel μ (.slice (some ⟨i, o, none⟩) len c) X) (hs : sizeA E el = some s) (hn : 0 ≤ n ∧ n < len) :
    ∃ V, (Instr.indexAt t X (.int k n)).run E.prog w = .ok V w ∧ VRel μ (.pointer (some ⟨i, o + n.toNat * s, none⟩)) V := by
  cases hx with
  | @slice _ _ _ _ cap L hm hl hr =>
    refine ⟨.pointer (some ⟨L.blk, L.off + (o + n.toNat * s), none⟩), ?_, .ptr hm⟩
    simp [Instr.indexAt, asIntOf, run_und hE hu, hn.1, hn.2, run_size hE hs, addr_add, Nat.add_assoc]
  | sliceEnd hm ho => omega

include hE in
theorem indexArr_ok {t el i o len s : Nat} {n : Int} {k : IntKind} {X : Value} (hu : und E t = some (.array len el)) (hx : VRel μ (.pointer (some ⟨i, o, none⟩)) X) (hs : sizeA E el = some s) (hn : 0 ≤ n ∧ n < len) :
    ∃ V, (Instr.indexAt t X (.int k n)).run E.prog w = .ok V w ∧ VRel μ (.pointer (some ⟨i, o + n.toNat * s, none⟩)) V := by
  cases hx with
  | @ptr _ _ L hm =>
    refine ⟨.pointer (some ⟨L.blk, L.off + (o + n.toNat * s), none⟩), ?_, .ptr hm⟩
    simp [Instr.indexAt, asIntOf, run_und hE hu, Instr.sureAddr, hn.1, hn.2, run_size hE hs, addr_add, Nat.add_assoc]

theorem rels_map {e e' : Operand → Value} (he : ∀ x, VRel μ (e x) (e' x)) (l : Array Operand) : VRels μ (l.map e).toList (l.map e').toList := by
  simp only [Array.toList_map]
  exact VRels.map e e' _ fun x _ => he x

theorem VRel.bool_eq {t : Bool} {V : Value} (h : VRel μ (.bool t) V) : V = .bool t := by cases h; rfl
theorem VRel.int_eq {k : IntKind} {n : Int} {V : Value} (h : VRel μ (.int k n) V) : V = .int k n := by cases h; rfl

include hE in
theorem aop_ok (hH : HRel E B0 μ H w) {o : Oper} {e e' : Operand → Value} (he : ∀ x, VRel μ (e x) (e' x)) {r : Res} (h : aop E e o.op H = some r) : OpOK E B0 μ H w (execOp e' o) r := by
  obtain ⟨dst, op, ty, pos, aft, grd⟩ := o
  simp only at h
  unfold execOp
  dsimp only
  cases op <;> dsimp only
  case move x => injection h with h; subst h; exact OpOK.pure_value hH (he x)
  case assign x => injection h with h; subst h; exact OpOK.pure_value hH (he x)
  case pick c a b =>
    simp only [aop] at h
    split at h
    case h_2 => cases h
    rename_i t hc
    injection h with h; subst h
    have h1 := he c
    rw [hc] at h1
    rw [h1.bool_eq]
    cases t
    · exact ⟨.value (e' b), e' b, w, μ, by simp [asBool], .inl rfl, Grow.refl _ _, he b, hH, Below.refl _ _⟩
    · exact ⟨.value (e' a), e' a, w, μ, by simp [asBool], .inl rfl, Grow.refl _ _, he a, hH, Below.refl _ _⟩
  case alloc t =>
    simp only [aop] at h
    cases hz : zeroV E t with
    | none => rw [hz] at h; cases h
    | some z =>
      rw [hz] at h
      obtain ⟨v, H', h1, rfl⟩ := rvh_some h
      exact OpOK.of_makes (alloc_ok hE hH hz h1)
  case box t x =>
    obtain ⟨v, H', h1, rfl⟩ := rvh_some h
    exact OpOK.of_makes (box_ok hH (he x) h1 t)
  case build t parts =>
    obtain ⟨v, h1, rfl⟩ := rv_some h
    exact OpOK.of_value hH (build_ok hE he h1)
  case buildSlice t len parts =>
    obtain ⟨v, H', h1, rfl⟩ := rvh_some h
    exact OpOK.of_makes (buildSlice_ok hE hH he h1)
  case load t a =>
    obtain ⟨v, h1, rfl⟩ := rv_some h
    exact OpOK.of_value hH (load_ok hE hH (he a) h1)
  case store t a x =>
    obtain ⟨H', h1, rfl⟩ := rh_some h
    exact OpOK.of_unit (storeV_next h1) (store_ok hE hH (he a) (he x) h1)
  case nilCheck x =>
    simp only [aop] at h
    have h1 := he x
    generalize e x = y at h h1
    generalize e' x = Y at h1
    split at h
    · injection h with h; subst h
      cases h1 with
      | ptr hm => exact OpOK.pure_value hH (.ptr hm)
    · injection h with h; subst h
      cases h1 with
      | func q1 q2 => exact OpOK.pure_value hH (.func q1 q2)
    · cases h
  case binOp op t x y yt =>
    obtain ⟨v, h1, rfl⟩ := rv_some h
    obtain ⟨b1, b2⟩ := bin_ok hE hH (xo := x) (yo := y) (he x) (he y) h1
    exact OpOK.of_value hH ⟨v, b1, b2⟩
  case unOp op t x =>
    obtain ⟨v, h1, rfl⟩ := rv_some h
    obtain ⟨b1, b2⟩ := un_ok (P := E.prog) (w := w) (he x) h1
    exact OpOK.of_value hH ⟨v, b1, b2⟩
  case convert src dst x =>
    obtain ⟨v, h1, rfl⟩ := rv_some h
    have h2 := he x
    unfold convertA at h1
    split at h1
    · rename_i sd k k' n hs hu hx
      rw [hx] at h2
      rw [h2.int_eq]
      injection h1 with h1; subst h1
      refine OpOK.of_value hH ⟨_, ?_, .int _ _⟩
      simp [convert, run_und hE hs, run_und hE hu, Conv.intToInt]
    · cases h1
  case makeInterface t x =>
    simp only [aop] at h
    split at h
    · cases h
    · rename_i d hd hu
      injection h with h; subst h
      refine OpOK.of_value hH ⟨.iface t (e' x), ?_, .iface (he x)⟩
      have hu' := und_ok hE hu
      have hc : E.prog.concrete t = true := by
        unfold Program.concrete
        rw [hu']
        cases d <;> first | rfl | exact (hd _ rfl).elim
      exact run_makeInterface w t _ hc
    · cases h
  case makeFunc fn first captured =>
    cases fn with
    | func f =>
      simp only [aop] at h
      injection h with h; subst h
      exact OpOK.of_value hH ⟨_, rfl, .func (rels_map he _) (rels_map he _)⟩
    | _ => simp only [aop] at h; cases h
  case makeMap t rr =>
    have hmk : OpOK E B0 μ H w (do pure (.value (← (do pure (.map (some (← newObj (.map #[] 0)))) : Sem Value)))) (.val (.map (some H.next)) (H.new (.map [] 0))) := by
      obtain ⟨q1, q2, q3⟩ := hH.newMap [] #[] 0 .nil
      exact OpOK.of_makes ⟨.map (some w.heap.size), _, _, by simp, q1, .map (L := ⟨w.heap.size, 0, 0, 0⟩) (Inj.add_self _ _ _), q2, q3⟩
    cases rr with
    | none =>
      simp only [aop] at h
      injection h with h; subst h
      exact hmk
    | some x =>
      simp only [aop] at h
      split at h
      · rename_i kt et k n hu hx
        injection h with h; subst h
        have h2 := he x
        rw [hx] at h2
        obtain ⟨N, V, w', μ', g1, g2⟩ := hmk
        refine ⟨N, V, w', μ', ?_, g2⟩
        rw [← g1]
        simp [Instr.makeMap, run_und hE hu, h2.int_eq, asInt, asIntOf]
      · cases h
  case makeSlice t l c =>
    obtain ⟨v, H', h1, rfl⟩ := rvh_some h
    exact OpOK.of_makes (makeSlice_ok hE hH (he l) (he c) h1)
  case slice t x lo hi mx =>
    obtain ⟨v, h1, rfl⟩ := rv_some h
    exact OpOK.of_value hH (slice_ok hE hH he (he x) h1)
  case fieldAddr s x f =>
    simp only [aop] at h
    split at h
    · rename_i fields i o hu hx
      split at h
      · rename_i fd hf
        cases hs : sizeA E fd.type with
        | none => rw [hs] at h; cases h
        | some n =>
          rw [hs] at h
          simp only [Option.bind_some] at h
          split at h
          · cases h
          · rename_i hn
            injection h with h; subst h
            have h1 := he x
            rw [hx] at h1
            exact OpOK.of_value hH (fieldAddr_ok hE hH hu h1 hf hs hn)
      · cases h
    · cases h
  case field t x f =>
    simp only [aop] at h
    split at h
    · rename_i fields cs hu hx
      split at h
      · rename_i fd hf
        obtain ⟨v, h1, rfl⟩ := rv_some h
        have h2 := he x
        rw [hx] at h2
        generalize e' x = X at h2
        cases h2 with
        | @agg _ CS hc =>
          obtain ⟨V, p1, p2⟩ := part_ok (w := w) hE hc h1
          exact OpOK.of_value hH ⟨V, by simp [Instr.field, run_und hE hu, hf, asAgg, p1], p2⟩
      · cases h
    · cases h
  case indexAddr t x ix =>
    simp only [aop] at h
    split at h
    · rename_i el i o len c k n hu hx hix
      cases hs : sizeA E el with
      | none => rw [hs] at h; cases h
      | some s =>
        rw [hs] at h
        simp only [Option.bind_some] at h
        split at h
        · rename_i hn
          injection h with h; subst h
          have h1 := he x
          have h2 := he ix
          rw [hx] at h1
          rw [hix] at h2
          rw [h2.int_eq]
          exact OpOK.of_value hH (indexSlice_ok hE hu h1 hs hn)
        · cases h
    · rename_i len el i o k n hu hx hix
      cases hs : sizeA E el with
      | none => rw [hs] at h; cases h
      | some s =>
        rw [hs] at h
        simp only [Option.bind_some] at h
        split at h
        · rename_i hn
          injection h with h; subst h
          have h1 := he x
          have h2 := he ix
          rw [hx] at h1
          rw [hix] at h2
          rw [h2.int_eq]
          exact OpOK.of_value hH (indexArr_ok hE hu h1 hs hn)
        · cases h
    · cases h
  case index t x ix =>
    simp only [aop] at h
    split at h
    · rename_i len el cs k n hu hx hix
      cases hs : sizeA E el with
      | none => rw [hs] at h; cases h
      | some s =>
        rw [hs] at h
        simp only [Option.bind_some] at h
        split at h
        · rename_i hn
          obtain ⟨v, h0, rfl⟩ := rv_some h
          have h1 := he x
          have h2 := he ix
          rw [hx] at h1
          rw [hix] at h2
          rw [h2.int_eq]
          generalize e' x = X at h1
          cases h1 with
          | @agg _ CS hc =>
            obtain ⟨V, p1, p2⟩ := part_ok (w := w) hE hc h0
            exact OpOK.of_value hH ⟨V, by simp [Instr.index, asIntOf, run_und hE hu, hn.1, hn.2, run_size hE hs, p1], p2⟩
        · cases h
    · rename_i s k n hu hx hix
      obtain ⟨v, h0, rfl⟩ := rv_some h
      have h1 := he x
      have h2 := he ix
      rw [hx] at h1
      rw [hix] at h2
      rw [h2.int_eq]
      generalize e' x = X at h1
      cases h1
      unfold byteA at h0
      split at h0
      · rename_i hn
        cases hb : s[n.toNat]? with
        | none => rw [hb] at h0; cases h0
        | some b =>
          rw [hb] at h0
          simp only [Option.map_some, Option.some.injEq] at h0
          subst h0
          exact OpOK.of_value hH ⟨.int .u8 b.toNat, by simp [Instr.index, asIntOf, run_und hE hu, hn, hb], .int _ _⟩
      · cases h0
    · cases h
  case lookup t x k ok =>
    obtain ⟨v, h1, rfl⟩ := rv_some h
    exact OpOK.of_value hH (lookup_ok hE hH (he x) (he k) h1)
  case mapUpdate t m k x =>
    obtain ⟨H', h1, rfl⟩ := rh_some h
    exact OpOK.of_unit (mapUpdateA_next h1) (mapUpdate_ok hE hH (he m) (he k) (he x) h1)
  case insert t m k x =>
    obtain ⟨H', h1, rfl⟩ := rh_some h
    exact OpOK.of_unit (mapUpdateA_next h1) (mapUpdate_ok hE hH (he m) (he k) (he x) h1)
  case typeAssert x xt asserted ok =>
    cases ok with
    | true => simp only [aop] at h; cases h
    | false =>
    simp only [aop] at h
    split at h
    · cases h
    · rename_i d t v hd hu hx
      split at h
      · rename_i hta
        injection h with h; subst h
        subst hta
        have h1 := he x
        rw [hx] at h1
        generalize e' x = X at h1
        cases h1 with
        | @iface _ _ V hv =>
          refine OpOK.of_value hH ⟨V, ?_, hv⟩
          cases d <;> first
            | exact (hd _ _ rfl rfl).elim
            | exact (hd _ rfl).elim
            | simp [Instr.typeAssert, run_und hE hu]
      · cases h
    · cases h
  case extract t ix =>
    simp only [aop] at h
    split at h
    · rename_i vs hx
      split at h
      · rename_i v hv
        injection h with h; subst h
        have h1 := he t
        rw [hx] at h1
        generalize e' t = X at h1
        cases h1 with
        | @tuple _ VS hc =>
          rw [← Array.getElem?_toList] at hv
          obtain ⟨V, p1, p2⟩ := hc.get hv
          rw [Array.getElem?_toList] at p1
          exact OpOK.of_value hH ⟨V, by simp [Instr.extract, p1], p2⟩
      · cases h
    · cases h
  case call c =>
    simp only [aop] at h
    obtain ⟨callee, args, argTypes⟩ := c
    cases callee with
    | value f =>
      simp only at h
      have := call_ok hE hH (he f) (VRels.map e e' args.toList fun x _ => he x) h
      have e1 : (args.toList.map e').toArray = args.map e' := by rw [← Array.toList_map, Array.toArray_toList]
      rw [e1] at this
      exact this
    | invoke r n => cases h
    | builtin b =>
      simp only at h
      have := bltn_ok hE hH (ty := ty) (cs := args.map fun | .const _ => true | _ => false) (VRels.map e e' args.toList fun x _ => he x) h
      have e1 : (args.toList.map e').toArray = args.map e' := by rw [← Array.toList_map, Array.toArray_toList]
      rw [e1] at this
      exact this
  all_goals (simp only [aop] at h; cases h)
end
end Go.AS
