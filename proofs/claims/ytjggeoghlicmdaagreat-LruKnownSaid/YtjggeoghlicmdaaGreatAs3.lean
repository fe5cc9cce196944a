/-
  The plain machine's operations are the model's.
-/
import Derived.Test.YtjggeoghlicmdaaGreatAs2
import Derived.Laws.AppendOwn
import Derived.Laws.MakeOwn
namespace Go.AS
open Go.RowKit
set_option linter.unusedVariables false

structure Env.Ok (E : Env) : Prop where
  ty : ∀ t i, E.ty t = some i → E.prog.info? t = some i
  fn : ∀ f fn, E.fn f = some fn → E.prog.funcs[f]? = some fn ∧ fn.body.isSome = true ∧ (fn.name == "runtime.NumGoroutine") = false
  eqOk : ∀ t, E.eqOk t = true → E.prog.stoodInHeld t = false ∧ E.prog.eqGuardType E.prog.depth t = false ∧ ∀ fs, E.prog.underlying t = some (.struct fs) → ∀ f ∈ fs.toList, f.name ≠ "_"
  clone : ∀ f, E.clone f = true → ∃ fn, E.prog.funcs[f]? = some fn ∧ fn.body = none ∧ (fn.name == "runtime.NumGoroutine") = false ∧ Extern.findNext fn = none ∧
    Extern.find fn = some Extern.MapsClone.clone
  truth : ∀ f, E.truth f = true → ∀ w : World, Calls E.prog f #[] w fun e w' => e = .returned (.bool true) ∧ Below w.heap.size w w'

section
variable {E : Env} (hE : E.Ok) {B0 : Nat} {μ : Inj} {H : Heap} {w : World}

include hE
theorem und_ok {t : Nat} {d : TypeDesc} (h : und E t = some d) : E.prog.underlying t = some d := by
  unfold und at h
  split at h
  case h_2 => cases h
  rename_i i hi
  have h1 := hE.ty _ _ hi
  unfold Program.underlying
  rw [h1]
  cases i with
  | mk desc =>
    cases desc
    case named n u =>
      simp only at h ⊢
      cases hu : E.ty u with
      | none => rw [hu] at h; cases h
      | some j => rw [hu] at h; rw [hE.ty _ _ hu]; exact h
    all_goals (simp only at h ⊢; exact h)

theorem run_und {t : Nat} {d : TypeDesc} (h : und E t = some d) (w : World) : (underlying t).run E.prog w = .ok d w := run_underlying (und_ok hE h) w

theorem run_info {t : Nat} {i : TypeInfo} (h : E.ty t = some i) (w : World) : (typeInfo t).run E.prog w = .ok i w := by
  simp [typeInfo, hE.ty _ _ h]

theorem run_size {t n : Nat} (h : sizeA E t = some n) (w : World) : (sizeOf t).run E.prog w = .ok n w := by
  unfold sizeA at h
  cases hi : E.ty t with
  | none => rw [hi] at h; cases h
  | some i =>
    rw [hi] at h
    injection h with h
    simp [sizeOf, run_info hE hi, h]

theorem run_zero {t : Nat} {z : Value} (h : zeroV E t = some z) (w : World) : (zeroValue t).run E.prog w = .ok z w ∧ plain z = true := by
  unfold zeroV at h
  split at h
  · rename_i i hi
    split at h
    · rename_i z' hz
      cases hp : plain z' with
      | false => rw [hp] at h; cases h
      | true =>
        rw [hp] at h
        injection h with h; subst h
        exact ⟨by simp [zeroValue, run_info hE hi, hz], hp⟩
    · cases h
  · cases h

theorem run_isAgg {t : Nat} {b : Bool} (h : isAggA E t = some b) (w : World) : (isAgg t).run E.prog w = .ok b w := by
  unfold isAggA at h
  split at h
  · rename_i fs hu; injection h with h; subst h; simp [isAgg, run_und hE hu]
  · rename_i a c hu; injection h with h; subst h; simp [isAgg, run_und hE hu]
  · rename_i d h1 h2 hu
    injection h with h; subst h
    simp only [isAgg, Sem.run_bind, run_und hE hu, Result.andThen_ok]
    rfl
  · cases h
omit hE

theorem HRel.cellsAt (h : HRel E B0 μ H w) {i : Nat} {L : Loc} {b : Bool} {z : Nat} {c : List Value} (hm : μ i = some L) (hg : H.get i = some (.cells b z c)) (hne : c ≠ []) :
    ∃ C el fr, w.heap[L.blk]? = some (.cells C el fr) ∧ cellsRel μ c C L.off ∧ c.all one = true := by
  have ho := h.obj i _ hg ⟨_, hm⟩
  cases b with
  | true =>
    obtain ⟨L', C, el, k1, k2, k3, k4, k5, k6, k7, k8⟩ := ho
    rw [hm] at k1; injection k1 with k1; subst k1
    exact ⟨C, el, _, k4, k7, k8⟩
  | false =>
    obtain ⟨L', k1, k3, k8, kc⟩ := ho
    rw [hm] at k1; injection k1 with k1; subst k1
    rcases kc with kc | ⟨C, el, fr, k4, k7⟩
    · exact absurd kc hne
    · exact ⟨C, el, fr, k4, k7, k8⟩

theorem takeAt_ne {c l : List Value} {o n : Nat} (h : takeAt c o n = some l) (hn : ¬ n = 0) : c ≠ [] := by
  unfold takeAt at h
  split at h
  · rename_i hl
    intro e; subst e
    simp at hl
    omega
  · cases h

theorem cell_at {L : Loc} {C : Array Value} {el : TypeId} {fr : Nat × Nat} (hw : w.heap[L.blk]? = some (.cells C el fr)) (o : Nat) : w.cell? ⟨L.blk, o, none⟩ = C[o]? := by
  simp [World.cell?, hw]

theorem takeAt_rel {c l : List Value} {C : Array Value} {off o n : Nat} (hc : cellsRel μ c C off) (h : takeAt c o n = some l) :
    ∃ CS : List Value, CS.length = n ∧ VRels μ l CS ∧ ∀ j v, CS[j]? = some v → C[off + o + j]? = some v := by
  unfold takeAt at h
  split at h
  case isFalse => cases h
  rename_i hl
  injection h with h; subst h
  have hget : ∀ j, j < n → ∃ v V, c[o + j]? = some v ∧ C[off + o + j]? = some V ∧ VRel μ v V := by
    intro j hj
    have hlt : o + j < c.length := by omega
    obtain ⟨V, hV, hr⟩ := hc (o + j) c[o + j] (by simp [hlt])
    exact ⟨_, V, by simp [hlt], by rw [show off + o + j = off + (o + j) from by omega]; exact hV, hr⟩
  refine ⟨(C.toList.drop (off + o)).take n, ?_, ?_, ?_⟩
  · simp only [List.length_take, List.length_drop, Array.length_toList]
    rcases Nat.eq_zero_or_pos n with rfl | hn
    · simp
    · obtain ⟨v, V, _, hV, _⟩ := hget (n - 1) (by omega)
      have : off + o + (n - 1) < C.size := by
        rcases Nat.lt_or_ge (off + o + (n - 1)) C.size with h | h
        · exact h
        · rw [Array.getElem?_eq_none h] at hV; cases hV
      omega
  · have hlen : ((C.toList.drop (off + o)).take n).length = n := by
      simp only [List.length_take, List.length_drop, Array.length_toList]
      rcases Nat.eq_zero_or_pos n with rfl | hn
      · simp
      · obtain ⟨v, V, _, hV, _⟩ := hget (n - 1) (by omega)
        have : off + o + (n - 1) < C.size := by
          rcases Nat.lt_or_ge (off + o + (n - 1)) C.size with h | h
          · exact h
          · rw [Array.getElem?_eq_none h] at hV; cases hV
        omega
    refine VRels.of_get (by rw [hlen]; simp; omega) ?_
    intro j v V hv hV
    have hj : j < n := by
      rcases Nat.lt_or_ge j n with h | h
      · exact h
      · rw [List.getElem?_eq_none (by rw [hlen]; exact h)] at hV; cases hV
    obtain ⟨v', V', h1, h2, h3⟩ := hget j hj
    rw [List.getElem?_take_of_lt hj, List.getElem?_drop] at hv hV
    rw [h1] at hv
    rw [Array.getElem?_toList, h2] at hV
    injection hv with hv; injection hV with hV
    subst hv; subst hV
    exact h3
  · intro j v hv
    have hj : j < n := by
      rcases Nat.lt_or_ge j n with h | h
      · exact h
      · rw [List.getElem?_eq_none (by simp; omega)] at hv; cases hv
    rw [List.getElem?_take_of_lt hj, List.getElem?_drop, Array.getElem?_toList] at hv
    exact hv

theorem run_cells {L : Loc} {C : Array Value} {el : TypeId} {fr : Nat × Nat} (hw : w.heap[L.blk]? = some (.cells C el fr)) {o : Nat} {CS : List Value} (h : ∀ j v, CS[j]? = some v → C[L.off + o + j]? = some v) (P : Program) :
    (loadCells ⟨L.blk, L.off + o, none⟩ CS.length).run P w = .ok CS.toArray w := by
  refine run_loadCells_list w _ CS fun j v hj => ?_
  rw [addr_add, cell_at hw]
  exact h j v hj

include hE
theorem load_ok (hH : HRel E B0 μ H w) {t : Nat} {a A v : Value} (ha : VRel μ a A) (h : loadV E H t a = some v) :
    ∃ V, (Instr.loadAt t A).run E.prog w = .ok V w ∧ VRel μ v V := by
  unfold loadV at h
  split at h
  case h_2 => cases h
  rename_i i o
  cases ha with
  | @ptr _ _ L hm =>
  split at h
  case h_2 => cases h
  rename_i b z c hg
  split at h
  · rename_i hagg
    cases hs : sizeA E t with
    | none => rw [hs] at h; cases h
    | some n =>
      rw [hs] at h
      simp only [Option.bind_some] at h
      split at h
      · cases h
      rename_i hn0
      cases ht : takeAt c o n with
      | none => rw [ht] at h; cases h
      | some l =>
        rw [ht] at h
        injection h with h; subst h
        obtain ⟨C, el, fr, hw, hc, h1⟩ := hH.cellsAt hm hg (takeAt_ne ht hn0)
        obtain ⟨CS, e1, e2, e3⟩ := takeAt_rel hc ht
        refine ⟨.agg CS.toArray, ?_, .agg (by simpa using e2)⟩
        have := run_cells hw e3 E.prog
        rw [e1] at this
        simp [Instr.loadAt, Instr.sureAddr, loadVar, run_isAgg hE hagg, run_size hE hs, this]
  · rename_i hagg
    obtain ⟨C, el, fr, hw, hc, h1⟩ := hH.cellsAt hm hg (by intro e; subst e; simp at h)
    obtain ⟨V, hV, hr⟩ := hc o v h
    refine ⟨V, ?_, hr⟩
    simp [Instr.loadAt, Instr.sureAddr, loadVar, run_isAgg hE hagg, cell_at hw, hV]
  · cases h

theorem store_ok (hH : HRel E B0 μ H w) {t : Nat} {a A v V : Value} {H' : Heap} (ha : VRel μ a A) (hv : VRel μ v V) (h : storeV E H t a v = some H') :
    ∃ w', (Instr.storeAt t A V).run E.prog w = .ok () w' ∧ HRel E B0 μ H' w' ∧ Below B0 w w' := by
  unfold storeV at h
  split at h
  case h_2 => cases h
  rename_i i o
  cases ha with
  | @ptr _ _ L hm =>
  cases hc : cellsOf v with
  | none => rw [hc] at h; cases h
  | some vs =>
    cases hs : sizeA E t with
    | none => rw [hc, hs] at h; cases h
    | some n =>
      rw [hc, hs] at h
      simp only [Option.bind_some] at h
      split at h
      case isFalse => cases h
      rename_i hn
      have hr := cellsOf_rel hc hv
      obtain ⟨w', e1, e2, e3⟩ := hH.storeCells hm h hr (cellsOf_one hc) E.prog
      refine ⟨w', ?_, e2, e3⟩
      have hsz : V.cells.size = n := by rw [← Array.length_toList, ← hr.length, hn]
      simp [Instr.storeAt, Instr.sureAddr, storeVar, run_size hE hs, hsz, e1]
omit hE

/-! ### New memory -/
theorem cellsRel_of_rels {vs : List Value} {VS : Array Value} (h : VRels μ vs VS.toList) : cellsRel μ vs VS 0 := by
  intro j v hj
  obtain ⟨V, hV, hr⟩ := h.get hj
  exact ⟨V, by rw [Nat.zero_add, ← Array.getElem?_toList]; exact hV, hr⟩

/-- What an operation that makes a value comes to. -/
def Makes (E : Env) (B0 : Nat) (μ : Inj) (H : Heap) (w : World) (s : Sem Value) (v : Value) (H' : Heap) : Prop :=
  ∃ V w' μ', s.run E.prog w = .ok V w' ∧ Grow H μ H' μ' ∧ VRel μ' v V ∧ HRel E B0 μ' H' w' ∧ Below B0 w w'

theorem newVal_ok (hH : HRel E B0 μ H w) {v V p : Value} {H' : Heap} (hv : VRel μ v V) (h : newVal H v = some (p, H')) (t : TypeId) :
    ∃ μ', (newVar t V).run E.prog w = .ok ⟨w.heap.size, 0, none⟩ (w.alloc (.cells V.cells t)) ∧ Grow H μ H' μ' ∧ VRel μ' p (.pointer (some ⟨w.heap.size, 0, none⟩)) ∧
      HRel E B0 μ' H' (w.alloc (.cells V.cells t)) ∧ Below B0 w (w.alloc (.cells V.cells t)) := by
  unfold newVal at h
  cases hc : cellsOf v with
  | none => rw [hc] at h; cases h
  | some vs =>
    rw [hc] at h
    simp only [Option.map_some, Option.some.injEq, Prod.mk.injEq] at h
    obtain ⟨rfl, rfl⟩ := h
    have hr := cellsOf_rel hc hv
    obtain ⟨k1, k2, k3⟩ := hH.newCells 0 V.cells.size vs V.cells t (cellsRel_of_rels hr) (by rw [hr.length]; simp) (Nat.le_refl _) (cellsOf_one hc)
    refine ⟨_, by simp [newVar, newRow], k1, ?_, k2, k3⟩
    exact .ptr (L := ⟨w.heap.size, 0, V.cells.size, 0⟩) (Inj.add_self _ _ _)

theorem box_ok (hH : HRel E B0 μ H w) {v V p : Value} {H' : Heap} (hv : VRel μ v V) (h : newVal H v = some (p, H')) (t : TypeId) : Makes E B0 μ H w (Instr.box t V) p H' := by
  obtain ⟨μ', h1, h2, h3, h4, h5⟩ := newVal_ok hH hv h t
  exact ⟨_, _, μ', by simp [Instr.box, h1], h2, h3, h4, h5⟩

include hE in
theorem alloc_ok (hH : HRel E B0 μ H w) {z p : Value} {H' : Heap} {t : TypeId} (hz : zeroV E t = some z) (h : newVal H z = some (p, H')) : Makes E B0 μ H w (Instr.alloc t true (.tuple #[])) p H' := by
  obtain ⟨hr, hp⟩ := run_zero hE hz w
  obtain ⟨μ', h1, h2, h3, h4, h5⟩ := newVal_ok hH (plain_rel hp) h t
  exact ⟨_, _, μ', by simp [Instr.alloc, hr, h1], h2, h3, h4, h5⟩

theorem VRels.set {l L : List Value} (h : VRels μ l L) (i : Nat) {v V : Value} (hv : VRel μ v V) : VRels μ (l.set i v) (L.set i V) := by
  refine VRels.of_get (by simp [h.length]) fun j a b ha hb => ?_
  rw [List.getElem?_set] at ha hb
  by_cases e : i = j
  · rw [if_pos e] at ha hb
    split at ha <;> split at hb <;> simp_all
  · rw [if_neg e] at ha hb
    obtain ⟨V', h1, h2⟩ := h.get ha
    rw [hb] at h1; injection h1 with h1; subst h1
    exact h2

theorem noTop_cells {v V : Value} (h1 : noTop v = true) (h : VRel μ v V) : VRels μ v.cells.toList V.cells.toList := by
  cases h <;> first
    | (simp [noTop] at h1; done)
    | exact ‹VRels _ _ _›
    | exact .cons (by constructor <;> assumption) .nil
    | exact .cons .ptrNil .nil

theorem fold_rel : ∀ {l L : List Value}, VRels μ l L → ∀ (k off : Nat) (c C : Array Value), VRels μ c.toList C.toList →
    VRels μ ((l.zipIdx k).foldl (fun cs (p : Value × Nat) => cs.setIfInBounds (off + p.2) p.1) c).toList ((L.zipIdx k).foldl (fun cs (p : Value × Nat) => cs.setIfInBounds (off + p.2) p.1) C).toList
  | _, _, .nil, _, _, _, _, h => h
  | _, _, .cons hv hs, k, off, c, C, h => by
    simp only [List.zipIdx_cons, List.foldl_cons]
    exact fold_rel hs (k + 1) off _ _ (by simpa using h.set (off + k) hv)

theorem zip_fold (off : Nat) (a c : Array Value) :
    (a.zipIdx.foldl (fun cs (p : Value × Nat) => cs.setIfInBounds (off + p.2) p.1) c) = a.toList.zipIdx.foldl (fun cs (p : Value × Nat) => cs.setIfInBounds (off + p.2) p.1) c := by
  rw [← Array.foldl_toList, Array.toList_zipIdx]

theorem fill_rel (place : Nat → Option (Nat × Nat)) (e e' : Operand → Value) (he : ∀ x, VRel μ (e x) (e' x)) : ∀ (ps : List (Nat × Operand)) (c C c' : Array Value),
    (ps.map fun p => (p.1, e p.2)).all (fun p => noTop p.2) = true → VRels μ c.toList C.toList → Instr.fill place c (ps.map fun p => (p.1, e p.2)) = some c' →
    ∃ C', Instr.fill place C (ps.map fun p => (p.1, e' p.2)) = some C' ∧ VRels μ c'.toList C'.toList
  | [], c, C, c', _, hc, h => by
    simp only [List.map_nil, Instr.fill, Option.some.injEq] at h ⊢
    subst h
    exact ⟨C, rfl, hc⟩
  | p :: ps, c, C, c', ht, hc, h => by
    simp only [List.map_cons, List.all_cons, Bool.and_eq_true] at ht
    simp only [List.map_cons, Instr.fill] at h ⊢
    cases hp : place p.1 with
    | none => rw [hp] at h; cases h
    | some q =>
      obtain ⟨off, size⟩ := q
      rw [hp] at h
      simp only at h ⊢
      have hcr := noTop_cells ht.1 (he p.2)
      have hl := hcr.length
      simp only [Array.length_toList] at hl
      have hl2 := hc.length
      simp only [Array.length_toList] at hl2
      rw [← hl, ← hl2]
      split at h
      · cases h
      · rename_i hb
        rw [if_neg hb]
        refine fill_rel place e e' he ps _ _ c' ht.2 ?_ h
        rw [zip_fold, zip_fold]
        exact fold_rel hcr 0 off c C hc

include hE in
theorem run_places {w : World} : ∀ (fs : List Field) (ps : List (Nat × Nat)), (fs.mapM fun f => (sizeA E f.type).map fun n => (f.offset, n)) = some ps →
    (fs.mapM fun f => Functor.map (Prod.mk f.offset) (sizeOf f.type)).run E.prog w = .ok ps w
  | [], ps, h => by
    simp only [List.mapM_nil] at h ⊢
    injection h with h; subst h; rfl
  | f :: fs, ps, h => by
    simp only [List.mapM_cons] at h ⊢
    cases hs : sizeA E f.type with
    | none => simp [hs] at h
    | some n =>
      cases hr : (fs.mapM fun f => (sizeA E f.type).map fun n => (f.offset, n)) with
      | none => simp [hs, hr] at h
      | some qs =>
        simp only [hs, hr, Option.map_some, Option.bind_eq_bind, Option.bind_some, Option.pure_def, Option.some.injEq] at h
        subst h
        have ih := run_places (w := w) fs qs hr
        simp [run_size hE hs, ih]

include hE in
theorem build_ok {t : TypeId} {parts : Array (Nat × Operand)} {e e' : Operand → Value} {v : Value} (he : ∀ x, VRel μ (e x) (e' x))
    (h : buildV E t (parts.map fun p => (p.1, e p.2)) = some v) :
    ∃ V, (Instr.build t (parts.map fun p => (p.1, e' p.2))).run E.prog w = .ok V w ∧ VRel μ v V := by
  unfold buildV at h
  cases hz : zeroV E t with
  | none => rw [hz] at h; cases h
  | some z =>
    rw [hz] at h
    simp only [Option.bind_some] at h
    cases hok : (partsOk (parts.map fun p => (p.1, e p.2)) && noTop z) with
    | false => rw [hok] at h; cases h
    | true =>
      rw [hok] at h
      simp only [cond_true] at h
      obtain ⟨hrz, hpz⟩ := run_zero hE hz w
      simp only [Bool.and_eq_true, partsOk, Array.toList_map] at hok
      have hzz : VRels μ z.cells.toList z.cells.toList := noTop_cells hok.2 (plain_rel hpz)
      split at h
      · rename_i fields hu
        cases hm : (fields.toList.mapM fun f => (sizeA E f.type).map fun n => (f.offset, n)) with
        | none => rw [hm] at h; cases h
        | some places =>
          rw [hm] at h
          simp only [Option.bind_some, Array.toList_map] at h
          cases hf : Instr.fill (fun x => places[x]?) z.cells (parts.toList.map fun p => (p.1, e p.2)) with
          | none => rw [hf] at h; cases h
          | some c' =>
            rw [hf] at h
            simp only [Option.map_some, Option.some.injEq] at h
            subst h
            obtain ⟨C', h1, h2⟩ := fill_rel (fun x => places[x]?) e e' he parts.toList z.cells z.cells c' hok.1 hzz hf
            refine ⟨.agg C', ?_, .agg h2⟩
            have hrun := run_places hE (w := w) fields.toList places hm
            simp [Instr.build, hrz, run_und hE hu, Array.mapM_eq_mapM_toList, hrun, h1]
      · rename_i len el hu
        cases hs : sizeA E el with
        | none => rw [hs] at h; cases h
        | some n =>
          rw [hs] at h
          simp only [Option.bind_some, Array.toList_map] at h
          cases hf : Instr.fill (fun i => some (i * n, n)) z.cells (parts.toList.map fun p => (p.1, e p.2)) with
          | none => rw [hf] at h; cases h
          | some c' =>
            rw [hf] at h
            simp only [Option.map_some, Option.some.injEq] at h
            subst h
            obtain ⟨C', h1, h2⟩ := fill_rel (fun i => some (i * n, n)) e e' he parts.toList z.cells z.cells c' hok.1 hzz hf
            refine ⟨.agg C', ?_, .agg h2⟩
            simp [Instr.build, hrz, run_und hE hu, run_size hE hs, h1]
      · cases h

theorem cellsOf_cells {v : Value} {l : List Value} (h : cellsOf v = some l) : v.cells = ⟨l⟩ := by
  cases v
  case agg cs => obtain ⟨_, rfl⟩ := cellsOf_agg h; rfl
  all_goals first | (cases h; done) | (injection h with h; subst h; rfl)

theorem reps_length (z : List Value) : ∀ n, (reps n z).length = n * z.length
  | 0 => by simp [reps]
  | n + 1 => by simp [reps, reps_length z n, Nat.add_mul, Nat.add_comm]

theorem reps_get (z : List Value) (hz : 1 ≤ z.length) : ∀ (n j : Nat), j < n * z.length → (reps n z)[j]? = z[j % z.length]?
  | 0, j, h => by simp at h
  | n + 1, j, h => by
    simp only [reps, List.getElem?_append]
    split
    · rename_i hj; rw [Nat.mod_eq_of_lt hj]
    · rename_i hj
      rw [reps_get z hz n (j - z.length) (by rw [Nat.add_mul] at h; omega)]
      have : j % z.length = (j - z.length) % z.length := by rw [Nat.mod_eq_sub_mod (by omega)]
      rw [this]

theorem reps_made (z : List Value) (hz : 1 ≤ z.length) (n : Nat) : madeCells ⟨z⟩ (n * z.length) = ⟨reps n z⟩ := by
  apply Array.ext'
  apply List.ext_getElem?
  intro j
  rw [Array.getElem?_toList]
  by_cases h : j < n * z.length
  · have hm : j % z.length < z.length := Nat.mod_lt _ (by omega)
    have e1 : (madeCells ⟨z⟩ (n * z.length))[j]? = some z[j % z.length] := by
      simp [madeCells, h, hm]
    rw [e1, reps_get z hz n j h]
    simp [hm]
  · rw [Array.getElem?_eq_none (by rw [size_madeCells]; omega), List.getElem?_eq_none (by rw [reps_length]; omega)]

theorem reps_all {z : List Value} {p : Value → Bool} (h : z.all p = true) : ∀ n, (reps n z).all p = true
  | 0 => rfl
  | n + 1 => by simp only [reps, List.all_append, h, reps_all h n, Bool.and_self]

theorem reps_rels {z : List Value} (h : VRels μ z z) : ∀ n, VRels μ (reps n z) (reps n z)
  | 0 => .nil
  | n + 1 => h.append (reps_rels h n)

theorem zeroCells_of {e : Nat} {z : List Value} (h : zeroCellsA E e = some z) :
    ∃ zv i, zeroV E e = some zv ∧ cellsOf zv = some z ∧ E.ty e = some i ∧ i.size = z.length ∧ i.zero = some zv ∧ plain zv = true ∧ z.all one = true := by
  unfold zeroCellsA at h
  cases hz : zeroV E e with
  | none => rw [hz] at h; cases h
  | some zv =>
    rw [hz] at h
    simp only [Option.bind_some] at h
    cases hc : cellsOf zv with
    | none => rw [hc] at h; cases h
    | some l =>
      rw [hc] at h
      simp only [Option.bind_some] at h
      unfold zeroV at hz
      unfold sizeA at h
      cases ht : E.ty e with
      | none => rw [ht] at hz; cases hz
      | some i =>
        rw [ht] at hz h
        simp only [Option.map_some, Option.bind_some] at h hz
        split at h
        case isFalse => cases h
        rename_i hl
        injection h with h; subst h
        cases hzz : i.zero with
        | none => rw [hzz] at hz; cases hz
        | some z' =>
          rw [hzz] at hz
          simp only at hz
          cases hp : plain z' with
          | false => rw [hp] at hz; cases hz
          | true =>
            rw [hp] at hz
            injection hz with hz; subst hz
            exact ⟨z', i, rfl, hc, rfl, hl.symm, hzz, hp, cellsOf_one hc⟩

theorem zeroCells_rel {e : Nat} {z : List Value} (h : zeroCellsA E e = some z) : VRels μ z z := by
  obtain ⟨zv, i, h1, h2, h3, h4, h5, h6, h7⟩ := zeroCells_of h
  have := cellsOf_rel (μ := μ) h2 (plain_rel h6)
  rwa [cellsOf_cells h2] at this

/-- A new row that a slice is read off. -/
theorem newRow_ok (hH : HRel E B0 μ H w) {es len cap : Nat} {c : List Value} {C : Array Value} {el : TypeId} (hc : cellsRel μ c C 0) (h1 : c.length ≤ C.size) (hone : c.all one = true) (hl : len ≤ cap) (hsz : C.size = cap * es) :
    ∃ μ', Grow H μ (newRowA H es len c).2 μ' ∧ VRel μ' (newRowA H es len c).1 (.slice (some ⟨w.heap.size, 0, none⟩) len cap) ∧ HRel E B0 μ' (newRowA H es len c).2 (w.alloc (.cells C el)) ∧ Below B0 w (w.alloc (.cells C el)) := by
  obtain ⟨k1, k2, k3⟩ := hH.newCells es C.size c C el hc h1 (Nat.le_refl _) hone
  refine ⟨_, k1, ?_, k2, k3⟩
  exact .slice (L := ⟨w.heap.size, 0, C.size, es⟩) (Inj.add_self _ _ _) hl (.inr (by simp only [Nat.zero_add]; exact hsz.symm))

/-- What a row that is made comes to: the model's block. -/
def RowMade (E : Env) (μ : Inj) (w : World) (H : Heap) (s : Sem Value) (v : Value) (H' : Heap) : Prop :=
  ∃ es len c C el cap, (v, H') = newRowA H es len c ∧ s.run E.prog w = .ok (.slice (some ⟨w.heap.size, 0, none⟩) len cap) (w.alloc (.cells C el)) ∧ cellsRel μ c C 0 ∧ c.length ≤ C.size ∧ c.all one = true ∧ len ≤ cap ∧ C.size = cap * es

theorem RowMade.makes {s : Sem Value} {v : Value} {H' : Heap} (h : RowMade E μ w H s v H') (hH : HRel E B0 μ H w) : Makes E B0 μ H w s v H' := by
  obtain ⟨es, len, c, C, el, cap, h1, h2, h3, h4, h5, h6, h7⟩ := h
  obtain ⟨μ', q1, q2, q3, q4⟩ := newRow_ok (el := el) hH (es := es) h3 h4 h5 h6 h7
  rw [← h1] at q1 q2 q3
  exact ⟨_, _, μ', h2, q1, q2, q3, q4⟩

include hE in
theorem makeSlice_run (w : World) {t : Nat} {l c L C : Value} {v : Value} {H' : Heap} (hl : VRel μ l L) (hc : VRel μ c C) (h : makeSliceA E H t l c = some (v, H')) : RowMade E μ w H (Instr.makeSlice t L C) v H' := by
  unfold makeSliceA at h
  split at h
  case h_2 => cases h
  rename_i e k1 n1 k2 n2 hu
  cases hl; cases hc
  cases hz : zeroCellsA E e with
  | none => rw [hz] at h; cases h
  | some z =>
    rw [hz] at h
    simp only [Option.bind_some] at h
    obtain ⟨zv, i, h1, h2, h3, h4, h5, h6, h7⟩ := zeroCells_of hz
    rw [h3] at h
    simp only [Option.bind_some] at h
    split at h
    case isFalse => cases h
    rename_i hb
    obtain ⟨b1, b2, b3, b4, b5⟩ := hb
    simp only [Option.some.injEq] at h
    obtain ⟨m, rfl⟩ := Int.eq_ofNat_of_zero_le (show 0 ≤ n2 by omega)
    simp only [Int.toNat_natCast] at *
    have hm : m ≤ 140737488355328 := Nat.le_trans (Nat.le_mul_of_pos_left m b4) b3
    have hby : (i.bytes : Int) * (m : Int) ≤ 281474976710656 := by
      have h9 : ((i.bytes * m : Nat) : Int) ≤ 140737488355328 := by omega
      rw [Int.natCast_mul] at h9
      omega
    have hrun := run_make (P := E.prog) w t e i zv (und_ok hE hu) (hE.ty _ _ h3) h5 k1 k2 n1 (m : Int) b1 (by omega) hby (by omega)
    rw [cellsOf_cells h2, h4, Int.toNat_natCast, reps_made z b5] at hrun
    exact ⟨z.length, n1.toNat, reps m z, ⟨reps m z⟩, e, m, h.symm, hrun, cellsRel_of_rels (reps_rels (zeroCells_rel hz) m), Nat.le_refl _, reps_all h7 m, by omega, by simp [reps_length]⟩

include hE in
theorem makeSlice_ok (hH : HRel E B0 μ H w) {t : Nat} {l c L C : Value} {v : Value} {H' : Heap} (hl : VRel μ l L) (hc : VRel μ c C) (h : makeSliceA E H t l c = some (v, H')) : Makes E B0 μ H w (Instr.makeSlice t L C) v H' :=
  (makeSlice_run hE w hl hc h).makes hH

include hE in
theorem buildSlice_run (w : World) {t len : Nat} {parts : Array (Nat × Operand)} {e e' : Operand → Value} {v : Value} {H' : Heap} (he : ∀ x, VRel μ (e x) (e' x))
    (h : buildSliceA E H t len (parts.map fun p => (p.1, e p.2)) = some (v, H')) : RowMade E μ w H (Instr.buildSlice t len (parts.map fun p => (p.1, e' p.2))) v H' := by
  unfold buildSliceA at h
  split at h
  case h_2 => cases h
  rename_i el hu
  cases hz : zeroCellsA E el with
  | none => rw [hz] at h; cases h
  | some z =>
    rw [hz] at h
    simp only [Option.bind_some] at h
    obtain ⟨zv, i, h1, h2, h3, h4, h5, h6, h7⟩ := zeroCells_of hz
    cases hok : (partsOk (parts.map fun p => (p.1, e p.2)) && Nat.ble (len * z.length) 16777216 && Nat.ble 1 z.length) with
    | false => rw [hok] at h; cases h
    | true =>
      rw [hok] at h
      simp only [cond_true] at h
      simp only [Bool.and_eq_true, partsOk, Array.toList_map, Nat.ble_eq] at hok
      obtain ⟨⟨hok, hle⟩, hz1⟩ := hok
      simp only [Array.toList_map] at h
      cases hf : Instr.fill (fun i => some (i * z.length, z.length)) ⟨reps len z⟩ (parts.toList.map fun p => (p.1, e p.2)) with
      | none => rw [hf] at h; cases h
      | some c' =>
        rw [hf] at h
        simp only [Option.bind_some] at h
        split at h
        case isFalse => cases h
        rename_i hone
        simp only [Option.some.injEq] at h
        obtain ⟨C', f1, f2⟩ := fill_rel (fun i => some (i * z.length, z.length)) e e' he parts.toList ⟨reps len z⟩ ⟨reps len z⟩ c' hok (reps_rels (zeroCells_rel hz) len) hf
        have hsz : ∀ (ps : List (Nat × Value)) (c d : Array Value), Instr.fill (fun i => some (i * z.length, z.length)) c ps = some d → d.size = c.size := by
          intro ps
          induction ps with
          | nil => intro c d hd; simp only [Instr.fill, Option.some.injEq] at hd; rw [hd]
          | cons p ps ih =>
            intro c d hd
            simp only [Instr.fill] at hd
            split at hd
            · cases hd
            · rw [ih _ _ hd, zip_fold]
              have : ∀ (l : List (Value × Nat)) (c : Array Value), (l.foldl (fun cs (p' : Value × Nat) => cs.setIfInBounds (p.1 * z.length + p'.2) p'.1) c).size = c.size := by
                intro l
                induction l with
                | nil => intro c; rfl
                | cons x l ih => intro c; simp only [List.foldl_cons]; rw [ih]; simp
              exact this _ _
        have hc's := hsz _ _ _ hf
        have hC's := hsz _ _ _ f1
        simp only [List.size_toArray, reps_length] at hc's hC's
        refine ⟨z.length, len, c'.toList, C', el, len, h.symm, ?_, cellsRel_of_rels f2, by simp; omega, hone, Nat.le_refl _, hC's⟩
        have hrun : (Instr.buildSlice t len (parts.map fun p => (p.1, e' p.2))).run E.prog w = .ok (.slice (some ⟨w.heap.size, 0, none⟩) len len) (w.alloc (.cells C' el)) := by
          have hzs : sizeA E el = some z.length := by simp [sizeA, h3, h4]
          have hn : ¬ (16777216 < len * z.length) := by omega
          have hr2 := (run_zero hE h1 w).1
          have hmade : (Array.range (len * z.length)).map (fun x => z[x % z.length]?.getD default) = ⟨reps len z⟩ := by
            have := reps_made z hz1 len
            simpa [madeCells] using this
          by_cases h0 : len * z.length = 0
          · have hl0 : len = 0 := by rcases Nat.mul_eq_zero.1 h0 with h | h; exact h; omega
            subst hl0
            simp only [reps] at f1
            simp [Instr.buildSlice, run_und hE hu, run_size hE hzs, Array.range_zero', f1, newRow]
          · simp [Instr.buildSlice, run_und hE hu, run_size hE hzs, hn, h0, hr2, cellsOf_cells h2, hmade, f1, newRow]
        exact hrun

include hE in
theorem buildSlice_ok (hH : HRel E B0 μ H w) {t len : Nat} {parts : Array (Nat × Operand)} {e e' : Operand → Value} {v : Value} {H' : Heap} (he : ∀ x, VRel μ (e x) (e' x))
    (h : buildSliceA E H t len (parts.map fun p => (p.1, e p.2)) = some (v, H')) : Makes E B0 μ H w (Instr.buildSlice t len (parts.map fun p => (p.1, e' p.2))) v H' :=
  (buildSlice_run hE w he h).makes hH

end
end Go.AS
