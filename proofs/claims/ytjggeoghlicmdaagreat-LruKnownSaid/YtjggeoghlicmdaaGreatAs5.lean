/-
  The plain machine's operations are the model's: copy, maps, numbers, comparisons; all together.
-/
import Derived.Test.YtjggeoghlicmdaaGreatAs4
import Derived.Laws.StructEq
namespace Go.AS
open Go.RowKit
set_option linter.unusedVariables false

section
variable {E : Env} (hE : E.Ok) {B0 : Nat} {μ : Inj} {H : Heap} {w : World}

include hE in
theorem copy_ok (hH : HRel E B0 μ H w) {argTypes : Array TypeId} {ty : TypeId} {args ARGS : List Value} {v : Value} {H' : Heap} (ha : VRels μ args ARGS) (h : copyA E H argTypes args = some (v, H')) :
    Makes E B0 μ H w (Builtin.copy_ argTypes ty ARGS.toArray) v H' := by
  unfold copyA at h
  split at h
  case h_2 => cases h
  rename_i st rest base len c x hat
  obtain ⟨at_⟩ := argTypes
  simp only at hat
  subst hat
  cases ha with | cons hs0 ha =>
  cases ha with | cons hx ha =>
  cases ha
  rename_i S X
  split at h
  case h_2 => cases h
  rename_i e hu
  cases hes : sizeA E e with
  | none => rw [hes] at h; cases h
  | some es =>
    rw [hes] at h
    simp only [Option.bind_some] at h
    cases hl : lenOfA x with
    | none => rw [hl] at h; cases h
    | some n =>
      rw [hl] at h
      simp only [Option.bind_some] at h
      cases hf : firstCellsA H es (Nat.min n len) x with
      | none => rw [hf] at h; cases h
      | some new =>
        rw [hf] at h
        simp only [Option.bind_some] at h
        obtain ⟨NEW, n1, n2, n3, n4⟩ := firstCells_ok hH hx hl (Nat.min_le_left _ _) hf
        obtain ⟨rf1, rf2⟩ := run_first n3 n4 E.prog
        split at h
        · cases hs0
          simp only [Option.some.injEq, Prod.mk.injEq] at h
          obtain ⟨rfl, rfl⟩ := h
          refine ⟨goInt (Nat.min n 0), w, μ, ?_, Grow.refl _ _, .int _ _, hH, Below.refl _ _⟩
          rw [show min n 0 = 0 from Nat.min_zero n] at rf1
          simp [Builtin.copy_, run_und hE hu, run_size hE hes, rf2, rf1]
        · rename_i i o
          cases hst : storeCellsA H i o new with
          | none => rw [hst] at h; cases h
          | some H1 =>
            rw [hst] at h
            simp only [Option.map_some, Option.some.injEq, Prod.mk.injEq] at h
            obtain ⟨rfl, rfl⟩ := h
            cases hs0 with
            | @slice _ _ _ _ cap L hm hle hr =>
              obtain ⟨w', e1, e2, e3⟩ := hH.storeCells hm hst n1 n2 E.prog
              refine ⟨goInt (Nat.min n len), w', μ, ?_, Grow.same _ (storeCellsA_next hst), .int _ _, e2, e3⟩
              simp [Builtin.copy_, run_und hE hu, run_size hE hes, rf2, rf1, e1]
            | @sliceEnd _ _ _ cap A L hm ho =>
              have hN : NEW = [] := List.eq_nil_of_length_eq_zero (by rw [n3]; simp)
              subst hN
              cases n1
              have hH1 : HRel E B0 μ H1 w := by
                obtain ⟨w', e1, e2, e3⟩ := hH.storeCells hm hst .nil rfl E.prog
                simp only [storeCells, Sem.run_pure, Result.ok.injEq] at e1
                rw [e1.2]
                exact e2
              refine ⟨goInt (Nat.min n 0), w, μ, ?_, Grow.same _ (storeCellsA_next hst), .int _ _, hH1, Below.refl _ _⟩
              rw [show min n 0 = 0 from Nat.min_zero n] at rf1
              simp [Builtin.copy_, run_und hE hu, run_size hE hes, rf2, rf1, storeCells]
        · cases h

/-! ### Maps -/
theorem sameNow_rel {kd : TypeDesc} {k K x X : Value} (hk : VRel μ k K) (hx : VRel μ x X) {b : Bool} (h : Instr.sameNow kd k x = some b) : Instr.sameNow kd K X = some b := by
  unfold Instr.sameNow at h
  split at h
  · cases hk; cases hx; exact h
  · cases hk; cases hx; exact h
  · cases hk; cases hx; exact h
  · cases h

theorem sameNow_bits {kd : TypeDesc} {k x : Value} (hkd : kd ≠ .string) (h : Instr.sameNow kd k x = some true) : Instr.sameBits 10000 x k = true := by
  unfold Instr.sameNow at h
  split at h
  · split at h
    · rename_i e; subst e
      simp only [Option.some.injEq] at h
      have := (beq_iff_eq.1 h)
      subst this
      simp [Instr.sameBits]
    · cases h
  · exact absurd rfl hkd
  · simp only [Option.some.injEq] at h; have := (beq_iff_eq.1 h); subst this; simp [Instr.sameBits]
  · cases h

theorem findNow_rel {kd : TypeDesc} {k K : Value} (hkd : kd ≠ .string) (hk : VRel μ k K) : ∀ {es ES : List MapEntry}, ERels μ es ES → ∀ (i : Nat) (r : Option (Nat × Value)), Instr.findNow kd k es i = some r →
    ∃ R, Instr.findNow kd K ES i = some R ∧ ((r = none ∧ R = none) ∨ ∃ j v V, r = some (j, v) ∧ R = some (j, V) ∧ VRel μ v V ∧ i ≤ j ∧ j - i < ES.length ∧
      ∃ E', ES[j - i]? = some E' ∧ Instr.sameBits 10000 E'.key K = true)
  | _, _, .nil, i, r, h => by
    simp only [Instr.findNow, Option.some.injEq] at h ⊢
    subst h
    exact ⟨none, rfl, .inl ⟨rfl, rfl⟩⟩
  | _, _, .cons hkk hv hb hs, i, r, h => by
    simp only [Instr.findNow] at h ⊢
    split at h
    · rename_i hsn
      injection h with h; subst h
      have h2 := sameNow_rel hk hkk hsn
      rw [h2]
      exact ⟨_, rfl, .inr ⟨i, _, _, rfl, rfl, hv, Nat.le_refl _, by simp, _, by simp, sameNow_bits hkd h2⟩⟩
    · rename_i hsn
      rw [sameNow_rel hk hkk hsn]
      obtain ⟨R, h1, h2⟩ := findNow_rel hkd hk hs (i + 1) r h
      refine ⟨R, h1, h2.imp id ?_⟩
      rintro ⟨j, v, V, e1, e2, e3, e4, e5, E', e6, e7⟩
      refine ⟨j, v, V, e1, e2, e3, by omega, by simp; omega, E', ?_, e7⟩
      rw [show j - i = (j - (i + 1)) + 1 from by omega]
      simpa using e6
    · cases h

include hE in
theorem simpleKey_ok {t : Nat} {kd : TypeDesc} (h : simpleKey E t = some kd) : E.prog.underlying t = some kd ∧ kd ≠ .string ∧ (∀ (b : Bool) (n : Nat) (k : Value) (w : World), (Instr.checkKey b (n + 1) t k).run E.prog w = .ok () w) := by
  unfold simpleKey at h
  split at h
  all_goals first
    | (rename_i hu
       injection h with h; subst h
       refine ⟨und_ok hE hu, by simp, fun b n k w => ?_⟩
       simp [Instr.checkKey, run_und hE hu])
    | cases h

theorem run_findKey {kt : Nat} {kd : TypeDesc} {K : Value} {ES : List MapEntry} {R : Option (Nat × Value)} {P : Program} (hu : P.underlying kt = some kd) (h : Instr.findNow kd K ES 0 = some R) : (Instr.findKey kt K ES).run P w = .ok R w := by
  simp [Instr.findKey, run_underlying hu, h]

theorem ERels.length {es ES : List MapEntry} (h : ERels μ es ES) : es.length = ES.length := by
  induction h with
  | nil => rfl
  | cons _ _ _ _ ih => simp [ih]

theorem HRel.mapAt (h : HRel E B0 μ H w) {i : Nat} {L : Loc} {es : List MapEntry} {ck : Nat} (hm : μ i = some L) (hg : H.get i = some (.map es ck)) :
    ∃ ES : Array MapEntry, B0 ≤ L.blk ∧ w.heap[L.blk]? = some (.map ES ck) ∧ ERels μ es ES.toList := by
  obtain ⟨L', ES, k1, k2, k3, k4⟩ := h.obj i _ hg ⟨_, hm⟩
  rw [hm] at k1; injection k1 with k1; subst k1
  exact ⟨ES, k2, k3, k4⟩

theorem run_getObj {r : Nat} {ES : Array MapEntry} {ck : Nat} {P : Program} (h : w.heap[r]? = some (.map ES ck)) : (getObj r).run P w = .ok (.map ES ck) w := by
  simp [getObj, Sem.run, h]

theorem run_setObj {r : Nat} {ES : Array MapEntry} {ck : Nat} {P : Program} (h : w.heap[r]? = some (.map ES ck)) (o : Go.Obj) : (setObj r o).run P w = .ok () { w with heap := w.heap.setIfInBounds r o } := by
  simp [setObj, Sem.run, h]

/-- A map of one's own is written. -/
theorem HRel.setMap (h : HRel E B0 μ H w) {i : Nat} {L : Loc} {es es' : List MapEntry} {ck ck' : Nat} {ES' : Array MapEntry} (hm : μ i = some L) (hg : H.get i = some (.map es ck)) (he : ERels μ es' ES'.toList) :
    HRel E B0 μ (H.set i (.map es' ck')) { w with heap := w.heap.setIfInBounds L.blk (.map ES' ck') } ∧ Below B0 w { w with heap := w.heap.setIfInBounds L.blk (.map ES' ck') } := by
  obtain ⟨ES, k2, k3, k4⟩ := h.mapAt hm hg
  have hlt : L.blk < w.heap.size := by
    rcases Nat.lt_or_ge L.blk w.heap.size with h | h
    · exact h
    · rw [Array.getElem?_eq_none h] at k3; cases k3
  refine ⟨h.put hg rfl rfl hm (fun k hk => ?_) (by simp) ⟨L, ES', hm, k2, ?_, he⟩, ⟨rfl, rfl, rfl, by simp, fun k hk => ?_⟩⟩
  · exact Array.getElem?_setIfInBounds_ne (fun e => hk e.symm)
  · simp [hlt]
  · exact Array.getElem?_setIfInBounds_ne (by omega)

include hE in
theorem lookup_ok (hH : HRel E B0 μ H w) {t : Nat} {m M k K v : Value} {ok : Bool} (hm : VRel μ m M) (hk : VRel μ k K) (h : lookupA E H t m k ok = some v) :
    ∃ V, (Instr.lookup t M K ok).run E.prog w = .ok V w ∧ VRel μ v V := by
  unfold lookupA at h
  split at h
  case h_2 => cases h
  rename_i kt e hu
  cases hkd : simpleKey E kt with
  | none => rw [hkd] at h; cases h
  | some kd =>
    rw [hkd] at h
    simp only [Option.bind_some] at h
    cases hz : zeroV E e with
    | none => rw [hz] at h; cases h
    | some z =>
      rw [hz] at h
      simp only [Option.bind_some] at h
      obtain ⟨ku, kn, kc⟩ := simpleKey_ok hE hkd
      obtain ⟨hrz, hpz⟩ := run_zero hE hz w
      -- the entries
      have key : ∀ (es ES : List MapEntry), ERels μ es ES → ((Instr.findNow kd k es 0).bind fun r =>
          let p : Value × Bool := match r with
            | some (_, v) => (v, true)
            | none => (z, false)
          some (bif ok then .tuple #[p.1, .bool p.2] else p.1)) = some v →
          ∃ R V, Instr.findNow kd K ES 0 = some R ∧ VRel μ v V ∧ V = (let p : Value × Bool := (match R with
            | some (_, v) => (v, true)
            | none => (z, false)); if ok then .tuple #[p.1, .bool p.2] else p.1) := by
        intro es ES hr hh
        cases hf : Instr.findNow kd k es 0 with
        | none => rw [hf] at hh; cases hh
        | some r =>
          rw [hf] at hh
          simp only [Option.bind_some, Option.some.injEq] at hh
          obtain ⟨R, r1, r2⟩ := findNow_rel kn hk hr 0 r hf
          refine ⟨R, _, r1, ?_, rfl⟩
          rcases r2 with ⟨rfl, rfl⟩ | ⟨j, v', V', rfl, rfl, e3, _⟩
          · subst hh
            cases ok
            · exact plain_rel hpz
            · exact .tuple (.cons (plain_rel hpz) (.cons (.bool _) .nil))
          · subst hh
            cases ok
            · exact e3
            · exact .tuple (.cons e3 (.cons (.bool _) .nil))
      split at h
      · cases hm
        obtain ⟨R, V, r1, r2, rfl⟩ := key [] [] .nil h
        refine ⟨_, ?_, r2⟩
        simp only [Instr.findNow, Option.some.injEq] at r1
        subst r1
        simp [Instr.lookup, run_und hE hu, kc, run_findKey ku (show Instr.findNow kd K [] 0 = some none from rfl), hrz]
      · rename_i i
        split at h
        · rename_i es ck hg
          simp only [Option.bind_some] at h
          cases hm with
          | @map _ L hm =>
          obtain ⟨ES, k2, k3, k4⟩ := hH.mapAt hm hg
          obtain ⟨R, V, r1, r2, rfl⟩ := key es ES.toList k4 h
          refine ⟨_, ?_, r2⟩
          cases R with
          | none => simp [Instr.lookup, run_und hE hu, kc, run_getObj k3, run_findKey ku r1, hrz]
          | some p => simp [Instr.lookup, run_und hE hu, kc, run_getObj k3, run_findKey ku r1]
        · cases h
      · cases h

theorem ERels.modify {es ES : List MapEntry} (h : ERels μ es ES) {k K v V : Value} (hk : VRel μ k K) (hv : VRel μ v V) (j : Nat) :
    ERels μ (es.modify j fun e => { e with key := k, val := v }) (ES.modify j fun e => { e with key := K, val := V }) := by
  induction h generalizing j with
  | nil => simp; exact .nil
  | cons h1 h2 h3 hs ih =>
    cases j with
    | zero => simp only [List.modify_zero_cons]; exact .cons hk hv h3 hs
    | succ j => simp only [List.modify_succ_cons]; exact .cons h1 h2 h3 (ih j)

theorem ERels.append {es ES fs FSz : List MapEntry} (h : ERels μ es ES) (h' : ERels μ fs FSz) : ERels μ (es ++ fs) (ES ++ FSz) := by
  induction h with
  | nil => exact h'
  | cons h1 h2 h3 hs ih => exact .cons h1 h2 h3 ih

theorem ERels.erase {es ES : List MapEntry} (h : ERels μ es ES) (j : Nat) : ERels μ (es.eraseIdx j) (ES.eraseIdx j) := by
  induction h generalizing j with
  | nil => simp; exact .nil
  | cons h1 h2 h3 hs ih =>
    cases j with
    | zero => simp only [List.eraseIdx_zero, List.tail_cons]; exact hs
    | succ j => simp only [List.eraseIdx_cons_succ]; exact .cons h1 h2 h3 (ih j)

include hE in
theorem mapUpdate_ok (hH : HRel E B0 μ H w) {t : Nat} {m M k K v V : Value} {H' : Heap} (hm : VRel μ m M) (hk : VRel μ k K) (hv : VRel μ v V) (h : mapUpdateA E H t m k v = some H') :
    ∃ w', (Instr.mapUpdate t M K V).run E.prog w = .ok () w' ∧ HRel E B0 μ H' w' ∧ Below B0 w w' := by
  unfold mapUpdateA at h
  split at h
  case h_2 => cases h
  rename_i kt e i hu
  cases hkd : simpleKey E kt with
  | none => rw [hkd] at h; cases h
  | some kd =>
    rw [hkd] at h
    simp only [Option.bind_some] at h
    obtain ⟨ku, kn, kc⟩ := simpleKey_ok hE hkd
    split at h
    case h_2 => cases h
    rename_i es ck hg
    cases hm with
    | @map _ L hm =>
    obtain ⟨ES, k2, k3, k4⟩ := hH.mapAt hm hg
    cases hf : Instr.findNow kd k es 0 with
    | none => rw [hf] at h; cases h
    | some r =>
      rw [hf] at h
      simp only [Option.map_some, Option.some.injEq] at h
      obtain ⟨R, r1, r2⟩ := findNow_rel kn hk k4 0 r hf
      rcases r2 with ⟨rfl, rfl⟩ | ⟨j, v', V', rfl, rfl, e3, e4, e5, E', e6, e7⟩
      · subst h
        have := hH.setMap (es' := es ++ [{ key := k, val := v, born := ck }]) (ck' := ck + 1) (ES' := ES.push { key := K, val := V, born := ck }) hm hg (by
          rw [Array.toList_push]
          exact k4.append (.cons hk hv rfl .nil))
        refine ⟨_, ?_, this⟩
        simp [Instr.mapUpdate, run_und hE hu, run_getObj k3, kc, run_findKey ku r1, run_setObj k3]
      · subst h
        have := hH.setMap (es' := es.modify j fun e => { e with key := k, val := v }) (ck' := ck) (ES' := ES.modify j fun e => { e with key := K, val := V }) hm hg (by
          rw [Array.toList_modify]
          exact k4.modify hk hv j)
        refine ⟨_, ?_, this⟩
        have hj : ES[j]? = some E' := by rw [← Array.getElem?_toList]; simpa using e6
        simp [Instr.mapUpdate, run_und hE hu, run_getObj k3, kc, run_findKey ku r1, run_setObj k3, Instr.keyThatStays, hj, e7]

include hE in
theorem delete_ok (hH : HRel E B0 μ H w) {t : Nat} {argTypes : Array TypeId} {ty : TypeId} {m M k K : Value} {H' : Heap} (ht : argTypes[0]? = some t) (hm : VRel μ m M) (hk : VRel μ k K) (h : deleteA E H t m k = some H') :
    ∃ w', (Builtin.delete_ argTypes ty #[M, K]).run E.prog w = .ok (.tuple #[]) w' ∧ HRel E B0 μ H' w' ∧ Below B0 w w' := by
  unfold deleteA at h
  split at h
  case h_2 => cases h
  rename_i kt e i hu
  cases hkd : simpleKey E kt with
  | none => rw [hkd] at h; cases h
  | some kd =>
    rw [hkd] at h
    simp only [Option.bind_some] at h
    obtain ⟨ku, kn, kc⟩ := simpleKey_ok hE hkd
    split at h
    case h_2 => cases h
    rename_i es ck hg
    cases hm with
    | @map _ L hm =>
    obtain ⟨ES, k2, k3, k4⟩ := hH.mapAt hm hg
    cases hf : Instr.findNow kd k es 0 with
    | none => rw [hf] at h; cases h
    | some r =>
      rw [hf] at h
      simp only [Option.map_some, Option.some.injEq] at h
      obtain ⟨R, r1, r2⟩ := findNow_rel kn hk k4 0 r hf
      rcases r2 with ⟨rfl, rfl⟩ | ⟨j, v', V', rfl, rfl, e3, e4, e5, E', e6, e7⟩
      · subst h
        have := hH.setMap (es' := es) (ck' := ck) (ES' := ES) hm hg k4
        refine ⟨_, ?_, this⟩
        simp [Builtin.delete_, ht, run_und hE hu, run_getObj k3, kc, run_findKey ku r1, run_setObj k3]
      · subst h
        have := hH.setMap (es' := es.eraseIdx j) (ck' := ck) (ES' := ES.eraseIdxIfInBounds j) hm hg (by
          rw [Array.toList_eraseIdxIfInBounds]
          exact k4.erase j)
        refine ⟨_, ?_, this⟩
        simp [Builtin.delete_, ht, run_und hE hu, run_getObj k3, kc, run_findKey ku r1, run_setObj k3]

/-! ### Numbers -/
theorem eqGuard_int (P : Program) (op : BinOp) (t : TypeId) (x y : Operand) (k : IntKind) (n : Int) (v : Value) (w : World) : (eqGuard op t x y (.int k n) v).run P w = .ok () w := by
  rw [eqGuard_at_int]; rfl

theorem intBin_ok {op : BinOp} {t : TypeId} {k : IntKind} {a b : Int} {v : Value} {P : Program} (hs : isShift op = false) (h : intBinA op k a b = some v) :
    (binOp op t (.int k a) (.int k b)).run P w = .ok v w ∧ VRel μ v v := by
  unfold intBinA at h
  split at h
  all_goals first
    | (cases h; done)
    | (injection h with h; subst h
       first
         | (refine ⟨?_, .int _ _⟩; simp only [binOp_and, binOp_or, binOp_xor, binOp_andNot]; rfl)
         | exact ⟨by simp [binOp, Op.intArith], .int _ _⟩
         | exact ⟨by simp [binOp, Op.intCmp], .bool _⟩)
    | (split at h
       · cases h
       · rename_i hb
         injection h with h; subst h
         exact ⟨by simp [binOp, Op.intDiv, hb], .int _ _⟩)

theorem shift_ok {op : BinOp} {t : TypeId} {k k' : IntKind} {a b : Int} {v : Value} {P : Program} (h : shiftA op k a b = some v) :
    (binOp op t (.int k a) (.int k' b)).run P w = .ok v w ∧ VRel μ v v := by
  unfold shiftA at h
  split at h
  · cases h
  · rename_i hb
    split at h
    · injection h with h; subst h; exact ⟨by simp [binOp, Op.shift, hb], .int _ _⟩
    · injection h with h; subst h; exact ⟨by simp [binOp, Op.shift, hb], .int _ _⟩
    · cases h

theorem HRel.own_frozen (hH : HRel E B0 μ H w) {a : Addr} (hmm : ∃ L, μ a.block = some L) (h : ownAt H a = true) : ∃ L C el, a = ⟨a.block, a.off, none⟩ ∧ μ a.block = some L ∧ w.heap[L.blk]? = some (.cells C el (0, 0)) ∧ (∃ o, H.get a.block = some o ∧ o.isOwn = true) := by
  unfold ownAt at h
  simp only [Bool.and_eq_true] at h
  obtain ⟨h1, h2⟩ := h
  split at h2
  · rename_i z c hg
    obtain ⟨L, C, el, k1, k2, k3, k4, _⟩ := hH.obj _ _ hg hmm
    refine ⟨L, C, el, ?_, k1, k4, _, hg, rfl⟩
    cases a with
    | mk b o s => cases s with
      | none => rfl
      | some s => simp at h1
  · cases h2

theorem run_sameAddr {g g' o o' : Nat} {C C' : Array Value} {el el' : TypeId} (P : Program) (h1 : w.heap[g]? = some (.cells C el (0, 0))) (h2 : w.heap[g']? = some (.cells C' el' (0, 0))) :
    (sameAddr ⟨g, o, none⟩ ⟨g', o', none⟩).run P w = .ok ((⟨g, o, none⟩ : Addr) == ⟨g', o', none⟩) w := by
  by_cases hb : g = g'
  · subst hb
    simp [sameAddr]
  · have hb' : (g == g') = false := by simpa using hb
    have hne : ((⟨g, o, none⟩ : Addr) == ⟨g', o', none⟩) = false := by simp [hb]
    have hs1 : w.shape? g = some (el, C.size) := by simp [World.shape?, h1]
    have hs2 : w.shape? g' = some (el', C'.size) := by simp [World.shape?, h2]
    have hf1 : ∀ o, w.frozen? ⟨g, o, none⟩ = false := fun o => by simp [World.frozen?, h1]
    have hf2 : ∀ o, w.frozen? ⟨g', o, none⟩ = false := fun o => by simp [World.frozen?, h2]
    simp [sameAddr, hb, noView, viewAt, hs1, hs2, hf1, hf2, mayBeOne, stringish]

theorem part_ok (hE : E.Ok) {t o : Nat} {cs CS : Array Value} {v : Value} (hc : VRels μ cs.toList CS.toList) (h : partA E t cs o = some v) : ∃ V, (part t CS o).run E.prog w = .ok V w ∧ VRel μ v V := by
  unfold partA at h
  split at h
  · rename_i ha
    cases hs : sizeA E t with
    | none => rw [hs] at h; cases h
    | some n =>
      rw [hs] at h
      simp only [Option.map_some, Option.some.injEq] at h
      subst h
      refine ⟨.agg (CS.extract o (o + n)), by simp [part, run_isAgg hE ha, run_size hE hs], .agg ?_⟩
      have hl := hc.length
      refine VRels.of_get (by simp at hl ⊢; omega) fun j v V hv hV => ?_
      rw [Array.getElem?_toList, Array.getElem?_extract] at hv hV
      split at hv
      · split at hV
        · rw [← Array.getElem?_toList] at hv hV
          obtain ⟨V', h1, h2⟩ := hc.get hv
          rw [hV] at h1; injection h1 with h1; subst h1; exact h2
        · cases hV
      · cases hv
  · rename_i ha
    rw [← Array.getElem?_toList] at h
    obtain ⟨V, h1, h2⟩ := hc.get h
    rw [Array.getElem?_toList] at h1
    exact ⟨V, by simp [part, run_isAgg hE ha, h1], h2⟩
  · cases h

theorem isNone_rel {a A : Option Addr} {l c l' c' : Nat} (h : VRel μ (.slice a l c) (.slice A l' c')) : a.isNone = A.isNone := by cases h <;> rfl

theorem eqFields_ok (hE : E.Ok) {eq : Nat → Value → Value → Option Bool} {D : Nat} {xs ys XS YS : Array Value} (hx : VRels μ xs.toList XS.toList) (hy : VRels μ ys.toList YS.toList)
    (heq : ∀ (t : Nat) (u U v V : Value) (b : Bool), VRel μ u U → VRel μ v V → eq t u v = some b → (Op.equalIn D t U V).run E.prog w = .ok b w) :
    ∀ (fs : List Field) (b : Bool), (∀ f ∈ fs, f.name ≠ "_") → eqFieldsA E eq xs ys fs = some b → (Op.eqFields D XS YS fs).run E.prog w = .ok b w
  | [], b, _, h => by
    simp only [eqFieldsA, Option.some.injEq] at h
    subst h
    simp [Op.eqFields]
  | f :: fs, b, hn, h => by
    simp only [eqFieldsA] at h
    cases h1 : partA E f.type xs f.offset with
    | none => rw [h1] at h; cases h
    | some u =>
      cases h2 : partA E f.type ys f.offset with
      | none => rw [h1, h2] at h; cases h
      | some v =>
        cases h3 : eq f.type u v with
        | none => rw [h1, h2] at h; simp only [Option.bind_some, h3] at h; cases h
        | some r =>
          rw [h1, h2] at h
          simp only [Option.bind_some, h3] at h
          obtain ⟨U, p1, p2⟩ := part_ok (w := w) hE hx h1
          obtain ⟨V, q1, q2⟩ := part_ok (w := w) hE hy h2
          have hr := heq _ _ _ _ _ _ p2 q2 h3
          have hnf : f.name ≠ "_" := hn f (by simp)
          rw [Op.eqFields, if_pos hnf]
          cases r with
          | false =>
            simp only [cond_false, Option.some.injEq] at h
            subst h
            simp [p1, q1, hr]
          | true =>
            simp only [cond_true] at h
            have ih := eqFields_ok hE hx hy heq fs b (fun f hf => hn f (by simp [hf])) h
            simp [p1, q1, hr, ih]

set_option maxHeartbeats 1600000 in
theorem eq_ok (hE : E.Ok) (hH : HRel E B0 μ H w) : ∀ (d D t : Nat) (x X y Y : Value) (b : Bool), d ≤ D → VRel μ x X → VRel μ y Y → eqA E H d t x y = some b → (Op.equalIn D t X Y).run E.prog w = .ok b w
  | 0, _, _, _, _, _, _, _, _, _, _, h => by simp [eqA] at h
  | d + 1, 0, _, _, _, _, _, _, hd, _, _, _ => by omega
  | d + 1, D + 1, t, x, X, y, Y, b, hd, hx, hy, h => by
    unfold eqA at h
    split at h
    · rename_i hu; cases hx; cases hy; injection h with h; subst h; simp [Op.equalIn, run_und hE hu]
    · rename_i hu; cases hx; cases hy
      split at h
      · rename_i e; injection h with h; subst h; subst e; simp [Op.equalIn, run_und hE hu]
      · cases h
    · rename_i hu; cases hx; injection h with h; subst h
      cases hy <;> simp [Op.equalIn, run_und hE hu]
    · rename_i hu; cases hy; injection h with h; subst h
      cases hx <;> first | (simp [Op.equalIn, run_und hE hu]; done) | (exfalso; simp_all; done)
    · rename_i e a b' hu
      cases hs : sizeA E e with
      | none => rw [hs] at h; cases h
      | some n =>
        rw [hs] at h
        simp only [Option.bind_some] at h
        split at h
        case isFalse => cases h
        rename_i hc
        injection h with h; subst h
        obtain ⟨hn, ha, hb⟩ := hc
        cases hx with
        | @ptr i o K hm =>
        cases hy with
        | @ptr i' o' K' hm' =>
        obtain ⟨L, C, el, a1, a2, a3, oa, a4, a5⟩ := hH.own_frozen ⟨_, hm⟩ ha
        obtain ⟨L', C', el', b1, b2, b3, ob, b4, b5⟩ := hH.own_frozen ⟨_, hm'⟩ hb
        simp only at a2 b2 a4 b4
        rw [hm] at a2; injection a2 with a2; subst a2
        rw [hm'] at b2; injection b2 with b2; subst b2
        have hsame := run_sameAddr (w := w) (o := K.off + o) (o' := K'.off + o') E.prog a3 b3
        simp only [Op.equalIn, Sem.run_bind, run_und hE hu, Result.andThen_ok, run_size hE hs, ne_eq, hn, not_false_eq_true, if_true, hsame, Sem.run_ite]
        congr 1
        by_cases e : i = i'
        · subst e
          rw [hm] at hm'; injection hm' with hm'; subst hm'
          rw [Bool.eq_iff_iff]
          simp
        · have hne : K.blk ≠ K'.blk := fun hbl => e (hH.apart i i' oa ob K K' a4 b4 a5 (held_of_own b5) hm hm' hbl)
          rw [Bool.eq_iff_iff]
          simp [e, hne]
    · rename_i hu; cases hx; injection h with h; subst h
      cases hy <;> simp [Op.equalIn, run_und hE hu]
    · rename_i hu; cases hy; injection h with h; subst h
      cases hx <;> first | (simp [Op.equalIn, run_und hE hu]; done) | (exfalso; simp_all; done)
    · rename_i hu; cases hx; injection h with h; subst h
      cases hy <;> simp [Op.equalIn, run_und hE hu]
    · rename_i hu; cases hy; injection h with h; subst h
      cases hx <;> first | (simp [Op.equalIn, run_und hE hu]; done) | (exfalso; simp_all; done)
    · rename_i hu; cases hx; cases hy; injection h with h; subst h; simp [Op.equalIn, run_und hE hu]
    · rename_i hu; cases hx; cases hy; injection h with h; subst h; simp [Op.equalIn, run_und hE hu]
    · rename_i hu; cases hx; cases hy; injection h with h; subst h; simp [Op.equalIn, run_und hE hu]
    · rename_i fields xs ys hu
      cases hq : E.eqOk t with
      | false => rw [hq] at h; cases h
      | true =>
        rw [hq] at h
        simp only [cond_true] at h
        have hst := (hE.eqOk _ hq).1
        cases hx with
        | @agg _ XS hx =>
        cases hy with
        | @agg _ YS hy =>
        have hu' := und_ok hE hu
        have hname := (hE.eqOk _ hq).2.2 fields hu'
        have hf : E.prog.fieldsOf t = fields := by simp [Program.fieldsOf, hu']
        rw [run_equalIn_struct w D t XS YS (by rw [hf]; exact hu') hst, hf]
        exact eqFields_ok hE hx hy (fun t u U v V b hu hv hh => eq_ok hE hH d D t u U v V b (by omega) hu hv hh) fields.toList b hname h
    · cases h

theorem run_eqGuard_simple {op : BinOp} {t : TypeId} {x y : Operand} {X Y : Value} (h1 : X ≠ .nilIface) (h2 : ∀ cs, X ≠ .agg cs) : (eqGuard op t x y X Y).run E.prog w = .ok () w := by
  cases X <;> first
    | exact absurd rfl h1
    | exact absurd rfl (h2 _)
    | (cases op <;> rfl)

theorem eqls_ok (hE : E.Ok) (hH : HRel E B0 μ H w) {t : TypeId} {x X y Y : Value} {b : Bool} (hx : VRel μ x X) (hy : VRel μ y Y) (h : eqA E H 4 t x y = some b) : (Op.equal t X Y).run E.prog w = .ok b w :=
  eq_ok hE hH 4 10000 t x X y Y b (by omega) hx hy h

include hE in
theorem bin_ok (hH : HRel E B0 μ H w) {op : BinOp} {t : TypeId} {xo yo : Operand} {x X y Y v : Value} (hx : VRel μ x X) (hy : VRel μ y Y) (h : binA E H op t x y = some v) :
    (do eqGuard op t xo yo X Y; binOp op t X Y : Sem Value).run E.prog w = .ok v w ∧ VRel μ v v := by
  unfold binA at h
  split at h
  · rename_i k a k' b
    cases hx; cases hy
    simp only [Sem.run_bind, eqGuard_int, Result.andThen_ok]
    cases hs : isShift op with
    | true =>
      rw [hs] at h
      exact shift_ok h
    | false =>
      rw [hs] at h
      simp only [cond_false] at h
      split at h
      · rename_i e; subst e; exact intBin_ok hs h
      · cases h
  · rename_i xs ys
    cases hx with
    | @agg _ XS hx =>
    cases hy with
    | @agg _ YS hy =>
    split at h
    · cases hq : E.eqOk t with
      | false => rw [hq] at h; cases h
      | true =>
        rw [hq] at h
        simp only [cond_true] at h
        cases hr : eqA E H 4 t (.agg xs) (.agg ys) with
        | none => rw [hr] at h; cases h
        | some b =>
          rw [hr] at h
          simp only [Option.map_some, Option.some.injEq] at h
          subst h
          have := eqls_ok hE hH (.agg hx) (.agg hy) hr
          refine ⟨?_, .bool _⟩
          have hg := run_eqGuard_agg (P := E.prog) w .eql t xo yo XS YS (hE.eqOk _ hq).2.1
          simp [hg, binOp, this]
    · cases hq : E.eqOk t with
      | false => rw [hq] at h; cases h
      | true =>
        rw [hq] at h
        simp only [cond_true] at h
        cases hr : eqA E H 4 t (.agg xs) (.agg ys) with
        | none => rw [hr] at h; cases h
        | some b =>
          rw [hr] at h
          simp only [Option.map_some, Option.some.injEq] at h
          subst h
          have := eqls_ok hE hH (.agg hx) (.agg hy) hr
          refine ⟨?_, .bool _⟩
          have hg := run_eqGuard_agg (P := E.prog) w .neq t xo yo XS YS (hE.eqOk _ hq).2.1
          simp [hg, binOp, this]
    · cases h
  · rename_i hnint hnagg
    cases hk : eqKind x with
    | false => rw [hk] at h; cases h
    | true =>
      rw [hk] at h
      simp only [cond_true] at h
      have hkX : eqKind X = true := by cases hx <;> first | rfl | (simp [eqKind] at hk; done)
      have hg : (eqGuard op t xo yo X Y).run E.prog w = .ok () w := run_eqGuard_simple (by rintro rfl; simp [eqKind] at hkX) (by rintro cs rfl; simp [eqKind] at hkX)
      have he : binOp .eql t X Y = (do pure (.bool (← Op.equal t X Y))) := by cases X <;> first | rfl | (simp [eqKind] at hkX; done)
      have hn : binOp .neq t X Y = (do pure (.bool (!(← Op.equal t X Y)))) := by cases X <;> first | rfl | (simp [eqKind] at hkX; done)
      split at h
      all_goals first
        | (cases h; done)
        | (cases hr : eqA E H 4 t x y with
           | none => rw [hr] at h; cases h
           | some b =>
             rw [hr] at h
             simp only [Option.map_some, Option.some.injEq] at h
             subst h
             have := eqls_ok hE hH hx hy hr
             refine ⟨?_, .bool _⟩
             simp [hg, he, hn, this])

theorem un_ok {op : UnOp} {x X v : Value} {P : Program} (hx : VRel μ x X) (h : unA op x = some v) : (Op.unary op X).run P w = .ok v w ∧ VRel μ v v := by
  unfold unA at h
  split at h
  · cases hx; injection h with h; subst h; exact ⟨by simp [Op.unary, Op.intArith], .int _ _⟩
  · cases hx; injection h with h; subst h; exact ⟨rfl, .int _ _⟩
  · cases hx; injection h with h; subst h; exact ⟨rfl, .bool _⟩
  · cases h

theorem foldA_ok {f : Value → Value → Option Value} {g : Value → Value → Sem Value} {P : Program} (hfg : ∀ (x X y Y v : Value), VRel μ x X → VRel μ y Y → f x y = some v → ∃ V, (g X Y).run P w = .ok V w ∧ VRel μ v V) :
    ∀ (l L : List Value) (x X v : Value), VRels μ l L → VRel μ x X → foldA f x l = some v → ∃ V, (L.foldlM g X).run P w = .ok V w ∧ VRel μ v V
  | _, _, x, X, v, .nil, hx, h => by
    simp only [foldA, Option.some.injEq] at h
    subst h
    exact ⟨X, by simp, hx⟩
  | _, _, x, X, v, .cons hy hs, hx, h => by
    simp only [foldA] at h
    cases hr : f x _ with
    | none => rw [hr] at h; cases h
    | some z =>
      rw [hr] at h
      obtain ⟨Z, z1, z2⟩ := hfg _ _ _ _ _ hx hy hr
      obtain ⟨V, v1, v2⟩ := foldA_ok hfg _ _ z Z v hs z2 h
      exact ⟨V, by simp [z1, v1], v2⟩

theorem max_ok {args ARGS : List Value} {v : Value} {ts : Array TypeId} {ty : TypeId} {P : Program} (ha : VRels μ args ARGS) (h : maxA args = some v) : ∃ V, (Builtin.max_ ts ty ARGS.toArray).run P w = .ok V w ∧ VRel μ v V := by
  cases ha with
  | nil => cases h
  | cons hx hs =>
    exact foldA_ok (fun x X y Y v hx hy h => by
      unfold max2A at h
      split at h
      · cases hx; cases hy
        split at h
        · injection h with h; subst h; exact ⟨_, rfl, .int _ _⟩
        · cases h
      · cases h) _ _ _ _ v hs hx h

theorem min_ok {args ARGS : List Value} {v : Value} {ts : Array TypeId} {ty : TypeId} {P : Program} (ha : VRels μ args ARGS) (h : minA args = some v) : ∃ V, (Builtin.min_ ts ty ARGS.toArray).run P w = .ok V w ∧ VRel μ v V := by
  cases ha with
  | nil => cases h
  | cons hx hs =>
    exact foldA_ok (fun x X y Y v hx hy h => by
      unfold min2A at h
      split at h
      · cases hx; cases hy
        split at h
        · injection h with h; subst h; exact ⟨_, rfl, .int _ _⟩
        · cases h
      · cases h) _ _ _ _ v hs hx h

include hE in
theorem len_ok (hH : HRel E B0 μ H w) {t : Nat} {argTypes : Array TypeId} {ty : TypeId} {args : Array Value} {x X v : Value} (ht : argTypes[0]? = some t) (ha : args[0]? = some X) (hx : VRel μ x X) (h : lenA E H t x = some v) :
    (Builtin.len_ argTypes ty args).run E.prog w = .ok v w ∧ VRel μ v v := by
  unfold lenA at h
  split at h
  · rename_i hu
    cases hx <;> (injection h with h; subst h; exact ⟨by simp [Builtin.len_, ht, ha, run_und hE hu], .int _ _⟩)
  · rename_i hu
    cases hx; injection h with h; subst h; exact ⟨by simp [Builtin.len_, ht, ha, run_und hE hu], .int _ _⟩
  · rename_i hu
    injection h with h; subst h; exact ⟨by simp [Builtin.len_, ht, ha, run_und hE hu], .int _ _⟩
  · rename_i hu
    cases hx; injection h with h; subst h; exact ⟨by simp [Builtin.len_, ht, ha, run_und hE hu], .int _ _⟩
  · rename_i i hu
    split at h
    · rename_i es ck hg
      injection h with h; subst h
      cases hx with
      | @map _ L hm =>
      obtain ⟨ES, k2, k3, k4⟩ := hH.mapAt hm hg
      have hl := k4.length
      simp only [Array.length_toList] at hl
      exact ⟨by simp [Builtin.len_, ht, ha, run_und hE hu, run_getObj k3, hl], .int _ _⟩
    · cases h
  · cases h

include hE in
theorem clear_ok (hH : HRel E B0 μ H w) {t : Nat} {argTypes : Array TypeId} {ty : TypeId} {x X : Value} {H' : Heap} (ht : argTypes[0]? = some t) (hx : VRel μ x X) (h : clearA E H t x = some H') :
    ∃ w', (Builtin.clear_ argTypes ty #[X]).run E.prog w = .ok (.tuple #[]) w' ∧ HRel E B0 μ H' w' ∧ Below B0 w w' := by
  unfold clearA at h
  split at h
  · rename_i i hu
    split at h
    · rename_i es ck hg
      injection h with h; subst h
      cases hx with
      | @map _ L hm =>
      obtain ⟨ES, k2, k3, k4⟩ := hH.mapAt hm hg
      have := hH.setMap (es' := []) (ck' := ck) (ES' := #[]) hm hg .nil
      refine ⟨_, ?_, this⟩
      simp [Builtin.clear_, ht, run_und hE hu, run_getObj k3, run_setObj k3]
    · cases h
  · rename_i hu
    injection h with h; subst h
    refine ⟨w, ?_, hH, Below.refl _ _⟩
    cases hx <;> simp [Builtin.clear_, ht, run_und hE hu]
  · rename_i hu
    cases hz : zeroCellsA E _ with
    | none => rw [hz] at h; cases h
    | some z =>
      rw [hz] at h
      simp only [Option.bind_some] at h
      obtain ⟨zv, i, h1, h2, h3, h4, h5, h6, h7⟩ := zeroCells_of hz
      split at h
      case isFalse => cases h
      rename_i hz1
      rename_i n c _ hn0
      cases hx with
      | @slice _ _ _ _ cap L hm hle hr =>
        obtain ⟨w', e1, e2, e3⟩ := hH.storeCells hm h (reps_rels (zeroCells_rel hz) _) (reps_all h7 _) E.prog
        refine ⟨w', ?_, e2, e3⟩
        have hz0 := (run_zero hE h1 w).1
        have hmade : ∀ n, Builtin.zeroCells ⟨z⟩ n = ⟨reps n z⟩ := fun n => reps_made z hz1 n
        cases c with
        | zero => exact (by simp at hn0 : False).elim
        | succ n => simp [Builtin.clear_, ht, run_und hE hu, hz0, cellsOf_cells h2, hmade, e1]
      | sliceEnd hm ho => exact (by simp at hn0 : False).elim
  · cases h

theorem mapUpdateA_next {t : Nat} {m k v : Value} {H' : Heap} (h : mapUpdateA E H t m k v = some H') : H'.next = H.next := by
  unfold mapUpdateA at h
  split at h
  · obtain ⟨kd, _, h⟩ := Option.bind_eq_some_iff.1 h
    split at h
    · obtain ⟨r, _, h⟩ := Option.map_eq_some_iff.1 h
      subst h
      split <;> rfl
    · cases h
  · cases h

theorem deleteA_next {t : Nat} {m k : Value} {H' : Heap} (h : deleteA E H t m k = some H') : H'.next = H.next := by
  unfold deleteA at h
  split at h
  · obtain ⟨kd, _, h⟩ := Option.bind_eq_some_iff.1 h
    split at h
    · obtain ⟨r, _, h⟩ := Option.map_eq_some_iff.1 h
      subst h
      split <;> rfl
    · cases h
  · cases h

theorem clearA_next {t : Nat} {x : Value} {H' : Heap} (h : clearA E H t x = some H') : H'.next = H.next := by
  unfold clearA at h
  split at h
  · split at h
    · injection h with h; subst h; rfl
    · cases h
  · injection h with h; subst h; rfl
  · obtain ⟨z, _, h⟩ := Option.bind_eq_some_iff.1 h
    split at h
    · exact storeCellsA_next h
    · cases h
  · cases h

theorem storeV_next {t : Nat} {a v : Value} {H' : Heap} (h : storeV E H t a v = some H') : H'.next = H.next := by
  unfold storeV at h
  split at h
  · obtain ⟨vs, _, h⟩ := Option.bind_eq_some_iff.1 h
    obtain ⟨n, _, h⟩ := Option.bind_eq_some_iff.1 h
    split at h
    · exact storeCellsA_next h
    · cases h
  · cases h

/-! ### All together -/
/-- What an operation's answer is worth. -/
def OpOK (E : Env) (B0 : Nat) (μ : Inj) (H : Heap) (w : World) (s : Sem Next) : Res → Prop
  | .val v H' => ∃ N V w' μ', s.run E.prog w = .ok N w' ∧ (N = .value V ∨ (N = .skip ∧ V = undef)) ∧ Grow H μ H' μ' ∧ VRel μ' v V ∧ HRel E B0 μ' H' w' ∧ Below B0 w w'
  | .call f args => ∃ ARGS, s.run E.prog w = .ok (.enter f ARGS) w ∧ VRels μ args ARGS.toList

theorem OpOK.of_makes {s : Sem Value} {v : Value} {H' : Heap} (h : Makes E B0 μ H w s v H') : OpOK E B0 μ H w (do pure (.value (← s))) (.val v H') := by
  obtain ⟨V, w', μ', h1, h2⟩ := h
  exact ⟨.value V, V, w', μ', by simp [h1], .inl rfl, h2⟩

theorem OpOK.of_value (hH : HRel E B0 μ H w) {s : Sem Value} {v : Value} (h : ∃ V, s.run E.prog w = .ok V w ∧ VRel μ v V) : OpOK E B0 μ H w (do pure (.value (← s))) (.val v H) := by
  obtain ⟨V, h1, h2⟩ := h
  exact ⟨.value V, V, w, μ, by simp [h1], .inl rfl, Grow.refl _ _, h2, hH, Below.refl _ _⟩

theorem OpOK.of_unit {s : Sem Unit} {H' : Heap} (hn : H'.next = H.next) (h : ∃ w', s.run E.prog w = .ok () w' ∧ HRel E B0 μ H' w' ∧ Below B0 w w') : OpOK E B0 μ H w (do s; pure .skip) (.val undef H') := by
  obtain ⟨w', h1, h2, h3⟩ := h
  exact ⟨.skip, undef, w', μ, by simp [h1], .inr ⟨rfl, rfl⟩, Grow.same _ hn, .tuple .nil, h2, h3⟩

theorem OpOK.of_undef {s : Sem Value} {H' : Heap} (hn : H'.next = H.next) (h : ∃ w', s.run E.prog w = .ok (.tuple #[]) w' ∧ HRel E B0 μ H' w' ∧ Below B0 w w') : OpOK E B0 μ H w (do pure (.value (← s))) (.val undef H') := by
  obtain ⟨w', h1, h2, h3⟩ := h
  exact ⟨.value undef, undef, w', μ, by simp [h1, undef], .inl rfl, Grow.same _ hn, .tuple .nil, h2, h3⟩

theorem OpOK.pure_value (hH : HRel E B0 μ H w) {v V : Value} (h : VRel μ v V) : OpOK E B0 μ H w (pure (.value V)) (.val v H) :=
  ⟨.value V, V, w, μ, rfl, .inl rfl, Grow.refl _ _, h, hH, Below.refl _ _⟩

theorem rv_some {o : Option Value} {r : Res} (h : rv H o = some r) : ∃ v, o = some v ∧ r = .val v H := by
  unfold rv at h
  cases o with
  | none => cases h
  | some v => injection h with h; exact ⟨v, rfl, h.symm⟩
theorem rh_some {o : Option Heap} {r : Res} (h : rh o = some r) : ∃ H', o = some H' ∧ r = .val undef H' := by
  unfold rh at h
  cases o with
  | none => cases h
  | some v => injection h with h; exact ⟨v, rfl, h.symm⟩
theorem rvh_some {o : Option (Value × Heap)} {r : Res} (h : rvh o = some r) : ∃ v H', o = some (v, H') ∧ r = .val v H' := by
  unfold rvh at h
  cases o with
  | none => cases h
  | some v => injection h with h; exact ⟨v.1, v.2, rfl, h.symm⟩

include hE in
theorem bltn_ok (hH : HRel E B0 μ H w) {b : Builtin} {argTypes : Array TypeId} {ty : TypeId} {cs : Array Bool} {args ARGS : List Value} {r : Res} (ha : VRels μ args ARGS) (h : builtinA E H b argTypes args = some r) :
    OpOK E B0 μ H w (builtin b argTypes ty cs ARGS.toArray) r := by
  unfold builtinA at h
  split at h
  · obtain ⟨v, H', h1, rfl⟩ := rvh_some h
    exact OpOK.of_makes (append_ok hE hH ha h1)
  · obtain ⟨v, H', h1, rfl⟩ := rvh_some h
    exact OpOK.of_makes (copy_ok hE hH ha h1)
  · split at h
    · rename_i t ts x xs hat
      obtain ⟨v, h1, rfl⟩ := rv_some h
      obtain ⟨at_⟩ := argTypes
      simp only at hat
      subst hat
      cases ha with
      | cons hx hs =>
        rename_i X L
        have := len_ok hE hH (argTypes := ⟨t :: ts⟩) (ty := ty) (args := (X :: L).toArray) (by rfl) (by rfl) hx h1
        exact OpOK.of_value hH ⟨v, this.1, this.2⟩
    · cases h
  · split at h
    · rename_i t ts m k hat
      obtain ⟨H', h1, rfl⟩ := rh_some h
      obtain ⟨at_⟩ := argTypes
      simp only at hat
      subst hat
      cases ha with
      | cons hm hs =>
      cases hs with
      | cons hk hs =>
      cases hs
      exact OpOK.of_undef (deleteA_next h1) (delete_ok hE hH (argTypes := ⟨t :: ts⟩) (by rfl) hm hk h1)
    · cases h
  · split at h
    · rename_i t ts x hat
      obtain ⟨H', h1, rfl⟩ := rh_some h
      obtain ⟨at_⟩ := argTypes
      simp only at hat
      subst hat
      cases ha with
      | cons hx hs =>
      cases hs
      exact OpOK.of_undef (clearA_next h1) (clear_ok hE hH (argTypes := ⟨t :: ts⟩) (by rfl) hx h1)
    · cases h
  · obtain ⟨v, h1, rfl⟩ := rv_some h
    exact OpOK.of_value hH (max_ok ha h1)
  · obtain ⟨v, h1, rfl⟩ := rv_some h
    exact OpOK.of_value hH (min_ok ha h1)
  · cases h

theorem clone_ok (hH : HRel E B0 μ H w) {args ARGS : List Value} {r : Res} (ha : VRels μ args ARGS) (h : cloneA H args = some r) :
    OpOK E B0 μ H w (do pure (.value (← Extern.MapsClone.clone ARGS.toArray))) r := by
  unfold cloneA at h
  split at h
  case h_2 => cases h
  rename_i t i
  split at h
  case h_2 => cases h
  rename_i es ck hg
  injection h with h; subst h
  cases ha with
  | cons hx hs =>
  cases hs
  cases hx with
  | iface hx =>
  cases hx with
  | @map _ L hm =>
  obtain ⟨ES, k2, k3, k4⟩ := hH.mapAt hm hg
  obtain ⟨q1, q2, q3⟩ := hH.newMap es ES ck k4
  obtain ⟨g, hg1, hg2⟩ : ∃ g : Go.Obj → Sem Value, Extern.MapsClone.clone #[.iface t (.map (some L.blk))] = (getObj L.blk >>= g) ∧
      g (.map ES ck) = (do pure (.iface t (.map (some (← newObj (.map ES ck)))))) := ⟨_, rfl, rfl⟩
  refine OpOK.of_makes ⟨.iface t (.map (some w.heap.size)), _, _, ?_, q1, .iface (.map (L := ⟨w.heap.size, 0, 0, 0⟩) (Inj.add_self _ _ _)), q2, q3⟩
  rw [show (List.toArray [Value.iface t (.map (some L.blk))]) = #[.iface t (.map (some L.blk))] from rfl, hg1]
  simp [run_getObj k3, hg2]

include hE in
theorem call_ok (hH : HRel E B0 μ H w) {f F : Value} {args ARGS : List Value} {r : Res} (hf : VRel μ f F) (ha : VRels μ args ARGS) (h : callA E H f args = some r) :
    OpOK E B0 μ H w (do let d ← Deferred.ofValue F ARGS.toArray; invoke d.target d.args) r := by
  unfold callA at h
  split at h
  case h_2 => cases h
  rename_i id first captured
  cases hf with
  | @func _ _ FSz _ CS h1 h2 =>
  have hall : VRels μ (first.toList ++ args ++ captured.toList) (FSz ++ ARGS.toArray ++ CS).toList := by
    simp only [Array.toList_append]
    exact (h1.append ha).append h2
  split at h
  · rename_i fn hfn
    injection h with h; subst h
    obtain ⟨g1, g2, g3⟩ := hE.fn _ _ hfn
    have g2' : ¬ fn.body = none := by cases hb : fn.body <;> simp_all
    have g3' : ¬ fn.name = "runtime.NumGoroutine" := by simpa using g3
    refine ⟨FSz ++ ARGS.toArray ++ CS, ?_, hall⟩
    simp [Deferred.ofValue, invoke, callFunc, g1, g2', g3']
  · cases hc : E.clone id with
    | false => rw [hc] at h; cases h
    | true =>
      rw [hc] at h
      obtain ⟨fn, g1, g2, g3, g4, g5⟩ := hE.clone _ hc
      have := clone_ok hH hall h
      have g3' : ¬ fn.name = "runtime.NumGoroutine" := by simpa using g3
      have e : (do let d ← Deferred.ofValue (.func (.func id) FSz CS) ARGS.toArray; invoke d.target d.args : Sem Next).run E.prog w = (do pure (.value (← Extern.MapsClone.clone (FSz ++ ARGS.toArray ++ CS))) : Sem Next).run E.prog w := by
        simp [Deferred.ofValue, invoke, callFunc, g1, g2, g3', g4, g5]
      cases r with
      | val v H' =>
        obtain ⟨N, V, w', μ', q1, q2⟩ := this
        exact ⟨N, V, w', μ', by rw [e]; exact q1, q2⟩
      | call f' args' =>
        obtain ⟨A, q1, q2⟩ := this
        exact ⟨A, by rw [e]; exact q1, q2⟩
end
end Go.AS
