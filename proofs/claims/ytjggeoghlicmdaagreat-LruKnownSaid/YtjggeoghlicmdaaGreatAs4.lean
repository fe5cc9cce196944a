/-
  The plain machine's operations are the model's: slices, append, copy.
-/
import Derived.Test.YtjggeoghlicmdaaGreatAs3
namespace Go.AS
open Go.RowKit
set_option linter.unusedVariables false

section
variable {E : Env} (hE : E.Ok) {B0 : Nat} {μ : Inj} {H : Heap} {w : World}

theorem bound_opt {lo d hi r : Nat} {x : Option Value} (h : boundA lo d hi x = some r) : lo ≤ r ∧ r ≤ hi ∧ ((x = none ∧ r = d) ∨ ∃ k n, x = some (.int k n) ∧ r = n.toNat ∧ (0 ≤ n) ∧ n ≤ hi) := by
  unfold boundA at h
  split at h
  · split at h
    · injection h with h; subst h; rename_i hh; exact ⟨hh.1, hh.2, .inl ⟨rfl, rfl⟩⟩
    · cases h
  · split at h
    · injection h with h; subst h; rename_i hh; exact ⟨by omega, by omega, .inr ⟨_, _, rfl, rfl, by omega, hh.2⟩⟩
    · cases h
  · cases h

theorem opt_rel {x : Option Operand} {e e' : Operand → Value} (he : ∀ x, VRel μ (e x) (e' x)) {k : IntKind} {n : Int} (h : x.map e = some (.int k n)) : x.map e' = some (.int k n) := by
  cases x with
  | none => cases h
  | some x =>
    simp only [Option.map_some, Option.some.injEq] at h ⊢
    have := he x
    rw [h] at this
    generalize e' x = y at this
    cases this
    rfl

theorem opt_none {x : Option Operand} {e e' : Operand → Value} (h : x.map e = none) : x.map e' = none := by
  cases x with
  | none => rfl
  | some x => cases h

theorem run_bound (P : Program) (k : IntKind) (n : Int) (y : Nat) (code : BoundsCode) (h0 : 0 ≤ n) (h1 : n ≤ y) : (Instr.sliceBound (.int k n) y code).run P w = .ok n.toNat w := by
  simp [Instr.sliceBound, asIntOf, h0, h1]

/-- The bounds of a slice expression. -/
theorem run_bounds {len cap l h : Nat} {lo hi : Option Operand} {e e' : Operand → Value} (he : ∀ x, VRel μ (e x) (e' x)) (hc : len ≤ cap)
    (h1 : boundA 0 len len (hi.map e) = some h) (h2 : boundA 0 0 h (lo.map e) = some l) (b : Bool) (P : Program) :
    (Instr.sliceBounds b len cap (lo.map e') (hi.map e') none).run P w = .ok (l, h, cap) w := by
  obtain ⟨_, a2, a3⟩ := bound_opt h1
  obtain ⟨_, b2, b3⟩ := bound_opt h2
  rcases a3 with ⟨a3, rfl⟩ | ⟨k, n, a3, rfl, a4, a5⟩
  · rw [opt_none (e' := e') a3]
    rcases b3 with ⟨b3, rfl⟩ | ⟨k', n', b3, rfl, b4, b5⟩
    · rw [opt_none (e' := e') b3]
      simp [Instr.sliceBounds]
    · rw [opt_rel he b3]
      simp [Instr.sliceBounds, run_bound P k' n' _ _ b4 b5]
  · rw [opt_rel he a3]
    have hn := fun c => run_bound (w := w) P k n cap c a4 (by omega)
    rcases b3 with ⟨b3, rfl⟩ | ⟨k', n', b3, rfl, b4, b5⟩
    · rw [opt_none (e' := e') b3]
      simp [Instr.sliceBounds, hn]
    · rw [opt_rel he b3]
      simp [Instr.sliceBounds, hn, run_bound P k' n' _ _ b4 b5]

theorem HRel.esz (hH : HRel E B0 μ H w) {i : Nat} {L : Loc} {b : Bool} {z : Nat} {c : List Value} (hm : μ i = some L) (hg : H.get i = some (.cells b z c)) : L.esz = z := by
  have ho := hH.obj i _ hg ⟨_, hm⟩
  cases b with
  | true =>
    obtain ⟨L', C, el, k1, k2, k3, _⟩ := ho
    rw [hm] at k1; injection k1 with k1; subst k1
    exact k3
  | false =>
    obtain ⟨L', k1, k3, _⟩ := ho
    rw [hm] at k1; injection k1 with k1; subst k1
    exact k3

include hE in
theorem slice_ok (hH : HRel E B0 μ H w) {t : Nat} {x X v : Value} {lo hi mx : Option Operand} {e e' : Operand → Value} (he : ∀ x, VRel μ (e x) (e' x)) (hx : VRel μ x X)
    (h : sliceA E H t x (lo.map e) (hi.map e) (mx.map e) = some v) :
    ∃ V, (Instr.sliceAt t X (lo.map e') (hi.map e') (mx.map e')).run E.prog w = .ok V w ∧ VRel μ v V := by
  unfold sliceA at h
  cases mx with
  | some m => simp only [Option.map_some] at h; cases h
  | none =>
    simp only [Option.map_none] at h
    split at h
    · rename_i el a len c hu
      cases hs : sizeA E el with
      | none => rw [hs] at h; cases h
      | some n =>
        rw [hs] at h
        simp only [Option.bind_some] at h
        cases h1 : boundA 0 len len (hi.map e) with
        | none => rw [h1] at h; cases h
        | some hh =>
          rw [h1] at h
          simp only [Option.bind_some] at h
          cases h2 : boundA 0 0 hh (lo.map e) with
          | none => rw [h2] at h; cases h
          | some l =>
            rw [h2] at h
            simp only [Option.bind_some] at h
            have b1 := (bound_opt h1).2.1
            have b2 := (bound_opt h2).2.1
            cases hx with
            | sliceNil =>
              simp only [Option.some.injEq] at h
              subst h
              obtain rfl : hh = 0 := by omega
              obtain rfl : l = 0 := by omega
              refine ⟨.slice none 0 0, ?_, .sliceNil⟩
              have hb := run_bounds (w := w) he (Nat.le_refl 0) h1 h2 true E.prog
              simp [Instr.sliceAt, Instr.slice, run_und hE hu, hb, run_size hE hs]
            | @slice i o _ _ cap L hm hl hr =>
              simp only at h
              split at h
              case h_2 => cases h
              rename_i b z c hg
              split at h
              case isFalse => cases h
              rename_i hz
              injection h with h; subst h
              have hez := hH.esz hm hg
              have hb := run_bounds (w := w) he hl h1 h2 true E.prog
              by_cases hcl : cap = l
              · refine ⟨.slice (some ⟨L.blk, L.off + o, none⟩) (hh - l) (cap - l), ?_, ?_⟩
                · subst hcl
                  simp [Instr.sliceAt, Instr.slice, run_und hE hu, hb, run_size hE hs]
                · have e1 : hh - l = 0 := by omega
                  have e2 : cap - l = 0 := by omega
                  rw [e1, e2]
                  refine .sliceEnd hm ?_
                  rcases hr with hr | hr
                  · exact .inl hr
                  · rcases hz with hz | hz
                    · exact .inl (by rw [hez, hz])
                    · right; exact ⟨by rw [← hr, hez, hz, hcl], rfl⟩
              · refine ⟨.slice (some ⟨L.blk, L.off + (o + l * n), none⟩) (hh - l) (cap - l), ?_, ?_⟩
                · simp [Instr.sliceAt, Instr.slice, run_und hE hu, hb, run_size hE hs, hcl, addr_add, Nat.add_assoc]
                · refine .slice hm (by omega) ?_
                  rcases hr with hr | hr
                  · exact .inl hr
                  · rcases hz with hz | hz
                    · exact .inl (by rw [hez, hz])
                    · right
                      rw [← hr, hez, hz, Nat.add_assoc, ← Nat.add_mul]
                      congr 2; omega
            | @sliceEnd i o _ cap A L hm ho =>
              obtain rfl : hh = 0 := by omega
              obtain rfl : l = 0 := by omega
              simp only at h
              split at h
              case h_2 => cases h
              rename_i b z c hg
              split at h
              case isFalse => cases h
              injection h with h; subst h
              have hb := run_bounds (w := w) he (Nat.zero_le cap) h1 h2 true E.prog
              refine ⟨.slice (some A) 0 cap, ?_, ?_⟩
              · simp [Instr.sliceAt, Instr.slice, run_und hE hu, hb, run_size hE hs, Addr.add_zero']
              · simp only [Nat.zero_mul, Nat.add_zero, Nat.sub_self]
                exact .sliceEnd hm ho
    · rename_i n el i o hu
      split at h
      case h_2 => cases h
      rename_i z c hlo hhi hg
      cases hs : sizeA E el with
      | none => rw [hs] at h; cases h
      | some n' =>
        rw [hs] at h
        simp only [Option.bind_some, Option.some.injEq] at h
        subst h
        cases hx with
        | @ptr _ _ L hm =>
        rw [opt_none (e' := e') hlo, opt_none (e' := e') hhi]
        refine ⟨.slice (some ⟨L.blk, L.off + o, none⟩) n n, ?_, .slice hm (Nat.le_refl _) (.inl (hH.esz hm hg))⟩
        simp [Instr.sliceAt, run_und hE hu, Instr.sureAddr, Instr.sliceBounds, run_size hE hs, addr_add]
    · cases h

/-- What is copied. -/
theorem firstCells_ok (hH : HRel E B0 μ H w) {es n : Nat} {x X : Value} {new : List Value} (hx : VRel μ x X) (hn : lenOfA x = some n) {m : Nat} (hmn : m ≤ n) (h : firstCellsA H es m x = some new) :
    ∃ NEW : List Value, VRels μ new NEW ∧ new.all one = true ∧ NEW.length = m * es ∧
      ((X = .slice none 0 0 ∧ NEW = [] ∧ n = 0) ∨ ∃ a c, X = .slice (some a) n c ∧ ∀ j v, NEW[j]? = some v → w.cell? (a.add j) = some v) := by
  unfold firstCellsA at h
  split at h
  · rename_i i o len c
    simp only [lenOfA, Option.some.injEq] at hn
    subst hn
    split at h
    · rename_i hz0
      injection h with h; subst h
      refine ⟨[], .nil, rfl, hz0.symm, ?_⟩
      right
      cases hx with
      | slice hm hl hr => exact ⟨_, _, rfl, fun j v hj => by simp at hj⟩
      | sliceEnd hm ho => exact ⟨_, _, rfl, fun j v hj => by simp at hj⟩
    rename_i hz0
    split at h
    case h_2 => cases h
    rename_i b z c hg
    cases hx with
    | @slice _ _ _ _ cap L hm hl hr =>
      obtain ⟨C, el, fr, hw, hc, h1⟩ := hH.cellsAt hm hg (takeAt_ne h hz0)
      obtain ⟨CS, e1, e2, e3⟩ := takeAt_rel hc h
      refine ⟨CS, e2, ?_, e1, .inr ⟨_, _, rfl, fun j v hj => ?_⟩⟩
      · unfold takeAt at h
        split at h
        case isFalse => cases h
        injection h with h; subst h
        rw [List.all_eq_true] at h1 ⊢
        exact fun x hx => h1 x (List.mem_of_mem_drop (List.mem_of_mem_take hx))
      · rw [addr_add, cell_at hw]
        exact e3 j v hj
    | sliceEnd hm ho =>
      obtain rfl : m = 0 := by omega
      simp at hz0
  · split at h
    case isFalse => cases h
    rename_i hm0
    injection h with h; subst h
    simp only [lenOfA, Option.some.injEq] at hn
    subst hm0
    cases hx with
    | sliceNil => exact ⟨[], .nil, rfl, by simp, .inl ⟨rfl, rfl, hn.symm⟩⟩
  · cases h

theorem run_first {es n m : Nat} {X : Value} {NEW : List Value} (h1 : NEW.length = m * es)
    (h : (X = .slice none 0 0 ∧ NEW = [] ∧ n = 0) ∨ ∃ a c, X = .slice (some a) n c ∧ ∀ j v, NEW[j]? = some v → w.cell? (a.add j) = some v) (P : Program) :
    (Builtin.firstCells es m X).run P w = .ok NEW.toArray w ∧ (Builtin.lenOf X).run P w = .ok n w := by
  rcases h with ⟨rfl, rfl, rfl⟩ | ⟨a, c, rfl, hc⟩
  · exact ⟨run_firstCells_none w _ _ _ _, rfl⟩
  · exact ⟨run_firstCells_some w es m a n c NEW h1 hc, rfl⟩

/-- A world that is as it was but for one block that nothing owns. -/
theorem HRel.untouched (h : HRel E B0 μ H w) {w' : World} {g : Nat} (hg : B0 ≤ g) (hfree : ∀ i oi Li, H.get i = some oi → oi.held = true → μ i = some Li → Li.blk ≠ g)
    (hk : ∀ k, k ≠ g → w'.heap[k]? = w.heap[k]?) (hs : w'.heap.size = w.heap.size) : HRel E B0 μ H w' where
  fresh := h.fresh
  glob := h.glob
  obj j x hx hm := by
    have hr := h.obj j x hx hm
    have key : ∀ K, μ j = some K → x.held = true → K.blk ≠ g := fun K hK hx0 => hfree j x K hx hx0 hK
    cases x with
    | dead => trivial
    | map es ck => exact hr.world fun K hK _ => hk _ (key K hK rfl)
    | cells b z c =>
      cases b with
      | true => exact hr.world fun K hK _ => hk _ (key K hK rfl)
      | false =>
        obtain ⟨K, q1, q2, q4, q5⟩ := hr
        by_cases hc : c = []
        · exact ⟨K, q1, q2, q4, .inl hc⟩
        · refine ⟨K, q1, q2, q4, q5.imp id fun ⟨C, el, fr, r2, r3⟩ => ⟨C, el, fr, ?_, r3⟩⟩
          rw [hk _ (key K q1 (by cases c with | nil => exact absurd rfl hc | cons v c => rfl))]
          exact r2
  apart := h.apart
  base := by rw [hs]; exact h.base

theorem storeCellsA_next {i o : Nat} {vs : List Value} {H' : Heap} (h : storeCellsA H i o vs = some H') : H'.next = H.next := by
  unfold storeCellsA at h
  split at h
  · split at h
    · injection h with h; subst h; rfl
    · cases h
  · cases h

theorem cellsRel_append {old new OLD NEW : List Value} {C : Array Value} {off : Nat} (ho : VRels μ old OLD) (hn : VRels μ new NEW)
    (h1 : ∀ j v, OLD[j]? = some v → C[off + j]? = some v) (h2 : ∀ j v, NEW[j]? = some v → C[off + old.length + j]? = some v) : cellsRel μ (old ++ new) C off := by
  intro j v hj
  rw [List.getElem?_append] at hj
  split at hj
  · obtain ⟨V, a, b⟩ := ho.get hj
    exact ⟨V, h1 _ _ a, b⟩
  · obtain ⟨V, a, b⟩ := hn.get hj
    have := h2 _ _ a
    rw [show off + old.length + (j - old.length) = off + j from by omega] at this
    exact ⟨V, this, b⟩

/-- An append that makes a new row. -/
theorem grows_ok' (hE : E.Ok) (hH : HRel E B0 μ H w) {t e es len n : Nat} {old new OLD NEW : List Value} {v : Value} {H' : Heap} {ty : TypeId} {S X : Value}
    (hu : und E t = some (.slice e)) (hes : sizeA E e = some es) (hes0 : 0 < es) (ho : VRels μ old OLD) (hn : VRels μ new NEW) (ho1 : old.all one = true) (hn1 : new.all one = true)
    (hlo : OLD.length = len * es) (hln : NEW.length = n * es) (h0 : 0 < n)
    (hS : (S = .slice none 0 0 ∧ len = 0) ∨ ∃ a sc, S = .slice (some a) len sc ∧ sc < len + n ∧ ∀ j v, OLD[j]? = some v → w.cell? (a.add j) = some v)
    (hX : (X = .slice none 0 0 ∧ NEW = [] ∧ n = 0) ∨ ∃ a c, X = .slice (some a) n c ∧ ∀ j v, NEW[j]? = some v → w.cell? (a.add j) = some v)
    (h : growsA E H e es (len + n) old new = some (v, H')) : ∃ V w' μ', (Builtin.append_ #[t, t] ty #[S, X]).run E.prog w = .ok V w' ∧ Grow H μ H' μ' ∧ VRel μ' v V ∧ HRel E B0 μ' H' w' ∧ Below B0 w w' ∧ ∀ k, k < w.heap.size → w'.heap[k]? = w.heap[k]? := by
  unfold growsA at h
  cases hi : E.ty e with
  | none => rw [hi] at h; cases h
  | some i =>
    rw [hi] at h
    simp only [Option.bind_some] at h
    cases hz : zeroCellsA E e with
    | none => rw [hz] at h; cases h
    | some z =>
      rw [hz] at h
      simp only [Option.bind_some] at h
      obtain ⟨zv, i', z1, z2, z3, z4, z5, z6, z7⟩ := zeroCells_of hz
      rw [hi] at z3; injection z3 with z3; subst z3
      have hsz : i.size = es := by
        simp only [sizeA, hi, Option.map_some, Option.some.injEq] at hes
        exact hes
      split at h
      case isFalse => cases h
      rename_i hb
      obtain ⟨b1, b2⟩ := hb
      simp only [Option.some.injEq] at h
      have hneed : len + n ≤ 140737488355328 := Nat.le_trans (Nat.le_mul_of_pos_right _ b2) b1
      rcases hX with ⟨_, _, rfl⟩ | ⟨a, c, rfl, hcx⟩
      · omega
      -- whatever the elder capacity: the same new row
      have key : ∀ (sc : Nat), (Builtin.append_ #[t, t] ty #[S, .slice (some a) n c]).run E.prog w =
          .ok (.slice (some ⟨w.heap.size, 0, none⟩) (len + n) (grownCap w (len + n) sc e)) (w.drew.alloc (.cells (OLD.toArray ++ NEW.toArray ++ Builtin.zeroCells zv.cells (grownCap w (len + n) sc e - (len + n))) e)) →
          ∃ V w' μ', (Builtin.append_ #[t, t] ty #[S, .slice (some a) n c]).run E.prog w = .ok V w' ∧ Grow H μ H' μ' ∧ VRel μ' v V ∧ HRel E B0 μ' H' w' ∧ Below B0 w w' ∧ ∀ k, k < w.heap.size → w'.heap[k]? = w.heap[k]? := by
        intro sc hrun
        have hge := grownCap_ge w (len + n) sc e
        have hCs : (OLD.toArray ++ NEW.toArray ++ Builtin.zeroCells zv.cells (grownCap w (len + n) sc e - (len + n))).size = grownCap w (len + n) sc e * es := by
          have hzz : zv.cells.size = es := by rw [cellsOf_cells z2]; simp; omega
          simp only [Array.size_append, List.size_toArray, size_zeroCells, hzz, hlo, hln, ← Nat.add_mul]
          congr 1; omega
        have hold := ho.length
        obtain ⟨μ', q1, q2, q3, q4⟩ := newRow_ok (el := e) (hH.heap (w' := w.drew) rfl) (es := es) (len := len + n) (cap := grownCap w (len + n) sc e) (c := old ++ new)
          (C := OLD.toArray ++ NEW.toArray ++ Builtin.zeroCells zv.cells (grownCap w (len + n) sc e - (len + n)))
          (cellsRel_append ho hn (fun j v hj => by
              have : j < OLD.length := by
                rcases Nat.lt_or_ge j OLD.length with h | h
                · exact h
                · rw [List.getElem?_eq_none h] at hj; cases hj
              rw [Nat.zero_add, Array.getElem?_append_left (by simp; omega), Array.getElem?_append_left (by simpa using this)]
              simpa using hj)
            (fun j v hj => by
              have : j < NEW.length := by
                rcases Nat.lt_or_ge j NEW.length with h | h
                · exact h
                · rw [List.getElem?_eq_none h] at hj; cases hj
              rw [Nat.zero_add, hold, Array.getElem?_append_left (by simp; omega), Array.getElem?_append_right (by simp)]
              simpa using hj))
          (by rw [hCs, List.length_append, hold, hn.length, hlo, hln, ← Nat.add_mul]; exact Nat.mul_le_mul_right _ hge)
          (by rw [List.all_append, ho1, hn1]; rfl) hge hCs
        rw [h] at q1 q2 q3
        exact ⟨_, _, μ', hrun, q1, q2, q3, (Below.refl _ _).drew.trans q4, fun k hk => Below.heap_alloc w.drew _ k hk⟩
      rcases hS with ⟨rfl, rfl⟩ | ⟨b, sc, rfl, hsc, hcs⟩
      · refine key 0 ?_
        have hol : OLD = [] := List.eq_nil_of_length_eq_zero (by simpa using hlo)
        subst hol
        have := run_append_nil (P := E.prog) w t ty e i zv (und_ok hE hu) (hE.ty _ _ hi) z5 a n c NEW (by rw [hsz]; exact hln) hcx h0 (by omega) (by have := b1; simp only [Nat.zero_add] at this; omega)
        simpa using this
      · refine key sc ?_
        exact run_append_grow (P := E.prog) w t ty e i zv (und_ok hE hu) (hE.ty _ _ hi) z5 b len sc OLD (by rw [hsz]; exact hlo) hcs a n c NEW (by rw [hsz]; exact hln) hcx hsc (by omega)
          (growslice_fits hsc b1)

theorem grows_ok (hE : E.Ok) (hH : HRel E B0 μ H w) {t e es len n : Nat} {old new OLD NEW : List Value} {v : Value} {H' : Heap} {ty : TypeId} {S X : Value}
    (hu : und E t = some (.slice e)) (hes : sizeA E e = some es) (hes0 : 0 < es) (ho : VRels μ old OLD) (hn : VRels μ new NEW) (ho1 : old.all one = true) (hn1 : new.all one = true)
    (hlo : OLD.length = len * es) (hln : NEW.length = n * es) (h0 : 0 < n)
    (hS : (S = .slice none 0 0 ∧ len = 0) ∨ ∃ a sc, S = .slice (some a) len sc ∧ sc < len + n ∧ ∀ j v, OLD[j]? = some v → w.cell? (a.add j) = some v)
    (hX : (X = .slice none 0 0 ∧ NEW = [] ∧ n = 0) ∨ ∃ a c, X = .slice (some a) n c ∧ ∀ j v, NEW[j]? = some v → w.cell? (a.add j) = some v)
    (h : growsA E H e es (len + n) old new = some (v, H')) : Makes E B0 μ H w (Builtin.append_ #[t, t] ty #[S, X]) v H' := by
  obtain ⟨V, w', μ', h1, h2, h3, h4, h5, _⟩ := grows_ok' (ty := ty) hE hH hu hes hes0 ho hn ho1 hn1 hlo hln h0 hS hX h
  exact ⟨V, w', μ', h1, h2, h3, h4, h5⟩

/-- A block that is only read from now on. -/
theorem HRel.revive (h : HRel E B0 μ H w) {i z : Nat} {L : Loc} {c : List Value} {C : Array Value} {el : TypeId} (hm : μ i = some L) (hz : L.esz = z) (h1 : c.all one = true) (hC : w.heap[L.blk]? = some (.cells C el (0, 0)))
    (hr : cellsRel μ c C L.off) (hfree : ∀ a oa La, a ≠ i → H.get a = some oa → oa.isOwn = true → μ a = some La → La.blk ≠ L.blk) : HRel E B0 μ (H.set i (.cells false z c)) w where
  fresh := h.fresh
  glob := h.glob
  obj j x hx hmj := by
    rw [Heap.get_set] at hx
    split at hx
    · injection hx with hx; subst hx; subst_vars; exact ⟨L, hm, rfl, h1, .inr ⟨C, el, (0, 0), hC, hr⟩⟩
    · exact h.obj j x hx hmj
  apart := by
    intro a b oa ob La Lb ha hb wa wb ma mb hbl
    rw [Heap.get_set] at ha hb
    split at ha
    · injection ha with ha; subst ha; cases wa
    · rename_i hai
      split at hb
      · rename_i hbi
        subst hbi
        rw [hm] at mb; injection mb with mb; subst mb
        exact absurd hbl (hfree a oa La hai ha wa ma)
      · exact h.apart a b oa ob La Lb ha hb wa wb ma mb hbl
  base := h.base

theorem HRel.congr {H' : Heap} (h : HRel E B0 μ H w) (hg : ∀ i, H'.get i = H.get i) (hn : H'.next = H.next) : HRel E B0 μ H' w :=
  ⟨fun i hi => h.fresh i (by omega), h.glob, fun i o ho hm => h.obj i o (by rw [← hg]; exact ho) hm, fun i j oi oj Li Lj h1 h2 => h.apart i j oi oj Li Lj (by rw [← hg]; exact h1) (by rw [← hg]; exact h2), h.base⟩

theorem all_take {c : List Value} (h : c.all one = true) (n : Nat) : (c.take n).all one = true := by
  rw [List.all_eq_true] at h ⊢
  exact fun x hx => h x (List.mem_of_mem_take hx)
theorem growsA_of_F {H1 H2 : Heap} {e es need : Nat} {old new : List Value} {v : Value} {H' : Heap} (h : growsF E H1 e es need old new = some (v, H')) : ∃ v' H'', growsA E H2 e es need old new = some (v', H'') := by
  unfold growsF at h
  unfold growsA
  cases hi : E.ty e with
  | none => rw [hi] at h; cases h
  | some inf =>
    rw [hi] at h
    simp only [Option.bind_some] at h ⊢
    cases hzc : zeroCellsA E e with
    | none => rw [hzc] at h; cases h
    | some zc =>
      rw [hzc] at h
      simp only [Option.bind_some] at h ⊢
      split at h
      case isFalse => cases h
      rename_i hb
      rw [if_pos hb]
      exact ⟨_, _, rfl⟩

theorem cellsRel.take {μ : Inj} {c : List Value} {C : Array Value} {off : Nat} (h : cellsRel μ c C off) (n : Nat) : cellsRel μ (c.take n) C off := fun j v e => by
  rw [List.getElem?_take] at e
  split at e
  · exact h j v e
  · cases e

/-- An append whose two rows are only read from then on. -/
theorem frozen_of {H0 : Heap} {i z e es need : Nat} {L : Loc} {cs old new : List Value} {v : Value} {H' : Heap} {C : Array Value} {el : TypeId} {μ' : Inj} {V : Value} {w' : World}
    (hnext : i < H0.next) (h : growsF E (H0.set i (.cells false z cs)) e es need old new = some (v, H')) (g : ∀ v1 H1, growsA E (H0.set i .dead) e es need old new = some (v1, H1) → Grow (H0.set i .dead) μ H1 μ' ∧ VRel μ' v1 V ∧ HRel E B0 μ' H1 w')
    (hm : μ i = some L) (hz : L.esz = z) (h1 : cs.all one = true) (hC : w'.heap[L.blk]? = some (.cells C el (0, 0))) (hr : cellsRel μ cs C L.off) (hB : B0 ≤ L.blk)
    (hfree : ∀ a oa La, a ≠ i → H0.get a = some oa → oa.isOwn = true → μ a = some La → La.blk ≠ L.blk) :
    Grow H0 μ H' μ' ∧ VRel μ' v V ∧ HRel E B0 μ' H' w' := by
  unfold growsF at h
  cases hi : E.ty e with
  | none => rw [hi] at h; cases h
  | some inf =>
    rw [hi] at h
    simp only [Option.bind_some] at h
    cases hzc : zeroCellsA E e with
    | none => rw [hzc] at h; cases h
    | some zc =>
      rw [hzc] at h
      simp only [Option.bind_some] at h
      split at h
      case isFalse => cases h
      rename_i hb
      simp only [Option.some.injEq, Prod.mk.injEq] at h
      obtain ⟨rfl, rfl⟩ := h
      obtain ⟨g1, g2, g3⟩ := g (newRowA (H0.set i .dead) es need (old ++ new)).1 (newRowA (H0.set i .dead) es need (old ++ new)).2 (by unfold growsA; rw [hi]; simp only [Option.bind_some, hzc]; rw [if_pos hb])
      have hni : i ≠ H0.next := by omega
      refine ⟨⟨g1.1, g1.2.1, g1.2.2⟩, g2, ?_⟩
      -- the new one is only read
      have hg0 : ((H0.set i .dead).new (.cells true es (old ++ new))).get H0.next = some (.cells true es (old ++ new)) := by rw [Heap.get_new]; exact if_pos rfl
      have g3 : HRel E B0 μ' ((H0.set i .dead).new (.cells true es (old ++ new))) w' := g3
      by_cases hmn : ∃ Ln, μ' H0.next = some Ln
      · obtain ⟨Ln, C2, el2, k1, k2, k3, k4, k5, k6, k7, k8⟩ := g3.obj H0.next _ hg0 hmn
        have r1 := g3.revive (i := H0.next) (c := old ++ new) k1 k3 k8 k4 k7 fun a oa La hne ha hoa hma hbl => by
          exact hne (g3.apart a H0.next oa _ La Ln ha hg0 hoa rfl hma k1 hbl)
        have r2 := r1.revive (i := i) (c := cs) (g1.1 _ _ hm) hz h1 hC (hr.mono g1.1) fun a oa La hne ha hoa hma hbl => by
          rw [Heap.get_set] at ha
          split at ha
          · injection ha with ha; subst ha; cases hoa
          · rename_i hnn
            rw [Heap.get_new, Heap.next_set, if_neg hnn, Heap.get_set, if_neg hne] at ha
            have hma0 : μ a = some La := by
              rcases Nat.lt_or_ge a H0.next with hl | hl
              · rw [← g1.2.1 a hl]; exact hma
              · have : a < ((H0.set i .dead).new (.cells true es (old ++ new))).next := by
                  rcases Nat.lt_or_ge a ((H0.set i .dead).new (.cells true es (old ++ new))).next with h | h
                  · exact h
                  · rw [g3.fresh a h] at hma; cases hma
                have e : ((H0.set i .dead).new (.cells true es (old ++ new))).next = H0.next + 1 := rfl
                omega
            exact hfree a oa La hne ha hoa hma0 hbl
        refine r2.congr (fun j => ?_) rfl
        rw [Heap.get_new, Heap.get_set, Heap.get_set, Heap.get_set, Heap.get_new, Heap.get_set, Heap.next_set, Heap.next_set]
        by_cases e1 : j = i
        · subst e1
          rw [if_neg hni, if_pos rfl, if_pos rfl]
        · rw [if_neg e1, if_neg e1, if_neg e1]
          by_cases e2 : j = H0.next
          · rw [if_pos e2, if_pos e2]
          · rw [if_neg e2, if_neg e2]; exact (if_neg e2).symm
      · exfalso
        cases g2 with
        | slice hmi => exact hmn ⟨_, hmi⟩
        | sliceEnd hmi => exact hmn ⟨_, hmi⟩

include hE in
theorem append_ok (hH : HRel E B0 μ H w) {argTypes : Array TypeId} {ty : TypeId} {args ARGS : List Value} {v : Value} {H' : Heap} (ha : VRels μ args ARGS) (h : appendA E H argTypes args = some (v, H')) :
    Makes E B0 μ H w (Builtin.append_ argTypes ty ARGS.toArray) v H' := by
  unfold appendA at h
  split at h
  case h_2 => cases h
  rename_i st xt base len c x hat
  obtain ⟨at_⟩ := argTypes
  simp only at hat
  subst hat
  split at h
  case isFalse => cases h
  rename_i hxt
  subst hxt
  cases ha with | cons hs0 ha =>
  cases ha with | cons hx ha =>
  cases ha
  rename_i S X
  split at h
  case h_2 => cases h
  rename_i e hu
  cases hes : sizeA E e with
  | none => rw [hes] at h; cases h
  | some es =>
    rw [hes] at h
    simp only [Option.bind_some] at h
    cases hl : lenOfA x with
    | none => rw [hl] at h; cases h
    | some n =>
      rw [hl] at h
      simp only [Option.bind_some] at h
      cases hf : firstCellsA H es n x with
      | none => rw [hf] at h; cases h
      | some new =>
        rw [hf] at h
        simp only [Option.bind_some] at h
        obtain ⟨NEW, n1, n2, n3, n4⟩ := firstCells_ok hH hx hl (Nat.le_refl _) hf
        obtain ⟨rf1, rf2⟩ := run_first n3 n4 E.prog
        cases hz : Nat.beq es 0 with
        | true => rw [hz] at h; cases h
        | false =>
          rw [hz] at h
          simp only [cond_false] at h
          have hes0 : 0 < es := Nat.pos_of_ne_zero (Nat.ne_of_beq_eq_false hz)
          by_cases hn0 : n = 0
          · rw [if_pos hn0] at h
            simp only [Option.some.injEq, Prod.mk.injEq] at h
            obtain ⟨rfl, rfl⟩ := h
            subst hn0
            have hN : NEW = [] := List.eq_nil_of_length_eq_zero (by simpa using n3)
            subst hN
            refine ⟨S, w, μ, ?_, Grow.refl _ _, ?_, hH, Below.refl _ _⟩
            · cases hs0 with
              | sliceNil => simp [Builtin.append_, run_und hE hu, run_size hE hes, rf2, rf1]
              | slice hm hle hr => simp [Builtin.append_, run_und hE hu, run_size hE hes, rf2, rf1, hle, storeCells]
              | sliceEnd hm ho => simp [Builtin.append_, run_und hE hu, run_size hE hes, rf2, rf1, storeCells, Nat.zero_le]
            · cases hs0 with
              | sliceNil => exact .sliceNil
              | slice hm hle hr => exact .slice hm hle hr
              | sliceEnd hm ho => exact .sliceEnd hm ho
          · rw [if_neg hn0] at h
            have hnp : 0 < n := Nat.pos_of_ne_zero hn0
            split at h
            · -- nothing there
              cases hs0
              simp only [if_true] at h
              exact grows_ok hE hH (old := []) (OLD := []) hu hes hes0 .nil n1 rfl n2 (by simp) n3 hnp (.inl ⟨rfl, rfl⟩) n4 (by simpa using h)
            · rename_i i o
              split at h
              case h_2 => cases h
              rename_i z cs hg
              split at h
              case isFalse => cases h
              rename_i hze
              subst hze
              obtain ⟨L', C, el, k1, k2, k3, k4, k5, k6, k7, k8⟩ := hH.obj i _ hg (by cases hs0 with | slice hm _ _ => exact ⟨_, hm⟩ | sliceEnd hm _ => exact ⟨_, hm⟩)
              split at h
              · -- surely in place
                rename_i hroom
                cases hst : storeCellsA H i (o + len * z) new with
                | none => rw [hst] at h; cases h
                | some H1 =>
                  rw [hst] at h
                  simp only [Option.map_some, Option.some.injEq, Prod.mk.injEq] at h
                  obtain ⟨rfl, rfl⟩ := h
                  cases hs0 with
                  | @slice _ _ _ _ cap L hm hle hr =>
                    rw [hm] at k1; injection k1 with k1; subst k1
                    have hcap : o + cap * z = L.room := by
                      rcases hr with hr | hr
                      · omega
                      · rw [k3] at hr; exact hr
                    have hfit : len + n ≤ cap := by
                      rcases Nat.lt_or_ge cap (len + n) with hlt | hge
                      · have := Nat.mul_lt_mul_of_pos_right hlt hes0
                        omega
                      · exact hge
                    obtain ⟨w', e1, e2, e3⟩ := hH.storeCells hm hst n1 n2 E.prog
                    refine ⟨.slice (some ⟨L.blk, L.off + o, none⟩) (len + n) cap, w', μ, ?_, Grow.same _ (storeCellsA_next hst), .slice hm hfit hr, e2, e3⟩
                    rw [← Nat.add_assoc] at e1
                    simp [Builtin.append_, run_und hE hu, run_size hE hes, rf2, rf1, hfit, addr_add, e1]
                  | @sliceEnd _ _ _ cap A L hm ho =>
                    rw [hm] at k1; injection k1 with k1; subst k1
                    exfalso
                    have hpos : 0 < n * z := Nat.mul_pos hnp hes0
                    have hr' : o = L.room := by
                      rcases ho with ho | ho
                      · omega
                      · exact ho.1
                    simp only [Nat.zero_add] at hroom
                    omega
              · rename_i hroom
                cases ht : takeAt cs o (len * z) with
                | none => rw [ht] at h; cases h
                | some old =>
                  rw [ht] at h
                  simp only [Option.bind_some] at h
                  have hold1 : old.all one = true := by
                    unfold takeAt at ht
                    split at ht
                    case isFalse => cases ht
                    injection ht with ht; subst ht
                    rw [List.all_eq_true] at k8 ⊢
                    exact fun x hx => k8 x (List.mem_of_mem_drop (List.mem_of_mem_take hx))
                  have hdrop := hH.drop i
                  cases hs0 with
                  | @slice _ _ _ _ cap L hm hle hr =>
                    rw [hm] at k1; injection k1 with k1; subst k1
                    obtain ⟨OLD, o1, o2, o3⟩ := takeAt_rel k7 ht
                    have hcap : o + cap * z = L.room := by
                      rcases hr with hr | hr
                      · omega
                      · rw [k3] at hr; exact hr
                    have hnext : i < H.next := by
                      rcases Nat.lt_or_ge i H.next with hl | hl
                      · exact hl
                      · rw [hH.fresh i hl] at hm; cases hm
                    have hfree0 : ∀ a oa La, a ≠ i → H.get a = some oa → oa.isOwn = true → μ a = some La → La.blk ≠ L.blk := fun a oa La hne ha hoa hma hbl => hne (hH.apart i a _ oa L La hg ha rfl (held_of_own hoa) hm hma hbl.symm).symm
                    by_cases hfit : len + n ≤ cap
                    · -- in place after all: the elder block is given up, and taken anew
                      have inplace : ∀ v1 H1, growsA E (H.set i .dead) e z (len + n) old new = some (v1, H1) → (Builtin.append_ #[xt, xt] ty #[.slice (some ⟨L.blk, L.off + o, none⟩) len cap, X]).run E.prog w = .ok (.slice (some ⟨L.blk, L.off + o, none⟩) (len + n) cap) (w.setRow L.blk (spliced C (L.off + o + len * z) NEW)) ∧ Grow (H.set i .dead) μ H1 (μ.add (H.set i Obj.dead).next ⟨L.blk, L.off + o, L.room - o, z⟩) ∧ VRel (μ.add (H.set i Obj.dead).next ⟨L.blk, L.off + o, L.room - o, z⟩) v1 (.slice (some ⟨L.blk, L.off + o, none⟩) (len + n) cap) ∧ HRel E B0 (μ.add (H.set i Obj.dead).next ⟨L.blk, L.off + o, L.room - o, z⟩) H1 (w.setRow L.blk (spliced C (L.off + o + len * z) NEW)) ∧ Below B0 w (w.setRow L.blk (spliced C (L.off + o + len * z) NEW)) := by
                        intro v H' h
                        unfold growsA at h
                        cases hi : E.ty e with
                        | none => rw [hi] at h; cases h
                        | some inf =>
                          rw [hi] at h
                          simp only [Option.bind_some] at h
                          cases hzc : zeroCellsA E e with
                          | none => rw [hzc] at h; cases h
                          | some zc =>
                            rw [hzc] at h
                            simp only [Option.bind_some] at h
                            split at h
                            case isFalse => cases h
                            simp only [Option.some.injEq, newRowA, Prod.mk.injEq] at h
                            obtain ⟨rfl, rfl⟩ := h
                            have hNl := n1.length
                            have hfitz : (len + n) * z ≤ cap * z := Nat.mul_le_mul_right _ hfit
                            rw [Nat.add_mul] at hfitz
                            have hCsz : L.off + o + len * z + NEW.length ≤ C.size := by omega
                            have hrun := run_storeCells_at (P := E.prog) L.blk (L.off + o + len * z) el NEW 0 C w k4 (by omega) (ones_rel n2 n1)
                            have hfree : ∀ a oa La, (H.set i .dead).get a = some oa → oa.held = true → μ a = some La → La.blk ≠ L.blk := by
                              intro a oa La ha hoa hma hbl
                              rw [Heap.get_set] at ha
                              split at ha
                              · injection ha with ha; subst ha; simp [Obj.held] at hoa
                              · rename_i hne
                                exact hne (hH.apart i a _ oa L La hg ha rfl hoa hm hma hbl.symm).symm
                            have hU := hdrop.untouched (w' := w.setRow L.blk (spliced C (L.off + o + len * z) NEW)) k2 hfree (fun k hk => setRow_other _ _ _ _ hk) (setRow_size _ _ _)
                            have hNew : ORel B0 (μ.add (H.set i Obj.dead).next ⟨L.blk, L.off + o, L.room - o, z⟩) (w.setRow L.blk (spliced C (L.off + o + len * z) NEW)) (H.set i Obj.dead).next (.cells true z (old ++ new)) := by
                              refine ⟨_, spliced C (L.off + o + len * z) NEW, el, Inj.add_self _ _ _, k2, rfl, ?_, ?_, ?_, ?_, ?_⟩
                              · simpa [spliced] using setRow_heap w L.blk C _ el _ k4
                              · simp only [List.length_append, o2.length, n1.length, o1, n3]; omega
                              · simp only; rw [spliced_size _ _ _ hCsz]; omega
                              · show cellsRel _ _ _ (L.off + o)
                                refine (cellsRel_append (μ := μ) o2 n1 ?_ ?_).mono (Inj.le_add _ (hH.fresh _ (Nat.le_refl _)))
                                · intro j v hj
                                  have hjl : j < OLD.length := by
                                    rcases Nat.lt_or_ge j OLD.length with h | h
                                    · exact h
                                    · rw [List.getElem?_eq_none h] at hj; cases hj
                                  rw [spliced_get _ _ _ hCsz, if_neg (by omega)]
                                  exact o3 j v hj
                                · intro j v hj
                                  have hjl : j < NEW.length := by
                                    rcases Nat.lt_or_ge j NEW.length with h | h
                                    · exact h
                                    · rw [List.getElem?_eq_none h] at hj; cases hj
                                  rw [o2.length, o1, spliced_get _ _ _ hCsz, if_pos (by omega), show L.off + o + len * z + j - (L.off + o + len * z) = j from by omega]
                                  exact hj
                              · rw [List.all_append, hold1, n2]; rfl
                            refine ⟨?_, Grow.new (H := H.set i .dead) _ _ (hH.fresh _ (Nat.le_refl _)), ?_, hU.adopt ⟨L.blk, L.off + o, L.room - o, z⟩ _ (fun a oa La ha hh hma => hfree a oa La ha (hh.elim (fun h => h.2) fun h => held_of_own h.1) hma) hNew, ?_⟩
                            · simp only [spliced, Nat.add_zero] at hrun ⊢
                              simp [Builtin.append_, run_und hE hu, run_size hE hes, rf2, rf1, hfit, addr_add, hrun]
                            · exact .slice (L := ⟨L.blk, L.off + o, L.room - o, z⟩) (Inj.add_self _ _ _) hfit (.inr (by simp only [Nat.zero_add]; omega))
                            · exact ⟨rfl, rfl, rfl, by rw [setRow_size]; exact Nat.le_refl _, fun k hk => setRow_other _ _ _ _ (by omega)⟩

                      cases hfz : (E.frz xt && Nat.beq len 256) with
                      | false =>
                        rw [hfz] at h
                        simp only [cond_false] at h
                        obtain ⟨p1, p2, p3, p4, p5⟩ := inplace v H' h
                        exact ⟨_, _, _, p1, p2, p3, p4, p5⟩
                      | true =>
                        rw [hfz] at h
                        simp only [cond_true] at h
                        obtain ⟨v0, H0, hA⟩ := growsA_of_F (H2 := H.set i .dead) h
                        obtain ⟨p1, _, _, _, p5⟩ := inplace v0 H0 hA
                        have hfitz : (len + n) * z ≤ cap * z := Nat.mul_le_mul_right _ hfit
                        rw [Nat.add_mul] at hfitz
                        have hNl := n1.length
                        have hCsz : L.off + o + len * z + NEW.length ≤ C.size := by omega
                        have hfr := frozen_of (μ := μ) (H0 := H) (i := i) (C := spliced C (L.off + o + len * z) NEW) (el := el) hnext h (fun v1 H1 h1 => let ⟨_, q2, q3, q4, _⟩ := inplace v1 H1 h1; ⟨q2, q3, q4⟩) hm k3 (all_take k8 _)
                          (by simpa [spliced] using setRow_heap w L.blk C _ el _ k4) (fun j v hj => by
                            have hjl : j < o + len * z := by
                              rw [List.getElem?_take] at hj
                              split at hj
                              · assumption
                              · cases hj
                            rw [spliced_get _ _ _ hCsz, if_neg (by omega)]
                            exact k7.take _ j v hj) k2 hfree0
                        exact ⟨_, _, _, p1, hfr.1, hfr.2.1, hfr.2.2, p5⟩
                    · cases hfz : (E.frz xt && Nat.beq len 256) with
                      | false =>
                        rw [hfz] at h
                        simp only [cond_false] at h
                        exact grows_ok hE hdrop hu hes hes0 o2 n1 hold1 n2 o1 n3 hnp (.inr ⟨_, cap, rfl, by omega, fun j v hj => by rw [addr_add, cell_at k4]; exact o3 j v hj⟩) n4 h
                      | true =>
                        rw [hfz] at h
                        simp only [cond_true] at h
                        obtain ⟨v0, H0, hA⟩ := growsA_of_F (H2 := H.set i .dead) h
                        obtain ⟨V, w', μ', p1, p2, p3, p4, p5, p6⟩ := grows_ok' (ty := ty) hE hdrop hu hes hes0 o2 n1 hold1 n2 o1 n3 hnp (.inr ⟨_, cap, rfl, by omega, fun j v hj => by rw [addr_add, cell_at k4]; exact o3 j v hj⟩) n4 hA
                        have hblk : L.blk < w.heap.size := by
                          rcases Nat.lt_or_ge L.blk w.heap.size with h | h
                          · exact h
                          · rw [Array.getElem?_eq_none h] at k4; cases k4
                        have hfr := frozen_of (μ := μ) (H0 := H) (i := i) (C := C) (el := el) hnext h (fun v1 H1 h1 => by
                            rw [hA] at h1
                            simp only [Option.some.injEq, Prod.mk.injEq] at h1
                            obtain ⟨rfl, rfl⟩ := h1
                            exact ⟨p2, p3, p4⟩) hm k3 (all_take k8 _) (by rw [p6 _ hblk]; exact k4) (k7.take _) k2 hfree0
                        exact ⟨_, _, _, p1, hfr.1, hfr.2.1, hfr.2.2, p5⟩
                  | @sliceEnd _ _ _ cap A L hm ho =>
                    rw [hm] at k1; injection k1 with k1; subst k1
                    obtain rfl : cap = 0 := by
                      rcases ho with ho | ho
                      · omega
                      · exact ho.2
                    have hol : old = [] := by
                      unfold takeAt at ht
                      split at ht
                      case isFalse => cases ht
                      injection ht with ht
                      simpa using ht.symm
                    subst hol
                    have hfz : (E.frz xt && Nat.beq 0 256) = false := Bool.and_false _
                    rw [hfz] at h
                    simp only [cond_false] at h
                    exact grows_ok hE hdrop (OLD := []) hu hes hes0 .nil n1 rfl n2 (by simp) n3 hnp (.inr ⟨A, 0, rfl, by omega, fun j v hj => by simp at hj⟩) n4 h
            · cases h
end
end Go.AS
