/-
  Regions that go when nobody can have them: sweep, Enter, Leave, Defer.
-/
import Derived.Test.YtjggeoghlicmdaaGreatGrace
namespace Go.Proofs.YtjggeoghlicmdaaGreat
open Go Go.AS Go.RowKit
set_option linter.unusedVariables false
variable {H H' : Heap} {R : Value → Heap → Prop} {L M : List Asr} {g m i1 i3 : Nat} {ks : List Int} {k a : Int} {S : Sm} {gc junk : List Value}

theorem kept_le (q : List Wt) : (kept q).length ≤ q.length := List.length_filter_le _ _
theorem kept_gone : ∀ q : List Wt, (kept q).length + (gone q).length = q.length
  | [] => rfl
  | w :: q => by
    have ih := kept_gone q
    unfold kept gone at ih ⊢
    rw [List.filter_cons, List.filter_cons]
    cases ne w <;> simp <;> simp at ih <;> omega

theorem delSw_s {b : Option Nat} {q : List Wt} {n : Nat} (hn : n = q.length) (h : Sep H (bx i1 (.cells true 0 [P g]) :: bx i3 (.cells true 0 [.slice none 0 0]) :: gl 2 b (rows q ++ junk) :: wm q :: bx g (.cells true 0 (P m :: gc)) :: mem m S :: L)) (hb : b = none → q = []) (hbj : b = none → junk = []) (hl : q.length < 1000000)
    (hR : ∀ H' f junk', (f = none → gone q = []) → (b = none → junk' = []) → Sep H' (bx i1 (.cells true 0 [P g]) :: bx i3 (.cells true 0 [.slice (addr f) (gone q).length 0]) :: gl 1 f (ints (gone q)) :: gl 2 b (rows (kept q) ++ junk') :: wm (kept q) :: bx g (.cells true 0 (P m :: gc)) :: mem m (frees S (gone q)) :: L) → R (.slice (addr b) (kept q).length 0) H') :
    CA en F.slices_DeleteFunc_grace_wait_grace_wait [.slice (addr b) n 0, swF i1 i3] H R := by
  apply vc_slices_DeleteFunc_grace_wait_grace_wait
  refine idxSw_s hn h hb hl (fun hall H2 h2 => ⟨_, rfl, cond_yes rfl ?_⟩) fun j0 w0 hw0 he0 hpre H2 f0 h2 => ⟨_, rfl, cond_no (by simp) ?_⟩
  · have := hR H2 none junk (fun _ => gone_none hall) hbj
    rw [kept_all hall, gone_none hall] at this
    rw [hn]
    refine this ?_
    have h3 : Sep H2 (gl 1 none (ints []) :: bx i1 (.cells true 0 [P g]) :: bx i3 (.cells true 0 [.slice none 0 0]) :: gl 2 b (rows q ++ junk) :: wm q :: bx g (.cells true 0 (P m :: gc)) :: mem m S :: L) := gl_none.2 h2
    exact Sep.up2 (Sep.up2 h3)
  have hj0 := (List.getElem?_eq_some_iff.1 hw0).1
  subst hn
  cases b with
  | none => rw [hb rfl] at hj0; simp at hj0
  | some b =>
    have k0 : kept (q.take (j0 + 1)) = q.take j0 := by rw [take_drop_cons hw0, kept_snoc, if_pos he0, kept_all hpre]
    have g0 : gone (q.take (j0 + 1)) = [w0.h] := by rw [take_drop_cons hw0, gone_snoc, if_pos he0, gone_none hpre]; rfl
    have hrl := rows_len q
    refine use_slices_DeleteFunc_grace_wait_grace_wait_0 (fun k t5 t6 H => ∃ (j f : Nat) (C : List Value), j ≤ q.length ∧ k = q.length - j ∧ t6 = (j : Int) ∧ t5 = ((kept (q.take j)).length : Int) ∧ 0 < (gone (q.take j)).length ∧ C.length = (rows q ++ junk).length ∧ C.take ((kept (q.take j)).length * 2) = rows (kept (q.take j)) ∧ C.drop (j * 2) = rows (q.drop j) ++ junk ∧
      Sep H (bx i1 (.cells true 0 [P g]) :: bx i3 (.cells true 0 [.slice (addr (some f)) (gone (q.take j)).length 0]) :: gl 1 (some f) (ints (gone (q.take j))) :: bx b (.cells true 2 C) :: wm q :: bx g (.cells true 0 (P m :: gc)) :: mem m (frees S (gone (q.take j))) :: L)) (q.length - (j0 + 1))
      ⟨j0 + 1, f0, rows q ++ junk, by omega, rfl, ?_, ?_, ?_, rfl, ?_, ?_, ?_⟩ ?_
    · rw [wrap_i64 (by omega)]; omega
    · rw [k0, List.length_take]; omega
    · rw [g0]; simp
    · rw [k0, List.take_append_of_le_length (by rw [hrl, List.length_take]; omega)]
      have e : q = q.take j0 ++ q.drop j0 := (List.take_append_drop _ _).symm
      conv => lhs; rw [e, rows_append]
      rw [List.take_append_of_le_length (by rw [rows_len]; simp), List.take_of_length_le (by rw [rows_len]; simp)]
    · rw [List.drop_append_of_le_length (by rw [hrl]; omega), rows_drop]
    · rw [g0]
      have h3 := Sep.pick h2 7 [0, 1, 2, 3, 4, 5, 6] (by decide)
      have h4 : Sep H2 (bx i1 (.cells true 0 [P g]) :: bx i3 (.cells true 0 [.slice (addr (some f0)) [w0.h].length 0]) :: gl 1 (some f0) (ints [w0.h]) :: gl 2 (some b) (rows q ++ junk) :: wm q :: bx g (.cells true 0 (P m :: gc)) :: mem m (S.free w0.h).2 :: L) := h3
      exact Sep.pick (gl_some.1 (Sep.up3 h4)) 7 [1, 2, 3, 0, 4, 5, 6] (by decide)
    clear h h2 hw0 he0 hpre hj0 k0 g0
    rintro k t5 t6 ys H3 ⟨j, f, C, hj, rfl, rfl, rfl, hg0, hCl, hCt, hCd, hs⟩
    have hkg := kept_gone (q.take j)
    rw [List.length_take, Nat.min_eq_left hj] at hkg
    have hCl' : C.length = q.length * 2 + junk.length := by rw [hCl, List.length_append, hrl]
    refine cond_of (fun h1 => ?_) fun h1 => ?_
    · have hj' : j < q.length := by simp only [decide_eq_true_eq] at h1; omega
      obtain ⟨w, hw⟩ : ∃ w, q[j]? = some w := ⟨_, List.getElem?_eq_getElem hj'⟩
      have htk := take_drop_cons hw
      have hrow := row_at (junk := junk) (j := j) (w := w) (Sep.get3 hs) hCd (by omega) hw
      have hw1 : IntKind.i64.wrap ((j : Int) + 1) = ((j + 1 : Nat) : Int) := by rw [wrap_i64 (by omega)]; omega
      refine ⟨by unfold inB; omega, asRow_in ⟨_, _, hrow, Sep.nw hs fun i5 H6 h6 => Sep.st0 h6 (Nat.le_of_ble_eq_true rfl) fun H7 h7 => ⟨_, _, Sep.lds0 h7 rfl, asFn_in ⟨Option.isSome_iff_exists.1 (by kernel_rfl), ?_⟩⟩⟩⟩
      have h7 : Sep H7 (bx i5 (.cells true 0 w.row) :: bx i1 (.cells true 0 [P g]) :: bx i3 (.cells true 0 [.slice (addr (some f)) (gone (q.take j)).length 0]) :: gl 1 (some f) (ints (gone (q.take j))) :: bx b (.cells true 2 C) :: wm q :: bx g (.cells true 0 (P m :: gc)) :: mem m (frees S (gone (q.take j))) :: L) := h7
      have h8 := (wm_out hw).1 (Sep.up5 h7)
      -- wA rest i5 i1 i3 gl b g mem
      have h9 : Sep H7 (bx i1 (.cells true 0 [P g]) :: bx i3 (.cells true 0 [.slice (addr (some f)) (gone (q.take j)).length 0]) :: gl 1 (some f) (ints (gone (q.take j))) :: wA w :: bx g (.cells true 0 (P m :: gc)) :: mem m (frees S (gone (q.take j))) :: bx i5 (.cells true 0 w.row) :: many ((q.take j).map wA ++ (q.drop (j + 1)).map wA) :: bx b (.cells true 2 C) :: L) := Sep.pick h8 9 [3, 4, 5, 0, 7, 8, 2, 1, 6] (by decide)
      refine sw1_s h9 (fun h => by cases h) (by omega) (fun hne H14 h14 => ⟨_, rfl, cond_yes rfl ?_⟩) fun he H14 f' h14 => ⟨_, rfl, cond_no rfl ?_⟩
      · have ek : kept (q.take (j + 1)) = kept (q.take j) ++ [w] := by rw [htk, kept_snoc, if_neg hne]
        have eg : gone (q.take (j + 1)) = gone (q.take j) := by rw [htk, gone_snoc, if_neg hne]
        -- b first
        have h15 : Sep H14 (bx b (.cells true 2 C) :: wA w :: many ((q.take j).map wA ++ (q.drop (j + 1)).map wA) :: bx i1 (.cells true 0 [P g]) :: bx i3 (.cells true 0 [.slice (addr (some f)) (gone (q.take j)).length 0]) :: gl 1 (some f) (ints (gone (q.take j))) :: bx g (.cells true 0 (P m :: gc)) :: mem m (frees S (gone (q.take j))) :: bx i5 (.cells true 0 w.row) :: L) := Sep.pick h14 9 [8, 3, 7, 0, 1, 2, 4, 5, 6] (by decide)
        refine ⟨_, _, Sep.lds8 h15 rfl, by unfold inB; omega, asRow_in (Sep.st0 h15 (by rw [Int.toNat_natCast]; simp only [List.length_cons, List.length_nil]; omega) fun H20 h20 => ?_)⟩
        rw [Nat.zero_add, Int.toNat_natCast] at h20
        have h21 : Sep H20 (wA w :: many ((q.take j).map wA ++ (q.drop (j + 1)).map wA) :: bx i1 (.cells true 0 [P g]) :: bx i3 (.cells true 0 [.slice (addr (some f)) (gone (q.take j)).length 0]) :: gl 1 (some f) (ints (gone (q.take j))) :: bx b (.cells true 2 (setAt C ((kept (q.take j)).length * 2) w.row)) :: bx g (.cells true 0 (P m :: gc)) :: mem m (frees S (gone (q.take j))) :: L) := Sep.pick h20 9 [1, 2, 3, 4, 5, 0, 6, 7] (by decide)
        have h22 := (wm_out hw).2 h21
        have wl : w.row.length = 2 := rfl
        refine ⟨q.length - (j + 1), by omega, j + 1, f, setAt C ((kept (q.take j)).length * 2) w.row, by omega, rfl, hw1, ?_, ?_, ?_, ?_, ?_, ?_⟩
        · rw [ek, List.length_append, wrap_i64 (by omega)]; simp
        · rw [eg]; exact hg0
        · rw [setAt_length]; exact hCl
        · rw [ek, List.length_append, rows_append]
          have := setAt_take' w.row C ((kept (q.take j)).length * 2) (by rw [wl]; omega)
          rw [wl, hCt] at this
          rw [show ((kept (q.take j)).length + [w].length) * 2 = (kept (q.take j)).length * 2 + 2 by simp; omega, this]
          rfl
        · rw [setAt_drop' _ _ _ _ (by rw [wl]; omega)]
          have : C.drop ((j + 1) * 2) = (C.drop (j * 2)).drop 2 := by rw [List.drop_drop]; congr 1; omega
          rw [this, hCd, List.drop_append_of_le_length (by rw [rows_len, List.length_drop]; omega)]
          have h2 := rows_drop (q.drop j) 1
          rw [Nat.one_mul, List.drop_drop] at h2
          rw [h2]
        · rw [eg]
          exact Sep.pick h22 7 [1, 2, 3, 4, 0, 5, 6] (by decide)
      · have ek : kept (q.take (j + 1)) = kept (q.take j) := by rw [htk, kept_snoc, if_pos he]
        have eg : gone (q.take (j + 1)) = gone (q.take j) ++ [w.h] := by rw [htk, gone_snoc, if_pos he]
        have h15 : Sep H14 (wA w :: many ((q.take j).map wA ++ (q.drop (j + 1)).map wA) :: bx i1 (.cells true 0 [P g]) :: bx i3 (.cells true 0 [.slice (addr (some f')) (gone (q.take j) ++ [w.h]).length 0]) :: gl 1 (some f') (ints (gone (q.take j) ++ [w.h])) :: bx b (.cells true 2 C) :: bx g (.cells true 0 (P m :: gc)) :: mem m ((frees S (gone (q.take j))).free w.h).2 :: L) := Sep.pick h14 9 [3, 7, 0, 1, 2, 8, 4, 5] (by decide)
        have h16 := (wm_out hw).2 h15
        refine ⟨q.length - (j + 1), by omega, j + 1, f', C, by omega, rfl, hw1, by rw [ek], by rw [eg]; simp, hCl, by rw [ek]; exact hCt, ?_, ?_⟩
        · have : C.drop ((j + 1) * 2) = (C.drop (j * 2)).drop 2 := by rw [List.drop_drop]; congr 1; omega
          rw [this, hCd, List.drop_append_of_le_length (by rw [rows_len, List.length_drop]; omega)]
          have h2 := rows_drop (q.drop j) 1
          rw [Nat.one_mul, List.drop_drop] at h2
          rw [h2]
        · rw [eg, frees_snoc]
          exact Sep.pick h16 7 [1, 2, 3, 4, 0, 5, 6] (by decide)
    · obtain rfl : j = q.length := by simp only [decide_eq_false_iff_not] at h1; omega
      rw [List.take_length] at hCt hg0 hs hkg ⊢
      refine asInt_in ⟨by unfold inS; omega, ⟨⟨_, _, _, Sep.get3 hs, .inr rfl⟩, ?_⟩⟩
      rw [Int.toNat_natCast]
      have hz : q.length - (kept q).length = (q.length - (kept q).length - 1) + 1 := by omega
      generalize q.length - (kept q).length - 1 = z at hz
      rw [hz]
      have hcl : clearA en H3 123 (.slice (some ⟨b, 0 + (kept q).length * 2, none⟩) (z + 1) 0) = storeCellsA H3 b (0 + (kept q).length * 2) (reps (z + 1) [I 0, .map none]) := by kernel_rfl
      have hrz : (reps (z + 1) [I 0, .map none]).length = (z + 1) * 2 := by
        have : ∀ n, (reps n [I 0, Value.map none]).length = n * 2 := by
          intro n
          induction n with
          | zero => rfl
          | succ n ih => simp only [reps, List.length_append, ih, List.length_cons, List.length_nil]; omega
        exact this _
      show asSome (clearA en H3 123 (.slice (some ⟨b, 0 + (kept q).length * 2, none⟩) (z + 1) 0)) _
      rw [hcl]
      have hst : stc H3 b (0 + (kept q).length * 2) (reps (z + 1) [I 0, .map none]) fun H8 => inS ((kept q).length : Int) q.length ∧ slK H8 (some ⟨b, 0, none⟩) 2 0 (kept q).length fun v9 => R v9 H8 := by
        refine Sep.st3 hs (by rw [hrz]; omega) fun H8 h8 => ⟨by unfold inS; omega, ⟨⟨_, _, _, Sep.get3 h8, .inr rfl⟩, ?_⟩⟩
        have ht : (setAt C (0 + (kept q).length * 2) (reps (z + 1) [I 0, .map none])).take ((kept q).length * 2) = rows (kept q) := by rw [setAt_take0 _ _ _ _ (by omega), hCt]
        obtain ⟨J, hsp⟩ : ∃ J, setAt C (0 + (kept q).length * 2) (reps (z + 1) [I 0, .map none]) = rows (kept q) ++ J := ⟨(setAt C (0 + (kept q).length * 2) (reps (z + 1) [I 0, .map none])).drop ((kept q).length * 2), by rw [← ht, List.take_append_drop]⟩
        rw [hsp] at h8
        refine hR H8 (some f) J (fun h => by cases h) (fun h => by cases h) ?_
        have h9 := gl_some.2 (Sep.up3 h8)
        have h10 : Sep H8 (wm q :: bx i1 (.cells true 0 [P g]) :: bx i3 (.cells true 0 [.slice (addr (some f)) (gone q).length 0]) :: gl 1 (some f) (ints (gone q)) :: gl 2 (some b) (rows (kept q) ++ J) :: bx g (.cells true 0 (P m :: gc)) :: mem m (frees S (gone q)) :: L) := Sep.pick h9 7 [4, 1, 2, 3, 0, 5, 6] (by decide)
        exact Sep.pick (wm_filter ne h10) 7 [1, 2, 3, 4, 0, 5, 6] (by decide)
      obtain ⟨H8, e8, k8⟩ := stc_ok hst
      rw [e8]
      exact k8
end Go.Proofs.YtjggeoghlicmdaaGreat
