/-
  Regions that go when nobody can have them: what grace's functions answer.
-/
import Derived.Test.YtjggeoghlicmdaaGreatSmemSep
import Derived.Test.YtjggeoghlicmdaaGreatAs48
import Derived.Test.YtjggeoghlicmdaaGreatVcGr
namespace Go.Proofs.YtjggeoghlicmdaaGreat
open Go Go.AS Go.RowKit
set_option linter.unusedVariables false
variable {H H' : Heap} {R : Value → Heap → Prop} {L M : List Asr} {g m i1 i3 : Nat} {ks : List Int} {k a : Int} {S : Sm} {gc junk : List Value}

/-! ### Sets of agents, as maps -/
def kset (ks : List Int) : KV := ks.map fun k => (k, .bool true)
theorem kset_look : ∀ (ks : List Int) (k : Int), alook (kset ks) k = if k ∈ ks then some (.bool true) else none
  | [], k => rfl
  | a :: ks, k => by
    show (if a = k then some (.bool true) else alook (kset ks) k) = _
    rw [kset_look ks k]
    by_cases h : a = k
    · simp [h]
    · have : ¬ k = a := fun e => h e.symm
      simp [h, this]
theorem kset_put : ∀ {ks : List Int} {k : Int}, k ∉ ks → aput (kset ks) k (.bool true) = kset (ks ++ [k])
  | [], k, _ => rfl
  | a :: ks, k, h => by
    simp only [List.mem_cons, not_or] at h
    show (if a = k then (k, .bool true) :: kset ks else (a, .bool true) :: aput (kset ks) k (.bool true)) = _
    rw [if_neg (fun e => h.1 e.symm), kset_put h.2]; rfl
theorem kset_del : ∀ (ks : List Int) (k : Int), adel (kset ks) k = kset (ks.erase k)
  | [], k => rfl
  | a :: ks, k => by
    show (if a = k then kset ks else (a, .bool true) :: adel (kset ks) k) = _
    rw [kset_del ks k, List.erase_cons]
    by_cases h : a = k
    · simp [h]
    · simp [h, kset]
theorem kset_len (ks : List Int) : (kset ks).length = ks.length := by simp [kset]

theorem inside_m {b : Nat} {K : Bool → Prop} (h : Sep H (im .i64 b (kset ks) :: L)) (a : Int) (hK : K (decide (a ∈ ks))) : ∃ r, AS.mapGet H (.int .i64) (some b) (I a) = some r ∧ ∃ v, got r (.bool false) (.bool v) ∧ K v := by
  refine im_look h a fun r hr => ⟨decide (a ∈ ks), ?_, hK⟩
  rw [kset_look] at hr
  cases r with
  | none =>
    have : a ∉ ks := fun h => by rw [if_pos h] at hr; simp at hr
    show Value.bool false = _
    rw [decide_eq_false this]
  | some p =>
    obtain ⟨n, u⟩ := p
    by_cases ha : a ∈ ks
    · rw [if_pos ha] at hr
      simp only [Option.map_some, Option.some.injEq] at hr
      show u = _
      rw [hr, decide_eq_true ha]
    · rw [if_neg ha] at hr; simp at hr

/-! ### What waits -/
structure Wt where
  h : Int
  mb : Nat
  ws : List Int
structure Gr where
  n : Int
  mi : Nat
  ins : List Int
  q : List Wt
  S : Sm

abbrev Wt.row (w : Wt) : List Value := [I w.h, .map (some w.mb)]
def rows (q : List Wt) : List Value := (q.map Wt.row).flatten
theorem rows_len : ∀ q : List Wt, (rows q).length = q.length * 2
  | [] => rfl
  | w :: q => by
    have e : rows (w :: q) = w.row ++ rows q := rfl
    rw [e, List.length_append, rows_len q]; simp; omega
theorem rows_append (q p : List Wt) : rows (q ++ p) = rows q ++ rows p := by simp [rows]
theorem rows_drop (q : List Wt) (j : Nat) : (rows q).drop (j * 2) = rows (q.drop j) := by
  have hw : ∀ c ∈ q.map Wt.row, c.length = 2 := by intro c hc; obtain ⟨y, _, rfl⟩ := List.mem_map.1 hc; rfl
  have := rowsFlat_drop (q.map Wt.row) j hw
  rw [← List.map_drop] at this
  exact this
def wA (w : Wt) : Asr := im .i64 w.mb (kset w.ws)
def wm (q : List Wt) : Asr := many (q.map wA)

theorem wm_out {q : List Wt} {j : Nat} {w : Wt} (hj : q[j]? = some w) : Sep H (wm q :: L) ↔ Sep H (wA w :: many ((q.take j).map wA ++ (q.drop (j + 1)).map wA) :: L) := by
  have e : q.map wA = (q.take j).map wA ++ ([wA w] ++ (q.drop (j + 1)).map wA) := by
    obtain ⟨hl, hg⟩ := List.getElem?_eq_some_iff.1 hj
    have h1 : q = q.take j ++ (w :: q.drop (j + 1)) := by rw [← hg, ← List.drop_eq_getElem_cons hl, List.take_append_drop]
    conv => lhs; rw [h1]
    rw [List.map_append]; rfl
  unfold wm
  rw [e, Sep.splitM, Sep.many1]
theorem wm_set {q : List Wt} {j : Nat} {w w' : Wt} (hj : q[j]? = some w) : Sep H (wm (q.set j w') :: L) ↔ Sep H (wA w' :: many ((q.take j).map wA ++ (q.drop (j + 1)).map wA) :: L) := by
  have hl := (List.getElem?_eq_some_iff.1 hj).1
  have h1 : (q.set j w')[j]? = some w' := by rw [List.getElem?_set_self hl]
  rw [wm_out h1, List.take_set_of_le (Nat.le_refl _), List.drop_set_of_lt (by omega)]
theorem wm_filter {q : List Wt} (p : Wt → Bool) (h : Sep H (wm q :: L)) : Sep H (wm (q.filter p) :: L) := by
  have h1 := Sep.many_iff.1 h
  refine Sep.many_iff.2 ?_
  have h2 : Sep H (L ++ q.map wA) := h1.perm List.perm_append_comm
  have hs : ((q.filter p).map wA).Sublist (q.map wA) := List.Sublist.map _ List.filter_sublist
  exact (Sep.sub hs _ h2).perm List.perm_append_comm
theorem wm_snoc {q : List Wt} {w : Wt} (h : Sep H (wA w :: wm q :: L)) : Sep H (wm (q ++ [w]) :: L) := by
  refine Sep.many_iff.2 ?_
  have h1 := Sep.many_iff.1 (Sep.up1 h)
  rw [List.map_append]
  have e : q.map wA ++ [w].map wA ++ L = q.map wA ++ (wA w :: L) := by simp
  rw [e]; exact h1

/-- Where a row lies. -/
theorem row_at {b : Nat} {c : List Value} {q : List Wt} {j : Nat} {w : Wt} (hg : H.get b = some (.cells true 2 c)) (hd : c.drop (j * 2) = rows (q.drop j) ++ junk) (hl : j * 2 + 2 ≤ c.length) (hj : q[j]? = some w) : H.cellsAt b (0 + j * 2) 2 = some w.row := by
  rw [cellsAt_of hg, Nat.zero_add]
  unfold takeAt
  rw [if_pos hl, hd]
  obtain ⟨hl, hg⟩ := List.getElem?_eq_some_iff.1 hj
  rw [List.drop_eq_getElem_cons hl, hg]
  rfl

abbrev ints (t : List Int) : List Value := t.map fun v => I v
theorem ints_append (s t : List Int) : ints (s ++ t) = ints s ++ ints t := List.map_append

/-! ### What is swept -/
theorem sw1_s {w : Wt} {f : Option Nat} {hs : List Int} (h : Sep H (bx i1 (.cells true 0 [P g]) :: bx i3 (.cells true 0 [.slice (addr f) hs.length 0]) :: gl 1 f (ints hs) :: wA w :: bx g (.cells true 0 (P m :: gc)) :: mem m S :: L)) (hf : f = none → hs = []) (hl : hs.length < 1000000)
    (hK : w.ws ≠ [] → ∀ H', Sep H' (bx i1 (.cells true 0 [P g]) :: bx i3 (.cells true 0 [.slice (addr f) hs.length 0]) :: gl 1 f (ints hs) :: wA w :: bx g (.cells true 0 (P m :: gc)) :: mem m S :: L) → R (.bool false) H')
    (hF : w.ws = [] → ∀ H' f', Sep H' (bx i1 (.cells true 0 [P g]) :: bx i3 (.cells true 0 [.slice (addr (some f')) (hs ++ [w.h]).length 0]) :: gl 1 (some f') (ints (hs ++ [w.h])) :: wA w :: bx g (.cells true 0 (P m :: gc)) :: mem m (S.free w.h).2 :: L) → R (.bool true) H') :
    CA en F.grace_Grace_sweep_1 [.agg #[I w.h, .map (some w.mb)], P i1, P i3] H R := by
  apply vc_grace_Grace_sweep_1
  refine Sep.nw h fun iw H2 h2 => ⟨_, Sep.ld0 h2 rfl, im_len (Sep.up4 h2) ?_⟩
  rw [kset_len]
  refine cond_of (fun c => ?_) fun c => ?_
  · have c : w.ws ≠ [] := fun e => by rw [e] at c; simp at c
    exact hK c _ h2.tail
  · have c : w.ws = [] := by
      simp only [decide_eq_false_iff_not] at c
      exact List.eq_nil_of_length_eq_zero (by omega)
    have hB := h2.bump 7
    refine asAddr_in ⟨_, Sep.ld1 hB rfl, asAddr_in ⟨_, Sep.ld5 hB rfl, _, Sep.ld0 hB rfl, ?_⟩⟩
    refine free_s (Sep.up6 hB) fun H13 h13 => ⟨_, rfl, ⟨asAddr_in ⟨_, _, Sep.ld3 h13 rfl, _, Sep.ld1 h13 rfl, Sep.nw h13 fun i20 H21 h21 => ⟨[I w.h], rowOf_bx (es := 1) (n := 1) (b := i20) (Sep.get0 h21) (by decide) rfl, ?_⟩⟩, trivial⟩⟩
    refine apd_gl (b := f) (len := hs.length) (n := 1) (cs := ints hs) (new := [I w.h]) (Sep.up5 h21) (fun h => by rw [hf h]; rfl) (by decide) (by simp) (by decide) rfl (by omega) fun H25 f' h25 => ?_
    refine asAddr_in (Sep.st5 h25 (Nat.le_of_ble_eq_true rfl) fun H28 h28 => hF c H28 f' ?_)
    have h29 := Sep.pick h28 8 [4, 5, 0, 6, 7, 2] (by decide)
    rw [List.length_append, ints_append]
    exact h29

theorem take_drop_cons {α : Type} {q : List α} {j : Nat} {w : α} (h : q[j]? = some w) : q.take (j + 1) = q.take j ++ [w] := by rw [List.take_add_one, h]; rfl

def ne (w : Wt) : Bool := !w.ws.isEmpty
theorem ne_iff (w : Wt) : ne w = true ↔ w.ws ≠ [] := by unfold ne; cases w.ws <;> simp
def kept (q : List Wt) : List Wt := q.filter ne
def gone (q : List Wt) : List Int := (q.filter fun w => !ne w).map Wt.h
theorem kept_snoc (q : List Wt) (w : Wt) : kept (q ++ [w]) = if w.ws = [] then kept q else kept q ++ [w] := by
  unfold kept
  rw [List.filter_append]
  by_cases h : w.ws = []
  · have : ne w = false := by unfold ne; rw [h]; rfl
    simp [h, this]
  · have : ne w = true := (ne_iff w).2 h
    simp [h, this]
theorem gone_snoc (q : List Wt) (w : Wt) : gone (q ++ [w]) = if w.ws = [] then gone q ++ [w.h] else gone q := by
  unfold gone
  rw [List.filter_append, List.map_append]
  by_cases h : w.ws = []
  · have : ne w = false := by unfold ne; rw [h]; rfl
    simp [h, this]
  · have : ne w = true := (ne_iff w).2 h
    simp [h, this]
theorem kept_all {q : List Wt} (h : ∀ w ∈ q, w.ws ≠ []) : kept q = q := List.filter_eq_self.2 fun w hw => (ne_iff w).2 (h w hw)
theorem gone_none {q : List Wt} (h : ∀ w ∈ q, w.ws ≠ []) : gone q = [] := by
  unfold gone
  rw [List.filter_eq_nil_iff.2 fun w hw => by rw [(ne_iff w).2 (h w hw)]; decide]
  rfl
def frees (S : Sm) (hs : List Int) : Sm := hs.foldl (fun S h => (S.free h).2) S
theorem frees_snoc (S : Sm) (hs : List Int) (h : Int) : frees S (hs ++ [h]) = ((frees S hs).free h).2 := by unfold frees; rw [List.foldl_append]; rfl

abbrev swF (i1 i3 : Nat) : Value := .func (.func F.grace_Grace_sweep_1) #[] #[P i1, P i3]

/-- The first that waits for nobody. -/
theorem idxSw_s {b : Option Nat} {q : List Wt} {n : Nat} (hn : n = q.length) (h : Sep H (bx i1 (.cells true 0 [P g]) :: bx i3 (.cells true 0 [.slice none 0 0]) :: gl 2 b (rows q ++ junk) :: wm q :: bx g (.cells true 0 (P m :: gc)) :: mem m S :: L)) (hb : b = none → q = []) (hl : q.length < 1000000)
    (hA : (∀ w ∈ q, w.ws ≠ []) → ∀ H', Sep H' (bx i1 (.cells true 0 [P g]) :: bx i3 (.cells true 0 [.slice none 0 0]) :: gl 2 b (rows q ++ junk) :: wm q :: bx g (.cells true 0 (P m :: gc)) :: mem m S :: L) → R (I (-1)) H')
    (hF : ∀ (j : Nat) w, q[j]? = some w → w.ws = [] → (∀ u ∈ q.take j, u.ws ≠ []) → ∀ H' f, Sep H' (bx i1 (.cells true 0 [P g]) :: bx i3 (.cells true 0 [.slice (addr (some f)) [w.h].length 0]) :: gl 1 (some f) (ints [w.h]) :: gl 2 b (rows q ++ junk) :: wm q :: bx g (.cells true 0 (P m :: gc)) :: mem m (S.free w.h).2 :: L) → R (I j) H') :
    CA en F.slices_IndexFunc_grace_wait_grace_wait [.slice (addr b) n 0, swF i1 i3] H R := by
  subst hn
  apply vc_slices_IndexFunc_grace_wait_grace_wait
  refine use_slices_IndexFunc_grace_wait_grace_wait_0 (fun k t4 t8 H => ∃ j : Nat, j ≤ q.length ∧ k = q.length - j ∧ t8 = (j : Int) ∧ (∀ u ∈ q.take j, u.ws ≠ []) ∧ Sep H (bx i1 (.cells true 0 [P g]) :: bx i3 (.cells true 0 [.slice none 0 0]) :: gl 2 b (rows q ++ junk) :: wm q :: bx g (.cells true 0 (P m :: gc)) :: mem m S :: L)) q.length ⟨0, by omega, rfl, rfl, by simp, h⟩ ?_
  clear h
  rintro k t4 t8 ys H3 ⟨j, hj, rfl, rfl, hall, hs⟩
  refine cond_of (fun h1 => ?_) fun h1 => ?_
  · have hj' : j < q.length := by simp only [decide_eq_true_eq] at h1; omega
    obtain ⟨w, hw⟩ : ∃ w, q[j]? = some w := ⟨_, List.getElem?_eq_getElem hj'⟩
    cases b with
    | none => rw [hb rfl] at hj'; simp at hj'
    | some b =>
      have hg : H3.get b = some (.cells true 2 (rows q ++ junk)) := gl_get (Sep.up2 hs)
      have hrow := row_at (junk := junk) (j := j) (w := w) hg (by rw [List.drop_append_of_le_length (by rw [rows_len]; omega), rows_drop]) (by rw [List.length_append, rows_len]; omega) hw
      refine ⟨by unfold inB; omega, asRow_in ⟨_, _, hrow, asFn_in ⟨Option.isSome_iff_exists.1 (by kernel_rfl), ?_⟩⟩⟩
      -- i1 i3 gl wm g mem -> wm first
      have h2 := (wm_out hw).1 (Sep.up3 hs)
      have h3 : Sep H3 (bx i1 (.cells true 0 [P g]) :: bx i3 (.cells true 0 [.slice (addr none) ([] : List Int).length 0]) :: gl 1 none (ints []) :: wA w :: bx g (.cells true 0 (P m :: gc)) :: mem m S :: many ((q.take j).map wA ++ (q.drop (j + 1)).map wA) :: gl 2 (some b) (rows q ++ junk) :: L) := by
        have h4 := Sep.pick h2 7 [2, 3, 0, 5, 6, 1, 4] (by decide)
        have h5 : Sep H3 (bx i1 (.cells true 0 [P g]) :: bx i3 (.cells true 0 [.slice none 0 0]) :: wA w :: bx g (.cells true 0 (P m :: gc)) :: mem m S :: many ((q.take j).map wA ++ (q.drop (j + 1)).map wA) :: gl 2 (some b) (rows q ++ junk) :: L) := h4
        exact Sep.up2 (Sep.up2 (gl_none.2 h5))
      refine sw1_s h3 (fun _ => rfl) (by simp) (fun hne H9 h9 => ⟨_, rfl, cond_no rfl ?_⟩) fun he H9 f h9 => ⟨_, rfl, cond_yes rfl ?_⟩
      · refine ⟨q.length - (j + 1), by omega, j + 1, by omega, rfl, ?_, ?_, ?_⟩
        · rw [wrap_i64 (by omega)]; omega
        · rw [take_drop_cons hw]
          intro u hu
          rcases List.mem_append.1 hu with hu | hu
          · exact hall u hu
          · simp at hu; subst hu; exact hne
        · have h10 := Sep.pick h9 8 [3, 6, 0, 1, 7, 4, 5] (by decide)
          have h11 : Sep H9 (wA w :: many ((q.take j).map wA ++ (q.drop (j + 1)).map wA) :: bx i1 (.cells true 0 [P g]) :: bx i3 (.cells true 0 [.slice none 0 0]) :: gl 2 (some b) (rows q ++ junk) :: bx g (.cells true 0 (P m :: gc)) :: mem m S :: L) := h10
          exact Sep.pick ((wm_out hw).2 h11) 6 [1, 2, 3, 0, 4, 5] (by decide)
      · refine asInt_in ?_
        refine hF j w hw he hall _ f ?_
        have h10 := Sep.pick h9 8 [3, 6, 0, 1, 2, 7, 4, 5] (by decide)
        have h11 : Sep H9 (wA w :: many ((q.take j).map wA ++ (q.drop (j + 1)).map wA) :: bx i1 (.cells true 0 [P g]) :: bx i3 (.cells true 0 [.slice (addr (some f)) [w.h].length 0]) :: gl 1 (some f) (ints [w.h]) :: gl 2 (some b) (rows q ++ junk) :: bx g (.cells true 0 (P m :: gc)) :: mem m (S.free w.h).2 :: L) := h10
        exact Sep.pick ((wm_out hw).2 h11) 7 [1, 2, 3, 4, 0, 5, 6] (by decide)
  · obtain rfl : j = q.length := by simp only [decide_eq_false_iff_not] at h1; omega
    rw [List.take_length] at hall
    exact asInt_in (hA hall H3 hs)
end Go.Proofs.YtjggeoghlicmdaaGreat
