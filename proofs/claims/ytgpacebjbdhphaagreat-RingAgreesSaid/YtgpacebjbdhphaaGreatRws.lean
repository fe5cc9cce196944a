/-
  Rows of blocks, agents' cells, values that are the same; wherever they stand.
-/
import Derived.Test.YtgpacebjbdhphaaGreatHarness
import Derived.Test.YtgpacebjbdhphaaGreatSmem
namespace Go.Proofs.YtgpacebjbdhphaaGreat
open Go Go.AS Go.RowKit
set_option linter.unusedVariables false
variable {H H' H0 : Heap} {R : Value → Heap → Prop} {L M : List Asr} {a b : Option Addr} {ws vs : List (BitVec 64)}

theorem Sep.nwx' {o : AS.Obj} {K : Nat → Heap → Prop} (h : Sep H L) (k : Sep (H.new o) (bx H.next o :: L) → K H.next (H.new o)) : nwH H o K := k (h.new o)
/-! ### A row of a block, wherever the block stands -/
section
variable {i w k j o n : Nat} {ow : Bool} {css : List (List Value)} {row : List Value}
theorem rowld {v : Value} (h : Sep H L) (j : Nat) (hj : L[j]? = some (bx i (.cells ow w (css.set k row).flatten))) (hw : ∀ c ∈ css, c.length = w) (hr : row.length = w) (hk : k < css.length) (ho : row[o]? = some v) : H.cell i (0 + k * w + o) = some v := by
  have hlt : o < w := by have := (List.getElem?_eq_some_iff.1 ho).1; omega
  have hk' : k < (css.set k row).length := by simpa using hk
  rw [cell_of (h.get j hj), Nat.zero_add, rowsFlat_cell (set_rows hw hr) hk' hlt]
  simpa using ho
theorem rowld0 {v : Value} (h : Sep H L) (j : Nat) (hj : L[j]? = some (bx i (.cells ow w (css.set k row).flatten))) (hw : ∀ c ∈ css, c.length = w) (hr : row.length = w) (hk : k < css.length) (ho : row[0]? = some v) : H.cell i (0 + k * w) = some v := rowld (o := 0) h j hj hw hr hk ho
theorem takeAt_row {cs : List Value} {vs : List Value} (h : takeAt row o n = some vs) : ∃ p q, row = p ++ (vs ++ q) ∧ p.length = o ∧ vs.length = n := by
  unfold takeAt at h
  split at h
  · rename_i hl
    obtain rfl := Option.some.inj h
    refine ⟨row.take o, (row.drop o).drop n, ?_, by rw [List.length_take]; omega, by rw [List.length_take, List.length_drop]; omega⟩
    rw [List.take_append_drop, List.take_append_drop]
  · cases h
theorem rowlds {vs : List Value} (h : Sep H L) (j : Nat) (hj : L[j]? = some (bx i (.cells ow w (css.set k row).flatten))) (hw : ∀ c ∈ css, c.length = w) (hr : row.length = w) (hk : k < css.length) (ho : takeAt row o n = some vs) : H.cellsAt i (0 + k * w + o) n = some vs := by
  have hk' : k < (css.set k row).length := by simpa using hk
  have h1 := rowsFlat_len _ (set_rows (k := k) hw hr)
  have hle : k * w + w ≤ (css.set k row).length * w := by rw [← Nat.succ_mul]; exact Nat.mul_le_mul_right _ hk'
  rw [cellsAt_of (h.get j hj), Nat.zero_add]
  unfold takeAt at ho ⊢
  split at ho
  · rename_i hl
    rw [if_pos (by omega), ← List.drop_drop, rowsFlat_drop _ k (set_rows hw hr), List.drop_eq_getElem_cons hk', List.flatten_cons]
    have e : (css.set k row)[k] = row := by simp
    rw [e, List.drop_append_of_le_length (by omega), List.take_append_of_le_length (by rw [List.length_drop]; omega)]
    exact ho
  · cases ho
theorem setAt_app : ∀ (vs : List Value) (p m q : List Value), m.length = vs.length → setAt (p ++ (m ++ q)) p.length vs = p ++ (vs ++ q)
  | [], p, m, q, h => by
    have : m = [] := List.eq_nil_of_length_eq_zero h
    subst this; rfl
  | v :: vs, p, m, q, h => by
    cases m with
    | nil => simp at h
    | cons x m =>
      have e1 : (p ++ (x :: m ++ q)).set p.length v = (p ++ [v]) ++ (m ++ q) := by simp
      show setAt ((p ++ (x :: m ++ q)).set p.length v) (p.length + 1) vs = _
      have e2 : p.length + 1 = (p ++ [v]).length := by simp
      rw [e1, e2, setAt_app vs (p ++ [v]) m q (by simpa using h)]
      simp
theorem rowst {vs : List Value} {K : Heap → Prop} (h : Sep H L) (j : Nat) (hj : L[j]? = some (bx i (.cells true w (css.set k row).flatten))) (hw : ∀ c ∈ css, c.length = w) (hr : row.length = w) (hk : k < css.length) (ho : o + vs.length ≤ w)
    (r : ∀ H', Sep H' (L.set j (bx i (.cells true w (css.set k (setAt row o vs)).flatten))) → K H') : stc H i (0 + k * w + o) vs K := by
  have hk' : k < (css.set k row).length := by simpa using hk
  have hlen := rowsFlat_len _ (set_rows (k := k) hw hr)
  have hle : k * w + w ≤ (css.set k row).length * w := by rw [← Nat.succ_mul]; exact Nat.mul_le_mul_right _ hk'
  refine Sep.st h j hj (by omega) fun H' h' => r H' ?_
  have e : setAt (css.set k row).flatten (0 + k * w + o) vs = (css.set k (setAt row o vs)).flatten := by
    have hkc : (css.set k row)[k]? = some row := by rw [List.getElem?_set_self hk]
    have s1 : css.set k row = css.take k ++ row :: css.drop (k + 1) := by rw [List.set_eq_take_append_cons_drop, if_pos hk]
    have s2 : css.set k (setAt row o vs) = css.take k ++ setAt row o vs :: css.drop (k + 1) := by rw [List.set_eq_take_append_cons_drop, if_pos hk]
    have l1 : (css.take k).flatten.length = k * w := by
      rw [rowsFlat_len (w := w) _ fun c hc => hw c (List.mem_of_mem_take hc), List.length_take, Nat.min_eq_left (by omega)]
    obtain ⟨p, q, ep, lp, lm⟩ := takeAt_row (row := row) (o := o) (n := vs.length) (cs := row) (vs := (row.drop o).take vs.length) (by unfold takeAt; rw [if_pos (by omega)])
    rw [s1, s2, List.flatten_append, List.flatten_append, List.flatten_cons, List.flatten_cons]
    generalize hm : (row.drop o).take vs.length = m at *
    have e3 : setAt row o vs = p ++ (vs ++ q) := by
      conv => lhs; rw [ep]
      rw [← lp]; exact setAt_app vs p m q lm
    rw [e3]
    have e4 : (css.take k).flatten ++ (row ++ (css.drop (k + 1)).flatten) = ((css.take k).flatten ++ p) ++ (m ++ (q ++ (css.drop (k + 1)).flatten)) := by
      conv => lhs; rw [ep]
      simp
    have e5 : 0 + k * w + o = ((css.take k).flatten ++ p).length := by rw [List.length_append, l1, lp]; omega
    rw [e4, e5, setAt_app vs _ m _ lm]
    simp
  rw [e] at h'
  exact h'
theorem rowst0 {vs : List Value} {K : Heap → Prop} (h : Sep H L) (j : Nat) (hj : L[j]? = some (bx i (.cells true w (css.set k row).flatten))) (hw : ∀ c ∈ css, c.length = w) (hr : row.length = w) (hk : k < css.length) (ho : vs.length ≤ w)
    (r : ∀ H', Sep H' (L.set j (bx i (.cells true w (css.set k (setAt row 0 vs)).flatten))) → K H') : stc H i (0 + k * w) vs K := rowst (o := 0) h j hj hw hr hk (by omega) r
end

theorem or_wrap (a b : BitVec 64) : IntKind.u64.wrap (((BitVec.ofInt 64 (a.toNat : Int) ||| BitVec.ofInt 64 (b.toNat : Int)).toNat : Nat) : Int) = (((a ||| b).toNat : Nat) : Int) := by
  rw [ofInt_bv, ofInt_bv, wrap_bv]
theorem wds_get {j : Nat} (h : j < ws.length) : (wds ws)[0 + j * 1]? = some (W (ws.getD j 0)) := by
  rw [Nat.zero_add, Nat.mul_one, List.getElem?_map, List.getElem?_eq_getElem h, List.getD_eq_getElem?_getD, List.getElem?_eq_getElem h]; rfl

theorem setAt1 (cs : List Value) (o : Nat) (v : Value) : setAt cs o [v] = cs.set o v := rfl
theorem rdw_bx {q : Nat} (hm : bx q (.cells true 1 (wds ws)) ∈ L) : RdW L (some ⟨q, 0, none⟩) ws := by
  intro H' hs j x hx
  have hg : H'.get q = some (.cells true 1 (wds ws)) := hs.all _ hm
  exact ⟨q, rfl, by rw [cell_of hg, Nat.zero_add, Nat.mul_one, List.getElem?_map, hx]; rfl⟩

/-! ### What agents are about -/
structure Ak where
  run : Option Addr
  kind : Int
  key : Int
  va : Option Addr
  vn : Nat
  fl : Int
  cp : Int
  at_ : Nat
  had : Bool
  no : Int
  ra : Option Addr
  rn : Nat
  rk : Int
  re : Int
abbrev Ak.cells (k : Ak) : List Value := [.pointer k.run, I k.kind, .int .u64 k.key, .slice k.va k.vn 0, I k.fl, I k.cp, I k.at_, .bool k.had, I k.no, .slice k.ra k.rn 0, .int .u64 k.rk, I k.re]
theorem ak_len (As : List Ak) : ∀ c ∈ As.map Ak.cells, c.length = 12 := by
  intro c hc; obtain ⟨v, _, rfl⟩ := List.mem_map.1 hc; rfl
theorem ak_set {As : List Ak} {k : Nat} {x : Ak} {row : List Value} (h : row = x.cells) : (As.map Ak.cells).set k row = (As.set k x).map Ak.cells := by rw [h, List.map_set]
theorem ak_row {As : List Ak} {k : Nat} {x : Ak} (h : As[k]? = some x) : (As.map Ak.cells).set k x.cells = As.map Ak.cells := by
  refine set_same ?_
  rw [List.getElem?_map, h]; rfl
theorem sameRes (a k e : Int) (p : Option Addr) (l : Nat) : sameN 8 (.agg #[.int .i64 a, .slice p l 0, .int .u64 k, .int .i64 e]) (.agg #[.int .i64 a, .slice p l 0, .int .u64 k, .int .i64 e]) = true := by simp [sameN, sameN.sameL]
theorem sameD (a b c d e : Int) : sameN 8 (.agg #[.int .i64 a, .int .i64 b, .int .i64 c, .int .i64 d, .int .i64 e]) (.agg #[.int .i64 a, .int .i64 b, .int .i64 c, .int .i64 d, .int .i64 e]) = true := by simp [sameN, sameN.sameL]
theorem sameL_refl : ∀ (c : List Value), (∀ v ∈ c, sameN 8 v v = true) → sameN.sameL 8 c c = true
  | [], _ => rfl
  | v :: c, h => by
    show (sameN 8 v v && sameN.sameL 8 c c) = true
    rw [h v (by simp), sameL_refl c fun w hw => h w (by simp [hw])]; rfl
theorem sameObj_refl {z : Nat} {c : List Value} (h : ∀ v ∈ c, sameN 8 v v = true) : sameObj (.cells true z c) (.cells true z c) = true := by
  show (Nat.beq z z && sameN.sameL 8 c c) = true
  rw [sameL_refl c h, Nat.beq_refl]; rfl
theorem mem_reps {v : Value} {z : List Value} : ∀ {n : Nat}, v ∈ reps n z → v ∈ z
  | 0, h => by simp [reps] at h
  | n + 1, h => by
    simp only [reps, List.mem_append] at h
    rcases h with h | h
    · exact h
    · exact mem_reps h
theorem reps_w (n : Nat) : reps n [.int .u64 0] = wds (List.replicate n 0) := by
  rw [reps_one]
  show _ = (List.replicate n (0 : BitVec 64)).map W
  rw [List.map_replicate]; rfl

end Go.Proofs.YtgpacebjbdhphaaGreat
