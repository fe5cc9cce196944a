/-
  Lists of bytes and of instructions: copies, comparisons; the known ones.
-/
import Derived.Test.YtmgkngdbphkmmaaDoorInsnGet
import Derived.Test.YtmgkngdbphkmmaaDoorVcJ
namespace Go.Proofs.YtmgkngdbphkmmaaDoor
open Go Go.AS Go.RowKit
set_option linter.unusedVariables false
variable {H H' : Heap} {R : Value → Heap → Prop} {L M : List Asr} {a b : Option Addr} {cs bs : List Nat} {l m : List Ins}

def RdB (L : List Asr) (a : Option Addr) (bs : List Nat) : Prop :=
  ∀ H', Sep H' L → ∀ (j : Nat) b, bs[j]? = some b → ∃ i, a = some ⟨i, 0, none⟩ ∧ H'.cell i (0 + j * 1) = some (Y b)

theorem flatI_take (l : List Ins) {j : Nat} {x : Ins} (h : l[j]? = some x) : takeAt (flatI l) (j * 5) 5 = some x.cells := by
  have hw : ∀ c ∈ l.map Ins.cells, c.length = 5 := by intro c hc; obtain ⟨y, _, rfl⟩ := List.mem_map.1 hc; rfl
  obtain ⟨hj, e⟩ := List.getElem?_eq_some_iff.1 h
  have := rowsFlat_takeAt hw (j := j) (by simpa using hj)
  rw [List.getElem_map, e] at this
  exact this

theorem rds_gl {q : Option Nat} (hm : gl 5 q (flatI l) ∈ L) (hq : q = none → l = []) : Rds L (addr q) l := by
  intro H' hs j x hx
  cases q with
  | none => rw [hq rfl] at hx; simp at hx
  | some q =>
    have hg : H'.get q = some (.cells true 5 (flatI l)) := (hs.all _ hm) (bx q (.cells true 5 (flatI l))) (by simp)
    exact ⟨q, rfl, by rw [cellsAt_of hg, Nat.zero_add]; exact flatI_take l hx⟩
theorem rds_arg {n : Nat} (ha : Arg a n (l.map Ins.cells) M) (hM : ∀ A ∈ M, A ∈ L) : Rds L a l := by
  intro H' hs j x hx
  have hw : ∀ c ∈ l.map Ins.cells, c.length = 5 := by intro c hc; obtain ⟨y, _, rfl⟩ := List.mem_map.1 hc; rfl
  obtain ⟨hj, e⟩ := List.getElem?_eq_some_iff.1 hx
  obtain ⟨i, h1, h2, _⟩ := ha.row hs hM hw (j := j) (by simpa using hj)
  refine ⟨i, h1, ?_⟩
  rw [List.getElem_map, e] at h2
  exact h2
theorem rdb_gl {q : Option Nat} (hm : gl 1 q (bs.map Y) ∈ L) (hq : q = none → bs = []) : RdB L (addr q) bs := by
  intro H' hs j x hx
  cases q with
  | none => rw [hq rfl] at hx; simp at hx
  | some q =>
    have hg : H'.get q = some (.cells true 1 (bs.map Y)) := (hs.all _ hm) (bx q (.cells true 1 (bs.map Y))) (by simp)
    exact ⟨q, rfl, by rw [cell_of hg, Nat.zero_add, Nat.mul_one, List.getElem?_map, hx]; rfl⟩
theorem rdb_bx {i z : Nat} {w : Bool} {c : List Value} (hm : bx i (.cells w z c) ∈ L) (hc : Bytes c 0 bs) : RdB L (some ⟨i, 0, none⟩) bs := by
  intro H' hs j x hx
  have hg : H'.get i = some (.cells w z c) := hs.all _ hm
  exact ⟨i, rfl, by rw [cell_of hg, Nat.mul_one]; exact hc j x hx⟩

theorem SameBytes_s (h : Sep H L) (ra : RdB L a cs) (rb : RdB L b bs) (hn : cs.length < 4611686018427387904) (hR : ∀ H', Sep H' L → R (.bool (decide (cs = bs))) H') : CA en F.crossbarkit_SameBytes [.slice a cs.length 0, .slice b bs.length 0] H R := by
  apply vc_crossbarkit_SameBytes
  refine cond_of (fun hl => ?_) fun hl => ?_
  · have hl : cs.length ≠ bs.length := by intro e; rw [e] at hl; simp at hl
    have := hR H h
    rw [decide_eq_false (fun e => hl (by rw [e]))] at this
    exact this
  have hl : cs.length = bs.length := by
    have : ((cs.length : Nat) : Int) = ((bs.length : Nat) : Int) := by simpa using hl
    omega
  refine use_crossbarkit_SameBytes_0 (fun k _ t5 H => ∃ j : Nat, j ≤ cs.length ∧ k = cs.length - j ∧ t5 = (j : Int) ∧ cs.take j = bs.take j ∧ Sep H L) cs.length ⟨0, by omega, rfl, rfl, by simp, h⟩ ?_
  clear h
  rintro k t4 t5 ys H3 ⟨j, hj, rfl, rfl, he, hs⟩
  refine cond_of (fun h1 => ?_) fun h1 => ?_
  · simp only [decide_eq_true_eq] at h1
    have hj' : j < cs.length := by omega
    obtain ⟨x, hx⟩ : ∃ x, cs[j]? = some x := ⟨_, List.getElem?_eq_getElem hj'⟩
    obtain ⟨y, hy⟩ : ∃ y, bs[j]? = some y := ⟨_, List.getElem?_eq_getElem (by omega)⟩
    have hB := hs.bump 9
    obtain ⟨i, rfl, e1⟩ := ra _ hB j x hx
    obtain ⟨i', rfl, e2⟩ := rb _ hB j y hy
    refine ⟨by unfold inB; omega, asRow_in ⟨_, e1, by unfold inB; omega, asRow_in ⟨_, e2, ⟨cond_of (fun hne => ?_) fun hne => ?_, trivial⟩⟩⟩⟩
    · have hne : ¬ x = y := by intro e; rw [e] at hne; simp at hne
      have := hR _ hB
      rw [decide_eq_false (fun e => by rw [e, hy] at hx; exact hne (Option.some.inj hx).symm)] at this
      exact asBool_in this
    · have hne : x = y := by have : (x : Int) = (y : Int) := by simpa using hne
                             omega
      refine ⟨cs.length - (j + 1), by omega, j + 1, by omega, rfl, ?_, ?_, hB⟩
      · rw [wrap_i64 (by omega)]; omega
      · rw [List.take_add_one, List.take_add_one, he, hx, hy, hne]
  · simp only [decide_eq_false_iff_not] at h1
    obtain rfl : j = cs.length := by omega
    have e : cs = bs := by
      rw [List.take_length, List.take_of_length_le (by omega)] at he
      exact he
    have := hR H3 hs
    rw [decide_eq_true e] at this
    exact asBool_in this

theorem ins_ext (x y : Ins) : ((x.op == y.op) && ((x.dst == y.dst) && ((x.src == y.src) && ((x.off == y.off) && (x.imm == y.imm))))) = decide (x = y) := by
  obtain ⟨a, b, c, d, e⟩ := x
  obtain ⟨a', b', c', d', e'⟩ := y
  rw [Bool.eq_iff_iff]
  simp

theorem SameInsns_s (h : Sep H L) (ra : Rds L a l) (rb : Rds L b m) (hn : l.length < 4611686018427387904) (hR : ∀ H', Sep H' L → R (.bool (decide (l = m))) H') : CA en F.crossbarkit_SameInsns [.slice a l.length 0, .slice b m.length 0] H R := by
  apply vc_crossbarkit_SameInsns
  refine cond_of (fun hl => ?_) fun hl => ?_
  · have hl : l.length ≠ m.length := by intro e; rw [e] at hl; simp at hl
    have := hR H h
    rw [decide_eq_false (fun e => hl (by rw [e]))] at this
    exact this
  have hl : l.length = m.length := by
    have : ((l.length : Nat) : Int) = ((m.length : Nat) : Int) := by simpa using hl
    omega
  refine use_crossbarkit_SameInsns_0 (fun k _ t5 H => ∃ j : Nat, j ≤ l.length ∧ k = l.length - j ∧ t5 = (j : Int) ∧ l.take j = m.take j ∧ Sep H L) l.length ⟨0, by omega, rfl, rfl, by simp, h⟩ ?_
  clear h
  rintro k t4 t5 ys H3 ⟨j, hj, rfl, rfl, he, hs⟩
  refine cond_of (fun h1 => ?_) fun h1 => ?_
  · simp only [decide_eq_true_eq] at h1
    have hj' : j < l.length := by omega
    obtain ⟨x, hx⟩ : ∃ x, l[j]? = some x := ⟨_, List.getElem?_eq_getElem hj'⟩
    obtain ⟨y, hy⟩ : ∃ y, m[j]? = some y := ⟨_, List.getElem?_eq_getElem (by omega)⟩
    have hB := hs.bump 9
    obtain ⟨i, rfl, e1⟩ := ra _ hB j x hx
    obtain ⟨i', rfl, e2⟩ := rb _ hB j y hy
    refine ⟨by unfold inB; omega, asRow_in ⟨_, _, _, _, _, e1, by unfold inB; omega, asRow_in ⟨_, _, _, _, _, e2, ⟨?_, trivial⟩⟩⟩⟩
    rw [ins_ext]
    refine cond_of (fun hne => ?_) fun hne => ?_
    · have hne : ¬ x = y := by simpa using hne
      have := hR _ hB
      rw [decide_eq_false (fun e => by rw [e, hy] at hx; exact hne (Option.some.inj hx).symm)] at this
      exact asBool_in this
    · have hne : x = y := by simpa using hne
      refine ⟨l.length - (j + 1), by omega, j + 1, by omega, rfl, ?_, ?_, hB⟩
      · rw [wrap_i64 (by omega)]; omega
      · rw [List.take_add_one, List.take_add_one, he, hx, hy, hne]
  · simp only [decide_eq_false_iff_not] at h1
    obtain rfl : j = l.length := by omega
    have e : l = m := by
      rw [List.take_length, List.take_of_length_le (by omega)] at he
      exact he
    have := hR H3 hs
    rw [decide_eq_true e] at this
    exact asBool_in this

theorem CopyBytes_s (h : Sep H L) (ra : RdB L a cs) (hn : cs.length < 70000000000000) (hR : ∀ H' q, (q = none → cs = []) → Sep H' (gl 1 q (cs.map Y) :: L) → R (.slice (addr q) cs.length 0) H') : CA en F.crossbarkit_CopyBytes [.slice a cs.length 0] H R := by
  apply vc_crossbarkit_CopyBytes
  refine use_crossbarkit_CopyBytes_0 (fun k t3 t3l t4 H => ∃ (j : Nat) (q : Option Nat), j ≤ cs.length ∧ k = cs.length - j ∧ t4 = (j : Int) ∧ t3 = addr q ∧ t3l = j ∧ (q = none → j = 0) ∧ Sep H (gl 1 q ((cs.take j).map Y) :: L)) cs.length ⟨0, none, by omega, rfl, rfl, rfl, rfl, fun _ => rfl, gl_none.2 h⟩ ?_
  clear h
  rintro k t3 t3l t4 ys H3 ⟨j, q, hj, rfl, rfl, rfl, rfl, hq, hs⟩
  refine cond_of (fun h1 => ?_) fun h1 => ?_
  · simp only [decide_eq_true_eq] at h1
    have hj' : t3l < cs.length := by omega
    obtain ⟨x, hx⟩ : ∃ x, cs[t3l]? = some x := ⟨_, List.getElem?_eq_getElem hj'⟩
    obtain ⟨i, rfl, e1⟩ := ra _ hs.tail t3l x hx
    refine ⟨by unfold inB; omega, asRow_in ⟨_, e1, Sep.nw hs fun i4 H5 h5 => ⟨[Y x], rowOf_bx (es := 1) (n := 1) (b := i4) (Sep.get0 h5) (by decide) rfl, ?_⟩⟩⟩
    refine apd_gl (b := q) (len := t3l) (n := 1) (cs := (cs.take t3l).map Y) (new := [Y x]) (Sep.up1 h5) (fun h => by rw [hq h]; rfl) (by decide) (by rw [List.length_map, List.length_take]; omega) (by decide) rfl (by omega) fun H' q' h' => ⟨cs.length - (t3l + 1), by omega, t3l + 1, some q', by omega, rfl, ?_, rfl, rfl, (fun h => by cases h), ?_⟩
    · rw [wrap_i64 (by omega)]; omega
    · rw [take_snoc' hx, List.map_append]
      exact Sep.rm1 h'
  · simp only [decide_eq_false_iff_not] at h1
    obtain rfl : t3l = cs.length := by omega
    rw [List.take_length] at hs
    exact asSl_in (hR H3 q (fun h => List.eq_nil_of_length_eq_zero (hq h)) hs)

theorem CopyInsns_s (h : Sep H L) (ra : Rds L a l) (hn : l.length < 1000000000000) (hR : ∀ H' q, (q = none → l = []) → Sep H' (gl 5 q (flatI l) :: L) → R (.slice (addr q) l.length 0) H') : CA en F.crossbarkit_CopyInsns [.slice a l.length 0] H R := by
  apply vc_crossbarkit_CopyInsns
  refine use_crossbarkit_CopyInsns_0 (fun k t3 t3l t4 H => ∃ (j : Nat) (q : Option Nat), j ≤ l.length ∧ k = l.length - j ∧ t4 = (j : Int) ∧ t3 = addr q ∧ t3l = j ∧ (q = none → j = 0) ∧ Sep H (gl 5 q (flatI (l.take j)) :: L)) l.length ⟨0, none, by omega, rfl, rfl, rfl, rfl, fun _ => rfl, gl_none.2 h⟩ ?_
  clear h
  rintro k t3 t3l t4 ys H3 ⟨j, q, hj, rfl, rfl, rfl, rfl, hq, hs⟩
  refine cond_of (fun h1 => ?_) fun h1 => ?_
  · simp only [decide_eq_true_eq] at h1
    have hj' : t3l < l.length := by omega
    obtain ⟨x, hx⟩ : ∃ x, l[t3l]? = some x := ⟨_, List.getElem?_eq_getElem hj'⟩
    obtain ⟨i, rfl, e1⟩ := ra _ hs.tail t3l x hx
    refine ⟨by unfold inB; omega, asRow_in ⟨_, _, _, _, _, e1, Sep.nw hs fun i4 H5 h5 => ⟨x.cells, rowOf_bx (es := 5) (n := 1) (b := i4) (Sep.get0 h5) (by decide) rfl, ?_⟩⟩⟩
    refine apd_gl (b := q) (len := t3l) (n := 1) (cs := flatI (l.take t3l)) (new := x.cells) (Sep.up1 h5) (fun h => by rw [hq h]; rfl) (by decide) (by rw [flatI_len, List.length_take]; omega) (by decide) rfl (by omega) fun H' q' h' => ⟨l.length - (t3l + 1), by omega, t3l + 1, some q', by omega, rfl, ?_, rfl, rfl, (fun h => by cases h), ?_⟩
    · rw [wrap_i64 (by omega)]; omega
    · rw [take_snoc' hx, flatI_snoc]
      exact Sep.rm1 h'
  · simp only [decide_eq_false_iff_not] at h1
    obtain rfl : t3l = l.length := by omega
    rw [List.take_length] at hs
    exact asSl_in (hR H3 q (fun h => List.eq_nil_of_length_eq_zero (hq h)) hs)

/-- An append of any number. -/
theorem apd_any {es : Nat} {q : Option Nat} {cs new : List Value} {bytes len n : Nat} {K : Option Addr → Nat → Heap → Prop} (h : Sep H (gl es q cs :: L)) (hb : q = none → cs = []) (hes : 0 < es) (hlen : cs.length = len * es)
    (hnew : new.length = n * es) (hby : (len + n) * bytes ≤ 140737488355328) (k : ∀ H' q', (q' = none → cs ++ new = []) → Sep H' (gl es q' (cs ++ new) :: L) → K (addr q') (len + n) H') : apd H bytes es (addr q) len n new K := by
  rcases Nat.eq_zero_or_pos n with rfl | hn
  · have e : new = [] := List.eq_nil_of_length_eq_zero (by rw [hnew, Nat.zero_mul])
    subst e
    refine .inl ⟨rfl, ?_⟩
    have := k H q (fun e => by rw [hb e]; rfl)
    rw [List.append_nil] at this
    exact this h
  · exact apd_gl h hb hes hlen hn hnew hby fun H' q' h' => k H' (some q') (fun e => by cases e) h'

theorem rowOf_nil {es : Nat} {q : Option Nat} : rowOf H es (addr q) 0 = some [] := by
  cases q with
  | none => rfl
  | some i =>
    show (if 0 * es = 0 then some [] else match H.get i with | some (.cells _ _ c) => takeAt c 0 (0 * es) | _ => none) = some []
    rw [if_pos (Nat.zero_mul _)]

theorem rowOf_arg {n w : Nat} {css : List (List Value)} (ha : Arg a n css M) (hs : Sep H L) (hM : ∀ A ∈ M, A ∈ L) (hw : ∀ c ∈ css, c.length = w) (h0 : 0 < w) : rowOf H w a n = some css.flatten := by
  cases ha with
  | none => exact rowOf_nil (q := none)
  | some i css =>
    rcases Nat.eq_zero_or_pos css.length with e | e
    · rw [e, List.eq_nil_of_length_eq_zero e]; exact rowOf_nil (q := some i)
    · have hg : H.get i = some (.cells false 0 css.flatten) := hs.all (bx i (.cells false 0 css.flatten)) (hM _ (by simp))
      refine rowOf_bx hg (Nat.mul_pos e h0) ?_
      rw [← rowsFlat_len css hw]
      exact takeAt_all' _

theorem rowOf_gl {es n : Nat} {q : Option Nat} {cs : List Value} (hs : Sep H L) (hm : gl es q cs ∈ L) (hq : q = none → cs = []) (hl : cs.length = n * es) (h0 : 0 < es) : rowOf H es (addr q) n = some cs := by
  rcases Nat.eq_zero_or_pos n with e | e
  · subst e
    rw [List.eq_nil_of_length_eq_zero (l := cs) (by rw [hl, Nat.zero_mul])]; exact rowOf_nil
  · cases q with
    | none =>
      rw [hq rfl] at hl
      have := Nat.mul_pos e h0
      simp only [List.length_nil] at hl
      omega
    | some q =>
      have hg : H.get q = some (.cells true es cs) := (hs.all _ hm) (bx q (.cells true es cs)) (by simp)
      refine rowOf_bx hg (Nat.mul_pos e h0) ?_
      rw [← hl]
      exact takeAt_all' _

/-! ### The known ones -/
theorem bytes_s {x : Ins} {i : Nat} {want : List Nat} (h : Sep H (bx i (.cells true 1 (want.map Y)) :: gh :: ga :: L)) (he : putErr [x] = 0) (hp : puts [x] = want) (hR : ∀ H', Sep H' (gh :: ga :: L) → R (.bool true) H') :
    CA en F.crossbarlaw02_bytes [x.val, .slice (some ⟨i, 0, none⟩) want.length 0] H R := by
  apply vc_crossbarlaw02_bytes
  refine Sep.nw h fun i1 H2 h2 => ⟨_, _, _, _, _, Sep.lds0 h2 rfl, Sep.nw h2 fun i8 H9 h9 => ?_⟩
  -- i8 i1 want gh ga
  have h10 : Sep H9 (gh :: ga :: bx i8 (.cells true 5 x.cells) :: bx i1 (.cells true 0 x.cells) :: bx i (.cells true 1 (want.map Y)) :: L) := Sep.up4 (Sep.up4 h9)
  refine Put_s (l := [x]) h10 (fun H' hs j y hy => ?_) (fun hE => absurd he hE) fun _ H11 q hq h11 => ⟨_, _, _, rfl, cond_yes rfl ?_⟩
  · have hj : j = 0 := by
      rcases Nat.eq_zero_or_pos j with e | e
      · exact e
      · rw [List.getElem?_eq_none (by simp; omega)] at hy; cases hy
    subst hj
    cases hy
    exact ⟨i8, rfl, Sep.lds2 hs rfl⟩
  · rw [hp] at h11 hq
    rw [hp]
    refine SameBytes_s (cs := want) (bs := want) h11 (rdb_gl (by simp) hq) (rdb_bx (i := i) (w := true) (z := 1) (c := want.map Y) (by simp) fun k b hk => by rw [Nat.zero_add, List.getElem?_map, hk]; rfl) ?_ fun H16 h16 => ⟨_, rfl, ?_⟩
    · have : want.length ≤ 16 := by rw [← hp, puts_one, putI_len]; exact (sizI_pos x).2
      omega
    · have := hR H16 (Sep.rm2 (Sep.rm2 (Sep.rm2 h16.tail)))
      rw [decide_eq_true rfl]
      exact this

theorem known02_s (h : Sep H (gh :: ga :: L)) (hR : ∀ H', Sep H' (gh :: ga :: L) → R (.bool true) H') : CA en F.crossbarlaw02_known [] H R := by
  apply vc_crossbarlaw02_known
  refine Sep.nw h fun i1 H2 h2 => ?_
  refine bytes_s (x := ⟨183, 2, 0, 0, -1⟩) (want := [183, 2, 0, 0, 255, 255, 255, 255]) h2 (by kernel_rfl) (by kernel_rfl) fun H4 h4 => ⟨_, rfl, cond_yes rfl ?_⟩
  refine check_s (x := ⟨149, 0, 0, 0, 0⟩) h4 fun H7 h7 => ⟨_, rfl, cond_yes (by kernel_rfl) ?_⟩
  refine check_s (x := ⟨7, 10, 0, 0, 0⟩) h7 fun H10 h10 => ⟨_, rfl, ?_⟩
  have e : (chkI ⟨7, 10, 0, 0, 0⟩ == 8) = true := by kernel_rfl
  rw [e]
  exact hR H10 h10
end Go.Proofs.YtmgkngdbphkmmaaDoor
