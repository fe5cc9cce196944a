/-
  'crossbarlaw06.FlowClosed' returns true.
-/
import Derived.Test.YtmgkngdbphkmmaaDoorFlowPlaces
import Derived.Test.YtmgkngdbphkmmaaDoorVcFC
namespace Go.Proofs.YtmgkngdbphkmmaaDoor
open Go Go.AS Go.RowKit
set_option linter.unusedVariables false
variable {H H' : Heap} {R : Value → Heap → Prop} {L M : List Asr} {a b ta : Option Addr} {l : List Ins} {s t ps : List Int} {x : Ins} {v w : Int} {i j k n : Nat} {seen : List Bool} {todo : List Nat}

/-! ### The search, first in first out -/
structure Bfs (l : List Ins) (seen : List Bool) (todo : List Nat) (n : Nat) : Prop where
  len : seen.length = l.length
  cnt : todo.length + unseen seen = l.length
  st : ∀ k, seen[k]? = some true ↔ k ∈ todo
  z : 0 ∈ todo
  cl : ∀ m, m < n → ∀ i, todo[m]? = some i → ∀ j ∈ nxN l i, j ∈ todo
  le : n ≤ todo.length

theorem Bfs.init (h : 0 < l.length) : Bfs l ((List.replicate l.length false).set 0 true) [0] 0 := by
  refine ⟨by simp, ?_, fun k => ?_, by simp, fun m hm => absurd hm (by omega), by simp⟩
  · have := unseen_set (s := List.replicate l.length false) (i := 0) (by rw [List.getElem?_replicate, if_pos h])
    have e : unseen (List.replicate l.length false) = l.length := by simp [unseen]
    simp only [List.length_cons, List.length_nil]
    omega
  · rw [get_set_b (by simpa using h), List.getElem?_replicate]
    by_cases hk : k = 0
    · simp [hk]
    · rw [if_neg hk]
      split <;> simp [hk]

theorem Bfs.push (h : Bfs l seen todo n) (hj : seen[j]? = some false) : Bfs l (seen.set j true) (todo ++ [j]) n := by
  have hlt : j < seen.length := (List.getElem?_eq_some_iff.1 hj).1
  refine ⟨by simp [h.len], ?_, fun k => ?_, by simp [h.z], fun m hm i hi c hc => ?_, by have := h.le; simp; omega⟩
  · have := unseen_set hj
    have := h.cnt
    simp only [List.length_append, List.length_cons, List.length_nil]
    omega
  · rw [get_set_b hlt]
    by_cases hk : k = j
    · simp [hk]
    · rw [if_neg hk, h.st k]; simp [hk]
  · have hl := h.le
    rw [List.getElem?_append_left (by omega)] at hi
    exact List.mem_append_left _ (h.cl m hm i hi c hc)

theorem Bfs.next (h : Bfs l seen todo n) (hi : todo[n]? = some i) (hc : ∀ j ∈ nxN l i, j ∈ todo) : Bfs l seen todo (n + 1) := by
  refine ⟨h.len, h.cnt, h.st, h.z, fun m hm a ha c hc' => ?_, by have := (List.getElem?_eq_some_iff.1 hi).1; omega⟩
  rcases Nat.lt_or_ge m n with h1 | h1
  · exact h.cl m h1 a ha c hc'
  · have : m = n := by omega
    subst this
    rw [hi] at ha; cases ha
    exact hc c hc'

theorem Bfs.all (h : Bfs l seen todo todo.length) (ha : allR l) : todo.length = l.length := by
  have hr : ∀ k, Rch l k → k ∈ todo := by
    intro k hk
    induction hk with
    | zero => exact h.z
    | step _ hj ih =>
      obtain ⟨m, hm, e⟩ := List.getElem_of_mem ih
      exact h.cl m hm _ (by rw [List.getElem?_eq_getElem hm, e]) _ hj
  have : unseen seen = 0 := by
    refine List.count_eq_zero.2 fun hf => ?_
    obtain ⟨k, hk, e⟩ := List.getElem_of_mem hf
    have := (h.st k).2 (hr k (ha k (by rw [← h.len]; exact hk)))
    rw [List.getElem?_eq_getElem hk, e] at this
    simp at this
  have := h.cnt
  omega

theorem nx_nil (hx : l[i]? = some x) (h2 : tgA l i ≠ -2) : (nx x (tgA l i) i).length = 0 ↔ x.op = 149 := by
  have hj := tgA_jmp hx h2
  unfold nx
  rw [gat_two]
  constructor
  · intro h
    refine Classical.byContradiction fun hne => ?_
    by_cases h5 : x.op = 5
    · have hjm : jmp x = true := by unfold jmp; rw [h5]; decide
      have hp := hj.1 hjm
      have e : beh x i = -1 := if_pos (.inr h5)
      rw [e, if_neg (by decide), if_pos hp] at h
      simp at h
    · have e : beh x i = (i : Int) + 1 := if_neg (by omega)
      have hp : (i : Int) + 1 ≥ 0 := by omega
      rw [e, if_pos hp] at h
      split at h <;> simp at h
  · intro h
    have hn : ¬ jmp x = true := by unfold jmp; rw [h]; decide
    have hp : ¬ tgA l i ≥ 0 := fun h => hn (hj.2 h)
    have e : beh x i = -1 := if_pos (.inl h)
    rw [e, if_neg (by decide), if_neg hp]
    rfl

theorem FlowClosed_ok {n m : Nat} {picks : List Int} (rl : Rds (gh :: ga :: L) a l) (rp : RdN (gh :: ga :: L) b picks) (hn : n = l.length) (hm : m = picks.length) (h : Sep H (gh :: ga :: L)) :
    CA en F.crossbarlaw06_FlowClosed [.slice a n 0, .slice b m 0] H fun r _ => r = .bool true := by
  subst hn hm
  have known : ∀ {H : Heap} {L' : List Asr}, AS.Sep H L' → CA en F.crossbarlaw06_known [] H fun v H' => ∃ b, v = .bool b ∧ Value.bool b = .bool true := fun h => known06_s h fun _ _ => ⟨_, rfl, rfl⟩
  apply vc_crossbarlaw06_FlowClosed
  refine Big_s h rl rfl (fun H2 h2 => ⟨_, rfl, cond_yes rfl (known h2)⟩) fun hbig hchk H2 h2 => ⟨_, rfl, cond_no rfl (cond_of (fun _ => known h2) fun hpl => ?_)⟩
  have hpl : picks.length ≤ 1000 := by simp only [decide_eq_false_iff_not] at hpl; omega
  have hok : ∀ x ∈ l, OkI x := fun x hx => okI_chk (hchk x hx)
  have wrp : ∀ {n : Int}, -100000 ≤ n ∧ n ≤ 100000 → IntKind.i64.wrap n = n := fun h => wrap_i64 (by omega)
  refine Targets_s h2 rl rfl (by omega) hok (fun hne H11 h11 => ⟨_, _, _, rfl, cond_yes (by simpa using hne) (cond_yes rfl (known h11))⟩) fun hz H11 qt hqt h11 => ⟨_, _, _, rfl, cond_no rfl (cond_no (by simp) ⟨by unfold okLen; omega, Sep.nw h11 fun bs H19 h19 => ⟨by unfold inB; have := (fe_zero.1 hz).2.1; omega, Sep.st0 h19 ?_ fun H20 h20 => Sep.nw h20 fun q0 H22 h22 => ?_⟩⟩)⟩
  · rw [Int.toNat_natCast, reps_bools]
    have := (fe_zero.1 hz).2.1
    simp; omega
  obtain ⟨f1, f2, f3, f4, f5⟩ := fe_zero.1 hz
  rw [Int.toNat_natCast, reps_bools, set_one, bools_set] at h22
  have two : ∀ i, i < l.length → tgA l i ≠ -2 := fun i hi e => f3 (e ▸ List.mem_of_getElem? (tgs_get hi))
  clear h h2 h11 h19 h20
  have hrl : Rds (gl 1 qt (ints (tgs l)) :: gh :: ga :: L) a l := fun H' hs => rl H' hs.tail
  have hrt : RdN (gl 1 qt (ints (tgs l)) :: gh :: ga :: L) (addr qt) (tgs l) := rdn_gl (by simp) hqt
  refine use_crossbarlaw06_FlowClosed_0 (fun k t4 t8 t8l t9 H => ∃ (n : Nat) (seen : List Bool) (todo : List Nat) (q : Nat), k = l.length - n ∧ t9 = (n : Int) ∧ t8 = addr (some q) ∧ t8l = todo.length ∧ Bfs l seen todo n ∧ (∀ k ∈ todo, k < l.length) ∧
    Sep H (gl 1 (some q) (nats todo) :: bx bs (.cells true 1 (bools seen)) :: gl 1 qt (ints (tgs l)) :: gh :: ga :: L)) l.length ⟨0, _, [0], q0, rfl, rfl, rfl, rfl, Bfs.init (by omega), by simp; omega, gl_some.2 h22⟩ ?_
  clear h22
  rintro k t4 t8 t8l t9 ys H3 ⟨n, seen, todo, q, rfl, rfl, rfl, rfl, hB, hlt, hs⟩
  have hcnt := hB.cnt
  refine cond_of (fun h1 => ?_) fun h1 => ?_
  · have hn : n < todo.length := by simp only [decide_eq_true_eq] at h1; omega
    obtain ⟨i, hi⟩ : ∃ i, todo[n]? = some i := ⟨_, List.getElem?_eq_getElem hn⟩
    have hil := hlt i (List.mem_of_getElem? hi)
    obtain ⟨x, hx⟩ : ∃ x, l[i]? = some x := ⟨_, List.getElem?_eq_getElem hil⟩
    have inn : inB (n : Int) todo.length := by unfold inB; omega
    have hg : (nats todo)[0 + (n : Int).toNat * 1]? = some (I i) := by
      rw [Nat.zero_add, Int.toNat_natCast, Nat.mul_one]; simp [hi]
    refine ⟨inn, asRow_in ⟨(i : Int), Sep.ld0 (gl_some.1 hs) hg, ?_⟩⟩
    refine Next_s (l := l) (t := tgs l) (v := tgA l i) hs (fun H' hs => hrl H' hs.tail.tail) (fun H' hs => hrt H' hs.tail.tail) rfl (tgs_len l).symm hx (tgs_get hil) (by omega) fun H5 qn hqn h5 => ⟨_, _, rfl, inn, asRow_in ⟨(i : Int), Sep.ld0 (gl_some.1 (Sep.up1 h5)) hg, by unfold inB; omega, ?_⟩⟩
    obtain ⟨e1, e2⟩ := nx_nats hx
    have hnil := nx_nil hx (two i hil)
    obtain ⟨bi, hbi, ho, _, _⟩ := rl.op h5.tail.tail.tail.tail hx
    rw [hbi]
    refine asRow_in ⟨_, ho, cond_no ?_ (cond_no (by have := nxN_len l i; rw [e2]; simp; omega) ?_)⟩
    · by_cases h149 : x.op = 149
      · rw [hnil.2 h149, h149]; rfl
      · have : ¬ (nx x (tgA l i) i).length = 0 := fun h => h149 (hnil.1 h)
        simp only [Bool.not_eq_false', beq_iff_eq]
        rw [Bool.eq_iff_iff]
        simp only [beq_iff_eq]
        constructor
        · intro h; omega
        · intro h; exact absurd h h149
    rw [← hbi]
    have hqn' : qn = none → nxN l i = [] := fun e => by
      have := hqn e
      rw [this] at e2
      exact List.eq_nil_of_length_eq_zero e2.symm
    rw [e1] at h5
    rw [e2]
    clear hs
    refine use_crossbarlaw06_FlowClosed_1 (fun k t4 t8 t8l t11 H => ∃ (p : Nat) (seen : List Bool) (todo : List Nat) (q : Nat), p ≤ (nxN l i).length ∧ k = (nxN l i).length - p ∧ t11 = (p : Int) ∧ t8 = addr (some q) ∧ t8l = todo.length ∧ Bfs l seen todo n ∧ (∀ k ∈ todo, k < l.length) ∧ todo[n]? = some i ∧ (∀ c ∈ (nxN l i).take p, c ∈ todo) ∧
      Sep H (gl 1 (some q) (nats todo) :: bx bs (.cells true 1 (bools seen)) :: gl 1 qn (nats (nxN l i)) :: gl 1 qt (ints (tgs l)) :: gh :: ga :: L)) (nxN l i).length ⟨0, seen, todo, q, by omega, rfl, rfl, rfl, rfl, hB, hlt, hi, by simp, Sep.up2 (Sep.up2 h5)⟩ ?_
    clear h5 hB hlt hi hn inn hg hcnt h1
    rintro k2 t42 t82 t82l t112 ys2 H6 ⟨p, seen, todo, q, hp, rfl, rfl, rfl, rfl, hB, hlt, hi, hdone, hs⟩
    have hcnt := hB.cnt
    refine cond_of (fun h1 => ?_) fun h1 => ?_
    · have hp' : p < (nxN l i).length := by simp only [decide_eq_true_eq] at h1; omega
      obtain ⟨c, hc⟩ : ∃ c, (nxN l i)[p]? = some c := ⟨_, List.getElem?_eq_getElem hp'⟩
      have hcl := nxN_lt f4 (List.mem_of_getElem? hc)
      have inp : inB (p : Int) (nxN l i).length := by unfold inB; omega
      have hrn : RdN (gl 1 (some q) (nats todo) :: bx bs (.cells true 1 (bools seen)) :: gl 1 qn (nats (nxN l i)) :: gl 1 qt (ints (tgs l)) :: gh :: ga :: L) (addr qn) ((nxN l i).map fun n : Nat => (n : Int)) := rdn_gl (by simp) (fun e => by rw [hqn' e]; rfl)
      have hrn2 : ∀ s' : List Bool, RdN (gl 1 (some q) (nats todo) :: bx bs (.cells true 1 (bools s')) :: gl 1 qn (nats (nxN l i)) :: gl 1 qt (ints (tgs l)) :: gh :: ga :: L) (addr qn) ((nxN l i).map fun n : Nat => (n : Int)) := fun s' => rdn_gl (by simp) (fun e => by rw [hqn' e]; rfl)
      have hc' : ((nxN l i).map fun n : Nat => (n : Int))[p]? = some (c : Int) := by rw [List.getElem?_map, hc]; rfl
      obtain ⟨b1, hb1, c1⟩ := hrn _ hs p _ hc'
      have hsl : c < seen.length := by rw [hB.len]; exact hcl
      obtain ⟨s1, hs1⟩ : ∃ s1, seen[c]? = some s1 := ⟨_, List.getElem?_eq_getElem hsl⟩
      have hw1 : IntKind.i64.wrap ((p : Int) + 1) = ((p + 1 : Nat) : Int) := by have := nxN_len l i; rw [wrp (by omega)]; omega
      have ets := take_snoc' hc
      rw [hb1]
      refine ⟨inp, asRow_in ⟨_, c1, cond_no (by simp) ⟨inp, asRow_in ⟨_, c1, cond_no (by simp; omega) ⟨inp, asRow_in ⟨_, c1, by unfold inB; omega, s1, Sep.ld1 hs (by rw [Nat.zero_add, Int.toNat_natCast, Nat.mul_one, List.getElem?_map, hs1]; rfl), cond_of (fun d => ?_) fun d => ?_⟩⟩⟩⟩⟩⟩
      · have d : s1 = false := by simpa using d
        subst d
        refine ⟨inp, asRow_in ⟨_, c1, by unfold inB; omega, Sep.st1 hs (by rw [Int.toNat_natCast]; simp; omega) fun H14 h14 => ?_⟩⟩
        rw [Nat.zero_add, Int.toNat_natCast, Nat.mul_one, set_one, bools_set] at h14
        obtain ⟨b2, hb2, c2⟩ := hrn2 _ _ h14 p _ hc'
        obtain rfl : b2 = b1 := by rw [hb1] at hb2; cases hb2; rfl
        refine ⟨inp, asRow_in ⟨_, c2, Sep.nw h14 fun i18 H19 h19 => ⟨[I c], rowOf_bx (es := 1) (n := 1) (b := i18) (Sep.get0 h19) (by decide) rfl, ?_⟩⟩⟩
        refine apd_gl (b := some q) (len := todo.length) (n := 1) (cs := nats todo) (new := [I c]) (Sep.up1 h19) (fun h => by cases h) (by decide) (by simp) (by decide) rfl (by omega) fun H' q' h' => ⟨(nxN l i).length - (p + 1), by omega, p + 1, seen.set c true, todo ++ [c], q', by omega, rfl, hw1, rfl, by simp, hB.push hs1, ?_, ?_, ?_, ?_⟩
        · intro k hk
          rcases List.mem_append.1 hk with hk | hk
          · exact hlt k hk
          · simp at hk; subst hk; exact hcl
        · rw [List.getElem?_append_left (by have := (List.getElem?_eq_some_iff.1 hi).1; omega)]; exact hi
        · rw [ets]
          intro k hk
          rcases List.mem_append.1 hk with hk | hk
          · exact List.mem_append_left _ (hdone k hk)
          · exact List.mem_append_right _ hk
        · rw [nats_append]
          exact Sep.rm1 h'
      · have d : s1 = true := by simpa using d
        subst d
        refine ⟨(nxN l i).length - (p + 1), by omega, p + 1, seen, todo, q, by omega, rfl, hw1, rfl, rfl, hB, hlt, hi, ?_, hs⟩
        rw [ets]
        intro k hk
        rcases List.mem_append.1 hk with hk | hk
        · exact hdone k hk
        · simp at hk; subst hk; exact (hB.st _).1 hs1
    · obtain rfl : p = (nxN l i).length := by simp only [decide_eq_false_iff_not] at h1; omega
      rw [List.take_length] at hdone
      have hnl := (List.getElem?_eq_some_iff.1 hi).1
      refine asBool_in (asSl_in ⟨l.length - (n + 1), by omega, n + 1, seen, todo, q, rfl, ?_, rfl, rfl, hB.next hi hdone, hlt, Sep.rm2 hs⟩)
      rw [wrp (by omega)]; omega
  · obtain rfl : n = todo.length := by simp only [decide_eq_false_iff_not] at h1; have := hB.le; omega
    have hall := hB.all f5
    refine asBool_in (asSl_in ?_)
    rw [hall]
    refine use_crossbarlaw06_FlowClosed_2 (fun k t4 t12 t13 H => ∃ (j c : Nat), j ≤ picks.length ∧ k = picks.length - j ∧ t13 = (j : Int) ∧ t12 = (c : Int) ∧ c < l.length ∧ Sep H (gl 1 qt (ints (tgs l)) :: gh :: ga :: L)) picks.length ⟨0, 0, by omega, rfl, rfl, rfl, by omega, hs.tail.tail⟩ ?_
    clear hs
    rintro k t4 t12 t13 ys H3 ⟨j, c, hj, rfl, rfl, rfl, hcl, hs⟩
    refine cond_of (fun h2 => ?_) fun h2 => ?_
    · have hj' : j < picks.length := by simp only [decide_eq_true_eq] at h2; omega
      obtain ⟨x, hx⟩ : ∃ x, l[c]? = some x := ⟨_, List.getElem?_eq_getElem hcl⟩
      refine Next_s (l := l) (t := tgs l) (v := tgA l c) hs hrl hrt rfl (tgs_len l).symm hx (tgs_get hcl) (by omega) fun H5 qn hqn h5 => ⟨_, _, rfl, ?_⟩
      have hnil := nx_nil hx (two c hcl)
      refine cond_of (fun e => ?_) fun e => ?_
      · have e : (nx x (tgA l c) c).length = 0 := by
          have : (((nx x (tgA l c) c).length : Nat) : Int) = 0 := by simpa using e
          omega
        obtain ⟨bi, hbi, ho, _, _⟩ := rl.op h5.tail.tail hx
        rw [hbi]
        refine ⟨by unfold inB; omega, asRow_in ⟨_, ho, cond_yes (by rw [hnil.1 e]; rfl) (cond_yes (by simp) ?_)⟩⟩
        exact known06_s h5 fun H9 h9 => ⟨_, rfl, asBool_in rfl⟩
      · have e : 0 < (nx x (tgA l c) c).length := by
          refine Nat.pos_of_ne_zero fun h => ?_
          rw [h] at e; simp at e
        have hl2 := gat_len (beh x c) (tgA l c)
        have hl2 : (nx x (tgA l c) c).length ≤ 2 := hl2
        obtain ⟨pk, hpk⟩ : ∃ pk, picks[j]? = some pk := ⟨_, List.getElem?_eq_getElem hj'⟩
        obtain ⟨bp, hbp, cp⟩ := rp _ h5.tail.tail j pk hpk
        rw [hbp]
        have hm0 := Int.emod_nonneg pk (b := (((nx x (tgA l c) c).length : Nat) : Int)) (by omega)
        have hm1 := Int.emod_lt_of_pos pk (b := (((nx x (tgA l c) c).length : Nat) : Int)) (by omega)
        refine ⟨by unfold inB; omega, asRow_in ⟨_, cp, Pick_s (by omega) (by omega) ⟨_, rfl, by unfold inB; omega, ?_⟩⟩⟩
        obtain ⟨r, hr⟩ := Int.eq_ofNat_of_zero_le hm0
        rw [hr] at hm1 ⊢
        obtain ⟨d, hd⟩ : ∃ d, (nx x (tgA l c) c)[r]? = some d := ⟨_, List.getElem?_eq_getElem (by omega)⟩
        have hrn : RdN (gl 1 qn (ints (nx x (tgA l c) c)) :: gl 1 qt (ints (tgs l)) :: gh :: ga :: L) (addr qn) (nx x (tgA l c) c) := rdn_gl (by simp) hqn
        obtain ⟨bn, hbn, cn⟩ := hrn _ h5 r d hd
        rw [hbn]
        have hdl := nx_lt f4 hx (List.mem_of_getElem? hd)
        obtain ⟨d', rfl⟩ := Int.eq_ofNat_of_zero_le hdl.1
        refine asRow_in ⟨_, cn, picks.length - (j + 1), by omega, j + 1, d', by omega, rfl, ?_, rfl, by omega, h5.tail⟩
        rw [wrp (by omega)]; omega
    · exact asBool_in (cond_yes (by simp) (known hs))

theorem FlowClosed_law (H : Heap) (us : List Value) (hG : ∀ p ∈ [(0, gHalf), (1, gAtom)], p.1 < H.next ∧ H.get p.1 = some (.cells false 0 p.2)) (h : shpVs en H 7 T.FlowClosed us) : CA en F.crossbarlaw06_FlowClosed us H fun v _ => v = .bool true := by
  obtain ⟨v, u, rfl, hA, v2, u2, rfl, hA2, rfl⟩ := args_FlowClosed h
  obtain ⟨a1, n1, css1, M1, X, rfl, ha1, m1, hs, hf, c1⟩ := Arg.moreE (SlArg.one hA) (sepG hG) (by intro A hA; simp only [List.mem_cons, List.not_mem_nil, or_false] at hA; rcases hA with rfl | rfl <;> exact ⟨_, _, rfl⟩)
  obtain ⟨a2, n2, css2, M2, X2, rfl, ha2, m2, hs2, hf2, c2⟩ := Arg.moreE (SlArg.one hA2) hs hf
  obtain ⟨l, rfl⟩ := ins_of css1 fun c hm => by
    obtain ⟨ap1, bp1, rfl, ⟨np1, rfl, wp1⟩, ap2, bp2, rfl, ⟨np2, rfl, wp2⟩, ap3, bp3, rfl, ⟨np3, rfl, wp3⟩, ap4, bp4, rfl, ⟨np4, rfl, wp4⟩, ap5, bp5, rfl, ⟨np5, rfl, wp5⟩, rfl⟩ := c1 c hm
    exact ⟨⟨np1, np2, np3, np4, np5⟩, rfl⟩
  obtain ⟨ps, rfl⟩ := numbers_of css2 fun c hm => by
    obtain ⟨n, hn, hw⟩ := c2 c hm
    exact ⟨n, hn, hw⟩
  exact FlowClosed_ok (rds_arg ha1 fun A hA => List.mem_append_left X2 (m1 A hA)) (rdn_arg ha2 m2) (by rw [ha1.len, List.length_map]) (by rw [ha2.len, List.length_map]) hs2
end Go.Proofs.YtmgkngdbphkmmaaDoor
