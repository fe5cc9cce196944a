/-
  Any instructions have the bytes that the document says, in new memory, or the same is wrong with them; they stay.
-/
import Derived.Test.YtmgkngdbphkmmaaDoorInsnDoc
import Derived.Test.YtmgkngdbphkmmaaDoorAs48
namespace Go.Proofs.YtmgkngdbphkmmaaDoor
open Go Go.AS Go.RowKit
set_option linter.unusedVariables false
variable {H H' : Heap} {R : Value → Heap → Prop} {L M : List Asr} {a b : Option Addr} {bs : List Nat} {l m : List Ins}

/-- Where the instructions of a slice lie that begins anywhere. -/
def RdO (L : List Asr) (a : Option Addr) (l : List Ins) : Prop :=
  ∀ H', Sep H' L → ∀ (j : Nat) x, l[j]? = some x → ∃ i o, a = some ⟨i, o, none⟩ ∧ H'.cellsAt i (o + j * 5) 5 = some x.cells
theorem Rds.o (h : Rds L a l) : RdO L a l := fun H' hs j x hx => by
  obtain ⟨i, e, h2⟩ := h H' hs j x hx
  exact ⟨i, 0, e, h2⟩
theorem rdo_gl {q o : Nat} {l1 l2 : List Ins} (hm : gl 5 (some q) (flatI (l1 ++ l2)) ∈ L) (ho : o = l1.length * 5) : RdO L (some ⟨q, o, none⟩) l2 := by
  intro H' hs j x hx
  have hg : H'.get q = some (.cells true 5 (flatI (l1 ++ l2))) := (hs.all _ hm) (bx q (.cells true 5 (flatI (l1 ++ l2)))) (by simp)
  refine ⟨q, o, rfl, ?_⟩
  rw [cellsAt_of hg, ho, ← Nat.add_mul]
  exact flatI_take _ (by rw [List.getElem?_append_right (by omega), Nat.add_sub_cancel_left]; exact hx)

theorem SameInsnsO_s {n k : Nat} (h : Sep H L) (ra : RdO L a l) (rb : RdO L b m) (hn' : n = l.length) (hk' : k = m.length) (hn : l.length < 4611686018427387904) (hR : ∀ H', Sep H' L → R (.bool (decide (l = m))) H') : CA en F.crossbarkit_SameInsns [.slice a n 0, .slice b k 0] H R := by
  subst hn' hk'
  apply vc_crossbarkit_SameInsns
  refine cond_of (fun hl => ?_) fun hl => ?_
  · have hl : l.length ≠ m.length := by intro e; rw [e] at hl; simp at hl
    have := hR H h
    rw [decide_eq_false (fun e => hl (by rw [e]))] at this
    exact this
  have hl : l.length = m.length := by
    have : ((l.length : Nat) : Int) = ((m.length : Nat) : Int) := by simpa using hl
    omega
  refine use_crossbarkit_SameInsns_0 (fun k _ t5 H => ∃ j : Nat, j ≤ l.length ∧ k = l.length - j ∧ t5 = (j : Int) ∧ l.take j = m.take j ∧ Sep H L) l.length ⟨0, by omega, rfl, rfl, by simp, h⟩ ?_
  clear h
  rintro k t4 t5 ys H3 ⟨j, hj, rfl, rfl, he, hs⟩
  refine cond_of (fun h1 => ?_) fun h1 => ?_
  · simp only [decide_eq_true_eq] at h1
    have hj' : j < l.length := by omega
    obtain ⟨x, hx⟩ : ∃ x, l[j]? = some x := ⟨_, List.getElem?_eq_getElem hj'⟩
    obtain ⟨y, hy⟩ : ∃ y, m[j]? = some y := ⟨_, List.getElem?_eq_getElem (by omega)⟩
    have hB := hs.bump 9
    obtain ⟨i, o, rfl, e1⟩ := ra _ hB j x hx
    obtain ⟨i', o', rfl, e2⟩ := rb _ hB j y hy
    refine ⟨by unfold inB; omega, asRow_in ⟨_, _, _, _, _, e1, by unfold inB; omega, asRow_in ⟨_, _, _, _, _, e2, ⟨?_, trivial⟩⟩⟩⟩
    rw [ins_ext]
    refine cond_of (fun hne => ?_) fun hne => ?_
    · have hne : ¬ x = y := by simpa using hne
      have := hR _ hB
      rw [decide_eq_false (fun e => by rw [e, hy] at hx; exact hne (Option.some.inj hx).symm)] at this
      exact asBool_in this
    · have hne : x = y := by simpa using hne
      refine ⟨l.length - (j + 1), by omega, j + 1, by omega, rfl, ?_, ?_, hB⟩
      · rw [wrap_i64 (by omega)]; omega
      · rw [List.take_add_one, List.take_add_one, he, hx, hy, hne]
  · simp only [decide_eq_false_iff_not] at h1
    obtain rfl : j = l.length := by omega
    have e : l = m := by
      rw [List.take_length, List.take_of_length_le (by omega)] at he
      exact he
    have := hR H3 hs
    rw [decide_eq_true e] at this
    exact asBool_in this

/-! ### Marks behind -/
def mkI (j : Nat) : Ins := ⟨-9 - j, 0, 0, 0, 0⟩
def mks (n : Nat) : List Ins := (List.range n).map mkI
theorem mks_len (n : Nat) : (mks n).length = n := by simp [mks]
theorem mks_snoc (n : Nat) : mks (n + 1) = mks n ++ [mkI n] := by unfold mks; rw [List.range_succ, List.map_append]; rfl
theorem markI_s {j : Nat} (hj : j ≤ 10) (h : Sep H L) (hR : ∀ H', Sep H' L → R (mkI j).val H') : CA en F.crossbarkit_markInsns [I j] H R := by
  apply vc_crossbarkit_markInsns
  rw [wrap_i64 (by omega)]
  exact Sep.nw h fun i H2 h2 => Sep.st0 h2 (Nat.le_of_ble_eq_true rfl) fun H3 h3 => ⟨_, _, _, _, _, Sep.lds0 h3 rfl, hR H3 h3.tail⟩

theorem LentI_s {n : Nat} (h : Sep H L) (rd : Rds L a l) (hn : n = l.length) (hl : l.length ≤ 10000) (hR : ∀ H' q, Sep H' (gl 5 (some q) (flatI (l ++ mks 5)) :: L) → R (.slice (addr (some q)) (l.length + 5) 0) H') : CA en F.crossbarkit_LentInsns [.slice a n 0] H R := by
  subst hn
  apply vc_crossbarkit_LentInsns
  refine CopyInsns_s h rd (by omega) fun H2 q hq h2 => ⟨_, _, rfl, ?_⟩
  refine use_crossbarkit_LentInsns_0 (fun k t3 t3l t4 H => ∃ (j : Nat) (q : Option Nat), j ≤ 5 ∧ k = 5 - j ∧ t4 = (j : Int) ∧ t3 = addr q ∧ t3l = l.length + j ∧ (q = none → l ++ mks j = []) ∧ Sep H (gl 5 q (flatI (l ++ mks j)) :: L)) 5 ⟨0, q, by omega, rfl, rfl, rfl, rfl, fun e => by rw [hq e]; rfl, by show Sep H2 (gl 5 q (flatI (l ++ [])) :: L); rw [List.append_nil]; exact h2⟩ ?_
  clear h h2
  rintro k t3 t3l t4 ys H3 ⟨j, q, hj, rfl, rfl, rfl, rfl, hq, hs⟩
  refine cond_of (fun h1 => ?_) fun h1 => ?_
  · have hj' : j < 5 := by simp only [decide_eq_true_eq] at h1; omega
    refine markI_s (by omega) hs fun H5 h5 => ⟨_, _, _, _, _, rfl, Sep.nw h5 fun i H9 h9 => ⟨(mkI j).cells, rowOf_bx (es := 5) (n := 1) (b := i) (Sep.get0 h9) (by decide) rfl, ?_⟩⟩
    refine apd_gl (b := q) (cs := flatI (l ++ mks j)) (new := (mkI j).cells) (Sep.up1 h9) (fun e => by rw [hq e]; rfl) (by decide) (by rw [flatI_len, List.length_append, mks_len]) (by decide) rfl (by omega) fun H13 q' h13 => ⟨5 - (j + 1), by omega, j + 1, some q', by omega, rfl, by rw [wrap_i64 (by omega)]; omega, rfl, by omega, (fun h => by cases h), ?_⟩
    rw [mks_snoc, ← List.append_assoc, flatI_snoc]
    exact Sep.rm1 h13
  · obtain rfl : j = 5 := by simp only [decide_eq_false_iff_not] at h1; omega
    cases q with
    | none => have := hq rfl; rw [List.append_eq_nil_iff] at this; cases this.2
    | some q => exact asSl_in (hR H3 q hs)

theorem KeptI_s {n q : Nat} (h : Sep H L) (hm : gl 5 (some q) (flatI (l ++ mks 5)) ∈ L) (rd : Rds L b l) (hn : n = l.length) (hl : l.length ≤ 10000) (hR : ∀ H', Sep H' L → R (.bool true) H') : CA en F.crossbarkit_KeptInsns [.slice (addr (some q)) (l.length + 5) 0, .slice b n 0] H R := by
  subst hn
  apply vc_crossbarkit_KeptInsns
  refine cond_no (by rw [wrap_i64 (by omega)]; simp) ⟨by unfold inS; omega, ?_⟩
  rw [Int.toNat_natCast]
  refine slK_part h hm ?_
  refine SameInsnsO_s (l := l) (m := l) h ?_ rd.o rfl rfl (by omega) fun H3 h3 => ⟨_, rfl, cond_no (by simp) ?_⟩
  · intro H' hs j x hx
    have hg : H'.get q = some (.cells true 5 (flatI (l ++ mks 5))) := (hs.all _ hm) (bx q (.cells true 5 (flatI (l ++ mks 5)))) (by simp)
    refine ⟨q, _, rfl, ?_⟩
    rw [cellsAt_of hg, Nat.zero_mul, Nat.zero_add]
    exact flatI_take _ (by rw [List.getElem?_append_left (List.getElem?_eq_some_iff.1 hx).1]; exact hx)
  refine use_crossbarkit_KeptInsns_0 (fun k t5 t5l t6 H => ∃ (j : Nat) (g : Option Nat), j ≤ 5 ∧ k = 5 - j ∧ t6 = (j : Int) ∧ t5 = addr g ∧ t5l = j ∧ (g = none → j = 0) ∧ Sep H (gl 5 g (flatI (mks j)) :: L)) 5 ⟨0, none, by omega, rfl, rfl, rfl, rfl, fun _ => rfl, gl_none.2 h3⟩ ?_
  clear h h3
  rintro k t5 t5l t6 ys H3 ⟨j, g, hj, rfl, rfl, rfl, rfl, hg, hs⟩
  refine cond_of (fun h1 => ?_) fun h1 => ?_
  · have hj' : t5l < 5 := by simp only [decide_eq_true_eq] at h1; omega
    refine markI_s (by omega) hs fun H5 h5 => ⟨_, _, _, _, _, rfl, Sep.nw h5 fun i H9 h9 => ⟨(mkI t5l).cells, rowOf_bx (es := 5) (n := 1) (b := i) (Sep.get0 h9) (by decide) rfl, ?_⟩⟩
    refine apd_gl (b := g) (cs := flatI (mks t5l)) (new := (mkI t5l).cells) (Sep.up1 h9) (fun e => by rw [hg e]; rfl) (by decide) (by rw [flatI_len, mks_len]) (by decide) rfl (by omega) fun H13 q' h13 => ⟨5 - (t5l + 1), by omega, t5l + 1, some q', by omega, rfl, by rw [wrap_i64 (by omega)]; omega, rfl, rfl, (fun h => by cases h), ?_⟩
    rw [mks_snoc, flatI_snoc]
    exact Sep.rm1 h13
  · obtain rfl : t5l = 5 := by simp only [decide_eq_false_iff_not] at h1; omega
    refine asSl_in ⟨by unfold inS; omega, ?_⟩
    rw [Nat.add_sub_cancel_left]
    refine slK_part hs (List.mem_cons_of_mem _ hm) ?_
    refine SameInsnsO_s (l := mks 5) (m := mks 5) hs (rdo_gl (List.mem_cons_of_mem _ hm) (by rw [Nat.zero_add])) (Rds.o (rds_gl (List.mem_cons_self ..) fun e => by have := hg e; omega)) (mks_len 5).symm (mks_len 5).symm (by rw [mks_len]; decide) fun H11 h11 => ⟨_, rfl, ?_⟩
    rw [decide_eq_true rfl]
    exact hR H11 h11.tail

theorem spoilB_s {q : Option Nat} (hl : bs.length < 100000) (n1 : q = none → bs = []) (hs : Sep H (gl 1 q (bs.map Y) :: L)) (hR : ∀ H', Sep H' L → R undef H') : CA en F.crossbarkit_SpoilBytes [.slice (addr q) bs.length 0] H R := by
  apply vc_crossbarkit_SpoilBytes
  refine use_crossbarkit_SpoilBytes_0 (fun k t2 H => ∃ (j : Nat) (c : List Value), c.length = bs.length ∧ j ≤ bs.length ∧ k = bs.length - j ∧ t2 = (j : Int) ∧ Sep H (gl 1 q c :: L)) bs.length ⟨0, bs.map Y, by simp, by omega, rfl, rfl, hs⟩ ?_
  clear hs
  rintro k t2 ys H3 ⟨j, c, hl', hj, rfl, rfl, hs⟩
  refine cond_of (fun h1 => ?_) fun h1 => hR H3 hs.tail
  have hj' : j < bs.length := by simp only [decide_eq_true_eq] at h1; omega
  apply vc_crossbarkit_markBytes
  refine ⟨_, rfl, by unfold inB; omega, ?_⟩
  cases q with
  | none => rw [n1 rfl] at hj'; simp at hj'
  | some q =>
    refine asRow_in (Sep.st0 (gl_some.1 hs) (by rw [Int.toNat_natCast]; simp only [List.length_cons, List.length_nil]; omega) fun H6 h6 => ⟨bs.length - (j + 1), by omega, j + 1, _, ?_, by omega, rfl, by rw [wrap_i64 (by omega)]; omega, gl_some.2 h6⟩)
    rw [setAt_length]; exact hl'

/-! ### The law -/
def putB (l : List Ins) : List Nat := if putErr l = 0 then puts l else []
theorem PutU_s {n : Nat} (h : Sep H (gh :: ga :: L)) (rd : Rds (gh :: ga :: L) a l) (hn : n = l.length) (hR : ∀ H' q, (q = none → putB l = []) → Sep H' (gl 1 q ((putB l).map Y) :: gh :: ga :: L) → R (.tuple #[.slice (addr q) (putB l).length 0, I (putErr l)]) H') : CA en F.insn_Put [.slice a n 0] H R := by
  subst hn
  refine Put_s h rd (fun e H' h' => ?_) fun e H' q hq h' => ?_
  · have := hR H' none
    unfold putB at this
    rw [if_neg e] at this
    exact this (fun _ => rfl) (gl_none.2 h')
  · have := hR H' q
    unfold putB at this
    rw [if_pos e, e] at this
    exact this hq h'
theorem docPutU_s {n : Nat} (h : Sep H L) (rd : Rds L a l) (hn : n = l.length) (hR : ∀ H' q, (q = none → putB l = []) → Sep H' (gl 1 q ((putB l).map Y) :: L) → R (.tuple #[.slice (addr q) (putB l).length 0, I (putErr l)]) H') : CA en F.crossbarref02_Put [.slice a n 0] H R := by
  refine docPut_s h rd hn (fun e H' h' => ?_) fun e H' q hq h' => ?_
  · have := hR H' none
    unfold putB at this
    rw [if_neg e] at this
    exact this (fun _ => rfl) (gl_none.2 h')
  · have := hR H' q
    unfold putB at this
    rw [if_pos e, e] at this
    exact this hq h'
theorem putB_len (l : List Ins) : (putB l).length ≤ 16 * l.length := by
  unfold putB
  split
  · exact puts_le l
  · simp

theorem InsnPuts_ok {n : Nat} {M1 : List Asr} (ha : Arg a n (l.map Ins.cells) M1) (hM : ∀ A ∈ M1, A ∈ gh :: ga :: M) (hs : Sep H (gh :: ga :: M)) : CA en F.crossbarlaw02_InsnPuts [.slice a n 0] H fun v _ => v = .bool true := by
  have hn := ha.len
  rw [List.length_map] at hn
  have rd0 : Rds (gh :: ga :: M) a l := rds_arg ha hM
  subst hn
  apply vc_crossbarlaw02_InsnPuts
  have known : ∀ {H' : Heap} {L' : List Asr}, Sep H' (gh :: ga :: L') → CA en F.crossbarlaw02_known [] H' (fun v _ => ∃ b, v = .bool b ∧ Value.bool b = .bool true) := fun h' => known02_s h' fun H2 h2 => ⟨_, rfl, rfl⟩
  refine cond_of (fun c => known hs) fun c => ?_
  have c : l.length ≤ 300 := by simp only [decide_eq_false_iff_not] at c; omega
  have hbl := putB_len l
  refine LentI_s hs rd0 rfl (by omega) fun H5 q h5 => ⟨_, _, rfl, by unfold inS; omega, ?_⟩
  rw [Int.toNat_natCast]
  refine slK_part h5 (List.mem_cons_self ..) ?_
  have h6 : Sep H5 (gh :: ga :: gl 5 (some q) (flatI (l ++ mks 5)) :: M) := Sep.pick h5 3 [1, 2, 0] (by decide)
  refine PutU_s (l := l) h6 ?_ rfl fun H10 qa hqa h10 => ⟨_, _, _, rfl, ?_⟩
  · intro H' hs' j x hx
    have hg : H'.get q = some (.cells true 5 (flatI (l ++ mks 5))) := gl_get (Sep.up2 hs')
    refine ⟨q, by rw [Nat.zero_mul], ?_⟩
    rw [cellsAt_of hg, Nat.zero_add]
    exact flatI_take _ (by rw [List.getElem?_append_left (List.getElem?_eq_some_iff.1 hx).1]; exact hx)
  -- qa gh ga in M
  have rd1 : ∀ {X : List Asr}, (∀ H', Sep H' X → Sep H' (gh :: ga :: M)) → Rds X a l := fun hX H' hs' => rd0 H' (hX H' hs')
  refine docPutU_s h10 (rd1 fun H' h' => Sep.pick h' 4 [1, 2] (by decide)) rfl fun H15 qb hqb h15 => ⟨_, _, _, rfl, cond_no (by simp) ?_⟩
  -- qb qa gh ga in M
  refine SameBytes_s (cs := putB l) (bs := putB l) h15 (rdb_gl (by simp) hqa) (rdb_gl (by simp) hqb) (by omega) fun H20 h20 => ⟨_, rfl, cond_no (by simp) ?_⟩
  refine KeptI_s h20 (by simp) (rd1 fun H' h' => Sep.pick h' 5 [2, 3] (by decide)) rfl (by omega) fun H23 h23 => ⟨_, rfl, cond_no rfl ?_⟩
  refine spoilB_s (by omega) hqa (Sep.up1 h23) fun H26 h26 => ⟨rfl, ?_⟩
  -- qb gh ga in M
  have h27 : Sep H26 (gh :: ga :: gl 1 qb ((putB l).map Y) :: M) := Sep.pick h26 4 [1, 2, 0] (by decide)
  refine PutU_s (l := l) h27 (rd1 fun H' h' => Sep.pick h' 3 [0, 1] (by decide)) rfl fun H28 qc hqc h28 => ⟨_, _, _, rfl, ?_⟩
  refine SameBytes_s (cs := putB l) (bs := putB l) h28 (rdb_gl (by simp) hqc) (rdb_gl (by simp) hqb) (by omega) fun H33 h33 => ⟨_, rfl, cond_yes (by simp) (known h33.tail)⟩

theorem InsnPuts_law (H : Heap) (us : List Value) (hG : ∀ p ∈ [(0, gHalf), (1, gAtom)], p.1 < H.next ∧ H.get p.1 = some (.cells false 0 p.2)) (h : shpVs en H 7 T.InsnPuts us) : CA en F.crossbarlaw02_InsnPuts us H fun v _ => v = .bool true := by
  obtain ⟨v, u, rfl, hA, rfl⟩ := args_InsnPuts h
  obtain ⟨a1, n1, css1, M1, X, rfl, ha1, m1, hs, hf, c1⟩ := Arg.moreE (SlArg.one hA) (sepG hG) (by intro A hA; simp only [List.mem_cons, List.not_mem_nil, or_false] at hA; rcases hA with rfl | rfl <;> exact ⟨_, _, rfl⟩)
  obtain ⟨l, rfl⟩ := ins_of css1 fun c hm => by
    obtain ⟨ap1, bp1, rfl, ⟨np1, rfl, wp1⟩, ap2, bp2, rfl, ⟨np2, rfl, wp2⟩, ap3, bp3, rfl, ⟨np3, rfl, wp3⟩, ap4, bp4, rfl, ⟨np4, rfl, wp4⟩, ap5, bp5, rfl, ⟨np5, rfl, wp5⟩, rfl⟩ := c1 c hm
    exact ⟨⟨np1, np2, np3, np4, np5⟩, rfl⟩
  exact InsnPuts_ok ha1 m1 hs
end Go.Proofs.YtmgkngdbphkmmaaDoor
