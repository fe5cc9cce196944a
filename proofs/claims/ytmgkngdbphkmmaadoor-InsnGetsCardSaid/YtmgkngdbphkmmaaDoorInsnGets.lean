/-
  Any bytes are the instructions that the document says, in new memory, or the same is wrong with them; they stay.
-/
import Derived.Test.YtmgkngdbphkmmaaDoorInsnDocG
namespace Go.Proofs.YtmgkngdbphkmmaaDoor
open Go Go.AS Go.RowKit
set_option linter.unusedVariables false
variable {H H' : Heap} {R : Value → Heap → Prop} {L M : List Asr} {a b : Option Addr} {bs cs : List Nat} {l m : List Ins}

def RdBO (L : List Asr) (a : Option Addr) (bs : List Nat) : Prop :=
  ∀ H', Sep H' L → ∀ (j : Nat) b, bs[j]? = some b → ∃ i o, a = some ⟨i, o, none⟩ ∧ H'.cell i (o + j * 1) = some (Y b)
theorem RdB.o (h : RdB L a bs) : RdBO L a bs := fun H' hs j x hx => by
  obtain ⟨i, e, h2⟩ := h H' hs j x hx
  exact ⟨i, 0, e, h2⟩
theorem rdbo_gl {q o : Nat} {l1 l2 : List Nat} (hm : gl 1 (some q) ((l1 ++ l2).map Y) ∈ L) (ho : o = l1.length) : RdBO L (some ⟨q, o, none⟩) l2 := by
  intro H' hs j x hx
  have hg : H'.get q = some (.cells true 1 ((l1 ++ l2).map Y)) := (hs.all _ hm) (bx q (.cells true 1 ((l1 ++ l2).map Y))) (by simp)
  refine ⟨q, o, rfl, ?_⟩
  rw [cell_of hg, ho, Nat.mul_one, List.getElem?_map, List.getElem?_append_right (by omega), Nat.add_sub_cancel_left, hx]
  rfl

theorem SameBytesO_s {n k : Nat} (h : Sep H L) (ra : RdBO L a cs) (rb : RdBO L b bs) (hn' : n = cs.length) (hk' : k = bs.length) (hn : cs.length < 4611686018427387904) (hR : ∀ H', Sep H' L → R (.bool (decide (cs = bs))) H') : CA en F.crossbarkit_SameBytes [.slice a n 0, .slice b k 0] H R := by
  subst hn' hk'
  apply vc_crossbarkit_SameBytes
  refine cond_of (fun hl => ?_) fun hl => ?_
  · have hl : cs.length ≠ bs.length := by intro e; rw [e] at hl; simp at hl
    have := hR H h
    rw [decide_eq_false (fun e => hl (by rw [e]))] at this
    exact this
  have hl : cs.length = bs.length := by
    have : ((cs.length : Nat) : Int) = ((bs.length : Nat) : Int) := by simpa using hl
    omega
  refine use_crossbarkit_SameBytes_0 (fun k _ t5 H => ∃ j : Nat, j ≤ cs.length ∧ k = cs.length - j ∧ t5 = (j : Int) ∧ cs.take j = bs.take j ∧ Sep H L) cs.length ⟨0, by omega, rfl, rfl, by simp, h⟩ ?_
  clear h
  rintro k t4 t5 ys H3 ⟨j, hj, rfl, rfl, he, hs⟩
  refine cond_of (fun h1 => ?_) fun h1 => ?_
  · simp only [decide_eq_true_eq] at h1
    have hj' : j < cs.length := by omega
    obtain ⟨x, hx⟩ : ∃ x, cs[j]? = some x := ⟨_, List.getElem?_eq_getElem hj'⟩
    obtain ⟨y, hy⟩ : ∃ y, bs[j]? = some y := ⟨_, List.getElem?_eq_getElem (by omega)⟩
    have hB := hs.bump 9
    obtain ⟨i, o, rfl, e1⟩ := ra _ hB j x hx
    obtain ⟨i', o', rfl, e2⟩ := rb _ hB j y hy
    refine ⟨by unfold inB; omega, asRow_in ⟨_, e1, by unfold inB; omega, asRow_in ⟨_, e2, ⟨cond_of (fun hne => ?_) fun hne => ?_, trivial⟩⟩⟩⟩
    · have hne : ¬ x = y := by intro e; rw [e] at hne; simp at hne
      have := hR _ hB
      rw [decide_eq_false (fun e => by rw [e, hy] at hx; exact hne (Option.some.inj hx).symm)] at this
      exact asBool_in this
    · have hne : x = y := by have : (x : Int) = (y : Int) := by simpa using hne
                             omega
      refine ⟨cs.length - (j + 1), by omega, j + 1, by omega, rfl, ?_, ?_, hB⟩
      · rw [wrap_i64 (by omega)]; omega
      · rw [List.take_add_one, List.take_add_one, he, hx, hy, hne]
  · simp only [decide_eq_false_iff_not] at h1
    obtain rfl : j = cs.length := by omega
    have e : cs = bs := by
      rw [List.take_length, List.take_of_length_le (by omega)] at he
      exact he
    have := hR H3 hs
    rw [decide_eq_true e] at this
    exact asBool_in this

def mkB (j : Nat) : Nat := (201 + 7 * j) % 256
def mkbs (n : Nat) : List Nat := (List.range n).map mkB
theorem mkbs_len (n : Nat) : (mkbs n).length = n := by simp [mkbs]
theorem mkbs_snoc (n : Nat) : mkbs (n + 1) = mkbs n ++ [mkB n] := by unfold mkbs; rw [List.range_succ, List.map_append]; rfl
theorem markB_s {j : Nat} (hj : j ≤ 10) (hR : R (Y (mkB j)) H) : CA en F.crossbarkit_markBytes [I j] H R := by
  apply vc_crossbarkit_markBytes
  have e : IntKind.u8.wrap (IntKind.i64.wrap (201 + IntKind.i64.wrap (7 * (j : Int)))) = ((mkB j : Nat) : Int) := by
    rw [wrap_i64 (n := 7 * (j : Int)) (by omega), wrap_i64 (by omega), wrap_u8']; unfold mkB; omega
  rw [e]; exact hR

theorem LentB_s {n : Nat} (h : Sep H L) (rd : RdB L a bs) (hn : n = bs.length) (hl : bs.length ≤ 100000) (hR : ∀ H' q, Sep H' (gl 1 (some q) ((bs ++ mkbs 5).map Y) :: L) → R (.slice (addr (some q)) (bs.length + 5) 0) H') : CA en F.crossbarkit_LentBytes [.slice a n 0] H R := by
  subst hn
  apply vc_crossbarkit_LentBytes
  refine CopyBytes_s h rd (by omega) fun H2 q hq h2 => ⟨_, _, rfl, ?_⟩
  refine use_crossbarkit_LentBytes_0 (fun k t3 t3l t4 H => ∃ (j : Nat) (q : Option Nat), j ≤ 5 ∧ k = 5 - j ∧ t4 = (j : Int) ∧ t3 = addr q ∧ t3l = bs.length + j ∧ (q = none → bs ++ mkbs j = []) ∧ Sep H (gl 1 q ((bs ++ mkbs j).map Y) :: L)) 5 ⟨0, q, by omega, rfl, rfl, rfl, rfl, fun e => by rw [hq e]; rfl, by show Sep H2 (gl 1 q ((bs ++ []).map Y) :: L); rw [List.append_nil]; exact h2⟩ ?_
  clear h h2
  rintro k t3 t3l t4 ys H3 ⟨j, q, hj, rfl, rfl, rfl, rfl, hq, hs⟩
  refine cond_of (fun h1 => ?_) fun h1 => ?_
  · have hj' : j < 5 := by simp only [decide_eq_true_eq] at h1; omega
    refine markB_s (by omega) ⟨_, rfl, Sep.nw hs fun i H9 h9 => ⟨[Y (mkB j)], rowOf_bx (es := 1) (n := 1) (b := i) (Sep.get0 h9) (by decide) rfl, ?_⟩⟩
    refine apd_gl (b := q) (cs := (bs ++ mkbs j).map Y) (new := [Y (mkB j)]) (Sep.up1 h9) (fun e => by rw [hq e]; rfl) (by decide) (by rw [List.length_map, List.length_append, mkbs_len, Nat.mul_one]) (by decide) rfl (by omega) fun H13 q' h13 => ⟨5 - (j + 1), by omega, j + 1, some q', by omega, rfl, by rw [wrap_i64 (by omega)]; omega, rfl, by omega, (fun h => by cases h), ?_⟩
    rw [mkbs_snoc, ← List.append_assoc, List.map_append]
    exact Sep.rm1 h13
  · obtain rfl : j = 5 := by simp only [decide_eq_false_iff_not] at h1; omega
    cases q with
    | none => have := hq rfl; rw [List.append_eq_nil_iff] at this; cases this.2
    | some q => exact asSl_in (hR H3 q hs)

theorem KeptB_s {n q : Nat} (h : Sep H L) (hm : gl 1 (some q) ((bs ++ mkbs 5).map Y) ∈ L) (rd : RdB L b bs) (hn : n = bs.length) (hl : bs.length ≤ 100000) (hR : ∀ H', Sep H' L → R (.bool true) H') : CA en F.crossbarkit_KeptBytes [.slice (addr (some q)) (bs.length + 5) 0, .slice b n 0] H R := by
  subst hn
  apply vc_crossbarkit_KeptBytes
  refine cond_no (by rw [wrap_i64 (by omega)]; simp) ⟨by unfold inS; omega, ?_⟩
  rw [Int.toNat_natCast]
  refine slK_part h hm ?_
  refine SameBytesO_s (cs := bs) (bs := bs) h ?_ rd.o rfl rfl (by omega) fun H3 h3 => ⟨_, rfl, cond_no (by simp) ?_⟩
  · intro H' hs j x hx
    have hg : H'.get q = some (.cells true 1 ((bs ++ mkbs 5).map Y)) := (hs.all _ hm) (bx q (.cells true 1 ((bs ++ mkbs 5).map Y))) (by simp)
    refine ⟨q, _, rfl, ?_⟩
    rw [cell_of hg, Nat.zero_mul, Nat.zero_add, Nat.mul_one, List.getElem?_map, List.getElem?_append_left (List.getElem?_eq_some_iff.1 hx).1, hx]
    rfl
  refine use_crossbarkit_KeptBytes_0 (fun k t5 t5l t6 H => ∃ (j : Nat) (g : Option Nat), j ≤ 5 ∧ k = 5 - j ∧ t6 = (j : Int) ∧ t5 = addr g ∧ t5l = j ∧ (g = none → j = 0) ∧ Sep H (gl 1 g ((mkbs j).map Y) :: L)) 5 ⟨0, none, by omega, rfl, rfl, rfl, rfl, fun _ => rfl, gl_none.2 h3⟩ ?_
  clear h h3
  rintro k t5 t5l t6 ys H3 ⟨j, g, hj, rfl, rfl, rfl, rfl, hg, hs⟩
  refine cond_of (fun h1 => ?_) fun h1 => ?_
  · have hj' : t5l < 5 := by simp only [decide_eq_true_eq] at h1; omega
    refine markB_s (by omega) ⟨_, rfl, Sep.nw hs fun i H9 h9 => ⟨[Y (mkB t5l)], rowOf_bx (es := 1) (n := 1) (b := i) (Sep.get0 h9) (by decide) rfl, ?_⟩⟩
    refine apd_gl (b := g) (cs := (mkbs t5l).map Y) (new := [Y (mkB t5l)]) (Sep.up1 h9) (fun e => by rw [hg e]; rfl) (by decide) (by rw [List.length_map, mkbs_len, Nat.mul_one]) (by decide) rfl (by omega) fun H13 q' h13 => ⟨5 - (t5l + 1), by omega, t5l + 1, some q', by omega, rfl, by rw [wrap_i64 (by omega)]; omega, rfl, rfl, (fun h => by cases h), ?_⟩
    rw [mkbs_snoc, List.map_append]
    exact Sep.rm1 h13
  · obtain rfl : t5l = 5 := by simp only [decide_eq_false_iff_not] at h1; omega
    refine asSl_in ⟨by unfold inS; omega, ?_⟩
    rw [Nat.add_sub_cancel_left]
    refine slK_part hs (List.mem_cons_of_mem _ hm) ?_
    refine SameBytesO_s (cs := mkbs 5) (bs := mkbs 5) hs (rdbo_gl (List.mem_cons_of_mem _ hm) (by rw [Nat.zero_add, Nat.mul_one])) (RdB.o (rdb_gl (List.mem_cons_self ..) fun e => by have := hg e; omega)) (mkbs_len 5).symm (mkbs_len 5).symm (by rw [mkbs_len]; decide) fun H11 h11 => ⟨_, rfl, ?_⟩
    rw [decide_eq_true rfl]
    exact hR H11 h11.tail

theorem spoilI_s {q : Option Nat} (hl : l.length < 100000) (n1 : q = none → l = []) (hs : Sep H (gl 5 q (flatI l) :: L)) (hR : ∀ H', Sep H' L → R undef H') : CA en F.crossbarkit_SpoilInsns [.slice (addr q) l.length 0] H R := by
  apply vc_crossbarkit_SpoilInsns
  refine use_crossbarkit_SpoilInsns_0 (fun k t2 H => ∃ (j : Nat) (c : List Value), c.length = l.length * 5 ∧ j ≤ l.length ∧ k = l.length - j ∧ t2 = (j : Int) ∧ Sep H (gl 5 q c :: L)) l.length ⟨0, flatI l, flatI_len l, by omega, rfl, rfl, hs⟩ ?_
  clear hs
  rintro k t2 ys H3 ⟨j, c, hl', hj, rfl, rfl, hs⟩
  refine cond_of (fun h1 => ?_) fun h1 => hR H3 hs.tail
  have hj' : j < l.length := by simp only [decide_eq_true_eq] at h1; omega
  have hw : IntKind.i64.wrap ((j : Int) + 7) = ((j + 7 : Nat) : Int) := by rw [wrap_i64 (by omega)]; omega
  rw [hw]
  apply vc_crossbarkit_markInsns
  refine Sep.nw hs fun i1 H2 h2 => Sep.st0 h2 (Nat.le_of_ble_eq_true rfl) fun H4 h4 => ⟨_, _, _, _, _, Sep.lds0 h4 rfl, _, _, _, _, _, rfl, by unfold inB; omega, ?_⟩
  cases q with
  | none => rw [n1 rfl] at hj'; simp at hj'
  | some q =>
    refine asRow_in (Sep.st1 (gl_some.1 (Sep.up1 h4)).swap (by rw [Int.toNat_natCast]; simp only [List.length_cons, List.length_nil]; omega) fun H6 h6 => ⟨l.length - (j + 1), by omega, j + 1, _, ?_, by omega, rfl, by rw [wrap_i64 (by omega)]; omega, gl_some.2 h6.swap.thin1⟩)
    rw [setAt_length]; exact hl'

/-! ### The law -/
theorem gets_le : ∀ (f k : Nat) (b : List Nat) (l : List Ins), getF chkI f k b = .ok l → l.length ≤ f
  | 0, k, b, l, h => by cases h; simp
  | f + 1, k, b, l, h => by
    rw [getF] at h
    split at h
    · cases h; simp
    · split at h
      · cases h
      · split at h
        · cases h
        · split at h
          · rename_i l' e
            cases h
            have := gets_le f _ _ l' e
            simp; omega
          · cases h
theorem getL_len (bs : List Nat) : (getL bs).length ≤ bs.length := by
  unfold getL
  cases h : gets bs with
  | ok l => exact gets_le _ _ _ l h
  | error e => simp

theorem GetU_s {i n : Nat} {c : List Value} (h : Sep H (bx i (.cells true 1 c) :: gh :: ga :: L)) (hb : Bytes c 0 bs) (hlt : ∀ b ∈ bs, b < 256) (hn' : n = bs.length) (hn : bs.length < 1000000)
    (hR : ∀ H' g, (g = none → getL bs = []) → Sep H' (gl 5 g (flatI (getL bs)) :: bx i (.cells true 1 c) :: gh :: ga :: L) → R (.tuple #[.slice (addr g) (getL bs).length 0, I (getE bs)]) H') : CA en F.insn_Get [.slice (some ⟨i, 0, none⟩) n 0] H R := by
  subst hn'
  refine Get_s h (.inr rfl) hb hlt (by omega) (fun e he H' h' => ?_) fun l he H' g hg h' => ?_
  · have := hR H' none
    unfold getL getE at this
    rw [he] at this
    exact this (fun _ => rfl) (gl_none.2 h')
  · have := hR H' g
    unfold getL getE at this
    rw [he] at this
    exact this hg h'
theorem GetV_s {q : Option Nat} {n : Nat} (h : Sep H (inb q bs :: gh :: ga :: L)) (hq : q = none → bs = []) (hlt : ∀ b ∈ bs, b < 256) (hn' : n = bs.length) (hn : bs.length < 1000000)
    (hR : ∀ H' g, (g = none → getL bs = []) → Sep H' (gl 5 g (flatI (getL bs)) :: inb q bs :: gh :: ga :: L) → R (.tuple #[.slice (addr g) (getL bs).length 0, I (getE bs)]) H') : CA en F.insn_Get [.slice (addr q) n 0] H R := by
  subst hn'
  refine Get_inb bs.length (Nat.le_refl _) h hq hlt (by omega) (fun e he H' h' => ?_) fun l he H' g hg h' => ?_
  · rw [List.take_length] at he
    have := hR H' none
    unfold getL getE at this
    rw [he] at this
    exact this (fun _ => rfl) (gl_none.2 h')
  · rw [List.take_length] at he
    have := hR H' g
    unfold getL getE at this
    rw [he] at this
    exact this hg h'

theorem InsnGets_ok {q : Option Nat} (hq : q = none → bs = []) (hlt : ∀ b ∈ bs, b < 256) (hs : Sep H (inb q bs :: gh :: ga :: L)) : CA en F.crossbarlaw02_InsnGets [.slice (addr q) bs.length 0] H fun v _ => v = .bool true := by
  apply vc_crossbarlaw02_InsnGets
  have known : ∀ {H' : Heap} {L' : List Asr}, Sep H' (gh :: ga :: L') → CA en F.crossbarlaw02_known [] H' (fun v _ => ∃ b, v = .bool b ∧ Value.bool b = .bool true) := fun h' => known02_s h' fun H2 h2 => ⟨_, rfl, rfl⟩
  refine cond_of (fun c => known (Sep.pick hs 3 [1, 2, 0] (by decide))) fun c => ?_
  have c : bs.length ≤ 8192 := by simp only [decide_eq_false_iff_not] at c; omega
  have hbl := getL_len bs
  refine LentB_s hs (rdb_inb (by simp) hq) rfl (by omega) fun H5 qi h5 => ⟨_, _, rfl, by unfold inS; omega, ?_⟩
  rw [Int.toNat_natCast]
  refine slK_part h5 (List.mem_cons_self ..) ?_
  rw [Nat.zero_mul]
  -- in b gh ga
  have h6 : Sep H5 (bx qi (.cells true 1 ((bs ++ mkbs 5).map Y)) :: gh :: ga :: inb q bs :: L) := Sep.pick (gl_some.1 h5) 4 [0, 2, 3, 1] (by decide)
  refine GetU_s (bs := bs) h6 ?_ hlt rfl (by omega) fun H10 g1 hg1 h10 => ⟨_, _, _, rfl, ?_⟩
  · intro k b hk
    rw [Nat.zero_add, List.getElem?_map, List.getElem?_append_left (List.getElem?_eq_some_iff.1 hk).1, hk]; rfl
  -- g1 in gh ga b
  refine docGet_s (q := q) h10 (by simp) hq hlt rfl (by omega) fun H15 g2 hg2 h15 => ⟨_, _, _, rfl, cond_no (by simp) ?_⟩
  -- g2 g1 in gh ga b
  refine SameInsns_s (l := getL bs) (m := getL bs) h15 (rds_gl (by simp) hg1) (rds_gl (by simp) hg2) (by omega) fun H20 h20 => ⟨_, rfl, cond_no (by simp) ?_⟩
  have h21 : Sep H20 (gl 1 (some qi) ((bs ++ mkbs 5).map Y) :: gl 5 g2 (flatI (getL bs)) :: gl 5 g1 (flatI (getL bs)) :: gh :: ga :: inb q bs :: L) := gl_some.2 (Sep.up2 h20)
  refine KeptB_s h21 (by simp) (rdb_inb (by simp) hq) rfl (by omega) fun H23 h23 => ⟨_, rfl, cond_no rfl ?_⟩
  refine spoilI_s (by omega) hg1 (Sep.up2 h23) fun H26 h26 => ⟨rfl, ?_⟩
  -- in g2 gh ga b
  have h27 : Sep H26 (inb q bs :: gh :: ga :: gl 5 g2 (flatI (getL bs)) :: L) := Sep.pick h26 5 [4, 2, 3, 1] (by decide)
  refine GetV_s h27 hq hlt rfl (by omega) fun H28 g3 hg3 h28 => ⟨_, _, _, rfl, ?_⟩
  -- g3 b gh ga g2
  refine SameInsns_s (l := getL bs) (m := getL bs) h28 (rds_gl (by simp) hg3) (rds_gl (by simp) hg2) (by omega) fun H33 h33 => ⟨_, rfl, cond_yes (by simp) (known (Sep.pick h33 4 [2, 3, 1, 0] (by decide)))⟩

theorem InsnGets_law (H : Heap) (us : List Value) (hG : ∀ p ∈ [(0, gHalf), (1, gAtom)], p.1 < H.next ∧ H.get p.1 = some (.cells false 0 p.2)) (h : shpVs en H 7 T.InsnGets us) : CA en F.crossbarlaw02_InsnGets us H fun v _ => v = .bool true := by
  obtain ⟨v, u, rfl, hA, rfl⟩ := args_InsnGets h
  clear h
  have hs := sepG hG
  rcases hA with hA | ⟨i, cs, hA, hi, hg, hc⟩
  · obtain rfl := (List.cons.inj hA).1
    exact InsnGets_ok (q := none) (bs := []) (fun _ => rfl) (by simp) (inb_none.2 hs)
  · obtain rfl := (List.cons.inj hA).1
    obtain ⟨bs, rfl, hb⟩ := bytes_of cs hc
    rw [flat_one] at hg
    have hne : i ≠ 0 ∧ i ≠ 1 := by
      have h0 := (hG (0, gHalf) (by simp)).2
      have h1 := (hG (1, gAtom) (by simp)).2
      constructor
      · rintro rfl
        simp only at h0
        rw [hg] at h0
        cases bs with
        | nil => cases h0
        | cons b bs => cases h0
      · rintro rfl
        simp only at h1
        rw [hg] at h1
        cases bs with
        | nil => cases h1
        | cons b bs => cases h1
    have hs2 : Sep H [bx i (.cells false 0 (bs.map Y)), gh, ga] := by
      refine ⟨fun A hA => ?_, ?_, fun j hj => ?_⟩
      · rcases List.mem_cons.1 hA with rfl | hA
        · exact hg
        · exact hs.all A hA
      · simp [feet, bx, hne.1, hne.2]
      · rw [feet_cons] at hj
        rcases List.mem_append.1 hj with h1 | h1
        · simp only [bx, List.mem_singleton] at h1; rw [h1]; exact hi
        · exact hs.lt j h1
    have := InsnGets_ok (q := some i) (bs := bs) (fun e => by cases e) hb (inb_some.2 hs2)
    rw [List.length_map]
    exact this
end Go.Proofs.YtmgkngdbphkmmaaDoor
