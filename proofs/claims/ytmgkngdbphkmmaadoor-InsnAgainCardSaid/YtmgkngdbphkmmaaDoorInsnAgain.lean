/-
  'crossbarlaw02.InsnAgain' returns true: what bytes were read as has these bytes; cut they are none.
-/
import Derived.Test.YtmgkngdbphkmmaaDoorInsnBack
namespace Go.Proofs.YtmgkngdbphkmmaaDoor
open Go Go.AS Go.RowKit
set_option linter.unusedVariables false
variable {H H' : Heap} {R : Value → Heap → Prop} {L M : List Asr} {a b : Option Addr} {l m : List Ins}

/-- Bytes that were handed in: none, or a block. -/
def inb (q : Option Nat) (bs : List Nat) : Asr := many (match q with | none => [] | some i => [bx i (.cells false 0 (bs.map Y))])
theorem inb_some {i : Nat} {bs : List Nat} : Sep H (inb (some i) bs :: L) ↔ Sep H (bx i (.cells false 0 (bs.map Y)) :: L) := Sep.many_iff
theorem inb_none {bs : List Nat} : Sep H (inb none bs :: L) ↔ Sep H L := Sep.many_iff

theorem rdb_inb {q : Option Nat} {bs : List Nat} (hm : inb q bs ∈ L) (hq : q = none → bs = []) : RdB L (addr q) bs := by
  intro H' hs j x hx
  cases q with
  | none => rw [hq rfl] at hx; simp at hx
  | some q =>
    have hg : H'.get q = some (.cells false 0 (bs.map Y)) := (hs.all _ hm) (bx q (.cells false 0 (bs.map Y))) (by simp)
    exact ⟨q, rfl, by rw [cell_of hg, Nat.zero_add, Nat.mul_one, List.getElem?_map, hx]; rfl⟩

/-- The first of some bytes, read. -/
theorem Get_inb {q : Option Nat} {bs : List Nat} (n : Nat) (hn : n ≤ bs.length) (h : Sep H (inb q bs :: gh :: ga :: L)) (hq : q = none → bs = []) (hlt : ∀ b ∈ bs, b < 256) (hl : bs.length < 4611686018427387904)
    (hE : ∀ e, gets (bs.take n) = .error e → ∀ H', Sep H' (inb q bs :: gh :: ga :: L) → R (.tuple #[.slice none 0 0, I e]) H')
    (hR : ∀ l, gets (bs.take n) = .ok l → ∀ H' g, (g = none → l = []) → Sep H' (gl 5 g (flatI l) :: inb q bs :: gh :: ga :: L) → R (.tuple #[.slice (addr g) l.length 0, I 0]) H') :
    CA en F.insn_Get [.slice (addr q) n 0] H R := by
  have hlen : (bs.take n).length = n := by rw [List.length_take]; omega
  cases q with
  | none =>
    have e := hq rfl
    subst e
    have n0 : n = 0 := by simpa using hn
    subst n0
    apply vc_insn_Get
    refine use_insn_Get_0 (fun k t0 t0l t2 t2l t3 t4 t4l H' => t0l = 0 ∧ t4 = none ∧ t4l = 0 ∧ H' = H) 0 ⟨rfl, rfl, rfl, rfl⟩ ?_
    rintro k t0 t0l t2 t2l t3 t4 t4l ys H3 ⟨rfl, rfl, rfl, rfl⟩
    refine cond_no rfl (asSl_in (asInt_in (asSl_in ?_)))
    exact hR [] rfl H3 none (fun _ => rfl) (gl_none.2 h)
  | some q =>
    have G := Get_s (R := R) (i := q) (z := 0) (w := false) (o := 0) (c := bs.map Y) (bs := bs.take n) (inb_some.1 h) (.inl rfl) (fun k b hk => by
      rw [List.getElem?_take] at hk
      split at hk
      · rw [Nat.zero_add, List.getElem?_map, hk]; rfl
      · cases hk) (fun b hb => hlt b (List.mem_of_mem_take hb)) (by omega) (fun e he H' h' => hE e he H' (inb_some.2 h')) fun l hl H' g hg h' => hR l hl H' g hg (Sep.up1 (inb_some.2 (Sep.up1 h')))
    rw [hlen] at G
    exact G

theorem gets_back {bs : List Nat} (hlt : ∀ b ∈ bs, b < 256) (h : gets bs = .ok l) : puts l = bs ∧ (∀ x ∈ l, chkI x = 0) ∧ l.length ≤ 256 := by
  have := getF_back chk_bnd bs.length 0 bs l (Nat.le_refl _) (by omega) hlt h
  exact ⟨this.1, this.2.1, by omega⟩

theorem Pick_s {v n : Int} (hn : 1 ≤ n) (hl : n ≤ 4611686018427387904) (hR : R (I (v % n)) H) : CA en F.crossbarkit_Pick [I v, I n] H R := by
  apply vc_crossbarkit_Pick
  refine cond_no (by simp; omega) ⟨by unfold nz; omega, ?_⟩
  have hb : (v.tmod n).natAbs < n.natAbs := by
    rw [Int.natAbs_tmod]; exact Nat.mod_lt _ (by omega)
  have h1 : v % n = if v.tmod n < 0 then v.tmod n + n else v.tmod n := by
    have e1 := Int.tmod_add_mul_tdiv v n
    split
    · rename_i h
      have : v % n = (v.tmod n + n) % n := by
        conv => lhs; rw [← e1]
        rw [Int.add_mul_emod_self_left, Int.add_emod_right]
      rw [this]; exact Int.emod_eq_of_lt (by omega) (by omega)
    · rename_i h
      have : v % n = (v.tmod n) % n := by
        conv => lhs; rw [← e1]
        rw [Int.add_mul_emod_self_left]
      rw [this]; exact Int.emod_eq_of_lt (by omega) (by omega)
  rw [h1] at hR
  refine cond_of (fun h => ?_) fun h => ?_
  · simp only [decide_eq_true_eq] at h
    rw [if_pos h] at hR
    rw [wrap_i64 (by omega)]; exact hR
  · simp only [decide_eq_false_iff_not] at h
    rw [if_neg h] at hR; exact hR

theorem getF_err : ∀ (f k : Nat) (bs : List Nat) (e : Int), getF chkI f k bs = .error e → e ≠ 0
  | 0, k, bs, e, h => by simp [getF] at h
  | f + 1, k, bs, e, h => by
    rw [getF] at h
    split at h
    · cases h
    · split at h
      · cases h; decide
      · split at h
        · rename_i h0; cases h; exact h0
        · split at h
          · cases h
          · rename_i e' he
            cases h
            exact getF_err f _ _ _ he

theorem getF_fuel : ∀ (f f' k : Nat) (bs : List Nat), (∀ b ∈ bs, b < 256) → bs.length ≤ f → bs.length ≤ f' → getF chkI f k bs = getF chkI f' k bs
  | 0, 0, k, bs, _, _, _ => rfl
  | 0, f' + 1, k, bs, _, h, _ => by
    have : bs = [] := List.eq_nil_of_length_eq_zero (by omega)
    subst this
    simp [getF]
  | f + 1, 0, k, bs, _, _, h => by
    have : bs = [] := List.eq_nil_of_length_eq_zero (by omega)
    subst this
    simp [getF]
  | f + 1, f' + 1, k, bs, hlt, h, h' => by
    rw [getF, getF]
    by_cases h0 : bs = []
    · rw [if_pos h0, if_pos h0]
    rw [if_neg h0, if_neg h0]
    by_cases h1 : k = 256
    · rw [if_pos h1, if_pos h1]
    rw [if_neg h1, if_neg h1]
    obtain ⟨x, n, e, hgo⟩ : ∃ x n e, getOne chkI bs = (x, n, e) := ⟨_, _, _, rfl⟩
    rw [hgo]
    simp only
    by_cases h2 : e ≠ 0
    · rw [if_pos h2, if_pos h2]
    rw [if_neg h2, if_neg h2]
    have he : e = 0 := by omega
    subst he
    obtain ⟨n1, n2, _, _⟩ := getOne_back hlt hgo
    have := sizI_pos x
    rw [getF_fuel f f' (k + 1) (bs.drop n) (fun b hb => hlt b (List.mem_of_mem_drop hb)) (by rw [List.length_drop]; omega) (by rw [List.length_drop]; omega)]

theorem gets_cut {bs : List Nat} (hlt : ∀ b ∈ bs, b < 256) (h : gets bs = .ok l) (c : Nat) (hc : c ≤ bs.length) :
    (∃ j, j ≤ l.length ∧ gets (bs.take c) = .ok (l.take j) ∧ puts (l.take j) = bs.take c) ∨ gets (bs.take c) = .error 20 := by
  obtain ⟨hp, hck, h256⟩ := gets_back hlt h
  have hge := puts_ge l
  have e : gets (bs.take c) = getF chkI bs.length 0 (bs.take c) := getF_fuel _ _ _ _ (fun b hb => hlt b (List.mem_of_mem_take hb)) (Nat.le_refl _) (by rw [List.length_take]; omega)
  rw [e]
  have := getF_cut chk_bnd l bs.length 0 c (by rw [hp] at hge; omega) (by omega) hck (by rw [hp]; exact hc)
  rw [hp] at this
  exact this

theorem slK_inb {q : Option Nat} {bs : List Nat} {n : Nat} {K : Value → Prop} (hs : Sep H L) (hm : inb q bs ∈ L) (hq : q = none → bs = []) (hn : n ≤ bs.length) (hK : K (.slice (addr q) n 0)) : slK H (addr q) 1 0 n K := by
  cases q with
  | none =>
    have : n = 0 := by rw [hq rfl] at hn; simpa using hn
    subst this
    exact hK
  | some i =>
    have hg : H.get i = some (.cells false 0 (bs.map Y)) := (hs.all _ hm) (bx i (.cells false 0 (bs.map Y))) (by simp)
    exact ⟨⟨_, _, _, hg, .inl rfl⟩, hK⟩

theorem slK_gl {q : Option Nat} {n : Nat} {K : Value → Prop} (hs : Sep H L) (hm : gl 5 q (flatI l) ∈ L) (hq : q = none → l = []) (hn : n ≤ l.length) (hK : K (.slice (addr q) n 0)) : slK H (addr q) 5 0 n K := by
  cases q with
  | none =>
    have : n = 0 := by rw [hq rfl] at hn; simpa using hn
    subst this
    exact hK
  | some i =>
    have hg : H.get i = some (.cells true 5 (flatI l)) := (hs.all _ hm) (bx i (.cells true 5 (flatI l))) (by simp)
    exact ⟨⟨_, _, _, hg, .inr rfl⟩, hK⟩

theorem rds_take {n : Nat} (h : Rds L a l) : Rds L a (l.take n) := by
  intro H' hs j x hx
  rw [List.getElem?_take] at hx
  split at hx
  · exact h H' hs j x hx
  · cases hx

theorem InsnAgain_ok {q : Option Nat} {bs : List Nat} {x1 : Int} (hq : q = none → bs = []) (hlt : ∀ b ∈ bs, b < 256) (h : Sep H (inb q bs :: gh :: ga :: L)) :
    CA en F.crossbarlaw02_InsnAgain [.slice (addr q) bs.length 0, I x1] H fun r _ => r = .bool true := by
  have known : ∀ {H L'}, Sep H (gh :: ga :: L') → CA en F.crossbarlaw02_known [] H fun v H' => ∃ b, v = .bool b ∧ Value.bool b = .bool true := fun h => known02_s h fun _ _ => ⟨_, rfl, rfl⟩
  apply vc_crossbarlaw02_InsnAgain
  refine cond_of (fun _ => known h.tail) fun hl => ?_
  have hl : bs.length ≤ 8192 := by simp only [decide_eq_false_iff_not] at hl; omega
  have htk : bs.take bs.length = bs := List.take_length
  have htl : ∀ H, ∀ A : Asr, Sep H (A :: gh :: ga :: L) → Sep H (gh :: ga :: L) := fun H A h => h.tail
  refine Get_inb bs.length (Nat.le_refl _) h hq hlt (by omega) (fun e he H5 h5 => ?_) fun l hgl H5 gq hg h5 => ⟨_, _, _, rfl, cond_no rfl ?_⟩
  · rw [htk] at he
    have hne : e ≠ 0 := getF_err _ _ _ _ he
    exact ⟨_, _, _, rfl, cond_yes (by simpa using hne) (cond_yes rfl (known h5.tail))⟩
  rw [htk] at hgl
  obtain ⟨hp, hc, h256⟩ := gets_back hlt hgl
  have hpe : putErr l = 0 := by unfold putErr; rw [if_neg (by omega)]; exact firstE_zero.2 hc
  -- all of them may be
  refine use_crossbarlaw02_InsnAgain_0 (fun k _ t7 H => ∃ j : Nat, j ≤ l.length ∧ k = l.length - j ∧ t7 = (j : Int) ∧ Sep H (gl 5 gq (flatI l) :: inb q bs :: gh :: ga :: L)) l.length ⟨0, by omega, rfl, rfl, h5⟩ ?_
  clear h5
  rintro k t4 t7 ys H6 ⟨j, hj, rfl, rfl, h6⟩
  refine cond_of (fun h1 => ?_) fun h1 => ?_
  · simp only [decide_eq_true_eq] at h1
    have hj' : j < l.length := by omega
    obtain ⟨x, hx⟩ : ∃ x, l[j]? = some x := ⟨_, List.getElem?_eq_getElem hj'⟩
    obtain ⟨i, hi, e1⟩ := rds_gl (L := gl 5 gq (flatI l) :: inb q bs :: gh :: ga :: L) (by simp) hg H6 h6 j x hx
    rw [hi]
    refine ⟨by unfold inB; omega, asRow_in ⟨_, _, _, _, _, e1, check_s (x := x) (Sep.up3 (Sep.up3 h6)) fun H9 h9 => ⟨_, rfl, cond_no (by rw [hc x (List.mem_of_getElem? hx)]; rfl) ⟨l.length - (j + 1), by omega, j + 1, by omega, rfl, ?_, ?_⟩⟩⟩⟩
    · rw [wrap_i64 (by omega)]; omega
    · exact Sep.up3 (Sep.up3 h9)
  · simp only [decide_eq_false_iff_not] at h1
    refine asBool_in ?_
    -- gh ga l b
    refine Put_s (l := l) (Sep.up3 (Sep.up3 h6)) (rds_gl (by simp) hg) (fun h => absurd hpe h) fun _ H16 qc hqc h16 => ⟨_, _, _, rfl, ?_⟩
    rw [hp] at h16 hqc ⊢
    -- c gh ga l b
    have hw : IntKind.i64.wrap (((bs.length : Nat) : Int) + 1) = ((bs.length + 1 : Nat) : Int) := by rw [wrap_i64 (by omega)]; omega
    rw [hw]
    refine Pick_s (by omega) (by omega) ⟨_, rfl, ?_⟩
    have hkb : 0 ≤ x1 % ((bs.length + 1 : Nat) : Int) ∧ x1 % ((bs.length + 1 : Nat) : Int) < ((bs.length + 1 : Nat) : Int) := ⟨Int.emod_nonneg _ (by omega), Int.emod_lt_of_pos _ (by omega)⟩
    obtain ⟨cut, hk⟩ := Int.eq_ofNat_of_zero_le hkb.1
    rw [hk]
    have hcut : cut ≤ bs.length := by omega
    refine ⟨by unfold inS; omega, ?_⟩
    rw [Int.toNat_natCast]
    refine slK_inb (q := q) (bs := bs) h16 (by simp) hq hcut ?_
    -- b gh ga c l
    have h21 : Sep H16 (inb q bs :: gh :: ga :: gl 1 qc (bs.map Y) :: gl 5 gq (flatI l) :: L) := Sep.up4 (Sep.up2 (Sep.up2 h16))
    have hcb : RdB (inb q bs :: gh :: ga :: gl 1 qc (bs.map Y) :: gl 5 gq (flatI l) :: L) (addr qc) bs := rdb_gl (by simp) hqc
    rcases gets_cut hlt hgl cut hcut with ⟨j', hj', hgm, hpm⟩ | hge
    · refine Get_inb cut hcut h21 hq hlt (by omega) (fun e he => by rw [hgm] at he; cases he) fun m hm H25 gm hgm' h25 => ⟨_, _, _, rfl, cond_no rfl ?_⟩
      rw [hgm] at hm
      cases hm
      have hml : (l.take j').length = j' := by rw [List.length_take]; omega
      -- m b gh ga c l
      refine SameBytes_s (cs := bs) (bs := bs) h25 (rdb_gl (by simp) hqc) (rdb_inb (by simp) hq) (by omega) fun H30 h30 => ⟨_, rfl, cond_no (by simp) (cond_yes rfl ?_)⟩
      have hmc : ∀ x ∈ l.take j', chkI x = 0 := fun x hx => hc x (List.mem_of_mem_take hx)
      have hme : putErr (l.take j') = 0 := by unfold putErr; rw [if_neg (by omega)]; exact firstE_zero.2 hmc
      refine Put_s (l := l.take j') (Sep.up3 (Sep.up3 h30)) (rds_gl (by simp) hgm') (fun h => absurd hme h) fun _ H33 qd hqd h33 => ⟨_, _, _, rfl, cond_yes rfl (cond_yes ?_ (cond_yes ?_ ⟨?_, ?_⟩))⟩
      · rw [hpm, List.length_take, Nat.min_eq_left hcut]; simp
      · rw [hml]; simp; exact hj'
      · rw [hml]; unfold inS; omega
      rw [hml, Int.toNat_natCast]
      refine slK_gl (q := gq) (l := l) h33 (by simp) hg hj' ?_
      have S := SameInsns_s (R := fun v38 H39 => ∃ b40, v38 = (.bool b40) ∧ (bif b40 then CA en F.crossbarlaw02_known [] H39 (fun v41 H42 => ∃ b43, v41 = (.bool b43) ∧ Value.bool b43 = .bool true) else Value.bool false = .bool true)) (l := l.take j') (m := l.take j') (a := addr gm) (b := addr gq) h33 (rds_gl (by simp) hgm') (rds_take (rds_gl (by simp) hg)) (by omega) fun H39 h39 => ⟨_, rfl, cond_yes (by simp) (known h39.tail)⟩
      rw [hml] at S
      exact S
    · refine Get_inb cut hcut h21 hq hlt (by omega) (fun e he H25 h25 => ?_) fun m hm => by rw [hge] at hm; cases hm
      rw [hge] at he
      cases he
      refine ⟨_, _, _, rfl, cond_no rfl ?_⟩
      refine SameBytes_s (cs := bs) (bs := bs) h25 (rdb_gl (by simp) hqc) (rdb_inb (by simp) hq) (by omega) fun H30 h30 => ⟨_, rfl, cond_no (by simp) (cond_no rfl (cond_yes rfl (cond_yes rfl (known h30.tail))))⟩

theorem bytes_of : ∀ (css : List (List Value)), (∀ c ∈ css, ∃ n : Int, c = [.int .u8 n] ∧ (Lit.int .u8 n).wf = true) → ∃ bs : List Nat, css = bs.map (fun b => [Y b]) ∧ ∀ b ∈ bs, b < 256
  | [], _ => ⟨[], rfl, by simp⟩
  | c :: css, h => by
    obtain ⟨n, rfl, hn⟩ := h c (by simp)
    obtain ⟨bs, rfl, hb⟩ := bytes_of css fun c hc => h c (List.mem_cons_of_mem _ hc)
    have hw : 0 ≤ n ∧ n < 256 := by
      simp only [Lit.wf, IntKind.min, IntKind.max, Bool.and_eq_true, decide_eq_true_eq] at hn
      have e1 : IntKind.u8.signed = false := rfl
      have e2 : IntKind.u8.bits = 8 := rfl
      simp [e1, e2] at hn
      omega
    obtain ⟨k, rfl⟩ := Int.eq_ofNat_of_zero_le hw.1
    refine ⟨k :: bs, rfl, fun b hb' => ?_⟩
    rcases List.mem_cons.1 hb' with rfl | hb'
    · omega
    · exact hb b hb'

theorem flat_one : ∀ bs : List Nat, (bs.map fun b => [Y b]).flatten = bs.map Y
  | [] => rfl
  | b :: bs => by simp [flat_one bs]

theorem InsnAgain_law (H : Heap) (us : List Value) (hG : ∀ p ∈ [(0, gHalf), (1, gAtom)], p.1 < H.next ∧ H.get p.1 = some (.cells false 0 p.2)) (h : shpVs en H 7 T.InsnAgain us) : CA en F.crossbarlaw02_InsnAgain us H fun v _ => v = .bool true := by
  obtain ⟨v, u, rfl, hA, v2, u2, rfl, ⟨n, hn, wn⟩, rfl⟩ := args_InsnAgain h
  obtain rfl := (List.cons.inj hn).1
  clear h hn
  have hs := sepG hG
  rcases hA with hA | ⟨i, cs, hA, hi, hg, hc⟩
  · obtain rfl := (List.cons.inj hA).1
    exact InsnAgain_ok (q := none) (bs := []) (fun _ => rfl) (by simp) (inb_none.2 hs)
  · obtain rfl := (List.cons.inj hA).1
    obtain ⟨bs, rfl, hb⟩ := bytes_of cs hc
    rw [flat_one] at hg
    have hne : i ≠ 0 ∧ i ≠ 1 := by
      have h0 := (hG (0, gHalf) (by simp)).2
      have h1 := (hG (1, gAtom) (by simp)).2
      constructor
      · rintro rfl
        simp only at h0
        rw [hg] at h0
        cases bs with
        | nil => cases h0
        | cons b bs => cases h0
      · rintro rfl
        simp only at h1
        rw [hg] at h1
        cases bs with
        | nil => cases h1
        | cons b bs => cases h1
    have hs2 : Sep H [bx i (.cells false 0 (bs.map Y)), gh, ga] := by
      refine ⟨fun A hA => ?_, ?_, fun j hj => ?_⟩
      · rcases List.mem_cons.1 hA with rfl | hA
        · exact hg
        · exact hs.all A hA
      · simp [feet, bx, hne.1, hne.2]
      · rw [feet_cons] at hj
        rcases List.mem_append.1 hj with h1 | h1
        · simp only [bx, List.mem_singleton] at h1; rw [h1]; exact hi
        · exact hs.lt j h1
    have := InsnAgain_ok (q := some i) (bs := bs) (x1 := n) (fun e => by cases e) hb (inb_some.2 hs2)
    rw [List.length_map]
    exact this
end Go.Proofs.YtmgkngdbphkmmaaDoor
