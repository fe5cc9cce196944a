/-
  'crossbarlaw02.InsnBack' returns true: instructions, their bytes, and back.
-/
import Derived.Test.YtmgkngdbphkmmaaDoorInsnKit
import Derived.Test.YtmgkngdbphkmmaaDoorArgs
namespace Go.Proofs.YtmgkngdbphkmmaaDoor
open Go Go.AS Go.RowKit
set_option linter.unusedVariables false
variable {H H' : Heap} {R : Value → Heap → Prop} {L M : List Asr} {a b : Option Addr} {l m : List Ins}

theorem Get_gl {q : Option Nat} {bs : List Nat} (h : Sep H (gl 1 q (bs.map Y) :: gh :: ga :: L)) (hq : q = none → bs = []) (hlt : ∀ b ∈ bs, b < 256) (hn : bs.length < 4611686018427387904)
    (hE : ∀ e, gets bs = .error e → ∀ H', Sep H' (gl 1 q (bs.map Y) :: gh :: ga :: L) → R (.tuple #[.slice none 0 0, I e]) H')
    (hR : ∀ l, gets bs = .ok l → ∀ H' g, (g = none → l = []) → Sep H' (gl 5 g (flatI l) :: gl 1 q (bs.map Y) :: gh :: ga :: L) → R (.tuple #[.slice (addr g) l.length 0, I 0]) H') :
    CA en F.insn_Get [.slice (addr q) bs.length 0] H R := by
  cases q with
  | none =>
    have e := hq rfl
    subst e
    apply vc_insn_Get
    refine use_insn_Get_0 (fun k t0 t0l t2 t2l t3 t4 t4l H' => t0l = 0 ∧ t4 = none ∧ t4l = 0 ∧ H' = H) 0 ⟨rfl, rfl, rfl, rfl⟩ ?_
    rintro k t0 t0l t2 t2l t3 t4 t4l ys H3 ⟨rfl, rfl, rfl, rfl⟩
    refine cond_no rfl (asSl_in (asInt_in (asSl_in ?_)))
    exact hR [] rfl H3 none (fun _ => rfl) (gl_none.2 h)
  | some q =>
    refine Get_s (i := q) (z := 1) (w := true) (o := 0) (c := bs.map Y) (gl_some.1 h) (.inr rfl) (fun k b hk => by rw [Nat.zero_add, List.getElem?_map, hk]; rfl) hlt hn (fun e he H' h' => hE e he H' (gl_some.2 h')) fun l hl H' g hg h' => hR l hl H' g hg ?_
    exact Sep.up1 (gl_some.2 (Sep.up1 h'))

theorem puts_ge : ∀ l : List Ins, 8 * l.length ≤ (puts l).length
  | [] => by simp
  | x :: l => by
    have := puts_ge l
    have h2 := sizI_pos x
    rw [puts_cons, List.length_append, putI_len, List.length_cons]; omega

theorem gets_puts {l : List Ins} (hl : l.length ≤ 256) (hc : ∀ x ∈ l, chkI x = 0) : gets (puts l) = .ok l :=
  getF_puts chk_bnd l _ 0 (by have := puts_ge l; omega) (by omega) hc

theorem flatI_op (l : List Ins) {j : Nat} {x : Ins} (h : l[j]? = some x) : (flatI l)[j * 5]? = some (I x.op) := by
  have hw : ∀ c ∈ l.map Ins.cells, c.length = 5 := by intro c hc; obtain ⟨y, _, rfl⟩ := List.mem_map.1 hc; rfl
  obtain ⟨hj, e⟩ := List.getElem?_eq_some_iff.1 h
  have := rowsFlat_cell hw (j := j) (k := 0) (by simpa using hj) (by decide)
  rw [List.getElem_map, e, Nat.add_zero] at this
  exact this

theorem flatI_append (l m : List Ins) : flatI (l ++ m) = flatI l ++ flatI m := by simp [flatI]

theorem InsnBack_ok {n1 n2 : Nat} {M1 M2 : List Asr} (ha1 : Arg a n1 (l.map Ins.cells) M1) (ha2 : Arg b n2 (m.map Ins.cells) M2) (hM1 : ∀ A ∈ M1, A ∈ gh :: ga :: L) (hM2 : ∀ A ∈ M2, A ∈ gh :: ga :: L) (h : Sep H (gh :: ga :: L)) :
    CA en F.crossbarlaw02_InsnBack [.slice a n1 0, .slice b n2 0] H fun r _ => r = .bool true := by
  obtain rfl : n1 = l.length := by rw [ha1.len, List.length_map]
  obtain rfl : n2 = m.length := by rw [ha2.len, List.length_map]
  have known : ∀ {H L'}, Sep H (gh :: ga :: L') → CA en F.crossbarlaw02_known [] H fun v H' => ∃ b, v = .bool b ∧ Value.bool b = .bool true := fun h => known02_s h fun _ _ => ⟨_, rfl, rfl⟩
  apply vc_crossbarlaw02_InsnBack
  refine cond_of (fun _ => known h) fun hw => ?_
  simp only [decide_eq_false_iff_not] at hw
  have err2 : putErr m ≠ 0 → ∀ H' A, Sep H' (A :: gh :: ga :: L) → Sep H' (gh :: ga :: L) := fun _ H' A h' => h'.tail
  by_cases he : putErr l = 0
  · by_cases hf : putErr m = 0
    · refine Put_s h (rds_arg ha1 hM1) (fun h => absurd he h) fun _ H5 qa hqa h5 => ⟨_, _, _, rfl, ?_⟩
      refine Put_s (Sep.up2 (Sep.up2 h5)) (rds_arg ha2 fun A hA => by have := hM2 A hA; simp only [List.mem_cons] at this ⊢; rcases this with h | h | h <;> simp [h]) (fun h => absurd hf h) fun _ H10 qb hqb h10 => ⟨_, _, _, rfl, cond_no rfl (cond_no rfl ?_)⟩
      -- b gh ga a L
      have hl256 : l.length ≤ 256 := by
        refine Classical.byContradiction fun hc => ?_
        unfold putErr at he; rw [if_pos (by omega)] at he; cases he
      have hm256 : m.length ≤ 256 := by
        refine Classical.byContradiction fun hc => ?_
        unfold putErr at hf; rw [if_pos (by omega)] at hf; cases hf
      rw [wrap_i64 (by omega)] at hw
      have hcl : ∀ x ∈ l, chkI x = 0 := firstE_zero.1 (by unfold putErr at he; rw [if_neg (by omega)] at he; exact he)
      have hcm : ∀ x ∈ m, chkI x = 0 := firstE_zero.1 (by unfold putErr at hf; rw [if_neg (by omega)] at hf; exact hf)
      have hcb : ∀ x ∈ l ++ m, chkI x = 0 := fun x hx => (List.mem_append.1 hx).elim (hcl x) (hcm x)
      have hbe : putErr (l ++ m) = 0 := by unfold putErr; rw [if_neg (by rw [List.length_append]; omega)]; exact firstE_zero.2 hcb
      refine CopyInsns_s h10 (rds_arg ha1 fun A hA => by have := hM1 A hA; simp only [List.mem_cons] at this ⊢; rcases this with h | h | h <;> simp [h]) (by omega) fun H39 qk hqk h39 => ⟨_, _, rfl, _, rowOf_arg ha2 h39 (fun A hA => by have := hM2 A hA; simp only [List.mem_cons] at this ⊢; rcases this with h | h | h <;> simp [h]) (by intro c hc; obtain ⟨y, _, rfl⟩ := List.mem_map.1 hc; rfl) (by decide), ?_⟩
      refine apd_any (len := l.length) (n := m.length) h39 (fun e => by rw [hqk e]; rfl) (by decide) (flatI_len l) (by show (flatI m).length = _; exact flatI_len m) (by omega) fun H45 qq hqq h45 => ?_
      have h45 : Sep H45 (gl 5 qq (flatI (l ++ m)) :: gl 1 qb ((puts m).map Y) :: gh :: ga :: gl 1 qa ((puts l).map Y) :: L) := by rw [flatI_append]; exact h45
      have hqq' : qq = none → l ++ m = [] := fun e => by
        have this : flatI l ++ flatI m = [] := hqq e
        have h2 := flatI_len (l ++ m)
        rw [flatI_append, this] at h2
        exact List.eq_nil_of_length_eq_zero (by simp only [List.length_nil] at h2; omega)
      have hbl : (l ++ m).length = l.length + m.length := List.length_append
      rw [← hbl]
      generalize hB : l ++ m = both at *
      refine use_crossbarlaw02_InsnBack_0 (fun k t10 t11 H => ∃ j : Nat, j ≤ both.length ∧ k = both.length - j ∧ t11 = (j : Int) ∧ t10 = ((puts (both.take j)).length : Int) ∧ H = H45) both.length ⟨0, by omega, rfl, rfl, rfl, rfl⟩ ?_
      rintro k t10 t11 ys H3 ⟨j, hj, rfl, rfl, rfl, rfl⟩
      refine cond_of (fun h1 => ?_) fun h1 => ?_
      · simp only [decide_eq_true_eq] at h1
        have hj' : j < both.length := by omega
        obtain ⟨x, hx⟩ : ∃ x, both[j]? = some x := ⟨_, List.getElem?_eq_getElem hj'⟩
        have hple := puts_le (both.take j)
        rw [List.length_take, Nat.min_eq_left (by omega)] at hple
        have hs : (puts (both.take (j + 1))).length = (puts (both.take j)).length + sizI x := by rw [take_snoc' hx, puts_append, puts_one, List.length_append, putI_len]
        cases qq with
        | none => rw [hqq' rfl] at hj'; simp at hj'
        | some qq =>
          refine ⟨by unfold inB; omega, asRow_in ⟨x.op, ?_, cond_of (fun e => ?_) fun e => ?_⟩⟩
          · have hg := Sep.get0 (gl_some.1 h45)
            rw [cell_of hg, Nat.zero_add, Int.toNat_natCast]
            exact flatI_op both hx
          · have e : x.op = 24 := by simpa using e
            refine ⟨both.length - (j + 1), by omega, j + 1, by omega, rfl, ?_, ?_, rfl⟩
            · rw [wrap_i64 (by omega)]; omega
            · have : sizI x = 16 := if_pos e
              rw [wrap_i64 (n := ((puts (both.take j)).length : Int) + 8) (by omega), wrap_i64 (by omega), hs, this]; omega
          · have e : ¬ x.op = 24 := by simpa using e
            refine ⟨both.length - (j + 1), by omega, j + 1, by omega, rfl, ?_, ?_, rfl⟩
            · rw [wrap_i64 (by omega)]; omega
            · have : sizI x = 8 := if_neg e
              rw [wrap_i64 (by omega), hs, this]; omega
      · simp only [decide_eq_false_iff_not] at h1
        obtain rfl : j = both.length := by omega
        rw [List.take_length]
        refine asInt_in ?_
        have hplen := puts_le both
        have hR5 : Rds (gh :: ga :: gl 5 qq (flatI both) :: gl 1 qb ((puts m).map Y) :: gl 1 qa ((puts l).map Y) :: L) (addr qq) both := rds_gl (by simp) hqq'
        refine Put_s (Sep.up3 (Sep.up3 h45)) hR5 (fun h => absurd hbe h) fun _ H50 qc hqc h50 => ⟨_, _, _, rfl, ?_⟩
        refine Get_gl h50 hqc (puts_lt both) (by omega) (fun e he => by rw [gets_puts (by omega) hcb] at he; cases he) fun l2 hl2 H55 qg hqg h55 => ⟨_, _, _, rfl, cond_yes rfl (cond_yes rfl (cond_yes (by simp) ?_))⟩
        rw [gets_puts (by omega) hcb] at hl2
        cases hl2
        -- g c gh ga both b a
        have hpl := puts_le l
        have hpm := puts_le m
        refine CopyBytes_s h55 (rdb_gl (by simp) hqa) (by omega) fun H60 qd hqd h60 => ⟨_, _, rfl, _, rowOf_gl (es := 1) (n := (puts m).length) (q := qb) (cs := (puts m).map Y) h60 (by simp) (fun e => by rw [hqb e]; rfl) (by rw [List.length_map, Nat.mul_one]) (by decide), ?_⟩
        refine apd_any (len := (puts l).length) (n := (puts m).length) h60 (fun e => by rw [hqd e]; rfl) (by decide) (by rw [List.length_map, Nat.mul_one]) (by rw [List.length_map, Nat.mul_one]) (by omega) fun H66 qe hqe h66 => ?_
        have eb : puts both = puts l ++ puts m := by rw [← hB, puts_append]
        rw [← List.map_append, ← eb] at h66 hqe
        have hqe' : qe = none → puts both = [] := fun e => by
          have := hqe e
          simpa using this
        have elen : (puts l).length + (puts m).length = (puts both).length := by rw [eb, List.length_append]
        rw [elen]
        refine SameBytes_s (cs := puts both) (bs := puts both) h66 (rdb_gl (by simp) hqc) (rdb_gl (by simp) hqe') (by omega) fun H68 h68 => ⟨_, rfl, cond_yes (by simp) ?_⟩
        refine SameInsns_s (l := both) (m := both) h68 (rds_gl (by simp) hqg) (rds_gl (by simp) hqq') (by omega) fun H71 h71 => ⟨_, rfl, cond_yes (by simp) ?_⟩
        exact known (Sep.up4 (Sep.up4 h71))
    · refine Put_s h (rds_arg ha1 hM1) (fun h => absurd he h) fun _ H5 qa hqa h5 => ⟨_, _, _, rfl, ?_⟩
      refine Put_s (Sep.up2 (Sep.up2 h5)) (rds_arg ha2 fun A hA => by have := hM2 A hA; simp only [List.mem_cons] at this ⊢; rcases this with h | h | h <;> simp [h]) (fun _ H10 h10 => ⟨_, _, _, rfl, cond_no rfl (cond_yes (by simpa using hf) (cond_yes rfl (cond_no (by simpa using hf) (cond_yes rfl (known h10)))))⟩) fun h => absurd h hf
  · refine Put_s h (rds_arg ha1 hM1) (fun _ H5 h5 => ⟨_, _, _, rfl, ?_⟩) fun h => absurd h he
    by_cases hf : putErr m = 0
    · refine Put_s h5 (rds_arg ha2 hM2) (fun h => absurd hf h) fun _ H10 qb hqb h10 => ⟨_, _, _, rfl, cond_yes (by simpa using he) (cond_no (by simpa using he) (cond_yes rfl (cond_yes rfl (known h10.tail))))⟩
    · refine Put_s h5 (rds_arg ha2 hM2) (fun _ H10 h10 => ⟨_, _, _, rfl, cond_yes (by simpa using he) (cond_no (by simpa using he) (cond_yes rfl (cond_no (by simpa using hf) (cond_yes rfl (known h10)))))⟩) fun h => absurd h hf

theorem ins_of : ∀ (css : List (List Value)), (∀ c ∈ css, ∃ x : Ins, c = x.cells) → ∃ l : List Ins, css = l.map Ins.cells
  | [], _ => ⟨[], rfl⟩
  | c :: css, h => by
    obtain ⟨x, rfl⟩ := h c (by simp)
    obtain ⟨l, rfl⟩ := ins_of css fun c hc => h c (List.mem_cons_of_mem _ hc)
    exact ⟨x :: l, rfl⟩

/-- The program's variables, at the outset. -/
theorem sepG (hG : ∀ p ∈ [(0, gHalf), (1, gAtom)], p.1 < H.next ∧ H.get p.1 = some (.cells false 0 p.2)) : Sep H [gh, ga] := by
  have h0 := hG (0, gHalf) (by simp)
  have h1 := hG (1, gAtom) (by simp)
  refine ⟨fun A hA => ?_, by simp [feet, bx], fun i hi => ?_⟩
  · simp only [List.mem_cons, List.not_mem_nil, or_false] at hA
    rcases hA with rfl | rfl
    · exact h0.2
    · exact h1.2
  · simp [feet, bx] at hi
    rcases hi with rfl | rfl
    · exact h0.1
    · exact h1.1

theorem InsnBack_law (H : Heap) (us : List Value) (hG : ∀ p ∈ [(0, gHalf), (1, gAtom)], p.1 < H.next ∧ H.get p.1 = some (.cells false 0 p.2)) (h : shpVs en H 7 T.InsnBack us) : CA en F.crossbarlaw02_InsnBack us H fun v _ => v = .bool true := by
  obtain ⟨v, u, rfl, hA, v2, u2, rfl, hB, rfl⟩ := args_InsnBack h
  obtain ⟨a1, n1, css1, M1, X, rfl, ha1, m1, hs, hf, c1⟩ := Arg.moreE (SlArg.one hA) (sepG hG) (by intro A hA; simp only [List.mem_cons, List.not_mem_nil, or_false] at hA; rcases hA with rfl | rfl <;> exact ⟨_, _, rfl⟩)
  obtain ⟨a2, n2, css2, M2, X2, rfl, ha2, m2, hs2, hf2, c2⟩ := Arg.moreE (SlArg.one hB) hs hf
  obtain ⟨l, rfl⟩ := ins_of css1 fun c hm => by
    obtain ⟨ap1, bp1, rfl, ⟨np1, rfl, wp1⟩, ap2, bp2, rfl, ⟨np2, rfl, wp2⟩, ap3, bp3, rfl, ⟨np3, rfl, wp3⟩, ap4, bp4, rfl, ⟨np4, rfl, wp4⟩, ap5, bp5, rfl, ⟨np5, rfl, wp5⟩, rfl⟩ := c1 c hm
    exact ⟨⟨np1, np2, np3, np4, np5⟩, rfl⟩
  obtain ⟨m, rfl⟩ := ins_of css2 fun c hm => by
    obtain ⟨ap1, bp1, rfl, ⟨np1, rfl, wp1⟩, ap2, bp2, rfl, ⟨np2, rfl, wp2⟩, ap3, bp3, rfl, ⟨np3, rfl, wp3⟩, ap4, bp4, rfl, ⟨np4, rfl, wp4⟩, ap5, bp5, rfl, ⟨np5, rfl, wp5⟩, rfl⟩ := c2 c hm
    exact ⟨⟨np1, np2, np3, np4, np5⟩, rfl⟩
  exact InsnBack_ok ha1 ha2 (fun A hA => List.mem_append_left X2 (m1 A hA)) m2 hs2
end Go.Proofs.YtmgkngdbphkmmaaDoor
