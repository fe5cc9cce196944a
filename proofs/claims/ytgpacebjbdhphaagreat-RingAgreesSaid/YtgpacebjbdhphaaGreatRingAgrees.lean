/-
  Whatever agents do, whoever's turn it is: a ring's runs agree with the document's model, in the order of their effects.
-/
import Derived.Test.YtgpacebjbdhphaaGreatRgM
import Derived.Test.YtgpacebjbdhphaaGreatArgz
import Derived.Test.YtgpacebjbdhphaaGreatAs45
namespace Go.Proofs.YtgpacebjbdhphaaGreat
open Go Go.AS Go.RowKit
set_option linter.unusedVariables false
variable {H H' H0 : Heap} {R : Value → Heap → Prop} {L M : List Asr} {c : Int} {p a : Nat} {cf : Cf} {As : Rg.Ags} {dr sv last : Nat} {l : List Ws} {ws : Ws}

/-! ### What was there stays there -/
def Ext (H0 H1 : Heap) : Prop := ∀ i, i < H0.next → i < H1.next ∧ H1.get i = H0.get i
theorem ext_new (H0 : Heap) (o : AS.Obj) : Ext H0 (H0.new o) := fun i h => ⟨by rw [next_new]; omega, by rw [get_new, if_neg (by omega)]⟩
theorem OldS.ext {H1 : Heap} {a : Option Addr} {n : Nat} {css : List (List Value)} (e : Ext H0 H1) (o : OldS H0 a n css) : OldS H1 a n css :=
  ⟨o.1, o.2.imp_right fun ⟨i, h1, h2, h3⟩ => ⟨i, h1, (e i h2).1, by rw [(e i h2).2]; exact h3⟩⟩
theorem DeedsLL.ext {H1 : Heap} {a : Option Addr} {n : Nat} {ll : List (List Deed)} (e : Ext H0 H1) (o : DeedsLL H0 a n ll) : DeedsLL H1 a n ll := by
  obtain ⟨css, h1, h2, h3⟩ := o.ex
  refine ⟨o.len, css, OldS.ext e h1, h2, fun k l hk => ?_⟩
  obtain ⟨c, h4, a', n', rfl, h5⟩ := h3 k l hk
  obtain ⟨css', h6, h7, h8⟩ := h5.ex
  refine ⟨_, h4, a', n', rfl, h5.len, css', OldS.ext e h6, h7, fun j x hx => ?_⟩
  obtain ⟨c, h9, a2, n2, rfl, h10⟩ := h8 j x hx
  exact ⟨_, h9, a2, n2, rfl, OldS.ext e h10⟩


/-! ### How it begins -/
abbrev ka0 : Ka := ⟨none, 0, 0, none, 0, 0, 0, 0, false, 0⟩
theorem many_nils (h : Sep H L) : ∀ n : Nat, Sep H (many (List.replicate n (many [])) :: L)
  | 0 => Sep.many0 h
  | n + 1 => by
    refine Sep.many_iff.2 ?_
    rw [List.replicate_succ]
    exact Sep.many0 (Sep.many_iff.1 (many_nils h n))

set_option maxHeartbeats 1000000 in
theorem gbegun_s {st : Bool} {w e : Int} {la ta : Option Addr} {n tn : Nat} {ll : List (List Deed)} (h : Sep H [old H0]) (hn : 1 ≤ n ∧ n ≤ 4) (hl : n = ll.length)
    (hR : ∀ H' p s cf ws, cf.Ok → s.n = n → GS H0 p s cf ll H' (List.replicate n none) (List.replicate n ka0) 0 0 0 ws [] 0 → R (P p) H') : CA en F.crossbarlaw17_begun [.agg #[.bool st, I e, I w, .slice la n 0, .slice ta tn 0]] H R := by
  apply vc_crossbarlaw17_begun
  refine Sep.nw h fun i1 H2 h2 => ⟨_, Sep.ld0 h2 rfl, _, Sep.ld0 h2 rfl, _, Sep.ld0 h2 rfl, rgdecl_s h2 fun H7 cf ck _ h7 => ⟨_, _, _, _, _, rfl, Sep.nw h7 fun i13 H14 h14 => ?_⟩⟩
  refine new_s h14 fun H16 m mp h16 => ⟨_, rfl, Sep.nw h16 fun i18 H19 h19 => ⟨_, Sep.ld0 h19 rfl, cond_no rfl ?_⟩⟩
  have hB := h19.bump 16
  -- p mem li i1 old
  refine ⟨_, Sep.ld0 hB rfl, _, _, Sep.ld0 hB rfl, ⟨by decide, by decide⟩, asRow_in ⟨_, _, _, _, _, Sep.lds2 hB rfl, ?_⟩⟩
  refine rgnew_s ck (Sep.up1 hB) fun H32 x S o h32 => ⟨_, _, rfl, ?_, trivial⟩
  -- xG mem p li i1 old
  refine ⟨_, _, Sep.ld2 h32 rfl, rnew_s ck h32 (List.mem_of_getElem? (i := 3) rfl) fun H38 mx al y h38 => ⟨_, _, rfl, cond_no rfl (cond_no rfl (cond_no rfl ?_))⟩⟩
  -- mx al y l v xG mem p li i1 old
  refine Sep.st7 h38 (Nat.le_of_ble_eq_true rfl) fun H41 h41 => Sep.st7 h41 (Nat.le_of_ble_eq_true rfl) fun H42 h42 => ⟨_, _, Sep.ld9 h42 rfl, ⟨by omega, Int.le_refl _, by omega⟩, ?_⟩
  rw [Int.toNat_natCast]
  refine Sep.nw h42 fun i45 H46 h46 => Sep.st8 h46 (Nat.le_of_ble_eq_true rfl) fun H47 h47 => ?_
  -- ab mx al y l v xG mem p li i1 old
  have e2 : reps n [.pointer none, I 0, .int .u64 0, .slice none 0 0, I 0, I 0, I 0, .bool false, I 0] = ((List.replicate n ka0).map Ka.cells).flatten := by
    rw [reps_flat, List.map_replicate]; rfl
  rw [e2] at h47
  have h48 := Sep.pick (many_nils h47 n) 13 [7, 8, 9, 1, 10, 2, 3, 4, 5, 6, 0, 12] (by decide)
  have ck' : Rg.CfOk cf := ⟨ck.e1, ck.e2, ck.w1, ck.w2⟩
  have hz : ∀ i, i < 4 → (List.replicate (4 + cf.en * cf.wd) (0 : BitVec 64))[i]? = some 0 := fun i hi => by rw [List.getElem?_replicate, if_pos (by omega)]
  refine hR H47 i18 ⟨i13, m, x, mx, al, y, i45, n⟩ cf _ ck rfl ⟨Rg.Inv.init ck' (ri_new ck) (hz 0 (by omega)) (hz 1 (by omega)), by simp, by simp, hl.symm, fun i b l h1 h2 => ?_, S, List.replicate n (many []), none, [], o, by simp, ⟨rfl, fun _ => rfl, by simp, by simp⟩, fun i b r B h1 h2 h3 => ?_, h48⟩
  · obtain ⟨_, rfl⟩ := List.mem_replicate.1 (List.mem_of_getElem? h1); exact Nat.zero_le _
  · obtain ⟨_, rfl⟩ := List.mem_replicate.1 (List.mem_of_getElem? h1)
    obtain ⟨_, rfl⟩ := List.mem_replicate.1 (List.mem_of_getElem? h2)
    rfl

/-! ### Whether all is over -/
theorem gover_s {s : Gc} {ll : List (List Deed)} {Ks : List Ka} {v1 : Bool} {v2 v3 : Int} {la ta : Option Addr} {n tn : Nat} (w : GS H0 p s cf ll H As Ks dr sv last ws l c) (o : DeedsLL H0 la n ll) (hn : n ≤ 4)
    (hR1 : Rg.Over (lensG ll) (atsG Ks) As → ∀ H', GS H0 p s cf ll H' As Ks dr sv last ws l c → R (.bool true) H') (hR2 : ¬ Rg.Over (lensG ll) (atsG Ks) As → ∀ H', GS H0 p s cf ll H' As Ks dr sv last ws l c → R (.bool false) H') :
    CA en F.crossbarlaw17_play_over [P p, .agg #[.bool v1, I v2, I v3, .slice la n 0, .slice ta tn 0]] H R := by
  apply vc_crossbarlaw17_play_over
  obtain ⟨S, RB, lb, qs, o1, hrb, rl, hag, h⟩ := w.ex
  have hln := o.len
  have hsn : s.n = n := by rw [← w.hll, hln]
  refine Sep.nw h fun i1 H2 h2 => ?_
  have gs : ∀ {H'}, Sep H' (bx i1 (.cells true 0 [.bool v1, I v2, I v3, .slice la n 0, .slice ta tn 0]) :: allG H0 p s cf dr last Ks S lb qs l RB) → GS H0 p s cf ll H' As Ks dr sv last ws l c := fun h => ⟨w.inv, w.la, w.lk, w.hll, w.at_, S, RB, lb, qs, o1, hrb, rl, hag, h.tail⟩
  refine use_crossbarlaw17_play_over_0 (fun k' t4 t5 H' => ∃ j : Nat, j ≤ n ∧ k' = n - j ∧ t5 = (j : Int) ∧ (∀ i, i < j → As[i]? = some none ∧ (lensG ll).getD i 0 ≤ (atsG Ks).getD i 0) ∧ Sep H' (bx i1 (.cells true 0 [.bool v1, I v2, I v3, .slice la n 0, .slice ta tn 0]) :: allG H0 p s cf dr last Ks S lb qs l RB)) n ⟨0, Nat.zero_le _, rfl, rfl, fun i h => absurd h (Nat.not_lt_zero _), h2⟩ ?_
  clear h2 h
  rintro k' t4 t5 ys H3 ⟨j, hj, rfl, rfl, hov, h3⟩
  refine asAddr_in ⟨_, _, Sep.ld3 h3 rfl, cond_of (fun z => ?_) fun z => ?_⟩
  · have z : j < n := by
      have := of_decide_eq_true z
      have : (j : Int) < (s.n : Int) := this
      omega
    have hB := h3.bump 26
    have hw := ka_len Ks
    obtain ⟨a, ha⟩ : ∃ a, Ks[j]? = some a := ⟨_, List.getElem?_eq_getElem (by rw [w.lk]; omega)⟩
    obtain ⟨r, hr⟩ : ∃ r, As[j]? = some r := ⟨_, List.getElem?_eq_getElem (by rw [w.la]; omega)⟩
    obtain ⟨B, hBk⟩ : ∃ B, RB[j]? = some B := ⟨_, List.getElem?_eq_getElem (by omega)⟩
    obtain ⟨dl, hdl⟩ : ∃ dl, ll[j]? = some dl := ⟨_, List.getElem?_eq_getElem (by omega)⟩
    have hagj := hag j a r B ha hr hBk
    have hlen : (lensG ll).getD j 0 = dl.length := gd_get hdl
    have hats : (atsG Ks).getD j 0 = a.at_ := gd_get ha
    have hkc : j < (Ks.map Ka.cells).length := by simp [w.lk]; omega
    have hrow : Sep (H3.bump 26) (bx i1 (.cells true 0 [.bool v1, I v2, I v3, .slice la n 0, .slice ta tn 0]) :: [xG s.m s.x (rkind cf) cf.en cf.wd, mem s.m S, gpA p s dr last, agA s Ks j a, liA s cf, mxR s.mx s.al, alR s.al s.y, yR s.y cf lb qs.length, lR lb cf.wd qs, vR qs l, many RB, old H0]) := by
      have e : agA s Ks j a = bx s.ab (.cells true 9 (Ks.map Ka.cells).flatten) := by show bx _ _ = _; rw [ka_row ha]
      rw [e]; exact hB
    obtain ⟨arun, akind, akey, ava, avn, afl, acp, aat, ahad, abg⟩ := a
    have hats : (atsG Ks).getD j 0 = aat := hats
    have hin : inB (j : Int) s.n := by unfold inB; omega
    refine asAddr_in ⟨_, _, Sep.ld3 hrow rfl, hin, asRow_in ⟨_, by rw [Int.toNat_natCast]; exact rowld0 hrow 4 rfl hw rfl hkc rfl, ?_⟩⟩
    cases r with
    | some r =>
      obtain ⟨q, bl, ok, _, _⟩ : ∃ q bl, KaOk H0 cf r _ q ∧ GoOk s.m s.x q r bl ∧ B = many bl := hagj
      have hrun : arun = some ⟨q, 0, none⟩ := ok.run
      subst hrun
      refine cond_yes rfl ⟨asBool_in (hR2 (fun ov => ?_) _ (gs hB)), trivial⟩
      have := (ov j (by rw [w.la]; omega)).1
      rw [hr] at this; cases this
    | none =>
      have hrun : arun = none := hagj
      subst hrun
      obtain ⟨i, a', n', e0, e1, o'⟩ := o.at' hB (by simp) hdl
      have hn' := o'.len
      subst e0
      refine cond_no rfl (asAddr_in ⟨_, _, Sep.ld3 hrow rfl, hin, asRow_in ⟨_, by rw [Int.toNat_natCast]; exact rowld (o := 6) hrow 4 rfl hw rfl hkc rfl, _, _, Sep.ld0 hrow rfl, ⟨by omega, by omega⟩, asRow_in ⟨_, _, by rw [Int.toNat_natCast]; exact e1, ?_, trivial⟩⟩⟩)
      refine cond_of (fun zl => asBool_in (hR2 (fun ov => ?_) _ (gs hB))) fun zl => ⟨n - (j + 1), by omega, j + 1, by omega, rfl, by rw [wrap_i64 (by omega)]; omega, fun i2 h2 => ?_, hB⟩
      · have zl : (aat : Int) < (n' : Int) := of_decide_eq_true zl
        have := (ov j (by rw [w.la]; omega)).2
        rw [hlen, hats] at this
        omega
      · have zl : ¬ (aat : Int) < (n' : Int) := of_decide_eq_false zl
        by_cases e : i2 = j
        · subst e
          exact ⟨hr, by rw [hlen, hats]; omega⟩
        · exact hov i2 (by omega)
  · have z : j = n := by
      have := of_decide_eq_false z
      have : ¬ (j : Int) < (s.n : Int) := this
      omega
    subst z
    exact asBool_in (hR1 (fun i hi => hov i (by rw [w.la, hsn] at hi; exact hi)) _ (gs h3))

theorem rounds_s {li : Nat} {d : Int} (ck : cf.Ok) (h : Sep H L) (hm : bx li (.cells true 5 (flat [(⟨rkind cf, cf.en, cf.wd, 0, 0⟩ : Dc)])) ∈ L) (hd : 0 ≤ d ∧ d ≤ 1000) (hR : ∀ H', Sep H' L → R (I (4 * (d + 1) * (10 * (cf.en : Int) + 70))) H') :
    CA en F.crossbarkit_Rounds [.slice (some ⟨li, 0, none⟩) 1 0, I d] H R := by
  apply vc_crossbarkit_Rounds
  have e1 := ck.e1
  have e2 := ck.e2
  refine use_crossbarkit_Rounds_0 (fun k' t5 t6 H' => (k' = 1 ∧ t5 = 70 ∧ t6 = 0 ∧ Sep H' L) ∨ (k' = 0 ∧ t5 = 10 * (cf.en : Int) + 70 ∧ t6 = 1 ∧ Sep H' L)) 1 (.inl ⟨rfl, rfl, rfl, h⟩) ?_
  rintro k' t5 t6 ys H3 (⟨rfl, rfl, rfl, h3⟩ | ⟨rfl, rfl, rfl, h3⟩)
  · have hB := h3.bump 17
    have hg : (H3.bump 17).get li = some (.cells true 5 (flat [(⟨rkind cf, cf.en, cf.wd, 0, 0⟩ : Dc)])) := hB.all _ hm
    refine cond_yes rfl ⟨⟨by decide, by decide⟩, asRow_in ⟨_, (cell_of hg 1).trans rfl, ⟨by decide, by decide⟩, asRow_in ⟨_, (cell_of hg 3).trans rfl, ⟨0, by decide, .inr ⟨rfl, ?_, rfl, hB⟩⟩, trivial⟩⟩⟩
    have w1 : IntKind.i64.wrap ((IntKind.i64.wrap ((IntKind.i64.wrap (10 * (cf.en : Int))) + (IntKind.i64.wrap (10 * 0)))) + 70) = 10 * (cf.en : Int) + 70 := by
      rw [wrap_i64 (n := 10 * (cf.en : Int)) (by omega), wrap_i64 (n := 10 * 0) (by omega), wrap_i64 (n := 10 * (cf.en : Int) + 10 * 0) (by omega), wrap_i64 (by omega)]
      omega
    rw [w1, if_pos (by omega)]
  · refine cond_no rfl (asInt_in ?_)
    rw [wrap_i64 (n := d + 1) (by omega), wrap_i64 (n := 4 * (d + 1)) (by omega)]
    have hmul : 4 * (d + 1) * (10 * (cf.en : Int) + 70) ≤ 4004 * 710 := Int.mul_le_mul (by omega) (by omega) (by omega) (by omega)
    have hmul0 : 0 ≤ 4 * (d + 1) * (10 * (cf.en : Int) + 70) := Int.mul_nonneg (by omega) (by omega)
    rw [wrap_i64 (by omega)]
    exact hR H3 h3

/-! ### How long it takes -/
theorem phi_zero {wd n : Nat} {lens : List Nat} : Rg.Phi wd lens (atsG (List.replicate n ka0)) (List.replicate n none) = Rg.sumN n fun i => (wd + 7) * lens.getD i 0 := by
  unfold Rg.Phi
  rw [List.length_replicate]
  have key : ∀ m, m ≤ n → Rg.sumN m (fun i => Rg.costO wd ((List.replicate n (none : Option Rg.Run)).getD i none) + (wd + 7) * (lens.getD i 0 - (atsG (List.replicate n ka0)).getD i 0)) = Rg.sumN m fun i => (wd + 7) * lens.getD i 0 := by
    intro m
    induction m with
    | zero => intro _; rfl
    | succ m ih =>
      intro hm
      simp only [Rg.sumN]
      rw [ih (by omega)]
      have e1 : (List.replicate n (none : Option Rg.Run)).getD m none = none := by rw [List.getD_eq_getElem?_getD, List.getElem?_replicate, if_pos (by omega)]; rfl
      have e2 : (atsG (List.replicate n ka0)).getD m 0 = 0 := by
        show ((List.replicate n ka0).map Ka.at_).getD m 0 = 0
        rw [List.map_replicate, List.getD_eq_getElem?_getD, List.getElem?_replicate, if_pos (by omega)]; rfl
      rw [e1, e2]
      show _ + (0 + _) = _
      rw [Nat.zero_add, Nat.sub_zero]
  exact key n (Nat.le_refl _)
theorem sum_mul {c n : Nat} {f : Nat → Nat} : (Rg.sumN n fun i => c * f i) = c * Rg.sumN n f := by
  induction n with
  | zero => rfl
  | succ n ih => simp only [Rg.sumN]; rw [ih, Nat.mul_add]
theorem who {n j i : Nat} (hn : 1 ≤ n) (hi : i < n) (hj : n ≤ j + 1) : ∃ d, d < n ∧ (j - d) % n = i := by
  refine ⟨(j - i) % n, Nat.mod_lt _ hn, ?_⟩
  have h := Nat.div_add_mod (j - i) n
  have hlt := Nat.mod_lt (j - i) hn
  have e : j - (j - i) % n = i + n * ((j - i) / n) := by omega
  rw [e, Nat.add_mul_mod_self_left, Nat.mod_eq_of_lt hi]

set_option maxHeartbeats 2000000 in
theorem RingAgrees_ok {st : Bool} {e w : Int} {la ta : Option Addr} {n tn : Nat} {ll : List (List Deed)} {ts : List Int} (o0 : DeedsLL H0 la n ll) (hp0 : OldS H0 ta tn (ts.map fun v => [I v])) :
    CA en F.crossbarlaw17_RingAgrees [.agg #[.bool st, I e, I w, .slice la n 0, .slice ta tn 0]] H0 fun v _ => v = .bool true := by
  apply vc_crossbarlaw17_RingAgrees
  refine Sep.nwx' (Sep.start H0) fun h2 => ?_
  have ex := ext_new H0 (.cells true 0 [.bool st, I e, I w, .slice la n 0, .slice ta tn 0])
  have o := o0.ext ex
  have hp := OldS.ext ex hp0
  have g1 : (H0.new (.cells true 0 [.bool st, I e, I w, .slice la n 0, .slice ta tn 0])).get H0.next = some (.cells true 0 [.bool st, I e, I w, .slice la n 0, .slice ta tn 0]) := Sep.get0 h2
  have n1 : H0.next < (H0.new (.cells true 0 [.bool st, I e, I w, .slice la n 0, .slice ta tn 0])).next := by rw [next_new]; omega
  generalize (H0.new (.cells true 0 [.bool st, I e, I w, .slice la n 0, .slice ta tn 0])) = H1 at *
  generalize H0.next = i1 at *
  have hs := Sep.start H1
  clear h2 ex o0 hp0
  have rd : ∀ {H' : Heap} {L : List Asr}, Sep H' L → old H1 ∈ L → H'.get i1 = some (.cells true 0 [.bool st, I e, I w, .slice la n 0, .slice ta tn 0]) := fun h hm => old_get h hm n1 g1
  have hln := o.len
  refine ⟨_, _, (cell_of g1 3).trans rfl, _, _, (cell_of g1 4).trans rfl, great13_s hs (by simp) o (fun H8 h8 => ⟨_, rfl, cond_yes rfl (CA_truth (by kernel_rfl) ⟨_, rfl, rfl⟩)⟩) fun hn htn hbig H8 h8 => ⟨_, rfl, cond_no rfl ?_⟩⟩
  refine ⟨_, _, _, _, _, _, _, (cellsAt_of (rd h8 (by simp)) (o := 0) (n := 5)).trans rfl, gbegun_s (ll := ll) h8 hn hln fun H21 p s cf ws0 ck hsn w0 => ⟨_, rfl, cond_no rfl ?_⟩⟩
  have any : ∀ {H' As Ks dr sv last ws l c}, GS H1 p s cf ll H' As Ks dr sv last ws l c → ∃ L, Sep H' L ∧ old H1 ∈ L ∧ liA s cf ∈ L := fun w => by
    obtain ⟨S, RB, lb, qs, o1, hrb, rl, hag, h⟩ := w.ex
    exact ⟨_, h, by simp, by simp⟩
  have rd' : ∀ {H' As Ks dr sv last ws l c}, GS H1 p s cf ll H' As Ks dr sv last ws l c → H'.get i1 = some (.cells true 0 [.bool st, I e, I w, .slice la n 0, .slice ta tn 0]) := fun w => by
    obtain ⟨L, h, hm, _⟩ := any w
    exact rd h hm
  have hmem : ∀ {l : List Deed} {i : Nat}, ll[i]? = some l → l.length ≤ 12 ∧ ∀ x ∈ l, x.o.val.length ≤ 8 := fun h => hbig _ (List.mem_of_getElem? h)
  refine ⟨_, _, (cell_of (rd' w0) 3).trans rfl, ?_⟩
  -- how many deeds there are
  refine use_crossbarlaw17_RingAgrees_0 (fun k' t5 t6 H' => ∃ j : Nat, j ≤ n ∧ k' = n - j ∧ t6 = (j : Int) ∧ t5 = ((Rg.sumN j fun i => (lensG ll).getD i 0 : Nat) : Int) ∧ (Rg.sumN j fun i => (lensG ll).getD i 0) ≤ 12 * j ∧ H' = H21) n ⟨0, Nat.zero_le _, rfl, rfl, rfl, Nat.zero_le _, rfl⟩ ?_
  rintro k' t5 t6 ys H' ⟨j, hj, rfl, rfl, rfl, hle, rfl⟩
  refine cond_of (fun z => ?_) fun z => ?_
  · have z : j < n := by have := of_decide_eq_true z; omega
    obtain ⟨dl, hdl⟩ : ∃ dl, ll[j]? = some dl := ⟨_, List.getElem?_eq_getElem (by omega)⟩
    obtain ⟨L, hL, hm, _⟩ := any w0
    obtain ⟨i, a', n', rfl, e1, o'⟩ := o.at' hL hm hdl
    have hn' := o'.len
    have hlen : (lensG ll).getD j 0 = dl.length := gd_get hdl
    have h12 := (hmem hdl).1
    have hsum : (Rg.sumN (j + 1) fun i => (lensG ll).getD i 0) = (Rg.sumN j fun i => (lensG ll).getD i 0) + dl.length := by
      show _ + (lensG ll).getD j 0 = _
      rw [hlen]
    refine ⟨_, _, (cell_of (rd' w0) 3).trans rfl, ⟨by omega, by omega⟩, asRow_in ⟨_, _, by rw [Int.toNat_natCast]; exact e1, n - (j + 1), by omega, j + 1, by omega, rfl, by rw [wrap_i64 (by omega)]; omega, ?_, by rw [hsum]; omega, rfl⟩⟩
    rw [hsum, wrap_i64 (by omega)]; omega
  have z : j = n := by have := of_decide_eq_false z; omega
  subst z
  generalize hD : (Rg.sumN j fun i => (lensG ll).getD i 0) = D at *
  refine asInt_in ?_
  obtain ⟨S0, RB0, lb0, qs0, oS, hrb0, rl0, hag0, h0⟩ := w0.ex
  have hB := h0.bump 14
  have wB : GS H1 p s cf ll (H'.bump 14) (List.replicate j none) (List.replicate j ka0) 0 0 0 ws0 [] 0 := ⟨w0.inv, w0.la, w0.lk, w0.hll, w0.at_, S0, RB0, lb0, qs0, oS, hrb0, rl0, hag0, hB⟩
  refine ⟨_, _, (cell_of (rd' wB) 4).trans rfl, asAddr_in ⟨_, _, Sep.ld2 hB rfl, ?_⟩⟩
  rw [wrap_i64 (n := 2 * (D : Int)) (by omega)]
  refine rounds_s ck hB (by simp) (by omega) fun H35 h35 => ⟨_, rfl, ?_, ⟨rfl, rfl, trivial⟩, ⟨⟨_, _, (cell_of (rd' wB) 4).trans rfl, rfl, rfl, rfl⟩, ⟨_, _, (cell_of (rd h35 (by simp)) 4).trans rfl, rfl, rfl, rfl⟩, trivial⟩, trivial⟩
  have w1 : GS H1 p s cf ll H35 (List.replicate j none) (List.replicate j ka0) 0 0 0 ws0 [] 0 := ⟨w0.inv, w0.la, w0.lk, w0.hll, w0.at_, S0, RB0, lb0, qs0, oS, hrb0, rl0, hag0, h35⟩
  clear hB wB h0 w0 h35
  obtain ⟨Q, hQ⟩ : ∃ Q : Nat, 4 * (2 * (D : Int) + 1) * (10 * (cf.en : Int) + 70) = (Q : Int) := ⟨4 * (2 * D + 1) * (10 * cf.en + 70), by simp⟩
  have hQ2 : (640 * D + 320 : Nat) ≤ Q := by
    have h1 : 4 * (2 * (D : Int) + 1) * 80 ≤ 4 * (2 * (D : Int) + 1) * (10 * (cf.en : Int) + 70) := Int.mul_le_mul_of_nonneg_left (by have := ck.e1; omega) (by omega)
    omega
  have hQ3 : Q ≤ 1000000 := by
    have h1 : 4 * (2 * (D : Int) + 1) * (10 * (cf.en : Int) + 70) ≤ 400 * 710 := Int.mul_le_mul (by omega) (by have := ck.e2; omega) (by omega) (by omega)
    omega
  rw [hQ]
  obtain ⟨F0, hF0⟩ : ∃ F0, F0 = Rg.Phi cf.wd (lensG ll) (atsG (List.replicate j ka0)) (List.replicate j none) := ⟨_, rfl⟩
  have hF1 : F0 ≤ 11 * D := by
    rw [hF0, phi_zero, sum_mul, hD]
    exact Nat.mul_le_mul_right _ (by have := ck.w2; omega)
  have hnF : j * F0 ≤ 4 * (11 * 48) := Nat.mul_le_mul (by omega) (by omega)
  have hnQ : j * F0 + j ≤ j * Q := by
    have : j * (F0 + 1) ≤ j * Q := Nat.mul_le_mul_left _ (by omega)
    rw [Nat.mul_add] at this; omega
  have hjQ : j * Q ≤ 4 * 1000000 := Nat.mul_le_mul (by omega) hQ3
  have emost : IntKind.i64.wrap ((tn : Int) + IntKind.i64.wrap ((j : Int) * (Q : Int))) = ((tn + j * Q : Nat) : Int) := by
    rw [← Int.natCast_mul]
    generalize j * Q = z at *
    rw [wrap_i64 (n := (z : Int)) (by omega), wrap_i64 (by omega)]; omega
  rw [emost]
  refine use_crossbarlaw17_RingAgrees_1 (fun k' t2 t8 H' => ∃ (i : Nat) (As : Rg.Ags) (Ks : List Ka) (dr sv last : Nat) (ws : Ws) (l : List Ws) (c : Int) (q : Nat), k' = tn + j * F0 + j - i ∧ t8 = (i : Int) ∧ GS H1 p s cf ll H' As Ks dr sv last ws l c ∧ dr ≤ i ∧ c ≤ i ∧ q < j ∧ q ≤ i - tn ∧
    Rg.Phi cf.wd (lensG ll) (atsG Ks) As ≤ F0 ∧ (i - tn) + j * Rg.Phi cf.wd (lensG ll) (atsG Ks) As ≤ j * F0 + q ∧ ∀ d, d < q → Rg.Quiet (lensG ll) (atsG Ks) As sv ((i - 1 - d) % j)) (tn + j * F0 + j)
    ⟨0, _, _, 0, 0, 0, ws0, [], 0, 0, rfl, rfl, w1, Nat.le_refl _, by omega, by omega, Nat.zero_le _, by rw [hF0]; exact Nat.le_refl _, by rw [hF0]; simp, fun d h => absurd h (Nat.not_lt_zero _)⟩ ?_
  clear w1
  rintro k' t2 t8 ys2 H3 ⟨i, As, Ks, dr, sv, last, ws, l, c, q, rfl, rfl, w, hdr, hc, hq, hq2, hF, hK, hqt⟩
  obtain ⟨F, hFe⟩ : ∃ F, F = Rg.Phi cf.wd (lensG ll) (atsG Ks) As := ⟨_, rfl⟩
  rw [← hFe] at hF hK
  have hi : i < tn + j * F0 + j := by omega
  refine cond_yes (by rw [decide_eq_true_iff]; omega) ⟨_, _, (cell_of (rd' w) 4).trans rfl, ?_⟩
  obtain ⟨L, hL, hm, _⟩ := any w
  refine turn13_s hL hm hp hn fun b hb hbt => ⟨_, rfl, _, _, (cell_of (rd' w) 3).trans rfl, ⟨by omega, by omega⟩, ?_⟩
  obtain ⟨dl, hdl⟩ : ∃ dl, ll[b]? = some dl := ⟨_, List.getElem?_eq_getElem (by omega)⟩
  obtain ⟨i2, a', n', e0, e1, o'⟩ := o.at' hL hm hdl
  subst e0
  refine asRow_in ⟨_, _, by rw [Int.toNat_natCast]; exact e1, ?_⟩
  refine gturn_s w ck (by omega) o' hdl (hmem hdl).1 (hmem hdl).2 (by omega) (by omega) fun H' As' Ks' dr' sv' last' ws' l' c' hc' w' hend => ⟨_, rfl, cond_no rfl ⟨_, _, (cell_of (rd' w') 4).trans rfl, ?_⟩⟩
  obtain ⟨hdr', hpr⟩ := hend
  rw [← hFe] at hpr
  have ew : IntKind.i64.wrap ((i : Int) + 1) = ((i + 1 : Nat) : Int) := by rw [wrap_i64 (by omega)]; omega
  refine cond_of (fun z => ?_) fun z => ?_
  · have z : tn ≤ i := by have := of_decide_eq_true z; omega
    have hb' := hbt z
    refine ⟨_, _, _, _, _, _, _, (cellsAt_of (rd' w') (o := 0) (n := 5)).trans rfl, gover_s w' o hn.2 (fun hov H25 w25 => ⟨_, rfl, cond_yes rfl ?_⟩) fun hov H25 w25 => ⟨_, rfl, cond_no rfl ⟨tn + j * F0 + j - (i + 1), by omega, i + 1, As', Ks', dr', sv', last', ws', l', c', ?_⟩⟩⟩
    · obtain ⟨S, RB, lb, qs, o1, hrb, rl, hag, h⟩ := w25.ex
      refine asAddr_in ⟨_, Sep.ld2 h rfl, bad_s (Sep.up1 h) ⟨_, rfl, cond_yes ?_ (CA_truth (by kernel_rfl) ⟨_, rfl, asBool_in rfl⟩)⟩⟩
      rw [o1.bads]; rfl
    · rcases hpr with hpr | ⟨eA, eK, eS, hqu⟩
      · have h3 : j * (Rg.Phi cf.wd (lensG ll) (atsG Ks') As' + 1) ≤ j * F := Nat.mul_le_mul_left _ hpr
        rw [Nat.mul_add] at h3
        exact ⟨0, rfl, ew, w25, by omega, by omega, by omega, Nat.zero_le _, by omega, by omega, fun d h => absurd h (Nat.not_lt_zero _)⟩
      · subst eA eS
        rw [eK] at hov ⊢
        rw [← hFe]
        have hall : ∀ d, d < q + 1 → Rg.Quiet (lensG ll) (atsG Ks) As' sv' ((i + 1 - 1 - d) % j) := fun d hd => by
          cases d with
          | zero =>
            rw [show i + 1 - 1 - 0 = i by omega, ← hb']; exact hqu
          | succ d =>
            rw [show i + 1 - 1 - (d + 1) = i - 1 - d by omega]; exact hqt d (by omega)
        have hlt : q + 1 < j := by
          refine Classical.byContradiction fun hc2 => hov (Rg.over_of w.inv fun a ha => ?_)
          have ha : a < j := by rw [w.la, hsn] at ha; exact ha
          obtain ⟨d, hd, hde⟩ := who hn.1 ha (j := i) (by omega)
          have := hall d (by omega)
          rw [show i + 1 - 1 - d = i - d by omega, hde] at this
          exact this
        exact ⟨q + 1, rfl, ew, w25, by omega, by omega, hlt, by omega, hF, by omega, hall⟩
  · have z : i < tn := by have := of_decide_eq_false z; omega
    refine ⟨tn + j * F0 + j - (i + 1), by omega, i + 1, As', Ks', dr', sv', last', ws', l', c', 0, rfl, ew, w', by omega, by omega, by omega, Nat.zero_le _, ?_, ?_, fun d h => absurd h (Nat.not_lt_zero _)⟩
    · rcases hpr with hpr | ⟨eA, eK, eS, hqu⟩
      · omega
      · rw [eA, eK, ← hFe]; exact hF
    · have h4 : Rg.Phi cf.wd (lensG ll) (atsG Ks') As' ≤ F := by
        rcases hpr with hpr | ⟨eA, eK, eS, hqu⟩
        · omega
        · rw [eA, eK, ← hFe]; exact Nat.le_refl _
      have h3 : j * Rg.Phi cf.wd (lensG ll) (atsG Ks') As' ≤ j * F0 := Nat.mul_le_mul_left _ (by omega)
      omega
/-! ### The arguments -/
abbrev Bz : Nat := 140737488355328
def OldZ (H0 : Heap) (P : List Value → Prop) (c : List Value) : Prop :=
  c = [.slice none 0 0] ∨ ∃ (i : Nat) (cs : List (List Value)), c = [.slice (some ⟨i, 0, none⟩) cs.length 0] ∧ i < H0.next ∧ H0.get i = some (AS.Obj.cells false 0 cs.flatten) ∧ (∀ d ∈ cs, P d) ∧ cs.length ≤ 140737488355328
theorem OldZ.of {P : List Value → Prop} {c : List Value} (h : OldZ H0 P c) : ∃ a n css, c = [.slice a n 0] ∧ OldS H0 a n css ∧ (∀ d ∈ css, P d) ∧ css.length ≤ Bz := by
  rcases h with rfl | ⟨i, cs, rfl, h1, h2, h3, h4⟩
  · exact ⟨none, 0, [], rfl, ⟨rfl, .inl ⟨rfl, rfl⟩⟩, by simp, by simp⟩
  · exact ⟨_, _, cs, rfl, ⟨rfl, .inr ⟨i, rfl, h1, h2⟩⟩, h3, h4⟩
def OpZ (H0 : Heap) (c : List Value) : Prop :=
  ∃ (a18 b19 : List Value), c = a18 ++ b19 ∧ (∃ n : Int, a18 = [.int .i64 n] ∧ (Lit.int .i64 n).wf = true) ∧ (∃ (a20 b21 : List Value), b19 = a20 ++ b21 ∧ (∃ n : Int, a20 = [.int .u64 n] ∧ (Lit.int .u64 n).wf = true) ∧ (∃ (a22 b23 : List Value), b21 = a22 ++ b23 ∧ OldZ H0 (fun d => ∃ n : Int, d = [.int .u64 n] ∧ (Lit.int .u64 n).wf = true) a22 ∧ (∃ (a25 b26 : List Value), b23 = a25 ++ b26 ∧ (∃ n : Int, a25 = [.int .i64 n] ∧ (Lit.int .i64 n).wf = true) ∧ (∃ (a27 b28 : List Value), b26 = a27 ++ b28 ∧ (∃ n : Int, a27 = [.int .i64 n] ∧ (Lit.int .i64 n).wf = true) ∧ b28 = []))))
theorem OpZ.of {c : List Value} (h : OpZ H0 c) : ∃ o : Op, OpC H0 o c ∧ o.val.length ≤ Bz := by
  obtain ⟨_, _, rfl, ⟨k, rfl, _⟩, _, _, rfl, ⟨key, rfl, hk⟩, _, _, rfl, hv, _, _, rfl, ⟨f, rfl, _⟩, _, _, rfl, ⟨cp, rfl, _⟩, rfl⟩ := h
  obtain ⟨a, n, css, rfl, ho, hc, hl⟩ := hv.of
  obtain ⟨l, rfl⟩ := words_of css hc
  obtain ⟨w, rfl⟩ := word_of hk
  rw [List.length_map] at hl
  exact ⟨⟨k, w, l, f, cp⟩, ⟨a, n, rfl, ho⟩, hl⟩

def DeedZ (H0 : Heap) (c : List Value) : Prop :=
  ∃ (a14 b15 : List Value), c = a14 ++ b15 ∧ (∃ n : Int, a14 = [.int .i64 n] ∧ (Lit.int .i64 n).wf = true) ∧ (∃ (a16 b17 : List Value), b15 = a16 ++ b17 ∧ OpZ H0 a16 ∧ (∃ (a29 b30 : List Value), b17 = a29 ++ b30 ∧ (∃ n : Int, a29 = [.int .u64 n] ∧ (Lit.int .u64 n).wf = true) ∧ b30 = []))
theorem DeedZ.of {c : List Value} (h : DeedZ H0 c) : ∃ d : Deed, DeedC H0 d c := by
  obtain ⟨_, _, rfl, ⟨k, rfl, _⟩, _, _, rfl, ho, _, _, rfl, ⟨v, rfl, hv⟩, rfl⟩ := h
  obtain ⟨o, ⟨a, n, rfl, ho2⟩, _⟩ := ho.of
  obtain ⟨w, rfl⟩ := word_of hv
  exact ⟨⟨k, o, w⟩, a, n, rfl, ho2⟩
theorem deedc_len {o : Deed} {c : List Value} (h : DeedC H0 o c) : c.length = 7 := by obtain ⟨a, n, rfl, _⟩ := h; rfl
theorem deedsC_of {c : List Value} (h : OldZ H0 (DeedZ H0) c) : ∃ l : List Deed, DeedsC H0 l c := by
  obtain ⟨a, n, css, rfl, ho, hc, hl⟩ := h.of
  obtain ⟨l, h1, h2⟩ := pick_of (P := fun (o : Deed) c => DeedC H0 o c) css fun c hm => (hc c hm).of
  refine ⟨l, a, n, rfl, by rw [h1]; exact ho.len, css, ho, fun c hm => ?_, h2⟩
  obtain ⟨o, h3⟩ := (hc c hm).of
  exact deedc_len h3
theorem deedsLL_of {c : List Value} (h : OldZ H0 (OldZ H0 (DeedZ H0)) c) : ∃ (ll : List (List Deed)) (a : Option Addr) (n : Nat), c = [.slice a n 0] ∧ DeedsLL H0 a n ll := by
  obtain ⟨a, n, css, rfl, ho, hc, hl⟩ := h.of
  obtain ⟨ll, h1, h2⟩ := pick_of (P := fun (l : List Deed) c => DeedsC H0 l c) css fun c hm => deedsC_of (hc c hm)
  refine ⟨ll, a, n, rfl, by rw [h1]; exact ho.len, css, ho, fun c hm => ?_, h2⟩
  obtain ⟨l, a, n, rfl, _⟩ := deedsC_of (hc c hm); rfl


theorem RingAgrees_law (H : Heap) (us : List Value) (h : shzVs en H 7 T.RingAgrees us) : CA en F.crossbarlaw17_RingAgrees us H fun v _ => v = .bool true := by
  obtain ⟨_, _, rfl, ⟨l3, rfl, _, _, rfl, ⟨b1, rfl⟩, _, _, rfl, ⟨n2, rfl, _⟩, _, _, rfl, ⟨n3, rfl, _⟩, a10, _, rfl, hA, a31, _, rfl, hB, rfl⟩, rfl⟩ := args_RingAgrees h
  obtain ⟨ll, la, n, rfl, o⟩ := deedsLL_of (H0 := H) hA
  obtain ⟨pa, pn, css, rfl, hp, hc, _⟩ := OldZ.of (H0 := H) (P := fun c => ∃ n : Int, c = [.int .i64 n] ∧ (Lit.int .i64 n).wf = true) hB
  obtain ⟨l, rfl⟩ := numbers_of css hc
  exact RingAgrees_ok o hp
end Go.Proofs.YtgpacebjbdhphaaGreat
