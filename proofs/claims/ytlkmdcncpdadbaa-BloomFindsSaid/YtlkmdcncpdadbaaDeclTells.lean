/-
  'crossbarlaw07.DeclTells' returns true: each call about two maps, two keys and a number answers what the document says.
-/
import Derived.Test.YtlkmdcncpdadbaaDeclRef
import Derived.Test.YtlkmdcncpdadbaaVc2
import Derived.Test.YtlkmdcncpdadbaaArgs
namespace Go.Proofs.Ytlkmdcncpdadbaa
open Go Go.AS Go.RowKit
set_option linter.unusedVariables false
variable {H : Heap} {R : Value → Heap → Prop}

/-! ### A row has a number -/
theorem rule_Index (t0 : Option Addr) (t0l : Nat) (t1 : Int) (t6 : Option Addr) (t6l : Nat) (t7 : Int) (K0 : Fr → Heap → Prop) (K1 : Fr → Heap → Prop) (I : Nat → Int → Int → Heap → Prop)
    (hstep : ∀ (n : Nat) (t8 : Int) (t4 : Int) (t5 : Value) (t9 : Value) (t10 : Value) (t11 : Value) (t12 : Value) (t13 : Value) (t14 : Value) (t15 : Value) (t16 : Value) (t17 : Value) (t18 : Value) (H : Heap), I n t8 t4 H →
    (bif decide (t8 < t7) then
  inB t8 t0l ∧
    asRow t0 fun i1 i2 =>
      ∃ n3,
        H.cell i1 (i2 + t8.toNat * 1) = some (Value.int IntKind.i64 n3) ∧
          bif t1 == n3 then
            K1
              [Value.slice t0 t0l 0, Value.int IntKind.i64 t1, undef, undef, Value.int IntKind.i64 t8, Value.int IntKind.i64 t8, Value.slice t6 t6l 0, Value.int IntKind.i64 t7,
                Value.int IntKind.i64 t8, Value.bool true, Value.int IntKind.i64 t8, Value.int IntKind.i64 t1, Value.slice t0 t0l 0, Value.int IntKind.i64 t8,
                Value.pointer (some { block := i1, off := i2 + t8.toNat * 1 }), Value.int IntKind.i64 n3, Value.bool true, Value.int IntKind.i64 t8, t18]
              H
          else ∃ i4, i4 < n ∧ I i4 (IntKind.i64.wrap (t8 + 1)) t4 H
 else
  K0
    [Value.slice t0 t0l 0, Value.int IntKind.i64 t1, undef, undef, Value.int IntKind.i64 t4, t5, Value.slice t6 t6l 0, Value.int IntKind.i64 t7, Value.int IntKind.i64 t8, Value.bool false, t10, t11, t12, t13, t14, t15,
      t16, t17, t18]
    H)) :
    ∀ (n : Nat) (t8 : Int) (t4 : Int) (t5 : Value) (t9 : Value) (t10 : Value) (t11 : Value) (t12 : Value) (t13 : Value) (t14 : Value) (t15 : Value) (t16 : Value) (t17 : Value) (t18 : Value) (H : Heap), I n t8 t4 H →
    LA Go.Proofs.Ytlkmdcncpdadbaa.en L_slices_Index_int_int_0
  [Value.slice t0 t0l 0, Value.int IntKind.i64 t1, undef, undef, Value.int IntKind.i64 t4, t5, Value.slice t6 t6l 0, Value.int IntKind.i64 t7, Value.int IntKind.i64 t8, t9, t10, t11, t12, t13, t14, t15, t16, t17, t18] H
  [(X.exit 0, K0), (X.ret, K1)] := by
  intro n t8 t4 t5 t9 t10 t11 t12 t13 t14 t15 t16 t17 t18 H hI
  refine LA_rule (Z := []) (fun m xs H' => AS.asInt IntKind.i64 (xs.getD 8 undef) fun t8 => AS.asInt IntKind.i64 (xs.getD 4 undef) fun t4 => I m t8 t4 H') ?_ n H ?_
  · intro n H
    suffices hs : ∀ s9 : Value, ∀ s10 : Value, ∀ s5 : Value, ∀ s11 : Value, ∀ s12 : Value, ∀ s13 : Value, ∀ s14 : Value, ∀ s15 : Value, ∀ s16 : Value, ∀ s17 : Value, ∀ s4 : Value, ∀ s18 : Value, ∀ s8 : Value, ((AS.asInt IntKind.i64 s8 fun n1 => AS.asInt IntKind.i64 s4 fun n2 => I n n1 n2 H) → wpCode Go.Proofs.Ytlkmdcncpdadbaa.en L_slices_Index_int_int_0 []
  [Value.slice t0 t0l 0, Value.int IntKind.i64 t1, undef, undef, s4, s5, Value.slice t6 t6l 0, Value.int IntKind.i64 t7, s8, s9, s10, s11, s12, s13, s14, s15, s16, s17, s18] H
  (loopQ (fun m xs H' => AS.asInt IntKind.i64 (xs.getD 8 undef) fun t8 => AS.asInt IntKind.i64 (xs.getD 4 undef) fun t4 => I m t8 t4 H') n [(X.exit 0, K0), (X.ret, K1)])) by
      apply turnInto hs
      kernel_rfl
    intro s9 s10 s5 s11 s12 s13 s14 s15 s16 s17 s4 s18 s8 hP
    replace hP := asInt_elim hP
    obtain ⟨t8, rfl, hP⟩ := hP
    replace hP := asInt_elim hP
    obtain ⟨t4, rfl, hP⟩ := hP
    apply turnInto (hstep n t8 t4 s5 s9 s10 s11 s12 s13 s14 s15 s16 s17 s18 H hP)
    kernel_rfl
  · apply turnInto hI
    kernel_rfl

theorem Contains_ok {v : Int} {a : Option Addr} {l : Nat} {xs : List Int} (hi : Ints H a l xs) (hl : xs.length < 9223372036854775807) (hR : R (.bool (decide (v ∈ xs))) H) : CA en F.slices_Contains_int_int [.slice a l 0, I v] H R := by
  obtain ⟨rfl, hi⟩ := hi
  apply vc_slices_Contains_int_int
  apply vc_slices_Index_int_int
  refine rule_Index _ _ _ _ _ _ _ _ (fun m i _ H' => ∃ j : Nat, j ≤ xs.length ∧ m = xs.length - j ∧ i = (j : Int) ∧ H' = H ∧ v ∉ xs.take j) ?_ xs.length 0 0 _ _ _ _ _ _ _ _ _ _ _ _ ⟨0, by omega, rfl, rfl, rfl, by simp⟩
  rintro m i t4 t5 t9 t10 t11 t12 t13 t14 t15 t16 t17 t18 H' ⟨j, hj, rfl, rfl, rfl, hn⟩
  refine cond_of (fun h => ?_) fun h => ?_
  · simp only [decide_eq_true_eq] at h
    have hj' : j < xs.length := by omega
    rcases hi with rfl | ⟨b, w, rfl, hb, hg⟩
    · simp at hj'
    · rw [asRow_some]
      refine ⟨by unfold inB; omega, xs[j], ?_, ?_⟩
      · rw [cell_of hg, Int.toNat_natCast]
        simp [hj']
      · refine cond_of (fun h1 => ?_) fun h1 => ⟨xs.length - (j + 1), by omega, j + 1, by omega, rfl, ?_, rfl, ?_⟩
        · simp only [List.getD_cons_succ, List.getD_cons_zero, asInt_int]
          refine ⟨_, rfl, ?_⟩
          have e : v = xs[j] := by simpa using h1
          have e1 : decide (v ∈ xs) = true := by rw [e]; simp
          have e2 : decide ((j : Int) ≥ 0) = true := by simp
          rw [e2]; rw [e1] at hR; exact hR
        · rw [wrap_i64 (by omega)]; omega
        · have e : v ≠ xs[j] := by simpa using h1
          rw [List.take_succ_eq_append_getElem hj', List.mem_append, List.mem_singleton]
          rintro (h2 | h2)
          · exact hn h2
          · exact e h2
  · simp only [decide_eq_false_iff_not] at h
    simp only [List.getD_cons_succ, List.getD_cons_zero, asInt_int]
    obtain rfl : j = xs.length := by omega
    rw [List.take_length] at hn
    refine ⟨_, rfl, ?_⟩
    have e1 : decide (v ∈ xs) = false := by simpa using hn
    have e2 : decide ((-1 : Int) ≥ 0) = false := by decide
    rw [e2]; rw [e1] at hR; exact hR

/-! ### What operations a kind may have -/
theorem does_len (x : Int) : (kindD x).does.length < 9223372036854775807 := by
  unfold kindD kindOf
  repeat (first | decide | (split))

theorem may_none {x : Int} (h : (kindOf x).isSome = false) : (kindD x).does = [] := by
  unfold kindD
  cases e : kindOf x with
  | none => rfl
  | some k => rw [e] at h; cases h

theorem May_ok {x op : Int} (hR : ∀ H', Frm [] H H' → R (.bool (decide (op ∈ (kindD x).does))) H') : CA en F.decl_May [I x, I op] H R := by
  apply vc_decl_May
  refine kinds_ok fun H2 a l f2 hi => ⟨_, _, _, _, _, _, _, rfl, ?_⟩
  refine nwH_in fun i10 H11 e11 h11 => ?_
  have g11 : H11.get i10 = some (.cells true 0 [I 0, .bool false, .bool false, .slice none 0 0, .bool false]) := by subst e11 h11; exact get_new_self _ _
  refine stc_of' g11 (Nat.le_refl _) fun H12 e12 => ?_
  have f12 : Frm [] H2 H12 := by
    subst e12 h11
    exact ((Frm.refl _ _).new _).set _ (by right; omega)
  have f : Frm [] H H12 := f2.trans f12 (by simp)
  refine cond_of (fun h => ?_) fun h => ?_
  · refine ⟨a, l, by rw [e12, cell_of (get_set_self _ _ _)]; rfl, ?_⟩
    have hi' : Ints H12 a l (kindD x).does := by
      refine ⟨hi.1, hi.2.imp_right fun ⟨i, w, h1, h2, h3⟩ => ⟨i, w, h1, ?_, ?_⟩⟩
      · have := f12.1; omega
      · rw [f12.2 i h2 (by simp)]; exact h3
    exact Contains_ok hi' (does_len x) ⟨_, rfl, hR _ f⟩
  · have := hR _ f
    rw [may_none h] at this
    exact this

theorem Nested_ok {x : Int} (hR : R (.bool (x == 9 || x == 10)) H) : CA en F.crossbarref07_Nested [I x] H R := by
  apply vc_crossbarref07_Nested
  refine cond_of (fun h => ?_) fun h => ?_
  · rw [h] at hR; exact hR
  · rw [h] at hR; exact hR

theorem RMay_ok {x op : Int} (hR : R (.bool (decide (op ∈ (kindD x).does))) H) : CA en F.crossbarref07_May [I x, I op] H R := by
  apply vc_crossbarref07_May
  have hop : op = 1 ∨ op = 2 ∨ op = 3 ∨ op = 4 ∨ op = 5 ∨ op = 6 ∨ op = 7 ∨ op = 8 ∨ ((op == 1) = false ∧ (op == 2) = false ∧ (op == 3) = false ∧ (op == 4) = false ∧ (op == 5) = false ∧ (op == 6) = false ∧ (op == 7) = false ∧ (op == 8) = false) := by
    simp only [beq_eq_false_iff_ne, ne_eq]; omega
  by_cases h : 1 ≤ x ∧ x ≤ 10
  · have hx : x = 1 ∨ x = 2 ∨ x = 3 ∨ x = 4 ∨ x = 5 ∨ x = 6 ∨ x = 7 ∨ x = 8 ∨ x = 9 ∨ x = 10 := by omega
    rcases hx with rfl | rfl | rfl | rfl | rfl | rfl | rfl | rfl | rfl | rfl <;> clear h <;> simp only [Int.reduceBEq, cond_true, cond_false]
    all_goals
      rcases hop with rfl | rfl | rfl | rfl | rfl | rfl | rfl | rfl | ⟨h1, h2, h3, h4, h5, h6, h7, h8⟩
      all_goals first
        | (simp only [Int.reduceBEq, cond_true, cond_false]; first | exact hR | exact Nested_ok ⟨_, rfl, hR⟩ | exact Nested_ok hR)
        | (simp only [h1, h2, h3, h4, h5, h6, h7, h8, cond_false]
           simp only [beq_eq_false_iff_ne, ne_eq] at h1 h2 h3 h4 h5 h6 h7 h8
           have e : ∀ xs : List Int, (∀ y ∈ xs, y = 1 ∨ y = 2 ∨ y = 3 ∨ y = 4 ∨ y = 5 ∨ y = 6 ∨ y = 7 ∨ y = 8) → decide (op ∈ xs) = false := by
             intro xs hxs
             rw [decide_eq_false_iff_not]
             intro hm
             have := hxs op hm
             omega
           rw [e _ (by decide)] at hR
           exact hR)
  · have e : kindOf x = none := by
      unfold kindOf
      repeat rw [if_neg (by omega)]
    have e2 : decide (op ∈ (kindD x).does) = false := by unfold kindD; rw [e]; rfl
    rw [e2] at hR
    have n1 : (x == 1) = false := by rw [beq_eq_false_iff_ne]; omega
    have n2 : (x == 2) = false := by rw [beq_eq_false_iff_ne]; omega
    have n3 : (x == 3) = false := by rw [beq_eq_false_iff_ne]; omega
    have n4 : (x == 4) = false := by rw [beq_eq_false_iff_ne]; omega
    have n5 : (x == 5) = false := by rw [beq_eq_false_iff_ne]; omega
    have n6 : (x == 6) = false := by rw [beq_eq_false_iff_ne]; omega
    have n7 : (x == 7) = false := by rw [beq_eq_false_iff_ne]; omega
    have n8 : (x == 8) = false := by rw [beq_eq_false_iff_ne]; omega
    have n9 : (x == 9) = false := by rw [beq_eq_false_iff_ne]; omega
    have n10 : (x == 10) = false := by rw [beq_eq_false_iff_ne]; omega
    have ne : ∀ {R' : Value → Heap → Prop}, R' (.bool false) H → CA en F.crossbarref07_Nested [I x] H R' := fun hr => Nested_ok (by rw [n9, n10]; exact hr)
    simp only [n1, n2, n3, n4, n5, n6, n7, n8, cond_false]
    repeat' (first | exact hR | exact ne ⟨_, rfl, hR⟩ | (refine cond_of (fun _ => ?_) fun _ => ?_))

/-! ### Likeness -/
def like (d e : Dc) : Bool := d.kind == e.kind && (d.entries == e.entries && (d.words == e.words && (d.buckets == e.buckets && d.inner == e.inner)))

theorem Like_ok {d e : Dc} (hR : ∀ H', Frm [] H H' → R (.bool (like d e)) H') : CA en F.decl_Like [d.val, e.val] H R := by
  apply vc_decl_Like
  refine nwH_in fun i1 H2 e1 h2 => nwH_in fun i3 H4 e3 h4 => ?_
  have g : H4.get i1 = some (.cells true 0 d.cells) ∧ H4.get i3 = some (.cells true 0 e.cells) := by
    subst e1 h2 e3 h4
    exact ⟨by rw [get_new_lt (by rw [next_new]; omega)]; exact get_new_self _ _, get_new_self _ _⟩
  have f : Frm [] H H4 := by subst h2 h4; exact ((Frm.refl _ _).new _).new _
  exact ⟨_, _, _, _, _, by rw [cellsAt_of g.1]; rfl, _, _, _, _, _, by rw [cellsAt_of g.2]; rfl, hR _ f⟩

theorem RLike_ok {d e : Dc} (hR : ∀ H', Frm [] H H' → R (.bool (like d e)) H') : CA en F.crossbarref07_Like [d.val, e.val] H R := by
  apply vc_crossbarref07_Like
  refine nwH_in fun i1 H2 e1 h2 => nwH_in fun i3 H4 e3 h4 => ?_
  have g : H4.get i1 = some (.cells true 0 d.cells) ∧ H4.get i3 = some (.cells true 0 e.cells) := by
    subst e1 h2 e3 h4
    exact ⟨by rw [get_new_lt (by rw [next_new]; omega)]; exact get_new_self _ _, get_new_self _ _⟩
  have f : Frm [] H H4 := by subst h2 h4; exact ((Frm.refl _ _).new _).new _
  have hR := hR _ f
  unfold like at hR
  refine ⟨d.kind, by rw [cell_of g.1]; rfl, e.kind, by rw [cell_of g.2]; rfl, cond_of (fun h => ?_) fun h => by rw [h] at hR; exact hR⟩
  rw [h, Bool.true_and] at hR
  refine ⟨d.entries, by rw [cell_of g.1]; rfl, e.entries, by rw [cell_of g.2]; rfl, cond_of (fun h => ?_) fun h => by rw [h] at hR; exact hR⟩
  rw [h, Bool.true_and] at hR
  refine ⟨d.words, by rw [cell_of g.1]; rfl, e.words, by rw [cell_of g.2]; rfl, cond_of (fun h => ?_) fun h => by rw [h] at hR; exact hR⟩
  rw [h, Bool.true_and] at hR
  refine ⟨d.buckets, by rw [cell_of g.1]; rfl, e.buckets, by rw [cell_of g.2]; rfl, cond_of (fun h => ?_) fun h => by rw [h] at hR; exact hR⟩
  rw [h, Bool.true_and] at hR
  exact ⟨d.inner, by rw [cell_of g.1]; rfl, e.inner, by rw [cell_of g.2]; rfl, hR⟩

/-! ### The statement -/
theorem DeclTells_ok (d e : Dc) (hd : d.buckets < 9223372036854775808) (a b : BitVec 64) (n : Int) (hn : n < 9223372036854775808) (H : Heap) : CA en F.crossbarlaw07_DeclTells [d.val, e.val, W a, W b, I n] H fun r _ => r = .bool true := by
  apply vc_crossbarlaw07_DeclTells
  refine nwH_in fun i1 H2 e1 h2 => nwH_in fun i3 H4 e3 h4 => ?_
  have g : H4.get i1 = some (.cells true 0 d.cells) ∧ H4.get i3 = some (.cells true 0 e.cells) ∧ i1 < H4.next ∧ i3 < H4.next := by
    subst e1 h2 e3 h4
    exact ⟨by rw [get_new_lt (by rw [next_new]; omega)]; exact get_new_self _ _, get_new_self _ _, by simp only [next_new]; omega, by simp only [next_new]; omega⟩
  clear e1 h2 e3 h4
  obtain ⟨g1, g3, l1, l3⟩ := g
  have c1 : ∀ {H' : Heap}, Frm [] H4 H' → H'.cellsAt i1 0 5 = some d.cells := fun f => by rw [cellsAt_of (w := true) (z := 0) (c := d.cells) (by rw [f.2 _ l1 (by simp)]; exact g1)]; rfl
  have c3 : ∀ {H' : Heap}, Frm [] H4 H' → H'.cellsAt i3 0 5 = some e.cells := fun f => by rw [cellsAt_of (w := true) (z := 0) (c := e.cells) (by rw [f.2 _ l3 (by simp)]; exact g3)]; rfl
  have k1 : ∀ {H' : Heap}, Frm [] H4 H' → H'.cell i1 0 = some (I d.kind) := fun f => by rw [cell_of (w := true) (z := 0) (c := d.cells) (by rw [f.2 _ l1 (by simp)]; exact g1)]; rfl
  have k3 : ∀ {H' : Heap}, Frm [] H4 H' → H'.cell i3 0 = some (I e.kind) := fun f => by rw [cell_of (w := true) (z := 0) (c := e.cells) (by rw [f.2 _ l3 (by simp)]; exact g3)]; rfl
  have same : ∀ z : Dc, sameN 8 z.val z.val = true := fun z => by simp [sameN, sameN.sameL]
  have f0 : Frm [] H4 (H4.bump 63) := (Frm.refl _ _).bump _
  refine Bloom_ok hn ⟨_, _, rfl, RBloom_ok hn ⟨_, _, rfl, ?_⟩⟩
  refine ⟨_, _, _, _, _, c1 f0, _, _, _, _, _, c3 f0, Like_ok (d := d) (e := e) fun H24 f24 => ⟨_, rfl, ?_⟩⟩
  replace f24 := f0.trans f24 (by simp)
  refine ⟨_, _, _, _, _, c1 f24, _, _, _, _, _, c3 f24, RLike_ok (d := d) (e := e) fun H37 f37 => ⟨_, rfl, cond_yes (by simp) ?_⟩⟩
  replace f37 := f24.trans f37 (by simp)
  refine ⟨_, k1 f37, May_ok fun H41 f41 => ⟨_, rfl, ?_⟩⟩
  replace f41 := f37.trans f41 (by simp)
  refine ⟨_, k1 f41, RMay_ok ⟨_, rfl, cond_yes (by simp) ?_⟩⟩
  refine ⟨_, k3 f41, May_ok fun H49 f49 => ⟨_, rfl, ?_⟩⟩
  replace f49 := f41.trans f49 (by simp)
  refine ⟨_, k3 f49, RMay_ok ⟨_, rfl, cond_yes (by simp) ?_⟩⟩
  refine Bucket_ok hn ⟨_, rfl, RBucket_ok hn ⟨_, rfl, cond_yes (by simp) ?_⟩⟩
  refine ⟨_, _, _, _, _, c1 f49, Ahead_ok (d := d) hd fun H67 f67 => ⟨_, rfl, ?_⟩⟩
  replace f67 := f49.trans f67 (by simp)
  refine ⟨_, _, _, _, _, c1 f67, RAhead_ok (d := d) hd fun H75 f75 => ⟨_, rfl, cond_yes (by simp) (cond_yes (by simp) (cond_yes (by simp) ?_))⟩⟩
  exact CA_truth (by kernel_rfl) ⟨_, rfl, rfl, ⟨⟨_, _, _, _, _, c1 f49, same d⟩, ⟨_, _, _, _, _, c1 f67, same d⟩, trivial⟩, ⟨⟨_, k3 f41, rfl⟩, ⟨_, k3 f49, rfl⟩, trivial⟩, ⟨⟨_, k1 f37, rfl⟩, ⟨_, k1 f41, rfl⟩, trivial⟩, ⟨⟨_, _, _, _, _, c3 f0, same e⟩, ⟨_, _, _, _, _, c3 f24, same e⟩, trivial⟩, ⟨⟨_, _, _, _, _, c1 f0, same d⟩, ⟨_, _, _, _, _, c1 f24, same d⟩, trivial⟩, trivial⟩

theorem DeclTells_law (H : Heap) (us : List Value) (h : shpVs en H 7 T.DeclTells us) : CA en F.crossbarlaw07_DeclTells us H fun v _ => v = .bool true := by
  obtain ⟨v, u, rfl, ⟨lp, rfl, ap1, bp1, rfl, ⟨np1, rfl, wp1⟩, ap2, bp2, rfl, ⟨np2, rfl, wp2⟩, ap3, bp3, rfl, ⟨np3, rfl, wp3⟩, ap4, bp4, rfl, ⟨np4, rfl, wp4⟩, ap5, bp5, rfl, ⟨np5, rfl, wp5⟩, rfl⟩, v2, u2, rfl, ⟨lq, rfl, aq1, bq1, rfl, ⟨nq1, rfl, wq1⟩, aq2, bq2, rfl, ⟨nq2, rfl, wq2⟩, aq3, bq3, rfl, ⟨nq3, rfl, wq3⟩, aq4, bq4, rfl, ⟨nq4, rfl, wq4⟩, aq5, bq5, rfl, ⟨nq5, rfl, wq5⟩, rfl⟩, v3, u3, rfl, ⟨k1, e1, y1⟩, v4, u4, rfl, ⟨k2, e2, y2⟩, v5, u5, rfl, ⟨k3, e3, y3⟩, rfl⟩ := args_DeclTells h
  cases e1; cases e2; cases e3
  obtain ⟨a, rfl⟩ := word_of y1
  obtain ⟨b, rfl⟩ := word_of y2
  exact DeclTells_ok ⟨np1, np2, np3, np4, np5⟩ ⟨nq1, nq2, nq3, nq4, nq5⟩ (i64_bd wp4).2 a b k3 (i64_bd y3).2 H
end Go.Proofs.Ytlkmdcncpdadbaa
