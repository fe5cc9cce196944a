/-
  'crossbarlaw07.DeclKnown' returns true.
-/
import Derived.Test.YtlkmdcncpdadbaaDeclLoops
import Derived.Test.YtlkmdcncpdadbaaAs44
import Derived.Test.YtlkmdcncpdadbaaVcDK
namespace Go.Proofs.Ytlkmdcncpdadbaa
open Go Go.AS Go.RowKit
set_option linter.unusedVariables false
variable {H H' : Heap} {R : Value → Heap → Prop} {L : List Asr} {c : Int}

abbrev dcb (i : Nat) (d : Dc) : Asr := bx i (.cells true 0 d.cells)
abbrev dcs (i : Nat) (l : List Dc) : Asr := bx i (.cells true 5 (flat l))

theorem dcs_rows {i : Nat} {l : List Dc} (h : Sep H (dcs i l :: L)) : Rows H (some ⟨i, 0, none⟩) l.length l :=
  ⟨rfl, .inr ⟨i, true, 5, rfl, h.footlt (by simp [bx]), Sep.get0 h⟩⟩

theorem check_s {i : Nat} {l : List Dc} (h : Sep H (dcs i l :: L)) (hR : ∀ H', Sep H' (dcs i l :: L) → R (I (chks l)) H') : CA en F.decl_Check [.slice (some ⟨i, 0, none⟩) l.length 0] H R :=
  Check_ok (dcs_rows h) fun H' fr => hR H' (h.keep fr)

theorem checks_s {i : Nat} {l : List Dc} (h : Sep H (dcs i l :: L)) (hR : ∀ H', Sep H' L → R (.bool true) H') : CA en F.crossbarlaw07_DeclChecks [.slice (some ⟨i, 0, none⟩) l.length 0] H R :=
  CA_conseq (fun v H' ⟨e, fr⟩ => by rw [e]; exact hR H' (h.keep fr).tail) (DeclChecks_fr (dcs_rows h))

theorem tells_s {d e : Dc} (hd : d.buckets < 9223372036854775808) {a b : BitVec 64} {n : Int} (hn : n < 9223372036854775808) (h : Sep H L) (hR : ∀ H', Sep H' L → R (.bool true) H') : CA en F.crossbarlaw07_DeclTells [d.val, e.val, W a, W b, I n] H R :=
  CA_conseq (fun v H' ⟨e, fr⟩ => by rw [e]; exact hR H' (h.keep fr)) (DeclTells_fr d e hd a b n hn H)

abbrev inn : Dc := ⟨1, 1, 1, 0, 0⟩

theorem many_ok : ∀ j, j ≤ 10 → chks (List.replicate j inn) = 0 := by
  intro j hj
  have : ∀ j : Fin 11, chks (List.replicate j inn) = 0 := by decide
  exact this ⟨j, by omega⟩

theorem rep_set (j : Nat) (hj : j < 10) : setAt (flat (List.replicate j inn ++ List.replicate (10 - j) ⟨0, 0, 0, 0, 0⟩)) (0 + j * 5) [I 1, I 1, I 1, I 0, I 0] = flat (List.replicate (j + 1) inn ++ List.replicate (10 - (j + 1)) ⟨0, 0, 0, 0, 0⟩) := by
  obtain rfl | rfl | rfl | rfl | rfl | rfl | rfl | rfl | rfl | rfl : j = 0 ∨ j = 1 ∨ j = 2 ∨ j = 3 ∨ j = 4 ∨ j = 5 ∨ j = 6 ∨ j = 7 ∨ j = 8 ∨ j = 9 := by omega
  all_goals rfl

theorem DeclKnown_ok (H : Heap) : CA en F.crossbarlaw07_DeclKnown [] H fun r _ => r = .bool true := by
  apply vc_crossbarlaw07_DeclKnown
  refine Sep.nw (Sep.nil (H := H)) fun i1 H2 h2 => Sep.st0 h2 (Nat.le_of_ble_eq_true rfl) fun H3 h3 => ?_
  refine use_crossbarlaw07_DeclKnown_0 (fun k _ t2 H => ∃ j : Nat, j ≤ 14 ∧ k = 14 - j ∧ t2 = (j : Int) - 1 ∧ Sep H [dcb i1 inn]) 14 ⟨0, by omega, rfl, rfl, h3⟩ ?_
  clear h2 h3
  intro k0 t0 t2 ys H4 hI
  obtain ⟨j, hj, hk, ht, hs⟩ := hI
  subst hk
  refine cond_of (fun h1 => ?_) fun h1 => ?_
  · simp only [decide_eq_true_eq] at h1
    refine use_crossbarlaw07_DeclKnown_1 (fun k _ t3 H => ∃ p : Nat, p ≤ 68 ∧ k = 68 - p ∧ t3 = (p : Int) - 1 ∧ Sep H [dcb i1 inn]) 68 ⟨0, by omega, rfl, rfl, hs⟩ ?_
    clear hs
    intro k1 t0' t3 ys1 H5 hI
    obtain ⟨p, hp, hk1, ht3, hs⟩ := hI
    subst hk1
    refine cond_of (fun h2 => ?_) fun h2 => ?_
    · simp only [decide_eq_true_eq] at h2
      refine Sep.nw hs fun b H6 h6 => Sep.st0 h6 (Nat.le_of_ble_eq_true rfl) fun H7 h7 => ?_
      refine ⟨fun _ H => ∃ bu : Int, (bu = 0 ∨ bu = 4) ∧ Sep H [dcb b ⟨t2, 2, 1, bu, 0⟩, dcb i1 inn], ?_, ?_⟩
      · refine ⟨_, _, _, _, _, Sep.lds0 h7 rfl, Sep.nw h7 fun i10 H11 h11 => ?_⟩
        refine check_s (l := [⟨t2, 2, 1, 0, 0⟩]) h11 fun H13 h13 => ⟨_, rfl, cond_of (fun _ => ?_) fun _ => ⟨0, .inl rfl, h13.tail⟩⟩
        exact Sep.st0 h13.tail (Nat.le_of_ble_eq_true rfl) fun H15 h15 => ⟨4, .inr rfl, h15⟩
      rintro ys16 H17 ⟨bu, hbu, h17⟩
      refine ⟨fun _ H => ∃ inr : Int, Sep H [dcb b ⟨t2, 2, 1, bu, inr⟩, dcb i1 inn], ?_, ?_⟩
      · refine ⟨_, _, _, _, _, Sep.lds0 h17 rfl, _, _, _, _, _, Sep.lds1 h17 rfl, Sep.nw h17 fun i29 H30 h30 => ?_⟩
        refine check_s (l := [⟨t2, 2, 1, bu, 0⟩, inn]) h30 fun H32 h32 => ⟨_, rfl, cond_of (fun _ => ?_) fun _ => ⟨0, h32.tail⟩⟩
        exact Sep.st0 h32.tail (Nat.le_of_ble_eq_true rfl) fun H34 h34 => ⟨2, h34⟩
      rintro ys35 H36 ⟨inr, h36⟩
      have hbu' : bu < 9223372036854775808 := by omega
      refine ⟨_, _, _, _, _, Sep.lds0 h36 rfl, Sep.nw h36 fun i42 H43 h43 => Sep.st0 h43 (Nat.le_of_ble_eq_true rfl) fun H44 h44 => Sep.st0 h44 (Nat.le_of_ble_eq_true rfl) fun H45 h45 => ?_⟩
      refine ⟨_, _, _, _, _, Sep.lds1 h45 rfl, Sep.nw h45 fun i51 H52 h52 => Sep.st0 h52 (Nat.le_of_ble_eq_true rfl) fun H53 h53 => Sep.st0 h53 (Nat.le_of_ble_eq_true rfl) fun H54 h54 => ?_⟩
      refine ⟨_, _, _, _, _, Sep.lds2 h54 rfl, Sep.nw h54 fun i60 H61 h61 => Sep.st0 h61 (Nat.le_of_ble_eq_true rfl) fun H62 h62 => Sep.st0 h62 (Nat.le_of_ble_eq_true rfl) fun H63 h63 => ?_⟩
      refine ⟨_, _, _, _, _, Sep.lds3 h63 rfl, Sep.nw h63 fun i69 H70 h70 => Sep.st0 h70 (Nat.le_of_ble_eq_true rfl) fun H71 h71 => Sep.st0 h71 (Nat.le_of_ble_eq_true rfl) fun H72 h72 => ?_⟩
      have h72 : Sep H72 [dcb i69 ⟨t2, 2, 1, bu, t3⟩, dcb i60 ⟨t2, 2, 1, t3, inr⟩, dcb i51 ⟨t2, 2, t3, bu, inr⟩, dcb i42 ⟨t2, t3, 1, bu, inr⟩, dcb b ⟨t2, 2, 1, bu, inr⟩, dcb i1 inn] := h72
      clear h36 h43 h44 h45 h52 h53 h54 h61 h62 h63 h70 h71
      refine ⟨_, _, _, _, _, Sep.lds4 h72 rfl, _, _, _, _, _, Sep.lds5 h72 rfl, Sep.nw h72 fun i83 H84 h84 => ?_⟩
      refine checks_s (l := [⟨t2, 2, 1, bu, inr⟩, inn]) h84 fun H86 h86 => ⟨_, rfl, cond_no rfl ?_⟩
      refine ⟨_, _, _, _, _, Sep.lds3 h86 rfl, _, _, _, _, _, Sep.lds5 h86 rfl, Sep.nw h86 fun i98 H99 h99 => ?_⟩
      refine checks_s (l := [⟨t2, t3, 1, bu, inr⟩, inn]) h99 fun H101 h101 => ⟨_, rfl, cond_no rfl ?_⟩
      refine ⟨_, _, _, _, _, Sep.lds2 h101 rfl, _, _, _, _, _, Sep.lds5 h101 rfl, Sep.nw h101 fun i113 H114 h114 => ?_⟩
      refine checks_s (l := [⟨t2, 2, t3, bu, inr⟩, inn]) h114 fun H116 h116 => ⟨_, rfl, cond_no rfl ?_⟩
      refine ⟨_, _, _, _, _, Sep.lds1 h116 rfl, _, _, _, _, _, Sep.lds5 h116 rfl, Sep.nw h116 fun i128 H129 h129 => ?_⟩
      refine checks_s (l := [⟨t2, 2, 1, t3, inr⟩, inn]) h129 fun H131 h131 => ⟨_, rfl, cond_no rfl ?_⟩
      refine ⟨_, _, _, _, _, Sep.lds0 h131 rfl, _, _, _, _, _, Sep.lds5 h131 rfl, Sep.nw h131 fun i143 H144 h144 => ?_⟩
      refine checks_s (l := [⟨t2, 2, 1, bu, t3⟩, inn]) h144 fun H146 h146 => ⟨_, rfl, cond_no rfl ?_⟩
      refine ⟨_, _, _, _, _, Sep.lds4 h146 rfl, _, _, _, _, _, Sep.lds0 h146 rfl, ?_⟩
      rw [wrap_u64]
      refine tells_s (d := ⟨t2, 2, 1, bu, inr⟩) (e := ⟨t2, 2, 1, bu, t3⟩) (b := 5) hbu' (by omega) h146 fun H159 h159 => ⟨_, rfl, cond_no rfl ?_⟩
      refine ⟨68 - (p + 1), by omega, p + 1, by omega, rfl, ?_, Sep.rm0 (Sep.rm0 (Sep.rm0 (Sep.rm0 (Sep.rm0 h159))))⟩
      rw [wrap_i64 (by omega)]; omega
    · refine asBool_in ⟨14 - (j + 1), by omega, j + 1, by omega, rfl, ?_, hs⟩
      rw [wrap_i64 (by omega)]; omega
  · refine asBool_in ⟨⟨by omega, Int.le_refl _, by omega⟩, Sep.nw hs fun i7 H8 h8 => ?_⟩
    have h8 : Sep H8 [dcs i7 (List.replicate 0 inn ++ List.replicate (10 - 0) ⟨0, 0, 0, 0, 0⟩), dcb i1 inn] := h8
    refine use_crossbarlaw07_DeclKnown_2 (fun k t10 H => ∃ p : Nat, p ≤ 10 ∧ k = 10 - p ∧ t10 = (p : Int) ∧ Sep H [dcs i7 (List.replicate p inn ++ List.replicate (10 - p) ⟨0, 0, 0, 0, 0⟩), dcb i1 inn]) 10 ⟨0, by omega, rfl, rfl, h8⟩ ?_
    clear h8 hs
    intro k1 t10 ys1 H5 hI
    obtain ⟨p, hp, hk1, ht10, hs⟩ := hI
    subst hk1 ht10
    refine cond_of (fun h2 => ?_) fun h2 => ?_
    · simp only [decide_eq_true_eq] at h2
      have hp' : p < 10 := by omega
      refine ⟨_, _, _, _, _, Sep.lds1 hs rfl, by unfold inB; omega, Sep.st0 hs ?_ fun H6 h6 => ⟨10 - (p + 1), by omega, p + 1, by omega, rfl, ?_, ?_⟩⟩
      · rw [flat_length]; simp; omega
      · rw [wrap_i64 (by omega)]; omega
      · rw [Int.toNat_natCast, rep_set p hp'] at h6
        exact h6
    · simp only [decide_eq_false_iff_not] at h2
      obtain rfl : p = 10 := by omega
      have hs : Sep H5 [dcs i7 (List.replicate 10 inn), dcb i1 inn] := hs
      refine check_s (l := List.replicate 10 inn) hs fun H12 h12 => ⟨_, rfl, cond_yes (by rw [many_ok 10 (by omega)]; rfl) ?_⟩
      refine ⟨_, _, _, _, _, Sep.lds1 h12 rfl, Sep.nw h12 fun i19 H20 h20 => ⟨flat [inn], rowOf_bx (es := 5) (b := i19) (n := 1) (Sep.get0 h20) (by decide) rfl, ?_⟩⟩
      refine apd_gl (b := some i7) (cs := flat (List.replicate 10 inn)) (new := flat [inn]) (len := 10) (gl_some.2 (Sep.up1 h20)) (fun h => by cases h) (by decide) rfl (by decide) rfl (by decide) fun H24 q h24 => ?_
      have h24 := gl_some.1 h24
      refine check_s (i := q) (l := List.replicate 10 inn ++ [inn]) h24 fun H26 h26 => ⟨_, rfl, cond_yes rfl ?_⟩
      exact CA_truth (by kernel_rfl) ⟨_, rfl, rfl⟩
end Go.Proofs.Ytlkmdcncpdadbaa
