/-
  What is wrong with an instruction: the code's check answers chkI.
-/
import Derived.Test.YtmgkngdbphkmmaaDoorInsnFns
import Derived.Test.YtmgkngdbphkmmaaDoorAs45
namespace Go.Proofs.YtmgkngdbphkmmaaDoor
open Go Go.AS Go.RowKit
set_option linter.unusedVariables false
variable {H H' : Heap} {R : Value → Heap → Prop} {L : List Asr} {b : Nat} {l : RT} {x : Ins} {r : Rw}

abbrev Ins.val (x : Ins) : Value := .agg #[I x.op, I x.dst, I x.src, I x.off, I x.imm]
abbrev Ins.cells (x : Ins) : List Value := [I x.op, I x.dst, I x.src, I x.off, I x.imm]

theorem contains_s {i : Nat} {w : Bool} {z : Nat} {xs : List Int} {v : Int} (hl : xs.length < 4611686018427387904) (h : H.get i = some (.cells w z (xs.map fun o => I o))) (hR : R (.bool (decide (v ∈ xs))) H) :
    CA en F.slices_Contains_int_int [.slice (some ⟨i, 0, none⟩) xs.length 0, I v] H R := by
  apply vc_slices_Contains_int_int
  apply vc_slices_Index_int_int
  refine use_slices_Index_int_int_0 (fun k t4 t8 H' => ∃ j : Nat, j ≤ xs.length ∧ k = xs.length - j ∧ t8 = (j : Int) ∧ H' = H ∧ v ∉ xs.take j) xs.length ⟨0, by omega, rfl, rfl, rfl, by simp⟩ ?_
  rintro k t4 t8 ys H' ⟨j, hj, rfl, rfl, rfl, hn⟩
  refine cond_of (fun h1 => ?_) fun h1 => ?_
  · simp only [decide_eq_true_eq] at h1
    have hj' : j < xs.length := by omega
    refine ⟨by unfold inB; omega, asRow_in ⟨xs[j], by rw [cell_of h]; simp [List.getElem?_eq_getElem hj'], cond_of (fun e => ?_) fun e => ?_⟩⟩
    · have e : v = xs[j] := by simpa using e
      refine asInt_in ⟨_, rfl, ?_⟩
      have : decide (v ∈ xs) = true := decide_eq_true (by rw [e]; exact List.getElem_mem _)
      rw [this] at hR
      have e2 : decide (((j : Nat) : Int) ≥ 0) = true := by simp
      rw [e2]
      exact hR
    · have e : ¬ v = xs[j] := by simpa using e
      refine ⟨xs.length - (j + 1), by omega, j + 1, by omega, rfl, ?_, rfl, ?_⟩
      · rw [wrap_i64 (by omega)]; omega
      · rw [List.take_add_one, List.getElem?_eq_getElem hj']
        simp only [Option.toList_some, List.mem_append, List.mem_singleton, not_or]
        exact ⟨hn, e⟩
  · simp only [decide_eq_false_iff_not] at h1
    obtain rfl : j = xs.length := by omega
    rw [List.take_length] at hn
    refine asInt_in ⟨_, rfl, ?_⟩
    rw [decide_eq_false hn] at hR
    exact hR

theorem fetch_and (imm : Int) : (isAtom imm && (IntKind.i64.wrap ((BitVec.ofInt 64 imm &&& (BitVec.ofInt 64 1)).toNat : Int) == 1)) = fetches imm := by
  by_cases h : imm = 0 ∨ imm = 64 ∨ imm = 80 ∨ imm = 160 ∨ imm = 1 ∨ imm = 65 ∨ imm = 81 ∨ imm = 161 ∨ imm = 225 ∨ imm = 241
  · rcases h with rfl | rfl | rfl | rfl | rfl | rfl | rfl | rfl | rfl | rfl <;> decide
  · have e1 : isAtom imm = false := decide_eq_false h
    have e2 : fetches imm = false := decide_eq_false fun h' => h (by omega)
    rw [e1, e2]; rfl

theorem atom_mem (imm : Int) : decide (imm ∈ [0, 64, 80, 160, 1, 65, 81, 161, 225, (241 : Int)]) = isAtom imm := by
  unfold isAtom
  simp only [List.mem_cons, List.not_mem_nil, or_false]

theorem atomic_s {imm : Int} (h : Sep H (gh :: ga :: L)) (hR : R (.tuple #[.bool (isAtom imm), .bool (fetches imm)]) H) : CA en F.insn_Atomic [I imm] H R := by
  apply vc_insn_Atomic
  refine ⟨⟨_, _, Sep.get1 h⟩, contains_s (i := 1) (xs := [0, 64, 80, 160, 1, 65, 81, 161, 225, 241]) (by decide) (Sep.get1 h) ⟨_, rfl, ?_⟩⟩
  rw [atom_mem]
  have := fetch_and imm
  cases ha : isAtom imm
  · rw [ha] at this hR
    rw [← this] at hR
    exact cond_no rfl hR
  · rw [ha, Bool.true_and] at this
    rw [ha, ← this] at hR
    exact cond_yes rfl hR

/-- What a row asks of registers. -/
def opA (op : Int) : Bool := (IntKind.i64.wrap ((BitVec.ofInt 64 op &&& (BitVec.ofInt 64 7)).toNat : Int) == 3) && (IntKind.i64.wrap ((BitVec.ofInt 64 op &&& (BitVec.ofInt 64 224)).toNat : Int) == 192)
def regI (r : Rw) (x : Ins) : Bool := decide (0 ≤ x.dst ∧ x.dst ≤ 10 ∧ 0 ≤ x.src ∧ x.src ≤ 10 ∧ ¬ (r.wr = true ∧ x.dst = 10) ∧ ¬ (opA x.op = true ∧ fetches x.imm = true ∧ x.src = 10))
def oddI (r : Rw) (x : Ins) : Bool := decide ((r.d = false ∧ x.dst ≠ 0) ∨ (r.s = false ∧ x.src ≠ 0) ∨ (r.o = false ∧ x.off ≠ 0) ∨ (r.i = false ∧ x.imm ≠ 0))

theorem rgstr_s {v : Int} (hR : R (.bool (decide (0 ≤ v ∧ v ≤ 10))) H) : CA en F.insn_register [I v] H R := by
  apply vc_insn_register
  refine cond_of (fun h => ?_) fun h => ?_
  · have h : 0 ≤ v := by simpa using h
    have e : decide (0 ≤ v ∧ v ≤ 10) = decide (v ≤ 10) := by simp [h]
    rw [e] at hR; exact hR
  · have h : ¬ 0 ≤ v := by simpa using h
    rw [decide_eq_false (fun h' => h h'.1)] at hR; exact hR

theorem registers_s (h : Sep H (gh :: ga :: L)) (hR : ∀ H', Sep H' (gh :: ga :: L) → R (.bool (regI r x)) H') : CA en F.insn_row_registers [rv r, x.val] H R := by
  apply vc_insn_row_registers (hx0_7 := onlyV_cases r.only)
  refine Sep.nw h fun i1 H2 h2 => Sep.nw h2 fun i3 H4 h4 => ⟨_, Sep.ld0 h4 rfl, atomic_s (Sep.up3 (Sep.up3 h4)) ⟨_, _, rfl, _, Sep.ld0 h4 rfl, ?_⟩⟩
  apply vc_insn_Class
  refine ⟨_, rfl, ?_⟩
  have hr := hR H4 h4.tail.tail
  -- the answer, by its parts
  have ans : ∀ b : Bool, b = regI r x → R (.bool b) H4 := fun b e => e ▸ hr
  refine cond_of (fun c3 => ?_) fun c3 => ?_
  · refine ⟨_, Sep.ld0 h4 rfl, _, Sep.ld0 h4 rfl, rgstr_s ⟨_, rfl, cond_of (fun d => ?_) fun d => ?_⟩⟩
    · refine ⟨_, Sep.ld0 h4 rfl, rgstr_s ⟨_, rfl, cond_of (fun s => ?_) fun s => ?_⟩⟩
      · simp only [decide_eq_true_eq] at d s
        refine ⟨_, Sep.ld1 h4 rfl, cond_of (fun w => ?_) fun w => ?_⟩
        · refine ⟨_, Sep.ld0 h4 rfl, cond_of (fun t => ?_) fun t => ?_⟩
          · refine cond_of (fun m => cond_of (fun f => ⟨_, Sep.ld0 h4 rfl, ans _ ?_⟩) fun f => ans _ ?_) fun m => ans _ ?_
            all_goals simp_all [regI, opA]
            all_goals first | rfl | (rw [Bool.eq_iff_iff]; simp; done) | (intros; omega)
          · refine ans _ ?_
            simp_all [regI, opA]
        · refine cond_of (fun m => cond_of (fun f => ⟨_, Sep.ld0 h4 rfl, ans _ ?_⟩) fun f => ans _ ?_) fun m => ans _ ?_
          all_goals simp_all [regI, opA]
          all_goals first | rfl | (rw [Bool.eq_iff_iff]; simp; done) | (intros; omega)
      · refine ans _ ?_
        simp only [decide_eq_false_iff_not] at s
        unfold regI
        rw [eq_comm, decide_eq_false_iff_not]; omega
    · refine ans _ ?_
      simp only [decide_eq_false_iff_not] at d
      unfold regI
      rw [eq_comm, decide_eq_false_iff_not]; omega
  · refine ⟨_, Sep.ld0 h4 rfl, rgstr_s ⟨_, rfl, cond_of (fun d => ?_) fun d => ?_⟩⟩
    · refine ⟨_, Sep.ld0 h4 rfl, rgstr_s ⟨_, rfl, cond_of (fun s => ?_) fun s => ?_⟩⟩
      · simp only [decide_eq_true_eq] at d s
        refine ⟨_, Sep.ld1 h4 rfl, cond_of (fun w => ?_) fun w => ?_⟩
        · refine ⟨_, Sep.ld0 h4 rfl, cond_of (fun t => ans _ ?_) fun t => ans _ ?_⟩
          all_goals simp_all [regI, opA]
        · refine ans _ ?_
          simp_all [regI, opA]
      · refine ans _ ?_
        simp only [decide_eq_false_iff_not] at s
        unfold regI
        rw [eq_comm, decide_eq_false_iff_not]; omega
    · refine ans _ ?_
      simp only [decide_eq_false_iff_not] at d
      unfold regI
      rw [eq_comm, decide_eq_false_iff_not]; omega

theorem odd_s (h : Sep H L) (hR : ∀ H', Sep H' L → R (.bool (oddI r x)) H') : CA en F.insn_names_odd [.agg #[.bool r.d, .bool r.s, .bool r.o, .bool r.i], x.val] H R := by
  apply vc_insn_names_odd
  refine Sep.nw h fun i1 H2 h2 => Sep.nw h2 fun i3 H4 h4 => ?_
  have ans : ∀ b : Bool, b = oddI r x → R (.bool b) H4 := fun b e => e ▸ hR H4 h4.tail.tail
  repeat' first
    | (refine ans _ ?_)
    | (refine ⟨_, Sep.ld1 h4 rfl, ?_⟩)
    | (refine ⟨_, Sep.ld0 h4 rfl, ?_⟩)
    | (refine cond_of (fun _ => ?_) fun _ => ?_)
    | fail
  all_goals simp_all [oddI]
  all_goals first | rfl | (rw [Bool.eq_iff_iff]; simp; done) | (intros; omega)

theorem out_s {lo hi v : Int} (h : Sep H L) (hR : ∀ H', Sep H' L → R (.bool (decide (v < lo ∨ v > hi))) H') : CA en F.insn_bounds_out [.agg #[I lo, I hi], I v] H R := by
  apply vc_insn_bounds_out
  refine Sep.nw h fun i1 H2 h2 => ⟨_, Sep.ld0 h2 rfl, cond_of (fun c => ?_) fun c => ⟨_, Sep.ld0 h2 rfl, ?_⟩⟩
  · have := hR H2 h2.tail
    rw [decide_eq_true (.inl (by simpa using c))] at this
    exact this
  · have := hR H2 h2.tail
    have e : decide (v < lo ∨ v > hi) = decide (v > hi) := by
      have c : ¬ v < lo := by simpa using c
      simp [c]
    rw [e] at this
    exact this

def fid (n : Nat) : Nat := if n = 1 then F.insn_alus_1 else if n = 2 then F.insn_table_1 else F.insn_table_2
theorem only_s {n : Nat} (hn : n = 1 ∨ n = 2 ∨ n = 3) (h : Sep H (gh :: ga :: L)) (hR : ∀ H', Sep H' (gh :: ga :: L) → R (.bool (onlyI n x)) H') : CA en (fid n) [x.val] H R := by
  rcases hn with rfl | rfl | rfl
  · show CA en F.insn_alus_1 [x.val] H R
    apply vc_insn_alus_1
    refine Sep.nw h fun i1 H2 h2 => ?_
    have ans : ∀ b : Bool, b = onlyI 1 x → R (.bool b) H2 := fun b e => e ▸ hR H2 h2.tail
    refine ⟨_, Sep.ld0 h2 rfl, cond_of (fun c => ans _ ?_) fun c => ⟨_, Sep.ld0 h2 rfl, cond_of (fun d => ans _ ?_) fun d => ⟨_, Sep.ld0 h2 rfl, ans _ ?_⟩⟩⟩
    all_goals simp_all [onlyI]
    all_goals rw [Bool.eq_iff_iff]; simp
  · show CA en F.insn_table_1 [x.val] H R
    apply vc_insn_table_1
    refine Sep.nw h fun i1 H2 h2 => ?_
    have ans : ∀ b : Bool, b = onlyI 2 x → R (.bool b) H2 := fun b e => e ▸ hR H2 h2.tail
    refine ⟨_, Sep.ld0 h2 rfl, cond_of (fun c => ans _ ?_) fun c => ⟨_, Sep.ld0 h2 rfl, cond_of (fun d => ⟨_, Sep.ld0 h2 rfl, ans _ ?_⟩) fun d => ans _ ?_⟩⟩
    all_goals simp_all [onlyI]
    all_goals first | rfl | (rw [Bool.eq_iff_iff]; simp; done) | (intros; omega)
  · show CA en F.insn_table_2 [x.val] H R
    apply vc_insn_table_2
    refine Sep.nw h fun i1 H2 h2 => ⟨_, Sep.ld0 h2 rfl, atomic_s (Sep.up2 (Sep.up2 h2)) ⟨_, _, rfl, ?_⟩⟩
    exact hR H2 h2.tail

theorem asFnNil_func {f : Fn} {fs cs : Array Value} {K : Bool → Prop} (h : K false) : asFnNil (.func f fs cs) K := h
theorem asFnNil_nil {K : Bool → Prop} (h : K true) : asFnNil .nilFunc K := h

theorem row_more {op : Int} {r : Rw} (h : refRow op = some r) : opA op = decide (op = 195 ∨ op = 219) ∧ (r.only = 0 ∨ r.only = 1 ∨ r.only = 2 ∨ r.only = 3) := by
  have hb := row_bd h
  have all : ∀ j : Fin 256, (match refRow ((j : Nat) : Int) with | none => true | some r => decide (opA ((j : Nat) : Int) = decide (((j : Nat) : Int) = 195 ∨ ((j : Nat) : Int) = 219) ∧ (r.only = 0 ∨ r.only = 1 ∨ r.only = 2 ∨ r.only = 3))) = true := by decide +kernel
  obtain ⟨n, rfl⟩ := Int.eq_ofNat_of_zero_le hb.1
  have := all ⟨n, by omega⟩
  simp only [h, decide_eq_true_eq] at this
  exact this

theorem chk_some {r : Rw} (h : refRow x.op = some r) : chkI x = if regI r x = false then 8 else if oddI r x = true ∨ (x.op = 24 ∧ x.src > 1) then 9
    else if x.off < -32768 ∨ x.off > 32767 ∨ (x.imm < r.low ∨ x.imm > r.high) ∨ onlyI r.only x = false then 10 else 0 := by
  unfold chkI
  rw [h]
  have ha := (row_more h).1
  simp only
  have e1 : (regI r x = false) ↔ ¬ (0 ≤ x.dst ∧ x.dst ≤ 10 ∧ 0 ≤ x.src ∧ x.src ≤ 10 ∧ ¬ (r.wr = true ∧ x.dst = 10) ∧ ¬ ((x.op = 195 ∨ x.op = 219) ∧ fetches x.imm = true ∧ x.src = 10)) := by
    unfold regI
    rw [decide_eq_false_iff_not, ha, decide_eq_true_eq]
  have e2 : (oddI r x = true ∨ (x.op = 24 ∧ x.src > 1)) ↔ ((r.d = false ∧ x.dst ≠ 0) ∨ (r.s = false ∧ x.src ≠ 0) ∨ (r.o = false ∧ x.off ≠ 0) ∨ (r.i = false ∧ x.imm ≠ 0) ∨ (x.op = 24 ∧ x.src > 1)) := by
    unfold oddI
    rw [decide_eq_true_eq]
    constructor
    · rintro ((h | h | h | h) | h)
      · exact .inl h
      · exact .inr (.inl h)
      · exact .inr (.inr (.inl h))
      · exact .inr (.inr (.inr (.inl h)))
      · exact .inr (.inr (.inr (.inr h)))
    · rintro (h | h | h | h | h)
      · exact .inl (.inl h)
      · exact .inl (.inr (.inl h))
      · exact .inl (.inr (.inr (.inl h)))
      · exact .inl (.inr (.inr (.inr h)))
      · exact .inr h
  have e3 : (x.off < -32768 ∨ x.off > 32767 ∨ (x.imm < r.low ∨ x.imm > r.high) ∨ onlyI r.only x = false) ↔ (x.off < -32768 ∨ x.off > 32767 ∨ x.imm < r.low ∨ x.imm > r.high ∨ onlyI r.only x = false) := by
    rw [or_assoc]
  by_cases c1 : regI r x = false
  · rw [if_pos c1, if_pos (e1.1 c1)]
  · rw [if_neg c1, if_neg (fun h => c1 (e1.2 h))]
    by_cases c2 : oddI r x = true ∨ (x.op = 24 ∧ x.src > 1)
    · rw [if_pos c2, if_pos (e2.1 c2)]
    · rw [if_neg c2, if_neg (fun h => c2 (e2.2 h))]
      by_cases c3 : x.off < -32768 ∨ x.off > 32767 ∨ (x.imm < r.low ∨ x.imm > r.high) ∨ onlyI r.only x = false
      · rw [if_pos c3, if_pos (e3.1 c3)]
      · rw [if_neg c3, if_neg (fun h => c3 (e3.2 h))]

set_option maxHeartbeats 2000000 in
theorem check_s (h : Sep H (gh :: ga :: L)) (hR : ∀ H', Sep H' (gh :: ga :: L) → R (I (chkI x)) H') : CA en F.insn_Check [x.val] H R := by
  apply vc_insn_Check
  refine Sep.nw h fun i1 H2 h2 => ?_
  have hT := h2.fore1 (n := 10) (a := 7) (.cells true 0 [.bool false, .bool false, .bool false, .bool false, I 0, I 0, .bool false, .nilFunc]) (by decide)
  refine table_s (Sep.up3 (Sep.up3 hT)) fun H4 b h4 => ⟨_, rfl, ?_⟩
  refine ⟨_, Sep.ld4 h4 rfl, im_look h4 x.op fun r7 hr7 => ?_⟩
  rw [alook_tv, tab_row] at hr7
  have duty := And.intro (And.intro (⟨_, Sep.get0 hT, rfl⟩ : ∃ c18, _ = some (AS.Obj.cells true 0 c18) ∧ sameN.sameL 8 [.bool false, .bool false, .bool false, .bool false, I 0, I 0, .bool false, .nilFunc] c18 = true) (And.intro (⟨_, Sep.get3 h4, rfl⟩ : ∃ c17, _ = some (AS.Obj.cells true 0 c17) ∧ sameN.sameL 8 [.bool false, .bool false, .bool false, .bool false, I 0, I 0, .bool false, .nilFunc] c17 = true) trivial))
    (And.intro (And.intro (⟨_, Sep.ld1 hT (o := 0) rfl, rfl⟩ : ∃ n20, _ = some (I n20) ∧ x.op = n20) (And.intro (⟨_, Sep.ld4 h4 (o := 0) rfl, rfl⟩ : ∃ n19, _ = some (I n19) ∧ x.op = n19) trivial)) trivial)
  cases hrow : refRow x.op with
  | none =>
    rw [hrow] at hr7
    have e7 : r7 = none := by cases r7 with | none => rfl | some p => cases hr7
    subst e7
    refine ⟨_, _, _, _, _, _, _, .inl ⟨rfl, Sep.st3 h4 (Nat.le_of_ble_eq_true rfl) fun H16 h16 => ⟨cond_yes rfl ?_, duty⟩⟩⟩
    have := hR H16 (Sep.rm2 (Sep.rm2 (Sep.rm2 (Sep.up2 (Sep.up2 h16)))))
    have e : chkI x = 7 := by unfold chkI; rw [hrow]
    rw [e] at this
    exact this
  | some r =>
    rw [hrow] at hr7
    have hchk := chk_some hrow
    have hon := (row_more hrow).2
    obtain ⟨d, s, o, i, low, high, wr, only⟩ := r
    obtain ⟨n7, e7⟩ : ∃ n7, r7 = some (n7, rv ⟨d, s, o, i, low, high, wr, only⟩) := by
      cases r7 with
      | none => cases hr7
      | some p => exact ⟨p.1, by have := Option.some.inj hr7; rw [← this]⟩
    subst e7
    have ans : ∀ (H : Heap) (v : Int) {A B C : Asr}, v = chkI x → Sep H (gh :: ga :: A :: B :: C :: L) → R (I v) H := fun H v A B C e h => by rw [e]; exact hR H (Sep.rm2 (Sep.rm2 (Sep.rm2 h)))
    simp only at hon hchk
    rcases hon with rfl | rfl | rfl | rfl
    · refine ⟨_, _, _, _, _, _, _, .inl ⟨rfl, Sep.st3 h4 (Nat.le_of_ble_eq_true rfl) fun H16 h16 => ⟨cond_no rfl ?_, duty⟩⟩⟩
      have h16 : Sep H16 (tb b tab :: gh :: ga :: bx (H2.next + 7) (.cells true 0 (rcells ⟨d, s, o, i, low, high, wr, 0⟩)) :: bx i1 (.cells true 0 x.cells) :: L) := h16
      refine ⟨_, _, _, _, _, _, _, .inl ⟨Sep.lds3 h16 rfl, _, _, _, _, _, Sep.lds4 h16 rfl, ?_⟩⟩
      refine registers_s (r := ⟨d, s, o, i, low, high, wr, 0⟩) (x := x) (Sep.up2 (Sep.up2 h16)) fun H35 h35 => ⟨_, rfl, cond_of (fun g8 => ans _ _ ?_ h35) fun g8 => ?_⟩
      · rw [hchk, if_pos (by simpa using g8)]
      have g8 : regI ⟨d, s, o, i, low, high, wr, 0⟩ x = true := by simpa using g8
      refine ⟨_, _, _, _, Sep.lds3 h35 rfl, _, _, _, _, _, Sep.lds4 h35 rfl, odd_s (r := ⟨d, s, o, i, low, high, wr, 0⟩) (x := x) h35 fun H47 h47 => ⟨_, rfl, cond_of (fun g9 => ans _ _ ?_ h47) fun g9 => ⟨_, Sep.ld4 h47 rfl, cond_of (fun w => ⟨_, Sep.ld4 h47 rfl, cond_of (fun h50 => ans _ _ ?_ h47) fun h50 => ?_⟩) fun w => ?_⟩⟩⟩
      · rw [hchk, if_neg (by rw [g8]; decide), if_pos (.inl g9)]
      · rw [hchk, if_neg (by rw [g8]; decide), if_pos (.inr ⟨by simpa using w, by simpa using h50⟩)]
      · refine ⟨_, Sep.ld4 h47 rfl, cond_of (fun h51 => ans _ _ ?_ h47) fun h51 => ⟨_, Sep.ld4 h47 rfl, cond_of (fun h52 => ans _ _ ?_ h47) fun h52 => ?_⟩⟩
        · rw [hchk, if_neg (by rw [g8]; decide), if_neg (fun q => q.elim (fun q => Bool.noConfusion (g9.symm.trans q)) fun q => absurd q.2 (of_decide_eq_false h50)), if_pos (.inl (by simpa using h51))]
        · rw [hchk, if_neg (by rw [g8]; decide), if_neg (fun q => q.elim (fun q => Bool.noConfusion (g9.symm.trans q)) fun q => absurd q.2 (of_decide_eq_false h50)), if_pos (.inr (.inl (by simpa using h52)))]
        simp only [decide_eq_false_iff_not] at h51 h52
        refine ⟨_, _, Sep.lds3 h47 rfl, _, Sep.ld4 h47 rfl, out_s h47 fun H57 h57 => ⟨_, rfl, cond_of (fun gout => ans _ _ ?_ h57) fun gout => ?_⟩⟩
        · rw [hchk, if_neg (by rw [g8]; decide), if_neg (fun q => q.elim (fun q => Bool.noConfusion (g9.symm.trans q)) fun q => absurd q.2 (of_decide_eq_false h50)), if_pos (.inr (.inr (.inl (of_decide_eq_true gout))))]
        · have gout := of_decide_eq_false gout
          refine ⟨_, Sep.ld3 h57 rfl, asFnNil_nil (cond_no rfl (ans _ _ ?_ h57))⟩
          rw [hchk, if_neg (by rw [g8]; decide), if_neg (fun q => q.elim (fun q => Bool.noConfusion (g9.symm.trans q)) fun q => absurd q.2 (of_decide_eq_false h50)), if_neg (fun q => q.elim h51 fun q => q.elim h52 fun q => q.elim gout fun q => by cases q)]
      · refine ⟨_, Sep.ld4 h47 rfl, cond_of (fun h51 => ans _ _ ?_ h47) fun h51 => ⟨_, Sep.ld4 h47 rfl, cond_of (fun h52 => ans _ _ ?_ h47) fun h52 => ?_⟩⟩
        · rw [hchk, if_neg (by rw [g8]; decide), if_neg (fun q => q.elim (fun q => Bool.noConfusion (g9.symm.trans q)) fun q => absurd q.1 (by simpa using w)), if_pos (.inl (by simpa using h51))]
        · rw [hchk, if_neg (by rw [g8]; decide), if_neg (fun q => q.elim (fun q => Bool.noConfusion (g9.symm.trans q)) fun q => absurd q.1 (by simpa using w)), if_pos (.inr (.inl (by simpa using h52)))]
        simp only [decide_eq_false_iff_not] at h51 h52
        refine ⟨_, _, Sep.lds3 h47 rfl, _, Sep.ld4 h47 rfl, out_s h47 fun H57 h57 => ⟨_, rfl, cond_of (fun gout => ans _ _ ?_ h57) fun gout => ?_⟩⟩
        · rw [hchk, if_neg (by rw [g8]; decide), if_neg (fun q => q.elim (fun q => Bool.noConfusion (g9.symm.trans q)) fun q => absurd q.1 (by simpa using w)), if_pos (.inr (.inr (.inl (of_decide_eq_true gout))))]
        · have gout := of_decide_eq_false gout
          refine ⟨_, Sep.ld3 h57 rfl, asFnNil_nil (cond_no rfl (ans _ _ ?_ h57))⟩
          rw [hchk, if_neg (by rw [g8]; decide), if_neg (fun q => q.elim (fun q => Bool.noConfusion (g9.symm.trans q)) fun q => absurd q.1 (by simpa using w)), if_neg (fun q => q.elim h51 fun q => q.elim h52 fun q => q.elim gout fun q => by cases q)]
    · refine ⟨_, _, _, _, _, _, _, .inr ⟨_, rfl, Sep.st3 h4 (Nat.le_of_ble_eq_true rfl) fun H16 h16 => ⟨cond_no rfl ?_, duty⟩⟩⟩
      have h16 : Sep H16 (tb b tab :: gh :: ga :: bx (H2.next + 7) (.cells true 0 (rcells ⟨d, s, o, i, low, high, wr, 1⟩)) :: bx i1 (.cells true 0 x.cells) :: L) := h16
      refine ⟨_, _, _, _, _, _, _, .inr ⟨_, Sep.lds3 h16 rfl, _, _, _, _, _, Sep.lds4 h16 rfl, ?_⟩⟩
      refine registers_s (r := ⟨d, s, o, i, low, high, wr, 1⟩) (x := x) (Sep.up2 (Sep.up2 h16)) fun H35 h35 => ⟨_, rfl, cond_of (fun g8 => ans _ _ ?_ h35) fun g8 => ?_⟩
      · rw [hchk, if_pos (by simpa using g8)]
      have g8 : regI ⟨d, s, o, i, low, high, wr, 1⟩ x = true := by simpa using g8
      refine ⟨_, _, _, _, Sep.lds3 h35 rfl, _, _, _, _, _, Sep.lds4 h35 rfl, odd_s (r := ⟨d, s, o, i, low, high, wr, 1⟩) (x := x) h35 fun H47 h47 => ⟨_, rfl, cond_of (fun g9 => ans _ _ ?_ h47) fun g9 => ⟨_, Sep.ld4 h47 rfl, cond_of (fun w => ⟨_, Sep.ld4 h47 rfl, cond_of (fun h50 => ans _ _ ?_ h47) fun h50 => ?_⟩) fun w => ?_⟩⟩⟩
      · rw [hchk, if_neg (by rw [g8]; decide), if_pos (.inl g9)]
      · rw [hchk, if_neg (by rw [g8]; decide), if_pos (.inr ⟨by simpa using w, by simpa using h50⟩)]
      · refine ⟨_, Sep.ld4 h47 rfl, cond_of (fun h51 => ans _ _ ?_ h47) fun h51 => ⟨_, Sep.ld4 h47 rfl, cond_of (fun h52 => ans _ _ ?_ h47) fun h52 => ?_⟩⟩
        · rw [hchk, if_neg (by rw [g8]; decide), if_neg (fun q => q.elim (fun q => Bool.noConfusion (g9.symm.trans q)) fun q => absurd q.2 (of_decide_eq_false h50)), if_pos (.inl (by simpa using h51))]
        · rw [hchk, if_neg (by rw [g8]; decide), if_neg (fun q => q.elim (fun q => Bool.noConfusion (g9.symm.trans q)) fun q => absurd q.2 (of_decide_eq_false h50)), if_pos (.inr (.inl (by simpa using h52)))]
        simp only [decide_eq_false_iff_not] at h51 h52
        refine ⟨_, _, Sep.lds3 h47 rfl, _, Sep.ld4 h47 rfl, out_s h47 fun H57 h57 => ⟨_, rfl, cond_of (fun gout => ans _ _ ?_ h57) fun gout => ?_⟩⟩
        · rw [hchk, if_neg (by rw [g8]; decide), if_neg (fun q => q.elim (fun q => Bool.noConfusion (g9.symm.trans q)) fun q => absurd q.2 (of_decide_eq_false h50)), if_pos (.inr (.inr (.inl (of_decide_eq_true gout))))]
        · have gout := of_decide_eq_false gout
          refine ⟨_, Sep.ld3 h57 rfl, asFnNil_func (cond_yes rfl ⟨_, Sep.ld3 h57 rfl, _, _, _, _, _, Sep.lds4 h57 rfl, asFn_in ⟨Option.isSome_iff_exists.1 (by kernel_rfl), ?_⟩⟩)⟩
          refine only_s (n := 1) (x := x) (by decide) h57 fun H71 h71 => ⟨_, rfl, cond_of (fun g => ans _ _ ?_ h71) fun g => ans _ _ ?_ h71⟩
          · rw [hchk, if_neg (by rw [g8]; decide), if_neg (fun q => q.elim (fun q => Bool.noConfusion (g9.symm.trans q)) fun q => absurd q.2 (of_decide_eq_false h50)), if_pos (.inr (.inr (.inr (by simpa using g))))]
          · rw [hchk, if_neg (by rw [g8]; decide), if_neg (fun q => q.elim (fun q => Bool.noConfusion (g9.symm.trans q)) fun q => absurd q.2 (of_decide_eq_false h50)), if_neg (fun q => q.elim h51 fun q => q.elim h52 fun q => q.elim gout fun q => by simp_all)]
      · refine ⟨_, Sep.ld4 h47 rfl, cond_of (fun h51 => ans _ _ ?_ h47) fun h51 => ⟨_, Sep.ld4 h47 rfl, cond_of (fun h52 => ans _ _ ?_ h47) fun h52 => ?_⟩⟩
        · rw [hchk, if_neg (by rw [g8]; decide), if_neg (fun q => q.elim (fun q => Bool.noConfusion (g9.symm.trans q)) fun q => absurd q.1 (by simpa using w)), if_pos (.inl (by simpa using h51))]
        · rw [hchk, if_neg (by rw [g8]; decide), if_neg (fun q => q.elim (fun q => Bool.noConfusion (g9.symm.trans q)) fun q => absurd q.1 (by simpa using w)), if_pos (.inr (.inl (by simpa using h52)))]
        simp only [decide_eq_false_iff_not] at h51 h52
        refine ⟨_, _, Sep.lds3 h47 rfl, _, Sep.ld4 h47 rfl, out_s h47 fun H57 h57 => ⟨_, rfl, cond_of (fun gout => ans _ _ ?_ h57) fun gout => ?_⟩⟩
        · rw [hchk, if_neg (by rw [g8]; decide), if_neg (fun q => q.elim (fun q => Bool.noConfusion (g9.symm.trans q)) fun q => absurd q.1 (by simpa using w)), if_pos (.inr (.inr (.inl (of_decide_eq_true gout))))]
        · have gout := of_decide_eq_false gout
          refine ⟨_, Sep.ld3 h57 rfl, asFnNil_func (cond_yes rfl ⟨_, Sep.ld3 h57 rfl, _, _, _, _, _, Sep.lds4 h57 rfl, asFn_in ⟨Option.isSome_iff_exists.1 (by kernel_rfl), ?_⟩⟩)⟩
          refine only_s (n := 1) (x := x) (by decide) h57 fun H71 h71 => ⟨_, rfl, cond_of (fun g => ans _ _ ?_ h71) fun g => ans _ _ ?_ h71⟩
          · rw [hchk, if_neg (by rw [g8]; decide), if_neg (fun q => q.elim (fun q => Bool.noConfusion (g9.symm.trans q)) fun q => absurd q.1 (by simpa using w)), if_pos (.inr (.inr (.inr (by simpa using g))))]
          · rw [hchk, if_neg (by rw [g8]; decide), if_neg (fun q => q.elim (fun q => Bool.noConfusion (g9.symm.trans q)) fun q => absurd q.1 (by simpa using w)), if_neg (fun q => q.elim h51 fun q => q.elim h52 fun q => q.elim gout fun q => by simp_all)]
    · refine ⟨_, _, _, _, _, _, _, .inr ⟨_, rfl, Sep.st3 h4 (Nat.le_of_ble_eq_true rfl) fun H16 h16 => ⟨cond_no rfl ?_, duty⟩⟩⟩
      have h16 : Sep H16 (tb b tab :: gh :: ga :: bx (H2.next + 7) (.cells true 0 (rcells ⟨d, s, o, i, low, high, wr, 2⟩)) :: bx i1 (.cells true 0 x.cells) :: L) := h16
      refine ⟨_, _, _, _, _, _, _, .inr ⟨_, Sep.lds3 h16 rfl, _, _, _, _, _, Sep.lds4 h16 rfl, ?_⟩⟩
      refine registers_s (r := ⟨d, s, o, i, low, high, wr, 2⟩) (x := x) (Sep.up2 (Sep.up2 h16)) fun H35 h35 => ⟨_, rfl, cond_of (fun g8 => ans _ _ ?_ h35) fun g8 => ?_⟩
      · rw [hchk, if_pos (by simpa using g8)]
      have g8 : regI ⟨d, s, o, i, low, high, wr, 2⟩ x = true := by simpa using g8
      refine ⟨_, _, _, _, Sep.lds3 h35 rfl, _, _, _, _, _, Sep.lds4 h35 rfl, odd_s (r := ⟨d, s, o, i, low, high, wr, 2⟩) (x := x) h35 fun H47 h47 => ⟨_, rfl, cond_of (fun g9 => ans _ _ ?_ h47) fun g9 => ⟨_, Sep.ld4 h47 rfl, cond_of (fun w => ⟨_, Sep.ld4 h47 rfl, cond_of (fun h50 => ans _ _ ?_ h47) fun h50 => ?_⟩) fun w => ?_⟩⟩⟩
      · rw [hchk, if_neg (by rw [g8]; decide), if_pos (.inl g9)]
      · rw [hchk, if_neg (by rw [g8]; decide), if_pos (.inr ⟨by simpa using w, by simpa using h50⟩)]
      · refine ⟨_, Sep.ld4 h47 rfl, cond_of (fun h51 => ans _ _ ?_ h47) fun h51 => ⟨_, Sep.ld4 h47 rfl, cond_of (fun h52 => ans _ _ ?_ h47) fun h52 => ?_⟩⟩
        · rw [hchk, if_neg (by rw [g8]; decide), if_neg (fun q => q.elim (fun q => Bool.noConfusion (g9.symm.trans q)) fun q => absurd q.2 (of_decide_eq_false h50)), if_pos (.inl (by simpa using h51))]
        · rw [hchk, if_neg (by rw [g8]; decide), if_neg (fun q => q.elim (fun q => Bool.noConfusion (g9.symm.trans q)) fun q => absurd q.2 (of_decide_eq_false h50)), if_pos (.inr (.inl (by simpa using h52)))]
        simp only [decide_eq_false_iff_not] at h51 h52
        refine ⟨_, _, Sep.lds3 h47 rfl, _, Sep.ld4 h47 rfl, out_s h47 fun H57 h57 => ⟨_, rfl, cond_of (fun gout => ans _ _ ?_ h57) fun gout => ?_⟩⟩
        · rw [hchk, if_neg (by rw [g8]; decide), if_neg (fun q => q.elim (fun q => Bool.noConfusion (g9.symm.trans q)) fun q => absurd q.2 (of_decide_eq_false h50)), if_pos (.inr (.inr (.inl (of_decide_eq_true gout))))]
        · have gout := of_decide_eq_false gout
          refine ⟨_, Sep.ld3 h57 rfl, asFnNil_func (cond_yes rfl ⟨_, Sep.ld3 h57 rfl, _, _, _, _, _, Sep.lds4 h57 rfl, asFn_in ⟨Option.isSome_iff_exists.1 (by kernel_rfl), ?_⟩⟩)⟩
          refine only_s (n := 2) (x := x) (by decide) h57 fun H71 h71 => ⟨_, rfl, cond_of (fun g => ans _ _ ?_ h71) fun g => ans _ _ ?_ h71⟩
          · rw [hchk, if_neg (by rw [g8]; decide), if_neg (fun q => q.elim (fun q => Bool.noConfusion (g9.symm.trans q)) fun q => absurd q.2 (of_decide_eq_false h50)), if_pos (.inr (.inr (.inr (by simpa using g))))]
          · rw [hchk, if_neg (by rw [g8]; decide), if_neg (fun q => q.elim (fun q => Bool.noConfusion (g9.symm.trans q)) fun q => absurd q.2 (of_decide_eq_false h50)), if_neg (fun q => q.elim h51 fun q => q.elim h52 fun q => q.elim gout fun q => by simp_all)]
      · refine ⟨_, Sep.ld4 h47 rfl, cond_of (fun h51 => ans _ _ ?_ h47) fun h51 => ⟨_, Sep.ld4 h47 rfl, cond_of (fun h52 => ans _ _ ?_ h47) fun h52 => ?_⟩⟩
        · rw [hchk, if_neg (by rw [g8]; decide), if_neg (fun q => q.elim (fun q => Bool.noConfusion (g9.symm.trans q)) fun q => absurd q.1 (by simpa using w)), if_pos (.inl (by simpa using h51))]
        · rw [hchk, if_neg (by rw [g8]; decide), if_neg (fun q => q.elim (fun q => Bool.noConfusion (g9.symm.trans q)) fun q => absurd q.1 (by simpa using w)), if_pos (.inr (.inl (by simpa using h52)))]
        simp only [decide_eq_false_iff_not] at h51 h52
        refine ⟨_, _, Sep.lds3 h47 rfl, _, Sep.ld4 h47 rfl, out_s h47 fun H57 h57 => ⟨_, rfl, cond_of (fun gout => ans _ _ ?_ h57) fun gout => ?_⟩⟩
        · rw [hchk, if_neg (by rw [g8]; decide), if_neg (fun q => q.elim (fun q => Bool.noConfusion (g9.symm.trans q)) fun q => absurd q.1 (by simpa using w)), if_pos (.inr (.inr (.inl (of_decide_eq_true gout))))]
        · have gout := of_decide_eq_false gout
          refine ⟨_, Sep.ld3 h57 rfl, asFnNil_func (cond_yes rfl ⟨_, Sep.ld3 h57 rfl, _, _, _, _, _, Sep.lds4 h57 rfl, asFn_in ⟨Option.isSome_iff_exists.1 (by kernel_rfl), ?_⟩⟩)⟩
          refine only_s (n := 2) (x := x) (by decide) h57 fun H71 h71 => ⟨_, rfl, cond_of (fun g => ans _ _ ?_ h71) fun g => ans _ _ ?_ h71⟩
          · rw [hchk, if_neg (by rw [g8]; decide), if_neg (fun q => q.elim (fun q => Bool.noConfusion (g9.symm.trans q)) fun q => absurd q.1 (by simpa using w)), if_pos (.inr (.inr (.inr (by simpa using g))))]
          · rw [hchk, if_neg (by rw [g8]; decide), if_neg (fun q => q.elim (fun q => Bool.noConfusion (g9.symm.trans q)) fun q => absurd q.1 (by simpa using w)), if_neg (fun q => q.elim h51 fun q => q.elim h52 fun q => q.elim gout fun q => by simp_all)]
    · refine ⟨_, _, _, _, _, _, _, .inr ⟨_, rfl, Sep.st3 h4 (Nat.le_of_ble_eq_true rfl) fun H16 h16 => ⟨cond_no rfl ?_, duty⟩⟩⟩
      have h16 : Sep H16 (tb b tab :: gh :: ga :: bx (H2.next + 7) (.cells true 0 (rcells ⟨d, s, o, i, low, high, wr, 3⟩)) :: bx i1 (.cells true 0 x.cells) :: L) := h16
      refine ⟨_, _, _, _, _, _, _, .inr ⟨_, Sep.lds3 h16 rfl, _, _, _, _, _, Sep.lds4 h16 rfl, ?_⟩⟩
      refine registers_s (r := ⟨d, s, o, i, low, high, wr, 3⟩) (x := x) (Sep.up2 (Sep.up2 h16)) fun H35 h35 => ⟨_, rfl, cond_of (fun g8 => ans _ _ ?_ h35) fun g8 => ?_⟩
      · rw [hchk, if_pos (by simpa using g8)]
      have g8 : regI ⟨d, s, o, i, low, high, wr, 3⟩ x = true := by simpa using g8
      refine ⟨_, _, _, _, Sep.lds3 h35 rfl, _, _, _, _, _, Sep.lds4 h35 rfl, odd_s (r := ⟨d, s, o, i, low, high, wr, 3⟩) (x := x) h35 fun H47 h47 => ⟨_, rfl, cond_of (fun g9 => ans _ _ ?_ h47) fun g9 => ⟨_, Sep.ld4 h47 rfl, cond_of (fun w => ⟨_, Sep.ld4 h47 rfl, cond_of (fun h50 => ans _ _ ?_ h47) fun h50 => ?_⟩) fun w => ?_⟩⟩⟩
      · rw [hchk, if_neg (by rw [g8]; decide), if_pos (.inl g9)]
      · rw [hchk, if_neg (by rw [g8]; decide), if_pos (.inr ⟨by simpa using w, by simpa using h50⟩)]
      · refine ⟨_, Sep.ld4 h47 rfl, cond_of (fun h51 => ans _ _ ?_ h47) fun h51 => ⟨_, Sep.ld4 h47 rfl, cond_of (fun h52 => ans _ _ ?_ h47) fun h52 => ?_⟩⟩
        · rw [hchk, if_neg (by rw [g8]; decide), if_neg (fun q => q.elim (fun q => Bool.noConfusion (g9.symm.trans q)) fun q => absurd q.2 (of_decide_eq_false h50)), if_pos (.inl (by simpa using h51))]
        · rw [hchk, if_neg (by rw [g8]; decide), if_neg (fun q => q.elim (fun q => Bool.noConfusion (g9.symm.trans q)) fun q => absurd q.2 (of_decide_eq_false h50)), if_pos (.inr (.inl (by simpa using h52)))]
        simp only [decide_eq_false_iff_not] at h51 h52
        refine ⟨_, _, Sep.lds3 h47 rfl, _, Sep.ld4 h47 rfl, out_s h47 fun H57 h57 => ⟨_, rfl, cond_of (fun gout => ans _ _ ?_ h57) fun gout => ?_⟩⟩
        · rw [hchk, if_neg (by rw [g8]; decide), if_neg (fun q => q.elim (fun q => Bool.noConfusion (g9.symm.trans q)) fun q => absurd q.2 (of_decide_eq_false h50)), if_pos (.inr (.inr (.inl (of_decide_eq_true gout))))]
        · have gout := of_decide_eq_false gout
          refine ⟨_, Sep.ld3 h57 rfl, asFnNil_func (cond_yes rfl ⟨_, Sep.ld3 h57 rfl, _, _, _, _, _, Sep.lds4 h57 rfl, asFn_in ⟨Option.isSome_iff_exists.1 (by kernel_rfl), ?_⟩⟩)⟩
          refine only_s (n := 3) (x := x) (by decide) h57 fun H71 h71 => ⟨_, rfl, cond_of (fun g => ans _ _ ?_ h71) fun g => ans _ _ ?_ h71⟩
          · rw [hchk, if_neg (by rw [g8]; decide), if_neg (fun q => q.elim (fun q => Bool.noConfusion (g9.symm.trans q)) fun q => absurd q.2 (of_decide_eq_false h50)), if_pos (.inr (.inr (.inr (by simpa using g))))]
          · rw [hchk, if_neg (by rw [g8]; decide), if_neg (fun q => q.elim (fun q => Bool.noConfusion (g9.symm.trans q)) fun q => absurd q.2 (of_decide_eq_false h50)), if_neg (fun q => q.elim h51 fun q => q.elim h52 fun q => q.elim gout fun q => by simp_all)]
      · refine ⟨_, Sep.ld4 h47 rfl, cond_of (fun h51 => ans _ _ ?_ h47) fun h51 => ⟨_, Sep.ld4 h47 rfl, cond_of (fun h52 => ans _ _ ?_ h47) fun h52 => ?_⟩⟩
        · rw [hchk, if_neg (by rw [g8]; decide), if_neg (fun q => q.elim (fun q => Bool.noConfusion (g9.symm.trans q)) fun q => absurd q.1 (by simpa using w)), if_pos (.inl (by simpa using h51))]
        · rw [hchk, if_neg (by rw [g8]; decide), if_neg (fun q => q.elim (fun q => Bool.noConfusion (g9.symm.trans q)) fun q => absurd q.1 (by simpa using w)), if_pos (.inr (.inl (by simpa using h52)))]
        simp only [decide_eq_false_iff_not] at h51 h52
        refine ⟨_, _, Sep.lds3 h47 rfl, _, Sep.ld4 h47 rfl, out_s h47 fun H57 h57 => ⟨_, rfl, cond_of (fun gout => ans _ _ ?_ h57) fun gout => ?_⟩⟩
        · rw [hchk, if_neg (by rw [g8]; decide), if_neg (fun q => q.elim (fun q => Bool.noConfusion (g9.symm.trans q)) fun q => absurd q.1 (by simpa using w)), if_pos (.inr (.inr (.inl (of_decide_eq_true gout))))]
        · have gout := of_decide_eq_false gout
          refine ⟨_, Sep.ld3 h57 rfl, asFnNil_func (cond_yes rfl ⟨_, Sep.ld3 h57 rfl, _, _, _, _, _, Sep.lds4 h57 rfl, asFn_in ⟨Option.isSome_iff_exists.1 (by kernel_rfl), ?_⟩⟩)⟩
          refine only_s (n := 3) (x := x) (by decide) h57 fun H71 h71 => ⟨_, rfl, cond_of (fun g => ans _ _ ?_ h71) fun g => ans _ _ ?_ h71⟩
          · rw [hchk, if_neg (by rw [g8]; decide), if_neg (fun q => q.elim (fun q => Bool.noConfusion (g9.symm.trans q)) fun q => absurd q.1 (by simpa using w)), if_pos (.inr (.inr (.inr (by simpa using g))))]
          · rw [hchk, if_neg (by rw [g8]; decide), if_neg (fun q => q.elim (fun q => Bool.noConfusion (g9.symm.trans q)) fun q => absurd q.1 (by simpa using w)), if_neg (fun q => q.elim h51 fun q => q.elim h52 fun q => q.elim gout fun q => by simp_all)]
end Go.Proofs.YtmgkngdbphkmmaaDoor
