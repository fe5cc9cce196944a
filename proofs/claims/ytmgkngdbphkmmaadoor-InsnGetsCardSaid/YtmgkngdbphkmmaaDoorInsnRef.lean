/-
  The document's table of opcodes: what its functions answer.
-/
import Derived.Test.YtmgkngdbphkmmaaDoorInsnM
import Derived.Test.YtmgkngdbphkmmaaDoorVcIr
namespace Go.Proofs.YtmgkngdbphkmmaaDoor
open Go Go.AS Go.RowKit
set_option linter.unusedVariables false
variable {H H' : Heap} {R : Value → Heap → Prop} {L M : List Asr}

def byteI (s : ByteArray) (i : Nat) : Int := match byteA s i with | some (.int _ n) => n | _ => 0
def hasB (s : ByteArray) (c : Int) : Bool := (List.range s.size).any fun i => byteI s i == c
theorem byteA_in {s : ByteArray} {i : Nat} (h : i < s.size) : byteA s i = some (.int .u8 (byteI s i)) := by
  unfold byteI
  have : ∃ n, byteA s i = some (.int .u8 n) := by
    unfold byteA
    rw [if_pos (by omega), Int.toNat_natCast, getElem?_pos s i h]
    exact ⟨_, rfl⟩
  obtain ⟨n, e⟩ := this
  rw [e]

theorem has_s {s : ByteArray} {c : Int} (hs : s.size < 1000) (hR : R (.bool (hasB s c)) H) : CA en F.crossbarref02_has [.string s, .int .u8 c] H R := by
  apply vc_crossbarref02_has
  refine use_crossbarref02_has_0 (fun k t4 t5 H' => ∃ j : Nat, j ≤ s.size ∧ k = s.size - j ∧ t5 = (j : Int) ∧ H' = H ∧ ∀ i, i < j → ¬ byteI s i = c) s.size ⟨0, by omega, rfl, rfl, rfl, fun i hi => by omega⟩ ?_
  rintro k t4 t5 ys H3 ⟨j, hj, rfl, rfl, rfl, hall⟩
  refine cond_of (fun h1 => ?_) fun h1 => ?_
  · have hj' : j < s.size := by simp only [decide_eq_true_eq] at h1; omega
    rw [byteA_in hj']
    refine ⟨_, rfl, cond_of (fun h2 => ?_) fun h2 => ?_⟩
    · have h2 : byteI s j = c := by simpa using h2
      have : hasB s c = true := List.any_eq_true.2 ⟨j, List.mem_range.2 hj', by simpa using h2⟩
      rw [this] at hR
      exact asBool_in hR
    · have h2 : ¬ byteI s j = c := by simpa using h2
      refine ⟨s.size - (j + 1), by omega, j + 1, by omega, rfl, by rw [wrap_i64 (by omega)]; omega, rfl, fun i hi => ?_⟩
      by_cases e : i = j
      · subst e; exact h2
      · exact hall i (by omega)
  · obtain rfl : j = s.size := by simp only [decide_eq_false_iff_not] at h1; omega
    have : hasB s c = false := by
      rw [Bool.eq_false_iff]
      intro h
      obtain ⟨i, hi, e⟩ := List.any_eq_true.1 h
      exact hall i (List.mem_range.1 hi) (by simpa using e)
    rw [this] at hR
    exact asBool_in hR

theorem refAtomic_s {imm : Int} (hR : R (.tuple #[.bool (isAtom imm), .bool (fetches imm)]) H) : CA en F.crossbarref02_Atomic [I imm] H R := by
  apply vc_crossbarref02_Atomic
  unfold isAtom fetches at hR
  repeat' first
    | (refine cond_of (fun hc => ?_) fun hc => ?_)
    | fail
  all_goals
    simp only [beq_iff_eq, beq_eq_false_iff_ne] at *
    first
      | (subst_vars; simpa using hR)
      | (simp_all)

/-! ### Rows -/
abbrev DR := Bool × ByteArray × Bool × Int × Int
abbrev DR.val (d : DR) : Value := .agg #[.bool d.1, .string d.2.1, .bool d.2.2.1, I d.2.2.2.1, I d.2.2.2.2]
def docAlu (op : Int) : DR :=
  bif (IntKind.i64.wrap (Int.tdiv op 16)) == 13 then ((Int.tmod op 8) == 4, ⟨#[100, 105]⟩, true, -2147483648, 2147483647)
  else bif (IntKind.i64.wrap (Int.tdiv op 16)) == 8 then (!((Int.tmod (IntKind.i64.wrap (Int.tdiv op 8)) 2) == 1), ⟨#[100]⟩, true, -2147483648, 2147483647)
  else bif (Int.tmod (IntKind.i64.wrap (Int.tdiv op 8)) 2) == 1 then (decide ((IntKind.i64.wrap (Int.tdiv op 16)) ≤ 12), ⟨#[100, 115]⟩, true, -2147483648, 2147483647)
  else bif (IntKind.i64.wrap (Int.tdiv op 16)) == 6 then (bif (Int.tmod op 8) == 7 then (decide ((IntKind.i64.wrap (Int.tdiv op 16)) ≤ 12), ⟨#[100, 105]⟩, true, 0, 63) else (decide ((IntKind.i64.wrap (Int.tdiv op 16)) ≤ 12), ⟨#[100, 105]⟩, true, 0, 31))
  else bif (IntKind.i64.wrap (Int.tdiv op 16)) == 7 then (bif (Int.tmod op 8) == 7 then (decide ((IntKind.i64.wrap (Int.tdiv op 16)) ≤ 12), ⟨#[100, 105]⟩, true, 0, 63) else (decide ((IntKind.i64.wrap (Int.tdiv op 16)) ≤ 12), ⟨#[100, 105]⟩, true, 0, 31))
  else bif (IntKind.i64.wrap (Int.tdiv op 16)) == 12 then (bif (Int.tmod op 8) == 7 then (decide ((IntKind.i64.wrap (Int.tdiv op 16)) ≤ 12), ⟨#[100, 105]⟩, true, 0, 63) else (decide ((IntKind.i64.wrap (Int.tdiv op 16)) ≤ 12), ⟨#[100, 105]⟩, true, 0, 31))
  else (decide ((IntKind.i64.wrap (Int.tdiv op 16)) ≤ 12), ⟨#[100, 105]⟩, true, -2147483648, 2147483647)
def jmpRow (op : Int) (b : Bool) : DR :=
  bif (Int.tmod (IntKind.i64.wrap (Int.tdiv op 8)) 2) == 1 then (b, ⟨#[100, 115, 111]⟩, false, -2147483648, 2147483647) else (b, ⟨#[100, 111, 105]⟩, false, -2147483648, 2147483647)
def docJmp (op : Int) : DR :=
  bif op == 5 then (true, ⟨#[111]⟩, false, -2147483648, 2147483647)
  else bif op == 133 then (true, ⟨#[105]⟩, false, -2147483648, 2147483647)
  else bif op == 149 then (true, ⟨#[]⟩, false, -2147483648, 2147483647)
  else bif decide ((IntKind.i64.wrap (Int.tdiv op 16)) ≥ 1) then
    bif decide ((IntKind.i64.wrap (Int.tdiv op 16)) ≤ 7) then jmpRow op true
    else bif decide ((IntKind.i64.wrap (Int.tdiv op 16)) ≥ 10) then jmpRow op (decide ((IntKind.i64.wrap (Int.tdiv op 16)) ≤ 13)) else jmpRow op false
  else bif decide ((IntKind.i64.wrap (Int.tdiv op 16)) ≥ 10) then jmpRow op (decide ((IntKind.i64.wrap (Int.tdiv op 16)) ≤ 13)) else jmpRow op false
def memRow (op : Int) (b : Bool) : DR :=
  bif (IntKind.i64.wrap (Int.tdiv op 32)) == 6 then (b, ⟨#[100, 115, 111, 105]⟩, false, -2147483648, 2147483647) else (b, ⟨#[100, 115, 111]⟩, false, -2147483648, 2147483647)
def docFind (op : Int) : DR :=
  bif decide (op < 0) then (false, ⟨#[]⟩, false, 0, 0) else bif decide (op > 255) then (false, ⟨#[]⟩, false, 0, 0)
  else bif Int.tmod op 8 == 4 then docAlu op else bif Int.tmod op 8 == 7 then docAlu op
  else bif Int.tmod op 8 == 5 then docJmp op else bif Int.tmod op 8 == 6 then docJmp op
  else bif Int.tmod op 8 == 0 then (op == 24, ⟨#[100, 115, 105]⟩, true, -9223372036854775808, 9223372036854775807)
  else bif Int.tmod op 8 == 1 then ((IntKind.i64.wrap (Int.tdiv op 32)) == 3, ⟨#[100, 115, 111]⟩, true, -2147483648, 2147483647)
  else bif Int.tmod op 8 == 2 then ((IntKind.i64.wrap (Int.tdiv op 32)) == 3, ⟨#[100, 111, 105]⟩, false, -2147483648, 2147483647)
  else bif Int.tmod op 8 == 3 then
    (bif (IntKind.i64.wrap (Int.tdiv op 32)) == 3 then memRow op true else bif op == 195 then memRow op true else memRow op (op == 219))
  else (false, ⟨#[]⟩, false, -2147483648, 2147483647)

def rowOk (op : Int) (d : DR) : Bool := match refRow op with
  | none => !d.1
  | some r => d.1 && (hasB d.2.1 100 == r.d) && (hasB d.2.1 115 == r.s) && (hasB d.2.1 111 == r.o) && (hasB d.2.1 105 == r.i) && (d.2.2.1 == r.wr) && (d.2.2.2.1 == r.low) && (d.2.2.2.2 == r.high)
theorem find_ok (op : Int) : rowOk op (docFind op) = true ∧ (docFind op).2.1.size < 1000 := by
  by_cases h : op < 0 ∨ op > 255
  · have e : refRow op = none := by unfold refRow; simp only; rw [if_pos h]
    have e2 : docFind op = (false, ⟨#[]⟩, false, 0, 0) := by
      unfold docFind
      rcases h with h | h
      · rw [decide_eq_true h]; rfl
      · rw [decide_eq_false (by omega), decide_eq_true h]; rfl
    unfold rowOk
    rw [e, e2]
    exact ⟨rfl, by decide⟩
  · have all : ∀ j : Fin 256, (rowOk ((j : Nat) : Int) (docFind ((j : Nat) : Int)) && decide ((docFind ((j : Nat) : Int)).2.1.size < 1000)) = true := by decide +kernel
    obtain ⟨n, rfl⟩ := Int.eq_ofNat_of_zero_le (show 0 ≤ op by omega)
    have := all ⟨n, by omega⟩
    rw [Bool.and_eq_true, decide_eq_true_eq] at this
    exact this

set_option maxHeartbeats 4000000 in
theorem docAlu_s {op : Int} (h : Sep H L) (hR : ∀ H', Sep H' L → R (docAlu op).val H') : CA en F.crossbarref02_alu [I op] H R := by
  apply vc_crossbarref02_alu
  unfold docAlu at hR
  repeat' first
    | (refine Sep.nw (by assumption) fun _ _ _ => ?_)
    | (refine asRow_in ?_)
    | (refine asAddr_in ?_)
    | (refine ⟨_, rfl, ?_⟩)
    | (refine ⟨_, _, rfl, ?_⟩)
    | (refine ⟨_, _, _, rfl, ?_⟩)
    | (refine ⟨_, _, _, _, rfl, ?_⟩)
    | (refine ⟨_, _, _, _, _, rfl, ?_⟩)
    | (refine ⟨_, _, _, _, _, _, rfl, ?_⟩)
    | (refine ⟨_, _, _, _, _, _, _, rfl, ?_⟩)
    | (refine ⟨_, _, _, _, _, _, _, _, rfl, ?_⟩)
    | (refine ⟨_, _, _, _, _, _, _, _, _, rfl, ?_⟩)
    | (refine ⟨_, _, _, _, _, _, _, _, _, _, rfl, ?_⟩)
    | (refine ⟨_, (by first | exact Sep.ld0 (by assumption) (by rfl) | exact Sep.ld1 (by assumption) (by rfl) | exact Sep.ld2 (by assumption) (by rfl) | exact Sep.ld3 (by assumption) (by rfl) | exact Sep.ld4 (by assumption) (by rfl) | exact Sep.ld5 (by assumption) (by rfl) | exact Sep.ld6 (by assumption) (by rfl) | exact Sep.ld7 (by assumption) (by rfl) | exact Sep.ld8 (by assumption) (by rfl) | exact Sep.ld9 (by assumption) (by rfl) | exact Sep.lds0 (by assumption) (by rfl) | exact Sep.lds1 (by assumption) (by rfl) | exact Sep.lds2 (by assumption) (by rfl) | exact Sep.lds3 (by assumption) (by rfl) | exact Sep.lds4 (by assumption) (by rfl) | exact Sep.lds5 (by assumption) (by rfl) | exact Sep.lds6 (by assumption) (by rfl) | exact Sep.lds7 (by assumption) (by rfl) | exact Sep.lds8 (by assumption) (by rfl) | exact Sep.lds9 (by assumption) (by rfl)), ?_⟩)
    | (refine ⟨_, _, (by first | exact Sep.lds0 (by assumption) (by rfl) | exact Sep.lds1 (by assumption) (by rfl) | exact Sep.lds2 (by assumption) (by rfl) | exact Sep.lds3 (by assumption) (by rfl) | exact Sep.lds4 (by assumption) (by rfl) | exact Sep.lds5 (by assumption) (by rfl) | exact Sep.lds6 (by assumption) (by rfl) | exact Sep.lds7 (by assumption) (by rfl) | exact Sep.lds8 (by assumption) (by rfl) | exact Sep.lds9 (by assumption) (by rfl)), ?_⟩)
    | (refine ⟨_, _, _, (by first | exact Sep.lds0 (by assumption) (by rfl) | exact Sep.lds1 (by assumption) (by rfl) | exact Sep.lds2 (by assumption) (by rfl) | exact Sep.lds3 (by assumption) (by rfl) | exact Sep.lds4 (by assumption) (by rfl) | exact Sep.lds5 (by assumption) (by rfl) | exact Sep.lds6 (by assumption) (by rfl) | exact Sep.lds7 (by assumption) (by rfl) | exact Sep.lds8 (by assumption) (by rfl) | exact Sep.lds9 (by assumption) (by rfl)), ?_⟩)
    | (refine ⟨_, _, _, _, (by first | exact Sep.lds0 (by assumption) (by rfl) | exact Sep.lds1 (by assumption) (by rfl) | exact Sep.lds2 (by assumption) (by rfl) | exact Sep.lds3 (by assumption) (by rfl) | exact Sep.lds4 (by assumption) (by rfl) | exact Sep.lds5 (by assumption) (by rfl) | exact Sep.lds6 (by assumption) (by rfl) | exact Sep.lds7 (by assumption) (by rfl) | exact Sep.lds8 (by assumption) (by rfl) | exact Sep.lds9 (by assumption) (by rfl)), ?_⟩)
    | (refine ⟨_, _, _, _, _, (by first | exact Sep.lds0 (by assumption) (by rfl) | exact Sep.lds1 (by assumption) (by rfl) | exact Sep.lds2 (by assumption) (by rfl) | exact Sep.lds3 (by assumption) (by rfl) | exact Sep.lds4 (by assumption) (by rfl) | exact Sep.lds5 (by assumption) (by rfl) | exact Sep.lds6 (by assumption) (by rfl) | exact Sep.lds7 (by assumption) (by rfl) | exact Sep.lds8 (by assumption) (by rfl) | exact Sep.lds9 (by assumption) (by rfl)), ?_⟩)
    | (refine ⟨_, _, _, _, _, _, (by first | exact Sep.lds0 (by assumption) (by rfl) | exact Sep.lds1 (by assumption) (by rfl) | exact Sep.lds2 (by assumption) (by rfl) | exact Sep.lds3 (by assumption) (by rfl) | exact Sep.lds4 (by assumption) (by rfl) | exact Sep.lds5 (by assumption) (by rfl) | exact Sep.lds6 (by assumption) (by rfl) | exact Sep.lds7 (by assumption) (by rfl) | exact Sep.lds8 (by assumption) (by rfl) | exact Sep.lds9 (by assumption) (by rfl)), ?_⟩)
    | (refine ⟨_, _, _, _, _, _, _, (by first | exact Sep.lds0 (by assumption) (by rfl) | exact Sep.lds1 (by assumption) (by rfl) | exact Sep.lds2 (by assumption) (by rfl) | exact Sep.lds3 (by assumption) (by rfl) | exact Sep.lds4 (by assumption) (by rfl) | exact Sep.lds5 (by assumption) (by rfl) | exact Sep.lds6 (by assumption) (by rfl) | exact Sep.lds7 (by assumption) (by rfl) | exact Sep.lds8 (by assumption) (by rfl) | exact Sep.lds9 (by assumption) (by rfl)), ?_⟩)
    | (refine ⟨_, _, _, _, _, _, _, _, (by first | exact Sep.lds0 (by assumption) (by rfl) | exact Sep.lds1 (by assumption) (by rfl) | exact Sep.lds2 (by assumption) (by rfl) | exact Sep.lds3 (by assumption) (by rfl) | exact Sep.lds4 (by assumption) (by rfl) | exact Sep.lds5 (by assumption) (by rfl) | exact Sep.lds6 (by assumption) (by rfl) | exact Sep.lds7 (by assumption) (by rfl) | exact Sep.lds8 (by assumption) (by rfl) | exact Sep.lds9 (by assumption) (by rfl)), ?_⟩)
    | (refine ⟨_, _, _, _, _, _, _, _, _, (by first | exact Sep.lds0 (by assumption) (by rfl) | exact Sep.lds1 (by assumption) (by rfl) | exact Sep.lds2 (by assumption) (by rfl) | exact Sep.lds3 (by assumption) (by rfl) | exact Sep.lds4 (by assumption) (by rfl) | exact Sep.lds5 (by assumption) (by rfl) | exact Sep.lds6 (by assumption) (by rfl) | exact Sep.lds7 (by assumption) (by rfl) | exact Sep.lds8 (by assumption) (by rfl) | exact Sep.lds9 (by assumption) (by rfl)), ?_⟩)
    | (refine ⟨_, _, _, _, _, _, _, _, _, _, (by first | exact Sep.lds0 (by assumption) (by rfl) | exact Sep.lds1 (by assumption) (by rfl) | exact Sep.lds2 (by assumption) (by rfl) | exact Sep.lds3 (by assumption) (by rfl) | exact Sep.lds4 (by assumption) (by rfl) | exact Sep.lds5 (by assumption) (by rfl) | exact Sep.lds6 (by assumption) (by rfl) | exact Sep.lds7 (by assumption) (by rfl) | exact Sep.lds8 (by assumption) (by rfl) | exact Sep.lds9 (by assumption) (by rfl)), ?_⟩)
    | (refine ⟨_, _, _, _, _, _, _, _, _, _, _, (by first | exact Sep.lds0 (by assumption) (by rfl) | exact Sep.lds1 (by assumption) (by rfl) | exact Sep.lds2 (by assumption) (by rfl) | exact Sep.lds3 (by assumption) (by rfl) | exact Sep.lds4 (by assumption) (by rfl) | exact Sep.lds5 (by assumption) (by rfl) | exact Sep.lds6 (by assumption) (by rfl) | exact Sep.lds7 (by assumption) (by rfl) | exact Sep.lds8 (by assumption) (by rfl) | exact Sep.lds9 (by assumption) (by rfl)), ?_⟩)
    | (refine ⟨_, _, _, _, _, _, _, _, _, _, _, _, (by first | exact Sep.lds0 (by assumption) (by rfl) | exact Sep.lds1 (by assumption) (by rfl) | exact Sep.lds2 (by assumption) (by rfl) | exact Sep.lds3 (by assumption) (by rfl) | exact Sep.lds4 (by assumption) (by rfl) | exact Sep.lds5 (by assumption) (by rfl) | exact Sep.lds6 (by assumption) (by rfl) | exact Sep.lds7 (by assumption) (by rfl) | exact Sep.lds8 (by assumption) (by rfl) | exact Sep.lds9 (by assumption) (by rfl)), ?_⟩)
    | (first | refine Sep.st0 (by assumption) (Nat.le_of_ble_eq_true (by rfl)) fun _ _ => ?_ | refine Sep.st1 (by assumption) (Nat.le_of_ble_eq_true (by rfl)) fun _ _ => ?_ | refine Sep.st2 (by assumption) (Nat.le_of_ble_eq_true (by rfl)) fun _ _ => ?_ | refine Sep.st3 (by assumption) (Nat.le_of_ble_eq_true (by rfl)) fun _ _ => ?_ | refine Sep.st4 (by assumption) (Nat.le_of_ble_eq_true (by rfl)) fun _ _ => ?_ | refine Sep.st5 (by assumption) (Nat.le_of_ble_eq_true (by rfl)) fun _ _ => ?_ | refine Sep.st6 (by assumption) (Nat.le_of_ble_eq_true (by rfl)) fun _ _ => ?_ | refine Sep.st7 (by assumption) (Nat.le_of_ble_eq_true (by rfl)) fun _ _ => ?_ | refine Sep.st8 (by assumption) (Nat.le_of_ble_eq_true (by rfl)) fun _ _ => ?_ | refine Sep.st9 (by assumption) (Nat.le_of_ble_eq_true (by rfl)) fun _ _ => ?_)
    | (refine ⟨(by unfold nz; decide), ?_⟩)
    | (refine cond_of (fun hc => ?_) fun hc => ?_ <;> (simp only [hc, cond_true, cond_false] at hR))
    | fail
  all_goals exact hR _ (Sep.tail (Sep.tail (by assumption)))
set_option maxHeartbeats 4000000 in
theorem docJmp_s {op : Int} (h : Sep H L) (hR : ∀ H', Sep H' L → R (docJmp op).val H') : CA en F.crossbarref02_jmp [I op] H R := by
  apply vc_crossbarref02_jmp
  unfold docJmp jmpRow at hR
  repeat' first
    | (refine Sep.nw (by assumption) fun _ _ _ => ?_)
    | (refine asRow_in ?_)
    | (refine asAddr_in ?_)
    | (refine ⟨_, rfl, ?_⟩)
    | (refine ⟨_, _, rfl, ?_⟩)
    | (refine ⟨_, _, _, rfl, ?_⟩)
    | (refine ⟨_, _, _, _, rfl, ?_⟩)
    | (refine ⟨_, _, _, _, _, rfl, ?_⟩)
    | (refine ⟨_, _, _, _, _, _, rfl, ?_⟩)
    | (refine ⟨_, _, _, _, _, _, _, rfl, ?_⟩)
    | (refine ⟨_, _, _, _, _, _, _, _, rfl, ?_⟩)
    | (refine ⟨_, _, _, _, _, _, _, _, _, rfl, ?_⟩)
    | (refine ⟨_, _, _, _, _, _, _, _, _, _, rfl, ?_⟩)
    | (refine ⟨_, (by first | exact Sep.ld0 (by assumption) (by rfl) | exact Sep.ld1 (by assumption) (by rfl) | exact Sep.ld2 (by assumption) (by rfl) | exact Sep.ld3 (by assumption) (by rfl) | exact Sep.ld4 (by assumption) (by rfl) | exact Sep.ld5 (by assumption) (by rfl) | exact Sep.ld6 (by assumption) (by rfl) | exact Sep.ld7 (by assumption) (by rfl) | exact Sep.ld8 (by assumption) (by rfl) | exact Sep.ld9 (by assumption) (by rfl) | exact Sep.lds0 (by assumption) (by rfl) | exact Sep.lds1 (by assumption) (by rfl) | exact Sep.lds2 (by assumption) (by rfl) | exact Sep.lds3 (by assumption) (by rfl) | exact Sep.lds4 (by assumption) (by rfl) | exact Sep.lds5 (by assumption) (by rfl) | exact Sep.lds6 (by assumption) (by rfl) | exact Sep.lds7 (by assumption) (by rfl) | exact Sep.lds8 (by assumption) (by rfl) | exact Sep.lds9 (by assumption) (by rfl)), ?_⟩)
    | (refine ⟨_, _, (by first | exact Sep.lds0 (by assumption) (by rfl) | exact Sep.lds1 (by assumption) (by rfl) | exact Sep.lds2 (by assumption) (by rfl) | exact Sep.lds3 (by assumption) (by rfl) | exact Sep.lds4 (by assumption) (by rfl) | exact Sep.lds5 (by assumption) (by rfl) | exact Sep.lds6 (by assumption) (by rfl) | exact Sep.lds7 (by assumption) (by rfl) | exact Sep.lds8 (by assumption) (by rfl) | exact Sep.lds9 (by assumption) (by rfl)), ?_⟩)
    | (refine ⟨_, _, _, (by first | exact Sep.lds0 (by assumption) (by rfl) | exact Sep.lds1 (by assumption) (by rfl) | exact Sep.lds2 (by assumption) (by rfl) | exact Sep.lds3 (by assumption) (by rfl) | exact Sep.lds4 (by assumption) (by rfl) | exact Sep.lds5 (by assumption) (by rfl) | exact Sep.lds6 (by assumption) (by rfl) | exact Sep.lds7 (by assumption) (by rfl) | exact Sep.lds8 (by assumption) (by rfl) | exact Sep.lds9 (by assumption) (by rfl)), ?_⟩)
    | (refine ⟨_, _, _, _, (by first | exact Sep.lds0 (by assumption) (by rfl) | exact Sep.lds1 (by assumption) (by rfl) | exact Sep.lds2 (by assumption) (by rfl) | exact Sep.lds3 (by assumption) (by rfl) | exact Sep.lds4 (by assumption) (by rfl) | exact Sep.lds5 (by assumption) (by rfl) | exact Sep.lds6 (by assumption) (by rfl) | exact Sep.lds7 (by assumption) (by rfl) | exact Sep.lds8 (by assumption) (by rfl) | exact Sep.lds9 (by assumption) (by rfl)), ?_⟩)
    | (refine ⟨_, _, _, _, _, (by first | exact Sep.lds0 (by assumption) (by rfl) | exact Sep.lds1 (by assumption) (by rfl) | exact Sep.lds2 (by assumption) (by rfl) | exact Sep.lds3 (by assumption) (by rfl) | exact Sep.lds4 (by assumption) (by rfl) | exact Sep.lds5 (by assumption) (by rfl) | exact Sep.lds6 (by assumption) (by rfl) | exact Sep.lds7 (by assumption) (by rfl) | exact Sep.lds8 (by assumption) (by rfl) | exact Sep.lds9 (by assumption) (by rfl)), ?_⟩)
    | (refine ⟨_, _, _, _, _, _, (by first | exact Sep.lds0 (by assumption) (by rfl) | exact Sep.lds1 (by assumption) (by rfl) | exact Sep.lds2 (by assumption) (by rfl) | exact Sep.lds3 (by assumption) (by rfl) | exact Sep.lds4 (by assumption) (by rfl) | exact Sep.lds5 (by assumption) (by rfl) | exact Sep.lds6 (by assumption) (by rfl) | exact Sep.lds7 (by assumption) (by rfl) | exact Sep.lds8 (by assumption) (by rfl) | exact Sep.lds9 (by assumption) (by rfl)), ?_⟩)
    | (refine ⟨_, _, _, _, _, _, _, (by first | exact Sep.lds0 (by assumption) (by rfl) | exact Sep.lds1 (by assumption) (by rfl) | exact Sep.lds2 (by assumption) (by rfl) | exact Sep.lds3 (by assumption) (by rfl) | exact Sep.lds4 (by assumption) (by rfl) | exact Sep.lds5 (by assumption) (by rfl) | exact Sep.lds6 (by assumption) (by rfl) | exact Sep.lds7 (by assumption) (by rfl) | exact Sep.lds8 (by assumption) (by rfl) | exact Sep.lds9 (by assumption) (by rfl)), ?_⟩)
    | (refine ⟨_, _, _, _, _, _, _, _, (by first | exact Sep.lds0 (by assumption) (by rfl) | exact Sep.lds1 (by assumption) (by rfl) | exact Sep.lds2 (by assumption) (by rfl) | exact Sep.lds3 (by assumption) (by rfl) | exact Sep.lds4 (by assumption) (by rfl) | exact Sep.lds5 (by assumption) (by rfl) | exact Sep.lds6 (by assumption) (by rfl) | exact Sep.lds7 (by assumption) (by rfl) | exact Sep.lds8 (by assumption) (by rfl) | exact Sep.lds9 (by assumption) (by rfl)), ?_⟩)
    | (refine ⟨_, _, _, _, _, _, _, _, _, (by first | exact Sep.lds0 (by assumption) (by rfl) | exact Sep.lds1 (by assumption) (by rfl) | exact Sep.lds2 (by assumption) (by rfl) | exact Sep.lds3 (by assumption) (by rfl) | exact Sep.lds4 (by assumption) (by rfl) | exact Sep.lds5 (by assumption) (by rfl) | exact Sep.lds6 (by assumption) (by rfl) | exact Sep.lds7 (by assumption) (by rfl) | exact Sep.lds8 (by assumption) (by rfl) | exact Sep.lds9 (by assumption) (by rfl)), ?_⟩)
    | (refine ⟨_, _, _, _, _, _, _, _, _, _, (by first | exact Sep.lds0 (by assumption) (by rfl) | exact Sep.lds1 (by assumption) (by rfl) | exact Sep.lds2 (by assumption) (by rfl) | exact Sep.lds3 (by assumption) (by rfl) | exact Sep.lds4 (by assumption) (by rfl) | exact Sep.lds5 (by assumption) (by rfl) | exact Sep.lds6 (by assumption) (by rfl) | exact Sep.lds7 (by assumption) (by rfl) | exact Sep.lds8 (by assumption) (by rfl) | exact Sep.lds9 (by assumption) (by rfl)), ?_⟩)
    | (refine ⟨_, _, _, _, _, _, _, _, _, _, _, (by first | exact Sep.lds0 (by assumption) (by rfl) | exact Sep.lds1 (by assumption) (by rfl) | exact Sep.lds2 (by assumption) (by rfl) | exact Sep.lds3 (by assumption) (by rfl) | exact Sep.lds4 (by assumption) (by rfl) | exact Sep.lds5 (by assumption) (by rfl) | exact Sep.lds6 (by assumption) (by rfl) | exact Sep.lds7 (by assumption) (by rfl) | exact Sep.lds8 (by assumption) (by rfl) | exact Sep.lds9 (by assumption) (by rfl)), ?_⟩)
    | (refine ⟨_, _, _, _, _, _, _, _, _, _, _, _, (by first | exact Sep.lds0 (by assumption) (by rfl) | exact Sep.lds1 (by assumption) (by rfl) | exact Sep.lds2 (by assumption) (by rfl) | exact Sep.lds3 (by assumption) (by rfl) | exact Sep.lds4 (by assumption) (by rfl) | exact Sep.lds5 (by assumption) (by rfl) | exact Sep.lds6 (by assumption) (by rfl) | exact Sep.lds7 (by assumption) (by rfl) | exact Sep.lds8 (by assumption) (by rfl) | exact Sep.lds9 (by assumption) (by rfl)), ?_⟩)
    | (first | refine Sep.st0 (by assumption) (Nat.le_of_ble_eq_true (by rfl)) fun _ _ => ?_ | refine Sep.st1 (by assumption) (Nat.le_of_ble_eq_true (by rfl)) fun _ _ => ?_ | refine Sep.st2 (by assumption) (Nat.le_of_ble_eq_true (by rfl)) fun _ _ => ?_ | refine Sep.st3 (by assumption) (Nat.le_of_ble_eq_true (by rfl)) fun _ _ => ?_ | refine Sep.st4 (by assumption) (Nat.le_of_ble_eq_true (by rfl)) fun _ _ => ?_ | refine Sep.st5 (by assumption) (Nat.le_of_ble_eq_true (by rfl)) fun _ _ => ?_ | refine Sep.st6 (by assumption) (Nat.le_of_ble_eq_true (by rfl)) fun _ _ => ?_ | refine Sep.st7 (by assumption) (Nat.le_of_ble_eq_true (by rfl)) fun _ _ => ?_ | refine Sep.st8 (by assumption) (Nat.le_of_ble_eq_true (by rfl)) fun _ _ => ?_ | refine Sep.st9 (by assumption) (Nat.le_of_ble_eq_true (by rfl)) fun _ _ => ?_)
    | (refine ⟨(by unfold nz; decide), ?_⟩)
    | (refine cond_of (fun hc => ?_) fun hc => ?_ <;> (simp only [hc, cond_true, cond_false] at hR))
    | fail
  all_goals exact hR _ (Sep.tail (Sep.tail (by assumption)))
set_option maxHeartbeats 4000000 in
theorem docFind_s {op : Int} (h : Sep H L) (hR : ∀ H', Sep H' L → R (docFind op).val H') : CA en F.crossbarref02_Find [I op] H R := by
  apply vc_crossbarref02_Find
  unfold docFind memRow at hR
  repeat' first
    | (refine Sep.nw (by assumption) fun _ _ _ => ?_)
    | (refine asRow_in ?_)
    | (refine asAddr_in ?_)
    | (refine ⟨_, rfl, ?_⟩)
    | (refine ⟨_, _, rfl, ?_⟩)
    | (refine ⟨_, _, _, rfl, ?_⟩)
    | (refine ⟨_, _, _, _, rfl, ?_⟩)
    | (refine ⟨_, _, _, _, _, rfl, ?_⟩)
    | (refine ⟨_, _, _, _, _, _, rfl, ?_⟩)
    | (refine ⟨_, _, _, _, _, _, _, rfl, ?_⟩)
    | (refine ⟨_, _, _, _, _, _, _, _, rfl, ?_⟩)
    | (refine ⟨_, _, _, _, _, _, _, _, _, rfl, ?_⟩)
    | (refine ⟨_, _, _, _, _, _, _, _, _, _, rfl, ?_⟩)
    | (refine ⟨_, (by first | exact Sep.ld0 (by assumption) (by rfl) | exact Sep.ld1 (by assumption) (by rfl) | exact Sep.ld2 (by assumption) (by rfl) | exact Sep.ld3 (by assumption) (by rfl) | exact Sep.ld4 (by assumption) (by rfl) | exact Sep.ld5 (by assumption) (by rfl) | exact Sep.ld6 (by assumption) (by rfl) | exact Sep.ld7 (by assumption) (by rfl) | exact Sep.ld8 (by assumption) (by rfl) | exact Sep.ld9 (by assumption) (by rfl) | exact Sep.lds0 (by assumption) (by rfl) | exact Sep.lds1 (by assumption) (by rfl) | exact Sep.lds2 (by assumption) (by rfl) | exact Sep.lds3 (by assumption) (by rfl) | exact Sep.lds4 (by assumption) (by rfl) | exact Sep.lds5 (by assumption) (by rfl) | exact Sep.lds6 (by assumption) (by rfl) | exact Sep.lds7 (by assumption) (by rfl) | exact Sep.lds8 (by assumption) (by rfl) | exact Sep.lds9 (by assumption) (by rfl)), ?_⟩)
    | (refine ⟨_, _, (by first | exact Sep.lds0 (by assumption) (by rfl) | exact Sep.lds1 (by assumption) (by rfl) | exact Sep.lds2 (by assumption) (by rfl) | exact Sep.lds3 (by assumption) (by rfl) | exact Sep.lds4 (by assumption) (by rfl) | exact Sep.lds5 (by assumption) (by rfl) | exact Sep.lds6 (by assumption) (by rfl) | exact Sep.lds7 (by assumption) (by rfl) | exact Sep.lds8 (by assumption) (by rfl) | exact Sep.lds9 (by assumption) (by rfl)), ?_⟩)
    | (refine ⟨_, _, _, (by first | exact Sep.lds0 (by assumption) (by rfl) | exact Sep.lds1 (by assumption) (by rfl) | exact Sep.lds2 (by assumption) (by rfl) | exact Sep.lds3 (by assumption) (by rfl) | exact Sep.lds4 (by assumption) (by rfl) | exact Sep.lds5 (by assumption) (by rfl) | exact Sep.lds6 (by assumption) (by rfl) | exact Sep.lds7 (by assumption) (by rfl) | exact Sep.lds8 (by assumption) (by rfl) | exact Sep.lds9 (by assumption) (by rfl)), ?_⟩)
    | (refine ⟨_, _, _, _, (by first | exact Sep.lds0 (by assumption) (by rfl) | exact Sep.lds1 (by assumption) (by rfl) | exact Sep.lds2 (by assumption) (by rfl) | exact Sep.lds3 (by assumption) (by rfl) | exact Sep.lds4 (by assumption) (by rfl) | exact Sep.lds5 (by assumption) (by rfl) | exact Sep.lds6 (by assumption) (by rfl) | exact Sep.lds7 (by assumption) (by rfl) | exact Sep.lds8 (by assumption) (by rfl) | exact Sep.lds9 (by assumption) (by rfl)), ?_⟩)
    | (refine ⟨_, _, _, _, _, (by first | exact Sep.lds0 (by assumption) (by rfl) | exact Sep.lds1 (by assumption) (by rfl) | exact Sep.lds2 (by assumption) (by rfl) | exact Sep.lds3 (by assumption) (by rfl) | exact Sep.lds4 (by assumption) (by rfl) | exact Sep.lds5 (by assumption) (by rfl) | exact Sep.lds6 (by assumption) (by rfl) | exact Sep.lds7 (by assumption) (by rfl) | exact Sep.lds8 (by assumption) (by rfl) | exact Sep.lds9 (by assumption) (by rfl)), ?_⟩)
    | (refine ⟨_, _, _, _, _, _, (by first | exact Sep.lds0 (by assumption) (by rfl) | exact Sep.lds1 (by assumption) (by rfl) | exact Sep.lds2 (by assumption) (by rfl) | exact Sep.lds3 (by assumption) (by rfl) | exact Sep.lds4 (by assumption) (by rfl) | exact Sep.lds5 (by assumption) (by rfl) | exact Sep.lds6 (by assumption) (by rfl) | exact Sep.lds7 (by assumption) (by rfl) | exact Sep.lds8 (by assumption) (by rfl) | exact Sep.lds9 (by assumption) (by rfl)), ?_⟩)
    | (refine ⟨_, _, _, _, _, _, _, (by first | exact Sep.lds0 (by assumption) (by rfl) | exact Sep.lds1 (by assumption) (by rfl) | exact Sep.lds2 (by assumption) (by rfl) | exact Sep.lds3 (by assumption) (by rfl) | exact Sep.lds4 (by assumption) (by rfl) | exact Sep.lds5 (by assumption) (by rfl) | exact Sep.lds6 (by assumption) (by rfl) | exact Sep.lds7 (by assumption) (by rfl) | exact Sep.lds8 (by assumption) (by rfl) | exact Sep.lds9 (by assumption) (by rfl)), ?_⟩)
    | (refine ⟨_, _, _, _, _, _, _, _, (by first | exact Sep.lds0 (by assumption) (by rfl) | exact Sep.lds1 (by assumption) (by rfl) | exact Sep.lds2 (by assumption) (by rfl) | exact Sep.lds3 (by assumption) (by rfl) | exact Sep.lds4 (by assumption) (by rfl) | exact Sep.lds5 (by assumption) (by rfl) | exact Sep.lds6 (by assumption) (by rfl) | exact Sep.lds7 (by assumption) (by rfl) | exact Sep.lds8 (by assumption) (by rfl) | exact Sep.lds9 (by assumption) (by rfl)), ?_⟩)
    | (refine ⟨_, _, _, _, _, _, _, _, _, (by first | exact Sep.lds0 (by assumption) (by rfl) | exact Sep.lds1 (by assumption) (by rfl) | exact Sep.lds2 (by assumption) (by rfl) | exact Sep.lds3 (by assumption) (by rfl) | exact Sep.lds4 (by assumption) (by rfl) | exact Sep.lds5 (by assumption) (by rfl) | exact Sep.lds6 (by assumption) (by rfl) | exact Sep.lds7 (by assumption) (by rfl) | exact Sep.lds8 (by assumption) (by rfl) | exact Sep.lds9 (by assumption) (by rfl)), ?_⟩)
    | (refine ⟨_, _, _, _, _, _, _, _, _, _, (by first | exact Sep.lds0 (by assumption) (by rfl) | exact Sep.lds1 (by assumption) (by rfl) | exact Sep.lds2 (by assumption) (by rfl) | exact Sep.lds3 (by assumption) (by rfl) | exact Sep.lds4 (by assumption) (by rfl) | exact Sep.lds5 (by assumption) (by rfl) | exact Sep.lds6 (by assumption) (by rfl) | exact Sep.lds7 (by assumption) (by rfl) | exact Sep.lds8 (by assumption) (by rfl) | exact Sep.lds9 (by assumption) (by rfl)), ?_⟩)
    | (refine ⟨_, _, _, _, _, _, _, _, _, _, _, (by first | exact Sep.lds0 (by assumption) (by rfl) | exact Sep.lds1 (by assumption) (by rfl) | exact Sep.lds2 (by assumption) (by rfl) | exact Sep.lds3 (by assumption) (by rfl) | exact Sep.lds4 (by assumption) (by rfl) | exact Sep.lds5 (by assumption) (by rfl) | exact Sep.lds6 (by assumption) (by rfl) | exact Sep.lds7 (by assumption) (by rfl) | exact Sep.lds8 (by assumption) (by rfl) | exact Sep.lds9 (by assumption) (by rfl)), ?_⟩)
    | (refine ⟨_, _, _, _, _, _, _, _, _, _, _, _, (by first | exact Sep.lds0 (by assumption) (by rfl) | exact Sep.lds1 (by assumption) (by rfl) | exact Sep.lds2 (by assumption) (by rfl) | exact Sep.lds3 (by assumption) (by rfl) | exact Sep.lds4 (by assumption) (by rfl) | exact Sep.lds5 (by assumption) (by rfl) | exact Sep.lds6 (by assumption) (by rfl) | exact Sep.lds7 (by assumption) (by rfl) | exact Sep.lds8 (by assumption) (by rfl) | exact Sep.lds9 (by assumption) (by rfl)), ?_⟩)
    | (first | refine Sep.st0 (by assumption) (Nat.le_of_ble_eq_true (by rfl)) fun _ _ => ?_ | refine Sep.st1 (by assumption) (Nat.le_of_ble_eq_true (by rfl)) fun _ _ => ?_ | refine Sep.st2 (by assumption) (Nat.le_of_ble_eq_true (by rfl)) fun _ _ => ?_ | refine Sep.st3 (by assumption) (Nat.le_of_ble_eq_true (by rfl)) fun _ _ => ?_ | refine Sep.st4 (by assumption) (Nat.le_of_ble_eq_true (by rfl)) fun _ _ => ?_ | refine Sep.st5 (by assumption) (Nat.le_of_ble_eq_true (by rfl)) fun _ _ => ?_ | refine Sep.st6 (by assumption) (Nat.le_of_ble_eq_true (by rfl)) fun _ _ => ?_ | refine Sep.st7 (by assumption) (Nat.le_of_ble_eq_true (by rfl)) fun _ _ => ?_ | refine Sep.st8 (by assumption) (Nat.le_of_ble_eq_true (by rfl)) fun _ _ => ?_ | refine Sep.st9 (by assumption) (Nat.le_of_ble_eq_true (by rfl)) fun _ _ => ?_)
    | (refine docAlu_s (by assumption) fun _ _ => ?_)
    | (refine docJmp_s (by assumption) fun _ _ => ?_)
    | (refine ⟨(by unfold nz; decide), ?_⟩)
    | (refine cond_of (fun hc => ?_) fun hc => ?_ <;> (simp only [hc, cond_true, cond_false] at hR))
    | fail
  all_goals first | exact hR _ (Sep.tail (Sep.tail (by assumption))) | exact hR _ (Sep.tail (by assumption))

def atomicOp (op : Int) : Bool := op = 195 ∨ op = 219
def rangedB (x : Ins) (lo hi : Int) : Bool :=
  decide (lo ≤ x.imm) && decide (x.imm ≤ hi) && (if x.op = 195 ∨ x.op = 219 then isAtom x.imm else if x.op = 212 ∨ x.op = 220 then decide (x.imm = 16 ∨ x.imm = 32 ∨ x.imm = 64) else decide (x.op ≠ 24 ∨ x.src = 0 ∨ 0 ≤ x.imm ∧ x.imm ≤ 2147483647))

set_option maxHeartbeats 4000000 in
theorem ranged_s {x : Ins} {d : DR} (h : Sep H L) (hR : ∀ H', Sep H' L → R (.bool (rangedB x d.2.2.2.1 d.2.2.2.2)) H') : CA en F.crossbarref02_ranged [x.val, d.val] H R := by
  apply vc_crossbarref02_ranged
  repeat' first
    | (refine Sep.nw (by assumption) fun _ _ _ => ?_)
    | (refine asRow_in ?_)
    | (refine asAddr_in ?_)
    | (refine ⟨_, rfl, ?_⟩)
    | (refine ⟨_, _, rfl, ?_⟩)
    | (refine ⟨_, _, _, rfl, ?_⟩)
    | (refine ⟨_, _, _, _, rfl, ?_⟩)
    | (refine ⟨_, _, _, _, _, rfl, ?_⟩)
    | (refine ⟨_, _, _, _, _, _, rfl, ?_⟩)
    | (refine ⟨_, _, _, _, _, _, _, rfl, ?_⟩)
    | (refine ⟨_, _, _, _, _, _, _, _, rfl, ?_⟩)
    | (refine ⟨_, _, _, _, _, _, _, _, _, rfl, ?_⟩)
    | (refine ⟨_, _, _, _, _, _, _, _, _, _, rfl, ?_⟩)
    | (refine ⟨_, (by first | exact Sep.ld0 (by assumption) (by rfl) | exact Sep.ld1 (by assumption) (by rfl) | exact Sep.ld2 (by assumption) (by rfl) | exact Sep.ld3 (by assumption) (by rfl) | exact Sep.ld4 (by assumption) (by rfl) | exact Sep.ld5 (by assumption) (by rfl) | exact Sep.ld6 (by assumption) (by rfl) | exact Sep.ld7 (by assumption) (by rfl) | exact Sep.ld8 (by assumption) (by rfl) | exact Sep.ld9 (by assumption) (by rfl) | exact Sep.lds0 (by assumption) (by rfl) | exact Sep.lds1 (by assumption) (by rfl) | exact Sep.lds2 (by assumption) (by rfl) | exact Sep.lds3 (by assumption) (by rfl) | exact Sep.lds4 (by assumption) (by rfl) | exact Sep.lds5 (by assumption) (by rfl) | exact Sep.lds6 (by assumption) (by rfl) | exact Sep.lds7 (by assumption) (by rfl) | exact Sep.lds8 (by assumption) (by rfl) | exact Sep.lds9 (by assumption) (by rfl)), ?_⟩)
    | (refine ⟨_, _, (by first | exact Sep.lds0 (by assumption) (by rfl) | exact Sep.lds1 (by assumption) (by rfl) | exact Sep.lds2 (by assumption) (by rfl) | exact Sep.lds3 (by assumption) (by rfl) | exact Sep.lds4 (by assumption) (by rfl) | exact Sep.lds5 (by assumption) (by rfl) | exact Sep.lds6 (by assumption) (by rfl) | exact Sep.lds7 (by assumption) (by rfl) | exact Sep.lds8 (by assumption) (by rfl) | exact Sep.lds9 (by assumption) (by rfl)), ?_⟩)
    | (refine ⟨_, _, _, (by first | exact Sep.lds0 (by assumption) (by rfl) | exact Sep.lds1 (by assumption) (by rfl) | exact Sep.lds2 (by assumption) (by rfl) | exact Sep.lds3 (by assumption) (by rfl) | exact Sep.lds4 (by assumption) (by rfl) | exact Sep.lds5 (by assumption) (by rfl) | exact Sep.lds6 (by assumption) (by rfl) | exact Sep.lds7 (by assumption) (by rfl) | exact Sep.lds8 (by assumption) (by rfl) | exact Sep.lds9 (by assumption) (by rfl)), ?_⟩)
    | (refine ⟨_, _, _, _, (by first | exact Sep.lds0 (by assumption) (by rfl) | exact Sep.lds1 (by assumption) (by rfl) | exact Sep.lds2 (by assumption) (by rfl) | exact Sep.lds3 (by assumption) (by rfl) | exact Sep.lds4 (by assumption) (by rfl) | exact Sep.lds5 (by assumption) (by rfl) | exact Sep.lds6 (by assumption) (by rfl) | exact Sep.lds7 (by assumption) (by rfl) | exact Sep.lds8 (by assumption) (by rfl) | exact Sep.lds9 (by assumption) (by rfl)), ?_⟩)
    | (refine ⟨_, _, _, _, _, (by first | exact Sep.lds0 (by assumption) (by rfl) | exact Sep.lds1 (by assumption) (by rfl) | exact Sep.lds2 (by assumption) (by rfl) | exact Sep.lds3 (by assumption) (by rfl) | exact Sep.lds4 (by assumption) (by rfl) | exact Sep.lds5 (by assumption) (by rfl) | exact Sep.lds6 (by assumption) (by rfl) | exact Sep.lds7 (by assumption) (by rfl) | exact Sep.lds8 (by assumption) (by rfl) | exact Sep.lds9 (by assumption) (by rfl)), ?_⟩)
    | (refine ⟨_, _, _, _, _, _, (by first | exact Sep.lds0 (by assumption) (by rfl) | exact Sep.lds1 (by assumption) (by rfl) | exact Sep.lds2 (by assumption) (by rfl) | exact Sep.lds3 (by assumption) (by rfl) | exact Sep.lds4 (by assumption) (by rfl) | exact Sep.lds5 (by assumption) (by rfl) | exact Sep.lds6 (by assumption) (by rfl) | exact Sep.lds7 (by assumption) (by rfl) | exact Sep.lds8 (by assumption) (by rfl) | exact Sep.lds9 (by assumption) (by rfl)), ?_⟩)
    | (refine ⟨_, _, _, _, _, _, _, (by first | exact Sep.lds0 (by assumption) (by rfl) | exact Sep.lds1 (by assumption) (by rfl) | exact Sep.lds2 (by assumption) (by rfl) | exact Sep.lds3 (by assumption) (by rfl) | exact Sep.lds4 (by assumption) (by rfl) | exact Sep.lds5 (by assumption) (by rfl) | exact Sep.lds6 (by assumption) (by rfl) | exact Sep.lds7 (by assumption) (by rfl) | exact Sep.lds8 (by assumption) (by rfl) | exact Sep.lds9 (by assumption) (by rfl)), ?_⟩)
    | (refine ⟨_, _, _, _, _, _, _, _, (by first | exact Sep.lds0 (by assumption) (by rfl) | exact Sep.lds1 (by assumption) (by rfl) | exact Sep.lds2 (by assumption) (by rfl) | exact Sep.lds3 (by assumption) (by rfl) | exact Sep.lds4 (by assumption) (by rfl) | exact Sep.lds5 (by assumption) (by rfl) | exact Sep.lds6 (by assumption) (by rfl) | exact Sep.lds7 (by assumption) (by rfl) | exact Sep.lds8 (by assumption) (by rfl) | exact Sep.lds9 (by assumption) (by rfl)), ?_⟩)
    | (refine ⟨_, _, _, _, _, _, _, _, _, (by first | exact Sep.lds0 (by assumption) (by rfl) | exact Sep.lds1 (by assumption) (by rfl) | exact Sep.lds2 (by assumption) (by rfl) | exact Sep.lds3 (by assumption) (by rfl) | exact Sep.lds4 (by assumption) (by rfl) | exact Sep.lds5 (by assumption) (by rfl) | exact Sep.lds6 (by assumption) (by rfl) | exact Sep.lds7 (by assumption) (by rfl) | exact Sep.lds8 (by assumption) (by rfl) | exact Sep.lds9 (by assumption) (by rfl)), ?_⟩)
    | (refine ⟨_, _, _, _, _, _, _, _, _, _, (by first | exact Sep.lds0 (by assumption) (by rfl) | exact Sep.lds1 (by assumption) (by rfl) | exact Sep.lds2 (by assumption) (by rfl) | exact Sep.lds3 (by assumption) (by rfl) | exact Sep.lds4 (by assumption) (by rfl) | exact Sep.lds5 (by assumption) (by rfl) | exact Sep.lds6 (by assumption) (by rfl) | exact Sep.lds7 (by assumption) (by rfl) | exact Sep.lds8 (by assumption) (by rfl) | exact Sep.lds9 (by assumption) (by rfl)), ?_⟩)
    | (refine ⟨_, _, _, _, _, _, _, _, _, _, _, (by first | exact Sep.lds0 (by assumption) (by rfl) | exact Sep.lds1 (by assumption) (by rfl) | exact Sep.lds2 (by assumption) (by rfl) | exact Sep.lds3 (by assumption) (by rfl) | exact Sep.lds4 (by assumption) (by rfl) | exact Sep.lds5 (by assumption) (by rfl) | exact Sep.lds6 (by assumption) (by rfl) | exact Sep.lds7 (by assumption) (by rfl) | exact Sep.lds8 (by assumption) (by rfl) | exact Sep.lds9 (by assumption) (by rfl)), ?_⟩)
    | (refine ⟨_, _, _, _, _, _, _, _, _, _, _, _, (by first | exact Sep.lds0 (by assumption) (by rfl) | exact Sep.lds1 (by assumption) (by rfl) | exact Sep.lds2 (by assumption) (by rfl) | exact Sep.lds3 (by assumption) (by rfl) | exact Sep.lds4 (by assumption) (by rfl) | exact Sep.lds5 (by assumption) (by rfl) | exact Sep.lds6 (by assumption) (by rfl) | exact Sep.lds7 (by assumption) (by rfl) | exact Sep.lds8 (by assumption) (by rfl) | exact Sep.lds9 (by assumption) (by rfl)), ?_⟩)
    | (first | refine Sep.st0 (by assumption) (Nat.le_of_ble_eq_true (by rfl)) fun _ _ => ?_ | refine Sep.st1 (by assumption) (Nat.le_of_ble_eq_true (by rfl)) fun _ _ => ?_ | refine Sep.st2 (by assumption) (Nat.le_of_ble_eq_true (by rfl)) fun _ _ => ?_ | refine Sep.st3 (by assumption) (Nat.le_of_ble_eq_true (by rfl)) fun _ _ => ?_ | refine Sep.st4 (by assumption) (Nat.le_of_ble_eq_true (by rfl)) fun _ _ => ?_ | refine Sep.st5 (by assumption) (Nat.le_of_ble_eq_true (by rfl)) fun _ _ => ?_ | refine Sep.st6 (by assumption) (Nat.le_of_ble_eq_true (by rfl)) fun _ _ => ?_ | refine Sep.st7 (by assumption) (Nat.le_of_ble_eq_true (by rfl)) fun _ _ => ?_ | refine Sep.st8 (by assumption) (Nat.le_of_ble_eq_true (by rfl)) fun _ _ => ?_ | refine Sep.st9 (by assumption) (Nat.le_of_ble_eq_true (by rfl)) fun _ _ => ?_)
    | (refine refAtomic_s ?_)
    | (refine cond_of (fun hc => ?_) fun hc => ?_)
    | fail
  all_goals
    have hr := hR _ (Sep.tail (Sep.tail (by assumption)))
    unfold rangedB at hr
    simp only [decide_eq_true_eq, decide_eq_false_iff_not, beq_iff_eq, beq_eq_false_iff_ne, bne_iff_ne, bne_eq_false_iff_eq] at *
    first
      | (simp_all; done)
      | (have e1 : d.2.2.2.1 ≤ x.imm := by omega
         have e2 : x.imm ≤ d.2.2.2.2 := by omega
         rw [decide_eq_true e1, decide_eq_true e2] at hr
         simp_all; done)
      | (have e1 : d.2.2.2.1 ≤ x.imm := by omega
         have e2 : x.imm ≤ d.2.2.2.2 := by omega
         rw [decide_eq_true e1, decide_eq_true e2] at hr
         have e5 : (x.imm == 64) = decide (x.imm = 16 ∨ x.imm = 32 ∨ x.imm = 64) := by
           rw [Bool.eq_iff_iff]; simp only [beq_iff_eq, decide_eq_true_eq]; omega
         rw [e5]
         simp_all; done)
      | (have e1 : ¬ d.2.2.2.1 ≤ x.imm := by omega
         rw [decide_eq_false e1] at hr
         simp_all; done)
      | (have e2 : ¬ x.imm ≤ d.2.2.2.2 := by omega
         rw [decide_eq_false e2] at hr
         simp_all; done)

theorem vb {a b : Bool} (h : a = b) : [Value.bool a] = [Value.bool b] := by rw [h]
structure JB (b : Bool) (LL : List Asr) (vs : List Value) (H : Heap) : Prop where
  e : vs = [.bool b]
  s : Sep H LL

theorem only_ok {op : Int} {r : Rw} (h : refRow op = some r) : (r.only = 3 ↔ op = 195 ∨ op = 219) ∧ (r.only = 1 ↔ op = 212 ∨ op = 220) ∧ (r.only = 2 ↔ op = 24) ∧ r.only < 4 := by
  obtain ⟨h0, h1, _⟩ := row_bd h
  have all : ∀ j : Fin 256, (match refRow ((j : Nat) : Int) with | none => true | some r => decide ((r.only = 3 ↔ ((j : Nat) : Int) = 195 ∨ ((j : Nat) : Int) = 219) ∧ (r.only = 1 ↔ ((j : Nat) : Int) = 212 ∨ ((j : Nat) : Int) = 220) ∧ (r.only = 2 ↔ ((j : Nat) : Int) = 24) ∧ r.only < 4)) = true := by decide +kernel
  obtain ⟨n, rfl⟩ := Int.eq_ofNat_of_zero_le h0
  have := all ⟨n, by omega⟩
  simp only [h, decide_eq_true_eq] at this
  exact this
theorem ranged_only {x : Ins} {r : Rw} (h : refRow x.op = some r) : rangedB x r.low r.high = decide (¬ (x.imm < r.low ∨ x.imm > r.high ∨ onlyI r.only x = false)) := by
  obtain ⟨h1, h2, h3, h4⟩ := only_ok h
  unfold rangedB onlyI
  rw [Bool.eq_iff_iff]
  by_cases e3 : r.only = 3
  · have := h1.1 e3
    have n1 : r.only ≠ 0 := by omega
    have n2 : r.only ≠ 1 := by omega
    have n3 : r.only ≠ 2 := by omega
    rw [if_pos this, if_neg n1, if_neg n2, if_neg n3]
    simp only [Bool.and_eq_true, decide_eq_true_eq, not_or, Bool.not_eq_false]
    constructor
    · rintro ⟨⟨a, b⟩, c⟩; exact ⟨by omega, by omega, c⟩
    · rintro ⟨a, b, c⟩; exact ⟨⟨by omega, by omega⟩, c⟩
  · have e3' : ¬ (x.op = 195 ∨ x.op = 219) := fun h => e3 (h1.2 h)
    rw [if_neg e3']
    by_cases e1 : r.only = 1
    · have := h2.1 e1
      rw [if_pos this, if_neg (by omega : r.only ≠ 0), if_pos e1]
      simp only [Bool.and_eq_true, decide_eq_true_eq, not_or, Bool.not_eq_false]
      constructor
      · rintro ⟨⟨a, b⟩, c⟩; exact ⟨by omega, by omega, c⟩
      · rintro ⟨a, b, c⟩; exact ⟨⟨by omega, by omega⟩, c⟩
    · have e1' : ¬ (x.op = 212 ∨ x.op = 220) := fun h => e1 (h2.2 h)
      rw [if_neg e1']
      by_cases e2 : r.only = 2
      · have := h3.1 e2
        rw [if_neg (by omega : r.only ≠ 0), if_neg e1, if_pos e2]
        simp only [Bool.and_eq_true, decide_eq_true_eq, not_or, Bool.not_eq_false]
        constructor
        · rintro ⟨⟨a, b⟩, c⟩; exact ⟨by omega, by omega, c.resolve_left (fun h => h this)⟩
        · rintro ⟨a, b, c⟩; exact ⟨⟨by omega, by omega⟩, .inr c⟩
      · have e2' : ¬ x.op = 24 := fun h => e2 (h3.2 h)
        rw [if_pos (by omega : r.only = 0)]
        simp only [Bool.and_eq_true, decide_eq_true_eq, not_or, Bool.not_eq_false]
        constructor
        · rintro ⟨⟨a, b⟩, c⟩; exact ⟨by omega, by omega, trivial⟩
        · rintro ⟨a, b, c⟩; exact ⟨⟨by omega, by omega⟩, .inl e2'⟩

set_option maxHeartbeats 8000000 in
theorem docCheck_s {x : Ins} (h : Sep H L) (hR : ∀ H', Sep H' L → R (I (chkI x)) H') : CA en F.crossbarref02_Check [x.val] H R := by
  apply vc_crossbarref02_Check
  obtain ⟨rk, hsz⟩ := find_ok x.op
  refine Sep.nw h fun i1 H2 h2 => ⟨_, Sep.ld0 h2 rfl, docFind_s h2 fun H5 h5 => ⟨_, _, _, _, _, rfl, Sep.nw h5 fun i11 H12 h12 => Sep.st0 h12 (Nat.le_of_ble_eq_true rfl) fun H13 h13 => ⟨_, Sep.ld0 h13 rfl, ?_⟩⟩⟩
  generalize docFind x.op = d at *
  unfold rowOk at rk
  cases hr : refRow x.op with
  | none =>
    rw [hr] at rk
    have e : chkI x = 7 := by unfold chkI; rw [hr]
    rw [e] at hR
    exact cond_yes rk (hR _ h13.tail.tail)
  | some r =>
    rw [hr] at rk
    simp only [Bool.and_eq_true, beq_iff_eq] at rk
    obtain ⟨⟨⟨⟨⟨⟨⟨k1, k2⟩, k3⟩, k4⟩, k5⟩, k6⟩, k7⟩, k8⟩ := rk
    obtain ⟨d1, d2, d3, d4, d5⟩ := d
    simp only at k1 k2 k3 k4 k5 k6 k7 k8 hsz
    subst k1 k6 k7 k8
    have e := ranged_only hr
    unfold chkI at hR
    rw [hr] at hR
    simp only at hR
    refine cond_no rfl ⟨_, Sep.ld1 h13 rfl, refAtomic_s ⟨_, _, rfl, ?_⟩⟩
    refine ⟨JB (decide (x.op = 195 ∨ x.op = 219)) (bx i11 (.cells true 0 [.bool true, .string d2, .bool r.wr, I r.low, I r.high]) :: bx i1 (.cells true 0 x.cells) :: L), ?_, ?_⟩
    · repeat' first
        | (refine Sep.nw (by assumption) fun _ _ _ => ?_)
        | (refine asRow_in ?_)
        | (refine asAddr_in ?_)
        | (refine ⟨_, rfl, ?_⟩)
        | (refine ⟨_, _, rfl, ?_⟩)
        | (refine ⟨_, _, _, rfl, ?_⟩)
        | (refine ⟨_, _, _, _, rfl, ?_⟩)
        | (refine ⟨_, _, _, _, _, rfl, ?_⟩)
        | (refine ⟨_, _, _, _, _, _, rfl, ?_⟩)
        | (refine ⟨_, _, _, _, _, _, _, rfl, ?_⟩)
        | (refine ⟨_, _, _, _, _, _, _, _, rfl, ?_⟩)
        | (refine ⟨_, _, _, _, _, _, _, _, _, rfl, ?_⟩)
        | (refine ⟨_, _, _, _, _, _, _, _, _, _, rfl, ?_⟩)
        | (refine ⟨_, (by first | exact Sep.ld0 (by assumption) (by rfl) | exact Sep.ld1 (by assumption) (by rfl) | exact Sep.ld2 (by assumption) (by rfl) | exact Sep.ld3 (by assumption) (by rfl) | exact Sep.ld4 (by assumption) (by rfl) | exact Sep.ld5 (by assumption) (by rfl) | exact Sep.ld6 (by assumption) (by rfl) | exact Sep.ld7 (by assumption) (by rfl) | exact Sep.ld8 (by assumption) (by rfl) | exact Sep.ld9 (by assumption) (by rfl) | exact Sep.lds0 (by assumption) (by rfl) | exact Sep.lds1 (by assumption) (by rfl) | exact Sep.lds2 (by assumption) (by rfl) | exact Sep.lds3 (by assumption) (by rfl) | exact Sep.lds4 (by assumption) (by rfl) | exact Sep.lds5 (by assumption) (by rfl) | exact Sep.lds6 (by assumption) (by rfl) | exact Sep.lds7 (by assumption) (by rfl) | exact Sep.lds8 (by assumption) (by rfl) | exact Sep.lds9 (by assumption) (by rfl)), ?_⟩)
        | (refine ⟨_, _, (by first | exact Sep.lds0 (by assumption) (by rfl) | exact Sep.lds1 (by assumption) (by rfl) | exact Sep.lds2 (by assumption) (by rfl) | exact Sep.lds3 (by assumption) (by rfl) | exact Sep.lds4 (by assumption) (by rfl) | exact Sep.lds5 (by assumption) (by rfl) | exact Sep.lds6 (by assumption) (by rfl) | exact Sep.lds7 (by assumption) (by rfl) | exact Sep.lds8 (by assumption) (by rfl) | exact Sep.lds9 (by assumption) (by rfl)), ?_⟩)
        | (refine ⟨_, _, _, (by first | exact Sep.lds0 (by assumption) (by rfl) | exact Sep.lds1 (by assumption) (by rfl) | exact Sep.lds2 (by assumption) (by rfl) | exact Sep.lds3 (by assumption) (by rfl) | exact Sep.lds4 (by assumption) (by rfl) | exact Sep.lds5 (by assumption) (by rfl) | exact Sep.lds6 (by assumption) (by rfl) | exact Sep.lds7 (by assumption) (by rfl) | exact Sep.lds8 (by assumption) (by rfl) | exact Sep.lds9 (by assumption) (by rfl)), ?_⟩)
        | (refine ⟨_, _, _, _, (by first | exact Sep.lds0 (by assumption) (by rfl) | exact Sep.lds1 (by assumption) (by rfl) | exact Sep.lds2 (by assumption) (by rfl) | exact Sep.lds3 (by assumption) (by rfl) | exact Sep.lds4 (by assumption) (by rfl) | exact Sep.lds5 (by assumption) (by rfl) | exact Sep.lds6 (by assumption) (by rfl) | exact Sep.lds7 (by assumption) (by rfl) | exact Sep.lds8 (by assumption) (by rfl) | exact Sep.lds9 (by assumption) (by rfl)), ?_⟩)
        | (refine ⟨_, _, _, _, _, (by first | exact Sep.lds0 (by assumption) (by rfl) | exact Sep.lds1 (by assumption) (by rfl) | exact Sep.lds2 (by assumption) (by rfl) | exact Sep.lds3 (by assumption) (by rfl) | exact Sep.lds4 (by assumption) (by rfl) | exact Sep.lds5 (by assumption) (by rfl) | exact Sep.lds6 (by assumption) (by rfl) | exact Sep.lds7 (by assumption) (by rfl) | exact Sep.lds8 (by assumption) (by rfl) | exact Sep.lds9 (by assumption) (by rfl)), ?_⟩)
        | (refine ⟨_, _, _, _, _, _, (by first | exact Sep.lds0 (by assumption) (by rfl) | exact Sep.lds1 (by assumption) (by rfl) | exact Sep.lds2 (by assumption) (by rfl) | exact Sep.lds3 (by assumption) (by rfl) | exact Sep.lds4 (by assumption) (by rfl) | exact Sep.lds5 (by assumption) (by rfl) | exact Sep.lds6 (by assumption) (by rfl) | exact Sep.lds7 (by assumption) (by rfl) | exact Sep.lds8 (by assumption) (by rfl) | exact Sep.lds9 (by assumption) (by rfl)), ?_⟩)
        | (refine ⟨_, _, _, _, _, _, _, (by first | exact Sep.lds0 (by assumption) (by rfl) | exact Sep.lds1 (by assumption) (by rfl) | exact Sep.lds2 (by assumption) (by rfl) | exact Sep.lds3 (by assumption) (by rfl) | exact Sep.lds4 (by assumption) (by rfl) | exact Sep.lds5 (by assumption) (by rfl) | exact Sep.lds6 (by assumption) (by rfl) | exact Sep.lds7 (by assumption) (by rfl) | exact Sep.lds8 (by assumption) (by rfl) | exact Sep.lds9 (by assumption) (by rfl)), ?_⟩)
        | (refine ⟨_, _, _, _, _, _, _, _, (by first | exact Sep.lds0 (by assumption) (by rfl) | exact Sep.lds1 (by assumption) (by rfl) | exact Sep.lds2 (by assumption) (by rfl) | exact Sep.lds3 (by assumption) (by rfl) | exact Sep.lds4 (by assumption) (by rfl) | exact Sep.lds5 (by assumption) (by rfl) | exact Sep.lds6 (by assumption) (by rfl) | exact Sep.lds7 (by assumption) (by rfl) | exact Sep.lds8 (by assumption) (by rfl) | exact Sep.lds9 (by assumption) (by rfl)), ?_⟩)
        | (refine ⟨_, _, _, _, _, _, _, _, _, (by first | exact Sep.lds0 (by assumption) (by rfl) | exact Sep.lds1 (by assumption) (by rfl) | exact Sep.lds2 (by assumption) (by rfl) | exact Sep.lds3 (by assumption) (by rfl) | exact Sep.lds4 (by assumption) (by rfl) | exact Sep.lds5 (by assumption) (by rfl) | exact Sep.lds6 (by assumption) (by rfl) | exact Sep.lds7 (by assumption) (by rfl) | exact Sep.lds8 (by assumption) (by rfl) | exact Sep.lds9 (by assumption) (by rfl)), ?_⟩)
        | (refine ⟨_, _, _, _, _, _, _, _, _, _, (by first | exact Sep.lds0 (by assumption) (by rfl) | exact Sep.lds1 (by assumption) (by rfl) | exact Sep.lds2 (by assumption) (by rfl) | exact Sep.lds3 (by assumption) (by rfl) | exact Sep.lds4 (by assumption) (by rfl) | exact Sep.lds5 (by assumption) (by rfl) | exact Sep.lds6 (by assumption) (by rfl) | exact Sep.lds7 (by assumption) (by rfl) | exact Sep.lds8 (by assumption) (by rfl) | exact Sep.lds9 (by assumption) (by rfl)), ?_⟩)
        | (refine ⟨_, _, _, _, _, _, _, _, _, _, _, (by first | exact Sep.lds0 (by assumption) (by rfl) | exact Sep.lds1 (by assumption) (by rfl) | exact Sep.lds2 (by assumption) (by rfl) | exact Sep.lds3 (by assumption) (by rfl) | exact Sep.lds4 (by assumption) (by rfl) | exact Sep.lds5 (by assumption) (by rfl) | exact Sep.lds6 (by assumption) (by rfl) | exact Sep.lds7 (by assumption) (by rfl) | exact Sep.lds8 (by assumption) (by rfl) | exact Sep.lds9 (by assumption) (by rfl)), ?_⟩)
        | (refine ⟨_, _, _, _, _, _, _, _, _, _, _, _, (by first | exact Sep.lds0 (by assumption) (by rfl) | exact Sep.lds1 (by assumption) (by rfl) | exact Sep.lds2 (by assumption) (by rfl) | exact Sep.lds3 (by assumption) (by rfl) | exact Sep.lds4 (by assumption) (by rfl) | exact Sep.lds5 (by assumption) (by rfl) | exact Sep.lds6 (by assumption) (by rfl) | exact Sep.lds7 (by assumption) (by rfl) | exact Sep.lds8 (by assumption) (by rfl) | exact Sep.lds9 (by assumption) (by rfl)), ?_⟩)
        | (first | refine Sep.st0 (by assumption) (Nat.le_of_ble_eq_true (by rfl)) fun _ _ => ?_ | refine Sep.st1 (by assumption) (Nat.le_of_ble_eq_true (by rfl)) fun _ _ => ?_ | refine Sep.st2 (by assumption) (Nat.le_of_ble_eq_true (by rfl)) fun _ _ => ?_ | refine Sep.st3 (by assumption) (Nat.le_of_ble_eq_true (by rfl)) fun _ _ => ?_ | refine Sep.st4 (by assumption) (Nat.le_of_ble_eq_true (by rfl)) fun _ _ => ?_ | refine Sep.st5 (by assumption) (Nat.le_of_ble_eq_true (by rfl)) fun _ _ => ?_ | refine Sep.st6 (by assumption) (Nat.le_of_ble_eq_true (by rfl)) fun _ _ => ?_ | refine Sep.st7 (by assumption) (Nat.le_of_ble_eq_true (by rfl)) fun _ _ => ?_ | refine Sep.st8 (by assumption) (Nat.le_of_ble_eq_true (by rfl)) fun _ _ => ?_ | refine Sep.st9 (by assumption) (Nat.le_of_ble_eq_true (by rfl)) fun _ _ => ?_)
        | (refine cond_of (fun _ => ?_) fun _ => ?_)
        | fail
      all_goals refine ⟨?_, by assumption⟩
      all_goals
        refine vb ?_
        simp only [decide_eq_true_eq, decide_eq_false_iff_not, beq_iff_eq, beq_eq_false_iff_ne] at *
        rw [Bool.eq_iff_iff]
        simp only [decide_eq_true_eq, beq_iff_eq, true_iff]
        omega
    rintro ys23 H24 b25 ⟨ee, h24⟩
    simp only [List.cons.injEq, Value.bool.injEq, and_true] at ee
    subst ee
    refine ⟨JB (decide (¬ (0 ≤ x.dst ∧ x.dst ≤ 10 ∧ 0 ≤ x.src ∧ x.src ≤ 10 ∧ ¬ (r.wr = true ∧ x.dst = 10) ∧ ¬ ((x.op = 195 ∨ x.op = 219) ∧ fetches x.imm = true ∧ x.src = 10)))) (bx i11 (.cells true 0 [.bool true, .string d2, .bool r.wr, I r.low, I r.high]) :: bx i1 (.cells true 0 x.cells) :: L), ?_, ?_⟩
    · repeat' first
        | (refine Sep.nw (by assumption) fun _ _ _ => ?_)
        | (refine asRow_in ?_)
        | (refine asAddr_in ?_)
        | (refine ⟨_, rfl, ?_⟩)
        | (refine ⟨_, _, rfl, ?_⟩)
        | (refine ⟨_, _, _, rfl, ?_⟩)
        | (refine ⟨_, _, _, _, rfl, ?_⟩)
        | (refine ⟨_, _, _, _, _, rfl, ?_⟩)
        | (refine ⟨_, _, _, _, _, _, rfl, ?_⟩)
        | (refine ⟨_, _, _, _, _, _, _, rfl, ?_⟩)
        | (refine ⟨_, _, _, _, _, _, _, _, rfl, ?_⟩)
        | (refine ⟨_, _, _, _, _, _, _, _, _, rfl, ?_⟩)
        | (refine ⟨_, _, _, _, _, _, _, _, _, _, rfl, ?_⟩)
        | (refine ⟨_, (by first | exact Sep.ld0 (by assumption) (by rfl) | exact Sep.ld1 (by assumption) (by rfl) | exact Sep.ld2 (by assumption) (by rfl) | exact Sep.ld3 (by assumption) (by rfl) | exact Sep.ld4 (by assumption) (by rfl) | exact Sep.ld5 (by assumption) (by rfl) | exact Sep.ld6 (by assumption) (by rfl) | exact Sep.ld7 (by assumption) (by rfl) | exact Sep.ld8 (by assumption) (by rfl) | exact Sep.ld9 (by assumption) (by rfl) | exact Sep.lds0 (by assumption) (by rfl) | exact Sep.lds1 (by assumption) (by rfl) | exact Sep.lds2 (by assumption) (by rfl) | exact Sep.lds3 (by assumption) (by rfl) | exact Sep.lds4 (by assumption) (by rfl) | exact Sep.lds5 (by assumption) (by rfl) | exact Sep.lds6 (by assumption) (by rfl) | exact Sep.lds7 (by assumption) (by rfl) | exact Sep.lds8 (by assumption) (by rfl) | exact Sep.lds9 (by assumption) (by rfl)), ?_⟩)
        | (refine ⟨_, _, (by first | exact Sep.lds0 (by assumption) (by rfl) | exact Sep.lds1 (by assumption) (by rfl) | exact Sep.lds2 (by assumption) (by rfl) | exact Sep.lds3 (by assumption) (by rfl) | exact Sep.lds4 (by assumption) (by rfl) | exact Sep.lds5 (by assumption) (by rfl) | exact Sep.lds6 (by assumption) (by rfl) | exact Sep.lds7 (by assumption) (by rfl) | exact Sep.lds8 (by assumption) (by rfl) | exact Sep.lds9 (by assumption) (by rfl)), ?_⟩)
        | (refine ⟨_, _, _, (by first | exact Sep.lds0 (by assumption) (by rfl) | exact Sep.lds1 (by assumption) (by rfl) | exact Sep.lds2 (by assumption) (by rfl) | exact Sep.lds3 (by assumption) (by rfl) | exact Sep.lds4 (by assumption) (by rfl) | exact Sep.lds5 (by assumption) (by rfl) | exact Sep.lds6 (by assumption) (by rfl) | exact Sep.lds7 (by assumption) (by rfl) | exact Sep.lds8 (by assumption) (by rfl) | exact Sep.lds9 (by assumption) (by rfl)), ?_⟩)
        | (refine ⟨_, _, _, _, (by first | exact Sep.lds0 (by assumption) (by rfl) | exact Sep.lds1 (by assumption) (by rfl) | exact Sep.lds2 (by assumption) (by rfl) | exact Sep.lds3 (by assumption) (by rfl) | exact Sep.lds4 (by assumption) (by rfl) | exact Sep.lds5 (by assumption) (by rfl) | exact Sep.lds6 (by assumption) (by rfl) | exact Sep.lds7 (by assumption) (by rfl) | exact Sep.lds8 (by assumption) (by rfl) | exact Sep.lds9 (by assumption) (by rfl)), ?_⟩)
        | (refine ⟨_, _, _, _, _, (by first | exact Sep.lds0 (by assumption) (by rfl) | exact Sep.lds1 (by assumption) (by rfl) | exact Sep.lds2 (by assumption) (by rfl) | exact Sep.lds3 (by assumption) (by rfl) | exact Sep.lds4 (by assumption) (by rfl) | exact Sep.lds5 (by assumption) (by rfl) | exact Sep.lds6 (by assumption) (by rfl) | exact Sep.lds7 (by assumption) (by rfl) | exact Sep.lds8 (by assumption) (by rfl) | exact Sep.lds9 (by assumption) (by rfl)), ?_⟩)
        | (refine ⟨_, _, _, _, _, _, (by first | exact Sep.lds0 (by assumption) (by rfl) | exact Sep.lds1 (by assumption) (by rfl) | exact Sep.lds2 (by assumption) (by rfl) | exact Sep.lds3 (by assumption) (by rfl) | exact Sep.lds4 (by assumption) (by rfl) | exact Sep.lds5 (by assumption) (by rfl) | exact Sep.lds6 (by assumption) (by rfl) | exact Sep.lds7 (by assumption) (by rfl) | exact Sep.lds8 (by assumption) (by rfl) | exact Sep.lds9 (by assumption) (by rfl)), ?_⟩)
        | (refine ⟨_, _, _, _, _, _, _, (by first | exact Sep.lds0 (by assumption) (by rfl) | exact Sep.lds1 (by assumption) (by rfl) | exact Sep.lds2 (by assumption) (by rfl) | exact Sep.lds3 (by assumption) (by rfl) | exact Sep.lds4 (by assumption) (by rfl) | exact Sep.lds5 (by assumption) (by rfl) | exact Sep.lds6 (by assumption) (by rfl) | exact Sep.lds7 (by assumption) (by rfl) | exact Sep.lds8 (by assumption) (by rfl) | exact Sep.lds9 (by assumption) (by rfl)), ?_⟩)
        | (refine ⟨_, _, _, _, _, _, _, _, (by first | exact Sep.lds0 (by assumption) (by rfl) | exact Sep.lds1 (by assumption) (by rfl) | exact Sep.lds2 (by assumption) (by rfl) | exact Sep.lds3 (by assumption) (by rfl) | exact Sep.lds4 (by assumption) (by rfl) | exact Sep.lds5 (by assumption) (by rfl) | exact Sep.lds6 (by assumption) (by rfl) | exact Sep.lds7 (by assumption) (by rfl) | exact Sep.lds8 (by assumption) (by rfl) | exact Sep.lds9 (by assumption) (by rfl)), ?_⟩)
        | (refine ⟨_, _, _, _, _, _, _, _, _, (by first | exact Sep.lds0 (by assumption) (by rfl) | exact Sep.lds1 (by assumption) (by rfl) | exact Sep.lds2 (by assumption) (by rfl) | exact Sep.lds3 (by assumption) (by rfl) | exact Sep.lds4 (by assumption) (by rfl) | exact Sep.lds5 (by assumption) (by rfl) | exact Sep.lds6 (by assumption) (by rfl) | exact Sep.lds7 (by assumption) (by rfl) | exact Sep.lds8 (by assumption) (by rfl) | exact Sep.lds9 (by assumption) (by rfl)), ?_⟩)
        | (refine ⟨_, _, _, _, _, _, _, _, _, _, (by first | exact Sep.lds0 (by assumption) (by rfl) | exact Sep.lds1 (by assumption) (by rfl) | exact Sep.lds2 (by assumption) (by rfl) | exact Sep.lds3 (by assumption) (by rfl) | exact Sep.lds4 (by assumption) (by rfl) | exact Sep.lds5 (by assumption) (by rfl) | exact Sep.lds6 (by assumption) (by rfl) | exact Sep.lds7 (by assumption) (by rfl) | exact Sep.lds8 (by assumption) (by rfl) | exact Sep.lds9 (by assumption) (by rfl)), ?_⟩)
        | (refine ⟨_, _, _, _, _, _, _, _, _, _, _, (by first | exact Sep.lds0 (by assumption) (by rfl) | exact Sep.lds1 (by assumption) (by rfl) | exact Sep.lds2 (by assumption) (by rfl) | exact Sep.lds3 (by assumption) (by rfl) | exact Sep.lds4 (by assumption) (by rfl) | exact Sep.lds5 (by assumption) (by rfl) | exact Sep.lds6 (by assumption) (by rfl) | exact Sep.lds7 (by assumption) (by rfl) | exact Sep.lds8 (by assumption) (by rfl) | exact Sep.lds9 (by assumption) (by rfl)), ?_⟩)
        | (refine ⟨_, _, _, _, _, _, _, _, _, _, _, _, (by first | exact Sep.lds0 (by assumption) (by rfl) | exact Sep.lds1 (by assumption) (by rfl) | exact Sep.lds2 (by assumption) (by rfl) | exact Sep.lds3 (by assumption) (by rfl) | exact Sep.lds4 (by assumption) (by rfl) | exact Sep.lds5 (by assumption) (by rfl) | exact Sep.lds6 (by assumption) (by rfl) | exact Sep.lds7 (by assumption) (by rfl) | exact Sep.lds8 (by assumption) (by rfl) | exact Sep.lds9 (by assumption) (by rfl)), ?_⟩)
        | (first | refine Sep.st0 (by assumption) (Nat.le_of_ble_eq_true (by rfl)) fun _ _ => ?_ | refine Sep.st1 (by assumption) (Nat.le_of_ble_eq_true (by rfl)) fun _ _ => ?_ | refine Sep.st2 (by assumption) (Nat.le_of_ble_eq_true (by rfl)) fun _ _ => ?_ | refine Sep.st3 (by assumption) (Nat.le_of_ble_eq_true (by rfl)) fun _ _ => ?_ | refine Sep.st4 (by assumption) (Nat.le_of_ble_eq_true (by rfl)) fun _ _ => ?_ | refine Sep.st5 (by assumption) (Nat.le_of_ble_eq_true (by rfl)) fun _ _ => ?_ | refine Sep.st6 (by assumption) (Nat.le_of_ble_eq_true (by rfl)) fun _ _ => ?_ | refine Sep.st7 (by assumption) (Nat.le_of_ble_eq_true (by rfl)) fun _ _ => ?_ | refine Sep.st8 (by assumption) (Nat.le_of_ble_eq_true (by rfl)) fun _ _ => ?_ | refine Sep.st9 (by assumption) (Nat.le_of_ble_eq_true (by rfl)) fun _ _ => ?_)
        | (refine cond_of (fun _ => ?_) fun _ => ?_)
        | fail
      all_goals refine ⟨?_, by assumption⟩
      all_goals
        refine vb ?_
        simp only [decide_eq_true_eq, decide_eq_false_iff_not, beq_iff_eq, beq_eq_false_iff_ne] at *
        rw [Bool.eq_iff_iff]
        try simp only [decide_eq_true_eq, beq_iff_eq, Bool.false_eq_true, false_iff, true_iff, Classical.not_not]
        first | omega | (simp_all; done) | (simp_all; omega)
    rintro ys35 H36 b37 ⟨ee, h36⟩
    simp only [List.cons.injEq, Value.bool.injEq, and_true] at ee
    subst ee
    clear h2 h5 h12 h13 h24 h
    refine cond_of (fun c => ?_) fun c => ?_
    · rw [if_pos (of_decide_eq_true c)] at hR
      exact hR _ h36.tail.tail
    rw [if_neg (of_decide_eq_false c)] at hR
    refine ⟨JB (decide ((r.d = false ∧ x.dst ≠ 0) ∨ (r.s = false ∧ x.src ≠ 0) ∨ (r.o = false ∧ x.off ≠ 0) ∨ (r.i = false ∧ x.imm ≠ 0) ∨ (x.op = 24 ∧ x.src > 1))) (bx i11 (.cells true 0 [.bool true, .string d2, .bool r.wr, I r.low, I r.high]) :: bx i1 (.cells true 0 x.cells) :: L), ?_, ?_⟩
    · clear c hR
      repeat' first
        | (refine Sep.nw (by assumption) fun _ _ _ => ?_)
        | (refine asRow_in ?_)
        | (refine asAddr_in ?_)
        | (refine ⟨_, rfl, ?_⟩)
        | (refine ⟨_, _, rfl, ?_⟩)
        | (refine ⟨_, _, _, rfl, ?_⟩)
        | (refine ⟨_, _, _, _, rfl, ?_⟩)
        | (refine ⟨_, _, _, _, _, rfl, ?_⟩)
        | (refine ⟨_, _, _, _, _, _, rfl, ?_⟩)
        | (refine ⟨_, _, _, _, _, _, _, rfl, ?_⟩)
        | (refine ⟨_, _, _, _, _, _, _, _, rfl, ?_⟩)
        | (refine ⟨_, _, _, _, _, _, _, _, _, rfl, ?_⟩)
        | (refine ⟨_, _, _, _, _, _, _, _, _, _, rfl, ?_⟩)
        | (refine ⟨_, (by first | exact Sep.ld0 (by assumption) (by rfl) | exact Sep.ld1 (by assumption) (by rfl) | exact Sep.ld2 (by assumption) (by rfl) | exact Sep.ld3 (by assumption) (by rfl) | exact Sep.ld4 (by assumption) (by rfl) | exact Sep.ld5 (by assumption) (by rfl) | exact Sep.ld6 (by assumption) (by rfl) | exact Sep.ld7 (by assumption) (by rfl) | exact Sep.ld8 (by assumption) (by rfl) | exact Sep.ld9 (by assumption) (by rfl) | exact Sep.lds0 (by assumption) (by rfl) | exact Sep.lds1 (by assumption) (by rfl) | exact Sep.lds2 (by assumption) (by rfl) | exact Sep.lds3 (by assumption) (by rfl) | exact Sep.lds4 (by assumption) (by rfl) | exact Sep.lds5 (by assumption) (by rfl) | exact Sep.lds6 (by assumption) (by rfl) | exact Sep.lds7 (by assumption) (by rfl) | exact Sep.lds8 (by assumption) (by rfl) | exact Sep.lds9 (by assumption) (by rfl)), ?_⟩)
        | (refine ⟨_, _, (by first | exact Sep.lds0 (by assumption) (by rfl) | exact Sep.lds1 (by assumption) (by rfl) | exact Sep.lds2 (by assumption) (by rfl) | exact Sep.lds3 (by assumption) (by rfl) | exact Sep.lds4 (by assumption) (by rfl) | exact Sep.lds5 (by assumption) (by rfl) | exact Sep.lds6 (by assumption) (by rfl) | exact Sep.lds7 (by assumption) (by rfl) | exact Sep.lds8 (by assumption) (by rfl) | exact Sep.lds9 (by assumption) (by rfl)), ?_⟩)
        | (refine ⟨_, _, _, (by first | exact Sep.lds0 (by assumption) (by rfl) | exact Sep.lds1 (by assumption) (by rfl) | exact Sep.lds2 (by assumption) (by rfl) | exact Sep.lds3 (by assumption) (by rfl) | exact Sep.lds4 (by assumption) (by rfl) | exact Sep.lds5 (by assumption) (by rfl) | exact Sep.lds6 (by assumption) (by rfl) | exact Sep.lds7 (by assumption) (by rfl) | exact Sep.lds8 (by assumption) (by rfl) | exact Sep.lds9 (by assumption) (by rfl)), ?_⟩)
        | (refine ⟨_, _, _, _, (by first | exact Sep.lds0 (by assumption) (by rfl) | exact Sep.lds1 (by assumption) (by rfl) | exact Sep.lds2 (by assumption) (by rfl) | exact Sep.lds3 (by assumption) (by rfl) | exact Sep.lds4 (by assumption) (by rfl) | exact Sep.lds5 (by assumption) (by rfl) | exact Sep.lds6 (by assumption) (by rfl) | exact Sep.lds7 (by assumption) (by rfl) | exact Sep.lds8 (by assumption) (by rfl) | exact Sep.lds9 (by assumption) (by rfl)), ?_⟩)
        | (refine ⟨_, _, _, _, _, (by first | exact Sep.lds0 (by assumption) (by rfl) | exact Sep.lds1 (by assumption) (by rfl) | exact Sep.lds2 (by assumption) (by rfl) | exact Sep.lds3 (by assumption) (by rfl) | exact Sep.lds4 (by assumption) (by rfl) | exact Sep.lds5 (by assumption) (by rfl) | exact Sep.lds6 (by assumption) (by rfl) | exact Sep.lds7 (by assumption) (by rfl) | exact Sep.lds8 (by assumption) (by rfl) | exact Sep.lds9 (by assumption) (by rfl)), ?_⟩)
        | (refine ⟨_, _, _, _, _, _, (by first | exact Sep.lds0 (by assumption) (by rfl) | exact Sep.lds1 (by assumption) (by rfl) | exact Sep.lds2 (by assumption) (by rfl) | exact Sep.lds3 (by assumption) (by rfl) | exact Sep.lds4 (by assumption) (by rfl) | exact Sep.lds5 (by assumption) (by rfl) | exact Sep.lds6 (by assumption) (by rfl) | exact Sep.lds7 (by assumption) (by rfl) | exact Sep.lds8 (by assumption) (by rfl) | exact Sep.lds9 (by assumption) (by rfl)), ?_⟩)
        | (refine ⟨_, _, _, _, _, _, _, (by first | exact Sep.lds0 (by assumption) (by rfl) | exact Sep.lds1 (by assumption) (by rfl) | exact Sep.lds2 (by assumption) (by rfl) | exact Sep.lds3 (by assumption) (by rfl) | exact Sep.lds4 (by assumption) (by rfl) | exact Sep.lds5 (by assumption) (by rfl) | exact Sep.lds6 (by assumption) (by rfl) | exact Sep.lds7 (by assumption) (by rfl) | exact Sep.lds8 (by assumption) (by rfl) | exact Sep.lds9 (by assumption) (by rfl)), ?_⟩)
        | (refine ⟨_, _, _, _, _, _, _, _, (by first | exact Sep.lds0 (by assumption) (by rfl) | exact Sep.lds1 (by assumption) (by rfl) | exact Sep.lds2 (by assumption) (by rfl) | exact Sep.lds3 (by assumption) (by rfl) | exact Sep.lds4 (by assumption) (by rfl) | exact Sep.lds5 (by assumption) (by rfl) | exact Sep.lds6 (by assumption) (by rfl) | exact Sep.lds7 (by assumption) (by rfl) | exact Sep.lds8 (by assumption) (by rfl) | exact Sep.lds9 (by assumption) (by rfl)), ?_⟩)
        | (refine ⟨_, _, _, _, _, _, _, _, _, (by first | exact Sep.lds0 (by assumption) (by rfl) | exact Sep.lds1 (by assumption) (by rfl) | exact Sep.lds2 (by assumption) (by rfl) | exact Sep.lds3 (by assumption) (by rfl) | exact Sep.lds4 (by assumption) (by rfl) | exact Sep.lds5 (by assumption) (by rfl) | exact Sep.lds6 (by assumption) (by rfl) | exact Sep.lds7 (by assumption) (by rfl) | exact Sep.lds8 (by assumption) (by rfl) | exact Sep.lds9 (by assumption) (by rfl)), ?_⟩)
        | (refine ⟨_, _, _, _, _, _, _, _, _, _, (by first | exact Sep.lds0 (by assumption) (by rfl) | exact Sep.lds1 (by assumption) (by rfl) | exact Sep.lds2 (by assumption) (by rfl) | exact Sep.lds3 (by assumption) (by rfl) | exact Sep.lds4 (by assumption) (by rfl) | exact Sep.lds5 (by assumption) (by rfl) | exact Sep.lds6 (by assumption) (by rfl) | exact Sep.lds7 (by assumption) (by rfl) | exact Sep.lds8 (by assumption) (by rfl) | exact Sep.lds9 (by assumption) (by rfl)), ?_⟩)
        | (refine ⟨_, _, _, _, _, _, _, _, _, _, _, (by first | exact Sep.lds0 (by assumption) (by rfl) | exact Sep.lds1 (by assumption) (by rfl) | exact Sep.lds2 (by assumption) (by rfl) | exact Sep.lds3 (by assumption) (by rfl) | exact Sep.lds4 (by assumption) (by rfl) | exact Sep.lds5 (by assumption) (by rfl) | exact Sep.lds6 (by assumption) (by rfl) | exact Sep.lds7 (by assumption) (by rfl) | exact Sep.lds8 (by assumption) (by rfl) | exact Sep.lds9 (by assumption) (by rfl)), ?_⟩)
        | (refine ⟨_, _, _, _, _, _, _, _, _, _, _, _, (by first | exact Sep.lds0 (by assumption) (by rfl) | exact Sep.lds1 (by assumption) (by rfl) | exact Sep.lds2 (by assumption) (by rfl) | exact Sep.lds3 (by assumption) (by rfl) | exact Sep.lds4 (by assumption) (by rfl) | exact Sep.lds5 (by assumption) (by rfl) | exact Sep.lds6 (by assumption) (by rfl) | exact Sep.lds7 (by assumption) (by rfl) | exact Sep.lds8 (by assumption) (by rfl) | exact Sep.lds9 (by assumption) (by rfl)), ?_⟩)
        | (first | refine Sep.st0 (by assumption) (Nat.le_of_ble_eq_true (by rfl)) fun _ _ => ?_ | refine Sep.st1 (by assumption) (Nat.le_of_ble_eq_true (by rfl)) fun _ _ => ?_ | refine Sep.st2 (by assumption) (Nat.le_of_ble_eq_true (by rfl)) fun _ _ => ?_ | refine Sep.st3 (by assumption) (Nat.le_of_ble_eq_true (by rfl)) fun _ _ => ?_ | refine Sep.st4 (by assumption) (Nat.le_of_ble_eq_true (by rfl)) fun _ _ => ?_ | refine Sep.st5 (by assumption) (Nat.le_of_ble_eq_true (by rfl)) fun _ _ => ?_ | refine Sep.st6 (by assumption) (Nat.le_of_ble_eq_true (by rfl)) fun _ _ => ?_ | refine Sep.st7 (by assumption) (Nat.le_of_ble_eq_true (by rfl)) fun _ _ => ?_ | refine Sep.st8 (by assumption) (Nat.le_of_ble_eq_true (by rfl)) fun _ _ => ?_ | refine Sep.st9 (by assumption) (Nat.le_of_ble_eq_true (by rfl)) fun _ _ => ?_)
        | (refine has_s hsz ?_)
        | (refine cond_of (fun _ => ?_) fun _ => ?_)
        | fail
      all_goals refine ⟨?_, by assumption⟩
      all_goals
        refine vb ?_
        rw [Bool.eq_iff_iff]
        simp only [k2, k3, k4, k5, Bool.not_eq_true', Bool.not_eq_false', decide_eq_true_eq, decide_eq_false_iff_not, beq_iff_eq, beq_eq_false_iff_ne, bne_iff_ne, bne_eq_false_iff_eq] at *
        try simp only [decide_eq_true_eq, beq_iff_eq, Bool.false_eq_true, false_iff, true_iff, Classical.not_not]
        first | omega | (simp_all; done) | (simp_all; omega)
    rintro ys146 H147 b148 ⟨ee, h147⟩
    simp only [List.cons.injEq, Value.bool.injEq, and_true] at ee
    subst ee
    clear h36
    refine cond_of (fun c => ?_) fun c => ?_
    · rw [if_pos (of_decide_eq_true c)] at hR
      exact hR _ h147.tail.tail
    rw [if_neg (of_decide_eq_false c)] at hR
    refine ⟨JB (decide (x.off < -32768 ∨ x.off > 32767 ∨ x.imm < r.low ∨ x.imm > r.high ∨ onlyI r.only x = false)) (bx i11 (.cells true 0 [.bool true, .string d2, .bool r.wr, I r.low, I r.high]) :: bx i1 (.cells true 0 x.cells) :: L), ?_, ?_⟩
    · refine ⟨_, Sep.ld1 h147 rfl, cond_of (fun c1 => ⟨?_, h147⟩) fun c1 => ⟨_, Sep.ld1 h147 rfl, cond_of (fun c2 => ⟨?_, h147⟩) fun c2 => ⟨_, _, _, _, _, Sep.lds1 h147 rfl, _, _, _, _, _, Sep.lds0 h147 rfl, ?_⟩⟩⟩
      · have c1 : x.off < -32768 := by simpa using c1
        rw [decide_eq_true (.inl c1)]
      · have c2 : x.off > 32767 := by simpa using c2
        rw [decide_eq_true (.inr (.inl c2))]
      · refine ranged_s (x := x) (d := (true, d2, r.wr, r.low, r.high)) h147 fun H' h' => ⟨_, rfl, ⟨?_, h'⟩⟩
        simp only [decide_eq_false_iff_not] at c1 c2
        simp only
        rw [e]
        refine vb ?_
        rw [Bool.eq_iff_iff]
        simp only [Bool.not_eq_true', decide_eq_false_iff_not, Classical.not_not, decide_eq_true_eq, c1, c2, false_or]
    rintro ys165 H166 b167 ⟨ee, h166⟩
    simp only [List.cons.injEq, Value.bool.injEq, and_true] at ee
    subst ee
    refine cond_of (fun c => ?_) fun c => ?_
    · rw [if_pos (of_decide_eq_true c)] at hR
      exact hR _ h166.tail.tail
    · rw [if_neg (of_decide_eq_false c)] at hR
      exact hR _ h166.tail.tail
end Go.Proofs.YtmgkngdbphkmmaaDoor
