/-
  Records: maps that are made, runs that begin, what they tell.
-/
import Derived.Test.YtgpacebjbdhphaaRecordPure
import Derived.Test.YtgpacebjbdhphaaDeclLoops
namespace Go.Proofs.Ytgpacebjbdhphaa
open Go Go.AS Go.RowKit
set_option linter.unusedVariables false
variable {H H' : Heap} {m x r b : Nat} {S S' : Sm} {R : Value → Heap → Prop} {L : List Asr} {ws vs : List (BitVec 64)} {c : Int} {q : Rn} {N : Nat}

theorem first_one {mp b : Nat} {room n : Int} (h1 : 1 ≤ n) (h2 : n ≤ 65536) (hr : n ≤ room) : ((newSm mp room).make b n).1 = (1, 0) ∧ One ((newSm mp room).make b n).2 (List.replicate n.toNat 0) 0 := by
  have hr : ¬ (newSm mp room).room < n := by simp only [newSm, clampRoom_eq]; omega
  have e1 : wr 1 = 1 := wrs (by omega)
  have e : (newSm mp room).make b n = ((wr 1, 0), (newSm mp room).mk' b n.toNat) := by
    unfold Sm.make
    rw [if_neg (by omega), if_neg hr]; rfl
  rw [e, e1]
  refine ⟨rfl, ⟨b, 0, ?_⟩, rfl, rfl, Int.le_refl _⟩
  show [] ++ [(⟨wr (0 + 1), b, 0, List.replicate n.toNat 0⟩ : Reg)] = _
  rw [Int.zero_add, e1]; rfl

theorem dec_ok (hN : 1 ≤ N ∧ N ≤ 4) : chks [(⟨3, 1, N, 0, 0⟩ : Dc)] = 0 := by
  obtain rfl | rfl | rfl | rfl : N = 1 ∨ N = 2 ∨ N = 3 ∨ N = 4 := by omega
  all_goals rfl

theorem graceNew_s {n : Int} {p : Option Addr} (h : Sep H L) (hR : ∀ H' g, Sep H' L → R (P g) H') : CA en F.grace_New [I n, .pointer p] H R := by
  apply vc_grace_New
  exact Sep.nw h fun mi H2 h2 => Sep.nw h2 fun g H4 h4 => hR H4 g h4.tail.tail

theorem sameD (a b c d e : Int) : sameN 8 (.agg #[.int .i64 a, .int .i64 b, .int .i64 c, .int .i64 d, .int .i64 e]) (.agg #[.int .i64 a, .int .i64 b, .int .i64 c, .int .i64 d, .int .i64 e]) = true := by simp [sameN, sameN.sameL]

theorem rmade_s (h : Sep H L) (hN : 1 ≤ N ∧ N ≤ 4) (hR : ∀ H' m x S, One S (List.replicate (3 + N) 0) 0 → Sep H' (mA m x ⟨3, 1, N, 0, 0⟩ :: mem m S :: L) → R (.tuple #[P m, P x]) H') : CA en F.crossbarlaw14_made [.agg #[I 3, I 1, I N, I 0, I 0], I 8] H R := by
  apply vc_crossbarlaw14_made
  refine Sep.nw h fun i1 H2 h2 => new_s h2 fun H4 m mp h4 => ⟨_, rfl, cond_no rfl ?_⟩
  have hB := h4.bump 10
  refine graceNew_s hB fun H7 g h7 => ⟨_, rfl, _, _, _, _, _, Sep.lds1 h7 rfl, ?_⟩
  apply vc_record_New
  refine Sep.nw h7 fun j1 H8 h8 => ⟨_, _, _, _, _, Sep.lds0 h8 rfl, Sep.nw h8 fun i8 H9 h9 => ?_⟩
  refine Check_ok (l := [⟨3, 1, N, 0, 0⟩]) ⟨rfl, .inr ⟨i8, true, 5, rfl, h9.footlt (by simp [bx]), Sep.get0 h9⟩⟩ fun H11 fr => ⟨_, rfl, ?_⟩
  have h11 := (h9.keep fr).tail
  rw [dec_ok hN]
  -- j1 mem i1 L
  have ew : IntKind.i64.wrap (1 * IntKind.i64.wrap (3 + (N : Int))) = ((3 + N : Nat) : Int) := by rw [wrap_i64 (n := 3 + (N : Int)) (by omega), wrap_i64 (by omega)]; omega
  refine cond_no rfl ⟨_, Sep.ld0 h11 rfl, cond_no rfl ⟨_, Sep.ld0 h11 rfl, _, Sep.ld0 h11 rfl, ?_⟩⟩
  rw [ew]
  refine make_s (Sep.up1 h11) (fun _ _ _ => rfl) fun H16 b h16 => ⟨_, _, rfl, ?_⟩
  obtain ⟨e1, o⟩ := first_one (mp := mp) (b := b) (room := 8) (n := ((3 + N : Nat) : Int)) (by omega) (by omega) (by omega)
  rw [e1]
  refine cond_no rfl ⟨_, _, _, _, _, Sep.lds1 h16 rfl, Sep.nw h16 fun x H25 h25 => ⟨_, _, rfl, ⟨cond_no rfl (hR H25 m x _ o ?_), ⟨⟨_, _, _, _, _, Sep.lds1 hB rfl, sameD _ _ _ _ _⟩, ⟨_, _, _, _, _, Sep.lds1 h7 rfl, sameD _ _ _ _ _⟩, trivial⟩, trivial⟩⟩⟩
  exact Sep.pick h25 4 [0, 1] (by decide)

/-- A lookup of the first key. -/
theorem rbegR_s (h : Sep H (mA m x ⟨3, 1, N, 0, 0⟩ :: L)) (hN : N ≤ 4) (hR : ∀ H' r, Sep H' (rA r x ⟨1, 0, none, 0, 0, 0, 0, none, 0, 0, 0, fnv F.record_Run_look r, .pointer none, 0, 0, 0⟩ :: mA m x ⟨3, 1, N, 0, 0⟩ :: L) → R (P r) H') :
    CA en F.record_Map_Begin [P x, .agg #[I 1, .int .u64 0, .slice none 0 0, I 0, I 0]] H R := by
  apply vc_record_Map_Begin
  refine Sep.nw h fun i1 H2 h2 => ⟨_, _, _, _, _, _, Sep.lds0 h2 rfl, Sep.nw h2 fun r H10 h10 => ?_⟩
  have hB := h10.bump 10
  have hB2 := hB.bump 20
  refine ⟨_, Sep.ld1 hB rfl, asAddr_in ⟨_, Sep.ld2 hB rfl, ⟨_, Sep.ld1 hB rfl, cond_no rfl (cond_no rfl (cond_no rfl ⟨_, Sep.ld1 hB rfl, cond_yes rfl ⟨_, Sep.ld1 hB2 rfl, asAddr_in ⟨_, Sep.ld2 hB2 rfl, ?_⟩⟩⟩))⟩, trivial⟩⟩
  have e : IntKind.i64.wrap (IntKind.i64.wrap 0 * IntKind.i64.wrap (3 + (N : Int))) = 0 := by rw [wrap_i64 (n := 3 + (N : Int)) (by omega)]; show IntKind.i64.wrap (0 * _) = 0; rw [Int.zero_mul]; rfl
  rw [e]
  refine Sep.st0 hB2 (Nat.le_of_ble_eq_true rfl) fun H41 h41 => Sep.st0 h41 (Nat.le_of_ble_eq_true rfl) fun H42 h42 => ⟨hR H42 r ?_, trivial⟩
  exact h42.rm1

/-- An update of the first key. -/
theorem rbegW_s {g : Nat} (h : Sep H (gl 1 (some g) (wds vs) :: mA m x ⟨3, 1, N, 0, 0⟩ :: L)) (hN : N ≤ 4) (hv : 0 < vs.length ∧ vs.length < 1000)
    (hR : ∀ H' r b g', Sep H' (rA r x ⟨2, 0, some g', vs.length, 0, 0, 0, none, 0, 0, 0, fnv F.record_Run_take r, P b, 0, 0, 0⟩ :: tk m 0 0 F.lock_Taker_draw b :: gl 1 (some g') (wds vs) :: mA m x ⟨3, 1, N, 0, 0⟩ :: L) → R (P r) H') :
    CA en F.record_Map_Begin [P x, .agg #[I 2, .int .u64 0, .slice (addr (some g)) vs.length 0, I 0, I 0]] H R := by
  apply vc_record_Map_Begin
  refine Sep.nw h fun i1 H2 h2 => ⟨_, _, _, _, _, _, Sep.lds0 h2 rfl, Sep.nw h2 fun r H10 h10 => ?_⟩
  have hB := h10.bump 10
  have hB2 := hB.bump 14
  refine ⟨_, Sep.ld1 hB rfl, asAddr_in ⟨_, Sep.ld3 hB rfl, ⟨_, Sep.ld1 hB rfl, cond_no rfl (cond_no rfl (cond_no rfl ⟨_, Sep.ld1 hB rfl, cond_no rfl ⟨_, Sep.ld1 hB rfl, cond_no rfl ⟨_, Sep.ld1 hB2 rfl, asAddr_in ⟨_, Sep.ld3 hB2 rfl, ?_⟩⟩⟩⟩))⟩, trivial⟩⟩
  have e : IntKind.i64.wrap (IntKind.i64.wrap 0 * IntKind.i64.wrap (3 + (N : Int))) = 0 := by rw [wrap_i64 (n := 3 + (N : Int)) (by omega)]; show IntKind.i64.wrap (0 * _) = 0; rw [Int.zero_mul]; rfl
  rw [e]
  refine Sep.st0 hB2 (Nat.le_of_ble_eq_true rfl) fun H50 h50 => ⟨⟨_, _, Sep.ld1 h50 rfl, wds vs, ?_, ?_⟩, trivial⟩
  · refine rowOf_bx (gl_get (Sep.up2 h50)) (by omega) ?_
    have : (wds vs).length = vs.length * 1 := by simp
    rw [← this]; exact takeAt_all' _
  -- r i1 g x
  have h51 : Sep H50 (gl 1 none [] :: _) := gl_none.2 h50
  refine apd_gl (b := none) (cs := []) (new := wds vs) h51 (fun _ => rfl) (by decide) rfl hv.1 (by simp) (by omega) fun H56 g' h56 => ?_
  rw [Nat.zero_add, List.nil_append] at *
  refine Sep.st1 h56 (Nat.le_of_ble_eq_true rfl) fun H57 h57 => ?_
  have hB3 := h57.bump 23
  refine asAddr_in ⟨_, Sep.ld4 hB3 rfl, asAddr_in ⟨_, Sep.ld4 hB3 rfl, _, Sep.ld1 hB3 rfl, ?_⟩⟩
  refine take_s (i := 0) hB3 fun H66 b h66 => ⟨_, rfl, Sep.st2 h66 (Nat.le_of_ble_eq_true rfl) fun H68 h68 => Sep.st2 h68 (Nat.le_of_ble_eq_true rfl) fun H69 h69 => ⟨hR H69 r b g' ?_, trivial⟩⟩
  -- tk g' r i1 g x
  exact Sep.pick h69 6 [2, 0, 1, 5] (by decide)

theorem rresult_s (h : Sep H (rA r x q :: gl 1 q.rv (wds vs) :: L)) (hl : q.rl = vs.length) (hv : 0 < vs.length ∧ vs.length < 1000) (hn : q.rv = none → vs = [])
    (hR : ∀ H' g, Sep H' (gl 1 (some g) (wds vs) :: rA r x q :: gl 1 q.rv (wds vs) :: L) → R (.agg #[I q.no, .slice (addr (some g)) vs.length 0, .int .u64 q.rk, I q.re]) H') : CA en F.record_Run_Result [P r] H R := by
  apply vc_record_Run_Result
  refine Sep.nw h fun i1 H2 h2 => asAddr_in ⟨_, _, _, _, _, Sep.lds1 h2 rfl, Sep.nw h2 fun i10 H11 h11 => Sep.st0 h11 (Nat.le_of_ble_eq_true rfl) fun H12 h12 => ⟨_, _, Sep.ld0 h12 rfl, wds vs, ?_, ?_⟩⟩
  · rw [hl]
    cases hrv : q.rv with
    | none => rw [hn hrv] at hv; simp at hv
    | some g =>
      have h13 := Sep.up3 h12
      rw [hrv] at h13
      refine rowOf_bx (gl_get h13) (by omega) ?_
      have : (wds vs).length = vs.length * 1 := by simp
      rw [← this]; exact takeAt_all' _
  have h13 : Sep H12 (gl 1 none [] :: _) := gl_none.2 h12
  rw [hl]
  refine apd_gl (b := none) (cs := []) (new := wds vs) h13 (fun _ => rfl) (by decide) rfl hv.1 (by simp) (by omega) fun H18 g h18 => ?_
  rw [Nat.zero_add, List.nil_append] at *
  -- g i10 i1 r rv
  refine Sep.st1 h18 (Nat.le_of_ble_eq_true rfl) fun H19 h19 => ⟨_, _, _, _, _, Sep.lds1 h19 rfl, Sep.st2 h19 (Nat.le_of_ble_eq_true rfl) fun H25 h25 => ⟨_, _, _, _, _, Sep.lds2 h25 rfl, ?_⟩⟩
  exact hR H25 g (Sep.pick h25 5 [0, 3, 4] (by decide))
end Go.Proofs.Ytgpacebjbdhphaa
