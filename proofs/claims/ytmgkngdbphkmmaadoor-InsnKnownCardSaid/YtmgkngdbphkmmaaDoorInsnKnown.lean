/-
  'crossbarlaw02.InsnKnown' returns true.
-/
import Derived.Test.YtmgkngdbphkmmaaDoorInsnM
namespace Go.Proofs.YtmgkngdbphkmmaaDoor
open Go Go.AS Go.RowKit
set_option linter.unusedVariables false
variable {H H' : Heap} {R : Value → Heap → Prop} {L M : List Asr} {a b : Option Addr} {l m : List Ins} {x : Ins} {c : Int} {n : Nat}

theorem cls_of {op : Int} (h0 : 0 ≤ op) (h1 : op ≤ 255) : IntKind.i64.wrap ((BitVec.ofInt 64 op &&& (BitVec.ofInt 64 7)).toNat : Int) = op % 8 := by
  have all : ∀ s : Fin 256, IntKind.i64.wrap ((BitVec.ofInt 64 (((s : Nat)) : Int) &&& (BitVec.ofInt 64 7)).toNat : Int) = ((s : Nat) : Int) % 8 := by decide +kernel
  obtain ⟨n, rfl⟩ := Int.eq_ofNat_of_zero_le h0
  exact all ⟨n, by omega⟩

def manyC (c : Int) (x : Ins) (n : Nat) : Nat := ((List.range n).filter fun op : Nat => decide ((op : Int) % 8 = c) && decide (chkI ⟨op, x.dst, x.src, x.off, x.imm⟩ = 0)).length
theorem manyC_succ (c : Int) (x : Ins) (n : Nat) : manyC c x (n + 1) = manyC c x n + (if (n : Int) % 8 = c ∧ chkI ⟨n, x.dst, x.src, x.off, x.imm⟩ = 0 then 1 else 0) := by
  unfold manyC
  rw [List.range_succ, List.filter_append, List.length_append]
  congr 1
  by_cases h1 : (n : Int) % 8 = c
  · by_cases h2 : chkI ⟨n, x.dst, x.src, x.off, x.imm⟩ = 0
    · rw [if_pos ⟨h1, h2⟩]; simp [h1, h2]
    · rw [if_neg (fun h => h2 h.2)]; simp [h2]
  · rw [if_neg (fun h => h1 h.1)]; simp [h1]
theorem manyC_le (c : Int) (x : Ins) (n : Nat) : manyC c x n ≤ n := by
  unfold manyC
  exact Nat.le_trans (List.length_filter_le _ _) (by simp)

set_option maxRecDepth 100000 in
theorem many_s {H : Heap} (h : Sep H (gh :: ga :: L)) (hR : ∀ H', Sep H' (gh :: ga :: L) → R (I (manyC c x 256)) H') : CA en F.crossbarlaw02_many [I c, x.val] H R := by
  apply vc_crossbarlaw02_many
  refine Sep.nw h fun i1 H2 h2 => ?_
  refine use_crossbarlaw02_many_0 (fun k t5 t6 H => ∃ (j : Nat) (o : Int), j ≤ 256 ∧ k = 256 - j ∧ t6 = (j : Int) ∧ t5 = (manyC c x j : Int) ∧ Sep H (bx i1 (.cells true 0 [I o, I x.dst, I x.src, I x.off, I x.imm]) :: gh :: ga :: L)) 256 ⟨0, x.op, by omega, by omega, by omega, by simp [manyC], h2⟩ ?_
  clear h h2
  rintro k t5 t6 ys H3 ⟨j, o, hj, hk, rfl, rfl, hs⟩
  have hle := manyC_le c x j
  refine cond_of (fun h1 => ?_) fun h1 => ?_
  · have hj' : j < 256 := by simp only [decide_eq_true_eq] at h1; omega
    have hw1 : IntKind.i64.wrap ((j : Int) + 1) = ((j + 1 : Nat) : Int) := by rw [wrap_i64 (by omega)]; omega
    have hms := manyC_succ c x j
    refine Sep.st0 hs (Nat.le_of_ble_eq_true rfl) fun H4 h4 => ?_
    have h4 : Sep H4 (bx i1 (.cells true 0 [I j, I x.dst, I x.src, I x.off, I x.imm]) :: gh :: ga :: L) := h4
    apply vc_insn_Class
    rw [cls_of (by omega) (by omega)]
    refine ⟨_, rfl, cond_of (fun e => ?_) fun e => ?_⟩
    · have e : (j : Int) % 8 = c := by simpa using e
      refine ⟨_, _, _, _, _, Sep.lds0 h4 rfl, check_s (x := ⟨j, x.dst, x.src, x.off, x.imm⟩) (Sep.up2 (Sep.up2 h4)) fun H11 h11 => ⟨_, rfl, cond_of (fun d => ?_) fun d => ?_⟩⟩
      · have d : chkI ⟨j, x.dst, x.src, x.off, x.imm⟩ = 0 := by simpa using d
        rw [if_pos ⟨e, d⟩] at hms
        refine ⟨256 - (j + 1), by omega, j + 1, j, by omega, rfl, hw1, ?_, Sep.up2 h11⟩
        rw [wrap_i64 (by omega), hms]; omega
      · have d : ¬ chkI ⟨j, x.dst, x.src, x.off, x.imm⟩ = 0 := by simpa using d
        rw [if_neg (fun h => d h.2)] at hms
        exact ⟨256 - (j + 1), by omega, j + 1, j, by omega, rfl, hw1, by rw [hms]; rfl, Sep.up2 h11⟩
    · have e : ¬ (j : Int) % 8 = c := by simpa using e
      rw [if_neg (fun h => e h.1)] at hms
      exact ⟨256 - (j + 1), by omega, j + 1, j, by omega, rfl, hw1, by rw [hms]; rfl, h4⟩
  · obtain rfl : j = 256 := by simp only [decide_eq_false_iff_not] at h1; omega
    exact asInt_in (hR H3 hs.tail)

def bad : List Ins := [⟨149, 0, 0, 0, 1⟩, ⟨103, 1, 0, 0, 64⟩, ⟨100, 1, 0, 0, 32⟩, ⟨24, 0, 2, 0, 0⟩, ⟨24, 0, 1, 0, -1⟩, ⟨24, 10, 0, 0, 0⟩, ⟨5, 0, 0, 32768, 0⟩, ⟨97, 11, 0, 0, 0⟩, ⟨215, 0, 0, 0, 16⟩, ⟨6, 0, 0, 0, 0⟩, ⟨143, 0, 0, 0, 0⟩, ⟨219, 0, 0, 0, 2⟩, ⟨219, 0, 10, 0, 1⟩, ⟨219, 0, 10, 0, 0⟩, ⟨212, 0, 0, 0, 8⟩, ⟨183, 0, 0, 0, 2147483648⟩, ⟨256, 0, 0, 0, 0⟩, ⟨-1, 0, 0, 0, 0⟩, ⟨123, 10, 0, 0, 1⟩, ⟨191, 0, -1, 0, 0⟩]
def wantE : List Int := [9, 10, 10, 9, 10, 8, 10, 8, 7, 7, 7, 10, 8, 0, 10, 10, 7, 7, 9, 8]
theorem bad_want : bad.map chkI = wantE := by kernel_rfl
def exi : Ins := ⟨149, 0, 0, 0, 0⟩
theorem exi_chk : chkI exi = 0 := by kernel_rfl
theorem reps_chk (n : Nat) : ∀ x ∈ List.replicate n exi, chkI x = 0 := fun x hx => by rw [List.eq_of_mem_replicate hx]; exact exi_chk
theorem get_many : gets (puts (List.replicate 257 exi)) = .error 19 := by kernel_rfl
theorem get_odd : gets [24, 0, 0, 0, 0, 0, 0, 0, 1, 0, 0, 0, 0, 0, 0, 0] = .error 9 := by kernel_rfl
theorem puts_many : puts (List.replicate 256 exi) ++ [149, 0, 0, 0, 0, 0, 0, 0] = puts (List.replicate 257 exi) := by kernel_rfl
theorem puts_many_len : (puts (List.replicate 257 exi)).length = 2056 := by kernel_rfl

theorem badW {i : Nat} (h : Sep H (bx i (.cells true 5 (flatI bad)) :: L)) {j : Nat} (hj : j < 20) : ∃ x : Ins, H.cellsAt i (0 + (j : Int).toNat * 5) 5 = some x.cells ∧ wantE[j]? = some (chkI x) := by
  obtain ⟨x, hx⟩ : ∃ x, bad[j]? = some x := ⟨_, List.getElem?_eq_getElem (show j < bad.length from hj)⟩
  refine ⟨x, ?_, ?_⟩
  · rw [cellsAt_of (Sep.get0 h), Nat.zero_add, Int.toNat_natCast]; exact flatI_take bad hx
  · rw [← bad_want, List.getElem?_map, hx]; rfl

set_option maxRecDepth 100000 in
theorem InsnKnown_ok (h : Sep H (gh :: ga :: L)) : CA en F.crossbarlaw02_InsnKnown [] H fun r _ => r = .bool true := by
  apply vc_crossbarlaw02_InsnKnown
  refine Sep.nw h fun i1 H2 h2 => ?_
  refine bytes_s (x := ⟨107, 10, 3, -8, 0⟩) (want := [107, 58, 248, 255, 0, 0, 0, 0]) h2 (by kernel_rfl) (by kernel_rfl) fun H4 h4 => ⟨_, rfl, cond_no rfl (Sep.nw h4 fun i6 H7 h7 => ?_)⟩
  refine bytes_s (x := ⟨24, 1, 1, 0, 4⟩) (want := [24, 17, 0, 0, 4, 0, 0, 0, 0, 0, 0, 0, 0, 0, 0, 0]) h7 (by kernel_rfl) (by kernel_rfl) fun H9 h9 => ⟨_, rfl, cond_no rfl (Sep.nw h9 fun i11 H12 h12 => ?_)⟩
  refine bytes_s (x := ⟨219, 0, 0, 0, 241⟩) (want := [219, 0, 0, 0, 241, 0, 0, 0]) h12 (by kernel_rfl) (by kernel_rfl) fun H14 h14 => ⟨_, rfl, cond_no rfl (Sep.nw h14 fun i16 H17 h17 => ?_)⟩
  refine bytes_s (x := ⟨24, 0, 0, 0, -2⟩) (want := [24, 0, 0, 0, 254, 255, 255, 255, 0, 0, 0, 0, 255, 255, 255, 255]) h17 (by kernel_rfl) (by kernel_rfl) fun H19 h19 => ⟨_, rfl, cond_no rfl (Sep.nw h19 fun i21 H22 h22 => Sep.st0 h22 (Nat.le_of_ble_eq_true rfl) fun H23 h23 => Sep.nw h23 fun i24 H25 h25 => Sep.st0 h25 (Nat.le_of_ble_eq_true rfl) fun H26 h26 => ?_)⟩
  have h26 : Sep H26 (gh :: ga :: bx i24 (.cells true 0 [I 0, I 0, I 3, I 0, I 0]) :: bx i21 (.cells true 0 [I 0, I 0, I 0, I 0, I 16]) :: L) := Sep.up3 (Sep.up3 h26)
  have m1 : manyC 7 ⟨0, 0, 0, 0, 16⟩ 256 = 12 := by decide +kernel
  have m2 : manyC 7 ⟨0, 0, 3, 0, 0⟩ 256 = 12 := by decide +kernel
  have m3 : manyC 4 ⟨0, 0, 3, 0, 0⟩ 256 = 12 := by decide +kernel
  have m4 : manyC 4 ⟨0, 0, 0, 0, 16⟩ 256 = 14 := by decide +kernel
  have m5 : manyC 5 ⟨0, 0, 0, 0, 16⟩ 256 = 12 := by decide +kernel
  have m6 : manyC 5 ⟨0, 0, 3, 0, 0⟩ 256 = 11 := by decide +kernel
  have m7 : manyC 6 ⟨0, 0, 0, 0, 16⟩ 256 = 11 := by decide +kernel
  have m8 : manyC 6 ⟨0, 0, 3, 0, 0⟩ 256 = 11 := by decide +kernel
  have m9 : manyC 1 ⟨0, 0, 3, 0, 0⟩ 256 = 4 := by decide +kernel
  have m10 : manyC 2 ⟨0, 0, 0, 0, 16⟩ 256 = 4 := by decide +kernel
  have m11 : manyC 3 ⟨0, 0, 3, 0, 0⟩ 256 = 6 := by decide +kernel
  have m12 : manyC 0 ⟨0, 0, 0, 0, 16⟩ 256 = 1 := by decide +kernel
  refine ⟨_, _, _, _, _, Sep.lds3 h26 rfl, many_s (x := ⟨0, 0, 0, 0, 16⟩) h26 fun H33 h33 => ⟨_, rfl, cond_no (by rw [m1]; rfl) ?_⟩⟩
  refine ⟨_, _, _, _, _, Sep.lds2 h33 rfl, many_s (x := ⟨0, 0, 3, 0, 0⟩) h33 fun H41 h41 => ⟨_, rfl, cond_no (by rw [m2]; rfl) ?_⟩⟩
  refine ⟨_, _, _, _, _, Sep.lds2 h41 rfl, many_s (x := ⟨0, 0, 3, 0, 0⟩) h41 fun H49 h49 => ⟨_, rfl, cond_no (by rw [m3]; rfl) ?_⟩⟩
  refine ⟨_, _, _, _, _, Sep.lds3 h49 rfl, many_s (x := ⟨0, 0, 0, 0, 16⟩) h49 fun H57 h57 => ⟨_, rfl, cond_no (by rw [m4]; rfl) ?_⟩⟩
  refine ⟨_, _, _, _, _, Sep.lds3 h57 rfl, many_s (x := ⟨0, 0, 0, 0, 16⟩) h57 fun H65 h65 => ⟨_, rfl, cond_no (by rw [m5]; rfl) ?_⟩⟩
  refine ⟨_, _, _, _, _, Sep.lds2 h65 rfl, many_s (x := ⟨0, 0, 3, 0, 0⟩) h65 fun H73 h73 => ⟨_, rfl, cond_no (by rw [m6]; rfl) ?_⟩⟩
  refine ⟨_, _, _, _, _, Sep.lds3 h73 rfl, many_s (x := ⟨0, 0, 0, 0, 16⟩) h73 fun H81 h81 => ⟨_, rfl, cond_no (by rw [m7]; rfl) ?_⟩⟩
  refine ⟨_, _, _, _, _, Sep.lds2 h81 rfl, many_s (x := ⟨0, 0, 3, 0, 0⟩) h81 fun H89 h89 => ⟨_, rfl, cond_no (by rw [m8]; rfl) ?_⟩⟩
  refine ⟨_, _, _, _, _, Sep.lds2 h89 rfl, many_s (x := ⟨0, 0, 3, 0, 0⟩) h89 fun H97 h97 => ⟨_, rfl, cond_no (by rw [m9]; rfl) ?_⟩⟩
  refine ⟨_, _, _, _, _, Sep.lds3 h97 rfl, many_s (x := ⟨0, 0, 0, 0, 16⟩) h97 fun H105 h105 => ⟨_, rfl, cond_no (by rw [m10]; rfl) ?_⟩⟩
  refine ⟨_, _, _, _, _, Sep.lds2 h105 rfl, many_s (x := ⟨0, 0, 3, 0, 0⟩) h105 fun H113 h113 => ⟨_, rfl, cond_no (by rw [m11]; rfl) ?_⟩⟩
  refine ⟨_, _, _, _, _, Sep.lds3 h113 rfl, many_s (x := ⟨0, 0, 0, 0, 16⟩) h113 fun H121 h121 => ⟨_, rfl, cond_no (by rw [m12]; rfl) ?_⟩⟩
  refine Sep.nw h121 fun ib H124 h124 => Sep.nw h124 fun iw H126 h126 => ?_
  have h126 : Sep H126 (gh :: ga :: bx ib (.cells true 5 (flatI bad)) :: bx iw (.cells true 1 (wantE.map fun v => I v)) :: L) := by
    have h1 : Sep H126 (bx iw (.cells true 1 (wantE.map fun v => I v)) :: bx ib (.cells true 5 (flatI bad)) :: gh :: ga :: bx i24 (.cells true 0 [I 0, I 0, I 3, I 0, I 0]) :: bx i21 (.cells true 0 [I 0, I 0, I 0, I 0, I 16]) :: L) := h126
    exact Sep.up3 (Sep.up3 (Sep.up1 (Sep.rm4 (Sep.rm4 h1))))
  refine use_crossbarlaw02_InsnKnown_0 (fun k t0 t5 H => ∃ j : Nat, j ≤ 20 ∧ k = 20 - j ∧ t5 = (j : Int) ∧ Sep H (gh :: ga :: bx ib (.cells true 5 (flatI bad)) :: bx iw (.cells true 1 (wantE.map fun v => I v)) :: L)) 20 ⟨0, by omega, by omega, by omega, h126⟩ ?_
  clear h h2 h4 h7 h9 h12 h14 h17 h19 h22 h23 h25 h26 h33 h41 h49 h57 h65 h73 h81 h89 h97 h105 h113 h121 h124 h126
  rintro k t0 t5 ys H3 ⟨j, hj, hk, rfl, hs⟩
  refine cond_of (fun h1 => ?_) fun h1 => ?_
  · have hj' : j < 20 := by simp only [decide_eq_true_eq] at h1; omega
    have hB := hs.bump 10
    obtain ⟨x, hx, hw⟩ := badW (Sep.up2 hB) hj'
    refine ⟨by unfold inB; omega, _, _, _, _, _, hx, check_s (x := x) hB fun H7 h7 => ⟨_, rfl, by unfold inB; omega, chkI x, ?_, ⟨cond_no (by simp) ⟨20 - (j + 1), by omega, j + 1, by omega, rfl, ?_, h7⟩, ⟨⟨_, ?_, rfl⟩, ⟨_, ?_, rfl⟩, trivial⟩, trivial⟩⟩⟩
    · exact Sep.ld3 h7 (by rw [Nat.zero_add, Int.toNat_natCast, Nat.mul_one, List.getElem?_map, hw]; rfl)
    · rw [wrap_i64 (by omega)]; omega
    · exact Sep.ld3 hB (by rw [Nat.zero_add, Int.toNat_natCast, Nat.mul_one, List.getElem?_map, hw]; rfl)
    · exact Sep.ld3 h7 (by rw [Nat.zero_add, Int.toNat_natCast, Nat.mul_one, List.getElem?_map, hw]; rfl)
  · refine asBool_in ?_
    have hs : Sep H3 (gh :: ga :: L) := Sep.rm2 (Sep.rm2 hs)
    refine use_crossbarlaw02_InsnKnown_1 (fun k t6 t6l t7 H => ∃ (j : Nat) (q : Option Nat), j ≤ 257 ∧ k = 257 - j ∧ t7 = (j : Int) ∧ t6 = addr q ∧ t6l = j ∧ (q = none → j = 0) ∧ Sep H (gl 5 q (flatI (List.replicate j exi)) :: gh :: ga :: L)) 257 ⟨0, none, by omega, by omega, by omega, rfl, rfl, fun _ => rfl, gl_none.2 hs⟩ ?_
    clear hs h1 hj hk
    rintro k t6 t6l t7 ys2 H4 ⟨j, q, hj, hk, rfl, rfl, rfl, hq, hs⟩
    refine cond_of (fun h1 => ?_) fun h1 => ?_
    · have hj' : t6l < 257 := by simp only [decide_eq_true_eq] at h1; omega
      refine Sep.nw hs fun i1 H5 h5 => ⟨exi.cells, rowOf_bx (es := 5) (n := 1) (b := i1) (Sep.get0 h5) (by decide) rfl, ?_⟩
      refine apd_gl (b := q) (len := t6l) (n := 1) (cs := flatI (List.replicate t6l exi)) (new := exi.cells) (Sep.up1 h5) (fun h => by rw [hq h]; rfl) (by decide) (by rw [flatI_len, List.length_replicate]) (by decide) rfl (by omega) fun H' q' h' => ⟨257 - (t6l + 1), by omega, t6l + 1, some q', by omega, by omega, ?_, rfl, rfl, (fun h => by cases h), ?_⟩
      · rw [wrap_i64 (by omega)]; omega
      · rw [List.replicate_succ', flatI_snoc]
        exact Sep.rm1 h'
    · obtain rfl : t6l = 257 := by simp only [decide_eq_false_iff_not] at h1; omega
      cases q with
      | none => exact absurd (hq rfl) (by decide)
      | some q =>
        refine asSl_in ?_
        have rd : Rds (gh :: ga :: gl 5 (some q) (flatI (List.replicate 257 exi)) :: L) (addr (some q)) (List.replicate 257 exi) := rds_gl (by simp) (fun h => by cases h)
        have e19 : putErr (List.replicate 257 exi) = 19 := if_pos (by rw [List.length_replicate]; decide)
        have P := Put_s (R := fun r H' => r = .tuple #[.slice none 0 0, I 19] ∧ Sep H' (gh :: ga :: gl 5 (some q) (flatI (List.replicate 257 exi)) :: L)) (Sep.up2 (Sep.up2 hs)) rd (fun _ H' h' => ⟨by rw [e19], h'⟩) (fun h => by rw [e19] at h; cases h)
        rw [List.length_replicate] at P
        refine P.mono ?_
        rintro _ H135 ⟨rfl, h135⟩
        refine ⟨_, _, _, rfl, by unfold inS; omega, ⟨⟨_, _, _, gl_get (Sep.up2 h135), .inr rfl⟩, ?_⟩⟩
        have rd2 : Rds (gh :: ga :: gl 5 (some q) (flatI (List.replicate 257 exi)) :: L) (addr (some q)) (List.replicate 256 exi) := fun H' hs j x hx => rd H' hs j x (by
          have hj := (List.getElem?_eq_some_iff.1 hx).1
          rw [List.length_replicate] at hj
          rw [List.getElem?_replicate, if_pos hj] at hx
          rw [List.getElem?_replicate, if_pos (by omega)]
          exact hx)
        have e0 : putErr (List.replicate 256 exi) = 0 := by
          unfold putErr
          rw [if_neg (by rw [List.length_replicate]; decide)]
          exact firstE_zero.2 (reps_chk 256)
        have P2 := Put_s (R := fun r H' => ∃ p, (p = none → puts (List.replicate 256 exi) = []) ∧ r = .tuple #[.slice (addr p) (puts (List.replicate 256 exi)).length 0, I 0] ∧ Sep H' (gl 1 p ((puts (List.replicate 256 exi)).map Y) :: gh :: ga :: gl 5 (some q) (flatI (List.replicate 257 exi)) :: L)) h135 rd2 (fun h => absurd e0 h) (fun _ H' p hp h' => ⟨p, hp, rfl, h'⟩)
        rw [List.length_replicate] at P2
        refine P2.mono ?_
        rintro _ H141 ⟨p, hp, rfl, h141⟩
        refine ⟨_, _, _, rfl, Sep.nw h141 fun i145 H146 h146 => ⟨[Y 149, Y 0, Y 0, Y 0, Y 0, Y 0, Y 0, Y 0], rowOf_bx (es := 1) (n := 8) (b := i145) (Sep.get0 h146) (by decide) rfl, ?_⟩⟩
        have hl56 : (puts (List.replicate 256 exi)).length = 2048 := by kernel_rfl
        refine apd_gl (b := p) (len := (puts (List.replicate 256 exi)).length) (n := 8) (cs := (puts (List.replicate 256 exi)).map Y) (new := [Y 149, Y 0, Y 0, Y 0, Y 0, Y 0, Y 0, Y 0]) (Sep.up1 h146) (fun h => by rw [hp h]; rfl) (by decide) (by rw [List.length_map, Nat.mul_one]) (by decide) rfl (by rw [hl56]; decide) fun H150 p2 h150 => ?_
        have h150 : Sep H150 (gl 1 (some p2) ((puts (List.replicate 257 exi)).map Y) :: gh :: ga :: gl 5 (some q) (flatI (List.replicate 257 exi)) :: L) := by
          rw [← puts_many, List.map_append]
          exact Sep.rm1 h150
        have hl57 : (puts (List.replicate 256 exi)).length + 8 = (puts (List.replicate 257 exi)).length := by rw [hl56, puts_many_len]
        rw [hl57]
        refine Get_gl h150 (fun h => by cases h) (puts_lt _) (by rw [puts_many_len]; decide) (fun e he H152 h152 => ⟨_, _, _, rfl, ?_⟩) fun l hl => by rw [get_many] at hl; cases hl
        rw [get_many] at he
        obtain rfl : (19 : Int) = e := by cases he; rfl
        refine Sep.nw h152 fun i156 H157 h157 => ?_
        have h157 : Sep H157 (gl 1 (some i156) (([24, 0, 0, 0, 0, 0, 0, 0, 1, 0, 0, 0, 0, 0, 0, 0] : List Nat).map Y) :: gh :: ga :: gl 1 (some p2) ((puts (List.replicate 257 exi)).map Y) :: gl 5 (some q) (flatI (List.replicate 257 exi)) :: L) := gl_some.2 (Sep.up2 (Sep.up3 (Sep.up3 h157)))
        refine Get_gl (q := some i156) (bs := [24, 0, 0, 0, 0, 0, 0, 0, 1, 0, 0, 0, 0, 0, 0, 0]) h157 (fun h => by cases h) (by decide) (by decide) (fun e he H159 h159 => ⟨_, _, _, rfl, ?_⟩) fun l hl => by rw [get_odd] at hl; cases hl
        rw [get_odd] at he
        obtain rfl : (9 : Int) = e := by cases he; rfl
        exact cond_yes rfl (cond_yes rfl (cond_yes rfl (cond_yes rfl (known02_s h159.tail fun _ _ => ⟨_, rfl, rfl⟩))))

theorem InsnKnown_law (H : Heap) (us : List Value) (hG : ∀ p ∈ [(0, gHalf), (1, gAtom)], p.1 < H.next ∧ H.get p.1 = some (.cells false 0 p.2)) (h : shpVs en H 7 [] us) : CA en F.crossbarlaw02_InsnKnown us H fun v _ => v = .bool true := by
  have e : us = [] := h
  subst e
  exact InsnKnown_ok (sepG hG)
end Go.Proofs.YtmgkngdbphkmmaaDoor
