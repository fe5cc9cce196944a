/-
  hashOnce.proved: the statement holds, whatever the arguments, the memory and the tape. No condition.
  Written by a program out of the texts HashOnce HashOnceProof.
-/
import Derived.Test.YtjggeoghlicmdaaGreatHashOnceP7
import Derived.Test.YtjggeoghlicmdaaGreatRows
import Derived.WalkKit
import Derived.ProofKit
import Derived.OpenShut
namespace Go.Proofs.YtjggeoghlicmdaaGreat
open Go Go.AS Go.RowKit
set_option linter.unusedVariables false
variable {H H' : Heap} {R : Value → Heap → Prop} {L M : List Asr} {n : Nat} {n0 n1 : Int} {l : List Int} {a : Option Addr} {A : Ab} {X : Gx} {c : Lc} {cap mx : Int}
theorem miss_new {c : Lc} {B : Nat} {ky : Wd} (hB : c.d3 = (B : Int)) (h1 : 1 ≤ B) : Miss c (List.replicate B []) ky := by
  have hb := bkt_in (k := ky) (n := c.d3) (by omega)
  refine ⟨(bkt ky c.d3).toNat, [], by omega, ?_, fun e he => by cases he⟩
  rw [List.getElem?_replicate, if_pos (by omega)]
structure Laid78 (x m g : Nat) (X : Gx) : Prop where
  ex : ∃ A M, Rest ⟨1, 2, 4⟩ (hcOf x m g 2 4) 386 100000 A X.G M ∧ X.G.S.made ≤ 3 ∧ (∃ h, Is (hcOf x m g 2 4) M 7 h ∧ val X.G.S h = 70) ∧ Miss (hcOf x m g 2 4) M 9
structure Begun (x m g : Nat) (T : List Asr) (X : Gx) (p : Hr → Nat → Prop) (Rs : List Hr) (o : Option Nat) (H : Heap) : Prop where
  ok : ∀ R ∈ Rs, R.ok
  ho : o = none → Rs = []
  new : ∀ (a : Nat) (R : Hr), Rs[a]? = some R → p R a
  sep : Sep H (xA (hcOf x m g 2 4) :: grA g m X :: many (Rs.map (hrA (hcOf x m g 2 4))) :: gl 1 o (ptrs Rs) :: T)
def IsNew (c : Lc) (T : Nat) (R : Hr) (a : Nat) : Prop := New c R.q ∧ (a < T → R.q.kd = 5 ∧ R.q.ky = 7) ∧ (T ≤ a → R.q.kd = 2 ∧ R.q.ky = 9 ∧ R.q.fl = 1)
set_option maxHeartbeats 10000000 in
theorem HashOnce_ok (ha : Arg a n (l.map fun v => [I v]) M) (h : Sep H M) : CA en F.crossbarlaw15_HashOnce [I n0, I n1, .slice a n 0] H fun v _ => v = .bool true := by
  have hn : n = l.length := by rw [ha.len, List.length_map]
  subst hn
  apply vc_crossbarlaw15_HashOnce
  refine made_s (by decide) (.inr (.inr (.inl rfl))) (by decide) h fun H2 x m g X0 A0 hI hls _ _ _ hch h2 => ⟨_, _, _, rfl, cond_no rfl ?_⟩
  refine cond_of (fun _ => cond_yes rfl (CA_truth (by kernel_rfl) ⟨_, rfl, rfl⟩)) fun hl => ?_
  have hl : l.length ≤ 400 := by have := of_decide_eq_false hl; omega
  have hls : A0.ls = List.replicate 4 [] := hls
  have hI : Idle (hcOf x m g 2 4) 386 1 A0 X0.G := hI
  have hl4 : A0.ls.length = 4 := by rw [hls, List.length_replicate]
  have hmb : A0.mb ≤ 1 := hI.mx
  have R0 : Rest ⟨1, 2, 4⟩ (hcOf x m g 2 4) 386 10 A0 X0.G A0.ls := hI.rest (by rw [hls]; simp) rfl hl4.symm ⟨by omega, by rw [hch]; decide, by decide⟩
  have m7 : Miss (hcOf x m g 2 4) A0.ls 7 := by rw [hls]; exact miss_new rfl (by decide)
  have m8 : Miss (hcOf x m g 2 4) A0.ls 8 := by rw [hls]; exact miss_new rfl (by decide)
  have m9 : Miss (hcOf x m g 2 4) A0.ls 9 := by rw [hls]; exact miss_new rfl (by decide)
  have f0 : A0.ls.flatten.length = 0 := by rw [hls]; rfl
  have made0 : X0.G.S.made ≤ 1 := by have := hI.mem.made.1; omega
  apply vc_crossbarlaw15_update
  refine Sep.nw h2 fun ia H2 h2 => Sep.nw h2 fun i3 H4 h4 => Sep.st1 h4 (Nat.le_of_ble_eq_true rfl) fun H5 h5 => ⟨_, _, _, _, _, _, Sep.lds1 h5 rfl, _, _, _, _, _, _, rfl, ?_⟩
  -- i3 ia xA gr M
  refine gives_s (ky := 7) (v := 70) (C := 1000) (c := hcOf x m g 2 4) (L := M) R0 m7 (by rw [f0]; show (0 : Int) < 2; decide) (by omega) (by decide) (by decide) (Sep.pick h5 4 [2, 3, 0] (by decide)) fun H21 X1 A1 M1 R1 hmd1 _ hx1 h21 => ⟨_, rfl, cond_no rfl ?_⟩
  obtain ⟨i1, p1, r1, y1, b1, g1, rfl, k1, v1, w1⟩ := hx1
  have s7 : Is (hcOf x m g 2 4) (A0.ls.set i1 (p1 ++ y1 :: r1)) 7 y1.h := Is.laid g1 b1 k1
  have f1 := add_len (y := y1) g1
  apply vc_crossbarlaw15_update
  refine Sep.nw h21 fun ib H22 h22 => Sep.nw h22 fun i4 H24 h24 => Sep.st1 h24 (Nat.le_of_ble_eq_true rfl) fun H25 h25 => ⟨_, _, _, _, _, _, Sep.lds1 h25 rfl, _, _, _, _, _, _, rfl, ?_⟩
  refine gives_s (ky := 8) (v := 80) (C := 100000) (c := hcOf x m g 2 4) (L := M) R1 (m8.add g1 (by rw [k1]; decide)) (by rw [f1, f0]; show (1 : Int) < 2; decide) (by omega) (by decide) (by decide) (Sep.pick h25 4 [2, 3, 0] (by decide)) fun H31 X2 A2 M2 R2 hmd2 _ hx2 h31 => ⟨_, rfl, cond_no rfl ?_⟩
  obtain ⟨i2, p2, r2, y2, b2, g2, rfl, k2, v2, w2⟩ := hx2
  have hL : Laid78 x m g X2 := ⟨A2, _, R2, by omega, ⟨y1.h, s7.add g2, by rw [w2 _ s7.hs]; exact v1⟩, (m9.add g1 (by rw [k1]; decide)).add g2 (by rw [k2]; decide)⟩
  clear h5 h4 h25 h24 h22 h21 R0 R1 R2 hI m7 m8 m9 g1 g2 b1 b2 w1 w2 v1 v2 s7 f1 f0
  refine Pick_ok (by decide) (by decide) ⟨_, rfl, Pick_ok (by decide) (by decide) ⟨_, rfl, ?_⟩⟩
  obtain ⟨T, hT, hT3⟩ : ∃ T : Nat, IntKind.i64.wrap (2 + n0 % 3) = (T : Int) ∧ 2 ≤ T ∧ T ≤ 4 := by
    have h0 := Int.emod_nonneg n0 (show (3 : Int) ≠ 0 by decide)
    have h1 := Int.emod_lt_of_pos n0 (show (0 : Int) < 3 by decide)
    exact ⟨(2 + n0 % 3).toNat, by rw [wrap_i64 (by omega)]; omega, by omega, by omega⟩
  obtain ⟨Y, hY, hY3⟩ : ∃ Y : Nat, IntKind.i64.wrap (2 + n1 % 3) = (Y : Int) ∧ 2 ≤ Y ∧ Y ≤ 4 := by
    have h0 := Int.emod_nonneg n1 (show (3 : Int) ≠ 0 by decide)
    have h1 := Int.emod_lt_of_pos n1 (show (0 : Int) < 3 by decide)
    exact ⟨(2 + n1 % 3).toNat, by rw [wrap_i64 (by omega)]; omega, by omega, by omega⟩
  rw [hT, hY]
  refine use_crossbarlaw15_HashOnce_0 (fun k t10 t10l t11 H => ∃ (j : Nat) (Rs : List Hr) (o : Option Nat), j ≤ T ∧ k = T - j ∧ t11 = (j : Int) ∧ t10l = Rs.length ∧ Rs.length = j ∧ t10 = addr o ∧ Begun x m g M X2 (IsNew (hcOf x m g 2 4) T) Rs o H) T
    ⟨0, [], none, by omega, rfl, rfl, rfl, rfl, rfl, ⟨fun R h => (by cases h), fun _ => rfl, fun a R h => (by simp at h), ?_⟩⟩ ?_
  · have h32 := Sep.many0 ((gl_none (es := 1) (cs := ptrs [])).2 h31)
    exact Sep.pick h32 4 [2, 3, 0, 1] (by decide)
  rintro k t10 t10l t11 ys H1 ⟨j, Rs, o, hj, rfl, rfl, rfl, hlen, rfl, hB⟩
  refine cond_of (fun e => ?_) fun e => ?_
  · have e : j < T := by have := of_decide_eq_true e; omega
    apply vc_crossbarlaw15_on
    refine Sep.nw hB.sep fun ia H2 h2 => Sep.st0 h2 (Nat.le_of_ble_eq_true rfl) fun H3 h3 => ⟨_, _, _, _, _, _, Sep.lds0 h3 rfl, _, _, _, _, _, _, rfl, ?_⟩
    refine begin_push (vs := []) (ky := 7) (kd := 5) (fl := 0) (L := M) hB.ok hB.ho (by omega) (Sep.rm0 h3) rfl (by show (4 : Int) < _; decide) (fun w hw => by cases hw) fun H4 R' b o' hq hok h4 => ?_
    refine ⟨T - (Rs.length + 1), by omega, Rs.length + 1, Rs ++ [R'], some o', by omega, rfl, by rw [wrap_i64 (by omega)]; omega, by simp, by simp, rfl, hok, (fun e => by cases e), fun b2 R hR => ?_, h4⟩
    by_cases e2 : b2 < Rs.length
    · rw [List.getElem?_append_left e2] at hR
      exact hB.new b2 R hR
    · rw [List.getElem?_append_right (by omega)] at hR
      have hb := (List.getElem?_eq_some_iff.1 hR).1
      simp only [List.length_singleton] at hb
      have eb : b2 = Rs.length := by omega
      subst eb
      rw [Nat.sub_self] at hR
      obtain rfl : R' = R := by simpa using hR
      obtain ⟨k1, k2, k3, k4⟩ := new_kd (c := hcOf x m g 2 4) (kd := 5) (fl := 0) (cpu := 0) (ky := 7) (v := 0) (b0 := b)
      have hq : R'.q = Qr.new (hcOf x m g 2 4) 5 7 0 0 0 b := hq
      unfold IsNew
      rw [hq]
      exact ⟨new_new (by show (1 : Int) ≤ 4; decide), fun _ => ⟨k1, k2⟩, fun h => by omega⟩
  · have hjT : Rs.length = T := by have := of_decide_eq_false e; omega
    refine asSl_in ?_
    refine use_crossbarlaw15_HashOnce_1 (fun k t10 t10l t12 H => ∃ (j : Nat) (Rs : List Hr) (o : Option Nat), j ≤ Y ∧ k = Y - j ∧ t12 = (j : Int) ∧ t10l = Rs.length ∧ Rs.length = T + j ∧ t10 = addr o ∧ Begun x m g M X2 (IsNew (hcOf x m g 2 4) T) Rs o H) Y
      ⟨0, Rs, o, by omega, rfl, rfl, rfl, by omega, rfl, hB⟩ ?_
    clear hB
    rintro k t10 t10l t12 ys2 H1 ⟨j, Rs, o, hj, rfl, rfl, rfl, hlen, rfl, hB⟩
    refine cond_of (fun e => ?_) fun e => ?_
    · have e : j < Y := by have := of_decide_eq_true e; omega
      apply vc_crossbarlaw15_update
      have ew : (Value.int .u64 (IntKind.u64.wrap (j : Int))) = W (BitVec.ofNat 64 j) := by
        have h1 : IntKind.u64.wrap (j : Int) = (j : Int) % 18446744073709551616 := rfl
        have h2 : ((BitVec.ofNat 64 j).toNat : Int) = (j : Int) := by rw [BitVec.toNat_ofNat]; omega
        show Value.int .u64 _ = Value.int .u64 _
        rw [h1, h2]; congr 1
      rw [ew]
      refine Sep.nw hB.sep fun ia H2 h2 => Sep.nw h2 fun i3 H4 h4 => Sep.st1 h4 (Nat.le_of_ble_eq_true rfl) fun H5 h5 => ⟨_, _, _, _, _, _, Sep.lds1 h5 rfl, _, _, _, _, _, _, rfl, ?_⟩
      -- i3 ia xA gr runs list M
      have h6 : Sep H5 (xA (hcOf x m g 2 4) :: grA g m X2 :: many (Rs.map (hrA (hcOf x m g 2 4))) :: gl 1 o (ptrs Rs) :: bx i3 (.cells true 1 [W (BitVec.ofNat 64 j)]) :: M) := Sep.pick h5 6 [2, 3, 4, 5, 0] (by decide)
      refine begin_push (vs := [BitVec.ofNat 64 j]) (ky := 9) (kd := 2) (fl := 1) (L := bx i3 (.cells true 1 [W (BitVec.ofNat 64 j)]) :: M) hB.ok hB.ho (by omega) h6 rfl (by show (4 : Int) < _; decide) (fun w hw => ⟨i3, 0, rfl, fun H' h' => ?_⟩) fun H7 R' b o' hq hok h7 => ?_
      · obtain rfl : BitVec.ofNat 64 j = w := by simpa using hw
        exact Sep.ld0 h' rfl
      refine ⟨Y - (j + 1), by omega, j + 1, Rs ++ [R'], some o', by omega, rfl, by rw [wrap_i64 (by omega)]; omega, by simp, by simp; omega, rfl, hok, (fun e => by cases e), fun b2 R hR => ?_, Sep.rm4 h7⟩
      by_cases e2 : b2 < Rs.length
      · rw [List.getElem?_append_left e2] at hR
        exact hB.new b2 R hR
      · rw [List.getElem?_append_right (by omega)] at hR
        have hb := (List.getElem?_eq_some_iff.1 hR).1
        simp only [List.length_singleton] at hb
        have eb : b2 = Rs.length := by omega
        subst eb
        rw [Nat.sub_self] at hR
        obtain rfl : R' = R := by simpa using hR
        obtain ⟨k1, k2, k3, k4⟩ := new_kd (c := hcOf x m g 2 4) (kd := 2) (fl := 1) (cpu := 0) (ky := 9) (v := BitVec.ofNat 64 j) (b0 := b)
        have hq : R'.q = Qr.new (hcOf x m g 2 4) 2 9 1 0 (BitVec.ofNat 64 j) b := hq
        unfold IsNew
        rw [hq]
        exact ⟨new_new (by show (1 : Int) ≤ 4; decide), fun h => by omega, fun _ => ⟨k1, k2, k3⟩⟩
    · have hjY : j = Y := by have := of_decide_eq_false e; omega
      subst hjY
      refine asSl_in ?_
      obtain ⟨A9, M9, R9, hmd9, ⟨h7, is7, v7⟩, m9⟩ := hL.ex
      refine ⟨⟨by omega, Int.le_refl _, by omega⟩, Sep.nw hB.sep fun i48 H49 h49 => ?_⟩
      have hz : reps ((Rs.length : Int)).toNat [.bool false] = Rs.map fun R => Value.bool R.q.dn := by
        rw [Int.toNat_natCast, reps_one]
        refine (List.eq_replicate_iff.2 ⟨by simp, fun v hv => ?_⟩).symm
        obtain ⟨R, hR, rfl⟩ := List.mem_map.1 hv
        obtain ⟨k, hk⟩ := List.getElem?_of_mem hR
        rw [(hB.new k R hk).1.dn]
      rw [hz] at h49
      have hq : ∀ (a : Nat) (q : Qr), (Rs.map Hr.q)[a]? = some q → ∃ R, Rs[a]? = some R ∧ R.q = q := fun a q h => by
        rw [List.getElem?_map] at h
        cases hr : Rs[a]? with
        | none => rw [hr] at h; cases h
        | some R => rw [hr] at h; exact ⟨R, rfl, by simpa using h⟩
      have P0 : Lp (hcOf x m g 2 4) T (Rs.map Hr.q).length 3560 l.length (Rs.map Hr.q) X2.G 0 := lp_init R9 hmd9 is7 v7 m9 (fun a q h => by
          obtain ⟨R, hR, rfl⟩ := hq a q h
          exact (hB.new a R hR).1) (fun a q h => by
          obtain ⟨R, hR, rfl⟩ := hq a q h
          exact (hB.new a R hR).2) (by simp; omega) (by simp; omega)
      rw [List.length_map] at P0
      obtain ⟨Z, hZ⟩ : ∃ Z : Nat, Z = 80000 := ⟨_, rfl⟩
      have eZ : IntKind.i64.wrap (((l.length : Nat) : Int) + 80000) = ((l.length + Z : Nat) : Int) := by rw [wrap_i64 (by omega)]; omega
      have ho := hB.ho
      have hnn : 4 ≤ Rs.length ∧ Rs.length ≤ 8 := by omega
      have hT8 : T < Rs.length := by omega
      refine LA_imp2 (J0 := fun y H => ∃ (at' : Nat) (Rs' : List Hr) (X : Gx), at' ≤ l.length + Z ∧ (∃ b, y.getD 6 undef = .bool b) ∧ y.getD 14 undef = I 0 ∧ Over (Rs'.map Hr.q) ∧ Rs'.length = Rs.length ∧ ptrs Rs' = ptrs Rs ∧ (∀ R ∈ Rs', R.ok) ∧
        Lp (hcOf x m g 2 4) T Rs.length 3560 l.length (Rs'.map Hr.q) X.G at' ∧ Sep H (xA (hcOf x m g 2 4) :: grA g m X :: many (Rs'.map (hrA (hcOf x m g 2 4))) :: gl 1 o (ptrs Rs) :: M)) (J1 := fun _ _ => False) (use_crossbarlaw15_HashOnce_2 (fun k t6 t14 t15 H => ∃ (at' : Nat) (Rs' : List Hr) (X : Gx), at' ≤ l.length + Z ∧ k = l.length + Z - at' ∧ t15 = (at' : Int) ∧ t14 = (lefts (Rs'.map Hr.q) : Int) ∧ Rs'.length = Rs.length ∧ ptrs Rs' = ptrs Rs ∧ (∀ R ∈ Rs', R.ok) ∧
        Lp (hcOf x m g 2 4) T Rs.length 3560 l.length (Rs'.map Hr.q) X.G at' ∧
        Sep H (xA (hcOf x m g 2 4) :: grA g m X :: many (Rs'.map (hrA (hcOf x m g 2 4))) :: gl 1 o (ptrs Rs) :: bx i48 (.cells true 1 (Rs'.map fun R => .bool R.q.dn)) :: M)) (l.length + Z)
        ⟨0, Rs, X2, by omega, rfl, rfl, ?_, rfl, rfl, hB.ok, P0, Sep.pick h49 5 [1, 2, 3, 4, 0] (by decide)⟩ ?_) ?_ fun _ _ h => h.elim
      · have e9 : lefts (Rs.map Hr.q) = Rs.length := by
          refine (lefts_all fun q hq => ?_).trans (List.length_map ..)
          obtain ⟨R, hR, rfl⟩ := List.mem_map.1 hq
          obtain ⟨k, hk⟩ := List.getElem?_of_mem hR
          exact (hB.new k R hk).1.dn
        rw [e9]
      · clear hB P0 h49 hz
        intro k t6 t14 t15 ys3 H1 hI
        rw [eZ]
        obtain ⟨at', Rs', X, hat, hk, e15, e14, hl', hpt, hok, P, h1⟩ := hI
        subst e15 e14 hk
        have hlq : (Rs'.map Hr.q).length = Rs.length := by rw [List.length_map]; exact hl'
        have ho' : o = none → Rs' = [] := fun e => by have := ho e; rw [this] at hnn; simp at hnn
        refine cond_of (fun e1 => cond_of (fun e2 => ?_) fun e2 => ?_) fun e1 => ?_
        · have e1 := of_decide_eq_true e1
          refine ⟨by unfold nz; omega, fun vs H => ∃ a : Nat, a < Rs.length ∧ vs = [I a] ∧ (l.length ≤ at' → a = at' % Rs.length) ∧ Sep H (xA (hcOf x m g 2 4) :: grA g m X :: many (Rs'.map (hrA (hcOf x m g 2 4))) :: gl 1 o (ptrs Rs) :: bx i48 (.cells true 1 (Rs'.map fun R => .bool R.q.dn)) :: M), ?_, ?_⟩
          · refine cond_of (fun e3 => ?_) fun e3 => ?_
            · have e3 : at' < l.length := by have := of_decide_eq_true e3; omega
              obtain ⟨i, hai, _, hcell⟩ := ha.row (w := 1) h1 (fun A hA => by simp [hA]) (fun c hc => by obtain ⟨v, _, rfl⟩ := List.mem_map.1 hc; rfl) (j := at') (by simpa using e3)
              have hc0 := hcell 0 (by decide)
              rw [List.getElem_map] at hc0
              refine ⟨by unfold inB; omega, ?_⟩
              rw [hai]
              refine asRow_in ⟨l[at'], by rw [Int.toNat_natCast]; exact hc0, Pick_ok (by omega) (by omega) ⟨_, rfl, (l[at'] % (Rs.length : Int)).toNat, ?_, ?_, fun h => by omega, h1⟩⟩
              · have := Int.emod_lt_of_pos l[at'] (b := (Rs.length : Int)) (by omega)
                omega
              · have := Int.emod_nonneg l[at'] (b := (Rs.length : Int)) (by omega)
                rw [Int.toNat_of_nonneg this]
            · exact ⟨at' % Rs.length, Nat.mod_lt _ (by omega), rfl, fun _ => rfl, h1⟩
          · rintro ys8 H9 n10 ⟨a1, ha1, e10, hmod, h9⟩
            obtain rfl : n10 = (a1 : Int) := by simpa using e10
            obtain ⟨R1, hR1⟩ : ∃ R, Rs'[a1]? = some R := ⟨_, List.getElem?_eq_getElem (by omega)⟩
            have h9' : ∀ {H' : Heap} {X' : Gx} {Q : Asr}, Sep H' (xA (hcOf x m g 2 4) :: grA g m X' :: Q :: gl 1 o (ptrs Rs) :: bx i48 (.cells true 1 (Rs'.map fun R => .bool R.q.dn)) :: M) → Sep H' (gl 1 o (ptrs Rs') :: xA (hcOf x m g 2 4) :: grA g m X' :: Q :: bx i48 (.cells true 1 (Rs'.map fun R => .bool R.q.dn)) :: M) := fun h => by rw [hpt]; exact Sep.up3 h
            refine ⟨by unfold inB; omega, ptr_at hR1 ho' (h9' h9) fun i e => ⟨_, by rw [Int.toNat_natCast]; exact e, cond_no rfl ⟨by unfold inB; omega, ptr_at hR1 ho' (h9' h9) fun i2 e2 => ⟨_, by rw [Int.toNat_natCast]; exact e2, ?_⟩⟩⟩⟩
            obtain ⟨A5, ks5, M5, w5, v5, W5, _⟩ := P.ex
            refine runs_step W5 hok hR1 h9 fun H2 X' R2 b er eq eX hok2 h2 => ⟨_, _, rfl, ?_⟩
            have hq1 : (Rs'.map Hr.q)[a1]? = some R1.q := by rw [List.getElem?_map, hR1]; rfl
            have P2 : Lp (hcOf x m g 2 4) T Rs.length 3560 l.length ((Rs'.set a1 R2).map Hr.q) X'.G (at' + 1) := by
              rw [List.map_set, eq, eX]
              exact lp_step P (by omega) hnn.2 (by omega) hq1 hmod b
            have hpt2 : ptrs (Rs'.set a1 R2) = ptrs Rs := by
              rw [← hpt]
              show (Rs'.set a1 R2).map _ = _
              rw [List.map_set, er]
              exact set_selfA (by rw [List.getElem?_map, hR1]; rfl)
            have hlf : lefts ((Rs'.set a1 R2).map Hr.q) + (if R1.q.dn then 0 else 1) = lefts (Rs'.map Hr.q) + (if R2.q.dn then 0 else 1) := by rw [List.map_set]; exact lefts_set hq1
            have hfl : ((Rs'.set a1 R2).map fun R => Value.bool R.q.dn) = (Rs'.map fun R => Value.bool R.q.dn).set a1 (.bool R2.q.dn) := List.map_set ..
            have hft : (Rs'.map fun R => Value.bool R.q.dn)[a1]? = some (.bool R1.q.dn) := by rw [List.getElem?_map, hR1]; rfl
            have et : IntKind.i64.wrap ((at' : Int) + 1) = ((at' + 1 : Nat) : Int) := by rw [wrap_i64 (by omega)]; omega
            have hst : R1.q.dn = true → R2.q.dn = true := fun h => by rw [eq]; unfold Qr.step; rw [if_pos h]; exact h
            -- nothing of the flags turns
            have same : R2.q.dn = R1.q.dn → ∃ k', k' < l.length + Z - at' ∧ ∃ (at2 : Nat) (Rs2 : List Hr) (X : Gx), at2 ≤ l.length + Z ∧ k' = l.length + Z - at2 ∧ IntKind.i64.wrap ((at' : Int) + 1) = (at2 : Int) ∧ (lefts (Rs'.map Hr.q) : Int) = (lefts (Rs2.map Hr.q) : Int) ∧ Rs2.length = Rs.length ∧ ptrs Rs2 = ptrs Rs ∧ (∀ R ∈ Rs2, R.ok) ∧
                Lp (hcOf x m g 2 4) T Rs.length 3560 l.length (Rs2.map Hr.q) X.G at2 ∧
                Sep H2 (xA (hcOf x m g 2 4) :: grA g m X :: many (Rs2.map (hrA (hcOf x m g 2 4))) :: gl 1 o (ptrs Rs) :: bx i48 (.cells true 1 (Rs2.map fun R => .bool R.q.dn)) :: M) := fun hd => by
              rw [hd] at hlf hfl
              refine ⟨l.length + Z - (at' + 1), by omega, at' + 1, Rs'.set a1 R2, X', by omega, rfl, et, by omega, by rw [List.length_set]; exact hl', hpt2, hok2, P2, ?_⟩
              rw [hfl, set_selfA hft]
              exact h2
            refine cond_of (fun dd => ?_) fun dd => ?_
            · refine ⟨by unfold inB; omega, R1.q.dn, Sep.ld4 h2 (by rw [Int.toNat_natCast, Nat.zero_add, Nat.mul_one]; exact hft), cond_of (fun ff => ?_) fun ff => ?_⟩
              · have ff : R1.q.dn = false := by simpa using ff
                have dd : R2.q.dn = true := by
                  have dd : (R1.q.tells (R1.q.step (hcOf x m g 2 4) X.G b).1).2 = true := dd
                  unfold Qr.tells at dd
                  rw [if_neg (by rw [ff]; exact Bool.false_ne_true), ← eq] at dd
                  exact dd
                refine ⟨by unfold inB; omega, Sep.st4 h2 (by rw [Int.toNat_natCast, Nat.zero_add, Nat.mul_one, List.length_map, hl']; exact ha1) fun H3 h3 => ?_⟩
                rw [ff, dd] at hlf
                simp only [Bool.false_eq_true, if_false, if_true] at hlf
                refine ⟨l.length + Z - (at' + 1), by omega, at' + 1, Rs'.set a1 R2, X', by omega, rfl, et, (by have := lefts_le (Rs'.map Hr.q); rw [hlq] at this; rw [wrap_i64 (by omega)]; omega), by rw [List.length_set]; exact hl', hpt2, hok2, P2, ?_⟩
                rw [hfl, dd]
                rw [Int.toNat_natCast, Nat.zero_add, Nat.mul_one] at h3
                exact h3
              · have ff : R1.q.dn = true := by simpa using ff
                exact same ((hst ff).trans ff.symm)
            · have dd : (R1.q.tells (R1.q.step (hcOf x m g 2 4) X.G b).1).2 = false := dd
              have ff : R1.q.dn = false := by
                cases h : R1.q.dn with
                | false => rfl
                | true => unfold Qr.tells at dd; rw [if_pos h] at dd; cases dd
              unfold Qr.tells at dd
              rw [if_neg (by rw [ff]; exact Bool.false_ne_true), ← eq] at dd
              exact same (dd.trans ff.symm)
        all_goals
          have O : Over (Rs'.map Hr.q) := by
            first
              | exact lefts_zero.1 (by have := of_decide_eq_false e2; omega)
              | (have e1 := of_decide_eq_false e1
                 exact lp_over P (by omega) (by omega) (by omega))
          have hO0 : lefts (Rs'.map Hr.q) = 0 := lefts_zero.2 O
          exact ⟨at', Rs', X, hat, ⟨t6, rfl⟩, (by show I (lefts (Rs'.map Hr.q) : Int) = I 0; rw [hO0]; rfl), O, hl', hpt, hok, P, Sep.rm4 h1⟩
      · clear hB P0 h49 hz
        rintro y H1 ⟨at', Rs', X, hat, ⟨t6, ey6⟩, ey14, O, hl', hpt, hok, P, h1⟩
        rw [ey6, ey14]
        have hlq : (Rs'.map Hr.q).length = Rs.length := by rw [List.length_map]; exact hl'
        refine asBool_in (asInt_in ?_)
        obtain ⟨A5, ks5, M5, w5, v5, W5, D5, Y5, _⟩ := P.ex
        obtain ⟨w, lw, b1, b2, b3, b4⟩ := hist_over Y5 O (by omega) (by rw [hlq]; exact hT8)
        have hz5 := W5.rest D5 O
        rw [hlq] at b3
        let tk : Nat → Int := fun j => if w < j then 1 else 0
        let ld : Nat → Int := fun j => if lw < j then 1 else 0
        refine LA_imp2 (J0 := fun y H => ∃ Rs3 : List Hr, (∃ b, y.getD 6 undef = .bool b) ∧ y.getD 19 undef = I 1 ∧ y.getD 20 undef = I (ld Rs.length) ∧ Sep H (xA (hcOf x m g 2 4) :: grA g m X :: many (Rs3.map (hrA (hcOf x m g 2 4))) :: gl 1 o (ptrs Rs) :: M)) (J1 := fun _ _ => False) (use_crossbarlaw15_HashOnce_3 (fun k t6 t19 t20 t21 H => ∃ (j : Nat) (Rs3 : List Hr), j ≤ Rs.length ∧ k = Rs.length - j ∧ t19 = tk j ∧ t20 = ld j ∧ t21 = (j : Int) ∧ Rs3.map Hr.q = Rs'.map Hr.q ∧ ptrs Rs3 = ptrs Rs ∧ (∀ R ∈ Rs3, R.ok) ∧
          Sep H (xA (hcOf x m g 2 4) :: grA g m X :: many (Rs3.map (hrA (hcOf x m g 2 4))) :: gl 1 o (ptrs Rs) :: M)) Rs.length
          ⟨0, Rs', by omega, rfl, by show (0 : Int) = if w < 0 then 1 else 0; rw [if_neg (by omega)], by show (0 : Int) = if lw < 0 then 1 else 0; rw [if_neg (by omega)], rfl, rfl, hpt, hok, h1⟩ ?_) ?_ fun _ _ h => h.elim
        · rintro k t6 t19 t20 t21 ys4 H3 ⟨j, Rs3, hj, rfl, rfl, rfl, rfl, hq3, hpt3, hok3, h3⟩
          have hl3 : Rs3.length = Rs.length := by have := congrArg List.length hq3; rw [List.length_map, List.length_map] at this; omega
          have ho3 : o = none → Rs3 = [] := fun e => by have := ho e; rw [this] at hnn; simp at hnn
          refine cond_of (fun f1 => ?_) fun f1 => ?_
          · have f1 : j < Rs.length := by have := of_decide_eq_true f1; omega
            obtain ⟨R1, hR1⟩ : ∃ R, Rs3[j]? = some R := ⟨_, List.getElem?_eq_getElem (by omega)⟩
            have hq1 : (Rs'.map Hr.q)[j]? = some R1.q := by rw [← hq3, List.getElem?_map, hR1]; rfl
            obtain ⟨g1, g2⟩ := b4 j R1.q hq1
            have h3' : Sep H3 (gl 1 o (ptrs Rs3) :: xA (hcOf x m g 2 4) :: grA g m X :: many (Rs3.map (hrA (hcOf x m g 2 4))) :: M) := by rw [hpt3]; exact Sep.up3 h3
            refine ⟨by unfold inB; omega, ptr_at hR1 ho3 h3' fun i e => ⟨_, by rw [Int.toNat_natCast]; exact e, ?_⟩⟩
            refine runs_res hok3 hR1 h3 fun H4 o4 R4 er eq hok4 ho4 h4 => ⟨_, _, _, _, _, rfl, Sep.nw h4 fun i11 H5 h5 => Sep.st0 h5 (Nat.le_of_ble_eq_true rfl) fun H6 h6 => ?_⟩
            have hq4 : (Rs3.set j R4).map Hr.q = Rs'.map Hr.q := by
              rw [List.map_set, eq, hq3]; exact set_selfA hq1
            have hpt4 : ptrs (Rs3.set j R4) = ptrs Rs := by
              rw [← hpt3]
              show (Rs3.set j R4).map _ = _
              rw [List.map_set, er]
              exact set_selfA (by rw [List.getElem?_map, hR1]; rfl)
            have et : IntKind.i64.wrap ((j : Int) + 1) = ((j + 1 : Nat) : Int) := by rw [wrap_i64 (by omega)]; omega
            have tkS : ∀ {z : Int}, z = tk (j + 1) ↔ z = if w < j + 1 then 1 else 0 := Iff.rfl
            have next : ∀ {H7 : Heap} {u v : Int} {o4 : Option Nat}, u = tk (j + 1) → v = ld (j + 1) → Sep H7 (bx i11 (.cells true 0 [I R1.q.no, .slice (addr o4) R1.q.rv.length 0, W R1.q.rk, I R1.q.el]) :: xA (hcOf x m g 2 4) :: grA g m X :: many ((Rs3.set j R4).map (hrA (hcOf x m g 2 4))) :: gl 1 o4 (R1.q.rv.map W) :: gl 1 o (ptrs Rs) :: M) →
                ∃ k', k' < Rs.length - j ∧ ∃ (j' : Nat) (Rs3 : List Hr), j' ≤ Rs.length ∧ k' = Rs.length - j' ∧ u = tk j' ∧ v = ld j' ∧ IntKind.i64.wrap ((j : Int) + 1) = (j' : Int) ∧ Rs3.map Hr.q = Rs'.map Hr.q ∧ ptrs Rs3 = ptrs Rs ∧ (∀ R ∈ Rs3, R.ok) ∧
                  Sep H7 (xA (hcOf x m g 2 4) :: grA g m X :: many (Rs3.map (hrA (hcOf x m g 2 4))) :: gl 1 o (ptrs Rs) :: M) := fun e1 e2 h7 =>
              ⟨Rs.length - (j + 1), by omega, j + 1, Rs3.set j R4, by omega, rfl, e1, e2, et, hq4, hpt4, hok4, Sep.pick h7 6 [1, 2, 3, 5] (by decide)⟩
            refine ⟨fun vs H => ∃ b, vs = [I (tk (j + 1)), .bool b] ∧ Sep H (bx i11 (.cells true 0 [I R1.q.no, .slice (addr o4) R1.q.rv.length 0, W R1.q.rk, I R1.q.el]) :: xA (hcOf x m g 2 4) :: grA g m X :: many ((Rs3.set j R4).map (hrA (hcOf x m g 2 4))) :: gl 1 o4 (R1.q.rv.map W) :: gl 1 o (ptrs Rs) :: M), ?_, ?_⟩
            · refine cond_of (fun f2 => ?_) fun f2 => ?_
              · have f2 : j < T := by have := of_decide_eq_true f2; omega
                refine ⟨_, Sep.ld0 h6 rfl, ?_⟩
                by_cases ejw : j = w
                · obtain ⟨n1', n2'⟩ := (g1 f2).1 ejw
                  refine cond_yes (by rw [n1']; rfl) ⟨_, _, Sep.ld0 h6 rfl, Sep.nw h6 fun i18 H7 h7 => ?_⟩
                  rw [n2'] at h7 ho4 ⊢
                  obtain ⟨ob, rfl⟩ : ∃ ob, o4 = some ob := by
                    cases o4 with
                    | none => have := ho4 rfl; cases this
                    | some ob => exact ⟨ob, rfl⟩
                  have hr1 : WRow H7 (addr (some ob)) [70] := .inr ⟨ob, true, 1, rfl, h7.lt ob (by simp [feet, bx, gl, many]), gl_get (Sep.up5 h7)⟩
                  have hr2 : WRow H7 (some ⟨i18, 0, none⟩) [70] := .inr ⟨i18, true, 1, rfl, h7.footlt (by simp [bx]), Sep.get0 h7⟩
                  refine SameWords_ok (w1 := [70]) (w2 := [70]) hr1 hr2 (by simp) fun H8 fr => ⟨_, rfl, cond_no (by simp) ⟨t6, ?_, (h7.keep fr).tail⟩⟩
                  have e1 : tk j = 0 := if_neg (by omega)
                  have e2 : tk (j + 1) = 1 := if_pos (by omega)
                  rw [e1, e2]; rfl
                · have n1' := (g1 f2).2 ejw
                  refine cond_no (by rw [n1']; rfl) ⟨t6, ?_, h6⟩
                  have e1 : tk (j + 1) = tk j := by
                    show (if w < j + 1 then (1 : Int) else 0) = if w < j then 1 else 0
                    by_cases hw : w < j
                    · rw [if_pos hw, if_pos (by omega)]
                    · rw [if_neg hw, if_neg (by omega)]
                  rw [e1]
              · have f2 : T ≤ j := by have := of_decide_eq_false f2; omega
                refine ⟨t6, ?_, h6⟩
                have e1 : tk j = 1 := if_pos (by omega)
                have e2 : tk (j + 1) = 1 := if_pos (by omega)
                rw [e1, e2]
            · rintro ys23 H24 n25 b26 ⟨bb, e25, h24⟩
              obtain rfl : n25 = tk (j + 1) := (Value.int.inj (List.cons.inj e25).1).2
              refine ⟨fun vs H => vs = [I (ld (j + 1))] ∧ Sep H (bx i11 (.cells true 0 [I R1.q.no, .slice (addr o4) R1.q.rv.length 0, W R1.q.rk, I R1.q.el]) :: xA (hcOf x m g 2 4) :: grA g m X :: many ((Rs3.set j R4).map (hrA (hcOf x m g 2 4))) :: gl 1 o4 (R1.q.rv.map W) :: gl 1 o (ptrs Rs) :: M), ?_, ?_⟩
              · refine cond_of (fun f2 => ?_) fun f2 => ?_
                · have f2 : T ≤ j := by have := of_decide_eq_true f2; omega
                  refine ⟨_, Sep.ld0 h24 rfl, ?_⟩
                  by_cases ejw : j = lw
                  · have n1' := (g2 f2).1 ejw
                    refine cond_yes (by rw [n1']; rfl) ⟨?_, h24⟩
                    have e1 : ld j = 0 := if_neg (by omega)
                    have e2 : ld (j + 1) = 1 := if_pos (by omega)
                    rw [e1, e2]; rfl
                  · have e1 : ld (j + 1) = ld j := by
                      show (if lw < j + 1 then (1 : Int) else 0) = if lw < j then 1 else 0
                      by_cases hw : lw < j
                      · rw [if_pos hw, if_pos (by omega)]
                      · rw [if_neg hw, if_neg (by omega)]
                    refine cond_no ?_ ⟨by rw [e1], h24⟩
                    rcases (g2 f2).2 ejw with n1' | n1' <;> rw [n1'] <;> rfl
                · have f2 : j < T := by have := of_decide_eq_false f2; omega
                  refine ⟨?_, h24⟩
                  have e1 : ld j = 0 := if_neg (by omega)
                  have e2 : ld (j + 1) = 0 := if_neg (by omega)
                  rw [e1, e2]
              · rintro ys29 H30 n31 ⟨e31, h30⟩
                obtain rfl : n31 = ld (j + 1) := (Value.int.inj (List.cons.inj e31).1).2
                refine cond_of (fun f4 => ?_) fun f4 => ?_
                · have f4 : j < T := by have := of_decide_eq_true f4; omega
                  have nge : decide ((j : Int) ≥ (T : Int)) = false := by rw [decide_eq_false_iff_not]; omega
                  refine ⟨_, Sep.ld0 h30 rfl, cond_of (fun f5 => ⟨_, Sep.ld0 h30 rfl, cond_no ?_ (cond_no nge (next rfl rfl h30))⟩) fun f5 => cond_no nge (next rfl rfl h30)⟩
                  have nz0 : R1.q.no ≠ 0 := by simpa using f5
                  rw [(g1 f4).2 fun e => nz0 ((g1 f4).1 e).1]; rfl
                · have f4 : T ≤ j := by have := of_decide_eq_false f4; omega
                  refine cond_yes (by rw [decide_eq_true_eq]; omega) ⟨_, Sep.ld0 h30 rfl, cond_of (fun f5 => ⟨_, Sep.ld0 h30 rfl, cond_of (fun f6 => ⟨_, Sep.ld0 h30 rfl, cond_no ?_ (next rfl rfl h30)⟩) fun f6 => next rfl rfl h30⟩) fun f5 => next rfl rfl h30⟩
                  have nz0 : R1.q.no ≠ 0 := by simpa using f5
                  have nz3 : R1.q.no ≠ 3 := by simpa using f6
                  rw [((g2 f4).2 fun e => nz0 ((g2 f4).1 e)).resolve_left nz3]; rfl
          · have ej : j = Rs.length := by have := of_decide_eq_false f1; omega
            exact ⟨Rs3, ⟨t6, rfl⟩, (by show I (tk j) = I 1; have e1 : tk j = 1 := if_pos (by omega); rw [e1]), (by show I (ld j) = _; rw [ej]), h3⟩
        · rintro y H3 ⟨Rs3, ⟨t6, ey6⟩, ey19, ey20, h3⟩
          rw [ey6, ey19, ey20]
          refine asInt_in (asBool_in (asInt_in ⟨fun vs H => vs = [I (if lw < Rs.length then 0 else 2)] ∧ Sep H (xA (hcOf x m g 2 4) :: grA g m X :: many (Rs3.map (hrA (hcOf x m g 2 4))) :: gl 1 o (ptrs Rs) :: M), ?_, ?_⟩))
          · by_cases hl9 : lw < Rs.length
            · have e1 : ld Rs.length = 1 := if_pos (by omega)
              exact cond_yes (by rw [e1]; rfl) ⟨by rw [if_pos hl9], h3⟩
            · have e1 : ld Rs.length = 0 := if_neg (by omega)
              exact cond_no (by rw [e1]; rfl) ⟨by rw [if_neg hl9], h3⟩
          · rintro ys60 H61 n62 ⟨e62, h61⟩
            have e62 := (Value.int.inj (List.cons.inj e62).1).2
            apply vc_crossbarlaw15_on
            refine Sep.nw h61 fun ia H7 h7 => Sep.st0 h7 (Nat.le_of_ble_eq_true rfl) fun H8 h8 => ⟨_, _, _, _, _, _, Sep.lds0 h8 rfl, _, _, _, _, _, _, rfl, ?_⟩
            refine run1_s (ky := 9) (kd := 1) (fl := 0) (vs := []) (most := 200) (C := 300000) hz5 (Sep.rm0 h8) rfl (fun w hw => by cases hw) (by show 100000 + at' + 109 ≤ 300000 ∧ _; omega) ⟨by show ((109 : Nat) : Int) ≤ 200; decide, by decide⟩ fun bb v0 a0 H0 H9 X' q' o9 hE ho9 h9 => ⟨_, _, _, _, _, _, rfl, ?_⟩
            obtain ⟨k1, k2, k3, k4⟩ := new_kd (c := hcOf x m g 2 4) (kd := 1) (fl := 0) (cpu := 0) (ky := 9) (v := 0) (b0 := bb)
            obtain ⟨u1, u2, A9, M9, clk9, R9⟩ := ends_look hE k1 k2
            have hno : q'.no = n62 := by
              rw [e62]
              rcases b3 with ⟨z1, z2⟩ | ⟨z1, z2⟩
              · rw [if_pos z1]; exact u1 z2
              · rw [if_neg (by omega)]; exact u2 z2
            refine Sep.nw h9 fun i82 H10 h10 => Sep.st0 h10 (Nat.le_of_ble_eq_true rfl) fun H11 h11 => ?_
            have e2 : ld Rs.length ≤ 1 := by show (if lw < Rs.length then (1 : Int) else 0) ≤ 1; split <;> decide
            refine cond_yes rfl (cond_yes rfl (cond_yes (by rw [decide_eq_true_eq]; exact e2) (cond_yes rfl ⟨_, Sep.ld0 h11 rfl, cond_yes (by rw [hno]; simp) (bad_s (gr_out (Sep.up2 h11)) ⟨_, rfl, cond_yes (by rw [R9.mem.bk.bads]; rfl) (CA_truth (by kernel_rfl) ⟨_, rfl, rfl⟩)⟩)⟩)))
theorem HashOnce_law (H : Heap) (us : List Value) (h : shpVs en H 7 T.HashOnce us) : CA en F.crossbarlaw15_HashOnce us H fun v _ => v = .bool true := by
  obtain ⟨v, u, rfl, ⟨n1, hn1, _⟩, v2, u2, rfl, ⟨n2, hn2, _⟩, v5, u5, rfl, hA, rfl⟩ := args_HashOnce h
  obtain rfl := (List.cons.inj hn1).1
  obtain rfl := (List.cons.inj hn2).1
  obtain ⟨a, n, css, M, rfl, ha, hs, hc⟩ := Arg.of (SlArg.one hA)
  obtain ⟨l, rfl⟩ := numbers_of css hc
  exact HashOnce_ok ha hs
end Go.Proofs.YtjggeoghlicmdaaGreat
namespace Go.Proofs.YtjggeoghlicmdaaGreat.hashOnce
open Go.AS Go.ChangeShapes Go.WideShapes Go.ChangeAt Go.RowKit
set_option linter.unusedVariables false
theorem own : ownKnob Tryz.prog.godebug = none := by kernel_rfl
theorem laid : laidOutB Tryz.prog = true := by kernel_rfl
set_option maxRecDepth 100000 in
theorem lifted (os : Os) (started : os.Started) (H : Type) (enc : TypeId × Value → H) :
    ReturnsInHanded {} Tryz.checked os 6 .any (Rows.hashOnceSpec.pre6 enc Tryz.prog Tryz.f6 Rows.hashOnceRow.domain false) (Rows.hashOnceSpec.post enc Tryz.prog Tryz.f6 false true false false) := by
  refine returnsInHanded_of_change (C := Tryz.checked) own started (by kernel_rfl) Tryz.func6
    (ChangeSpec.witness6 (enc := enc) (C := Tryz.checked) false ⟨#[], #[.int .i64 0, .int .i64 0, .slice none 0 0], []⟩ 8 (by kernel_rfl) (by kernel_rfl) (by kernel_rfl) (by kernel_rfl)) ?_
  intro W base args ds gs before hval0 hW hcnd _
  have hval : ∀ (j : Nat) t v, Tryz.f6.params[j]? = some t → args[j]? = some v → Value.okWide Tryz.prog W .any base t v := hval0
  have hW' := hW
  obtain ⟨p, q, hA0, hV, rfl, hfz, hnd⟩ := hW
  have hA : DataW.TrodAll enc Tryz.prog W 0 (fun _ => true) true Tryz.f6.params.toList args.toList ds p := hA0
  rw [Tryz.params6] at hA hval
  obtain ⟨rfl, rfl⟩ := trodVars_none hV
  have hrun := law_calls en_ok en_mix (f := 6) (fun H us h => HashOnce_law H us h) (by kernel_rfl) hA (fun j t v a b => hval j t v (by simpa using a) b)
  obtain ⟨v0, vs0, d0, ds0, p0, q0, hargs, rfl, rfl, h0, r0⟩ := trodAll_cons hA
  obtain ⟨v1, vs1, d1, ds1, p1, q1, rfl, rfl, rfl, h1, r1⟩ := trodAll_cons r0
  obtain ⟨v2, vs2, d2, ds2, p2, q2, rfl, rfl, rfl, h2, r2⟩ := trodAll_cons r1
  obtain ⟨rfl, rfl, rfl⟩ := trodAll_nil r2
  obtain rfl : args = #[v0, v1, v2] := by cases args; simp_all
  clear hA0 hval0
  simp only [List.append_nil] at hW'
  refine hrun.mono fun e W' ⟨he, hg⟩ => ?_
  subst he
  exact ⟨_, rfl, _, _, _, [], p0 ++ (p1 ++ (p2 ++ ([]))), [], hW', trodAll_cons_mk (shut_bool Tryz.underlying4 _) trodAll_mk0, trodAll_cons_mk (Below.trod laid (by kernel_rfl) (of_decide_eq_true (by kernel_rfl)) h0 hg fun x hx => by simpa using hW'.lt x (by simp [hx])) (trodAll_cons_mk (Below.trod laid (by kernel_rfl) (of_decide_eq_true (by kernel_rfl)) h1 hg fun x hx => by simpa using hW'.lt x (by simp [hx])) (trodAll_cons_mk (Below.trod laid (by kernel_rfl) (of_decide_eq_true (by kernel_rfl)) h2 hg fun x hx => by simpa using hW'.lt x (by simp [hx])) (trodAll_mk0))), rfl, hg.frame _, fun h => by cases h⟩
theorem rowed : mapsRowed Tryz.prog = true := by kernel_rfl
theorem inpl : Tryz.prog.inPlace 6 = Rows.hashOnceRow.inPlace := by kernel_rfl
theorem unfo : Tryz.prog.unfollowed 6 = Rows.hashOnceRow.unfollowed := by kernel_rfl
theorem recu : Tryz.prog.recurses 6 = Rows.hashOnceRow.recurses := by kernel_rfl
theorem nmd : Tryz.prog.varsNamed 6 = Rows.hashOnceRow.named := by kernel_rfl
theorem facts : joinedFacts Tryz.prog 6 Tryz.f6 Rows.hashOnceSpec Rows.hashOnceRow = true := by
  unfold joinedFacts
  rw [laid, rowed, inpl, unfo, recu, nmd]
  kernel_rfl
theorem over : Rows.hashOnceRow.holds Tryz.pinned (OpenSpec.ofChange Rows.hashOnceSpec) :=
  OpenClaim.holds_of_wide 6 Tryz.f6 rfl rfl rfl rfl rfl rfl rfl ⟨rfl, rfl, rfl, rfl, rfl⟩ rfl rfl rfl rfl rfl (by kernel_rfl) Tryz.func6 facts
    (of_decide_eq_true (by kernel_rfl)) (by unfold Func.isWrapper; first | (rw [if_pos (by decide +kernel)]; kernel_rfl) | (rw [if_neg (by decide +kernel)]; exact ⟨rfl, rfl⟩))
    (fun os started H enc _ => lifted os started H enc)
theorem proved : Rows.HashOnceSaid :=
  over
end Go.Proofs.YtjggeoghlicmdaaGreat.hashOnce
#print axioms Go.Proofs.YtjggeoghlicmdaaGreat.hashOnce.proved
