/-
  A step of an agent: what is kept.
-/
import Derived.Test.YtgpacebjbdhphaaRecordBegin
namespace Go.Proofs.Ytgpacebjbdhphaa
open Go Go.AS Go.RowKit
set_option linter.unusedVariables false
variable {H H' : Heap} {m x : Nat} {S S' : Sm} {R : Value → Heap → Prop} {L : List Asr} {Wd : List (BitVec 64)} {N dr sv st cur num k j Wr : Nat} {As : Ags} {a : RG} {c : Int}

def wfn (ph : Nat) : Nat := match ph with | 0 => F.record_Run_take | 1 => F.record_Run_take | 2 => F.record_Run_begin | 3 => F.record_Run_store | 4 => F.record_Run_end | _ => F.record_Run_drop
def rfn (ph : Nat) : Nat := match ph with | 0 => F.record_Run_look | 1 => F.record_Run_load | _ => F.record_Run_same
def tfn (ph : Nat) : Nat := match ph with | 0 => F.lock_Taker_draw | 1 => F.lock_Taker_wait | _ => F.lock_Taker_got
def RG.tick (a : RG) : BitVec 64 := if a.ph = 0 then 0 else Bn a.turn
def RG.wq (N : Nat) (a : RG) : Rn := ⟨2, 0, a.ov, N, 0, 0, 0, none, 0, 0, 0, fnv (wfn a.ph) a.r, P a.tb, 0, a.n, 0⟩
def RG.rq (a : RG) : Rn := ⟨1, 0, none, 0, 0, 0, 0, a.rv, a.vals.length, 0, 0, fnv (rfn a.ph) a.r, .pointer none, 0, a.n, Bn a.seen⟩
def RG.blk (m x N : Nat) (a : RG) : List Asr :=
  if a.w then [rA a.r x (a.wq N), tk m 0 a.tick (tfn a.ph) a.tb, gl 1 a.ov (wds (List.replicate N (Bn a.v)))] else [rA a.r x a.rq, gl 1 a.rv (wds a.vals)]
def oblk (m x N : Nat) : Option RG → List Asr
  | none => []
  | some a => a.blk m x N
abbrev dN (N : Nat) : Md := ⟨3, 1, N, 0, 0⟩
abbrev mws (dr sv st : Nat) (Wd : List (BitVec 64)) : List (BitVec 64) := Bn dr :: Bn sv :: Bn st :: Wd

structure WS0 (m x N Wr : Nat) (H : Heap) (As : Ags) (S : Sm) (dr sv st cur num : Nat) (Wd : List (BitVec 64)) (c : Int) (j : Nat) (L : List Asr) : Prop where
  side : ∀ i a, At As i a → a.w = decide (i < Wr)
  own : ∀ i a, At As i a → (a.w = true → a.ov ≠ none ∧ (a.ph ≤ 2 → a.n = 0)) ∧ (a.rv = none → a.vals = [])
  inv : Inv N As dr sv st cur num Wd
  one : One S (mws dr sv st Wd) c
  bd : dr ≤ j ∧ st ≤ j ∧ num ≤ j ∧ c ≤ j
  sep : Sep H (mA m x (dN N) :: mem m S :: many (As.flatMap (oblk m x N)) :: L)

theorem blk_out (h : Sep H (mA m x (dN N) :: mem m S :: many (As.flatMap (oblk m x N)) :: L)) (hk : At As k a) : Sep H (many (a.blk m x N) :: mA m x (dN N) :: mem m S :: many ((As.take k).flatMap (oblk m x N) ++ (As.drop (k + 1)).flatMap (oblk m x N)) :: L) := by
  have e := flatMap_split (f := oblk m x N) hk
  rw [e] at h
  have h1 := Sep.splitM.1 (Sep.up2 h)
  exact Sep.pick h1 4 [0, 2, 3, 1] (by decide)
theorem blk_in {o : Option RG} (hk : k < As.length) (h : Sep H (many (oblk m x N o) :: mA m x (dN N) :: mem m S :: many ((As.take k).flatMap (oblk m x N) ++ (As.drop (k + 1)).flatMap (oblk m x N)) :: L)) : Sep H (mA m x (dN N) :: mem m S :: many ((As.set k o).flatMap (oblk m x N)) :: L) := by
  have e := flatMap_set (f := oblk m x N) (y := o) hk
  rw [e]
  have h1 := Sep.splitM.2 (Sep.pick h 4 [0, 3, 1, 2] (by decide))
  exact Sep.pick h1 3 [1, 2, 0] (by decide)

theorem many3 {A B C : Asr} : Sep H (many [A, B, C] :: L) ↔ Sep H (A :: B :: C :: L) := Sep.many_iff
theorem many2 {A B : Asr} : Sep H (many [A, B] :: L) ↔ Sep H (A :: B :: L) := Sep.many_iff

theorem side_set (h : ∀ i a, At As i a → a.w = decide (i < Wr)) (hk : At As k a) {a' : RG} (hw : a'.w = a.w) : ∀ i b, At (As.set k (some a')) i b → b.w = decide (i < Wr) := by
  intro i b hb
  rcases hb.set with ⟨e, e2⟩ | ⟨_, hb⟩
  · cases e2; rw [e, hw]; exact h k a hk
  · exact h i b hb
theorem own_set (h : ∀ i a, At As i a → (a.w = true → a.ov ≠ none ∧ (a.ph ≤ 2 → a.n = 0)) ∧ (a.rv = none → a.vals = [])) {a' : RG} (hw : (a'.w = true → a'.ov ≠ none ∧ (a'.ph ≤ 2 → a'.n = 0)) ∧ (a'.rv = none → a'.vals = [])) : ∀ i b, At (As.set k (some a')) i b → (b.w = true → b.ov ≠ none ∧ (b.ph ≤ 2 → b.n = 0)) ∧ (b.rv = none → b.vals = []) := by
  intro i b hb
  rcases hb.set with ⟨e, e2⟩ | ⟨_, hb⟩
  · cases e2; exact hw
  · exact h i b hb
theorem none_set {Q : Nat → RG → Prop} (h : ∀ i a, At As i a → Q i a) : ∀ i b, At (As.set k none) i b → Q i b := by
  intro i b hb
  rcases hb.set with ⟨_, e2⟩ | ⟨_, hb⟩
  · cases e2
  · exact h i b hb

set_option maxHeartbeats 1000000 in
theorem agent_s (hN : 1 ≤ N ∧ N ≤ 4) (w : WS0 m x N Wr H As S dr sv st cur num Wd c j L) (hj : j < 5000) (hk : At As k a)
    (hR1 : ∀ H' e (a' : RG) S' dr' sv' st' cur' Wd' c', a'.r = a.r → (e = true → a.w = true ∧ cur' = a.v) → (e = false → cur' = cur) → WS0 m x N Wr H' (As.set k (some a')) S' dr' sv' st' cur' num Wd' c' (j + 1) L → R (.tuple #[.bool e, .bool false]) H')
    (hR2 : ∀ H' S' dr' sv' st' Wd' c', a.w = true → WS0 m x N Wr H' (As.set k none) S' dr' sv' st' cur num Wd' c' (j + 1) L → R (.tuple #[.bool false, .bool true]) H')
    (hR3 : ∀ H' S' (q : Rn) c', a.w = false → q.rl = N → q.rv ≠ none → WS0 m x N Wr H' (As.set k none) S' dr sv st cur num Wd c' (j + 1) (rA a.r x q :: gl 1 q.rv (wds (List.replicate N (Bn cur))) :: L) → R (.tuple #[.bool true, .bool true]) H') :
    CA en F.record_Run_Step [P a.r] H R := by
  have hkl : k < As.length := (List.getElem?_eq_some_iff.1 hk).1
  have inv := w.inv
  obtain ⟨bd1, bd2, bd3, bd4⟩ := w.bd
  have o := w.one
  have hc : c < 4611686018427387904 := by omega
  have hlen : (mws dr sv st Wd).length = 3 + N := by show Wd.length + 1 + 1 + 1 = _; rw [inv.len]; omega
  have hsvdr := inv.le
  have hout := blk_out w.sep hk
  cases hw : a.w with
  | true =>
    have ow := ((w.own k a hk).1 hw).1
    have on0 := ((w.own k a hk).1 hw).2
    have ow2 := (w.own k a hk).2
    have hb : a.blk m x N = [rA a.r x (a.wq N), tk m 0 a.tick (tfn a.ph) a.tb, gl 1 a.ov (wds (List.replicate N (Bn a.v)))] := if_pos hw
    rw [hb] at hout
    have h0 := many3.1 hout
    obtain ⟨hv, hph⟩ := inv.wv k a hk hw
    have tt := inv.tk k a hk hw
    -- back into place
    have back : ∀ {H' : Heap} {S' : Sm} {a' : RG}, a'.w = true → a'.v = a.v → a'.ov = a.ov → Sep H' (rA a'.r x (a'.wq N) :: tk m 0 a'.tick (tfn a'.ph) a'.tb :: gl 1 a.ov (wds (List.replicate N (Bn a.v))) :: mA m x (dN N) :: mem m S' :: many ((As.take k).flatMap (oblk m x N) ++ (As.drop (k + 1)).flatMap (oblk m x N)) :: L) → Sep H' (mA m x (dN N) :: mem m S' :: many ((As.set k (some a')).flatMap (oblk m x N)) :: L) := by
      intro H' S' a' e1 e2 e3 h
      refine blk_in hkl ?_
      have hb' : oblk m x N (some a') = [rA a'.r x (a'.wq N), tk m 0 a'.tick (tfn a'.ph) a'.tb, gl 1 a'.ov (wds (List.replicate N (Bn a'.v)))] := if_pos e1
      rw [hb', e2, e3]
      exact many3.2 h
    obtain ⟨aw, aph, an, aseen, av, aturn, avals, ar, atb, aov, arv, ano⟩ := a
    simp only at hw ow on0 ow2 hv hph tt back hR1 hR2 hR3 ⊢
    subst hw
    obtain rfl | rfl | rfl | rfl | rfl | rfl : aph = 0 ∨ aph = 1 ∨ aph = 2 ∨ aph = 3 ∨ aph = 4 ∨ aph = 5 := by omega
    · -- draws
      refine sdraw_s (a := 0) (Sep.pick h0 5 [0, 1, 3, 4, 2] (by decide)) rfl rfl o hc (by rw [hlen]; omega) fun H' S' o' h' => ?_
      refine hR1 H' false ⟨true, 1, an, aseen, av, dr, avals, ar, atb, aov, arv, ano⟩ S' (dr + 1) sv st cur Wd (c + 1) rfl (fun h => by cases h) (fun _ => rfl) ⟨side_set w.side hk rfl, own_set w.own ⟨fun _ => ⟨ow, fun _ => on0 (by omega)⟩, ow2⟩, ?_, ?_, by omega, ?_⟩
      · refine inv.write (a' := ⟨true, 1, an, aseen, av, dr, avals, ar, atb, aov, arv, ano⟩) hk rfl rfl rfl ⟨by show 0 ≤ 1; omega, by show 1 ≤ 2; omega, by show 1 ≤ 1; omega⟩ (dr + 1) (by omega) ⟨hsvdr, by show dr < dr + 1; omega, fun h => by cases h⟩ fun i y hy hi wy py => ?_
        have := (inv.tk i y hy wy py).2
        show y.turn ≠ dr
        omega
      · have : (mws dr sv st Wd).set 0 ((mws dr sv st Wd).getD 0 0 + 1) = mws (dr + 1) sv st Wd := by
          show (Bn dr + 1) :: _ = _
          rw [Bn_succ]
        rw [this] at o'
        exact o'
      · exact back rfl rfl rfl (Sep.pick h' 5 [0, 1, 4, 2, 3] (by decide))
    · -- waits
      have t1 := tt (by omega)
      have hlt : sv < 10000 ∧ aturn < 10000 := by omega
      refine swait_s (a := 0) (Sep.pick h0 5 [0, 1, 3, 4, 2] (by decide)) rfl rfl o hc (by rw [hlen]; omega) (by rw [hlen]; omega) (fun e H' S' o' h' => ?_) fun e H' S' o' h' => ?_
      · have e : sv = aturn := (Bn_inj hlt.1 hlt.2).1 e
        refine hR1 H' false ⟨true, 2, an, aseen, av, aturn, avals, ar, atb, aov, arv, ano⟩ S' dr sv st cur Wd (c + 1) rfl (fun h => by cases h) (fun _ => rfl) ⟨side_set w.side hk rfl, own_set w.own ⟨fun _ => ⟨ow, fun _ => on0 (by omega)⟩, ow2⟩, ?_, o', by omega, ?_⟩
        · refine inv.write (a' := ⟨true, 2, an, aseen, av, aturn, avals, ar, atb, aov, arv, ano⟩) hk rfl rfl rfl ⟨by show 1 ≤ 1; omega, by show 2 ≤ 2; omega, by show 1 ≤ 2; omega⟩ dr (Nat.le_refl _) ⟨t1.1, t1.2, fun _ => e.symm⟩ fun i y hy hi wy py => ?_
          exact inv.dist i k y ⟨true, 1, an, aseen, av, aturn, avals, ar, atb, aov, arv, ano⟩ hy hk hi wy rfl py (by show 1 ≤ 1; omega)
        · exact back rfl rfl rfl (Sep.pick h' 5 [0, 1, 4, 2, 3] (by decide))
      · refine hR1 H' false ⟨true, 1, an, aseen, av, aturn, avals, ar, atb, aov, arv, ano⟩ S' dr sv st cur Wd (c + 1) rfl (fun h => by cases h) (fun _ => rfl) ⟨side_set w.side hk rfl, own_set w.own ⟨fun _ => ⟨ow, fun _ => on0 (by omega)⟩, ow2⟩, ?_, o', by omega, ?_⟩
        · refine inv.write (a' := ⟨true, 1, an, aseen, av, aturn, avals, ar, atb, aov, arv, ano⟩) hk rfl rfl rfl ⟨by show 1 ≤ 1; omega, by show 1 ≤ 2; omega, by show 1 ≤ 1; omega⟩ dr (Nat.le_refl _) ⟨t1.1, t1.2, fun h => by cases h⟩ fun i y hy hi wy py => ?_
          exact inv.dist i k y ⟨true, 1, an, aseen, av, aturn, avals, ar, atb, aov, arv, ano⟩ hy hk hi wy rfl py (by show 1 ≤ 1; omega)
        · exact back rfl rfl rfl (Sep.pick h' 5 [0, 1, 4, 2, 3] (by decide))
    · -- begins
      have hall : ∀ i y, At As i y → y.w = true → ¬ (y.ph = 3 ∨ y.ph = 4) := fun i y hy wy hp => by
        have e := inv.one hy hk wy rfl (by omega) (by show 2 ≤ 2; omega)
        subst e
        unfold At at hy hk
        rw [hk] at hy; cases hy
        rcases hp with hp | hp <;> cases hp
      obtain ⟨ev, eW⟩ := inv.even hall
      refine sbegin_s (a := 0) (Sep.pick h0 5 [0, 3, 4, 1, 2] (by decide)) rfl rfl (by omega) o hc (by rw [hlen]; omega) fun H' S' o' h' => ?_
      refine hR1 H' false ⟨true, 3, 0, aseen, av, aturn, avals, ar, atb, aov, arv, ano⟩ S' dr sv (st + 1) cur Wd (c + 1) rfl (fun h => by cases h) (fun _ => rfl) ⟨side_set w.side hk rfl, own_set w.own ⟨fun _ => ⟨ow, fun h => by simp at h⟩, ow2⟩, ?_, ?_, by omega, ?_⟩
      · refine inv.held (a' := ⟨true, 3, 0, aseen, av, aturn, avals, ar, atb, aov, arv, ano⟩) hk rfl (by show 2 ≤ 2; omega) rfl rfl rfl ⟨by show 2 ≤ 3; omega, by show 3 ≤ 5; omega⟩ (st + 1) cur Wd inv.len inv.cn (fun h => (h (.inl rfl)).elim) (fun _ => ⟨by omega, by show 0 < N; omega, ?_⟩) (fun h => by cases h) (.inr rfl)
        show Wd = List.replicate 0 _ ++ List.replicate (N - 0) _
        rw [eW]; simp
      · have : (mws dr sv st Wd).set (0 + 2) ((mws dr sv st Wd).getD (0 + 2) 0 + 1) = mws dr sv (st + 1) Wd := by
          show Bn dr :: Bn sv :: (Bn st + 1) :: _ = _
          rw [Bn_succ]
        rw [this] at o'
        exact o'
      · have e0 := on0 (by omega)
        subst e0
        exact back rfl rfl rfl (Sep.pick h' 5 [0, 3, 4, 1, 2] (by decide))
    · -- stores
      obtain ⟨od, hn, eW⟩ := inv.b3 k _ hk rfl rfl
      have hn : an < N := hn
      have eW : Wd = List.replicate an (Bn av) ++ List.replicate (N - an) (Bn cur) := eW
      have hvl : (List.replicate N (Bn av)).length = N := List.length_replicate ..
      refine sstore_s (a := 0) (k := an) (vs := List.replicate N (Bn av)) (Sep.pick h0 5 [0, 2, 3, 4, 1] (by decide)) rfl rfl rfl (by omega) hvl.symm (by rw [hvl]; exact hn) (fun e => (ow e).elim) o hc (by rw [hlen]; omega) fun H' S' o' h' => ?_
      have e1 : (List.replicate N (Bn av)).getD an 0 = Bn av := by rw [List.getD_eq_getElem?_getD, List.getElem?_replicate, if_pos hn]; rfl
      have e2 : (mws dr sv st Wd).set (0 + 3 + an) (Bn av) = mws dr sv st (Wd.set an (Bn av)) := by rw [show 0 + 3 + an = an + 1 + 1 + 1 by omega]; rfl
      have e3 : Wd.set an (Bn av) = List.replicate (an + 1) (Bn av) ++ List.replicate (N - (an + 1)) (Bn cur) := by
        rw [eW, List.set_append_right _ _ (by simp), List.length_replicate, Nat.sub_self, show N - an = (N - (an + 1)) + 1 by omega, List.replicate_succ, List.set_cons_zero, List.replicate_succ' , List.append_assoc]; rfl
      rw [e1, e2] at o'
      by_cases hw : an + 1 = N
      · have hw' : (((an + 1 : Nat) : Int) = (dN N).words) := by show ((an + 1 : Nat) : Int) = (N : Int); omega
        rw [if_pos hw'] at h'
        refine hR1 H' false ⟨true, 4, an + 1, aseen, av, aturn, avals, ar, atb, aov, arv, ano⟩ S' dr sv st cur _ (c + 1) rfl (fun h => by cases h) (fun _ => rfl) ⟨side_set w.side hk rfl, own_set w.own ⟨fun _ => ⟨ow, fun h => by simp at h⟩, ow2⟩, ?_, o', by omega, ?_⟩
        · refine inv.held (a' := ⟨true, 4, an + 1, aseen, av, aturn, avals, ar, atb, aov, arv, ano⟩) hk rfl (by show 2 ≤ 3; omega) rfl rfl rfl ⟨by show 2 ≤ 4; omega, by show 4 ≤ 5; omega⟩ st cur _ (by rw [List.length_set]; exact inv.len) inv.cn (fun h => (h (.inr rfl)).elim) (fun h => by cases h) (fun _ => ⟨od, ?_⟩) (.inl ⟨rfl, rfl⟩)
          show Wd.set an (Bn av) = List.replicate N (Bn av)
          rw [e3, hw, Nat.sub_self]; simp
        · exact back rfl rfl rfl (Sep.pick h' 5 [0, 4, 1, 2, 3] (by decide))
      · have hw' : ¬ (((an + 1 : Nat) : Int) = (dN N).words) := by show ¬ ((an + 1 : Nat) : Int) = (N : Int); omega
        rw [if_neg hw'] at h'
        refine hR1 H' false ⟨true, 3, an + 1, aseen, av, aturn, avals, ar, atb, aov, arv, ano⟩ S' dr sv st cur _ (c + 1) rfl (fun h => by cases h) (fun _ => rfl) ⟨side_set w.side hk rfl, own_set w.own ⟨fun _ => ⟨ow, fun h => by simp at h⟩, ow2⟩, ?_, o', by omega, ?_⟩
        · refine inv.held (a' := ⟨true, 3, an + 1, aseen, av, aturn, avals, ar, atb, aov, arv, ano⟩) hk rfl (by show 2 ≤ 3; omega) rfl rfl rfl ⟨by show 2 ≤ 3; omega, by show 3 ≤ 5; omega⟩ st cur _ (by rw [List.length_set]; exact inv.len) inv.cn (fun h => (h (.inl rfl)).elim) (fun _ => ⟨od, by show an + 1 < N; omega, e3⟩) (fun h => by cases h) (.inl ⟨rfl, rfl⟩)
        · exact back rfl rfl rfl (Sep.pick h' 5 [0, 4, 1, 2, 3] (by decide))
    · -- ends
      obtain ⟨od, eW⟩ := inv.b4 k _ hk rfl rfl
      refine send_s (a := 0) (Sep.pick h0 5 [0, 3, 4, 1, 2] (by decide)) rfl rfl (by omega) o hc (by rw [hlen]; omega) fun H' S' o' h' => ?_
      refine hR1 H' true ⟨true, 5, an, aseen, av, aturn, avals, ar, atb, aov, arv, ano⟩ S' dr sv (st + 1) av Wd (c + 1) rfl (fun _ => ⟨rfl, rfl⟩) (fun h => by cases h) ⟨side_set w.side hk rfl, own_set w.own ⟨fun _ => ⟨ow, fun h => by simp at h⟩, ow2⟩, ?_, ?_, by omega, ?_⟩
      · refine inv.held (a' := ⟨true, 5, an, aseen, av, aturn, avals, ar, atb, aov, arv, ano⟩) hk rfl (by show 2 ≤ 4; omega) rfl rfl rfl ⟨by show 2 ≤ 5; omega, by show 5 ≤ 5; omega⟩ (st + 1) av Wd inv.len hv (fun _ => ⟨by omega, eW⟩) (fun h => by cases h) (fun h => by cases h) (.inr rfl)
      · have : (mws dr sv st Wd).set (0 + 2) ((mws dr sv st Wd).getD (0 + 2) 0 + 1) = mws dr sv (st + 1) Wd := by
          show Bn dr :: Bn sv :: (Bn st + 1) :: _ = _
          rw [Bn_succ]
        rw [this] at o'
        exact o'
      · exact back rfl rfl rfl (Sep.pick h' 5 [0, 3, 4, 1, 2] (by decide))
    · -- lets go
      have t1 := tt (by omega)
      have th := inv.hold k _ hk rfl (by show 2 ≤ 5; omega)
      have th : aturn = sv := th
      refine sdrop_s (a := 0) (Sep.pick h0 5 [0, 3, 4, 1, 2] (by decide)) rfl rfl (by omega) o hc (by rw [hlen]; omega) (by rw [hlen]; omega) fun H' S' o' h' => ?_
      refine hR2 H' S' dr (sv + 1) st Wd (c + 1) rfl ⟨none_set w.side, none_set w.own, inv.drop hk rfl rfl, ?_, by omega, ?_⟩
      · have : (mws dr sv st Wd).set (0 + 1) ((mws dr sv st Wd).getD (0 + 1) 0 + 1) = mws dr (sv + 1) st Wd := by
          show Bn dr :: (Bn sv + 1) :: _ = _
          rw [Bn_succ]
        rw [this] at o'
        exact o'
      · refine blk_in hkl (Sep.many0 ?_)
        exact Sep.pick h' 6 [1, 2, 5] (by decide)
  | false =>
    have ow2 := (w.own k a hk).2
    have hb : a.blk m x N = [rA a.r x a.rq, gl 1 a.rv (wds a.vals)] := by unfold RG.blk; rw [hw]; rfl
    rw [hb] at hout
    have h0 := many2.1 hout
    obtain ⟨hph, hrd⟩ := inv.rd k a hk hw
    have back : ∀ {H' : Heap} {S' : Sm} {a' : RG}, a'.w = false → Sep H' (rA a'.r x a'.rq :: gl 1 a'.rv (wds a'.vals) :: mA m x (dN N) :: mem m S' :: many ((As.take k).flatMap (oblk m x N) ++ (As.drop (k + 1)).flatMap (oblk m x N)) :: L) → Sep H' (mA m x (dN N) :: mem m S' :: many ((As.set k (some a')).flatMap (oblk m x N)) :: L) := by
      intro H' S' a' e1 h
      refine blk_in hkl ?_
      have hb' : oblk m x N (some a') = [rA a'.r x a'.rq, gl 1 a'.rv (wds a'.vals)] := by show a'.blk m x N = _; unfold RG.blk; rw [e1]; rfl
      rw [hb']
      exact many2.2 h
    have hst : (Bn st).toNat = st := Bn_nat (by omega)
    obtain ⟨aw, aph, an, aseen, av, aturn, avals, ar, atb, aov, arv, ano⟩ := a
    simp only at hw ow2 hph hrd back hR1 hR2 hR3 ⊢
    subst hw
    obtain rfl | rfl | rfl : aph = 0 ∨ aph = 1 ∨ aph = 2 := by omega
    · -- looks
      refine slook_s (a := 0) (Sep.pick h0 4 [0, 2, 3, 1] (by decide)) rfl rfl (by omega) o hc (by rw [hlen]; omega) fun H' S' o' h' => ?_
      have e2 : ((mws dr sv st Wd).getD (0 + 2) 0).toNat = st := hst
      rw [e2] at h'
      by_cases ev : st % 2 = 0
      · rw [if_pos ev] at h'
        refine hR1 H' false ⟨false, 1, 0, st, av, aturn, [], ar, atb, aov, none, ano⟩ S' dr sv st cur Wd (c + 1) rfl (fun h => by cases h) (fun _ => rfl) ⟨side_set w.side hk rfl, own_set w.own ⟨(fun h => by cases h), fun _ => rfl⟩, ?_, o', by omega, ?_⟩
        · exact inv.read (a' := ⟨false, 1, 0, st, av, aturn, [], ar, atb, aov, none, ano⟩) hk rfl rfl ⟨by show 1 ≤ 2; omega, fun _ => ⟨rfl, Nat.zero_le _, fun _ => by show 0 < N; omega, (fun h => by cases h), ev, Nat.le_refl _, fun _ => rfl⟩⟩
        · refine back rfl ?_
          have h5 : Sep H' (gl 1 none (wds []) :: _) := gl_none.2 h'
          exact Sep.pick h5 6 [1, 0, 2, 3, 5] (by decide)
      · rw [if_neg ev] at h'
        refine hR1 H' false ⟨false, 0, an, aseen, av, aturn, avals, ar, atb, aov, arv, ano⟩ S' dr sv st cur Wd (c + 1) rfl (fun h => by cases h) (fun _ => rfl) ⟨side_set w.side hk rfl, own_set w.own ⟨(fun h => by cases h), ow2⟩, ?_, o', by omega, ?_⟩
        · exact inv.read (a' := ⟨false, 0, an, aseen, av, aturn, avals, ar, atb, aov, arv, ano⟩) hk rfl rfl ⟨by show 0 ≤ 2; omega, fun h => by have h : 1 ≤ 0 := h; omega⟩
        · exact back rfl (Sep.pick h' 4 [0, 3, 1, 2] (by decide))
    · -- loads
      obtain ⟨s1, s2, s3, s4, s5, s6, s7⟩ := hrd (by omega)
      have hn : an < N := s3 rfl
      refine sload_s (a := 0) (k := an) (vs := avals) h0 rfl rfl rfl (by show (an : Int) < (N : Int); omega) (by omega) rfl ow2 (by omega) o hc (by rw [hlen]; omega) fun H' S' v o' h' => ?_
      have e2 : (mws dr sv st Wd).getD (0 + 3 + an) 0 = Wd.getD an 0 := by rw [show 0 + 3 + an = an + 1 + 1 + 1 by omega]; rfl
      rw [e2] at h'
      have e7 : aseen = st → avals ++ [Wd.getD an 0] = List.replicate (an + 1) (Bn cur) := fun e => by
        have hW := inv.word (by omega)
        rw [s7 e, hW, List.getD_eq_getElem?_getD, List.getElem?_replicate, if_pos hn, List.replicate_succ']; rfl
      by_cases hw : an + 1 = N
      · have hw' : (((an + 1 : Nat) : Int) = (dN N).words) := by show ((an + 1 : Nat) : Int) = (N : Int); omega
        rw [if_pos hw'] at h'
        refine hR1 H' false ⟨false, 2, an + 1, aseen, av, aturn, avals ++ [Wd.getD an 0], ar, atb, aov, some v, ano⟩ S' dr sv st cur Wd (c + 1) rfl (fun h => by cases h) (fun _ => rfl) ⟨side_set w.side hk rfl, own_set w.own ⟨(fun h => by cases h), fun h => by cases h⟩, ?_, o', by omega, ?_⟩
        · exact inv.read (a' := ⟨false, 2, an + 1, aseen, av, aturn, avals ++ [Wd.getD an 0], ar, atb, aov, some v, ano⟩) hk rfl rfl ⟨by show 2 ≤ 2; omega, fun _ => ⟨by show (avals ++ [_]).length = an + 1; rw [List.length_append, s1]; rfl, by show an + 1 ≤ N; omega, (fun h => by cases h), fun _ => hw, s5, s6, e7⟩⟩
        · refine back rfl ?_
          have e8 : (RG.rq ⟨false, 2, an + 1, aseen, av, aturn, avals ++ [Wd.getD an 0], ar, atb, aov, some v, ano⟩) = ⟨1, 0, none, 0, 0, 0, 0, some v, avals.length + 1, 0, 0, fnv F.record_Run_same ar, .pointer none, 0, ((an + 1 : Nat) : Int), Bn aseen⟩ := by unfold RG.rq; rw [List.length_append]; rfl
          rw [e8]
          exact h'
      · have hw' : ¬ (((an + 1 : Nat) : Int) = (dN N).words) := by show ¬ ((an + 1 : Nat) : Int) = (N : Int); omega
        rw [if_neg hw'] at h'
        refine hR1 H' false ⟨false, 1, an + 1, aseen, av, aturn, avals ++ [Wd.getD an 0], ar, atb, aov, some v, ano⟩ S' dr sv st cur Wd (c + 1) rfl (fun h => by cases h) (fun _ => rfl) ⟨side_set w.side hk rfl, own_set w.own ⟨(fun h => by cases h), fun h => by cases h⟩, ?_, o', by omega, ?_⟩
        · exact inv.read (a' := ⟨false, 1, an + 1, aseen, av, aturn, avals ++ [Wd.getD an 0], ar, atb, aov, some v, ano⟩) hk rfl rfl ⟨by show 1 ≤ 2; omega, fun _ => ⟨by show (avals ++ [_]).length = an + 1; rw [List.length_append, s1]; rfl, by show an + 1 ≤ N; omega, fun _ => by show an + 1 < N; omega, (fun h => by cases h), s5, s6, e7⟩⟩
        · refine back rfl ?_
          have e8 : (RG.rq ⟨false, 1, an + 1, aseen, av, aturn, avals ++ [Wd.getD an 0], ar, atb, aov, some v, ano⟩) = ⟨1, 0, none, 0, 0, 0, 0, some v, avals.length + 1, 0, 0, fnv F.record_Run_load ar, .pointer none, 0, ((an + 1 : Nat) : Int), Bn aseen⟩ := by unfold RG.rq; rw [List.length_append]; rfl
          rw [e8]
          exact h'
    · -- looks again
      obtain ⟨s1, s2, s3, s4, s5, s6, s7⟩ := hrd (by omega)
      have hn : an = N := s4 rfl
      refine ssame_s (a := 0) (Sep.pick h0 4 [0, 2, 3, 1] (by decide)) rfl rfl (by omega) o hc (by rw [hlen]; omega) (fun e H' S' o' h' => ?_) fun H' S' o' h' => ?_
      · have e : st = aseen := (Bn_inj (by omega) (by omega)).1 e
        have ev := s7 e.symm
        rw [hn] at ev
        refine hR3 H' S' { (RG.rq ⟨false, 2, an, aseen, av, aturn, avals, ar, atb, aov, arv, ano⟩) with nx := fnv F.record_Run_over ar } (c + 1) rfl (by show avals.length = N; rw [s1, hn]) (fun e => by have e3 := ow2 e; rw [e3] at s1; simp at s1; omega) ⟨none_set w.side, none_set w.own, inv.gone hk rfl, o', by omega, ?_⟩
        refine blk_in hkl (Sep.many0 ?_)
        have h6 := Sep.pick h' 5 [1, 2, 4, 0, 3] (by decide)
        rw [← ev]
        exact h6
      · refine hR1 H' false ⟨false, 0, an, aseen, av, aturn, avals, ar, atb, aov, arv, ano⟩ S' dr sv st cur Wd (c + 1) rfl (fun h => by cases h) (fun _ => rfl) ⟨side_set w.side hk rfl, own_set w.own ⟨(fun h => by cases h), ow2⟩, ?_, o', by omega, ?_⟩
        · exact inv.read (a' := ⟨false, 0, an, aseen, av, aturn, avals, ar, atb, aov, arv, ano⟩) hk rfl rfl ⟨by show 0 ≤ 2; omega, fun h => by have h : 1 ≤ 0 := h; omega⟩
        · exact back rfl (Sep.pick h' 4 [0, 3, 1, 2] (by decide))
end Go.Proofs.Ytgpacebjbdhphaa
