/-
  Whatever agents do, and whatever is deferred, comes to what the document says: the walk.
-/
import Derived.Test.YtdkbgjhlpoibdaaGracePlays
namespace Go.Proofs.Ytdkbgjhlpoibdaa
open Go Go.AS Go.RowKit
set_option linter.unusedVariables false
variable {H H' : Heap} {R : Value → Heap → Prop} {L M : List Asr} {g m y N : Nat} {k a h : Int} {b : Option Nat} {G : Gr} {D : Dd}

structure Sm2 (N : Nat) (G : Gr) (D : Dd) : Prop where
  ok : Ok G
  rl : Rl N G D
theorem Sm2.rows (s : Sm2 N G D) : ∀ r ∈ D.rs, 1 ≤ r.h ∧ r.h ≤ D.Live.length := fun r hr => by
  have h1 : r.h ∈ G.q.map Wt.h := by rw [← s.rl.rows.hs]; exact List.mem_map.2 ⟨r, hr, rfl⟩
  have := s.rl.qh _ h1
  rw [s.rl.ll]; exact ⟨this.1, by omega⟩
theorem Sm2.lens (s : Sm2 N G D) : ∀ r ∈ D.rs, r.Fo.length = D.In.length := fun r hr => by rw [s.rl.il]; exact s.rl.rows.lens r hr

theorem GracePlays_ok {x0 : Int} {a : Option Addr} {n : Nat} {l : List (Int × Int)} (ha : Arg a n (l.map aCells) M) (hs : Sep H M) : CA en F.crossbarlaw09_GracePlays [I x0, .slice a n 0] H fun v _ => v = .bool true := by
  obtain rfl := ha.len
  rw [List.length_map]
  apply vc_crossbarlaw09_GracePlays
  refine made_s hs fun H2 m S hS h2 => ⟨_, rfl, cond_no rfl (cond_of (fun h1 => cond_yes rfl (CA_truth (by kernel_rfl) ⟨_, rfl, rfl⟩)) fun h1 => cond_of (fun h1 => cond_yes rfl (CA_truth (by kernel_rfl) ⟨_, rfl, rfl⟩)) fun h3 => ?_)⟩
  have hlen : l.length ≤ 300 := by simp only [decide_eq_false_iff_not] at h1; omega
  have hx0 : x0 ≤ 1000 := by simp only [decide_eq_false_iff_not] at h3; omega
  refine newG_s h2 fun H5 g mi hg => ⟨_, rfl, ?_⟩
  obtain ⟨b, junk, hb, hbj, h5⟩ := hg.ex
  refine dnew_s hx0 (by decide) h5 fun H6 y hd => ⟨_, rfl, cond_no rfl ?_⟩
  have both0 : Both H6 g m y ⟨x0, mi, [], [], S⟩ ⟨List.replicate x0.toNat false, [], List.replicate (20 : Int).toNat true⟩ M := Both.ofD hd hb hbj
  have ok0 : Ok ⟨x0, mi, [], [], S⟩ := ⟨⟨by simp, by simp, fun w hw => by simp at hw⟩, fun w hw => by simp at hw⟩
  have rl0 : Rl x0.toNat ⟨x0, mi, [], [], S⟩ ⟨List.replicate x0.toNat false, [], List.replicate (20 : Int).toNat true⟩ := by
    refine ⟨fun a ha => ?_, by simp, fun i hi => ?_, fun a ha => by simp at ha, trivial, by simp, fun i hi => ?_, fun k hk => ?_, fun h hh => by simp at hh⟩
    · show a < x0 ↔ a < (x0.toNat : Int); omega
    · rw [List.getD_eq_getElem?_getD, List.getElem?_replicate, if_pos hi]; rfl
    · show (List.replicate 20 true).getD i false = decide (S.size _ ≠ 0)
      rw [List.getD_eq_getElem?_getD, List.getElem?_replicate, if_pos hi, hS, if_pos (by omega)]; rfl
    · have hk : S.size k ≠ 0 := hk
      rw [hS] at hk
      by_cases e : 1 ≤ k ∧ k ≤ 20
      · exact e
      · rw [if_neg e] at hk; exact (hk rfl).elim
  have hN : x0.toNat ≤ 1000 := by omega
  generalize x0.toNat = N at *
  refine use_crossbarlaw09_GracePlays_0 (fun k t4 t8 H => ∃ (j : Nat) (G : Gr) (D : Dd), j ≤ l.length ∧ k = l.length - j ∧ t8 = (j : Int) ∧ G.q.length ≤ j ∧ Sm2 N G D ∧ Both H g m y G D M) l.length ⟨0, _, _, by omega, rfl, rfl, by simp, ⟨ok0, rl0⟩, both0⟩ ?_
  clear h5 hg hd both0 ok0 rl0 h2 hs hS
  rintro k t4 t8 ys H3 ⟨j, G, D, hj, rfl, rfl, hql, s, bo⟩
  refine cond_of (fun h2 => ?_) fun h2 => asBool_in (CA_truth (by kernel_rfl) ⟨_, rfl, rfl⟩)
  have hj' : j < l.length := by simp only [decide_eq_true_eq] at h2; omega
  have hjn : IntKind.i64.wrap ((j : Int) + 1) = ((j + 1 : Nat) : Int) := by rw [wrap_i64 (by omega)]; omega
  obtain ⟨q, rfl, e0, e1⟩ := bo.mem ha (j := j) (x := l[j]) (by simp)
  have hib : inB (j : Int) l.length := by unfold inB; omega
  generalize l[j] = x at e0 e1
  obtain ⟨wh, xn⟩ := x
  have hrl : D.rs.length = G.q.length := s.rl.rows.len
  have hil := s.rl.il
  have hll := s.rl.ll
  refine ⟨hib, asRow_in ⟨_, e1, fun vs H' => ∃ (G' : Gr) (D' : Dd), vs = [.bool true] ∧ G'.q.length ≤ j + 1 ∧ Sm2 N G' D' ∧ Both H' g m y G' D' M, ?_, ?_⟩⟩
  · refine ⟨hib, asRow_in ⟨_, e0, cond_of (fun c => ?_) fun c => ?_⟩⟩
    · obtain ⟨bI, bL, bV, ig, n1, n2, n3, n4⟩ := bo.isG
      refine enter_s ig fun H9 ig9 => ⟨_, rfl, ?_⟩
      obtain ⟨b, junk, id, nb1, nb2⟩ := (Both.ofG ig9 n1 n2 n3 n4).isD
      refine denter_s id fun H12 id12 => ⟨_, rfl, ?_⟩
      obtain ⟨e, r⟩ := s.rl.enter xn
      refine ⟨(G.enter xn).2, (D.enter xn).2, ?_, ?_, ⟨s.ok.enter, r⟩, Both.ofD id12 nb1 nb2⟩
      · rw [e]; simp
      · have : (G.enter xn).2.q = G.q := by unfold Gr.enter; split <;> rfl
        rw [this]; omega
    · refine cond_of (fun c => ?_) fun c => ?_
      · obtain ⟨bI, bL, bV, ig, n1, n2, n3, n4⟩ := bo.isG
        refine leave_s ig (by omega) fun H15 f hf ig15 => ⟨_, _, rfl, ?_⟩
        obtain ⟨b, junk, id, nb1, nb2⟩ := (Both.ofG1 ig15 n1 n2 n3 n4).isD
        refine dleave_s id (by omega) s.rows (by omega) s.lens (by omega) fun H19 f2 hf2 id19 => ⟨_, _, rfl, ?_⟩
        obtain ⟨e, r⟩ := s.rl.leave s.ok xn
        have bo2 := Both.ofD1 id19 nb1 nb2
        rw [e] at hf2 bo2 ⊢
        obtain ⟨K, hk, back⟩ := bo2.front2
        have hll' : (G.leave xn).1.length < 100000 := Nat.lt_of_le_of_lt leave_le (by omega)
        have hk' : Sep H19 (gl 1 f (ints (G.leave xn).1) :: gl 1 f2 (ints (G.leave xn).1) :: (M ++ K)) := Sep.up1 hk
        refine sameInts_s hll' hf hf2 hk' fun H23 h23 => ⟨_, rfl, ?_⟩
        refine spoil_s hll' hf h23 fun H26 h26 => ⟨rfl, (G.leave xn).2, (D.leave xn).2, rfl, Nat.le_trans leave_len (by omega), ⟨s.ok.leave, r⟩, ?_⟩
        exact back _ h26.tail
      · obtain ⟨bI, bL, bV, ig, n1, n2, n3, n4⟩ := bo.isG
        refine defer_s ig (by omega) fun H15 f mb hf ig15 => ⟨_, _, rfl, ?_⟩
        obtain ⟨b, junk, id, nb1, nb2⟩ := (Both.ofG1 ig15 n1 n2 n3 n4).isD
        refine ddefer_s id (by omega) s.rows (by omega) s.lens (by omega) fun H19 f2 mf hf2 id19 => ⟨_, _, rfl, ?_⟩
        obtain ⟨e, r⟩ := s.rl.defer (mb := mb) (mf := mf) s.ok xn
        have bo2 := Both.ofD1 id19 nb1 nb2
        rw [e] at hf2 bo2 ⊢
        obtain ⟨K, hk, back⟩ := bo2.front2
        have hll' : (G.defer xn mb).1.length < 100000 := Nat.lt_of_le_of_lt defer_le (by omega)
        have hk' : Sep H19 (gl 1 f (ints (G.defer xn mb).1) :: gl 1 f2 (ints (G.defer xn mb).1) :: (M ++ K)) := Sep.up1 hk
        refine sameInts_s hll' hf hf2 hk' fun H23 h23 => ⟨_, rfl, ?_⟩
        refine spoil_s hll' hf h23 fun H26 h26 => ⟨rfl, (G.defer xn mb).2, (D.defer xn mf).2, rfl, Nat.le_trans defer_len (by omega), ⟨s.ok.defer xn, r⟩, ?_⟩
        exact back _ h26.tail
  · clear s bo hrl hil hll hql
    rintro ys40 H41 b42 ⟨G, D, e, hql, s, bo⟩
    simp only [List.cons.injEq, Value.bool.injEq, and_true] at e
    subst e
    have hrl : D.rs.length = G.q.length := s.rl.rows.len
    have hll := s.rl.ll
    have bB := bo.bump 21
    obtain ⟨bI, bL, bV, ig, n1, n2, n3, n4⟩ := bB.isG
    obtain ⟨b, junk, id, nb1, nb2⟩ := bB.isD
    obtain ⟨_, _, _, _, _, _, _, hds⟩ := id.ex
    refine cond_no rfl (waits_s ig ⟨_, rfl, asAddr_in ⟨_, _, Sep.ld0 hds rfl, cond_no (by rw [hrl]; simp) (inside_s ig ⟨_, rfl, dinside_s id ⟨_, rfl, cond_no (by rw [s.rl.has]; simp) ?_, ⟨rfl, rfl, trivial⟩, ⟨⟨_, _, Sep.ld0 hds rfl, rfl, rfl, rfl⟩, ⟨_, _, Sep.ld0 hds rfl, rfl, rfl, rfl⟩, trivial⟩, trivial⟩⟩)⟩⟩)
    refine use_crossbarlaw09_GracePlays_1 (fun k t4 t13 H => ∃ p : Nat, 1 ≤ p ∧ p ≤ 21 ∧ k = 21 - p ∧ t13 = (p : Int) ∧ Both H g m y G D M) 20 ⟨1, by omega, by omega, rfl, rfl, bB⟩ ?_
    clear bB ig id hds
    rintro k t4 t13 ys H6 ⟨p, hp1, hp, rfl, rfl, bo6⟩
    refine cond_of (fun h7 => ?_) fun h7 => asBool_in ⟨l.length - (j + 1), by omega, j + 1, G, D, by omega, rfl, hjn, hql, s, bo6⟩
    have hp' : p ≤ 20 := by simp only [decide_eq_true_eq] at h7; omega
    have bB := bo6.bump 13
    obtain ⟨bI, bL, bV, ig, n1, n2, n3, n4⟩ := bB.isG
    obtain ⟨b, junk, id, nb1, nb2⟩ := bB.isD
    obtain ⟨_, _, bV', _, _, nV', _, hds⟩ := id.ex
    obtain ⟨_, _, _, _, hgs⟩ := ig.ex
    have hw : IntKind.i64.wrap ((p : Int) - 1) = ((p - 1 : Nat) : Int) := by rw [wrap_i64 (by omega)]; omega
    rw [hw]
    have hv : ((decide (((G.S.size p : Nat) : Int) > 0)) == D.Live.getD (p - 1) false) = true := by
      rw [s.rl.live (p - 1) (by omega), show (((p - 1 : Nat) : Int) + 1) = p by omega, beq_iff_eq]
      by_cases e : G.S.size p = 0
      · rw [decide_eq_false (by omega), decide_eq_false (by simp [e])]
      · rw [decide_eq_true (by omega), decide_eq_true e]
    refine size_s (Sep.up4 hgs) ⟨_, rfl, asAddr_in ⟨_, _, Sep.ld0 hds rfl, by unfold inB; omega, gl_ld (Sep.up3 hds) (nb nV') (o := p - 1) (bools_at (by omega)) fun i e => ?_⟩⟩
    have e' : (H6.bump 13).cell i (0 + ((p - 1 : Nat) : Int).toNat * 1) = some (.bool (D.Live.getD (p - 1) false)) := by rw [Int.toNat_natCast, Nat.mul_one]; exact e
    refine ⟨_, e', cond_no (by rw [hv]; rfl) ⟨21 - (p + 1), by omega, p + 1, by omega, by omega, rfl, by rw [wrap_i64 (by omega)]; omega, bB⟩, ⟨⟨_, e', rfl⟩, ⟨_, e', rfl⟩, trivial⟩, ⟨rfl, rfl, trivial⟩, ⟨⟨_, _, Sep.ld0 hds rfl, rfl, rfl, rfl⟩, ⟨_, _, Sep.ld0 hds rfl, rfl, rfl, rfl⟩, trivial⟩, trivial⟩

theorem GracePlays_law (H : Heap) (us : List Value) (h : shpVs en H 7 T.GracePlays us) : CA en F.crossbarlaw09_GracePlays us H fun v _ => v = .bool true := by
  obtain ⟨v0, u0, rfl, ⟨x, hx, _⟩, v, u, rfl, hA, rfl⟩ := args_GracePlays h
  obtain rfl := (List.cons.inj hx).1
  clear h hx
  obtain ⟨a, n3, l, M, rfl, ha, hs⟩ := acts_arg ((SlArg.one (P := fun c => _) hA).imp id fun ⟨i, cs, h1, h2, h3, h4⟩ => ⟨i, cs, h1, h2, h3, fun c hc => act_cell (h4 c hc)⟩)
  exact GracePlays_ok ha hs
end Go.Proofs.Ytdkbgjhlpoibdaa
