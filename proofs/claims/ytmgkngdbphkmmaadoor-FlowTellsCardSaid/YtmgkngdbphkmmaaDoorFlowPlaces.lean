/-
  'crossbarlaw06.FlowPlaces' returns true.
-/
import Derived.Test.YtmgkngdbphkmmaaDoorFlowM
import Derived.Test.YtmgkngdbphkmmaaDoorVcFP
namespace Go.Proofs.YtmgkngdbphkmmaaDoor
open Go Go.AS Go.RowKit
set_option linter.unusedVariables false
variable {H H' : Heap} {R : Value → Heap → Prop} {L M : List Asr} {a b ta : Option Addr} {l : List Ins} {s t ps : List Int} {x : Ins} {v w : Int} {i j : Nat}

theorem FlowPlaces_ok {n : Nat} (rl : Rds (gh :: ga :: L) a l) (hn : n = l.length) (h : Sep H (gh :: ga :: L)) :
    CA en F.crossbarlaw06_FlowPlaces [.slice a n 0] H fun r _ => r = .bool true := by
  subst hn
  have known : ∀ {H : Heap} {L' : List Asr}, AS.Sep H L' → CA en F.crossbarlaw06_known [] H fun v H' => ∃ b, v = .bool b ∧ Value.bool b = .bool true := fun h => known06_s h fun _ _ => ⟨_, rfl, rfl⟩
  apply vc_crossbarlaw06_FlowPlaces
  refine Big_s h rl rfl (fun H2 h2 => ⟨_, rfl, cond_yes rfl (known h2)⟩) fun hbig hchk H2 h2 => ⟨_, rfl, cond_no rfl ?_⟩
  have hok : ∀ x ∈ l, OkI x := fun x hx => okI_chk (hchk x hx)
  refine Places_s h2 rl rfl (by omega) fun H8 qp hqp h8 => ⟨_, _, rfl, ?_⟩
  have wrp : ∀ {n : Int}, -100000 ≤ n ∧ n ≤ 100000 → IntKind.i64.wrap n = n := fun h => wrap_i64 (by omega)
  refine Targets_s h8 (fun H' hs => rl H' hs.tail) rfl (by omega) hok (fun hne H12 h12 => ⟨_, _, _, rfl, cond_no (by simp) (cond_no (by simpa using hne) ?_)⟩) fun hz H12 qt hqt h12 => ⟨_, _, _, rfl, cond_no (by simp) (cond_yes rfl (cond_no (by simp) ?_))⟩
  · refine use_crossbarlaw06_FlowPlaces_0 (fun k t2 t6 t7 H => ∃ j : Nat, j ≤ l.length ∧ k = l.length - j ∧ t7 = (j : Int) ∧ t6 = (pl l j : Int) ∧ H = H12) l.length ⟨0, by omega, rfl, rfl, rfl, rfl⟩ ?_
    rintro k t2 t6 t7 ys H3 ⟨j, hj, rfl, rfl, rfl, rfl⟩
    have hp : RdN (gl 1 qp (ints (plE l)) :: gh :: ga :: L) (addr qp) (plE l) := rdn_gl (by simp) hqp
    refine cond_of (fun h1 => ?_) fun h1 => ?_
    · have hj' : j < l.length := by simp only [decide_eq_true_eq] at h1; omega
      obtain ⟨x, hx⟩ : ∃ x, l[j]? = some x := ⟨_, List.getElem?_eq_getElem hj'⟩
      obtain ⟨bp, hbp, hcp⟩ := hp _ h12 j _ (plE_get hj')
      obtain ⟨i, hi, ho, _, _⟩ := rl.op h12.tail hx
      have hle := pl_le l j
      have hps := pl_succ hx
      have inl : inB (j : Int) l.length := by unfold inB; omega
      refine ⟨inl, ?_⟩
      rw [hbp, hi]
      refine asRow_in ⟨_, hcp, cond_no (by simp) ⟨inl, asRow_in ⟨_, ho, cond_of (fun e => ?_) fun e => ?_⟩⟩⟩
      · have e : x.op = 24 := by simpa using e
        have ew : wid x = 2 := if_pos e
        refine cond_yes (by simpa using hne) ⟨l.length - (j + 1), by omega, j + 1, by omega, rfl, ?_, ?_, rfl⟩
        · rw [wrp (by omega)]; omega
        · rw [wrp (n := (pl l j : Int) + 1) (by omega), wrp (by omega), hps, ew]; omega
      · have e : ¬ x.op = 24 := by simpa using e
        have ew : wid x = 1 := if_neg e
        refine cond_yes (by simpa using hne) ⟨l.length - (j + 1), by omega, j + 1, by omega, rfl, ?_, ?_, rfl⟩
        · rw [wrp (by omega)]; omega
        · rw [wrp (by omega), hps, ew]; omega
    · exact asBool_in (known h12)
  · obtain ⟨f1, f2, f3, f4, f5⟩ := fe_zero.1 hz
    refine use_crossbarlaw06_FlowPlaces_0 (fun k t2 t6 t7 H => ∃ j : Nat, j ≤ l.length ∧ k = l.length - j ∧ t7 = (j : Int) ∧ t6 = (pl l j : Int) ∧ Sep H (gl 1 qt (ints (tgs l)) :: gl 1 qp (ints (plE l)) :: gh :: ga :: L)) l.length ⟨0, by omega, rfl, rfl, rfl, h12⟩ ?_
    clear h12
    rintro k t2 t6 t7 ys H3 ⟨j, hj, rfl, rfl, rfl, hs⟩
    have hp : RdN (gl 1 qt (ints (tgs l)) :: gl 1 qp (ints (plE l)) :: gh :: ga :: L) (addr qp) (plE l) := rdn_gl (by simp) hqp
    have ht : RdN (gl 1 qt (ints (tgs l)) :: gl 1 qp (ints (plE l)) :: gh :: ga :: L) (addr qt) (tgs l) := rdn_gl (by simp) hqt
    have hr : Rds (gl 1 qt (ints (tgs l)) :: gl 1 qp (ints (plE l)) :: gh :: ga :: L) a l := fun H' hs => rl H' hs.tail.tail
    refine cond_of (fun h1 => ?_) fun h1 => ?_
    · have hj' : j < l.length := by simp only [decide_eq_true_eq] at h1; omega
      obtain ⟨x, hx⟩ : ∃ x, l[j]? = some x := ⟨_, List.getElem?_eq_getElem hj'⟩
      obtain ⟨bp, hbp, hcp⟩ := hp _ hs j _ (plE_get hj')
      obtain ⟨i, hi, ho, _, _⟩ := hr.op hs hx
      have hle := pl_le l j
      have hps := pl_succ hx
      have inl : inB (j : Int) l.length := by unfold inB; omega
      have ox := hok x (List.mem_of_getElem? hx)
      have hne2 : tgA l j ≠ -2 := fun e => f3 (e ▸ List.mem_of_getElem? (tgs_get hj'))
      have hjm := tgA_jmp hx hne2
      refine ⟨inl, ?_⟩
      rw [hbp, hi]
      refine asRow_in ⟨_, hcp, cond_no (by simp) ⟨inl, asRow_in ⟨_, ho, ?_⟩⟩⟩
      have hB := hs.bump 48
      obtain ⟨i', hi', _, hoff, hc⟩ := hr.op hB hx
      obtain rfl : i' = i := by rw [hi] at hi'; cases hi'; rfl
      have nxt : ∀ H' w', Sep H' (gl 1 qt (ints (tgs l)) :: gl 1 qp (ints (plE l)) :: gh :: ga :: L) → w' = (pl l (j + 1) : Int) → ∃ k, k < l.length - j ∧ ∃ j2 : Nat, j2 ≤ l.length ∧ k = l.length - j2 ∧ IntKind.i64.wrap ((j : Int) + 1) = (j2 : Int) ∧ w' = (pl l j2 : Int) ∧ Sep H' (gl 1 qt (ints (tgs l)) :: gl 1 qp (ints (plE l)) :: gh :: ga :: L) := by
        intro H' w' h' hw'
        refine ⟨l.length - (j + 1), by omega, j + 1, by omega, rfl, ?_, hw', h'⟩
        rw [wrp (by omega)]; omega
      refine cond_of (fun e => ?_) fun e => ?_
      all_goals
        refine cond_no rfl ⟨inl, asRow_in ⟨_, _, _, _, _, hc, Jumps_s (x := x) hB ox fun H16 h16 => ⟨_, rfl, inl, ?_⟩⟩⟩
        obtain ⟨bt, hbt, hct⟩ := ht _ h16 j _ (tgs_get hj')
        obtain ⟨bt2, hbt2, hct2⟩ := ht _ hB j _ (tgs_get hj')
        obtain rfl : bt2 = bt := by rw [hbt] at hbt2; cases hbt2; rfl
        rw [hbt]
        refine asRow_in ⟨_, hct, ?_⟩
        have du : ((decide (tgA l j ≥ 0) = decide (tgA l j ≥ 0)) ∧ (decide (tgA l j ≥ 0) = decide (tgA l j ≥ 0)) ∧ True) ∧ ((∃ n, (H3.bump 48).cell bt2 (0 + (j : Int).toNat * 1) = some (I n) ∧ tgA l j = n) ∧ (∃ n, H16.cell bt2 (0 + (j : Int).toNat * 1) = some (I n) ∧ tgA l j = n) ∧ True) ∧ True := ⟨⟨rfl, rfl, trivial⟩, ⟨⟨_, hct2, rfl⟩, ⟨_, hct, rfl⟩, trivial⟩, trivial⟩
        have hb : (!(jmp x == decide (tgA l j ≥ 0))) = false := by
          cases hx' : jmp x with
          | true => have := hjm.1 hx'; simp; omega
          | false => have : ¬ 0 ≤ tgA l j := fun h => by rw [hjm.2 h] at hx'; cases hx'
                     simp; omega
        refine cond_no hb ⟨inl, asRow_in ⟨_, hct, cond_no (by have := tgA_lt l j; simp; omega) ⟨inl, asRow_in ⟨_, hct, cond_of (fun p => ?_) fun p => ?_⟩⟩⟩⟩
        · have p : 0 ≤ tgA l j := by simpa using p
          obtain ⟨_, k, hk, hkl, hkp⟩ := tgA_nn hx p
          refine ⟨inl, asRow_in ⟨_, hct, ?_⟩⟩
          rw [hk]
          obtain ⟨bp1, hbp1, hcp1⟩ := hp _ h16 k _ (plE_get hkl)
          obtain ⟨bp2, hbp2, hcp2⟩ := hp _ h16 j _ (plE_get hj')
          obtain rfl : bp1 = bp := by rw [hbp] at hbp1; cases hbp1; rfl
          obtain rfl : bp2 = bp1 := by rw [hbp] at hbp2; cases hbp2; rfl
          obtain ⟨i2, hi2, _, hoff2, _⟩ := hr.op h16 hx
          obtain rfl : i2 = i' := by rw [hi] at hi2; cases hi2; rfl
          refine ⟨by unfold inB; omega, asRow_in ⟨_, hcp1, inl, asRow_in ⟨_, hcp2, inl, asRow_in ⟨_, hoff2, ⟨cond_no ?_ (nxt H16 _ h16 ?_), by rw [← hk]; exact du⟩⟩⟩⟩⟩
          · have := ox.2.2
            rw [wrp (n := (pl l j : Int) + 1) (by omega), wrp (by omega), hkp]
            simp
          · first
              | (have e : x.op = 24 := by simpa using e
                 have ew : wid x = 2 := if_pos e
                 rw [wrp (n := (pl l j : Int) + 1) (by omega), wrp (by omega), hps, ew]; omega)
              | (have e : ¬ x.op = 24 := by simpa using e
                 have ew : wid x = 1 := if_neg e
                 rw [wrp (by omega), hps, ew]; omega)
        · refine ⟨nxt H16 _ h16 ?_, du⟩
          first
            | (have e : x.op = 24 := by simpa using e
               have ew : wid x = 2 := if_pos e
               rw [wrp (n := (pl l j : Int) + 1) (by omega), wrp (by omega), hps, ew]; omega)
            | (have e : ¬ x.op = 24 := by simpa using e
               have ew : wid x = 1 := if_neg e
               rw [wrp (by omega), hps, ew]; omega)
    · exact asBool_in (known hs)

theorem insArg {v : Value} (hG : ∀ p ∈ [(0, gHalf), (1, gAtom)], p.1 < H.next ∧ H.get p.1 = some (.cells false 0 p.2)) {P : List Value → Prop} (hP : ∀ c, P c → ∃ x : Ins, c = x.cells) (hA : SlArg H P v) :
    ∃ a l X, v = .slice a l.length 0 ∧ Rds (gh :: ga :: X) a l ∧ Sep H (gh :: ga :: X) ∧ (∀ A ∈ gh :: ga :: X, ∃ i c, A = bx i (.cells false 0 c)) := by
  obtain ⟨a1, n1, css1, M1, X, rfl, ha1, m1, hs, hf, c1⟩ := Arg.moreE hA (sepG hG) (by intro A hA; simp only [List.mem_cons, List.not_mem_nil, or_false] at hA; rcases hA with rfl | rfl <;> exact ⟨_, _, rfl⟩)
  obtain ⟨l, rfl⟩ := ins_of css1 fun c hm => hP c (c1 c hm)
  obtain rfl : n1 = l.length := by rw [ha1.len, List.length_map]
  exact ⟨a1, l, X, rfl, rds_arg ha1 m1, hs, hf⟩

theorem FlowPlaces_law (H : Heap) (us : List Value) (hG : ∀ p ∈ [(0, gHalf), (1, gAtom)], p.1 < H.next ∧ H.get p.1 = some (.cells false 0 p.2)) (h : shpVs en H 7 T.FlowPlaces us) : CA en F.crossbarlaw06_FlowPlaces us H fun v _ => v = .bool true := by
  obtain ⟨v, u, rfl, hA, rfl⟩ := args_FlowPlaces h
  obtain ⟨a, l, X, rfl, rl, hs, _⟩ := insArg hG (fun c hc => by
    obtain ⟨ap1, bp1, rfl, ⟨np1, rfl, wp1⟩, ap2, bp2, rfl, ⟨np2, rfl, wp2⟩, ap3, bp3, rfl, ⟨np3, rfl, wp3⟩, ap4, bp4, rfl, ⟨np4, rfl, wp4⟩, ap5, bp5, rfl, ⟨np5, rfl, wp5⟩, rfl⟩ := hc
    exact ⟨⟨np1, np2, np3, np4, np5⟩, rfl⟩) (SlArg.one hA)
  exact FlowPlaces_ok rl rfl hs
end Go.Proofs.YtmgkngdbphkmmaaDoor
