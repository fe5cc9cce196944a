/-
  'crossbarlaw08.SmemApart' returns true: a call changes at most its own word.
-/
import Derived.Test.YtdkbgjhlpoibdaaSmemPlays
import Derived.Test.YtdkbgjhlpoibdaaAs44
import Derived.Test.YtdkbgjhlpoibdaaVc9
namespace Go.Proofs.Ytdkbgjhlpoibdaa
open Go Go.AS Go.RowKit
set_option linter.unusedVariables false
variable {H H' : Heap} {m : Nat} {S S' : Sm} {R : Value → Heap → Prop} {L : List Asr}

/-- The words of a handle; none: it is not live. -/
def Sm.wd (S : Sm) (a : Int) : List (BitVec 64) := match S.find a with | some r => r.ws | none => []
theorem size_wd (S : Sm) (a : Int) : S.size a = (S.wd a).length := by unfold Sm.size Sm.wd; cases S.find a <;> rfl

/-- The words of handles from 1 on. -/
def Sm.wds (S : Sm) (n : Nat) : List (List (BitVec 64)) := (List.range n).map fun (h : Nat) => S.wd ((h : Int) + 1)

/-- A row: its block, its words. -/
abbrev Ro := Option Nat × List (BitVec 64)
def roV (r : Ro) : Value := .slice (addr r.1) r.2.length 0
def roA (r : Ro) : Asr := gl 1 r.1 (r.2.map W)
def roOk (r : Ro) : Prop := r.1 = none → r.2 = []

/-- The same but for the counts. -/
structure Same (S T : Sm) : Prop where
  regs : T.regs = S.regs
  made : T.made = S.made
  room : T.room = S.room
  bads : T.bads = S.bads
  mp : T.mp = S.mp
  cl : T.cl = S.cl
  cnt : wr T.count = T.count ∨ T.count = S.count

theorem Same.refl (S : Sm) : Same S S := ⟨rfl, rfl, rfl, rfl, rfl, rfl, .inr rfl⟩
theorem Same.trans {S T U : Sm} (h : Same S T) (k : Same T U) : Same S U :=
  ⟨k.regs.trans h.regs, k.made.trans h.made, k.room.trans h.room, k.bads.trans h.bads, k.mp.trans h.mp, k.cl.trans h.cl, by
    rcases k.cnt with h1 | h1
    · exact .inl h1
    · rcases h.cnt with h2 | h2
      · left; rw [h1]; exact h2
      · right; rw [h1, h2]⟩
theorem Same.wd {S T : Sm} (h : Same S T) (a : Int) : T.wd a = S.wd a := by unfold Sm.wd Sm.find; rw [h.regs]
theorem Same.good {S T : Sm} {most : Int} {n : Nat} (h : Same S T) (g : Good S most n) : Good T most n :=
  ⟨by rw [h.made]; exact g.made0, by rw [h.made]; exact g.made1, by rw [h.regs, h.made]; exact g.keys, by rw [h.regs]; exact g.lens, by rw [h.room, h.regs]; exact g.sum, by rw [h.room]; exact g.room0, by
    rcases h.cnt with h1 | h1
    · exact h1
    · rw [h1]; exact g.cnt, by rw [h.bads]; exact g.bad⟩

theorem upd_same (S : Sm) (nd : (S.regs.map Reg.h).Nodup) {a : Int} {r : Reg} (hf : S.find a = some r) {i : Nat} (hi : i < r.ws.length) : (S.upd a i (r.ws.getD i 0)).regs = S.regs := by
  unfold Sm.upd
  simp only
  conv => rhs; rw [← List.map_id S.regs]
  refine List.map_congr_left fun x hx => ?_
  by_cases e : x.h = a
  · rw [if_pos e]
    obtain ⟨hr, hra⟩ := find_mem hf
    have : x = r := by
      obtain ⟨p, hp, rfl⟩ := List.mem_iff_getElem.1 hx
      obtain ⟨q, hq, rfl⟩ := List.mem_iff_getElem.1 hr
      by_cases hpq : p = q
      · subst hpq; rfl
      · exfalso
        have h1 := List.pairwise_iff_getElem.1 nd
        rcases Nat.lt_or_gt_of_ne hpq with h2 | h2
        · exact h1 p q (by simpa using hp) (by simpa using hq) h2 (by simp only [List.getElem_map]; rw [e, hra])
        · exact h1 q p (by simpa using hq) (by simpa using hp) h2 (by simp only [List.getElem_map]; rw [e, hra])
    subst this
    have e2 : x.ws.set i (x.ws.getD i 0) = x.ws := by
      rw [List.getD_eq_getElem?_getD, List.getElem?_eq_getElem hi]
      exact List.set_getElem_self hi
    rw [e2]; rfl
  · rw [if_neg e]; rfl

/-- A load of a word that is there. -/
theorem load_wd (S : Sm) (nd : (S.regs.map Reg.h).Nodup) {a : Int} {i : Nat} (hi : i < (S.wd a).length) : (S.acc a i true id).1 = ((S.wd a).getD i 0, true) ∧ Same S (S.acc a i true id).2 := by
  cases hf : S.find a with
  | none => unfold Sm.wd at hi; rw [hf] at hi; simp at hi
  | some r =>
    have hw : S.wd a = r.ws := by unfold Sm.wd; rw [hf]
    rw [hw] at hi ⊢
    have e : S.acc a i true id = ((r.ws.getD i 0, true), S.cnt.upd a i (r.ws.getD i 0)) := by
      unfold Sm.acc; rw [hf]; simp only
      rw [if_pos ⟨trivial, by omega, by omega⟩]
      rfl
    rw [e]
    exact ⟨rfl, ⟨upd_same S.cnt nd hf hi, rfl, rfl, rfl, rfl, rfl, .inl (wr_wr _)⟩⟩

theorem words_s (h : Sep H (mem m S :: L)) {n : Nat} (hn : n ≤ 400) (hs : ∀ a, (S.wd a).length ≤ 4096)
    (hR : ∀ H' S' ob (rows : List Ro), rows.map (·.2) = S.wds n → (∀ r ∈ rows, roOk r) → (ob = none → rows = []) → Same S S' → Sep H' (mem m S' :: gl 1 ob (rows.map roV) :: many (rows.map roA) :: L) → R (.slice (addr ob) n 0) H') :
    CA en F.crossbarlaw08_words [P m, I n] H R := by
  apply vc_crossbarlaw08_words
  refine use_crossbarlaw08_words_0 (fun k a len t H' => ∃ (j : Nat) (S' : Sm) (ob : Option Nat) (rows : List Ro), j ≤ n ∧ k = n - j ∧ t = (j : Int) + 1 ∧ len = j ∧ a = addr ob ∧ rows.map (·.2) = S.wds j ∧ (∀ r ∈ rows, roOk r) ∧ (ob = none → rows = []) ∧ Same S S' ∧ Sep H' (mem m S' :: gl 1 ob (rows.map roV) :: many (rows.map roA) :: L)) n
    ⟨0, S, none, [], by omega, rfl, rfl, rfl, rfl, rfl, by simp, fun _ => rfl, Same.refl S, Sep.up1 (gl_none.2 (Sep.up1 (Sep.many0 h)))⟩ ?_
  rintro k a len t ys H1 ⟨j, S1, ob, rows, hj, rfl, rfl, rfl, rfl, hrw, hro, hob, hsm, h1⟩
  have hlen : rows.length = len := by
    have := congrArg List.length hrw
    simpa [Sm.wds] using this
  refine cond_of (fun hc => ?_) fun hc => ?_
  · simp only [decide_eq_true_eq] at hc
    have hj' : len < n := by omega
    generalize hws : S.wd ((len : Int) + 1) = ws
    have hwl : ws.length ≤ 4096 := by rw [← hws]; exact hs _
    refine use_crossbarlaw08_words_1 (fun k a l t H' => ∃ (i : Nat) (S' : Sm) (b : Option Nat), i ≤ ws.length ∧ k = ws.length - i ∧ t = (i : Int) ∧ l = i ∧ a = addr b ∧ (b = none → i = 0) ∧ Same S S' ∧ Sep H' (gl 1 b ((ws.take i).map W) :: mem m S' :: gl 1 ob (rows.map roV) :: many (rows.map roA) :: L)) ws.length
      ⟨0, S1, none, by omega, rfl, rfl, rfl, rfl, fun _ => rfl, hsm, gl_none.2 h1⟩ ?_
    rintro k a l t ys2 H2 ⟨i, S2, b, hi, rfl, rfl, rfl, rfl, hb, hsm2, h2⟩
    have hsz : (S2.size ((len : Int) + 1) : Int) = ws.length := by rw [size_wd, hsm2.wd, hws]
    have fin : l = ws.length → asSl (.slice (addr b) l 0) fun a3 i4 => nwH H2 (.cells true 1 [.slice a3 i4 0]) fun i5 H6 => ∃ l7, rowOf H6 1 (some ⟨i5, 0, none⟩) 1 = some l7 ∧ apd H6 24 1 (addr ob) len 1 l7 fun a8 i9 H10 =>
        ∃ k11, k11 < n - len ∧ ∃ (j : Nat) (S' : Sm) (ob : Option Nat) (rows : List Ro), j ≤ n ∧ k11 = n - j ∧ IntKind.i64.wrap ((len : Int) + 1 + 1) = (j : Int) + 1 ∧ i9 = j ∧ a8 = addr ob ∧ rows.map (·.2) = S.wds j ∧ (∀ r ∈ rows, roOk r) ∧ (ob = none → rows = []) ∧ Same S S' ∧ Sep H10 (mem m S' :: gl 1 ob (rows.map roV) :: many (rows.map roA) :: L) := by
      intro el
      subst el
      rw [List.take_length] at h2
      refine asSl_in (Sep.nw h2 fun i5 H6 h6 => ⟨[.slice (addr b) ws.length 0], rowOf_bx (Sep.get0 h6) (by decide) (by rfl), ?_⟩)
      -- i5, row, mem, out, rows
      refine apd_gl (cs := rows.map roV) (Sep.up3 h6) (fun e => by rw [hob e]; rfl) (by decide) (by rw [List.length_map, hlen, Nat.mul_one]) (by decide) rfl (by omega) fun H10 q h10 => ?_
      refine ⟨n - (len + 1), by omega, len + 1, S2, some q, rows ++ [(b, ws)], by omega, rfl, by rw [wrap_i64 (by omega)]; omega, rfl, rfl, ?_, ?_, fun e => (by cases e), hsm2, ?_⟩
      · rw [List.map_append, hrw]
        unfold Sm.wds
        rw [List.range_succ, List.map_append]
        simp [hws]
      · intro r hr
        rcases List.mem_append.1 hr with hr | hr
        · exact hro r hr
        · simp only [List.mem_singleton] at hr
          subst hr
          intro e
          exact List.length_eq_zero_iff.1 (hb e)
      · -- out, i5, row, mem, rows
        have h11 := Sep.rm1 h10
        have e1 : (rows ++ [(b, ws)]).map roV = rows.map roV ++ [.slice (addr b) ws.length 0] := by rw [List.map_append]; rfl
        have e2 : (rows ++ [(b, ws)]).map roA = rows.map roA ++ [gl 1 b (ws.map W)] := by rw [List.map_append]; rfl
        rw [e1, e2]
        -- out, row, mem, rows
        have h12 := Sep.many_iff.1 (Sep.up3 h11)
        have h13 : Sep H10 ((rows.map roA ++ [gl 1 b (ws.map W)]) ++ gl 1 (some q) (rows.map roV ++ [.slice (addr b) ws.length 0]) :: mem m S2 :: L) := by
          refine h12.perm ?_
          rw [List.append_assoc]
          exact List.Perm.append_left _ (List.Perm.swap _ _ _)
        have h14 := Sep.many_iff.2 h13
        exact Sep.up2 (Sep.up1 h14)
    refine size_s (Sep.up1 h2) ⟨_, rfl, ?_⟩
    rw [hsz]
    refine cond_of (fun h3 => ?_) fun h3 => ?_
    · simp only [decide_eq_true_eq] at h3
      have hl' : l < ws.length := by omega
      have e4 : decide ((l : Int) < 4096) = true := decide_eq_true (by omega)
      rw [e4]
      simp only [cond_true]
      have nd2 : (S2.regs.map Reg.h).Nodup := mem_keys (h := Sep.up1 h2)
      have hlw : l < (S2.wd ((len : Int) + 1)).length := by rw [hsm2.wd, hws]; exact hl'
      obtain ⟨e1, sm3⟩ := load_wd S2 nd2 hlw
      refine load_s (Sep.up1 h2) fun H5 h5 => ?_
      rw [e1]
      refine ⟨_, _, rfl, Sep.nw h5 fun i8 H9 h9 => ⟨[W ((S2.wd ((len : Int) + 1)).getD l 0)], rowOf_bx (Sep.get0 h9) (by decide) (by rfl), ?_⟩⟩
      -- i8, mem, row
      refine apd_gl (cs := (ws.take l).map W) (Sep.up2 h9) (fun e => by rw [hb e]; rfl) (by decide) (by rw [List.length_map, List.length_take, Nat.mul_one]; omega) (by decide) rfl (by omega) fun H13 q h13 => ?_
      refine ⟨ws.length - (l + 1), by omega, l + 1, _, some q, by omega, rfl, by rw [wrap_i64 (by omega)]; omega, rfl, rfl, fun e => (by cases e), hsm2.trans sm3, ?_⟩
      have e2 : (ws.take (l + 1)).map W = (ws.take l).map W ++ [W ((S2.wd ((len : Int) + 1)).getD l 0)] := by
        rw [hsm2.wd, hws, List.take_succ_eq_append_getElem hl', List.map_append, List.getD_eq_getElem?_getD, List.getElem?_eq_getElem hl']
        rfl
      rw [e2]
      -- row, i8, mem
      exact Sep.rm1 h13
    · simp only [decide_eq_false_iff_not] at h3
      exact fin (by omega)
  · simp only [decide_eq_false_iff_not] at hc
    obtain rfl : len = n := by omega
    exact asSl_in (hR H1 S1 ob rows hrw hro hob hsm h1)

/-! ### What a call does to the words -/
theorem find_upd (S : Sm) (a0 : Int) (i : Nat) (w : BitVec 64) (a : Int) : (S.upd a0 i w).wd a = if a = a0 then (S.wd a).set i w else S.wd a := by
  have hf : (S.upd a0 i w).find a = (S.find a).map fun r => if r.h = a0 then { r with ws := r.ws.set i w } else r := by
    unfold Sm.find Sm.upd
    simp only
    rw [List.find?_map]
    congr 1
    congr 1
    funext r
    simp only [Function.comp]
    split <;> rfl
  unfold Sm.wd
  rw [hf]
  cases hS : S.find a with
  | none => simp
  | some r =>
    have hra := (find_mem hS).2
    simp only [Option.map_some]
    by_cases e : a = a0
    · rw [if_pos e, if_pos (by rw [hra]; exact e)]
    · rw [if_neg e, if_neg (by rw [hra]; exact e)]

/-- An access: the word that it names becomes f of it; or nothing is changed. -/
theorem acc_wd (S : Sm) (a0 i : Int) (may : Bool) (f : BitVec 64 → BitVec 64) :
    ((S.acc a0 i may f).1.2 = false ∧ ∀ a, (S.acc a0 i may f).2.wd a = S.wd a) ∨
    ((S.acc a0 i may f).1 = ((S.wd a0).getD i.toNat 0, true) ∧ 0 ≤ i ∧ i < (S.wd a0).length ∧ ∀ a, (S.acc a0 i may f).2.wd a = if a = a0 then (S.wd a).set i.toNat (f ((S.wd a0).getD i.toNat 0)) else S.wd a) := by
  have bad : S.acc a0 i may f = ((0, false), { S.cnt with bads := wr (S.bads + 1) }) → _ := fun e => (Or.inl (by rw [e]; exact ⟨rfl, fun _ => rfl⟩) : ((S.acc a0 i may f).1.2 = false ∧ ∀ a, (S.acc a0 i may f).2.wd a = S.wd a) ∨ ((S.acc a0 i may f).1 = ((S.wd a0).getD i.toNat 0, true) ∧ 0 ≤ i ∧ i < (S.wd a0).length ∧ ∀ a, (S.acc a0 i may f).2.wd a = if a = a0 then (S.wd a).set i.toNat (f ((S.wd a0).getD i.toNat 0)) else S.wd a))
  cases hf : S.find a0 with
  | none => exact bad (by unfold Sm.acc; rw [hf])
  | some r =>
    have hw : S.wd a0 = r.ws := by unfold Sm.wd; rw [hf]
    by_cases hc : may = true ∧ 0 ≤ i ∧ i < r.ws.length
    · right
      have e : S.acc a0 i may f = ((r.ws.getD i.toNat 0, true), S.cnt.upd a0 i.toNat (f (r.ws.getD i.toNat 0))) := by unfold Sm.acc; rw [hf]; simp only; rw [if_pos hc]
      rw [e, hw]
      exact ⟨rfl, hc.2.1, hc.2.2, fun a => find_upd S.cnt a0 _ _ a⟩
    · exact bad (by unfold Sm.acc; rw [hf]; simp only; rw [if_neg hc])

theorem wd_len {most : Int} {n : Nat} (g : Good S most n) (a : Int) : ((S.wd a).length : Int) ≤ most := by
  have key : ∀ (l : List Reg) (r : Reg), r ∈ l → (r.ws.length : Int) ≤ sumR l := by
    intro l
    induction l with
    | nil => intro r h; cases h
    | cons q l ih =>
      intro r h
      have hn := sumR_nn l
      simp only [sumR]
      rcases List.mem_cons.1 h with rfl | h
      · omega
      · have := ih r h; omega
  have hs := g.sum
  have hr := g.room0
  have hn := sumR_nn S.regs
  unfold Sm.wd
  split
  · rename_i r hf
    have := key _ r (find_mem hf).1
    omega
  · simp only [List.length_nil]; omega

/-- The mask of a call. -/
def Act.msk (x : Act) : BitVec 64 := if x.kind % 8 = 3 then BitVec.allOnes 64 else x.mask

theorem xx (w mask : BitVec 64) : (w ^^^ w) &&& mask = 0 := by rw [BitVec.xor_self, BitVec.zero_and]; rfl

theorem under_keeps (w mask v : BitVec 64) : (w ^^^ under w mask v) &&& ~~~mask = 0#64 := BitVec.eq_of_getLsbD_eq fun i hi => by
  unfold under
  simp only [BitVec.getLsbD_and, BitVec.getLsbD_xor, BitVec.getLsbD_or, BitVec.getLsbD_not, hi, decide_true, Bool.true_and, BitVec.getLsbD_zero]
  cases w.getLsbD i <;> cases mask.getLsbD i <;> cases v.getLsbD i <;> rfl

theorem all_keeps (w v : BitVec 64) : (w ^^^ v) &&& ~~~(BitVec.allOnes 64) = 0#64 := by rw [BitVec.not_allOnes, BitVec.and_zero]

theorem cas_keeps (w mask old v : BitVec 64) : (w ^^^ casF mask old v w) &&& ~~~mask = 0 := by
  unfold casF
  split
  · exact under_keeps _ _ _
  · exact xx _ _

theorem act_wd {most : Int} {n : Nat} (hn : n ≤ 300) (hmost : most ≤ 65536) (g : Good S most n) (nd : (S.regs.map Reg.h).Nodup) (b : Nat) (x : Act) {a : Int} (ha : 1 ≤ a ∧ a ≤ S.made) :
    (x.kind % 8 = 1 ∧ a = x.h → (S.act b x).2.wd a = []) ∧
    (¬ (x.kind % 8 = 1 ∧ a = x.h) → ((S.act b x).2.wd a).length = (S.wd a).length ∧ ∀ i : Nat, i < (S.wd a).length →
      (if x.kind % 8 > 2 ∧ a = x.h ∧ (i : Int) = x.i then ((S.wd a).getD i 0 ^^^ ((S.act b x).2.wd a).getD i 0) &&& ~~~x.msk = 0 ∧ (x.kind % 8 > 4 → (S.act b x).1.is = true → (S.act b x).1.w = (S.wd a).getD i 0)
        else (S.wd a).getD i 0 = ((S.act b x).2.wd a).getD i 0)) := by
  have m0 := g.made0
  have m1 := g.made1
  -- an access
  have acc : ∀ (may : Bool) (f : BitVec 64 → BitVec 64) (w : BitVec 64), x.kind % 8 > 1 → S.act b x = (⟨w, (S.acc x.h x.i may f).1.2, 0, 0⟩, (S.acc x.h x.i may f).2) →
      (x.kind % 8 > 2 → ∀ v, (v ^^^ f v) &&& ~~~x.msk = 0) → (x.kind % 8 = 2 → f = id) → (x.kind % 8 > 4 → w = (S.acc x.h x.i may f).1.1) →
      (x.kind % 8 = 1 ∧ a = x.h → (S.act b x).2.wd a = []) ∧
      (¬ (x.kind % 8 = 1 ∧ a = x.h) → ((S.act b x).2.wd a).length = (S.wd a).length ∧ ∀ i : Nat, i < (S.wd a).length →
      (if x.kind % 8 > 2 ∧ a = x.h ∧ (i : Int) = x.i then ((S.wd a).getD i 0 ^^^ ((S.act b x).2.wd a).getD i 0) &&& ~~~x.msk = 0 ∧ (x.kind % 8 > 4 → (S.act b x).1.is = true → (S.act b x).1.w = (S.wd a).getD i 0)
        else (S.wd a).getD i 0 = ((S.act b x).2.wd a).getD i 0)) := by
    intro may f w hk e hm hid hw
    refine ⟨fun h => by omega, fun _ => ?_⟩
    rw [e]
    simp only
    rcases acc_wd S x.h x.i may f with ⟨h1, h2⟩ | ⟨h1, h2, h3, h4⟩
    · rw [h2]
      refine ⟨rfl, fun i hi => ?_⟩
      split
      · refine ⟨xx _ _, fun _ his => ?_⟩
        rw [h1] at his; cases his
      · rfl
    · rw [h4]
      by_cases ea : a = x.h
      · rw [if_pos ea]
        refine ⟨by rw [List.length_set], fun i hi => ?_⟩
        have ei : i = x.i.toNat ↔ (i : Int) = x.i := by omega
        have hg : ((S.wd a).set x.i.toNat (f ((S.wd x.h).getD x.i.toNat 0))).getD i 0 = if (i : Int) = x.i then f ((S.wd a).getD i 0) else (S.wd a).getD i 0 := by
          rw [List.getD_eq_getElem?_getD, List.getElem?_set]
          by_cases hc : (i : Int) = x.i
          · rw [if_pos hc, if_pos (ei.2 hc).symm, if_pos (by rw [← ei.2 hc]; exact hi), ← ei.2 hc, ← ea]; rfl
          · rw [if_neg hc, if_neg fun h => hc (ei.1 h.symm), List.getD_eq_getElem?_getD]
        rw [hg]
        split
        · rename_i hc
          rw [if_pos hc.2.2]
          refine ⟨hm hc.1 _, fun h5 _ => ?_⟩
          rw [hw h5, h1, ea, ei.2 hc.2.2]
        · rename_i hc
          by_cases hi2 : (i : Int) = x.i
          · rw [if_pos hi2]
            have h2' : x.kind % 8 = 2 := by
              have : ¬ x.kind % 8 > 2 := fun h => hc ⟨h, ea, hi2⟩
              omega
            rw [hid h2']; rfl
          · rw [if_neg hi2]
      · rw [if_neg ea]
        refine ⟨rfl, fun i hi => ?_⟩
        rw [if_neg fun h => ea h.2.1]
  have hx : x.kind % 8 = 0 ∨ x.kind % 8 = 1 ∨ x.kind % 8 = 2 ∨ x.kind % 8 = 3 ∨ x.kind % 8 = 4 ∨ x.kind % 8 = 5 ∨ x.kind % 8 = 6 ∨ x.kind % 8 = 7 := by omega
  have same : (S.act b x).2.wd a = S.wd a → x.kind % 8 ≤ 1 → (x.kind % 8 = 1 → a ≠ x.h) →
      (x.kind % 8 = 1 ∧ a = x.h → (S.act b x).2.wd a = []) ∧
      (¬ (x.kind % 8 = 1 ∧ a = x.h) → ((S.act b x).2.wd a).length = (S.wd a).length ∧ ∀ i : Nat, i < (S.wd a).length →
      (if x.kind % 8 > 2 ∧ a = x.h ∧ (i : Int) = x.i then ((S.wd a).getD i 0 ^^^ ((S.act b x).2.wd a).getD i 0) &&& ~~~x.msk = 0 ∧ (x.kind % 8 > 4 → (S.act b x).1.is = true → (S.act b x).1.w = (S.wd a).getD i 0)
        else (S.wd a).getD i 0 = ((S.act b x).2.wd a).getD i 0)) := by
    intro e hk h1
    refine ⟨fun h => (h1 h.1 h.2).elim, fun _ => ?_⟩
    rw [e]
    refine ⟨rfl, fun i hi => ?_⟩
    rw [if_neg (by omega)]
  have mske : x.kind % 8 ≠ 3 → x.msk = x.mask := fun h => by unfold Act.msk; rw [if_neg h]
  rcases hx with e | e | e | e | e | e | e | e
  · refine same ?_ (by omega) (by omega)
    have ea : S.act b x = (⟨0, false, (S.make b x.i).1.1, (S.make b x.i).1.2⟩, (S.make b x.i).2) := by unfold Sm.act; rw [if_pos e]
    rw [ea]
    unfold Sm.make
    split
    · rfl
    · split
      · rfl
      · have w1 : wr (S.made + 1) = S.made + 1 := wr_self (by omega)
        show (S.mk' b x.i.toNat).wd a = _
        unfold Sm.wd Sm.find Sm.mk'
        simp only [List.find?_append]
        cases hS : S.regs.find? fun r => r.h == a with
        | some r => rfl
        | none =>
          have hne : (wr (S.made + 1) == a) = false := by rw [w1, beq_eq_false_iff_ne]; omega
          simp [hne]
  · have ea : S.act b x = (⟨0, (S.free x.h).1, 0, 0⟩, (S.free x.h).2) := by unfold Sm.act; rw [if_neg (by omega), if_pos e]
    have hfind : (S.free x.h).2.find a = if a = x.h then none else S.find a := by
      unfold Sm.find Sm.free
      simp only
      rw [List.find?_filter]
      by_cases h : a = x.h
      · rw [if_pos h]
        refine List.find?_eq_none.2 fun r _ hr => ?_
        simp only [bne_iff_ne, ne_eq, decide_eq_true_eq, beq_iff_eq] at hr
        exact hr.1 (hr.2.trans h)
      · rw [if_neg h]
        congr 1
        funext r
        by_cases hr : r.h = a
        · simp [hr, h]
        · simp [hr]
    by_cases h : a = x.h
    · refine ⟨fun _ => ?_, fun hn => (hn ⟨e, h⟩).elim⟩
      rw [ea]
      unfold Sm.wd
      rw [hfind, if_pos h]
    · refine same ?_ (by omega) fun _ => h
      rw [ea]
      unfold Sm.wd
      rw [hfind, if_neg h]
  · exact acc true id _ (by omega) (by unfold Sm.act; rw [if_neg (by omega), if_neg (by omega), if_pos e]) (fun h => by omega) (fun _ => rfl) (fun h => by omega)
  · exact acc true (fun _ => x.v) 0 (by omega) (by unfold Sm.act; rw [if_neg (by omega), if_neg (by omega), if_neg (by omega), if_pos e]) (fun _ v => by unfold Act.msk; rw [if_pos e]; exact all_keeps _ _) (fun h => by omega) (fun h => by omega)
  · exact acc true (fun w => under w x.mask x.v) 0 (by omega) (by unfold Sm.act; rw [if_neg (by omega), if_neg (by omega), if_neg (by omega), if_neg (by omega), if_pos e]) (fun _ v => by rw [mske (by omega)]; exact under_keeps _ _ _) (fun h => by omega) (fun h => by omega)
  · exact acc (isAtomic x.op) (fetchF x.op x.mask x.v) _ (by omega) (by unfold Sm.act; rw [if_neg (by omega), if_neg (by omega), if_neg (by omega), if_neg (by omega), if_neg (by omega), if_pos e]) (fun _ v => by rw [mske (by omega)]; exact under_keeps _ _ _) (fun h => by omega) (fun h => rfl)
  · exact acc true (fun w => under w x.mask x.v) _ (by omega) (by unfold Sm.act; rw [if_neg (by omega), if_neg (by omega), if_neg (by omega), if_neg (by omega), if_neg (by omega), if_neg (by omega), if_pos e]) (fun _ v => by rw [mske (by omega)]; exact under_keeps _ _ _) (fun h => by omega) (fun h => rfl)
  · exact acc true (casF x.mask x.old x.v) _ (by omega) (by unfold Sm.act; rw [if_neg (by omega), if_neg (by omega), if_neg (by omega), if_neg (by omega), if_neg (by omega), if_neg (by omega), if_neg (by omega)]) (fun _ v => by rw [mske (by omega)]; exact cas_keeps _ _ _ _) (fun h => by omega) (fun h => rfl)

/-- A Make that is done: the handle, and noughts. -/
theorem act_made {most : Int} {n : Nat} (hn : n ≤ 300) (g : Good S most n) (b : Nat) (x : Act) (hk : x.kind % 8 = 0) (he : (S.act b x).1.e = 0) :
    (S.act b x).1.h = S.made + 1 ∧ 1 ≤ x.i ∧ (S.act b x).2.wd (S.made + 1) = List.replicate x.i.toNat 0 := by
  have m0 := g.made0
  have m1 := g.made1
  have ea : S.act b x = (⟨0, false, (S.make b x.i).1.1, (S.make b x.i).1.2⟩, (S.make b x.i).2) := by unfold Sm.act; rw [if_pos hk]
  rw [ea] at he ⊢
  simp only at he ⊢
  by_cases h1 : x.i < 1 ∨ 65536 < x.i
  · unfold Sm.make at he; rw [if_pos h1] at he; cases he
  · by_cases h2 : S.room < x.i
    · unfold Sm.make at he; rw [if_neg h1, if_pos h2] at he; cases he
    · have em : S.make b x.i = ((wr (S.made + 1), 0), S.mk' b x.i.toNat) := by unfold Sm.make; rw [if_neg h1, if_neg h2]
      have w1 : wr (S.made + 1) = S.made + 1 := wr_self (by omega)
      rw [em]
      refine ⟨w1, by omega, ?_⟩
      show (S.mk' b x.i.toNat).wd (S.made + 1) = _
      unfold Sm.wd Sm.find Sm.mk'
      simp only [List.find?_append]
      have hno : (S.regs.find? fun r => r.h == S.made + 1) = none := List.find?_eq_none.2 fun r hr h => by
        have := g.keys r hr
        simp only [beq_iff_eq] at h; omega
      rw [hno]
      simp [w1]

theorem act_h {most : Int} {n : Nat} (hn : n ≤ 300) (g : Good S most n) (b : Nat) (x : Act) : (S.act b x).1.h = 0 ∨ (S.act b x).1.h = S.made + 1 := by
  have m0 := g.made0
  have m1 := g.made1
  have w1 : wr (S.made + 1) = S.made + 1 := wr_self (by omega)
  unfold Sm.act
  split
  · unfold Sm.make
    split
    · exact .inl rfl
    · split
      · exact .inl rfl
      · exact .inr w1
  · left
    repeat' split
    all_goals rfl

/-! ### The law -/
theorem row_at {ob : Option Nat} {rows : List Ro} (h : Sep H L) (hA : gl 1 ob (rows.map roV) ∈ L) (hob : ob = none → rows = []) {j : Nat} (hj : j < rows.length) :
    ∃ b, addr ob = some ⟨b, 0, none⟩ ∧ H.cell b (0 + j * 1) = some (roV rows[j]) := by
  cases ob with
  | none => rw [hob rfl] at hj; simp at hj
  | some b =>
    have hg : H.get b = some (.cells true 1 (rows.map roV)) := h.all _ hA (bx b _) (by simp)
    refine ⟨b, rfl, ?_⟩
    rw [cell_of hg, Nat.zero_add, Nat.mul_one, List.getElem?_map, List.getElem?_eq_getElem hj]
    rfl

theorem wrow_at {rows : List Ro} (h : Sep H L) (hA : many (rows.map roA) ∈ L) (hro : ∀ r ∈ rows, roOk r) {j : Nat} (hj : j < rows.length) : WRow H (addr rows[j].1) rows[j].2 := by
  have hm : rows[j] ∈ rows := List.getElem_mem hj
  have hr := hro _ hm
  have hh : (roA rows[j]).holds H := h.all _ hA _ (List.mem_map_of_mem hm)
  have hl : ∀ i ∈ (roA rows[j]).foot, i < H.next := fun i hi => h.lt i (List.mem_flatMap.2 ⟨_, hA, List.mem_flatMap.2 ⟨_, List.mem_map_of_mem hm, hi⟩⟩)
  generalize rows[j] = r at *
  obtain ⟨b, ws⟩ := r
  cases b with
  | none => exact .inl (hr rfl)
  | some b => exact .inr ⟨b, true, 1, rfl, hl b (by simp [roA, gl, many, feet, bx]), hh (bx b _) (by simp)⟩

theorem SameWords_ok' {a1 a2 : Option Addr} {w1 w2 : List (BitVec 64)} {n : Nat} (h1 : WRow H a1 w1) (h2 : WRow H a2 w2) (e : n = w2.length) (hb : w1.length < 9223372036854775807) (hR : ∀ H', Frm [] H H' → R (.bool (decide (w1 = w2))) H') :
    CA en F.crossbarkit_SameWords [.slice a1 w1.length 0, .slice a2 n 0] H R := by
  subst e; exact SameWords_ok h1 h2 hb hR

theorem reps_rep (v : Value) : ∀ n, reps n [v] = List.replicate n v
  | 0 => rfl
  | n + 1 => by show [v] ++ reps n [v] = _; rw [reps_rep v n]; rfl

def Act.norm (x : Act) : Act := if x.kind % 8 = 0 then { x with i := x.i % 41 } else x
theorem Act.norm_kind (x : Act) : x.norm.kind = x.kind := by unfold Act.norm; split <;> rfl

set_option maxHeartbeats 4000000 in
theorem SmemApart_ok {x : Act} {a : Option Addr} {n : Nat} {l : List Act} {M : List Asr} (ha : Arg a n (l.map Act.cells) M) (h : Sep H M) : CA en F.crossbarlaw08_SmemApart [.slice a n 0, x.val] H fun r _ => r = .bool true := by
  have hn : n = l.length := by rw [ha.len, List.length_map]
  subst hn
  apply vc_crossbarlaw08_SmemApart
  refine Sep.nw h fun i1 Hb hb0 => ?_
  refine new_s hb0 fun H2 m mp h2 => ⟨_, rfl, ?_⟩
  refine cond_no rfl (cond_of (fun hl => cond_yes rfl (CA_truth (by kernel_rfl) ⟨_, rfl, rfl⟩)) fun hl => ?_)
  simp only [decide_eq_false_iff_not] at hl
  have hg0 : Good (newSm mp 4096) 4096 0 := ⟨Int.le_refl _, Int.le_refl _, by simp [newSm], by simp [newSm], by simp only [newSm, sumR, clampRoom_eq]; omega, by simp only [newSm, clampRoom_eq]; omega, rfl, rfl⟩
  refine use_crossbarlaw08_SmemApart_0 (fun k _ t6 t7 H => ∃ (j : Nat) (S : Sm), j ≤ l.length ∧ k = l.length - j ∧ t7 = (j : Int) ∧ t6 = S.made ∧ Good S 4096 j ∧ Sep H (mem m S :: cl i1 x.cells :: M)) l.length ⟨0, _, by omega, rfl, rfl, rfl, hg0, h2⟩ ?_
  clear h2 hg0
  rintro k t4 t6 t7 ys H ⟨j, S, hj, rfl, rfl, rfl, g, h⟩
  have nd := mem_keys (h := h)
  refine cond_of (fun h1 => ?_) fun h1 => ?_
  · simp only [decide_eq_true_eq] at h1
    have hj' : j < l.length := by omega
    have hjm : j < (l.map Act.cells).length := by simpa using hj'
    have hb : inB (j : Int) l.length := by unfold inB; omega
    have hx : (l.map Act.cells)[j] = (l[j]).cells := by simp
    generalize l[j] = y at hx
    obtain ⟨q, rfl, hq, _⟩ := ha.row h (fun A hA => List.mem_cons_of_mem _ (List.mem_cons_of_mem _ hA)) (act_cells l) hjm
    rw [hx] at hq
    refine ⟨hb, asRow_in ⟨_, _, _, _, _, _, _, hq, ?_⟩⟩
    refine Sep.nw h fun i10 H11 h11 => Sep.st0 h11 (Nat.le_of_ble_eq_true rfl) fun H12 h12 => ?_
    refine ⟨fun vs H' => Sep H' (cl i10 y.norm.cells :: mem m S :: cl i1 x.cells :: M), ⟨_, Sep.ld0 h12 (by rfl), Pick_ok (by decide) (by decide) ⟨_, rfl, ?_⟩⟩, ?_⟩
    · refine cond_of (fun hk => ⟨_, Sep.ld0 h12 (by rfl), Pick_ok (by decide) (by decide) ⟨_, rfl, Sep.st0 h12 (Nat.le_of_ble_eq_true rfl) fun H13 h13 => ?_⟩⟩) fun hk => ?_
      · have hk' : y.kind % 8 = 0 := by simpa using hk
        unfold Act.norm
        rw [if_pos hk']
        exact h13
      · have hk' : ¬ y.kind % 8 = 0 := by simpa using hk
        unfold Act.norm
        rw [if_neg hk']
        exact h12
    · intro ys23 H24 h24
      refine ⟨_, _, _, _, _, _, _, Sep.lds0 h24 (by rfl), ?_⟩
      refine does_ok (Sep.up1 h24) y.norm (free_made (by omega) g) fun H33 b h33 => ⟨_, _, _, _, rfl, ?_⟩
      obtain ⟨g', f1, f2, f3, f4⟩ := act_facts (S := S) (by decide) (by omega) g nd b y.norm
      have hh := act_h (S := S) (by omega) g b y.norm
      generalize (S.act b y.norm).2 = S' at *
      generalize (S.act b y.norm).1 = A at *
      have m0 := g.made0
      have m1 := g.made1
      refine Sep.nw h33 fun i38 H39 h39 => Sep.st0 h39 (Nat.le_of_ble_eq_true rfl) fun H40 h40 => ⟨_, Sep.ld0 h40 (by rfl), ?_⟩
      have hfin := (Sep.up1 h40).tail
      have h41 : Sep H40 (mem m S' :: cl i1 x.cells :: M) := Sep.rm1 (Sep.rm1 (Sep.up1 h40))
      refine cond_of (fun h3 => ⟨_, Sep.ld0 h40 (by rfl), cond_of (fun h5 => ?_) fun h5 => ⟨_, Sep.ld0 h40 (by rfl), l.length - (j + 1), by omega, j + 1, S', by omega, rfl, by rw [wrap_i64 (by omega)]; omega, ?_, g', h41⟩⟩) fun h3 => ⟨l.length - (j + 1), by omega, j + 1, S', by omega, rfl, by rw [wrap_i64 (by omega)]; omega, ?_, g', h41⟩
      · exfalso
        simp only [decide_eq_true_eq] at h3
        rw [wrap_i64 (by omega)] at h5
        simp only [bne_iff_ne, ne_eq] at h5
        omega
      · simp only [decide_eq_true_eq] at h3
        rw [f1]
        rcases hh with e | e
        · omega
        · rw [if_pos (by omega)]
      · simp only [decide_eq_false_iff_not] at h3
        rw [f1]
        rcases hh with e | e
        · rw [if_neg (by omega)]
        · omega
  · simp only [decide_eq_false_iff_not] at h1
    refine asBool_in (asInt_in ⟨_, Sep.ld1 h (by rfl), Pick_ok (by decide) (by decide) ⟨_, rfl, ?_⟩⟩)
    refine ⟨fun vs H' => Sep H' (mem m S :: cl i1 x.norm.cells :: M), ?_, ?_⟩
    · refine cond_of (fun hk => ⟨_, Sep.ld1 h (by rfl), Pick_ok (by decide) (by decide) ⟨_, rfl, Sep.st1 h (Nat.le_of_ble_eq_true rfl) fun H13 h13 => ?_⟩⟩) fun hk => ?_
      · have hk' : x.kind % 8 = 0 := by simpa using hk
        unfold Act.norm
        rw [if_pos hk']
        exact h13
      · have hk' : ¬ x.kind % 8 = 0 := by simpa using hk
        unfold Act.norm
        rw [if_neg hk']
        exact h
    rintro ys26 H27 h27
    have hxk := x.norm_kind
    have hxi : x.kind % 8 = 0 → x.norm.i < 41 := fun e => by unfold Act.norm; rw [if_pos e]; show x.i % 41 < 41; omega
    rw [← hxk] at *
    clear hxk
    generalize x.norm = x at *
    have m0 := g.made0
    have m1 := g.made1
    obtain ⟨p, hp⟩ : ∃ p : Nat, S.made = (p : Int) := ⟨S.made.toNat, by omega⟩
    rw [hp]
    refine words_s h27 (by omega) (fun a => by have := wd_len g a; omega) fun H29 S1 o1 r1 e1 ok1 n1 sm1 h29 => ⟨_, _, rfl, ?_⟩
    -- mem, o1, r1, x
    refine ⟨_, _, _, _, _, _, _, Sep.lds3 h29 (by rfl), ?_⟩
    have g1 := sm1.good g
    have nd1 := mem_keys (h := h29)
    refine does_ok h29 x (free_made (by omega) g1) fun H40 b h40 => ⟨_, _, _, _, rfl, ?_⟩
    obtain ⟨g2, f1, f2, f3, f4⟩ := act_facts (S := S1) (by decide) (by omega) g1 nd1 b x
    have hwd := fun (a : Int) (ha : 1 ≤ a ∧ a ≤ S1.made) => act_wd (S := S1) (by omega) (by decide) g1 nd1 b x ha
    have hmk := act_made (S := S1) (by omega) g1 b x
    generalize (S1.act b x).2 = S2 at *
    generalize (S1.act b x).1 = A at *
    refine Sep.nw h40 fun i45 H46 h46 => Sep.st0 h46 (Nat.le_of_ble_eq_true rfl) fun H47 h47 => ?_
    rw [wrap_i64 (by omega)]
    refine words_s (n := p + 1) (Sep.up1 h47) (by omega) (fun a => by have := wd_len g2 a; omega) fun H49 S3 o2 r2 e2 ok2 n2 sm2 h49 => ⟨_, _, rfl, ?_⟩
    clear h27 h29 h40 h46 h47
    have l1 : r1.length = p := by have := congrArg List.length e1; simpa [Sm.wds] using this
    have l2 : r2.length = p + 1 := by have := congrArg List.length e2; simpa [Sm.wds] using this
    have w1 : ∀ (j : Nat) (hj : j < r1.length), (r1[j]).2 = S1.wd ((j : Int) + 1) := fun j hj => by
      have h0 : (r1.map (·.2))[j]'(by simpa using hj) = (S.wds p)[j]'(by rw [← e1]; simpa using hj) := by simp only [e1]
      rw [List.getElem_map] at h0
      rw [h0, sm1.wd]
      simp [Sm.wds]
    have w2 : ∀ (j : Nat) (hj : j < r2.length), (r2[j]).2 = S2.wd ((j : Int) + 1) := fun j hj => by
      have h0 : (r2.map (·.2))[j]'(by simpa using hj) = (S2.wds (p + 1))[j]'(by rw [← e2]; simpa using hj) := by simp only [e2]
      rw [List.getElem_map] at h0
      rw [h0]
      simp [Sm.wds]
    have hp1 : S1.made = p := by rw [sm1.made]; exact hp
    obtain ⟨LL, hS, mo2, mr2, mA, mo1, mr1, mx⟩ : ∃ LL, Sep H49 LL ∧ gl 1 o2 (r2.map roV) ∈ LL ∧ many (r2.map roA) ∈ LL ∧ bx i45 (.cells true 0 [W A.w, .bool A.is, I A.h, I A.e]) ∈ LL ∧ gl 1 o1 (r1.map roV) ∈ LL ∧ many (r1.map roA) ∈ LL ∧ bx i1 (.cells true 0 x.cells) ∈ LL :=
      ⟨_, h49, .tail _ <| .head _, .tail _ <| .tail _ <| .head _, .tail _ <| .tail _ <| .tail _ <| .head _, .tail _ <| .tail _ <| .tail _ <| .tail _ <| .head _, .tail _ <| .tail _ <| .tail _ <| .tail _ <| .tail _ <| .head _, .tail _ <| .tail _ <| .tail _ <| .tail _ <| .tail _ <| .tail _ <| .head _⟩
    have cA : ∀ {H : Heap} (_ : Sep H LL) (k : Nat), H.cell i45 k = [W A.w, .bool A.is, I A.h, I A.e][k]? := fun h k => cell_of (h.all _ mA) k
    have cx : ∀ {H : Heap} (_ : Sep H LL) (k : Nat), H.cell i1 k = x.cells[k]? := fun h k => cell_of (h.all _ mx) k
    clear h49 nd1 f1 f2 f3 f4
    have hB := hS.bump 25
    refine ⟨fun vs H' => Sep H' LL, ?_, ?_⟩
    · refine cond_of (fun hk => ⟨_, cA hB 3, cond_of (fun h53 => ⟨_, cA hB 2, ?_⟩) fun h53 => ⟨hB, trivial⟩⟩) fun hk => ⟨hB, trivial⟩
      have hk' : x.kind % 8 = 0 := by simpa using hk
      obtain ⟨q1, q2, q3⟩ := hmk hk' (by simpa using h53)
      have hx41 := hxi hk'
      rw [hp1] at q1 q3
      refine cond_no (by rw [bne_eq_false_iff_eq, q1]) ?_
      obtain ⟨q, eq, hc⟩ := row_at (j := p) hB mo2 n2 (by omega)
      rw [eq]
      have hr61 : ∀ {i : Nat} {o : AS.Obj} {H : Heap} (_ : Sep H (bx i o :: LL)), WRow H (addr r2[p].1) r2[p].2 := fun h => wrow_at (j := p) h (List.mem_cons_of_mem _ mr2) ok2 (by omega)
      have hw2 := w2 p (by omega)
      rw [q3] at hw2
      refine ⟨by unfold inB; omega, asRow_in ⟨_, _, hc, _, cx hB 2, ⟨by omega, by omega, by omega⟩, Sep.nw hB fun i60 H61 h61 => ?_⟩⟩
      obtain ⟨q', eq', hc'⟩ := row_at (j := p) h61 (List.mem_cons_of_mem _ mo2) n2 (by omega)
      rw [eq] at eq'
      simp only [Option.some.injEq, Addr.mk.injEq, and_true] at eq'
      subst eq'
      have hw' : WRow H61 (addr r2[p].1) r2[p].2 := hr61 h61
      have hrep : WRow H61 (some ⟨i60, 0, none⟩) (List.replicate x.i.toNat (0 : BitVec 64)) := .inr ⟨i60, true, 1, rfl, h61.footlt (by simp [bx]), by
        rw [Sep.get0 h61, reps_rep, List.map_replicate]; rfl⟩
      refine SameWords_ok' hw' hrep (by rw [List.length_replicate]) (by rw [hw2, List.length_replicate]; omega) fun H63 f63 => ⟨_, rfl, ?_, ⟨⟨_, _, hc, rfl, rfl, rfl⟩, ⟨_, _, hc', rfl, rfl, rfl⟩, trivial⟩, trivial⟩
      rw [decide_eq_true hw2]
      exact cond_no rfl ((h61.keep f63).tail)
    · rintro ys69 H70 b71 hS70
      refine use_crossbarlaw08_SmemApart_1 (fun k _ t14 H' => ∃ j : Nat, j ≤ p ∧ k = p - j ∧ t14 = (j : Int) + 1 ∧ Sep H' LL) p ⟨0, by omega, rfl, rfl, hS70⟩ ?_
      rintro k t4 t14 ys H ⟨j, hj, rfl, rfl, hS⟩
      refine cond_of (fun h3 => ?_) fun h3 => ?_
      · simp only [decide_eq_true_eq] at h3
        have hj1 : j < r1.length := by omega
        have hj2 : j < r2.length := by omega
        have ew : IntKind.i64.wrap ((j : Int) + 1 - 1) = (j : Int) := by rw [wrap_i64 (by omega)]; omega
        rw [ew]
        obtain ⟨q1, eq1, hc1⟩ := row_at hS mo1 n1 hj1
        obtain ⟨q2, eq2, hc2⟩ := row_at hS mo2 n2 hj2
        rw [eq1, eq2]
        refine ⟨by unfold inB; omega, asRow_in ⟨_, _, hc1, by unfold inB; omega, asRow_in ⟨_, _, hc2, ?_⟩⟩⟩
        have hP : ∀ {H : Heap} (_ : Sep H LL), WRow H (addr r1[j].1) r1[j].2 := fun h => wrow_at h mr1 ok1 hj1
        have hQ : ∀ {H : Heap} (_ : Sep H LL), WRow H (addr r2[j].1) r2[j].2 := fun h => wrow_at h mr2 ok2 hj2
        have hPl := w1 j hj1
        have hQl := w2 j hj2
        obtain ⟨hd1, hd2⟩ := hwd ((j : Int) + 1) (by omega)
        have hPs : (r1[j].2).length ≤ 4096 := by rw [hPl]; have := wd_len g1 ((j : Int) + 1); omega
        rw [← hPl, ← hQl] at hd2
        rw [← hQl] at hd1
        clear hc1 hc2 eq1 eq2 hPl hQl w1 w2 hwd
        generalize r1[j] = P at *
        generalize r2[j] = Q at *
        have fin : ∀ {H' : Heap}, Sep H' LL → ∃ k, k < p - j ∧ ∃ j' : Nat, j' ≤ p ∧ k = p - j' ∧ IntKind.i64.wrap ((j : Int) + 1 + 1) = (j' : Int) + 1 ∧ Sep H' LL := fun h => ⟨p - (j + 1), by omega, j + 1, by omega, rfl, by rw [wrap_i64 (by omega)]; omega, h⟩
        by_cases hcc : x.kind % 8 = 1 ∧ (j : Int) + 1 = x.h
        · have hq := hd1 hcc
          refine cond_yes (by simpa using hcc.1) ⟨_, cx hS 1, cond_yes (by simpa using hcc.2) (cond_no ?_ (fin hS))⟩
          rw [hq]; rfl
        · obtain ⟨hlen, hwds⟩ := hd2 hcc
          refine cond_of (fun h5 => ⟨_, cx hS 1, cond_no ?_ ?_⟩) fun h5 => ?_
          · have h5' : x.kind % 8 = 1 := by simpa using h5
            simp only [beq_eq_false_iff_ne, ne_eq]
            exact fun h => hcc ⟨h5', h⟩
          all_goals
            refine cond_no (by rw [hlen]; simp) ?_
            refine use_crossbarlaw08_SmemApart_2 (fun k _ t17 H' => ∃ i : Nat, i ≤ P.2.length ∧ k = P.2.length - i ∧ t17 = (i : Int) ∧ Sep H' LL) P.2.length ⟨0, by omega, rfl, rfl, hS⟩ ?_
            clear hS
            rintro k t4 t17 ys H ⟨i, hi, rfl, rfl, hS⟩
            refine cond_of (fun h3 => ?_) fun h3 => asBool_in (fin hS)
            simp only [decide_eq_true_eq] at h3
            have hi1 : i < P.2.length := by omega
            have hi2 : i < Q.2.length := by omega
            have hwi := hwds i hi1
            refine ⟨_, cx hS 4, fun vs H' => vs = [W x.msk] ∧ Sep H' LL, ?_, ?_⟩
            · refine cond_of (fun h => ⟨?_, hS⟩) fun h => ⟨?_, hS⟩
              · unfold Act.msk; rw [if_pos (by simpa using h)]; rfl
              · unfold Act.msk; rw [if_neg (by simpa using h)]
            rintro ys3 H4 n5 ⟨e5, hS4⟩
            obtain rfl := one_int e5
            refine ⟨fun vs H' => vs = [.bool (decide (x.kind % 8 > 2 ∧ (j : Int) + 1 = x.h ∧ (i : Int) = x.i))] ∧ Sep H' LL, ?_, ?_⟩
            · refine cond_of (fun h => ⟨_, cx hS4 1, cond_of (fun h' => ⟨_, cx hS4 2, ?_, hS4⟩) fun h' => ⟨?_, hS4⟩⟩) fun h => ⟨?_, hS4⟩
              · simp only [decide_eq_true_eq] at h
                simp only [beq_iff_eq] at h'
                congr 2
                rw [Bool.eq_iff_iff]
                simp [h, h']
              · simp only [beq_eq_false_iff_ne, ne_eq] at h'
                rw [decide_eq_false (fun hh => h' hh.2.1)]
              · simp only [decide_eq_false_iff_not] at h
                rw [decide_eq_false (fun hh => h hh.1)]
            rintro ys9 H10 b11 ⟨e11, hS10⟩
            obtain rfl := one_bool e11
            have hB10 := hS10.bump 50
            obtain ⟨b1, ea1, ec1⟩ := (hP hB10).at' hi1
            obtain ⟨b2, ea2, ec2⟩ := (hQ hB10).at' hi2
            rw [ea1, ea2]
            have fin2 : ∃ k, k < P.2.length - i ∧ ∃ i' : Nat, i' ≤ P.2.length ∧ k = P.2.length - i' ∧ IntKind.i64.wrap ((i : Int) + 1) = (i' : Int) ∧ Sep (H10.bump 50) LL := ⟨P.2.length - (i + 1), by omega, i + 1, by omega, rfl, by rw [wrap_i64 (by omega)]; omega, hB10⟩
            have in1 : inB (i : Int) P.2.length := by unfold inB; omega
            have in2 : inB (i : Int) Q.2.length := by unfold inB; omega
            by_cases hc : x.kind % 8 > 2 ∧ (j : Int) + 1 = x.h ∧ (i : Int) = x.i
            · rw [decide_eq_true hc]
              rw [if_pos hc] at hwi
              refine cond_no rfl (cond_yes rfl ⟨in1, asRow_in ⟨_, ec1, in2, asRow_in ⟨_, ec2, cond_no ?_ (cond_yes rfl ?_)⟩⟩⟩)
              · simp only [wrap_u64, ofInt_bv]
                rw [hwi.1]; rfl
              · refine cond_of (fun h4 => ⟨_, cA hB10 1, cond_of (fun his => ⟨_, cA hB10 0, in1, asRow_in ⟨_, ec1, cond_no ?_ fin2, trivial⟩⟩) fun his => ⟨fin2, trivial⟩⟩) fun h4 => ⟨fin2, trivial⟩
                rw [bv_bne, bne_eq_false_iff_eq]
                exact hwi.2 (by simpa using h4) his
            · rw [decide_eq_false hc]
              rw [if_neg hc] at hwi
              refine cond_yes rfl ⟨in1, asRow_in ⟨_, ec1, in2, asRow_in ⟨_, ec2, cond_no ?_ (cond_no rfl (cond_no rfl ⟨fin2, trivial⟩))⟩⟩⟩
              rw [bv_bne, bne_eq_false_iff_eq]
              exact hwi
      · exact asBool_in (CA_truth (by kernel_rfl) ⟨_, rfl, rfl⟩)

theorem SmemApart_law (H : Heap) (us : List Value) (h : shpVs en H 7 Go.Proofs.Ytdkbgjhlpoibdaa.T.SmemApart us) : CA en F.crossbarlaw08_SmemApart us H fun v _ => v = .bool true := by
  obtain ⟨v, u, rfl, hA, v2, u2, rfl, ⟨l58, rfl, hx⟩, rfl⟩ := args_SmemApart h
  clear h
  obtain ⟨x, rfl⟩ := act_of hx
  obtain ⟨a, n2, l, M, rfl, ha, hs⟩ := acts_arg (H := H) (v := v) (hA.imp_right fun ⟨i, cs, e, hi, hg, hc⟩ => ⟨i, cs, e, hi, hg, fun c hm => act_of (hc c hm)⟩)
  exact SmemApart_ok ha hs
end Go.Proofs.Ytdkbgjhlpoibdaa
