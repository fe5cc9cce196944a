/-
  'crossbarlaw08.SmemWhole' returns true: the room and the words of live regions are together what there was at first; bad accesses are counted, and answer nought.
-/
import Derived.Test.YtdkbgjhlpoibdaaSmemActs
import Derived.Test.YtdkbgjhlpoibdaaAs43
import Derived.Test.YtdkbgjhlpoibdaaArgs
namespace Go.Proofs.Ytdkbgjhlpoibdaa
open Go Go.AS Go.RowKit
set_option linter.unusedVariables false
variable {H H' : Heap} {m : Nat} {S S' : Sm} {R : Value → Heap → Prop} {L : List Asr}

def sumR : List Reg → Int
  | [] => 0
  | r :: l => (r.ws.length : Int) + sumR l

/-- What holds between calls. -/
structure Good (S : Sm) (most : Int) (n : Nat) : Prop where
  made0 : 0 ≤ S.made
  made1 : S.made ≤ n
  keys : ∀ r ∈ S.regs, 1 ≤ r.h ∧ r.h ≤ S.made
  lens : ∀ r ∈ S.regs, 1 ≤ r.ws.length
  sum : S.room + sumR S.regs = most
  room0 : 0 ≤ S.room
  cnt : wr S.count = S.count
  bad : wr S.bads = S.bads

theorem sumR_nn : ∀ l : List Reg, 0 ≤ sumR l
  | [] => by simp [sumR]
  | r :: l => by have := sumR_nn l; simp only [sumR]; omega

theorem wr_wr (n : Int) : wr (wr n) = wr n := by
  have h : -9223372036854775808 ≤ wr n ∧ wr n < 9223372036854775808 := by
    unfold wr
    have e : IntKind.i64.wrap n = if 9223372036854775808 ≤ n % 18446744073709551616 then n % 18446744073709551616 - 18446744073709551616 else n % 18446744073709551616 := by
      show (let m := n % (2 ^ IntKind.i64.bits : Int); if (IntKind.i64.signed && decide (m ≥ (2 ^ (IntKind.i64.bits - 1) : Int))) = true then m - (2 ^ IntKind.i64.bits : Int) else m) = _
      have h1 : (2 ^ IntKind.i64.bits : Int) = 18446744073709551616 := rfl
      have h2 : (2 ^ (IntKind.i64.bits - 1) : Int) = 9223372036854775808 := rfl
      have h3 : IntKind.i64.signed = true := rfl
      rw [h1, h2, h3]
      simp
    rw [e]
    split <;> omega
  exact wrap_i64 h

theorem wr_self {n : Int} (h : -9223372036854775808 ≤ n ∧ n < 9223372036854775808) : wr n = n := wrap_i64 h

theorem sumR_map {f : Reg → Reg} (hf : ∀ r, (f r).ws.length = r.ws.length) : ∀ l, sumR (l.map f) = sumR l
  | [] => rfl
  | r :: l => by simp only [List.map_cons, sumR, hf, sumR_map hf l]

theorem sumR_append : ∀ (l k : List Reg), sumR (l ++ k) = sumR l + sumR k
  | [], k => by simp [sumR]
  | r :: l, k => by simp only [List.cons_append, sumR, sumR_append l k]; omega

/-- An access. -/
theorem acc_facts {most : Int} {n : Nat} (g : Good S most n) (a i : Int) (may : Bool) (f : BitVec 64 → BitVec 64) :
    Good (S.acc a i may f).2 most n ∧ (S.acc a i may f).2.made = S.made ∧ (S.acc a i may f).2.count = wr (S.count + 1) ∧
      (S.acc a i may f).2.bads = wr (S.bads + (if (S.acc a i may f).1.2 then 0 else 1)) ∧ ((S.acc a i may f).1.2 = false → (S.acc a i may f).1.1 = 0) := by
  have bad : S.acc a i may f = ((0, false), { S.cnt with bads := wr (S.bads + 1) }) → Good (S.acc a i may f).2 most n ∧ (S.acc a i may f).2.made = S.made ∧ (S.acc a i may f).2.count = wr (S.count + 1) ∧
      (S.acc a i may f).2.bads = wr (S.bads + (if (S.acc a i may f).1.2 then 0 else 1)) ∧ ((S.acc a i may f).1.2 = false → (S.acc a i may f).1.1 = 0) := by
    intro e
    rw [e]
    exact ⟨⟨g.made0, g.made1, g.keys, g.lens, g.sum, g.room0, wr_wr _, wr_wr _⟩, rfl, rfl, rfl, fun _ => rfl⟩
  cases hf : S.find a with
  | none => exact bad (by unfold Sm.acc; rw [hf])
  | some r =>
    by_cases hc : may = true ∧ 0 ≤ i ∧ i < r.ws.length
    · have e : S.acc a i may f = ((r.ws.getD i.toNat 0, true), S.cnt.upd a i.toNat (f (r.ws.getD i.toNat 0))) := by unfold Sm.acc; rw [hf]; simp only; rw [if_pos hc]
      rw [e]
      refine ⟨⟨g.made0, g.made1, fun q hq => ?_, fun q hq => ?_, ?_, g.room0, wr_wr _, g.bad⟩, rfl, rfl, ?_, fun h => by cases h⟩
      · simp only [Sm.upd, Sm.cnt, List.mem_map] at hq
        obtain ⟨p, hp, rfl⟩ := hq
        have := g.keys p hp
        show 1 ≤ (if p.h = a then _ else p : Reg).h ∧ (if p.h = a then _ else p : Reg).h ≤ S.made
        split <;> exact this
      · simp only [Sm.upd, Sm.cnt, List.mem_map] at hq
        obtain ⟨p, hp, rfl⟩ := hq
        have := g.lens p hp
        split
        · simpa using this
        · exact this
      · have e2 : sumR (S.cnt.upd a i.toNat (f (r.ws.getD i.toNat 0))).regs = sumR S.regs := by
          simp only [Sm.upd, Sm.cnt]
          refine sumR_map (fun q => ?_) _
          split <;> simp
        rw [e2]; exact g.sum
      · show S.bads = wr (S.bads + 0)
        rw [Int.add_zero, g.bad]
    · exact bad (by unfold Sm.acc; rw [hf]; simp only; rw [if_neg hc])

theorem sum_filter : ∀ {l : List Reg} {a : Int}, (l.map Reg.h).Nodup → sumR (l.filter fun r => r.h != a) + (match l.find? (fun r => r.h == a) with | some r => (r.ws.length : Int) | none => 0) = sumR l
  | [], a, _ => by simp [sumR]
  | r :: l, a, hn => by
    simp only [List.map_cons, List.nodup_cons] at hn
    by_cases h : r.h = a
    · have e1 : (r.h != a) = false := by simp [h]
      have e2 : (r.h == a) = true := by simp [h]
      have e3 : (l.filter fun r => r.h != a) = l := List.filter_eq_self.2 fun q hq => by
        simp only [bne_iff_ne, ne_eq]
        intro e
        exact hn.1 (List.mem_map.2 ⟨q, hq, by rw [e, h]⟩)
      simp only [List.filter_cons, e1, List.find?_cons, e2, e3, sumR]
      simp only [Bool.false_eq_true, if_false]; omega
    · have e1 : (r.h != a) = true := by simp [h]
      have e2 : (r.h == a) = false := by simp [h]
      have ih := sum_filter (a := a) hn.2
      simp only [List.filter_cons, e1, List.find?_cons, e2, if_true, sumR]
      omega

theorem size_find (S : Sm) (a : Int) : (S.size a : Int) = match S.regs.find? (fun r => r.h == a) with | some r => (r.ws.length : Int) | none => 0 := by
  unfold Sm.size Sm.find
  split <;> rename_i h <;> rw [h] <;> rfl

/-- Any call. -/
theorem act_facts {most : Int} {n : Nat} (hm : most ≤ 65536) (hn : n ≤ 300) (g : Good S most n) (nd : (S.regs.map Reg.h).Nodup) (b : Nat) (x : Act) :
    Good (S.act b x).2 most (n + 1) ∧ (S.act b x).2.made = (if (S.act b x).1.h > S.made then (S.act b x).1.h else S.made) ∧
      (S.act b x).2.count = wr (S.count + (if x.kind % 8 > 1 then 1 else 0)) ∧ (S.act b x).2.bads = wr (S.bads + (if x.kind % 8 > 1 ∧ (S.act b x).1.is = false then 1 else 0)) ∧
      (x.kind % 8 > 1 → (S.act b x).1.is = false → (S.act b x).1.w = 0) := by
  have up : ∀ {T : Sm}, Good T most n → Good T most (n + 1) := fun t => ⟨t.made0, by have := t.made1; omega, t.keys, t.lens, t.sum, t.room0, t.cnt, t.bad⟩
  have acc : ∀ (may : Bool) (f : BitVec 64 → BitVec 64) (w : BitVec 64) , x.kind % 8 > 1 → (S.act b x) = (⟨w, (S.acc x.h x.i may f).1.2, 0, 0⟩, (S.acc x.h x.i may f).2) → (w = 0 ∨ w = (S.acc x.h x.i may f).1.1) →
      Good (S.act b x).2 most (n + 1) ∧ (S.act b x).2.made = (if (S.act b x).1.h > S.made then (S.act b x).1.h else S.made) ∧
      (S.act b x).2.count = wr (S.count + (if x.kind % 8 > 1 then 1 else 0)) ∧ (S.act b x).2.bads = wr (S.bads + (if x.kind % 8 > 1 ∧ (S.act b x).1.is = false then 1 else 0)) ∧
      (x.kind % 8 > 1 → (S.act b x).1.is = false → (S.act b x).1.w = 0) := by
    intro may f w hk e hw
    obtain ⟨h1, h2, h3, h4, h5⟩ := acc_facts g x.h x.i may f
    rw [e]
    have m0 := g.made0
    refine ⟨up h1, ?_, ?_, ?_, fun _ hi => ?_⟩
    · rw [if_neg (by show ¬ (0 > S.made); omega)]; exact h2
    · rw [if_pos hk]; exact h3
    · show (S.acc x.h x.i may f).2.bads = _
      rw [h4]
      cases hi : (S.acc x.h x.i may f).1.2
      · simp [hk]
      · simp
    · rcases hw with hw | hw
      · exact hw
      · show w = 0
        rw [hw]; exact h5 hi
  have kb : 0 ≤ x.kind % 8 ∧ x.kind % 8 < 8 := by omega
  have hx : x.kind % 8 = 0 ∨ x.kind % 8 = 1 ∨ x.kind % 8 = 2 ∨ x.kind % 8 = 3 ∨ x.kind % 8 = 4 ∨ x.kind % 8 = 5 ∨ x.kind % 8 = 6 ∨ x.kind % 8 = 7 := by omega
  rcases hx with e | e | e | e | e | e | e | e
  · -- a region more, or none
    have ea : S.act b x = (⟨0, false, (S.make b x.i).1.1, (S.make b x.i).1.2⟩, (S.make b x.i).2) := by unfold Sm.act; rw [if_pos e]
    rw [ea]
    have m0 := g.made0
    have m1 := g.made1
    have c0 : wr (S.count + 0) = S.count := by rw [Int.add_zero, g.cnt]
    have b0 : wr (S.bads + 0) = S.bads := by rw [Int.add_zero, g.bad]
    have w1 : wr (S.made + 1) = S.made + 1 := wr_self (by omega)
    have none : ∀ k, (S.make b x.i) = ((0, k), S) → Good (S.make b x.i).2 most (n + 1) ∧ (S.make b x.i).2.made = (if (S.make b x.i).1.1 > S.made then (S.make b x.i).1.1 else S.made) ∧ (S.make b x.i).2.count = S.count ∧ (S.make b x.i).2.bads = S.bads := by
      intro k ek
      rw [ek]
      exact ⟨up g, by rw [if_neg (by show ¬ (0 > S.made); omega)], rfl, rfl⟩
    have key : Good (S.make b x.i).2 most (n + 1) ∧ (S.make b x.i).2.made = (if (S.make b x.i).1.1 > S.made then (S.make b x.i).1.1 else S.made) ∧ (S.make b x.i).2.count = S.count ∧ (S.make b x.i).2.bads = S.bads := by
      by_cases h1 : x.i < 1 ∨ 65536 < x.i
      · exact none 1 (by unfold Sm.make; rw [if_pos h1])
      · by_cases h2 : S.room < x.i
        · exact none 5 (by unfold Sm.make; rw [if_neg h1, if_pos h2])
        · have em : S.make b x.i = ((wr (S.made + 1), 0), S.mk' b x.i.toNat) := by unfold Sm.make; rw [if_neg h1, if_neg h2]
          have hs := sumR_nn S.regs
          have hsum := g.sum
          have w2 : wr (S.room - (x.i.toNat : Int)) = S.room - x.i := by rw [wr_self (by omega)]; omega
          rw [em, w1]
          refine ⟨⟨?_, ?_, fun r hr => ?_, fun r hr => ?_, ?_, ?_, g.cnt, g.bad⟩, ?_, rfl, rfl⟩
          · show 0 ≤ wr (S.made + 1); rw [w1]; omega
          · show wr (S.made + 1) ≤ _; rw [w1]; omega
          · show 1 ≤ r.h ∧ r.h ≤ wr (S.made + 1)
            rw [w1]
            simp only [Sm.mk', List.mem_append, List.mem_singleton] at hr
            rcases hr with hr | rfl
            · have := g.keys r hr; omega
            · show 1 ≤ wr (S.made + 1) ∧ wr (S.made + 1) ≤ S.made + 1
              rw [w1]; omega
          · simp only [Sm.mk', List.mem_append, List.mem_singleton] at hr
            rcases hr with hr | rfl
            · exact g.lens r hr
            · simp only [List.length_replicate]; omega
          · show wr (S.room - (x.i.toNat : Int)) + sumR (S.regs ++ _) = most
            rw [w2, sumR_append]
            simp only [sumR, List.length_replicate]; omega
          · show 0 ≤ wr (S.room - (x.i.toNat : Int)); rw [w2]; omega
          · show wr (S.made + 1) = _
            rw [w1, if_pos (by show S.made + 1 > S.made; omega)]
    refine ⟨key.1, key.2.1, ?_, ?_, fun h => by omega⟩
    · rw [if_neg (by omega), c0]; exact key.2.2.1
    · rw [if_neg (by omega), b0]; exact key.2.2.2
  · have ea : S.act b x = (⟨0, (S.free x.h).1, 0, 0⟩, (S.free x.h).2) := by unfold Sm.act; rw [if_neg (by omega), if_pos e]
    rw [ea]
    have m0 := g.made0
    have hsum := g.sum
    have hr0 := g.room0
    have hs := sumR_nn (S.regs.filter fun r => r.h != x.h)
    have hf := sum_filter (a := x.h) nd
    rw [← size_find] at hf
    have w1 : wr (S.room + (S.size x.h : Int)) = S.room + S.size x.h := wr_self (by omega)
    refine ⟨⟨m0, by have := g.made1; show S.made ≤ _; omega, fun r hr => g.keys r (List.mem_filter.1 hr).1, fun r hr => g.lens r (List.mem_filter.1 hr).1, ?_, ?_, g.cnt, g.bad⟩, ?_, ?_, ?_, fun h => by omega⟩
    · show wr (S.room + (S.size x.h : Int)) + sumR _ = most
      rw [w1]; simp only [Sm.free]; omega
    · show 0 ≤ wr (S.room + (S.size x.h : Int)); rw [w1]; omega
    · rw [if_neg (by show ¬ (0 > S.made); omega)]; rfl
    · rw [if_neg (by omega), Int.add_zero]; exact g.cnt.symm
    · rw [if_neg (by omega), Int.add_zero]; exact g.bad.symm
  · exact acc true id _ (by omega) (by unfold Sm.act; rw [if_neg (by omega), if_neg (by omega), if_pos e]) (.inr rfl)
  · exact acc true (fun _ => x.v) 0 (by omega) (by unfold Sm.act; rw [if_neg (by omega), if_neg (by omega), if_neg (by omega), if_pos e]) (.inl rfl)
  · exact acc true (fun w => under w x.mask x.v) 0 (by omega) (by unfold Sm.act; rw [if_neg (by omega), if_neg (by omega), if_neg (by omega), if_neg (by omega), if_pos e]) (.inl rfl)
  · exact acc (isAtomic x.op) (fetchF x.op x.mask x.v) _ (by omega) (by unfold Sm.act; rw [if_neg (by omega), if_neg (by omega), if_neg (by omega), if_neg (by omega), if_neg (by omega), if_pos e]) (.inr rfl)
  · exact acc true (fun w => under w x.mask x.v) _ (by omega) (by unfold Sm.act; rw [if_neg (by omega), if_neg (by omega), if_neg (by omega), if_neg (by omega), if_neg (by omega), if_neg (by omega), if_pos e]) (.inr rfl)
  · exact acc true (casF x.mask x.old x.v) _ (by omega) (by unfold Sm.act; rw [if_neg (by omega), if_neg (by omega), if_neg (by omega), if_neg (by omega), if_neg (by omega), if_neg (by omega), if_neg (by omega)]) (.inr rfl)

/-! ### Sums over handles -/
def sumTo (h : Int) : List Reg → Int
  | [] => 0
  | r :: l => (if r.h < h then (r.ws.length : Int) else 0) + sumTo h l
def cntTo (h : Int) : List Reg → Int
  | [] => 0
  | r :: l => (if r.h < h then 1 else 0) + cntTo h l

theorem sumTo_step : ∀ {l : List Reg} {h : Int}, (l.map Reg.h).Nodup → (∀ r ∈ l, 1 ≤ r.ws.length) →
    sumTo (h + 1) l = sumTo h l + (match l.find? (fun r => r.h == h) with | some r => (r.ws.length : Int) | none => 0) ∧
    cntTo (h + 1) l = cntTo h l + (if (match l.find? (fun r => r.h == h) with | some r => (r.ws.length : Int) | none => 0) > 0 then 1 else 0)
  | [], h, _, _ => by simp [sumTo, cntTo]
  | r :: l, h, hn, hl => by
    simp only [List.map_cons, List.nodup_cons] at hn
    have ih := sumTo_step (h := h) hn.2 fun q hq => hl q (List.mem_cons_of_mem _ hq)
    by_cases e : r.h = h
    · have e2 : (r.h == h) = true := by simp [e]
      have e3 : l.find? (fun r => r.h == h) = none := List.find?_eq_none.2 fun q hq hqe => hn.1 (List.mem_map.2 ⟨q, hq, by simp only [beq_iff_eq] at hqe; rw [hqe, e]⟩)
      rw [e3] at ih
      have hr := hl r (by simp)
      simp only [sumTo, cntTo, List.find?_cons, e2]
      rw [if_pos (by omega), if_neg (by omega), if_pos (by omega), if_neg (by omega), if_pos (by omega)]
      simp only at ih
      rw [if_neg (by omega)] at ih
      omega
    · have e2 : (r.h == h) = false := by simp [e]
      simp only [sumTo, cntTo, List.find?_cons, e2]
      by_cases h1 : r.h < h
      · rw [if_pos (by omega), if_pos (by omega), if_pos (by omega), if_pos (by omega)]
        omega
      · rw [if_neg (by omega), if_neg (by omega), if_neg (by omega), if_neg (by omega)]
        omega

theorem sumTo_all : ∀ {l : List Reg} {h : Int}, (∀ r ∈ l, r.h < h) → sumTo h l = sumR l ∧ cntTo h l = l.length
  | [], h, _ => by simp [sumTo, cntTo, sumR]
  | r :: l, h, hl => by
    have ih := sumTo_all (h := h) fun q hq => hl q (List.mem_cons_of_mem _ hq)
    simp only [sumTo, cntTo, sumR, List.length_cons]
    rw [if_pos (hl r (by simp)), if_pos (hl r (by simp))]
    omega

theorem sumTo_none : ∀ {l : List Reg} {h : Int}, (∀ r ∈ l, h ≤ r.h) → sumTo h l = 0 ∧ cntTo h l = 0
  | [], h, _ => by simp [sumTo, cntTo]
  | r :: l, h, hl => by
    have ih := sumTo_none (h := h) fun q hq => hl q (List.mem_cons_of_mem _ hq)
    have := hl r (by simp)
    simp only [sumTo, cntTo]
    rw [if_neg (by omega), if_neg (by omega)]
    omega

theorem sumTo_bd : ∀ {l : List Reg} {h : Int}, 0 ≤ sumTo h l ∧ sumTo h l ≤ sumR l ∧ 0 ≤ cntTo h l ∧ cntTo h l ≤ l.length
  | [], h => by simp [sumTo, cntTo, sumR]
  | r :: l, h => by
    have ih := sumTo_bd (l := l) (h := h)
    simp only [sumTo, cntTo, sumR, List.length_cons]
    split <;> omega

theorem len_sumR : ∀ {l : List Reg}, (∀ r ∈ l, 1 ≤ r.ws.length) → (l.length : Int) ≤ sumR l
  | [], _ => by simp [sumR]
  | r :: l, h => by
    have ih := len_sumR (l := l) fun q hq => h q (List.mem_cons_of_mem _ hq)
    have := h r (by simp)
    simp only [sumR, List.length_cons]; omega

theorem mem_keys {h : Sep H (mem m S :: L)} : (S.regs.map Reg.h).Nodup := h.head.2.2.2

theorem free_made {most : Int} {n : Nat} (hn : n ≤ 300) (g : Good S most n) : S.find (wr (S.made + 1)) = none := by
  have m0 := g.made0
  have m1 := g.made1
  have w1 : wr (S.made + 1) = S.made + 1 := wr_self (by omega)
  unfold Sm.find
  refine List.find?_eq_none.2 fun r hr he => ?_
  simp only [beq_iff_eq] at he
  have := g.keys r hr
  omega

theorem act_cells (l : List Act) : ∀ c ∈ l.map Act.cells, c.length = 7 := by
  intro c hc
  obtain ⟨x, _, rfl⟩ := List.mem_map.1 hc
  rfl

theorem SmemWhole_ok {room : Int} {a : Option Addr} {n : Nat} {l : List Act} {M : List Asr} (ha : Arg a n (l.map Act.cells) M) (h : Sep H M) : CA en F.crossbarlaw08_SmemWhole [I room, .slice a n 0] H fun r _ => r = .bool true := by
  have hn : n = l.length := by rw [ha.len, List.length_map]
  subst hn
  apply vc_crossbarlaw08_SmemWhole
  refine new_s h fun H2 m mp h2 => ⟨_, rfl, ?_⟩
  refine cond_no rfl (cond_of (fun hl => cond_yes rfl (CA_truth (by kernel_rfl) ⟨_, rfl, rfl⟩)) fun hl => ?_)
  simp only [decide_eq_false_iff_not] at hl
  refine Cut_ok ⟨_, rfl, ?_⟩
  have hmost : max 0 (min room 65536) ≤ 65536 := by omega
  have hmost0 : 0 ≤ max 0 (min room 65536) := by omega
  generalize hme : max 0 (min room 65536) = most at *
  have hg0 : Good (newSm mp room) most 0 := ⟨Int.le_refl _, Int.le_refl _, by simp [newSm], by simp [newSm], by simp only [newSm, sumR, clampRoom_eq]; omega, by simp only [newSm, clampRoom_eq]; omega, rfl, rfl⟩
  refine use_crossbarlaw08_SmemWhole_0 (fun k _ t6 t8 H => ∃ (j : Nat) (S : Sm), j ≤ l.length ∧ k = l.length - j ∧ t8 = (j : Int) ∧ t6 = S.made ∧ Good S most j ∧ Sep H (mem m S :: M)) l.length ⟨0, _, by omega, rfl, rfl, rfl, hg0, h2⟩ ?_
  clear h2 hg0
  rintro k t4 t6 t8 ys H ⟨j, S, hj, rfl, rfl, rfl, g, h⟩
  refine cond_of (fun h1 => ?_) fun h1 => ?_
  · simp only [decide_eq_true_eq] at h1
    have hj' : j < l.length := by omega
    have hjm : j < (l.map Act.cells).length := by simpa using hj'
    have hb : inB (j : Int) l.length := by unfold inB; omega
    refine count_s h ⟨_, rfl, bad_s h ⟨_, rfl, hb, ?_⟩⟩
    have hx : (l.map Act.cells)[j] = (l[j]).cells := by simp
    generalize l[j] = x at hx
    obtain ⟨q, rfl, hq, _⟩ := ha.row h (fun A hA => List.mem_cons_of_mem _ hA) (act_cells l) hjm
    rw [hx] at hq
    refine asRow_in ⟨_, _, _, _, _, _, _, hq, ?_⟩
    refine does_ok h x (free_made (by omega) g) fun H17 b h17 => ⟨_, _, _, _, rfl, ?_⟩
    obtain ⟨g', f1, f2, f3, f4⟩ := act_facts (S := S) hmost (by omega) g (mem_keys (h := h)) b x
    generalize hS : (S.act b x).2 = S' at *
    generalize hA : (S.act b x).1 = A at *
    refine Sep.nw h17 fun i22 H23 h23 => Sep.st0 h23 (Nat.le_of_ble_eq_true rfl) fun H24 h24 => ⟨hb, ?_⟩
    obtain ⟨q2, eq2, _, hq2⟩ := ha.row h24 (fun A hA => List.mem_cons_of_mem _ (List.mem_cons_of_mem _ hA)) (act_cells l) hjm
    cases eq2
    refine asRow_in ⟨_, (hq2 0 (by decide)).trans (by rw [hx]; rfl), Pick_ok (by decide) (by decide) ⟨_, rfl, _, Sep.ld0 h24 (by rfl), room_s (Sep.up1 h24) ⟨_, rfl, ?_⟩⟩⟩
    have hmade : (if A.h > S.made then A.h else S.made) = S'.made := f1.symm
    have hs0 := sumTo_none (h := 1) (l := S'.regs) fun r hr => (g'.keys r hr).1
    have mm0 := g'.made0
    have mm1 := g'.made1
    have nd' : (S'.regs.map Reg.h).Nodup := (h24.one1).2.2.2
    have hsum := g'.sum
    have hr0 := g'.room0
    have hsr := sumR_nn S'.regs
    have hlen := len_sumR g'.lens
    refine use_crossbarlaw08_SmemWhole_1 (fun k s c t H => ∃ p : Nat, (p : Int) ≤ S'.made ∧ k = S'.made.toNat - p ∧ t = (p : Int) + 1 ∧ s = S'.room + sumTo ((p : Int) + 1) S'.regs ∧ c = cntTo ((p : Int) + 1) S'.regs ∧ H = H24) S'.made.toNat ⟨0, by omega, by omega, rfl, by simp only [Int.natCast_zero, Int.zero_add]; omega, by simp only [Int.natCast_zero, Int.zero_add]; omega, rfl⟩ ?_
    rintro k s c t ys' H33 ⟨p, hp, rfl, rfl, rfl, rfl, rfl⟩
    have hst := sumTo_step (l := S'.regs) (h := (p : Int) + 1) nd' g'.lens
    rw [← size_find] at hst
    have hbd := sumTo_bd (l := S'.regs) (h := (p : Int) + 1)
    have hbd2 := sumTo_bd (l := S'.regs) (h := (p : Int) + 1 + 1)
    refine cond_of (fun h3 => ?_) fun h3 => ?_
    · have h3' : (p : Int) + 1 ≤ S'.made := by rw [← hmade]; simpa using h3
      refine size_s (Sep.up1 h24) ⟨_, rfl, size_s (Sep.up1 h24) ⟨_, rfl, ?_⟩⟩
      have w1 : IntKind.i64.wrap (S'.room + sumTo ((p : Int) + 1) S'.regs + (S'.size ((p : Int) + 1) : Int)) = S'.room + sumTo (((p + 1 : Nat) : Int) + 1) S'.regs := by
        rw [wrap_i64 (by omega)]; have : (((p + 1 : Nat) : Int) + 1) = (p : Int) + 1 + 1 := by omega
        rw [this]; omega
      have w2 : IntKind.i64.wrap ((p : Int) + 1 + 1) = ((p + 1 : Nat) : Int) + 1 := by rw [wrap_i64 (by omega)]; omega
      have w3 : (((p + 1 : Nat) : Int) + 1) = (p : Int) + 1 + 1 := by omega
      refine cond_of (fun h5 => ⟨S'.made.toNat - (p + 1), by omega, p + 1, by omega, rfl, w2, w1, ?_, rfl⟩) fun h5 => ⟨S'.made.toNat - (p + 1), by omega, p + 1, by omega, rfl, w2, w1, ?_, rfl⟩
      · simp only [decide_eq_true_eq] at h5
        rw [if_pos h5] at hst
        rw [wrap_i64 (by omega), w3]; omega
      · simp only [decide_eq_false_iff_not] at h5
        rw [if_neg h5] at hst
        rw [w3]; omega
    · have h3' : ¬ (p : Int) + 1 ≤ S'.made := by rw [← hmade]; simpa using h3
      have hall := sumTo_all (l := S'.regs) (h := (p : Int) + 1) fun r hr => by have := (g'.keys r hr).2; omega
      refine asInt_in (asInt_in ?_)
      rw [hall.1, hall.2]
      refine ⟨fun vs H' => vs = [I (if x.kind % 8 > 1 then 1 else 0)] ∧ H' = H33, ?_, ?_⟩
      · refine cond_of (fun h5 => ⟨?_, rfl⟩) fun h5 => ⟨?_, rfl⟩
        · rw [if_pos (by simpa using h5)]
        · rw [if_neg (by simpa using h5)]
      rintro ys2 H41 n42 ⟨e42, rfl⟩
      obtain rfl := one_int e42
      refine ⟨fun vs H' => vs = [I (if x.kind % 8 > 1 ∧ A.is = false then 1 else 0)] ∧ H' = H41, ?_, ?_⟩
      · refine cond_of (fun h5 => ⟨_, Sep.ld0 h24 (by rfl), cond_of (fun h6 => ⟨?_, rfl⟩) fun h6 => ⟨?_, rfl⟩⟩) fun h5 => ⟨?_, rfl⟩
        · rw [if_pos ⟨by simpa using h5, by simpa using h6⟩]
        · rw [if_neg (by rintro ⟨_, h7⟩; rw [h7] at h6; cases h6)]
        · rw [if_neg (by rintro ⟨h7, _⟩; simp only [decide_eq_false_iff_not] at h5; omega)]
      rintro ys3 H46 n47 ⟨e47, rfl⟩
      obtain rfl := one_int e47
      refine cond_no (by simp only [bne_eq_false_iff_eq]; omega) ?_
      refine live_s (Sep.up1 h24) ⟨_, rfl, cond_no (by simp) ?_⟩
      refine count_s (Sep.up1 h24) ⟨_, rfl, cond_no (by rw [bne_eq_false_iff_eq, f2]; rfl) ?_⟩
      refine bad_s (Sep.up1 h24) ⟨_, rfl, cond_no (by rw [bne_eq_false_iff_eq, f3]; rfl) ?_⟩
      have fin : ∃ k, k < l.length - j ∧ ∃ (j' : Nat) (T : Sm), j' ≤ l.length ∧ k = l.length - j' ∧ IntKind.i64.wrap ((j : Int) + 1) = (j' : Int) ∧ (if A.h > S.made then A.h else S.made) = T.made ∧ Good T most j' ∧ Sep H46 (mem m T :: M) :=
        ⟨l.length - (j + 1), by omega, j + 1, S', by omega, rfl, by rw [wrap_i64 (by omega)]; omega, hmade, g', h24.tail⟩
      refine cond_of (fun h5 => ⟨_, Sep.ld0 h24 (by rfl), cond_no ?_ fin⟩) fun h5 => fin
      have hh : x.kind % 8 > 1 ∧ A.is = false := by
        by_cases hc : x.kind % 8 > 1 ∧ A.is = false
        · exact hc
        · rw [if_neg hc] at h5; cases h5
      rw [f4 hh.1 hh.2]; rfl
  · refine asBool_in (CA_truth (by kernel_rfl) ⟨_, rfl, rfl⟩)

theorem acts_of : ∀ (css : List (List Value)), (∀ c ∈ css, ∃ x : Act, c = x.cells) → ∃ l : List Act, css = l.map Act.cells
  | [], _ => ⟨[], rfl⟩
  | c :: css, h => by
    obtain ⟨x, rfl⟩ := h c (by simp)
    obtain ⟨l, rfl⟩ := acts_of css fun c hc => h c (List.mem_cons_of_mem _ hc)
    exact ⟨x :: l, rfl⟩

theorem SmemWhole_law (H : Heap) (us : List Value) (h : shpVs en H 7 T.SmemWhole us) : CA en F.crossbarlaw08_SmemWhole us H fun v _ => v = .bool true := by
  obtain ⟨v, u, rfl, ⟨n, hn, wn⟩, v2, u2, rfl, hA, rfl⟩ := args_SmemWhole h
  obtain rfl := (List.cons.inj hn).1
  clear h hn
  obtain ⟨a, n2, css, M, rfl, ha, hs, hc⟩ := Arg.of (P := fun c => ∃ x : Act, c = x.cells) (H := H) (v := v2) (by
    rcases hA with hA | ⟨i, cs, hA, hi, hg, hc⟩
    · exact .inl (List.cons.inj hA).1
    · refine .inr ⟨i, cs, (List.cons.inj hA).1, hi, hg, fun c hm => ?_⟩
      obtain ⟨_, _, rfl, ⟨n1, rfl, w1⟩, _, _, rfl, ⟨n2, rfl, w2⟩, _, _, rfl, ⟨n3, rfl, w3⟩, _, _, rfl, ⟨n4, rfl, w4⟩, _, _, rfl, ⟨n5, rfl, w5⟩, _, _, rfl, ⟨n6, rfl, w6⟩, _, _, rfl, ⟨n7, rfl, w7⟩, rfl⟩ := hc c hm
      obtain ⟨m1, rfl⟩ := word_of w5
      obtain ⟨m2, rfl⟩ := word_of w6
      obtain ⟨m3, rfl⟩ := word_of w7
      exact ⟨⟨n1, n2, n3, n4, m1, m2, m3⟩, rfl⟩)
  obtain ⟨l, rfl⟩ := acts_of css hc
  exact SmemWhole_ok ha hs
end Go.Proofs.Ytdkbgjhlpoibdaa
