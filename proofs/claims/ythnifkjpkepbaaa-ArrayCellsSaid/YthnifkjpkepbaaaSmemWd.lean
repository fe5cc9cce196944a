/-
  The words of a memory's handles: what accesses do to them.
-/
import Derived.Test.YthnifkjpkepbaaaSmemSep
namespace Go.Proofs.Ythnifkjpkepbaaa
open Go Go.AS Go.RowKit
set_option linter.unusedVariables false
variable {H H' : Heap} {m : Nat} {S S' : Sm} {R : Value → Heap → Prop} {L : List Asr}

theorem wr_wr (n : Int) : wr (wr n) = wr n := by
  have h : -9223372036854775808 ≤ wr n ∧ wr n < 9223372036854775808 := by
    unfold wr
    have e : IntKind.i64.wrap n = if 9223372036854775808 ≤ n % 18446744073709551616 then n % 18446744073709551616 - 18446744073709551616 else n % 18446744073709551616 := by
      show (let m := n % (2 ^ IntKind.i64.bits : Int); if (IntKind.i64.signed && decide (m ≥ (2 ^ (IntKind.i64.bits - 1) : Int))) = true then m - (2 ^ IntKind.i64.bits : Int) else m) = _
      have h1 : (2 ^ IntKind.i64.bits : Int) = 18446744073709551616 := rfl
      have h2 : (2 ^ (IntKind.i64.bits - 1) : Int) = 9223372036854775808 := rfl
      have h3 : IntKind.i64.signed = true := rfl
      rw [h1, h2, h3]
      simp
    rw [e]
    split <;> omega
  exact wrap_i64 h

theorem wr_self {n : Int} (h : -9223372036854775808 ≤ n ∧ n < 9223372036854775808) : wr n = n := wrap_i64 h

/-- The words of a handle; none: it is not live. -/
def Sm.wd (S : Sm) (a : Int) : List (BitVec 64) := match S.find a with | some r => r.ws | none => []
theorem size_wd (S : Sm) (a : Int) : S.size a = (S.wd a).length := by unfold Sm.size Sm.wd; cases S.find a <;> rfl

/-- The same but for the counts. -/
structure Same (S T : Sm) : Prop where
  regs : T.regs = S.regs
  made : T.made = S.made
  room : T.room = S.room
  bads : T.bads = S.bads
  mp : T.mp = S.mp
  cl : T.cl = S.cl
  cnt : wr T.count = T.count ∨ T.count = S.count

theorem Same.refl (S : Sm) : Same S S := ⟨rfl, rfl, rfl, rfl, rfl, rfl, .inr rfl⟩
theorem Same.trans {S T U : Sm} (h : Same S T) (k : Same T U) : Same S U :=
  ⟨k.regs.trans h.regs, k.made.trans h.made, k.room.trans h.room, k.bads.trans h.bads, k.mp.trans h.mp, k.cl.trans h.cl, by
    rcases k.cnt with h1 | h1
    · exact .inl h1
    · rcases h.cnt with h2 | h2
      · left; rw [h1]; exact h2
      · right; rw [h1, h2]⟩
theorem Same.wd {S T : Sm} (h : Same S T) (a : Int) : T.wd a = S.wd a := by unfold Sm.wd Sm.find; rw [h.regs]
theorem upd_same (S : Sm) (nd : (S.regs.map Reg.h).Nodup) {a : Int} {r : Reg} (hf : S.find a = some r) {i : Nat} (hi : i < r.ws.length) : (S.upd a i (r.ws.getD i 0)).regs = S.regs := by
  unfold Sm.upd
  simp only
  conv => rhs; rw [← List.map_id S.regs]
  refine List.map_congr_left fun x hx => ?_
  by_cases e : x.h = a
  · rw [if_pos e]
    obtain ⟨hr, hra⟩ := find_mem hf
    have : x = r := by
      obtain ⟨p, hp, rfl⟩ := List.mem_iff_getElem.1 hx
      obtain ⟨q, hq, rfl⟩ := List.mem_iff_getElem.1 hr
      by_cases hpq : p = q
      · subst hpq; rfl
      · exfalso
        have h1 := List.pairwise_iff_getElem.1 nd
        rcases Nat.lt_or_gt_of_ne hpq with h2 | h2
        · exact h1 p q (by simpa using hp) (by simpa using hq) h2 (by simp only [List.getElem_map]; rw [e, hra])
        · exact h1 q p (by simpa using hq) (by simpa using hp) h2 (by simp only [List.getElem_map]; rw [e, hra])
    subst this
    have e2 : x.ws.set i (x.ws.getD i 0) = x.ws := by
      rw [List.getD_eq_getElem?_getD, List.getElem?_eq_getElem hi]
      exact List.set_getElem_self hi
    rw [e2]; rfl
  · rw [if_neg e]; rfl

/-- A load of a word that is there. -/
theorem load_wd (S : Sm) (nd : (S.regs.map Reg.h).Nodup) {a : Int} {i : Nat} (hi : i < (S.wd a).length) : (S.acc a i true id).1 = ((S.wd a).getD i 0, true) ∧ Same S (S.acc a i true id).2 := by
  cases hf : S.find a with
  | none => unfold Sm.wd at hi; rw [hf] at hi; simp at hi
  | some r =>
    have hw : S.wd a = r.ws := by unfold Sm.wd; rw [hf]
    rw [hw] at hi ⊢
    have e : S.acc a i true id = ((r.ws.getD i 0, true), S.cnt.upd a i (r.ws.getD i 0)) := by
      unfold Sm.acc; rw [hf]; simp only
      rw [if_pos ⟨trivial, by omega, by omega⟩]
      rfl
    rw [e]
    exact ⟨rfl, ⟨upd_same S.cnt nd hf hi, rfl, rfl, rfl, rfl, rfl, .inl (wr_wr _)⟩⟩

theorem find_upd (S : Sm) (a0 : Int) (i : Nat) (w : BitVec 64) (a : Int) : (S.upd a0 i w).wd a = if a = a0 then (S.wd a).set i w else S.wd a := by
  have hf : (S.upd a0 i w).find a = (S.find a).map fun r => if r.h = a0 then { r with ws := r.ws.set i w } else r := by
    unfold Sm.find Sm.upd
    simp only
    rw [List.find?_map]
    congr 1
    congr 1
    funext r
    simp only [Function.comp]
    split <;> rfl
  unfold Sm.wd
  rw [hf]
  cases hS : S.find a with
  | none => simp
  | some r =>
    have hra := (find_mem hS).2
    simp only [Option.map_some]
    by_cases e : a = a0
    · rw [if_pos e, if_pos (by rw [hra]; exact e)]
    · rw [if_neg e, if_neg (by rw [hra]; exact e)]

/-- An access: the word that it names becomes f of it; or nothing is changed. -/
theorem acc_wd (S : Sm) (a0 i : Int) (may : Bool) (f : BitVec 64 → BitVec 64) :
    ((S.acc a0 i may f).1.2 = false ∧ ∀ a, (S.acc a0 i may f).2.wd a = S.wd a) ∨
    ((S.acc a0 i may f).1 = ((S.wd a0).getD i.toNat 0, true) ∧ 0 ≤ i ∧ i < (S.wd a0).length ∧ ∀ a, (S.acc a0 i may f).2.wd a = if a = a0 then (S.wd a).set i.toNat (f ((S.wd a0).getD i.toNat 0)) else S.wd a) := by
  have bad : S.acc a0 i may f = ((0, false), { S.cnt with bads := wr (S.bads + 1) }) → _ := fun e => (Or.inl (by rw [e]; exact ⟨rfl, fun _ => rfl⟩) : ((S.acc a0 i may f).1.2 = false ∧ ∀ a, (S.acc a0 i may f).2.wd a = S.wd a) ∨ ((S.acc a0 i may f).1 = ((S.wd a0).getD i.toNat 0, true) ∧ 0 ≤ i ∧ i < (S.wd a0).length ∧ ∀ a, (S.acc a0 i may f).2.wd a = if a = a0 then (S.wd a).set i.toNat (f ((S.wd a0).getD i.toNat 0)) else S.wd a))
  cases hf : S.find a0 with
  | none => exact bad (by unfold Sm.acc; rw [hf])
  | some r =>
    have hw : S.wd a0 = r.ws := by unfold Sm.wd; rw [hf]
    by_cases hc : may = true ∧ 0 ≤ i ∧ i < r.ws.length
    · right
      have e : S.acc a0 i may f = ((r.ws.getD i.toNat 0, true), S.cnt.upd a0 i.toNat (f (r.ws.getD i.toNat 0))) := by unfold Sm.acc; rw [hf]; simp only; rw [if_pos hc]
      rw [e, hw]
      exact ⟨rfl, hc.2.1, hc.2.2, fun a => find_upd S.cnt a0 _ _ a⟩
    · exact bad (by unfold Sm.acc; rw [hf]; simp only; rw [if_neg hc])

end Go.Proofs.Ythnifkjpkepbaaa
