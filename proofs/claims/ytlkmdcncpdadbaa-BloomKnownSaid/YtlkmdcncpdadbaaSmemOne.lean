/-
  A memory of one region, of handle 1, and no bad access: what its calls do.
-/
import Derived.Test.YtlkmdcncpdadbaaSmemSep
namespace Go.Proofs.Ytlkmdcncpdadbaa
open Go Go.AS Go.RowKit
set_option linter.unusedVariables false
variable {H H' : Heap} {m : Nat} {S S' : Sm} {R : Value → Heap → Prop} {L : List Asr} {ws : List (BitVec 64)} {c : Int}

theorem wrs {n : Int} (h : -9223372036854775808 ≤ n ∧ n < 9223372036854775808) : wr n = n := wrap_i64 h

/-- One region, of handle 1, and no access was bad. -/
structure One (S : Sm) (ws : List (BitVec 64)) (c : Int) : Prop where
  regs : ∃ b born, S.regs = [⟨1, b, born, ws⟩]
  cnt : S.count = c
  bads : S.bads = 0
  c0 : 0 ≤ c

theorem acc_one (o : One S ws c) (hc : c < 4611686018427387904) {i : Nat} (hi : i < ws.length) (f : BitVec 64 → BitVec 64) :
    (S.acc 1 i true f).1 = (ws.getD i 0, true) ∧ One (S.acc 1 i true f).2 (ws.set i (f (ws.getD i 0))) (c + 1) := by
  obtain ⟨b, born, hr⟩ := o.regs
  have hf : S.find 1 = some ⟨1, b, born, ws⟩ := by unfold Sm.find; rw [hr]; rfl
  have e : S.acc 1 i true f = ((ws.getD i 0, true), S.cnt.upd 1 i (f (ws.getD i 0))) := by
    unfold Sm.acc; rw [hf]; simp only
    rw [if_pos ⟨trivial, by omega, by omega⟩]
    rfl
  have c0 := o.c0
  rw [e]
  refine ⟨rfl, ⟨⟨b, born, ?_⟩, ?_, o.bads, by omega⟩⟩
  · show S.regs.map _ = _
    rw [hr]; rfl
  · show wr (S.count + 1) = c + 1
    rw [o.cnt]; exact wrs (by omega)

theorem load1_s (h : Sep H (mem m S :: L)) (o : One S ws c) (hc : c < 4611686018427387904) {i : Nat} (hi : i < ws.length)
    (hR : ∀ H' S', One S' ws (c + 1) → Sep H' (mem m S' :: L) → R (.tuple #[W (ws.getD i 0), .bool true]) H') : CA en F.smem_Mem_Load [P m, I 1, I i] H R := by
  obtain ⟨e1, o'⟩ := acc_one o hc hi id
  have e2 : ws.set i (id (ws.getD i 0)) = ws := by
    rw [List.getD_eq_getElem?_getD, List.getElem?_eq_getElem hi]
    exact List.set_getElem_self hi
  rw [e2] at o'
  refine load_s h fun H' h' => ?_
  rw [e1]
  exact hR H' _ o' h'

theorem fetchF_or (w b : BitVec 64) : fetchF 64 b b w = w ||| b := by
  show (w &&& ~~~b) ||| (((w &&& b) ||| (b &&& b)) &&& b) = w ||| b
  apply BitVec.eq_of_getLsbD_eq
  intro i hi
  simp only [BitVec.getLsbD_or, BitVec.getLsbD_and, BitVec.getLsbD_not]
  cases w.getLsbD i <;> cases b.getLsbD i <;> simp [hi]

/-- Bits are set. -/
theorem or1_s (h : Sep H (mem m S :: L)) (o : One S ws c) (hc : c < 4611686018427387904) {i : Nat} (hi : i < ws.length) {v : BitVec 64}
    (hR : ∀ H' S', One S' (ws.set i (ws.getD i 0 ||| v)) (c + 1) → Sep H' (mem m S' :: L) → R (.tuple #[W (ws.getD i 0), .bool true]) H') : CA en F.smem_Mem_Fetch [P m, I 1, I i, I 64, W v, W v] H R := by
  obtain ⟨e1, o'⟩ := acc_one o hc hi (fetchF 64 v v)
  rw [fetchF_or] at o'
  refine fetch_s h fun H' h' => ?_
  have ho : isAtomic 64 = true := rfl
  rw [ho] at h' ⊢
  rw [e1]
  exact hR H' _ o' h'

/-- The first region of a new memory. -/
theorem One.first {mp b : Nat} {room n : Int} (h1 : 1 ≤ n) (h2 : n ≤ 65536) (hr : n ≤ room) : ((newSm mp room).make b n).1 = (1, 0) ∧ One ((newSm mp room).make b n).2 (List.replicate n.toNat 0) 0 := by
  have hr : ¬ (newSm mp room).room < n := by simp only [newSm, clampRoom_eq]; omega
  have e1 : wr 1 = 1 := wrs (by omega)
  have e : (newSm mp room).make b n = ((wr 1, 0), (newSm mp room).mk' b n.toNat) := by
    unfold Sm.make
    rw [if_neg (by omega), if_neg hr]; rfl
  rw [e, e1]
  refine ⟨rfl, ⟨b, 0, ?_⟩, rfl, rfl, Int.le_refl _⟩
  show [] ++ [(⟨wr (0 + 1), b, 0, List.replicate n.toNat 0⟩ : Reg)] = _
  rw [Int.zero_add, e1]; rfl
end Go.Proofs.Ytlkmdcncpdadbaa
