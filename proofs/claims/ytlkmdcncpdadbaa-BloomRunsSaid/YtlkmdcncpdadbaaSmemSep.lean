/-
  The shared memory as something owned: what its functions do with it.
-/
import Derived.Test.YtlkmdcncpdadbaaSmem
import Derived.Test.YtlkmdcncpdadbaaAs40
namespace Go.Proofs.Ytlkmdcncpdadbaa
open Go Go.AS Go.RowKit
set_option linter.unusedVariables false
variable {H H' : Heap} {m : Nat} {S S' : Sm} {R : Value → Heap → Prop} {L : List Asr}

/-- A memory. -/
def mem (m : Nat) (S : Sm) : Asr :=
  ⟨S.foot m, fun H => H.get m = some (.cells true 0 S.base) ∧ H.get S.mp = some (.map (S.regs.map Reg.ent) S.cl) ∧ (∀ r ∈ S.regs, H.get r.b = some (.cells true 1 r.cells)) ∧ (S.regs.map Reg.h).Nodup,
   fun h k => ⟨by rw [h m (by simp [Sm.foot])]; exact k.1, by rw [h S.mp (by simp [Sm.foot])]; exact k.2.1, fun r hr => by rw [h r.b (by simp only [Sm.foot, List.mem_cons, List.mem_map]; exact .inr (.inr ⟨r, hr, rfl⟩))]; exact k.2.2.1 r hr, k.2.2.2⟩⟩

theorem isMem (h : Sep H (mem m S :: L)) : IsMem H m S :=
  ⟨h.head.1, h.head.2.1, h.head.2.2.1, h.footnd, fun j hj => h.footlt hj, h.head.2.2.2⟩

theorem sepMem (h : Sep H (mem m S :: L)) (hm : IsMem H' m S') (fr : Frm (S.foot m) H H') (hf : ∀ j ∈ S'.foot m, j ∈ S.foot m ∨ H.next ≤ j) : Sep H' (mem m S' :: L) :=
  h.upd fr (fun j hj => .inl hj) ⟨hm.base, hm.map, hm.rows, hm.keys⟩ hf hm.nodup hm.lt

theorem sepAcc (h : Sep H (mem m S :: L)) {a i : Int} {may : Bool} {f : BitVec 64 → BitVec 64} (hm : IsMem H' m (S.acc a i may f).2) (fr : Frm (S.foot m) H H') : Sep H' (mem m (S.acc a i may f).2 :: L) :=
  sepMem h hm fr fun j hj => .inl (by rw [acc_foot] at hj; exact hj)

theorem load_s (h : Sep H (mem m S :: L)) {a i : Int} (hR : ∀ H', Sep H' (mem m (S.acc a i true id).2 :: L) → R (.tuple #[W (S.acc a i true id).1.1, .bool (S.acc a i true id).1.2]) H') : CA en F.smem_Mem_Load [P m, I a, I i] H R :=
  Load_ok (isMem h) fun H' hm fr => hR H' (sepAcc h hm fr)

theorem fetch_s (h : Sep H (mem m S :: L)) {a i op : Int} {mask v : BitVec 64}
    (hR : ∀ H', Sep H' (mem m (S.acc a i (isAtomic op) (fetchF op mask v)).2 :: L) → R (.tuple #[W (S.acc a i (isAtomic op) (fetchF op mask v)).1.1, .bool (S.acc a i (isAtomic op) (fetchF op mask v)).1.2]) H') :
    CA en F.smem_Mem_Fetch [P m, I a, I i, I op, W mask, W v] H R :=
  Fetch_ok (isMem h) fun H' hm fr => hR H' (sepAcc h hm fr)

theorem count_s (h : Sep H (mem m S :: L)) (hR : R (I S.count) H) : CA en F.smem_Mem_Count [P m] H R := Count_ok (isMem h) hR
theorem bad_s (h : Sep H (mem m S :: L)) (hR : R (I S.bads) H) : CA en F.smem_Mem_Bad [P m] H R := Bad_ok (isMem h) hR
/-! ### New ones -/
def clampRoom (room : Int) : Int := if (if 65536 < room then 65536 else room) > 0 then (if 65536 < room then 65536 else room) else 0
theorem clampRoom_eq (room : Int) : clampRoom room = max 0 (min room 65536) := by unfold clampRoom; split <;> split <;> omega

def newSm (mp : Nat) (room : Int) : Sm := ⟨mp, 0, [], 0, clampRoom room, 0, 0⟩

theorem new_s (h : Sep H L) {room : Int} (hR : ∀ H' m mp, Sep H' (mem m (newSm mp room) :: L) → R (P m) H') : CA en F.smem_New [I room] H R :=
  New_ok fun H' m mp h1 hm fr h2 => hR H' m mp (by
    have h0 : Sep H ((⟨[], fun _ => True, fun _ _ => trivial⟩ : Asr) :: L) := ⟨fun A hA => by
        rcases List.mem_cons.1 hA with rfl | hA
        · trivial
        · exact h.all A hA, by rw [feet_cons]; exact h.nd, fun i hi => h.lt i (by rw [feet_cons] at hi; exact hi)⟩
    refine h0.upd (B := mem m (newSm mp room)) fr (by simp) ⟨hm.base, hm.map, hm.rows, hm.keys⟩ (fun j hj => .inr ?_) hm.nodup hm.lt
    simp only [mem, newSm, Sm.foot, List.map_nil, List.mem_cons, List.not_mem_nil, or_false] at hj
    omega)

/-- What Make does: the answer, and the memory then (b: the new block). -/
def Sm.make (S : Sm) (b : Nat) (n : Int) : (Int × Int) × Sm :=
  if n < 1 ∨ 65536 < n then ((0, 1), S) else if S.room < n then ((0, 5), S) else ((wr (S.made + 1), 0), S.mk' b n.toNat)

theorem make_s (h : Sep H (mem m S :: L)) {n : Int} (hf : 1 ≤ n → n ≤ 65536 → n ≤ S.room → S.find (wr (S.made + 1)) = none)
    (hR : ∀ H' b, Sep H' (mem m (S.make b n).2 :: L) → R (.tuple #[I (S.make b n).1.1, I (S.make b n).1.2]) H') : CA en F.smem_Mem_Make [P m, I n] H R := by
  by_cases h1 : n < 1 ∨ 65536 < n
  · have := hR H 0
    unfold Sm.make at this
    rw [if_pos h1] at this
    exact Make_bad (isMem h) h1 (this h)
  · by_cases h2 : S.room < n
    · have := hR H 0
      unfold Sm.make at this
      rw [if_neg h1, if_pos h2] at this
      exact Make_full (isMem h) (by omega) h2 (this h)
    · refine Make_good (isMem h) (by omega) (by omega) (hf (by omega) (by omega) (by omega)) fun H' b hb hm fr => ?_
      have := hR H' b
      unfold Sm.make at this
      rw [if_neg h1, if_neg h2] at this
      refine this (sepMem h hm fr fun j hj => ?_)
      simp only [Sm.foot, Sm.mk', List.map_append, List.map_cons, List.map_nil, List.mem_cons, List.mem_append, List.not_mem_nil, or_false] at hj ⊢
      rcases hj with rfl | rfl | hj | rfl
      · exact .inl (.inl rfl)
      · exact .inl (.inr (.inl rfl))
      · exact .inl (.inr (.inr hj))
      · exact .inr hb

/-! ### A region goes -/
def Sm.free (S : Sm) (a : Int) : Bool × Sm :=
  ((S.find a).isSome, { S with room := wr (S.room + S.size a), regs := S.regs.filter fun r => r.h != a })

theorem eraseIdx_map' {α β : Type} (f : α → β) : ∀ (l : List α) (j : Nat), (l.map f).eraseIdx j = (l.eraseIdx j).map f
  | [], _ => rfl
  | _ :: _, 0 => rfl
  | a :: l, j + 1 => by simp only [List.map_cons, List.eraseIdx_cons_succ, eraseIdx_map' f l j]

theorem eraseIdx_filter : ∀ {l : List Reg} {a : Int} {j : Nat}, (l.map Reg.h).Nodup → (l.findIdx? fun r => r.h == a) = some j → l.eraseIdx j = l.filter fun r => r.h != a
  | [], a, j, _, h => by simp at h
  | r :: l, a, j, hn, h => by
    rw [List.findIdx?_cons] at h
    simp only [List.map_cons, List.nodup_cons] at hn
    cases hr : r.h == a with
    | true =>
      rw [hr] at h
      simp only [if_true, Option.some.injEq] at h
      subst h
      have ha : r.h = a := by simpa using hr
      have e : (r.h != a) = false := by simp [ha]
      rw [List.eraseIdx_cons_zero, List.filter_cons, e]
      simp only [Bool.false_eq_true, if_false]
      refine (List.filter_eq_self.2 fun q hq => ?_).symm
      simp only [bne_iff_ne, ne_eq]
      intro e
      exact hn.1 (by rw [ha, ← e]; exact List.mem_map.2 ⟨q, hq, rfl⟩)
    | false =>
      rw [hr] at h
      simp only [Bool.false_eq_true, if_false, Option.map_eq_some_iff] at h
      obtain ⟨k, hk, rfl⟩ := h
      have e : (r.h != a) = true := by simpa [bne] using hr
      rw [List.eraseIdx_cons_succ, List.filter_cons, e, if_pos rfl, eraseIdx_filter hn.2 hk]

end Go.Proofs.Ytlkmdcncpdadbaa
