/-
  hashOnce.proved: part 3 of its proof. No condition.
  Written by a program out of the texts Smem SmemSep As44 As45 As46 As48 VcGr GraceM VcL Lock Vc1 As30 As31 Args Vc3 DeclM.
-/
import Derived.Test.YtjggeoghlicmdaaGreatHashOnceP2
import Derived.ChangeShapes
import Derived.DataReads
import Derived.Carry
import Derived.WideShapes
namespace Go.Proofs.YtjggeoghlicmdaaGreat
open Go Go.AS Go.RowKit
set_option linter.unusedVariables false
structure Reg where
  h : Int
  b : Nat
  born : Nat
  ws : List (BitVec 64)
structure Sm where
  mp : Nat
  cl : Nat
  regs : List Reg
  made : Int
  room : Int
  count : Int
  bads : Int
def Reg.cells (r : Reg) : List Value := r.ws.map W
def Reg.ent (r : Reg) : MapEntry := AS.ent Reg.h (fun r => .slice (some ⟨r.b, 0, none⟩) r.ws.length 0) Reg.born .i64 r
def Sm.base (S : Sm) : List Value := [.map (some S.mp), .int .i64 S.made, .int .i64 S.room, .int .i64 S.count, .int .i64 S.bads]
def Sm.foot (S : Sm) (m : Nat) : List Nat := m :: S.mp :: S.regs.map Reg.b
def Sm.find (S : Sm) (h : Int) : Option Reg := S.regs.find? fun r => r.h == h
def Sm.size (S : Sm) (h : Int) : Nat := match S.find h with | some r => r.ws.length | none => 0
structure IsMem (H : Heap) (m : Nat) (S : Sm) : Prop where
  base : H.get m = some (.cells true 0 S.base)
  map : H.get S.mp = some (.map (S.regs.map Reg.ent) S.cl)
  rows : ∀ r ∈ S.regs, H.get r.b = some (.cells true 1 r.cells)
  nodup : (S.foot m).Nodup
  lt : ∀ j ∈ S.foot m, j < H.next
  keys : (S.regs.map Reg.h).Nodup
variable {H : Heap} {m : Nat} {S : Sm} {R : Value → Heap → Prop}
theorem IsMem.frm (hm : IsMem H m S) {H' : Heap} {X : List Nat} (hf : Frm X H H') (hx : ∀ j ∈ S.foot m, j ∉ X) : IsMem H' m S := by
  have g : ∀ j ∈ S.foot m, H'.get j = H.get j := fun j hj => hf.2 j (hm.lt j hj) (hx j hj)
  refine ⟨?_, ?_, fun r hr => ?_, hm.nodup, fun j hj => Nat.lt_of_lt_of_le (hm.lt j hj) hf.1, hm.keys⟩
  · rw [g m (by simp [Sm.foot]), hm.base]
  · rw [g S.mp (by simp [Sm.foot]), hm.map]
  · rw [g r.b (by simp only [Sm.foot, List.mem_cons, List.mem_map]; exact .inr (.inr ⟨r, hr, rfl⟩)), hm.rows r hr]
theorem IsMem.frm' (hm : IsMem H m S) {H' : Heap} (hf : Frm [] H H') : IsMem H' m S := hm.frm hf (by simp)
theorem IsMem.setBase (hm : IsMem H m S) {S' : Sm} (h1 : S'.mp = S.mp) (h2 : S'.cl = S.cl) (h3 : S'.regs = S.regs) : IsMem (H.set m (.cells true 0 S'.base)) m S' := by
  have hn := hm.nodup
  simp only [Sm.foot, List.nodup_cons, List.mem_cons, List.mem_map, not_or, not_exists, not_and] at hn
  have hfoot : S'.foot m = S.foot m := by simp [Sm.foot, h1, h3]
  refine ⟨get_set_self _ _ _, ?_, fun r hr => ?_, by rw [hfoot]; exact hm.nodup, fun j hj => by rw [next_set]; exact hm.lt j (by rw [← hfoot]; exact hj), by rw [h3]; exact hm.keys⟩
  · rw [h1, h2, h3, get_set_ne (Ne.symm hn.1.1), hm.map]
  · rw [h3] at hr
    rw [get_set_ne (fun e => hn.1.2 r hr e), hm.rows r hr]
theorem find_idx (S : Sm) (h : Int) : (S.regs.findIdx? fun a => a.h == h).bind (fun j => S.regs[j]?) = S.find h := by
  unfold Sm.find
  induction S.regs with
  | nil => rfl
  | cons r l ih =>
    rw [List.findIdx?_cons, List.find?_cons]
    cases hr : r.h == h with
    | true => simp
    | false =>
      simp only [Bool.false_eq_true, if_false]
      rw [← ih, Option.bind_map]
      congr 1
theorem IsMem.mapGet (hm : IsMem H m S) (h : Int) : ∃ r, AS.mapGet H (.int .i64) (some S.mp) (I h) = some r ∧
    (match S.find h with
      | some q => ∃ j, r = some (j, .slice (some ⟨q.b, 0, none⟩) q.ws.length 0)
      | none => r = none) := by
  unfold AS.mapGet
  rw [entries_of hm.map]
  simp only [Option.bind_some]
  have e := findNow_int Reg.h (fun r => Value.slice (some ⟨r.b, 0, none⟩) r.ws.length 0) Reg.born .i64 h S.regs 0
  refine ⟨_, e, ?_⟩
  rw [← find_idx]
  cases hx : S.regs.findIdx? fun a => a.h == h with
  | none => simp
  | some j =>
    have hj : j < S.regs.length := (List.findIdx?_eq_some_iff_getElem.1 hx).1
    simp only [Option.bind_some, List.getElem?_eq_getElem hj, Option.map_some, Option.getD_some]
    exact ⟨0 + j, rfl⟩
def addrOf : Option Reg → Option Addr
  | some q => some ⟨q.b, 0, none⟩
  | none => none
def lenOf : Option Reg → Nat
  | some q => q.ws.length
  | none => 0
theorem IsMem.look (hm : IsMem H m S) (h : Int) {K : Option (Nat × Value) → Option Addr → Nat → Prop} (k : ∀ r : Option (Nat × Value), r.isSome = (S.find h).isSome → K r (addrOf (S.find h)) (lenOf (S.find h))) :
    ∃ r, AS.mapGet H (.int .i64) (some S.mp) (I h) = some r ∧ ∃ a l, got r (.slice none 0 0) (.slice a l 0) ∧ K r a l := by
  obtain ⟨r, h1, h2⟩ := hm.mapGet h
  refine ⟨r, h1, addrOf (S.find h), lenOf (S.find h), ?_, ?_⟩
  · cases hf : S.find h with
    | none => rw [hf] at h2; simp only at h2; subst h2; rfl
    | some q => rw [hf] at h2; obtain ⟨j, rfl⟩ := h2; rfl
  · refine k r ?_
    cases hf : S.find h with
    | none => rw [hf] at h2; simp only at h2; subst h2; rfl
    | some q => rw [hf] at h2; obtain ⟨j, rfl⟩ := h2; rfl
theorem find_mem {h : Int} {q : Reg} (hf : S.find h = some q) : q ∈ S.regs ∧ q.h = h := by
  unfold Sm.find at hf
  exact ⟨List.mem_of_find?_eq_some hf, by simpa using List.find?_some hf⟩
def Sm.upd (S : Sm) (h : Int) (i : Nat) (w : BitVec 64) : Sm := { S with regs := S.regs.map fun r => if r.h = h then { r with ws := r.ws.set i w } else r }
theorem upd_foot (S : Sm) (m : Nat) (h : Int) (i : Nat) (w : BitVec 64) : (S.upd h i w).foot m = S.foot m := by
  simp only [Sm.foot, Sm.upd, List.map_map]
  congr 2
  refine List.map_congr_left fun r _ => ?_
  simp only [Function.comp]
  split <;> rfl
theorem IsMem.setRow (hm : IsMem H m S) {h : Int} {q : Reg} (hf : S.find h = some q) (i : Nat) (w : BitVec 64) : IsMem (H.set q.b (.cells true 1 ((q.ws.set i w).map W))) m (S.upd h i w) := by
  obtain ⟨hq, rfl⟩ := find_mem hf
  have hn := hm.nodup
  simp only [Sm.foot, List.nodup_cons, List.mem_cons, List.mem_map, not_or, not_exists, not_and] at hn
  have keyinj : ∀ r ∈ S.regs, r.h = q.h → r = q := by
    intro r hr e
    have := hm.keys
    rw [List.nodup_iff_pairwise_ne] at this
    obtain ⟨a, ha, rfl⟩ := List.mem_iff_getElem.1 hr
    obtain ⟨b, hb, rfl⟩ := List.mem_iff_getElem.1 hq
    by_cases hab : a = b
    · subst hab; rfl
    · exfalso
      rw [List.pairwise_iff_getElem] at this
      rcases Nat.lt_or_gt_of_ne hab with h1 | h1
      · exact this a b (by simpa using ha) (by simpa using hb) h1 (by simpa using e)
      · exact this b a (by simpa using hb) (by simpa using ha) h1 (by simpa using e.symm)
  have blkinj : ∀ r ∈ S.regs, r.b = q.b → r = q := by
    intro r hr e
    have := hn.2.2
    rw [List.nodup_iff_pairwise_ne] at this
    obtain ⟨a, ha, rfl⟩ := List.mem_iff_getElem.1 hr
    obtain ⟨b, hb, rfl⟩ := List.mem_iff_getElem.1 hq
    by_cases hab : a = b
    · subst hab; rfl
    · exfalso
      rw [List.pairwise_iff_getElem] at this
      rcases Nat.lt_or_gt_of_ne hab with h1 | h1
      · exact this a b (by simpa using ha) (by simpa using hb) h1 (by simpa using e)
      · exact this b a (by simpa using hb) (by simpa using ha) h1 (by simpa using e.symm)
  refine ⟨?_, ?_, fun r hr => ?_, by rw [upd_foot]; exact hm.nodup, fun j hj => by rw [next_set]; exact hm.lt j (by rw [upd_foot] at hj; exact hj), ?_⟩
  · rw [get_set_ne (fun e => hn.1.2 q hq e.symm), hm.base]; rfl
  · have e1 : (S.upd q.h i w).regs.map Reg.ent = S.regs.map Reg.ent := by
      simp only [Sm.upd, List.map_map]
      refine List.map_congr_left fun r _ => ?_
      simp only [Function.comp]
      split
      · simp [Reg.ent, AS.ent]
      · rfl
    rw [e1]
    show (H.set q.b _).get S.mp = some (.map _ S.cl)
    rw [get_set_ne (fun e => hn.2.1 q hq e.symm), hm.map]
  · simp only [Sm.upd, List.mem_map] at hr
    obtain ⟨r0, h0, rfl⟩ := hr
    by_cases e : r0.h = q.h
    · rw [if_pos e]
      obtain rfl := keyinj r0 h0 e
      exact get_set_self _ _ _
    · rw [if_neg e]
      have : r0.b ≠ q.b := fun e' => e (by rw [blkinj r0 h0 e'])
      rw [get_set_ne this, hm.rows r0 h0]
  · have e1 : (S.upd q.h i w).regs.map Reg.h = S.regs.map Reg.h := by
      simp only [Sm.upd, List.map_map]
      refine List.map_congr_left fun r _ => ?_
      simp only [Function.comp]
      split <;> rfl
    rw [e1]; exact hm.keys
def wr (n : Int) : Int := IntKind.i64.wrap n
def Sm.cnt (S : Sm) : Sm := { S with count := wr (S.count + 1) }
def Sm.acc (S : Sm) (h i : Int) (may : Bool) (f : BitVec 64 → BitVec 64) : (BitVec 64 × Bool) × Sm :=
  match S.find h with
  | some r => if may = true ∧ 0 ≤ i ∧ i < r.ws.length then ((r.ws.getD i.toNat 0, true), S.cnt.upd h i.toNat (f (r.ws.getD i.toNat 0))) else ((0, false), { S.cnt with bads := wr (S.bads + 1) })
  | none => ((0, false), { S.cnt with bads := wr (S.bads + 1) })
theorem acc_foot (S : Sm) (m : Nat) (h i : Int) (may : Bool) (f : BitVec 64 → BitVec 64) : (S.acc h i may f).2.foot m = S.foot m := by
  unfold Sm.acc
  split
  · split
    · rw [upd_foot]; rfl
    · rfl
  · rfl
def Does (H : Heap) (X : List Nat) (k : Nat) (fs cs : List Value) (f : BitVec 64 → BitVec 64) : Prop :=
  (∃ fn, en.fn k = some fn) ∧ ∀ H1 w, Frm X H H1 → CA en k (fs ++ [W w] ++ cs) H1 fun v H2 => v = W (f w) ∧ Frm [] H1 H2
theorem access_ok (hm : IsMem H m S) {h i : Int} {may : Bool} {k : Nat} {fs cs : List Value} {f : BitVec 64 → BitVec 64} (hd : Does H [m] k fs cs f)
    (hR : ∀ H', IsMem H' m (S.acc h i may f).2 → Frm (S.foot m) H H' → R (.tuple #[W (S.acc h i may f).1.1, .bool (S.acc h i may f).1.2]) H') :
    CA en F.smem_Mem_access [P m, I h, I i, .bool may, .func (.func k) ⟨fs⟩ ⟨cs⟩] H R := by
  apply vc_smem_Mem_access
  simp only [asAddr_some, Nat.zero_add]
  refine ⟨S.count, by rw [cell_of hm.base]; rfl, ?_⟩
  refine stc_of' hm.base (by simp [Sm.base]) fun H1 e1 => ?_
  have hm1 : IsMem H1 m S.cnt := e1 ▸ hm.setBase (S' := S.cnt) rfl rfl rfl
  have fr1 : Frm [m] H H1 := e1 ▸ (Frm.refl _ _).set _ (by simp)
  clear e1
  refine ⟨some S.mp, by rw [cell_of hm1.base]; rfl, ?_⟩
  refine hm1.look h fun r hr => ?_
  have hfind : S.cnt.find h = S.find h := rfl
  rw [hfind]
  have bad : (S.acc h i may f) = ((0, false), { S.cnt with bads := wr (S.bads + 1) }) → ∃ n15, H1.cell m 4 = some (I n15) ∧ stc H1 m 4 [I (IntKind.i64.wrap (n15 + 1))] fun H18 => R (.tuple #[.int .u64 0, .bool false]) H18 := by
    intro e
    refine ⟨S.bads, by rw [cell_of hm1.base]; rfl, ?_⟩
    refine stc_of hm1.base (by simp [Sm.base]) ?_
    have := hR (H1.set m (.cells true 0 (setAt S.cnt.base 4 [I (IntKind.i64.wrap (S.bads + 1))])))
    rw [e] at this
    refine this ?_ ?_
    · exact hm1.setBase (S' := { S.cnt with bads := wr (S.bads + 1) }) rfl rfl rfl
    · exact (fr1.mono (by simp [Sm.foot])).set _ (by simp [Sm.foot])
  cases may with
  | false => exact bad (by unfold Sm.acc; split <;> simp)
  | true =>
    simp only [Bool.not_true, cond_false]
    refine cond_of (fun hi => bad ?_) fun hi => ?_
    · simp only [decide_eq_true_eq] at hi
      unfold Sm.acc; split
      · rw [if_neg (by omega)]
      · rfl
    refine cond_of (fun hl => bad ?_) fun hl => ?_
    · simp only [decide_eq_true_eq, ge_iff_le] at hl
      unfold Sm.acc
      cases hf : S.find h with
      | none => rfl
      | some q => rw [hf] at hl; simp only [lenOf] at hl; simp only; rw [if_neg (by omega)]
    simp only [decide_eq_false_iff_not, ge_iff_le] at hi hl
    cases hf : S.find h with
    | none => rw [hf] at hl; simp only [lenOf] at hl; omega
    | some q =>
      rw [hf] at hl
      simp only [lenOf] at hl
      simp only [lenOf, addrOf, asRow_some, asFn_func]
      have hq := (find_mem hf).1
      have hlt : i.toNat < q.ws.length := by omega
      refine ⟨⟨by omega, by omega⟩, ((q.ws.getD i.toNat 0).toNat : Int), ?_, hd.1, ?_⟩
      · rw [cell_of (hm1.rows q hq)]
        simp [Reg.cells, hlt, List.getD_eq_getElem?_getD]
      · refine (hd.2 H1 (q.ws.getD i.toNat 0) fr1).mono ?_
        rintro v H2 ⟨rfl, fr2⟩
        refine ⟨_, rfl, ⟨by omega, by omega⟩, ?_⟩
        have hm2 := hm1.frm' fr2
        refine stc_of (hm2.rows q hq) (by simp [Reg.cells]; omega) ?_
        have eacc : S.acc h i true f = ((q.ws.getD i.toNat 0, true), S.cnt.upd h i.toNat (f (q.ws.getD i.toNat 0))) := by
          unfold Sm.acc; rw [hf]; simp only; rw [if_pos (by refine ⟨?_, by omega, by omega⟩; trivial)]
        have hrow := hm2.setRow (h := h) hf i.toNat (f (q.ws.getD i.toNat 0))
        have := hR _ (by rw [eacc]; exact hrow) (by
          refine ((fr1.mono (by simp [Sm.foot])).trans fr2 (by simp)).set _ ?_
          left
          simp only [Sm.foot, List.mem_cons, List.mem_map]
          exact .inr (.inr ⟨q, hq, rfl⟩))
        rw [eacc] at this
        have ecell : setAt q.cells (0 + i.toNat * 1) [W (f (q.ws.getD i.toNat 0))] = (q.ws.set i.toNat (f (q.ws.getD i.toNat 0))).map W := by
          simp [setAt, Reg.cells, List.map_set]
        rw [ecell]
        exact this
def under (w mask v : BitVec 64) : BitVec 64 := (w &&& ~~~mask) ||| (v &&& mask)
theorem under_ok {w mask v : BitVec 64} (hR : R (W (under w mask v)) H) : CA en F.smem_under [W w, W mask, W v] H R := by
  apply vc_smem_under
  simp only [ofInt_bv, wrap_bv]
  exact hR
theorem load_does (X : List Nat) : Does H X F.smem_Mem_Load_1 [] [] id :=
  ⟨Option.isSome_iff_exists.1 (by kernel_rfl), fun H1 w _ => by
    apply vc_smem_Mem_Load_1
    exact ⟨rfl, Frm.refl _ _⟩⟩
theorem Load_ok (hm : IsMem H m S) {h i : Int}
    (hR : ∀ H', IsMem H' m (S.acc h i true id).2 → Frm (S.foot m) H H' → R (.tuple #[W (S.acc h i true id).1.1, .bool (S.acc h i true id).1.2]) H') :
    CA en F.smem_Mem_Load [P m, I h, I i] H R := by
  apply vc_smem_Mem_Load
  refine access_ok hm (load_does _) fun H' hm' fr => ?_
  exact ⟨_, _, rfl, hR H' hm' fr⟩
theorem swap_does {X : List Nat} {b1 b2 : Nat} {mask v : BitVec 64} (h1 : H.get b1 = some (.cells true 0 [W mask])) (h2 : H.get b2 = some (.cells true 0 [W v])) (l1 : b1 < H.next) (l2 : b2 < H.next) (n1 : b1 ∉ X) (n2 : b2 ∉ X) :
    Does H X F.smem_Mem_Swap_1 [] [P b1, P b2] fun w => under w mask v :=
  ⟨Option.isSome_iff_exists.1 (by kernel_rfl), fun H1 w fr => by
    apply vc_smem_Mem_Swap_1
    simp only [asAddr_some]
    refine ⟨mask.toNat, by rw [cell_of (by rw [fr.2 _ l1 n1]; exact h1)]; rfl, v.toNat, by rw [cell_of (by rw [fr.2 _ l2 n2]; exact h2)]; rfl, ?_⟩
    refine under_ok ⟨_, rfl, rfl, Frm.refl _ _⟩⟩
theorem Swap_ok (hm : IsMem H m S) {h i : Int} {mask v : BitVec 64}
    (hR : ∀ H', IsMem H' m (S.acc h i true fun w => under w mask v).2 → Frm (S.foot m) H H' → R (.tuple #[W (S.acc h i true fun w => under w mask v).1.1, .bool (S.acc h i true fun w => under w mask v).1.2]) H') :
    CA en F.smem_Mem_Swap [P m, I h, I i, W mask, W v] H R := by
  apply vc_smem_Mem_Swap
  have fr : Frm [] H ((H.new (.cells true 0 [W mask])).new (.cells true 0 [W v])) := ((Frm.refl _ _).new _).new _
  have hm1 := hm.frm' fr
  have hne : ∀ j ∈ [m], j < H.next := by
    intro j hj
    simp only [List.mem_singleton] at hj
    subst hj
    exact hm.lt _ (by simp [Sm.foot])
  refine access_ok hm1 (swap_does (mask := mask) (v := v) ?_ ?_ ?_ ?_ ?_ ?_) fun H' hm' fr' => ?_
  · rw [get_new_lt (by simp [next_new]), get_new_self]
  · rw [get_new_self]
  · simp only [next_new]; omega
  · simp only [next_new]; omega
  · intro hx; have := hne _ hx; omega
  · intro hx; have := hne _ hx; simp only [next_new] at this; omega
  · exact ⟨_, _, rfl, hR H' hm' ((Frm.mono (S' := S.foot m) fr (by simp)).trans fr' fun j hj => .inl hj)⟩
theorem Mask_ok (hm : IsMem H m S) {h i : Int} {mask v : BitVec 64}
    (hR : ∀ H', IsMem H' m (S.acc h i true fun w => under w mask v).2 → Frm (S.foot m) H H' → R (.bool (S.acc h i true fun w => under w mask v).1.2) H') :
    CA en F.smem_Mem_Mask [P m, I h, I i, W mask, W v] H R := by
  apply vc_smem_Mem_Mask
  exact Swap_ok hm fun H' hm' fr' => ⟨_, _, rfl, hR H' hm' fr'⟩
theorem all_ones : (18446744073709551615 : Int) = ((BitVec.allOnes 64).toNat : Int) := by decide
theorem under_all (w v : BitVec 64) : under w (BitVec.allOnes 64) v = v := by
  unfold under
  rw [BitVec.not_allOnes, BitVec.and_zero, BitVec.zero_or, BitVec.and_allOnes]
theorem Store_ok (hm : IsMem H m S) {h i : Int} {v : BitVec 64}
    (hR : ∀ H', IsMem H' m (S.acc h i true fun _ => v).2 → Frm (S.foot m) H H' → R (.bool (S.acc h i true fun _ => v).1.2) H') :
    CA en F.smem_Mem_Store [P m, I h, I i, W v] H R := by
  apply vc_smem_Mem_Store
  rw [all_ones]
  refine Mask_ok hm fun H' hm' fr' => ⟨_, rfl, ?_⟩
  simp only [under_all] at hm' ⊢
  exact hR H' hm' fr'
def casF (mask old v w : BitVec 64) : BitVec 64 := if (w ^^^ old) &&& mask = 0 then under w mask v else w
theorem cas_does {X : List Nat} {b0 b1 b2 : Nat} {mask old v : BitVec 64} (h0 : H.get b0 = some (.cells true 0 [W old])) (h1 : H.get b1 = some (.cells true 0 [W mask])) (h2 : H.get b2 = some (.cells true 0 [W v]))
    (l0 : b0 < H.next) (l1 : b1 < H.next) (l2 : b2 < H.next) (n0 : b0 ∉ X) (n1 : b1 ∉ X) (n2 : b2 ∉ X) :
    Does H X F.smem_Mem_Cas_1 [] [P b0, P b1, P b2] (casF mask old v) :=
  ⟨Option.isSome_iff_exists.1 (by kernel_rfl), fun H1 w fr => by
    apply vc_smem_Mem_Cas_1
    simp only [asAddr_some]
    refine ⟨old.toNat, by rw [cell_of (by rw [fr.2 _ l0 n0]; exact h0)]; rfl, mask.toNat, by rw [cell_of (by rw [fr.2 _ l1 n1]; exact h1)]; rfl, ?_⟩
    simp only [ofInt_bv, wrap_bv]
    have e0 : (0 : Int) = (((0 : BitVec 64).toNat : Nat) : Int) := rfl
    rw [e0, bv_bne]
    refine cond_of (fun h => ?_) fun h => ?_
    · refine ⟨?_, Frm.refl _ _⟩
      unfold casF
      rw [if_neg (by simpa using h)]
    · refine ⟨mask.toNat, by rw [cell_of (by rw [fr.2 _ l1 n1]; exact h1)]; rfl, v.toNat, by rw [cell_of (by rw [fr.2 _ l2 n2]; exact h2)]; rfl, ?_⟩
      refine under_ok ⟨_, rfl, ?_, Frm.refl _ _⟩
      unfold casF
      rw [if_pos (by simpa using h)]⟩
theorem Cas_ok (hm : IsMem H m S) {h i : Int} {mask old v : BitVec 64}
    (hR : ∀ H', IsMem H' m (S.acc h i true (casF mask old v)).2 → Frm (S.foot m) H H' → R (.tuple #[W (S.acc h i true (casF mask old v)).1.1, .bool (S.acc h i true (casF mask old v)).1.2]) H') :
    CA en F.smem_Mem_Cas [P m, I h, I i, W mask, W old, W v] H R := by
  apply vc_smem_Mem_Cas
  have fr : Frm [] H (((H.new (.cells true 0 [W mask])).new (.cells true 0 [W old])).new (.cells true 0 [W v])) := (((Frm.refl _ _).new _).new _).new _
  have hm1 := hm.frm' fr
  have hne : ∀ j ∈ [m], j < H.next := by
    intro j hj
    simp only [List.mem_singleton] at hj
    subst hj
    exact hm.lt _ (by simp [Sm.foot])
  refine access_ok hm1 (cas_does (mask := mask) (old := old) (v := v) ?_ ?_ ?_ ?_ ?_ ?_ ?_ ?_ ?_) fun H' hm' fr' => ?_
  · rw [get_new_lt (by simp [next_new]), get_new_self]
  · rw [get_new_lt (by simp [next_new]; omega), get_new_lt (by simp [next_new]), get_new_self]
  · rw [get_new_self]
  · simp only [next_new]; omega
  · simp only [next_new]; omega
  · simp only [next_new]; omega
  · intro hx; have := hne _ hx; simp only [next_new] at this; omega
  · intro hx; have := hne _ hx; omega
  · intro hx; have := hne _ hx; simp only [next_new] at this; omega
  · exact ⟨_, _, rfl, hR H' hm' ((Frm.mono (S' := S.foot m) fr (by simp)).trans fr' fun j hj => .inl hj)⟩
def aluF (op : Int) (a b : BitVec 64) : BitVec 64 := if op = 0 then a + b else if op = 64 then a ||| b else if op = 80 then a &&& b else a ^^^ b
def isAtomic (op : Int) : Bool := op == 0 || op == 80 || op == 64 || op == 160
def fetchF (op : Int) (mask v w : BitVec 64) : BitVec 64 := under w mask (aluF op (w &&& mask) (v &&& mask))
theorem alu_ok {op : Int} (ho : isAtomic op = true) {a b : BitVec 64} (hR : R (.tuple #[W (aluF op a b), .bool true]) H) : CA en F.word_Alu [I op, .bool true, W a, W b] H R := by
  have h4 : op = 0 ∨ op = 80 ∨ op = 64 ∨ op = 160 := by simpa [isAtomic, or_assoc] using ho
  apply vc_word_Alu
  have e192 : (op == 192) = false := by rcases h4 with rfl | rfl | rfl | rfl <;> rfl
  rw [e192]
  simp only [cond_false, cond_true]
  apply vc_word_alu_uint64
  refine ⟨show (64 : Int) ≠ 0 by decide, ?_⟩
  rcases h4 with rfl | rfl | rfl | rfl
  · simp only [show ((0 : Int) == 0) = true from rfl, cond_true]
    refine ⟨_, _, rfl, ?_⟩
    rw [wrap_u64, ofInt_add, ofInt_bv, ofInt_bv]
    exact hR
  · simp only [show ((80 : Int) == 0) = false from rfl, show ((80 : Int) == 16) = false from rfl, show ((80 : Int) == 32) = false from rfl, show ((80 : Int) == 48) = false from rfl, show ((80 : Int) == 144) = false from rfl, show ((80 : Int) == 64) = false from rfl, show ((80 : Int) == 80) = true from rfl, cond_true, cond_false]
    refine ⟨_, _, rfl, ?_⟩
    simp only [wrap_u64, ofInt_bv]
    exact hR
  · simp only [show ((64 : Int) == 0) = false from rfl, show ((64 : Int) == 16) = false from rfl, show ((64 : Int) == 32) = false from rfl, show ((64 : Int) == 48) = false from rfl, show ((64 : Int) == 144) = false from rfl, show ((64 : Int) == 64) = true from rfl, cond_true, cond_false]
    refine ⟨_, _, rfl, ?_⟩
    simp only [wrap_u64, ofInt_bv]
    exact hR
  · simp only [show ((160 : Int) == 0) = false from rfl, show ((160 : Int) == 16) = false from rfl, show ((160 : Int) == 32) = false from rfl, show ((160 : Int) == 48) = false from rfl, show ((160 : Int) == 144) = false from rfl, show ((160 : Int) == 64) = false from rfl, show ((160 : Int) == 80) = false from rfl, show ((160 : Int) == 160) = true from rfl, cond_true, cond_false]
    refine ⟨_, _, rfl, ?_⟩
    simp only [wrap_u64, ofInt_bv]
    exact hR
theorem fetch_does {X : List Nat} {b0 b1 b2 : Nat} {op : Int} {mask v : BitVec 64} (ho : isAtomic op = true) (h0 : H.get b0 = some (.cells true 0 [I op])) (h1 : H.get b1 = some (.cells true 0 [W mask])) (h2 : H.get b2 = some (.cells true 0 [W v]))
    (l0 : b0 < H.next) (l1 : b1 < H.next) (l2 : b2 < H.next) (n0 : b0 ∉ X) (n1 : b1 ∉ X) (n2 : b2 ∉ X) :
    Does H X F.smem_Mem_Fetch_1 [] [P b0, P b1, P b2] (fetchF op mask v) :=
  ⟨Option.isSome_iff_exists.1 (by kernel_rfl), fun H1 w fr => by
    have c0 : H1.cell b0 0 = some (I op) := by rw [cell_of (by rw [fr.2 _ l0 n0]; exact h0)]; rfl
    have c1 : H1.cell b1 0 = some (W mask) := by rw [cell_of (by rw [fr.2 _ l1 n1]; exact h1)]; rfl
    have c2 : H1.cell b2 0 = some (W v) := by rw [cell_of (by rw [fr.2 _ l2 n2]; exact h2)]; rfl
    apply vc_smem_Mem_Fetch_1
    simp only [asAddr_some]
    refine ⟨_, c0, _, c1, _, c2, _, c1, ?_⟩
    simp only [ofInt_bv, wrap_bv]
    refine alu_ok ho ⟨_, _, rfl, _, c1, ?_⟩
    exact under_ok ⟨_, rfl, rfl, Frm.refl _ _⟩⟩
theorem access_off (hm : IsMem H m S) {h i : Int} {k : Nat} {fs cs : List Value} (f : BitVec 64 → BitVec 64)
    (hR : ∀ H', IsMem H' m (S.acc h i false f).2 → Frm (S.foot m) H H' → R (.tuple #[W (S.acc h i false f).1.1, .bool (S.acc h i false f).1.2]) H') :
    CA en F.smem_Mem_access [P m, I h, I i, .bool false, .func (.func k) ⟨fs⟩ ⟨cs⟩] H R := by
  apply vc_smem_Mem_access
  simp only [asAddr_some, Nat.zero_add]
  refine ⟨S.count, by rw [cell_of hm.base]; rfl, ?_⟩
  refine stc_of' hm.base (by simp [Sm.base]) fun H1 e1 => ?_
  have hm1 : IsMem H1 m S.cnt := e1 ▸ hm.setBase (S' := S.cnt) rfl rfl rfl
  have fr1 : Frm [m] H H1 := e1 ▸ (Frm.refl _ _).set _ (by simp)
  clear e1
  refine ⟨some S.mp, by rw [cell_of hm1.base]; rfl, ?_⟩
  refine hm1.look h fun r hr => ?_
  have e : (S.acc h i false f) = ((0, false), { S.cnt with bads := wr (S.bads + 1) }) := by unfold Sm.acc; split <;> simp
  simp only [Bool.not_false, cond_true]
  refine ⟨S.bads, by rw [cell_of hm1.base]; rfl, ?_⟩
  refine stc_of hm1.base (by simp [Sm.base]) ?_
  have := hR (H1.set m (.cells true 0 (setAt S.cnt.base 4 [I (IntKind.i64.wrap (S.bads + 1))])))
  rw [e] at this
  refine this ?_ ?_
  · exact hm1.setBase (S' := { S.cnt with bads := wr (S.bads + 1) }) rfl rfl rfl
  · exact (fr1.mono (by simp [Sm.foot])).set _ (by simp [Sm.foot])
theorem Fetch_ok (hm : IsMem H m S) {h i op : Int} {mask v : BitVec 64}
    (hR : ∀ H', IsMem H' m (S.acc h i (isAtomic op) (fetchF op mask v)).2 → Frm (S.foot m) H H' → R (.tuple #[W (S.acc h i (isAtomic op) (fetchF op mask v)).1.1, .bool (S.acc h i (isAtomic op) (fetchF op mask v)).1.2]) H') :
    CA en F.smem_Mem_Fetch [P m, I h, I i, I op, W mask, W v] H R := by
  apply vc_smem_Mem_Fetch
  have fr : Frm [] H (((H.new (.cells true 0 [I op])).new (.cells true 0 [W mask])).new (.cells true 0 [W v])) := (((Frm.refl _ _).new _).new _).new _
  have hm1 := hm.frm' fr
  have hne : ∀ j ∈ [m], j < H.next := by
    intro j hj
    simp only [List.mem_singleton] at hj
    subst hj
    exact hm.lt _ (by simp [Sm.foot])
  have g0 : (((H.new (.cells true 0 [I op])).new (.cells true 0 [W mask])).new (.cells true 0 [W v])).get H.next = some (.cells true 0 [I op]) := by
    rw [get_new_lt (by simp [next_new]; omega), get_new_lt (by simp [next_new]), get_new_self]
  have g1 : (((H.new (.cells true 0 [I op])).new (.cells true 0 [W mask])).new (.cells true 0 [W v])).get (H.new (.cells true 0 [I op])).next = some (.cells true 0 [W mask]) := by
    rw [get_new_lt (by simp [next_new]), get_new_self]
  have g2 : (((H.new (.cells true 0 [I op])).new (.cells true 0 [W mask])).new (.cells true 0 [W v])).get ((H.new (.cells true 0 [I op])).new (.cells true 0 [W mask])).next = some (.cells true 0 [W v]) := get_new_self _ _
  have c0 : (((H.new (.cells true 0 [I op])).new (.cells true 0 [W mask])).new (.cells true 0 [W v])).cell H.next 0 = some (I op) := by rw [cell_of g0]; rfl
  have out : ∀ may, may = isAtomic op → CA en F.smem_Mem_access [P m, I h, I i, .bool may, .func (.func F.smem_Mem_Fetch_1) #[] #[P H.next, P (H.new (.cells true 0 [I op])).next, P ((H.new (.cells true 0 [I op])).new (.cells true 0 [W mask])).next]]
      (((H.new (.cells true 0 [I op])).new (.cells true 0 [W mask])).new (.cells true 0 [W v])) fun v1 H2 => ∃ n4 b5, v1 = Value.tuple #[.int .u64 n4, .bool b5] ∧ R (.tuple #[.int .u64 n4, .bool b5]) H2 := by
    rintro may rfl
    cases ho : isAtomic op with
    | true =>
      refine access_ok hm1 (fetch_does (op := op) (mask := mask) (v := v) ho g0 g1 g2 ?_ ?_ ?_ ?_ ?_ ?_) fun H' hm' fr' => ?_
      · simp only [next_new]; omega
      · simp only [next_new]; omega
      · simp only [next_new]; omega
      · intro hx; have := hne _ hx; omega
      · intro hx; have := hne _ hx; simp only [next_new] at this; omega
      · intro hx; have := hne _ hx; simp only [next_new] at this; omega
      · have := hR H'
        rw [ho] at this
        exact ⟨_, _, rfl, this hm' ((Frm.mono (S' := S.foot m) fr (by simp)).trans fr' fun j hj => .inl hj)⟩
    | false =>
      refine access_off hm1 (fetchF op mask v) fun H' hm' fr' => ?_
      have := hR H'
      rw [ho] at this
      exact ⟨_, _, rfl, this hm' ((Frm.mono (S' := S.foot m) fr (by simp)).trans fr' fun j hj => .inl hj)⟩
  refine ⟨_, c0, cond_of (fun h0 => out true ?_) fun h0 => ⟨_, c0, cond_of (fun h1 => out true ?_) fun h1 => ⟨_, c0, cond_of (fun h2 => out true ?_) fun h2 => ⟨_, c0, out _ ?_⟩⟩⟩⟩
  · simp [isAtomic, h0]
  · simp [isAtomic, h1]
  · simp [isAtomic, h2]
  · simp [isAtomic, h0, h1, h2]
theorem New_ok {room : Int} (hR : ∀ H' m mp, H.next ≤ m → IsMem H' m ⟨mp, 0, [], 0, if (if 65536 < room then 65536 else room) > 0 then (if 65536 < room then 65536 else room) else 0, 0, 0⟩ → Frm [] H H' → H.next ≤ mp → R (P m) H') :
    CA en F.smem_New [I room] H R := by
  apply vc_smem_New
  refine hR _ (H.new (.map [] 0)).next H.next (by simp [next_new]) ⟨?_, ?_, by simp, ?_, ?_, by simp⟩ (((Frm.refl _ _).new _).new _) (Nat.le_refl _)
  · rw [get_new_self]; rfl
  · rw [get_new_lt (by simp [next_new]), get_new_self]; rfl
  · simp [Sm.foot, next_new]
  · intro j hj
    simp only [Sm.foot, List.map_nil, List.mem_cons, List.not_mem_nil, or_false, next_new] at hj ⊢
    omega
theorem Bad_ok (hm : IsMem H m S) (hR : R (I S.bads) H) : CA en F.smem_Mem_Bad [P m] H R := by
  apply vc_smem_Mem_Bad
  simp only [asAddr_some, Nat.zero_add]
  exact ⟨_, by rw [cell_of hm.base]; rfl, hR⟩
theorem Size_ok (hm : IsMem H m S) {h : Int} (hR : R (I (S.size h)) H) : CA en F.smem_Mem_Size [P m, I h] H R := by
  apply vc_smem_Mem_Size
  simp only [asAddr_some, Nat.zero_add]
  refine ⟨some S.mp, by rw [cell_of hm.base]; rfl, ?_⟩
  refine hm.look h (K := fun _ _ l => R (I l) H) fun r hr => ?_
  have : lenOf (S.find h) = S.size h := by unfold Sm.size lenOf; split <;> rfl
  rw [this]
  exact hR
theorem reps_one (n : Nat) (v : Value) : reps n [v] = List.replicate n v := by
  induction n with
  | zero => rfl
  | succ n ih => simp [reps, List.replicate_succ, ih]
def Sm.mk' (S : Sm) (b : Nat) (n : Nat) : Sm :=
  { S with made := wr (S.made + 1), room := wr (S.room - n), cl := S.cl + 1, regs := S.regs ++ [⟨wr (S.made + 1), b, S.cl, List.replicate n 0⟩] }
theorem find_none {h : Int} (hf : S.find h = none) : ∀ r ∈ S.regs, r.h ≠ h := by
  unfold Sm.find at hf
  intro r hr
  have := List.find?_eq_none.1 hf r hr
  simpa using this
theorem Make_bad (hm : IsMem H m S) {n : Int} (hn : n < 1 ∨ 65536 < n) (hR : R (.tuple #[I 0, I 1]) H) : CA en F.smem_Mem_Make [P m, I n] H R := by
  apply vc_smem_Mem_Make
  refine cond_of (fun _ => hR) fun h1 => cond_of (fun _ => hR) fun h2 => ?_
  simp only [decide_eq_false_iff_not, gt_iff_lt] at h1 h2
  omega
theorem Make_full (hm : IsMem H m S) {n : Int} (hn : 1 ≤ n ∧ n ≤ 65536) (hr : S.room < n) (hR : R (.tuple #[I 0, I 5]) H) : CA en F.smem_Mem_Make [P m, I n] H R := by
  apply vc_smem_Mem_Make
  refine cond_of (fun h1 => ?_) fun h1 => cond_of (fun h2 => ?_) fun h2 => ?_
  · simp only [decide_eq_true_eq] at h1; omega
  · simp only [decide_eq_true_eq] at h2; omega
  simp only [asAddr_some, Nat.zero_add]
  refine ⟨S.room, by rw [cell_of hm.base]; rfl, ?_⟩
  refine cond_of (fun _ => hR) fun h3 => ?_
  simp only [decide_eq_false_iff_not] at h3
  omega
theorem Make_good (hm : IsMem H m S) {n : Int} (hn : 1 ≤ n ∧ n ≤ 65536) (hr : n ≤ S.room) (hf : S.find (wr (S.made + 1)) = none)
    (hR : ∀ H' b, H.next ≤ b → IsMem H' m (S.mk' b n.toNat) → Frm (S.foot m) H H' → R (.tuple #[I (wr (S.made + 1)), I 0]) H') : CA en F.smem_Mem_Make [P m, I n] H R := by
  have hnd := hm.nodup
  simp only [Sm.foot, List.nodup_cons, List.mem_cons, List.mem_map, not_or, not_exists, not_and] at hnd
  apply vc_smem_Mem_Make
  refine cond_of (fun h1 => ?_) fun h1 => cond_of (fun h2 => ?_) fun h2 => ?_
  · simp only [decide_eq_true_eq] at h1; omega
  · simp only [decide_eq_true_eq] at h2; omega
  simp only [asAddr_some, Nat.zero_add]
  refine ⟨S.room, by rw [cell_of hm.base]; rfl, ?_⟩
  refine cond_of (fun h3 => ?_) fun h3 => ?_
  · simp only [decide_eq_true_eq] at h3; omega
  refine ⟨S.made, by rw [cell_of hm.base]; rfl, ?_⟩
  refine stc_of' hm.base (by simp [Sm.base]) fun H9 e9 => ?_
  have hm9 : IsMem H9 m { S with made := wr (S.made + 1) } := e9 ▸ hm.setBase (S' := { S with made := wr (S.made + 1) }) rfl rfl rfl
  have fr9 : Frm [m] H H9 := e9 ▸ (Frm.refl _ _).set _ (by simp)
  clear e9
  refine ⟨S.room, by rw [cell_of hm9.base]; rfl, ?_⟩
  refine stc_of' hm9.base (by simp [Sm.base]) fun H15 e15 => ?_
  have hm15 : IsMem H15 m { S with made := wr (S.made + 1), room := wr (S.room - n) } := e15 ▸ hm9.setBase (S' := { S with made := wr (S.made + 1), room := wr (S.room - n) }) rfl rfl rfl
  have fr15 : Frm [m] H H15 := e15 ▸ fr9.set _ (by simp)
  clear e15 hm9 fr9
  have c0 : H15.cell m 0 = some (.map (some S.mp)) := by rw [cell_of hm15.base]; rfl
  have c1 : H15.cell m 1 = some (I (wr (S.made + 1))) := by rw [cell_of hm15.base]; rfl
  have hlt : m < H15.next := hm15.lt m (by simp [Sm.foot])
  have hmp : S.mp < H15.next := hm15.lt S.mp (by simp [Sm.foot])
  have cn : ∀ o i, ((H15.bump 11).new o).cell m i = H15.cell m i := by
    intro o i
    unfold Heap.cell
    rw [get_new_lt (by rw [next_bump]; omega), get_bump]
  refine ⟨_, by rw [cell_bump]; exact c0, _, by rw [cell_bump]; exact c1, ⟨by omega, Int.le_refl _, by omega⟩, ?_⟩
  have hmap : ((H15.bump 11).new (.cells true 1 (reps n.toNat [.int .u64 0]))).get S.mp = some (.map (S.regs.map Reg.ent) S.cl) := by
    rw [get_new_lt (by rw [next_bump]; omega), get_bump]; exact hm15.map
  have hfn : Instr.findNow (.int .i64) (I (wr (S.made + 1))) (S.regs.map Reg.ent) 0 = some none := by
    have e := findNow_int Reg.h (fun r => Value.slice (some ⟨r.b, 0, none⟩) r.ws.length 0) Reg.born .i64 (wr (S.made + 1)) S.regs 0
    have e2 : (S.regs.findIdx? fun a => a.h == wr (S.made + 1)) = none := by
      rw [List.findIdx?_eq_none_iff]
      intro r hr
      simpa using find_none hf r hr
    rw [e2] at e
    exact e
  refine ⟨S.mp, _, _, none, rfl, hmap, hfn, ?_⟩
  have hnew : IsMem (((H15.bump 11).new (.cells true 1 (reps n.toNat [.int .u64 0]))).set S.mp (putMap (S.regs.map Reg.ent) S.cl none (I (wr (S.made + 1))) (.slice (some ⟨(H15.bump 11).next, 0, none⟩) n.toNat 0))) m (S.mk' (H15.bump 11).next n.toNat) := by
    have hfoot : (S.mk' (H15.bump 11).next n.toNat).foot m = S.foot m ++ [(H15.bump 11).next] := by simp [Sm.foot, Sm.mk']
    have old : ∀ j ∈ S.foot m, j < H15.next := fun j hj => hm15.lt j hj
    refine ⟨?_, ?_, fun r hr => ?_, ?_, fun j hj => ?_, ?_⟩
    · rw [get_set_ne (fun e => hnd.1.1 e), get_new_lt (by rw [next_bump]; omega), get_bump, hm15.base]
      have : ((n.toNat : Nat) : Int) = n := by omega
      simp [Sm.base, Sm.mk', this]
    · show Heap.get _ S.mp = _
      rw [get_set_self]
      simp [putMap, Sm.mk', Reg.ent, AS.ent]
    · simp only [Sm.mk', List.mem_append, List.mem_singleton] at hr
      rcases hr with hr | rfl
      · have hb : r.b < H15.next := old _ (by simp only [Sm.foot, List.mem_cons, List.mem_map]; exact .inr (.inr ⟨r, hr, rfl⟩))
        rw [get_set_ne (fun e => hnd.2.1 r hr e), get_new_lt (by rw [next_bump]; omega), get_bump, hm15.rows r hr]
      · show Heap.get _ (H15.bump 11).next = _
        rw [get_set_ne (by rw [next_bump]; omega), get_new_self, reps_one]
        simp [Reg.cells]
    · rw [hfoot]
      refine List.nodup_append.2 ⟨hm.nodup, by simp, ?_⟩
      intro a ha b hb
      simp only [List.mem_singleton] at hb
      subst hb
      have := old a ha
      rw [next_bump]; omega
    · rw [hfoot] at hj
      simp only [List.mem_append, List.mem_singleton] at hj
      rw [next_set, next_new]
      rcases hj with hj | rfl
      · have := old j hj; rw [next_bump]; omega
      · omega
    · simp only [Sm.mk', List.map_append, List.map_cons, List.map_nil]
      refine List.nodup_append.2 ⟨hm.keys, by simp, ?_⟩
      intro a ha b hb
      simp only [List.mem_singleton] at hb
      subst hb
      obtain ⟨r, hr, rfl⟩ := List.mem_map.1 ha
      exact find_none hf r hr
  refine ⟨⟨wr (S.made + 1), ?_, ?_⟩, ⟨⟨_, by rw [cell_bump]; exact c1, rfl⟩, ⟨_, by rw [cn]; exact c1, rfl⟩, trivial⟩, ⟨⟨_, by rw [cell_bump]; exact c0, rfl⟩, ⟨_, by rw [cn]; exact c0, rfl⟩, trivial⟩, trivial⟩
  · rw [cell_of hnew.base]; rfl
  · refine hR _ _ ?_ hnew ?_
    · rw [next_bump]; have := fr15.1; omega
    · exact (((fr15.mono (by simp [Sm.foot])).bump 11).new _).set _ (by simp [Sm.foot])
end Go.Proofs.YtjggeoghlicmdaaGreat
namespace Go.Proofs.YtjggeoghlicmdaaGreat
open Go Go.AS Go.RowKit
set_option linter.unusedVariables false
variable {H H' : Heap} {m : Nat} {S S' : Sm} {R : Value → Heap → Prop} {L : List Asr}
def mem (m : Nat) (S : Sm) : Asr :=
  ⟨S.foot m, fun H => H.get m = some (.cells true 0 S.base) ∧ H.get S.mp = some (.map (S.regs.map Reg.ent) S.cl) ∧ (∀ r ∈ S.regs, H.get r.b = some (.cells true 1 r.cells)) ∧ (S.regs.map Reg.h).Nodup,
   fun h k => ⟨by rw [h m (by simp [Sm.foot])]; exact k.1, by rw [h S.mp (by simp [Sm.foot])]; exact k.2.1, fun r hr => by rw [h r.b (by simp only [Sm.foot, List.mem_cons, List.mem_map]; exact .inr (.inr ⟨r, hr, rfl⟩))]; exact k.2.2.1 r hr, k.2.2.2⟩⟩
theorem isMem (h : Sep H (mem m S :: L)) : IsMem H m S :=
  ⟨h.head.1, h.head.2.1, h.head.2.2.1, h.footnd, fun j hj => h.footlt hj, h.head.2.2.2⟩
theorem sepMem (h : Sep H (mem m S :: L)) (hm : IsMem H' m S') (fr : Frm (S.foot m) H H') (hf : ∀ j ∈ S'.foot m, j ∈ S.foot m ∨ H.next ≤ j) : Sep H' (mem m S' :: L) :=
  h.upd fr (fun j hj => .inl hj) ⟨hm.base, hm.map, hm.rows, hm.keys⟩ hf hm.nodup hm.lt
theorem sepAcc (h : Sep H (mem m S :: L)) {a i : Int} {may : Bool} {f : BitVec 64 → BitVec 64} (hm : IsMem H' m (S.acc a i may f).2) (fr : Frm (S.foot m) H H') : Sep H' (mem m (S.acc a i may f).2 :: L) :=
  sepMem h hm fr fun j hj => .inl (by rw [acc_foot] at hj; exact hj)
theorem load_s (h : Sep H (mem m S :: L)) {a i : Int} (hR : ∀ H', Sep H' (mem m (S.acc a i true id).2 :: L) → R (.tuple #[W (S.acc a i true id).1.1, .bool (S.acc a i true id).1.2]) H') : CA en F.smem_Mem_Load [P m, I a, I i] H R :=
  Load_ok (isMem h) fun H' hm fr => hR H' (sepAcc h hm fr)
theorem store_s (h : Sep H (mem m S :: L)) {a i : Int} {v : BitVec 64}
    (hR : ∀ H', Sep H' (mem m (S.acc a i true fun _ => v).2 :: L) → R (.bool (S.acc a i true fun _ => v).1.2) H') : CA en F.smem_Mem_Store [P m, I a, I i, W v] H R :=
  Store_ok (isMem h) fun H' hm fr => hR H' (sepAcc h hm fr)
theorem cas_s (h : Sep H (mem m S :: L)) {a i : Int} {mask old v : BitVec 64}
    (hR : ∀ H', Sep H' (mem m (S.acc a i true (casF mask old v)).2 :: L) → R (.tuple #[W (S.acc a i true (casF mask old v)).1.1, .bool (S.acc a i true (casF mask old v)).1.2]) H') : CA en F.smem_Mem_Cas [P m, I a, I i, W mask, W old, W v] H R :=
  Cas_ok (isMem h) fun H' hm fr => hR H' (sepAcc h hm fr)
theorem fetch_s (h : Sep H (mem m S :: L)) {a i op : Int} {mask v : BitVec 64}
    (hR : ∀ H', Sep H' (mem m (S.acc a i (isAtomic op) (fetchF op mask v)).2 :: L) → R (.tuple #[W (S.acc a i (isAtomic op) (fetchF op mask v)).1.1, .bool (S.acc a i (isAtomic op) (fetchF op mask v)).1.2]) H') :
    CA en F.smem_Mem_Fetch [P m, I a, I i, I op, W mask, W v] H R :=
  Fetch_ok (isMem h) fun H' hm fr => hR H' (sepAcc h hm fr)
theorem bad_s (h : Sep H (mem m S :: L)) (hR : R (I S.bads) H) : CA en F.smem_Mem_Bad [P m] H R := Bad_ok (isMem h) hR
theorem size_s (h : Sep H (mem m S :: L)) {a : Int} (hR : R (I (S.size a)) H) : CA en F.smem_Mem_Size [P m, I a] H R := Size_ok (isMem h) hR
def clampRoom (room : Int) : Int := if (if 65536 < room then 65536 else room) > 0 then (if 65536 < room then 65536 else room) else 0
theorem clampRoom_eq (room : Int) : clampRoom room = max 0 (min room 65536) := by unfold clampRoom; split <;> split <;> omega
def newSm (mp : Nat) (room : Int) : Sm := ⟨mp, 0, [], 0, clampRoom room, 0, 0⟩
theorem new_s (h : Sep H L) {room : Int} (hR : ∀ H' m mp, Sep H' (mem m (newSm mp room) :: L) → R (P m) H') : CA en F.smem_New [I room] H R :=
  New_ok fun H' m mp h1 hm fr h2 => hR H' m mp (by
    have h0 : Sep H ((⟨[], fun _ => True, fun _ _ => trivial⟩ : Asr) :: L) := ⟨fun A hA => by
        rcases List.mem_cons.1 hA with rfl | hA
        · trivial
        · exact h.all A hA, by rw [feet_cons]; exact h.nd, fun i hi => h.lt i (by rw [feet_cons] at hi; exact hi)⟩
    refine h0.upd (B := mem m (newSm mp room)) fr (by simp) ⟨hm.base, hm.map, hm.rows, hm.keys⟩ (fun j hj => .inr ?_) hm.nodup hm.lt
    simp only [mem, newSm, Sm.foot, List.map_nil, List.mem_cons, List.not_mem_nil, or_false] at hj
    omega)
def Sm.make (S : Sm) (b : Nat) (n : Int) : (Int × Int) × Sm :=
  if n < 1 ∨ 65536 < n then ((0, 1), S) else if S.room < n then ((0, 5), S) else ((wr (S.made + 1), 0), S.mk' b n.toNat)
theorem make_s (h : Sep H (mem m S :: L)) {n : Int} (hf : 1 ≤ n → n ≤ 65536 → n ≤ S.room → S.find (wr (S.made + 1)) = none)
    (hR : ∀ H' b, Sep H' (mem m (S.make b n).2 :: L) → R (.tuple #[I (S.make b n).1.1, I (S.make b n).1.2]) H') : CA en F.smem_Mem_Make [P m, I n] H R := by
  by_cases h1 : n < 1 ∨ 65536 < n
  · have := hR H 0
    unfold Sm.make at this
    rw [if_pos h1] at this
    exact Make_bad (isMem h) h1 (this h)
  · by_cases h2 : S.room < n
    · have := hR H 0
      unfold Sm.make at this
      rw [if_neg h1, if_pos h2] at this
      exact Make_full (isMem h) (by omega) h2 (this h)
    · refine Make_good (isMem h) (by omega) (by omega) (hf (by omega) (by omega) (by omega)) fun H' b hb hm fr => ?_
      have := hR H' b
      unfold Sm.make at this
      rw [if_neg h1, if_neg h2] at this
      refine this (sepMem h hm fr fun j hj => ?_)
      simp only [Sm.foot, Sm.mk', List.map_append, List.map_cons, List.map_nil, List.mem_cons, List.mem_append, List.not_mem_nil, or_false] at hj ⊢
      rcases hj with rfl | rfl | hj | rfl
      · exact .inl (.inl rfl)
      · exact .inl (.inr (.inl rfl))
      · exact .inl (.inr (.inr hj))
      · exact .inr hb
def Sm.free (S : Sm) (a : Int) : Bool × Sm :=
  ((S.find a).isSome, { S with room := wr (S.room + S.size a), regs := S.regs.filter fun r => r.h != a })
theorem eraseIdx_map' {α β : Type} (f : α → β) : ∀ (l : List α) (j : Nat), (l.map f).eraseIdx j = (l.eraseIdx j).map f
  | [], _ => rfl
  | _ :: _, 0 => rfl
  | a :: l, j + 1 => by simp only [List.map_cons, List.eraseIdx_cons_succ, eraseIdx_map' f l j]
theorem eraseIdx_filter : ∀ {l : List Reg} {a : Int} {j : Nat}, (l.map Reg.h).Nodup → (l.findIdx? fun r => r.h == a) = some j → l.eraseIdx j = l.filter fun r => r.h != a
  | [], a, j, _, h => by simp at h
  | r :: l, a, j, hn, h => by
    rw [List.findIdx?_cons] at h
    simp only [List.map_cons, List.nodup_cons] at hn
    cases hr : r.h == a with
    | true =>
      rw [hr] at h
      simp only [if_true, Option.some.injEq] at h
      subst h
      have ha : r.h = a := by simpa using hr
      have e : (r.h != a) = false := by simp [ha]
      rw [List.eraseIdx_cons_zero, List.filter_cons, e]
      simp only [Bool.false_eq_true, if_false]
      refine (List.filter_eq_self.2 fun q hq => ?_).symm
      simp only [bne_iff_ne, ne_eq]
      intro e
      exact hn.1 (by rw [ha, ← e]; exact List.mem_map.2 ⟨q, hq, rfl⟩)
    | false =>
      rw [hr] at h
      simp only [Bool.false_eq_true, if_false, Option.map_eq_some_iff] at h
      obtain ⟨k, hk, rfl⟩ := h
      have e : (r.h != a) = true := by simpa [bne] using hr
      rw [List.eraseIdx_cons_succ, List.filter_cons, e, if_pos rfl, eraseIdx_filter hn.2 hk]
theorem free_s (h : Sep H (mem m S :: L)) {a : Int} (hR : ∀ H', Sep H' (mem m (S.free a).2 :: L) → R (.bool (S.free a).1) H') : CA en F.smem_Mem_Free [P m, I a] H R := by
  have hm := isMem h
  apply vc_smem_Mem_Free
  simp only [asAddr_some, Nat.zero_add]
  refine ⟨some S.mp, by rw [cell_of hm.base]; rfl, ?_⟩
  refine hm.look a fun r hr => ?_
  have hsz : lenOf (S.find a) = S.size a := by unfold Sm.size lenOf; split <;> rfl
  refine ⟨S.room, by rw [cell_of hm.base]; rfl, ?_⟩
  refine stc_of' hm.base (by simp [Sm.base]) fun H1 e1 => ?_
  have hm1 : IsMem H1 m { S with room := wr (S.room + S.size a) } := by
    subst e1
    have := hm.setBase (S' := { S with room := wr (S.room + S.size a) }) rfl rfl rfl
    rw [hsz]; exact this
  have fr1 : Frm (S.foot m) H H1 := by subst e1; exact (Frm.refl _ _).set _ (by simp [Sm.foot])
  clear e1
  refine ⟨some S.mp, by rw [cell_of hm1.base]; rfl, ?_⟩
  have hfn := findNow_int Reg.h (fun r => Value.slice (some ⟨r.b, 0, none⟩) r.ws.length 0) Reg.born .i64 a S.regs 0
  refine ⟨S.mp, _, _, _, rfl, hm1.map, hfn, ?_⟩
  have nd := hm.nodup
  simp only [Sm.foot, List.nodup_cons, List.mem_cons, List.mem_map, not_or, not_exists, not_and] at nd
  have hnew : IsMem (H1.set S.mp (delMap (S.regs.map Reg.ent) S.cl ((S.regs.findIdx? fun r => r.h == a).map fun j => (0 + j, ((S.regs[j]?).map fun r => Value.slice (some ⟨r.b, 0, none⟩) r.ws.length 0).getD undef)))) m (S.free a).2 := by
    have sub : ∀ r ∈ (S.free a).2.regs, r ∈ S.regs := fun r hr => by
      simp only [Sm.free] at hr
      exact (List.mem_filter.1 hr).1
    have fsub : List.Sublist ((S.free a).2.foot m) (S.foot m) := by
      simp only [Sm.foot, Sm.free]
      exact ((List.filter_sublist (l := S.regs)).map Reg.b).cons_cons _ |>.cons_cons _
    refine ⟨?_, ?_, fun r hr => ?_, hm.nodup.sublist fsub, fun j hj => ?_, hm.keys.sublist ?_⟩
    · rw [get_set_ne (fun e => nd.1.1 e)]; exact hm1.base
    · show Heap.get _ S.mp = _
      rw [get_set_self]
      cases hx : S.regs.findIdx? fun r => r.h == a with
      | none =>
        have e : (S.regs.filter fun r => r.h != a) = S.regs := List.filter_eq_self.2 fun q hq => by
          have := List.findIdx?_eq_none_iff.1 hx q hq
          simpa [bne] using this
        simp [delMap, Sm.free, e]
      | some j =>
        have e := eraseIdx_filter hm.keys hx
        have e3 : (S.regs.map Reg.ent).eraseIdx j = (S.regs.eraseIdx j).map Reg.ent := by exact (eraseIdx_map' _ _ _)
        simp only [Option.map_some, delMap, Sm.free, Nat.zero_add]
        rw [e3, e]
    · rw [get_set_ne (fun e => nd.2.1 r (sub r hr) e)]
      exact hm1.rows r (sub r hr)
    · rw [next_set]
      exact Nat.lt_of_lt_of_le (hm.lt j (fsub.mem hj)) fr1.1
    · simp only [Sm.free]
      exact (List.filter_sublist (l := S.regs)).map Reg.h
  have := hR _ (sepMem h hnew (fr1.set _ (by simp [Sm.foot])) fun j hj => .inl (by
    simp only [Sm.foot, Sm.free, List.mem_cons, List.mem_map, List.mem_filter] at hj ⊢
    rcases hj with h1 | h1 | ⟨r, h1, h2⟩
    · exact .inl h1
    · exact .inr (.inl h1)
    · exact .inr (.inr ⟨r, h1.1, h2⟩)))
  have e : r.isSome = (S.free a).1 := hr
  rw [e]
  exact this
end Go.Proofs.YtjggeoghlicmdaaGreat
namespace Go.AS
open Go.RowKit
set_option linter.unusedVariables false
variable {H H' : Heap} {L M : List Asr}
def addr (b : Option Nat) : Option Addr := b.map fun i => ⟨i, 0, none⟩
def gl (es : Nat) (b : Option Nat) (cs : List Value) : Asr := many (match b with | none => [] | some b => [bx b (.cells true es cs)])
theorem gl_some {es b : Nat} {cs : List Value} : Sep H (gl es (some b) cs :: L) ↔ Sep H (bx b (.cells true es cs) :: L) := Sep.many_iff
theorem gl_none {es : Nat} {cs : List Value} : Sep H (gl es none cs :: L) ↔ Sep H L := Sep.many_iff
theorem takeAt_all' (c : List Value) : takeAt c 0 c.length = some c := by simp [takeAt]
theorem gl_get {es b : Nat} {cs : List Value} (h : Sep H (gl es (some b) cs :: L)) : H.get b = some (.cells true es cs) := Sep.get0 (gl_some.1 h)
theorem apd_gl {es : Nat} {b : Option Nat} {cs new : List Value} {bytes len n : Nat} {K : Option Addr → Nat → Heap → Prop} (h : Sep H (gl es b cs :: L)) (hb : b = none → cs = []) (hes : 0 < es) (hlen : cs.length = len * es) (hn : 0 < n)
    (hnew : new.length = n * es) (hby : (len + n) * bytes ≤ 140737488355328) (k : ∀ H' q, Sep H' (gl es (some q) (cs ++ new) :: L) → K (addr (some q)) (len + n) H') : apd H bytes es (addr b) len n new K := by
  cases b with
  | none =>
    have hc := hb rfl
    subst hc
    have hl : len = 0 := by
      simp only [List.length_nil] at hlen
      rcases Nat.eq_zero_or_pos len with h1 | h1
      · exact h1
      · have : 0 < len * es := Nat.mul_pos h1 hes
        omega
    subst hl
    rw [Nat.zero_add] at hby
    refine apd_first hn hby fun j H2 ej e2 => ?_
    have := k H2 j
    rw [Nat.zero_add, List.nil_append] at this
    refine this (gl_some.2 ?_)
    subst ej e2
    exact (gl_none.1 h).new _
  | some b =>
    have h1 := gl_some.1 h
    refine apd_grow (Sep.get0 h1) hn ?_ (by rw [← hlen]; exact takeAt_all' _) hby fun j H2 ej e2 => ?_
    · rw [hlen, Nat.zero_add, Nat.add_mul]
      have : 0 < n * es := Nat.mul_pos hn hes
      omega
    · refine k H2 j (gl_some.2 ?_)
      have h2 := (Sep.put0 h1 .dead).new (.cells true es (cs ++ new))
      rw [← e2, next_set, ← ej] at h2
      exact Sep.rm1 h2
theorem rowOf_bx {es b n : Nat} {w : Bool} {z : Nat} {c cs : List Value} (hg : H.get b = some (.cells w z c)) (hn : 0 < n * es) (hc : takeAt c 0 (n * es) = some cs) : rowOf H es (some ⟨b, 0, none⟩) n = some cs := by
  show (if n * es = 0 then some [] else match H.get b with | some (.cells _ _ c) => takeAt c 0 (n * es) | _ => none) = some cs
  rw [if_neg (by omega), hg]
  exact hc
end Go.AS
namespace Go.AS
open Go.RowKit
set_option linter.unusedVariables false
variable {H H' : Heap} {L M : List Asr}
abbrev SlArg (H : Heap) (P : List Value → Prop) (v : Value) : Prop :=
  v = .slice Option.none 0 0 ∨ ∃ (i : Nat) (cs : List (List Value)), v = .slice (Option.some ⟨i, 0, Option.none⟩) cs.length 0 ∧ i < H.next ∧ H.get i = Option.some (.cells false 0 cs.flatten) ∧ ∀ c ∈ cs, P c
theorem SlArg.one {P : List Value → Prop} {v : Value} (h : [v] = [.slice Option.none 0 0] ∨ ∃ (i : Nat) (cs : List (List Value)), [v] = [.slice (Option.some ⟨i, 0, Option.none⟩) cs.length 0] ∧ i < H.next ∧ H.get i = Option.some (.cells false 0 cs.flatten) ∧ ∀ c ∈ cs, P c) : SlArg H P v := by
  rcases h with h | ⟨i, cs, h, r⟩
  · exact .inl (List.cons.inj h).1
  · exact .inr ⟨i, cs, (List.cons.inj h).1, r⟩
theorem Arg.more {P : List Value → Prop} {v : Value} (h : SlArg H P v) (hM : Sep H M) (hf : ∀ A ∈ M, ∃ i c, A = bx i (.cells false 0 c)) :
    ∃ a n css M1 M', v = .slice a n 0 ∧ Arg a n css M1 ∧ (∀ A ∈ M1, A ∈ M') ∧ (∀ A ∈ M, A ∈ M') ∧ Sep H M' ∧ (∀ A ∈ M', ∃ i c, A = bx i (.cells false 0 c)) ∧ (∀ c ∈ css, P c) := by
  rcases h with rfl | ⟨i, cs, rfl, hi, hg, hc⟩
  · exact ⟨_, _, [], [], M, rfl, .none, by simp, fun A h => h, hM, hf, by simp⟩
  · by_cases hm : i ∈ feet M
    · obtain ⟨A, hA, hiA⟩ := List.mem_flatMap.1 hm
      obtain ⟨j, c, rfl⟩ := hf A hA
      simp only [bx, List.mem_singleton] at hiA
      subst hiA
      have := hM.all _ hA
      have e : H.get i = Option.some (.cells false 0 c) := this
      rw [hg] at e
      have e2 : cs.flatten = c := by cases e; rfl
      subst e2
      exact ⟨_, _, cs, _, M, rfl, .some i cs, by simpa using hA, fun A h => h, hM, hf, hc⟩
    · refine ⟨_, _, cs, _, bx i (.cells false 0 cs.flatten) :: M, rfl, .some i cs, by simp, fun A h => List.mem_cons_of_mem _ h, ⟨?_, ?_, ?_⟩, ?_, hc⟩
      · intro A hA
        rcases List.mem_cons.1 hA with rfl | hA
        · exact hg
        · exact hM.all A hA
      · rw [feet_cons]
        refine List.nodup_append.2 ⟨by simp [bx], hM.nd, fun a ha b hb e => ?_⟩
        simp only [bx, List.mem_singleton] at ha
        exact hm (ha ▸ e ▸ hb)
      · intro j hj
        rw [feet_cons] at hj
        rcases List.mem_append.1 hj with h1 | h1
        · simp only [bx, List.mem_singleton] at h1; rw [h1]; exact hi
        · exact hM.lt j h1
      · intro A hA
        rcases List.mem_cons.1 hA with rfl | hA
        · exact ⟨_, _, rfl⟩
        · exact hf A hA
theorem numbers_of : ∀ (css : List (List Value)), (∀ c ∈ css, ∃ n : Int, c = [.int .i64 n] ∧ (Lit.int .i64 n).wf = true) → ∃ l : List Int, css = l.map fun v => [.int .i64 v]
  | [], _ => ⟨[], rfl⟩
  | c :: css, h => by
    obtain ⟨n, rfl, hn⟩ := h c (by simp)
    obtain ⟨l, rfl⟩ := numbers_of css fun c hc => h c (List.mem_cons_of_mem _ hc)
    exact ⟨n :: l, rfl⟩
theorem Sep.fore {i : Nat} (o : Obj) (h : Sep H L) (hi : i < H.next) (hn : i ∉ feet L) : Sep (H.set i o) (bx i o :: L) := by
  refine ⟨fun A hA => ?_, ?_, fun j hj => ?_⟩
  · rcases List.mem_cons.1 hA with rfl | hA
    · exact get_set_self _ _ _
    · refine A.loc (fun j hj => ?_) (h.all A hA)
      have : j ∈ feet L := List.mem_flatMap.2 ⟨A, hA, hj⟩
      exact get_set_ne fun e => hn (e ▸ this)
  · rw [feet_cons]
    refine List.nodup_append.2 ⟨by simp [bx], h.nd, fun a ha b hb e => ?_⟩
    simp only [bx, List.mem_singleton] at ha
    exact hn (ha ▸ e ▸ hb)
  · rw [feet_cons] at hj
    rcases List.mem_append.1 hj with h1 | h1
    · simp only [bx, List.mem_singleton] at h1
      rw [h1]; exact hi
    · exact h.lt j h1
theorem Sep.fore1 (h : Sep H L) {n a : Nat} (o1 : Obj) (ha : a < n) : Sep ((H.bump n).set (H.next + a) o1) (bx (H.next + a) o1 :: L) :=
  Sep.fore o1 (h.bump n) (by rw [next_bump]; omega) fun hc => by have := h.lt _ hc; omega
end Go.AS
namespace Go.AS
open Go.RowKit
set_option linter.unusedVariables false
variable {H H' : Heap} {L M : List Asr} {ik : IntKind} {b : Nat} {l : List (Int × Value)} {k : Int} {v : Value}
abbrev KV := List (Int × Value)
def alook : KV → Int → Option Value
  | [], _ => Option.none
  | (a, u) :: l, k => if a = k then Option.some u else alook l k
def aput : KV → Int → Value → KV
  | [], k, v => [(k, v)]
  | (a, u) :: l, k, v => if a = k then (k, v) :: l else (a, u) :: aput l k v
def adel : KV → Int → KV
  | [], _ => []
  | (a, u) :: l, k => if a = k then l else (a, u) :: adel l k
def kvs (es : List MapEntry) : List (Value × Value) := es.map fun e => (e.key, e.val)
def ivs (ik : IntKind) (l : KV) : List (Value × Value) := l.map fun p => (.int ik p.1, p.2)
def im (ik : IntKind) (b : Nat) (l : KV) : Asr :=
  ⟨[b], fun H => ∃ es c, H.get b = Option.some (.map es c) ∧ kvs es = ivs ik l, fun h ⟨es, c, h1, h2⟩ => ⟨es, c, by rw [h _ (by simp)]; exact h1, h2⟩⟩
theorem find_kv (v : Value) : ∀ (es : List MapEntry) (l : KV) (i : Nat), kvs es = ivs ik l →
    ∃ r, Instr.findNow (.int ik) (.int ik k) es i = Option.some r ∧ (match r with
      | Option.none => alook l k = Option.none ∧ aput l k v = l ++ [(k, v)] ∧ adel l k = l
      | Option.some (n, u) => alook l k = Option.some u ∧ ∃ j, n = i + j ∧ kvs (es.modify j fun e => { e with key := .int ik k, val := v }) = ivs ik (aput l k v) ∧ kvs (es.eraseIdx j) = ivs ik (adel l k))
  | [], [], i, _ => ⟨Option.none, by simp [Instr.findNow], rfl, rfl, rfl⟩
  | [], _ :: _, i, h => by simp [kvs, ivs] at h
  | _ :: _, [], i, h => by simp [kvs, ivs] at h
  | e :: es, (a, u) :: l, i, h => by
    simp only [kvs, ivs, List.map_cons, List.cons.injEq, Prod.mk.injEq] at h
    obtain ⟨⟨h1, h2⟩, h3⟩ := h
    have es' : Instr.sameNow (.int ik) (.int ik k) e.key = Option.some (k == a) := by rw [h1]; simp [Instr.sameNow]
    simp only [Instr.findNow, es']
    by_cases hk : k = a
    · subst hk
      refine ⟨Option.some (i, e.val), by simp, ?_, 0, rfl, ?_, ?_⟩
      · simp [alook, h2]
      · simp only [List.modify_zero_cons, kvs, List.map_cons, aput, if_true, ivs, List.cons.injEq, true_and]; exact h3
      · simp only [List.eraseIdx_cons_zero, adel, if_true]; exact h3
    · have hb : (k == a) = false := by simpa using hk
      have ha : ¬ a = k := fun h => hk h.symm
      rw [hb]
      obtain ⟨r, r1, r2⟩ := find_kv v es l (i + 1) h3
      refine ⟨r, r1, ?_⟩
      cases r with
      | none =>
        obtain ⟨e1, e2, e3⟩ := r2
        simp only [alook, aput, adel, if_neg ha]
        exact ⟨e1, by rw [e2]; rfl, by rw [e3]⟩
      | some p =>
        obtain ⟨n, w⟩ := p
        obtain ⟨e1, j, e2, e3, e4⟩ := r2
        simp only [alook, aput, adel, if_neg ha]
        refine ⟨e1, j + 1, by omega, ?_, ?_⟩
        · simp only [List.modify_succ_cons, kvs, ivs, List.map_cons, List.cons.injEq, Prod.mk.injEq]
          exact ⟨⟨h1, h2⟩, e3⟩
        · simp only [List.eraseIdx_cons_succ, kvs, ivs, List.map_cons, List.cons.injEq, Prod.mk.injEq]
          exact ⟨⟨h1, h2⟩, e4⟩
theorem im_look (h : Sep H (im ik b l :: L)) (k : Int) {K : Option (Nat × Value) → Prop} (hK : ∀ r, r.map (·.2) = alook l k → K r) : ∃ r, mapGet H (.int ik) (Option.some b) (.int ik k) = Option.some r ∧ K r := by
  obtain ⟨es, c, h1, h2⟩ := h.head
  obtain ⟨r, r1, r2⟩ := find_kv (k := k) (.nilFunc) es l 0 h2
  refine ⟨r, ?_, hK r ?_⟩
  · simp only [mapGet, entriesOf, h1, Option.bind_some]
    exact r1
  · cases r with
    | none => exact r2.1.symm
    | some p => exact r2.1.symm
theorem im_set (h : Sep H (im ik b l :: L)) {l' : KV} {es : List MapEntry} {c : Nat} (he : kvs es = ivs ik l') : Sep (H.set b (.map es c)) (im ik b l' :: L) :=
  h.upd (S := [b]) ((Frm.refl _ _).set _ (by simp)) (by simp [im]) ⟨es, c, get_set_self _ _ _, he⟩ (by simp [im]) (by simp [im]) (by
    intro j hj
    simp only [im, List.mem_singleton] at hj
    subst hj
    exact h.footlt (by simp [im]))
theorem im_put (h : Sep H (im ik b l :: L)) {k : Int} {v : Value} {K : Heap → Prop} (hK : ∀ H', Sep H' (im ik b (aput l k v) :: L) → K H') : upM H (.int ik) (Option.some b) (.int ik k) v K := by
  obtain ⟨es, c, h1, h2⟩ := h.head
  obtain ⟨r, r1, r2⟩ := find_kv (k := k) v es l 0 h2
  refine ⟨b, es, c, r, rfl, h1, r1, hK _ ?_⟩
  cases r with
  | none =>
    refine im_set h ?_
    rw [r2.2.1]
    simp only [kvs, ivs, List.map_append, List.map_cons, List.map_nil]
    rw [show es.map (fun e => (e.key, e.val)) = l.map fun p => (Value.int ik p.1, p.2) from h2]
  | some p =>
    obtain ⟨n, u⟩ := p
    obtain ⟨_, j, rfl, e3, _⟩ := r2
    refine im_set h ?_
    rw [Nat.zero_add]
    exact e3
theorem im_len (h : Sep H (im ik b l :: L)) {K : Int → Prop} (hK : K l.length) : lnM H (Option.some b) K := by
  obtain ⟨es, c, h1, h2⟩ := h.head
  refine ⟨es, by simp only [entriesOf, h1], ?_⟩
  have := congrArg List.length h2
  simp only [kvs, ivs, List.length_map] at this
  rw [this]
  exact hK
theorem im_new (h : Sep H L) {K : Nat → Heap → Prop} (hK : ∀ b H', Sep H' (im ik b [] :: L) → K b H') : nwH H (.map [] 0) K := by
  refine Sep.nw h fun b H' h' => hK b H' ?_
  have h1 : H'.get b = Option.some (.map [] 0) := Sep.get0 h'
  exact h'.upd (S := []) (Frm.refl _ _) (by simp) ⟨[], 0, h1, rfl⟩ (by simp [im, bx]) (by simp [im]) (by
    intro j hj
    simp only [im, List.mem_singleton] at hj
    subst hj
    exact h'.footlt (by simp [bx]))
end Go.AS
namespace Go.AS
open Go.RowKit
set_option linter.unusedVariables false
variable {H H' : Heap} {L M : List Asr}
theorem range_pick (l : List Asr) : ∀ n, (List.range n).filterMap (fun i => l[i]?) = l.take n
  | 0 => by simp
  | n + 1 => by
    rw [List.range_succ, List.filterMap_append, range_pick l n, List.take_add_one]
    cases h : l[n]? <;> simp [h]
theorem Sep.sub {l l' : List Asr} (hs : l'.Sublist l) : ∀ pre, Sep H (pre ++ l) → Sep H (pre ++ l') := by
  induction hs with
  | slnil => exact fun pre h => h
  | cons a _ ih => exact fun pre h => ih pre (Sep.tail (h.perm List.perm_middle))
  | cons_cons a _ ih =>
    intro pre h
    have := ih (pre ++ [a]) (by simpa using h)
    simpa using this
theorem Sep.pick {l : List Asr} (h : Sep H l) (n : Nat) (p : List Nat) (hp : (p ++ (List.range n).filter fun i => !p.contains i).isPerm (List.range n) = true) : Sep H (p.filterMap (fun i => l[i]?) ++ l.drop n) := by
  have h1 := (List.isPerm_iff.1 hp).filterMap (fun i => l[i]?)
  rw [range_pick, List.filterMap_append] at h1
  have h2 : Sep H ((p.filterMap (fun i => l[i]?) ++ (((List.range n).filter fun i => !p.contains i).filterMap fun i => l[i]?)) ++ l.drop n) := by
    refine Sep.perm ?_ (h1.symm.append_right _)
    rw [List.take_append_drop]; exact h
  rw [List.append_assoc] at h2
  exact Sep.sub (List.sublist_append_right _ _) _ h2
theorem setAt_take' : ∀ (new tc : List Value) (len : Nat), len + new.length ≤ tc.length → (setAt tc len new).take (len + new.length) = tc.take len ++ new
  | [], tc, len, _ => by simp [setAt]
  | y :: new, tc, len, h => by
    simp only [List.length_cons] at h
    have := setAt_take' new (tc.set len y) (len + 1) (by simp; omega)
    simp only [setAt, List.length_cons]
    rw [show len + (new.length + 1) = len + 1 + new.length by omega, this, List.take_add_one, List.getElem?_set_self (by omega), List.take_set_of_le (by omega)]
    simp
theorem setAt_drop' : ∀ (new tc : List Value) (len p : Nat), len + new.length ≤ p → (setAt tc len new).drop p = tc.drop p
  | [], tc, len, p, _ => by simp [setAt]
  | y :: new, tc, len, p, h => by
    simp only [List.length_cons] at h
    simp only [setAt]
    rw [setAt_drop' new _ (len + 1) p (by omega), List.drop_set_of_lt (by omega)]
theorem setAt_take0 : ∀ (new tc : List Value) (len p : Nat), p ≤ len → (setAt tc len new).take p = tc.take p
  | [], tc, len, p, _ => by simp [setAt]
  | y :: new, tc, len, p, h => by
    simp only [setAt]
    rw [setAt_take0 new _ (len + 1) p (by omega), List.take_set_of_le (by omega)]
theorem apd_pre' {b : Option Nat} {es len n bytes : Nat} {tc new : List Value} {K : Option Addr → Nat → Heap → Prop} (h : Sep H (gl es b tc :: L)) (hb : b = none → len = 0) (hes : 0 < es) (hlen : len * es ≤ tc.length) (hn : 0 < n) (hnew : new.length = n * es) (hby : (len + n) * bytes ≤ 140737488355328)
    (k : ∀ H' b' tc', tc'.take ((len + n) * es) = tc.take (len * es) ++ new → (len + n) * es ≤ tc'.length → Sep H' (gl es (some b') tc' :: L) → K (some ⟨b', 0, none⟩) (len + n) H') : apd H bytes es (addr b) len n new K := by
  have hmul : (len + n) * es = len * es + n * es := Nat.add_mul _ _ _
  cases b with
  | none =>
    have h0 := hb rfl
    subst h0
    rw [Nat.zero_add] at hby
    refine apd_first hn hby fun j H2 ej e2 => ?_
    have := k H2 j new (by rw [Nat.zero_mul, List.take_zero, List.nil_append, hmul, Nat.zero_mul, Nat.zero_add, ← hnew, List.take_length]) (by rw [hmul, hnew]; omega)
    rw [Nat.zero_add] at this
    refine this (gl_some.2 ?_)
    subst ej e2
    exact (gl_none.1 h).new _
  | some b =>
    have h1 := gl_some.1 h
    rcases Nat.lt_or_ge tc.length (0 + (len + n) * es) with hc | hc
    · refine apd_grow (old := tc.take (len * es)) (Sep.get0 h1) hn hc ?_ hby fun j H' ej eH => k H' j (tc.take (len * es) ++ new) ?_ ?_ (gl_some.2 ?_)
      · unfold takeAt; rw [if_pos (by omega), List.drop_zero]
      · rw [List.take_of_length_le (by rw [List.length_append, List.length_take, hnew, hmul]; omega)]
      · rw [List.length_append, List.length_take, hnew, hmul]; omega
      · have h2 := (Sep.put0 h1 .dead).new (.cells true es (tc.take (len * es) ++ new))
        rw [← eH, next_set, ← ej] at h2
        exact Sep.rm1 h2
    · refine .inr ⟨hn, .inr ⟨b, 0, tc, rfl, Sep.get0 h1, .inl ⟨hc, ?_⟩⟩⟩
      have hst : stc H b (0 + len * es) new (fun H' => K (some ⟨b, 0, none⟩) (len + n) H') := by
        refine Sep.st0 h1 (by rw [hnew]; omega) fun H' h' => k H' b _ ?_ ?_ (gl_some.2 h')
        · rw [hmul, ← hnew, Nat.zero_add]
          exact setAt_take' _ _ _ (by omega)
        · rw [setAt_length]; omega
      exact stc_ok hst
end Go.AS
namespace Go.Proofs.YtjggeoghlicmdaaGreat
open Go Go.AS Go.RowKit
set_option linter.unusedVariables false
set_option maxRecDepth 100000
set_option maxHeartbeats 2000000
theorem vc_grace_Grace_Enter (x0 : Option Addr) (x1 : Int) (H : Heap) (R : Value → Heap → Prop) :
    (
 bif (decide (x1 < 0)) then (
 R (.bool false) H)
 else (
 AS.asAddr (.pointer x0) fun i1 i2 =>
 ∃ n3, H.cell i1 (i2 + 1) = some (.int .i64 n3) ∧
 bif (decide (x1 ≥ n3)) then (
 R (.bool false) H)
 else (
 AS.asAddr (.pointer x0) fun i4 i5 =>
 ∃ m6, H.cell i4 (i5 + 2) = some (.map m6) ∧
 ∃ r7, AS.mapGet H (.int .i64) m6 (.int .i64 x1) = some r7 ∧
 ∃ b8, got r7 (.bool false) (.bool b8) ∧
 bif b8 then (
 R (.bool false) H)
 else (
 AS.asAddr (.pointer x0) fun i9 i10 =>
 ∃ m11, H.cell i9 (i10 + 2) = some (.map m11) ∧
 upM H (.int .i64) m11 (.int .i64 x1) (.bool true) fun H12 =>
 R (.bool true) H12)))) →
    CA en F.grace_Grace_Enter [(.pointer x0), (.int .i64 x1)] H R := by
  intro h
  refine wpFn_ok (Z := []) (fn := Go.Proofs.Tryz.f21) ?_ ?_ ?_
  · kernel_rfl
  · kernel_rfl
  · apply turnInto h
    kernel_rfl
theorem vc_grace_New (x0 : Int) (x1 : Option Addr) (H : Heap) (R : Value → Heap → Prop) :
    (
 nwH H (.map [] 0) fun i1 H2 =>
 nwH H2 (.cells true 0 [(.pointer x1), (.int .i64 x0), (.map (some i1)), (.slice none 0 0)]) fun i3 H4 =>
 R (.pointer (some ⟨i3, 0, none⟩)) H4) →
    CA en F.grace_New [(.int .i64 x0), (.pointer x1)] H R := by
  intro h
  refine wpFn_ok (Z := []) (fn := Go.Proofs.Tryz.f63) ?_ ?_ ?_
  · kernel_rfl
  · kernel_rfl
  · apply turnInto h
    kernel_rfl
theorem vc_grace_Grace_sweep (x0 : Option Addr) (H : Heap) (R : Value → Heap → Prop) :
    (
 nwH H (.cells true 0 [(.pointer x0)]) fun i1 H2 =>
 nwH H2 (.cells true 0 [(.slice none 0 0)]) fun i3 H4 =>
 ∃ a5, (H4.bump 10).cell i1 0 = some (.pointer a5) ∧
 ∃ a6, (H4.bump 10).cell i1 0 = some (.pointer a6) ∧
 AS.asAddr (.pointer a6) fun i7 i8 =>
 ∃ a9 i10, (H4.bump 10).cell i7 (i8 + 3) = some (.slice a9 i10 0) ∧
 CA en F.slices_DeleteFunc_grace_wait_grace_wait [(.slice a9 i10 0), (.func (.func F.grace_Grace_sweep_1) #[] #[(.pointer (some ⟨i1, 0, none⟩)), (.pointer (some ⟨i3, 0, none⟩))])] (H4.bump 10) fun v11 H12 =>
 ∃ a13 i14, v11 = (.slice a13 i14 0) ∧
 AS.asAddr (.pointer a5) fun i15 i16 =>
 stc H12 i15 (i16 + 3) [(.slice a13 i14 0)] fun H17 =>
 (
 ∃ a20 i21, H17.cell i3 0 = some (.slice a20 i21 0) ∧
 stc H17 i3 0 [(.slice a20 i21 0)] fun H22 =>
 ∃ a23 i24, H22.cell i3 0 = some (.slice a23 i24 0) ∧
 R (.slice a23 i24 0) H22) ∧
 ((∃ a19, (H4.bump 10).cell i1 0 = some (.pointer a19) ∧
 a5 = a19) ∧ (∃ a18, H12.cell i1 0 = some (.pointer a18) ∧
 a5 = a18) ∧ True) ∧
 True) →
    CA en F.grace_Grace_sweep [(.pointer x0)] H R := by
  intro h
  refine wpFn_ok (Z := []) (fn := Go.Proofs.Tryz.f67) ?_ ?_ ?_
  · kernel_rfl
  · kernel_rfl
  · apply turnInto h
    kernel_rfl
theorem vc_grace_Grace_sweep_1 (x0_0 : Int) (x0_1 : Option Nat) (c0 : Option Addr) (c1 : Option Addr) (H : Heap) (R : Value → Heap → Prop) :
    (
 nwH H (.cells true 0 [(.int .i64 x0_0), (.map x0_1)]) fun i1 H2 =>
 ∃ m3, H2.cell i1 1 = some (.map m3) ∧
 lnM H2 m3 fun n4 =>
 bif (decide (n4 > 0)) then (
 R (.bool false) H2)
 else (
 AS.asAddr (.pointer c0) fun i5 i6 =>
 ∃ a7, (H2.bump 7).cell i5 i6 = some (.pointer a7) ∧
 AS.asAddr (.pointer a7) fun i8 i9 =>
 ∃ a10, (H2.bump 7).cell i8 i9 = some (.pointer a10) ∧
 ∃ n11, (H2.bump 7).cell i1 0 = some (.int .i64 n11) ∧
 CA en F.smem_Mem_Free [(.pointer a10), (.int .i64 n11)] (H2.bump 7) fun v12 H13 =>
 ∃ b14, v12 = (.bool b14) ∧
 (
 AS.asAddr (.pointer c1) fun i15 i16 =>
 ∃ a17 i18, H13.cell i15 i16 = some (.slice a17 i18 0) ∧
 ∃ n19, H13.cell i1 0 = some (.int .i64 n19) ∧
 nwH H13 (.cells true 1 [(.int .i64 n19)]) fun i20 H21 =>
 ∃ l22, rowOf H21 1 (some ⟨i20, 0, none⟩) 1 = some l22 ∧
 apd H21 8 1 a17 i18 1 l22 fun a23 i24 H25 =>
 AS.asAddr (.pointer c1) fun i26 i27 =>
 stc H25 i26 i27 [(.slice a23 i24 0)] fun H28 =>
 R (.bool true) H28) ∧
 True)) →
    CA en F.grace_Grace_sweep_1 [(.agg #[(.int .i64 x0_0), (.map x0_1)]), (.pointer c0), (.pointer c1)] H R := by
  intro h
  refine wpFn_ok (Z := []) (fn := Go.Proofs.Tryz.f117) ?_ ?_ ?_
  · kernel_rfl
  · kernel_rfl
  · apply turnInto h
    kernel_rfl
theorem vc_grace_Grace_Defer (x0 : Option Addr) (x1 : Int) (H : Heap) (R : Value → Heap → Prop) :
    (
 nwH H (.cells true 0 [(.int .i64 x1)]) fun i1 H2 =>
 AS.asAddr (.pointer x0) fun i3 i4 =>
 ∃ a5, (H2.bump 15).cell i3 i4 = some (.pointer a5) ∧
 ∃ n6, (H2.bump 15).cell i1 0 = some (.int .i64 n6) ∧
 CA en F.smem_Mem_Size [(.pointer a5), (.int .i64 n6)] (H2.bump 15) fun v7 H8 =>
 ∃ n9, v7 = (.int .i64 n9) ∧
 bif (n9 == 0) then (
 (
 R (.slice none 0 0) H8) ∧
 True)
 else (
 AS.asAddr (.pointer x0) fun i10 i11 =>
 ∃ a12 i13, H8.cell i10 (i11 + 3) = some (.slice a12 i13 0) ∧
 CA en F.slices_ContainsFunc_grace_wait_grace_wait [(.slice a12 i13 0), (.func (.func F.grace_Grace_Defer_1) #[] #[(.pointer (some ⟨i1, 0, none⟩))])] H8 fun v14 H15 =>
 ∃ b16, v14 = (.bool b16) ∧
 (
 bif b16 then (
 R (.slice none 0 0) H15)
 else (
 AS.asAddr (.pointer x0) fun i17 i18 =>
 ∃ a19 i20, (H15.bump 17).cell i17 (i18 + 3) = some (.slice a19 i20 0) ∧
 ∃ n21, (H15.bump 17).cell i1 0 = some (.int .i64 n21) ∧
 AS.asAddr (.pointer x0) fun i22 i23 =>
 ∃ m24, (H15.bump 17).cell i22 (i23 + 2) = some (.map m24) ∧
 CA en F.maps_Clone_map_intbool_int_bool [(.map m24)] (H15.bump 17) fun v25 H26 =>
 ∃ m27, v25 = (.map m27) ∧
 nwH H26 (.cells true 2 [(.int .i64 n21), (.map m27)]) fun i28 H29 =>
 ∃ l30, rowOf H29 2 (some ⟨i28, 0, none⟩) 1 = some l30 ∧
 apd H29 16 2 a19 i20 1 l30 fun a31 i32 H33 =>
 AS.asAddr (.pointer x0) fun i34 i35 =>
 stc H33 i34 (i35 + 3) [(.slice a31 i32 0)] fun H36 =>
 (
 CA en F.grace_Grace_sweep [(.pointer x0)] H36 fun v45 H46 =>
 ∃ a47 i48, v45 = (.slice a47 i48 0) ∧
 R (.slice a47 i48 0) H46) ∧
 ((∃ n38, (H15.bump 17).cell i1 0 = some (.int .i64 n38) ∧
 n21 = n38) ∧ (∃ n37, H26.cell i1 0 = some (.int .i64 n37) ∧
 n21 = n37) ∧ True) ∧
 ((∃ a43 i44, (H15.bump 17).cell i17 (i18 + 3) = some (.slice a43 i44 0) ∧
 (a19 = a43 ∧ i20 = i44 ∧ 0 = 0)) ∧ (∃ a41 i42, H26.cell i17 (i18 + 3) = some (.slice a41 i42 0) ∧
 (a19 = a41 ∧ i20 = i42 ∧ 0 = 0)) ∧ (∃ a39 i40, H29.cell i17 (i18 + 3) = some (.slice a39 i40 0) ∧
 (a19 = a39 ∧ i20 = i40 ∧ 0 = 0)) ∧ True) ∧
 True)) ∧
 True)) →
    CA en F.grace_Grace_Defer [(.pointer x0), (.int .i64 x1)] H R := by
  intro h
  refine wpFn_ok (Z := []) (fn := Go.Proofs.Tryz.f221) ?_ ?_ ?_
  · kernel_rfl
  · kernel_rfl
  · apply turnInto h
    kernel_rfl
theorem vc_grace_Grace_Defer_1 (x0_0 : Int) (x0_1 : Option Nat) (c0 : Option Addr) (H : Heap) (R : Value → Heap → Prop) :
    (
 nwH H (.cells true 0 [(.int .i64 x0_0), (.map x0_1)]) fun i1 H2 =>
 ∃ n3, H2.cell i1 0 = some (.int .i64 n3) ∧
 AS.asAddr (.pointer c0) fun i4 i5 =>
 ∃ n6, H2.cell i4 i5 = some (.int .i64 n6) ∧
 R (.bool (n3 == n6)) H2) →
    CA en F.grace_Grace_Defer_1 [(.agg #[(.int .i64 x0_0), (.map x0_1)]), (.pointer c0)] H R := by
  intro h
  refine wpFn_ok (Z := []) (fn := Go.Proofs.Tryz.f277) ?_ ?_ ?_
  · kernel_rfl
  · kernel_rfl
  · apply turnInto h
    kernel_rfl
noncomputable def L_slices_DeleteFunc_grace_wait_grace_wait_0 : Code := loopAt Go.Proofs.Tryz.f116 0
theorem vc_slices_DeleteFunc_grace_wait_grace_wait (x0 : Option Addr) (x0l : Nat) (x1 : Value) (H : Heap) (R : Value → Heap → Prop) :
    (
 CA en F.slices_IndexFunc_grace_wait_grace_wait [(.slice x0 x0l 0), x1] H fun v1 H2 =>
 ∃ n3, v1 = (.int .i64 n3) ∧
 bif (n3 == (-1)) then (
 R (.slice x0 x0l 0) H2)
 else (
 LA en L_slices_DeleteFunc_grace_wait_grace_wait_0 [(.slice x0 x0l 0), x1, undef, undef, (.slice none 0 0), (.int .i64 n3), (.int .i64 (IntKind.i64.wrap (n3 + 1))), undef, (.slice x0 x0l 0), x1, (.int .i64 n3), (.int .i64 n3), (.bool false), undef, (.int .i64 n3), (.int .i64 (IntKind.i64.wrap (n3 + 1))), undef, undef, undef, undef, undef, undef, undef, undef, undef, undef, undef, undef, undef, undef, undef, undef, undef, undef, undef, undef, undef, undef, undef, undef, undef, undef] H2 [(X.exit 0, fun (y4 : Fr) (H5 : Heap) =>
 AS.asInt .i64 (y4.getD 5 undef) fun n6 =>
 inS n6 x0l ∧
 slK H5 x0 2 n6.toNat (x0l - n6.toNat) fun v7 =>
 asSome (clearA en H5 123 v7) fun H8 =>
 inS n6 x0l ∧
 slK H8 x0 2 0 n6.toNat fun v9 =>
 R v9 H8)])) →
    CA en F.slices_DeleteFunc_grace_wait_grace_wait [(.slice x0 x0l 0), x1] H R := by
  intro h
  refine wpFn_ok (Z := [[(5, (.int .i64 0))]]) (fn := Go.Proofs.Tryz.f116) ?_ ?_ ?_
  · kernel_rfl
  · kernel_rfl
  · apply turnInto h
    kernel_rfl
theorem use_slices_DeleteFunc_grace_wait_grace_wait_0 {t0 : Option Addr} {t0l : Nat} {t1 : Value} {t8 : Option Addr} {t8l : Nat} {t9 : Value} {t10 : Int} {t11 : Int} {t14 : Int} {t15 : Int} {K0 : Fr → Heap → Prop} {t5 : Int} {t6 : Int} {t7 : Value} {t16 : Value} {t17 : Value} {t18 : Value} {t19 : Value} {t20 : Value} {t21 : Value} {t22 : Value} {t23 : Value} {t24 : Value} {t25 : Value} {t26 : Value} {t27 : Value} {t28 : Value} {t29 : Value} {t30 : Value} {t31 : Value} {t32 : Value} {t33 : Value} {t34 : Value} {t35 : Value} {H : Heap} (I : Nat → Int → Int → Heap → Prop) (n : Nat) (h0 : I n t5 t6 H)
    (hstep : ∀ (n : Nat) (t5 : Int) (t6 : Int) (ys : Fr) (H : Heap), I n t5 t6 H →
    (
 bif (decide (t6 < ((t0l : Nat) : Int))) then (
 inB t6 t0l ∧
 asRow t0 fun i1 i2 =>
 ∃ n3, ∃ m4, H.cellsAt i1 (i2 + (t6.toNat * 2)) 2 = some [(.int .i64 n3), (.map m4)] ∧
 nwH H (.cells true 0 [(.int .i64 0), (.map none)]) fun i5 H6 =>
 stc H6 i5 0 [(.int .i64 n3), (.map m4)] fun H7 =>
 ∃ n8, ∃ m9, H7.cellsAt i5 0 2 = some [(.int .i64 n8), (.map m9)] ∧
 AS.asFn t1 fun f10 l11 l12 =>
 (∃ fn, en.fn f10 = some fn) ∧
 CA en f10 (l11 ++ [(.agg #[(.int .i64 n8), (.map m9)])] ++ l12) H7 fun v13 H14 =>
 ∃ b15, v13 = (.bool b15) ∧
 bif (!b15) then (
 ∃ n16, ∃ m17, H14.cellsAt i5 0 2 = some [(.int .i64 n16), (.map m17)] ∧
 inB t5 t0l ∧
 asRow t0 fun i18 i19 =>
 stc H14 i18 (i19 + (t5.toNat * 2)) [(.int .i64 n16), (.map m17)] fun H20 =>
 ∃ k21, k21 < n ∧
 I k21 (IntKind.i64.wrap (t5 + 1)) (IntKind.i64.wrap (t6 + 1)) H20)
 else (
 ∃ k22, k22 < n ∧
 I k22 t5 (IntKind.i64.wrap (t6 + 1)) H14))
 else (
 K0 [(.slice t0 t0l 0), t1, undef, undef, (.slice none 0 0), (.int .i64 t5), (.int .i64 t6), (ys.getD 7 undef), (.slice t8 t8l 0), t9, (.int .i64 t10), (.int .i64 t11), (.bool false), undef, (.int .i64 t14), (.int .i64 t15), (.int .i64 t6), (.slice t0 t0l 0), (.int .i64 ((t0l : Nat) : Int)), (.bool false), (ys.getD 20 undef), (ys.getD 21 undef), (ys.getD 22 undef), (ys.getD 23 undef), (ys.getD 24 undef), (ys.getD 25 undef), (ys.getD 26 undef), (ys.getD 27 undef), (ys.getD 28 undef), (ys.getD 29 undef), (ys.getD 30 undef), (ys.getD 31 undef), (ys.getD 32 undef), (ys.getD 33 undef), (ys.getD 34 undef), (ys.getD 35 undef), undef, undef, undef, undef, undef, undef] H))) :
    LA en L_slices_DeleteFunc_grace_wait_grace_wait_0 [(.slice t0 t0l 0), t1, undef, undef, (.slice none 0 0), (.int .i64 t5), (.int .i64 t6), t7, (.slice t8 t8l 0), t9, (.int .i64 t10), (.int .i64 t11), (.bool false), undef, (.int .i64 t14), (.int .i64 t15), t16, t17, t18, t19, t20, t21, t22, t23, t24, t25, t26, t27, t28, t29, t30, t31, t32, t33, t34, t35, undef, undef, undef, undef, undef, undef] H [(X.exit 0, K0)] := by
  refine LA_rule (Z := []) (fun m xs H' => AS.asInt .i64 (xs.getD 5 undef) fun t5 => AS.asInt .i64 (xs.getD 6 undef) fun t6 => I m t5 t6 H') ?_ n H ?_
  · intro n H
    suffices hs : ∀ s16 : Value, ∀ s17 : Value, ∀ s18 : Value, ∀ s19 : Value, ∀ s22 : Value, ∀ s23 : Value, ∀ s24 : Value, ∀ s25 : Value, ∀ s7 : Value, ∀ s26 : Value, ∀ s27 : Value, ∀ s28 : Value, ∀ s29 : Value, ∀ s30 : Value, ∀ s31 : Value, ∀ s32 : Value, ∀ s33 : Value, ∀ s34 : Value, ∀ s35 : Value, ∀ s5 : Value, ∀ s20 : Value, ∀ s21 : Value, ∀ s6 : Value, ((AS.asInt .i64 s5 fun t5 => AS.asInt .i64 s6 fun t6 => I n t5 t6 H) → wpCode en L_slices_DeleteFunc_grace_wait_grace_wait_0 [] [(.slice t0 t0l 0), t1, undef, undef, (.slice none 0 0), s5, s6, s7, (.slice t8 t8l 0), t9, (.int .i64 t10), (.int .i64 t11), (.bool false), undef, (.int .i64 t14), (.int .i64 t15), s16, s17, s18, s19, s20, s21, s22, s23, s24, s25, s26, s27, s28, s29, s30, s31, s32, s33, s34, s35, undef, undef, undef, undef, undef, undef] H (loopQ (fun m xs H' => AS.asInt .i64 (xs.getD 5 undef) fun t5 => AS.asInt .i64 (xs.getD 6 undef) fun t6 => I m t5 t6 H') n [(X.exit 0, K0)])) by
      apply turnInto hs
      kernel_rfl
    intro s16 s17 s18 s19 s22 s23 s24 s25 s7 s26 s27 s28 s29 s30 s31 s32 s33 s34 s35 s5 s20 s21 s6 hP
    replace hP := asInt_elim hP
    obtain ⟨t5, rfl, hP⟩ := hP
    replace hP := asInt_elim hP
    obtain ⟨t6, rfl, hP⟩ := hP
    apply turnInto (hstep n t5 t6 [(.slice t0 t0l 0), t1, undef, undef, (.slice none 0 0), (.int .i64 t5), (.int .i64 t6), s7, (.slice t8 t8l 0), t9, (.int .i64 t10), (.int .i64 t11), (.bool false), undef, (.int .i64 t14), (.int .i64 t15), s16, s17, s18, s19, s20, s21, s22, s23, s24, s25, s26, s27, s28, s29, s30, s31, s32, s33, s34, s35, undef, undef, undef, undef, undef, undef] H hP)
    kernel_rfl
  · apply turnInto h0
    kernel_rfl
noncomputable def L_slices_IndexFunc_grace_wait_grace_wait_0 : Code := loopAt Go.Proofs.Tryz.f169 0
theorem vc_slices_IndexFunc_grace_wait_grace_wait (x0 : Option Addr) (x0l : Nat) (x1 : Value) (H : Heap) (R : Value → Heap → Prop) :
    (
 LA en L_slices_IndexFunc_grace_wait_grace_wait_0 [(.slice x0 x0l 0), x1, undef, undef, (.int .i64 0), undef, (.slice x0 x0l 0), (.int .i64 ((x0l : Nat) : Int)), (.int .i64 0), undef, undef, undef, undef, undef, undef, undef, undef, undef, undef] H [(X.exit 0, fun (y1 : Fr) (H2 : Heap) =>
 AS.asInt .i64 (y1.getD 4 undef) fun n3 =>
 R (.int .i64 (-1)) H2),
 (X.ret, fun (y4 : Fr) (H5 : Heap) =>
 AS.asInt .i64 (y4.getD 4 undef) fun n6 =>
 R (.int .i64 n6) H5)]) →
    CA en F.slices_IndexFunc_grace_wait_grace_wait [(.slice x0 x0l 0), x1] H R := by
  intro h
  refine wpFn_ok (Z := [[(4, (.int .i64 0))]]) (fn := Go.Proofs.Tryz.f169) ?_ ?_ ?_
  · kernel_rfl
  · kernel_rfl
  · apply turnInto h
    kernel_rfl
theorem use_slices_IndexFunc_grace_wait_grace_wait_0 {t0 : Option Addr} {t0l : Nat} {t1 : Value} {t6 : Option Addr} {t6l : Nat} {t7 : Int} {K0 : Fr → Heap → Prop} {K1 : Fr → Heap → Prop} {t4 : Int} {t8 : Int} {t5 : Value} {t9 : Value} {t10 : Value} {t11 : Value} {t12 : Value} {t13 : Value} {t14 : Value} {t15 : Value} {t16 : Value} {t17 : Value} {t18 : Value} {H : Heap} (I : Nat → Int → Int → Heap → Prop) (n : Nat) (h0 : I n t4 t8 H)
    (hstep : ∀ (n : Nat) (t4 : Int) (t8 : Int) (ys : Fr) (H : Heap), I n t4 t8 H →
    (
 bif (decide (t8 < t7)) then (
 inB t8 t0l ∧
 asRow t0 fun i1 i2 =>
 ∃ n3, ∃ m4, H.cellsAt i1 (i2 + (t8.toNat * 2)) 2 = some [(.int .i64 n3), (.map m4)] ∧
 AS.asFn t1 fun f5 l6 l7 =>
 (∃ fn, en.fn f5 = some fn) ∧
 CA en f5 (l6 ++ [(.agg #[(.int .i64 n3), (.map m4)])] ++ l7) H fun v8 H9 =>
 ∃ b10, v8 = (.bool b10) ∧
 bif b10 then (
 K1 [(.slice t0 t0l 0), t1, undef, undef, (.int .i64 t8), (.int .i64 t8), (.slice t6 t6l 0), (.int .i64 t7), (.int .i64 t8), (.bool true), (.int .i64 t8), t1, (.slice t0 t0l 0), (.int .i64 t8), (.pointer (some ⟨i1, (i2 + (t8.toNat * 2)), none⟩)), (.agg #[(.int .i64 n3), (.map m4)]), (.bool true), (.int .i64 t8), (ys.getD 18 undef)] H9)
 else (
 ∃ k11, k11 < n ∧
 I k11 t4 (IntKind.i64.wrap (t8 + 1)) H9))
 else (
 K0 [(.slice t0 t0l 0), t1, undef, undef, (.int .i64 t4), (ys.getD 5 undef), (.slice t6 t6l 0), (.int .i64 t7), (.int .i64 t8), (.bool false), (ys.getD 10 undef), (ys.getD 11 undef), (ys.getD 12 undef), (ys.getD 13 undef), (ys.getD 14 undef), (ys.getD 15 undef), (ys.getD 16 undef), (ys.getD 17 undef), (ys.getD 18 undef)] H))) :
    LA en L_slices_IndexFunc_grace_wait_grace_wait_0 [(.slice t0 t0l 0), t1, undef, undef, (.int .i64 t4), t5, (.slice t6 t6l 0), (.int .i64 t7), (.int .i64 t8), t9, t10, t11, t12, t13, t14, t15, t16, t17, t18] H [(X.exit 0, K0), (X.ret, K1)] := by
  refine LA_rule (Z := []) (fun m xs H' => AS.asInt .i64 (xs.getD 4 undef) fun t4 => AS.asInt .i64 (xs.getD 8 undef) fun t8 => I m t4 t8 H') ?_ n H ?_
  · intro n H
    suffices hs : ∀ s9 : Value, ∀ s10 : Value, ∀ s5 : Value, ∀ s11 : Value, ∀ s12 : Value, ∀ s13 : Value, ∀ s14 : Value, ∀ s15 : Value, ∀ s16 : Value, ∀ s17 : Value, ∀ s4 : Value, ∀ s18 : Value, ∀ s8 : Value, ((AS.asInt .i64 s4 fun t4 => AS.asInt .i64 s8 fun t8 => I n t4 t8 H) → wpCode en L_slices_IndexFunc_grace_wait_grace_wait_0 [] [(.slice t0 t0l 0), t1, undef, undef, s4, s5, (.slice t6 t6l 0), (.int .i64 t7), s8, s9, s10, s11, s12, s13, s14, s15, s16, s17, s18] H (loopQ (fun m xs H' => AS.asInt .i64 (xs.getD 4 undef) fun t4 => AS.asInt .i64 (xs.getD 8 undef) fun t8 => I m t4 t8 H') n [(X.exit 0, K0), (X.ret, K1)])) by
      apply turnInto hs
      kernel_rfl
    intro s9 s10 s5 s11 s12 s13 s14 s15 s16 s17 s4 s18 s8 hP
    replace hP := asInt_elim hP
    obtain ⟨t4, rfl, hP⟩ := hP
    replace hP := asInt_elim hP
    obtain ⟨t8, rfl, hP⟩ := hP
    apply turnInto (hstep n t4 t8 [(.slice t0 t0l 0), t1, undef, undef, (.int .i64 t4), s5, (.slice t6 t6l 0), (.int .i64 t7), (.int .i64 t8), s9, s10, s11, s12, s13, s14, s15, s16, s17, s18] H hP)
    kernel_rfl
  · apply turnInto h0
    kernel_rfl
theorem vc_slices_ContainsFunc_grace_wait_grace_wait (x0 : Option Addr) (x0l : Nat) (x1 : Value) (H : Heap) (R : Value → Heap → Prop) :
    (
 CA en F.slices_IndexFunc_grace_wait_grace_wait [(.slice x0 x0l 0), x1] H fun v1 H2 =>
 ∃ n3, v1 = (.int .i64 n3) ∧
 R (.bool (decide (n3 ≥ 0))) H2) →
    CA en F.slices_ContainsFunc_grace_wait_grace_wait [(.slice x0 x0l 0), x1] H R := by
  intro h
  refine wpFn_ok (Z := []) (fn := Go.Proofs.Tryz.f276) ?_ ?_ ?_
  · kernel_rfl
  · kernel_rfl
  · apply turnInto h
    kernel_rfl
theorem vc_maps_Clone_map_intbool_int_bool (x0 : Option Nat) (H : Heap) (R : Value → Heap → Prop) :
    (
 bif x0.isNone then (
 R (.map none) H)
 else (
 clM H x0 fun i1 H2 =>
 R (.map (some i1)) H2)) →
    CA en F.maps_Clone_map_intbool_int_bool [(.map x0)] H R := by
  intro h
  refine wpFn_ok (Z := []) (fn := Go.Proofs.Tryz.f278) ?_ ?_ ?_
  · kernel_rfl
  · kernel_rfl
  · apply turnInto h
    kernel_rfl
end Go.Proofs.YtjggeoghlicmdaaGreat
namespace Go.Proofs.YtjggeoghlicmdaaGreat
open Go Go.AS Go.RowKit
set_option linter.unusedVariables false
variable {H H' : Heap} {R : Value → Heap → Prop} {L M : List Asr} {g m i1 i3 : Nat} {ks : List Int} {k a : Int} {S : Sm} {gc junk : List Value}
def kset (ks : List Int) : KV := ks.map fun k => (k, .bool true)
theorem kset_look : ∀ (ks : List Int) (k : Int), alook (kset ks) k = if k ∈ ks then some (.bool true) else none
  | [], k => rfl
  | a :: ks, k => by
    show (if a = k then some (.bool true) else alook (kset ks) k) = _
    rw [kset_look ks k]
    by_cases h : a = k
    · simp [h]
    · have : ¬ k = a := fun e => h e.symm
      simp [h, this]
theorem kset_put : ∀ {ks : List Int} {k : Int}, k ∉ ks → aput (kset ks) k (.bool true) = kset (ks ++ [k])
  | [], k, _ => rfl
  | a :: ks, k, h => by
    simp only [List.mem_cons, not_or] at h
    show (if a = k then (k, .bool true) :: kset ks else (a, .bool true) :: aput (kset ks) k (.bool true)) = _
    rw [if_neg (fun e => h.1 e.symm), kset_put h.2]; rfl
theorem kset_len (ks : List Int) : (kset ks).length = ks.length := by simp [kset]
theorem inside_m {b : Nat} {K : Bool → Prop} (h : Sep H (im .i64 b (kset ks) :: L)) (a : Int) (hK : K (decide (a ∈ ks))) : ∃ r, AS.mapGet H (.int .i64) (some b) (I a) = some r ∧ ∃ v, got r (.bool false) (.bool v) ∧ K v := by
  refine im_look h a fun r hr => ⟨decide (a ∈ ks), ?_, hK⟩
  rw [kset_look] at hr
  cases r with
  | none =>
    have : a ∉ ks := fun h => by rw [if_pos h] at hr; simp at hr
    show Value.bool false = _
    rw [decide_eq_false this]
  | some p =>
    obtain ⟨n, u⟩ := p
    by_cases ha : a ∈ ks
    · rw [if_pos ha] at hr
      simp only [Option.map_some, Option.some.injEq] at hr
      show u = _
      rw [hr, decide_eq_true ha]
    · rw [if_neg ha] at hr; simp at hr
structure Wt where
  h : Int
  mb : Nat
  ws : List Int
structure Gr where
  n : Int
  mi : Nat
  ins : List Int
  q : List Wt
  S : Sm
abbrev Wt.row (w : Wt) : List Value := [I w.h, .map (some w.mb)]
def rows (q : List Wt) : List Value := (q.map Wt.row).flatten
theorem rows_len : ∀ q : List Wt, (rows q).length = q.length * 2
  | [] => rfl
  | w :: q => by
    have e : rows (w :: q) = w.row ++ rows q := rfl
    rw [e, List.length_append, rows_len q]; simp; omega
theorem rows_append (q p : List Wt) : rows (q ++ p) = rows q ++ rows p := by simp [rows]
theorem rows_drop (q : List Wt) (j : Nat) : (rows q).drop (j * 2) = rows (q.drop j) := by
  have hw : ∀ c ∈ q.map Wt.row, c.length = 2 := by intro c hc; obtain ⟨y, _, rfl⟩ := List.mem_map.1 hc; rfl
  have := rowsFlat_drop (q.map Wt.row) j hw
  rw [← List.map_drop] at this
  exact this
def wA (w : Wt) : Asr := im .i64 w.mb (kset w.ws)
def wm (q : List Wt) : Asr := many (q.map wA)
theorem wm_out {q : List Wt} {j : Nat} {w : Wt} (hj : q[j]? = some w) : Sep H (wm q :: L) ↔ Sep H (wA w :: many ((q.take j).map wA ++ (q.drop (j + 1)).map wA) :: L) := by
  have e : q.map wA = (q.take j).map wA ++ ([wA w] ++ (q.drop (j + 1)).map wA) := by
    obtain ⟨hl, hg⟩ := List.getElem?_eq_some_iff.1 hj
    have h1 : q = q.take j ++ (w :: q.drop (j + 1)) := by rw [← hg, ← List.drop_eq_getElem_cons hl, List.take_append_drop]
    conv => lhs; rw [h1]
    rw [List.map_append]; rfl
  unfold wm
  rw [e, Sep.splitM, Sep.many1]
theorem wm_filter {q : List Wt} (p : Wt → Bool) (h : Sep H (wm q :: L)) : Sep H (wm (q.filter p) :: L) := by
  have h1 := Sep.many_iff.1 h
  refine Sep.many_iff.2 ?_
  have h2 : Sep H (L ++ q.map wA) := h1.perm List.perm_append_comm
  have hs : ((q.filter p).map wA).Sublist (q.map wA) := List.Sublist.map _ List.filter_sublist
  exact (Sep.sub hs _ h2).perm List.perm_append_comm
theorem wm_snoc {q : List Wt} {w : Wt} (h : Sep H (wA w :: wm q :: L)) : Sep H (wm (q ++ [w]) :: L) := by
  refine Sep.many_iff.2 ?_
  have h1 := Sep.many_iff.1 (Sep.up1 h)
  rw [List.map_append]
  have e : q.map wA ++ [w].map wA ++ L = q.map wA ++ (wA w :: L) := by simp
  rw [e]; exact h1
theorem row_at {b : Nat} {c : List Value} {q : List Wt} {j : Nat} {w : Wt} (hg : H.get b = some (.cells true 2 c)) (hd : c.drop (j * 2) = rows (q.drop j) ++ junk) (hl : j * 2 + 2 ≤ c.length) (hj : q[j]? = some w) : H.cellsAt b (0 + j * 2) 2 = some w.row := by
  rw [cellsAt_of hg, Nat.zero_add]
  unfold takeAt
  rw [if_pos hl, hd]
  obtain ⟨hl, hg⟩ := List.getElem?_eq_some_iff.1 hj
  rw [List.drop_eq_getElem_cons hl, hg]
  rfl
abbrev ints (t : List Int) : List Value := t.map fun v => I v
theorem ints_append (s t : List Int) : ints (s ++ t) = ints s ++ ints t := List.map_append
theorem sw1_s {w : Wt} {f : Option Nat} {hs : List Int} (h : Sep H (bx i1 (.cells true 0 [P g]) :: bx i3 (.cells true 0 [.slice (addr f) hs.length 0]) :: gl 1 f (ints hs) :: wA w :: bx g (.cells true 0 (P m :: gc)) :: mem m S :: L)) (hf : f = none → hs = []) (hl : hs.length < 1000000)
    (hK : w.ws ≠ [] → ∀ H', Sep H' (bx i1 (.cells true 0 [P g]) :: bx i3 (.cells true 0 [.slice (addr f) hs.length 0]) :: gl 1 f (ints hs) :: wA w :: bx g (.cells true 0 (P m :: gc)) :: mem m S :: L) → R (.bool false) H')
    (hF : w.ws = [] → ∀ H' f', Sep H' (bx i1 (.cells true 0 [P g]) :: bx i3 (.cells true 0 [.slice (addr (some f')) (hs ++ [w.h]).length 0]) :: gl 1 (some f') (ints (hs ++ [w.h])) :: wA w :: bx g (.cells true 0 (P m :: gc)) :: mem m (S.free w.h).2 :: L) → R (.bool true) H') :
    CA en F.grace_Grace_sweep_1 [.agg #[I w.h, .map (some w.mb)], P i1, P i3] H R := by
  apply vc_grace_Grace_sweep_1
  refine Sep.nw h fun iw H2 h2 => ⟨_, Sep.ld0 h2 rfl, im_len (Sep.up4 h2) ?_⟩
  rw [kset_len]
  refine cond_of (fun c => ?_) fun c => ?_
  · have c : w.ws ≠ [] := fun e => by rw [e] at c; simp at c
    exact hK c _ h2.tail
  · have c : w.ws = [] := by
      simp only [decide_eq_false_iff_not] at c
      exact List.eq_nil_of_length_eq_zero (by omega)
    have hB := h2.bump 7
    refine asAddr_in ⟨_, Sep.ld1 hB rfl, asAddr_in ⟨_, Sep.ld5 hB rfl, _, Sep.ld0 hB rfl, ?_⟩⟩
    refine free_s (Sep.up6 hB) fun H13 h13 => ⟨_, rfl, ⟨asAddr_in ⟨_, _, Sep.ld3 h13 rfl, _, Sep.ld1 h13 rfl, Sep.nw h13 fun i20 H21 h21 => ⟨[I w.h], rowOf_bx (es := 1) (n := 1) (b := i20) (Sep.get0 h21) (by decide) rfl, ?_⟩⟩, trivial⟩⟩
    refine apd_gl (b := f) (len := hs.length) (n := 1) (cs := ints hs) (new := [I w.h]) (Sep.up5 h21) (fun h => by rw [hf h]; rfl) (by decide) (by simp) (by decide) rfl (by omega) fun H25 f' h25 => ?_
    refine asAddr_in (Sep.st5 h25 (Nat.le_of_ble_eq_true rfl) fun H28 h28 => hF c H28 f' ?_)
    have h29 := Sep.pick h28 8 [4, 5, 0, 6, 7, 2] (by decide)
    rw [List.length_append, ints_append]
    exact h29
theorem take_drop_cons {α : Type} {q : List α} {j : Nat} {w : α} (h : q[j]? = some w) : q.take (j + 1) = q.take j ++ [w] := by rw [List.take_add_one, h]; rfl
def ne (w : Wt) : Bool := !w.ws.isEmpty
theorem ne_iff (w : Wt) : ne w = true ↔ w.ws ≠ [] := by unfold ne; cases w.ws <;> simp
def kept (q : List Wt) : List Wt := q.filter ne
def gone (q : List Wt) : List Int := (q.filter fun w => !ne w).map Wt.h
theorem kept_snoc (q : List Wt) (w : Wt) : kept (q ++ [w]) = if w.ws = [] then kept q else kept q ++ [w] := by
  unfold kept
  rw [List.filter_append]
  by_cases h : w.ws = []
  · have : ne w = false := by unfold ne; rw [h]; rfl
    simp [h, this]
  · have : ne w = true := (ne_iff w).2 h
    simp [h, this]
theorem gone_snoc (q : List Wt) (w : Wt) : gone (q ++ [w]) = if w.ws = [] then gone q ++ [w.h] else gone q := by
  unfold gone
  rw [List.filter_append, List.map_append]
  by_cases h : w.ws = []
  · have : ne w = false := by unfold ne; rw [h]; rfl
    simp [h, this]
  · have : ne w = true := (ne_iff w).2 h
    simp [h, this]
theorem kept_all {q : List Wt} (h : ∀ w ∈ q, w.ws ≠ []) : kept q = q := List.filter_eq_self.2 fun w hw => (ne_iff w).2 (h w hw)
theorem gone_none {q : List Wt} (h : ∀ w ∈ q, w.ws ≠ []) : gone q = [] := by
  unfold gone
  rw [List.filter_eq_nil_iff.2 fun w hw => by rw [(ne_iff w).2 (h w hw)]; decide]
  rfl
def frees (S : Sm) (hs : List Int) : Sm := hs.foldl (fun S h => (S.free h).2) S
theorem frees_snoc (S : Sm) (hs : List Int) (h : Int) : frees S (hs ++ [h]) = ((frees S hs).free h).2 := by unfold frees; rw [List.foldl_append]; rfl
abbrev swF (i1 i3 : Nat) : Value := .func (.func F.grace_Grace_sweep_1) #[] #[P i1, P i3]
theorem idxSw_s {b : Option Nat} {q : List Wt} {n : Nat} (hn : n = q.length) (h : Sep H (bx i1 (.cells true 0 [P g]) :: bx i3 (.cells true 0 [.slice none 0 0]) :: gl 2 b (rows q ++ junk) :: wm q :: bx g (.cells true 0 (P m :: gc)) :: mem m S :: L)) (hb : b = none → q = []) (hl : q.length < 1000000)
    (hA : (∀ w ∈ q, w.ws ≠ []) → ∀ H', Sep H' (bx i1 (.cells true 0 [P g]) :: bx i3 (.cells true 0 [.slice none 0 0]) :: gl 2 b (rows q ++ junk) :: wm q :: bx g (.cells true 0 (P m :: gc)) :: mem m S :: L) → R (I (-1)) H')
    (hF : ∀ (j : Nat) w, q[j]? = some w → w.ws = [] → (∀ u ∈ q.take j, u.ws ≠ []) → ∀ H' f, Sep H' (bx i1 (.cells true 0 [P g]) :: bx i3 (.cells true 0 [.slice (addr (some f)) [w.h].length 0]) :: gl 1 (some f) (ints [w.h]) :: gl 2 b (rows q ++ junk) :: wm q :: bx g (.cells true 0 (P m :: gc)) :: mem m (S.free w.h).2 :: L) → R (I j) H') :
    CA en F.slices_IndexFunc_grace_wait_grace_wait [.slice (addr b) n 0, swF i1 i3] H R := by
  subst hn
  apply vc_slices_IndexFunc_grace_wait_grace_wait
  refine use_slices_IndexFunc_grace_wait_grace_wait_0 (fun k t4 t8 H => ∃ j : Nat, j ≤ q.length ∧ k = q.length - j ∧ t8 = (j : Int) ∧ (∀ u ∈ q.take j, u.ws ≠ []) ∧ Sep H (bx i1 (.cells true 0 [P g]) :: bx i3 (.cells true 0 [.slice none 0 0]) :: gl 2 b (rows q ++ junk) :: wm q :: bx g (.cells true 0 (P m :: gc)) :: mem m S :: L)) q.length ⟨0, by omega, rfl, rfl, by simp, h⟩ ?_
  clear h
  rintro k t4 t8 ys H3 ⟨j, hj, rfl, rfl, hall, hs⟩
  refine cond_of (fun h1 => ?_) fun h1 => ?_
  · have hj' : j < q.length := by simp only [decide_eq_true_eq] at h1; omega
    obtain ⟨w, hw⟩ : ∃ w, q[j]? = some w := ⟨_, List.getElem?_eq_getElem hj'⟩
    cases b with
    | none => rw [hb rfl] at hj'; simp at hj'
    | some b =>
      have hg : H3.get b = some (.cells true 2 (rows q ++ junk)) := gl_get (Sep.up2 hs)
      have hrow := row_at (junk := junk) (j := j) (w := w) hg (by rw [List.drop_append_of_le_length (by rw [rows_len]; omega), rows_drop]) (by rw [List.length_append, rows_len]; omega) hw
      refine ⟨by unfold inB; omega, asRow_in ⟨_, _, hrow, asFn_in ⟨Option.isSome_iff_exists.1 (by kernel_rfl), ?_⟩⟩⟩
      -- i1 i3 gl wm g mem -> wm first
      have h2 := (wm_out hw).1 (Sep.up3 hs)
      have h3 : Sep H3 (bx i1 (.cells true 0 [P g]) :: bx i3 (.cells true 0 [.slice (addr none) ([] : List Int).length 0]) :: gl 1 none (ints []) :: wA w :: bx g (.cells true 0 (P m :: gc)) :: mem m S :: many ((q.take j).map wA ++ (q.drop (j + 1)).map wA) :: gl 2 (some b) (rows q ++ junk) :: L) := by
        have h4 := Sep.pick h2 7 [2, 3, 0, 5, 6, 1, 4] (by decide)
        have h5 : Sep H3 (bx i1 (.cells true 0 [P g]) :: bx i3 (.cells true 0 [.slice none 0 0]) :: wA w :: bx g (.cells true 0 (P m :: gc)) :: mem m S :: many ((q.take j).map wA ++ (q.drop (j + 1)).map wA) :: gl 2 (some b) (rows q ++ junk) :: L) := h4
        exact Sep.up2 (Sep.up2 (gl_none.2 h5))
      refine sw1_s h3 (fun _ => rfl) (by simp) (fun hne H9 h9 => ⟨_, rfl, cond_no rfl ?_⟩) fun he H9 f h9 => ⟨_, rfl, cond_yes rfl ?_⟩
      · refine ⟨q.length - (j + 1), by omega, j + 1, by omega, rfl, ?_, ?_, ?_⟩
        · rw [wrap_i64 (by omega)]; omega
        · rw [take_drop_cons hw]
          intro u hu
          rcases List.mem_append.1 hu with hu | hu
          · exact hall u hu
          · simp at hu; subst hu; exact hne
        · have h10 := Sep.pick h9 8 [3, 6, 0, 1, 7, 4, 5] (by decide)
          have h11 : Sep H9 (wA w :: many ((q.take j).map wA ++ (q.drop (j + 1)).map wA) :: bx i1 (.cells true 0 [P g]) :: bx i3 (.cells true 0 [.slice none 0 0]) :: gl 2 (some b) (rows q ++ junk) :: bx g (.cells true 0 (P m :: gc)) :: mem m S :: L) := h10
          exact Sep.pick ((wm_out hw).2 h11) 6 [1, 2, 3, 0, 4, 5] (by decide)
      · refine asInt_in ?_
        refine hF j w hw he hall _ f ?_
        have h10 := Sep.pick h9 8 [3, 6, 0, 1, 2, 7, 4, 5] (by decide)
        have h11 : Sep H9 (wA w :: many ((q.take j).map wA ++ (q.drop (j + 1)).map wA) :: bx i1 (.cells true 0 [P g]) :: bx i3 (.cells true 0 [.slice (addr (some f)) [w.h].length 0]) :: gl 1 (some f) (ints [w.h]) :: gl 2 (some b) (rows q ++ junk) :: bx g (.cells true 0 (P m :: gc)) :: mem m (S.free w.h).2 :: L) := h10
        exact Sep.pick ((wm_out hw).2 h11) 7 [1, 2, 3, 4, 0, 5, 6] (by decide)
  · obtain rfl : j = q.length := by simp only [decide_eq_false_iff_not] at h1; omega
    rw [List.take_length] at hall
    exact asInt_in (hA hall H3 hs)
end Go.Proofs.YtjggeoghlicmdaaGreat
namespace Go.Proofs.YtjggeoghlicmdaaGreat
open Go Go.AS Go.RowKit
set_option linter.unusedVariables false
variable {H H' : Heap} {R : Value → Heap → Prop} {L M : List Asr} {g m i1 i3 : Nat} {ks : List Int} {k a : Int} {S : Sm} {gc junk : List Value}
theorem kept_gone : ∀ q : List Wt, (kept q).length + (gone q).length = q.length
  | [] => rfl
  | w :: q => by
    have ih := kept_gone q
    unfold kept gone at ih ⊢
    rw [List.filter_cons, List.filter_cons]
    cases ne w <;> simp <;> simp at ih <;> omega
theorem delSw_s {b : Option Nat} {q : List Wt} {n : Nat} (hn : n = q.length) (h : Sep H (bx i1 (.cells true 0 [P g]) :: bx i3 (.cells true 0 [.slice none 0 0]) :: gl 2 b (rows q ++ junk) :: wm q :: bx g (.cells true 0 (P m :: gc)) :: mem m S :: L)) (hb : b = none → q = []) (hbj : b = none → junk = []) (hl : q.length < 1000000)
    (hR : ∀ H' f junk', (f = none → gone q = []) → (b = none → junk' = []) → Sep H' (bx i1 (.cells true 0 [P g]) :: bx i3 (.cells true 0 [.slice (addr f) (gone q).length 0]) :: gl 1 f (ints (gone q)) :: gl 2 b (rows (kept q) ++ junk') :: wm (kept q) :: bx g (.cells true 0 (P m :: gc)) :: mem m (frees S (gone q)) :: L) → R (.slice (addr b) (kept q).length 0) H') :
    CA en F.slices_DeleteFunc_grace_wait_grace_wait [.slice (addr b) n 0, swF i1 i3] H R := by
  apply vc_slices_DeleteFunc_grace_wait_grace_wait
  refine idxSw_s hn h hb hl (fun hall H2 h2 => ⟨_, rfl, cond_yes rfl ?_⟩) fun j0 w0 hw0 he0 hpre H2 f0 h2 => ⟨_, rfl, cond_no (by simp) ?_⟩
  · have := hR H2 none junk (fun _ => gone_none hall) hbj
    rw [kept_all hall, gone_none hall] at this
    rw [hn]
    refine this ?_
    have h3 : Sep H2 (gl 1 none (ints []) :: bx i1 (.cells true 0 [P g]) :: bx i3 (.cells true 0 [.slice none 0 0]) :: gl 2 b (rows q ++ junk) :: wm q :: bx g (.cells true 0 (P m :: gc)) :: mem m S :: L) := gl_none.2 h2
    exact Sep.up2 (Sep.up2 h3)
  have hj0 := (List.getElem?_eq_some_iff.1 hw0).1
  subst hn
  cases b with
  | none => rw [hb rfl] at hj0; simp at hj0
  | some b =>
    have k0 : kept (q.take (j0 + 1)) = q.take j0 := by rw [take_drop_cons hw0, kept_snoc, if_pos he0, kept_all hpre]
    have g0 : gone (q.take (j0 + 1)) = [w0.h] := by rw [take_drop_cons hw0, gone_snoc, if_pos he0, gone_none hpre]; rfl
    have hrl := rows_len q
    refine use_slices_DeleteFunc_grace_wait_grace_wait_0 (fun k t5 t6 H => ∃ (j f : Nat) (C : List Value), j ≤ q.length ∧ k = q.length - j ∧ t6 = (j : Int) ∧ t5 = ((kept (q.take j)).length : Int) ∧ 0 < (gone (q.take j)).length ∧ C.length = (rows q ++ junk).length ∧ C.take ((kept (q.take j)).length * 2) = rows (kept (q.take j)) ∧ C.drop (j * 2) = rows (q.drop j) ++ junk ∧
      Sep H (bx i1 (.cells true 0 [P g]) :: bx i3 (.cells true 0 [.slice (addr (some f)) (gone (q.take j)).length 0]) :: gl 1 (some f) (ints (gone (q.take j))) :: bx b (.cells true 2 C) :: wm q :: bx g (.cells true 0 (P m :: gc)) :: mem m (frees S (gone (q.take j))) :: L)) (q.length - (j0 + 1))
      ⟨j0 + 1, f0, rows q ++ junk, by omega, rfl, ?_, ?_, ?_, rfl, ?_, ?_, ?_⟩ ?_
    · rw [wrap_i64 (by omega)]; omega
    · rw [k0, List.length_take]; omega
    · rw [g0]; simp
    · rw [k0, List.take_append_of_le_length (by rw [hrl, List.length_take]; omega)]
      have e : q = q.take j0 ++ q.drop j0 := (List.take_append_drop _ _).symm
      conv => lhs; rw [e, rows_append]
      rw [List.take_append_of_le_length (by rw [rows_len]; simp), List.take_of_length_le (by rw [rows_len]; simp)]
    · rw [List.drop_append_of_le_length (by rw [hrl]; omega), rows_drop]
    · rw [g0]
      have h3 := Sep.pick h2 7 [0, 1, 2, 3, 4, 5, 6] (by decide)
      have h4 : Sep H2 (bx i1 (.cells true 0 [P g]) :: bx i3 (.cells true 0 [.slice (addr (some f0)) [w0.h].length 0]) :: gl 1 (some f0) (ints [w0.h]) :: gl 2 (some b) (rows q ++ junk) :: wm q :: bx g (.cells true 0 (P m :: gc)) :: mem m (S.free w0.h).2 :: L) := h3
      exact Sep.pick (gl_some.1 (Sep.up3 h4)) 7 [1, 2, 3, 0, 4, 5, 6] (by decide)
    clear h h2 hw0 he0 hpre hj0 k0 g0
    rintro k t5 t6 ys H3 ⟨j, f, C, hj, rfl, rfl, rfl, hg0, hCl, hCt, hCd, hs⟩
    have hkg := kept_gone (q.take j)
    rw [List.length_take, Nat.min_eq_left hj] at hkg
    have hCl' : C.length = q.length * 2 + junk.length := by rw [hCl, List.length_append, hrl]
    refine cond_of (fun h1 => ?_) fun h1 => ?_
    · have hj' : j < q.length := by simp only [decide_eq_true_eq] at h1; omega
      obtain ⟨w, hw⟩ : ∃ w, q[j]? = some w := ⟨_, List.getElem?_eq_getElem hj'⟩
      have htk := take_drop_cons hw
      have hrow := row_at (junk := junk) (j := j) (w := w) (Sep.get3 hs) hCd (by omega) hw
      have hw1 : IntKind.i64.wrap ((j : Int) + 1) = ((j + 1 : Nat) : Int) := by rw [wrap_i64 (by omega)]; omega
      refine ⟨by unfold inB; omega, asRow_in ⟨_, _, hrow, Sep.nw hs fun i5 H6 h6 => Sep.st0 h6 (Nat.le_of_ble_eq_true rfl) fun H7 h7 => ⟨_, _, Sep.lds0 h7 rfl, asFn_in ⟨Option.isSome_iff_exists.1 (by kernel_rfl), ?_⟩⟩⟩⟩
      have h7 : Sep H7 (bx i5 (.cells true 0 w.row) :: bx i1 (.cells true 0 [P g]) :: bx i3 (.cells true 0 [.slice (addr (some f)) (gone (q.take j)).length 0]) :: gl 1 (some f) (ints (gone (q.take j))) :: bx b (.cells true 2 C) :: wm q :: bx g (.cells true 0 (P m :: gc)) :: mem m (frees S (gone (q.take j))) :: L) := h7
      have h8 := (wm_out hw).1 (Sep.up5 h7)
      -- wA rest i5 i1 i3 gl b g mem
      have h9 : Sep H7 (bx i1 (.cells true 0 [P g]) :: bx i3 (.cells true 0 [.slice (addr (some f)) (gone (q.take j)).length 0]) :: gl 1 (some f) (ints (gone (q.take j))) :: wA w :: bx g (.cells true 0 (P m :: gc)) :: mem m (frees S (gone (q.take j))) :: bx i5 (.cells true 0 w.row) :: many ((q.take j).map wA ++ (q.drop (j + 1)).map wA) :: bx b (.cells true 2 C) :: L) := Sep.pick h8 9 [3, 4, 5, 0, 7, 8, 2, 1, 6] (by decide)
      refine sw1_s h9 (fun h => by cases h) (by omega) (fun hne H14 h14 => ⟨_, rfl, cond_yes rfl ?_⟩) fun he H14 f' h14 => ⟨_, rfl, cond_no rfl ?_⟩
      · have ek : kept (q.take (j + 1)) = kept (q.take j) ++ [w] := by rw [htk, kept_snoc, if_neg hne]
        have eg : gone (q.take (j + 1)) = gone (q.take j) := by rw [htk, gone_snoc, if_neg hne]
        -- b first
        have h15 : Sep H14 (bx b (.cells true 2 C) :: wA w :: many ((q.take j).map wA ++ (q.drop (j + 1)).map wA) :: bx i1 (.cells true 0 [P g]) :: bx i3 (.cells true 0 [.slice (addr (some f)) (gone (q.take j)).length 0]) :: gl 1 (some f) (ints (gone (q.take j))) :: bx g (.cells true 0 (P m :: gc)) :: mem m (frees S (gone (q.take j))) :: bx i5 (.cells true 0 w.row) :: L) := Sep.pick h14 9 [8, 3, 7, 0, 1, 2, 4, 5, 6] (by decide)
        refine ⟨_, _, Sep.lds8 h15 rfl, by unfold inB; omega, asRow_in (Sep.st0 h15 (by rw [Int.toNat_natCast]; simp only [List.length_cons, List.length_nil]; omega) fun H20 h20 => ?_)⟩
        rw [Nat.zero_add, Int.toNat_natCast] at h20
        have h21 : Sep H20 (wA w :: many ((q.take j).map wA ++ (q.drop (j + 1)).map wA) :: bx i1 (.cells true 0 [P g]) :: bx i3 (.cells true 0 [.slice (addr (some f)) (gone (q.take j)).length 0]) :: gl 1 (some f) (ints (gone (q.take j))) :: bx b (.cells true 2 (setAt C ((kept (q.take j)).length * 2) w.row)) :: bx g (.cells true 0 (P m :: gc)) :: mem m (frees S (gone (q.take j))) :: L) := Sep.pick h20 9 [1, 2, 3, 4, 5, 0, 6, 7] (by decide)
        have h22 := (wm_out hw).2 h21
        have wl : w.row.length = 2 := rfl
        refine ⟨q.length - (j + 1), by omega, j + 1, f, setAt C ((kept (q.take j)).length * 2) w.row, by omega, rfl, hw1, ?_, ?_, ?_, ?_, ?_, ?_⟩
        · rw [ek, List.length_append, wrap_i64 (by omega)]; simp
        · rw [eg]; exact hg0
        · rw [setAt_length]; exact hCl
        · rw [ek, List.length_append, rows_append]
          have := setAt_take' w.row C ((kept (q.take j)).length * 2) (by rw [wl]; omega)
          rw [wl, hCt] at this
          rw [show ((kept (q.take j)).length + [w].length) * 2 = (kept (q.take j)).length * 2 + 2 by simp; omega, this]
          rfl
        · rw [setAt_drop' _ _ _ _ (by rw [wl]; omega)]
          have : C.drop ((j + 1) * 2) = (C.drop (j * 2)).drop 2 := by rw [List.drop_drop]; congr 1; omega
          rw [this, hCd, List.drop_append_of_le_length (by rw [rows_len, List.length_drop]; omega)]
          have h2 := rows_drop (q.drop j) 1
          rw [Nat.one_mul, List.drop_drop] at h2
          rw [h2]
        · rw [eg]
          exact Sep.pick h22 7 [1, 2, 3, 4, 0, 5, 6] (by decide)
      · have ek : kept (q.take (j + 1)) = kept (q.take j) := by rw [htk, kept_snoc, if_pos he]
        have eg : gone (q.take (j + 1)) = gone (q.take j) ++ [w.h] := by rw [htk, gone_snoc, if_pos he]
        have h15 : Sep H14 (wA w :: many ((q.take j).map wA ++ (q.drop (j + 1)).map wA) :: bx i1 (.cells true 0 [P g]) :: bx i3 (.cells true 0 [.slice (addr (some f')) (gone (q.take j) ++ [w.h]).length 0]) :: gl 1 (some f') (ints (gone (q.take j) ++ [w.h])) :: bx b (.cells true 2 C) :: bx g (.cells true 0 (P m :: gc)) :: mem m ((frees S (gone (q.take j))).free w.h).2 :: L) := Sep.pick h14 9 [3, 7, 0, 1, 2, 8, 4, 5] (by decide)
        have h16 := (wm_out hw).2 h15
        refine ⟨q.length - (j + 1), by omega, j + 1, f', C, by omega, rfl, hw1, by rw [ek], by rw [eg]; simp, hCl, by rw [ek]; exact hCt, ?_, ?_⟩
        · have : C.drop ((j + 1) * 2) = (C.drop (j * 2)).drop 2 := by rw [List.drop_drop]; congr 1; omega
          rw [this, hCd, List.drop_append_of_le_length (by rw [rows_len, List.length_drop]; omega)]
          have h2 := rows_drop (q.drop j) 1
          rw [Nat.one_mul, List.drop_drop] at h2
          rw [h2]
        · rw [eg, frees_snoc]
          exact Sep.pick h16 7 [1, 2, 3, 4, 0, 5, 6] (by decide)
    · obtain rfl : j = q.length := by simp only [decide_eq_false_iff_not] at h1; omega
      rw [List.take_length] at hCt hg0 hs hkg ⊢
      refine asInt_in ⟨by unfold inS; omega, ⟨⟨_, _, _, Sep.get3 hs, .inr rfl⟩, ?_⟩⟩
      rw [Int.toNat_natCast]
      have hz : q.length - (kept q).length = (q.length - (kept q).length - 1) + 1 := by omega
      generalize q.length - (kept q).length - 1 = z at hz
      rw [hz]
      have hcl : clearA en H3 123 (.slice (some ⟨b, 0 + (kept q).length * 2, none⟩) (z + 1) 0) = storeCellsA H3 b (0 + (kept q).length * 2) (reps (z + 1) [I 0, .map none]) := by kernel_rfl
      have hrz : (reps (z + 1) [I 0, .map none]).length = (z + 1) * 2 := by
        have : ∀ n, (reps n [I 0, Value.map none]).length = n * 2 := by
          intro n
          induction n with
          | zero => rfl
          | succ n ih => simp only [reps, List.length_append, ih, List.length_cons, List.length_nil]; omega
        exact this _
      show asSome (clearA en H3 123 (.slice (some ⟨b, 0 + (kept q).length * 2, none⟩) (z + 1) 0)) _
      rw [hcl]
      have hst : stc H3 b (0 + (kept q).length * 2) (reps (z + 1) [I 0, .map none]) fun H8 => inS ((kept q).length : Int) q.length ∧ slK H8 (some ⟨b, 0, none⟩) 2 0 (kept q).length fun v9 => R v9 H8 := by
        refine Sep.st3 hs (by rw [hrz]; omega) fun H8 h8 => ⟨by unfold inS; omega, ⟨⟨_, _, _, Sep.get3 h8, .inr rfl⟩, ?_⟩⟩
        have ht : (setAt C (0 + (kept q).length * 2) (reps (z + 1) [I 0, .map none])).take ((kept q).length * 2) = rows (kept q) := by rw [setAt_take0 _ _ _ _ (by omega), hCt]
        obtain ⟨J, hsp⟩ : ∃ J, setAt C (0 + (kept q).length * 2) (reps (z + 1) [I 0, .map none]) = rows (kept q) ++ J := ⟨(setAt C (0 + (kept q).length * 2) (reps (z + 1) [I 0, .map none])).drop ((kept q).length * 2), by rw [← ht, List.take_append_drop]⟩
        rw [hsp] at h8
        refine hR H8 (some f) J (fun h => by cases h) (fun h => by cases h) ?_
        have h9 := gl_some.2 (Sep.up3 h8)
        have h10 : Sep H8 (wm q :: bx i1 (.cells true 0 [P g]) :: bx i3 (.cells true 0 [.slice (addr (some f)) (gone q).length 0]) :: gl 1 (some f) (ints (gone q)) :: gl 2 (some b) (rows (kept q) ++ J) :: bx g (.cells true 0 (P m :: gc)) :: mem m (frees S (gone q)) :: L) := Sep.pick h9 7 [4, 1, 2, 3, 0, 5, 6] (by decide)
        exact Sep.pick (wm_filter ne h10) 7 [1, 2, 3, 4, 0, 5, 6] (by decide)
      obtain ⟨H8, e8, k8⟩ := stc_ok hst
      rw [e8]
      exact k8
end Go.Proofs.YtjggeoghlicmdaaGreat
namespace Go.Proofs.YtjggeoghlicmdaaGreat
open Go Go.AS Go.RowKit
set_option linter.unusedVariables false
variable {H H' : Heap} {R : Value → Heap → Prop} {L M : List Asr} {g m i1 i3 : Nat} {ks : List Int} {k a : Int} {S : Sm} {gc junk : List Value} {b : Option Nat} {G : Gr}
abbrev GS (g m : Nat) (b : Option Nat) (junk : List Value) (G : Gr) (L : List Asr) : List Asr :=
  bx g (.cells true 0 [P m, I G.n, .map (some G.mi), .slice (addr b) G.q.length 0]) :: im .i64 G.mi (kset G.ins) :: gl 2 b (rows G.q ++ junk) :: wm G.q :: mem m G.S :: L
structure IsG (H : Heap) (g m : Nat) (G : Gr) (L : List Asr) : Prop where
  ex : ∃ b junk, (b = none → G.q = []) ∧ (b = none → junk = []) ∧ Sep H (GS g m b junk G L)
def Gr.swept (G : Gr) : Gr := { G with q := kept G.q, S := frees G.S (gone G.q) }
theorem sweep_s (hg : IsG H g m G L) (hl : G.q.length < 100000) (hR : ∀ H' f, (f = none → gone G.q = []) → IsG H' g m G.swept (gl 1 f (ints (gone G.q)) :: L) → R (.slice (addr f) (gone G.q).length 0) H') : CA en F.grace_Grace_sweep [P g] H R := by
  obtain ⟨b, junk, hb, hbj, h⟩ := hg.ex
  apply vc_grace_Grace_sweep
  refine Sep.nw h fun i1 H2 h2 => Sep.nw h2 fun i3 H4 h4 => ?_
  have hB := h4.bump 10
  refine ⟨_, Sep.ld1 hB rfl, _, Sep.ld1 hB rfl, asAddr_in ⟨_, _, Sep.ld2 hB rfl, ?_⟩⟩
  have h5 : Sep (H4.bump 10) (bx i1 (.cells true 0 [P g]) :: bx i3 (.cells true 0 [.slice none 0 0]) :: gl 2 b (rows G.q ++ junk) :: wm G.q :: bx g (.cells true 0 (P m :: [I G.n, .map (some G.mi), .slice (addr b) G.q.length 0])) :: mem m G.S :: im .i64 G.mi (kset G.ins) :: L) := Sep.pick hB 7 [1, 0, 4, 5, 2, 6, 3] (by decide)
  refine delSw_s rfl h5 hb hbj (by omega) fun H12 f junk' hf hj h12 => ⟨_, _, rfl, asAddr_in (Sep.st5 h12 (Nat.le_of_ble_eq_true rfl) fun H17 h17 => ⟨⟨_, _, Sep.ld1 h17 rfl, Sep.st1 h17 (Nat.le_of_ble_eq_true rfl) fun H22 h22 => ⟨_, _, Sep.ld1 h22 rfl, ?_⟩⟩, ⟨⟨_, Sep.ld1 hB rfl, rfl⟩, ⟨_, Sep.ld0 h12 rfl, rfl⟩, trivial⟩, trivial⟩)⟩
  refine hR H22 f hf ⟨b, junk', fun e => ?_, hj, Sep.pick h22 8 [5, 7, 3, 4, 6, 2] (by decide)⟩
  show kept G.q = []
  rw [hb e]; rfl
def Gr.enter (G : Gr) (a : Int) : Bool × Gr := if a < 0 ∨ G.n ≤ a ∨ a ∈ G.ins then (false, G) else (true, { G with ins := G.ins ++ [a] })
theorem enter_s (hg : IsG H g m G L) (hR : ∀ H', IsG H' g m (G.enter a).2 L → R (.bool (G.enter a).1) H') : CA en F.grace_Grace_Enter [P g, I a] H R := by
  obtain ⟨b, junk, hb, hbj, h⟩ := hg.ex
  apply vc_grace_Grace_Enter
  have no : (a < 0 ∨ G.n ≤ a ∨ a ∈ G.ins) → R (.bool false) H := fun hc => by
    have := hR H
    unfold Gr.enter at this
    rw [if_pos hc] at this
    exact this hg
  refine cond_of (fun c => no (.inl (by simpa using c))) fun c => asAddr_in ⟨_, Sep.ld0 h rfl, cond_of (fun d => no (.inr (.inl (by simpa using d)))) fun d => asAddr_in ⟨_, Sep.ld0 h rfl, inside_m (Sep.up1 h) a (cond_of (fun e => no (.inr (.inr (by simpa using e)))) fun e => asAddr_in ⟨_, Sep.ld0 h rfl, im_put (Sep.up1 h) fun H12 h12 => ?_⟩)⟩⟩
  have c : ¬ a < 0 := by simpa using c
  have d : ¬ G.n ≤ a := by simpa using d
  have e : a ∉ G.ins := by simpa using e
  have := hR H12
  unfold Gr.enter at this
  rw [if_neg (by simp only [not_or]; exact ⟨c, d, e⟩)] at this
  rw [kset_put e] at h12
  exact this ⟨b, junk, hb, hbj, Sep.up1 h12⟩
def er (a : Int) (w : Wt) : Wt := { w with ws := w.ws.erase a }
theorem def1_s {w : Wt} {h : Int} (hs : Sep H (bx i1 (.cells true 0 [I h]) :: L)) (hR : ∀ H', Sep H' (bx i1 (.cells true 0 [I h]) :: L) → R (.bool (w.h == h)) H') : CA en F.grace_Grace_Defer_1 [.agg #[I w.h, .map (some w.mb)], P i1] H R := by
  apply vc_grace_Grace_Defer_1
  exact Sep.nw hs fun i H2 h2 => ⟨_, Sep.ld0 h2 rfl, asAddr_in ⟨_, Sep.ld1 h2 rfl, hR _ h2.tail⟩⟩
theorem hasDef_s {q : List Wt} {n : Nat} {h : Int} (hn : n = q.length) (hs : Sep H (bx i1 (.cells true 0 [I h]) :: gl 2 b (rows q ++ junk) :: L)) (hb : b = none → q = []) (hl : q.length < 1000000)
    (hR : ∀ H', Sep H' (bx i1 (.cells true 0 [I h]) :: gl 2 b (rows q ++ junk) :: L) → R (.bool (decide (h ∈ q.map Wt.h))) H') :
    CA en F.slices_ContainsFunc_grace_wait_grace_wait [.slice (addr b) n 0, .func (.func F.grace_Grace_Defer_1) #[] #[P i1]] H R := by
  subst hn
  apply vc_slices_ContainsFunc_grace_wait_grace_wait
  apply vc_slices_IndexFunc_grace_wait_grace_wait
  refine use_slices_IndexFunc_grace_wait_grace_wait_0 (fun k t4 t8 H => ∃ j : Nat, j ≤ q.length ∧ k = q.length - j ∧ t8 = (j : Int) ∧ (∀ u ∈ q.take j, u.h ≠ h) ∧ Sep H (bx i1 (.cells true 0 [I h]) :: gl 2 b (rows q ++ junk) :: L)) q.length ⟨0, by omega, rfl, rfl, by simp, hs⟩ ?_
  clear hs
  rintro k t4 t8 ys H3 ⟨j, hj, rfl, rfl, hall, hs⟩
  refine cond_of (fun h1 => ?_) fun h1 => ?_
  · have hj' : j < q.length := by simp only [decide_eq_true_eq] at h1; omega
    obtain ⟨w, hw⟩ : ∃ w, q[j]? = some w := ⟨_, List.getElem?_eq_getElem hj'⟩
    cases b with
    | none => rw [hb rfl] at hj'; simp at hj'
    | some b =>
      have hg : H3.get b = some (.cells true 2 (rows q ++ junk)) := gl_get (Sep.up1 hs)
      have hrow := row_at (junk := junk) (j := j) (w := w) hg (by rw [List.drop_append_of_le_length (by rw [rows_len]; omega), rows_drop]) (by rw [List.length_append, rows_len]; omega) hw
      refine ⟨by unfold inB; omega, asRow_in ⟨_, _, hrow, asFn_in ⟨Option.isSome_iff_exists.1 (by kernel_rfl), def1_s hs fun H9 h9 => ⟨_, rfl, cond_of (fun e => ?_) fun e => ?_⟩⟩⟩⟩
      · have e : w.h = h := by simpa using e
        refine asInt_in ⟨_, rfl, ?_⟩
        have := hR H9 h9
        rw [decide_eq_true (List.mem_map.2 ⟨w, List.mem_of_getElem? hw, e⟩)] at this
        have e2 : decide (((j : Nat) : Int) ≥ 0) = true := by simp
        rw [e2]; exact this
      · have e : ¬ w.h = h := by simpa using e
        refine ⟨q.length - (j + 1), by omega, j + 1, by omega, rfl, ?_, ?_, h9⟩
        · rw [wrap_i64 (by omega)]; omega
        · rw [take_drop_cons hw]
          intro u hu
          rcases List.mem_append.1 hu with hu | hu
          · exact hall u hu
          · simp at hu; subst hu; exact e
  · obtain rfl : j = q.length := by simp only [decide_eq_false_iff_not] at h1; omega
    rw [List.take_length] at hall
    refine asInt_in ⟨_, rfl, ?_⟩
    have := hR H3 hs
    rw [decide_eq_false (fun hc => by obtain ⟨w, hw, e⟩ := List.mem_map.1 hc; exact hall w hw e)] at this
    exact this
theorem im_clone {ik : IntKind} {b : Nat} {l : KV} (h : Sep H (im ik b l :: L)) {K : Nat → Heap → Prop} (hK : ∀ b' H', Sep H' (im ik b' l :: im ik b l :: L) → K b' H') : clM H (some b) K := by
  obtain ⟨es, c, h1, h2⟩ := h.head
  refine ⟨b, es, c, rfl, h1, Sep.nw h fun b' H' h' => hK b' H' ?_⟩
  have h3 : H'.get b' = some (.map es c) := Sep.get0 h'
  exact h'.upd (S := []) (Frm.refl _ _) (by simp) ⟨es, c, h3, h2⟩ (by simp [im, bx]) (by simp [im]) (by
    intro j hj
    simp only [im, List.mem_singleton] at hj
    subst hj
    exact h'.footlt (by simp [bx]))
def Gr.add (G : Gr) (h : Int) (mb : Nat) : Gr := { G with q := G.q ++ [⟨h, mb, G.ins⟩] }
def Gr.defer (G : Gr) (h : Int) (mb : Nat) : List Int × Gr := if G.S.size h = 0 ∨ h ∈ G.q.map Wt.h then ([], G) else (gone (G.add h mb).q, (G.add h mb).swept)
theorem defer_s {h : Int} (hg : IsG H g m G L) (hl : G.q.length < 10000) (hR : ∀ H' f mb, (f = none → (G.defer h mb).1 = []) → IsG H' g m (G.defer h mb).2 (gl 1 f (ints (G.defer h mb).1) :: L) → R (.slice (addr f) (G.defer h mb).1.length 0) H') : CA en F.grace_Grace_Defer [P g, I h] H R := by
  obtain ⟨b, junk, hb, hbj, hs⟩ := hg.ex
  apply vc_grace_Grace_Defer
  have no : ∀ H', (G.S.size h = 0 ∨ h ∈ G.q.map Wt.h) → Sep H' (GS g m b junk G L) → R (.slice none 0 0) H' := fun H' hc h' => by
    have := hR H' none 0
    unfold Gr.defer at this
    rw [if_pos hc] at this
    refine this (fun _ => rfl) ⟨b, junk, hb, hbj, ?_⟩
    exact Sep.pick (gl_none.2 h' : Sep H' (gl 1 none (ints []) :: GS g m b junk G L)) 6 [1, 2, 3, 4, 5, 0] (by decide)
  refine Sep.nw hs fun i1 H2 h2 => ?_
  have hB := h2.bump 15
  refine asAddr_in ⟨_, Sep.ld1 hB rfl, _, Sep.ld0 hB rfl, ?_⟩
  refine size_s (Sep.up5 hB) ⟨_, rfl, cond_of (fun c => ⟨no _ (.inl (by simpa using c)) hB.tail, trivial⟩) fun c => ?_⟩
  have c : G.S.size h ≠ 0 := by intro e; rw [e] at c; simp at c
  refine asAddr_in ⟨_, _, Sep.ld1 hB rfl, ?_⟩
  have h3 : Sep (H2.bump 15) (bx i1 (.cells true 0 [I h]) :: gl 2 b (rows G.q ++ junk) :: bx g (.cells true 0 [P m, I G.n, .map (some G.mi), .slice (addr b) G.q.length 0]) :: im .i64 G.mi (kset G.ins) :: wm G.q :: mem m G.S :: L) := Sep.pick hB 6 [0, 3, 1, 2, 4, 5] (by decide)
  refine hasDef_s rfl h3 hb (by omega) fun H15 h15 => ⟨_, rfl, ⟨cond_of (fun d => ?_) fun d => ?_, trivial⟩⟩
  · exact no _ (.inr (by simpa using d)) (Sep.pick h15 6 [2, 3, 1, 4, 5] (by decide))
  · have d : h ∉ G.q.map Wt.h := by simpa using d
    have h16 := h15.bump 17
    refine asAddr_in ⟨_, _, Sep.ld2 h16 rfl, _, Sep.ld0 h16 rfl, asAddr_in ⟨_, Sep.ld2 h16 rfl, ?_⟩⟩
    apply vc_maps_Clone_map_intbool_int_bool
    refine cond_no rfl (im_clone (Sep.up3 h16) fun mb H26 h26 => ⟨_, rfl, Sep.nw h26 fun i28 H29 h29 => ⟨[I h, .map (some mb)], rowOf_bx (es := 2) (n := 1) (b := i28) (Sep.get0 h29) (by decide) rfl, ?_⟩⟩)
    -- i28 mb im i1 gl g wm mem
    have hrl := rows_len G.q
    refine apd_pre' (b := b) (es := 2) (len := G.q.length) (n := 1) (tc := rows G.q ++ junk) (new := [I h, .map (some mb)]) (Sep.up4 h29) (fun e => by rw [hb e]; rfl) (by decide) (by rw [List.length_append, hrl]; omega) (by decide) rfl (by omega) fun H33 b' tc' e1 e2 h33 => ?_
    have e0 : (rows G.q ++ junk).take (G.q.length * 2) = rows G.q := by
      rw [List.take_append_of_le_length (by omega)]; exact List.take_of_length_le (by omega)
    rw [e0] at e1
    have h34 : Sep H33 (bx g (.cells true 0 [P m, I G.n, .map (some G.mi), .slice (addr b) G.q.length 0]) :: im .i64 G.mi (kset G.ins) :: gl 2 (some b') tc' :: wA ⟨h, mb, G.ins⟩ :: wm G.q :: mem m G.S :: L) := Sep.pick h33 8 [5, 3, 0, 2, 6, 7] (by decide)
    refine asAddr_in (Sep.st0 h34 (Nat.le_of_ble_eq_true rfl) fun H36 h36 => ⟨?_, ⟨⟨_, Sep.ld0 h16 rfl, rfl⟩, ⟨_, Sep.ld2 h26 rfl, rfl⟩, trivial⟩, ⟨⟨_, _, Sep.ld2 h16 rfl, rfl, rfl, rfl⟩, ⟨_, _, Sep.ld4 h26 rfl, rfl, rfl, rfl⟩, ⟨_, _, Sep.ld5 h29 rfl, rfl, rfl, rfl⟩, trivial⟩, trivial⟩)
    have h37 := wm_snoc (Sep.pick h36 6 [3, 4, 0, 1, 2, 5] (by decide) : Sep H36 (wA ⟨h, mb, G.ins⟩ :: wm G.q :: bx g (.cells true 0 [P m, I G.n, .map (some G.mi), .slice (addr (some b')) (G.q.length + 1) 0]) :: im .i64 G.mi (kset G.ins) :: gl 2 (some b') tc' :: mem m G.S :: L))
    obtain ⟨J, hJ⟩ : ∃ J, tc' = rows (G.q ++ [⟨h, mb, G.ins⟩]) ++ J := ⟨tc'.drop ((G.q.length + 1) * 2), by
      rw [rows_append]
      have : rows [⟨h, mb, G.ins⟩] = [I h, .map (some mb)] := rfl
      rw [this, ← e1, List.take_append_drop]⟩
    rw [hJ] at h37
    have hlen : (G.q ++ [(⟨h, mb, G.ins⟩ : Wt)]).length = G.q.length + 1 := by simp
    have hA : IsG H36 g m (G.add h mb) L := ⟨some b', J, (fun h => by cases h), (fun h => by cases h), by
      show Sep H36 (bx g (.cells true 0 [P m, I G.n, .map (some G.mi), .slice (addr (some b')) (G.q ++ [(⟨h, mb, G.ins⟩ : Wt)]).length 0]) :: im .i64 G.mi (kset G.ins) :: gl 2 (some b') (rows (G.q ++ [(⟨h, mb, G.ins⟩ : Wt)]) ++ J) :: wm (G.q ++ [(⟨h, mb, G.ins⟩ : Wt)]) :: mem m G.S :: L)
      rw [hlen]
      exact Sep.pick h37 5 [1, 2, 3, 0, 4] (by decide)⟩
    have hdf : G.defer h mb = (gone (G.add h mb).q, (G.add h mb).swept) := if_neg (by simp only [not_or]; exact ⟨c, d⟩)
    refine sweep_s hA (by show (G.q ++ [(⟨h, mb, G.ins⟩ : Wt)]).length < _; rw [hlen]; omega) fun H46 f hf h46 => ⟨_, _, rfl, ?_⟩
    have := hR H46 f mb
    rw [hdf] at this
    exact this hf h46
end Go.Proofs.YtjggeoghlicmdaaGreat
namespace Go.Proofs.YtjggeoghlicmdaaGreat
open Go Go.AS Go.RowKit
set_option linter.unusedVariables false
variable {G : Gr} {C : List Int} {A : List Bool} {a h k : Int} {q : List Wt}
theorem gone_mem : h ∈ gone q ↔ ∃ w ∈ q, w.ws = [] ∧ w.h = h := by
  unfold gone
  rw [List.mem_map]
  constructor
  · rintro ⟨w, hw, e⟩
    rw [List.mem_filter] at hw
    refine ⟨w, hw.1, ?_, e⟩
    by_cases hn : w.ws = []
    · exact hn
    · have := (ne_iff w).2 hn
      rw [this] at hw; simp at hw
  · rintro ⟨w, hw, hn, e⟩
    refine ⟨w, List.mem_filter.2 ⟨hw, ?_⟩, e⟩
    unfold ne; rw [hn]; rfl
theorem kept_mem : h ∈ (kept q).map Wt.h ↔ ∃ w ∈ q, w.ws ≠ [] ∧ w.h = h := by
  unfold kept
  rw [List.mem_map]
  constructor
  · rintro ⟨w, hw, e⟩
    rw [List.mem_filter] at hw
    exact ⟨w, hw.1, (ne_iff w).1 hw.2, e⟩
  · rintro ⟨w, hw, hn, e⟩
    exact ⟨w, List.mem_filter.2 ⟨hw, (ne_iff w).2 hn⟩, e⟩
theorem same_of_h : ∀ {q : List Wt}, (q.map Wt.h).Nodup → ∀ {w w' : Wt}, w ∈ q → w' ∈ q → w.h = w'.h → w = w'
  | [], _, _, _, h1, _, _ => by simp at h1
  | x :: q, nd, w, w', h1, h2, e => by
    rw [List.map_cons, List.nodup_cons] at nd
    rcases List.mem_cons.1 h1 with h1 | h1
    · rcases List.mem_cons.1 h2 with h2 | h2
      · rw [h1, h2]
      · exact (nd.1 (List.mem_map.2 ⟨w', h2, by rw [← e, h1]⟩)).elim
    · rcases List.mem_cons.1 h2 with h2 | h2
      · exact (nd.1 (List.mem_map.2 ⟨w, h1, by rw [e, h2]⟩)).elim
      · exact same_of_h nd.2 h1 h2 e
theorem gone_kept (nd : (q.map Wt.h).Nodup) (h1 : h ∈ gone q) : h ∉ (kept q).map Wt.h := fun h2 => by
  obtain ⟨w, hw, e, eh⟩ := gone_mem.1 h1
  obtain ⟨w', hw', e', eh'⟩ := kept_mem.1 h2
  exact e' (same_of_h nd hw hw' (eh.trans eh'.symm) ▸ e)
theorem gone_sub (h1 : h ∈ gone q) : h ∈ q.map Wt.h := by
  obtain ⟨w, hw, _, e⟩ := gone_mem.1 h1
  exact List.mem_map.2 ⟨w, hw, e⟩
theorem kept_sub (h1 : h ∈ (kept q).map Wt.h) : h ∈ q.map Wt.h := by
  obtain ⟨w, hw, _, e⟩ := kept_mem.1 h1
  exact List.mem_map.2 ⟨w, hw, e⟩
theorem gone_nd (nd : (q.map Wt.h).Nodup) : (gone q).Nodup := List.Sublist.nodup (List.Sublist.map _ List.filter_sublist) nd
theorem kept_nd (nd : (q.map Wt.h).Nodup) : ((kept q).map Wt.h).Nodup := List.Sublist.nodup (List.Sublist.map _ List.filter_sublist) nd
structure Pre (G : Gr) : Prop where
  ind : G.ins.Nodup
  nd : (G.q.map Wt.h).Nodup
  ws : ∀ w ∈ G.q, (∀ a ∈ w.ws, a ∈ G.ins) ∧ w.ws.Nodup
structure Ok (G : Gr) : Prop extends Pre G where
  full : ∀ w ∈ G.q, w.ws ≠ []
theorem Pre.swept (p : Pre G) : Ok G.swept := by
  refine ⟨⟨p.ind, kept_nd p.nd, fun w hw => p.ws w (List.mem_filter.1 hw).1⟩, fun w hw => (ne_iff w).1 (List.mem_filter.1 hw).2⟩
theorem Ok.add {mb : Nat} (p : Ok G) (h : Int) (hn : h ∉ G.q.map Wt.h) : Pre (G.add h mb) := by
  refine ⟨p.ind, ?_, fun w hw => ?_⟩
  · show ((G.q ++ [_]).map Wt.h).Nodup
    rw [List.map_append]
    exact List.nodup_append.2 ⟨p.nd, by simp, fun x hx y hy e => by simp at hy; subst hy; subst e; exact hn hx⟩
  · rcases List.mem_append.1 hw with hw | hw
    · exact p.ws w hw
    · simp at hw; subst hw
      exact ⟨fun a h => h, p.ind⟩
end Go.Proofs.YtjggeoghlicmdaaGreat
namespace Go.Proofs.YtjggeoghlicmdaaGreat
open Go Go.AS Go.RowKit
set_option linter.unusedVariables false
set_option maxRecDepth 100000
set_option maxHeartbeats 2000000
theorem vc_lock_Take (x0 : Option Addr) (x1 : Int) (x2 : Int) (H : Heap) (R : Value → Heap → Prop) :
    (
 nwH H (.cells true 0 [(.pointer x0), (.int .i64 x1), (.int .i64 x2), (.int .u64 0), .nilFunc]) fun i1 H2 =>
 stc H2 i1 4 [(.func (.func F.lock_Taker_draw) #[(.pointer (some ⟨i1, 0, none⟩))] #[])] fun H3 =>
 R (.pointer (some ⟨i1, 0, none⟩)) H3) →
    CA en F.lock_Take [(.pointer x0), (.int .i64 x1), (.int .i64 x2)] H R := by
  intro h
  refine wpFn_ok (Z := []) (fn := Go.Proofs.Tryz.f120) ?_ ?_ ?_
  · kernel_rfl
  · kernel_rfl
  · apply turnInto h
    kernel_rfl
theorem vc_lock_Taker_Step (x0 : Option Addr) (H : Heap) (R : Value → Heap → Prop) :
    (
 AS.asAddr (.pointer x0) fun i1 i2 =>
 ∃ v3, H.cell i1 (i2 + 4) = some v3 ∧
 AS.asFn v3 fun f4 l5 l6 =>
 (∃ fn, en.fn f4 = some fn) ∧
 CA en f4 (l5 ++ [] ++ l6) H fun v7 H8 =>
 ∃ b9, v7 = (.bool b9) ∧
 R (.bool b9) H8) →
    CA en F.lock_Taker_Step [(.pointer x0)] H R := by
  intro h
  refine wpFn_ok (Z := []) (fn := Go.Proofs.Tryz.f123) ?_ ?_ ?_
  · kernel_rfl
  · kernel_rfl
  · apply turnInto h
    kernel_rfl
theorem vc_lock_Drop (x0 : Option Addr) (x1 : Int) (x2 : Int) (H : Heap) (R : Value → Heap → Prop) :
    (
 CA en F.lock_more [(.pointer x0), (.int .i64 x1), (.int .i64 (IntKind.i64.wrap (x2 + 1)))] H fun v1 H2 =>
 ∃ n3, ∃ b4, v1 = (.tuple #[(.int .u64 n3), (.bool b4)]) ∧
 R (.bool b4) H2) →
    CA en F.lock_Drop [(.pointer x0), (.int .i64 x1), (.int .i64 x2)] H R := by
  intro h
  refine wpFn_ok (Z := []) (fn := Go.Proofs.Tryz.f135) ?_ ?_ ?_
  · kernel_rfl
  · kernel_rfl
  · apply turnInto h
    kernel_rfl
theorem vc_lock_Taker_draw (x0 : Option Addr) (H : Heap) (R : Value → Heap → Prop) :
    (
 AS.asAddr (.pointer x0) fun i1 i2 =>
 ∃ a3, (H.bump 18).cell i1 i2 = some (.pointer a3) ∧
 AS.asAddr (.pointer x0) fun i4 i5 =>
 ∃ n6, (H.bump 18).cell i4 (i5 + 1) = some (.int .i64 n6) ∧
 AS.asAddr (.pointer x0) fun i7 i8 =>
 ∃ n9, (H.bump 18).cell i7 (i8 + 2) = some (.int .i64 n9) ∧
 CA en F.lock_more [(.pointer a3), (.int .i64 n6), (.int .i64 n9)] (H.bump 18) fun v10 H11 =>
 ∃ n12, ∃ b13, v10 = (.tuple #[(.int .u64 n12), (.bool b13)]) ∧
 (
 bif b13 then (
 AS.asAddr (.pointer x0) fun i14 i15 =>
 stc H11 i14 (i15 + 3) [(.int .u64 n12)] fun H16 =>
 AS.asAddr (.pointer x0) fun i17 i18 =>
 stc H16 i17 (i18 + 4) [(.func (.func F.lock_Taker_wait) #[(.pointer x0)] #[])] fun H19 =>
 R (.bool false) H19)
 else (
 R (.bool false) H11)) ∧
 True) →
    CA en F.lock_Taker_draw [(.pointer x0)] H R := by
  intro h
  refine wpFn_ok (Z := []) (fn := Go.Proofs.Tryz.f180) ?_ ?_ ?_
  · kernel_rfl
  · kernel_rfl
  · apply turnInto h
    kernel_rfl
theorem vc_lock_more (x0 : Option Addr) (x1 : Int) (x2 : Int) (H : Heap) (R : Value → Heap → Prop) :
    (
 CA en F.smem_Mem_Fetch [(.pointer x0), (.int .i64 x1), (.int .i64 x2), (.int .i64 0), (.int .u64 18446744073709551615), (.int .u64 1)] H fun v1 H2 =>
 ∃ n3, ∃ b4, v1 = (.tuple #[(.int .u64 n3), (.bool b4)]) ∧
 R (.tuple #[(.int .u64 n3), (.bool b4)]) H2) →
    CA en F.lock_more [(.pointer x0), (.int .i64 x1), (.int .i64 x2)] H R := by
  intro h
  refine wpFn_ok (Z := []) (fn := Go.Proofs.Tryz.f189) ?_ ?_ ?_
  · kernel_rfl
  · kernel_rfl
  · apply turnInto h
    kernel_rfl
theorem vc_lock_Taker_wait (x0 : Option Addr) (H : Heap) (R : Value → Heap → Prop) :
    (
 AS.asAddr (.pointer x0) fun i1 i2 =>
 ∃ a3, (H.bump 19).cell i1 i2 = some (.pointer a3) ∧
 AS.asAddr (.pointer x0) fun i4 i5 =>
 ∃ n6, (H.bump 19).cell i4 (i5 + 1) = some (.int .i64 n6) ∧
 AS.asAddr (.pointer x0) fun i7 i8 =>
 ∃ n9, (H.bump 19).cell i7 (i8 + 2) = some (.int .i64 n9) ∧
 CA en F.smem_Mem_Load [(.pointer a3), (.int .i64 n6), (.int .i64 (IntKind.i64.wrap (n9 + 1)))] (H.bump 19) fun v10 H11 =>
 ∃ n12, ∃ b13, v10 = (.tuple #[(.int .u64 n12), (.bool b13)]) ∧
 (
 bif (!b13) then (
 R (.bool false) H11)
 else (
 AS.asAddr (.pointer x0) fun i14 i15 =>
 ∃ n16, H11.cell i14 (i15 + 3) = some (.int .u64 n16) ∧
 bif (n12 != n16) then (
 R (.bool false) H11)
 else (
 AS.asAddr (.pointer x0) fun i17 i18 =>
 stc H11 i17 (i18 + 4) [(.func (.func F.lock_Taker_got) #[(.pointer x0)] #[])] fun H19 =>
 R (.bool true) H19))) ∧
 True) →
    CA en F.lock_Taker_wait [(.pointer x0)] H R := by
  intro h
  refine wpFn_ok (Z := []) (fn := Go.Proofs.Tryz.f239) ?_ ?_ ?_
  · kernel_rfl
  · kernel_rfl
  · apply turnInto h
    kernel_rfl
theorem vc_lock_Taker_got (x0 : Option Addr) (H : Heap) (R : Value → Heap → Prop) :
    (
 R (.bool true) H) →
    CA en F.lock_Taker_got [(.pointer x0)] H R := by
  intro h
  refine wpFn_ok (Z := []) (fn := Go.Proofs.Tryz.f289) ?_ ?_ ?_
  · kernel_rfl
  · kernel_rfl
  · apply turnInto h
    kernel_rfl
end Go.Proofs.YtjggeoghlicmdaaGreat
namespace Go.Proofs.YtjggeoghlicmdaaGreat
open Go Go.AS Go.RowKit
set_option linter.unusedVariables false
variable {H H' : Heap} {m : Nat} {S S' : Sm} {R : Value → Heap → Prop} {L : List Asr} {ws : List (BitVec 64)} {c : Int}
theorem wrs {n : Int} (h : -9223372036854775808 ≤ n ∧ n < 9223372036854775808) : wr n = n := wrap_i64 h
def tkc (m i : Nat) (t : BitVec 64) (f b : Nat) : List Value := [P m, I 1, I i, W t, .func (.func f) #[P b] #[]]
abbrev tk (m i : Nat) (t : BitVec 64) (f b : Nat) : Asr := bx b (.cells true 0 (tkc m i t f b))
variable {b i : Nat} {t : BitVec 64}
end Go.Proofs.YtjggeoghlicmdaaGreat
namespace Go.Proofs.YtjggeoghlicmdaaGreat
open Go Go.AS Go.RowKit
set_option linter.unusedVariables false
set_option maxRecDepth 100000
set_option maxHeartbeats 2000000
theorem vc_decl_kinds (x0 : Int) (H : Heap) (R : Value → Heap → Prop) :
    (
 nwH H (.cells true 0 [(.int .i64 0), (.bool false), (.bool false), (.slice none 0 0), (.bool false)]) fun i1 H2 =>
 nwH H2 (.cells true 1 [(.int .i64 1), (.int .i64 2), (.int .i64 4)]) fun i3 H4 =>
 nwH H4 (.cells true 1 [(.int .i64 6), (.int .i64 7), (.int .i64 8)]) fun i5 H6 =>
 nwH H6 (.cells true 1 [(.int .i64 3), (.int .i64 5)]) fun i7 H8 =>
 ∃ l9, rowOf H8 1 (some ⟨i3, 0, none⟩) 3 = some l9 ∧
 apd H8 8 1 (some ⟨i7, 0, none⟩) 2 3 l9 fun a10 i11 H12 =>
 nwH H12 (.cells true 1 [(.int .i64 3)]) fun i13 H14 =>
 ∃ l15, rowOf H14 1 (some ⟨i3, 0, none⟩) 3 = some l15 ∧
 apd H14 8 1 (some ⟨i13, 0, none⟩) 1 3 l15 fun a16 i17 H18 =>
 nwH H18 (.cells true 1 [(.int .i64 6), (.int .i64 8)]) fun i19 H20 =>
 nwH H20 (.cells true 0 [(.int .i64 0), (.bool false), (.bool false), (.slice none 0 0), (.bool false), (.int .i64 0), (.bool false), (.bool false), (.slice none 0 0), (.bool false), (.int .i64 0), (.bool false), (.bool false), (.slice none 0 0), (.bool false), (.int .i64 0), (.bool false), (.bool false), (.slice none 0 0), (.bool false), (.int .i64 0), (.bool false), (.bool false), (.slice none 0 0), (.bool false), (.int .i64 0), (.bool false), (.bool false), (.slice none 0 0), (.bool false), (.int .i64 0), (.bool false), (.bool false), (.slice none 0 0), (.bool false), (.int .i64 0), (.bool false), (.bool false), (.slice none 0 0), (.bool false), (.int .i64 0), (.bool false), (.bool false), (.slice none 0 0), (.bool false), (.int .i64 0), (.bool false), (.bool false), (.slice none 0 0), (.bool false), (.int .i64 0), (.bool false), (.bool false), (.slice none 0 0), (.bool false)]) fun i21 H22 =>
 stc H22 i21 0 [(.int .i64 0), (.bool false), (.bool false), (.slice none 0 0), (.bool false), (.int .i64 1), (.bool false), (.bool false), (.slice (some ⟨i3, 0, none⟩) 3 0), (.bool false), (.int .i64 1), (.bool false), (.bool false), (.slice (some ⟨i3, 0, none⟩) 3 0), (.bool false), (.int .i64 4), (.bool false), (.bool false), (.slice (some ⟨i3, 0, none⟩) 3 0), (.bool false), (.int .i64 1), (.bool true), (.bool false), (.slice a10 i11 0), (.bool true), (.int .i64 1), (.bool false), (.bool false), (.slice a10 i11 0), (.bool false), (.int .i64 4), (.bool false), (.bool false), (.slice (some ⟨i5, 0, none⟩) 3 0), (.bool false), (.int .i64 4), (.bool false), (.bool false), (.slice (some ⟨i5, 0, none⟩) 3 0), (.bool false), (.int .i64 1), (.bool true), (.bool false), (.slice (some ⟨i19, 0, none⟩) 2 0), (.bool false), (.int .i64 1), (.bool false), (.bool true), (.slice a16 i17 0), (.bool false), (.int .i64 1), (.bool true), (.bool true), (.slice a16 i17 0), (.bool true)] fun H23 =>
 bif (decide (x0 < 1)) then (
 stc H23 i1 0 [(.int .i64 0), (.bool false), (.bool false), (.slice none 0 0), (.bool false)] fun H24 =>
 ∃ n25, ∃ b26, ∃ b27, ∃ a28 i29, ∃ b30, H24.cellsAt i1 0 5 = some [(.int .i64 n25), (.bool b26), (.bool b27), (.slice a28 i29 0), (.bool b30)] ∧
 R (.tuple #[(.agg #[(.int .i64 n25), (.bool b26), (.bool b27), (.slice a28 i29 0), (.bool b30)]), (.bool false)]) H24)
 else (
 bif (decide (x0 ≥ 11)) then (
 stc H23 i1 0 [(.int .i64 0), (.bool false), (.bool false), (.slice none 0 0), (.bool false)] fun H31 =>
 ∃ n32, ∃ b33, ∃ b34, ∃ a35 i36, ∃ b37, H31.cellsAt i1 0 5 = some [(.int .i64 n32), (.bool b33), (.bool b34), (.slice a35 i36 0), (.bool b37)] ∧
 R (.tuple #[(.agg #[(.int .i64 n32), (.bool b33), (.bool b34), (.slice a35 i36 0), (.bool b37)]), (.bool false)]) H31)
 else (
 inB x0 11 ∧
 ∃ n38, ∃ b39, ∃ b40, ∃ a41 i42, ∃ b43, H23.cellsAt i21 (0 + (x0.toNat * 5)) 5 = some [(.int .i64 n38), (.bool b39), (.bool b40), (.slice a41 i42 0), (.bool b43)] ∧
 stc H23 i1 0 [(.int .i64 n38), (.bool b39), (.bool b40), (.slice a41 i42 0), (.bool b43)] fun H44 =>
 ∃ n45, ∃ b46, ∃ b47, ∃ a48 i49, ∃ b50, H44.cellsAt i1 0 5 = some [(.int .i64 n45), (.bool b46), (.bool b47), (.slice a48 i49 0), (.bool b50)] ∧
 R (.tuple #[(.agg #[(.int .i64 n45), (.bool b46), (.bool b47), (.slice a48 i49 0), (.bool b50)]), (.bool true)]) H44))) →
    CA en F.decl_kinds [(.int .i64 x0)] H R := by
  intro h
  refine wpFn_ok (Z := []) (fn := Go.Proofs.Tryz.f229) ?_ ?_ ?_
  · kernel_rfl
  · kernel_rfl
  · apply turnInto h
    kernel_rfl
theorem vc_decl_within (x0 : Int) (x1 : Int) (H : Heap) (R : Value → Heap → Prop) :
    (
 bif (decide (x0 ≥ 1)) then (
 R (.bool (decide (x0 ≤ x1))) H)
 else (
 R (.bool false) H)) →
    CA en F.decl_within [(.int .i64 x0), (.int .i64 x1)] H R := by
  intro h
  refine wpFn_ok (Z := []) (fn := Go.Proofs.Tryz.f230) ?_ ?_ ?_
  · kernel_rfl
  · kernel_rfl
  · apply turnInto h
    kernel_rfl
theorem vc_decl_Bucket (x0 : Int) (x1 : Int) (H : Heap) (R : Value → Heap → Prop) :
    (
 bif (decide (x1 < 1)) then (
 R (.int .i64 0) H)
 else (
 nn 32 ∧
 nz (IntKind.u64.wrap x1) ∧
 R (.int .i64 (IntKind.i64.wrap (Int.tmod (Int.fdiv (IntKind.u64.wrap (x0 * 11400714819323198485)) 4294967296) (IntKind.u64.wrap x1)))) H)) →
    CA en F.decl_Bucket [(.int .u64 x0), (.int .i64 x1)] H R := by
  intro h
  refine wpFn_ok (Z := []) (fn := Go.Proofs.Tryz.f71) ?_ ?_ ?_
  · kernel_rfl
  · kernel_rfl
  · apply turnInto h
    kernel_rfl
end Go.Proofs.YtjggeoghlicmdaaGreat
namespace Go.AS
open Go.RowKit
set_option linter.unusedVariables false
section
variable {E : Env}
def contig (E : Env) : List Field → Nat → Option Nat
  | [], o => some o
  | f :: fs, o => bif Nat.beq f.offset o then (match sizeA E f.type with
    | some n => contig E fs (o + n)
    | none => none) else none
def okTy (E : Env) : Nat → Nat → Bool
  | 0, _ => false
  | d + 1, t => match und E t with
    | some .bool => true
    | some (.int _) => true
    | some (.slice e) => okTy E d e && (match sizeA E e with
      | some n => Nat.ble 1 n
      | none => false)
    | some (.struct fs) => (fs.toList.all fun f => okTy E d f.type) && (match sizeA E t, contig E fs.toList 0 with
      | some n, some m => Nat.beq n m
      | _, _ => false)
    | _ => false
def shpFs (p : Nat → List Value → Prop) : List Field → List Value → Prop
  | [], vs => vs = []
  | f :: fs, vs => ∃ a b, vs = a ++ b ∧ p f.type a ∧ shpFs p fs b
def shp (E : Env) (H : Heap) : Nat → Nat → List Value → Prop
  | 0, _, _ => False
  | d + 1, t, vs => match und E t with
    | some .bool => ∃ b, vs = [.bool b]
    | some (.int k) => ∃ n, vs = [.int k n] ∧ (Lit.int k n).wf = true
    | some (.slice e) => vs = [.slice none 0 0] ∨ ∃ (i : Nat) (cs : List (List Value)), vs = [.slice (some ⟨i, 0, none⟩) cs.length 0] ∧ i < H.next ∧ H.get i = some (.cells false 0 cs.flatten) ∧ ∀ c ∈ cs, shp E H d e c
    | some (.struct fs) => shpFs (fun t vs => shp E H d t vs) fs.toList vs
    | _ => False
theorem shpFs_mono {p q : Nat → List Value → Prop} (h : ∀ t vs, p t vs → q t vs) : ∀ {fs : List Field} {vs : List Value}, shpFs p fs vs → shpFs q fs vs
  | [], vs, hp => hp
  | f :: fs, vs, ⟨a, b, e, h1, h2⟩ => ⟨a, b, e, h _ _ h1, shpFs_mono h h2⟩
theorem shp_frm {H H' : Heap} (hf : Frm [] H H') : ∀ {d t : Nat} {vs : List Value}, shp E H d t vs → shp E H' d t vs
  | 0, _, _, h => h.elim
  | d + 1, t, vs, h => by
    unfold shp at h ⊢
    split
    · rename_i hu; rw [hu] at h; exact h
    · rename_i hu; rw [hu] at h; exact h
    · rename_i hu
      rw [hu] at h
      rcases h with h | ⟨i, cs, h1, h2, h3, h4⟩
      · exact .inl h
      · exact .inr ⟨i, cs, h1, Nat.lt_of_lt_of_le h2 hf.1, by rw [hf.2 i h2 (by simp)]; exact h3, fun c hc => shp_frm hf (h4 c hc)⟩
    · rename_i hu
      rw [hu] at h
      exact shpFs_mono (fun t vs hs => shp_frm hf hs) h
    · rename_i h1 h2 h3 h4
      split at h
      · rename_i hu; exact (h1 hu).elim
      · rename_i hu; exact (h2 _ hu).elim
      · rename_i hu; exact (h3 _ hu).elim
      · rename_i hu; exact (h4 _ hu).elim
      · exact h
def Opened (E : Env) (w : World) (μ : Inj) (H : Heap) (P : Heap → List Value → Prop) (CS : List Value) : Prop :=
  ∃ (μ' : Inj) (H' : Heap) (vs : List Value), Grow H μ H' μ' ∧ HRel E w.heap.size μ' H' w ∧ VRels μ' vs CS ∧ P H' vs ∧ Frm [] H H' ∧ vs.all one = true
theorem flatten_vrels {μ : Inj} : ∀ {cs CS : List (List Value)}, cs.length = CS.length → (∀ (j : Nat) (c C : List Value), cs[j]? = some c → CS[j]? = some C → VRels μ c C) → VRels μ cs.flatten CS.flatten
  | [], [], _, _ => .nil
  | [], _ :: _, h, _ => by simp at h
  | _ :: _, [], h, _ => by simp at h
  | c :: cs, C :: CS, h, hh => by
    simp only [List.flatten_cons]
    exact (hh 0 c C rfl rfl).append (flatten_vrels (by simpa using h) fun j a b ha hb => hh (j + 1) a b (by simpa using ha) (by simpa using hb))
variable {w : World} {D : Type} {enc : TypeId × Value → D} {spare : Nat → Bool} {held : Bool}
theorem open_list {p : Heap → List Value → Prop} (hp : ∀ {H H' : Heap} {vs : List Value}, Frm [] H H' → p H vs → p H' vs) : ∀ (CSs : List (List Value)),
    (∀ CS ∈ CSs, ∀ {μ : Inj} {H : Heap}, HRel E w.heap.size μ H w → Opened E w μ H p CS) → ∀ {μ : Inj} {H : Heap}, HRel E w.heap.size μ H w →
    ∃ (μ' : Inj) (H' : Heap) (css : List (List Value)), Grow H μ H' μ' ∧ HRel E w.heap.size μ' H' w ∧ css.length = CSs.length ∧ (∀ (j : Nat) (c C : List Value), css[j]? = some c → CSs[j]? = some C → VRels μ' c C) ∧ (∀ c ∈ css, p H' c) ∧ Frm [] H H' ∧ (∀ c ∈ css, c.all one = true)
  | [], _, μ, H, hH => ⟨μ, H, [], Grow.refl _ _, hH, rfl, by simp, by simp, Frm.refl _ _, by simp⟩
  | CS :: CSs, hop, μ, H, hH => by
    obtain ⟨μ1, H1, vs, g1, h1, r1, p1, f1, o1⟩ := hop CS (by simp) hH
    obtain ⟨μ2, H2, css, g2, h2, l2, r2, p2, f2, o2⟩ := open_list (p := p) hp CSs (fun C hC => hop C (List.mem_cons_of_mem _ hC)) h1
    refine ⟨μ2, H2, vs :: css, g1.trans g2, h2, by simp [l2], ?_, ?_, f1.trans f2 (by simp), ?_⟩
    · intro j c C hc hC
      cases j with
      | zero => simp at hc hC; subst hc; subst hC; exact VRels.mono g2.le r1
      | succ j => simp at hc hC; exact r2 j c C hc hC
    · intro c hc
      rcases List.mem_cons.1 hc with rfl | hc
      · exact hp f2 p1
      · exact p2 c hc
    · intro c hc
      rcases List.mem_cons.1 hc with rfl | hc
      · exact o1
      · exact o2 c hc
theorem open_fields {d fuel : Nat} (hE : E.Ok) (ih : ∀ (t : Nat) (CS : List Value) x, DataW.trod enc E.prog w 0 spare held fuel t CS = some x → okTy E d t = true → ∀ {μ : Inj} {H : Heap}, HRel E w.heap.size μ H w → Opened E w μ H (fun H' vs => shp E H' d t vs) CS) :
    ∀ (fs : List Field) (o : Nat) (CS : List Value), (∀ f ∈ fs, okTy E d f.type = true) → contig E fs o = some CS.length → (∀ f ∈ fs, ∃ x, DataW.trod enc E.prog w 0 spare held fuel f.type ((CS.drop f.offset).take (E.prog.cellsOf f.type)) = some x) →
    ∀ {μ : Inj} {H : Heap}, HRel E w.heap.size μ H w → Opened E w μ H (fun H' vs => shpFs (fun t vs => shp E H' d t vs) fs vs) (CS.drop o)
  | [], o, CS, _, hc, _, μ, H, hH => by
    simp only [contig, Option.some.injEq] at hc
    subst hc
    refine ⟨μ, H, [], Grow.refl _ _, hH, ?_, rfl, Frm.refl _ _, rfl⟩
    rw [List.drop_length]; exact .nil
  | f :: fs, o, CS, hok, hc, hx, μ, H, hH => by
    simp only [contig] at hc
    cases hb : Nat.beq f.offset o with
    | false => rw [hb] at hc; cases hc
    | true =>
      rw [hb] at hc
      obtain rfl := Nat.eq_of_beq_eq_true hb
      simp only [cond_true] at hc
      cases hs : sizeA E f.type with
      | none => rw [hs] at hc; cases hc
      | some n =>
        rw [hs] at hc
        simp only at hc
        obtain ⟨x, hx0⟩ := hx f (by simp)
        obtain ⟨μ1, H1, vs, g1, h1, r1, p1, f1, o1⟩ := ih f.type _ x hx0 (hok f (by simp)) hH
        have hcell : E.prog.cellsOf f.type = n := by
          unfold sizeA at hs
          cases hi : E.ty f.type with
          | none => rw [hi] at hs; cases hs
          | some i =>
            rw [hi] at hs
            simp only [Option.map_some, Option.some.injEq] at hs
            have := hE.ty _ _ hi
            unfold Program.cellsOf
            rw [this]; simpa using hs
        obtain ⟨μ2, H2, vs2, g2, h2, r2, p2, f2, o2⟩ := open_fields hE ih fs (f.offset + n) CS (fun g hg => hok g (by simp [hg])) hc (fun g hg => hx g (by simp [hg])) h1
        refine ⟨μ2, H2, vs ++ vs2, g1.trans g2, h2, ?_, ⟨vs, vs2, rfl, shp_frm f2 p1, p2⟩, f1.trans f2 (by simp), by simp [o1, o2]⟩
        have e : CS.drop f.offset = (CS.drop f.offset).take n ++ CS.drop (f.offset + n) := by
          rw [← List.drop_drop]; exact (List.take_append_drop _ _).symm
        rw [e]
        rw [hcell] at r1
        exact (VRels.mono g2.le r1).append r2
theorem cellsOf_size (hE : E.Ok) {t n : Nat} (hs : sizeA E t = some n) : E.prog.cellsOf t = n := by
  unfold sizeA at hs
  cases hi : E.ty t with
  | none => rw [hi] at hs; cases hs
  | some i =>
    rw [hi] at hs
    simp only [Option.map_some, Option.some.injEq] at hs
    have := hE.ty _ _ hi
    unfold Program.cellsOf
    rw [this]; simpa using hs
theorem cells?_get {w : World} {a : Addr} {n : Nat} {CS : List Value} (h : w.cells? 0 a n = some CS) : CS.length = n ∧ ∀ j, j < n → w.cell? (a.add j) = CS[j]? := by
  unfold World.cells? at h
  rw [if_pos (Nat.zero_le _)] at h
  refine ⟨by simpa using mapM_some_length h, fun j hj => ?_⟩
  exact mapM_some_get h j j (by simp [hj])
theorem flatten_len {α : Type} {z : Nat} : ∀ {l : List (List α)}, (∀ c ∈ l, c.length = z) → l.flatten.length = l.length * z
  | [], _ => by simp
  | c :: l, h => by
    simp only [List.flatten_cons, List.length_append, List.length_cons]
    rw [h c (by simp), flatten_len fun c hc => h c (by simp [hc]), Nat.succ_mul, Nat.add_comm]
theorem flatten_get {α : Type} {z : Nat} : ∀ {l : List (List α)} {k : Nat}, (∀ c ∈ l, c.length = z) → 0 < z → k < l.length * z → ∃ c, l[k / z]? = some c ∧ l.flatten[k]? = c[k % z]?
  | [], k, _, _, h => by simp at h
  | c :: l, k, h, hz, hk => by
    have hc := h c (by simp)
    by_cases hlt : k < z
    · refine ⟨c, by rw [Nat.div_eq_of_lt hlt]; rfl, ?_⟩
      rw [List.flatten_cons, List.getElem?_append_left (by omega), Nat.mod_eq_of_lt hlt]
    · have hk' : k - z < l.length * z := by
        simp only [List.length_cons, Nat.succ_mul] at hk
        omega
      obtain ⟨c', h1, h2⟩ := flatten_get (l := l) (k := k - z) (fun c hc => h c (by simp [hc])) hz hk'
      have hk2 : k = (k - z) + z := by omega
      refine ⟨c', ?_, ?_⟩
      · rw [hk2, Nat.add_div_right _ hz]; simpa using h1
      · rw [List.flatten_cons, List.getElem?_append_right (by omega), hc, h2]
        conv => rhs; rw [hk2, Nat.add_mod_right]
theorem open_cells (hE : E.Ok) : ∀ (fuel t : Nat) (CS : List Value) (x : DataW D × List MemPlace), DataW.trod enc E.prog w 0 spare held fuel t CS = some x → ∀ (d : Nat), okTy E d t = true →
    ∀ {μ : Inj} {H : Heap}, HRel E w.heap.size μ H w → Opened E w μ H (fun H' vs => shp E H' d t vs) CS
  | 0, t, CS, x, h, d, ho, μ, H, hH => by simp [DataW.trod] at h
  | fuel + 1, t, CS, x, h, 0, ho, μ, H, hH => by simp [okTy] at ho
  | fuel + 1, t, CS, x, h, d + 1, ho, μ, H, hH => by
    have ih := open_cells hE fuel
    unfold okTy at ho
    split at ho
    · rename_i hu
      have hP := und_ok hE hu
      unfold DataW.trod at h
      rw [hP] at h
      split at h <;> simp_all
      exact ⟨μ, H, [.bool _], Grow.refl _ _, hH, .cons (.bool _) .nil, by unfold shp; rw [hu]; exact ⟨_, rfl⟩, Frm.refl _ _, rfl⟩
    · rename_i k hu
      have hP := und_ok hE hu
      obtain ⟨n, rfl, hx, hw⟩ := DataW.trod_int hP h
      exact ⟨μ, H, [.int k n], Grow.refl _ _, hH, .cons (.int _ _) .nil, by unfold shp; rw [hu]; exact ⟨n, rfl, hw⟩, Frm.refl _ _, rfl⟩
    · rename_i e hu
      have hP := und_ok hE hu
      simp only [Bool.and_eq_true] at ho
      obtain ⟨ho1, ho2⟩ := ho
      cases hs : sizeA E e with
      | none => rw [hs] at ho2; cases ho2
      | some z =>
        rw [hs] at ho2
        simp only at ho2
        have hz : 0 < z := Nat.le_of_ble_eq_true ho2
        have hcell := cellsOf_size hE hs
        have hform : CS = [.slice none 0 0] ∨ ∃ a len cap, CS = [.slice (some a) len cap] := by
          unfold DataW.trod at h
          rw [hP] at h
          split at h <;> simp_all
        rcases hform with rfl | ⟨a, len, cap, rfl⟩
        · exact ⟨μ, H, [.slice none 0 0], Grow.refl _ _, hH, .cons .sliceNil .nil, by unfold shp; rw [hu]; exact .inl rfl, Frm.refl _ _, rfl⟩
        · have hel : len ≤ cap ∧ ∃ elems : List (DataW D × List MemPlace), (List.range len).mapM (fun i => (w.cells? 0 (a.add (i * z)) z).bind (DataW.trod enc E.prog w 0 spare held fuel e)) = some elems := by
            unfold DataW.trod at h
            rw [hP] at h
            simp only [hcell] at h
            split at h
            · rename_i hc
              refine ⟨hc.2.1, ?_⟩
              cases hm : (List.range len).mapM (fun i => (w.cells? 0 (a.add (i * z)) z).bind (DataW.trod enc E.prog w 0 spare held fuel e)) with
              | none => rw [hm] at h; simp at h
              | some el => exact ⟨el, rfl⟩
            · cases h
          obtain ⟨hle, elems, hel⟩ := hel
          have each : ∀ i, i < len → ∃ C x, w.cells? 0 (a.add (i * z)) z = some C ∧ DataW.trod enc E.prog w 0 spare held fuel e C = some x := by
            intro i hi
            have h1 := mapM_some_get hel i i (by simp [hi])
            have hl := mapM_some_length hel
            simp only [List.length_range] at hl
            rw [List.getElem?_eq_getElem (by omega : i < elems.length)] at h1
            cases hc : w.cells? 0 (a.add (i * z)) z with
            | none => rw [hc] at h1; cases h1
            | some C => rw [hc] at h1; exact ⟨C, _, rfl, h1⟩
          -- the elements' cells
          let CSs : List (List Value) := (List.range len).map fun i => (w.cells? 0 (a.add (i * z)) z).getD []
          have hCl : CSs.length = len := by simp [CSs]
          have hCg : ∀ i, i < len → ∃ C, CSs[i]? = some C ∧ w.cells? 0 (a.add (i * z)) z = some C := by
            intro i hi
            obtain ⟨C, x', h1, h2⟩ := each i hi
            exact ⟨C, by simp [CSs, hi, h1], h1⟩
          obtain ⟨μ1, H1, css, g1, h1, l1, r1, p1, f1, o1⟩ := open_list (E := E) (w := w) (p := fun H' vs => shp E H' d e vs) (fun hf hs => shp_frm hf hs) CSs (fun C hC => by
            obtain ⟨i, hi, rfl⟩ := List.mem_iff_getElem.1 hC
            obtain ⟨C', x', h1, h2⟩ := each i (by omega)
            obtain ⟨C'', h3, h4⟩ := hCg i (by omega)
            rw [List.getElem?_eq_getElem hi] at h3
            injection h3 with h3
            rw [h1] at h4; injection h4 with h4; subst h4
            rw [h3]
            intro μ H hH
            exact ih e _ x' h2 d ho1 hH) hH
          have hz2 : ∀ C ∈ CSs, C.length = z := by
            intro C hC
            obtain ⟨i, hi, rfl⟩ := List.mem_iff_getElem.1 hC
            obtain ⟨C'', h3, h4⟩ := hCg i (by omega)
            rw [List.getElem?_eq_getElem hi] at h3
            injection h3 with h3
            rw [h3]
            exact (cells?_get h4).1
          have hvr : VRels μ1 css.flatten CSs.flatten := flatten_vrels l1 r1
          -- the block
          have hobj : css.flatten = [] ∨ ∃ C el fr, a.block < w.heap.size ∧ w.heap[a.block]? = some (.cells C el fr) ∧ a.spot = none ∧ cellsRel μ1 css.flatten C a.off := by
            by_cases h0 : len = 0
            · left
              have : css = [] := List.eq_nil_of_length_eq_zero (by omega)
              rw [this]; rfl
            · right
              obtain ⟨C0, h3, h4⟩ := hCg 0 (by omega)
              have hc0 := (cells?_get h4).2 0 hz
              have e0 : (a.add (0 * z)).add 0 = a := by simp [Addr.add]
              rw [e0] at hc0
              have hC0 : C0[0]? ≠ none := by
                have := (cells?_get h4).1
                rw [List.getElem?_eq_getElem (by omega)]
                simp
              unfold World.cell? at hc0
              cases hb : w.heap[a.block]? with
              | none => rw [hb] at hc0; exact absurd hc0.symm hC0
              | some ob =>
                rw [hb] at hc0
                cases ob with
                | cells C el fr =>
                  simp only at hc0
                  have hsp : a.spot = none := by
                    cases hsp : a.spot with
                    | none => rfl
                    | some s => rw [hsp] at hc0; simp only [Option.isSome_some, if_true] at hc0; exact absurd hc0.symm hC0
                  refine ⟨C, el, fr, ?_, rfl, hsp, ?_⟩
                  · rcases Nat.lt_or_ge a.block w.heap.size with h | h
                    · exact h
                    · rw [Array.getElem?_eq_none h] at hb; cases hb
                  · intro j v hj
                    obtain ⟨V, hV, hr⟩ := hvr.get hj
                    refine ⟨V, ?_, hr⟩
                    have hfl : CSs.flatten.length = CSs.length * z := flatten_len hz2
                    have hjl : j < CSs.length * z := by
                      rw [← hfl]
                      rcases Nat.lt_or_ge j CSs.flatten.length with h | h
                      · exact h
                      · rw [List.getElem?_eq_none h] at hV; cases hV
                    obtain ⟨c, hc1, hc2⟩ := flatten_get hz2 hz hjl
                    have hi : j / z < len := by
                      rw [hCl] at hjl
                      exact (Nat.div_lt_iff_lt_mul hz).2 hjl
                    obtain ⟨C', h5, h6⟩ := hCg (j / z) hi
                    rw [hc1] at h5; injection h5 with h5; subst h5
                    have h7 := (cells?_get h6).2 (j % z) (Nat.mod_lt _ hz)
                    rw [hc2] at hV
                    rw [hV] at h7
                    have ea : (a.add (j / z * z)).add (j % z) = ⟨a.block, a.off + j, none⟩ := by
                      have hdm : j / z * z + j % z = j := by rw [Nat.mul_comm]; exact Nat.div_add_mod j z
                      unfold Addr.add
                      cases a with
                      | mk ab ao asp =>
                      simp only at hsp
                      subst hsp
                      split <;> split <;> simp only [Addr.mk.injEq, and_true, true_and] <;> omega
                    rw [ea] at h7
                    unfold World.cell? at h7
                    rw [hb] at h7
                    simpa using h7
                | _ => simp at hc0; exact absurd hc0.symm (by simpa using hC0)
          have hall : css.flatten.all one = true := by
            rw [List.all_eq_true]
            intro v hv
            obtain ⟨c, hc, hvc⟩ := List.mem_flatten.1 hv
            exact List.all_eq_true.1 (o1 c hc) v hvc
          have hnone : μ1 H1.next = none := h1.fresh _ (Nat.le_refl _)
          have fin : ∀ L : Loc, L.esz = 0 → (∀ i oi Li, H1.get i = some oi → oi.isOwn = true → μ1 i = some Li → Li.blk ≠ L.blk) →
              (css.flatten = [] ∨ ∃ C el fr, L.blk < w.heap.size ∧ w.heap[L.blk]? = some (.cells C el fr) ∧ cellsRel μ1 css.flatten C L.off) →
              (∀ μ' : Inj, μ' H1.next = some L → VRel μ' (.slice (some ⟨H1.next, 0, none⟩) css.length 0) (.slice (some a) len cap)) →
              Opened E w μ H (fun H' vs => shp E H' (d + 1) t vs) [.slice (some a) len cap] := by
            intro L hL hfree hcells hv
            have hH2 : HRel E w.heap.size (μ1.add H1.next L) (H1.new (.cells false 0 css.flatten)) w := by
              refine h1.adoptAt H1.next L _ hnone (fun j => get_new _ _ _) (Nat.le_succ _) (Nat.lt_succ_self _) (fun i oi Li a b c => hfree i oi Li a (b.elim (fun h => by cases h.1) fun h => h.1) c) ?_
              refine ⟨L, Inj.add_self _ _ _, hL, hall, ?_⟩
              rcases hcells with h0 | ⟨C, el, fr, hlt, hb, hr⟩
              · exact .inl h0
              · exact .inr ⟨C, el, fr, hb, hr.mono (Inj.le_add L hnone)⟩
            refine ⟨_, _, [.slice (some ⟨H1.next, 0, none⟩) css.length 0], g1.trans (Grow.new _ L hnone), hH2, .cons (hv _ (Inj.add_self _ _ _)) .nil, ?_, f1.trans ((Frm.refl [] _).new _) (by simp), rfl⟩
            unfold shp
            rw [hu]
            exact .inr ⟨H1.next, css, rfl, Nat.lt_succ_self _, get_new_self _ _, fun c hc => shp_frm ((Frm.refl [] _).new _) (p1 c hc)⟩
          have own : ∀ i oi Li, H1.get i = some oi → oi.isOwn = true → μ1 i = some Li → w.heap.size ≤ Li.blk ∧ Li.blk < w.heap.size := by
            intro i oi Li hi hown hm
            obtain ⟨L2, e1, e2, e3⟩ := (h1.obj i oi hi ⟨Li, hm⟩).own_loc hown
            rw [hm] at e1; injection e1 with e1; subst e1
            exact ⟨e2, e3⟩
          rcases hobj with h0 | ⟨C, el, fr, hlt, hb, hsp, hr⟩
          · have h00 : len = 0 := by
              have h2 : css.flatten.length = css.length * z := flatten_len fun c hc => by
                obtain ⟨i, hi, rfl⟩ := List.mem_iff_getElem.1 hc
                have hi' : i < CSs.length := by omega
                have := (r1 i css[i] CSs[i] (List.getElem?_eq_getElem hi) (List.getElem?_eq_getElem hi')).length
                rw [this]; exact hz2 _ (List.getElem_mem _)
              rw [h0] at h2
              simp only [List.length_nil] at h2
              rcases Nat.mul_eq_zero.1 h2.symm with h | h
              · omega
              · omega
            refine fin ⟨w.heap.size, 0, 0, 0⟩ rfl (fun i oi Li a b c => ?_) (.inl h0) fun μ' hm => ?_
            · have := own i oi Li a b c
              show Li.blk ≠ w.heap.size
              omega
            · rw [l1, hCl, h00]
              exact .sliceEnd hm (.inl rfl)
          · refine fin ⟨a.block, a.off, 0, 0⟩ rfl (fun i oi Li a' b c => ?_) (.inr ⟨C, el, fr, hlt, hb, hr⟩) fun μ' hm => ?_
            · have := own i oi Li a' b c
              show Li.blk ≠ a.block
              omega
            · rw [l1, hCl]
              have e : a = ⟨a.block, a.off + 0, none⟩ := by cases a; simp only at hsp; subst hsp; rfl
              rw [e]
              exact .slice hm hle (.inl rfl)
    · rename_i fs hu
      have hP := und_ok hE hu
      simp only [Bool.and_eq_true, List.all_eq_true] at ho
      obtain ⟨ho1, ho2⟩ := ho
      cases hs : sizeA E t with
      | none => rw [hs] at ho2; cases ho2
      | some n =>
        cases hc : contig E fs.toList 0 with
        | none => rw [hs, hc] at ho2; cases ho2
        | some m =>
          rw [hs, hc] at ho2
          obtain rfl := Nat.eq_of_beq_eq_true ho2
          have hcell := cellsOf_size hE hs
          have hstr : CS.length = n ∧ ∃ xs : List (DataW D × List MemPlace), fs.toList.mapM (fun f => DataW.trod enc E.prog w 0 spare held fuel f.type ((CS.drop f.offset).take (E.prog.cellsOf f.type))) = some xs := by
            unfold DataW.trod at h
            rw [hP, hcell] at h
            split at h <;> simp_all
            obtain ⟨hl, xs, hm, _⟩ := h
            exact ⟨xs, hm⟩
          obtain ⟨hl, xs, hm⟩ := hstr
          have := open_fields (spare := spare) (held := held) (enc := enc) (d := d) (fuel := fuel) hE (fun t CS x h ho {μ H} hH => ih t CS x h d ho hH) fs.toList 0 CS (fun f hf => ho1 f hf) (by rw [hc, hl]) (fun f hf => by
            obtain ⟨i, hi, rfl⟩ := List.mem_iff_getElem.1 hf
            have h1 := mapM_some_get hm i _ (List.getElem?_eq_getElem hi)
            have hlen := mapM_some_length hm
            rw [List.getElem?_eq_getElem (by omega : i < xs.length)] at h1
            exact ⟨_, h1⟩) hH
          simp only [List.drop_zero] at this
          obtain ⟨μ', H', vs, a1, a2, a3, a4, a5, a6⟩ := this
          exact ⟨μ', H', vs, a1, a2, a3, by unfold shp; rw [hu]; exact a4, a5, a6⟩
    · cases ho
end
end Go.AS
namespace Go.AS
open Go.RowKit Go.ChangeShapes Go.WideShapes
set_option linter.unusedVariables false
section
variable {E : Env}
def shpV (E : Env) (H : Heap) (d t : Nat) (v : Value) : Prop :=
  match und E t with
  | some (.struct _) => ∃ l, v = .agg ⟨l⟩ ∧ shp E H d t l
  | _ => shp E H d t [v]
def shpVs (E : Env) (H : Heap) (d : Nat) : List Nat → List Value → Prop
  | [], vs => vs = []
  | t :: ts, vs => ∃ v us, vs = v :: us ∧ shpV E H d t v ∧ shpVs E H d ts us
theorem shpV_frm {H H' : Heap} (hf : Frm [] H H') {d t : Nat} {v : Value} (h : shpV E H d t v) : shpV E H' d t v := by
  unfold shpV at h ⊢
  split
  · rename_i hu; rw [hu] at h; obtain ⟨l, e, h⟩ := h; exact ⟨l, e, shp_frm hf h⟩
  · rename_i hu
    split at h
    · rename_i hu2; exact (hu _ hu2).elim
    · exact shp_frm hf h
variable {w : World} {D : Type} {enc : TypeId × Value → D} {spare : Nat → Bool} {held : Bool} {r : Reach} {bs : Nat}
theorem open_arg (hE : E.Ok) {t d : Nat} {v : Value} {x : DataW D} {ps : List MemPlace} (h : DataW.Trod enc E.prog w 0 spare held t v x ps) (hv : Value.okWide E.prog w r bs t v) (ho : okTy E d t = true)
    {μ : Inj} {H : Heap} (hH : HRel E w.heap.size μ H w) : ∃ (μ' : Inj) (H' : Heap) (u : Value), Grow H μ H' μ' ∧ HRel E w.heap.size μ' H' w ∧ VRel μ' u v ∧ shpV E H' d t u ∧ Frm [] H H' := by
  obtain ⟨fuel, h⟩ := h
  obtain ⟨μ', H', vs, g1, h1, r1, s1, f1, o1⟩ := open_cells hE fuel t _ _ h d ho hH
  cases d with
  | zero => simp [okTy] at ho
  | succ d =>
  unfold okTy at ho
  split at ho
  · rename_i hu
    have hP := und_ok hE hu
    obtain ⟨b, hb⟩ : ∃ b, v = .bool b := by
      simp only [Value.okWide, hP, Cell.okWide, Cell.ok] at hv
      cases v <;> simp_all
    subst hb
    unfold shp at s1
    rw [hu] at s1
    obtain ⟨b', rfl⟩ := s1
    refine ⟨μ', H', .bool b', g1, h1, ?_, by unfold shpV; rw [hu]; unfold shp; rw [hu]; exact ⟨_, rfl⟩, f1⟩
    cases r1 with
    | cons a b => exact a
  · rename_i k hu
    have hP := und_ok hE hu
    obtain ⟨n, hb⟩ := okWide_int hP hv
    subst hb
    have s1' := s1
    unfold shp at s1
    rw [hu] at s1
    obtain ⟨b', rfl, hw⟩ := s1
    refine ⟨μ', H', .int k b', g1, h1, ?_, by unfold shpV; rw [hu]; exact s1', f1⟩
    cases r1 with
    | cons a b => exact a
  · rename_i e hu
    have hP := und_ok hE hu
    obtain ⟨a, len, cap, hb⟩ := okWide_slice hP hv
    subst hb
    have s1' := s1
    unfold shp at s1
    rw [hu] at s1
    obtain ⟨u, rfl⟩ : ∃ u, vs = [u] := by
      rcases s1 with rfl | ⟨i, cs, rfl, _⟩ <;> exact ⟨_, rfl⟩
    refine ⟨μ', H', u, g1, h1, ?_, by unfold shpV; rw [hu]; exact s1', f1⟩
    cases r1 with
    | cons a b => exact a
  · rename_i fs hu
    have hP := und_ok hE hu
    have hb : ∃ cs, v = .agg cs := by
      simp only [Value.okWide, hP] at hv
      obtain ⟨cs, e, _⟩ := hv
      exact ⟨cs, e⟩
    obtain ⟨cs, rfl⟩ := hb
    exact ⟨μ', H', .agg ⟨vs⟩, g1, h1, .agg r1, by unfold shpV; rw [hu]; exact ⟨vs, rfl, s1⟩, f1⟩
  · cases ho
theorem open_args (hE : E.Ok) {d : Nat} : ∀ (ts : List TypeId) (vs : List Value) (xs : List (DataW D)) (ps : List MemPlace), DataW.TrodAll enc E.prog w 0 spare held ts vs xs ps →
    (∀ (j : Nat) t v, ts[j]? = some t → vs[j]? = some v → Value.okWide E.prog w r bs t v) → ts.all (okTy E d) = true → ∀ {μ : Inj} {H : Heap}, HRel E w.heap.size μ H w →
    ∃ (μ' : Inj) (H' : Heap) (us : List Value), HRel E w.heap.size μ' H' w ∧ VRels μ' us vs ∧ shpVs E H' d ts us ∧ Grow H μ H' μ' ∧ Frm [] H H'
  | [], vs, xs, ps, h, _, _, μ, H, hH => by
    obtain ⟨rfl, rfl, rfl⟩ := Go.ChangeShapes.trodAll_nil h
    exact ⟨μ, H, [], hH, .nil, rfl, Grow.refl _ _, Frm.refl _ _⟩
  | t :: ts, vs, xs, ps, h, hv, ho, μ, H, hH => by
    obtain ⟨v, vs', x, xs', p, q, rfl, rfl, rfl, h1, h2⟩ := Go.ChangeShapes.trodAll_cons h
    simp only [List.all_cons, Bool.and_eq_true] at ho
    obtain ⟨μ1, H1, u, g1, k1, r1, s1, f1⟩ := open_arg hE h1 (hv 0 t v rfl rfl) ho.1 hH
    obtain ⟨μ2, H2, us, k2, r2, s2, g2, f2⟩ := open_args hE ts vs' xs' q h2 (fun j t v a b => hv (j + 1) t v (by simpa using a) (by simpa using b)) ho.2 k1
    exact ⟨μ2, H2, u :: us, k2, .cons (r1.mono g2.le) r2, ⟨u, us, rfl, shpV_frm f2 s1, s2⟩, g1.trans g2, f1.trans f2 (by simp)⟩
theorem law_calls (hE : E.Ok) (hmix : E.prog.follows .mixedOrders = true) {f : FuncId} {d : Nat} {ts : List TypeId} (hlaw : ∀ H us, shpVs E H d ts us → CA E f us H fun v _ => v = .bool true)
    (ho : ts.all (okTy E d) = true) {vs : Array Value} {xs : List (DataW D)} {ps : List MemPlace} (h : DataW.TrodAll enc E.prog w 0 spare held ts vs.toList xs ps)
    (hv : ∀ (j : Nat) t v, ts[j]? = some t → vs[j]? = some v → Value.okWide E.prog w r bs t v) :
    Calls E.prog f vs w fun e w' => e = .returned (.bool true) ∧ Below w.heap.size w w' := by
  obtain ⟨μ, H, us, h1, h2, h3, _, _⟩ := open_args hE ts vs.toList xs ps h (fun j t v a b => hv j t v a (by rw [← Array.getElem?_toList]; exact b)) ho (hrel0 E w)
  exact calls_of_CA hE hmix (hlaw H us h3) h1 h2
end
end Go.AS
namespace Go.Proofs.YtjggeoghlicmdaaGreat
open Go Go.AS Go.RowKit
set_option linter.unusedVariables false
set_option maxRecDepth 100000
abbrev T.HashOnce : List Nat := [3, 3, 48]
theorem args_HashOnce {H : Heap} {us : List Value} (h : shpVs en H 7 T.HashOnce us) :
    (∃ (v33 : Value) (u34 : List Value), us = v33 :: u34 ∧ (∃ n : Int, [v33] = [.int .i64 n] ∧ (Lit.int .i64 n).wf = true) ∧ (∃ (v35 : Value) (u36 : List Value), u34 = v35 :: u36 ∧ (∃ n : Int, [v35] = [.int .i64 n] ∧ (Lit.int .i64 n).wf = true) ∧ (∃ (v37 : Value) (u38 : List Value), u36 = v37 :: u38 ∧ ([v37] = [.slice none 0 0] ∨ ∃ (i : Nat) (cs : List (List Value)), [v37] = [.slice (some ⟨i, 0, none⟩) cs.length 0] ∧ i < H.next ∧ H.get i = some (AS.Obj.cells false 0 cs.flatten) ∧ ∀ c39 ∈ cs, (∃ n : Int, c39 = [.int .i64 n] ∧ (Lit.int .i64 n).wf = true)) ∧ u38 = []))) := by
  apply turnInto h
  kernel_rfl
end Go.Proofs.YtjggeoghlicmdaaGreat
namespace Go.Proofs.YtjggeoghlicmdaaGreat
open Go Go.AS Go.RowKit
set_option linter.unusedVariables false
set_option maxRecDepth 100000
set_option maxHeartbeats 2000000
noncomputable def L_decl_Check_0 : Code := loopAt Go.Proofs.Tryz.f103 0
theorem vc_decl_Check (x0 : Option Addr) (x0l : Nat) (H : Heap) (R : Value → Heap → Prop) :
    (
 bif (decide (((x0l : Nat) : Int) > 10)) then (
 R (.int .i64 19) H)
 else (
 LA en L_decl_Check_0 [(.slice x0 x0l 0), undef, (.int .i64 0), undef, undef, undef, (.slice x0 x0l 0), (.int .i64 ((x0l : Nat) : Int)), (.bool false), (.slice x0 x0l 0), (.int .i64 ((x0l : Nat) : Int)), (.int .i64 0), undef, undef, undef, undef, undef, undef, undef, undef, undef, undef] H [(X.exit 0, fun (y1 : Fr) (H2 : Heap) =>
 AS.asInt .i64 (y1.getD 2 undef) fun n3 =>
 R (.int .i64 0) H2),
 (X.ret, fun (y4 : Fr) (H5 : Heap) =>
 AS.asInt .i64 (y4.getD 2 undef) fun n6 =>
 R (.int .i64 n6) H5)])) →
    CA en F.decl_Check [(.slice x0 x0l 0)] H R := by
  intro h
  refine wpFn_ok (Z := [[(2, (.int .i64 0))]]) (fn := Go.Proofs.Tryz.f103) ?_ ?_ ?_
  · kernel_rfl
  · kernel_rfl
  · apply turnInto h
    kernel_rfl
theorem use_decl_Check_0 {t0 : Option Addr} {t0l : Nat} {t6 : Option Addr} {t6l : Nat} {t7 : Int} {t9 : Option Addr} {t9l : Nat} {t10 : Int} {K0 : Fr → Heap → Prop} {K1 : Fr → Heap → Prop} {t2 : Int} {t11 : Int} {t4 : Value} {t5 : Value} {t12 : Value} {t13 : Value} {t14 : Value} {t15 : Value} {t16 : Value} {t17 : Value} {t18 : Value} {t19 : Value} {t20 : Value} {t21 : Value} {H : Heap} (I : Nat → Int → Int → Heap → Prop) (n : Nat) (h0 : I n t2 t11 H)
    (hstep : ∀ (n : Nat) (t2 : Int) (t11 : Int) (ys : Fr) (H : Heap), I n t2 t11 H →
    (
 bif (decide (t11 < t10)) then (
 inB t11 t9l ∧
 asRow t9 fun i1 i2 =>
 ∃ n3, ∃ n4, ∃ n5, ∃ n6, ∃ n7, H.cellsAt i1 (i2 + (t11.toNat * 5)) 5 = some [(.int .i64 n3), (.int .i64 n4), (.int .i64 n5), (.int .i64 n6), (.int .i64 n7)] ∧
 nwH H (.cells true 0 [(.int .i64 0), (.int .i64 0), (.int .i64 0), (.int .i64 0), (.int .i64 0)]) fun i8 H9 =>
 stc H9 i8 0 [(.int .i64 n3), (.int .i64 n4), (.int .i64 n5), (.int .i64 n6), (.int .i64 n7)] fun H10 =>
 ∃ n11, ∃ n12, ∃ n13, ∃ n14, ∃ n15, H10.cellsAt i8 0 5 = some [(.int .i64 n11), (.int .i64 n12), (.int .i64 n13), (.int .i64 n14), (.int .i64 n15)] ∧
 CA en F.decl_check [(.slice t0 t0l 0), (.agg #[(.int .i64 n11), (.int .i64 n12), (.int .i64 n13), (.int .i64 n14), (.int .i64 n15)])] H10 fun v16 H17 =>
 ∃ n18, v16 = (.int .i64 n18) ∧
 bif (n18 != 0) then (
 K1 [(.slice t0 t0l 0), undef, (.int .i64 n18), undef, (.pointer (some ⟨i8, 0, none⟩)), (.int .i64 n18), (.slice t6 t6l 0), (.int .i64 t7), (.bool false), (.slice t9 t9l 0), (.int .i64 t10), (.int .i64 t11), (.bool true), (.pointer (some ⟨i1, (i2 + (t11.toNat * 5)), none⟩)), (.agg #[(.int .i64 n3), (.int .i64 n4), (.int .i64 n5), (.int .i64 n6), (.int .i64 n7)]), (.slice t0 t0l 0), (.agg #[(.int .i64 n11), (.int .i64 n12), (.int .i64 n13), (.int .i64 n14), (.int .i64 n15)]), (.int .i64 n18), (.int .i64 n18), (.bool true), (.int .i64 n18), (ys.getD 21 undef)] H17)
 else (
 ∃ k19, k19 < n ∧
 I k19 t2 (IntKind.i64.wrap (t11 + 1)) H17))
 else (
 K0 [(.slice t0 t0l 0), undef, (.int .i64 t2), undef, (ys.getD 4 undef), (ys.getD 5 undef), (.slice t6 t6l 0), (.int .i64 t7), (.bool false), (.slice t9 t9l 0), (.int .i64 t10), (.int .i64 t11), (.bool false), (ys.getD 13 undef), (ys.getD 14 undef), (ys.getD 15 undef), (ys.getD 16 undef), (ys.getD 17 undef), (ys.getD 18 undef), (ys.getD 19 undef), (ys.getD 20 undef), (ys.getD 21 undef)] H))) :
    LA en L_decl_Check_0 [(.slice t0 t0l 0), undef, (.int .i64 t2), undef, t4, t5, (.slice t6 t6l 0), (.int .i64 t7), (.bool false), (.slice t9 t9l 0), (.int .i64 t10), (.int .i64 t11), t12, t13, t14, t15, t16, t17, t18, t19, t20, t21] H [(X.exit 0, K0), (X.ret, K1)] := by
  refine LA_rule (Z := []) (fun m xs H' => AS.asInt .i64 (xs.getD 2 undef) fun t2 => AS.asInt .i64 (xs.getD 11 undef) fun t11 => I m t2 t11 H') ?_ n H ?_
  · intro n H
    suffices hs : ∀ s12 : Value, ∀ s13 : Value, ∀ s14 : Value, ∀ s4 : Value, ∀ s15 : Value, ∀ s16 : Value, ∀ s17 : Value, ∀ s5 : Value, ∀ s18 : Value, ∀ s19 : Value, ∀ s20 : Value, ∀ s2 : Value, ∀ s21 : Value, ∀ s11 : Value, ((AS.asInt .i64 s2 fun t2 => AS.asInt .i64 s11 fun t11 => I n t2 t11 H) → wpCode en L_decl_Check_0 [] [(.slice t0 t0l 0), undef, s2, undef, s4, s5, (.slice t6 t6l 0), (.int .i64 t7), (.bool false), (.slice t9 t9l 0), (.int .i64 t10), s11, s12, s13, s14, s15, s16, s17, s18, s19, s20, s21] H (loopQ (fun m xs H' => AS.asInt .i64 (xs.getD 2 undef) fun t2 => AS.asInt .i64 (xs.getD 11 undef) fun t11 => I m t2 t11 H') n [(X.exit 0, K0), (X.ret, K1)])) by
      apply turnInto hs
      kernel_rfl
    intro s12 s13 s14 s4 s15 s16 s17 s5 s18 s19 s20 s2 s21 s11 hP
    replace hP := asInt_elim hP
    obtain ⟨t2, rfl, hP⟩ := hP
    replace hP := asInt_elim hP
    obtain ⟨t11, rfl, hP⟩ := hP
    apply turnInto (hstep n t2 t11 [(.slice t0 t0l 0), undef, (.int .i64 t2), undef, s4, s5, (.slice t6 t6l 0), (.int .i64 t7), (.bool false), (.slice t9 t9l 0), (.int .i64 t10), (.int .i64 t11), s12, s13, s14, s15, s16, s17, s18, s19, s20, s21] H hP)
    kernel_rfl
  · apply turnInto h0
    kernel_rfl
theorem vc_decl_check (x0 : Option Addr) (x0l : Nat) (x1_0 : Int) (x1_1 : Int) (x1_2 : Int) (x1_3 : Int) (x1_4 : Int) (H : Heap) (R : Value → Heap → Prop) :
    (
 nwH H (.cells true 0 [(.int .i64 x1_0), (.int .i64 x1_1), (.int .i64 x1_2), (.int .i64 x1_3), (.int .i64 x1_4)]) fun i1 H2 =>
 ∃ n3, H2.cell i1 0 = some (.int .i64 n3) ∧
 CA en F.decl_kinds [(.int .i64 n3)] H2 fun v4 H5 =>
 ∃ n6, ∃ b7, ∃ b8, ∃ a9 i10, ∃ b11, ∃ b12, v4 = (.tuple #[(.agg #[(.int .i64 n6), (.bool b7), (.bool b8), (.slice a9 i10 0), (.bool b11)]), (.bool b12)]) ∧
 nwH H5 (.cells true 0 [(.int .i64 0), (.bool false), (.bool false), (.slice none 0 0), (.bool false)]) fun i13 H14 =>
 stc H14 i13 0 [(.int .i64 n6), (.bool b7), (.bool b8), (.slice a9 i10 0), (.bool b11)] fun H15 =>
 bif (!b12) then (
 R (.int .i64 1) H15)
 else (
 ∃ n16, H15.cell i1 1 = some (.int .i64 n16) ∧
 CA en F.decl_within [(.int .i64 n16), (.int .i64 64)] H15 fun v17 H18 =>
 ∃ b19, v17 = (.bool b19) ∧
 bif (!b19) then (
 R (.int .i64 1) H18)
 else (
 ∃ n20, H18.cell i1 2 = some (.int .i64 n20) ∧
 ∃ n21, H18.cell i13 0 = some (.int .i64 n21) ∧
 CA en F.decl_within [(.int .i64 n20), (.int .i64 n21)] H18 fun v22 H23 =>
 ∃ b24, v22 = (.bool b24) ∧
 bif (!b24) then (
 R (.int .i64 1) H23)
 else (
 ∃ b25, H23.cell i13 1 = some (.bool b25) ∧
 bif b25 then (
 ∃ n26, H23.cell i1 3 = some (.int .i64 n26) ∧
 CA en F.decl_within [(.int .i64 n26), (.int .i64 32)] H23 fun v27 H28 =>
 ∃ b29, v27 = (.bool b29) ∧
 bif (!b29) then (
 R (.int .i64 1) H28)
 else (
 ∃ n30, H28.cell i1 3 = some (.int .i64 n30) ∧
 CA en F.math_bits_OnesCount [(.int .u64 (IntKind.u64.wrap n30))] H28 fun v31 H32 =>
 ∃ n33, v31 = (.int .i64 n33) ∧
 bif (n33 != 1) then (
 R (.int .i64 1) H32)
 else (
 ∃ b34, H32.cell i13 1 = some (.bool b34) ∧
 bif (!b34) then (
 ∃ n35, H32.cell i1 3 = some (.int .i64 n35) ∧
 bif (n35 != 0) then (
 R (.int .i64 1) H32)
 else (
 ∃ b36, H32.cell i13 2 = some (.bool b36) ∧
 bif b36 then (
 ∃ n37, H32.cell i1 4 = some (.int .i64 n37) ∧
 CA en F.decl_within [(.int .i64 n37), (.int .i64 ((x0l : Nat) : Int))] H32 fun v38 H39 =>
 ∃ b40, v38 = (.bool b40) ∧
 bif (!b40) then (
 R (.int .i64 1) H39)
 else (
 ∃ b41, H39.cell i13 2 = some (.bool b41) ∧
 bif (!b41) then (
 ∃ n42, H39.cell i1 4 = some (.int .i64 n42) ∧
 bif (n42 != 0) then (
 R (.int .i64 1) H39)
 else (
 ∃ b43, H39.cell i13 2 = some (.bool b43) ∧
 bif b43 then (
 ∃ n44, H39.cell i1 4 = some (.int .i64 n44) ∧
 inB (IntKind.i64.wrap (n44 - 1)) x0l ∧
 asRow x0 fun i45 i46 =>
 ∃ n47, H39.cell i45 (i46 + ((IntKind.i64.wrap (n44 - 1)).toNat * 5)) = some (.int .i64 n47) ∧
 CA en F.decl_kinds [(.int .i64 n47)] H39 fun v48 H49 =>
 ∃ n50, ∃ b51, ∃ b52, ∃ a53 i54, ∃ b55, ∃ b56, v48 = (.tuple #[(.agg #[(.int .i64 n50), (.bool b51), (.bool b52), (.slice a53 i54 0), (.bool b55)]), (.bool b56)]) ∧
 nwH H49 (.cells true 0 [(.int .i64 0), (.bool false), (.bool false), (.slice none 0 0), (.bool false)]) fun i57 H58 =>
 stc H58 i57 0 [(.int .i64 n50), (.bool b51), (.bool b52), (.slice a53 i54 0), (.bool b55)] fun H59 =>
 ∃ b60, H59.cell i57 2 = some (.bool b60) ∧
 bif b60 then (
 R (.int .i64 14) H59)
 else (
 R (.int .i64 0) H59))
 else (
 R (.int .i64 0) H39)))
 else (
 ∃ b61, H39.cell i13 2 = some (.bool b61) ∧
 bif b61 then (
 ∃ n62, H39.cell i1 4 = some (.int .i64 n62) ∧
 inB (IntKind.i64.wrap (n62 - 1)) x0l ∧
 asRow x0 fun i63 i64 =>
 ∃ n65, H39.cell i63 (i64 + ((IntKind.i64.wrap (n62 - 1)).toNat * 5)) = some (.int .i64 n65) ∧
 CA en F.decl_kinds [(.int .i64 n65)] H39 fun v66 H67 =>
 ∃ n68, ∃ b69, ∃ b70, ∃ a71 i72, ∃ b73, ∃ b74, v66 = (.tuple #[(.agg #[(.int .i64 n68), (.bool b69), (.bool b70), (.slice a71 i72 0), (.bool b73)]), (.bool b74)]) ∧
 nwH H67 (.cells true 0 [(.int .i64 0), (.bool false), (.bool false), (.slice none 0 0), (.bool false)]) fun i75 H76 =>
 stc H76 i75 0 [(.int .i64 n68), (.bool b69), (.bool b70), (.slice a71 i72 0), (.bool b73)] fun H77 =>
 ∃ b78, H77.cell i75 2 = some (.bool b78) ∧
 bif b78 then (
 R (.int .i64 14) H77)
 else (
 R (.int .i64 0) H77))
 else (
 R (.int .i64 0) H39))))
 else (
 ∃ b79, H32.cell i13 2 = some (.bool b79) ∧
 bif (!b79) then (
 ∃ n80, H32.cell i1 4 = some (.int .i64 n80) ∧
 bif (n80 != 0) then (
 R (.int .i64 1) H32)
 else (
 ∃ b81, H32.cell i13 2 = some (.bool b81) ∧
 bif b81 then (
 ∃ n82, H32.cell i1 4 = some (.int .i64 n82) ∧
 inB (IntKind.i64.wrap (n82 - 1)) x0l ∧
 asRow x0 fun i83 i84 =>
 ∃ n85, H32.cell i83 (i84 + ((IntKind.i64.wrap (n82 - 1)).toNat * 5)) = some (.int .i64 n85) ∧
 CA en F.decl_kinds [(.int .i64 n85)] H32 fun v86 H87 =>
 ∃ n88, ∃ b89, ∃ b90, ∃ a91 i92, ∃ b93, ∃ b94, v86 = (.tuple #[(.agg #[(.int .i64 n88), (.bool b89), (.bool b90), (.slice a91 i92 0), (.bool b93)]), (.bool b94)]) ∧
 nwH H87 (.cells true 0 [(.int .i64 0), (.bool false), (.bool false), (.slice none 0 0), (.bool false)]) fun i95 H96 =>
 stc H96 i95 0 [(.int .i64 n88), (.bool b89), (.bool b90), (.slice a91 i92 0), (.bool b93)] fun H97 =>
 ∃ b98, H97.cell i95 2 = some (.bool b98) ∧
 bif b98 then (
 R (.int .i64 14) H97)
 else (
 R (.int .i64 0) H97))
 else (
 R (.int .i64 0) H32)))
 else (
 ∃ b99, H32.cell i13 2 = some (.bool b99) ∧
 bif b99 then (
 ∃ n100, H32.cell i1 4 = some (.int .i64 n100) ∧
 inB (IntKind.i64.wrap (n100 - 1)) x0l ∧
 asRow x0 fun i101 i102 =>
 ∃ n103, H32.cell i101 (i102 + ((IntKind.i64.wrap (n100 - 1)).toNat * 5)) = some (.int .i64 n103) ∧
 CA en F.decl_kinds [(.int .i64 n103)] H32 fun v104 H105 =>
 ∃ n106, ∃ b107, ∃ b108, ∃ a109 i110, ∃ b111, ∃ b112, v104 = (.tuple #[(.agg #[(.int .i64 n106), (.bool b107), (.bool b108), (.slice a109 i110 0), (.bool b111)]), (.bool b112)]) ∧
 nwH H105 (.cells true 0 [(.int .i64 0), (.bool false), (.bool false), (.slice none 0 0), (.bool false)]) fun i113 H114 =>
 stc H114 i113 0 [(.int .i64 n106), (.bool b107), (.bool b108), (.slice a109 i110 0), (.bool b111)] fun H115 =>
 ∃ b116, H115.cell i113 2 = some (.bool b116) ∧
 bif b116 then (
 R (.int .i64 14) H115)
 else (
 R (.int .i64 0) H115))
 else (
 R (.int .i64 0) H32)))))
 else (
 ∃ b117, H32.cell i13 2 = some (.bool b117) ∧
 bif b117 then (
 ∃ n118, H32.cell i1 4 = some (.int .i64 n118) ∧
 CA en F.decl_within [(.int .i64 n118), (.int .i64 ((x0l : Nat) : Int))] H32 fun v119 H120 =>
 ∃ b121, v119 = (.bool b121) ∧
 bif (!b121) then (
 R (.int .i64 1) H120)
 else (
 ∃ b122, H120.cell i13 2 = some (.bool b122) ∧
 bif (!b122) then (
 ∃ n123, H120.cell i1 4 = some (.int .i64 n123) ∧
 bif (n123 != 0) then (
 R (.int .i64 1) H120)
 else (
 ∃ b124, H120.cell i13 2 = some (.bool b124) ∧
 bif b124 then (
 ∃ n125, H120.cell i1 4 = some (.int .i64 n125) ∧
 inB (IntKind.i64.wrap (n125 - 1)) x0l ∧
 asRow x0 fun i126 i127 =>
 ∃ n128, H120.cell i126 (i127 + ((IntKind.i64.wrap (n125 - 1)).toNat * 5)) = some (.int .i64 n128) ∧
 CA en F.decl_kinds [(.int .i64 n128)] H120 fun v129 H130 =>
 ∃ n131, ∃ b132, ∃ b133, ∃ a134 i135, ∃ b136, ∃ b137, v129 = (.tuple #[(.agg #[(.int .i64 n131), (.bool b132), (.bool b133), (.slice a134 i135 0), (.bool b136)]), (.bool b137)]) ∧
 nwH H130 (.cells true 0 [(.int .i64 0), (.bool false), (.bool false), (.slice none 0 0), (.bool false)]) fun i138 H139 =>
 stc H139 i138 0 [(.int .i64 n131), (.bool b132), (.bool b133), (.slice a134 i135 0), (.bool b136)] fun H140 =>
 ∃ b141, H140.cell i138 2 = some (.bool b141) ∧
 bif b141 then (
 R (.int .i64 14) H140)
 else (
 R (.int .i64 0) H140))
 else (
 R (.int .i64 0) H120)))
 else (
 ∃ b142, H120.cell i13 2 = some (.bool b142) ∧
 bif b142 then (
 ∃ n143, H120.cell i1 4 = some (.int .i64 n143) ∧
 inB (IntKind.i64.wrap (n143 - 1)) x0l ∧
 asRow x0 fun i144 i145 =>
 ∃ n146, H120.cell i144 (i145 + ((IntKind.i64.wrap (n143 - 1)).toNat * 5)) = some (.int .i64 n146) ∧
 CA en F.decl_kinds [(.int .i64 n146)] H120 fun v147 H148 =>
 ∃ n149, ∃ b150, ∃ b151, ∃ a152 i153, ∃ b154, ∃ b155, v147 = (.tuple #[(.agg #[(.int .i64 n149), (.bool b150), (.bool b151), (.slice a152 i153 0), (.bool b154)]), (.bool b155)]) ∧
 nwH H148 (.cells true 0 [(.int .i64 0), (.bool false), (.bool false), (.slice none 0 0), (.bool false)]) fun i156 H157 =>
 stc H157 i156 0 [(.int .i64 n149), (.bool b150), (.bool b151), (.slice a152 i153 0), (.bool b154)] fun H158 =>
 ∃ b159, H158.cell i156 2 = some (.bool b159) ∧
 bif b159 then (
 R (.int .i64 14) H158)
 else (
 R (.int .i64 0) H158))
 else (
 R (.int .i64 0) H120))))
 else (
 ∃ b160, H32.cell i13 2 = some (.bool b160) ∧
 bif (!b160) then (
 ∃ n161, H32.cell i1 4 = some (.int .i64 n161) ∧
 bif (n161 != 0) then (
 R (.int .i64 1) H32)
 else (
 ∃ b162, H32.cell i13 2 = some (.bool b162) ∧
 bif b162 then (
 ∃ n163, H32.cell i1 4 = some (.int .i64 n163) ∧
 inB (IntKind.i64.wrap (n163 - 1)) x0l ∧
 asRow x0 fun i164 i165 =>
 ∃ n166, H32.cell i164 (i165 + ((IntKind.i64.wrap (n163 - 1)).toNat * 5)) = some (.int .i64 n166) ∧
 CA en F.decl_kinds [(.int .i64 n166)] H32 fun v167 H168 =>
 ∃ n169, ∃ b170, ∃ b171, ∃ a172 i173, ∃ b174, ∃ b175, v167 = (.tuple #[(.agg #[(.int .i64 n169), (.bool b170), (.bool b171), (.slice a172 i173 0), (.bool b174)]), (.bool b175)]) ∧
 nwH H168 (.cells true 0 [(.int .i64 0), (.bool false), (.bool false), (.slice none 0 0), (.bool false)]) fun i176 H177 =>
 stc H177 i176 0 [(.int .i64 n169), (.bool b170), (.bool b171), (.slice a172 i173 0), (.bool b174)] fun H178 =>
 ∃ b179, H178.cell i176 2 = some (.bool b179) ∧
 bif b179 then (
 R (.int .i64 14) H178)
 else (
 R (.int .i64 0) H178))
 else (
 R (.int .i64 0) H32)))
 else (
 ∃ b180, H32.cell i13 2 = some (.bool b180) ∧
 bif b180 then (
 ∃ n181, H32.cell i1 4 = some (.int .i64 n181) ∧
 inB (IntKind.i64.wrap (n181 - 1)) x0l ∧
 asRow x0 fun i182 i183 =>
 ∃ n184, H32.cell i182 (i183 + ((IntKind.i64.wrap (n181 - 1)).toNat * 5)) = some (.int .i64 n184) ∧
 CA en F.decl_kinds [(.int .i64 n184)] H32 fun v185 H186 =>
 ∃ n187, ∃ b188, ∃ b189, ∃ a190 i191, ∃ b192, ∃ b193, v185 = (.tuple #[(.agg #[(.int .i64 n187), (.bool b188), (.bool b189), (.slice a190 i191 0), (.bool b192)]), (.bool b193)]) ∧
 nwH H186 (.cells true 0 [(.int .i64 0), (.bool false), (.bool false), (.slice none 0 0), (.bool false)]) fun i194 H195 =>
 stc H195 i194 0 [(.int .i64 n187), (.bool b188), (.bool b189), (.slice a190 i191 0), (.bool b192)] fun H196 =>
 ∃ b197, H196.cell i194 2 = some (.bool b197) ∧
 bif b197 then (
 R (.int .i64 14) H196)
 else (
 R (.int .i64 0) H196))
 else (
 R (.int .i64 0) H32)))))))
 else (
 ∃ b198, H23.cell i13 1 = some (.bool b198) ∧
 bif (!b198) then (
 ∃ n199, H23.cell i1 3 = some (.int .i64 n199) ∧
 bif (n199 != 0) then (
 R (.int .i64 1) H23)
 else (
 ∃ b200, H23.cell i13 2 = some (.bool b200) ∧
 bif b200 then (
 ∃ n201, H23.cell i1 4 = some (.int .i64 n201) ∧
 CA en F.decl_within [(.int .i64 n201), (.int .i64 ((x0l : Nat) : Int))] H23 fun v202 H203 =>
 ∃ b204, v202 = (.bool b204) ∧
 bif (!b204) then (
 R (.int .i64 1) H203)
 else (
 ∃ b205, H203.cell i13 2 = some (.bool b205) ∧
 bif (!b205) then (
 ∃ n206, H203.cell i1 4 = some (.int .i64 n206) ∧
 bif (n206 != 0) then (
 R (.int .i64 1) H203)
 else (
 ∃ b207, H203.cell i13 2 = some (.bool b207) ∧
 bif b207 then (
 ∃ n208, H203.cell i1 4 = some (.int .i64 n208) ∧
 inB (IntKind.i64.wrap (n208 - 1)) x0l ∧
 asRow x0 fun i209 i210 =>
 ∃ n211, H203.cell i209 (i210 + ((IntKind.i64.wrap (n208 - 1)).toNat * 5)) = some (.int .i64 n211) ∧
 CA en F.decl_kinds [(.int .i64 n211)] H203 fun v212 H213 =>
 ∃ n214, ∃ b215, ∃ b216, ∃ a217 i218, ∃ b219, ∃ b220, v212 = (.tuple #[(.agg #[(.int .i64 n214), (.bool b215), (.bool b216), (.slice a217 i218 0), (.bool b219)]), (.bool b220)]) ∧
 nwH H213 (.cells true 0 [(.int .i64 0), (.bool false), (.bool false), (.slice none 0 0), (.bool false)]) fun i221 H222 =>
 stc H222 i221 0 [(.int .i64 n214), (.bool b215), (.bool b216), (.slice a217 i218 0), (.bool b219)] fun H223 =>
 ∃ b224, H223.cell i221 2 = some (.bool b224) ∧
 bif b224 then (
 R (.int .i64 14) H223)
 else (
 R (.int .i64 0) H223))
 else (
 R (.int .i64 0) H203)))
 else (
 ∃ b225, H203.cell i13 2 = some (.bool b225) ∧
 bif b225 then (
 ∃ n226, H203.cell i1 4 = some (.int .i64 n226) ∧
 inB (IntKind.i64.wrap (n226 - 1)) x0l ∧
 asRow x0 fun i227 i228 =>
 ∃ n229, H203.cell i227 (i228 + ((IntKind.i64.wrap (n226 - 1)).toNat * 5)) = some (.int .i64 n229) ∧
 CA en F.decl_kinds [(.int .i64 n229)] H203 fun v230 H231 =>
 ∃ n232, ∃ b233, ∃ b234, ∃ a235 i236, ∃ b237, ∃ b238, v230 = (.tuple #[(.agg #[(.int .i64 n232), (.bool b233), (.bool b234), (.slice a235 i236 0), (.bool b237)]), (.bool b238)]) ∧
 nwH H231 (.cells true 0 [(.int .i64 0), (.bool false), (.bool false), (.slice none 0 0), (.bool false)]) fun i239 H240 =>
 stc H240 i239 0 [(.int .i64 n232), (.bool b233), (.bool b234), (.slice a235 i236 0), (.bool b237)] fun H241 =>
 ∃ b242, H241.cell i239 2 = some (.bool b242) ∧
 bif b242 then (
 R (.int .i64 14) H241)
 else (
 R (.int .i64 0) H241))
 else (
 R (.int .i64 0) H203))))
 else (
 ∃ b243, H23.cell i13 2 = some (.bool b243) ∧
 bif (!b243) then (
 ∃ n244, H23.cell i1 4 = some (.int .i64 n244) ∧
 bif (n244 != 0) then (
 R (.int .i64 1) H23)
 else (
 ∃ b245, H23.cell i13 2 = some (.bool b245) ∧
 bif b245 then (
 ∃ n246, H23.cell i1 4 = some (.int .i64 n246) ∧
 inB (IntKind.i64.wrap (n246 - 1)) x0l ∧
 asRow x0 fun i247 i248 =>
 ∃ n249, H23.cell i247 (i248 + ((IntKind.i64.wrap (n246 - 1)).toNat * 5)) = some (.int .i64 n249) ∧
 CA en F.decl_kinds [(.int .i64 n249)] H23 fun v250 H251 =>
 ∃ n252, ∃ b253, ∃ b254, ∃ a255 i256, ∃ b257, ∃ b258, v250 = (.tuple #[(.agg #[(.int .i64 n252), (.bool b253), (.bool b254), (.slice a255 i256 0), (.bool b257)]), (.bool b258)]) ∧
 nwH H251 (.cells true 0 [(.int .i64 0), (.bool false), (.bool false), (.slice none 0 0), (.bool false)]) fun i259 H260 =>
 stc H260 i259 0 [(.int .i64 n252), (.bool b253), (.bool b254), (.slice a255 i256 0), (.bool b257)] fun H261 =>
 ∃ b262, H261.cell i259 2 = some (.bool b262) ∧
 bif b262 then (
 R (.int .i64 14) H261)
 else (
 R (.int .i64 0) H261))
 else (
 R (.int .i64 0) H23)))
 else (
 ∃ b263, H23.cell i13 2 = some (.bool b263) ∧
 bif b263 then (
 ∃ n264, H23.cell i1 4 = some (.int .i64 n264) ∧
 inB (IntKind.i64.wrap (n264 - 1)) x0l ∧
 asRow x0 fun i265 i266 =>
 ∃ n267, H23.cell i265 (i266 + ((IntKind.i64.wrap (n264 - 1)).toNat * 5)) = some (.int .i64 n267) ∧
 CA en F.decl_kinds [(.int .i64 n267)] H23 fun v268 H269 =>
 ∃ n270, ∃ b271, ∃ b272, ∃ a273 i274, ∃ b275, ∃ b276, v268 = (.tuple #[(.agg #[(.int .i64 n270), (.bool b271), (.bool b272), (.slice a273 i274 0), (.bool b275)]), (.bool b276)]) ∧
 nwH H269 (.cells true 0 [(.int .i64 0), (.bool false), (.bool false), (.slice none 0 0), (.bool false)]) fun i277 H278 =>
 stc H278 i277 0 [(.int .i64 n270), (.bool b271), (.bool b272), (.slice a273 i274 0), (.bool b275)] fun H279 =>
 ∃ b280, H279.cell i277 2 = some (.bool b280) ∧
 bif b280 then (
 R (.int .i64 14) H279)
 else (
 R (.int .i64 0) H279))
 else (
 R (.int .i64 0) H23)))))
 else (
 ∃ b281, H23.cell i13 2 = some (.bool b281) ∧
 bif b281 then (
 ∃ n282, H23.cell i1 4 = some (.int .i64 n282) ∧
 CA en F.decl_within [(.int .i64 n282), (.int .i64 ((x0l : Nat) : Int))] H23 fun v283 H284 =>
 ∃ b285, v283 = (.bool b285) ∧
 bif (!b285) then (
 R (.int .i64 1) H284)
 else (
 ∃ b286, H284.cell i13 2 = some (.bool b286) ∧
 bif (!b286) then (
 ∃ n287, H284.cell i1 4 = some (.int .i64 n287) ∧
 bif (n287 != 0) then (
 R (.int .i64 1) H284)
 else (
 ∃ b288, H284.cell i13 2 = some (.bool b288) ∧
 bif b288 then (
 ∃ n289, H284.cell i1 4 = some (.int .i64 n289) ∧
 inB (IntKind.i64.wrap (n289 - 1)) x0l ∧
 asRow x0 fun i290 i291 =>
 ∃ n292, H284.cell i290 (i291 + ((IntKind.i64.wrap (n289 - 1)).toNat * 5)) = some (.int .i64 n292) ∧
 CA en F.decl_kinds [(.int .i64 n292)] H284 fun v293 H294 =>
 ∃ n295, ∃ b296, ∃ b297, ∃ a298 i299, ∃ b300, ∃ b301, v293 = (.tuple #[(.agg #[(.int .i64 n295), (.bool b296), (.bool b297), (.slice a298 i299 0), (.bool b300)]), (.bool b301)]) ∧
 nwH H294 (.cells true 0 [(.int .i64 0), (.bool false), (.bool false), (.slice none 0 0), (.bool false)]) fun i302 H303 =>
 stc H303 i302 0 [(.int .i64 n295), (.bool b296), (.bool b297), (.slice a298 i299 0), (.bool b300)] fun H304 =>
 ∃ b305, H304.cell i302 2 = some (.bool b305) ∧
 bif b305 then (
 R (.int .i64 14) H304)
 else (
 R (.int .i64 0) H304))
 else (
 R (.int .i64 0) H284)))
 else (
 ∃ b306, H284.cell i13 2 = some (.bool b306) ∧
 bif b306 then (
 ∃ n307, H284.cell i1 4 = some (.int .i64 n307) ∧
 inB (IntKind.i64.wrap (n307 - 1)) x0l ∧
 asRow x0 fun i308 i309 =>
 ∃ n310, H284.cell i308 (i309 + ((IntKind.i64.wrap (n307 - 1)).toNat * 5)) = some (.int .i64 n310) ∧
 CA en F.decl_kinds [(.int .i64 n310)] H284 fun v311 H312 =>
 ∃ n313, ∃ b314, ∃ b315, ∃ a316 i317, ∃ b318, ∃ b319, v311 = (.tuple #[(.agg #[(.int .i64 n313), (.bool b314), (.bool b315), (.slice a316 i317 0), (.bool b318)]), (.bool b319)]) ∧
 nwH H312 (.cells true 0 [(.int .i64 0), (.bool false), (.bool false), (.slice none 0 0), (.bool false)]) fun i320 H321 =>
 stc H321 i320 0 [(.int .i64 n313), (.bool b314), (.bool b315), (.slice a316 i317 0), (.bool b318)] fun H322 =>
 ∃ b323, H322.cell i320 2 = some (.bool b323) ∧
 bif b323 then (
 R (.int .i64 14) H322)
 else (
 R (.int .i64 0) H322))
 else (
 R (.int .i64 0) H284))))
 else (
 ∃ b324, H23.cell i13 2 = some (.bool b324) ∧
 bif (!b324) then (
 ∃ n325, H23.cell i1 4 = some (.int .i64 n325) ∧
 bif (n325 != 0) then (
 R (.int .i64 1) H23)
 else (
 ∃ b326, H23.cell i13 2 = some (.bool b326) ∧
 bif b326 then (
 ∃ n327, H23.cell i1 4 = some (.int .i64 n327) ∧
 inB (IntKind.i64.wrap (n327 - 1)) x0l ∧
 asRow x0 fun i328 i329 =>
 ∃ n330, H23.cell i328 (i329 + ((IntKind.i64.wrap (n327 - 1)).toNat * 5)) = some (.int .i64 n330) ∧
 CA en F.decl_kinds [(.int .i64 n330)] H23 fun v331 H332 =>
 ∃ n333, ∃ b334, ∃ b335, ∃ a336 i337, ∃ b338, ∃ b339, v331 = (.tuple #[(.agg #[(.int .i64 n333), (.bool b334), (.bool b335), (.slice a336 i337 0), (.bool b338)]), (.bool b339)]) ∧
 nwH H332 (.cells true 0 [(.int .i64 0), (.bool false), (.bool false), (.slice none 0 0), (.bool false)]) fun i340 H341 =>
 stc H341 i340 0 [(.int .i64 n333), (.bool b334), (.bool b335), (.slice a336 i337 0), (.bool b338)] fun H342 =>
 ∃ b343, H342.cell i340 2 = some (.bool b343) ∧
 bif b343 then (
 R (.int .i64 14) H342)
 else (
 R (.int .i64 0) H342))
 else (
 R (.int .i64 0) H23)))
 else (
 ∃ b344, H23.cell i13 2 = some (.bool b344) ∧
 bif b344 then (
 ∃ n345, H23.cell i1 4 = some (.int .i64 n345) ∧
 inB (IntKind.i64.wrap (n345 - 1)) x0l ∧
 asRow x0 fun i346 i347 =>
 ∃ n348, H23.cell i346 (i347 + ((IntKind.i64.wrap (n345 - 1)).toNat * 5)) = some (.int .i64 n348) ∧
 CA en F.decl_kinds [(.int .i64 n348)] H23 fun v349 H350 =>
 ∃ n351, ∃ b352, ∃ b353, ∃ a354 i355, ∃ b356, ∃ b357, v349 = (.tuple #[(.agg #[(.int .i64 n351), (.bool b352), (.bool b353), (.slice a354 i355 0), (.bool b356)]), (.bool b357)]) ∧
 nwH H350 (.cells true 0 [(.int .i64 0), (.bool false), (.bool false), (.slice none 0 0), (.bool false)]) fun i358 H359 =>
 stc H359 i358 0 [(.int .i64 n351), (.bool b352), (.bool b353), (.slice a354 i355 0), (.bool b356)] fun H360 =>
 ∃ b361, H360.cell i358 2 = some (.bool b361) ∧
 bif b361 then (
 R (.int .i64 14) H360)
 else (
 R (.int .i64 0) H360))
 else (
 R (.int .i64 0) H23))))))))) →
    CA en F.decl_check [(.slice x0 x0l 0), (.agg #[(.int .i64 x1_0), (.int .i64 x1_1), (.int .i64 x1_2), (.int .i64 x1_3), (.int .i64 x1_4)])] H R := by
  intro h
  refine wpFn_ok (Z := []) (fn := Go.Proofs.Tryz.f161) ?_ ?_ ?_
  · kernel_rfl
  · kernel_rfl
  · apply turnInto h
    kernel_rfl
theorem vc_math_bits_OnesCount (x0 : Int) (H : Heap) (R : Value → Heap → Prop) :
    (
 CA en F.math_bits_OnesCount64 [(.int .u64 x0)] H fun v1 H2 =>
 ∃ n3, v1 = (.int .i64 n3) ∧
 R (.int .i64 n3) H2) →
    CA en F.math_bits_OnesCount [(.int .u64 x0)] H R := by
  intro h
  refine wpFn_ok (Z := []) (fn := Go.Proofs.Tryz.f231) ?_ ?_ ?_
  · kernel_rfl
  · kernel_rfl
  · apply turnInto h
    kernel_rfl
theorem vc_math_bits_OnesCount64 (x0 : Int) (H : Heap) (R : Value → Heap → Prop) :
    (
 nn 1 ∧
 nn 2 ∧
 nn 4 ∧
 nn 8 ∧
 nn 16 ∧
 nn 32 ∧
 R (.int .i64 (IntKind.i64.wrap ((BitVec.ofInt 64 (IntKind.i64.wrap (IntKind.u64.wrap ((IntKind.u64.wrap ((IntKind.u64.wrap ((IntKind.u64.wrap ((BitVec.ofInt 64 (IntKind.u64.wrap ((Int.fdiv (IntKind.u64.wrap ((IntKind.u64.wrap ((BitVec.ofInt 64 (Int.fdiv (IntKind.u64.wrap ((IntKind.u64.wrap ((BitVec.ofInt 64 (Int.fdiv x0 2) &&& (BitVec.ofInt 64 6148914691236517205)).toNat : Int)) + (IntKind.u64.wrap ((BitVec.ofInt 64 x0 &&& (BitVec.ofInt 64 6148914691236517205)).toNat : Int)))) 4) &&& (BitVec.ofInt 64 3689348814741910323)).toNat : Int)) + (IntKind.u64.wrap ((BitVec.ofInt 64 (IntKind.u64.wrap ((IntKind.u64.wrap ((BitVec.ofInt 64 (Int.fdiv x0 2) &&& (BitVec.ofInt 64 6148914691236517205)).toNat : Int)) + (IntKind.u64.wrap ((BitVec.ofInt 64 x0 &&& (BitVec.ofInt 64 6148914691236517205)).toNat : Int)))) &&& (BitVec.ofInt 64 3689348814741910323)).toNat : Int)))) 16) + (IntKind.u64.wrap ((IntKind.u64.wrap ((BitVec.ofInt 64 (Int.fdiv (IntKind.u64.wrap ((IntKind.u64.wrap ((BitVec.ofInt 64 (Int.fdiv x0 2) &&& (BitVec.ofInt 64 6148914691236517205)).toNat : Int)) + (IntKind.u64.wrap ((BitVec.ofInt 64 x0 &&& (BitVec.ofInt 64 6148914691236517205)).toNat : Int)))) 4) &&& (BitVec.ofInt 64 3689348814741910323)).toNat : Int)) + (IntKind.u64.wrap ((BitVec.ofInt 64 (IntKind.u64.wrap ((IntKind.u64.wrap ((BitVec.ofInt 64 (Int.fdiv x0 2) &&& (BitVec.ofInt 64 6148914691236517205)).toNat : Int)) + (IntKind.u64.wrap ((BitVec.ofInt 64 x0 &&& (BitVec.ofInt 64 6148914691236517205)).toNat : Int)))) &&& (BitVec.ofInt 64 3689348814741910323)).toNat : Int)))))) &&& (BitVec.ofInt 64 1085102592571150095)).toNat : Int)) + (Int.fdiv (IntKind.u64.wrap ((BitVec.ofInt 64 (IntKind.u64.wrap ((Int.fdiv (IntKind.u64.wrap ((IntKind.u64.wrap ((BitVec.ofInt 64 (Int.fdiv (IntKind.u64.wrap ((IntKind.u64.wrap ((BitVec.ofInt 64 (Int.fdiv x0 2) &&& (BitVec.ofInt 64 6148914691236517205)).toNat : Int)) + (IntKind.u64.wrap ((BitVec.ofInt 64 x0 &&& (BitVec.ofInt 64 6148914691236517205)).toNat : Int)))) 4) &&& (BitVec.ofInt 64 3689348814741910323)).toNat : Int)) + (IntKind.u64.wrap ((BitVec.ofInt 64 (IntKind.u64.wrap ((IntKind.u64.wrap ((BitVec.ofInt 64 (Int.fdiv x0 2) &&& (BitVec.ofInt 64 6148914691236517205)).toNat : Int)) + (IntKind.u64.wrap ((BitVec.ofInt 64 x0 &&& (BitVec.ofInt 64 6148914691236517205)).toNat : Int)))) &&& (BitVec.ofInt 64 3689348814741910323)).toNat : Int)))) 16) + (IntKind.u64.wrap ((IntKind.u64.wrap ((BitVec.ofInt 64 (Int.fdiv (IntKind.u64.wrap ((IntKind.u64.wrap ((BitVec.ofInt 64 (Int.fdiv x0 2) &&& (BitVec.ofInt 64 6148914691236517205)).toNat : Int)) + (IntKind.u64.wrap ((BitVec.ofInt 64 x0 &&& (BitVec.ofInt 64 6148914691236517205)).toNat : Int)))) 4) &&& (BitVec.ofInt 64 3689348814741910323)).toNat : Int)) + (IntKind.u64.wrap ((BitVec.ofInt 64 (IntKind.u64.wrap ((IntKind.u64.wrap ((BitVec.ofInt 64 (Int.fdiv x0 2) &&& (BitVec.ofInt 64 6148914691236517205)).toNat : Int)) + (IntKind.u64.wrap ((BitVec.ofInt 64 x0 &&& (BitVec.ofInt 64 6148914691236517205)).toNat : Int)))) &&& (BitVec.ofInt 64 3689348814741910323)).toNat : Int)))))) &&& (BitVec.ofInt 64 1085102592571150095)).toNat : Int)) 256))) + (Int.fdiv (IntKind.u64.wrap ((IntKind.u64.wrap ((BitVec.ofInt 64 (IntKind.u64.wrap ((Int.fdiv (IntKind.u64.wrap ((IntKind.u64.wrap ((BitVec.ofInt 64 (Int.fdiv (IntKind.u64.wrap ((IntKind.u64.wrap ((BitVec.ofInt 64 (Int.fdiv x0 2) &&& (BitVec.ofInt 64 6148914691236517205)).toNat : Int)) + (IntKind.u64.wrap ((BitVec.ofInt 64 x0 &&& (BitVec.ofInt 64 6148914691236517205)).toNat : Int)))) 4) &&& (BitVec.ofInt 64 3689348814741910323)).toNat : Int)) + (IntKind.u64.wrap ((BitVec.ofInt 64 (IntKind.u64.wrap ((IntKind.u64.wrap ((BitVec.ofInt 64 (Int.fdiv x0 2) &&& (BitVec.ofInt 64 6148914691236517205)).toNat : Int)) + (IntKind.u64.wrap ((BitVec.ofInt 64 x0 &&& (BitVec.ofInt 64 6148914691236517205)).toNat : Int)))) &&& (BitVec.ofInt 64 3689348814741910323)).toNat : Int)))) 16) + (IntKind.u64.wrap ((IntKind.u64.wrap ((BitVec.ofInt 64 (Int.fdiv (IntKind.u64.wrap ((IntKind.u64.wrap ((BitVec.ofInt 64 (Int.fdiv x0 2) &&& (BitVec.ofInt 64 6148914691236517205)).toNat : Int)) + (IntKind.u64.wrap ((BitVec.ofInt 64 x0 &&& (BitVec.ofInt 64 6148914691236517205)).toNat : Int)))) 4) &&& (BitVec.ofInt 64 3689348814741910323)).toNat : Int)) + (IntKind.u64.wrap ((BitVec.ofInt 64 (IntKind.u64.wrap ((IntKind.u64.wrap ((BitVec.ofInt 64 (Int.fdiv x0 2) &&& (BitVec.ofInt 64 6148914691236517205)).toNat : Int)) + (IntKind.u64.wrap ((BitVec.ofInt 64 x0 &&& (BitVec.ofInt 64 6148914691236517205)).toNat : Int)))) &&& (BitVec.ofInt 64 3689348814741910323)).toNat : Int)))))) &&& (BitVec.ofInt 64 1085102592571150095)).toNat : Int)) + (Int.fdiv (IntKind.u64.wrap ((BitVec.ofInt 64 (IntKind.u64.wrap ((Int.fdiv (IntKind.u64.wrap ((IntKind.u64.wrap ((BitVec.ofInt 64 (Int.fdiv (IntKind.u64.wrap ((IntKind.u64.wrap ((BitVec.ofInt 64 (Int.fdiv x0 2) &&& (BitVec.ofInt 64 6148914691236517205)).toNat : Int)) + (IntKind.u64.wrap ((BitVec.ofInt 64 x0 &&& (BitVec.ofInt 64 6148914691236517205)).toNat : Int)))) 4) &&& (BitVec.ofInt 64 3689348814741910323)).toNat : Int)) + (IntKind.u64.wrap ((BitVec.ofInt 64 (IntKind.u64.wrap ((IntKind.u64.wrap ((BitVec.ofInt 64 (Int.fdiv x0 2) &&& (BitVec.ofInt 64 6148914691236517205)).toNat : Int)) + (IntKind.u64.wrap ((BitVec.ofInt 64 x0 &&& (BitVec.ofInt 64 6148914691236517205)).toNat : Int)))) &&& (BitVec.ofInt 64 3689348814741910323)).toNat : Int)))) 16) + (IntKind.u64.wrap ((IntKind.u64.wrap ((BitVec.ofInt 64 (Int.fdiv (IntKind.u64.wrap ((IntKind.u64.wrap ((BitVec.ofInt 64 (Int.fdiv x0 2) &&& (BitVec.ofInt 64 6148914691236517205)).toNat : Int)) + (IntKind.u64.wrap ((BitVec.ofInt 64 x0 &&& (BitVec.ofInt 64 6148914691236517205)).toNat : Int)))) 4) &&& (BitVec.ofInt 64 3689348814741910323)).toNat : Int)) + (IntKind.u64.wrap ((BitVec.ofInt 64 (IntKind.u64.wrap ((IntKind.u64.wrap ((BitVec.ofInt 64 (Int.fdiv x0 2) &&& (BitVec.ofInt 64 6148914691236517205)).toNat : Int)) + (IntKind.u64.wrap ((BitVec.ofInt 64 x0 &&& (BitVec.ofInt 64 6148914691236517205)).toNat : Int)))) &&& (BitVec.ofInt 64 3689348814741910323)).toNat : Int)))))) &&& (BitVec.ofInt 64 1085102592571150095)).toNat : Int)) 256))) 65536))) + (Int.fdiv (IntKind.u64.wrap ((IntKind.u64.wrap ((IntKind.u64.wrap ((BitVec.ofInt 64 (IntKind.u64.wrap ((Int.fdiv (IntKind.u64.wrap ((IntKind.u64.wrap ((BitVec.ofInt 64 (Int.fdiv (IntKind.u64.wrap ((IntKind.u64.wrap ((BitVec.ofInt 64 (Int.fdiv x0 2) &&& (BitVec.ofInt 64 6148914691236517205)).toNat : Int)) + (IntKind.u64.wrap ((BitVec.ofInt 64 x0 &&& (BitVec.ofInt 64 6148914691236517205)).toNat : Int)))) 4) &&& (BitVec.ofInt 64 3689348814741910323)).toNat : Int)) + (IntKind.u64.wrap ((BitVec.ofInt 64 (IntKind.u64.wrap ((IntKind.u64.wrap ((BitVec.ofInt 64 (Int.fdiv x0 2) &&& (BitVec.ofInt 64 6148914691236517205)).toNat : Int)) + (IntKind.u64.wrap ((BitVec.ofInt 64 x0 &&& (BitVec.ofInt 64 6148914691236517205)).toNat : Int)))) &&& (BitVec.ofInt 64 3689348814741910323)).toNat : Int)))) 16) + (IntKind.u64.wrap ((IntKind.u64.wrap ((BitVec.ofInt 64 (Int.fdiv (IntKind.u64.wrap ((IntKind.u64.wrap ((BitVec.ofInt 64 (Int.fdiv x0 2) &&& (BitVec.ofInt 64 6148914691236517205)).toNat : Int)) + (IntKind.u64.wrap ((BitVec.ofInt 64 x0 &&& (BitVec.ofInt 64 6148914691236517205)).toNat : Int)))) 4) &&& (BitVec.ofInt 64 3689348814741910323)).toNat : Int)) + (IntKind.u64.wrap ((BitVec.ofInt 64 (IntKind.u64.wrap ((IntKind.u64.wrap ((BitVec.ofInt 64 (Int.fdiv x0 2) &&& (BitVec.ofInt 64 6148914691236517205)).toNat : Int)) + (IntKind.u64.wrap ((BitVec.ofInt 64 x0 &&& (BitVec.ofInt 64 6148914691236517205)).toNat : Int)))) &&& (BitVec.ofInt 64 3689348814741910323)).toNat : Int)))))) &&& (BitVec.ofInt 64 1085102592571150095)).toNat : Int)) + (Int.fdiv (IntKind.u64.wrap ((BitVec.ofInt 64 (IntKind.u64.wrap ((Int.fdiv (IntKind.u64.wrap ((IntKind.u64.wrap ((BitVec.ofInt 64 (Int.fdiv (IntKind.u64.wrap ((IntKind.u64.wrap ((BitVec.ofInt 64 (Int.fdiv x0 2) &&& (BitVec.ofInt 64 6148914691236517205)).toNat : Int)) + (IntKind.u64.wrap ((BitVec.ofInt 64 x0 &&& (BitVec.ofInt 64 6148914691236517205)).toNat : Int)))) 4) &&& (BitVec.ofInt 64 3689348814741910323)).toNat : Int)) + (IntKind.u64.wrap ((BitVec.ofInt 64 (IntKind.u64.wrap ((IntKind.u64.wrap ((BitVec.ofInt 64 (Int.fdiv x0 2) &&& (BitVec.ofInt 64 6148914691236517205)).toNat : Int)) + (IntKind.u64.wrap ((BitVec.ofInt 64 x0 &&& (BitVec.ofInt 64 6148914691236517205)).toNat : Int)))) &&& (BitVec.ofInt 64 3689348814741910323)).toNat : Int)))) 16) + (IntKind.u64.wrap ((IntKind.u64.wrap ((BitVec.ofInt 64 (Int.fdiv (IntKind.u64.wrap ((IntKind.u64.wrap ((BitVec.ofInt 64 (Int.fdiv x0 2) &&& (BitVec.ofInt 64 6148914691236517205)).toNat : Int)) + (IntKind.u64.wrap ((BitVec.ofInt 64 x0 &&& (BitVec.ofInt 64 6148914691236517205)).toNat : Int)))) 4) &&& (BitVec.ofInt 64 3689348814741910323)).toNat : Int)) + (IntKind.u64.wrap ((BitVec.ofInt 64 (IntKind.u64.wrap ((IntKind.u64.wrap ((BitVec.ofInt 64 (Int.fdiv x0 2) &&& (BitVec.ofInt 64 6148914691236517205)).toNat : Int)) + (IntKind.u64.wrap ((BitVec.ofInt 64 x0 &&& (BitVec.ofInt 64 6148914691236517205)).toNat : Int)))) &&& (BitVec.ofInt 64 3689348814741910323)).toNat : Int)))))) &&& (BitVec.ofInt 64 1085102592571150095)).toNat : Int)) 256))) + (Int.fdiv (IntKind.u64.wrap ((IntKind.u64.wrap ((BitVec.ofInt 64 (IntKind.u64.wrap ((Int.fdiv (IntKind.u64.wrap ((IntKind.u64.wrap ((BitVec.ofInt 64 (Int.fdiv (IntKind.u64.wrap ((IntKind.u64.wrap ((BitVec.ofInt 64 (Int.fdiv x0 2) &&& (BitVec.ofInt 64 6148914691236517205)).toNat : Int)) + (IntKind.u64.wrap ((BitVec.ofInt 64 x0 &&& (BitVec.ofInt 64 6148914691236517205)).toNat : Int)))) 4) &&& (BitVec.ofInt 64 3689348814741910323)).toNat : Int)) + (IntKind.u64.wrap ((BitVec.ofInt 64 (IntKind.u64.wrap ((IntKind.u64.wrap ((BitVec.ofInt 64 (Int.fdiv x0 2) &&& (BitVec.ofInt 64 6148914691236517205)).toNat : Int)) + (IntKind.u64.wrap ((BitVec.ofInt 64 x0 &&& (BitVec.ofInt 64 6148914691236517205)).toNat : Int)))) &&& (BitVec.ofInt 64 3689348814741910323)).toNat : Int)))) 16) + (IntKind.u64.wrap ((IntKind.u64.wrap ((BitVec.ofInt 64 (Int.fdiv (IntKind.u64.wrap ((IntKind.u64.wrap ((BitVec.ofInt 64 (Int.fdiv x0 2) &&& (BitVec.ofInt 64 6148914691236517205)).toNat : Int)) + (IntKind.u64.wrap ((BitVec.ofInt 64 x0 &&& (BitVec.ofInt 64 6148914691236517205)).toNat : Int)))) 4) &&& (BitVec.ofInt 64 3689348814741910323)).toNat : Int)) + (IntKind.u64.wrap ((BitVec.ofInt 64 (IntKind.u64.wrap ((IntKind.u64.wrap ((BitVec.ofInt 64 (Int.fdiv x0 2) &&& (BitVec.ofInt 64 6148914691236517205)).toNat : Int)) + (IntKind.u64.wrap ((BitVec.ofInt 64 x0 &&& (BitVec.ofInt 64 6148914691236517205)).toNat : Int)))) &&& (BitVec.ofInt 64 3689348814741910323)).toNat : Int)))))) &&& (BitVec.ofInt 64 1085102592571150095)).toNat : Int)) + (Int.fdiv (IntKind.u64.wrap ((BitVec.ofInt 64 (IntKind.u64.wrap ((Int.fdiv (IntKind.u64.wrap ((IntKind.u64.wrap ((BitVec.ofInt 64 (Int.fdiv (IntKind.u64.wrap ((IntKind.u64.wrap ((BitVec.ofInt 64 (Int.fdiv x0 2) &&& (BitVec.ofInt 64 6148914691236517205)).toNat : Int)) + (IntKind.u64.wrap ((BitVec.ofInt 64 x0 &&& (BitVec.ofInt 64 6148914691236517205)).toNat : Int)))) 4) &&& (BitVec.ofInt 64 3689348814741910323)).toNat : Int)) + (IntKind.u64.wrap ((BitVec.ofInt 64 (IntKind.u64.wrap ((IntKind.u64.wrap ((BitVec.ofInt 64 (Int.fdiv x0 2) &&& (BitVec.ofInt 64 6148914691236517205)).toNat : Int)) + (IntKind.u64.wrap ((BitVec.ofInt 64 x0 &&& (BitVec.ofInt 64 6148914691236517205)).toNat : Int)))) &&& (BitVec.ofInt 64 3689348814741910323)).toNat : Int)))) 16) + (IntKind.u64.wrap ((IntKind.u64.wrap ((BitVec.ofInt 64 (Int.fdiv (IntKind.u64.wrap ((IntKind.u64.wrap ((BitVec.ofInt 64 (Int.fdiv x0 2) &&& (BitVec.ofInt 64 6148914691236517205)).toNat : Int)) + (IntKind.u64.wrap ((BitVec.ofInt 64 x0 &&& (BitVec.ofInt 64 6148914691236517205)).toNat : Int)))) 4) &&& (BitVec.ofInt 64 3689348814741910323)).toNat : Int)) + (IntKind.u64.wrap ((BitVec.ofInt 64 (IntKind.u64.wrap ((IntKind.u64.wrap ((BitVec.ofInt 64 (Int.fdiv x0 2) &&& (BitVec.ofInt 64 6148914691236517205)).toNat : Int)) + (IntKind.u64.wrap ((BitVec.ofInt 64 x0 &&& (BitVec.ofInt 64 6148914691236517205)).toNat : Int)))) &&& (BitVec.ofInt 64 3689348814741910323)).toNat : Int)))))) &&& (BitVec.ofInt 64 1085102592571150095)).toNat : Int)) 256))) 65536))) 4294967296)))) &&& (BitVec.ofInt 64 127)).toNat : Int))) H) →
    CA en F.math_bits_OnesCount64 [(.int .u64 x0)] H R := by
  intro h
  refine wpFn_ok (Z := []) (fn := Go.Proofs.Tryz.f284) ?_ ?_ ?_
  · kernel_rfl
  · kernel_rfl
  · apply turnInto h
    kernel_rfl
end Go.Proofs.YtjggeoghlicmdaaGreat
namespace Go.Proofs.YtjggeoghlicmdaaGreat
open Go Go.AS Go.RowKit
set_option linter.unusedVariables false
variable {H : Heap} {R : Value → Heap → Prop}
def hsh (k : BitVec 64) : Nat := (k * 11400714819323198485#64).toNat / 4294967296
def bkt (k : BitVec 64) (n : Int) : Int := if n < 1 then 0 else (hsh k : Int) % n
theorem hsh_lt (k : BitVec 64) : hsh k < 4294967296 := by
  have := (k * 11400714819323198485#64).isLt
  unfold hsh; omega
theorem mul_wrap (k : BitVec 64) (c : Nat) (hc : c < 18446744073709551616) : IntKind.u64.wrap ((k.toNat : Int) * (c : Int)) = (((k * BitVec.ofNat 64 c).toNat : Nat) : Int) := by
  rw [wrap_u64]
  congr 2
  have e : (c : Int) = ((BitVec.ofNat 64 c).toNat : Int) := by simp [BitVec.toNat_ofNat, Nat.mod_eq_of_lt hc]
  rw [e, BitVec.ofInt_mul, ofInt_bv, ofInt_bv]
theorem u64_self {n : Int} (h0 : 0 ≤ n) (h1 : n < 18446744073709551616) : IntKind.u64.wrap n = n := by
  have e : IntKind.u64.wrap n = n % 18446744073709551616 := rfl
  rw [e]; omega
theorem Bucket_ok {k : BitVec 64} {n : Int} (hn : n < 9223372036854775808) (hR : R (I (bkt k n)) H) : CA en F.decl_Bucket [W k, I n] H R := by
  apply vc_decl_Bucket
  by_cases h : n < 1
  · refine cond_yes (by simpa using h) ?_
    have : bkt k n = 0 := by unfold bkt; rw [if_pos h]
    rw [this] at hR
    exact hR
  · refine cond_no (by simpa using h) ⟨by unfold nn; decide, ?_, ?_⟩
    · rw [u64_self (by omega) (by omega)]; unfold nz; omega
    · rw [u64_self (n := n) (by omega) (by omega)]
      have e := mul_wrap k 11400714819323198485 (by decide)
      rw [show ((k.toNat : Int) * 11400714819323198485) = ((k.toNat : Int) * ((11400714819323198485 : Nat) : Int)) from rfl, e]
      have e2 : ((((k * BitVec.ofNat 64 11400714819323198485).toNat : Nat) : Int).fdiv 4294967296) = (hsh k : Int) := by
        unfold hsh
        rw [Int.fdiv_eq_ediv_of_nonneg _ (by decide)]
        rfl
      rw [e2, Int.tmod_eq_emod_of_nonneg (by omega)]
      have hb := hsh_lt k
      have e3 : (hsh k : Int) % n = ((hsh k % n.toNat : Nat) : Int) := by rw [Int.natCast_emod, Int.toNat_of_nonneg (by omega)]
      have e4 := Nat.mod_le (hsh k) n.toNat
      have h1 : (hsh k : Int) % n < 4294967296 := by omega
      have h2 : 0 ≤ (hsh k : Int) % n := Int.emod_nonneg _ (by omega)
      rw [wrap_i64 (by omega)]
      have : bkt k n = (hsh k : Int) % n := by unfold bkt; rw [if_neg h]
      rw [this] at hR
      exact hR
structure Kind where
  words : Int
  buckets : Bool
  nested : Bool
  does : List Int
  bucketed : Bool
def kindOf (k : Int) : Option Kind :=
  if k = 1 then some ⟨1, false, false, [1, 2, 4], false⟩
  else if k = 2 then some ⟨1, false, false, [1, 2, 4], false⟩
  else if k = 3 then some ⟨4, false, false, [1, 2, 4], false⟩
  else if k = 4 then some ⟨1, true, false, [3, 5, 1, 2, 4], true⟩
  else if k = 5 then some ⟨1, false, false, [3, 5, 1, 2, 4], false⟩
  else if k = 6 then some ⟨4, false, false, [6, 7, 8], false⟩
  else if k = 7 then some ⟨4, false, false, [6, 7, 8], false⟩
  else if k = 8 then some ⟨1, true, false, [6, 8], false⟩
  else if k = 9 then some ⟨1, false, true, [3, 1, 2, 4], false⟩
  else if k = 10 then some ⟨1, true, true, [3, 1, 2, 4], true⟩
  else none
def kindD (k : Int) : Kind := (kindOf k).getD ⟨0, false, false, [], false⟩
def Ints (H : Heap) (a : Option Addr) (l : Nat) (xs : List Int) : Prop :=
  l = xs.length ∧ (xs = [] ∨ ∃ i w, a = some ⟨i, 0, none⟩ ∧ i < H.next ∧ H.get i = some (.cells w 1 (xs.map I)))
theorem kinds_ok {x : Int} (hR : ∀ H' a l, Frm [] H H' → Ints H' a l (kindD x).does → R (.tuple #[.agg #[I (kindD x).words, .bool (kindD x).buckets, .bool (kindD x).nested, .slice a l 0, .bool (kindD x).bucketed], .bool (kindOf x).isSome]) H') :
    CA en F.decl_kinds [I x] H R := by
  apply vc_decl_kinds
  refine nwH_in fun i1 H2 e1 h2 => nwH_in fun i3 H4 e3 h4 => nwH_in fun i5 H6 e5 h6 => nwH_in fun i7 H8 e7 h8 => ?_
  have g8 : H8.get i1 = some (.cells true 0 [I 0, .bool false, .bool false, .slice none 0 0, .bool false]) ∧ H8.get i3 = some (.cells true 1 [I 1, I 2, I 4]) ∧ H8.get i5 = some (.cells true 1 [I 6, I 7, I 8]) ∧ H8.get i7 = some (.cells true 1 [I 3, I 5]) ∧ H8.next = H.next + 4 ∧ i1 = H.next ∧ i3 = H.next + 1 ∧ i5 = H.next + 2 ∧ i7 = H.next + 3 := by
    subst_vars
    simp only [get_new, next_new]
    refine ⟨?_, ?_, ?_, ?_, ?_, ?_, ?_, ?_, ?_⟩ <;> first | trivial | omega | ((repeat (first | rw [if_pos trivial] | rw [if_pos rfl] | rw [if_neg (by omega)])); try (first | rfl | assumption))
  have f8 : Frm [] H H8 := by subst_vars; exact ((((Frm.refl _ _).new _).new _).new _).new _
  clear e1 h2 e3 h4 e5 h6 e7 h8
  obtain ⟨g1, g3, g5, g7, n8, i1e, i3e, i5e, i7e⟩ := g8
  refine ⟨[I 1, I 2, I 4], by simp [rowOf, firstCellsA, g3, takeAt], ?_⟩
  refine apd_grow (old := [I 3, I 5]) g7 (by decide) (by decide) rfl (by decide) fun j H11 ej hj => ?_
  refine nwH_in fun i12 H13 e12 h13 => ?_
  have g13 : H13.get i1 = some (.cells true 0 [I 0, .bool false, .bool false, .slice none 0 0, .bool false]) ∧ H13.get i3 = some (.cells true 1 [I 1, I 2, I 4]) ∧ H13.get i5 = some (.cells true 1 [I 6, I 7, I 8]) ∧ H13.get j = some (.cells true 1 [I 3, I 5, I 1, I 2, I 4]) ∧ H13.get i12 = some (.cells true 1 [I 3]) ∧ H13.next = H.next + 6 ∧ j = H.next + 4 ∧ i12 = H.next + 5 := by
    subst e12 h13 ej hj
    simp only [get_new, get_set, next_new, next_set]
    refine ⟨?_, ?_, ?_, ?_, ?_, by omega, by omega, by omega⟩ <;> (first | trivial | omega | ((repeat (first | rw [if_pos trivial] | rw [if_pos rfl] | rw [if_neg (by omega)])); try (first | rfl | assumption)))
  have f13 : Frm [] H H13 := by subst e12 h13 ej hj; exact ((f8.set _ (by right; omega)).new _).new _
  clear e12 h13 ej hj g1 g3 g5 g7
  obtain ⟨g1, g3, g5, gj, g12, n13, je, i12e⟩ := g13
  refine ⟨[I 1, I 2, I 4], by simp [rowOf, firstCellsA, g3, takeAt], ?_⟩
  refine apd_grow (old := [I 3]) g12 (by decide) (by decide) rfl (by decide) fun q H16 eq hq => ?_
  refine nwH_in fun i17 H18 e17 h18 => nwH_in fun i19 H20 e19 h20 => ?_
  have g20 : H20.get i1 = some (.cells true 0 [I 0, .bool false, .bool false, .slice none 0 0, .bool false]) ∧ H20.get i3 = some (.cells true 1 [I 1, I 2, I 4]) ∧ H20.get i5 = some (.cells true 1 [I 6, I 7, I 8]) ∧ H20.get j = some (.cells true 1 [I 3, I 5, I 1, I 2, I 4]) ∧ H20.get q = some (.cells true 1 [I 3, I 1, I 2, I 4]) ∧ H20.get i17 = some (.cells true 1 [I 6, I 8]) ∧ (∃ c, H20.get i19 = some (.cells true 0 c) ∧ c.length = 55) ∧ H20.next = H.next + 9 ∧ q = H.next + 6 ∧ i17 = H.next + 7 ∧ i19 = H.next + 8 := by
    subst e17 h18 e19 h20 eq hq
    simp only [get_new, get_set, next_new, next_set]
    refine ⟨?_, ?_, ?_, ?_, ?_, ?_, ⟨_, if_pos trivial, rfl⟩, by omega, by omega, by omega, by omega⟩ <;> (first | trivial | omega | ((repeat (first | rw [if_pos trivial] | rw [if_pos rfl] | rw [if_neg (by omega)])); try (first | rfl | assumption)))
  have f20 : Frm [] H H20 := by subst e17 h18 e19 h20 eq hq; exact (((f13.set _ (by right; omega)).new _).new _).new _
  clear e17 h18 e19 h20 eq hq g1 g3 g5 gj g12
  obtain ⟨g1, g3, g5, gj, gq, g17, ⟨c, g19, hc⟩, n20, qe, i17e, i19e⟩ := g20
  refine stc_of' g19 (by rw [hc]; exact Nat.le_refl _) fun H23 e23 => ?_
  have hset : ∀ vs : List Value, vs.length = 55 → setAt c 0 vs = vs := by
    intro vs hv
    have key : ∀ (vs c pre : List Value), vs.length = c.length → setAt (pre ++ c) pre.length vs = pre ++ vs := by
      intro vs
      induction vs with
      | nil => intro c pre h; cases c with | nil => simp [setAt] | cons => simp at h
      | cons v vs ih =>
        intro c pre h
        cases c with
        | nil => simp at h
        | cons x c =>
          simp only [setAt]
          rw [List.set_append_right _ _ (Nat.le_refl _), Nat.sub_self, List.set_cons_zero]
          have := ih c (pre ++ [v]) (by simpa using h)
          simpa using this
    have := key vs c [] (by omega)
    simpa using this
  rw [hset _ rfl] at e23
  have t19 := (congrArg (fun h : Heap => h.get i19) e23).trans (get_set_self _ _ _)
  have f23 : Frm [] H H23 := by rw [e23]; exact f20.set _ (by right; omega)
  have n23 : H23.next = H.next + 9 := by rw [e23, next_set]; exact n20
  have s1 : H23.get i1 = some (.cells true 0 [I 0, .bool false, .bool false, .slice none 0 0, .bool false]) := by rw [e23, get_set_ne (by omega)]; exact g1
  have s3 : H23.get i3 = some (.cells true 1 [I 1, I 2, I 4]) := by rw [e23, get_set_ne (by omega)]; exact g3
  have s5 : H23.get i5 = some (.cells true 1 [I 6, I 7, I 8]) := by rw [e23, get_set_ne (by omega)]; exact g5
  have sj : H23.get j = some (.cells true 1 [I 3, I 5, I 1, I 2, I 4]) := by rw [e23, get_set_ne (by omega)]; exact gj
  have sq : H23.get q = some (.cells true 1 [I 3, I 1, I 2, I 4]) := by rw [e23, get_set_ne (by omega)]; exact gq
  have s17 : H23.get i17 = some (.cells true 1 [I 6, I 8]) := by rw [e23, get_set_ne (by omega)]; exact g17
  clear e23 g1 g3 g5 gj gq g17 g19
  have none1 : kindOf x = none → stc H23 i1 0 [I 0, .bool false, .bool false, .slice none 0 0, .bool false] fun H24 => ∃ n25 b26 b27 a28 i29 b30, H24.cellsAt i1 0 5 = some [I n25, .bool b26, .bool b27, .slice a28 i29 0, .bool b30] ∧ R (.tuple #[.agg #[I n25, .bool b26, .bool b27, .slice a28 i29 0, .bool b30], .bool false]) H24 := by
    intro hk
    refine stc_of' s1 (by decide) fun H24 e24 => ?_
    have hD : kindD x = ⟨0, false, false, [], false⟩ := by unfold kindD; rw [hk]; rfl
    have := hR H24 none 0 (by rw [e24]; exact f23.set _ (by right; omega)) (by rw [hD]; exact ⟨rfl, .inl rfl⟩)
    rw [hD, hk] at this
    exact ⟨0, false, false, none, 0, false, by rw [e24, cellsAt_of (get_set_self _ _ _)]; rfl, this⟩
  have some1 : ∀ (K : Kind) (a : Option Addr) (i : Nat) (b : Bool), kindOf x = some K → a = some ⟨i, 0, none⟩ → i ≠ i1 → i < H.next + 9 → H23.get i = some (.cells b 1 (K.does.map I)) → ∀ l, l = K.does.length →
      H23.cellsAt i19 (0 + x.toNat * 5) 5 = some [I K.words, .bool K.buckets, .bool K.nested, .slice a l 0, .bool K.bucketed] →
      ∃ n38 b39 b40 a41 i42 b43, H23.cellsAt i19 (0 + x.toNat * 5) 5 = some [I n38, .bool b39, .bool b40, .slice a41 i42 0, .bool b43] ∧
        stc H23 i1 0 [I n38, .bool b39, .bool b40, .slice a41 i42 0, .bool b43] fun H44 => ∃ n45 b46 b47 a48 i49 b50, H44.cellsAt i1 0 5 = some [I n45, .bool b46, .bool b47, .slice a48 i49 0, .bool b50] ∧
          R (.tuple #[.agg #[I n45, .bool b46, .bool b47, .slice a48 i49 0, .bool b50], .bool true]) H44 := by
    intro K a i b hk ha hne hlt hg l hl hcell
    refine ⟨_, _, _, _, _, _, hcell, ?_⟩
    refine stc_of' s1 (Nat.le_refl _) fun H44 e44 => ?_
    have hD : kindD x = K := by unfold kindD; rw [hk]; rfl
    have := hR H44 a l (by rw [e44]; exact f23.set _ (by right; omega)) (by rw [hD]; exact ⟨hl, .inr ⟨i, b, ha, by rw [e44, next_set]; omega, by rw [e44, get_set_ne hne]; exact hg⟩⟩)
    rw [hD, hk] at this
    exact ⟨K.words, K.buckets, K.nested, a, l, K.bucketed, by rw [e44, cellsAt_of (get_set_self _ _ _)]; rfl, this⟩
  refine cond_of (fun h => none1 ?_) fun h => cond_of (fun h' => none1 ?_) fun h' => ⟨?_, ?_⟩
  · simp only [decide_eq_true_eq] at h
    unfold kindOf
    repeat rw [if_neg (by omega)]
  · simp only [decide_eq_true_eq, ge_iff_le] at h'
    unfold kindOf
    repeat rw [if_neg (by omega)]
  · simp only [decide_eq_false_iff_not, ge_iff_le] at h h'
    exact ⟨by omega, by omega⟩
  · simp only [decide_eq_false_iff_not, ge_iff_le] at h h'
    have hx : x = 1 ∨ x = 2 ∨ x = 3 ∨ x = 4 ∨ x = 5 ∨ x = 6 ∨ x = 7 ∨ x = 8 ∨ x = 9 ∨ x = 10 := by omega
    rcases hx with rfl | rfl | rfl | rfl | rfl | rfl | rfl | rfl | rfl | rfl
    · exact some1 ⟨1, false, false, [1, 2, 4], false⟩ _ i3 true rfl rfl (by omega) (by omega) s3 _ rfl (by rw [cellsAt_of t19]; rfl)
    · exact some1 ⟨1, false, false, [1, 2, 4], false⟩ _ i3 true rfl rfl (by omega) (by omega) s3 _ rfl (by rw [cellsAt_of t19]; rfl)
    · exact some1 ⟨4, false, false, [1, 2, 4], false⟩ _ i3 true rfl rfl (by omega) (by omega) s3 _ rfl (by rw [cellsAt_of t19]; rfl)
    · exact some1 ⟨1, true, false, [3, 5, 1, 2, 4], true⟩ _ j true rfl rfl (by omega) (by omega) sj _ rfl (by rw [cellsAt_of t19]; rfl)
    · exact some1 ⟨1, false, false, [3, 5, 1, 2, 4], false⟩ _ j true rfl rfl (by omega) (by omega) sj _ rfl (by rw [cellsAt_of t19]; rfl)
    · exact some1 ⟨4, false, false, [6, 7, 8], false⟩ _ i5 true rfl rfl (by omega) (by omega) s5 _ rfl (by rw [cellsAt_of t19]; rfl)
    · exact some1 ⟨4, false, false, [6, 7, 8], false⟩ _ i5 true rfl rfl (by omega) (by omega) s5 _ rfl (by rw [cellsAt_of t19]; rfl)
    · exact some1 ⟨1, true, false, [6, 8], false⟩ _ i17 true rfl rfl (by omega) (by omega) s17 _ rfl (by rw [cellsAt_of t19]; rfl)
    · exact some1 ⟨1, false, true, [3, 1, 2, 4], false⟩ _ q true rfl rfl (by omega) (by omega) sq _ rfl (by rw [cellsAt_of t19]; rfl)
    · exact some1 ⟨1, true, true, [3, 1, 2, 4], true⟩ _ q true rfl rfl (by omega) (by omega) sq _ rfl (by rw [cellsAt_of t19]; rfl)
structure Dc where
  kind : Int
  entries : Int
  words : Int
  buckets : Int
  inner : Int
abbrev Dc.cells (d : Dc) : List Value := [I d.kind, I d.entries, I d.words, I d.buckets, I d.inner]
abbrev Dc.val (d : Dc) : Value := .agg #[I d.kind, I d.entries, I d.words, I d.buckets, I d.inner]
end Go.Proofs.YtjggeoghlicmdaaGreat
namespace Go.Proofs.YtjggeoghlicmdaaGreat
open Go Go.AS Go.RowKit
set_option linter.unusedVariables false
variable {H : Heap} {R : Value → Heap → Prop}
def blm (k : BitVec 64) : BitVec 64 := k * 14029467366897019727#64
def pos1 (k : BitVec 64) : Nat := (blm k).toNat / 288230376151711744
def pos2 (k : BitVec 64) : Nat := (blm k).toNat / 4503599627370496 % 64
def pos3 (k : BitVec 64) : Nat := (blm k).toNat / 70368744177664 % 64
def hit (k : BitVec 64) (j : Nat) : Bool := decide (pos1 k = j) || decide (pos2 k = j) || decide (pos3 k = j)
def cnt (k : BitVec 64) : Nat → Nat
  | 0 => 0
  | i + 1 => cnt k i + if hit k i then 1 else 0
end Go.Proofs.YtjggeoghlicmdaaGreat
namespace Go.Proofs.YtjggeoghlicmdaaGreat
open Go Go.AS Go.RowKit
set_option linter.unusedVariables false
variable {H : Heap} {R : Value → Heap → Prop}
end Go.Proofs.YtjggeoghlicmdaaGreat
namespace Go.Proofs.YtjggeoghlicmdaaGreat
open Go Go.AS Go.RowKit
set_option linter.unusedVariables false
variable {H : Heap} {R : Value → Heap → Prop}
end Go.Proofs.YtjggeoghlicmdaaGreat
namespace Go.Proofs.YtjggeoghlicmdaaGreat
open Go Go.AS Go.RowKit
set_option linter.unusedVariables false
variable {H : Heap} {R : Value → Heap → Prop}
def flat (l : List Dc) : List Value := (l.map Dc.cells).flatten
def Rows (H : Heap) (a : Option Addr) (n : Nat) (l : List Dc) : Prop :=
  n = l.length ∧ (l = [] ∨ ∃ i w z, a = some ⟨i, 0, none⟩ ∧ i < H.next ∧ H.get i = some (.cells w z (flat l)))
theorem Rows.frm {H H' : Heap} {a n l} (h : Rows H a n l) (f : Frm [] H H') : Rows H' a n l := by
  refine ⟨h.1, h.2.imp_right fun ⟨i, w, z, h1, h2, h3⟩ => ⟨i, w, z, h1, ?_, ?_⟩⟩
  · have := f.1; omega
  · rw [f.2 i h2 (by simp)]; exact h3
def dc0 : Dc := ⟨0, 0, 0, 0, 0⟩
theorem flat_kind : ∀ (l : List Dc) (j : Nat), j < l.length → (flat l)[j * 5]? = some (I (l.getD j dc0).kind)
  | [], j, h => by simp at h
  | d :: l, 0, _ => rfl
  | d :: l, j + 1, h => by
    have ih := flat_kind l j (by simpa using h)
    have e : flat (d :: l) = d.cells ++ flat l := rfl
    rw [e, List.getElem?_append_right (by simp only [List.length_cons, List.length_nil]; omega)]
    have e2 : (j + 1) * 5 - d.cells.length = j * 5 := by simp only [List.length_cons, List.length_nil]; omega
    rw [e2, ih]
    simp
theorem flat_take : ∀ (l : List Dc) (j : Nat), j < l.length → takeAt (flat l) (j * 5) 5 = some (l.getD j dc0).cells
  | [], j, h => by simp at h
  | d :: l, 0, _ => rfl
  | d :: l, j + 1, h => by
    have ih := flat_take l j (by simpa using h)
    have e : flat (d :: l) = d.cells ++ flat l := rfl
    have e2 : (j + 1) * 5 = (j * 5) + 1 + 1 + 1 + 1 + 1 := by omega
    rw [e, e2]
    simpa [takeAt] using ih
def pow (n : Int) : Prop := n = 1 ∨ n = 2 ∨ n = 4 ∨ n = 8 ∨ n = 16 ∨ n = 32
instance (n : Int) : Decidable (pow n) := inferInstanceAs (Decidable (n = 1 ∨ n = 2 ∨ n = 4 ∨ n = 8 ∨ n = 16 ∨ n = 32))
def chk (l : List Dc) (d : Dc) : Int :=
  if (kindOf d.kind).isSome = false then 1
  else if d.entries < 1 ∨ d.entries > 64 ∨ d.words < 1 ∨ d.words > (kindD d.kind).words then 1
  else if (kindD d.kind).buckets = true ∧ ¬ pow d.buckets ∨ (kindD d.kind).buckets = false ∧ d.buckets ≠ 0 then 1
  else if (kindD d.kind).nested = true then
    (if d.inner < 1 ∨ d.inner > (l.length : Int) then 1 else if (kindD (l.getD (d.inner - 1).toNat dc0).kind).nested = true then 14 else 0)
  else if d.inner ≠ 0 then 1 else 0
theorem Within_ok {x m : Int} (hR : R (.bool (decide (1 ≤ x ∧ x ≤ m))) H) : CA en F.decl_within [I x, I m] H R := by
  apply vc_decl_within
  refine cond_of (fun h => ?_) fun h => ?_
  · have e : decide (1 ≤ x ∧ x ≤ m) = decide (x ≤ m) := by
      simp only [decide_eq_true_eq] at h
      rw [Bool.eq_iff_iff]; simp only [decide_eq_true_eq]; omega
    rw [e] at hR; exact hR
  · have e : decide (1 ≤ x ∧ x ≤ m) = false := by
      simp only [decide_eq_false_iff_not] at h ⊢; omega
    rw [e] at hR; exact hR
theorem Ones_ok {n : Int} (h : 1 ≤ n ∧ n ≤ 32) (hR : ∀ c : Int, (c = 1 ↔ pow n) → R (I c) H) : CA en F.math_bits_OnesCount [.int .u64 (IntKind.u64.wrap n)] H R := by
  rw [u64_self (by omega) (by omega)]
  apply vc_math_bits_OnesCount
  apply vc_math_bits_OnesCount64
  have hx : n = 1 ∨ n = 2 ∨ n = 3 ∨ n = 4 ∨ n = 5 ∨ n = 6 ∨ n = 7 ∨ n = 8 ∨ n = 9 ∨ n = 10 ∨ n = 11 ∨ n = 12 ∨ n = 13 ∨ n = 14 ∨ n = 15 ∨ n = 16 ∨ n = 17 ∨ n = 18 ∨ n = 19 ∨ n = 20 ∨ n = 21 ∨ n = 22 ∨ n = 23 ∨ n = 24 ∨ n = 25 ∨ n = 26 ∨ n = 27 ∨ n = 28 ∨ n = 29 ∨ n = 30 ∨ n = 31 ∨ n = 32 := by omega
  rcases hx with rfl | rfl | rfl | rfl | rfl | rfl | rfl | rfl | rfl | rfl | rfl | rfl | rfl | rfl | rfl | rfl | rfl | rfl | rfl | rfl | rfl | rfl | rfl | rfl | rfl | rfl | rfl | rfl | rfl | rfl | rfl | rfl
  · refine ⟨by unfold nn; decide, by unfold nn; decide, by unfold nn; decide, by unfold nn; decide, by unfold nn; decide, by unfold nn; decide, ?_⟩; refine ⟨_, rfl, ?_⟩; apply turnInto (hR 1 (by decide)); kernel_rfl
  · refine ⟨by unfold nn; decide, by unfold nn; decide, by unfold nn; decide, by unfold nn; decide, by unfold nn; decide, by unfold nn; decide, ?_⟩; refine ⟨_, rfl, ?_⟩; apply turnInto (hR 1 (by decide)); kernel_rfl
  · refine ⟨by unfold nn; decide, by unfold nn; decide, by unfold nn; decide, by unfold nn; decide, by unfold nn; decide, by unfold nn; decide, ?_⟩; refine ⟨_, rfl, ?_⟩; apply turnInto (hR 2 (by decide)); kernel_rfl
  · refine ⟨by unfold nn; decide, by unfold nn; decide, by unfold nn; decide, by unfold nn; decide, by unfold nn; decide, by unfold nn; decide, ?_⟩; refine ⟨_, rfl, ?_⟩; apply turnInto (hR 1 (by decide)); kernel_rfl
  · refine ⟨by unfold nn; decide, by unfold nn; decide, by unfold nn; decide, by unfold nn; decide, by unfold nn; decide, by unfold nn; decide, ?_⟩; refine ⟨_, rfl, ?_⟩; apply turnInto (hR 2 (by decide)); kernel_rfl
  · refine ⟨by unfold nn; decide, by unfold nn; decide, by unfold nn; decide, by unfold nn; decide, by unfold nn; decide, by unfold nn; decide, ?_⟩; refine ⟨_, rfl, ?_⟩; apply turnInto (hR 2 (by decide)); kernel_rfl
  · refine ⟨by unfold nn; decide, by unfold nn; decide, by unfold nn; decide, by unfold nn; decide, by unfold nn; decide, by unfold nn; decide, ?_⟩; refine ⟨_, rfl, ?_⟩; apply turnInto (hR 3 (by decide)); kernel_rfl
  · refine ⟨by unfold nn; decide, by unfold nn; decide, by unfold nn; decide, by unfold nn; decide, by unfold nn; decide, by unfold nn; decide, ?_⟩; refine ⟨_, rfl, ?_⟩; apply turnInto (hR 1 (by decide)); kernel_rfl
  · refine ⟨by unfold nn; decide, by unfold nn; decide, by unfold nn; decide, by unfold nn; decide, by unfold nn; decide, by unfold nn; decide, ?_⟩; refine ⟨_, rfl, ?_⟩; apply turnInto (hR 2 (by decide)); kernel_rfl
  · refine ⟨by unfold nn; decide, by unfold nn; decide, by unfold nn; decide, by unfold nn; decide, by unfold nn; decide, by unfold nn; decide, ?_⟩; refine ⟨_, rfl, ?_⟩; apply turnInto (hR 2 (by decide)); kernel_rfl
  · refine ⟨by unfold nn; decide, by unfold nn; decide, by unfold nn; decide, by unfold nn; decide, by unfold nn; decide, by unfold nn; decide, ?_⟩; refine ⟨_, rfl, ?_⟩; apply turnInto (hR 3 (by decide)); kernel_rfl
  · refine ⟨by unfold nn; decide, by unfold nn; decide, by unfold nn; decide, by unfold nn; decide, by unfold nn; decide, by unfold nn; decide, ?_⟩; refine ⟨_, rfl, ?_⟩; apply turnInto (hR 2 (by decide)); kernel_rfl
  · refine ⟨by unfold nn; decide, by unfold nn; decide, by unfold nn; decide, by unfold nn; decide, by unfold nn; decide, by unfold nn; decide, ?_⟩; refine ⟨_, rfl, ?_⟩; apply turnInto (hR 3 (by decide)); kernel_rfl
  · refine ⟨by unfold nn; decide, by unfold nn; decide, by unfold nn; decide, by unfold nn; decide, by unfold nn; decide, by unfold nn; decide, ?_⟩; refine ⟨_, rfl, ?_⟩; apply turnInto (hR 3 (by decide)); kernel_rfl
  · refine ⟨by unfold nn; decide, by unfold nn; decide, by unfold nn; decide, by unfold nn; decide, by unfold nn; decide, by unfold nn; decide, ?_⟩; refine ⟨_, rfl, ?_⟩; apply turnInto (hR 4 (by decide)); kernel_rfl
  · refine ⟨by unfold nn; decide, by unfold nn; decide, by unfold nn; decide, by unfold nn; decide, by unfold nn; decide, by unfold nn; decide, ?_⟩; refine ⟨_, rfl, ?_⟩; apply turnInto (hR 1 (by decide)); kernel_rfl
  · refine ⟨by unfold nn; decide, by unfold nn; decide, by unfold nn; decide, by unfold nn; decide, by unfold nn; decide, by unfold nn; decide, ?_⟩; refine ⟨_, rfl, ?_⟩; apply turnInto (hR 2 (by decide)); kernel_rfl
  · refine ⟨by unfold nn; decide, by unfold nn; decide, by unfold nn; decide, by unfold nn; decide, by unfold nn; decide, by unfold nn; decide, ?_⟩; refine ⟨_, rfl, ?_⟩; apply turnInto (hR 2 (by decide)); kernel_rfl
  · refine ⟨by unfold nn; decide, by unfold nn; decide, by unfold nn; decide, by unfold nn; decide, by unfold nn; decide, by unfold nn; decide, ?_⟩; refine ⟨_, rfl, ?_⟩; apply turnInto (hR 3 (by decide)); kernel_rfl
  · refine ⟨by unfold nn; decide, by unfold nn; decide, by unfold nn; decide, by unfold nn; decide, by unfold nn; decide, by unfold nn; decide, ?_⟩; refine ⟨_, rfl, ?_⟩; apply turnInto (hR 2 (by decide)); kernel_rfl
  · refine ⟨by unfold nn; decide, by unfold nn; decide, by unfold nn; decide, by unfold nn; decide, by unfold nn; decide, by unfold nn; decide, ?_⟩; refine ⟨_, rfl, ?_⟩; apply turnInto (hR 3 (by decide)); kernel_rfl
  · refine ⟨by unfold nn; decide, by unfold nn; decide, by unfold nn; decide, by unfold nn; decide, by unfold nn; decide, by unfold nn; decide, ?_⟩; refine ⟨_, rfl, ?_⟩; apply turnInto (hR 3 (by decide)); kernel_rfl
  · refine ⟨by unfold nn; decide, by unfold nn; decide, by unfold nn; decide, by unfold nn; decide, by unfold nn; decide, by unfold nn; decide, ?_⟩; refine ⟨_, rfl, ?_⟩; apply turnInto (hR 4 (by decide)); kernel_rfl
  · refine ⟨by unfold nn; decide, by unfold nn; decide, by unfold nn; decide, by unfold nn; decide, by unfold nn; decide, by unfold nn; decide, ?_⟩; refine ⟨_, rfl, ?_⟩; apply turnInto (hR 2 (by decide)); kernel_rfl
  · refine ⟨by unfold nn; decide, by unfold nn; decide, by unfold nn; decide, by unfold nn; decide, by unfold nn; decide, by unfold nn; decide, ?_⟩; refine ⟨_, rfl, ?_⟩; apply turnInto (hR 3 (by decide)); kernel_rfl
  · refine ⟨by unfold nn; decide, by unfold nn; decide, by unfold nn; decide, by unfold nn; decide, by unfold nn; decide, by unfold nn; decide, ?_⟩; refine ⟨_, rfl, ?_⟩; apply turnInto (hR 3 (by decide)); kernel_rfl
  · refine ⟨by unfold nn; decide, by unfold nn; decide, by unfold nn; decide, by unfold nn; decide, by unfold nn; decide, by unfold nn; decide, ?_⟩; refine ⟨_, rfl, ?_⟩; apply turnInto (hR 4 (by decide)); kernel_rfl
  · refine ⟨by unfold nn; decide, by unfold nn; decide, by unfold nn; decide, by unfold nn; decide, by unfold nn; decide, by unfold nn; decide, ?_⟩; refine ⟨_, rfl, ?_⟩; apply turnInto (hR 3 (by decide)); kernel_rfl
  · refine ⟨by unfold nn; decide, by unfold nn; decide, by unfold nn; decide, by unfold nn; decide, by unfold nn; decide, by unfold nn; decide, ?_⟩; refine ⟨_, rfl, ?_⟩; apply turnInto (hR 4 (by decide)); kernel_rfl
  · refine ⟨by unfold nn; decide, by unfold nn; decide, by unfold nn; decide, by unfold nn; decide, by unfold nn; decide, by unfold nn; decide, ?_⟩; refine ⟨_, rfl, ?_⟩; apply turnInto (hR 4 (by decide)); kernel_rfl
  · refine ⟨by unfold nn; decide, by unfold nn; decide, by unfold nn; decide, by unfold nn; decide, by unfold nn; decide, by unfold nn; decide, ?_⟩; refine ⟨_, rfl, ?_⟩; apply turnInto (hR 5 (by decide)); kernel_rfl
  · refine ⟨by unfold nn; decide, by unfold nn; decide, by unfold nn; decide, by unfold nn; decide, by unfold nn; decide, by unfold nn; decide, ?_⟩; refine ⟨_, rfl, ?_⟩; apply turnInto (hR 1 (by decide)); kernel_rfl
theorem check_ok {a : Option Addr} {n : Nat} {l : List Dc} {d : Dc} (hr : Rows H a n l) (hl : l.length < 9223372036854775808) (hR : ∀ H', Frm [] H H' → R (I (chk l d)) H') : CA en F.decl_check [.slice a n 0, d.val] H R := by
  obtain ⟨rfl, hr⟩ := hr
  apply vc_decl_check
  refine nwH_in fun i1 H2 e1 h2 => ?_
  have g2 : H2.get i1 = some (.cells true 0 d.cells) := by subst e1 h2; exact get_new_self _ _
  have l2 : i1 < H2.next := by subst e1 h2; rw [next_new]; omega
  have f2 : Frm [] H H2 := by subst h2; exact (Frm.refl _ _).new _
  clear e1 h2
  refine ⟨d.kind, by rw [cell_of g2]; rfl, kinds_ok fun H5 al ll f5 hi => ⟨_, _, _, _, _, _, _, rfl, ?_⟩⟩
  refine nwH_in fun i13 H14 e13 h14 => ?_
  have g14 : H14.get i13 = some (.cells true 0 [I 0, .bool false, .bool false, .slice none 0 0, .bool false]) := by subst e13 h14; exact get_new_self _ _
  refine stc_of' g14 (Nat.le_refl _) fun H15 e15 => ?_
  have f15 : Frm [] H2 H15 := by
    subst e15 h14
    exact (f5.new _).set _ (by right; have := f5.1; omega)
  have g1 : H15.get i1 = some (.cells true 0 d.cells) := by rw [f15.2 _ l2 (by simp)]; exact g2
  have g13 : H15.get i13 = some (.cells true 0 [I (kindD d.kind).words, .bool (kindD d.kind).buckets, .bool (kindD d.kind).nested, .slice al ll 0, .bool (kindD d.kind).bucketed]) := by rw [e15]; exact get_set_self _ _ _
  have f : Frm [] H H15 := f2.trans f15 (by simp)
  clear e15 h14 g14 e13 hi f5 f2 g2
  have hr15 : l = [] ∨ ∃ (i : Nat) (w : Bool) (z : Nat), a = some ⟨i, 0, none⟩ ∧ i < H15.next ∧ H15.get i = some (AS.Obj.cells w z (flat l)) :=
    hr.imp_right fun ⟨i, w, z, h1, h2, h3⟩ => ⟨i, w, z, h1, Nat.lt_of_lt_of_le h2 f.1, by rw [f.2 i h2 (by simp)]; exact h3⟩
  have nested : (1 ≤ d.inner ∧ d.inner ≤ (l.length : Int)) → (∀ H', Frm [] H H' → R (I (if (kindD (l.getD (d.inner - 1).toNat dc0).kind).nested = true then 14 else 0)) H') →
      ∃ n44, H15.cell i1 4 = some (I n44) ∧ inB (IntKind.i64.wrap (n44 - 1)) l.length ∧ asRow a fun i45 i46 =>
        ∃ n47, H15.cell i45 (i46 + (IntKind.i64.wrap (n44 - 1)).toNat * 5) = some (I n47) ∧ CA en F.decl_kinds [I n47] H15 fun v48 H49 =>
          ∃ n50 b51 b52 a53 i54 b55 b56, v48 = .tuple #[.agg #[I n50, .bool b51, .bool b52, .slice a53 i54 0, .bool b55], .bool b56] ∧
            nwH H49 (.cells true 0 [I 0, .bool false, .bool false, .slice none 0 0, .bool false]) fun i57 H58 =>
              stc H58 i57 0 [I n50, .bool b51, .bool b52, .slice a53 i54 0, .bool b55] fun H59 => ∃ b60, H59.cell i57 2 = some (.bool b60) ∧ cond b60 (R (I 14) H59) (R (I 0) H59) := by
    intro hin hR
    refine ⟨d.inner, by rw [cell_of g1]; rfl, ?_⟩
    rw [wrap_i64 (by omega)]
    refine ⟨by unfold inB; omega, ?_⟩
    rcases hr15 with rfl | ⟨i, w, z, rfl, hb, hg⟩
    · simp only [List.length_nil] at hin; omega
    · rw [asRow_some]
      refine ⟨(l.getD (d.inner - 1).toNat dc0).kind, by rw [cell_of hg, Nat.zero_add]; exact flat_kind l _ (by omega), ?_⟩
      refine kinds_ok fun H49 a2 l3 f49 hi => ⟨_, _, _, _, _, _, _, rfl, ?_⟩
      refine nwH_in fun i57 H58 e57 h58 => ?_
      have g58 : H58.get i57 = some (.cells true 0 [I 0, .bool false, .bool false, .slice none 0 0, .bool false]) := by subst e57 h58; exact get_new_self _ _
      refine stc_of' g58 (Nat.le_refl _) fun H59 e59 => ?_
      have f59 : Frm [] H H59 := by
        subst e59 h58
        exact ((f.trans f49 (by simp)).new _).set _ (by right; have := f49.1; have := f.1; omega)
      refine ⟨(kindD (l.getD (d.inner - 1).toNat dc0).kind).nested, by rw [e59, cell_of (get_set_self _ _ _)]; rfl, ?_⟩
      have := hR _ f59
      refine cond_of (fun h => ?_) fun h => ?_
      · rw [if_pos h] at this; exact this
      · rw [if_neg (by rw [h]; decide)] at this; exact this
  have leaf : ∀ c, chk l d = c → R (I c) H15 := fun c e => by have := hR _ f; rw [e] at this; exact this
  have deep : ∀ c, chk l d = c → ∀ H', Frm [] H H' → R (I c) H' := fun c e H' f' => by have := hR _ f'; rw [e] at this; exact this
  clear hR hr15 hr f15 f
  cases his : (kindOf d.kind).isSome
  · exact leaf _ (by unfold chk; rw [if_pos his])
  cases hkb : (kindD d.kind).buckets <;> cases hkn : (kindD d.kind).nested <;> rw [hkb, hkn] at g13
  all_goals
    repeat' first
      | refine leaf _ ?_
      | refine Within_ok ⟨_, rfl, ?_⟩
      | refine nested ?_ (deep _ ?_)
      | refine ⟨_, by rw [cell_of g1]; rfl, ?_⟩
      | refine ⟨_, by rw [cell_of g13]; rfl, ?_⟩
      | (refine Ones_ok (by simp only [Bool.not_eq_false', decide_eq_true_eq, Bool.not_eq_false] at *; omega) fun c hc => ⟨_, rfl, ?_⟩)
      | refine cond_of (fun h => ?_) fun h => ?_
  all_goals
    clear leaf nested deep g1 g13
    try unfold chk
    try unfold pow at *
    simp only [his, hkb, hkn, Bool.not_eq_true', Bool.not_eq_false', Bool.not_eq_true, Bool.not_eq_false, decide_eq_true_eq, decide_eq_false_iff_not, bne_iff_ne, bne_eq_false_iff_eq, Bool.not_true, Bool.not_false, Bool.true_eq_false, Bool.false_eq_true, if_true, if_false, true_and, false_and, or_false, false_or, ne_eq, reduceCtorEq] at *
    try ((repeat' split) <;> omega)
end Go.Proofs.YtjggeoghlicmdaaGreat
namespace Go.Proofs.YtjggeoghlicmdaaGreat
open Go Go.AS Go.RowKit
set_option linter.unusedVariables false
variable {H : Heap} {R : Value → Heap → Prop}
end Go.Proofs.YtjggeoghlicmdaaGreat
namespace Go.Proofs.YtjggeoghlicmdaaGreat
open Go Go.AS Go.RowKit
set_option linter.unusedVariables false
variable {H : Heap} {R : Value → Heap → Prop}
def firstBad (l : List Dc) : List Dc → Int
  | [] => 0
  | d :: r => if chk l d ≠ 0 then chk l d else firstBad l r
def chks (l : List Dc) : Int := if (l.length : Int) > 10 then 19 else firstBad l l
theorem drop_getD (l : List Dc) (j : Nat) (h : j < l.length) : l.drop j = l.getD j dc0 :: l.drop (j + 1) := by
  rw [List.getD_eq_getElem?_getD, List.getElem?_eq_getElem h, Option.getD_some]
  exact List.drop_eq_getElem_cons h
theorem rows_row {a n l} (hr : Rows H a n l) {j : Nat} (hj : j < l.length) : ∃ i, a = some ⟨i, 0, none⟩ ∧ i < H.next ∧ H.cellsAt i (0 + j * 5) 5 = some (l.getD j dc0).cells := by
  rcases hr.2 with rfl | ⟨i, w, z, rfl, h1, h2⟩
  · simp at hj
  · exact ⟨i, rfl, h1, by rw [cellsAt_of h2, Nat.zero_add]; exact flat_take l j hj⟩
theorem Check_ok {a : Option Addr} {n : Nat} {l : List Dc} (hr : Rows H a n l) (hR : ∀ H', Frm [] H H' → R (I (chks l)) H') : CA en F.decl_Check [.slice a n 0] H R := by
  obtain rfl := hr.1
  apply vc_decl_Check
  refine cond_of (fun h => ?_) fun h => ?_
  · have := hR H (Frm.refl _ _)
    unfold chks at this
    rw [if_pos (by simpa using h)] at this
    exact this
  simp only [decide_eq_false_iff_not] at h
  refine use_decl_Check_0 (fun m _ i H' => ∃ j : Nat, j ≤ l.length ∧ m = l.length - j ∧ i = (j : Int) ∧ Frm [] H H' ∧ chks l = firstBad l (l.drop j)) l.length ⟨0, by omega, rfl, rfl, Frm.refl _ _, by unfold chks; rw [if_neg h]; rfl⟩ ?_
  rintro m t2 i ys H' ⟨j, hj, rfl, rfl, fr, hc⟩
  refine cond_of (fun h => ?_) fun h => ?_
  · simp only [decide_eq_true_eq] at h
    have hj' : j < l.length := by omega
    refine ⟨by unfold inB; omega, ?_⟩
    have hr' := hr.frm fr
    obtain ⟨b, rfl, hb, hg⟩ := rows_row hr' hj'
    rw [asRow_some]
    refine ⟨_, _, _, _, _, by rw [Int.toNat_natCast]; exact hg, ?_⟩
    have h0 : Sep H' [] := Sep.nil
    refine nwH_in fun i8 H9 e8 e9 => ?_
    have g9 : H9.get i8 = some (.cells true 0 [I 0, I 0, I 0, I 0, I 0]) := by subst e8 e9; exact get_new_self _ _
    refine stc_of' g9 (Nat.le_refl _) fun H10 e10 => ?_
    have fr10 : Frm [] H H10 := by subst e8 e9 e10; exact (fr.new _).set _ (by right; exact fr.1)
    refine ⟨_, _, _, _, _, by rw [e10, cellsAt_of (get_set_self _ _ _)]; rfl, ?_⟩
    refine check_ok (d := l.getD j dc0) (hr.frm fr10) (by omega) fun H17 fr17 => ⟨_, rfl, ?_⟩
    have fr' := fr10.trans fr17 (by simp)
    rw [drop_getD l j hj'] at hc
    refine cond_of (fun h1 => ?_) fun h1 => ⟨l.length - (j + 1), by omega, j + 1, by omega, rfl, ?_, fr', ?_⟩
    · simp only [List.getD_cons_succ, List.getD_cons_zero, asInt_int]
      have := hR _ fr'
      rw [hc] at this
      unfold firstBad at this
      rw [if_pos (by simpa using h1)] at this
      exact this
    · rw [wrap_i64 (by omega)]; omega
    · rw [hc]
      show (if chk l (l.getD j dc0) ≠ 0 then chk l (l.getD j dc0) else firstBad l (l.drop (j + 1))) = _
      rw [if_neg (by simpa using h1)]
  · simp only [decide_eq_false_iff_not] at h
    obtain rfl : j = l.length := by omega
    rw [List.drop_length] at hc
    simp only [List.getD_cons_succ, List.getD_cons_zero, asInt_int]
    have := hR _ fr
    rw [hc] at this
    exact this
end Go.Proofs.YtjggeoghlicmdaaGreat
