/-
  The document's memory: its operations; what both memories have in common.
-/
import Derived.Test.YtdkbgjhlpoibdaaRefMem
namespace Go.Proofs.Ytdkbgjhlpoibdaa
open Go Go.AS Go.RowKit
set_option linter.unusedVariables false
variable {H H' : Heap} {m : Nat} {R : Value → Heap → Prop} {L : List Asr} {T T' : Rm}

/-- A word of a row is written. -/
def Rm.upd (T : Rm) (k : Nat) (r : Rg) (i : Nat) (w : BitVec 64) : Rm := { T with regs := T.regs.set k { r with ws := r.ws.set i w } }

theorem rsetRow (h : Sep H (rmem m T :: L)) {k : Nat} {r : Rg} (hk : T.regs[k]? = some r) (i : Nat) (w : BitVec 64) : Sep (H.set r.b (.cells true 1 ((r.ws.set i w).map W))) (rmem m (T.upd k r i w) :: L) := by
  have hlt : k < T.regs.length := (List.getElem?_eq_some_iff.1 hk).1
  have hidx : (cl m T.base :: (T.allA ++ T.regs.map Rg.row))[(1 + T.allA.length) + k]? = some (bx r.b (.cells true 1 (r.ws.map W))) := by
    rw [Nat.add_assoc, Nat.add_comm 1, List.getElem?_cons_succ, List.getElem?_append_right (by omega), Nat.add_sub_cancel_left, List.getElem?_map, hk]
    rfl
  have := h.setM ((1 + T.allA.length) + k) (.cells true 1 ((r.ws.set i w).map W)) hidx
  have ecss : (T.upd k r i w).css = T.css := by
    simp only [Rm.upd, Rm.css, List.map_set]
    refine List.ext_getElem? fun j => ?_
    rw [List.getElem?_set]
    split
    · rename_i e
      subst e
      rw [if_pos (by simpa using hlt), List.getElem?_map, hk]
      simp [Rg.cells]
    · rfl
  have e : rmem m (T.upd k r i w) = many ((cl m T.base :: (T.allA ++ T.regs.map Rg.row)).set ((1 + T.allA.length) + k) (bx r.b (.cells true 1 ((r.ws.set i w).map W)))) := by
    unfold rmem
    congr 1
    rw [Nat.add_assoc, Nat.add_comm 1, List.set_cons_succ, List.set_append_right _ _ (by omega), Nat.add_sub_cancel_left]
    have eb : (T.upd k r i w).base = T.base := by simp [Rm.base, Rm.upd, Rm.ad]
    have ea : (T.upd k r i w).allA = T.allA := by
      unfold Rm.allA
      rw [ecss]; rfl
    rw [eb, ea]
    have er : (T.upd k r i w).regs.map Rg.row = (T.regs.map Rg.row).set k (bx r.b (.cells true 1 ((r.ws.set i w).map W))) := by
      simp only [Rm.upd, List.map_set, Rg.row]
    rw [er]
  rw [e]; exact this

/-- An access. -/
def Rm.acc (T : Rm) (a i : Int) (may : Bool) (f : BitVec 64 → BitVec 64) : (BitVec 64 × Bool) × Rm :=
  match T.lv a with
  | some r => if may = true ∧ 0 ≤ i ∧ i < r.ws.length then ((r.ws.getD i.toNat 0, true), T.cnt.upd (a - 1).toNat r i.toNat (f (r.ws.getD i.toNat 0))) else ((0, false), T.cnt.badly)
  | none => ((0, false), T.cnt.badly)

theorem hits_some {a i : Int} (hh : T.hits a i = true) : ∃ r, T.lv a = some r ∧ 0 ≤ i ∧ i < r.ws.length := by
  unfold Rm.hits at hh
  cases hv : T.lv a with
  | none => rw [hv] at hh; cases hh
  | some r => rw [hv] at hh; exact ⟨r, rfl, by simpa using hh⟩

theorem acc_miss {a i : Int} (hh : T.hits a i = false) (may : Bool) (f : BitVec 64 → BitVec 64) : T.acc a i may f = ((0, false), T.cnt.badly) := by
  unfold Rm.acc
  unfold Rm.hits at hh
  cases hv : T.lv a with
  | none => rfl
  | some r =>
    rw [hv] at hh
    simp only [decide_eq_false_iff_not] at hh
    simp only
    rw [if_neg fun hc => hh hc.2]

theorem acc_hit {a i : Int} {r : Rg} (hv : T.lv a = some r) (hi : 0 ≤ i ∧ i < r.ws.length) (f : BitVec 64 → BitVec 64) : T.acc a i true f = ((r.ws.getD i.toNat 0, true), T.cnt.upd (a - 1).toNat r i.toNat (f (r.ws.getD i.toNat 0))) := by
  unfold Rm.acc; rw [hv]; simp only; rw [if_pos ⟨trivial, hi⟩]

/-- What is known at a hit. -/
structure Hit (H : Heap) (m : Nat) (T : Rm) (a i : Int) (q : Nat) (r : Rg) : Prop where
  lv : T.lv a = some r
  ad : T.ad = some ⟨q, 0, none⟩
  hb : inB (IntKind.i64.wrap (a - 1)) T.regs.length
  hi : inB i r.ws.length
  idx : T.regs[(IntKind.i64.wrap (a - 1)).toNat]? = some r
  w1 : IntKind.i64.wrap (a - 1) = a - 1

theorem hit_of (h : Sep H (rmem m T :: L)) (ok : T.ok) {a i : Int} (hh : T.hits a i = true) : ∃ q r, Hit H m T a i q r := by
  obtain ⟨r, hv, hi⟩ := hits_some hh
  have hl : T.isLive a = true := by unfold Rm.isLive; rw [hv]; rfl
  obtain ⟨q, r', e1, e2, e3, e4, e5, e6, e7, e8, e9, e10, e11⟩ := live_look h ok hl
  obtain rfl : r = r' := by rw [hv] at e1; cases e1; rfl
  exact ⟨q, r, hv, e3, e5, hi, by rw [e7]; exact e9, e7⟩

/-- The row's slice is read, at any later memory. -/
theorem Hit.slot {a i : Int} {q : Nat} {r : Rg} (x : Hit H m T a i q r) {H2 : Heap} {L2 : List Asr} {T2 : Rm} (h : Sep H2 (rmem m T2 :: L2)) (e1 : T2.a = T.a) (e2 : T2.regs = T.regs) :
    H2.cell q (0 + (IntKind.i64.wrap (a - 1)).toNat * 2 + 1) = some (.slice (some ⟨r.b, 0, none⟩) r.ws.length 0) ∧ H2.cell m 0 = some (.slice (some ⟨q, 0, none⟩) T.regs.length 0) ∧ H2.get r.b = some (.cells true 1 (r.ws.map W)) := by
  have hT : T2.a = some q := by
    have := x.ad
    unfold Rm.ad at this
    rw [e1]
    cases hA : T.a with
    | none => rw [hA] at this; cases this
    | some k => rw [hA] at this; cases this; rfl
  have hlt : (IntKind.i64.wrap (a - 1)).toNat < T2.regs.length := by rw [e2]; exact (List.getElem?_eq_some_iff.1 x.idx).1
  have hr : T2.regs[(IntKind.i64.wrap (a - 1)).toNat] = r := by
    have := x.idx
    rw [← e2, List.getElem?_eq_getElem hlt] at this
    simpa using this
  refine ⟨?_, ?_, ?_⟩
  · rw [cell_of (rall h hT), Nat.zero_add, rowsFlat_cell (k := 1) (css_len T2) (by simpa [Rm.css] using hlt) (by decide)]
    simp [Rm.css, Rg.cells, hr]
  · rw [cell_of (rbase h)]
    have : T2.ad = some ⟨q, 0, none⟩ := by unfold Rm.ad; rw [hT]; rfl
    simp [Rm.base, this, e2]
  · have := rrow h (r := r) (by rw [← hr]; exact List.getElem_mem hlt)
    exact this

theorem word_at {r : Rg} {i : Int} (hi : inB i r.ws.length) (hg : H.get r.b = some (.cells true 1 (r.ws.map W))) : H.cell r.b (0 + i.toNat * 1) = some (W (r.ws.getD i.toNat 0)) := by
  have hlt : i.toNat < r.ws.length := by unfold inB at hi; omega
  rw [cell_of hg, Nat.zero_add, Nat.mul_one, List.getElem?_map, List.getElem?_eq_getElem hlt, List.getD_eq_getElem?_getD, List.getElem?_eq_getElem hlt]
  rfl

/-- The word is written. -/
theorem Hit.put {a i : Int} {q : Nat} {r : Rg} (x : Hit H m T a i q r) {H2 : Heap} {L2 : List Asr} {T2 : Rm} {K : Heap → Prop} (h : Sep H2 (rmem m T2 :: L2)) (e1 : T2.a = T.a) (e2 : T2.regs = T.regs) (w : BitVec 64)
    (k : ∀ H3, Sep H3 (rmem m (T2.upd (a - 1).toNat r i.toNat w) :: L2) → Frm [r.b] H2 H3 → K H3) : stc H2 r.b (0 + i.toNat * 1) [W w] K := by
  obtain ⟨_, _, hg⟩ := x.slot h e1 e2
  have hlt : i.toNat < r.ws.length := by have := x.hi; unfold inB at this; omega
  refine stc_of' hg (by simp; omega) fun H3 e3 => ?_
  have ec : setAt (r.ws.map W) (0 + i.toNat * 1) [W w] = (r.ws.set i.toNat w).map W := by simp [setAt, List.map_set]
  rw [ec] at e3
  have hk : T2.regs[(a - 1).toNat]? = some r := by rw [e2, ← x.w1]; exact x.idx
  exact k _ (e3 ▸ rsetRow h hk i.toNat w) (e3 ▸ (Frm.refl _ _).set _ (by simp))

variable {a i op : Int} {mask old v : BitVec 64}

theorem hits_cnt : T.cnt.hits a i = T.hits a i := rfl

theorem rload_s (h : Sep H (rmem m T :: L)) (ok : T.ok) (hR : ∀ H', Sep H' (rmem m (T.acc a i true id).2 :: L) → R (.tuple #[W (T.acc a i true id).1.1, .bool (T.acc a i true id).1.2]) H') : CA en F.crossbarref08_Mem_Load [P m, I a, I i] H R := by
  apply vc_crossbarref08_Mem_Load
  refine rgood_s h ok fun H2 h2 => ⟨_, rfl, cond_of (fun hb => ?_) fun hb => ?_⟩
  · have hh : T.hits a i = false := by simpa using hb
    rw [hh] at h2
    rw [acc_miss hh] at hR
    exact hR _ h2
  · have hh : T.hits a i = true := by simpa using hb
    rw [hh, if_pos rfl] at h2
    obtain ⟨q, r, x⟩ := hit_of h2 (T := T.cnt) ok hh
    obtain ⟨s1, s2, s3⟩ := x.slot h2 rfl rfl
    rw [acc_hit (T := T) x.lv x.hi] at hR
    refine asAddr_in ⟨_, _, s2, x.hb, asRow_in ⟨_, _, s1, x.hi, asRow_in ⟨_, word_at x.hi s3, hR _ ?_⟩⟩⟩
    have hk : T.cnt.regs[(a - 1).toNat]? = some r := by rw [← x.w1]; exact x.idx
    have e : T.cnt.upd (a - 1).toNat r i.toNat (id (r.ws.getD i.toNat 0)) = T.cnt := by
      have hlt : i.toNat < r.ws.length := by have := x.hi; unfold inB at this; omega
      have e1 : r.ws.set i.toNat (id (r.ws.getD i.toNat 0)) = r.ws := by
        rw [List.getD_eq_getElem?_getD, List.getElem?_eq_getElem hlt]
        exact List.set_getElem_self hlt
      unfold Rm.upd
      rw [e1]
      have e2 : T.cnt.regs.set (a - 1).toNat r = T.cnt.regs := by
        obtain ⟨hl, hg⟩ := List.getElem?_eq_some_iff.1 hk
        rw [← hg]; exact List.set_getElem_self hl
      show ({ T.cnt with regs := T.cnt.regs.set (a - 1).toNat r } : Rm) = T.cnt
      rw [e2]
    rw [e]; exact h2

theorem rstore_s (h : Sep H (rmem m T :: L)) (ok : T.ok) (hR : ∀ H', Sep H' (rmem m (T.acc a i true fun _ => v).2 :: L) → R (.bool (T.acc a i true fun _ => v).1.2) H') : CA en F.crossbarref08_Mem_Store [P m, I a, I i, W v] H R := by
  apply vc_crossbarref08_Mem_Store
  refine rgood_s h ok fun H2 h2 => ⟨_, rfl, cond_of (fun hb => ?_) fun hb => ?_⟩
  · have hh : T.hits a i = false := by simpa using hb
    rw [hh] at h2
    rw [acc_miss hh] at hR
    exact hR _ h2
  · have hh : T.hits a i = true := by simpa using hb
    rw [hh, if_pos rfl] at h2
    obtain ⟨q, r, x⟩ := hit_of h2 (T := T.cnt) ok hh
    obtain ⟨s1, s2, s3⟩ := x.slot h2 rfl rfl
    rw [acc_hit (T := T) x.lv x.hi] at hR
    exact asAddr_in ⟨_, _, s2, x.hb, asRow_in ⟨_, _, s1, x.hi, asRow_in (x.put h2 rfl rfl v fun H3 h3 _ => hR _ h3)⟩⟩

theorem rmask_s (h : Sep H (rmem m T :: L)) (ok : T.ok) (hR : ∀ H', Sep H' (rmem m (T.acc a i true fun w => under w mask v).2 :: L) → R (.bool (T.acc a i true fun w => under w mask v).1.2) H') : CA en F.crossbarref08_Mem_Mask [P m, I a, I i, W mask, W v] H R := by
  apply vc_crossbarref08_Mem_Mask
  refine rgood_s h ok fun H2 h2 => ⟨_, rfl, cond_of (fun hb => ?_) fun hb => ?_⟩
  · have hh : T.hits a i = false := by simpa using hb
    rw [hh] at h2
    rw [acc_miss hh] at hR
    exact hR _ h2
  · have hh : T.hits a i = true := by simpa using hb
    rw [hh, if_pos rfl] at h2
    obtain ⟨q, r, x⟩ := hit_of h2 (T := T.cnt) ok hh
    have hB := h2.bump 27
    obtain ⟨s1, s2, s3⟩ := x.slot hB rfl rfl
    rw [acc_hit (T := T) x.lv x.hi] at hR
    exact asAddr_in ⟨_, _, s2, x.hb, asRow_in ⟨_, _, s1, asAddr_in ⟨_, _, s2, x.hb, asRow_in ⟨_, _, s1, x.hi, asRow_in ⟨_, word_at x.hi s3, runder_s ⟨_, rfl, x.hi, asRow_in (x.put hB rfl rfl _ fun H3 h3 f3 => ⟨hR _ h3, ⟨⟨_, _, s1, rfl, rfl, rfl⟩, ⟨_, _, s1, rfl, rfl, rfl⟩, trivial⟩, ⟨rfl, rfl, trivial⟩, ⟨⟨_, _, s2, rfl, rfl, rfl⟩, ⟨_, _, s2, rfl, rfl, rfl⟩, trivial⟩, trivial⟩)⟩⟩⟩⟩⟩⟩

theorem rswap_s (h : Sep H (rmem m T :: L)) (ok : T.ok) (hR : ∀ H', Sep H' (rmem m (T.acc a i true fun w => under w mask v).2 :: L) → R (.tuple #[W (T.acc a i true fun w => under w mask v).1.1, .bool (T.acc a i true fun w => under w mask v).1.2]) H') : CA en F.crossbarref08_Mem_Swap [P m, I a, I i, W mask, W v] H R := by
  apply vc_crossbarref08_Mem_Swap
  refine rgood_s h ok fun H2 h2 => ⟨_, rfl, cond_of (fun hb => ?_) fun hb => ?_⟩
  · have hh : T.hits a i = false := by simpa using hb
    rw [hh] at h2
    rw [acc_miss hh] at hR
    exact hR _ h2
  · have hh : T.hits a i = true := by simpa using hb
    rw [hh, if_pos rfl] at h2
    obtain ⟨q, r, x⟩ := hit_of h2 (T := T.cnt) ok hh
    obtain ⟨u1, u2, u3⟩ := x.slot h2 rfl rfl
    have hB := h2.bump 16
    obtain ⟨s1, s2, s3⟩ := x.slot hB rfl rfl
    rw [acc_hit (T := T) x.lv x.hi] at hR
    exact asAddr_in ⟨_, _, u2, x.hb, asRow_in ⟨_, _, u1, x.hi, asRow_in ⟨_, word_at x.hi u3, asAddr_in ⟨_, _, s2, x.hb, asRow_in ⟨_, _, s1, runder_s ⟨_, rfl, x.hi, asRow_in (x.put hB rfl rfl _ fun H3 h3 f3 => ⟨hR _ h3, ⟨⟨_, _, s1, rfl, rfl, rfl⟩, ⟨_, _, s1, rfl, rfl, rfl⟩, trivial⟩, ⟨rfl, rfl, trivial⟩, ⟨⟨_, _, s2, rfl, rfl, rfl⟩, ⟨_, _, s2, rfl, rfl, rfl⟩, trivial⟩, trivial⟩)⟩⟩⟩⟩⟩⟩

theorem under_zero (mask w : BitVec 64) : under 0 mask w = w &&& mask := by unfold under; simp

theorem upd_self {k : Nat} {r : Rg} (hk : T.regs[k]? = some r) {j : Nat} (hj : j < r.ws.length) : T.upd k r j (r.ws.getD j 0) = T := by
  have e1 : r.ws.set j (r.ws.getD j 0) = r.ws := by
    rw [List.getD_eq_getElem?_getD, List.getElem?_eq_getElem hj]
    exact List.set_getElem_self hj
  unfold Rm.upd
  rw [e1]
  have e2 : T.regs.set k r = T.regs := by
    obtain ⟨hl, hg⟩ := List.getElem?_eq_some_iff.1 hk
    rw [← hg]; exact List.set_getElem_self hl
  show ({ T with regs := T.regs.set k r } : Rm) = T
  rw [e2]

theorem acc_off (T : Rm) (a i : Int) (f : BitVec 64 → BitVec 64) : T.acc a i false f = ((0, false), T.cnt.badly) := by
  unfold Rm.acc
  split <;> simp

theorem rfetch_s (h : Sep H (rmem m T :: L)) (ok : T.ok)
    (hR : ∀ H', Sep H' (rmem m (T.acc a i (isAtomic op) (fetchF op mask v)).2 :: L) → R (.tuple #[W (T.acc a i (isAtomic op) (fetchF op mask v)).1.1, .bool (T.acc a i (isAtomic op) (fetchF op mask v)).1.2]) H') :
    CA en F.crossbarref08_Mem_Fetch [P m, I a, I i, I op, W mask, W v] H R := by
  apply vc_crossbarref08_Mem_Fetch
  refine rgood_s h ok fun H2 h2 => ⟨_, rfl, cond_of (fun hb => ?_) fun hb => ?_⟩
  · have hh : T.hits a i = false := by simpa using hb
    rw [hh] at h2
    rw [acc_miss hh] at hR
    exact hR _ h2
  · have hh : T.hits a i = true := by simpa using hb
    rw [hh, if_pos rfl] at h2
    obtain ⟨q, r, x⟩ := hit_of h2 (T := T.cnt) ok hh
    obtain ⟨u1, u2, u3⟩ := x.slot h2 rfl rfl
    have hB := h2.bump 16
    obtain ⟨s1, s2, s3⟩ := x.slot hB rfl rfl
    refine asAddr_in ⟨_, _, u2, x.hb, asRow_in ⟨_, _, u1, x.hi, asRow_in ⟨_, word_at x.hi u3, runder_s (w := 0) ⟨_, rfl, runder_s (w := 0) ⟨_, rfl, ?_⟩⟩⟩⟩⟩
    rw [under_zero, under_zero]
    have yes : isAtomic op = true → ∀ z, z = aluF op (r.ws.getD i.toNat 0 &&& mask) (v &&& mask) → ∀ H', Sep H' (rmem m (T.cnt.upd (a - 1).toNat r i.toNat (under (r.ws.getD i.toNat 0) mask z)) :: L) → R (.tuple #[W (r.ws.getD i.toNat 0), .bool true]) H' := by
      intro ho z hz H' h'
      have := hR H'
      rw [ho, acc_hit (T := T) x.lv x.hi] at this
      subst hz
      exact this h'
    refine cond_of (fun e => ?_) fun e0 => cond_of (fun e => ?_) fun e1 => cond_of (fun e => ?_) fun e2 => cond_of (fun e => ?_) fun e3 => ?_
    · obtain rfl : op = 0 := by simpa using e
      have ew : IntKind.u64.wrap (((r.ws.getD i.toNat 0 &&& mask).toNat : Int) + ((v &&& mask).toNat : Int)) = ((aluF 0 (r.ws.getD i.toNat 0 &&& mask) (v &&& mask)).toNat : Int) := by
        rw [wrap_u64, ofInt_add, ofInt_bv, ofInt_bv]; rfl
      rw [ew]
      exact asAddr_in ⟨_, _, s2, x.hb, asRow_in ⟨_, _, s1, runder_s ⟨_, rfl, x.hi, asRow_in (x.put hB rfl rfl _ fun H3 h3 f3 => ⟨yes rfl _ rfl _ h3, ⟨⟨_, _, s1, rfl, rfl, rfl⟩, ⟨_, _, s1, rfl, rfl, rfl⟩, trivial⟩, ⟨rfl, rfl, trivial⟩, ⟨⟨_, _, s2, rfl, rfl, rfl⟩, ⟨_, _, s2, rfl, rfl, rfl⟩, trivial⟩, trivial⟩)⟩⟩⟩
    · obtain rfl : op = 64 := by simpa using e
      have ew : IntKind.u64.wrap ((BitVec.ofInt 64 ((r.ws.getD i.toNat 0 &&& mask).toNat : Int) ||| (BitVec.ofInt 64 ((v &&& mask).toNat : Int))).toNat : Int) = ((aluF 64 (r.ws.getD i.toNat 0 &&& mask) (v &&& mask)).toNat : Int) := by
        simp only [ofInt_bv, wrap_bv]; rfl
      rw [ew]
      exact asAddr_in ⟨_, _, s2, x.hb, asRow_in ⟨_, _, s1, runder_s ⟨_, rfl, x.hi, asRow_in (x.put hB rfl rfl _ fun H3 h3 f3 => ⟨yes rfl _ rfl _ h3, ⟨⟨_, _, s1, rfl, rfl, rfl⟩, ⟨_, _, s1, rfl, rfl, rfl⟩, trivial⟩, ⟨rfl, rfl, trivial⟩, ⟨⟨_, _, s2, rfl, rfl, rfl⟩, ⟨_, _, s2, rfl, rfl, rfl⟩, trivial⟩, trivial⟩)⟩⟩⟩
    · obtain rfl : op = 80 := by simpa using e
      have ew : IntKind.u64.wrap ((BitVec.ofInt 64 ((r.ws.getD i.toNat 0 &&& mask).toNat : Int) &&& (BitVec.ofInt 64 ((v &&& mask).toNat : Int))).toNat : Int) = ((aluF 80 (r.ws.getD i.toNat 0 &&& mask) (v &&& mask)).toNat : Int) := by
        simp only [ofInt_bv, wrap_bv]; rfl
      rw [ew]
      exact asAddr_in ⟨_, _, s2, x.hb, asRow_in ⟨_, _, s1, runder_s ⟨_, rfl, x.hi, asRow_in (x.put hB rfl rfl _ fun H3 h3 f3 => ⟨yes rfl _ rfl _ h3, ⟨⟨_, _, s1, rfl, rfl, rfl⟩, ⟨_, _, s1, rfl, rfl, rfl⟩, trivial⟩, ⟨rfl, rfl, trivial⟩, ⟨⟨_, _, s2, rfl, rfl, rfl⟩, ⟨_, _, s2, rfl, rfl, rfl⟩, trivial⟩, trivial⟩)⟩⟩⟩
    · obtain rfl : op = 160 := by simpa using e
      have ew : IntKind.u64.wrap ((BitVec.ofInt 64 ((r.ws.getD i.toNat 0 &&& mask).toNat : Int) ^^^ (BitVec.ofInt 64 ((v &&& mask).toNat : Int))).toNat : Int) = ((aluF 160 (r.ws.getD i.toNat 0 &&& mask) (v &&& mask)).toNat : Int) := by
        simp only [ofInt_bv, wrap_bv]; rfl
      rw [ew]
      exact asAddr_in ⟨_, _, s2, x.hb, asRow_in ⟨_, _, s1, runder_s ⟨_, rfl, x.hi, asRow_in (x.put hB rfl rfl _ fun H3 h3 f3 => ⟨yes rfl _ rfl _ h3, ⟨⟨_, _, s1, rfl, rfl, rfl⟩, ⟨_, _, s1, rfl, rfl, rfl⟩, trivial⟩, ⟨rfl, rfl, trivial⟩, ⟨⟨_, _, s2, rfl, rfl, rfl⟩, ⟨_, _, s2, rfl, rfl, rfl⟩, trivial⟩, trivial⟩)⟩⟩⟩
    · have ho : isAtomic op = false := by unfold isAtomic; rw [e0, e1, e2, e3]; rfl
      rw [ho, acc_off] at hR
      refine asAddr_in ⟨_, by rw [cell_of (rbase h2)]; rfl, asAddr_in (stc_of' (rbase h2) (Nat.le_of_ble_eq_true rfl) fun H3 e3 => hR _ ?_)⟩
      exact e3 ▸ rsetBase (T' := T.cnt.badly) h2 rfl rfl

theorem cas_iff (w old mask : BitVec 64) : ((w ^^^ old) &&& mask = 0) ↔ (w &&& mask = old &&& mask) := by
  have e : (w ^^^ old) &&& mask = (w &&& mask) ^^^ (old &&& mask) := BitVec.eq_of_getLsbD_eq fun i _ => by
    simp only [BitVec.getLsbD_and, BitVec.getLsbD_xor]
    cases w.getLsbD i <;> cases old.getLsbD i <;> cases mask.getLsbD i <;> rfl
  rw [e]
  exact BitVec.xor_eq_zero_iff

theorem rcas_s (h : Sep H (rmem m T :: L)) (ok : T.ok)
    (hR : ∀ H', Sep H' (rmem m (T.acc a i true (casF mask old v)).2 :: L) → R (.tuple #[W (T.acc a i true (casF mask old v)).1.1, .bool (T.acc a i true (casF mask old v)).1.2]) H') :
    CA en F.crossbarref08_Mem_Cas [P m, I a, I i, W mask, W old, W v] H R := by
  apply vc_crossbarref08_Mem_Cas
  refine rgood_s h ok fun H2 h2 => ⟨_, rfl, cond_of (fun hb => ?_) fun hb => ?_⟩
  · have hh : T.hits a i = false := by simpa using hb
    rw [hh] at h2
    rw [acc_miss hh] at hR
    exact hR _ h2
  · have hh : T.hits a i = true := by simpa using hb
    rw [hh, if_pos rfl] at h2
    obtain ⟨q, r, x⟩ := hit_of h2 (T := T.cnt) ok hh
    obtain ⟨u1, u2, u3⟩ := x.slot h2 rfl rfl
    have hB := h2.bump 16
    obtain ⟨s1, s2, s3⟩ := x.slot hB rfl rfl
    rw [acc_hit (T := T) x.lv x.hi] at hR
    refine asAddr_in ⟨_, _, u2, x.hb, asRow_in ⟨_, _, u1, x.hi, asRow_in ⟨_, word_at x.hi u3, runder_s (w := 0) ⟨_, rfl, runder_s (w := 0) ⟨_, rfl, ?_⟩⟩⟩⟩⟩
    rw [under_zero, under_zero, bv_beq]
    refine cond_of (fun e => ?_) fun e => ?_
    · have ec : casF mask old v (r.ws.getD i.toNat 0) = under (r.ws.getD i.toNat 0) mask v := by
        unfold casF; rw [if_pos ((cas_iff _ _ _).2 (by simpa using e))]
      rw [ec] at hR
      exact asAddr_in ⟨_, _, s2, x.hb, asRow_in ⟨_, _, s1, runder_s ⟨_, rfl, x.hi, asRow_in (x.put hB rfl rfl _ fun H3 h3 f3 => ⟨hR _ h3, ⟨⟨_, _, s1, rfl, rfl, rfl⟩, ⟨_, _, s1, rfl, rfl, rfl⟩, trivial⟩, ⟨rfl, rfl, trivial⟩, ⟨⟨_, _, s2, rfl, rfl, rfl⟩, ⟨_, _, s2, rfl, rfl, rfl⟩, trivial⟩, trivial⟩)⟩⟩⟩
    · have ec : casF mask old v (r.ws.getD i.toNat 0) = r.ws.getD i.toNat 0 := by
        unfold casF; rw [if_neg fun hc => by have := (cas_iff _ _ _).1 hc; rw [this] at e; simp at e]
      rw [ec, upd_self (by rw [← x.w1]; exact x.idx) (by have := x.hi; unfold inB at this; omega)] at hR
      exact hR _ h2

theorem rroom_s (h : Sep H (rmem m T :: L)) (hR : R (I T.left) H) : CA en F.crossbarref08_Mem_Room [P m] H R := by
  apply vc_crossbarref08_Mem_Room
  exact asAddr_in ⟨_, by rw [cell_of (rbase h)]; rfl, hR⟩
theorem rcount_s (h : Sep H (rmem m T :: L)) (hR : R (I T.did) H) : CA en F.crossbarref08_Mem_Count [P m] H R := by
  apply vc_crossbarref08_Mem_Count
  exact asAddr_in ⟨_, by rw [cell_of (rbase h)]; rfl, hR⟩
theorem rbad_s (h : Sep H (rmem m T :: L)) (hR : R (I T.odds) H) : CA en F.crossbarref08_Mem_Bad [P m] H R := by
  apply vc_crossbarref08_Mem_Bad
  exact asAddr_in ⟨_, by rw [cell_of (rbase h)]; rfl, hR⟩

def Rm.size (T : Rm) (a : Int) : Nat := match T.lv a with | some r => r.ws.length | none => 0

theorem rsize_s (h : Sep H (rmem m T :: L)) (ok : T.ok) (hR : R (I (T.size a)) H) : CA en F.crossbarref08_Mem_Size [P m, I a] H R := by
  apply vc_crossbarref08_Mem_Size
  refine rlive_s h ok ⟨_, rfl, cond_of (fun hb => ?_) fun hb => ?_⟩
  · have : T.size a = 0 := by
      unfold Rm.size
      have hl : T.isLive a = false := by simpa using hb
      unfold Rm.isLive at hl
      cases hv : T.lv a with
      | none => rfl
      | some r => rw [hv] at hl; cases hl
    rw [this] at hR; exact hR
  · obtain ⟨q, r, e1, e2, e3, e4, e5, e6, e7, e8, e9, e10, e11⟩ := live_look h ok (a := a) (by simpa using hb)
    have : T.size a = r.ws.length := by unfold Rm.size; rw [e1]
    rw [this] at hR
    exact asAddr_in ⟨_, _, by rw [cell_of (rbase h), ← e3]; rfl, e5, asRow_in ⟨_, _, e6, hR⟩⟩

def nLive : List Rg → Int
  | [] => 0
  | r :: l => (if r.live then 1 else 0) + nLive l

theorem nLive_bd : ∀ l, 0 ≤ nLive l ∧ nLive l ≤ l.length
  | [] => by simp [nLive]
  | r :: l => by have := nLive_bd l; simp only [nLive, List.length_cons]; split <;> omega

theorem nLive_take {l : List Rg} {j : Nat} (hj : j < l.length) : nLive (l.take (j + 1)) = nLive (l.take j) + (if (l[j]).live then 1 else 0) := by
  have app : ∀ a b : List Rg, nLive (a ++ b) = nLive a + nLive b := by
    intro a b
    induction a with
    | nil => simp [nLive]
    | cons r a ih => simp only [List.cons_append, nLive, ih]; omega
  rw [List.take_succ_eq_append_getElem hj, app]
  simp [nLive]

theorem rnlive_s (h : Sep H (rmem m T :: L)) (ok : T.ok) (hR : R (I (nLive T.regs)) H) : CA en F.crossbarref08_Mem_Live [P m] H R := by
  apply vc_crossbarref08_Mem_Live
  have hb := ok.2
  refine use_crossbarref08_Mem_Live_0 (fun k c t H' => ∃ j : Nat, j ≤ T.regs.length ∧ k = T.regs.length - j ∧ t = (j : Int) ∧ c = nLive (T.regs.take j) ∧ H' = H) T.regs.length ⟨0, by omega, rfl, rfl, by simp [nLive], rfl⟩ ?_
  rintro k c t ys H' ⟨j, hj, rfl, rfl, rfl, rfl⟩
  refine asAddr_in ⟨_, _, by rw [cell_of (rbase h)]; rfl, cond_of (fun h1 => ?_) fun h1 => ?_⟩
  · simp only [decide_eq_true_eq] at h1
    have hj' : j < T.regs.length := by omega
    have hbd := nLive_bd (T.regs.take j)
    have hbl : (T.regs.take j).length ≤ 400 := by rw [List.length_take]; omega
    have ht := nLive_take hj'
    obtain ⟨i, e1, e2, e3, _, _⟩ := rlook h ok (a := (j : Int) + 1) ⟨by omega, by omega⟩
    have w1 : IntKind.i64.wrap ((j : Int) + 1 - 1) = (j : Int) := by rw [wrap_i64 (by omega)]; omega
    rw [w1] at e3
    have ej : ((j : Int) + 1 - 1).toNat = j := by omega
    refine asAddr_in ⟨_, _, by rw [cell_of (rbase h), ← e1]; rfl, by unfold inB; omega, asRow_in ⟨_, e3, ?_⟩⟩
    simp only [ej]
    refine cond_of (fun h2 => ⟨T.regs.length - (j + 1), by omega, j + 1, by omega, rfl, by rw [wrap_i64 (by omega)]; omega, ?_, by first | rfl | trivial⟩) fun h2 => ⟨T.regs.length - (j + 1), by omega, j + 1, by omega, rfl, by rw [wrap_i64 (by omega)]; omega, ?_, by first | rfl | trivial⟩
    · rw [h2, if_pos rfl] at ht
      rw [wrap_i64 (by omega), ht]
    · rw [h2] at ht
      simp only [Bool.false_eq_true, if_false] at ht
      omega
  · simp only [decide_eq_false_iff_not] at h1
    obtain rfl : j = T.regs.length := by omega
    rw [List.take_length]
    exact asInt_in hR

/-! ### A region goes, a region comes -/
def Rm.free (T : Rm) (a : Int) : Bool × Rm :=
  match T.lv a with
  | some r => (true, { T with left := wr (T.left + r.ws.length), regs := T.regs.set (a - 1).toNat { r with live := false } })
  | none => (false, T)

theorem setAt_flat {css : List (List Value)} {k : Nat} {v x y : Value} (h : ∀ c ∈ css, c.length = 2) (hk : css[k]? = some [x, y]) : setAt css.flatten (k * 2) [v] = (css.set k [v, y]).flatten := by
  have key : ∀ (css : List (List Value)) (k : Nat), (∀ c ∈ css, c.length = 2) → css[k]? = some [x, y] → css.flatten.set (k * 2) v = (css.set k [v, y]).flatten := by
    intro css
    induction css with
    | nil => intro k _ hk; simp at hk
    | cons c css ih =>
      intro k h hk
      cases k with
      | zero =>
        simp at hk; subst hk
        rfl
      | succ k =>
        have hc : c.length = 2 := h c (by simp)
        have := ih k (fun d hd => h d (List.mem_cons_of_mem _ hd)) (by simpa using hk)
        rw [List.flatten_cons, List.set_append_right _ _ (by omega), List.set_cons_succ, List.flatten_cons]
        have e : (k + 1) * 2 - c.length = k * 2 := by omega
        rw [e, this]
  exact key css k h hk

theorem rfree_s (h : Sep H (rmem m T :: L)) (ok : T.ok) (hR : ∀ H', Sep H' (rmem m (T.free a).2 :: L) → R (.bool (T.free a).1) H') : CA en F.crossbarref08_Mem_Free [P m, I a] H R := by
  apply vc_crossbarref08_Mem_Free
  refine rlive_s h ok ⟨_, rfl, cond_of (fun hb => ?_) fun hb => ?_⟩
  · have hl : T.isLive a = false := by simpa using hb
    unfold Rm.isLive at hl
    cases hv : T.lv a with
    | none => unfold Rm.free at hR; rw [hv] at hR; exact hR _ h
    | some r => rw [hv] at hl; cases hl
  · obtain ⟨q, r, e1, e2, e3, e4, e5, e6, e7, e8, e9, e10, e11⟩ := live_look h ok (a := a) (by simpa using hb)
    have hall := rall h e4
    have hlt : (IntKind.i64.wrap (a - 1)).toNat < T.css.length := by rw [e7]; simpa [Rm.css] using e8
    have hlen := rowsFlat_len T.css (css_len T)
    refine asAddr_in ⟨_, _, by rw [cell_of (rbase h), ← e3]; rfl, e5, asRow_in (stc_of' hall (by simp only [List.length_cons, List.length_nil]; omega) fun H1 he1 => ?_)⟩
    have hcss : T.css[(a - 1).toNat]? = some [.bool r.live, .slice (some ⟨r.b, 0, none⟩) r.ws.length 0] := by
      unfold Rm.css; rw [List.getElem?_map, e9]; rfl
    have hset : setAt T.css.flatten (0 + (IntKind.i64.wrap (a - 1)).toNat * 2) [.bool false] = (T.css.set (a - 1).toNat [.bool false, .slice (some ⟨r.b, 0, none⟩) r.ws.length 0]).flatten := by
      rw [Nat.zero_add, e7]; exact setAt_flat (css_len T) hcss
    rw [hset] at he1
    let T1 : Rm := { T with regs := T.regs.set (a - 1).toNat { r with live := false } }
    have hT1css : T1.css = T.css.set (a - 1).toNat [.bool false, .slice (some ⟨r.b, 0, none⟩) r.ws.length 0] := by
      simp only [T1, Rm.css, List.map_set]; rfl
    have h1 : Sep H1 (rmem m T1 :: L) := by
      have hidx : (cl m T.base :: (T.allA ++ T.regs.map Rg.row))[1]? = some (bx q (.cells true 2 T.css.flatten)) := by
        simp [Rm.allA, e4]
      have := h.setM 1 (.cells true 2 T1.css.flatten) hidx
      have e : rmem m T1 = many ((cl m T.base :: (T.allA ++ T.regs.map Rg.row)).set 1 (bx q (.cells true 2 T1.css.flatten))) := by
        unfold rmem
        have ea : T1.allA = [bx q (.cells true 2 T1.css.flatten)] := by simp [Rm.allA, T1, e4]
        have ea0 : T.allA = [bx q (.cells true 2 T.css.flatten)] := by simp [Rm.allA, e4]
        have eb : T1.base = T.base := by simp [Rm.base, T1, Rm.ad]
        have er : T1.regs.map Rg.row = T.regs.map Rg.row := by
          simp only [T1, List.map_set]
          refine List.ext_getElem? fun j => ?_
          rw [List.getElem?_set]
          split
          · rename_i ej
            subst ej
            rw [if_pos (by simpa using e8), List.getElem?_map, e9]
            rfl
          · rfl
        rw [ea, ea0, eb, er]; rfl
      rw [e, he1, ← hT1css]; exact this
    have hB := h1.bump 19
    have hk1 : T1.regs[(a - 1).toNat]? = some { r with live := false } := by
      simp only [T1]; rw [List.getElem?_set_self e8]
    have hall1 := rall hB (i := q) e4
    have hc1 : (H1.bump 19).cell q (0 + (IntKind.i64.wrap (a - 1)).toNat * 2 + 1) = some (.slice (some ⟨r.b, 0, none⟩) r.ws.length 0) := by
      have hl1 : (IntKind.i64.wrap (a - 1)).toNat < T1.css.length := by rw [hT1css]; simpa using hlt
      rw [cell_of hall1, Nat.zero_add, rowsFlat_cell (k := 1) (css_len T1) hl1 (by decide)]
      simp only [hT1css, e7, List.getElem_set_self]
      rfl
    have hlen1 : T1.regs.length = T.regs.length := by simp [T1]
    refine asAddr_in ⟨_, by rw [cell_of (rbase hB)]; rfl, asAddr_in ⟨_, _, by rw [cell_of (rbase hB)]; show some (Value.slice T1.ad _ _) = _; have : T1.ad = some ⟨q, 0, none⟩ := e3; rw [this], by rw [hlen1]; exact e5, asRow_in ⟨_, _, hc1, asAddr_in (stc_of' (rbase hB) (Nat.le_of_ble_eq_true rfl) fun H2 he2 => ⟨?_, trivial⟩)⟩⟩⟩
    have e : T.free a = (true, { T1 with left := wr (T.left + r.ws.length) }) := by unfold Rm.free; rw [e1]
    rw [e] at hR
    exact hR _ (he2 ▸ rsetBase (T' := { T1 with left := wr (T.left + r.ws.length) }) hB rfl rfl)

theorem takeAt_whole (c : List Value) : takeAt c 0 c.length = some c := by simp [takeAt]

def Rm.make (T : Rm) (q b : Nat) (n : Int) : (Int × Int) × Rm :=
  if n < 1 ∨ 65536 < n then ((0, 1), T) else if T.left < n then ((0, 5), T)
  else (((T.regs.length : Int) + 1, 0), { T with a := some q, left := wr (T.left - n), regs := T.regs ++ [⟨true, b, List.replicate n.toNat 0⟩] })

theorem rmake_s (h : Sep H (rmem m T :: L)) (ok : T.ok) {n : Int} (hl : T.regs.length < 400) (hR : ∀ H' q b, Sep H' (rmem m (T.make q b n).2 :: L) → R (.tuple #[I (T.make q b n).1.1, I (T.make q b n).1.2]) H') : CA en F.crossbarref08_Mem_Make [P m, I n] H R := by
  apply vc_crossbarref08_Mem_Make
  refine cond_of (fun h1 => ?_) fun h1 => cond_of (fun h2 => ?_) fun h2 => ?_
  · have := hR H 0 0
    unfold Rm.make at this
    rw [if_pos (by simp only [decide_eq_true_eq] at h1; omega)] at this
    exact this h
  · have := hR H 0 0
    unfold Rm.make at this
    rw [if_pos (by simp only [decide_eq_true_eq] at h2; omega)] at this
    exact this h
  simp only [decide_eq_false_iff_not, gt_iff_lt] at h1 h2
  have hn : ¬ (n < 1 ∨ 65536 < n) := by omega
  refine asAddr_in ⟨_, by rw [cell_of (rbase h)]; rfl, cond_of (fun h3 => ?_) fun h3 => ?_⟩
  · have := hR H 0 0
    unfold Rm.make at this
    rw [if_neg hn, if_pos (by simp only [decide_eq_true_eq] at h3; omega)] at this
    exact this h
  simp only [decide_eq_false_iff_not, gt_iff_lt] at h3
  refine asAddr_in ⟨_, by rw [cell_of (rbase h)]; rfl, asAddr_in (stc_of' (rbase h) (Nat.le_of_ble_eq_true rfl) fun H9 e9 => ?_)⟩
  let T1 : Rm := { T with left := wr (T.left - n) }
  have h9 : Sep H9 (rmem m T1 :: L) := e9 ▸ rsetBase (T' := T1) h rfl rfl
  clear e9
  have hB := h9.bump 13
  have base9 : ∀ {H' : Heap} {L'}, Sep H' (rmem m T1 :: L') → H'.cell m 0 = some (.slice T.ad T.regs.length 0) := fun h => by rw [cell_of (rbase h)]; rfl
  refine asAddr_in ⟨_, _, base9 hB, ⟨by omega, Int.le_refl _, by omega⟩, Sep.nw hB fun i14 H15 h15 => Sep.nw h15 fun i16 H17 h17 => ?_⟩
  rw [reps_one] at h15 h17
  have g16 : H17.get i16 = some (.cells true 2 [.bool true, .slice (some ⟨i14, 0, none⟩) n.toNat 0]) := Sep.get0 h17
  refine ⟨[.bool true, .slice (some ⟨i14, 0, none⟩) n.toNat 0], by simp only [rowOf, firstCellsA, g16]; rfl, ?_⟩
  have qd : ((∃ a29 i30, (H9.bump 13).cell m 0 = some (.slice a29 i30 0) ∧ (T.ad = a29 ∧ T.regs.length = i30 ∧ 0 = 0)) ∧ (∃ a27 i28, H15.cell m 0 = some (.slice a27 i28 0) ∧ (T.ad = a27 ∧ T.regs.length = i28 ∧ 0 = 0)) ∧ (∃ a25 i26, H17.cell m 0 = some (.slice a25 i26 0) ∧ (T.ad = a25 ∧ T.regs.length = i26 ∧ 0 = 0)) ∧ True) ∧ True :=
    ⟨⟨⟨_, _, base9 hB, rfl, rfl, rfl⟩, ⟨_, _, base9 (Sep.up1 h15), rfl, rfl, rfl⟩, ⟨_, _, base9 (Sep.up2 h17), rfl, rfl, rfl⟩, trivial⟩, trivial⟩
  have hmk : ∀ q b, T.make q b n = (((T.regs.length : Int) + 1, 0), { T with a := some q, left := wr (T.left - n), regs := T.regs ++ [⟨true, b, List.replicate n.toNat 0⟩] }) := fun q b => by
    unfold Rm.make; rw [if_neg hn, if_neg (by omega)]
  have erep : (List.replicate n.toNat (Value.int .u64 0)) = (List.replicate n.toNat (0 : BitVec 64)).map W := by rw [List.map_replicate]; rfl
  rw [erep] at h17
  generalize hal : T.ad = al at *
  generalize hll : T.regs.length = ll at *
  cases hA : T.a with
  | none =>
    have hr := ok.1 hA
    have e1 : rmem m T1 = many [cl m T1.base] := by simp [rmem, Rm.allA, T1, hA, hr]
    rw [e1] at h17
    have k17 := Sep.many_iff.1 (Sep.up2 h17)
    obtain rfl : al = none := by rw [← hal]; unfold Rm.ad; rw [hA]; rfl
    obtain rfl : ll = 0 := by rw [← hll, hr]; rfl
    refine apd_first (by decide) (by decide) fun j H21 ej e21 => ?_
    have k21 := k17.new (.cells true 2 [.bool true, .slice (some ⟨i14, 0, none⟩) n.toNat 0])
    rw [← e21, ← ej] at k21
    refine asAddr_in (Sep.st1 k21 (Nat.le_of_ble_eq_true rfl) fun H24 h24 => ⟨asAddr_in ⟨_, _, Sep.ld1 h24 rfl, ?_⟩, qd⟩)
    have := hR H24 j i14
    rw [hmk] at this
    refine this ?_
    have e2 : rmem m { T with a := some j, left := wr (T.left - n), regs := T.regs ++ [⟨true, i14, List.replicate n.toNat 0⟩] } = many [cl m [.slice (some ⟨j, 0, none⟩) 1 0, I (wr (T.left - n)), I T.did, I T.odds], bx j (.cells true 2 [.bool true, .slice (some ⟨i14, 0, none⟩) n.toNat 0]), bx i14 (.cells true 1 ((List.replicate n.toNat (0 : BitVec 64)).map W))] := by
      simp [rmem, Rm.allA, hr, Rm.base, Rm.ad, Rm.css, Rg.cells, Rg.row]
    rw [e2]
    refine Sep.many_iff.2 ?_
    exact Sep.rm2 (Sep.up1 h24)
  | some i =>
    have hlenp := rowsFlat_len T.css (css_len T)
    have hcl : T.css.length = ll := by rw [← hll]; simp [Rm.css]
    have e1 : rmem m T1 = many (cl m T1.base :: bx i (.cells true 2 T.css.flatten) :: (T.regs.map Rg.row)) := by simp [rmem, Rm.allA, T1, hA, Rm.css]
    rw [e1] at h17
    have k17 := Sep.fold2.1 (Sep.many_iff.1 (Sep.up2 h17))
    obtain rfl : al = some ⟨i, 0, none⟩ := by rw [← hal]; unfold Rm.ad; rw [hA]; rfl
    refine apd_grow (Sep.get2 k17) (by decide) (by omega) (by rw [← hcl, ← hlenp]; exact takeAt_whole _) (by omega) fun j H21 ej e21 => ?_
    have k21 := (Sep.put2 k17 .dead).new (.cells true 2 (T.css.flatten ++ [.bool true, .slice (some ⟨i14, 0, none⟩) n.toNat 0]))
    rw [← e21, next_set, ← ej] at k21
    refine asAddr_in (Sep.st2 k21 (Nat.le_of_ble_eq_true rfl) fun H24 h24 => ⟨asAddr_in ⟨_, _, Sep.ld2 h24 rfl, ?_⟩, qd⟩)
    have := hR H24 j i14
    rw [hmk] at this
    have el : (((ll + 1 : Nat) : Int)) = (ll : Int) + 1 := by omega
    rw [el]
    refine this ?_
    have e2 : rmem m { T with a := some j, left := wr (T.left - n), regs := T.regs ++ [⟨true, i14, List.replicate n.toNat 0⟩] } = many (cl m [.slice (some ⟨j, 0, none⟩) (ll + 1) 0, I (wr (T.left - n)), I T.did, I T.odds] :: bx j (.cells true 2 (T.css.flatten ++ [.bool true, .slice (some ⟨i14, 0, none⟩) n.toNat 0])) :: (T.regs.map Rg.row ++ [bx i14 (.cells true 1 ((List.replicate n.toNat (0 : BitVec 64)).map W))])) := by
      simp [rmem, Rm.allA, Rm.base, Rm.ad, Rm.css, Rg.cells, Rg.row, hll]
    rw [e2]
    refine Sep.many_iff.2 ?_
    -- j, rows, m, i dead, i16, i14
    have k := Sep.rm3 (Sep.rm3 (Sep.up2 h24))
    have k2 := Sep.fold2.2 (Sep.up2 k)
    rw [List.cons_append, List.cons_append, List.append_assoc]
    exact k2
end Go.Proofs.Ytdkbgjhlpoibdaa
