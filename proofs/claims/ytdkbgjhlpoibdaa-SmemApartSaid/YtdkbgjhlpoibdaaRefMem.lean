/-
  The document's memory (crossbarref08): what its functions do with it.
-/
import Derived.Test.YtdkbgjhlpoibdaaSmemActs
import Derived.Test.YtdkbgjhlpoibdaaAs43
namespace Go.Proofs.Ytdkbgjhlpoibdaa
open Go Go.AS Go.RowKit
set_option linter.unusedVariables false
variable {H H' : Heap} {m : Nat} {R : Value → Heap → Prop} {L : List Asr}

structure Rg where
  live : Bool
  b : Nat
  ws : List (BitVec 64)

structure Rm where
  a : Option Nat
  regs : List Rg
  left : Int
  did : Int
  odds : Int

def Rg.cells (r : Rg) : List Value := [.bool r.live, .slice (some ⟨r.b, 0, none⟩) r.ws.length 0]
def Rm.ad (T : Rm) : Option Addr := T.a.map fun i => ⟨i, 0, none⟩
def Rm.base (T : Rm) : List Value := [.slice T.ad T.regs.length 0, I T.left, I T.did, I T.odds]
def Rm.css (T : Rm) : List (List Value) := T.regs.map Rg.cells
def Rm.allA (T : Rm) : List Asr := match T.a with | none => [] | some i => [bx i (.cells true 2 T.css.flatten)]
def Rg.row (r : Rg) : Asr := bx r.b (.cells true 1 (r.ws.map W))
def rmem (m : Nat) (T : Rm) : Asr := many (cl m T.base :: (T.allA ++ T.regs.map Rg.row))
def Rm.ok (T : Rm) : Prop := (T.a = none → T.regs = []) ∧ T.regs.length ≤ 400

variable {T T' : Rm}

theorem rbase (h : Sep H (rmem m T :: L)) : H.get m = some (.cells true 0 T.base) := h.head (cl m T.base) (by simp)
theorem rall (h : Sep H (rmem m T :: L)) {i : Nat} (hi : T.a = some i) : H.get i = some (.cells true 2 T.css.flatten) :=
  h.head (bx i (.cells true 2 T.css.flatten)) (by simp [Rm.allA, hi])
theorem rrow (h : Sep H (rmem m T :: L)) {r : Rg} (hr : r ∈ T.regs) : H.get r.b = some (.cells true 1 (r.ws.map W)) :=
  h.head r.row (by
    refine List.mem_cons_of_mem _ (List.mem_append_right _ (List.mem_map.2 ⟨r, hr, rfl⟩)))

theorem css_len (T : Rm) : ∀ c ∈ T.css, c.length = 2 := by
  intro c hc
  obtain ⟨r, _, rfl⟩ := List.mem_map.1 hc
  rfl

/-- The region of a handle. -/
def Rm.at' (T : Rm) (a : Int) : Option Rg := if 1 ≤ a ∧ a ≤ T.regs.length then T.regs[(a - 1).toNat]? else none
def Rm.lv (T : Rm) (a : Int) : Option Rg := match T.at' a with | some r => if r.live then some r else none | none => none

theorem at_some {a : Int} (h : 1 ≤ a ∧ a ≤ T.regs.length) : ∃ hk : (a - 1).toNat < T.regs.length, T.at' a = some (T.regs[(a - 1).toNat]) := by
  have hk : (a - 1).toNat < T.regs.length := by omega
  exact ⟨hk, by unfold Rm.at'; rw [if_pos h, List.getElem?_eq_getElem hk]⟩

/-- A look at the row of a handle. -/
theorem rlook (h : Sep H (rmem m T :: L)) (ok : T.ok) {a : Int} (ha : 1 ≤ a ∧ a ≤ T.regs.length) : ∃ i, T.ad = some ⟨i, 0, none⟩ ∧ inB (IntKind.i64.wrap (a - 1)) T.regs.length ∧
    H.cell i (0 + (IntKind.i64.wrap (a - 1)).toNat * 2) = some (.bool (T.regs[(a - 1).toNat]'(by omega)).live) ∧
    H.cell i (0 + (IntKind.i64.wrap (a - 1)).toNat * 2 + 1) = some (.slice (some ⟨(T.regs[(a - 1).toNat]'(by omega)).b, 0, none⟩) (T.regs[(a - 1).toNat]'(by omega)).ws.length 0) ∧ T.a = some i := by
  have hk : (a - 1).toNat < T.regs.length := by omega
  cases hA : T.a with
  | none => have := ok.1 hA; rw [this] at hk; simp at hk
  | some i =>
    have hg := rall h hA
    have hlen : (a - 1).toNat < T.css.length := by simpa [Rm.css] using hk
    have hb := ok.2
    have w : IntKind.i64.wrap (a - 1) = a - 1 := wrap_i64 (by omega)
    rw [w]
    refine ⟨i, by simp [Rm.ad, hA], by unfold inB; omega, ?_, ?_, rfl⟩
    · rw [cell_of hg, Nat.zero_add]
      have := rowsFlat_cell (k := 0) (css_len T) hlen (by decide)
      rw [Nat.add_zero] at this
      rw [this]
      simp [Rm.css, Rg.cells]
    · rw [cell_of hg, Nat.zero_add, rowsFlat_cell (k := 1) (css_len T) hlen (by decide)]
      simp [Rm.css, Rg.cells]

def Rm.isLive (T : Rm) (a : Int) : Bool := (T.lv a).isSome

theorem lv_in {a : Int} (h : 1 ≤ a ∧ a ≤ T.regs.length) : T.lv a = if (T.regs[(a - 1).toNat]'(by omega)).live then some (T.regs[(a - 1).toNat]'(by omega)) else none := by
  obtain ⟨hk, e⟩ := at_some h
  unfold Rm.lv; rw [e]
theorem lv_out {a : Int} (h : ¬ (1 ≤ a ∧ a ≤ T.regs.length)) : T.lv a = none := by
  unfold Rm.lv Rm.at'; rw [if_neg h]

theorem rlive_s (h : Sep H (rmem m T :: L)) (ok : T.ok) {a : Int} (hR : R (.bool (T.isLive a)) H) : CA en F.crossbarref08_Mem_live [P m, I a] H R := by
  apply vc_crossbarref08_Mem_live
  have no : ¬ (1 ≤ a ∧ a ≤ T.regs.length) → R (.bool false) H := fun hn => by
    have e : T.isLive a = false := by unfold Rm.isLive; rw [lv_out hn]; rfl
    rw [e] at hR; exact hR
  refine cond_of (fun h1 => asAddr_in ⟨_, _, by rw [cell_of (rbase h)]; rfl, cond_of (fun h2 => asAddr_in ⟨_, _, by rw [cell_of (rbase h)]; rfl, ?_⟩) fun h2 => ?_⟩) fun h1 => ?_
  · simp only [decide_eq_true_eq] at h1 h2
    obtain ⟨i, e1, e2, e3, _, _⟩ := rlook h ok ⟨h1, h2⟩
    rw [e1]
    refine ⟨e2, asRow_in ⟨_, e3, ?_⟩⟩
    have e : T.isLive a = (T.regs[(a - 1).toNat]'(by omega)).live := by
      unfold Rm.isLive; rw [lv_in ⟨h1, h2⟩]; split <;> simp_all
    rw [e] at hR; exact hR
  · exact no (by simp only [decide_eq_false_iff_not] at h2; omega)
  · exact no (by simp only [decide_eq_false_iff_not] at h1; omega)

theorem live_look (h : Sep H (rmem m T :: L)) (ok : T.ok) {a : Int} (hl : T.isLive a = true) : ∃ i r, T.lv a = some r ∧ r ∈ T.regs ∧ T.ad = some ⟨i, 0, none⟩ ∧ T.a = some i ∧ inB (IntKind.i64.wrap (a - 1)) T.regs.length ∧
    H.cell i (0 + (IntKind.i64.wrap (a - 1)).toNat * 2 + 1) = some (.slice (some ⟨r.b, 0, none⟩) r.ws.length 0) ∧ IntKind.i64.wrap (a - 1) = a - 1 ∧ (a - 1).toNat < T.regs.length ∧ T.regs[(a - 1).toNat]? = some r ∧ r.live = true ∧ 1 ≤ a := by
  have hin : 1 ≤ a ∧ a ≤ T.regs.length := by
    by_cases hc : 1 ≤ a ∧ a ≤ T.regs.length
    · exact hc
    · unfold Rm.isLive at hl; rw [lv_out hc] at hl; cases hl
  obtain ⟨i, e1, e2, e3, e4, e5⟩ := rlook h ok hin
  have hk : (a - 1).toNat < T.regs.length := by omega
  have hlv := lv_in hin
  have hlive : (T.regs[(a - 1).toNat]).live = true := by
    unfold Rm.isLive at hl
    rw [hlv] at hl
    split at hl
    · assumption
    · cases hl
  rw [if_pos hlive] at hlv
  have hb := ok.2
  exact ⟨i, _, hlv, List.getElem_mem hk, e1, e5, e2, e4, wrap_i64 (by omega), hk, List.getElem?_eq_getElem hk, hlive, hin.1⟩

/-- The numbers alone are written. -/
theorem rsetBase (h : Sep H (rmem m T :: L)) (h1 : T'.a = T.a) (h2 : T'.regs = T.regs) : Sep (H.set m (.cells true 0 T'.base)) (rmem m T' :: L) := by
  have := h.setM 0 (.cells true 0 T'.base) rfl
  have e : rmem m T' = many ((cl m T.base :: (T.allA ++ T.regs.map Rg.row)).set 0 (bx m (.cells true 0 T'.base))) := by
    unfold rmem
    simp only [List.set_cons_zero, Rm.allA, Rm.css, h1, h2]
  rw [e]; exact this

def Rm.cnt (T : Rm) : Rm := { T with did := wr (T.did + 1) }
def Rm.badly (T : Rm) : Rm := { T with odds := wr (T.odds + 1) }
def Rm.hits (T : Rm) (a i : Int) : Bool := match T.lv a with | some r => decide (0 ≤ i ∧ i < r.ws.length) | none => false

theorem rgood_s (h : Sep H (rmem m T :: L)) (ok : T.ok) {a i : Int} (hR : ∀ H', Sep H' (rmem m (if T.hits a i then T.cnt else T.cnt.badly) :: L) → R (.bool (T.hits a i)) H') : CA en F.crossbarref08_Mem_good [P m, I a, I i] H R := by
  apply vc_crossbarref08_Mem_good
  refine asAddr_in ⟨_, by rw [cell_of (rbase h)]; rfl, asAddr_in (stc_of' (rbase h) (Nat.le_of_ble_eq_true rfl) fun H1 e1 => ?_)⟩
  have h1 : Sep H1 (rmem m T.cnt :: L) := e1 ▸ rsetBase (T' := T.cnt) h rfl rfl
  clear e1
  have hits : T.hits a i = T.cnt.hits a i := rfl
  have okc : T.cnt.ok := ok
  rw [hits] at hR
  refine rlive_s h1 okc ⟨_, rfl, ?_⟩
  have bad : T.cnt.hits a i = false → AS.asAddr (P m) fun i24 i25 => ∃ n26, H1.cell i24 (i25 + 3) = some (I n26) ∧ AS.asAddr (P m) fun i27 i28 => stc H1 i27 (i28 + 3) [I (IntKind.i64.wrap (n26 + 1))] fun H29 => R (.bool false) H29 := by
    intro hh
    rw [hh] at hR
    refine asAddr_in ⟨_, by rw [cell_of (rbase h1)]; rfl, asAddr_in (stc_of' (rbase h1) (Nat.le_of_ble_eq_true rfl) fun H2 e2 => hR _ ?_)⟩
    exact e2 ▸ rsetBase (T' := T.cnt.badly) h1 rfl rfl
  refine cond_of (fun hl => ?_) fun hl => bad ?_
  · obtain ⟨q, r, e1, e2, e3, e4, e5, e6, e7, e8, e9, e10, e11⟩ := live_look h1 okc hl
    refine cond_of (fun hi => ?_) fun hi => bad ?_
    · refine asAddr_in ⟨_, _, by rw [cell_of (rbase h1)]; rfl, e5, ?_⟩
      rw [e3]
      refine asRow_in ⟨_, _, e6, cond_of (fun hj => ?_) fun hj => bad ?_⟩
      · have e : T.cnt.hits a i = true := by unfold Rm.hits; rw [e1]; simpa using ⟨by simpa using hi, by simpa using hj⟩
        rw [e] at hR
        exact hR _ h1
      · unfold Rm.hits; rw [e1]
        simp only [decide_eq_false_iff_not, decide_eq_true_eq, ge_iff_le] at hi hj ⊢
        omega
    · unfold Rm.hits; rw [e1]
      simp only [decide_eq_false_iff_not, ge_iff_le] at hi ⊢
      omega
  · unfold Rm.hits
    unfold Rm.isLive at hl
    cases hv : T.cnt.lv a with
    | none => rfl
    | some r => rw [hv] at hl; cases hl

/-! ### Words bit by bit -/
theorem bitv (w : BitVec 64) (j : Nat) : w.toNat / 2 ^ j % 2 = if w.getLsbD j then 1 else 0 := by
  rw [BitVec.getLsbD, Nat.testBit_eq_decide_div_mod_eq]
  have : w.toNat / 2 ^ j % 2 < 2 := Nat.mod_lt _ (by decide)
  by_cases h : w.toNat / 2 ^ j % 2 = 1
  · simp [h]
  · simp [h]; omega

theorem bitZ (w : BitVec 64) (j : Nat) (hj : j < 64) : Int.tmod (Int.fdiv (w.toNat : Int) (2 ^ (min (IntKind.u64.wrap (j : Int)).toNat 64))) 2 = ((w.toNat / 2 ^ j % 2 : Nat) : Int) := by
  have e1 : IntKind.u64.wrap (j : Int) = (j : Int) := by
    have e : IntKind.u64.wrap (j : Int) = (j : Int) % 18446744073709551616 := rfl
    rw [e]; omega
  rw [e1, Int.toNat_natCast, Nat.min_eq_left (by omega), Int.fdiv_eq_ediv_of_nonneg _ (Int.pow_nonneg (by decide))]
  have e2 : ((2 : Int) ^ j) = ((2 ^ j : Nat) : Int) := by simp
  rw [e2, ← Int.natCast_ediv, Int.tmod_eq_emod_of_nonneg (Int.natCast_nonneg _)]
  rfl

theorem runder_s {w mask v : BitVec 64} (hR : R (W (under w mask v)) H) : CA en F.crossbarref08_under [W w, W mask, W v] H R := by
  apply vc_crossbarref08_under
  refine use_crossbarref08_under_0 (fun k t j' H' => ∃ j : Nat, j ≤ 64 ∧ k = 64 - j ∧ j' = (j : Int) ∧ t = (((under w mask v).toNat % 2 ^ j : Nat) : Int) ∧ H' = H) 64 ⟨0, by omega, rfl, rfl, by simp [Nat.mod_one], rfl⟩ ?_
  rintro k t j' ys H' ⟨j, hj, rfl, rfl, rfl, rfl⟩
  refine cond_of (fun h1 => ?_) fun h1 => ?_
  · simp only [decide_eq_true_eq] at h1
    have hj' : j < 64 := by omega
    have ew : IntKind.u64.wrap (j : Int) = (j : Int) := by
      have e : IntKind.u64.wrap (j : Int) = (j : Int) % 18446744073709551616 := rfl
      rw [e]; omega
    have hnn : nn (IntKind.u64.wrap (j : Int)) := by rw [ew]; unfold nn; omega
    have hnz : nz 2 := by unfold nz; decide
    have hp : 2 ^ j ≤ 2 ^ 63 := Nat.pow_le_pow_right (by decide) (by omega)
    have ep : (min (IntKind.u64.wrap (j : Int)).toNat 64) = j := by rw [ew, Int.toNat_natCast, Nat.min_eq_left (by omega)]
    have e2 : ((2 : Int) ^ j) = ((2 ^ j : Nat) : Int) := by simp
    have step : ∀ x : BitVec 64, (under w mask v).getLsbD j = x.getLsbD j →
        IntKind.u64.wrap ((((under w mask v).toNat % 2 ^ j : Nat) : Int) + IntKind.u64.wrap (((x.toNat / 2 ^ j % 2 : Nat) : Int) * 2 ^ (min (IntKind.u64.wrap (j : Int)).toNat 64))) = (((under w mask v).toNat % 2 ^ (j + 1) : Nat) : Int) := by
      intro x hx
      rw [ep, e2, Nat.mod_pow_succ, bitv (under w mask v) j, hx, ← bitv x j]
      have h2 : x.toNat / 2 ^ j % 2 < 2 := Nat.mod_lt _ (by decide)
      have h3 : (under w mask v).toNat % 2 ^ j < 2 ^ j := Nat.mod_lt _ (Nat.pow_pos (by decide))
      have wr1 : ∀ n : Int, IntKind.u64.wrap n = n % 18446744073709551616 := fun _ => rfl
      rw [wr1, wr1]
      generalize x.toNat / 2 ^ j % 2 = b at *
      generalize (under w mask v).toNat % 2 ^ j = c at *
      generalize 2 ^ j = p at *
      have hb : b = 0 ∨ b = 1 := by omega
      rcases hb with rfl | rfl <;> simp <;> omega
    have hbit : (under w mask v).getLsbD j = if mask.getLsbD j then v.getLsbD j else w.getLsbD j := by
      unfold under
      simp only [BitVec.getLsbD_or, BitVec.getLsbD_and, BitVec.getLsbD_not]
      cases mask.getLsbD j <;> simp [hj']
    refine ⟨hnn, hnz, hnn, hnz, ?_⟩
    rw [bitZ mask j hj', bitZ v j hj', bitZ w j hj', bitv mask]
    refine cond_of (fun hm => ⟨hnn, hnz, hnn, 64 - (j + 1), by omega, j + 1, by omega, rfl, by rw [wrap_i64 (by omega)]; omega, ?_, rfl⟩) fun hm => ⟨hnn, 64 - (j + 1), by omega, j + 1, by omega, rfl, by rw [wrap_i64 (by omega)]; omega, ?_, rfl⟩
    · refine step v ?_
      rw [hbit]
      cases hc : mask.getLsbD j
      · rw [hc] at hm; simp at hm
      · simp
    · refine step w ?_
      rw [hbit]
      cases hc : mask.getLsbD j
      · simp
      · rw [hc] at hm; simp at hm
  · simp only [decide_eq_false_iff_not] at h1
    obtain rfl : j = 64 := by omega
    refine asInt_in ?_
    rw [Nat.mod_eq_of_lt (under w mask v).isLt]
    exact hR
end Go.Proofs.Ytdkbgjhlpoibdaa
