/-
  The shared memory: what its functions do.
-/
import Derived.Test.YtlkmdcncpdadbaaVcM
import Derived.Test.YtlkmdcncpdadbaaKit
namespace Go.Proofs.Ytlkmdcncpdadbaa
open Go Go.AS Go.RowKit
set_option linter.unusedVariables false

/-- A live region: its handle, its block, when it was entered, its words. -/
structure Reg where
  h : Int
  b : Nat
  born : Nat
  ws : List (BitVec 64)

structure Sm where
  mp : Nat
  cl : Nat
  regs : List Reg
  made : Int
  room : Int
  count : Int
  bads : Int

def Reg.cells (r : Reg) : List Value := r.ws.map W
def Reg.ent (r : Reg) : MapEntry := AS.ent Reg.h (fun r => .slice (some ⟨r.b, 0, none⟩) r.ws.length 0) Reg.born .i64 r
def Sm.base (S : Sm) : List Value := [.map (some S.mp), .int .i64 S.made, .int .i64 S.room, .int .i64 S.count, .int .i64 S.bads]
def Sm.foot (S : Sm) (m : Nat) : List Nat := m :: S.mp :: S.regs.map Reg.b
def Sm.find (S : Sm) (h : Int) : Option Reg := S.regs.find? fun r => r.h == h
def Sm.size (S : Sm) (h : Int) : Nat := match S.find h with | some r => r.ws.length | none => 0

structure IsMem (H : Heap) (m : Nat) (S : Sm) : Prop where
  base : H.get m = some (.cells true 0 S.base)
  map : H.get S.mp = some (.map (S.regs.map Reg.ent) S.cl)
  rows : ∀ r ∈ S.regs, H.get r.b = some (.cells true 1 r.cells)
  nodup : (S.foot m).Nodup
  lt : ∀ j ∈ S.foot m, j < H.next
  keys : (S.regs.map Reg.h).Nodup


variable {H : Heap} {m : Nat} {S : Sm} {R : Value → Heap → Prop}

theorem IsMem.frm (hm : IsMem H m S) {H' : Heap} {X : List Nat} (hf : Frm X H H') (hx : ∀ j ∈ S.foot m, j ∉ X) : IsMem H' m S := by
  have g : ∀ j ∈ S.foot m, H'.get j = H.get j := fun j hj => hf.2 j (hm.lt j hj) (hx j hj)
  refine ⟨?_, ?_, fun r hr => ?_, hm.nodup, fun j hj => Nat.lt_of_lt_of_le (hm.lt j hj) hf.1, hm.keys⟩
  · rw [g m (by simp [Sm.foot]), hm.base]
  · rw [g S.mp (by simp [Sm.foot]), hm.map]
  · rw [g r.b (by simp only [Sm.foot, List.mem_cons, List.mem_map]; exact .inr (.inr ⟨r, hr, rfl⟩)), hm.rows r hr]

theorem IsMem.frm' (hm : IsMem H m S) {H' : Heap} (hf : Frm [] H H') : IsMem H' m S := hm.frm hf (by simp)

/-- The numbers alone are written. -/
theorem IsMem.setBase (hm : IsMem H m S) {S' : Sm} (h1 : S'.mp = S.mp) (h2 : S'.cl = S.cl) (h3 : S'.regs = S.regs) : IsMem (H.set m (.cells true 0 S'.base)) m S' := by
  have hn := hm.nodup
  simp only [Sm.foot, List.nodup_cons, List.mem_cons, List.mem_map, not_or, not_exists, not_and] at hn
  have hfoot : S'.foot m = S.foot m := by simp [Sm.foot, h1, h3]
  refine ⟨get_set_self _ _ _, ?_, fun r hr => ?_, by rw [hfoot]; exact hm.nodup, fun j hj => by rw [next_set]; exact hm.lt j (by rw [← hfoot]; exact hj), by rw [h3]; exact hm.keys⟩
  · rw [h1, h2, h3, get_set_ne (Ne.symm hn.1.1), hm.map]
  · rw [h3] at hr
    rw [get_set_ne (fun e => hn.1.2 r hr e), hm.rows r hr]

theorem find_idx (S : Sm) (h : Int) : (S.regs.findIdx? fun a => a.h == h).bind (fun j => S.regs[j]?) = S.find h := by
  unfold Sm.find
  induction S.regs with
  | nil => rfl
  | cons r l ih =>
    rw [List.findIdx?_cons, List.find?_cons]
    cases hr : r.h == h with
    | true => simp
    | false =>
      simp only [Bool.false_eq_true, if_false]
      rw [← ih, Option.bind_map]
      congr 1

theorem IsMem.mapGet (hm : IsMem H m S) (h : Int) : ∃ r, AS.mapGet H (.int .i64) (some S.mp) (I h) = some r ∧
    (match S.find h with
      | some q => ∃ j, r = some (j, .slice (some ⟨q.b, 0, none⟩) q.ws.length 0)
      | none => r = none) := by
  unfold AS.mapGet
  rw [entries_of hm.map]
  simp only [Option.bind_some]
  have e := findNow_int Reg.h (fun r => Value.slice (some ⟨r.b, 0, none⟩) r.ws.length 0) Reg.born .i64 h S.regs 0
  refine ⟨_, e, ?_⟩
  rw [← find_idx]
  cases hx : S.regs.findIdx? fun a => a.h == h with
  | none => simp
  | some j =>
    have hj : j < S.regs.length := (List.findIdx?_eq_some_iff_getElem.1 hx).1
    simp only [Option.bind_some, List.getElem?_eq_getElem hj, Option.map_some, Option.getD_some]
    exact ⟨0 + j, rfl⟩

def addrOf : Option Reg → Option Addr
  | some q => some ⟨q.b, 0, none⟩
  | none => none
def lenOf : Option Reg → Nat
  | some q => q.ws.length
  | none => 0

/-- What a look at the map of regions gives. -/
theorem IsMem.look (hm : IsMem H m S) (h : Int) {K : Option (Nat × Value) → Option Addr → Nat → Prop} (k : ∀ r : Option (Nat × Value), r.isSome = (S.find h).isSome → K r (addrOf (S.find h)) (lenOf (S.find h))) :
    ∃ r, AS.mapGet H (.int .i64) (some S.mp) (I h) = some r ∧ ∃ a l, got r (.slice none 0 0) (.slice a l 0) ∧ K r a l := by
  obtain ⟨r, h1, h2⟩ := hm.mapGet h
  refine ⟨r, h1, addrOf (S.find h), lenOf (S.find h), ?_, ?_⟩
  · cases hf : S.find h with
    | none => rw [hf] at h2; simp only at h2; subst h2; rfl
    | some q => rw [hf] at h2; obtain ⟨j, rfl⟩ := h2; rfl
  · refine k r ?_
    cases hf : S.find h with
    | none => rw [hf] at h2; simp only at h2; subst h2; rfl
    | some q => rw [hf] at h2; obtain ⟨j, rfl⟩ := h2; rfl

theorem find_mem {h : Int} {q : Reg} (hf : S.find h = some q) : q ∈ S.regs ∧ q.h = h := by
  unfold Sm.find at hf
  exact ⟨List.mem_of_find?_eq_some hf, by simpa using List.find?_some hf⟩

/-- A word is written. -/
def Sm.upd (S : Sm) (h : Int) (i : Nat) (w : BitVec 64) : Sm := { S with regs := S.regs.map fun r => if r.h = h then { r with ws := r.ws.set i w } else r }

theorem upd_foot (S : Sm) (m : Nat) (h : Int) (i : Nat) (w : BitVec 64) : (S.upd h i w).foot m = S.foot m := by
  simp only [Sm.foot, Sm.upd, List.map_map]
  congr 2
  refine List.map_congr_left fun r _ => ?_
  simp only [Function.comp]
  split <;> rfl

theorem IsMem.setRow (hm : IsMem H m S) {h : Int} {q : Reg} (hf : S.find h = some q) (i : Nat) (w : BitVec 64) : IsMem (H.set q.b (.cells true 1 ((q.ws.set i w).map W))) m (S.upd h i w) := by
  obtain ⟨hq, rfl⟩ := find_mem hf
  have hn := hm.nodup
  simp only [Sm.foot, List.nodup_cons, List.mem_cons, List.mem_map, not_or, not_exists, not_and] at hn
  have keyinj : ∀ r ∈ S.regs, r.h = q.h → r = q := by
    intro r hr e
    have := hm.keys
    rw [List.nodup_iff_pairwise_ne] at this
    obtain ⟨a, ha, rfl⟩ := List.mem_iff_getElem.1 hr
    obtain ⟨b, hb, rfl⟩ := List.mem_iff_getElem.1 hq
    by_cases hab : a = b
    · subst hab; rfl
    · exfalso
      rw [List.pairwise_iff_getElem] at this
      rcases Nat.lt_or_gt_of_ne hab with h1 | h1
      · exact this a b (by simpa using ha) (by simpa using hb) h1 (by simpa using e)
      · exact this b a (by simpa using hb) (by simpa using ha) h1 (by simpa using e.symm)
  have blkinj : ∀ r ∈ S.regs, r.b = q.b → r = q := by
    intro r hr e
    have := hn.2.2
    rw [List.nodup_iff_pairwise_ne] at this
    obtain ⟨a, ha, rfl⟩ := List.mem_iff_getElem.1 hr
    obtain ⟨b, hb, rfl⟩ := List.mem_iff_getElem.1 hq
    by_cases hab : a = b
    · subst hab; rfl
    · exfalso
      rw [List.pairwise_iff_getElem] at this
      rcases Nat.lt_or_gt_of_ne hab with h1 | h1
      · exact this a b (by simpa using ha) (by simpa using hb) h1 (by simpa using e)
      · exact this b a (by simpa using hb) (by simpa using ha) h1 (by simpa using e.symm)
  refine ⟨?_, ?_, fun r hr => ?_, by rw [upd_foot]; exact hm.nodup, fun j hj => by rw [next_set]; exact hm.lt j (by rw [upd_foot] at hj; exact hj), ?_⟩
  · rw [get_set_ne (fun e => hn.1.2 q hq e.symm), hm.base]; rfl
  · have e1 : (S.upd q.h i w).regs.map Reg.ent = S.regs.map Reg.ent := by
      simp only [Sm.upd, List.map_map]
      refine List.map_congr_left fun r _ => ?_
      simp only [Function.comp]
      split
      · simp [Reg.ent, AS.ent]
      · rfl
    rw [e1]
    show (H.set q.b _).get S.mp = some (.map _ S.cl)
    rw [get_set_ne (fun e => hn.2.1 q hq e.symm), hm.map]
  · simp only [Sm.upd, List.mem_map] at hr
    obtain ⟨r0, h0, rfl⟩ := hr
    by_cases e : r0.h = q.h
    · rw [if_pos e]
      obtain rfl := keyinj r0 h0 e
      exact get_set_self _ _ _
    · rw [if_neg e]
      have : r0.b ≠ q.b := fun e' => e (by rw [blkinj r0 h0 e'])
      rw [get_set_ne this, hm.rows r0 h0]
  · have e1 : (S.upd q.h i w).regs.map Reg.h = S.regs.map Reg.h := by
      simp only [Sm.upd, List.map_map]
      refine List.map_congr_left fun r _ => ?_
      simp only [Function.comp]
      split <;> rfl
    rw [e1]; exact hm.keys

/-! ### An access -/
def wr (n : Int) : Int := IntKind.i64.wrap n
def Sm.cnt (S : Sm) : Sm := { S with count := wr (S.count + 1) }
def Sm.acc (S : Sm) (h i : Int) (may : Bool) (f : BitVec 64 → BitVec 64) : (BitVec 64 × Bool) × Sm :=
  match S.find h with
  | some r => if may = true ∧ 0 ≤ i ∧ i < r.ws.length then ((r.ws.getD i.toNat 0, true), S.cnt.upd h i.toNat (f (r.ws.getD i.toNat 0))) else ((0, false), { S.cnt with bads := wr (S.bads + 1) })
  | none => ((0, false), { S.cnt with bads := wr (S.bads + 1) })

theorem acc_foot (S : Sm) (m : Nat) (h i : Int) (may : Bool) (f : BitVec 64 → BitVec 64) : (S.acc h i may f).2.foot m = S.foot m := by
  unfold Sm.acc
  split
  · split
    · rw [upd_foot]; rfl
    · rfl
  · rfl

/-- What a function value does with a word. -/
def Does (H : Heap) (X : List Nat) (k : Nat) (fs cs : List Value) (f : BitVec 64 → BitVec 64) : Prop :=
  (∃ fn, en.fn k = some fn) ∧ ∀ H1 w, Frm X H H1 → CA en k (fs ++ [W w] ++ cs) H1 fun v H2 => v = W (f w) ∧ Frm [] H1 H2

theorem access_ok (hm : IsMem H m S) {h i : Int} {may : Bool} {k : Nat} {fs cs : List Value} {f : BitVec 64 → BitVec 64} (hd : Does H [m] k fs cs f)
    (hR : ∀ H', IsMem H' m (S.acc h i may f).2 → Frm (S.foot m) H H' → R (.tuple #[W (S.acc h i may f).1.1, .bool (S.acc h i may f).1.2]) H') :
    CA en F.smem_Mem_access [P m, I h, I i, .bool may, .func (.func k) ⟨fs⟩ ⟨cs⟩] H R := by
  apply vc_smem_Mem_access
  simp only [asAddr_some, Nat.zero_add]
  refine ⟨S.count, by rw [cell_of hm.base]; rfl, ?_⟩
  refine stc_of' hm.base (by simp [Sm.base]) fun H1 e1 => ?_
  have hm1 : IsMem H1 m S.cnt := e1 ▸ hm.setBase (S' := S.cnt) rfl rfl rfl
  have fr1 : Frm [m] H H1 := e1 ▸ (Frm.refl _ _).set _ (by simp)
  clear e1
  refine ⟨some S.mp, by rw [cell_of hm1.base]; rfl, ?_⟩
  refine hm1.look h fun r hr => ?_
  have hfind : S.cnt.find h = S.find h := rfl
  rw [hfind]
  have bad : (S.acc h i may f) = ((0, false), { S.cnt with bads := wr (S.bads + 1) }) → ∃ n15, H1.cell m 4 = some (I n15) ∧ stc H1 m 4 [I (IntKind.i64.wrap (n15 + 1))] fun H18 => R (.tuple #[.int .u64 0, .bool false]) H18 := by
    intro e
    refine ⟨S.bads, by rw [cell_of hm1.base]; rfl, ?_⟩
    refine stc_of hm1.base (by simp [Sm.base]) ?_
    have := hR (H1.set m (.cells true 0 (setAt S.cnt.base 4 [I (IntKind.i64.wrap (S.bads + 1))])))
    rw [e] at this
    refine this ?_ ?_
    · exact hm1.setBase (S' := { S.cnt with bads := wr (S.bads + 1) }) rfl rfl rfl
    · exact (fr1.mono (by simp [Sm.foot])).set _ (by simp [Sm.foot])
  cases may with
  | false => exact bad (by unfold Sm.acc; split <;> simp)
  | true =>
    simp only [Bool.not_true, cond_false]
    refine cond_of (fun hi => bad ?_) fun hi => ?_
    · simp only [decide_eq_true_eq] at hi
      unfold Sm.acc; split
      · rw [if_neg (by omega)]
      · rfl
    refine cond_of (fun hl => bad ?_) fun hl => ?_
    · simp only [decide_eq_true_eq, ge_iff_le] at hl
      unfold Sm.acc
      cases hf : S.find h with
      | none => rfl
      | some q => rw [hf] at hl; simp only [lenOf] at hl; simp only; rw [if_neg (by omega)]
    simp only [decide_eq_false_iff_not, ge_iff_le] at hi hl
    cases hf : S.find h with
    | none => rw [hf] at hl; simp only [lenOf] at hl; omega
    | some q =>
      rw [hf] at hl
      simp only [lenOf] at hl
      simp only [lenOf, addrOf, asRow_some, asFn_func]
      have hq := (find_mem hf).1
      have hlt : i.toNat < q.ws.length := by omega
      refine ⟨⟨by omega, by omega⟩, ((q.ws.getD i.toNat 0).toNat : Int), ?_, hd.1, ?_⟩
      · rw [cell_of (hm1.rows q hq)]
        simp [Reg.cells, hlt, List.getD_eq_getElem?_getD]
      · refine (hd.2 H1 (q.ws.getD i.toNat 0) fr1).mono ?_
        rintro v H2 ⟨rfl, fr2⟩
        refine ⟨_, rfl, ⟨by omega, by omega⟩, ?_⟩
        have hm2 := hm1.frm' fr2
        refine stc_of (hm2.rows q hq) (by simp [Reg.cells]; omega) ?_
        have eacc : S.acc h i true f = ((q.ws.getD i.toNat 0, true), S.cnt.upd h i.toNat (f (q.ws.getD i.toNat 0))) := by
          unfold Sm.acc; rw [hf]; simp only; rw [if_pos (by refine ⟨?_, by omega, by omega⟩; trivial)]
        have hrow := hm2.setRow (h := h) hf i.toNat (f (q.ws.getD i.toNat 0))
        have := hR _ (by rw [eacc]; exact hrow) (by
          refine ((fr1.mono (by simp [Sm.foot])).trans fr2 (by simp)).set _ ?_
          left
          simp only [Sm.foot, List.mem_cons, List.mem_map]
          exact .inr (.inr ⟨q, hq, rfl⟩))
        rw [eacc] at this
        have ecell : setAt q.cells (0 + i.toNat * 1) [W (f (q.ws.getD i.toNat 0))] = (q.ws.set i.toNat (f (q.ws.getD i.toNat 0))).map W := by
          simp [setAt, Reg.cells, List.map_set]
        rw [ecell]
        exact this

/-! ### The calls -/
def under (w mask v : BitVec 64) : BitVec 64 := (w &&& ~~~mask) ||| (v &&& mask)

theorem under_ok {w mask v : BitVec 64} (hR : R (W (under w mask v)) H) : CA en F.smem_under [W w, W mask, W v] H R := by
  apply vc_smem_under
  simp only [ofInt_bv, wrap_bv]
  exact hR

theorem load_does (X : List Nat) : Does H X F.smem_Mem_Load_1 [] [] id :=
  ⟨Option.isSome_iff_exists.1 (by kernel_rfl), fun H1 w _ => by
    apply vc_smem_Mem_Load_1
    exact ⟨rfl, Frm.refl _ _⟩⟩

theorem Load_ok (hm : IsMem H m S) {h i : Int}
    (hR : ∀ H', IsMem H' m (S.acc h i true id).2 → Frm (S.foot m) H H' → R (.tuple #[W (S.acc h i true id).1.1, .bool (S.acc h i true id).1.2]) H') :
    CA en F.smem_Mem_Load [P m, I h, I i] H R := by
  apply vc_smem_Mem_Load
  refine access_ok hm (load_does _) fun H' hm' fr => ?_
  exact ⟨_, _, rfl, hR H' hm' fr⟩

theorem all_ones : (18446744073709551615 : Int) = ((BitVec.allOnes 64).toNat : Int) := by decide
theorem under_all (w v : BitVec 64) : under w (BitVec.allOnes 64) v = v := by
  unfold under
  rw [BitVec.not_allOnes, BitVec.and_zero, BitVec.zero_or, BitVec.and_allOnes]

def casF (mask old v w : BitVec 64) : BitVec 64 := if (w ^^^ old) &&& mask = 0 then under w mask v else w

/-- What an operation makes of two words; none: there is none. -/
def aluF (op : Int) (a b : BitVec 64) : BitVec 64 := if op = 0 then a + b else if op = 64 then a ||| b else if op = 80 then a &&& b else a ^^^ b
def isAtomic (op : Int) : Bool := op == 0 || op == 80 || op == 64 || op == 160
def fetchF (op : Int) (mask v w : BitVec 64) : BitVec 64 := under w mask (aluF op (w &&& mask) (v &&& mask))

theorem alu_ok {op : Int} (ho : isAtomic op = true) {a b : BitVec 64} (hR : R (.tuple #[W (aluF op a b), .bool true]) H) : CA en F.word_Alu [I op, .bool true, W a, W b] H R := by
  have h4 : op = 0 ∨ op = 80 ∨ op = 64 ∨ op = 160 := by simpa [isAtomic, or_assoc] using ho
  apply vc_word_Alu
  have e192 : (op == 192) = false := by rcases h4 with rfl | rfl | rfl | rfl <;> rfl
  rw [e192]
  simp only [cond_false, cond_true]
  apply vc_word_alu_uint64
  refine ⟨show (64 : Int) ≠ 0 by decide, ?_⟩
  rcases h4 with rfl | rfl | rfl | rfl
  · simp only [show ((0 : Int) == 0) = true from rfl, cond_true]
    refine ⟨_, _, rfl, ?_⟩
    rw [wrap_u64, ofInt_add, ofInt_bv, ofInt_bv]
    exact hR
  · simp only [show ((80 : Int) == 0) = false from rfl, show ((80 : Int) == 16) = false from rfl, show ((80 : Int) == 32) = false from rfl, show ((80 : Int) == 48) = false from rfl, show ((80 : Int) == 144) = false from rfl, show ((80 : Int) == 64) = false from rfl, show ((80 : Int) == 80) = true from rfl, cond_true, cond_false]
    refine ⟨_, _, rfl, ?_⟩
    simp only [wrap_u64, ofInt_bv]
    exact hR
  · simp only [show ((64 : Int) == 0) = false from rfl, show ((64 : Int) == 16) = false from rfl, show ((64 : Int) == 32) = false from rfl, show ((64 : Int) == 48) = false from rfl, show ((64 : Int) == 144) = false from rfl, show ((64 : Int) == 64) = true from rfl, cond_true, cond_false]
    refine ⟨_, _, rfl, ?_⟩
    simp only [wrap_u64, ofInt_bv]
    exact hR
  · simp only [show ((160 : Int) == 0) = false from rfl, show ((160 : Int) == 16) = false from rfl, show ((160 : Int) == 32) = false from rfl, show ((160 : Int) == 48) = false from rfl, show ((160 : Int) == 144) = false from rfl, show ((160 : Int) == 64) = false from rfl, show ((160 : Int) == 80) = false from rfl, show ((160 : Int) == 160) = true from rfl, cond_true, cond_false]
    refine ⟨_, _, rfl, ?_⟩
    simp only [wrap_u64, ofInt_bv]
    exact hR

theorem fetch_does {X : List Nat} {b0 b1 b2 : Nat} {op : Int} {mask v : BitVec 64} (ho : isAtomic op = true) (h0 : H.get b0 = some (.cells true 0 [I op])) (h1 : H.get b1 = some (.cells true 0 [W mask])) (h2 : H.get b2 = some (.cells true 0 [W v]))
    (l0 : b0 < H.next) (l1 : b1 < H.next) (l2 : b2 < H.next) (n0 : b0 ∉ X) (n1 : b1 ∉ X) (n2 : b2 ∉ X) :
    Does H X F.smem_Mem_Fetch_1 [] [P b0, P b1, P b2] (fetchF op mask v) :=
  ⟨Option.isSome_iff_exists.1 (by kernel_rfl), fun H1 w fr => by
    have c0 : H1.cell b0 0 = some (I op) := by rw [cell_of (by rw [fr.2 _ l0 n0]; exact h0)]; rfl
    have c1 : H1.cell b1 0 = some (W mask) := by rw [cell_of (by rw [fr.2 _ l1 n1]; exact h1)]; rfl
    have c2 : H1.cell b2 0 = some (W v) := by rw [cell_of (by rw [fr.2 _ l2 n2]; exact h2)]; rfl
    apply vc_smem_Mem_Fetch_1
    simp only [asAddr_some]
    refine ⟨_, c0, _, c1, _, c2, _, c1, ?_⟩
    simp only [ofInt_bv, wrap_bv]
    refine alu_ok ho ⟨_, _, rfl, _, c1, ?_⟩
    exact under_ok ⟨_, rfl, rfl, Frm.refl _ _⟩⟩

theorem access_off (hm : IsMem H m S) {h i : Int} {k : Nat} {fs cs : List Value} (f : BitVec 64 → BitVec 64)
    (hR : ∀ H', IsMem H' m (S.acc h i false f).2 → Frm (S.foot m) H H' → R (.tuple #[W (S.acc h i false f).1.1, .bool (S.acc h i false f).1.2]) H') :
    CA en F.smem_Mem_access [P m, I h, I i, .bool false, .func (.func k) ⟨fs⟩ ⟨cs⟩] H R := by
  apply vc_smem_Mem_access
  simp only [asAddr_some, Nat.zero_add]
  refine ⟨S.count, by rw [cell_of hm.base]; rfl, ?_⟩
  refine stc_of' hm.base (by simp [Sm.base]) fun H1 e1 => ?_
  have hm1 : IsMem H1 m S.cnt := e1 ▸ hm.setBase (S' := S.cnt) rfl rfl rfl
  have fr1 : Frm [m] H H1 := e1 ▸ (Frm.refl _ _).set _ (by simp)
  clear e1
  refine ⟨some S.mp, by rw [cell_of hm1.base]; rfl, ?_⟩
  refine hm1.look h fun r hr => ?_
  have e : (S.acc h i false f) = ((0, false), { S.cnt with bads := wr (S.bads + 1) }) := by unfold Sm.acc; split <;> simp
  simp only [Bool.not_false, cond_true]
  refine ⟨S.bads, by rw [cell_of hm1.base]; rfl, ?_⟩
  refine stc_of hm1.base (by simp [Sm.base]) ?_
  have := hR (H1.set m (.cells true 0 (setAt S.cnt.base 4 [I (IntKind.i64.wrap (S.bads + 1))])))
  rw [e] at this
  refine this ?_ ?_
  · exact hm1.setBase (S' := { S.cnt with bads := wr (S.bads + 1) }) rfl rfl rfl
  · exact (fr1.mono (by simp [Sm.foot])).set _ (by simp [Sm.foot])

theorem Fetch_ok (hm : IsMem H m S) {h i op : Int} {mask v : BitVec 64}
    (hR : ∀ H', IsMem H' m (S.acc h i (isAtomic op) (fetchF op mask v)).2 → Frm (S.foot m) H H' → R (.tuple #[W (S.acc h i (isAtomic op) (fetchF op mask v)).1.1, .bool (S.acc h i (isAtomic op) (fetchF op mask v)).1.2]) H') :
    CA en F.smem_Mem_Fetch [P m, I h, I i, I op, W mask, W v] H R := by
  apply vc_smem_Mem_Fetch
  have fr : Frm [] H (((H.new (.cells true 0 [I op])).new (.cells true 0 [W mask])).new (.cells true 0 [W v])) := (((Frm.refl _ _).new _).new _).new _
  have hm1 := hm.frm' fr
  have hne : ∀ j ∈ [m], j < H.next := by
    intro j hj
    simp only [List.mem_singleton] at hj
    subst hj
    exact hm.lt _ (by simp [Sm.foot])
  have g0 : (((H.new (.cells true 0 [I op])).new (.cells true 0 [W mask])).new (.cells true 0 [W v])).get H.next = some (.cells true 0 [I op]) := by
    rw [get_new_lt (by simp [next_new]; omega), get_new_lt (by simp [next_new]), get_new_self]
  have g1 : (((H.new (.cells true 0 [I op])).new (.cells true 0 [W mask])).new (.cells true 0 [W v])).get (H.new (.cells true 0 [I op])).next = some (.cells true 0 [W mask]) := by
    rw [get_new_lt (by simp [next_new]), get_new_self]
  have g2 : (((H.new (.cells true 0 [I op])).new (.cells true 0 [W mask])).new (.cells true 0 [W v])).get ((H.new (.cells true 0 [I op])).new (.cells true 0 [W mask])).next = some (.cells true 0 [W v]) := get_new_self _ _
  have c0 : (((H.new (.cells true 0 [I op])).new (.cells true 0 [W mask])).new (.cells true 0 [W v])).cell H.next 0 = some (I op) := by rw [cell_of g0]; rfl
  have out : ∀ may, may = isAtomic op → CA en F.smem_Mem_access [P m, I h, I i, .bool may, .func (.func F.smem_Mem_Fetch_1) #[] #[P H.next, P (H.new (.cells true 0 [I op])).next, P ((H.new (.cells true 0 [I op])).new (.cells true 0 [W mask])).next]]
      (((H.new (.cells true 0 [I op])).new (.cells true 0 [W mask])).new (.cells true 0 [W v])) fun v1 H2 => ∃ n4 b5, v1 = Value.tuple #[.int .u64 n4, .bool b5] ∧ R (.tuple #[.int .u64 n4, .bool b5]) H2 := by
    rintro may rfl
    cases ho : isAtomic op with
    | true =>
      refine access_ok hm1 (fetch_does (op := op) (mask := mask) (v := v) ho g0 g1 g2 ?_ ?_ ?_ ?_ ?_ ?_) fun H' hm' fr' => ?_
      · simp only [next_new]; omega
      · simp only [next_new]; omega
      · simp only [next_new]; omega
      · intro hx; have := hne _ hx; omega
      · intro hx; have := hne _ hx; simp only [next_new] at this; omega
      · intro hx; have := hne _ hx; simp only [next_new] at this; omega
      · have := hR H'
        rw [ho] at this
        exact ⟨_, _, rfl, this hm' ((Frm.mono (S' := S.foot m) fr (by simp)).trans fr' fun j hj => .inl hj)⟩
    | false =>
      refine access_off hm1 (fetchF op mask v) fun H' hm' fr' => ?_
      have := hR H'
      rw [ho] at this
      exact ⟨_, _, rfl, this hm' ((Frm.mono (S' := S.foot m) fr (by simp)).trans fr' fun j hj => .inl hj)⟩
  refine ⟨_, c0, cond_of (fun h0 => out true ?_) fun h0 => ⟨_, c0, cond_of (fun h1 => out true ?_) fun h1 => ⟨_, c0, cond_of (fun h2 => out true ?_) fun h2 => ⟨_, c0, out _ ?_⟩⟩⟩⟩
  · simp [isAtomic, h0]
  · simp [isAtomic, h1]
  · simp [isAtomic, h2]
  · simp [isAtomic, h0, h1, h2]

/-! ### Making, counting -/
theorem New_ok {room : Int} (hR : ∀ H' m mp, H.next ≤ m → IsMem H' m ⟨mp, 0, [], 0, if (if 65536 < room then 65536 else room) > 0 then (if 65536 < room then 65536 else room) else 0, 0, 0⟩ → Frm [] H H' → H.next ≤ mp → R (P m) H') :
    CA en F.smem_New [I room] H R := by
  apply vc_smem_New
  refine hR _ (H.new (.map [] 0)).next H.next (by simp [next_new]) ⟨?_, ?_, by simp, ?_, ?_, by simp⟩ (((Frm.refl _ _).new _).new _) (Nat.le_refl _)
  · rw [get_new_self]; rfl
  · rw [get_new_lt (by simp [next_new]), get_new_self]; rfl
  · simp [Sm.foot, next_new]
  · intro j hj
    simp only [Sm.foot, List.map_nil, List.mem_cons, List.not_mem_nil, or_false, next_new] at hj ⊢
    omega

theorem Bad_ok (hm : IsMem H m S) (hR : R (I S.bads) H) : CA en F.smem_Mem_Bad [P m] H R := by
  apply vc_smem_Mem_Bad
  simp only [asAddr_some, Nat.zero_add]
  exact ⟨_, by rw [cell_of hm.base]; rfl, hR⟩

theorem Count_ok (hm : IsMem H m S) (hR : R (I S.count) H) : CA en F.smem_Mem_Count [P m] H R := by
  apply vc_smem_Mem_Count
  simp only [asAddr_some, Nat.zero_add]
  exact ⟨_, by rw [cell_of hm.base]; rfl, hR⟩

theorem reps_one (n : Nat) (v : Value) : reps n [v] = List.replicate n v := by
  induction n with
  | zero => rfl
  | succ n ih => simp [reps, List.replicate_succ, ih]

/-- A region more. -/
def Sm.mk' (S : Sm) (b : Nat) (n : Nat) : Sm :=
  { S with made := wr (S.made + 1), room := wr (S.room - n), cl := S.cl + 1, regs := S.regs ++ [⟨wr (S.made + 1), b, S.cl, List.replicate n 0⟩] }

theorem find_none {h : Int} (hf : S.find h = none) : ∀ r ∈ S.regs, r.h ≠ h := by
  unfold Sm.find at hf
  intro r hr
  have := List.find?_eq_none.1 hf r hr
  simpa using this

theorem Make_bad (hm : IsMem H m S) {n : Int} (hn : n < 1 ∨ 65536 < n) (hR : R (.tuple #[I 0, I 1]) H) : CA en F.smem_Mem_Make [P m, I n] H R := by
  apply vc_smem_Mem_Make
  refine cond_of (fun _ => hR) fun h1 => cond_of (fun _ => hR) fun h2 => ?_
  simp only [decide_eq_false_iff_not, gt_iff_lt] at h1 h2
  omega

theorem Make_full (hm : IsMem H m S) {n : Int} (hn : 1 ≤ n ∧ n ≤ 65536) (hr : S.room < n) (hR : R (.tuple #[I 0, I 5]) H) : CA en F.smem_Mem_Make [P m, I n] H R := by
  apply vc_smem_Mem_Make
  refine cond_of (fun h1 => ?_) fun h1 => cond_of (fun h2 => ?_) fun h2 => ?_
  · simp only [decide_eq_true_eq] at h1; omega
  · simp only [decide_eq_true_eq] at h2; omega
  simp only [asAddr_some, Nat.zero_add]
  refine ⟨S.room, by rw [cell_of hm.base]; rfl, ?_⟩
  refine cond_of (fun _ => hR) fun h3 => ?_
  simp only [decide_eq_false_iff_not] at h3
  omega

theorem Make_good (hm : IsMem H m S) {n : Int} (hn : 1 ≤ n ∧ n ≤ 65536) (hr : n ≤ S.room) (hf : S.find (wr (S.made + 1)) = none)
    (hR : ∀ H' b, H.next ≤ b → IsMem H' m (S.mk' b n.toNat) → Frm (S.foot m) H H' → R (.tuple #[I (wr (S.made + 1)), I 0]) H') : CA en F.smem_Mem_Make [P m, I n] H R := by
  have hnd := hm.nodup
  simp only [Sm.foot, List.nodup_cons, List.mem_cons, List.mem_map, not_or, not_exists, not_and] at hnd
  apply vc_smem_Mem_Make
  refine cond_of (fun h1 => ?_) fun h1 => cond_of (fun h2 => ?_) fun h2 => ?_
  · simp only [decide_eq_true_eq] at h1; omega
  · simp only [decide_eq_true_eq] at h2; omega
  simp only [asAddr_some, Nat.zero_add]
  refine ⟨S.room, by rw [cell_of hm.base]; rfl, ?_⟩
  refine cond_of (fun h3 => ?_) fun h3 => ?_
  · simp only [decide_eq_true_eq] at h3; omega
  refine ⟨S.made, by rw [cell_of hm.base]; rfl, ?_⟩
  refine stc_of' hm.base (by simp [Sm.base]) fun H9 e9 => ?_
  have hm9 : IsMem H9 m { S with made := wr (S.made + 1) } := e9 ▸ hm.setBase (S' := { S with made := wr (S.made + 1) }) rfl rfl rfl
  have fr9 : Frm [m] H H9 := e9 ▸ (Frm.refl _ _).set _ (by simp)
  clear e9
  refine ⟨S.room, by rw [cell_of hm9.base]; rfl, ?_⟩
  refine stc_of' hm9.base (by simp [Sm.base]) fun H15 e15 => ?_
  have hm15 : IsMem H15 m { S with made := wr (S.made + 1), room := wr (S.room - n) } := e15 ▸ hm9.setBase (S' := { S with made := wr (S.made + 1), room := wr (S.room - n) }) rfl rfl rfl
  have fr15 : Frm [m] H H15 := e15 ▸ fr9.set _ (by simp)
  clear e15 hm9 fr9
  have c0 : H15.cell m 0 = some (.map (some S.mp)) := by rw [cell_of hm15.base]; rfl
  have c1 : H15.cell m 1 = some (I (wr (S.made + 1))) := by rw [cell_of hm15.base]; rfl
  have hlt : m < H15.next := hm15.lt m (by simp [Sm.foot])
  have hmp : S.mp < H15.next := hm15.lt S.mp (by simp [Sm.foot])
  have cn : ∀ o i, ((H15.bump 11).new o).cell m i = H15.cell m i := by
    intro o i
    unfold Heap.cell
    rw [get_new_lt (by rw [next_bump]; omega), get_bump]
  refine ⟨_, by rw [cell_bump]; exact c0, _, by rw [cell_bump]; exact c1, ⟨by omega, Int.le_refl _, by omega⟩, ?_⟩
  have hmap : ((H15.bump 11).new (.cells true 1 (reps n.toNat [.int .u64 0]))).get S.mp = some (.map (S.regs.map Reg.ent) S.cl) := by
    rw [get_new_lt (by rw [next_bump]; omega), get_bump]; exact hm15.map
  have hfn : Instr.findNow (.int .i64) (I (wr (S.made + 1))) (S.regs.map Reg.ent) 0 = some none := by
    have e := findNow_int Reg.h (fun r => Value.slice (some ⟨r.b, 0, none⟩) r.ws.length 0) Reg.born .i64 (wr (S.made + 1)) S.regs 0
    have e2 : (S.regs.findIdx? fun a => a.h == wr (S.made + 1)) = none := by
      rw [List.findIdx?_eq_none_iff]
      intro r hr
      simpa using find_none hf r hr
    rw [e2] at e
    exact e
  refine ⟨S.mp, _, _, none, rfl, hmap, hfn, ?_⟩
  have hnew : IsMem (((H15.bump 11).new (.cells true 1 (reps n.toNat [.int .u64 0]))).set S.mp (putMap (S.regs.map Reg.ent) S.cl none (I (wr (S.made + 1))) (.slice (some ⟨(H15.bump 11).next, 0, none⟩) n.toNat 0))) m (S.mk' (H15.bump 11).next n.toNat) := by
    have hfoot : (S.mk' (H15.bump 11).next n.toNat).foot m = S.foot m ++ [(H15.bump 11).next] := by simp [Sm.foot, Sm.mk']
    have old : ∀ j ∈ S.foot m, j < H15.next := fun j hj => hm15.lt j hj
    refine ⟨?_, ?_, fun r hr => ?_, ?_, fun j hj => ?_, ?_⟩
    · rw [get_set_ne (fun e => hnd.1.1 e), get_new_lt (by rw [next_bump]; omega), get_bump, hm15.base]
      have : ((n.toNat : Nat) : Int) = n := by omega
      simp [Sm.base, Sm.mk', this]
    · show Heap.get _ S.mp = _
      rw [get_set_self]
      simp [putMap, Sm.mk', Reg.ent, AS.ent]
    · simp only [Sm.mk', List.mem_append, List.mem_singleton] at hr
      rcases hr with hr | rfl
      · have hb : r.b < H15.next := old _ (by simp only [Sm.foot, List.mem_cons, List.mem_map]; exact .inr (.inr ⟨r, hr, rfl⟩))
        rw [get_set_ne (fun e => hnd.2.1 r hr e), get_new_lt (by rw [next_bump]; omega), get_bump, hm15.rows r hr]
      · show Heap.get _ (H15.bump 11).next = _
        rw [get_set_ne (by rw [next_bump]; omega), get_new_self, reps_one]
        simp [Reg.cells]
    · rw [hfoot]
      refine List.nodup_append.2 ⟨hm.nodup, by simp, ?_⟩
      intro a ha b hb
      simp only [List.mem_singleton] at hb
      subst hb
      have := old a ha
      rw [next_bump]; omega
    · rw [hfoot] at hj
      simp only [List.mem_append, List.mem_singleton] at hj
      rw [next_set, next_new]
      rcases hj with hj | rfl
      · have := old j hj; rw [next_bump]; omega
      · omega
    · simp only [Sm.mk', List.map_append, List.map_cons, List.map_nil]
      refine List.nodup_append.2 ⟨hm.keys, by simp, ?_⟩
      intro a ha b hb
      simp only [List.mem_singleton] at hb
      subst hb
      obtain ⟨r, hr, rfl⟩ := List.mem_map.1 ha
      exact find_none hf r hr
  refine ⟨⟨wr (S.made + 1), ?_, ?_⟩, ⟨⟨_, by rw [cell_bump]; exact c1, rfl⟩, ⟨_, by rw [cn]; exact c1, rfl⟩, trivial⟩, ⟨⟨_, by rw [cell_bump]; exact c0, rfl⟩, ⟨_, by rw [cn]; exact c0, rfl⟩, trivial⟩, trivial⟩
  · rw [cell_of hnew.base]; rfl
  · refine hR _ _ ?_ hnew ?_
    · rw [next_bump]; have := fr15.1; omega
    · exact (((fr15.mono (by simp [Sm.foot])).bump 11).new _).set _ (by simp [Sm.foot])
end Go.Proofs.Ytlkmdcncpdadbaa
