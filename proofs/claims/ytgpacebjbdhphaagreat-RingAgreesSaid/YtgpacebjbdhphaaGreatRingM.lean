/-
  Written by merge.py: Ring RingPure RingOps RingRun RingAlone RingMade
-/
import Derived.Test.YtgpacebjbdhphaaGreatLock
import Derived.Test.YtgpacebjbdhphaaGreatAs48
import Derived.Test.YtgpacebjbdhphaaGreatVcRg
import Derived.Tactics
import Derived.Test.YtgpacebjbdhphaaGreatDeclM
/-
  Rings: what the steps of their runs do, in a memory of one region.
-/
namespace Go.Proofs.YtgpacebjbdhphaaGreat
open Go Go.AS Go.RowKit
set_option linter.unusedVariables false
variable {H H' : Heap} {m x r b : Nat} {S S' : Sm} {R : Value → Heap → Prop} {L : List Asr} {ws : List (BitVec 64)} {c kd en' wd : Int}

/-- A ring. -/
abbrev xG (m x : Nat) (kd en' wd : Int) : Asr := bx x (.cells true 0 [P m, I kd, I en', I wd, I 0, I 0, I 1])
/-- A run: the operation, the way to the lock, what is to be done, the result, how far it is. -/
structure Rq where
  kind : Int
  key : Int
  ov : Option Nat
  ol : Nat
  fl : Int
  el : Int
  tk : Value
  ta : Option Addr
  tl : Nat
  no : Int
  rv : Option Nat
  rl : Nat
  rk : Int
  re : Int
  has : Bool
  done : Bool
  first : Int
  n : Int
abbrev Rq.cells (x : Nat) (q : Rq) : List Value := [P x, I q.kind, .int .u64 q.key, .slice (addr q.ov) q.ol 0, I q.fl, I q.el, q.tk, .slice q.ta q.tl 0, I q.no, .slice (addr q.rv) q.rl 0, .int .u64 q.rk, I q.re, .bool q.has, .bool q.done, I q.first, I q.n]
abbrev rG (r x : Nat) (q : Rq) : Asr := bx r (.cells true 0 (q.cells x))
variable {q : Rq}

theorem rgload_s (h : Sep H (rG r x q :: xG m x kd en' wd :: mem m S :: L)) (o : One S ws c) (hc : c < 4611686018427387904) {i : Nat} (hi : i < ws.length)
    (hR : ∀ H' S', One S' ws (c + 1) → Sep H' (rG r x q :: xG m x kd en' wd :: mem m S' :: L) → R (I (IntKind.i64.wrap ((ws.getD i 0).toNat : Int))) H') : CA en F.ring_Run_load [P r, I i] H R := by
  apply vc_ring_Run_load
  have hB := h.bump 21
  refine asAddr_in ⟨_, Sep.ld0 hB rfl, asAddr_in ⟨_, Sep.ld1 hB rfl, asAddr_in ⟨_, Sep.ld0 hB rfl, asAddr_in ⟨_, Sep.ld1 hB rfl, ?_⟩⟩⟩⟩
  exact load1_s (Sep.up2 hB) o hc hi fun H' S' o' h' => ⟨_, _, rfl, hR H' S' o' (Sep.pick h' 3 [1, 2, 0] (by decide)), trivial⟩

theorem rgcounts_s (h : Sep H (rG r x q :: xG m x kd en' wd :: mem m S :: L)) (o : One S ws c) (hc : c < 4611686018427387904) (hi : 3 < ws.length)
    (hR : ∀ H' S', One S' ws (c + 1) → Sep H' (rG r x { q with n := IntKind.i64.wrap ((ws.getD 3 0).toNat : Int) } :: xG m x kd en' wd :: mem m S' :: L) → R undef H') : CA en F.ring_Run_counts [P r] H R := by
  apply vc_ring_Run_counts
  exact rgload_s (i := 3) h o hc hi fun H' S' o' h' => ⟨_, rfl, asAddr_in (Sep.st0 h' (Nat.le_of_ble_eq_true rfl) fun H6 h6 => hR H6 S' o' h6)⟩

theorem rgat_s {i : Int} (h : Sep H (rG r x q :: xG m x kd en' wd :: L)) (hn : en' ≠ 0)
    (hR : ∀ H', Sep H' (rG r x q :: xG m x kd en' wd :: L) → R (I (IntKind.i64.wrap (4 + IntKind.i64.wrap (Int.tmod (IntKind.i64.wrap (q.first + i)) en' * wd)))) H') : CA en F.ring_Run_at [P r, I i] H R := by
  apply vc_ring_Run_at
  have hB := h.bump 26
  exact asAddr_in ⟨_, Sep.ld0 hB rfl, asAddr_in ⟨_, Sep.ld0 hB rfl, asAddr_in ⟨_, Sep.ld1 hB rfl, (by unfold nz; exact hn), asAddr_in ⟨_, Sep.ld0 hB rfl, asAddr_in ⟨_, Sep.ld1 hB rfl, hR _ hB, trivial⟩⟩⟩⟩⟩

/-! ### What is to be done: closures -/
/-- An append behind a slice that begins within its block. -/
theorem apd_off {es tb len n bytes : Nat} {pre cs new : List Value} {K : Option Addr → Nat → Heap → Prop} (h : Sep H (bx tb (.cells true es (pre ++ cs)) :: L)) (hes : 0 < es) (hlen : cs.length = len * es) (hn : 0 < n) (hnew : new.length = n * es) (hby : (len + n) * bytes ≤ 140737488355328)
    (k : ∀ H' q, Sep H' (bx q (.cells true es (cs ++ new)) :: L) → K (some ⟨q, 0, none⟩) (len + n) H') : apd H bytes es (some ⟨tb, pre.length, none⟩) len n new K := by
  refine apd_grow (old := cs) (Sep.get0 h) hn ?_ ?_ hby fun j H2 ej e2 => ?_
  · rw [List.length_append, hlen, Nat.add_mul]
    have : 0 < n * es := Nat.mul_pos hn hes
    omega
  · rw [← hlen]; simp [takeAt]
  · refine k H2 j ?_
    have h2 := (Sep.put0 h .dead).new (.cells true es (cs ++ new))
    rw [← e2, next_set, ← ej] at h2
    exact Sep.rm1 h2

theorem rgdrop_s {g : Nat} (h : Sep H (bx g (.cells true 0 [P r]) :: rG r x q :: xG m x kd en' wd :: mem m S :: L)) (o : One S ws c) (hc : c < 4611686018427387904) (hi : 1 < ws.length) (hw : ws.length ≤ 65536)
    (hR : ∀ H' S', One S' (ws.set 1 (ws.getD 1 0 + 1)) (c + 1) → Sep H' (bx g (.cells true 0 [P r]) :: rG r x q :: xG m x kd en' wd :: mem m S' :: L) → R undef H') : CA en F.ring_Run_looks_1 [P g] H R := by
  apply vc_ring_Run_looks_1
  have hB := h.bump 15
  refine asAddr_in ⟨_, Sep.ld0 hB rfl, asAddr_in ⟨_, Sep.ld1 hB rfl, asAddr_in ⟨_, Sep.ld2 hB rfl, asAddr_in ⟨_, Sep.ld0 hB rfl, asAddr_in ⟨_, Sep.ld1 hB rfl, asAddr_in ⟨_, Sep.ld2 hB rfl, ?_⟩⟩⟩⟩⟩⟩
  exact drop_s (i := 0) (Sep.up3 hB) o hc hi hw fun H' S' o' h' => ⟨_, rfl, hR H' S' o' (Sep.pick h' 4 [1, 2, 3, 0] (by decide)), trivial⟩

theorem rgfail_s {g1 g2 : Nat} {e : Int} (h : Sep H (bx g1 (.cells true 0 [I e]) :: bx g2 (.cells true 0 [P r]) :: rG r x q :: L))
    (hR : ∀ H', Sep H' (bx g1 (.cells true 0 [I e]) :: bx g2 (.cells true 0 [P r]) :: rG r x { q with no := e } :: L) → R undef H') : CA en F.ring_Run_fails_1 [P g1, P g2] H R := by
  apply vc_ring_Run_fails_1
  exact asAddr_in ⟨_, Sep.ld1 h rfl, asAddr_in ⟨_, Sep.ld0 h rfl, asAddr_in (Sep.st2 h (Nat.le_of_ble_eq_true rfl) fun H' h' => hR H' h')⟩⟩

theorem rgset_s {g1 g2 g3 i : Nat} {v : Int} (h : Sep H (bx g1 (.cells true 0 [P r]) :: bx g2 (.cells true 0 [I i]) :: bx g3 (.cells true 0 [I v]) :: rG r x q :: xG m x kd en' wd :: mem m S :: L)) (o : One S ws c) (hc : c < 4611686018427387904) (hi : i < ws.length)
    (hR : ∀ H' S', One S' (ws.set i (BitVec.ofInt 64 v)) (c + 1) → Sep H' (bx g1 (.cells true 0 [P r]) :: bx g2 (.cells true 0 [I i]) :: bx g3 (.cells true 0 [I v]) :: rG r x q :: xG m x kd en' wd :: mem m S' :: L) → R undef H') : CA en F.ring_Run_sets_1 [P g1, P g2, P g3] H R := by
  apply vc_ring_Run_sets_1
  have hB := h.bump 18
  refine asAddr_in ⟨_, Sep.ld0 hB rfl, asAddr_in ⟨_, Sep.ld3 hB rfl, asAddr_in ⟨_, Sep.ld4 hB rfl, asAddr_in ⟨_, Sep.ld0 hB rfl, asAddr_in ⟨_, Sep.ld3 hB rfl, asAddr_in ⟨_, Sep.ld4 hB rfl, asAddr_in ⟨_, Sep.ld1 hB rfl, asAddr_in ⟨_, Sep.ld2 hB rfl, ?_⟩⟩⟩⟩⟩⟩⟩⟩
  rw [wrap_u64]
  exact store1_s (Sep.up5 hB) o hc hi fun H' S' o' h' => ⟨_, rfl, hR H' S' o' (Sep.pick h' 6 [1, 2, 3, 4, 5, 0] (by decide)), trivial⟩

theorem rgput_s {g1 g2 g3 g4 i j : Nat} {v : BitVec 64} (h : Sep H (bx g1 (.cells true 0 [P r]) :: bx g2 (.cells true 0 [I i]) :: bx g3 (.cells true 0 [I j]) :: bx g4 (.cells true 0 [W v]) :: rG r x q :: xG m x kd en' wd :: mem m S :: L)) (o : One S ws c) (hc : c < 4611686018427387904) (hi : i + j < ws.length) (hw : ws.length ≤ 65536)
    (hR : ∀ H' S', One S' (ws.set (i + j) v) (c + 1) → Sep H' (bx g1 (.cells true 0 [P r]) :: bx g2 (.cells true 0 [I i]) :: bx g3 (.cells true 0 [I j]) :: bx g4 (.cells true 0 [W v]) :: rG r x q :: xG m x kd en' wd :: mem m S' :: L) → R undef H') : CA en F.ring_Run_push_1 [P g1, P g2, P g3, P g4] H R := by
  apply vc_ring_Run_push_1
  have hB := h.bump 19
  refine asAddr_in ⟨_, Sep.ld0 hB rfl, asAddr_in ⟨_, Sep.ld4 hB rfl, asAddr_in ⟨_, Sep.ld5 hB rfl, asAddr_in ⟨_, Sep.ld0 hB rfl, asAddr_in ⟨_, Sep.ld4 hB rfl, asAddr_in ⟨_, Sep.ld5 hB rfl, asAddr_in ⟨_, Sep.ld1 hB rfl, asAddr_in ⟨_, Sep.ld2 hB rfl, asAddr_in ⟨_, Sep.ld3 hB rfl, ?_⟩⟩⟩⟩⟩⟩⟩⟩⟩
  have e : IntKind.i64.wrap ((i : Int) + (j : Int)) = ((i + j : Nat) : Int) := by rw [wrap_i64 (by omega)]; omega
  rw [e]
  exact store1_s (Sep.up6 hB) o hc hi fun H' S' o' h' => ⟨_, rfl, hR H' S' o' (Sep.pick h' 7 [1, 2, 3, 4, 5, 6, 0] (by decide)), trivial⟩
abbrev wdR (ws : List (BitVec 64)) : List Value := ws.map W
theorem rgget_s {g1 g2 g3 i j : Nat} {vs : List (BitVec 64)} (h : Sep H (bx g1 (.cells true 0 [P r]) :: bx g2 (.cells true 0 [I i]) :: bx g3 (.cells true 0 [I j]) :: rG r x q :: gl 1 q.rv (wdR vs) :: xG m x kd en' wd :: mem m S :: L)) (hv : q.rl = vs.length) (hvn : q.rv = none → vs = []) (hvl : vs.length < 100000) (o : One S ws c) (hc : c < 4611686018427387904) (hi : i + j < ws.length) (hw : ws.length ≤ 65536)
    (hR : ∀ H' S' v, One S' ws (c + 1) → Sep H' (bx g1 (.cells true 0 [P r]) :: bx g2 (.cells true 0 [I i]) :: bx g3 (.cells true 0 [I j]) :: rG r x { q with rv := some v, rl := vs.length + 1 } :: gl 1 (some v) (wdR (vs ++ [ws.getD (i + j) 0])) :: xG m x kd en' wd :: mem m S' :: L) → R undef H') : CA en F.ring_Run_pull_1 [P g1, P g2, P g3] H R := by
  apply vc_ring_Run_pull_1
  have hB := h.bump 23
  refine asAddr_in ⟨_, Sep.ld0 hB rfl, asAddr_in ⟨_, Sep.ld3 hB rfl, asAddr_in ⟨_, Sep.ld5 hB rfl, asAddr_in ⟨_, Sep.ld0 hB rfl, asAddr_in ⟨_, Sep.ld3 hB rfl, asAddr_in ⟨_, Sep.ld5 hB rfl, asAddr_in ⟨_, Sep.ld1 hB rfl, asAddr_in ⟨_, Sep.ld2 hB rfl, ?_⟩⟩⟩⟩⟩⟩⟩⟩
  have e : IntKind.i64.wrap ((i : Int) + (j : Int)) = ((i + j : Nat) : Int) := by rw [wrap_i64 (by omega)]; omega
  rw [e]
  refine load1_s (Sep.up6 hB) o hc hi fun H2 S2 o2 h2 => ⟨_, _, rfl, ⟨?_, trivial⟩⟩
  have h3 : Sep H2 (bx g1 (.cells true 0 [P r]) :: bx g2 (.cells true 0 [I i]) :: bx g3 (.cells true 0 [I j]) :: rG r x q :: gl 1 q.rv (wdR vs) :: xG m x kd en' wd :: mem m S2 :: L) := Sep.pick h2 7 [1, 2, 3, 4, 5, 6, 0] (by decide)
  have h4 := h3.bump 13
  refine asAddr_in ⟨_, Sep.ld0 h4 rfl, asAddr_in ⟨_, Sep.ld0 h4 rfl, asAddr_in ⟨_, _, Sep.ld3 h4 rfl, Sep.nw h4 fun i5 H6 h6 => ⟨[W (ws.getD (i + j) 0)], rowOf_bx (es := 1) (n := 1) (b := i5) (Sep.get0 h6) (by decide) rfl, ?_⟩⟩⟩⟩
  refine apd_gl (b := q.rv) (cs := wdR vs) (new := [W (ws.getD (i + j) 0)]) (Sep.up5 h6) (fun e => by rw [hvn e]; rfl) (by decide) (by rw [hv]; simp) (by decide) rfl (by omega) fun H7 v h7 => ?_
  -- v i5 g1 g2 g3 r x mem
  refine asAddr_in (Sep.st5 h7 (Nat.le_of_ble_eq_true rfl) fun H8 h8 => ?_)
  refine ⟨hR H8 S2 v o2 ?_, ⟨⟨_, _, Sep.ld3 h4 rfl, rfl, rfl, rfl⟩, ⟨_, _, Sep.ld4 h6 rfl, rfl, rfl, rfl⟩, trivial⟩, ⟨asAddr_in ⟨_, Sep.ld0 h4 rfl, rfl⟩, asAddr_in ⟨_, Sep.ld1 h6 rfl, rfl⟩, trivial⟩, ⟨asAddr_in ⟨_, Sep.ld0 h4 rfl, rfl⟩, asAddr_in ⟨_, Sep.ld1 h6 rfl, rfl⟩, asAddr_in ⟨_, Sep.ld2 h7 rfl, rfl⟩, trivial⟩, trivial⟩
  have ew : wdR (vs ++ [ws.getD (i + j) 0]) = wdR vs ++ [W (ws.getD (i + j) 0)] := by simp
  rw [ew, ← hv]
  exact Sep.pick h8 8 [2, 3, 4, 5, 0, 6, 7] (by decide)

/-! ### Steps laid behind those that are known -/
theorem plan_s {nb tb n : Nat} {pre cs new : List Value} (h : Sep H (bx nb (.cells true 2 new) :: rG r x q :: bx tb (.cells true 2 (pre ++ cs)) :: L)) (hta : q.ta = some ⟨tb, pre.length, none⟩) (hcs : cs.length = q.tl * 2) (hn : 0 < n) (hnew : new.length = n * 2) (hb : q.tl + n < 100000)
    (hR : ∀ H' t', Sep H' (bx nb (.cells true 2 new) :: rG r x { q with ta := some ⟨t', 0, none⟩, tl := q.tl + n } :: bx t' (.cells true 2 (cs ++ new)) :: L) → R undef H') : CA en F.ring_Run_plan [P r, .slice (some ⟨nb, 0, none⟩) n 0] H R := by
  apply vc_ring_Run_plan
  refine asAddr_in ⟨_, _, Sep.ld1 h rfl, new, rowOf_bx (es := 2) (n := n) (b := nb) (Sep.get0 h) (by omega) (by rw [← hnew]; exact takeAt_all' _), ?_⟩
  rw [hta]
  refine apd_off (Sep.up2 h) (by decide) hcs hn hnew (by omega) fun H7 t' h7 => ?_
  exact asAddr_in (Sep.st2 h7 (Nat.le_of_ble_eq_true rfl) fun H8 h8 => hR H8 t' (Sep.pick h8 3 [1, 2, 0] (by decide)))
theorem plan0_s {nb n : Nat} {new : List Value} (h : Sep H (bx nb (.cells true 2 new) :: rG r x q :: L)) (hta : q.ta = none) (htl : q.tl = 0) (hn : 0 < n) (hnew : new.length = n * 2) (hb : n < 100000)
    (hR : ∀ H' t', Sep H' (bx nb (.cells true 2 new) :: rG r x { q with ta := some ⟨t', 0, none⟩, tl := n } :: bx t' (.cells true 2 new) :: L) → R undef H') : CA en F.ring_Run_plan [P r, .slice (some ⟨nb, 0, none⟩) n 0] H R := by
  apply vc_ring_Run_plan
  refine asAddr_in ⟨_, _, Sep.ld1 h rfl, new, rowOf_bx (es := 2) (n := n) (b := nb) (Sep.get0 h) (by omega) (by rw [← hnew]; exact takeAt_all' _), ?_⟩
  rw [hta, htl]
  refine apd_first hn (by omega) fun t' H7 ej e2 => ?_
  have h7 := h.new (.cells true 2 new)
  rw [← e2, ← ej] at h7
  exact asAddr_in (Sep.st2 h7 (Nat.le_of_ble_eq_true rfl) fun H8 h8 => hR H8 t' (Sep.pick h8 3 [1, 2, 0] (by decide)))

abbrev cl3 (f g1 g2 g3 : Nat) : Value := .func (.func f) #[] #[P g1, P g2, P g3]
theorem sets_s {i : Nat} {v : Int} (h : Sep H L)
    (hR : ∀ H' g1 g2 g3, Sep H' (bx g1 (.cells true 0 [P r]) :: bx g2 (.cells true 0 [I i]) :: bx g3 (.cells true 0 [I v]) :: L) → R (.agg #[cl3 F.ring_Run_sets_1 g1 g2 g3, .bool false]) H') : CA en F.ring_Run_sets [P r, I i, I v] H R := by
  apply vc_ring_Run_sets
  refine Sep.nw h fun g1 H2 h2 => Sep.nw h2 fun g2 H4 h4 => Sep.nw h4 fun g3 H6 h6 => Sep.nw h6 fun i7 H8 h8 => Sep.st0 h8 (Nat.le_of_ble_eq_true rfl) fun H9 h9 => .inr ⟨_, _, _, _, Sep.lds0 h9 rfl, hR H9 g1 g2 g3 (Sep.pick h9 4 [3, 2, 1] (by decide))⟩
theorem fails_s {e : Int} (h : Sep H L)
    (hR : ∀ H' g1 g2, Sep H' (bx g1 (.cells true 0 [I e]) :: bx g2 (.cells true 0 [P r]) :: L) → R (.agg #[.func (.func F.ring_Run_fails_1) #[] #[P g1, P g2], .bool true]) H') : CA en F.ring_Run_fails [P r, I e] H R := by
  apply vc_ring_Run_fails
  refine Sep.nw h fun g2 H2 h2 => Sep.nw h2 fun g1 H4 h4 => Sep.nw h4 fun i5 H6 h6 => Sep.st0 h6 (Nat.le_of_ble_eq_true rfl) fun H7 h7 => .inr ⟨_, _, _, _, Sep.lds0 h7 rfl, hR H7 g1 g2 (Sep.pick h7 3 [1, 2] (by decide))⟩
/-! ### A step -/
theorem stepOver_s (h : Sep H (rG r x q :: L)) (hd : q.done = true) (hR : R (.tuple #[.bool false, .bool true]) H) : CA en F.ring_Run_Step [P r] H R := by
  apply vc_ring_Run_Step
  refine asAddr_in ⟨_, Sep.ld0 h rfl, ?_⟩
  rw [hd]
  exact cond_yes rfl hR
theorem stepWait_s {t : Nat} (h : Sep H (rG r x q :: L)) (hd : q.done = false) (hh : q.has = false) (ht : q.tk = P t)
    (hC : CA en F.lock_Taker_Step [P t] H fun v H' => v = .bool false ∧ ∃ L', Sep H' (rG r x q :: L') ∧ ∀ H2, Sep H2 (rG r x q :: L') → R (.tuple #[.bool false, .bool false]) H2) : CA en F.ring_Run_Step [P r] H R := by
  apply vc_ring_Run_Step
  refine asAddr_in ⟨_, Sep.ld0 h rfl, ?_⟩
  rw [hd]
  refine cond_no rfl (asAddr_in ⟨_, Sep.ld0 h rfl, ?_⟩)
  rw [hh]
  refine cond_yes rfl (asAddr_in ⟨_, Sep.ld0 h (congrArg some ht), ?_⟩)
  refine CA.mono hC fun v H' ⟨e, L', h', hR⟩ => ⟨_, e, asAddr_in (Sep.st0 h' (Nat.le_of_ble_eq_true rfl) fun H3 h3 => asAddr_in ⟨_, Sep.ld0 h3 rfl, cond_no rfl (hR H3 ?_)⟩)⟩
  have e2 : (q.cells x) = ({ q with has := false } : Rq).cells x := by rw [← hh]
  rw [show rG r x q = bx r (.cells true 0 (({ q with has := false } : Rq).cells x)) by rw [← e2]]
  exact h3
theorem stepDo_s {tb n : Nat} {f : FuncId} {l cc : List Value} {e : Bool} {pre rest : List Value} (h : Sep H (rG r x q :: bx tb (.cells true 2 (pre ++ (.func (.func f) ⟨l⟩ ⟨cc⟩ :: .bool e :: rest))) :: L)) (hd : q.done = false) (hh : q.has = true) (hta : q.ta = some ⟨tb, pre.length, none⟩) (htl : q.tl = n + 1) (hf : (en.fn f).isSome = true)
    (hC : ∀ H' g, Sep H' (bx g (.cells true 0 [.func (.func f) ⟨l⟩ ⟨cc⟩, .bool e]) :: rG r x { q with ta := some ⟨tb, pre.length + 2, none⟩, tl := n } :: bx tb (.cells true 2 (pre ++ (.func (.func f) ⟨l⟩ ⟨cc⟩ :: .bool e :: rest))) :: L) →
      CA en f (l ++ [] ++ cc) H' fun v H2 => v = undef ∧ ∃ q' L', q'.done = false ∧ Sep H2 (bx g (.cells true 0 [.func (.func f) ⟨l⟩ ⟨cc⟩, .bool e]) :: rG r x q' :: L') ∧
        (q'.tl = 0 → ∀ H3, Sep H3 (rG r x { q' with done := true } :: L') → R (.tuple #[.bool e, .bool true]) H3) ∧ (q'.tl ≠ 0 → ∀ H3, Sep H3 (rG r x q' :: L') → R (.tuple #[.bool e, .bool false]) H3)) :
    CA en F.ring_Run_Step [P r] H R := by
  apply vc_ring_Run_Step
  refine asAddr_in ⟨_, Sep.ld0 h rfl, ?_⟩
  rw [hd]
  refine cond_no rfl (asAddr_in ⟨_, Sep.ld0 h rfl, ?_⟩)
  rw [hh]
  refine cond_no rfl (asAddr_in ⟨_, _, Sep.ld0 h rfl, ?_⟩)
  rw [hta]
  refine ⟨by unfold inB; omega, asRow_in (.inr ⟨f, l, cc, e, ?_, ?_⟩)⟩
  · refine Sep.lds1 h ?_
    simp [takeAt]
  refine Sep.nw h fun g H2 h2 => Sep.st0 h2 (Nat.le_of_ble_eq_true rfl) fun H3 h3 => asAddr_in ⟨_, _, Sep.ld1 h3 rfl, ⟨by omega, by omega⟩, ?_⟩
  rw [hta]
  refine ⟨⟨_, _, _, Sep.get2 h3, .inr rfl⟩, ?_⟩
  refine asAddr_in (Sep.st1 h3 (Nat.le_of_ble_eq_true rfl) fun H4 h4 => ⟨_, Sep.ld0 h4 rfl, asFn_in ⟨Option.isSome_iff_exists.1 hf, ?_⟩⟩)
  have e1 : q.tl - 1 = n := by omega
  rw [e1] at h4
  refine CA.mono (hC H4 g h4) fun v H5 ⟨ev, q', L', hd', h5, k1, k2⟩ => ⟨ev, asAddr_in ⟨_, _, Sep.ld1 h5 rfl, cond_of (fun z => ?_) fun z => ?_⟩⟩
  · have z : q'.tl = 0 := by simpa using z
    refine asAddr_in (Sep.st1 h5 (Nat.le_of_ble_eq_true rfl) fun H6 h6 => ?_)
    have hB := h6.bump 8
    exact ⟨_, Sep.ld0 hB rfl, asAddr_in ⟨_, Sep.ld1 hB rfl, k1 z _ hB.tail, trivial⟩⟩
  · have z : q'.tl ≠ 0 := by simpa using z
    have hB := h5.bump 8
    refine ⟨_, Sep.ld0 hB rfl, asAddr_in ⟨_, Sep.ld1 hB rfl, ?_, trivial⟩⟩
    rw [hd']
    exact k2 z _ hB.tail
/-! ### Its words' copy, a run's beginning and its result -/
theorem clone_s {ov : Option Nat} {vs : List (BitVec 64)} (h : Sep H (gl 1 ov (wdR vs) :: L)) (hn : ov = none → vs = []) (hv : vs.length < 100000)
    (hR : ∀ H' o', (o' = none → vs = []) → Sep H' (gl 1 o' (wdR vs) :: gl 1 ov (wdR vs) :: L) → R (.slice (addr o') vs.length 0) H') : CA en F.slices_Clone_uint64_uint64 [.slice (addr ov) vs.length 0] H R := by
  apply vc_slices_Clone_uint64_uint64
  cases ov with
  | none =>
    have e := hn rfl
    subst e
    exact cond_yes rfl (hR H none (fun _ => rfl) (gl_none.2 h))
  | some g =>
    refine cond_no rfl (Sep.nw h fun i1 H2 h2 => ⟨wdR vs, ?_, ?_⟩)
    · by_cases h0 : vs.length = 0
      · have e := List.eq_nil_of_length_eq_zero h0
        subst e; rfl
      · refine rowOf_bx (gl_get (Sep.up1 h2)) (by omega) ?_
        have : (wdR vs).length = vs.length * 1 := by simp
        rw [← this]; exact takeAt_all' _
    · by_cases h0 : vs.length = 0
      · have e := List.eq_nil_of_length_eq_zero h0
        subst e
        exact .inl ⟨rfl, hR H2 (some i1) (fun _ => rfl) (gl_some.2 h2)⟩
      · refine apd_gl (b := some i1) (cs := []) (new := wdR vs) (gl_some.2 h2) (fun e => by cases e) (by decide) rfl (by omega) (by simp) (by omega) fun H6 o' h6 => ?_
        rw [Nat.zero_add, List.nil_append] at *
        exact hR H6 (some o') (fun e => by cases e) h6

theorem rgres_s {vs : List (BitVec 64)} (h : Sep H (rG r x q :: gl 1 q.rv (wdR vs) :: L)) (hl : q.rl = vs.length) (hn : q.rv = none → vs = []) (hv : vs.length < 100000)
    (hR : ∀ H' o', (o' = none → vs = []) → Sep H' (gl 1 o' (wdR vs) :: rG r x q :: gl 1 q.rv (wdR vs) :: L) → R (.agg #[I q.no, .slice (addr o') vs.length 0, .int .u64 q.rk, I q.re]) H') : CA en F.ring_Run_Result [P r] H R := by
  apply vc_ring_Run_Result
  refine Sep.nw h fun i1 H2 h2 => asAddr_in ⟨_, _, _, _, _, Sep.lds1 h2 rfl, Sep.nw h2 fun i10 H11 h11 => Sep.st0 h11 (Nat.le_of_ble_eq_true rfl) fun H12 h12 => asAddr_in ⟨_, _, Sep.ld2 h12 rfl, ?_⟩⟩
  rw [hl]
  refine clone_s (Sep.up3 h12) hn hv fun H18 o' ho h18 => ⟨_, _, rfl, ?_⟩
  -- o' rv i10 i1 r
  refine Sep.st2 h18 (Nat.le_of_ble_eq_true rfl) fun H21 h21 => ⟨_, _, _, _, _, Sep.lds2 h21 rfl, ?_⟩
  refine Sep.st3 h21 (Nat.le_of_ble_eq_true rfl) fun H27 h27 => ⟨_, _, _, _, _, Sep.lds3 h27 rfl, ?_⟩
  exact hR H27 o' ho (Sep.pick h27 5 [0, 4, 1] (by decide))
theorem sameOp (a b c d : Int) (p : Option Addr) (l : Nat) : sameN 8 (.agg #[.int .i64 a, .int .u64 b, .slice p l 0, .int .i64 c, .int .i64 d]) (.agg #[.int .i64 a, .int .u64 b, .slice p l 0, .int .i64 c, .int .i64 d]) = true := by simp [sameN, sameN.sameL]
theorem rgbegin_s {ov : Option Nat} {vs : List (BitVec 64)} {kind key fl el : Int} (h : Sep H (gl 1 ov (wdR vs) :: xG m x kd en' wd :: L)) (hn : ov = none → vs = []) (hv : vs.length < 100000)
    (hR : ∀ H' r b o', (o' = none → vs = []) → Sep H' (rG r x ⟨kind, key, o', vs.length, fl, el, P b, none, 0, 0, none, 0, 0, 0, false, false, 0, 0⟩ :: gl 1 o' (wdR vs) :: tk m 0 0 F.lock_Taker_draw b :: gl 1 ov (wdR vs) :: xG m x kd en' wd :: L) → R (P r) H') :
    CA en F.ring_Map_Begin [P x, .agg #[I kind, .int .u64 key, .slice (addr ov) vs.length 0, I fl, I el]] H R := by
  apply vc_ring_Map_Begin
  refine Sep.nw h fun i1 H2 h2 => ⟨_, _, Sep.ld0 h2 rfl, ?_⟩
  refine clone_s (Sep.up1 h2) hn hv fun H6 o' ho h6 => ⟨_, _, rfl, ?_⟩
  -- o' ov i1 x
  refine Sep.st2 h6 (Nat.le_of_ble_eq_true rfl) fun H9 h9 => ?_
  have hB := h9.bump 14
  refine ⟨_, _, _, _, _, _, Sep.lds2 hB rfl, asAddr_in ⟨_, Sep.ld3 hB rfl, asAddr_in ⟨_, Sep.ld3 hB rfl, ?_⟩⟩⟩
  refine take_s (i := 0) hB fun H23 b h23 => ⟨_, rfl, Sep.nw h23 fun r H26 h26 => ⟨hR H26 r b o' ho ?_, ⟨⟨_, _, _, _, _, _, Sep.lds2 hB rfl, sameOp _ _ _ _ _ _⟩, ⟨_, _, _, _, _, _, Sep.lds3 h23 rfl, sameOp _ _ _ _ _ _⟩, trivial⟩, trivial⟩⟩
  -- r tk o' ov i1 x
  exact Sep.pick h26 6 [0, 2, 1, 3, 5] (by decide)
abbrev fnR (f r : Nat) : Value := .func (.func f) #[P r] #[]
theorem stepGot_s {t : Nat} (h : Sep H (rG r x q :: L)) (hd : q.done = false) (hh : q.has = false) (ht : q.tk = P t) (hta : q.ta = none) (htl : q.tl = 0)
    (hC : CA en F.lock_Taker_Step [P t] H fun v H' => v = .bool true ∧ ∃ L', Sep H' (rG r x q :: L') ∧ ∀ H2 t', Sep H2 (rG r x { q with has := true, ta := some ⟨t', 0, none⟩, tl := 2 } :: bx t' (.cells true 2 [fnR F.ring_Run_counts r, .bool false, fnR F.ring_Run_looks r, .bool false]) :: L') → R (.tuple #[.bool false, .bool false]) H2) : CA en F.ring_Run_Step [P r] H R := by
  apply vc_ring_Run_Step
  refine asAddr_in ⟨_, Sep.ld0 h rfl, ?_⟩
  rw [hd]
  refine cond_no rfl (asAddr_in ⟨_, Sep.ld0 h rfl, ?_⟩)
  rw [hh]
  refine cond_yes rfl (asAddr_in ⟨_, Sep.ld0 h (congrArg some ht), ?_⟩)
  refine CA.mono hC fun v H' ⟨e, L', h', hR⟩ => ⟨_, e, asAddr_in (Sep.st0 h' (Nat.le_of_ble_eq_true rfl) fun H3 h3 => asAddr_in ⟨_, Sep.ld0 h3 rfl, cond_yes rfl ?_⟩)⟩
  have h3 : Sep H3 (rG r x { q with has := true } :: L') := h3
  refine Sep.nw h3 fun nb H4 h4 => ?_
  refine plan0_s (n := 2) h4 hta htl (by decide) rfl (by decide) fun H5 t' h5 => ⟨rfl, hR H5 t' h5.tail⟩
end Go.Proofs.YtgpacebjbdhphaaGreat

/-
  Rings without a program: what the steps of a run do with the words, and that these are then the values one after the other.
-/
namespace Go.Proofs.YtgpacebjbdhphaaGreat
set_option linter.unusedVariables false

/-- What is to be done. -/
inductive Td where
  | counts
  | looks
  | set (i v : Nat)
  | put (i j : Nat) (v : BitVec 64) (b : Bool)
  | get (i j : Nat) (b : Bool)
  | fail (e : Int)
  | drop

abbrev Ws := List (BitVec 64)

def Td.ws : Td → Ws → Ws
  | .set i v, ws => ws.set i (BitVec.ofNat 64 v)
  | .put i j v _, ws => ws.set (i + j) v
  | .drop, ws => ws.set 1 (ws.getD 1 0 + 1)
  | _, ws => ws
def Td.eff : Td → Bool
  | .put _ _ _ b => b
  | .get _ _ b => b
  | .fail _ => true
  | _ => false
def Td.no : Td → Int → Int
  | .fail e, _ => e
  | _, n => n
def Td.vs : Td → Ws → Ws → Ws
  | .get i j _, ws, vs => vs ++ [ws.getD (i + j) 0]
  | _, _, vs => vs

/-- All of them. -/
def runTds : List Td → Ws → Ws
  | [], ws => ws
  | t :: l, ws => runTds l (t.ws ws)

structure Cf where
  stack : Bool
  en : Nat
  wd : Nat

def atN (cf : Cf) (e i : Nat) : Nat := 4 + (e + i) % cf.en * cf.wd
def putsL (a : Nat) (vs : Ws) : List Td := (List.range vs.length).map fun i => .put a i (vs.getD i 0) (decide (i + 1 = vs.length))
def getsL (a n : Nat) : List Td := (List.range n).map fun i => .get a i (decide (i + 1 = n))

/-- What a run finds that it has to do. -/
def looksT (cf : Cf) (kind flag : Int) (val : Ws) (e k : Nat) : List Td :=
  if kind = 6 then
    if k = cf.en ∧ flag = 0 then [.fail 4, .drop]
    else (if k = cf.en then Td.set 2 ((e + 1) % cf.en) else Td.set 3 (k + 1)) :: (putsL (atN cf e k) val ++ [.drop])
  else if k = 0 then [.fail 2, .drop]
  else getsL (atN cf e (if cf.stack then k - 1 else 0)) cf.wd ++ ((if kind = 7 then (if cf.stack then [] else [Td.set 2 ((e + 1) % cf.en)]) ++ [Td.set 3 (k - 1)] else []) ++ [.drop])

/-- The words of a ring with values. -/
structure RI (cf : Cf) (e : Nat) (ws : Ws) (l : List Ws) : Prop where
  len : ws.length = 4 + cf.en * cf.wd
  wid : ∀ v ∈ l, v.length = cf.wd
  fit : l.length ≤ cf.en
  he : e < cf.en
  hn : cf.en ≤ 64
  hw : 0 < cf.wd
  hw2 : cf.wd ≤ 64
  w2 : ws[2]? = some (BitVec.ofNat 64 e)
  w3 : ws[3]? = some (BitVec.ofNat 64 l.length)
  at_ : ∀ j v, l[j]? = some v → ∀ k, k < cf.wd → ws[4 + (e + j) % cf.en * cf.wd + k]? = v[k]?

theorem md {e j n : Nat} (he : e < n) (hj : j ≤ n) : (e + j) % n = if e + j < n then e + j else e + j - n := by
  split
  · rename_i h; exact Nat.mod_eq_of_lt h
  · rename_i h
    rw [Nat.mod_eq_sub_mod (by omega), Nat.mod_eq_of_lt (by omega)]

theorem slot_ne {s s' wd k k' : Nat} (h : s ≠ s') (hk : k < wd) (hk' : k' < wd) : s * wd + k ≠ s' * wd + k' := by
  rcases Nat.lt_or_ge s s' with h1 | h1
  · have : (s + 1) * wd ≤ s' * wd := Nat.mul_le_mul_right _ h1
    rw [Nat.add_mul] at this; omega
  · have : (s' + 1) * wd ≤ s * wd := Nat.mul_le_mul_right _ (by omega)
    rw [Nat.add_mul] at this; omega

theorem slot_lt {s n wd k : Nat} (h : s < n) (hk : k < wd) : s * wd + k < n * wd := by
  have : (s + 1) * wd ≤ n * wd := Nat.mul_le_mul_right _ h
  rw [Nat.add_mul] at this; omega

theorem runTds_append (l m : List Td) (ws : Ws) : runTds (l ++ m) ws = runTds m (runTds l ws) := by
  induction l generalizing ws with
  | nil => rfl
  | cons t l ih => exact ih _

/-- Puts from the i-th one on. -/
theorem puts_get (a : Nat) (vs : Ws) (b : Nat → Bool) : ∀ (n i : Nat) (ws : Ws), a + i + n ≤ ws.length → ∀ p, (runTds ((List.range' i n).map fun i => Td.put a i (vs.getD i 0) (b i)) ws)[p]? = if a + i ≤ p ∧ p < a + i + n then some (vs.getD (p - a) 0) else ws[p]?
  | 0, i, ws, h, p => by
    rw [if_neg (by omega)]; rfl
  | n + 1, i, ws, h, p => by
    rw [List.range'_succ, List.map_cons]
    show (runTds _ (ws.set (a + i) (vs.getD i 0)))[p]? = _
    rw [puts_get a vs b n (i + 1) _ (by rw [List.length_set]; omega) p]
    by_cases h1 : p = a + i
    · rw [if_neg (by omega), if_pos (by omega), h1, List.getElem?_set_self (by omega)]
      congr 2; omega
    · rw [List.getElem?_set_ne (by omega)]
      by_cases h2 : a + (i + 1) ≤ p ∧ p < a + (i + 1) + n
      · rw [if_pos h2, if_pos (by omega)]
      · rw [if_neg h2, if_neg (by omega)]

theorem putsL_get {a : Nat} {vs ws : Ws} (h : a + vs.length ≤ ws.length) (p : Nat) : (runTds (putsL a vs) ws)[p]? = if a ≤ p ∧ p < a + vs.length then some (vs.getD (p - a) 0) else ws[p]? := by
  unfold putsL
  rw [List.range_eq_range']
  have := puts_get a vs (fun i => decide (i + 1 = vs.length)) vs.length 0 ws (by omega) p
  rw [Nat.add_zero] at this
  exact this

theorem Td.ws_len (t : Td) (ws : Ws) : (t.ws ws).length = ws.length := by cases t <;> simp [Td.ws]
theorem runTds_len (l : List Td) (ws : Ws) : (runTds l ws).length = ws.length := by
  induction l generalizing ws with
  | nil => rfl
  | cons t l ih => exact (ih _).trans (t.ws_len ws)

theorem gets_ws (a n : Nat) (ws : Ws) : runTds (getsL a n) ws = ws := by
  unfold getsL
  generalize (List.range n) = r
  induction r with
  | nil => rfl
  | cons i r ih => exact ih

theorem get2 {ws : Ws} {i : Nat} {v : BitVec 64} (h : ws[i]? = some v) : ws.getD i 0 = v := by rw [List.getD_eq_getElem?_getD, h]; rfl

/-- The words, when the lock's alone have turned. -/
theorem RI.low {cf : Cf} {e : Nat} {ws ws' : Ws} {l : List Ws} (h : RI cf e ws l) (hl : ws'.length = ws.length) (hh : ∀ p, 2 ≤ p → ws'[p]? = ws[p]?) : RI cf e ws' l :=
  ⟨hl.trans h.len, h.wid, h.fit, h.he, h.hn, h.hw, h.hw2, (hh 2 (by omega)).trans h.w2, (hh 3 (by omega)).trans h.w3, fun j v hj k hk => (hh _ (by omega)).trans (h.at_ j v hj k hk)⟩

theorem drop_hi (ws : Ws) (p : Nat) (h : 2 ≤ p) : (Td.drop.ws ws)[p]? = ws[p]? := by
  show (ws.set 1 _)[p]? = _
  rw [List.getElem?_set_ne (by omega)]

/-- A value laid behind the others. -/
theorem RI.push {cf : Cf} {e : Nat} {ws : Ws} {l : List Ws} {val : Ws} (h : RI cf e ws l) (hv : val.length = cf.wd) (hl : l.length < cf.en) :
    RI cf e (runTds (Td.set 3 (l.length + 1) :: (putsL (atN cf e l.length) val ++ [.drop])) ws) (l ++ [val]) := by
  have hs : (e + l.length) % cf.en < cf.en := Nat.mod_lt _ (by omega)
  have hb : atN cf e l.length + val.length ≤ ws.length := by
    rw [h.len, hv]; unfold atN
    have := slot_lt (wd := cf.wd) (k := cf.wd - 1) hs (by have := h.hw; omega)
    have := h.hw
    omega
  have key : ∀ p, 2 ≤ p → (runTds (Td.set 3 (l.length + 1) :: (putsL (atN cf e l.length) val ++ [.drop])) ws)[p]? = if atN cf e l.length ≤ p ∧ p < atN cf e l.length + val.length then some (val.getD (p - atN cf e l.length) 0) else (ws.set 3 (BitVec.ofNat 64 (l.length + 1)))[p]? := by
    intro p hp
    show (runTds (putsL _ _ ++ [.drop]) (ws.set 3 _))[p]? = _
    rw [runTds_append]
    show ((Td.drop).ws _)[p]? = _
    rw [drop_hi _ _ hp, putsL_get (by rw [List.length_set]; exact hb)]
  have hat : 4 ≤ atN cf e l.length := by unfold atN; omega
  refine ⟨by rw [runTds_len]; exact h.len, ?_, by simp; omega, h.he, h.hn, h.hw, h.hw2, ?_, ?_, ?_⟩
  · intro v hv'
    rcases List.mem_append.1 hv' with h1 | h1
    · exact h.wid v h1
    · simp at h1; rw [h1]; exact hv
  · rw [key 2 (by omega), if_neg (by omega), List.getElem?_set_ne (by omega)]; exact h.w2
  · rw [key 3 (by omega), if_neg (by omega), List.getElem?_set_self (by rw [h.len]; have := slot_lt (wd := cf.wd) (k := 0) hs h.hw; omega)]
    simp
  · intro j v hj k hk
    rw [key _ (by omega)]
    by_cases hjl : j < l.length
    · rw [List.getElem?_append_left hjl] at hj
      have hne : (e + j) % cf.en ≠ (e + l.length) % cf.en := by
        rw [md h.he (by omega), md h.he (by omega)]
        have := h.he
        split <;> split <;> omega
      have := fun k' => slot_ne (k := k) (k' := k') (wd := cf.wd) hne hk
      rw [if_neg, List.getElem?_set_ne (by omega)]
      · exact h.at_ j v hj k hk
      · unfold atN; rw [hv]
        intro ⟨h1, h2⟩
        have h3 := this (4 + (e + j) % cf.en * cf.wd + k - (4 + (e + l.length) % cf.en * cf.wd)) (by omega)
        omega
    · have : j = l.length := by
        have := (List.getElem?_eq_some_iff.1 hj).1
        simp at this; omega
      subst this
      simp at hj
      subst hj
      have e1 : 4 + (e + l.length) % cf.en * cf.wd + k - atN cf e l.length = k := by unfold atN; omega
      rw [if_pos (by unfold atN; omega), e1]
      rw [List.getD_eq_getElem?_getD, List.getElem?_eq_getElem (by omega)]
      rfl

/-- The eldest one goes for it. -/
theorem RI.over {cf : Cf} {e : Nat} {ws : Ws} {l : List Ws} {val : Ws} (h : RI cf e ws l) (hv : val.length = cf.wd) (hl : l.length = cf.en) :
    RI cf ((e + 1) % cf.en) (runTds (Td.set 2 ((e + 1) % cf.en) :: (putsL (atN cf e l.length) val ++ [.drop])) ws) (l.tail ++ [val]) := by
  have hs : (e + l.length) % cf.en < cf.en := Nat.mod_lt _ (by have := h.he; omega)
  have hse : (e + l.length) % cf.en = e := by rw [hl, Nat.add_mod_right]; exact Nat.mod_eq_of_lt h.he
  have hb : atN cf e l.length + val.length ≤ ws.length := by
    rw [h.len, hv]; unfold atN
    have := slot_lt (wd := cf.wd) (k := cf.wd - 1) hs (by have := h.hw; omega)
    have := h.hw
    omega
  have key : ∀ p, 2 ≤ p → (runTds (Td.set 2 ((e + 1) % cf.en) :: (putsL (atN cf e l.length) val ++ [.drop])) ws)[p]? = if atN cf e l.length ≤ p ∧ p < atN cf e l.length + val.length then some (val.getD (p - atN cf e l.length) 0) else (ws.set 2 (BitVec.ofNat 64 ((e + 1) % cf.en)))[p]? := by
    intro p hp
    show (runTds (putsL _ _ ++ [.drop]) (ws.set 2 _))[p]? = _
    rw [runTds_append]
    show ((Td.drop).ws _)[p]? = _
    rw [drop_hi _ _ hp, putsL_get (by rw [List.length_set]; exact hb)]
  have hat : 4 ≤ atN cf e l.length := by unfold atN; omega
  have he := h.he
  have hn0 : 0 < cf.en := by omega
  refine ⟨by rw [runTds_len]; exact h.len, ?_, by simp; omega, Nat.mod_lt _ hn0, h.hn, h.hw, h.hw2, ?_, ?_, ?_⟩
  · intro v hv'
    rcases List.mem_append.1 hv' with h1 | h1
    · exact h.wid v (List.mem_of_mem_tail h1)
    · simp at h1; rw [h1]; exact hv
  · rw [key 2 (by omega), if_neg (by omega), List.getElem?_set_self (by rw [h.len]; omega)]
  · rw [key 3 (by omega), if_neg (by omega), List.getElem?_set_ne (by omega), h.w3]
    congr 2; simp; omega
  · intro j v hj k hk
    rw [key _ (by omega)]
    have hjl : j < cf.en := by
      have := (List.getElem?_eq_some_iff.1 hj).1
      simp at this; omega
    have hm : ((e + 1) % cf.en + j) % cf.en = (e + (j + 1)) % cf.en := by
      rw [Nat.mod_add_mod]; congr 1; omega
    rw [hm]
    by_cases hj2 : j + 1 < l.length
    · have hj' : l[j + 1]? = some v := by
        rw [List.getElem?_append_left (by simp; omega)] at hj
        rw [← hj]; simp
      have hne : (e + (j + 1)) % cf.en ≠ (e + l.length) % cf.en := by
        rw [hse, md h.he (by omega)]
        split <;> omega
      have := fun k' => slot_ne (k := k) (k' := k') (wd := cf.wd) hne hk
      rw [if_neg, List.getElem?_set_ne (by omega)]
      · exact h.at_ (j + 1) v hj' k hk
      · unfold atN; rw [hv]
        intro ⟨h1, h2⟩
        have h3 := this (4 + (e + (j + 1)) % cf.en * cf.wd + k - (4 + (e + l.length) % cf.en * cf.wd)) (by omega)
        omega
    · have ej : j + 1 = l.length := by omega
      have : v = val := by
        rw [List.getElem?_append_right (by simp; omega)] at hj
        have e0 : j - l.tail.length = 0 := by simp; omega
        rw [e0] at hj
        simpa using hj.symm
      subst this
      rw [ej]
      have e1 : 4 + (e + l.length) % cf.en * cf.wd + k - atN cf e l.length = k := by unfold atN; omega
      rw [if_pos (by unfold atN; omega), e1]
      rw [List.getD_eq_getElem?_getD, List.getElem?_eq_getElem (by omega)]
      rfl

/-- The eldest one is taken. -/
theorem RI.shift {cf : Cf} {e : Nat} {ws : Ws} {v : Ws} {l : List Ws} (h : RI cf e ws (v :: l)) :
    RI cf ((e + 1) % cf.en) (runTds [Td.set 2 ((e + 1) % cf.en), Td.set 3 l.length, .drop] ws) l := by
  have he := h.he
  have hn0 : 0 < cf.en := by omega
  have hfit := h.fit
  simp only [List.length_cons] at hfit
  have key : ∀ p, 2 ≤ p → (runTds [Td.set 2 ((e + 1) % cf.en), Td.set 3 l.length, .drop] ws)[p]? = ((ws.set 2 (BitVec.ofNat 64 ((e + 1) % cf.en))).set 3 (BitVec.ofNat 64 l.length))[p]? := fun p hp => drop_hi _ _ hp
  refine ⟨by rw [runTds_len]; exact h.len, fun w hw => h.wid w (by simp [hw]), by omega, Nat.mod_lt _ hn0, h.hn, h.hw, h.hw2, ?_, ?_, ?_⟩
  · rw [key 2 (by omega), List.getElem?_set_ne (by omega), List.getElem?_set_self (by rw [h.len]; omega)]
  · have : 3 < ws.length := by rw [h.len]; omega
    rw [key 3 (by omega), List.getElem?_set_self (by simpa using this)]
  · intro j w hj k hk
    rw [key _ (by omega), List.getElem?_set_ne (by omega), List.getElem?_set_ne (by omega)]
    have hm : ((e + 1) % cf.en + j) % cf.en = (e + (j + 1)) % cf.en := by
      rw [Nat.mod_add_mod]; congr 1; omega
    rw [hm]
    exact h.at_ (j + 1) w (by simpa using hj) k hk

/-- The last one is taken. -/
theorem RI.pull {cf : Cf} {e : Nat} {ws : Ws} {v : Ws} {l : List Ws} (h : RI cf e ws (l ++ [v])) :
    RI cf e (runTds [Td.set 3 l.length, .drop] ws) l := by
  have he := h.he
  have hfit := h.fit
  simp only [List.length_append, List.length_cons, List.length_nil] at hfit
  have key : ∀ p, 2 ≤ p → (runTds [Td.set 3 l.length, .drop] ws)[p]? = (ws.set 3 (BitVec.ofNat 64 l.length))[p]? := fun p hp => drop_hi _ _ hp
  refine ⟨by rw [runTds_len]; exact h.len, fun w hw => h.wid w (by simp [hw]), by omega, h.he, h.hn, h.hw, h.hw2, ?_, ?_, ?_⟩
  · rw [key 2 (by omega), List.getElem?_set_ne (by omega)]; exact h.w2
  · rw [key 3 (by omega), List.getElem?_set_self (by rw [h.len]; omega)]
  · intro j w hj k hk
    rw [key _ (by omega), List.getElem?_set_ne (by omega)]
    exact h.at_ j w (by rw [List.getElem?_append_left (List.getElem?_eq_some_iff.1 hj).1]; exact hj) k hk

/-- What is got when the value stands there. -/
def gotW : List Td → Ws → Ws → Ws
  | [], _, vs => vs
  | t :: l, ws, vs => gotW l (t.ws ws) (t.vs ws vs)

theorem gets_vs (a : Nat) (b : Nat → Bool) (ws : Ws) : ∀ (n i : Nat) (vs : Ws), gotW ((List.range' i n).map fun i => Td.get a i (b i)) ws vs = vs ++ (List.range' i n).map fun i => ws.getD (a + i) 0
  | 0, i, vs => by simp [gotW]
  | n + 1, i, vs => by
    rw [List.range'_succ, List.map_cons, List.map_cons]
    show gotW _ ws (vs ++ [ws.getD (a + i) 0]) = _
    rw [gets_vs a b ws n (i + 1)]
    simp

theorem getsL_vs (a n : Nat) (ws vs : Ws) : gotW (getsL a n) ws vs = vs ++ (List.range n).map fun i => ws.getD (a + i) 0 := by
  unfold getsL
  rw [List.range_eq_range']
  exact gets_vs a _ ws n 0 vs

/-- The j-th value is what is read from its place. -/
theorem RI.value {cf : Cf} {e : Nat} {ws : Ws} {l : List Ws} (h : RI cf e ws l) {j : Nat} {v : Ws} (hj : l[j]? = some v) : ((List.range cf.wd).map fun i => ws.getD (atN cf e j + i) 0) = v := by
  have hl := h.wid v (List.mem_of_getElem? hj)
  refine List.ext_getElem (by simp [hl]) fun k h1 h2 => ?_
  simp only [List.length_map, List.length_range] at h1
  simp only [List.getElem_map, List.getElem_range]
  have := h.at_ j v hj k h1
  rw [List.getD_eq_getElem?_getD]
  show (ws[4 + (e + j) % cf.en * cf.wd + k]?).getD 0 = _
  rw [this, List.getElem?_eq_getElem h2]
  rfl

/-! ### What a run does in all -/
def noT : List Td → Int → Int
  | [], n => n
  | t :: l, n => noT l (t.no n)
def effT : List Td → Nat
  | [] => 0
  | t :: l => (if t.eff then 1 else 0) + effT l

theorem noT_append (l m : List Td) (n : Int) : noT (l ++ m) n = noT m (noT l n) := by
  induction l generalizing n with
  | nil => rfl
  | cons t l ih => exact ih _
theorem effT_append (l m : List Td) : effT (l ++ m) = effT l + effT m := by
  induction l with
  | nil => simp [effT]
  | cons t l ih => simp [effT, ih]; omega
theorem gotW_append (l m : List Td) (ws vs : Ws) : gotW (l ++ m) ws vs = gotW m (runTds l ws) (gotW l ws vs) := by
  induction l generalizing ws vs with
  | nil => rfl
  | cons t l ih => exact ih _ _

theorem puts_pure (a n : Nat) (f : Nat → BitVec 64) (l : List Nat) (k : Int) (ws vs : Ws) : noT (l.map fun i => Td.put a i (f i) (decide (i + 1 = n))) k = k ∧ gotW (l.map fun i => Td.put a i (f i) (decide (i + 1 = n))) ws vs = vs := by
  induction l generalizing ws with
  | nil => exact ⟨rfl, rfl⟩
  | cons i l ih => exact ih _
theorem gets_no (a n : Nat) (l : List Nat) (k : Int) : noT (l.map fun i => Td.get a i (decide (i + 1 = n))) k = k := by
  induction l with
  | nil => rfl
  | cons i l ih => exact ih

theorem effs_put (a n : Nat) (f : Nat → BitVec 64) : ∀ m, m ≤ n → effT ((List.range m).map fun i => Td.put a i (f i) (decide (i + 1 = n))) = if m = n ∧ 0 < m then 1 else 0
  | 0, _ => by simp [effT]
  | m + 1, h => by
    rw [List.range_succ, List.map_append, effT_append, effs_put a n f m (by omega)]
    have hne : m ≠ n := by omega
    simp only [hne, false_and, if_false, List.map_cons, List.map_nil, effT, Td.eff]
    by_cases h2 : m + 1 = n
    · subst h2; simp
    · simp [h2]
theorem effs_get (a n : Nat) : ∀ m, m ≤ n → effT ((List.range m).map fun i => Td.get a i (decide (i + 1 = n))) = if m = n ∧ 0 < m then 1 else 0
  | 0, _ => by simp [effT]
  | m + 1, h => by
    rw [List.range_succ, List.map_append, effT_append, effs_get a n m (by omega)]
    have hne : m ≠ n := by omega
    simp only [hne, false_and, if_false, List.map_cons, List.map_nil, effT, Td.eff]
    by_cases h2 : m + 1 = n
    · subst h2; simp
    · simp [h2]

/-- What the document's ring answers. -/
def rdo (cf : Cf) (kind flag : Int) (val : Ws) (l : List Ws) : Int × Ws × List Ws :=
  if kind = 6 then
    if l.length = cf.en then (if flag = 0 then (4, [], l) else (0, [], l.tail ++ [val])) else (0, [], l ++ [val])
  else if l = [] then (2, [], l)
  else (0, if cf.stack then l.getLast?.getD [] else l.head?.getD [], if kind = 7 then (if cf.stack then l.dropLast else l.tail) else l)

/-- Its place is one of the region's, and not the lock's. -/
def Td.fit (n : Nat) : Td → Prop
  | .set i _ => i < n ∧ 2 ≤ i
  | .put i j _ _ => i + j < n ∧ 2 ≤ i
  | .get i j _ => i + j < n ∧ 2 ≤ i
  | .fail _ => True
  | .drop => True
  | _ => False

theorem atN_fit {cf : Cf} {e i k n : Nat} (hn : n = 4 + cf.en * cf.wd) (he : 0 < cf.en) (hk : k < cf.wd) : atN cf e i + k < n := by
  have := slot_lt (wd := cf.wd) (Nat.mod_lt (e + i) he) hk
  unfold atN; omega

/-- All that a run does, when the values stand there. -/
structure RgDoes (cf : Cf) (T : List Td) (ws : Ws) (no : Int) (got : Ws) (l' : List Ws) : Prop where
  ri : ∃ e', RI cf e' (runTds T ws) l'
  vs : gotW T ws [] = got
  no : noT T 0 = no
  eff : effT T = 1
  fit : ∀ t ∈ T, t.fit ws.length
  len : T.length ≤ cf.wd + 3

theorem looksT_ok {cf : Cf} {kind flag : Int} {val : Ws} {e : Nat} {ws : Ws} {l : List Ws} (h : RI cf e ws l) (hv : kind = 6 → val.length = cf.wd) :
    RgDoes cf (looksT cf kind flag val e l.length) ws (rdo cf kind flag val l).1 (rdo cf kind flag val l).2.1 (rdo cf kind flag val l).2.2 := by
  have he := h.he
  have hwd := h.hw
  have hw := h.wid
  have hfit := h.fit
  have hlen := h.len
  have h5 : 4 < ws.length := by rw [hlen]; have := Nat.mul_le_mul he hwd; omega
  unfold looksT rdo
  by_cases h6 : kind = 6
  · rw [if_pos h6, if_pos h6]
    have hv := hv h6
    by_cases hl : l.length = cf.en
    · by_cases hf : flag = 0
      · rw [if_pos ⟨hl, hf⟩, if_pos hl, if_pos hf]
        exact ⟨⟨e, h.low (by simp [runTds, Td.ws]) (fun p hp => drop_hi ws p hp)⟩, rfl, rfl, rfl, by intro t ht; simp at ht; rcases ht with rfl | rfl <;> trivial, by simp⟩
      · rw [if_neg (fun hh => hf hh.2), if_pos hl, if_neg hf, if_pos hl]
        refine ⟨⟨(e + 1) % cf.en, ?_⟩, ?_, ?_, ?_, ?_, ?_⟩
        · have := h.over hv hl
          exact this
        · show gotW (putsL _ _ ++ [.drop]) _ [] = []
          rw [gotW_append, show gotW (putsL _ val) _ [] = [] from (puts_pure _ _ _ _ 0 _ _).2]; rfl
        · show noT (putsL _ _ ++ [.drop]) 0 = 0
          rw [noT_append, show noT (putsL _ val) 0 = 0 from (puts_pure _ _ _ _ _ [] []).1]; rfl
        · show 0 + effT (putsL _ _ ++ [.drop]) = 1
          rw [effT_append]
          have := effs_put (atN cf e l.length) val.length (fun i => val.getD i 0) val.length (Nat.le_refl _)
          rw [if_pos ⟨rfl, by omega⟩] at this
          unfold putsL
          rw [this]; rfl
        · intro t ht
          simp only [List.mem_cons, List.mem_append, putsL, List.mem_map, List.mem_range, List.not_mem_nil, or_false] at ht
          rcases ht with rfl | ⟨i, hi, rfl⟩ | rfl
          · exact ⟨by omega, by omega⟩
          · exact ⟨atN_fit hlen (by omega) (by omega), by unfold atN; omega⟩
          · trivial
        · simp [putsL]; omega
    · rw [if_neg (fun hh => hl hh.1), if_neg hl, if_neg hl]
      refine ⟨⟨_, h.push hv (by omega)⟩, ?_, ?_, ?_, ?_, ?_⟩
      · show gotW (putsL _ _ ++ [.drop]) _ [] = []
        rw [gotW_append, show gotW (putsL _ val) _ [] = [] from (puts_pure _ _ _ _ 0 _ _).2]; rfl
      · show noT (putsL _ _ ++ [.drop]) 0 = 0
        rw [noT_append, show noT (putsL _ val) 0 = 0 from (puts_pure _ _ _ _ _ [] []).1]; rfl
      · show 0 + effT (putsL _ _ ++ [.drop]) = 1
        rw [effT_append]
        have := effs_put (atN cf e l.length) val.length (fun i => val.getD i 0) val.length (Nat.le_refl _)
        rw [if_pos ⟨rfl, by omega⟩] at this
        unfold putsL
        rw [this]; rfl
      · intro t ht
        simp only [List.mem_cons, List.mem_append, putsL, List.mem_map, List.mem_range, List.not_mem_nil, or_false] at ht
        rcases ht with rfl | ⟨i, hi, rfl⟩ | rfl
        · exact ⟨by omega, by omega⟩
        · exact ⟨atN_fit hlen (by omega) (by omega), by unfold atN; omega⟩
        · trivial
      · simp [putsL]; omega
  · rw [if_neg h6, if_neg h6]
    by_cases h0 : l = []
    · subst h0
      exact ⟨⟨e, h.low (by simp [runTds, Td.ws]) (fun p hp => drop_hi ws p hp)⟩, rfl, rfl, rfl, by intro t ht; simp at ht; rcases ht with rfl | rfl <;> trivial, by simp⟩
    · have hl0 : 0 < l.length := List.length_pos_iff.2 h0
      rw [if_neg (by omega : ¬ l.length = 0), if_neg h0]
      have hg : ∀ (i : Nat) (v : Ws) (m : List Td), l[i]? = some v → gotW m ws [] = [] → (∀ vs, gotW m ws vs = vs) → gotW (getsL (atN cf e i) cf.wd ++ m) ws [] = v := by
        intro i v m hi _ hm
        rw [gotW_append, gets_ws, getsL_vs, hm, List.nil_append]
        exact h.value hi
      have hn : ∀ (i : Nat) (m : List Td), noT m 0 = 0 → noT (getsL (atN cf e i) cf.wd ++ m) 0 = 0 := by
        intro i m hm
        rw [noT_append, show noT (getsL (atN cf e i) cf.wd) 0 = 0 from gets_no _ _ _ _, hm]
      have hef : ∀ (i : Nat) (m : List Td), effT m = 0 → effT (getsL (atN cf e i) cf.wd ++ m) = 1 := by
        intro i m hm
        rw [effT_append, hm]
        have := effs_get (atN cf e i) cf.wd cf.wd (Nat.le_refl _)
        rw [if_pos ⟨rfl, hwd⟩] at this
        unfold getsL; rw [this]
      have hft : ∀ (i : Nat) (m : List Td), (∀ t ∈ m, t.fit ws.length) → ∀ t ∈ getsL (atN cf e i) cf.wd ++ m, t.fit ws.length := by
        intro i m hm t ht
        simp only [List.mem_append, getsL, List.mem_map, List.mem_range] at ht
        rcases ht with ⟨j, hj, rfl⟩ | ht
        · exact ⟨atN_fit hlen (by omega) hj, by unfold atN; omega⟩
        · exact hm t ht
      have hlg : ∀ (i : Nat) (m : List Td), m.length ≤ 3 → (getsL (atN cf e i) cf.wd ++ m).length ≤ cf.wd + 3 := by
        intro i m hm; simp [getsL]; omega
      by_cases hst : cf.stack = true
      · obtain ⟨l0, v, rfl⟩ : ∃ l0 v, l = l0 ++ [v] := ⟨l.dropLast, l.getLast h0, (List.dropLast_concat_getLast h0).symm⟩
        have hi : (l0 ++ [v])[(l0 ++ [v]).length - 1]? = some v := by simp
        rw [hst]
        simp only [if_true, List.nil_append]
        have hgl : (l0 ++ [v]).getLast?.getD [] = v := by simp
        rw [hgl]
        by_cases h7 : kind = 7
        · rw [if_pos h7, if_pos h7]
          have hd : (l0 ++ [v]).dropLast = l0 := by simp
          have hl1 : (l0 ++ [v]).length - 1 = l0.length := by simp
          refine ⟨⟨e, ?_⟩, hg _ _ _ hi rfl fun _ => rfl, hn _ _ rfl, hef _ _ rfl, hft _ _ ?_, hlg _ _ (by simp)⟩
          · rw [runTds_append, gets_ws, hd, hl1]
            exact h.pull
          · intro t ht; simp at ht; rcases ht with rfl | rfl
            · exact ⟨by omega, by omega⟩
            · trivial
        · rw [if_neg h7, if_neg h7]
          refine ⟨⟨e, ?_⟩, hg _ _ _ hi rfl fun _ => rfl, hn _ _ rfl, hef _ _ rfl, hft _ _ ?_, hlg _ _ (by simp)⟩
          · rw [runTds_append, gets_ws]
            exact h.low (by simp [runTds, Td.ws]) (fun p hp => drop_hi ws p hp)
          · intro t ht; simp at ht; rw [ht]; trivial
      · have hst : cf.stack = false := by simpa using hst
        obtain ⟨v, l0, rfl⟩ : ∃ v l0, l = v :: l0 := List.exists_cons_of_ne_nil h0
        rw [hst]
        simp only [Bool.false_eq_true, if_false]
        have hgl : (v :: l0).head?.getD [] = v := by simp
        rw [hgl]
        by_cases h7 : kind = 7
        · rw [if_pos h7, if_pos h7]
          refine ⟨⟨(e + 1) % cf.en, ?_⟩, hg _ _ _ rfl rfl fun _ => rfl, hn _ _ rfl, hef _ _ rfl, hft _ _ ?_, hlg _ _ (by simp)⟩
          · rw [runTds_append, gets_ws]
            exact h.shift
          · intro t ht; simp at ht; rcases ht with rfl | rfl | rfl
            · exact ⟨by omega, by omega⟩
            · exact ⟨by omega, by omega⟩
            · trivial
        · rw [if_neg h7, if_neg h7]
          refine ⟨⟨e, ?_⟩, hg _ _ _ rfl rfl fun _ => rfl, hn _ _ rfl, hef _ _ rfl, hft _ _ ?_, hlg _ _ (by simp)⟩
          · rw [runTds_append, gets_ws]
            exact h.low (by simp [runTds, Td.ws]) (fun p hp => drop_hi ws p hp)
          · intro t ht; simp at ht; rw [ht]; trivial

/-! The lock's words. -/
theorem fit_lo {T : List Td} {ws : Ws} (h : ∀ t ∈ T, t.fit ws.length) (h0 : 1 < ws.length) : (runTds T ws)[0]? = ws[0]? := by
  induction T generalizing ws with
  | nil => rfl
  | cons t T ih =>
    show (runTds T (t.ws ws))[0]? = _
    have e1 := t.ws_len ws
    rw [ih (fun u hu => by rw [e1]; exact h u (.tail _ hu)) (by rw [e1]; exact h0)]
    have hf := h t (.head _)
    cases t with
    | set i v => exact List.getElem?_set_ne (by have := hf.2; omega)
    | put i j v b => exact List.getElem?_set_ne (by have := hf.2; omega)
    | drop => exact List.getElem?_set_ne (by omega)
    | _ => rfl
def Td.dr : Td → Nat
  | .drop => 1
  | _ => 0
def dropsT : List Td → Nat
  | [] => 0
  | t :: l => t.dr + dropsT l
theorem dropsT_append (l m : List Td) : dropsT (l ++ m) = dropsT l + dropsT m := by
  induction l with
  | nil => simp [dropsT]
  | cons t l ih => simp [dropsT, ih]; omega
theorem drops_puts (a : Nat) (v : Ws) : dropsT (putsL a v) = 0 := by
  unfold putsL
  generalize List.range v.length = r
  induction r with
  | nil => rfl
  | cons i r ih => exact (Nat.zero_add _).trans ih
theorem drops_gets (a n : Nat) : dropsT (getsL a n) = 0 := by
  unfold getsL
  generalize List.range n = r
  induction r with
  | nil => rfl
  | cons i r ih => exact (Nat.zero_add _).trans ih
theorem looks_drops (cf : Cf) (kind flag : Int) (val : Ws) (e k : Nat) : dropsT (looksT cf kind flag val e k) = 1 := by
  unfold looksT
  split
  · split
    · rfl
    · split
      · show 0 + dropsT (putsL _ _ ++ [.drop]) = 1
        rw [dropsT_append, drops_puts]; rfl
      · show 0 + dropsT (putsL _ _ ++ [.drop]) = 1
        rw [dropsT_append, drops_puts]; rfl
  · split
    · rfl
    · rw [dropsT_append, drops_gets, dropsT_append]
      split
      · split <;> rfl
      · rfl
theorem fit_l1 {T : List Td} {ws : Ws} (h : ∀ t ∈ T, t.fit ws.length) (h0 : 1 < ws.length) : (runTds T ws).getD 1 0 = ws.getD 1 0 + BitVec.ofNat 64 (dropsT T) := by
  induction T generalizing ws with
  | nil => simp [runTds, dropsT]
  | cons t T ih =>
    show (runTds T (t.ws ws)).getD 1 0 = _
    have e1 := t.ws_len ws
    rw [ih (fun u hu => by rw [e1]; exact h u (.tail _ hu)) (by rw [e1]; exact h0)]
    have hf := h t (.head _)
    have e2 : (t.ws ws).getD 1 0 = ws.getD 1 0 + BitVec.ofNat 64 t.dr := by
      cases t with
      | set i v =>
        show (ws.set i _).getD 1 0 = ws.getD 1 0 + 0
        rw [List.getD_eq_getElem?_getD, List.getElem?_set_ne (by have := hf.2; omega), ← List.getD_eq_getElem?_getD]
        exact (BitVec.add_zero _).symm
      | put i j v b =>
        show (ws.set (i + j) _).getD 1 0 = ws.getD 1 0 + 0
        rw [List.getD_eq_getElem?_getD, List.getElem?_set_ne (by have := hf.2; omega), ← List.getD_eq_getElem?_getD]
        exact (BitVec.add_zero _).symm
      | drop =>
        show (ws.set 1 _).getD 1 0 = ws.getD 1 0 + 1
        rw [List.getD_eq_getElem?_getD, List.getElem?_set_self h0]; rfl
      | counts => exact (BitVec.add_zero _).symm
      | looks => exact (BitVec.add_zero _).symm
      | get i j b => exact (BitVec.add_zero _).symm
      | fail e => exact (BitVec.add_zero _).symm
    rw [e2, BitVec.add_assoc]
    congr 1
    simp [dropsT, BitVec.ofNat_add]
end Go.Proofs.YtgpacebjbdhphaaGreat

/-
  Rings: the steps that a run knows, as closures; what lays them.
-/
namespace Go.Proofs.YtgpacebjbdhphaaGreat
open Go Go.AS Go.RowKit
set_option linter.unusedVariables false
variable {H H' : Heap} {m x r b : Nat} {S S' : Sm} {R : Value → Heap → Prop} {L PL : List Asr} {ws : List (BitVec 64)} {c : Int} {q : Rq} {kd : Int} {cf : Cf}

/-! ### A pool of blocks that stay -/
theorem pool_in {A : Asr} (h : Sep H (A :: many PL :: L)) : Sep H (many (A :: PL) :: L) :=
  Sep.many_iff.2 ((Sep.many_iff.1 h.swap).perm List.perm_middle)
theorem pool_ins (As : List Asr) (h : Sep H (As ++ many PL :: L)) : Sep H (many (As ++ PL) :: L) := by
  have h1 : Sep H (many PL :: (As ++ L)) := h.perm List.perm_middle
  refine Sep.many_iff.2 ((Sep.many_iff.1 h1).perm ?_)
  rw [List.append_assoc]
  exact List.perm_append_comm_assoc PL As L
theorem pld {g o z k : Nat} {w : Bool} {cs : List Value} {v : Value} (h : Sep H L) (hk : L[k]? = some (many PL)) (hm : bx g (.cells w z cs) ∈ PL) (hv : cs[o]? = some v) : H.cell g o = some v :=
  (cell_of (h.one k hk _ hm) o).trans hv
theorem pget {g : Nat} {ob : AS.Obj} {k : Nat} (h : Sep H L) (hk : L[k]? = some (many PL)) (hm : bx g ob ∈ PL) : H.get g = some ob := h.one k hk _ hm

theorem asRow_of {a : Option Addr} {i o : Nat} {K : Nat → Nat → Prop} (ha : a = some ⟨i, o, none⟩) (h : K i o) : asRow a K := by rw [ha]; exact h
abbrev b1 (g : Nat) (v : Value) : Asr := bx g (.cells true 0 [v])
/-- A step that is known, as a value. -/
inductive TdV (PL : List Asr) (r : Nat) : Td → List Value → Prop where
  | counts : TdV PL r .counts [fnR F.ring_Run_counts r, .bool false]
  | looks : TdV PL r .looks [fnR F.ring_Run_looks r, .bool false]
  | set {i v g1 g2 g3 : Nat} (h1 : b1 g1 (P r) ∈ PL) (h2 : b1 g2 (I i) ∈ PL) (h3 : b1 g3 (I v) ∈ PL) : TdV PL r (.set i v) [cl3 F.ring_Run_sets_1 g1 g2 g3, .bool false]
  | put {i j g1 g2 g3 g4 : Nat} {v : BitVec 64} {b : Bool} (h1 : b1 g1 (P r) ∈ PL) (h2 : b1 g2 (I i) ∈ PL) (h3 : b1 g3 (I j) ∈ PL) (h4 : b1 g4 (W v) ∈ PL) : TdV PL r (.put i j v b) [.func (.func F.ring_Run_push_1) #[] #[P g1, P g2, P g3, P g4], .bool b]
  | get {i j g1 g2 g3 : Nat} {b : Bool} (h1 : b1 g1 (P r) ∈ PL) (h2 : b1 g2 (I i) ∈ PL) (h3 : b1 g3 (I j) ∈ PL) : TdV PL r (.get i j b) [cl3 F.ring_Run_pull_1 g1 g2 g3, .bool b]
  | fail {e : Int} {g1 g2 : Nat} (h1 : b1 g1 (I e) ∈ PL) (h2 : b1 g2 (P r) ∈ PL) : TdV PL r (.fail e) [.func (.func F.ring_Run_fails_1) #[] #[P g1, P g2], .bool true]
  | drop {g : Nat} (h1 : b1 g (P r) ∈ PL) : TdV PL r .drop [.func (.func F.ring_Run_looks_1) #[] #[P g], .bool false]
inductive TdsV (PL : List Asr) (r : Nat) : List Td → List Value → Prop where
  | nil : TdsV PL r [] []
  | cons {t : Td} {l : List Td} {c cs : List Value} (h : TdV PL r t c) (hs : TdsV PL r l cs) : TdsV PL r (t :: l) (c ++ cs)
theorem TdV.mono {PL PL' : List Asr} (hp : ∀ A ∈ PL, A ∈ PL') {t : Td} {c : List Value} (h : TdV PL r t c) : TdV PL' r t c := by
  cases h with
  | counts => exact .counts
  | looks => exact .looks
  | set h1 h2 h3 => exact .set (hp _ h1) (hp _ h2) (hp _ h3)
  | put h1 h2 h3 h4 => exact .put (hp _ h1) (hp _ h2) (hp _ h3) (hp _ h4)
  | get h1 h2 h3 => exact .get (hp _ h1) (hp _ h2) (hp _ h3)
  | fail h1 h2 => exact .fail (hp _ h1) (hp _ h2)
  | drop h1 => exact .drop (hp _ h1)
theorem TdsV.mono {PL PL' : List Asr} (hp : ∀ A ∈ PL, A ∈ PL') {t : List Td} {c : List Value} (h : TdsV PL r t c) : TdsV PL' r t c := by
  induction h with
  | nil => exact .nil
  | cons h _ ih => exact .cons (h.mono hp) ih
theorem TdV.len {t : Td} {c : List Value} (h : TdV PL r t c) : c.length = 2 := by cases h <;> rfl
theorem TdsV.len {t : List Td} {c : List Value} (h : TdsV PL r t c) : c.length = t.length * 2 := by
  induction h with
  | nil => rfl
  | cons h _ ih => rw [List.length_append, h.len, ih, List.length_cons]; omega
theorem TdsV.append {t u : List Td} {c d : List Value} (h : TdsV PL r t c) (k : TdsV PL r u d) : TdsV PL r (t ++ u) (c ++ d) := by
  induction h with
  | nil => exact k
  | cons h _ ih => rw [List.append_assoc]; exact .cons h ih
theorem TdsV.one {t : Td} {c : List Value} (h : TdV PL r t c) : TdsV PL r [t] c := by
  have := TdsV.cons h .nil
  rwa [List.append_nil] at this

abbrev tdA (tb : Nat) (pre cs : List Value) : Asr := bx tb (.cells true 2 (pre ++ cs))
/-- How far the list of steps has come, when its first ones are known. -/
structure Tl (PL : List Asr) (r : Nat) (q : Rq) (tb : Nat) (pre cs : List Value) (l : List Td) : Prop where
  ta : q.ta = some ⟨tb, pre.length, none⟩
  tl : q.tl = l.length
  ok : TdsV PL r l cs

theorem planT_s {nb tb : Nat} {pre cs new : List Value} {l l' : List Td} (h : Sep H (bx nb (.cells true 2 new) :: rG r x q :: tdA tb pre cs :: many PL :: L)) (ht : Tl PL r q tb pre cs l) (hn : TdsV PL r l' new) (h0 : l' ≠ []) (hl : l.length + l'.length < 100000)
    (hR : ∀ H' t', Tl PL r { q with ta := some ⟨t', 0, none⟩, tl := q.tl + l'.length } t' [] (cs ++ new) (l ++ l') → Sep H' (bx nb (.cells true 2 new) :: rG r x { q with ta := some ⟨t', 0, none⟩, tl := q.tl + l'.length } :: tdA t' [] (cs ++ new) :: many PL :: L) → R undef H') : CA en F.ring_Run_plan [P r, .slice (some ⟨nb, 0, none⟩) l'.length 0] H R := by
  refine plan_s h ht.ta (by rw [ht.tl]; exact ht.ok.len) (List.length_pos_iff.2 h0) hn.len (by rw [ht.tl]; exact hl) fun H' t' h' => hR H' t' ⟨rfl, ?_, ht.ok.append hn⟩ h'
  simp [ht.tl]

/-- The numbers of a ring, and of a run. -/
structure Nums (cf : Cf) (q : Rq) (e k : Nat) : Prop where
  he : e < cf.en
  hk : k ≤ cf.en
  hn : cf.en ≤ 64
  hw : cf.wd ≤ 64
  fi : q.first = e
  n : q.n = k

theorem at_eq {e k : Nat} (h : e < cf.en) (hk : k ≤ cf.en) (hn : cf.en ≤ 64) (hw : cf.wd ≤ 64) : IntKind.i64.wrap (4 + IntKind.i64.wrap (Int.tmod (IntKind.i64.wrap ((e : Int) + (k : Int))) (cf.en : Int) * (cf.wd : Int))) = ((atN cf e k : Nat) : Int) := by
  have e1 : IntKind.i64.wrap ((e : Int) + (k : Int)) = ((e + k : Nat) : Int) := by rw [wrap_i64 (by omega)]; omega
  have e2 : Int.tmod ((e + k : Nat) : Int) (cf.en : Int) = (((e + k) % cf.en : Nat) : Int) := rfl
  have h3 : (e + k) % cf.en < cf.en := Nat.mod_lt _ (by omega)
  have h4 : (e + k) % cf.en * cf.wd ≤ 64 * 64 := Nat.mul_le_mul (by omega) hw
  rw [e1, e2, ← Int.natCast_mul]
  unfold atN
  generalize (e + k) % cf.en * cf.wd = z at *
  rw [wrap_i64 (n := (z : Int)) (by omega), wrap_i64 (by omega)]
  omega

/-- at, of the value that is so many behind the eldest. -/
theorem atN_s {e k i : Nat} (h : Sep H (rG r x q :: xG m x kd cf.en cf.wd :: L)) (hq : Nums cf q e k) (hi : i ≤ cf.en)
    (hR : ∀ H', Sep H' (rG r x q :: xG m x kd cf.en cf.wd :: L) → R (I (atN cf e i : Nat)) H') : CA en F.ring_Run_at [P r, I i] H R := by
  refine rgat_s h (by have := hq.he; omega) fun H' h' => ?_
  rw [hq.fi, at_eq hq.he hi hq.hn hq.hw]
  exact hR H' h'

theorem mod_next {e : Nat} (h : e < cf.en) (hn : cf.en ≤ 64) : Int.tmod (IntKind.i64.wrap ((e : Int) + 1)) (cf.en : Int) = (((e + 1) % cf.en : Nat) : Int) := by
  have e1 : IntKind.i64.wrap ((e : Int) + 1) = ((e + 1 : Nat) : Int) := by rw [wrap_i64 (by omega)]; omega
  rw [e1]; rfl

/-- A number's store, laid behind what is known. -/
theorem laySet_s {i1 i v tb : Nat} {pre cs : List Value} {l : List Td} {A : Value → Heap → Prop} {K : Heap → Prop} (h : Sep H (b1 i1 (P r) :: rG r x q :: tdA tb pre cs :: many PL :: L)) (ht : Tl PL r q tb pre cs l) (hl : l.length < 99999)
    (k : ∀ H' t' PL' cs', (∀ A ∈ PL, A ∈ PL') → Tl PL' r { q with ta := some ⟨t', 0, none⟩, tl := q.tl + 1 } t' [] cs' (l ++ [Td.set i v]) → Sep H' (b1 i1 (P r) :: rG r x { q with ta := some ⟨t', 0, none⟩, tl := q.tl + 1 } :: tdA t' [] cs' :: many PL' :: L) → K H') :
    CA en F.ring_Run_sets [P r, I i, I v] H fun w H1 => A w H1 ∨ ∃ f l c, ∃ b, w = .agg #[.func (.func f) ⟨l⟩ ⟨c⟩, .bool b] ∧ nwH H1 (.cells true 2 [.func (.func f) ⟨l⟩ ⟨c⟩, .bool b]) fun nb H2 =>
      CA en F.ring_Run_plan [P r, .slice (some ⟨nb, 0, none⟩) 1 0] H2 fun w2 H3 => w2 = undef ∧ (K H3) ∧ ((∃ a, H.cell i1 0 = some (.pointer a) ∧ some ⟨r, 0, none⟩ = a) ∧ (∃ a, H1.cell i1 0 = some (.pointer a) ∧ some ⟨r, 0, none⟩ = a) ∧ (∃ a, H2.cell i1 0 = some (.pointer a) ∧ some ⟨r, 0, none⟩ = a) ∧ True) ∧ True := by
  refine sets_s h fun H4 g1 g2 g3 h4 => .inr ⟨_, _, _, _, rfl, Sep.nw h4 fun nb H5 h5 => ?_⟩
  -- nb g1 g2 g3 i1 r td PL
  have h6 := pool_ins [_, _, _] (Sep.pick h5 8 [1, 2, 3, 7, 0, 4, 5, 6] (by decide))
  have hs : ∀ A ∈ PL, A ∈ [b1 g1 (P r), b1 g2 (I i), b1 g3 (I v)] ++ PL := fun A h => List.mem_append_right _ h
  have hT : Tl ([b1 g1 (P r), b1 g2 (I i), b1 g3 (I v)] ++ PL) r q tb pre cs l := ⟨ht.ta, ht.tl, ht.ok.mono hs⟩
  refine planT_s (l' := [Td.set i v]) (Sep.pick h6 5 [1, 3, 4, 0, 2] (by decide)) hT (.one (.set (by simp) (by simp) (by simp))) (by simp) (by simp; omega) fun H7 t' hT' h7 => ?_
  exact ⟨rfl, k H7 t' _ _ hs hT' (Sep.pick h7 5 [4, 1, 2, 3] (by decide)), ⟨⟨_, Sep.ld0 h rfl, rfl⟩, ⟨_, Sep.ld3 h4 rfl, rfl⟩, ⟨_, Sep.ld4 h5 rfl, rfl⟩, trivial⟩, trivial⟩

/-- The same, where the run's number is in the pool. -/
theorem laySetP_s {i1 i v tb : Nat} {pre cs : List Value} {l : List Td} {A : Value → Heap → Prop} {K : Heap → Prop} (h : Sep H (many PL :: rG r x q :: tdA tb pre cs :: L)) (m1 : b1 i1 (P r) ∈ PL) (ht : Tl PL r q tb pre cs l) (hl : l.length < 99999)
    (k : ∀ H' t' PL' cs', (∀ A ∈ PL, A ∈ PL') → Tl PL' r { q with ta := some ⟨t', 0, none⟩, tl := q.tl + 1 } t' [] cs' (l ++ [Td.set i v]) → Sep H' (many PL' :: rG r x { q with ta := some ⟨t', 0, none⟩, tl := q.tl + 1 } :: tdA t' [] cs' :: L) → K H') :
    CA en F.ring_Run_sets [P r, I i, I v] H fun w H1 => A w H1 ∨ ∃ f l c, ∃ b, w = .agg #[.func (.func f) ⟨l⟩ ⟨c⟩, .bool b] ∧ nwH H1 (.cells true 2 [.func (.func f) ⟨l⟩ ⟨c⟩, .bool b]) fun nb H2 =>
      CA en F.ring_Run_plan [P r, .slice (some ⟨nb, 0, none⟩) 1 0] H2 fun w2 H3 => w2 = undef ∧ (K H3) ∧ ((∃ a, H.cell i1 0 = some (.pointer a) ∧ some ⟨r, 0, none⟩ = a) ∧ (∃ a, H1.cell i1 0 = some (.pointer a) ∧ some ⟨r, 0, none⟩ = a) ∧ (∃ a, H2.cell i1 0 = some (.pointer a) ∧ some ⟨r, 0, none⟩ = a) ∧ True) ∧ True := by
  refine sets_s h fun H4 g1 g2 g3 h4 => .inr ⟨_, _, _, _, rfl, Sep.nw h4 fun nb H5 h5 => ?_⟩
  -- nb g1 g2 g3 PL r td
  have h6 := pool_ins [_, _, _] (Sep.pick h5 5 [1, 2, 3, 4, 0] (by decide))
  have hs : ∀ A ∈ PL, A ∈ [b1 g1 (P r), b1 g2 (I i), b1 g3 (I v)] ++ PL := fun A h => List.mem_append_right _ h
  have hT : Tl ([b1 g1 (P r), b1 g2 (I i), b1 g3 (I v)] ++ PL) r q tb pre cs l := ⟨ht.ta, ht.tl, ht.ok.mono hs⟩
  refine planT_s (l' := [Td.set i v]) (Sep.pick h6 4 [1, 2, 3, 0] (by decide)) hT (.one (.set (by simp) (by simp) (by simp))) (by simp) (by simp; omega) fun H7 t' hT' h7 => ?_
  exact ⟨rfl, k H7 t' _ _ hs hT' (Sep.pick h7 4 [3, 1, 2] (by decide)), ⟨⟨_, pld (k := 0) h rfl m1 rfl, rfl⟩, ⟨_, pld (k := 3) h4 rfl m1 rfl, rfl⟩, ⟨_, pld (k := 4) h5 rfl m1 rfl, rfl⟩, trivial⟩, trivial⟩

/-! ### push -/
def firstT (cf : Cf) (e k : Nat) : Td := if k = cf.en then Td.set 2 ((e + 1) % cf.en) else Td.set 3 (k + 1)

theorem bool_eqn {n k : Nat} : (((n : Int) == ((k : Nat) : Int)) : Bool) = decide (n = k) := by
  rw [Bool.eq_iff_iff]; simp; omega

theorem putB {i n : Nat} (h : i < n) (hn : n < 100000) : (((i : Int) == IntKind.i64.wrap ((n : Nat) - 1 : Int)) : Bool) = decide (i + 1 = n) := by
  rw [wrap_i64 (by omega), Bool.eq_iff_iff]; simp; omega

theorem putsL_upto (a : Nat) (vs : Ws) (i : Nat) (hi : i < vs.length) : ((List.range (i + 1)).map fun j => Td.put a j (vs.getD j 0) (decide (j + 1 = vs.length))) = ((List.range i).map fun j => Td.put a j (vs.getD j 0) (decide (j + 1 = vs.length))) ++ [Td.put a i (vs.getD i 0) (decide (i + 1 = vs.length))] := by
  rw [List.range_succ, List.map_append]; rfl

theorem push_s {e k tb : Nat} {pre cs : List Value} {l : List Td} {vs : List (BitVec 64)} (h : Sep H (rG r x q :: tdA tb pre cs :: many PL :: gl 1 q.ov (wdR vs) :: xG m x kd cf.en cf.wd :: L)) (ht : Tl PL r q tb pre cs l) (hq : Nums cf q e k) (hl : l.length < 1000)
    (ho : q.ol = vs.length) (hv : q.ov = none → vs = []) (hvl : vs.length < 1000)
    (hR : ∀ H' tb' cs' PL' q', (∀ A ∈ PL, A ∈ PL') → q' = { q with ta := q'.ta, tl := q'.tl } → Tl PL' r q' tb' [] cs' (l ++ firstT cf e k :: putsL (atN cf e k) vs) → Sep H' (rG r x q' :: tdA tb' [] cs' :: many PL' :: gl 1 q.ov (wdR vs) :: xG m x kd cf.en cf.wd :: L) → R undef H') : CA en F.ring_Run_push [P r] H R := by
  apply vc_ring_Run_push
  have he := hq.he; have hk := hq.hk; have hn := hq.hn; have hw := hq.hw
  refine Sep.nw h fun i1 H2 h2 => ⟨fun _ H' => ∃ t' PL' cs', (∀ A ∈ PL, A ∈ PL') ∧ Tl PL' r { q with ta := some ⟨t', 0, none⟩, tl := q.tl + 1 } t' [] cs' (l ++ [firstT cf e k]) ∧ Sep H' (b1 i1 (P r) :: rG r x { q with ta := some ⟨t', 0, none⟩, tl := q.tl + 1 } :: tdA t' [] cs' :: many PL' :: gl 1 q.ov (wdR vs) :: xG m x kd cf.en cf.wd :: L), ?_, ?_⟩
  · have hB := h2.bump 13
    refine ⟨_, Sep.ld0 hB rfl, asAddr_in ⟨_, Sep.ld1 hB rfl, _, Sep.ld0 hB rfl, asAddr_in ⟨_, Sep.ld1 hB rfl, asAddr_in ⟨_, Sep.ld5 hB rfl, ?_, trivial⟩⟩⟩⟩
    have e0 : ((q.n == (cf.en : Int)) : Bool) = decide (k = cf.en) := by rw [hq.n]; exact bool_eqn
    rw [e0]
    refine cond_of (fun hc => ?_) fun hc => ?_
    · have hc : k = cf.en := by simpa using hc
      have e1 : Int.tmod (IntKind.i64.wrap (q.first + 1)) (cf.en : Int) = (((e + 1) % cf.en : Nat) : Int) := by rw [hq.fi]; exact mod_next he hn
      have h3 := hB.bump 19
      refine ⟨_, Sep.ld0 h3 rfl, _, Sep.ld0 h3 rfl, _, Sep.ld0 h3 rfl, asAddr_in ⟨_, Sep.ld1 h3 rfl, _, Sep.ld0 h3 rfl, asAddr_in ⟨_, Sep.ld1 h3 rfl, asAddr_in ⟨_, Sep.ld5 h3 rfl, (by unfold nz; omega), ?_⟩⟩⟩⟩
      rw [e1]
      refine laySet_s (i := 2) h3 ht (by omega) fun H7 t' PL' cs' hs hT h7 => ⟨t', PL', cs', hs, ?_, h7⟩
      unfold firstT; rw [if_pos hc]; exact hT
    · have hc : ¬ k = cf.en := by simpa using hc
      have h3 := hB.bump 10
      refine ⟨_, Sep.ld0 h3 rfl, _, Sep.ld0 h3 rfl, _, Sep.ld0 h3 rfl, asAddr_in ⟨_, Sep.ld1 h3 rfl, ?_⟩⟩
      have e1 : IntKind.i64.wrap (q.n + 1) = ((k + 1 : Nat) : Int) := by rw [hq.n, wrap_i64 (by omega)]; omega
      rw [e1]
      refine laySet_s (i := 3) h3 ht (by omega) fun H7 t' PL' cs' hs hT h7 => ⟨t', PL', cs', hs, ?_, h7⟩
      unfold firstT; rw [if_neg hc]; exact hT
  · rintro ys H77 ⟨t1, PL1, cs1, hs1, hT1, h77⟩
    have hp := h77.fore1 (n := 8) (a := 6) (.cells true 0 [I 0]) (by decide)
    refine ⟨_, Sep.ld1 hp rfl, _, Sep.ld1 hp rfl, asAddr_in ⟨_, Sep.ld2 hp rfl, ?_⟩⟩
    generalize H77.next + 6 = ab at hp ⊢
    rw [hq.n]
    -- ab i1 r td PL ov x
    refine atN_s (e := e) (k := k) (Sep.pick hp 7 [2, 6, 0, 1, 3, 4, 5] (by decide)) ⟨he, hk, hn, hw, hq.fi, hq.n⟩ hk fun H84 h84 => ⟨_, rfl, Sep.st2 h84 (Nat.le_of_ble_eq_true rfl) fun H86 h86 => ⟨⟨_, Sep.ld3 h86 rfl, asAddr_in ⟨_, _, Sep.ld0 h86 rfl, ?_⟩⟩, ⟨⟨_, Sep.get0 hp, rfl⟩, ⟨_, Sep.get2 h84, rfl⟩, trivial⟩, trivial⟩⟩
    -- r x ab i1 td PL ov
    have h0 : Sep H86 (many ([b1 ab (I (atN cf e k : Nat)), b1 i1 (P r)] ++ PL1) :: rG r x { q with ta := some ⟨t1, 0, none⟩, tl := q.tl + 1 } :: tdA t1 [] cs1 :: gl 1 q.ov (wdR vs) :: xG m x kd cf.en cf.wd :: L) := pool_ins [_, _] (Sep.pick h86 7 [2, 3, 5, 0, 4, 6, 1] (by decide))
    refine use_ring_Run_push_0 (fun n i H' => ∃ (j : Nat) (t' : Nat) (PL' : List Asr) (cs' : List Value), i = (j : Int) ∧ j ≤ vs.length ∧ n = vs.length - j ∧ (∀ A ∈ PL, A ∈ PL') ∧ b1 i1 (P r) ∈ PL' ∧ b1 ab (I (atN cf e k : Nat)) ∈ PL' ∧
      Tl PL' r { q with ta := some ⟨t', 0, none⟩, tl := q.tl + 1 + j } t' [] cs' ((l ++ [firstT cf e k]) ++ (List.range j).map fun i => Td.put (atN cf e k) i (vs.getD i 0) (decide (i + 1 = vs.length))) ∧
      Sep H' (many PL' :: rG r x { q with ta := some ⟨t', 0, none⟩, tl := q.tl + 1 + j } :: tdA t' [] cs' :: gl 1 q.ov (wdR vs) :: xG m x kd cf.en cf.wd :: L)) vs.length ?_ ?_
    · refine ⟨0, t1, _, cs1, rfl, Nat.zero_le _, rfl, fun A hA => List.mem_append_right _ (hs1 A hA), .tail _ (.head _), .head _, ?_, h0⟩
      refine ⟨hT1.ta, by simpa using hT1.tl, ?_⟩
      have := hT1.ok.mono (PL' := [b1 ab (I (atN cf e k : Nat)), b1 i1 (P r)] ++ PL1) fun A hA => List.mem_append_right _ hA
      simpa using this
    rintro n t ys H ⟨j, t', PL', cs', rfl, hj, rfl, hs, m1, m2, hT, h⟩
    refine cond_of (fun hc => ?_) fun hc => ?_
    · have hc : j < vs.length := by rw [ho] at hc; simpa using hc
      obtain ⟨ob, hob⟩ : ∃ ob, q.ov = some ob := by
        cases hx : q.ov with
        | none => have := hv hx; subst this; simp at hc
        | some ob => exact ⟨ob, rfl⟩
      have hg : H.get ob = some (.cells true 1 (wdR vs)) := by rw [hob] at h; exact gl_get (Sep.up3 h)
      have hcell : H.cell ob (0 + ((j : Int).toNat * 1)) = some (W (vs.getD j 0)) := by
        rw [cell_of hg]
        simp only [Int.toNat_natCast, Nat.mul_one, Nat.zero_add, List.getElem?_map, List.getElem?_eq_getElem hc, Option.map_some, List.getD_eq_getElem?_getD, Option.getD_some]
      refine ⟨(by show 0 ≤ (j : Int) ∧ (j : Int) < (q.ol : Nat); omega), asRow_of (by rw [hob]; rfl) ⟨_, hcell, Sep.nw h fun i4 H5 h5 => Sep.nw h5 fun i6 H7 h7 => Sep.st1 h7 (Nat.le_of_ble_eq_true rfl) fun H8 h8 => Sep.st0 h8 (Nat.le_of_ble_eq_true rfl) fun H9 h9 => ?_⟩⟩
      -- i6 i4 PL r td ov x
      have hB := h9.bump 14
      refine ⟨_, pld (k := 2) hB rfl m1 rfl, _, Sep.ld1 hB rfl, _, pld (k := 2) hB rfl m1 rfl, asAddr_in ⟨_, _, Sep.ld3 hB rfl, Sep.nw hB fun nb H18 h18 => ?_⟩⟩
      have eb : (((j : Int) == IntKind.i64.wrap ((q.ol : Nat) - 1 : Int)) : Bool) = decide (j + 1 = vs.length) := by rw [ho]; exact putB hc (by omega)
      rw [eb] at h18
      have h6 : Sep H18 (many ([b1 i6 (W (vs.getD j 0)), b1 i4 (I (j : Int))] ++ PL') :: bx nb (.cells true 2 [.func (.func F.ring_Run_push_1) #[] #[P i1, P ab, P i4, P i6], .bool (decide (j + 1 = vs.length))]) :: rG r x { q with ta := some ⟨t', 0, none⟩, tl := q.tl + 1 + j } :: tdA t' [] cs' :: gl 1 q.ov (wdR vs) :: xG m x kd cf.en cf.wd :: L) := pool_ins [_, _] (Sep.pick h18 4 [1, 2, 3, 0] (by decide))
      refine planT_s (l' := [Td.put (atN cf e k) j (vs.getD j 0) (decide (j + 1 = vs.length))]) (Sep.pick h6 4 [1, 2, 3, 0] (by decide)) ⟨hT.ta, hT.tl, hT.ok.mono fun A hA => List.mem_append_right _ hA⟩ (.one (.put (List.mem_append_right _ m1) (List.mem_append_right _ m2) (.tail _ (.head _)) (.head _))) (by simp) (by simp; omega) fun H20 t2 hT2 h20 => ?_
      have h21 : Sep H20 (many ([b1 i6 (W (vs.getD j 0)), b1 i4 (I (j : Int))] ++ PL') :: rG r x { q with ta := some ⟨t2, 0, none⟩, tl := q.tl + 1 + (j + 1) } :: tdA t2 [] (cs' ++ [.func (.func F.ring_Run_push_1) #[] #[P i1, P ab, P i4, P i6], .bool (decide (j + 1 = vs.length))]) :: gl 1 q.ov (wdR vs) :: xG m x kd cf.en cf.wd :: L) := Sep.pick h20 4 [3, 1, 2] (by decide)
      refine ⟨rfl, ⟨vs.length - (j + 1), by omega, j + 1, t2, _, _, by rw [wrap_i64 (by omega)]; omega, hc, rfl, fun A hA => List.mem_append_right _ (hs A hA), List.mem_append_right _ m1, List.mem_append_right _ m2, ?_, h21⟩, ⟨⟨_, pld (k := 2) hB rfl m1 rfl, rfl⟩, ⟨_, pld (k := 3) h18 rfl m1 rfl, rfl⟩, trivial⟩, trivial⟩
      refine ⟨rfl, ?_, ?_⟩
      · have := hT2.tl
        simp at this ⊢
        omega
      · have := hT2.ok
        rw [putsL_upto _ _ _ hc, ← List.append_assoc]
        exact this
    · have hc : j = vs.length := by
        have : ¬ j < vs.length := by rw [ho] at hc; simpa using hc
        omega
      subst hc
      refine hR H t' cs' PL' _ hs rfl ?_ (Sep.pick h 3 [1, 2, 0] (by decide))
      refine ⟨hT.ta, by simpa [putsL] using hT.tl, ?_⟩
      have := hT.ok
      rwa [List.append_assoc] at this

/-! ### pull -/
def pullAt (cf : Cf) (k : Nat) : Nat := if cf.stack then k - 1 else 0
def pullT (cf : Cf) (kind : Int) (e k : Nat) : List Td := getsL (atN cf e (pullAt cf k)) cf.wd ++ (if kind = 7 then (if cf.stack then [] else [Td.set 2 ((e + 1) % cf.en)]) ++ [Td.set 3 (k - 1)] else [])

theorem getsL_upto (a n i : Nat) : ((List.range (i + 1)).map fun j => Td.get a j (decide (j + 1 = n))) = ((List.range i).map fun j => Td.get a j (decide (j + 1 = n))) ++ [Td.get a i (decide (i + 1 = n))] := by
  rw [List.range_succ, List.map_append]; rfl
abbrev rkind (cf : Cf) : Int := if cf.stack then 7 else 6

theorem pull_s {e k tb : Nat} {pre cs : List Value} {l : List Td} (h : Sep H (rG r x q :: tdA tb pre cs :: many PL :: xG m x (rkind cf) cf.en cf.wd :: L)) (ht : Tl PL r q tb pre cs l) (hq : Nums cf q e k) (hl : l.length < 1000) (hk0 : 0 < k)
    (hR : ∀ H' tb' pre' cs' PL' q', (∀ A ∈ PL, A ∈ PL') → q' = { q with ta := q'.ta, tl := q'.tl } → Tl PL' r q' tb' pre' cs' (l ++ pullT cf q.kind e k) → Sep H' (rG r x q' :: tdA tb' pre' cs' :: many PL' :: xG m x (rkind cf) cf.en cf.wd :: L) → R undef H') : CA en F.ring_Run_pull [P r] H R := by
  apply vc_ring_Run_pull
  have he := hq.he; have hk := hq.hk; have hn := hq.hn; have hw := hq.hw
  refine Sep.nw h fun i1 H2 h2 => ⟨_, Sep.ld0 h2 rfl, ?_⟩
  -- i1 r td PL x
  refine atN_s (e := e) (k := k) (i := 0) (Sep.pick h2 5 [1, 4, 0, 2, 3] (by decide)) hq (Nat.zero_le _) fun H5 h5 => ⟨_, rfl, Sep.nw h5 fun i7 H8 h8 => Sep.st0 h8 (Nat.le_of_ble_eq_true rfl) fun H9 h9 => ⟨fun _ H' => Sep H' (b1 i7 (I (atN cf e (pullAt cf k) : Nat)) :: rG r x q :: xG m x (rkind cf) cf.en cf.wd :: b1 i1 (P r) :: tdA tb pre cs :: many PL :: L), ?_, ?_⟩⟩
  · -- i7 r x i1 td PL
    have e0 : ((rkind cf == 7 : Bool)) = cf.stack := by unfold rkind; cases cf.stack <;> rfl
    refine ⟨_, Sep.ld3 h9 rfl, asAddr_in ⟨_, Sep.ld1 h9 rfl, asAddr_in ⟨_, Sep.ld2 h9 rfl, ?_⟩⟩⟩
    rw [e0]
    refine cond_of (fun hs => ?_) fun hs => ?_
    · have hB := h9.bump 8
      have e1 : IntKind.i64.wrap (q.n - 1) = ((k - 1 : Nat) : Int) := by rw [hq.n, wrap_i64 (by omega)]; omega
      refine ⟨_, Sep.ld3 hB rfl, _, Sep.ld3 hB rfl, asAddr_in ⟨_, Sep.ld1 hB rfl, ?_⟩⟩
      rw [e1]
      refine atN_s (e := e) (k := k) (Sep.pick hB 6 [1, 2, 0, 3, 4, 5] (by decide)) hq (by omega) fun H24 h24 => ⟨_, rfl, Sep.st2 h24 (Nat.le_of_ble_eq_true rfl) fun H26 h26 => ⟨?_, trivial⟩⟩
      have : pullAt cf k = k - 1 := by unfold pullAt; rw [hs]; rfl
      rw [this]
      exact Sep.pick h26 6 [2, 0, 1, 3, 4, 5] (by decide)
    · have : pullAt cf k = 0 := by unfold pullAt; rw [hs]; rfl
      rw [this]
      exact h9
  · rintro ys H28 h28
    refine ⟨_, Sep.ld3 h28 rfl, asAddr_in ⟨_, Sep.ld1 h28 rfl, asAddr_in ⟨_, Sep.ld2 h28 rfl, ?_⟩⟩⟩
    have h0 : Sep H28 (many ([b1 i7 (I (atN cf e (pullAt cf k) : Nat)), b1 i1 (P r)] ++ PL) :: rG r x q :: tdA tb pre cs :: xG m x (rkind cf) cf.en cf.wd :: L) := pool_ins [_, _] (Sep.pick h28 6 [0, 3, 5, 1, 4, 2] (by decide))
    refine use_ring_Run_pull_0 (fun n i H' => ∃ (j : Nat) (tb' : Nat) (pre' : List Value) (PL' : List Asr) (cs' : List Value) (ta' : Option Addr) (tl' : Nat), i = (j : Int) ∧ j ≤ cf.wd ∧ n = cf.wd - j ∧ (∀ A ∈ PL, A ∈ PL') ∧ b1 i1 (P r) ∈ PL' ∧ b1 i7 (I (atN cf e (pullAt cf k) : Nat)) ∈ PL' ∧
      Tl PL' r { q with ta := ta', tl := tl' } tb' pre' cs' (l ++ (List.range j).map fun i => Td.get (atN cf e (pullAt cf k)) i (decide (i + 1 = cf.wd))) ∧
      Sep H' (many PL' :: rG r x { q with ta := ta', tl := tl' } :: tdA tb' pre' cs' :: xG m x (rkind cf) cf.en cf.wd :: L) ∧ (0 < j → pre' = [])) cf.wd ?_ ?_
    · refine ⟨0, tb, pre, _, cs, _, _, rfl, Nat.zero_le _, rfl, fun A hA => List.mem_append_right _ hA, .tail _ (.head _), .head _, ?_, h0, fun h => absurd h (by decide)⟩
      refine ⟨ht.ta, by simpa using ht.tl, ?_⟩
      have := ht.ok.mono (PL' := [b1 i7 (I (atN cf e (pullAt cf k) : Nat)), b1 i1 (P r)] ++ PL) fun A hA => List.mem_append_right _ hA
      simpa using this
    rintro n t ys H ⟨j, t', pre', PL', cs', ta', tl', rfl, hj, rfl, hs, m1, m2, hT, h, hpre⟩
    refine cond_of (fun hc => ?_) fun hc => ?_
    · have hc : j < cf.wd := by simpa using hc
      refine Sep.nw h fun i4 H5 h5 => Sep.st0 h5 (Nat.le_of_ble_eq_true rfl) fun H9 h9 => ?_
      -- i4 PL r td x
      have hB := h9.bump 16
      refine ⟨_, pld (k := 1) hB rfl m1 rfl, _, Sep.ld0 hB rfl, _, pld (k := 1) hB rfl m1 rfl, asAddr_in ⟨_, Sep.ld2 hB rfl, asAddr_in ⟨_, Sep.ld4 hB rfl, Sep.nw hB fun nb H18 h18 => ?_⟩⟩⟩
      have eb : (((j : Int) == IntKind.i64.wrap ((cf.wd : Nat) - 1 : Int)) : Bool) = decide (j + 1 = cf.wd) := putB hc (by omega)
      rw [eb] at h18
      have h6 : Sep H18 (many ([b1 i4 (I (j : Int))] ++ PL') :: bx nb (.cells true 2 [cl3 F.ring_Run_pull_1 i1 i7 i4, .bool (decide (j + 1 = cf.wd))]) :: rG r x { q with ta := ta', tl := tl' } :: tdA t' pre' cs' :: xG m x (rkind cf) cf.en cf.wd :: L) := pool_ins [_] (Sep.pick h18 3 [1, 2, 0] (by decide))
      refine planT_s (l' := [Td.get (atN cf e (pullAt cf k)) j (decide (j + 1 = cf.wd))]) (Sep.pick h6 4 [1, 2, 3, 0] (by decide)) ⟨hT.ta, hT.tl, hT.ok.mono fun A hA => List.mem_append_right _ hA⟩ (.one (.get (List.mem_append_right _ m1) (List.mem_append_right _ m2) (.head _))) (by simp) (by simp; omega) fun H20 t2 hT2 h20 => ?_
      refine ⟨rfl, ⟨cf.wd - (j + 1), by omega, j + 1, t2, [], _, _, _, _, by rw [wrap_i64 (by omega)]; omega, hc, rfl, fun A hA => List.mem_append_right _ (hs A hA), List.mem_append_right _ m1, List.mem_append_right _ m2, ?_, Sep.pick h20 4 [3, 1, 2] (by decide), fun _ => rfl⟩, ⟨⟨_, pld (k := 1) hB rfl m1 rfl, rfl⟩, ⟨_, pld (k := 2) h18 rfl m1 rfl, rfl⟩, trivial⟩, trivial⟩
      rw [getsL_upto, ← List.append_assoc]
      exact hT2
    · have hc : j = cf.wd := by
        have : ¬ j < cf.wd := by simpa using hc
        omega
      have eg : ((List.range j).map fun i => Td.get (atN cf e (pullAt cf k)) i (decide (i + 1 = cf.wd))) = getsL (atN cf e (pullAt cf k)) cf.wd := by rw [hc]; rfl
      rw [eg] at hT
      have e6 : ((rkind cf == 6 : Bool)) = !cf.stack := by unfold rkind; cases cf.stack <;> rfl
      have e1 : IntKind.i64.wrap (q.n - 1) = ((k - 1 : Nat) : Int) := by rw [hq.n, wrap_i64 (by omega)]; omega
      have e2 : Int.tmod (IntKind.i64.wrap (q.first + 1)) (cf.en : Int) = (((e + 1) % cf.en : Nat) : Int) := by rw [hq.fi]; exact mod_next he hn
      refine ⟨_, pld (k := 0) h rfl m1 rfl, asAddr_in ⟨_, Sep.ld1 h rfl, ?_⟩⟩
      refine cond_of (fun hp => ?_) fun hp => ?_
      · have hp : q.kind ≠ 7 := by simpa using hp
        refine hR H t' pre' cs' PL' _ hs rfl ?_ (Sep.pick h 4 [1, 2, 0, 3] (by decide))
        unfold pullT
        rw [if_neg hp, List.append_nil]
        exact hT
      have hp : q.kind = 7 := by simpa using hp
      refine ⟨_, pld (k := 0) h rfl m1 rfl, asAddr_in ⟨_, Sep.ld1 h rfl, asAddr_in ⟨_, Sep.ld3 h rfl, ?_⟩⟩⟩
      rw [e6]
      have hlen : (l ++ getsL (atN cf e (pullAt cf k)) cf.wd).length < 99998 := by simp [getsL]; omega
      refine cond_of (fun hst => ?_) fun hst => ?_
      · have hst : cf.stack = false := by simpa using hst
        have hB := h.bump 19
        refine ⟨_, pld (k := 0) hB rfl m1 rfl, _, pld (k := 0) hB rfl m1 rfl, _, pld (k := 0) hB rfl m1 rfl, asAddr_in ⟨_, Sep.ld1 hB rfl, _, pld (k := 0) hB rfl m1 rfl, asAddr_in ⟨_, Sep.ld1 hB rfl, asAddr_in ⟨_, Sep.ld3 hB rfl, (by unfold nz; omega), ?_⟩⟩⟩⟩
        show CA en F.ring_Run_sets [P r, I 2, I (Int.tmod (IntKind.i64.wrap (q.first + 1)) (cf.en : Int))] _ _
        rw [e2]
        refine laySetP_s (i := 2) hB m1 hT (by omega) fun H7 t2 PL2 cs2 hs2 hT2 h7 => ?_
        have hB2 := h7.bump 10
        refine ⟨_, pld (k := 0) hB2 rfl (hs2 _ m1) rfl, _, pld (k := 0) hB2 rfl (hs2 _ m1) rfl, _, pld (k := 0) hB2 rfl (hs2 _ m1) rfl, asAddr_in ⟨_, Sep.ld1 hB2 rfl, ?_⟩⟩
        show CA en F.ring_Run_sets [P r, I 3, I (IntKind.i64.wrap (q.n - 1))] _ _
        rw [e1]
        refine laySetP_s (i := 3) hB2 (hs2 _ m1) hT2 (by simp at hlen ⊢; omega) fun H8 t3 PL3 cs3 hs3 hT3 h8 => ?_
        refine hR H8 t3 [] cs3 PL3 _ (fun A hA => hs3 _ (hs2 _ (hs _ hA))) rfl ?_ (Sep.pick h8 4 [1, 2, 0, 3] (by decide))
        unfold pullT
        rw [if_pos hp, hst]
        have e9 : l ++ (getsL (atN cf e (pullAt cf k)) cf.wd ++ ([Td.set 2 ((e + 1) % cf.en)] ++ [Td.set 3 (k - 1)])) = l ++ getsL (atN cf e (pullAt cf k)) cf.wd ++ [Td.set 2 ((e + 1) % cf.en)] ++ [Td.set 3 (k - 1)] := by simp
        show Tl PL3 r _ t3 [] cs3 (l ++ (getsL (atN cf e (pullAt cf k)) cf.wd ++ ([Td.set 2 ((e + 1) % cf.en)] ++ [Td.set 3 (k - 1)])))
        rw [e9]
        exact hT3
      · have hst : cf.stack = true := by simpa using hst
        have hB2 := h.bump 10
        refine ⟨_, pld (k := 0) hB2 rfl m1 rfl, _, pld (k := 0) hB2 rfl m1 rfl, _, pld (k := 0) hB2 rfl m1 rfl, asAddr_in ⟨_, Sep.ld1 hB2 rfl, ?_⟩⟩
        show CA en F.ring_Run_sets [P r, I 3, I (IntKind.i64.wrap (q.n - 1))] _ _
        rw [e1]
        refine laySetP_s (i := 3) hB2 m1 hT (by omega) fun H8 t3 PL3 cs3 hs3 hT3 h8 => ?_
        refine hR H8 t3 [] cs3 PL3 _ (fun A hA => hs3 _ (hs _ hA)) rfl ?_ (Sep.pick h8 4 [1, 2, 0, 3] (by decide))
        unfold pullT
        rw [if_pos hp, hst]
        show Tl PL3 r _ t3 [] cs3 (l ++ (getsL (atN cf e (pullAt cf k)) cf.wd ++ ([] ++ [Td.set 3 (k - 1)])))
        rw [List.nil_append, ← List.append_assoc]
        exact hT3

/-! ### looks -/
abbrev dropV (g : Nat) : Value := .func (.func F.ring_Run_looks_1) #[] #[P g]
theorem sameDrop (g : Nat) : sameN 8 (.agg #[.func (.func F.ring_Run_looks_1) ⟨[]⟩ ⟨[P g]⟩, .bool false]) (.agg #[.func (.func F.ring_Run_looks_1) ⟨[]⟩ ⟨[P g]⟩, .bool false]) = true := by simp [sameN, sameN.sameL]

theorem layDrop_s {i1 d tb : Nat} {pre cs : List Value} {l : List Td} {A : Prop} (h : Sep H (many PL :: rG r x q :: tdA tb pre cs :: bx d (.cells true 0 [dropV i1, .bool false]) :: L)) (m1 : b1 i1 (P r) ∈ PL) (ht : Tl PL r q tb pre cs l) (hl : l.length < 99999)
    (k : ∀ H' t' cs', Tl PL r { q with ta := some ⟨t', 0, none⟩, tl := q.tl + 1 } t' [] cs' (l ++ [Td.drop]) → Sep H' (many PL :: rG r x { q with ta := some ⟨t', 0, none⟩, tl := q.tl + 1 } :: tdA t' [] cs' :: L) → R undef H') :
    A ∨ ∃ f l c, ∃ b, H.cellsAt d 0 2 = some [.func (.func f) ⟨l⟩ ⟨c⟩, .bool b] ∧ nwH H (.cells true 2 [.func (.func f) ⟨l⟩ ⟨c⟩, .bool b]) fun nb H2 =>
      CA en F.ring_Run_plan [P r, .slice (some ⟨nb, 0, none⟩) 1 0] H2 fun w2 H3 => w2 = undef ∧ R undef H3 := by
  refine .inr ⟨_, _, _, _, Sep.lds3 h rfl, Sep.nw h fun nb H5 h5 => ?_⟩
  refine planT_s (l' := [Td.drop]) (Sep.pick h5 5 [0, 2, 3, 1] (by decide)) ht (.one (.drop m1)) (by simp) (by simp; omega) fun H7 t' hT' h7 => ?_
  exact ⟨rfl, k H7 t' _ hT' (Sep.pick h7 4 [3, 1, 2] (by decide))⟩

theorem layFail_s {i1 d tb : Nat} {er : Int} {pre cs : List Value} {l : List Td} {A : Value → Heap → Prop} {B : FuncId → List Value → List Value → Bool → Heap → Prop} {C1 : FuncId → List Value → List Value → Bool → Prop} {C2 : Heap → FuncId → List Value → List Value → Bool → Prop}
    (h : Sep H (many PL :: rG r x q :: tdA tb pre cs :: bx d (.cells true 0 [dropV i1, .bool false]) :: L)) (m1 : b1 i1 (P r) ∈ PL) (ht : Tl PL r q tb pre cs l) (hl : l.length < 99998)
    (k : ∀ H' t' cs' PL', (∀ A ∈ PL, A ∈ PL') → Tl PL' r { q with ta := some ⟨t', 0, none⟩, tl := q.tl + 2 } t' [] cs' (l ++ [Td.fail er, Td.drop]) → Sep H' (many PL' :: rG r x { q with ta := some ⟨t', 0, none⟩, tl := q.tl + 2 } :: tdA t' [] cs' :: L) → R undef H') :
    CA en F.ring_Run_fails [P r, I er] H fun w H1 => A w H1 ∨ ∃ f l c, ∃ b, w = .agg #[.func (.func f) ⟨l⟩ ⟨c⟩, .bool b] ∧ (B f l c b H1 ∨ ∃ f' l' c', ∃ b', H1.cellsAt d 0 2 = some [.func (.func f') ⟨l'⟩ ⟨c'⟩, .bool b'] ∧
      nwH H1 (.cells true 2 [.func (.func f) ⟨l⟩ ⟨c⟩, .bool b, .func (.func f') ⟨l'⟩ ⟨c'⟩, .bool b']) fun nb H2 =>
      CA en F.ring_Run_plan [P r, .slice (some ⟨nb, 0, none⟩) 2 0] H2 fun w2 H3 => w2 = undef ∧ (R undef H3) ∧
        ((C1 f' l' c' b' ∨ ∃ g l c, ∃ b, H.cellsAt d 0 2 = some [.func (.func g) ⟨l⟩ ⟨c⟩, .bool b] ∧ sameN 8 (.agg #[.func (.func f') ⟨l'⟩ ⟨c'⟩, .bool b']) (.agg #[.func (.func g) ⟨l⟩ ⟨c⟩, .bool b]) = true) ∧
         (C2 H1 f' l' c' b' ∨ ∃ g l c, ∃ b, H1.cellsAt d 0 2 = some [.func (.func g) ⟨l⟩ ⟨c⟩, .bool b] ∧ sameN 8 (.agg #[.func (.func f') ⟨l'⟩ ⟨c'⟩, .bool b']) (.agg #[.func (.func g) ⟨l⟩ ⟨c⟩, .bool b]) = true) ∧ True) ∧
        ((∃ a, H.cell i1 0 = some (.pointer a) ∧ some ⟨r, 0, none⟩ = a) ∧ (∃ a, H1.cell i1 0 = some (.pointer a) ∧ some ⟨r, 0, none⟩ = a) ∧ (∃ a, H2.cell i1 0 = some (.pointer a) ∧ some ⟨r, 0, none⟩ = a) ∧ True) ∧ True) := by
  refine fails_s h fun H4 g1 g2 h4 => .inr ⟨_, _, _, _, rfl, .inr ⟨_, _, _, _, Sep.lds5 h4 rfl, Sep.nw h4 fun nb H5 h5 => ?_⟩⟩
  -- nb g1 g2 PL r td d
  have h6 : Sep H5 (many ([b1 g1 (I er), b1 g2 (P r)] ++ PL) :: bx nb (.cells true 2 [.func (.func F.ring_Run_fails_1) #[] #[P g1, P g2], .bool true, dropV i1, .bool false]) :: rG r x q :: tdA tb pre cs :: L) := pool_ins [_, _] (Sep.pick h5 7 [1, 2, 3, 0, 4, 5] (by decide))
  have hs : ∀ A ∈ PL, A ∈ [b1 g1 (I er), b1 g2 (P r)] ++ PL := fun A h => List.mem_append_right _ h
  have hN : TdsV ([b1 g1 (I er), b1 g2 (P r)] ++ PL) r [Td.fail er, Td.drop] [.func (.func F.ring_Run_fails_1) #[] #[P g1, P g2], .bool true, dropV i1, .bool false] :=
    .cons (c := [.func (.func F.ring_Run_fails_1) #[] #[P g1, P g2], .bool true]) (.fail (.head _) (.tail _ (.head _))) (.one (.drop (hs _ m1)))
  refine planT_s (l' := [Td.fail er, Td.drop]) (Sep.pick h6 4 [1, 2, 3, 0] (by decide)) ⟨ht.ta, ht.tl, ht.ok.mono hs⟩ hN (by simp) (by simp; omega) fun H7 t' hT' h7 => ?_
  exact ⟨rfl, k H7 t' _ _ hs hT' (Sep.pick h7 4 [3, 1, 2] (by decide)), ⟨.inr ⟨_, _, _, _, Sep.lds3 h rfl, sameDrop i1⟩, .inr ⟨_, _, _, _, Sep.lds5 h4 rfl, sameDrop i1⟩, trivial⟩, ⟨⟨_, pld (k := 0) h rfl m1 rfl, rfl⟩, ⟨_, pld (k := 2) h4 rfl m1 rfl, rfl⟩, ⟨_, pld (k := 3) h5 rfl m1 rfl, rfl⟩, trivial⟩, trivial⟩

theorem looks_s {e k tb : Nat} {pre : List Value} {vs : List (BitVec 64)} (h : Sep H (rG r x q :: tdA tb pre [] :: many PL :: gl 1 q.ov (wdR vs) :: xG m x (rkind cf) cf.en cf.wd :: mem m S :: L)) (ht : Tl PL r q tb pre [] []) (o : One S ws c) (hc : c < 4611686018427387904)
    (hw2 : ws[2]? = some (BitVec.ofNat 64 e)) (he : e < cf.en) (hk : k ≤ cf.en) (hn : cf.en ≤ 64) (hw : cf.wd ≤ 64) (hqn : q.n = k) (ho : q.ol = vs.length) (hv : q.ov = none → vs = []) (hvl : vs.length < 1000)
    (hR : ∀ H' S' tb' pre' cs' PL' q', One S' ws (c + 1) → (∀ A ∈ PL, A ∈ PL') → q' = { q with ta := q'.ta, tl := q'.tl, first := e } → Tl PL' r q' tb' pre' cs' (looksT cf q.kind q.fl vs e k) → Sep H' (rG r x q' :: tdA tb' pre' cs' :: many PL' :: gl 1 q.ov (wdR vs) :: xG m x (rkind cf) cf.en cf.wd :: mem m S' :: L) → R undef H') : CA en F.ring_Run_looks [P r] H R := by
  apply vc_ring_Run_looks
  refine Sep.nw h fun i1 H2 h2 => ?_
  have hB := h2.bump 6
  refine ⟨_, Sep.ld0 hB rfl, _, Sep.ld0 hB rfl, ?_⟩
  -- i1 r td PL ov x mem
  refine rgload_s (i := 2) (Sep.pick hB 7 [1, 5, 6, 0, 2, 3, 4] (by decide)) o hc (by have := (List.getElem?_eq_some_iff.1 hw2).1; exact this) fun H6 S' o' h6 => ⟨_, rfl, ?_⟩
  have e1 : IntKind.i64.wrap ((ws.getD 2 0).toNat : Int) = (e : Int) := by
    rw [get2 hw2, BitVec.toNat_ofNat, Nat.mod_eq_of_lt (by omega)]; exact wrap_i64 (by omega)
  rw [e1]
  refine asAddr_in (Sep.st0 h6 (Nat.le_of_ble_eq_true rfl) fun H10 h10 => ⟨?_, ⟨⟨_, Sep.ld0 hB rfl, rfl⟩, ⟨_, Sep.ld3 h6 rfl, rfl⟩, trivial⟩, trivial⟩)
  have h10 : Sep H10 (rG r x { q with first := e } :: xG m x (rkind cf) cf.en cf.wd :: mem m S' :: b1 i1 (P r) :: tdA tb pre [] :: many PL :: gl 1 q.ov (wdR vs) :: L) := h10
  refine Sep.nw h10 fun d H14 h14 => Sep.st0 h14 (Nat.le_of_ble_eq_true rfl) fun H15 h15 => ?_
  -- d r x mem i1 td PL ov
  have h15 : Sep H15 (bx d (.cells true 0 [dropV i1, .bool false]) :: rG r x { q with first := e } :: xG m x (rkind cf) cf.en cf.wd :: mem m S' :: b1 i1 (P r) :: tdA tb pre [] :: many PL :: gl 1 q.ov (wdR vs) :: L) := h15
  have hp : Sep H15 (many ([b1 i1 (P r)] ++ PL) :: rG r x { q with first := e } :: tdA tb pre [] :: bx d (.cells true 0 [dropV i1, .bool false]) :: gl 1 q.ov (wdR vs) :: xG m x (rkind cf) cf.en cf.wd :: mem m S' :: L) := pool_ins [_] (Sep.pick h15 8 [4, 6, 1, 5, 0, 7, 2, 3] (by decide))
  have m1 : b1 i1 (P r) ∈ [b1 i1 (P r)] ++ PL := .head _
  have hs : ∀ A ∈ PL, A ∈ [b1 i1 (P r)] ++ PL := fun A h => List.mem_append_right _ h
  have hT : Tl ([b1 i1 (P r)] ++ PL) r { q with first := e } tb pre [] [] := ⟨ht.ta, ht.tl, ht.ok.mono hs⟩
  refine ⟨fun ys H' => ys = [.bool (decide (q.kind = 6 ∧ k = cf.en ∧ q.fl = 0))] ∧ Sep H' (many ([b1 i1 (P r)] ++ PL) :: rG r x { q with first := e } :: tdA tb pre [] :: bx d (.cells true 0 [dropV i1, .bool false]) :: gl 1 q.ov (wdR vs) :: xG m x (rkind cf) cf.en cf.wd :: mem m S' :: L), ?_, ?_⟩
  · have hB := hp.bump 30
    refine ⟨_, pld (k := 0) hB rfl m1 rfl, asAddr_in ⟨_, Sep.ld1 hB rfl, cond_of (fun h6 => ?_) fun h6 => ⟨⟨?_, hB⟩, trivial⟩⟩⟩
    · have h6 : q.kind = 6 := by simpa using h6
      refine ⟨_, pld (k := 0) hB rfl m1 rfl, asAddr_in ⟨_, Sep.ld1 hB rfl, _, pld (k := 0) hB rfl m1 rfl, asAddr_in ⟨_, Sep.ld1 hB rfl, asAddr_in ⟨_, Sep.ld5 hB rfl, ?_⟩⟩⟩⟩
      have e0 : ((q.n == (cf.en : Int)) : Bool) = decide (k = cf.en) := by rw [hqn]; exact bool_eqn
      refine cond_of (fun h7 => ?_) fun h7 => ⟨⟨?_, hB⟩, trivial⟩
      · have h7 : k = cf.en := by
          have : decide (k = cf.en) = true := by rw [← e0]; exact h7
          simpa using this
        refine ⟨_, pld (k := 0) hB rfl m1 rfl, asAddr_in ⟨_, Sep.ld1 hB rfl, ⟨?_, hB⟩, trivial⟩⟩
        have eb : ((q.fl == 0 : Bool)) = decide (q.kind = 6 ∧ k = cf.en ∧ q.fl = 0) := by rw [Bool.eq_iff_iff]; simp [h6, h7]
        rw [← eb]
      · have h7 : ¬ k = cf.en := by
          have : decide (k = cf.en) = false := by rw [← e0]; exact h7
          simpa using this
        simp [h7]
    · have h6 : ¬ q.kind = 6 := by simpa using h6
      simp [h6]
  · rintro ys H37 b38 ⟨eb, h37⟩
    have eb : b38 = decide (q.kind = 6 ∧ k = cf.en ∧ q.fl = 0) := by simpa using eb
    refine cond_of (fun hb => ?_) fun hb => ?_
    · have hb : q.kind = 6 ∧ k = cf.en ∧ q.fl = 0 := by rw [eb] at hb; simpa using hb
      have hB := h37.bump 6
      refine ⟨_, pld (k := 0) hB rfl m1 rfl, _, pld (k := 0) hB rfl m1 rfl, ?_⟩
      refine layFail_s hB m1 hT (by simp) fun H' t' cs' PL' hs' hT' h' => ?_
      refine hR H' S' t' [] cs' PL' _ o' (fun A hA => hs' _ (hs _ hA)) rfl ?_ (Sep.pick h' 6 [1, 2, 0, 3, 4, 5] (by decide))
      unfold looksT
      rw [if_pos hb.1, if_pos hb.2]
      exact hT'
    · have hb : ¬ (q.kind = 6 ∧ k = cf.en ∧ q.fl = 0) := by rw [eb] at hb; simpa using hb
      refine ⟨_, pld (k := 0) h37 rfl m1 rfl, asAddr_in ⟨_, Sep.ld1 h37 rfl, cond_of (fun h6 => ?_) fun h6 => ?_⟩⟩
      · have h6 : q.kind = 6 := by simpa using h6
        refine ⟨_, pld (k := 0) h37 rfl m1 rfl, ?_⟩
        -- PL r td d ov x mem
        refine push_s (e := e) (k := k) (Sep.pick h37 7 [1, 2, 0, 4, 5, 3, 6] (by decide)) hT ⟨he, hk, hn, hw, rfl, hqn⟩ (by simp) ho hv hvl fun H' tb' cs' PL' q' hs' eq' hT' h' => ⟨rfl, ?_⟩
        -- r td PL ov x d mem
        refine ⟨_, pld (k := 2) h' rfl (hs' _ m1) rfl, layDrop_s (Sep.pick h' 7 [2, 0, 1, 5, 3, 4, 6] (by decide)) (hs' _ m1) hT' (by simp [putsL]; omega) fun H8 t2 cs2 hT2 h8 => ?_⟩
        refine hR H8 S' t2 [] cs2 PL' _ o' (fun A hA => hs' _ (hs _ hA)) (by rw [eq']) ?_ (Sep.pick h8 6 [1, 2, 0, 3, 4, 5] (by decide))
        have hn' : ¬ (k = cf.en ∧ q.fl = 0) := fun hh => hb ⟨h6, hh⟩
        unfold looksT
        rw [if_pos h6, if_neg hn']
        have := hT2
        rw [List.nil_append, List.cons_append] at this
        exact this
      · have h6 : ¬ q.kind = 6 := by simpa using h6
        have e0 : ((q.n == 0 : Bool)) = decide (k = 0) := by rw [hqn]; exact bool_eqn (k := 0)
        refine ⟨_, pld (k := 0) h37 rfl m1 rfl, asAddr_in ⟨_, Sep.ld1 h37 rfl, cond_of (fun h0 => ?_) fun h0 => ?_⟩⟩
        · have h0 : k = 0 := by
            have : decide (k = 0) = true := by rw [← e0]; exact h0
            simpa using this
          have hB := h37.bump 6
          refine ⟨_, pld (k := 0) hB rfl m1 rfl, _, pld (k := 0) hB rfl m1 rfl, ?_⟩
          refine layFail_s hB m1 hT (by simp) fun H' t' cs' PL' hs' hT' h' => ?_
          refine hR H' S' t' [] cs' PL' _ o' (fun A hA => hs' _ (hs _ hA)) rfl ?_ (Sep.pick h' 6 [1, 2, 0, 3, 4, 5] (by decide))
          unfold looksT
          rw [if_neg h6, if_pos h0]
          exact hT'
        · have h0 : ¬ k = 0 := by
            have : decide (k = 0) = false := by rw [← e0]; exact h0
            simpa using this
          refine ⟨_, pld (k := 0) h37 rfl m1 rfl, ?_⟩
          -- PL r td d ov x mem
          refine pull_s (e := e) (k := k) (Sep.pick h37 7 [1, 2, 0, 5, 3, 4, 6] (by decide)) hT ⟨he, hk, hn, hw, rfl, hqn⟩ (by simp) (by omega) fun H' tb' pre' cs' PL' q' hs' eq' hT' h' => ⟨rfl, ?_⟩
          -- r td PL x d ov mem
          refine ⟨_, pld (k := 2) h' rfl (hs' _ m1) rfl, layDrop_s (Sep.pick h' 7 [2, 0, 1, 4, 3, 5, 6] (by decide)) (hs' _ m1) hT' ?_ fun H8 t2 cs2 hT2 h8 => ?_⟩
          · have : (pullT cf q.kind e k).length ≤ cf.wd + 2 := by
              unfold pullT getsL
              split <;> (try split) <;> simp
            simp only [List.nil_append]
            omega
          refine hR H8 S' t2 [] cs2 PL' _ o' (fun A hA => hs' _ (hs _ hA)) (by rw [eq']) ?_ (Sep.pick h8 6 [1, 2, 0, 4, 3, 5] (by decide))
          unfold looksT
          rw [if_neg h6, if_neg h0, ← List.append_assoc]
          have := hT2
          rw [List.nil_append] at this
          exact this
end Go.Proofs.YtgpacebjbdhphaaGreat

/-
  Rings: a run, and what a step of it does.
-/
namespace Go.Proofs.YtgpacebjbdhphaaGreat
open Go Go.AS Go.RowKit
set_option linter.unusedVariables false
variable {H H' : Heap} {m x r b : Nat} {S S' : Sm} {R : Value → Heap → Prop} {L PL : List Asr} {ws : List (BitVec 64)} {c : Int} {q : Rq} {kd en' wd : Int} {cf : Cf}

/-! ### The steps that are known, their blocks being in the pool -/
theorem rgdropP {g : Nat} (h : Sep H (rG r x q :: xG m x kd en' wd :: mem m S :: many PL :: L)) (h1 : b1 g (P r) ∈ PL) (o : One S ws c) (hc : c < 4611686018427387904) (hi : 1 < ws.length) (hw : ws.length ≤ 65536)
    (hR : ∀ H' S', One S' (ws.set 1 (ws.getD 1 0 + 1)) (c + 1) → Sep H' (rG r x q :: xG m x kd en' wd :: mem m S' :: many PL :: L) → R undef H') : CA en F.ring_Run_looks_1 [P g] H R := by
  apply vc_ring_Run_looks_1
  have hB := h.bump 15
  refine asAddr_in ⟨_, pld (k := 3) hB rfl h1 rfl, asAddr_in ⟨_, Sep.ld0 hB rfl, asAddr_in ⟨_, Sep.ld1 hB rfl, asAddr_in ⟨_, pld (k := 3) hB rfl h1 rfl, asAddr_in ⟨_, Sep.ld0 hB rfl, asAddr_in ⟨_, Sep.ld1 hB rfl, ?_⟩⟩⟩⟩⟩⟩
  exact drop_s (i := 0) (Sep.up2 hB) o hc hi hw fun H' S' o' h' => ⟨_, rfl, hR H' S' o' (Sep.pick h' 3 [1, 2, 0] (by decide)), trivial⟩

theorem rgfailP {g1 g2 : Nat} {e : Int} (h : Sep H (rG r x q :: xG m x kd en' wd :: mem m S :: many PL :: L)) (h1 : b1 g1 (I e) ∈ PL) (h2 : b1 g2 (P r) ∈ PL)
    (hR : ∀ H', Sep H' (rG r x { q with no := e } :: xG m x kd en' wd :: mem m S :: many PL :: L) → R undef H') : CA en F.ring_Run_fails_1 [P g1, P g2] H R := by
  apply vc_ring_Run_fails_1
  exact asAddr_in ⟨_, pld (k := 3) h rfl h2 rfl, asAddr_in ⟨_, pld (k := 3) h rfl h1 rfl, asAddr_in (Sep.st0 h (Nat.le_of_ble_eq_true rfl) fun H' h' => hR H' h')⟩⟩

theorem ofInt_nat (n : Nat) : BitVec.ofInt 64 (n : Int) = BitVec.ofNat 64 n := by simp

theorem rgsetP {g1 g2 g3 i v : Nat} (h : Sep H (rG r x q :: xG m x kd en' wd :: mem m S :: many PL :: L)) (h1 : b1 g1 (P r) ∈ PL) (h2 : b1 g2 (I i) ∈ PL) (h3 : b1 g3 (I v) ∈ PL) (o : One S ws c) (hc : c < 4611686018427387904) (hi : i < ws.length)
    (hR : ∀ H' S', One S' (ws.set i (BitVec.ofNat 64 v)) (c + 1) → Sep H' (rG r x q :: xG m x kd en' wd :: mem m S' :: many PL :: L) → R undef H') : CA en F.ring_Run_sets_1 [P g1, P g2, P g3] H R := by
  apply vc_ring_Run_sets_1
  have hB := h.bump 18
  refine asAddr_in ⟨_, pld (k := 3) hB rfl h1 rfl, asAddr_in ⟨_, Sep.ld0 hB rfl, asAddr_in ⟨_, Sep.ld1 hB rfl, asAddr_in ⟨_, pld (k := 3) hB rfl h1 rfl, asAddr_in ⟨_, Sep.ld0 hB rfl, asAddr_in ⟨_, Sep.ld1 hB rfl, asAddr_in ⟨_, pld (k := 3) hB rfl h2 rfl, asAddr_in ⟨_, pld (k := 3) hB rfl h3 rfl, ?_⟩⟩⟩⟩⟩⟩⟩⟩
  rw [wrap_u64, ofInt_nat]
  exact store1_s (Sep.up2 hB) o hc hi fun H' S' o' h' => ⟨_, rfl, hR H' S' o' (Sep.pick h' 3 [1, 2, 0] (by decide)), trivial⟩

theorem rgputP {g1 g2 g3 g4 i j : Nat} {v : BitVec 64} (h : Sep H (rG r x q :: xG m x kd en' wd :: mem m S :: many PL :: L)) (h1 : b1 g1 (P r) ∈ PL) (h2 : b1 g2 (I i) ∈ PL) (h3 : b1 g3 (I j) ∈ PL) (h4 : b1 g4 (W v) ∈ PL) (o : One S ws c) (hc : c < 4611686018427387904) (hi : i + j < ws.length) (hw : ws.length ≤ 65536)
    (hR : ∀ H' S', One S' (ws.set (i + j) v) (c + 1) → Sep H' (rG r x q :: xG m x kd en' wd :: mem m S' :: many PL :: L) → R undef H') : CA en F.ring_Run_push_1 [P g1, P g2, P g3, P g4] H R := by
  apply vc_ring_Run_push_1
  have hB := h.bump 19
  refine asAddr_in ⟨_, pld (k := 3) hB rfl h1 rfl, asAddr_in ⟨_, Sep.ld0 hB rfl, asAddr_in ⟨_, Sep.ld1 hB rfl, asAddr_in ⟨_, pld (k := 3) hB rfl h1 rfl, asAddr_in ⟨_, Sep.ld0 hB rfl, asAddr_in ⟨_, Sep.ld1 hB rfl, asAddr_in ⟨_, pld (k := 3) hB rfl h2 rfl, asAddr_in ⟨_, pld (k := 3) hB rfl h3 rfl, asAddr_in ⟨_, pld (k := 3) hB rfl h4 rfl, ?_⟩⟩⟩⟩⟩⟩⟩⟩⟩
  have e : IntKind.i64.wrap ((i : Int) + (j : Int)) = ((i + j : Nat) : Int) := by rw [wrap_i64 (by omega)]; omega
  rw [e]
  exact store1_s (Sep.up2 hB) o hc hi fun H' S' o' h' => ⟨_, rfl, hR H' S' o' (Sep.pick h' 3 [1, 2, 0] (by decide)), trivial⟩

theorem rggetP {g1 g2 g3 i j : Nat} {vs : List (BitVec 64)} (h : Sep H (rG r x q :: xG m x kd en' wd :: mem m S :: many PL :: gl 1 q.rv (wdR vs) :: L)) (h1 : b1 g1 (P r) ∈ PL) (h2 : b1 g2 (I i) ∈ PL) (h3 : b1 g3 (I j) ∈ PL) (hv : q.rl = vs.length) (hvn : q.rv = none → vs = []) (hvl : vs.length < 100000) (o : One S ws c) (hc : c < 4611686018427387904) (hi : i + j < ws.length) (hw : ws.length ≤ 65536)
    (hR : ∀ H' S' v, One S' ws (c + 1) → Sep H' (rG r x { q with rv := some v, rl := vs.length + 1 } :: xG m x kd en' wd :: mem m S' :: many PL :: gl 1 (some v) (wdR (vs ++ [ws.getD (i + j) 0])) :: L) → R undef H') : CA en F.ring_Run_pull_1 [P g1, P g2, P g3] H R := by
  apply vc_ring_Run_pull_1
  have hB := h.bump 23
  refine asAddr_in ⟨_, pld (k := 3) hB rfl h1 rfl, asAddr_in ⟨_, Sep.ld0 hB rfl, asAddr_in ⟨_, Sep.ld1 hB rfl, asAddr_in ⟨_, pld (k := 3) hB rfl h1 rfl, asAddr_in ⟨_, Sep.ld0 hB rfl, asAddr_in ⟨_, Sep.ld1 hB rfl, asAddr_in ⟨_, pld (k := 3) hB rfl h2 rfl, asAddr_in ⟨_, pld (k := 3) hB rfl h3 rfl, ?_⟩⟩⟩⟩⟩⟩⟩⟩
  have e : IntKind.i64.wrap ((i : Int) + (j : Int)) = ((i + j : Nat) : Int) := by rw [wrap_i64 (by omega)]; omega
  rw [e]
  refine load1_s (Sep.up2 hB) o hc hi fun H2 S2 o2 h2' => ⟨_, _, rfl, ⟨?_, trivial⟩⟩
  have h3' : Sep H2 (rG r x q :: xG m x kd en' wd :: mem m S2 :: many PL :: gl 1 q.rv (wdR vs) :: L) := Sep.pick h2' 3 [1, 2, 0] (by decide)
  have h4 := h3'.bump 13
  refine asAddr_in ⟨_, pld (k := 3) h4 rfl h1 rfl, asAddr_in ⟨_, pld (k := 3) h4 rfl h1 rfl, asAddr_in ⟨_, _, Sep.ld0 h4 rfl, Sep.nw h4 fun i5 H6 h6 => ⟨[W (ws.getD (i + j) 0)], rowOf_bx (es := 1) (n := 1) (b := i5) (Sep.get0 h6) (by decide) rfl, ?_⟩⟩⟩⟩
  refine apd_gl (b := q.rv) (cs := wdR vs) (new := [W (ws.getD (i + j) 0)]) (Sep.up5 h6) (fun e => by rw [hvn e]; rfl) (by decide) (by rw [hv]; simp) (by decide) rfl (by omega) fun H7 v h7 => ?_
  -- v i5 r x mem PL
  refine asAddr_in (Sep.st2 h7 (Nat.le_of_ble_eq_true rfl) fun H8 h8 => ?_)
  refine ⟨hR H8 S2 v o2 ?_, ⟨⟨_, _, Sep.ld0 h4 rfl, rfl, rfl, rfl⟩, ⟨_, _, Sep.ld1 h6 rfl, rfl, rfl, rfl⟩, trivial⟩, ⟨asAddr_in ⟨_, pld (k := 3) h4 rfl h1 rfl, rfl⟩, asAddr_in ⟨_, pld (k := 4) h6 rfl h1 rfl, rfl⟩, trivial⟩, ⟨asAddr_in ⟨_, pld (k := 3) h4 rfl h1 rfl, rfl⟩, asAddr_in ⟨_, pld (k := 4) h6 rfl h1 rfl, rfl⟩, asAddr_in ⟨_, pld (k := 5) h7 rfl h1 rfl, rfl⟩, trivial⟩, trivial⟩
  have ew : wdR (vs ++ [ws.getD (i + j) 0]) = wdR vs ++ [W (ws.getD (i + j) 0)] := by simp
  rw [ew, ← hv]
  exact Sep.pick h8 6 [2, 3, 4, 5, 0] (by decide)

/-! ### A step of a run that has the lock -/
/-- All blocks of a run. -/
abbrev runL (m r x : Nat) (cf : Cf) (q : Rq) (tb : Nat) (pre cs : List Value) (PL : List Asr) (vs rs : List (BitVec 64)) (S : Sm) (L : List Asr) : List Asr :=
  rG r x q :: tdA tb pre cs :: many PL :: gl 1 q.ov (wdR vs) :: gl 1 q.rv (wdR rs) :: xG m x (rkind cf) cf.en cf.wd :: mem m S :: L

/-- The lengths of a run's words. -/
structure Rn (vs rs : List (BitVec 64)) (q : Rq) : Prop where
  ol : q.ol = vs.length
  on : q.ov = none → vs = []
  rl : q.rl = rs.length
  rn : q.rv = none → rs = []
  l1 : vs.length < 1000
  l2 : rs.length < 1000

theorem done_of {l : List Td} {e : Bool} {q' : Rq} {L' : List Asr} (hq : q'.tl = l.length) (hd : q'.done = false) (k : ∀ H3, Sep H3 (rG r x { q' with done := l.isEmpty } :: L') → R (.tuple #[.bool e, .bool l.isEmpty]) H3) :
    (q'.tl = 0 → ∀ H3, Sep H3 (rG r x { q' with done := true } :: L') → R (.tuple #[.bool e, .bool true]) H3) ∧ (q'.tl ≠ 0 → ∀ H3, Sep H3 (rG r x q' :: L') → R (.tuple #[.bool e, .bool false]) H3) := by
  cases l with
  | nil => exact ⟨fun _ => k, fun h => absurd hq h⟩
  | cons t l =>
    refine ⟨fun h => ?_, fun _ H3 h3 => k H3 ?_⟩
    · rw [hq] at h; simp at h
    · have e : ({ q' with done := false } : Rq) = q' := by rw [← hd]
      show Sep H3 (rG r x ({ q' with done := false } : Rq) :: L')
      rw [e]; exact h3

theorem tdo_s {t : Td} {l : List Td} {tb : Nat} {pre cs : List Value} {vs rs : List (BitVec 64)} (h : Sep H (runL m r x cf q tb pre cs PL vs rs S L)) (hd : q.done = false) (hh : q.has = true) (ht : Tl PL r q tb pre cs (t :: l)) (hn : Rn vs rs q) (hrs : rs.length < 500) (o : One S ws c) (hc : c < 4611686018427387904) (hf : t.fit ws.length) (hw4 : 4 ≤ ws.length) (hw : ws.length ≤ 65536)
    (hR : ∀ H' S' pre' cs' c' ta' tl' rv' rl', One S' (t.ws ws) c' → c ≤ c' → c' ≤ c + 1 → Tl PL r { q with ta := ta', tl := tl', no := t.no q.no, rv := rv', rl := rl', done := l.isEmpty } tb pre' cs' l → Rn vs (t.vs ws rs) { q with ta := ta', tl := tl', no := t.no q.no, rv := rv', rl := rl', done := l.isEmpty } →
      Sep H' (runL m r x cf { q with ta := ta', tl := tl', no := t.no q.no, rv := rv', rl := rl', done := l.isEmpty } tb pre' cs' PL vs (t.vs ws rs) S' L) → R (.tuple #[.bool t.eff, .bool l.isEmpty]) H') :
    CA en F.ring_Run_Step [P r] H R := by
  obtain ⟨hta, htl, hok⟩ := ht
  cases hok with
  | @cons _ _ c1 cs1 hv hs =>
  have key : ∀ (f : FuncId) (cc : List Value) (e : Bool), c1 = [.func (.func f) ⟨[]⟩ ⟨cc⟩, .bool e] → e = t.eff → (en.fn f).isSome = true →
      (∀ H' g, Sep H' (rG r x { q with ta := some ⟨tb, pre.length + 2, none⟩, tl := l.length } :: xG m x (rkind cf) cf.en cf.wd :: mem m S :: many PL :: gl 1 q.rv (wdR rs) :: bx g (.cells true 0 [.func (.func f) ⟨[]⟩ ⟨cc⟩, .bool e]) :: bx tb (.cells true 2 (pre ++ (.func (.func f) ⟨[]⟩ ⟨cc⟩ :: .bool e :: cs1))) :: gl 1 q.ov (wdR vs) :: L) →
        CA en f cc H' fun v H2 => v = undef ∧ ∃ S' c' rv', One S' (t.ws ws) c' ∧ c ≤ c' ∧ c' ≤ c + 1 ∧ (rv' = none → t.vs ws rs = []) ∧
          Sep H2 (rG r x { q with ta := some ⟨tb, pre.length + 2, none⟩, tl := l.length, no := t.no q.no, rv := rv', rl := (t.vs ws rs).length } :: xG m x (rkind cf) cf.en cf.wd :: mem m S' :: many PL :: gl 1 rv' (wdR (t.vs ws rs)) :: bx g (.cells true 0 [.func (.func f) ⟨[]⟩ ⟨cc⟩, .bool e]) :: bx tb (.cells true 2 (pre ++ (.func (.func f) ⟨[]⟩ ⟨cc⟩ :: .bool e :: cs1))) :: gl 1 q.ov (wdR vs) :: L)) →
      CA en F.ring_Run_Step [P r] H R := by
    intro f cc e ec ee hsome hC
    subst ec
    have h1 : Sep H (rG r x q :: bx tb (.cells true 2 (pre ++ (.func (.func f) ⟨[]⟩ ⟨cc⟩ :: .bool e :: cs1))) :: many PL :: gl 1 q.ov (wdR vs) :: gl 1 q.rv (wdR rs) :: xG m x (rkind cf) cf.en cf.wd :: mem m S :: L) := h
    refine stepDo_s (n := l.length) h1 hd hh hta (by rw [htl]; rfl) hsome fun H' g h2 => ?_
    -- g r td PL ov rv x mem
    refine CA.mono (hC H' g (Sep.pick h2 8 [1, 6, 7, 3, 5, 0, 2, 4] (by decide))) fun v H2 ⟨ev, S', c', rv', o', b1', b2', hrv, h3⟩ => ⟨ev, _, _, ?_, Sep.pick h3 8 [5, 0, 6, 3, 7, 4, 1, 2] (by decide), ?_⟩
    · exact hd
    · refine done_of (l := l) rfl hd fun H3 h4 => ?_
      rw [ee]
      have hp : pre ++ (.func (.func f) ⟨[]⟩ ⟨cc⟩ :: .bool e :: cs1) = (pre ++ [.func (.func f) ⟨[]⟩ ⟨cc⟩, .bool e]) ++ cs1 := by simp
      have hpl : (pre ++ [Value.func (.func f) ⟨[]⟩ ⟨cc⟩, .bool e]).length = pre.length + 2 := by simp
      rw [hp, ← hpl] at h4
      refine hR H3 S' (pre ++ [.func (.func f) ⟨[]⟩ ⟨cc⟩, .bool e]) cs1 c' _ _ rv' _ o' b1' b2' ⟨rfl, rfl, hs⟩ ⟨hn.ol, hn.on, rfl, hrv, hn.l1, ?_⟩ h4
      cases t <;> simp [Td.vs] <;> omega
  cases hv with
  | counts => exact absurd hf id
  | looks => exact absurd hf id
  | set h1 h2 h3 =>
    refine key _ _ _ rfl rfl (by kernel_rfl) fun H' g h' => ?_
    exact rgsetP h' h1 h2 h3 o hc hf.1 fun H2 S' o' h2 => ⟨rfl, S', _, q.rv, o', by omega, by omega, hn.rn, by have := hn.rl; rw [this] at h2; exact h2⟩
  | put h1 h2 h3 h4 =>
    refine key _ _ _ rfl rfl (by kernel_rfl) fun H' g h' => ?_
    exact rgputP h' h1 h2 h3 h4 o hc hf.1 hw fun H2 S' o' h2 => ⟨rfl, S', _, q.rv, o', by omega, by omega, hn.rn, by have := hn.rl; rw [this] at h2; exact h2⟩
  | @get i j g1 g2 g3 b h1 h2 h3 =>
    refine key _ _ _ rfl rfl (by kernel_rfl) fun H' g h' => ?_
    refine rggetP h' h1 h2 h3 hn.rl hn.rn (by omega) o hc hf.1 hw fun H2 S' v o' h2 => ⟨rfl, S', _, some v, o', by omega, by omega, (fun e => by cases e), ?_⟩
    have e : (rs ++ [ws.getD (i + j) 0]).length = rs.length + 1 := List.length_append
    rw [← e] at h2
    exact h2
  | fail h1 h2 =>
    refine key _ _ _ rfl rfl (by kernel_rfl) fun H' g h' => ?_
    exact rgfailP h' h1 h2 fun H2 h2 => ⟨rfl, S, c, q.rv, o, by omega, by omega, hn.rn, by have := hn.rl; rw [this] at h2; exact h2⟩
  | drop h1 =>
    refine key _ _ _ rfl rfl (by kernel_rfl) fun H' g h' => ?_
    exact rgdropP h' h1 o hc (by omega) hw fun H2 S' o' h2 => ⟨rfl, S', _, q.rv, o', by omega, by omega, hn.rn, by have := hn.rl; rw [this] at h2; exact h2⟩

theorem stepCounts_s {tb : Nat} {pre cs : List Value} {vs rs : List (BitVec 64)} {k : Nat} (h : Sep H (runL m r x cf q tb pre cs PL vs rs S L)) (hd : q.done = false) (hh : q.has = true) (ht : Tl PL r q tb pre cs [.counts, .looks]) (o : One S ws c) (hc : c < 4611686018427387904) (hk : ws[3]? = some (BitVec.ofNat 64 k)) (hk2 : k ≤ 64)
    (hR : ∀ H' S' pre' cs', One S' ws (c + 1) → Tl PL r { q with ta := some ⟨tb, pre'.length, none⟩, tl := 1, n := k } tb pre' cs' [.looks] → Sep H' (runL m r x cf { q with ta := some ⟨tb, pre'.length, none⟩, tl := 1, n := k } tb pre' cs' PL vs rs S' L) → R (.tuple #[.bool false, .bool false]) H') :
    CA en F.ring_Run_Step [P r] H R := by
  obtain ⟨hta, htl, hok⟩ := ht
  cases hok with
  | @cons _ _ c1 cs1 hv hs =>
  cases hv with
  | counts =>
  have h1 : Sep H (rG r x q :: bx tb (.cells true 2 (pre ++ (fnR F.ring_Run_counts r :: .bool false :: cs1))) :: many PL :: gl 1 q.ov (wdR vs) :: gl 1 q.rv (wdR rs) :: xG m x (rkind cf) cf.en cf.wd :: mem m S :: L) := h
  refine stepDo_s (n := 1) h1 hd hh hta (by rw [htl]; rfl) (by kernel_rfl) fun H' g h2 => ?_
  have h3 : 3 < ws.length := (List.getElem?_eq_some_iff.1 hk).1
  show CA en F.ring_Run_counts [P r] H' _
  -- g r td PL ov rv x mem
  refine rgcounts_s (Sep.pick h2 8 [1, 6, 7, 0, 2, 3, 4, 5] (by decide)) o hc h3 fun H2 S' o' h4 => ⟨rfl, _, _, ?_, Sep.pick h4 8 [3, 0, 4, 5, 6, 7, 1, 2] (by decide), fun z => absurd z (by show 1 ≠ 0; decide), fun _ H3 h5 => ?_⟩
  · exact hd
  · have e1 : IntKind.i64.wrap ((ws.getD 3 0).toNat : Int) = (k : Int) := by
      rw [get2 hk, BitVec.toNat_ofNat, Nat.mod_eq_of_lt (by omega)]; exact wrap_i64 (by omega)
    rw [e1] at h5
    have hp : pre ++ (fnR F.ring_Run_counts r :: .bool false :: cs1) = (pre ++ [fnR F.ring_Run_counts r, .bool false]) ++ cs1 := by simp
    have hpl : (pre ++ [fnR F.ring_Run_counts r, .bool false]).length = pre.length + 2 := by simp
    rw [hp, ← hpl] at h5
    exact hR H3 S' _ cs1 o' ⟨rfl, rfl, hs⟩ h5

theorem looksT_len (kind flag : Int) (vs : Ws) (e k : Nat) : looksT cf kind flag vs e k ≠ [] := by
  unfold looksT
  split
  · split <;> simp
  · split <;> simp

theorem stepLooks_s {tb : Nat} {pre cs : List Value} {vs rs : List (BitVec 64)} {e k : Nat} (h : Sep H (runL m r x cf q tb pre cs PL vs rs S L)) (hd : q.done = false) (hh : q.has = true) (ht : Tl PL r q tb pre cs [.looks]) (hn : Rn vs rs q) (o : One S ws c) (hc : c < 4611686018427387904)
    (hw2 : ws[2]? = some (BitVec.ofNat 64 e)) (he : e < cf.en) (hk : k ≤ cf.en) (hne : cf.en ≤ 64) (hw : cf.wd ≤ 64) (hqn : q.n = k)
    (hR : ∀ H' S' tb' pre' cs' PL' ta' tl', One S' ws (c + 1) → (∀ A ∈ PL, A ∈ PL') → Tl PL' r { q with ta := ta', tl := tl', first := e } tb' pre' cs' (looksT cf q.kind q.fl vs e k) → Sep H' (runL m r x cf { q with ta := ta', tl := tl', first := e } tb' pre' cs' PL' vs rs S' L) → R (.tuple #[.bool false, .bool false]) H') :
    CA en F.ring_Run_Step [P r] H R := by
  obtain ⟨hta, htl, hok⟩ := ht
  cases hok with
  | @cons _ _ c1 cs1 hv hs =>
  cases hs
  cases hv with
  | looks =>
  have h1 : Sep H (rG r x q :: bx tb (.cells true 2 (pre ++ (fnR F.ring_Run_looks r :: .bool false :: []))) :: many PL :: gl 1 q.ov (wdR vs) :: gl 1 q.rv (wdR rs) :: xG m x (rkind cf) cf.en cf.wd :: mem m S :: L) := h
  refine stepDo_s (n := 0) h1 hd hh hta (by rw [htl]; rfl) (by kernel_rfl) fun H' g h2 => ?_
  show CA en F.ring_Run_looks [P r] H' _
  have hp : pre ++ (fnR F.ring_Run_looks r :: .bool false :: []) = (pre ++ [fnR F.ring_Run_looks r, .bool false]) ++ [] := by simp
  have hpl : (pre ++ [fnR F.ring_Run_looks r, .bool false]).length = pre.length + 2 := by simp
  -- g r td PL ov rv x mem
  have h2' := Sep.pick h2 8 [1, 2, 3, 4, 6, 7, 0, 5] (by decide)
  rw [hp, ← hpl] at h2'
  refine looks_s h2' ⟨rfl, rfl, .nil⟩ o hc hw2 he hk hne hw hqn hn.ol hn.on hn.l1 fun H2 S' tb' pre' cs' PL' q' o' hs' eq' hT' h4 => ⟨rfl, q', _, ?_, Sep.pick h4 8 [6, 0, 1, 2, 3, 4, 5, 7] (by decide), fun z => ?_, fun z H3 h5 => ?_⟩
  · rw [eq']; exact hd
  · exact absurd (List.length_eq_zero_iff.1 (hT'.tl.symm.trans z)) (looksT_len _ _ _ _ _)
  · -- r td PL ov x mem rv
    have h6 := Sep.pick h5 7 [0, 1, 2, 3, 6, 4, 5] (by decide)
    have hh := hR H3 S' tb' pre' cs' PL' q'.ta q'.tl o' hs'
    have eq2 : ({ q with ta := q'.ta, tl := q'.tl, first := (e : Int) } : Rq) = q' := by rw [eq']
    rw [eq2] at hh
    refine hh hT' ?_
    have e1 : q'.ov = q.ov := by rw [eq']
    have e2 : q'.rv = q.rv := by rw [eq']
    show Sep H3 (rG r x q' :: tdA tb' pre' cs' :: many PL' :: gl 1 q'.ov (wdR vs) :: gl 1 q'.rv (wdR rs) :: _)
    rw [e1, e2]
    exact h6
end Go.Proofs.YtgpacebjbdhphaaGreat

/-
  Rings: a run that is alone, from its beginning to its end.
-/
namespace Go.Proofs.YtgpacebjbdhphaaGreat
open Go Go.AS Go.RowKit
set_option linter.unusedVariables false
variable {H H' : Heap} {R : Value → Heap → Prop}

/-- What a run begins with: the ring, the operation, the words. -/
structure Cx where
  m : Nat
  r : Nat
  x : Nat
  b : Nat
  cf : Cf
  kind : Int
  key : Int
  fl : Int
  el : Int
  vs : Ws
  ov : Option Nat
  ws : Ws
  l : List Ws
  e : Nat
  c : Int
  L : List Asr
structure Cx.Ok (X : Cx) : Prop where
  hn : X.ov = none → X.vs = []
  hv : X.vs.length < 400
  ri : RI X.cf X.e X.ws X.l
  hs : X.ws.getD 0 0 = X.ws.getD 1 0
  hk : X.kind = 6 → X.vs.length = X.cf.wd
  hc : X.c + 1000 < 4611686018427387904
def Cx.q0 (X : Cx) : Rq := ⟨X.kind, X.key, X.ov, X.vs.length, X.fl, X.el, P X.b, none, 0, 0, none, 0, 0, 0, false, false, 0, 0⟩
def Cx.ws1 (X : Cx) : Ws := X.ws.set 0 (X.ws.getD 0 0 + 1)
def Cx.T (X : Cx) : List Td := looksT X.cf X.kind X.fl X.vs X.e X.l.length
def Cx.ans (X : Cx) : Int × Ws × List Ws := rdo X.cf X.kind X.fl X.vs X.l

theorem Cx.Ok.len {X : Cx} (k : X.Ok) : 4 ≤ X.ws.length ∧ X.ws.length ≤ 65536 := by
  have h := k.ri.len
  have : X.cf.en * X.cf.wd ≤ 64 * 64 := Nat.mul_le_mul k.ri.hn k.ri.hw2
  omega
theorem Cx.Ok.ri1 {X : Cx} (k : X.Ok) : RI X.cf X.e X.ws1 X.l := by
  refine k.ri.low (by simp [Cx.ws1]) fun p hp => ?_
  exact List.getElem?_set_ne (by omega)
theorem Cx.Ok.ws1_len {X : Cx} (k : X.Ok) : X.ws1.length = X.ws.length := by simp [Cx.ws1]
theorem Cx.Ok.does {X : Cx} (k : X.Ok) : RgDoes X.cf X.T X.ws1 X.ans.1 X.ans.2.1 X.ans.2.2 := looksT_ok k.ri1 k.hk
theorem Cx.Ok.got {X : Cx} (k : X.Ok) : X.ws1.getD 1 0 = X.ws.getD 0 0 := by
  rw [k.hs]
  show (X.ws.set 0 _).getD 1 0 = _
  rw [List.getD_eq_getElem?_getD, List.getElem?_set_ne (by omega), ← List.getD_eq_getElem?_getD]

/-- How far it is. -/
inductive PS where
  | draw
  | wait
  | cnt
  | lk
  | todo (T : List Td)
def PS.left (N : Nat) : PS → Nat
  | .draw => N + 4
  | .wait => N + 3
  | .cnt => N + 2
  | .lk => N + 1
  | .todo T => T.length

/-- The rest of a run's operation: what no step turns. -/
structure Cx.Same (X : Cx) (q : Rq) : Prop where
  kind : q.kind = X.kind
  fl : q.fl = X.fl
  ov : q.ov = X.ov
  ol : q.ol = X.vs.length
  rk : q.rk = 0
  re : q.re = 0

def Cx.run (X : Cx) (H : Heap) (q : Rq) (T : List Td) (rs : Ws) (S : Sm) : Prop :=
  ∃ tb pre cs PL, Tl PL X.r q tb pre cs T ∧ X.Same q ∧ Rn X.vs rs q ∧ q.has = true ∧ Sep H (runL X.m X.r X.x X.cf q tb pre cs PL X.vs rs S X.L)

def Cx.at (X : Cx) (H : Heap) (eff : Int) : PS → Prop
  | .draw => eff = 0 ∧ ∃ S, One S X.ws X.c ∧ Sep H (rG X.r X.x X.q0 :: tk X.m 0 0 F.lock_Taker_draw X.b :: mem X.m S :: gl 1 X.ov (wdR X.vs) :: xG X.m X.x (rkind X.cf) X.cf.en X.cf.wd :: X.L)
  | .wait => eff = 0 ∧ ∃ S c, One S X.ws1 c ∧ c ≤ X.c + 1 ∧ Sep H (rG X.r X.x X.q0 :: tk X.m 0 (X.ws.getD 0 0) F.lock_Taker_wait X.b :: mem X.m S :: gl 1 X.ov (wdR X.vs) :: xG X.m X.x (rkind X.cf) X.cf.en X.cf.wd :: X.L)
  | .cnt => eff = 0 ∧ ∃ S c q, One S X.ws1 c ∧ c ≤ X.c + 2 ∧ q.done = false ∧ q.no = 0 ∧ X.run H q [.counts, .looks] [] S
  | .lk => eff = 0 ∧ ∃ S c q, One S X.ws1 c ∧ c ≤ X.c + 3 ∧ q.done = false ∧ q.no = 0 ∧ q.n = (X.l.length : Int) ∧ X.run H q [.looks] [] S
  | .todo T => ∃ S c q ws rs, One S ws c ∧ c + T.length ≤ X.c + 4 + X.T.length ∧ T ≠ [] ∧ rs.length + T.length ≤ X.T.length ∧ q.done = false ∧ ws.length = X.ws.length ∧ runTds T ws = runTds X.T X.ws1 ∧ gotW T ws rs = X.ans.2.1 ∧ noT T q.no = X.ans.1 ∧ eff + effT T = 1 ∧ (∀ t ∈ T, t.fit ws.length) ∧ X.run H q T rs S
/-- It is done. -/
def Cx.fin (X : Cx) (H : Heap) (eff : Int) : Prop :=
  eff = 1 ∧ ∃ S c q, One S (runTds X.T X.ws1) c ∧ c ≤ X.c + 4 + X.T.length ∧ q.done = true ∧ q.no = X.ans.1 ∧ X.ans.2.1.length ≤ 100 ∧ X.run H q [] X.ans.2.1 S

theorem alone_step {X : Cx} (k : X.Ok) {st : PS} {eff : Int} (h : X.at H eff st) :
    CA en F.ring_Run_Step [P X.r] H fun v H' => ∃ f d, v = .tuple #[.bool f, .bool d] ∧ (d = false → ∃ st', st'.left X.T.length < st.left X.T.length ∧ X.at H' (eff + if f then 1 else 0) st') ∧ (d = true → X.fin H' (eff + if f then 1 else 0)) := by
  obtain ⟨hw4, hw⟩ := k.len
  have hlen := k.ws1_len
  have hc := k.hc
  have hd := k.does
  have hTl : X.T.length ≤ 67 := by have := hd.len; have := k.ri.hw2; omega
  cases st with
  | draw =>
    obtain ⟨rfl, S, o, h⟩ := h
    refine stepWait_s (q := X.q0) h rfl rfl rfl ?_
    refine draw_s (i := 0) (Sep.pick h 3 [1, 2, 0] (by decide)) o (by omega) (by omega) fun H' S' o' h' => ⟨rfl, _, Sep.pick h' 3 [2, 0, 1] (by decide), fun H2 h2 => ?_⟩
    exact ⟨false, false, rfl, fun _ => ⟨.wait, Nat.lt_succ_self _, rfl, S', _, o', by omega, h2⟩, fun e => by cases e⟩
  | wait =>
    obtain ⟨rfl, S, c, o, hcc, h⟩ := h
    refine stepGot_s (q := X.q0) h rfl rfl rfl rfl rfl ?_
    refine wait_s (i := 0) (Sep.pick h 3 [1, 2, 0] (by decide)) o (by omega) (by rw [hlen]; omega) (by rw [hlen]; exact hw) fun H' S' o' h' => ?_
    rw [k.got] at h' ⊢
    refine ⟨by simp, _, Sep.pick h' 3 [2, 0, 1] (by decide), fun H2 t' h2 => ?_⟩
    -- r td tk mem ov x
    refine ⟨false, false, rfl, fun _ => ⟨.cnt, Nat.lt_succ_self _, rfl, S', _, { X.q0 with has := true, ta := some ⟨t', 0, none⟩, tl := 2 }, o', by omega, rfl, rfl, t', [], _, [], ⟨rfl, rfl, .cons (c := [_, _]) .counts (.one .looks)⟩, ⟨rfl, rfl, rfl, rfl, rfl, rfl⟩, ⟨rfl, k.hn, rfl, fun _ => rfl, by have := k.hv; omega, by simp⟩, rfl, ?_⟩, fun e => by cases e⟩
    have h3 := Sep.pick h2 6 [0, 1, 4, 5, 3] (by decide)
    -- r td ov x mem
    have h4 : Sep H2 (many [] :: _) := Sep.many_iff.2 h3
    have h5 : Sep H2 (gl 1 none [] :: _) := gl_none.2 h4
    exact Sep.pick h5 7 [2, 3, 1, 4, 0, 5, 6] (by decide)
  | cnt =>
    obtain ⟨rfl, S, c, q, o, hcc, hdn, hno, tb, pre, cs, PL, hT, hS, hR, hh, h⟩ := h
    refine stepCounts_s (k := X.l.length) h hdn hh hT o (by omega) k.ri1.w3 (by have := k.ri.fit; have := k.ri.hn; omega) fun H' S' pre' cs' o' hT' h' => ?_
    exact ⟨false, false, rfl, fun _ => ⟨.lk, Nat.lt_succ_self _, rfl, S', _, { q with ta := some ⟨tb, pre'.length, none⟩, tl := 1, n := (X.l.length : Int) }, o', by omega, hdn, hno, rfl, tb, pre', cs', PL, hT', ⟨hS.kind, hS.fl, hS.ov, hS.ol, hS.rk, hS.re⟩, ⟨hR.ol, hR.on, hR.rl, hR.rn, hR.l1, hR.l2⟩, hh, h'⟩, fun e => by cases e⟩
  | lk =>
    obtain ⟨rfl, S, c, q, o, hcc, hdn, hno, hqn, tb, pre, cs, PL, hT, hS, hR, hh, h⟩ := h
    refine stepLooks_s (e := X.e) (k := X.l.length) h hdn hh hT hR o (by omega) k.ri1.w2 k.ri.he k.ri.fit k.ri.hn k.ri.hw2 hqn fun H' S' tb' pre' cs' PL' ta' tl' o' _ hT' h' => ?_
    have eT : looksT X.cf q.kind q.fl X.vs X.e X.l.length = X.T := by rw [hS.kind, hS.fl]; rfl
    rw [eT] at hT'
    refine ⟨false, false, rfl, fun _ => ⟨.todo X.T, Nat.lt_succ_self _, S', _, { q with ta := ta', tl := tl', first := (X.e : Int) }, X.ws1, [], o', by omega, looksT_len _ _ _ _ _, by simp, hdn, hlen, rfl, hd.vs, ?_, by rw [hd.eff]; rfl, hd.fit, tb', pre', cs', PL', hT', ⟨hS.kind, hS.fl, hS.ov, hS.ol, hS.rk, hS.re⟩, ⟨hR.ol, hR.on, hR.rl, hR.rn, hR.l1, hR.l2⟩, hh, h'⟩, fun e => by cases e⟩
    show noT X.T q.no = _
    rw [hno]; exact hd.no
  | todo T =>
    obtain ⟨S, c, q, ws, rs, o, hcc, hne, hrs, hdn, hwl, hrun, hgot, hnoT, heff, hfit, tb, pre, cs, PL, hT, hS, hR, hh, h⟩ := h
    cases T with
    | nil => exact absurd rfl hne
    | cons t T =>
    simp only [List.length_cons] at hcc hrs
    refine tdo_s h hdn hh hT hR (by omega) o (by omega) (hfit t (.head _)) (by omega) (by omega) fun H' S' pre' cs' c' ta' tl' rv' rl' o' hb1 hb2 hT' hR' h' => ?_
    have hl := t.ws_len ws
    have hvs : (t.vs ws rs).length ≤ rs.length + 1 := by cases t <;> simp [Td.vs]
    have he : (eff + if t.eff then 1 else 0) + effT T = 1 := by
      rw [← heff]; show _ = eff + ((if t.eff then 1 else 0) + effT T : Nat)
      cases t.eff <;> simp <;> omega
    refine ⟨_, _, rfl, fun hf => ⟨.todo T, Nat.lt_succ_self _, S', c', { q with ta := ta', tl := tl', no := t.no q.no, rv := rv', rl := rl', done := T.isEmpty }, t.ws ws, t.vs ws rs, o', by omega, ?_, by omega, hf, by omega, hrun, hgot, hnoT, he, ?_, tb, pre', cs', PL, hT', ⟨hS.kind, hS.fl, hS.ov, hS.ol, hS.rk, hS.re⟩, hR', hh, h'⟩, fun hf => ?_⟩
    · rintro rfl; cases hf
    · intro u hu; rw [hl]; exact hfit u (.tail _ hu)
    · have hT0 : T = [] := by simpa using hf
      subst hT0
      have hrun : t.ws ws = runTds X.T X.ws1 := hrun
      have hgot : t.vs ws rs = X.ans.2.1 := hgot
      have hnoT : t.no q.no = X.ans.1 := hnoT
      rw [hrun] at o'
      rw [hgot] at h' hR' hvs
      exact ⟨by simpa [effT] using he, S', c', { q with ta := ta', tl := tl', no := t.no q.no, rv := rv', rl := rl', done := true }, o', by simp at hcc; omega, rfl, hnoT, by omega, tb, pre', cs', PL, hT', ⟨hS.kind, hS.fl, hS.ov, hS.ol, hS.rk, hS.re⟩, hR', hh, h'⟩

theorem PS.left_pos {X : Cx} {st : PS} {eff : Int} (h : X.at H eff st) : 0 < st.left X.T.length := by
  cases st with
  | todo T =>
    obtain ⟨S, c, q, ws, rs, o, hcc, hne, _⟩ := h
    exact List.length_pos_iff.2 hne
  | _ => exact Nat.succ_pos _

/-- The words, when it is done. -/
theorem Cx.Ok.rest {X : Cx} (k : X.Ok) : (runTds X.T X.ws1).getD 0 0 = (runTds X.T X.ws1).getD 1 0 := by
  obtain ⟨hw4, hw⟩ := k.len
  have hlen := k.ws1_len
  have hd := k.does
  rw [fit_l1 hd.fit (by omega), k.got, show dropsT X.T = 1 from looks_drops _ _ _ _ _ _, List.getD_eq_getElem?_getD, fit_lo hd.fit (by omega)]
  show ((X.ws.set 0 _)[0]?).getD 0 = _
  rw [List.getElem?_set_self (by omega)]
  rfl

theorem finish_s {X : Cx} {S : Sm} (k : X.Ok) (hwd : X.cf.wd ≤ 4) (o : One S X.ws X.c)
    (h : Sep H (rG X.r X.x X.q0 :: tk X.m 0 0 F.lock_Taker_draw X.b :: mem X.m S :: gl 1 X.ov (wdR X.vs) :: xG X.m X.x (rkind X.cf) X.cf.en X.cf.wd :: X.L))
    (hR : ∀ H' S' ws' c' e' o', One S' ws' c' → c' ≤ X.c + 100 → RI X.cf e' ws' X.ans.2.2 → ws'.getD 0 0 = ws'.getD 1 0 → (o' = none → X.ans.2.1 = []) → X.ans.2.1.length ≤ 100 →
      Sep H' (gl 1 o' (wdR X.ans.2.1) :: gl 1 X.ov (wdR X.vs) :: xG X.m X.x (rkind X.cf) X.cf.en X.cf.wd :: mem X.m S' :: X.L) → R (.tuple #[.agg #[I X.ans.1, .slice (addr o') X.ans.2.1.length 0, .int .u64 0, I 0], .bool true]) H') : CA en F.crossbarlaw17_finish [P X.r, I 40] H R := by
  apply vc_crossbarlaw17_finish
  have hd := k.does
  have hTl : X.T.length ≤ 7 := by have := hd.len; omega
  refine Sep.nw h fun i1 H2 h2 => cond_no rfl ?_
  have kY : ({ X with L := bx i1 (.cells true 0 [I 0, .slice none 0 0, .int .u64 0, I 0]) :: X.L } : Cx).Ok := ⟨k.hn, k.hv, k.ri, k.hs, k.hk, k.hc⟩
  generalize hY : ({ X with L := bx i1 (.cells true 0 [I 0, .slice none 0 0, .int .u64 0, I 0]) :: X.L } : Cx) = Y at kY
  have eT : Y.T = X.T := by rw [← hY]; rfl
  have eA : Y.ans = X.ans := by rw [← hY]; rfl
  have hat : Y.at H2 0 .draw := by
    subst hY
    exact ⟨rfl, S, o, Sep.pick h2 6 [1, 2, 3, 4, 5, 0] (by decide)⟩
  refine use_crossbarlaw17_finish_0 (fun n t5 t6 t7 H' => ∃ st, PS.left Y.T.length st = n ∧ 0 ≤ t6 ∧ t6 ≤ t7 ∧ t7 + n ≤ 11 ∧ Y.at H' t6 st) (Y.T.length + 4) ⟨.draw, rfl, by omega, by omega, by rw [eT]; omega, hat⟩ ?_
  rintro n t5 t6 t7 ys H3 ⟨st, hl, h6, h67, h7, hat⟩
  have hpos := PS.left_pos hat
  refine cond_yes (by simp; omega) ?_
  have er : Y.r = X.r := by rw [← hY]
  have hstep := alone_step kY hat
  rw [er] at hstep
  refine CA.mono hstep fun v H4 ⟨f, d, ev, k1, k2⟩ => ⟨f, d, ev, ?_⟩
  have e7 : IntKind.i64.wrap (t7 + 1) = t7 + 1 := wrap_i64 (by omega)
  have e6 : IntKind.i64.wrap (t6 + 1) = t6 + 1 := wrap_i64 (by omega)
  have hdone : ∀ {eff : Int} {K : Value → Heap → Prop}, Y.fin H4 eff → (∀ H' S' ws' c' e' o', One S' ws' c' → c' ≤ X.c + 100 → RI X.cf e' ws' X.ans.2.2 → ws'.getD 0 0 = ws'.getD 1 0 → (o' = none → X.ans.2.1 = []) → X.ans.2.1.length ≤ 100 → eff = 1 →
      Sep H' (gl 1 o' (wdR X.ans.2.1) :: gl 1 X.ov (wdR X.vs) :: xG X.m X.x (rkind X.cf) X.cf.en X.cf.wd :: mem X.m S' :: bx i1 (.cells true 0 [I 0, .slice none 0 0, .int .u64 0, I 0]) :: X.L) → K (.agg #[I X.ans.1, .slice (addr o') X.ans.2.1.length 0, .int .u64 0, I 0]) H') → CA en F.ring_Run_Result [P X.r] H4 K := by
    intro eff K hf hK
    subst hY
    obtain ⟨he, S', c', q, o', hcc, hdn, hno, hl, tb, pre, cs, PL, hT, hS, hRn, hh, h4⟩ := hf
    have hcc : c' ≤ X.c + 4 + X.T.length := hcc
    have hno : q.no = X.ans.1 := hno
    have hl : X.ans.2.1.length ≤ 100 := hl
    have o' : One S' (runTds X.T X.ws1) c' := o'
    have hov : q.ov = X.ov := hS.ov
    have h4 : Sep H4 (rG X.r X.x q :: tdA tb pre cs :: many PL :: gl 1 X.ov (wdR X.vs) :: gl 1 q.rv (wdR X.ans.2.1) :: xG X.m X.x (rkind X.cf) X.cf.en X.cf.wd :: mem X.m S' :: bx i1 (.cells true 0 [I 0, .slice none 0 0, .int .u64 0, I 0]) :: X.L) := by rw [← hov]; exact h4
    obtain ⟨e', hri⟩ := hd.ri
    refine rgres_s (Sep.pick h4 8 [0, 4, 1, 2, 3, 5, 6, 7] (by decide)) hRn.rl hRn.rn (by omega) fun H' o'' hn h' => ?_
    -- o'' r rv td PL ov x mem i1
    rw [hno, hS.rk, hS.re]
    exact hK H' S' _ c' e' o'' o' (by omega) hri k.rest hn hl he (Sep.pick h' 9 [0, 5, 6, 7, 8] (by decide))
  have e0 : (t6 + if false = true then (1 : Int) else 0) = t6 := by simp
  have e1 : (t6 + if true = true then (1 : Int) else 0) = t6 + 1 := by simp
  cases f <;> cases d
  · rw [e0] at k1
    obtain ⟨st', hlt, hat'⟩ := k1 rfl
    refine ⟨PS.left Y.T.length st', by omega, st', rfl, h6, ?_, ?_, hat'⟩
    · rw [e7]; omega
    · rw [e7]; omega
  · rw [e0] at k2
    refine hdone (k2 rfl) fun H' S' ws' c' e' o' oo hcc hri hs hn hl he h' => ⟨_, _, _, _, _, rfl, ?_⟩
    subst he
    refine Sep.st4 h' (Nat.le_of_ble_eq_true rfl) fun H5 h5 => asBool_in ⟨_, _, _, _, _, Sep.lds4 h5 rfl, hR H5 S' ws' c' e' o' oo hcc hri hs hn hl (Sep.pick h5 5 [0, 1, 2, 3] (by decide))⟩
  · rw [e1] at k1
    obtain ⟨st', hlt, hat'⟩ := k1 rfl
    refine ⟨PS.left Y.T.length st', by omega, st', rfl, ?_, ?_, ?_, ?_⟩
    · rw [e6]; omega
    · rw [e6, e7]; omega
    · rw [e7]; omega
    · rw [e6]; exact hat'
  · rw [e1] at k2
    refine hdone (k2 rfl) fun H' S' ws' c' e' o' oo hcc hri hs hn hl he h' => ⟨_, _, _, _, _, rfl, ?_⟩
    have he : t6 = 0 := by omega
    subst he
    refine Sep.st4 h' (Nat.le_of_ble_eq_true rfl) fun H5 h5 => asBool_in ⟨_, _, _, _, _, Sep.lds4 h5 rfl, hR H5 S' ws' c' e' o' oo hcc hri hs hn hl (Sep.pick h5 5 [0, 1, 2, 3] (by decide))⟩

theorem wrow_gl {L : List Asr} {k : Nat} {b : Option Nat} {ws : Ws} (h : Sep H L) (hk : L[k]? = some (gl 1 b (wdR ws))) (hb : b = none → ws = []) : WRow H (addr b) ws := by
  cases b with
  | none => exact .inl (hb rfl)
  | some b => exact .inr ⟨b, true, 1, rfl, h.lt b (List.mem_flatMap.2 ⟨_, List.mem_of_getElem? hk, by simp [gl, many, bx, feet]⟩), h.one k hk (bx b (.cells true 1 (wdR ws))) (List.mem_singleton.2 rfl)⟩

variable {L : List Asr} {m x : Nat} {S : Sm} {cf : Cf} {ws vs : Ws} {l : List Ws} {c : Int} {e : Nat}

theorem gives_s {ov : Option Nat} {kind key fl el no : Int} {val : Ws} {a : Option Addr} (h : Sep H (gl 1 ov (wdR vs) :: xG m x (rkind cf) cf.en cf.wd :: mem m S :: L)) (hn : ov = none → vs = []) (hv : vs.length < 400) (o : One S ws c) (ri : RI cf e ws l) (hs : ws.getD 0 0 = ws.getD 1 0) (hk : kind = 6 → vs.length = cf.wd) (hc : c + 1000 < 4611686018427387904) (hwd : cf.wd ≤ 4)
    (hno : (rdo cf kind fl vs l).1 = no) (hval : (rdo cf kind fl vs l).2.1 = val) (ha : val = [] ∨ ∃ (b : Option Nat) (k : Nat), a = addr b ∧ L[k]? = some (gl 1 b (wdR val)) ∧ (b = none → val = []))
    (hR : ∀ H' S' ws' c' e', One S' ws' c' → c' ≤ c + 100 → RI cf e' ws' (rdo cf kind fl vs l).2.2 → ws'.getD 0 0 = ws'.getD 1 0 → Sep H' (gl 1 ov (wdR vs) :: xG m x (rkind cf) cf.en cf.wd :: mem m S' :: L) → R (.bool true) H') :
    CA en F.crossbarlaw17_gives [P x, .agg #[I kind, .int .u64 key, .slice (addr ov) vs.length 0, I fl, I el], I no, .slice a val.length 0] H R := by
  apply vc_crossbarlaw17_gives
  refine Sep.nw h fun i1 H2 h2 => ⟨_, _, _, _, _, _, Sep.lds0 h2 rfl, ?_⟩
  -- i1 ov x mem
  refine rgbegin_s (Sep.pick h2 4 [1, 2, 0, 3] (by decide)) hn (by omega) fun H3 r b o' hn' h3 => ⟨_, rfl, ?_⟩
  -- r o' tk ov x i1 mem
  have hX : ({ m := m, r := r, x := x, b := b, cf := cf, kind := kind, key := key, fl := fl, el := el, vs := vs, ov := o', ws := ws, l := l, e := e, c := c, L := gl 1 ov (wdR vs) :: L } : Cx).Ok := ⟨hn', hv, ri, hs, hk, hc⟩
  refine finish_s hX hwd o (Sep.pick h3 7 [0, 2, 6, 1, 4, 3] (by decide)) fun H4 S' ws' c' e' o'' oo hcc hri hs' hn'' hl h4 => ⟨_, _, _, _, _, _, rfl, ?_⟩
  have eA : rdo cf kind fl vs l = (no, val, (rdo cf kind fl vs l).2.2) := by rw [← hno, ← hval]
  generalize (rdo cf kind fl vs l).2.2 = l' at *
  have h4 : Sep H4 (gl 1 o'' (wdR (rdo cf kind fl vs l).2.1) :: gl 1 o' (wdR vs) :: xG m x (rkind cf) cf.en cf.wd :: mem m S' :: gl 1 ov (wdR vs) :: L) := h4
  have hri : RI cf e' ws' (rdo cf kind fl vs l).2.2 := hri
  have hn'' : o'' = none → (rdo cf kind fl vs l).2.1 = [] := hn''
  have hl : (rdo cf kind fl vs l).2.1.length ≤ 100 := hl
  show nwH _ _ _
  have eL : ∀ Y, Cx.ans Y = rdo Y.cf Y.kind Y.fl Y.vs Y.l := fun _ => rfl
  rw [eL]
  simp only [eA] at h4 hri hn'' hl ⊢
  refine Sep.nw h4 fun i20 H5 h5 => Sep.st0 h5 (Nat.le_of_ble_eq_true rfl) fun H6 h6 => cond_yes rfl ⟨_, Sep.ld0 h6 rfl, cond_yes (by simp) ⟨_, Sep.ld0 h6 rfl, cond_yes rfl ⟨_, Sep.ld0 h6 rfl, cond_yes rfl ⟨_, _, Sep.ld0 h6 rfl, ?_⟩⟩⟩⟩
  -- i20 o'' o' x mem ov L
  have w1 : WRow H6 (addr o'') val := wrow_gl (k := 1) h6 rfl hn''
  have w2 : WRow H6 a val := by
    rcases ha with rfl | ⟨b, k, rfl, hk, hb⟩
    · exact .inl rfl
    · exact wrow_gl (k := k + 6) h6 hk hb
  refine SameWords_ok w1 w2 (by omega) fun H7 fr => ⟨_, rfl, ?_⟩
  rw [decide_eq_true rfl]
  exact hR H7 S' ws' c' e' oo hcc hri hs' (Sep.pick (h6.keep fr) 6 [5, 3, 4] (by decide))
end Go.Proofs.YtgpacebjbdhphaaGreat

/-
  Rings that are made; values of some words.
-/
namespace Go.Proofs.YtgpacebjbdhphaaGreat
open Go Go.AS Go.RowKit
set_option linter.unusedVariables false
variable {H H' : Heap} {R : Value → Heap → Prop} {L : List Asr} {m x : Nat} {S : Sm} {cf : Cf} {ws vs : Ws}

theorem first_one {mp b : Nat} {room n : Int} (h1 : 1 ≤ n) (h2 : n ≤ 65536) (hr : n ≤ room) : ((newSm mp room).make b n).1 = (1, 0) ∧ One ((newSm mp room).make b n).2 (List.replicate n.toNat 0) 0 := by
  have hr : ¬ (newSm mp room).room < n := by simp only [newSm, clampRoom_eq]; omega
  have e1 : wr 1 = 1 := wrs (by omega)
  have e : (newSm mp room).make b n = ((wr 1, 0), (newSm mp room).mk' b n.toNat) := by
    unfold Sm.make
    rw [if_neg (by omega), if_neg hr]; rfl
  rw [e, e1]
  refine ⟨rfl, ⟨b, 0, ?_⟩, rfl, rfl, Int.le_refl _⟩
  show [] ++ [(⟨wr (0 + 1), b, 0, List.replicate n.toNat 0⟩ : Reg)] = _
  rw [Int.zero_add, e1]; rfl

/-- What a ring may be like. -/
structure Cf.Ok (cf : Cf) : Prop where
  e1 : 1 ≤ cf.en
  e2 : cf.en ≤ 64
  w1 : 1 ≤ cf.wd
  w2 : cf.wd ≤ 4

theorem rchks (k : cf.Ok) : chks [(⟨rkind cf, cf.en, cf.wd, 0, 0⟩ : Dc)] = 0 := by
  have h := k
  obtain ⟨h1, h2, h3, h4⟩ := h
  have c1 : ¬ ((cf.en : Int) < 1 ∨ (cf.en : Int) > 64 ∨ (cf.wd : Int) < 1 ∨ (cf.wd : Int) > 4) := by omega
  show firstBad _ [_] = 0
  have hc : ∀ l, chk l (⟨rkind cf, cf.en, cf.wd, 0, 0⟩ : Dc) = 0 := by
    intro l
    unfold rkind
    cases cf.stack
    · show (if ((cf.en : Int) < 1 ∨ (cf.en : Int) > 64 ∨ (cf.wd : Int) < 1 ∨ (cf.wd : Int) > 4) then (1 : Int) else _) = 0
      rw [if_neg c1]; rfl
    · show (if ((cf.en : Int) < 1 ∨ (cf.en : Int) > 64 ∨ (cf.wd : Int) < 1 ∨ (cf.wd : Int) > 4) then (1 : Int) else _) = 0
      rw [if_neg c1]; rfl
  simp [firstBad, hc]

theorem rgnew_s {mp : Nat} (k : cf.Ok) (h : Sep H (mem m (newSm mp 1024) :: L)) (hR : ∀ H' x S, One S (List.replicate (4 + cf.en * cf.wd) 0) 0 → Sep H' (xG m x (rkind cf) cf.en cf.wd :: mem m S :: L) → R (.tuple #[P x, I 0]) H') :
    CA en F.ring_New [P m, .agg #[I (rkind cf), I cf.en, I cf.wd, I 0, I 0]] H R := by
  apply vc_ring_New
  have hm : cf.en * cf.wd ≤ 64 * 4 := Nat.mul_le_mul k.e2 k.w2
  have ew : IntKind.i64.wrap (4 + IntKind.i64.wrap ((cf.en : Int) * (cf.wd : Int))) = ((4 + cf.en * cf.wd : Nat) : Int) := by
    rw [← Int.natCast_mul]
    generalize cf.en * cf.wd = z at *
    rw [wrap_i64 (n := (z : Int)) (by omega), wrap_i64 (by omega)]; omega
  have hk := rchks k
  refine Sep.nw h fun j1 H8 h8 => ⟨_, Sep.ld0 h8 rfl, ?_⟩
  have go : ∀ (K : Prop), (K → K) := fun _ h => h
  refine cond_of (fun z => ⟨_, Sep.ld0 h8 rfl, cond_no ?_ ?_⟩) fun z => ?_
  · unfold rkind at z ⊢; cases hs : cf.stack <;> rw [hs] at z <;> simp at z ⊢
  all_goals
    refine ⟨_, _, _, _, _, Sep.lds0 h8 rfl, Sep.nw h8 fun i8 H9 h9 => ?_⟩
    refine Check_ok (l := [⟨rkind cf, cf.en, cf.wd, 0, 0⟩]) ⟨rfl, .inr ⟨i8, true, 5, rfl, h9.footlt (by simp [bx]), Sep.get0 h9⟩⟩ fun H11 fr => ⟨_, rfl, ?_⟩
    have h11 := (h9.keep fr).tail
    rw [hk]
    refine cond_no rfl ⟨_, Sep.ld0 h11 rfl, _, Sep.ld0 h11 rfl, ?_⟩
    rw [ew]
    refine make_s (Sep.up1 h11) (fun _ _ _ => rfl) fun H16 b h16 => ⟨_, _, rfl, ?_⟩
    obtain ⟨e1, o⟩ := first_one (mp := mp) (b := b) (room := 1024) (n := ((4 + cf.en * cf.wd : Nat) : Int)) (by omega) (by omega) (by omega)
    rw [e1]
    refine cond_no rfl ⟨_, _, _, _, _, Sep.lds1 h16 rfl, Sep.nw h16 fun x H25 h25 => hR H25 x _ o ?_⟩
    exact Sep.pick h25 3 [0, 1] (by decide)

theorem rgmade_s (k : cf.Ok) (h : Sep H L) (hR : ∀ H' m x S, One S (List.replicate (4 + cf.en * cf.wd) 0) 0 → Sep H' (xG m x (rkind cf) cf.en cf.wd :: mem m S :: L) → R (P x) H') :
    CA en F.crossbarlaw17_made [.agg #[I (rkind cf), I cf.en, I cf.wd, I 0, I 0]] H R := by
  apply vc_crossbarlaw17_made
  refine Sep.nw h fun i1 H2 h2 => new_s h2 fun H4 m mp h4 => ⟨_, rfl, cond_no rfl ⟨_, _, _, _, _, Sep.lds1 h4 rfl, ?_⟩⟩
  refine rgnew_s k h4 fun H' x S o h' => ⟨_, _, rfl, cond_no rfl (hR H' m x S o (Sep.pick h' 3 [0, 1] (by decide)))⟩

theorem ri_new (k : cf.Ok) : RI cf 0 (List.replicate (4 + cf.en * cf.wd) 0) [] := by
  have hw1 := k.w1
  have hw2 := k.w2
  exact ⟨by simp, by simp, by simp, k.e1, k.e2, by omega, by omega, by rw [List.getElem?_replicate, if_pos (by omega)]; rfl, by rw [List.getElem?_replicate, if_pos (by omega)]; rfl, by simp⟩

theorem rgdecl_s {st : Bool} {e w : Int} (h : Sep H L) (hR : ∀ H' (cf : Cf), cf.Ok → cf.stack = st → Sep H' L → R (.agg #[I (rkind cf), I cf.en, I cf.wd, I 0, I 0]) H') : CA en F.crossbarref17_Decl [.bool st, I e, I w] H R := by
  apply vc_crossbarref17_Decl
  refine Sep.nw h fun i1 H2 h2 => Pick_ok (by decide) (by decide) ⟨_, rfl, Pick_ok (by decide) (by decide) ⟨_, rfl, Sep.nw h2 fun i9 H10 h10 => ?_⟩⟩
  obtain ⟨N, hN, hN2⟩ : ∃ N : Nat, IntKind.i64.wrap (1 + e % 64) = (N : Int) ∧ 1 ≤ N ∧ N ≤ 64 := ⟨(1 + e % 64).toNat, by rw [wrap_i64 (by omega)]; omega, by omega⟩
  obtain ⟨M, hM, hM2⟩ : ∃ M : Nat, IntKind.i64.wrap (1 + w % 4) = (M : Int) ∧ 1 ≤ M ∧ M ≤ 4 := ⟨(1 + w % 4).toNat, by rw [wrap_i64 (by omega)]; omega, by omega⟩
  rw [hN, hM]
  have hR := fun H' h' => hR H' ⟨st, N, M⟩ ⟨hN2.1, hN2.2, hM2.1, hM2.2⟩ rfl h'
  refine Sep.st0 h10 (Nat.le_of_ble_eq_true rfl) fun H11 h11 => ?_
  cases st
  · exact cond_no rfl ⟨_, _, _, _, _, Sep.lds0 h11 rfl, Sep.st1 h11 (Nat.le_of_ble_eq_true rfl) fun H12 h12 => ⟨_, _, _, _, _, Sep.lds1 h12 rfl, hR H12 h12.tail.tail⟩⟩
  · exact cond_yes rfl (Sep.st0 h11 (Nat.le_of_ble_eq_true rfl) fun H12 h12 => ⟨_, _, _, _, _, Sep.lds0 h12 rfl, Sep.st1 h12 (Nat.le_of_ble_eq_true rfl) fun H13 h13 => ⟨_, _, _, _, _, Sep.lds1 h13 rfl, hR H13 h13.tail.tail⟩⟩)

/-! ### Values -/
def valW (v : BitVec 64) (n : Nat) : Ws := (List.range n).map fun i => v + BitVec.ofNat 64 i * 1000003
theorem valW_len (v : BitVec 64) (n : Nat) : (valW v n).length = n := by simp [valW]
theorem valW_succ (v : BitVec 64) (n : Nat) : valW v (n + 1) = valW v n ++ [v + BitVec.ofNat 64 n * 1000003] := by simp [valW, List.range_succ]
theorem push_s' {fl : Int} {a : Option Addr} {n : Nat} (h : Sep H L) (hR : ∀ H', Sep H' L → R (.agg #[I 6, .int .u64 0, .slice a n 0, I fl, I 0]) H') : CA en F.crossbarlaw17_push [I fl, .slice a n 0] H R := by
  apply vc_crossbarlaw17_push
  exact Sep.nw h fun i1 H2 h2 => Sep.st0 h2 (Nat.le_of_ble_eq_true rfl) fun H3 h3 => ⟨_, _, _, _, _, _, Sep.lds0 h3 rfl, hR H3 h3.tail⟩
theorem pop_s (h : Sep H L) (hR : ∀ H', Sep H' L → R (.agg #[I 7, .int .u64 0, .slice none 0 0, I 0, I 0]) H') : CA en F.crossbarlaw17_pop [] H R := by
  apply vc_crossbarlaw17_pop
  exact Sep.nw h fun i1 H2 h2 => Sep.st0 h2 (Nat.le_of_ble_eq_true rfl) fun H3 h3 => ⟨_, _, _, _, _, _, Sep.lds0 h3 rfl, hR H3 h3.tail⟩
end Go.Proofs.YtgpacebjbdhphaaGreat

