/-
  Written by merge.py: Record RecordPure RecordBegin RecordStep
-/
import Derived.Test.YtgpacebjbdhphaaLock
import Derived.Test.YtgpacebjbdhphaaAs48
import Derived.Test.YtgpacebjbdhphaaVcRc
import Derived.Test.YtgpacebjbdhphaaDeclLoops
/-
  Records: what the steps of their runs do, in a memory of one region.
-/
namespace Go.Proofs.Ytgpacebjbdhphaa
open Go Go.AS Go.RowKit
set_option linter.unusedVariables false
variable {H H' : Heap} {m x r b : Nat} {S S' : Sm} {R : Value → Heap → Prop} {L : List Asr} {ws : List (BitVec 64)} {c : Int}

theorem lbegin_s (h : Sep H (mem m S :: L)) (o : One S ws c) (hc : c < 4611686018427387904) {i : Nat} (hi : i < ws.length)
    (hR : ∀ H' S', One S' (ws.set i (ws.getD i 0 + 1)) (c + 1) → Sep H' (mem m S' :: L) → R (.bool true) H') : CA en F.lock_Begin [P m, I 1, I i] H R := by
  apply vc_lock_Begin
  exact more_s h o hc hi fun H' S' o' h' => ⟨_, _, rfl, hR H' S' o' h'⟩
theorem lend_s (h : Sep H (mem m S :: L)) (o : One S ws c) (hc : c < 4611686018427387904) {i : Nat} (hi : i < ws.length)
    (hR : ∀ H' S', One S' (ws.set i (ws.getD i 0 + 1)) (c + 1) → Sep H' (mem m S' :: L) → R (.bool true) H') : CA en F.lock_End [P m, I 1, I i] H R := by
  apply vc_lock_End
  exact lbegin_s h o hc hi fun H' S' o' h' => ⟨_, rfl, hR H' S' o' h'⟩
theorem lread_s (h : Sep H (mem m S :: L)) (o : One S ws c) (hc : c < 4611686018427387904) {i : Nat} (hi : i < ws.length)
    (hR : ∀ H' S', One S' ws (c + 1) → Sep H' (mem m S' :: L) → R (.tuple #[W (ws.getD i 0), .bool (decide ((ws.getD i 0).toNat % 2 = 0))]) H') : CA en F.lock_Read [P m, I 1, I i] H R := by
  apply vc_lock_Read
  refine load1_s h o hc hi fun H' S' o' h' => ⟨_, _, rfl, cond_yes rfl ⟨(by unfold nz; decide), ?_⟩⟩
  have := hR H' S' o' h'
  have e : (Int.tmod ((ws.getD i 0).toNat : Int) 2 == 0) = decide ((ws.getD i 0).toNat % 2 = 0) := by
    rw [Int.tmod_eq_emod_of_nonneg (by omega), Bool.eq_iff_iff, beq_iff_eq, decide_eq_true_eq]; omega
  rw [e]
  exact this
theorem lsame_s (h : Sep H (mem m S :: L)) (o : One S ws c) (hc : c < 4611686018427387904) {i : Nat} (hi : i < ws.length) {n : BitVec 64}
    (hR : ∀ H' S', One S' ws (c + 1) → Sep H' (mem m S' :: L) → R (.bool (decide (ws.getD i 0 = n))) H') : CA en F.lock_Same [P m, I 1, I i, W n] H R := by
  apply vc_lock_Same
  refine load1_s h o hc hi fun H' S' o' h' => ⟨_, _, rfl, cond_yes rfl ?_⟩
  have := hR H' S' o' h'
  rw [bv_beq]
  exact this

/-! ### A run -/
structure Rn where
  kind : Int
  key : Int
  ov : Option Nat
  on : Nat
  fl : Int
  cp : Int
  no : Int
  rv : Option Nat
  rl : Nat
  rk : Int
  re : Int
  nx : Value
  tk : Value
  at' : Int
  n : Int
  s : BitVec 64
abbrev Rn.cells (x : Nat) (q : Rn) : List Value := [P x, I q.kind, .int .u64 q.key, .slice (addr q.ov) q.on 0, I q.fl, I q.cp, I q.no, .slice (addr q.rv) q.rl 0, .int .u64 q.rk, I q.re, q.nx, q.tk, I q.at', I q.n, W q.s]
abbrev rA (r x : Nat) (q : Rn) : Asr := bx r (.cells true 0 (q.cells x))
abbrev fnv (f r : Nat) : Value := .func (.func f) #[P r] #[]
structure Md where
  kind : Int
  entries : Int
  words : Int
  buckets : Int
  inner : Int
abbrev mA (m x : Nat) (d : Md) : Asr := bx x (.cells true 0 [P m, I d.kind, I d.entries, I d.words, I d.buckets, I d.inner, I 1])
abbrev wds (ws : List (BitVec 64)) : List Value := ws.map W

variable {q : Rn} {d : Md} {a k : Nat} {vs : List (BitVec 64)}

theorem step_of {f : Nat} (h : Sep H (rA r x q :: L)) (hq : q.nx = fnv f r) (hf : (en.fn f).isSome = true)
    (hC : CA en f [P r] H fun v H' => ∃ b1 b2, v = .tuple #[.bool b1, .bool b2] ∧ R (.tuple #[.bool b1, .bool b2]) H') : CA en F.record_Run_Step [P r] H R := by
  apply vc_record_Run_Step
  refine asAddr_in ⟨_, Sep.ld0 h rfl, ?_⟩
  rw [hq]
  exact asFn_in ⟨Option.isSome_iff_exists.1 hf, hC⟩

theorem slook_s (h : Sep H (rA r x q :: mA m x d :: mem m S :: L)) (hq : q.nx = fnv F.record_Run_look r) (ha : q.at' = (a : Int)) (hs : a < 100000) (o : One S ws c) (hc : c < 4611686018427387904) (hi : a + 2 < ws.length)
    (hR : ∀ H' S', One S' ws (c + 1) → Sep H' (rA r x (if (ws.getD (a + 2) 0).toNat % 2 = 0 then { q with s := ws.getD (a + 2) 0, n := 0, rv := none, rl := 0, nx := fnv F.record_Run_load r } else q) :: mA m x d :: mem m S' :: L) → R (.tuple #[.bool false, .bool false]) H') :
    CA en F.record_Run_Step [P r] H R := by
  refine step_of h hq (by kernel_rfl) ?_
  apply vc_record_Run_look
  have hB := h.bump 25
  refine asAddr_in ⟨_, Sep.ld0 hB rfl, asAddr_in ⟨_, Sep.ld1 hB rfl, asAddr_in ⟨_, Sep.ld0 hB rfl, asAddr_in ⟨_, Sep.ld1 hB rfl, asAddr_in ⟨_, Sep.ld0 hB rfl, ?_⟩⟩⟩⟩⟩
  have e : IntKind.i64.wrap (q.at' + 2) = ((a + 2 : Nat) : Int) := by rw [ha, wrap_i64 (by omega)]; omega
  rw [e]
  refine lread_s (Sep.up2 hB) o hc hi fun H2 S2 o2 h2 => ⟨_, _, rfl, ?_, trivial⟩
  have h3 : Sep H2 (rA r x q :: mA m x d :: mem m S2 :: L) := Sep.pick h2 3 [1, 2, 0] (by decide)
  have := fun H' => hR H' S2 o2
  refine cond_of (fun z => ?_) fun z => ?_
  · have z := of_decide_eq_true z
    rw [if_pos z] at this
    exact asAddr_in (Sep.st0 h3 (Nat.le_of_ble_eq_true rfl) fun H4 h4 => asAddr_in (Sep.st0 h4 (Nat.le_of_ble_eq_true rfl) fun H5 h5 => asAddr_in (Sep.st0 h5 (Nat.le_of_ble_eq_true rfl) fun H6 h6 => asAddr_in (Sep.st0 h6 (Nat.le_of_ble_eq_true rfl) fun H7 h7 => ⟨_, _, rfl, this H7 h7⟩))))
  · have z := of_decide_eq_false z
    rw [if_neg z] at this
    exact ⟨_, _, rfl, this H2 h3⟩

theorem sload_s (h : Sep H (rA r x q :: gl 1 q.rv (wds vs) :: mA m x d :: mem m S :: L)) (hq : q.nx = fnv F.record_Run_load r) (ha : q.at' = (a : Int)) (hk : q.n = (k : Int)) (hkw : (k : Int) < d.words) (hs : a + k < 100000) (hv : q.rl = vs.length) (hvn : q.rv = none → vs = []) (hvl : vs.length < 100000) (o : One S ws c) (hc : c < 4611686018427387904) (hi : a + 3 + k < ws.length)
    (hR : ∀ H' S' v, One S' ws (c + 1) → Sep H' (rA r x { q with rv := some v, rl := vs.length + 1, n := ((k + 1 : Nat) : Int), nx := if ((k + 1 : Nat) : Int) = d.words then fnv F.record_Run_same r else fnv F.record_Run_load r } :: gl 1 (some v) (wds (vs ++ [ws.getD (a + 3 + k) 0])) :: mA m x d :: mem m S' :: L) → R (.tuple #[.bool false, .bool false]) H') :
    CA en F.record_Run_Step [P r] H R := by
  refine step_of h hq (by kernel_rfl) ?_
  apply vc_record_Run_load
  have hB := h.bump 30
  refine asAddr_in ⟨_, Sep.ld0 hB rfl, asAddr_in ⟨_, Sep.ld2 hB rfl, asAddr_in ⟨_, Sep.ld0 hB rfl, asAddr_in ⟨_, Sep.ld2 hB rfl, asAddr_in ⟨_, Sep.ld0 hB rfl, asAddr_in ⟨_, Sep.ld0 hB rfl, ?_⟩⟩⟩⟩⟩⟩
  have e : IntKind.i64.wrap (IntKind.i64.wrap (q.at' + 3) + q.n) = ((a + 3 + k : Nat) : Int) := by rw [ha, hk, wrap_i64 (n := (a : Int) + 3) (by omega), wrap_i64 (by omega)]; omega
  rw [e]
  refine load1_s (Sep.up3 hB) o hc hi fun H2 S2 o2 h2 => ⟨_, _, rfl, ⟨?_, trivial⟩⟩
  have h3 : Sep H2 (rA r x q :: gl 1 q.rv (wds vs) :: mA m x d :: mem m S2 :: L) := Sep.pick h2 4 [1, 2, 3, 0] (by decide)
  refine asAddr_in ⟨_, _, Sep.ld0 h3 rfl, Sep.nw h3 fun i5 H6 h6 => ⟨[W (ws.getD (a + 3 + k) 0)], rowOf_bx (es := 1) (n := 1) (b := i5) (Sep.get0 h6) (by decide) rfl, ?_⟩⟩
  refine apd_gl (b := q.rv) (cs := wds vs) (new := [W (ws.getD (a + 3 + k) 0)]) (Sep.up2 h6) (fun e => by rw [hvn e]; rfl) (by decide) (by rw [hv]; simp) (by decide) rfl (by omega) fun H7 v h7 => ?_
  -- v i5 r x mem
  refine asAddr_in (Sep.st2 h7 (Nat.le_of_ble_eq_true rfl) fun H8 h8 => asAddr_in ⟨_, Sep.ld2 h8 rfl, asAddr_in (Sep.st2 h8 (Nat.le_of_ble_eq_true rfl) fun H9 h9 => ?_)⟩)
  have hB2 := h9.bump 13
  have ek : IntKind.i64.wrap (q.n + 1) = ((k + 1 : Nat) : Int) := by rw [hk, wrap_i64 (by omega)]; omega
  have := fun H' => hR H' S2 v o2
  rw [← hv] at this
  refine asAddr_in ⟨_, Sep.ld2 hB2 rfl, asAddr_in ⟨_, Sep.ld2 hB2 rfl, asAddr_in ⟨_, Sep.ld3 hB2 rfl, ⟨?_, trivial⟩⟩⟩⟩
  rw [ek] at hB2 ⊢
  have ew : wds (vs ++ [ws.getD (a + 3 + k) 0]) = wds vs ++ [W (ws.getD (a + 3 + k) 0)] := by simp
  rw [ew] at this
  refine cond_of (fun z => ?_) fun z => ?_
  · have z : ((k + 1 : Nat) : Int) = d.words := by simpa using z
    rw [if_pos z] at this
    exact asAddr_in (Sep.st2 hB2 (Nat.le_of_ble_eq_true rfl) fun H10 h10 => ⟨_, _, rfl, this H10 (Sep.pick h10 5 [2, 0, 3, 4] (by decide))⟩)
  · have z : ¬ ((k + 1 : Nat) : Int) = d.words := by simpa using z
    rw [if_neg z] at this
    refine ⟨_, _, rfl, this _ ?_⟩
    have h10 := Sep.pick hB2 5 [2, 0, 3, 4] (by decide)
    have e3 : (({ q with rv := some v, rl := q.rl + 1, n := ((k + 1 : Nat) : Int), nx := fnv F.record_Run_load r } : Rn).cells x) = ({ q with rv := some v, rl := q.rl + 1, n := ((k + 1 : Nat) : Int) } : Rn).cells x := by
      show [P x, _, _, _, _, _, _, _, _, _, fnv F.record_Run_load r, _, _, _, _] = _
      rw [← hq]
    unfold rA
    rw [e3]
    exact h10

theorem ssame_s (h : Sep H (rA r x q :: mA m x d :: mem m S :: L)) (hq : q.nx = fnv F.record_Run_same r) (ha : q.at' = (a : Int)) (hs : a < 100000) (o : One S ws c) (hc : c < 4611686018427387904) (hi : a + 2 < ws.length)
    (hY : ws.getD (a + 2) 0 = q.s → ∀ H' S', One S' ws (c + 1) → Sep H' (rA r x { q with nx := fnv F.record_Run_over r } :: mA m x d :: mem m S' :: L) → R (.tuple #[.bool true, .bool true]) H')
    (hN : ∀ H' S', One S' ws (c + 1) → Sep H' (rA r x { q with nx := fnv F.record_Run_look r } :: mA m x d :: mem m S' :: L) → R (.tuple #[.bool false, .bool false]) H') :
    CA en F.record_Run_Step [P r] H R := by
  refine step_of h hq (by kernel_rfl) ?_
  apply vc_record_Run_same
  have hB := h.bump 25
  refine asAddr_in ⟨_, Sep.ld0 hB rfl, asAddr_in ⟨_, Sep.ld1 hB rfl, asAddr_in ⟨_, Sep.ld0 hB rfl, asAddr_in ⟨_, Sep.ld1 hB rfl, asAddr_in ⟨_, Sep.ld0 hB rfl, asAddr_in ⟨_, Sep.ld0 hB rfl, ?_⟩⟩⟩⟩⟩⟩
  have e : IntKind.i64.wrap (q.at' + 2) = ((a + 2 : Nat) : Int) := by rw [ha, wrap_i64 (by omega)]; omega
  rw [e]
  refine lsame_s (Sep.up2 hB) o hc hi fun H2 S2 o2 h2 => ⟨_, rfl, ⟨?_, trivial⟩⟩
  have h3 : Sep H2 (rA r x q :: mA m x d :: mem m S2 :: L) := Sep.pick h2 3 [1, 2, 0] (by decide)
  refine cond_of (fun z => ?_) fun z => ?_
  · exact asAddr_in (Sep.st0 h3 (Nat.le_of_ble_eq_true rfl) fun H4 h4 => ⟨_, _, rfl, hN H4 S2 o2 h4⟩)
  · have z : ws.getD (a + 2) 0 = q.s := by simpa using z
    exact asAddr_in (Sep.st0 h3 (Nat.le_of_ble_eq_true rfl) fun H4 h4 => ⟨_, _, rfl, hY z H4 S2 o2 h4⟩)

theorem sdraw_s {t : BitVec 64} (h : Sep H (rA r x q :: tk m a t F.lock_Taker_draw b :: mA m x d :: mem m S :: L)) (hq : q.nx = fnv F.record_Run_take r) (ht : q.tk = P b) (o : One S ws c) (hc : c < 4611686018427387904) (hi : a < ws.length)
    (hR : ∀ H' S', One S' (ws.set a (ws.getD a 0 + 1)) (c + 1) → Sep H' (rA r x q :: tk m a (ws.getD a 0) F.lock_Taker_wait b :: mA m x d :: mem m S' :: L) → R (.tuple #[.bool false, .bool false]) H') :
    CA en F.record_Run_Step [P r] H R := by
  refine step_of h hq (by kernel_rfl) ?_
  apply vc_record_Run_take
  refine asAddr_in ⟨some ⟨b, 0, none⟩, ?_, ?_⟩
  · have := Sep.ld0 (o := 11) (v := q.tk) h rfl
    rw [ht] at this; exact this
  refine draw_s (Sep.pick h 4 [1, 3, 0, 2] (by decide)) o hc hi fun H2 S2 o2 h2 => ⟨_, rfl, cond_no rfl ⟨_, _, rfl, hR H2 S2 o2 ?_⟩⟩
  exact Sep.pick h2 4 [2, 0, 3, 1] (by decide)

theorem swait_s {t : BitVec 64} (h : Sep H (rA r x q :: tk m a t F.lock_Taker_wait b :: mA m x d :: mem m S :: L)) (hq : q.nx = fnv F.record_Run_take r) (ht : q.tk = P b) (o : One S ws c) (hc : c < 4611686018427387904) (hi : a + 1 < ws.length) (hw : ws.length ≤ 65536)
    (hY : ws.getD (a + 1) 0 = t → ∀ H' S', One S' ws (c + 1) → Sep H' (rA r x { q with nx := fnv F.record_Run_begin r } :: tk m a t F.lock_Taker_got b :: mA m x d :: mem m S' :: L) → R (.tuple #[.bool false, .bool false]) H')
    (hN : ws.getD (a + 1) 0 ≠ t → ∀ H' S', One S' ws (c + 1) → Sep H' (rA r x q :: tk m a t F.lock_Taker_wait b :: mA m x d :: mem m S' :: L) → R (.tuple #[.bool false, .bool false]) H') :
    CA en F.record_Run_Step [P r] H R := by
  refine step_of h hq (by kernel_rfl) ?_
  apply vc_record_Run_take
  refine asAddr_in ⟨some ⟨b, 0, none⟩, ?_, ?_⟩
  · have := Sep.ld0 (o := 11) (v := q.tk) h rfl
    rw [ht] at this; exact this
  refine wait_s (Sep.pick h 4 [1, 3, 0, 2] (by decide)) o hc hi hw fun H2 S2 o2 h2 => ⟨_, rfl, ?_⟩
  have h3 := Sep.pick h2 4 [2, 0, 3, 1] (by decide)
  by_cases e : ws.getD (a + 1) 0 = t
  · rw [decide_eq_true e]
    simp only [if_pos e] at h3
    exact cond_yes rfl (asAddr_in (Sep.st0 h3 (Nat.le_of_ble_eq_true rfl) fun H4 h4 => ⟨_, _, rfl, hY e H4 S2 o2 h4⟩))
  · rw [decide_eq_false e]
    simp only [if_neg e] at h3
    exact cond_no rfl ⟨_, _, rfl, hN e H2 S2 o2 h3⟩

theorem sbegin_s (h : Sep H (rA r x q :: mA m x d :: mem m S :: L)) (hq : q.nx = fnv F.record_Run_begin r) (ha : q.at' = (a : Int)) (hs : a < 100000) (o : One S ws c) (hc : c < 4611686018427387904) (hi : a + 2 < ws.length)
    (hR : ∀ H' S', One S' (ws.set (a + 2) (ws.getD (a + 2) 0 + 1)) (c + 1) → Sep H' (rA r x { q with nx := fnv F.record_Run_store r } :: mA m x d :: mem m S' :: L) → R (.tuple #[.bool false, .bool false]) H') :
    CA en F.record_Run_Step [P r] H R := by
  refine step_of h hq (by kernel_rfl) ?_
  apply vc_record_Run_begin
  have hB := h.bump 20
  refine asAddr_in ⟨_, Sep.ld0 hB rfl, asAddr_in ⟨_, Sep.ld1 hB rfl, asAddr_in ⟨_, Sep.ld0 hB rfl, asAddr_in ⟨_, Sep.ld1 hB rfl, asAddr_in ⟨_, Sep.ld0 hB rfl, ?_⟩⟩⟩⟩⟩
  have e : IntKind.i64.wrap (q.at' + 2) = ((a + 2 : Nat) : Int) := by rw [ha, wrap_i64 (by omega)]; omega
  rw [e]
  refine lbegin_s (Sep.up2 hB) o hc hi fun H2 S2 o2 h2 => ⟨_, rfl, ⟨?_, trivial⟩⟩
  exact asAddr_in (Sep.st1 h2 (Nat.le_of_ble_eq_true rfl) fun H4 h4 => ⟨_, _, rfl, hR H4 S2 o2 (Sep.pick h4 3 [1, 2, 0] (by decide))⟩)

theorem sstore_s (h : Sep H (rA r x q :: gl 1 q.ov (wds vs) :: mA m x d :: mem m S :: L)) (hq : q.nx = fnv F.record_Run_store r) (ha : q.at' = (a : Int)) (hk : q.n = (k : Int)) (hs : a + k < 100000) (hv : q.on = vs.length) (hkv : k < vs.length) (hvn : q.ov = none → vs = []) (o : One S ws c) (hc : c < 4611686018427387904) (hi : a + 3 + k < ws.length)
    (hR : ∀ H' S', One S' (ws.set (a + 3 + k) (vs.getD k 0)) (c + 1) → Sep H' (rA r x { q with n := ((k + 1 : Nat) : Int), nx := if ((k + 1 : Nat) : Int) = d.words then fnv F.record_Run_end r else fnv F.record_Run_store r } :: gl 1 q.ov (wds vs) :: mA m x d :: mem m S' :: L) → R (.tuple #[.bool false, .bool false]) H') :
    CA en F.record_Run_Step [P r] H R := by
  refine step_of h hq (by kernel_rfl) ?_
  apply vc_record_Run_store
  have hB := h.bump 36
  cases hov : q.ov with
  | none => rw [hvn hov] at hkv; simp at hkv
  | some g =>
    have hB' := Sep.up1 hB
    rw [hov] at hB'
    have hrow : ∀ {K : Nat → Nat → Prop}, K g 0 → asRow (addr q.ov) K := fun h => by rw [hov]; exact h
    have hcl : (H.bump 36).cell g (0 + k * 1) = some (W (vs.getD k 0)) := by
      rw [cell_of (gl_get hB'), Nat.zero_add, Nat.mul_one, List.getElem?_map, List.getElem?_eq_getElem hkv, List.getD_eq_getElem?_getD, List.getElem?_eq_getElem hkv]; rfl
    refine asAddr_in ⟨_, Sep.ld0 hB rfl, asAddr_in ⟨_, Sep.ld2 hB rfl, asAddr_in ⟨_, Sep.ld0 hB rfl, asAddr_in ⟨_, Sep.ld2 hB rfl, asAddr_in ⟨_, Sep.ld0 hB rfl, asAddr_in ⟨_, Sep.ld0 hB rfl, asAddr_in ⟨_, _, Sep.ld0 hB rfl, asAddr_in ⟨_, Sep.ld0 hB rfl, ?_⟩⟩⟩⟩⟩⟩⟩⟩
    have e : IntKind.i64.wrap (IntKind.i64.wrap (q.at' + 3) + q.n) = ((a + 3 + k : Nat) : Int) := by rw [ha, hk, wrap_i64 (n := (a : Int) + 3) (by omega), wrap_i64 (by omega)]; omega
    rw [e, hk, Int.toNat_natCast]
    refine ⟨by unfold inB; omega, hrow ⟨_, hcl, ?_⟩⟩
    refine store1_s (Sep.up3 hB) o hc hi fun H2 S2 o2 h2 => ⟨_, rfl, ⟨?_, trivial⟩⟩
    have h3 : Sep H2 (rA r x q :: gl 1 q.ov (wds vs) :: mA m x d :: mem m S2 :: L) := Sep.pick h2 4 [1, 2, 3, 0] (by decide)
    refine asAddr_in ⟨_, Sep.ld0 h3 rfl, asAddr_in (Sep.st0 h3 (Nat.le_of_ble_eq_true rfl) fun H4 h4 => ?_)⟩
    have hB2 := h4.bump 13
    have ek : IntKind.i64.wrap (q.n + 1) = ((k + 1 : Nat) : Int) := by rw [hk, wrap_i64 (by omega)]; omega
    have := fun H' => hR H' S2 o2
    refine asAddr_in ⟨_, Sep.ld0 hB2 rfl, asAddr_in ⟨_, Sep.ld0 hB2 rfl, asAddr_in ⟨_, Sep.ld2 hB2 rfl, ⟨?_, trivial⟩⟩⟩⟩
    rw [ek] at hB2 ⊢
    refine cond_of (fun z => ?_) fun z => ?_
    · have z : ((k + 1 : Nat) : Int) = d.words := by simpa using z
      rw [if_pos z] at this
      refine asAddr_in (Sep.st0 hB2 (Nat.le_of_ble_eq_true rfl) fun H10 h10 => ⟨_, _, rfl, this H10 ?_⟩)
      exact h10
    · have z : ¬ ((k + 1 : Nat) : Int) = d.words := by simpa using z
      rw [if_neg z] at this
      refine ⟨_, _, rfl, this _ ?_⟩
      have e3 : (({ q with n := ((k + 1 : Nat) : Int), nx := fnv F.record_Run_store r } : Rn).cells x) = ({ q with n := ((k + 1 : Nat) : Int) } : Rn).cells x := by
        show [P x, _, _, _, _, _, _, _, _, _, fnv F.record_Run_store r, _, _, _, _] = _
        rw [← hq]
      unfold rA
      rw [e3]
      exact hB2

theorem send_s (h : Sep H (rA r x q :: mA m x d :: mem m S :: L)) (hq : q.nx = fnv F.record_Run_end r) (ha : q.at' = (a : Int)) (hs : a < 100000) (o : One S ws c) (hc : c < 4611686018427387904) (hi : a + 2 < ws.length)
    (hR : ∀ H' S', One S' (ws.set (a + 2) (ws.getD (a + 2) 0 + 1)) (c + 1) → Sep H' (rA r x { q with nx := fnv F.record_Run_drop r } :: mA m x d :: mem m S' :: L) → R (.tuple #[.bool true, .bool false]) H') :
    CA en F.record_Run_Step [P r] H R := by
  refine step_of h hq (by kernel_rfl) ?_
  apply vc_record_Run_end
  have hB := h.bump 20
  refine asAddr_in ⟨_, Sep.ld0 hB rfl, asAddr_in ⟨_, Sep.ld1 hB rfl, asAddr_in ⟨_, Sep.ld0 hB rfl, asAddr_in ⟨_, Sep.ld1 hB rfl, asAddr_in ⟨_, Sep.ld0 hB rfl, ?_⟩⟩⟩⟩⟩
  have e : IntKind.i64.wrap (q.at' + 2) = ((a + 2 : Nat) : Int) := by rw [ha, wrap_i64 (by omega)]; omega
  rw [e]
  refine lend_s (Sep.up2 hB) o hc hi fun H2 S2 o2 h2 => ⟨_, rfl, ⟨?_, trivial⟩⟩
  exact asAddr_in (Sep.st1 h2 (Nat.le_of_ble_eq_true rfl) fun H4 h4 => ⟨_, _, rfl, hR H4 S2 o2 (Sep.pick h4 3 [1, 2, 0] (by decide))⟩)

theorem sdrop_s (h : Sep H (rA r x q :: mA m x d :: mem m S :: L)) (hq : q.nx = fnv F.record_Run_drop r) (ha : q.at' = (a : Int)) (hs : a < 100000) (o : One S ws c) (hc : c < 4611686018427387904) (hi : a + 1 < ws.length) (hw : ws.length ≤ 65536)
    (hR : ∀ H' S', One S' (ws.set (a + 1) (ws.getD (a + 1) 0 + 1)) (c + 1) → Sep H' (rA r x { q with nx := fnv F.record_Run_over r } :: mA m x d :: mem m S' :: L) → R (.tuple #[.bool false, .bool true]) H') :
    CA en F.record_Run_Step [P r] H R := by
  refine step_of h hq (by kernel_rfl) ?_
  apply vc_record_Run_drop
  have hB := h.bump 19
  refine asAddr_in ⟨_, Sep.ld0 hB rfl, asAddr_in ⟨_, Sep.ld1 hB rfl, asAddr_in ⟨_, Sep.ld0 hB rfl, asAddr_in ⟨_, Sep.ld1 hB rfl, asAddr_in ⟨_, Sep.ld0 hB rfl, ?_⟩⟩⟩⟩⟩
  rw [ha]
  refine drop_s (Sep.up2 hB) o hc hi hw fun H2 S2 o2 h2 => ⟨_, rfl, ⟨?_, trivial⟩⟩
  exact asAddr_in (Sep.st1 h2 (Nat.le_of_ble_eq_true rfl) fun H4 h4 => ⟨_, _, rfl, hR H4 S2 o2 (Sep.pick h4 3 [1, 2, 0] (by decide))⟩)
end Go.Proofs.Ytgpacebjbdhphaa

/-
  Words under a lock and a stamp: what writers and readers leave, without the program.
-/
namespace Go.Proofs.Ytgpacebjbdhphaa
open Go Go.AS Go.RowKit
set_option linter.unusedVariables false

abbrev Bn (n : Nat) : BitVec 64 := BitVec.ofNat 64 n
theorem Bn_inj {a b : Nat} (ha : a < 10000) (hb : b < 10000) : (Bn a = Bn b) ↔ a = b := by
  constructor
  · intro h
    have := congrArg BitVec.toNat h
    simp only [BitVec.toNat_ofNat] at this
    omega
  · intro h; rw [h]
theorem Bn_succ (a : Nat) : Bn a + 1 = Bn (a + 1) := by
  show BitVec.ofNat 64 a + BitVec.ofNat 64 1 = _
  rw [← BitVec.ofNat_add]
theorem Bn_nat {n : Nat} (h : n < 10000) : (Bn n).toNat = n := by
  show n % 2 ^ 64 = n
  exact Nat.mod_eq_of_lt (by omega)

/-- An agent under way: a writer (0 draws, 1 waits, 2 begins, 3 stores, 4 ends, 5 drops), a reader (0 looks, 1 loads, 2 looks again). -/
structure RG where
  w : Bool
  ph : Nat
  n : Nat
  seen : Nat
  v : Nat
  turn : Nat
  vals : List (BitVec 64)
  r : Nat
  tb : Nat
  ov : Option Nat
  rv : Option Nat
  no : Int
abbrev Ags := List (Option RG)
def At (As : Ags) (i : Nat) (a : RG) : Prop := As[i]? = some (some a)
theorem At.set {As : Ags} {k i : Nat} {x : Option RG} {a : RG} (h : At (As.set k x) i a) : (i = k ∧ x = some a) ∨ (i ≠ k ∧ At As i a) := by
  unfold At at h ⊢
  rw [List.getElem?_set] at h
  by_cases e : k = i
  · rw [if_pos e] at h
    split at h
    · exact .inl ⟨e.symm, Option.some.inj h⟩
    · cases h
  · rw [if_neg e] at h
    exact .inr ⟨fun h => e h.symm, h⟩

structure Inv (N : Nat) (As : Ags) (dr sv st cur num : Nat) (Wd : List (BitVec 64)) : Prop where
  len : Wd.length = N
  le : sv ≤ dr
  tk : ∀ i a, At As i a → a.w = true → 1 ≤ a.ph → sv ≤ a.turn ∧ a.turn < dr
  dist : ∀ i j a b, At As i a → At As j b → i ≠ j → a.w = true → b.w = true → 1 ≤ a.ph → 1 ≤ b.ph → a.turn ≠ b.turn
  hold : ∀ i a, At As i a → a.w = true → 2 ≤ a.ph → a.turn = sv
  even : (∀ i a, At As i a → a.w = true → ¬ (a.ph = 3 ∨ a.ph = 4)) → st % 2 = 0 ∧ Wd = List.replicate N (Bn cur)
  b3 : ∀ i a, At As i a → a.w = true → a.ph = 3 → st % 2 = 1 ∧ a.n < N ∧ Wd = List.replicate a.n (Bn a.v) ++ List.replicate (N - a.n) (Bn cur)
  b4 : ∀ i a, At As i a → a.w = true → a.ph = 4 → st % 2 = 1 ∧ Wd = List.replicate N (Bn a.v)
  wv : ∀ i a, At As i a → a.w = true → a.v ≤ num ∧ a.ph ≤ 5
  cn : cur ≤ num
  rd : ∀ i a, At As i a → a.w = false → a.ph ≤ 2 ∧ (1 ≤ a.ph → a.vals.length = a.n ∧ a.n ≤ N ∧ (a.ph = 1 → a.n < N) ∧ (a.ph = 2 → a.n = N) ∧ a.seen % 2 = 0 ∧ a.seen ≤ st ∧ (a.seen = st → a.vals = List.replicate a.n (Bn cur)))

variable {N : Nat} {As : Ags} {dr sv st cur num k : Nat} {Wd : List (BitVec 64)} {a a' : RG}

theorem Inv.one (h : Inv N As dr sv st cur num Wd) {i j : Nat} {x y : RG} (hi : At As i x) (hj : At As j y) (wx : x.w = true) (wy : y.w = true) (px : 2 ≤ x.ph) (py : 2 ≤ y.ph) : i = j := by
  refine Classical.byContradiction fun e => h.dist i j x y hi hj e wx wy (by omega) (by omega) ?_
  rw [h.hold i x hi wx px, h.hold j y hj wy py]

/-- A new agent, or one that has gone. -/
theorem Inv.fresh (h : Inv N As dr sv st cur num Wd) (hk : As[k]? = some none) (hp : a'.ph = 0) (num' : Nat) (hn : num ≤ num') (hv : a'.v ≤ num') : Inv N (As.set k (some a')) dr sv st cur num' Wd := by
  refine ⟨h.len, h.le, fun i x hx wx px => ?_, fun i j x y hx hy hij wx wy px py => ?_, fun i x hx wx px => ?_, fun hall => h.even fun i x hx wx => ?_, fun i x hx wx px => ?_, fun i x hx wx px => ?_, fun i x hx wx => ?_, Nat.le_trans h.cn hn, fun i x hx wx => ?_⟩
  · rcases hx.set with ⟨_, e⟩ | ⟨_, hx⟩
    · cases e; omega
    · exact h.tk i x hx wx px
  · rcases hx.set with ⟨_, e⟩ | ⟨_, hx⟩
    · cases e; omega
    · rcases hy.set with ⟨_, e⟩ | ⟨_, hy⟩
      · cases e; omega
      · exact h.dist i j x y hx hy hij wx wy px py
  · rcases hx.set with ⟨_, e⟩ | ⟨_, hx⟩
    · cases e; omega
    · exact h.hold i x hx wx px
  · refine hall i x ?_ wx
    have hik : ¬ k = i := by
      rintro rfl
      unfold At at hx
      rw [hk] at hx; cases hx
    unfold At
    rw [List.getElem?_set_ne hik]; exact hx
  · rcases hx.set with ⟨_, e⟩ | ⟨_, hx⟩
    · cases e; omega
    · exact h.b3 i x hx wx px
  · rcases hx.set with ⟨_, e⟩ | ⟨_, hx⟩
    · cases e; omega
    · exact h.b4 i x hx wx px
  · rcases hx.set with ⟨_, e⟩ | ⟨_, hx⟩
    · cases e; omega
    · have := h.wv i x hx wx; omega
  · rcases hx.set with ⟨_, e⟩ | ⟨_, hx⟩
    · cases e
      exact ⟨by omega, fun h => by omega⟩
    · exact h.rd i x hx wx

/-- A reader's step. -/
theorem Inv.read (h : Inv N As dr sv st cur num Wd) (hk : At As k a) (wa : a.w = false) (wa' : a'.w = false)
    (hr : a'.ph ≤ 2 ∧ (1 ≤ a'.ph → a'.vals.length = a'.n ∧ a'.n ≤ N ∧ (a'.ph = 1 → a'.n < N) ∧ (a'.ph = 2 → a'.n = N) ∧ a'.seen % 2 = 0 ∧ a'.seen ≤ st ∧ (a'.seen = st → a'.vals = List.replicate a'.n (Bn cur)))) : Inv N (As.set k (some a')) dr sv st cur num Wd := by
  refine ⟨h.len, h.le, fun i x hx wx px => ?_, fun i j x y hx hy hij wx wy px py => ?_, fun i x hx wx px => ?_, fun hall => h.even fun i x hx wx => ?_, fun i x hx wx px => ?_, fun i x hx wx px => ?_, fun i x hx wx => ?_, h.cn, fun i x hx wx => ?_⟩
  · rcases hx.set with ⟨_, e⟩ | ⟨_, hx⟩
    · cases e; rw [wa'] at wx; cases wx
    · exact h.tk i x hx wx px
  · rcases hx.set with ⟨_, e⟩ | ⟨_, hx⟩
    · cases e; rw [wa'] at wx; cases wx
    · rcases hy.set with ⟨_, e⟩ | ⟨_, hy⟩
      · cases e; rw [wa'] at wy; cases wy
      · exact h.dist i j x y hx hy hij wx wy px py
  · rcases hx.set with ⟨_, e⟩ | ⟨_, hx⟩
    · cases e; rw [wa'] at wx; cases wx
    · exact h.hold i x hx wx px
  · refine hall i x ?_ wx
    have hik : ¬ k = i := by
      rintro rfl
      unfold At at hx hk
      rw [hk] at hx; cases hx; rw [wa] at wx; cases wx
    unfold At
    rw [List.getElem?_set_ne hik]; exact hx
  · rcases hx.set with ⟨_, e⟩ | ⟨_, hx⟩
    · cases e; rw [wa'] at wx; cases wx
    · exact h.b3 i x hx wx px
  · rcases hx.set with ⟨_, e⟩ | ⟨_, hx⟩
    · cases e; rw [wa'] at wx; cases wx
    · exact h.b4 i x hx wx px
  · rcases hx.set with ⟨_, e⟩ | ⟨_, hx⟩
    · cases e; rw [wa'] at wx; cases wx
    · exact h.wv i x hx wx
  · rcases hx.set with ⟨_, e⟩ | ⟨_, hx⟩
    · cases e; exact hr
    · exact h.rd i x hx wx

theorem Inv.gone (h : Inv N As dr sv st cur num Wd) (hk : At As k a) (wa : a.w = false) : Inv N (As.set k none) dr sv st cur num Wd := by
  have hn : ∀ {i x}, At (As.set k none) i x → i ≠ k ∧ At As i x := fun hx => by
    rcases hx.set with ⟨_, e⟩ | hx
    · cases e
    · exact hx
  refine ⟨h.len, h.le, fun i x hx wx px => h.tk i x (hn hx).2 wx px, fun i j x y hx hy hij wx wy px py => h.dist i j x y (hn hx).2 (hn hy).2 hij wx wy px py, fun i x hx wx px => h.hold i x (hn hx).2 wx px, fun hall => h.even fun i x hx wx => ?_, fun i x hx wx px => h.b3 i x (hn hx).2 wx px, fun i x hx wx px => h.b4 i x (hn hx).2 wx px, fun i x hx wx => h.wv i x (hn hx).2 wx, h.cn, fun i x hx wx => h.rd i x (hn hx).2 wx⟩
  refine hall i x ?_ wx
  have hik : ¬ k = i := by
    rintro rfl
    unfold At at hx hk
    rw [hk] at hx; cases hx; rw [wa] at wx; cases wx
  unfold At
  rw [List.getElem?_set_ne hik]; exact hx

/-- A word is read under an even stamp. -/
theorem Inv.word (h : Inv N As dr sv st cur num Wd) (he : st % 2 = 0) : Wd = List.replicate N (Bn cur) := by
  refine (h.even fun i x hx wx hp => ?_).2
  rcases hp with hp | hp
  · have := (h.b3 i x hx wx hp).1; omega
  · have := (h.b4 i x hx wx hp).1; omega

/-- A writer's step that keeps the words and the stamp. -/
theorem Inv.write (h : Inv N As dr sv st cur num Wd) (hk : At As k a) (wa : a.w = true) (wa' : a'.w = true) (hv : a'.v = a.v) (hp : a.ph ≤ 1 ∧ a'.ph ≤ 2 ∧ 1 ≤ a'.ph) (dr' : Nat) (hd : dr ≤ dr')
    (ht : sv ≤ a'.turn ∧ a'.turn < dr' ∧ (a'.ph = 2 → a'.turn = sv)) (hne : ∀ i x, At As i x → i ≠ k → x.w = true → 1 ≤ x.ph → x.turn ≠ a'.turn) : Inv N (As.set k (some a')) dr' sv st cur num Wd := by
  have hle := h.le
  refine ⟨h.len, by omega, fun i x hx wx px => ?_, fun i j x y hx hy hij wx wy px py => ?_, fun i x hx wx px => ?_, fun hall => h.even fun i x hx wx => ?_, fun i x hx wx px => ?_, fun i x hx wx px => ?_, fun i x hx wx => ?_, h.cn, fun i x hx wx => ?_⟩
  · rcases hx.set with ⟨_, e⟩ | ⟨_, hx⟩
    · cases e; omega
    · have := h.tk i x hx wx px; omega
  · rcases hx.set with ⟨ei, e⟩ | ⟨ei, hx⟩
    · cases e
      rcases hy.set with ⟨ej, e⟩ | ⟨ej, hy⟩
      · omega
      · exact fun e => hne j y hy ej wy py e.symm
    · rcases hy.set with ⟨ej, e⟩ | ⟨ej, hy⟩
      · cases e; exact hne i x hx ei wx px
      · exact h.dist i j x y hx hy hij wx wy px py
  · rcases hx.set with ⟨_, e⟩ | ⟨_, hx⟩
    · cases e; exact ht.2.2 (by omega)
    · exact h.hold i x hx wx px
  · by_cases e : i = k
    · subst e
      unfold At at hx hk
      rw [hk] at hx; cases hx; omega
    · refine hall i x ?_ wx
      unfold At
      rw [List.getElem?_set_ne (fun h => e h.symm)]; exact hx
  · rcases hx.set with ⟨_, e⟩ | ⟨_, hx⟩
    · cases e; omega
    · exact h.b3 i x hx wx px
  · rcases hx.set with ⟨_, e⟩ | ⟨_, hx⟩
    · cases e; omega
    · exact h.b4 i x hx wx px
  · rcases hx.set with ⟨_, e⟩ | ⟨_, hx⟩
    · cases e
      have := h.wv k a hk wa; omega
    · exact h.wv i x hx wx
  · rcases hx.set with ⟨_, e⟩ | ⟨_, hx⟩
    · cases e; rw [wa'] at wx; cases wx
    · exact h.rd i x hx wx

/-- A holder's step: the words, the stamp, what is whole. -/
theorem Inv.held (h : Inv N As dr sv st cur num Wd) (hk : At As k a) (wa : a.w = true) (pa : 2 ≤ a.ph) (wa' : a'.w = true) (hv : a'.v = a.v) (ht : a'.turn = a.turn) (pa' : 2 ≤ a'.ph ∧ a'.ph ≤ 5) (st' cur' : Nat) (Wd' : List (BitVec 64))
    (hl : Wd'.length = N) (hc : cur' ≤ num)
    (h5 : ¬ (a'.ph = 3 ∨ a'.ph = 4) → st' % 2 = 0 ∧ Wd' = List.replicate N (Bn cur'))
    (h3 : a'.ph = 3 → st' % 2 = 1 ∧ a'.n < N ∧ Wd' = List.replicate a'.n (Bn a'.v) ++ List.replicate (N - a'.n) (Bn cur'))
    (h4 : a'.ph = 4 → st' % 2 = 1 ∧ Wd' = List.replicate N (Bn a'.v))
    (hs : st' = st ∧ cur' = cur ∨ st' = st + 1) : Inv N (As.set k (some a')) dr sv st' cur' num Wd' := by
  have ha := h.hold k a hk wa pa
  have hle := h.le
  have hkl : k < As.length := (List.getElem?_eq_some_iff.1 hk).1
  have self : At (As.set k (some a')) k a' := by unfold At; rw [List.getElem?_set_self hkl]
  refine ⟨hl, hle, fun i x hx wx px => ?_, fun i j x y hx hy hij wx wy px py => ?_, fun i x hx wx px => ?_, fun hall => h5 (hall k a' self wa'), fun i x hx wx px => ?_, fun i x hx wx px => ?_, fun i x hx wx => ?_, hc, fun i x hx wx => ?_⟩
  · rcases hx.set with ⟨_, e⟩ | ⟨_, hx⟩
    · cases e
      have := h.tk k a hk wa (by omega)
      omega
    · exact h.tk i x hx wx px
  · rcases hx.set with ⟨ei, e⟩ | ⟨ei, hx⟩
    · cases e
      rcases hy.set with ⟨ej, e⟩ | ⟨ej, hy⟩
      · omega
      · rw [ht]; exact h.dist k j a y hk hy (fun e => ej e.symm) wa wy (by omega) py
    · rcases hy.set with ⟨ej, e⟩ | ⟨ej, hy⟩
      · cases e; rw [ht]; exact h.dist i k x a hx hk ei wx wa px (by omega)
      · exact h.dist i j x y hx hy hij wx wy px py
  · rcases hx.set with ⟨_, e⟩ | ⟨_, hx⟩
    · cases e; rw [ht, ha]
    · exact h.hold i x hx wx px
  · rcases hx.set with ⟨_, e⟩ | ⟨ei, hx⟩
    · cases e; exact h3 px
    · exact (ei (h.one hx hk wx wa (by omega) pa)).elim
  · rcases hx.set with ⟨_, e⟩ | ⟨ei, hx⟩
    · cases e; exact h4 px
    · exact (ei (h.one hx hk wx wa (by omega) pa)).elim
  · rcases hx.set with ⟨_, e⟩ | ⟨_, hx⟩
    · cases e
      have := h.wv k a hk wa
      omega
    · exact h.wv i x hx wx
  · rcases hx.set with ⟨_, e⟩ | ⟨_, hx⟩
    · cases e; rw [wa'] at wx; cases wx
    · obtain ⟨r1, r2⟩ := h.rd i x hx wx
      refine ⟨r1, fun p => ?_⟩
      obtain ⟨s1, s2, s3, s4, s5, s6, s7⟩ := r2 p
      refine ⟨s1, s2, s3, s4, s5, by omega, fun e => ?_⟩
      rcases hs with ⟨rfl, rfl⟩ | rfl
      · exact s7 e
      · omega

/-- It lets go. -/
theorem Inv.drop (h : Inv N As dr sv st cur num Wd) (hk : At As k a) (wa : a.w = true) (pa : a.ph = 5) : Inv N (As.set k none) dr (sv + 1) st cur num Wd := by
  have hn : ∀ {i x}, At (As.set k none) i x → i ≠ k ∧ At As i x := fun hx => by
    rcases hx.set with ⟨_, e⟩ | hx
    · cases e
    · exact hx
  have ha := h.hold k a hk wa (by omega)
  have hta := h.tk k a hk wa (by omega)
  have no2 : ∀ i x, At As i x → i ≠ k → x.w = true → ¬ 2 ≤ x.ph := fun i x hx e wx px => e (h.one hx hk wx wa px (by omega))
  refine ⟨h.len, by omega, fun i x hx wx px => ?_, fun i j x y hx hy hij wx wy px py => h.dist i j x y (hn hx).2 (hn hy).2 hij wx wy px py, fun i x hx wx px => (no2 i x (hn hx).2 (hn hx).1 wx px).elim, fun hall => h.even fun i x hx wx hp => ?_, fun i x hx wx px => (no2 i x (hn hx).2 (hn hx).1 wx (by omega)).elim, fun i x hx wx px => (no2 i x (hn hx).2 (hn hx).1 wx (by omega)).elim, fun i x hx wx => h.wv i x (hn hx).2 wx, h.cn, fun i x hx wx => h.rd i x (hn hx).2 wx⟩
  · have h1 := h.tk i x (hn hx).2 wx px
    have h2 := h.dist i k x a (hn hx).2 hk (hn hx).1 wx wa px (by omega)
    omega
  · by_cases e : i = k
    · subst e
      unfold At at hx hk
      rw [hk] at hx; cases hx; omega
    · exact no2 i x hx e wx (by omega)
end Go.Proofs.Ytgpacebjbdhphaa

/-
  Records: maps that are made, runs that begin, what they tell.
-/
namespace Go.Proofs.Ytgpacebjbdhphaa
open Go Go.AS Go.RowKit
set_option linter.unusedVariables false
variable {H H' : Heap} {m x r b : Nat} {S S' : Sm} {R : Value → Heap → Prop} {L : List Asr} {ws vs : List (BitVec 64)} {c : Int} {q : Rn} {N : Nat}

theorem first_one {mp b : Nat} {room n : Int} (h1 : 1 ≤ n) (h2 : n ≤ 65536) (hr : n ≤ room) : ((newSm mp room).make b n).1 = (1, 0) ∧ One ((newSm mp room).make b n).2 (List.replicate n.toNat 0) 0 := by
  have hr : ¬ (newSm mp room).room < n := by simp only [newSm, clampRoom_eq]; omega
  have e1 : wr 1 = 1 := wrs (by omega)
  have e : (newSm mp room).make b n = ((wr 1, 0), (newSm mp room).mk' b n.toNat) := by
    unfold Sm.make
    rw [if_neg (by omega), if_neg hr]; rfl
  rw [e, e1]
  refine ⟨rfl, ⟨b, 0, ?_⟩, rfl, rfl, Int.le_refl _⟩
  show [] ++ [(⟨wr (0 + 1), b, 0, List.replicate n.toNat 0⟩ : Reg)] = _
  rw [Int.zero_add, e1]; rfl

theorem dec_ok (hN : 1 ≤ N ∧ N ≤ 4) : chks [(⟨3, 1, N, 0, 0⟩ : Dc)] = 0 := by
  obtain rfl | rfl | rfl | rfl : N = 1 ∨ N = 2 ∨ N = 3 ∨ N = 4 := by omega
  all_goals rfl

theorem graceNew_s {n : Int} {p : Option Addr} (h : Sep H L) (hR : ∀ H' g, Sep H' L → R (P g) H') : CA en F.grace_New [I n, .pointer p] H R := by
  apply vc_grace_New
  exact Sep.nw h fun mi H2 h2 => Sep.nw h2 fun g H4 h4 => hR H4 g h4.tail.tail

theorem sameD (a b c d e : Int) : sameN 8 (.agg #[.int .i64 a, .int .i64 b, .int .i64 c, .int .i64 d, .int .i64 e]) (.agg #[.int .i64 a, .int .i64 b, .int .i64 c, .int .i64 d, .int .i64 e]) = true := by simp [sameN, sameN.sameL]

theorem rmade_s (h : Sep H L) (hN : 1 ≤ N ∧ N ≤ 4) (hR : ∀ H' m x S, One S (List.replicate (3 + N) 0) 0 → Sep H' (mA m x ⟨3, 1, N, 0, 0⟩ :: mem m S :: L) → R (.tuple #[P m, P x]) H') : CA en F.crossbarlaw14_made [.agg #[I 3, I 1, I N, I 0, I 0], I 8] H R := by
  apply vc_crossbarlaw14_made
  refine Sep.nw h fun i1 H2 h2 => new_s h2 fun H4 m mp h4 => ⟨_, rfl, cond_no rfl ?_⟩
  have hB := h4.bump 10
  refine graceNew_s hB fun H7 g h7 => ⟨_, rfl, _, _, _, _, _, Sep.lds1 h7 rfl, ?_⟩
  apply vc_record_New
  refine Sep.nw h7 fun j1 H8 h8 => ⟨_, _, _, _, _, Sep.lds0 h8 rfl, Sep.nw h8 fun i8 H9 h9 => ?_⟩
  refine Check_ok (l := [⟨3, 1, N, 0, 0⟩]) ⟨rfl, .inr ⟨i8, true, 5, rfl, h9.footlt (by simp [bx]), Sep.get0 h9⟩⟩ fun H11 fr => ⟨_, rfl, ?_⟩
  have h11 := (h9.keep fr).tail
  rw [dec_ok hN]
  -- j1 mem i1 L
  have ew : IntKind.i64.wrap (1 * IntKind.i64.wrap (3 + (N : Int))) = ((3 + N : Nat) : Int) := by rw [wrap_i64 (n := 3 + (N : Int)) (by omega), wrap_i64 (by omega)]; omega
  refine cond_no rfl ⟨_, Sep.ld0 h11 rfl, cond_no rfl ⟨_, Sep.ld0 h11 rfl, _, Sep.ld0 h11 rfl, ?_⟩⟩
  rw [ew]
  refine make_s (Sep.up1 h11) (fun _ _ _ => rfl) fun H16 b h16 => ⟨_, _, rfl, ?_⟩
  obtain ⟨e1, o⟩ := first_one (mp := mp) (b := b) (room := 8) (n := ((3 + N : Nat) : Int)) (by omega) (by omega) (by omega)
  rw [e1]
  refine cond_no rfl ⟨_, _, _, _, _, Sep.lds1 h16 rfl, Sep.nw h16 fun x H25 h25 => ⟨_, _, rfl, ⟨cond_no rfl (hR H25 m x _ o ?_), ⟨⟨_, _, _, _, _, Sep.lds1 hB rfl, sameD _ _ _ _ _⟩, ⟨_, _, _, _, _, Sep.lds1 h7 rfl, sameD _ _ _ _ _⟩, trivial⟩, trivial⟩⟩⟩
  exact Sep.pick h25 4 [0, 1] (by decide)

/-- A lookup of the first key. -/
theorem rbegR_s (h : Sep H (mA m x ⟨3, 1, N, 0, 0⟩ :: L)) (hN : N ≤ 4) (hR : ∀ H' r, Sep H' (rA r x ⟨1, 0, none, 0, 0, 0, 0, none, 0, 0, 0, fnv F.record_Run_look r, .pointer none, 0, 0, 0⟩ :: mA m x ⟨3, 1, N, 0, 0⟩ :: L) → R (P r) H') :
    CA en F.record_Map_Begin [P x, .agg #[I 1, .int .u64 0, .slice none 0 0, I 0, I 0]] H R := by
  apply vc_record_Map_Begin
  refine Sep.nw h fun i1 H2 h2 => ⟨_, _, _, _, _, _, Sep.lds0 h2 rfl, Sep.nw h2 fun r H10 h10 => ?_⟩
  have hB := h10.bump 10
  have hB2 := hB.bump 20
  refine ⟨_, Sep.ld1 hB rfl, asAddr_in ⟨_, Sep.ld2 hB rfl, ⟨_, Sep.ld1 hB rfl, cond_no rfl (cond_no rfl (cond_no rfl ⟨_, Sep.ld1 hB rfl, cond_yes rfl ⟨_, Sep.ld1 hB2 rfl, asAddr_in ⟨_, Sep.ld2 hB2 rfl, ?_⟩⟩⟩))⟩, trivial⟩⟩
  have e : IntKind.i64.wrap (IntKind.i64.wrap 0 * IntKind.i64.wrap (3 + (N : Int))) = 0 := by rw [wrap_i64 (n := 3 + (N : Int)) (by omega)]; show IntKind.i64.wrap (0 * _) = 0; rw [Int.zero_mul]; rfl
  rw [e]
  refine Sep.st0 hB2 (Nat.le_of_ble_eq_true rfl) fun H41 h41 => Sep.st0 h41 (Nat.le_of_ble_eq_true rfl) fun H42 h42 => ⟨hR H42 r ?_, trivial⟩
  exact h42.rm1

/-- An update of the first key. -/
theorem rbegW_s {g : Nat} (h : Sep H (gl 1 (some g) (wds vs) :: mA m x ⟨3, 1, N, 0, 0⟩ :: L)) (hN : N ≤ 4) (hv : 0 < vs.length ∧ vs.length < 1000)
    (hR : ∀ H' r b g', Sep H' (rA r x ⟨2, 0, some g', vs.length, 0, 0, 0, none, 0, 0, 0, fnv F.record_Run_take r, P b, 0, 0, 0⟩ :: tk m 0 0 F.lock_Taker_draw b :: gl 1 (some g') (wds vs) :: mA m x ⟨3, 1, N, 0, 0⟩ :: L) → R (P r) H') :
    CA en F.record_Map_Begin [P x, .agg #[I 2, .int .u64 0, .slice (addr (some g)) vs.length 0, I 0, I 0]] H R := by
  apply vc_record_Map_Begin
  refine Sep.nw h fun i1 H2 h2 => ⟨_, _, _, _, _, _, Sep.lds0 h2 rfl, Sep.nw h2 fun r H10 h10 => ?_⟩
  have hB := h10.bump 10
  have hB2 := hB.bump 14
  refine ⟨_, Sep.ld1 hB rfl, asAddr_in ⟨_, Sep.ld3 hB rfl, ⟨_, Sep.ld1 hB rfl, cond_no rfl (cond_no rfl (cond_no rfl ⟨_, Sep.ld1 hB rfl, cond_no rfl ⟨_, Sep.ld1 hB rfl, cond_no rfl ⟨_, Sep.ld1 hB2 rfl, asAddr_in ⟨_, Sep.ld3 hB2 rfl, ?_⟩⟩⟩⟩))⟩, trivial⟩⟩
  have e : IntKind.i64.wrap (IntKind.i64.wrap 0 * IntKind.i64.wrap (3 + (N : Int))) = 0 := by rw [wrap_i64 (n := 3 + (N : Int)) (by omega)]; show IntKind.i64.wrap (0 * _) = 0; rw [Int.zero_mul]; rfl
  rw [e]
  refine Sep.st0 hB2 (Nat.le_of_ble_eq_true rfl) fun H50 h50 => ⟨⟨_, _, Sep.ld1 h50 rfl, wds vs, ?_, ?_⟩, trivial⟩
  · refine rowOf_bx (gl_get (Sep.up2 h50)) (by omega) ?_
    have : (wds vs).length = vs.length * 1 := by simp
    rw [← this]; exact takeAt_all' _
  -- r i1 g x
  have h51 : Sep H50 (gl 1 none [] :: _) := gl_none.2 h50
  refine apd_gl (b := none) (cs := []) (new := wds vs) h51 (fun _ => rfl) (by decide) rfl hv.1 (by simp) (by omega) fun H56 g' h56 => ?_
  rw [Nat.zero_add, List.nil_append] at *
  refine Sep.st1 h56 (Nat.le_of_ble_eq_true rfl) fun H57 h57 => ?_
  have hB3 := h57.bump 23
  refine asAddr_in ⟨_, Sep.ld4 hB3 rfl, asAddr_in ⟨_, Sep.ld4 hB3 rfl, _, Sep.ld1 hB3 rfl, ?_⟩⟩
  refine take_s (i := 0) hB3 fun H66 b h66 => ⟨_, rfl, Sep.st2 h66 (Nat.le_of_ble_eq_true rfl) fun H68 h68 => Sep.st2 h68 (Nat.le_of_ble_eq_true rfl) fun H69 h69 => ⟨hR H69 r b g' ?_, trivial⟩⟩
  -- tk g' r i1 g x
  exact Sep.pick h69 6 [2, 0, 1, 5] (by decide)

theorem rresult_s (h : Sep H (rA r x q :: gl 1 q.rv (wds vs) :: L)) (hl : q.rl = vs.length) (hv : 0 < vs.length ∧ vs.length < 1000) (hn : q.rv = none → vs = [])
    (hR : ∀ H' g, Sep H' (gl 1 (some g) (wds vs) :: rA r x q :: gl 1 q.rv (wds vs) :: L) → R (.agg #[I q.no, .slice (addr (some g)) vs.length 0, .int .u64 q.rk, I q.re]) H') : CA en F.record_Run_Result [P r] H R := by
  apply vc_record_Run_Result
  refine Sep.nw h fun i1 H2 h2 => asAddr_in ⟨_, _, _, _, _, Sep.lds1 h2 rfl, Sep.nw h2 fun i10 H11 h11 => Sep.st0 h11 (Nat.le_of_ble_eq_true rfl) fun H12 h12 => ⟨_, _, Sep.ld0 h12 rfl, wds vs, ?_, ?_⟩⟩
  · rw [hl]
    cases hrv : q.rv with
    | none => rw [hn hrv] at hv; simp at hv
    | some g =>
      have h13 := Sep.up3 h12
      rw [hrv] at h13
      refine rowOf_bx (gl_get h13) (by omega) ?_
      have : (wds vs).length = vs.length * 1 := by simp
      rw [← this]; exact takeAt_all' _
  have h13 : Sep H12 (gl 1 none [] :: _) := gl_none.2 h12
  rw [hl]
  refine apd_gl (b := none) (cs := []) (new := wds vs) h13 (fun _ => rfl) (by decide) rfl hv.1 (by simp) (by omega) fun H18 g h18 => ?_
  rw [Nat.zero_add, List.nil_append] at *
  -- g i10 i1 r rv
  refine Sep.st1 h18 (Nat.le_of_ble_eq_true rfl) fun H19 h19 => ⟨_, _, _, _, _, Sep.lds1 h19 rfl, Sep.st2 h19 (Nat.le_of_ble_eq_true rfl) fun H25 h25 => ⟨_, _, _, _, _, Sep.lds2 h25 rfl, ?_⟩⟩
  exact hR H25 g (Sep.pick h25 5 [0, 3, 4] (by decide))
end Go.Proofs.Ytgpacebjbdhphaa

/-
  A step of an agent: what is kept.
-/
namespace Go.Proofs.Ytgpacebjbdhphaa
open Go Go.AS Go.RowKit
set_option linter.unusedVariables false
variable {H H' : Heap} {m x : Nat} {S S' : Sm} {R : Value → Heap → Prop} {L : List Asr} {Wd : List (BitVec 64)} {N dr sv st cur num k j Wr : Nat} {As : Ags} {a : RG} {c : Int}

def wfn (ph : Nat) : Nat := match ph with | 0 => F.record_Run_take | 1 => F.record_Run_take | 2 => F.record_Run_begin | 3 => F.record_Run_store | 4 => F.record_Run_end | _ => F.record_Run_drop
def rfn (ph : Nat) : Nat := match ph with | 0 => F.record_Run_look | 1 => F.record_Run_load | _ => F.record_Run_same
def tfn (ph : Nat) : Nat := match ph with | 0 => F.lock_Taker_draw | 1 => F.lock_Taker_wait | _ => F.lock_Taker_got
def RG.tick (a : RG) : BitVec 64 := if a.ph = 0 then 0 else Bn a.turn
def RG.wq (N : Nat) (a : RG) : Rn := ⟨2, 0, a.ov, N, 0, 0, 0, none, 0, 0, 0, fnv (wfn a.ph) a.r, P a.tb, 0, a.n, 0⟩
def RG.rq (a : RG) : Rn := ⟨1, 0, none, 0, 0, 0, 0, a.rv, a.vals.length, 0, 0, fnv (rfn a.ph) a.r, .pointer none, 0, a.n, Bn a.seen⟩
def RG.blk (m x N : Nat) (a : RG) : List Asr :=
  if a.w then [rA a.r x (a.wq N), tk m 0 a.tick (tfn a.ph) a.tb, gl 1 a.ov (wds (List.replicate N (Bn a.v)))] else [rA a.r x a.rq, gl 1 a.rv (wds a.vals)]
def oblk (m x N : Nat) : Option RG → List Asr
  | none => []
  | some a => a.blk m x N
abbrev dN (N : Nat) : Md := ⟨3, 1, N, 0, 0⟩
abbrev mws (dr sv st : Nat) (Wd : List (BitVec 64)) : List (BitVec 64) := Bn dr :: Bn sv :: Bn st :: Wd

structure WS0 (m x N Wr : Nat) (H : Heap) (As : Ags) (S : Sm) (dr sv st cur num : Nat) (Wd : List (BitVec 64)) (c : Int) (j : Nat) (L : List Asr) : Prop where
  side : ∀ i a, At As i a → a.w = decide (i < Wr)
  own : ∀ i a, At As i a → (a.w = true → a.ov ≠ none ∧ (a.ph ≤ 2 → a.n = 0)) ∧ (a.rv = none → a.vals = [])
  inv : Inv N As dr sv st cur num Wd
  one : One S (mws dr sv st Wd) c
  bd : dr ≤ j ∧ st ≤ j ∧ num ≤ j ∧ c ≤ j
  sep : Sep H (mA m x (dN N) :: mem m S :: many (As.flatMap (oblk m x N)) :: L)

theorem blk_out (h : Sep H (mA m x (dN N) :: mem m S :: many (As.flatMap (oblk m x N)) :: L)) (hk : At As k a) : Sep H (many (a.blk m x N) :: mA m x (dN N) :: mem m S :: many ((As.take k).flatMap (oblk m x N) ++ (As.drop (k + 1)).flatMap (oblk m x N)) :: L) := by
  have e := flatMap_split (f := oblk m x N) hk
  rw [e] at h
  have h1 := Sep.splitM.1 (Sep.up2 h)
  exact Sep.pick h1 4 [0, 2, 3, 1] (by decide)
theorem blk_in {o : Option RG} (hk : k < As.length) (h : Sep H (many (oblk m x N o) :: mA m x (dN N) :: mem m S :: many ((As.take k).flatMap (oblk m x N) ++ (As.drop (k + 1)).flatMap (oblk m x N)) :: L)) : Sep H (mA m x (dN N) :: mem m S :: many ((As.set k o).flatMap (oblk m x N)) :: L) := by
  have e := flatMap_set (f := oblk m x N) (y := o) hk
  rw [e]
  have h1 := Sep.splitM.2 (Sep.pick h 4 [0, 3, 1, 2] (by decide))
  exact Sep.pick h1 3 [1, 2, 0] (by decide)

theorem many3 {A B C : Asr} : Sep H (many [A, B, C] :: L) ↔ Sep H (A :: B :: C :: L) := Sep.many_iff
theorem many2 {A B : Asr} : Sep H (many [A, B] :: L) ↔ Sep H (A :: B :: L) := Sep.many_iff

theorem side_set (h : ∀ i a, At As i a → a.w = decide (i < Wr)) (hk : At As k a) {a' : RG} (hw : a'.w = a.w) : ∀ i b, At (As.set k (some a')) i b → b.w = decide (i < Wr) := by
  intro i b hb
  rcases hb.set with ⟨e, e2⟩ | ⟨_, hb⟩
  · cases e2; rw [e, hw]; exact h k a hk
  · exact h i b hb
theorem own_set (h : ∀ i a, At As i a → (a.w = true → a.ov ≠ none ∧ (a.ph ≤ 2 → a.n = 0)) ∧ (a.rv = none → a.vals = [])) {a' : RG} (hw : (a'.w = true → a'.ov ≠ none ∧ (a'.ph ≤ 2 → a'.n = 0)) ∧ (a'.rv = none → a'.vals = [])) : ∀ i b, At (As.set k (some a')) i b → (b.w = true → b.ov ≠ none ∧ (b.ph ≤ 2 → b.n = 0)) ∧ (b.rv = none → b.vals = []) := by
  intro i b hb
  rcases hb.set with ⟨e, e2⟩ | ⟨_, hb⟩
  · cases e2; exact hw
  · exact h i b hb
theorem none_set {Q : Nat → RG → Prop} (h : ∀ i a, At As i a → Q i a) : ∀ i b, At (As.set k none) i b → Q i b := by
  intro i b hb
  rcases hb.set with ⟨_, e2⟩ | ⟨_, hb⟩
  · cases e2
  · exact h i b hb

set_option maxHeartbeats 1000000 in
theorem agent_s (hN : 1 ≤ N ∧ N ≤ 4) (w : WS0 m x N Wr H As S dr sv st cur num Wd c j L) (hj : j < 5000) (hk : At As k a)
    (hR1 : ∀ H' e (a' : RG) S' dr' sv' st' cur' Wd' c', a'.r = a.r → a'.v = a.v → (e = true → a.w = true ∧ cur' = a.v) → (e = false → cur' = cur) → WS0 m x N Wr H' (As.set k (some a')) S' dr' sv' st' cur' num Wd' c' (j + 1) L → R (.tuple #[.bool e, .bool false]) H')
    (hR2 : ∀ H' S' dr' sv' st' Wd' c', a.w = true → WS0 m x N Wr H' (As.set k none) S' dr' sv' st' cur num Wd' c' (j + 1) L → R (.tuple #[.bool false, .bool true]) H')
    (hR3 : ∀ H' S' (q : Rn) c', a.w = false → q.rl = N → q.rv ≠ none → WS0 m x N Wr H' (As.set k none) S' dr sv st cur num Wd c' (j + 1) (rA a.r x q :: gl 1 q.rv (wds (List.replicate N (Bn cur))) :: L) → R (.tuple #[.bool true, .bool true]) H') :
    CA en F.record_Run_Step [P a.r] H R := by
  have hkl : k < As.length := (List.getElem?_eq_some_iff.1 hk).1
  have inv := w.inv
  obtain ⟨bd1, bd2, bd3, bd4⟩ := w.bd
  have o := w.one
  have hc : c < 4611686018427387904 := by omega
  have hlen : (mws dr sv st Wd).length = 3 + N := by show Wd.length + 1 + 1 + 1 = _; rw [inv.len]; omega
  have hsvdr := inv.le
  have hout := blk_out w.sep hk
  cases hw : a.w with
  | true =>
    have ow := ((w.own k a hk).1 hw).1
    have on0 := ((w.own k a hk).1 hw).2
    have ow2 := (w.own k a hk).2
    have hb : a.blk m x N = [rA a.r x (a.wq N), tk m 0 a.tick (tfn a.ph) a.tb, gl 1 a.ov (wds (List.replicate N (Bn a.v)))] := if_pos hw
    rw [hb] at hout
    have h0 := many3.1 hout
    obtain ⟨hv, hph⟩ := inv.wv k a hk hw
    have tt := inv.tk k a hk hw
    -- back into place
    have back : ∀ {H' : Heap} {S' : Sm} {a' : RG}, a'.w = true → a'.v = a.v → a'.ov = a.ov → Sep H' (rA a'.r x (a'.wq N) :: tk m 0 a'.tick (tfn a'.ph) a'.tb :: gl 1 a.ov (wds (List.replicate N (Bn a.v))) :: mA m x (dN N) :: mem m S' :: many ((As.take k).flatMap (oblk m x N) ++ (As.drop (k + 1)).flatMap (oblk m x N)) :: L) → Sep H' (mA m x (dN N) :: mem m S' :: many ((As.set k (some a')).flatMap (oblk m x N)) :: L) := by
      intro H' S' a' e1 e2 e3 h
      refine blk_in hkl ?_
      have hb' : oblk m x N (some a') = [rA a'.r x (a'.wq N), tk m 0 a'.tick (tfn a'.ph) a'.tb, gl 1 a'.ov (wds (List.replicate N (Bn a'.v)))] := if_pos e1
      rw [hb', e2, e3]
      exact many3.2 h
    obtain ⟨aw, aph, an, aseen, av, aturn, avals, ar, atb, aov, arv, ano⟩ := a
    simp only at hw ow on0 ow2 hv hph tt back hR1 hR2 hR3 ⊢
    subst hw
    obtain rfl | rfl | rfl | rfl | rfl | rfl : aph = 0 ∨ aph = 1 ∨ aph = 2 ∨ aph = 3 ∨ aph = 4 ∨ aph = 5 := by omega
    · -- draws
      refine sdraw_s (a := 0) (Sep.pick h0 5 [0, 1, 3, 4, 2] (by decide)) rfl rfl o hc (by rw [hlen]; omega) fun H' S' o' h' => ?_
      refine hR1 H' false ⟨true, 1, an, aseen, av, dr, avals, ar, atb, aov, arv, ano⟩ S' (dr + 1) sv st cur Wd (c + 1) rfl rfl (fun h => by cases h) (fun _ => rfl) ⟨side_set w.side hk rfl, own_set w.own ⟨fun _ => ⟨ow, fun _ => on0 (by omega)⟩, ow2⟩, ?_, ?_, by omega, ?_⟩
      · refine inv.write (a' := ⟨true, 1, an, aseen, av, dr, avals, ar, atb, aov, arv, ano⟩) hk rfl rfl rfl ⟨by show 0 ≤ 1; omega, by show 1 ≤ 2; omega, by show 1 ≤ 1; omega⟩ (dr + 1) (by omega) ⟨hsvdr, by show dr < dr + 1; omega, fun h => by cases h⟩ fun i y hy hi wy py => ?_
        have := (inv.tk i y hy wy py).2
        show y.turn ≠ dr
        omega
      · have : (mws dr sv st Wd).set 0 ((mws dr sv st Wd).getD 0 0 + 1) = mws (dr + 1) sv st Wd := by
          show (Bn dr + 1) :: _ = _
          rw [Bn_succ]
        rw [this] at o'
        exact o'
      · exact back rfl rfl rfl (Sep.pick h' 5 [0, 1, 4, 2, 3] (by decide))
    · -- waits
      have t1 := tt (by omega)
      have hlt : sv < 10000 ∧ aturn < 10000 := by omega
      refine swait_s (a := 0) (Sep.pick h0 5 [0, 1, 3, 4, 2] (by decide)) rfl rfl o hc (by rw [hlen]; omega) (by rw [hlen]; omega) (fun e H' S' o' h' => ?_) fun e H' S' o' h' => ?_
      · have e : sv = aturn := (Bn_inj hlt.1 hlt.2).1 e
        refine hR1 H' false ⟨true, 2, an, aseen, av, aturn, avals, ar, atb, aov, arv, ano⟩ S' dr sv st cur Wd (c + 1) rfl rfl (fun h => by cases h) (fun _ => rfl) ⟨side_set w.side hk rfl, own_set w.own ⟨fun _ => ⟨ow, fun _ => on0 (by omega)⟩, ow2⟩, ?_, o', by omega, ?_⟩
        · refine inv.write (a' := ⟨true, 2, an, aseen, av, aturn, avals, ar, atb, aov, arv, ano⟩) hk rfl rfl rfl ⟨by show 1 ≤ 1; omega, by show 2 ≤ 2; omega, by show 1 ≤ 2; omega⟩ dr (Nat.le_refl _) ⟨t1.1, t1.2, fun _ => e.symm⟩ fun i y hy hi wy py => ?_
          exact inv.dist i k y ⟨true, 1, an, aseen, av, aturn, avals, ar, atb, aov, arv, ano⟩ hy hk hi wy rfl py (by show 1 ≤ 1; omega)
        · exact back rfl rfl rfl (Sep.pick h' 5 [0, 1, 4, 2, 3] (by decide))
      · refine hR1 H' false ⟨true, 1, an, aseen, av, aturn, avals, ar, atb, aov, arv, ano⟩ S' dr sv st cur Wd (c + 1) rfl rfl (fun h => by cases h) (fun _ => rfl) ⟨side_set w.side hk rfl, own_set w.own ⟨fun _ => ⟨ow, fun _ => on0 (by omega)⟩, ow2⟩, ?_, o', by omega, ?_⟩
        · refine inv.write (a' := ⟨true, 1, an, aseen, av, aturn, avals, ar, atb, aov, arv, ano⟩) hk rfl rfl rfl ⟨by show 1 ≤ 1; omega, by show 1 ≤ 2; omega, by show 1 ≤ 1; omega⟩ dr (Nat.le_refl _) ⟨t1.1, t1.2, fun h => by cases h⟩ fun i y hy hi wy py => ?_
          exact inv.dist i k y ⟨true, 1, an, aseen, av, aturn, avals, ar, atb, aov, arv, ano⟩ hy hk hi wy rfl py (by show 1 ≤ 1; omega)
        · exact back rfl rfl rfl (Sep.pick h' 5 [0, 1, 4, 2, 3] (by decide))
    · -- begins
      have hall : ∀ i y, At As i y → y.w = true → ¬ (y.ph = 3 ∨ y.ph = 4) := fun i y hy wy hp => by
        have e := inv.one hy hk wy rfl (by omega) (by show 2 ≤ 2; omega)
        subst e
        unfold At at hy hk
        rw [hk] at hy; cases hy
        rcases hp with hp | hp <;> cases hp
      obtain ⟨ev, eW⟩ := inv.even hall
      refine sbegin_s (a := 0) (Sep.pick h0 5 [0, 3, 4, 1, 2] (by decide)) rfl rfl (by omega) o hc (by rw [hlen]; omega) fun H' S' o' h' => ?_
      refine hR1 H' false ⟨true, 3, 0, aseen, av, aturn, avals, ar, atb, aov, arv, ano⟩ S' dr sv (st + 1) cur Wd (c + 1) rfl rfl (fun h => by cases h) (fun _ => rfl) ⟨side_set w.side hk rfl, own_set w.own ⟨fun _ => ⟨ow, fun h => by simp at h⟩, ow2⟩, ?_, ?_, by omega, ?_⟩
      · refine inv.held (a' := ⟨true, 3, 0, aseen, av, aturn, avals, ar, atb, aov, arv, ano⟩) hk rfl (by show 2 ≤ 2; omega) rfl rfl rfl ⟨by show 2 ≤ 3; omega, by show 3 ≤ 5; omega⟩ (st + 1) cur Wd inv.len inv.cn (fun h => (h (.inl rfl)).elim) (fun _ => ⟨by omega, by show 0 < N; omega, ?_⟩) (fun h => by cases h) (.inr rfl)
        show Wd = List.replicate 0 _ ++ List.replicate (N - 0) _
        rw [eW]; simp
      · have : (mws dr sv st Wd).set (0 + 2) ((mws dr sv st Wd).getD (0 + 2) 0 + 1) = mws dr sv (st + 1) Wd := by
          show Bn dr :: Bn sv :: (Bn st + 1) :: _ = _
          rw [Bn_succ]
        rw [this] at o'
        exact o'
      · have e0 := on0 (by omega)
        subst e0
        exact back rfl rfl rfl (Sep.pick h' 5 [0, 3, 4, 1, 2] (by decide))
    · -- stores
      obtain ⟨od, hn, eW⟩ := inv.b3 k _ hk rfl rfl
      have hn : an < N := hn
      have eW : Wd = List.replicate an (Bn av) ++ List.replicate (N - an) (Bn cur) := eW
      have hvl : (List.replicate N (Bn av)).length = N := List.length_replicate ..
      refine sstore_s (a := 0) (k := an) (vs := List.replicate N (Bn av)) (Sep.pick h0 5 [0, 2, 3, 4, 1] (by decide)) rfl rfl rfl (by omega) hvl.symm (by rw [hvl]; exact hn) (fun e => (ow e).elim) o hc (by rw [hlen]; omega) fun H' S' o' h' => ?_
      have e1 : (List.replicate N (Bn av)).getD an 0 = Bn av := by rw [List.getD_eq_getElem?_getD, List.getElem?_replicate, if_pos hn]; rfl
      have e2 : (mws dr sv st Wd).set (0 + 3 + an) (Bn av) = mws dr sv st (Wd.set an (Bn av)) := by rw [show 0 + 3 + an = an + 1 + 1 + 1 by omega]; rfl
      have e3 : Wd.set an (Bn av) = List.replicate (an + 1) (Bn av) ++ List.replicate (N - (an + 1)) (Bn cur) := by
        rw [eW, List.set_append_right _ _ (by simp), List.length_replicate, Nat.sub_self, show N - an = (N - (an + 1)) + 1 by omega, List.replicate_succ, List.set_cons_zero, List.replicate_succ' , List.append_assoc]; rfl
      rw [e1, e2] at o'
      by_cases hw : an + 1 = N
      · have hw' : (((an + 1 : Nat) : Int) = (dN N).words) := by show ((an + 1 : Nat) : Int) = (N : Int); omega
        rw [if_pos hw'] at h'
        refine hR1 H' false ⟨true, 4, an + 1, aseen, av, aturn, avals, ar, atb, aov, arv, ano⟩ S' dr sv st cur _ (c + 1) rfl rfl (fun h => by cases h) (fun _ => rfl) ⟨side_set w.side hk rfl, own_set w.own ⟨fun _ => ⟨ow, fun h => by simp at h⟩, ow2⟩, ?_, o', by omega, ?_⟩
        · refine inv.held (a' := ⟨true, 4, an + 1, aseen, av, aturn, avals, ar, atb, aov, arv, ano⟩) hk rfl (by show 2 ≤ 3; omega) rfl rfl rfl ⟨by show 2 ≤ 4; omega, by show 4 ≤ 5; omega⟩ st cur _ (by rw [List.length_set]; exact inv.len) inv.cn (fun h => (h (.inr rfl)).elim) (fun h => by cases h) (fun _ => ⟨od, ?_⟩) (.inl ⟨rfl, rfl⟩)
          show Wd.set an (Bn av) = List.replicate N (Bn av)
          rw [e3, hw, Nat.sub_self]; simp
        · exact back rfl rfl rfl (Sep.pick h' 5 [0, 4, 1, 2, 3] (by decide))
      · have hw' : ¬ (((an + 1 : Nat) : Int) = (dN N).words) := by show ¬ ((an + 1 : Nat) : Int) = (N : Int); omega
        rw [if_neg hw'] at h'
        refine hR1 H' false ⟨true, 3, an + 1, aseen, av, aturn, avals, ar, atb, aov, arv, ano⟩ S' dr sv st cur _ (c + 1) rfl rfl (fun h => by cases h) (fun _ => rfl) ⟨side_set w.side hk rfl, own_set w.own ⟨fun _ => ⟨ow, fun h => by simp at h⟩, ow2⟩, ?_, o', by omega, ?_⟩
        · refine inv.held (a' := ⟨true, 3, an + 1, aseen, av, aturn, avals, ar, atb, aov, arv, ano⟩) hk rfl (by show 2 ≤ 3; omega) rfl rfl rfl ⟨by show 2 ≤ 3; omega, by show 3 ≤ 5; omega⟩ st cur _ (by rw [List.length_set]; exact inv.len) inv.cn (fun h => (h (.inl rfl)).elim) (fun _ => ⟨od, by show an + 1 < N; omega, e3⟩) (fun h => by cases h) (.inl ⟨rfl, rfl⟩)
        · exact back rfl rfl rfl (Sep.pick h' 5 [0, 4, 1, 2, 3] (by decide))
    · -- ends
      obtain ⟨od, eW⟩ := inv.b4 k _ hk rfl rfl
      refine send_s (a := 0) (Sep.pick h0 5 [0, 3, 4, 1, 2] (by decide)) rfl rfl (by omega) o hc (by rw [hlen]; omega) fun H' S' o' h' => ?_
      refine hR1 H' true ⟨true, 5, an, aseen, av, aturn, avals, ar, atb, aov, arv, ano⟩ S' dr sv (st + 1) av Wd (c + 1) rfl rfl (fun _ => ⟨rfl, rfl⟩) (fun h => by cases h) ⟨side_set w.side hk rfl, own_set w.own ⟨fun _ => ⟨ow, fun h => by simp at h⟩, ow2⟩, ?_, ?_, by omega, ?_⟩
      · refine inv.held (a' := ⟨true, 5, an, aseen, av, aturn, avals, ar, atb, aov, arv, ano⟩) hk rfl (by show 2 ≤ 4; omega) rfl rfl rfl ⟨by show 2 ≤ 5; omega, by show 5 ≤ 5; omega⟩ (st + 1) av Wd inv.len hv (fun _ => ⟨by omega, eW⟩) (fun h => by cases h) (fun h => by cases h) (.inr rfl)
      · have : (mws dr sv st Wd).set (0 + 2) ((mws dr sv st Wd).getD (0 + 2) 0 + 1) = mws dr sv (st + 1) Wd := by
          show Bn dr :: Bn sv :: (Bn st + 1) :: _ = _
          rw [Bn_succ]
        rw [this] at o'
        exact o'
      · exact back rfl rfl rfl (Sep.pick h' 5 [0, 3, 4, 1, 2] (by decide))
    · -- lets go
      have t1 := tt (by omega)
      have th := inv.hold k _ hk rfl (by show 2 ≤ 5; omega)
      have th : aturn = sv := th
      refine sdrop_s (a := 0) (Sep.pick h0 5 [0, 3, 4, 1, 2] (by decide)) rfl rfl (by omega) o hc (by rw [hlen]; omega) (by rw [hlen]; omega) fun H' S' o' h' => ?_
      refine hR2 H' S' dr (sv + 1) st Wd (c + 1) rfl ⟨none_set w.side, none_set w.own, inv.drop hk rfl rfl, ?_, by omega, ?_⟩
      · have : (mws dr sv st Wd).set (0 + 1) ((mws dr sv st Wd).getD (0 + 1) 0 + 1) = mws dr (sv + 1) st Wd := by
          show Bn dr :: (Bn sv + 1) :: _ = _
          rw [Bn_succ]
        rw [this] at o'
        exact o'
      · refine blk_in hkl (Sep.many0 ?_)
        exact Sep.pick h' 6 [1, 2, 5] (by decide)
  | false =>
    have ow2 := (w.own k a hk).2
    have hb : a.blk m x N = [rA a.r x a.rq, gl 1 a.rv (wds a.vals)] := by unfold RG.blk; rw [hw]; rfl
    rw [hb] at hout
    have h0 := many2.1 hout
    obtain ⟨hph, hrd⟩ := inv.rd k a hk hw
    have back : ∀ {H' : Heap} {S' : Sm} {a' : RG}, a'.w = false → Sep H' (rA a'.r x a'.rq :: gl 1 a'.rv (wds a'.vals) :: mA m x (dN N) :: mem m S' :: many ((As.take k).flatMap (oblk m x N) ++ (As.drop (k + 1)).flatMap (oblk m x N)) :: L) → Sep H' (mA m x (dN N) :: mem m S' :: many ((As.set k (some a')).flatMap (oblk m x N)) :: L) := by
      intro H' S' a' e1 h
      refine blk_in hkl ?_
      have hb' : oblk m x N (some a') = [rA a'.r x a'.rq, gl 1 a'.rv (wds a'.vals)] := by show a'.blk m x N = _; unfold RG.blk; rw [e1]; rfl
      rw [hb']
      exact many2.2 h
    have hst : (Bn st).toNat = st := Bn_nat (by omega)
    obtain ⟨aw, aph, an, aseen, av, aturn, avals, ar, atb, aov, arv, ano⟩ := a
    simp only at hw ow2 hph hrd back hR1 hR2 hR3 ⊢
    subst hw
    obtain rfl | rfl | rfl : aph = 0 ∨ aph = 1 ∨ aph = 2 := by omega
    · -- looks
      refine slook_s (a := 0) (Sep.pick h0 4 [0, 2, 3, 1] (by decide)) rfl rfl (by omega) o hc (by rw [hlen]; omega) fun H' S' o' h' => ?_
      have e2 : ((mws dr sv st Wd).getD (0 + 2) 0).toNat = st := hst
      rw [e2] at h'
      by_cases ev : st % 2 = 0
      · rw [if_pos ev] at h'
        refine hR1 H' false ⟨false, 1, 0, st, av, aturn, [], ar, atb, aov, none, ano⟩ S' dr sv st cur Wd (c + 1) rfl rfl (fun h => by cases h) (fun _ => rfl) ⟨side_set w.side hk rfl, own_set w.own ⟨(fun h => by cases h), fun _ => rfl⟩, ?_, o', by omega, ?_⟩
        · exact inv.read (a' := ⟨false, 1, 0, st, av, aturn, [], ar, atb, aov, none, ano⟩) hk rfl rfl ⟨by show 1 ≤ 2; omega, fun _ => ⟨rfl, Nat.zero_le _, fun _ => by show 0 < N; omega, (fun h => by cases h), ev, Nat.le_refl _, fun _ => rfl⟩⟩
        · refine back rfl ?_
          have h5 : Sep H' (gl 1 none (wds []) :: _) := gl_none.2 h'
          exact Sep.pick h5 6 [1, 0, 2, 3, 5] (by decide)
      · rw [if_neg ev] at h'
        refine hR1 H' false ⟨false, 0, an, aseen, av, aturn, avals, ar, atb, aov, arv, ano⟩ S' dr sv st cur Wd (c + 1) rfl rfl (fun h => by cases h) (fun _ => rfl) ⟨side_set w.side hk rfl, own_set w.own ⟨(fun h => by cases h), ow2⟩, ?_, o', by omega, ?_⟩
        · exact inv.read (a' := ⟨false, 0, an, aseen, av, aturn, avals, ar, atb, aov, arv, ano⟩) hk rfl rfl ⟨by show 0 ≤ 2; omega, fun h => by have h : 1 ≤ 0 := h; omega⟩
        · exact back rfl (Sep.pick h' 4 [0, 3, 1, 2] (by decide))
    · -- loads
      obtain ⟨s1, s2, s3, s4, s5, s6, s7⟩ := hrd (by omega)
      have hn : an < N := s3 rfl
      refine sload_s (a := 0) (k := an) (vs := avals) h0 rfl rfl rfl (by show (an : Int) < (N : Int); omega) (by omega) rfl ow2 (by omega) o hc (by rw [hlen]; omega) fun H' S' v o' h' => ?_
      have e2 : (mws dr sv st Wd).getD (0 + 3 + an) 0 = Wd.getD an 0 := by rw [show 0 + 3 + an = an + 1 + 1 + 1 by omega]; rfl
      rw [e2] at h'
      have e7 : aseen = st → avals ++ [Wd.getD an 0] = List.replicate (an + 1) (Bn cur) := fun e => by
        have hW := inv.word (by omega)
        rw [s7 e, hW, List.getD_eq_getElem?_getD, List.getElem?_replicate, if_pos hn, List.replicate_succ']; rfl
      by_cases hw : an + 1 = N
      · have hw' : (((an + 1 : Nat) : Int) = (dN N).words) := by show ((an + 1 : Nat) : Int) = (N : Int); omega
        rw [if_pos hw'] at h'
        refine hR1 H' false ⟨false, 2, an + 1, aseen, av, aturn, avals ++ [Wd.getD an 0], ar, atb, aov, some v, ano⟩ S' dr sv st cur Wd (c + 1) rfl rfl (fun h => by cases h) (fun _ => rfl) ⟨side_set w.side hk rfl, own_set w.own ⟨(fun h => by cases h), fun h => by cases h⟩, ?_, o', by omega, ?_⟩
        · exact inv.read (a' := ⟨false, 2, an + 1, aseen, av, aturn, avals ++ [Wd.getD an 0], ar, atb, aov, some v, ano⟩) hk rfl rfl ⟨by show 2 ≤ 2; omega, fun _ => ⟨by show (avals ++ [_]).length = an + 1; rw [List.length_append, s1]; rfl, by show an + 1 ≤ N; omega, (fun h => by cases h), fun _ => hw, s5, s6, e7⟩⟩
        · refine back rfl ?_
          have e8 : (RG.rq ⟨false, 2, an + 1, aseen, av, aturn, avals ++ [Wd.getD an 0], ar, atb, aov, some v, ano⟩) = ⟨1, 0, none, 0, 0, 0, 0, some v, avals.length + 1, 0, 0, fnv F.record_Run_same ar, .pointer none, 0, ((an + 1 : Nat) : Int), Bn aseen⟩ := by unfold RG.rq; rw [List.length_append]; rfl
          rw [e8]
          exact h'
      · have hw' : ¬ (((an + 1 : Nat) : Int) = (dN N).words) := by show ¬ ((an + 1 : Nat) : Int) = (N : Int); omega
        rw [if_neg hw'] at h'
        refine hR1 H' false ⟨false, 1, an + 1, aseen, av, aturn, avals ++ [Wd.getD an 0], ar, atb, aov, some v, ano⟩ S' dr sv st cur Wd (c + 1) rfl rfl (fun h => by cases h) (fun _ => rfl) ⟨side_set w.side hk rfl, own_set w.own ⟨(fun h => by cases h), fun h => by cases h⟩, ?_, o', by omega, ?_⟩
        · exact inv.read (a' := ⟨false, 1, an + 1, aseen, av, aturn, avals ++ [Wd.getD an 0], ar, atb, aov, some v, ano⟩) hk rfl rfl ⟨by show 1 ≤ 2; omega, fun _ => ⟨by show (avals ++ [_]).length = an + 1; rw [List.length_append, s1]; rfl, by show an + 1 ≤ N; omega, fun _ => by show an + 1 < N; omega, (fun h => by cases h), s5, s6, e7⟩⟩
        · refine back rfl ?_
          have e8 : (RG.rq ⟨false, 1, an + 1, aseen, av, aturn, avals ++ [Wd.getD an 0], ar, atb, aov, some v, ano⟩) = ⟨1, 0, none, 0, 0, 0, 0, some v, avals.length + 1, 0, 0, fnv F.record_Run_load ar, .pointer none, 0, ((an + 1 : Nat) : Int), Bn aseen⟩ := by unfold RG.rq; rw [List.length_append]; rfl
          rw [e8]
          exact h'
    · -- looks again
      obtain ⟨s1, s2, s3, s4, s5, s6, s7⟩ := hrd (by omega)
      have hn : an = N := s4 rfl
      refine ssame_s (a := 0) (Sep.pick h0 4 [0, 2, 3, 1] (by decide)) rfl rfl (by omega) o hc (by rw [hlen]; omega) (fun e H' S' o' h' => ?_) fun H' S' o' h' => ?_
      · have e : st = aseen := (Bn_inj (by omega) (by omega)).1 e
        have ev := s7 e.symm
        rw [hn] at ev
        refine hR3 H' S' { (RG.rq ⟨false, 2, an, aseen, av, aturn, avals, ar, atb, aov, arv, ano⟩) with nx := fnv F.record_Run_over ar } (c + 1) rfl (by show avals.length = N; rw [s1, hn]) (fun e => by have e3 := ow2 e; rw [e3] at s1; simp at s1; omega) ⟨none_set w.side, none_set w.own, inv.gone hk rfl, o', by omega, ?_⟩
        refine blk_in hkl (Sep.many0 ?_)
        have h6 := Sep.pick h' 5 [1, 2, 4, 0, 3] (by decide)
        rw [← ev]
        exact h6
      · refine hR1 H' false ⟨false, 0, an, aseen, av, aturn, avals, ar, atb, aov, arv, ano⟩ S' dr sv st cur Wd (c + 1) rfl rfl (fun h => by cases h) (fun _ => rfl) ⟨side_set w.side hk rfl, own_set w.own ⟨(fun h => by cases h), ow2⟩, ?_, o', by omega, ?_⟩
        · exact inv.read (a' := ⟨false, 0, an, aseen, av, aturn, avals, ar, atb, aov, arv, ano⟩) hk rfl rfl ⟨by show 0 ≤ 2; omega, fun h => by have h : 1 ≤ 0 := h; omega⟩
        · exact back rfl (Sep.pick h' 4 [0, 3, 1, 2] (by decide))
end Go.Proofs.Ytgpacebjbdhphaa

