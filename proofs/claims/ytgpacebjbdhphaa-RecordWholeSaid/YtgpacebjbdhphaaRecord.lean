/-
  Records: what the steps of their runs do, in a memory of one region.
-/
import Derived.Test.YtgpacebjbdhphaaLock
import Derived.Test.YtgpacebjbdhphaaAs48
import Derived.Test.YtgpacebjbdhphaaVcRc
namespace Go.Proofs.Ytgpacebjbdhphaa
open Go Go.AS Go.RowKit
set_option linter.unusedVariables false
variable {H H' : Heap} {m x r b : Nat} {S S' : Sm} {R : Value → Heap → Prop} {L : List Asr} {ws : List (BitVec 64)} {c : Int}

theorem lbegin_s (h : Sep H (mem m S :: L)) (o : One S ws c) (hc : c < 4611686018427387904) {i : Nat} (hi : i < ws.length)
    (hR : ∀ H' S', One S' (ws.set i (ws.getD i 0 + 1)) (c + 1) → Sep H' (mem m S' :: L) → R (.bool true) H') : CA en F.lock_Begin [P m, I 1, I i] H R := by
  apply vc_lock_Begin
  exact more_s h o hc hi fun H' S' o' h' => ⟨_, _, rfl, hR H' S' o' h'⟩
theorem lend_s (h : Sep H (mem m S :: L)) (o : One S ws c) (hc : c < 4611686018427387904) {i : Nat} (hi : i < ws.length)
    (hR : ∀ H' S', One S' (ws.set i (ws.getD i 0 + 1)) (c + 1) → Sep H' (mem m S' :: L) → R (.bool true) H') : CA en F.lock_End [P m, I 1, I i] H R := by
  apply vc_lock_End
  exact lbegin_s h o hc hi fun H' S' o' h' => ⟨_, rfl, hR H' S' o' h'⟩
theorem lread_s (h : Sep H (mem m S :: L)) (o : One S ws c) (hc : c < 4611686018427387904) {i : Nat} (hi : i < ws.length)
    (hR : ∀ H' S', One S' ws (c + 1) → Sep H' (mem m S' :: L) → R (.tuple #[W (ws.getD i 0), .bool (decide ((ws.getD i 0).toNat % 2 = 0))]) H') : CA en F.lock_Read [P m, I 1, I i] H R := by
  apply vc_lock_Read
  refine load1_s h o hc hi fun H' S' o' h' => ⟨_, _, rfl, cond_yes rfl ⟨(by unfold nz; decide), ?_⟩⟩
  have := hR H' S' o' h'
  have e : (Int.tmod ((ws.getD i 0).toNat : Int) 2 == 0) = decide ((ws.getD i 0).toNat % 2 = 0) := by
    rw [Int.tmod_eq_emod_of_nonneg (by omega), Bool.eq_iff_iff, beq_iff_eq, decide_eq_true_eq]; omega
  rw [e]
  exact this
theorem lsame_s (h : Sep H (mem m S :: L)) (o : One S ws c) (hc : c < 4611686018427387904) {i : Nat} (hi : i < ws.length) {n : BitVec 64}
    (hR : ∀ H' S', One S' ws (c + 1) → Sep H' (mem m S' :: L) → R (.bool (decide (ws.getD i 0 = n))) H') : CA en F.lock_Same [P m, I 1, I i, W n] H R := by
  apply vc_lock_Same
  refine load1_s h o hc hi fun H' S' o' h' => ⟨_, _, rfl, cond_yes rfl ?_⟩
  have := hR H' S' o' h'
  rw [bv_beq]
  exact this

/-! ### A run -/
structure Rn where
  kind : Int
  key : Int
  ov : Option Nat
  on : Nat
  fl : Int
  cp : Int
  no : Int
  rv : Option Nat
  rl : Nat
  rk : Int
  re : Int
  nx : Value
  tk : Value
  at' : Int
  n : Int
  s : BitVec 64
abbrev Rn.cells (x : Nat) (q : Rn) : List Value := [P x, I q.kind, .int .u64 q.key, .slice (addr q.ov) q.on 0, I q.fl, I q.cp, I q.no, .slice (addr q.rv) q.rl 0, .int .u64 q.rk, I q.re, q.nx, q.tk, I q.at', I q.n, W q.s]
abbrev rA (r x : Nat) (q : Rn) : Asr := bx r (.cells true 0 (q.cells x))
abbrev fnv (f r : Nat) : Value := .func (.func f) #[P r] #[]
structure Md where
  kind : Int
  entries : Int
  words : Int
  buckets : Int
  inner : Int
abbrev mA (m x : Nat) (d : Md) : Asr := bx x (.cells true 0 [P m, I d.kind, I d.entries, I d.words, I d.buckets, I d.inner, I 1])
abbrev wds (ws : List (BitVec 64)) : List Value := ws.map W

variable {q : Rn} {d : Md} {a k : Nat} {vs : List (BitVec 64)}

theorem step_of {f : Nat} (h : Sep H (rA r x q :: L)) (hq : q.nx = fnv f r) (hf : (en.fn f).isSome = true)
    (hC : CA en f [P r] H fun v H' => ∃ b1 b2, v = .tuple #[.bool b1, .bool b2] ∧ R (.tuple #[.bool b1, .bool b2]) H') : CA en F.record_Run_Step [P r] H R := by
  apply vc_record_Run_Step
  refine asAddr_in ⟨_, Sep.ld0 h rfl, ?_⟩
  rw [hq]
  exact asFn_in ⟨Option.isSome_iff_exists.1 hf, hC⟩

theorem slook_s (h : Sep H (rA r x q :: mA m x d :: mem m S :: L)) (hq : q.nx = fnv F.record_Run_look r) (ha : q.at' = (a : Int)) (hs : a < 100000) (o : One S ws c) (hc : c < 4611686018427387904) (hi : a + 2 < ws.length)
    (hR : ∀ H' S', One S' ws (c + 1) → Sep H' (rA r x (if (ws.getD (a + 2) 0).toNat % 2 = 0 then { q with s := ws.getD (a + 2) 0, n := 0, rv := none, rl := 0, nx := fnv F.record_Run_load r } else q) :: mA m x d :: mem m S' :: L) → R (.tuple #[.bool false, .bool false]) H') :
    CA en F.record_Run_Step [P r] H R := by
  refine step_of h hq (by kernel_rfl) ?_
  apply vc_record_Run_look
  have hB := h.bump 25
  refine asAddr_in ⟨_, Sep.ld0 hB rfl, asAddr_in ⟨_, Sep.ld1 hB rfl, asAddr_in ⟨_, Sep.ld0 hB rfl, asAddr_in ⟨_, Sep.ld1 hB rfl, asAddr_in ⟨_, Sep.ld0 hB rfl, ?_⟩⟩⟩⟩⟩
  have e : IntKind.i64.wrap (q.at' + 2) = ((a + 2 : Nat) : Int) := by rw [ha, wrap_i64 (by omega)]; omega
  rw [e]
  refine lread_s (Sep.up2 hB) o hc hi fun H2 S2 o2 h2 => ⟨_, _, rfl, ?_, trivial⟩
  have h3 : Sep H2 (rA r x q :: mA m x d :: mem m S2 :: L) := Sep.pick h2 3 [1, 2, 0] (by decide)
  have := fun H' => hR H' S2 o2
  refine cond_of (fun z => ?_) fun z => ?_
  · have z := of_decide_eq_true z
    rw [if_pos z] at this
    exact asAddr_in (Sep.st0 h3 (Nat.le_of_ble_eq_true rfl) fun H4 h4 => asAddr_in (Sep.st0 h4 (Nat.le_of_ble_eq_true rfl) fun H5 h5 => asAddr_in (Sep.st0 h5 (Nat.le_of_ble_eq_true rfl) fun H6 h6 => asAddr_in (Sep.st0 h6 (Nat.le_of_ble_eq_true rfl) fun H7 h7 => ⟨_, _, rfl, this H7 h7⟩))))
  · have z := of_decide_eq_false z
    rw [if_neg z] at this
    exact ⟨_, _, rfl, this H2 h3⟩

theorem sload_s (h : Sep H (rA r x q :: gl 1 q.rv (wds vs) :: mA m x d :: mem m S :: L)) (hq : q.nx = fnv F.record_Run_load r) (ha : q.at' = (a : Int)) (hk : q.n = (k : Int)) (hkw : (k : Int) < d.words) (hs : a + k < 100000) (hv : q.rl = vs.length) (hvn : q.rv = none → vs = []) (hvl : vs.length < 100000) (o : One S ws c) (hc : c < 4611686018427387904) (hi : a + 3 + k < ws.length)
    (hR : ∀ H' S' v, One S' ws (c + 1) → Sep H' (rA r x { q with rv := some v, rl := vs.length + 1, n := ((k + 1 : Nat) : Int), nx := if ((k + 1 : Nat) : Int) = d.words then fnv F.record_Run_same r else fnv F.record_Run_load r } :: gl 1 (some v) (wds (vs ++ [ws.getD (a + 3 + k) 0])) :: mA m x d :: mem m S' :: L) → R (.tuple #[.bool false, .bool false]) H') :
    CA en F.record_Run_Step [P r] H R := by
  refine step_of h hq (by kernel_rfl) ?_
  apply vc_record_Run_load
  have hB := h.bump 30
  refine asAddr_in ⟨_, Sep.ld0 hB rfl, asAddr_in ⟨_, Sep.ld2 hB rfl, asAddr_in ⟨_, Sep.ld0 hB rfl, asAddr_in ⟨_, Sep.ld2 hB rfl, asAddr_in ⟨_, Sep.ld0 hB rfl, asAddr_in ⟨_, Sep.ld0 hB rfl, ?_⟩⟩⟩⟩⟩⟩
  have e : IntKind.i64.wrap (IntKind.i64.wrap (q.at' + 3) + q.n) = ((a + 3 + k : Nat) : Int) := by rw [ha, hk, wrap_i64 (n := (a : Int) + 3) (by omega), wrap_i64 (by omega)]; omega
  rw [e]
  refine load1_s (Sep.up3 hB) o hc hi fun H2 S2 o2 h2 => ⟨_, _, rfl, ⟨?_, trivial⟩⟩
  have h3 : Sep H2 (rA r x q :: gl 1 q.rv (wds vs) :: mA m x d :: mem m S2 :: L) := Sep.pick h2 4 [1, 2, 3, 0] (by decide)
  refine asAddr_in ⟨_, _, Sep.ld0 h3 rfl, Sep.nw h3 fun i5 H6 h6 => ⟨[W (ws.getD (a + 3 + k) 0)], rowOf_bx (es := 1) (n := 1) (b := i5) (Sep.get0 h6) (by decide) rfl, ?_⟩⟩
  refine apd_gl (b := q.rv) (cs := wds vs) (new := [W (ws.getD (a + 3 + k) 0)]) (Sep.up2 h6) (fun e => by rw [hvn e]; rfl) (by decide) (by rw [hv]; simp) (by decide) rfl (by omega) fun H7 v h7 => ?_
  -- v i5 r x mem
  refine asAddr_in (Sep.st2 h7 (Nat.le_of_ble_eq_true rfl) fun H8 h8 => asAddr_in ⟨_, Sep.ld2 h8 rfl, asAddr_in (Sep.st2 h8 (Nat.le_of_ble_eq_true rfl) fun H9 h9 => ?_)⟩)
  have hB2 := h9.bump 13
  have ek : IntKind.i64.wrap (q.n + 1) = ((k + 1 : Nat) : Int) := by rw [hk, wrap_i64 (by omega)]; omega
  have := fun H' => hR H' S2 v o2
  rw [← hv] at this
  refine asAddr_in ⟨_, Sep.ld2 hB2 rfl, asAddr_in ⟨_, Sep.ld2 hB2 rfl, asAddr_in ⟨_, Sep.ld3 hB2 rfl, ⟨?_, trivial⟩⟩⟩⟩
  rw [ek] at hB2 ⊢
  have ew : wds (vs ++ [ws.getD (a + 3 + k) 0]) = wds vs ++ [W (ws.getD (a + 3 + k) 0)] := by simp
  rw [ew] at this
  refine cond_of (fun z => ?_) fun z => ?_
  · have z : ((k + 1 : Nat) : Int) = d.words := by simpa using z
    rw [if_pos z] at this
    exact asAddr_in (Sep.st2 hB2 (Nat.le_of_ble_eq_true rfl) fun H10 h10 => ⟨_, _, rfl, this H10 (Sep.pick h10 5 [2, 0, 3, 4] (by decide))⟩)
  · have z : ¬ ((k + 1 : Nat) : Int) = d.words := by simpa using z
    rw [if_neg z] at this
    refine ⟨_, _, rfl, this _ ?_⟩
    have h10 := Sep.pick hB2 5 [2, 0, 3, 4] (by decide)
    have e3 : (({ q with rv := some v, rl := q.rl + 1, n := ((k + 1 : Nat) : Int), nx := fnv F.record_Run_load r } : Rn).cells x) = ({ q with rv := some v, rl := q.rl + 1, n := ((k + 1 : Nat) : Int) } : Rn).cells x := by
      show [P x, _, _, _, _, _, _, _, _, _, fnv F.record_Run_load r, _, _, _, _] = _
      rw [← hq]
    unfold rA
    rw [e3]
    exact h10

theorem ssame_s (h : Sep H (rA r x q :: mA m x d :: mem m S :: L)) (hq : q.nx = fnv F.record_Run_same r) (ha : q.at' = (a : Int)) (hs : a < 100000) (o : One S ws c) (hc : c < 4611686018427387904) (hi : a + 2 < ws.length)
    (hY : ws.getD (a + 2) 0 = q.s → ∀ H' S', One S' ws (c + 1) → Sep H' (rA r x { q with nx := fnv F.record_Run_over r } :: mA m x d :: mem m S' :: L) → R (.tuple #[.bool true, .bool true]) H')
    (hN : ∀ H' S', One S' ws (c + 1) → Sep H' (rA r x { q with nx := fnv F.record_Run_look r } :: mA m x d :: mem m S' :: L) → R (.tuple #[.bool false, .bool false]) H') :
    CA en F.record_Run_Step [P r] H R := by
  refine step_of h hq (by kernel_rfl) ?_
  apply vc_record_Run_same
  have hB := h.bump 25
  refine asAddr_in ⟨_, Sep.ld0 hB rfl, asAddr_in ⟨_, Sep.ld1 hB rfl, asAddr_in ⟨_, Sep.ld0 hB rfl, asAddr_in ⟨_, Sep.ld1 hB rfl, asAddr_in ⟨_, Sep.ld0 hB rfl, asAddr_in ⟨_, Sep.ld0 hB rfl, ?_⟩⟩⟩⟩⟩⟩
  have e : IntKind.i64.wrap (q.at' + 2) = ((a + 2 : Nat) : Int) := by rw [ha, wrap_i64 (by omega)]; omega
  rw [e]
  refine lsame_s (Sep.up2 hB) o hc hi fun H2 S2 o2 h2 => ⟨_, rfl, ⟨?_, trivial⟩⟩
  have h3 : Sep H2 (rA r x q :: mA m x d :: mem m S2 :: L) := Sep.pick h2 3 [1, 2, 0] (by decide)
  refine cond_of (fun z => ?_) fun z => ?_
  · exact asAddr_in (Sep.st0 h3 (Nat.le_of_ble_eq_true rfl) fun H4 h4 => ⟨_, _, rfl, hN H4 S2 o2 h4⟩)
  · have z : ws.getD (a + 2) 0 = q.s := by simpa using z
    exact asAddr_in (Sep.st0 h3 (Nat.le_of_ble_eq_true rfl) fun H4 h4 => ⟨_, _, rfl, hY z H4 S2 o2 h4⟩)

theorem sdraw_s {t : BitVec 64} (h : Sep H (rA r x q :: tk m a t F.lock_Taker_draw b :: mA m x d :: mem m S :: L)) (hq : q.nx = fnv F.record_Run_take r) (ht : q.tk = P b) (o : One S ws c) (hc : c < 4611686018427387904) (hi : a < ws.length)
    (hR : ∀ H' S', One S' (ws.set a (ws.getD a 0 + 1)) (c + 1) → Sep H' (rA r x q :: tk m a (ws.getD a 0) F.lock_Taker_wait b :: mA m x d :: mem m S' :: L) → R (.tuple #[.bool false, .bool false]) H') :
    CA en F.record_Run_Step [P r] H R := by
  refine step_of h hq (by kernel_rfl) ?_
  apply vc_record_Run_take
  refine asAddr_in ⟨some ⟨b, 0, none⟩, ?_, ?_⟩
  · have := Sep.ld0 (o := 11) (v := q.tk) h rfl
    rw [ht] at this; exact this
  refine draw_s (Sep.pick h 4 [1, 3, 0, 2] (by decide)) o hc hi fun H2 S2 o2 h2 => ⟨_, rfl, cond_no rfl ⟨_, _, rfl, hR H2 S2 o2 ?_⟩⟩
  exact Sep.pick h2 4 [2, 0, 3, 1] (by decide)

theorem swait_s {t : BitVec 64} (h : Sep H (rA r x q :: tk m a t F.lock_Taker_wait b :: mA m x d :: mem m S :: L)) (hq : q.nx = fnv F.record_Run_take r) (ht : q.tk = P b) (o : One S ws c) (hc : c < 4611686018427387904) (hi : a + 1 < ws.length) (hw : ws.length ≤ 65536)
    (hY : ws.getD (a + 1) 0 = t → ∀ H' S', One S' ws (c + 1) → Sep H' (rA r x { q with nx := fnv F.record_Run_begin r } :: tk m a t F.lock_Taker_got b :: mA m x d :: mem m S' :: L) → R (.tuple #[.bool false, .bool false]) H')
    (hN : ws.getD (a + 1) 0 ≠ t → ∀ H' S', One S' ws (c + 1) → Sep H' (rA r x q :: tk m a t F.lock_Taker_wait b :: mA m x d :: mem m S' :: L) → R (.tuple #[.bool false, .bool false]) H') :
    CA en F.record_Run_Step [P r] H R := by
  refine step_of h hq (by kernel_rfl) ?_
  apply vc_record_Run_take
  refine asAddr_in ⟨some ⟨b, 0, none⟩, ?_, ?_⟩
  · have := Sep.ld0 (o := 11) (v := q.tk) h rfl
    rw [ht] at this; exact this
  refine wait_s (Sep.pick h 4 [1, 3, 0, 2] (by decide)) o hc hi hw fun H2 S2 o2 h2 => ⟨_, rfl, ?_⟩
  have h3 := Sep.pick h2 4 [2, 0, 3, 1] (by decide)
  by_cases e : ws.getD (a + 1) 0 = t
  · rw [decide_eq_true e]
    simp only [if_pos e] at h3
    exact cond_yes rfl (asAddr_in (Sep.st0 h3 (Nat.le_of_ble_eq_true rfl) fun H4 h4 => ⟨_, _, rfl, hY e H4 S2 o2 h4⟩))
  · rw [decide_eq_false e]
    simp only [if_neg e] at h3
    exact cond_no rfl ⟨_, _, rfl, hN e H2 S2 o2 h3⟩

theorem sbegin_s (h : Sep H (rA r x q :: mA m x d :: mem m S :: L)) (hq : q.nx = fnv F.record_Run_begin r) (ha : q.at' = (a : Int)) (hs : a < 100000) (o : One S ws c) (hc : c < 4611686018427387904) (hi : a + 2 < ws.length)
    (hR : ∀ H' S', One S' (ws.set (a + 2) (ws.getD (a + 2) 0 + 1)) (c + 1) → Sep H' (rA r x { q with nx := fnv F.record_Run_store r } :: mA m x d :: mem m S' :: L) → R (.tuple #[.bool false, .bool false]) H') :
    CA en F.record_Run_Step [P r] H R := by
  refine step_of h hq (by kernel_rfl) ?_
  apply vc_record_Run_begin
  have hB := h.bump 20
  refine asAddr_in ⟨_, Sep.ld0 hB rfl, asAddr_in ⟨_, Sep.ld1 hB rfl, asAddr_in ⟨_, Sep.ld0 hB rfl, asAddr_in ⟨_, Sep.ld1 hB rfl, asAddr_in ⟨_, Sep.ld0 hB rfl, ?_⟩⟩⟩⟩⟩
  have e : IntKind.i64.wrap (q.at' + 2) = ((a + 2 : Nat) : Int) := by rw [ha, wrap_i64 (by omega)]; omega
  rw [e]
  refine lbegin_s (Sep.up2 hB) o hc hi fun H2 S2 o2 h2 => ⟨_, rfl, ⟨?_, trivial⟩⟩
  exact asAddr_in (Sep.st1 h2 (Nat.le_of_ble_eq_true rfl) fun H4 h4 => ⟨_, _, rfl, hR H4 S2 o2 (Sep.pick h4 3 [1, 2, 0] (by decide))⟩)

theorem sstore_s (h : Sep H (rA r x q :: gl 1 q.ov (wds vs) :: mA m x d :: mem m S :: L)) (hq : q.nx = fnv F.record_Run_store r) (ha : q.at' = (a : Int)) (hk : q.n = (k : Int)) (hs : a + k < 100000) (hv : q.on = vs.length) (hkv : k < vs.length) (hvn : q.ov = none → vs = []) (o : One S ws c) (hc : c < 4611686018427387904) (hi : a + 3 + k < ws.length)
    (hR : ∀ H' S', One S' (ws.set (a + 3 + k) (vs.getD k 0)) (c + 1) → Sep H' (rA r x { q with n := ((k + 1 : Nat) : Int), nx := if ((k + 1 : Nat) : Int) = d.words then fnv F.record_Run_end r else fnv F.record_Run_store r } :: gl 1 q.ov (wds vs) :: mA m x d :: mem m S' :: L) → R (.tuple #[.bool false, .bool false]) H') :
    CA en F.record_Run_Step [P r] H R := by
  refine step_of h hq (by kernel_rfl) ?_
  apply vc_record_Run_store
  have hB := h.bump 36
  cases hov : q.ov with
  | none => rw [hvn hov] at hkv; simp at hkv
  | some g =>
    have hB' := Sep.up1 hB
    rw [hov] at hB'
    have hrow : ∀ {K : Nat → Nat → Prop}, K g 0 → asRow (addr q.ov) K := fun h => by rw [hov]; exact h
    have hcl : (H.bump 36).cell g (0 + k * 1) = some (W (vs.getD k 0)) := by
      rw [cell_of (gl_get hB'), Nat.zero_add, Nat.mul_one, List.getElem?_map, List.getElem?_eq_getElem hkv, List.getD_eq_getElem?_getD, List.getElem?_eq_getElem hkv]; rfl
    refine asAddr_in ⟨_, Sep.ld0 hB rfl, asAddr_in ⟨_, Sep.ld2 hB rfl, asAddr_in ⟨_, Sep.ld0 hB rfl, asAddr_in ⟨_, Sep.ld2 hB rfl, asAddr_in ⟨_, Sep.ld0 hB rfl, asAddr_in ⟨_, Sep.ld0 hB rfl, asAddr_in ⟨_, _, Sep.ld0 hB rfl, asAddr_in ⟨_, Sep.ld0 hB rfl, ?_⟩⟩⟩⟩⟩⟩⟩⟩
    have e : IntKind.i64.wrap (IntKind.i64.wrap (q.at' + 3) + q.n) = ((a + 3 + k : Nat) : Int) := by rw [ha, hk, wrap_i64 (n := (a : Int) + 3) (by omega), wrap_i64 (by omega)]; omega
    rw [e, hk, Int.toNat_natCast]
    refine ⟨by unfold inB; omega, hrow ⟨_, hcl, ?_⟩⟩
    refine store1_s (Sep.up3 hB) o hc hi fun H2 S2 o2 h2 => ⟨_, rfl, ⟨?_, trivial⟩⟩
    have h3 : Sep H2 (rA r x q :: gl 1 q.ov (wds vs) :: mA m x d :: mem m S2 :: L) := Sep.pick h2 4 [1, 2, 3, 0] (by decide)
    refine asAddr_in ⟨_, Sep.ld0 h3 rfl, asAddr_in (Sep.st0 h3 (Nat.le_of_ble_eq_true rfl) fun H4 h4 => ?_)⟩
    have hB2 := h4.bump 13
    have ek : IntKind.i64.wrap (q.n + 1) = ((k + 1 : Nat) : Int) := by rw [hk, wrap_i64 (by omega)]; omega
    have := fun H' => hR H' S2 o2
    refine asAddr_in ⟨_, Sep.ld0 hB2 rfl, asAddr_in ⟨_, Sep.ld0 hB2 rfl, asAddr_in ⟨_, Sep.ld2 hB2 rfl, ⟨?_, trivial⟩⟩⟩⟩
    rw [ek] at hB2 ⊢
    refine cond_of (fun z => ?_) fun z => ?_
    · have z : ((k + 1 : Nat) : Int) = d.words := by simpa using z
      rw [if_pos z] at this
      refine asAddr_in (Sep.st0 hB2 (Nat.le_of_ble_eq_true rfl) fun H10 h10 => ⟨_, _, rfl, this H10 ?_⟩)
      exact h10
    · have z : ¬ ((k + 1 : Nat) : Int) = d.words := by simpa using z
      rw [if_neg z] at this
      refine ⟨_, _, rfl, this _ ?_⟩
      have e3 : (({ q with n := ((k + 1 : Nat) : Int), nx := fnv F.record_Run_store r } : Rn).cells x) = ({ q with n := ((k + 1 : Nat) : Int) } : Rn).cells x := by
        show [P x, _, _, _, _, _, _, _, _, _, fnv F.record_Run_store r, _, _, _, _] = _
        rw [← hq]
      unfold rA
      rw [e3]
      exact hB2

theorem send_s (h : Sep H (rA r x q :: mA m x d :: mem m S :: L)) (hq : q.nx = fnv F.record_Run_end r) (ha : q.at' = (a : Int)) (hs : a < 100000) (o : One S ws c) (hc : c < 4611686018427387904) (hi : a + 2 < ws.length)
    (hR : ∀ H' S', One S' (ws.set (a + 2) (ws.getD (a + 2) 0 + 1)) (c + 1) → Sep H' (rA r x { q with nx := fnv F.record_Run_drop r } :: mA m x d :: mem m S' :: L) → R (.tuple #[.bool true, .bool false]) H') :
    CA en F.record_Run_Step [P r] H R := by
  refine step_of h hq (by kernel_rfl) ?_
  apply vc_record_Run_end
  have hB := h.bump 20
  refine asAddr_in ⟨_, Sep.ld0 hB rfl, asAddr_in ⟨_, Sep.ld1 hB rfl, asAddr_in ⟨_, Sep.ld0 hB rfl, asAddr_in ⟨_, Sep.ld1 hB rfl, asAddr_in ⟨_, Sep.ld0 hB rfl, ?_⟩⟩⟩⟩⟩
  have e : IntKind.i64.wrap (q.at' + 2) = ((a + 2 : Nat) : Int) := by rw [ha, wrap_i64 (by omega)]; omega
  rw [e]
  refine lend_s (Sep.up2 hB) o hc hi fun H2 S2 o2 h2 => ⟨_, rfl, ⟨?_, trivial⟩⟩
  exact asAddr_in (Sep.st1 h2 (Nat.le_of_ble_eq_true rfl) fun H4 h4 => ⟨_, _, rfl, hR H4 S2 o2 (Sep.pick h4 3 [1, 2, 0] (by decide))⟩)

theorem sdrop_s (h : Sep H (rA r x q :: mA m x d :: mem m S :: L)) (hq : q.nx = fnv F.record_Run_drop r) (ha : q.at' = (a : Int)) (hs : a < 100000) (o : One S ws c) (hc : c < 4611686018427387904) (hi : a + 1 < ws.length) (hw : ws.length ≤ 65536)
    (hR : ∀ H' S', One S' (ws.set (a + 1) (ws.getD (a + 1) 0 + 1)) (c + 1) → Sep H' (rA r x { q with nx := fnv F.record_Run_over r } :: mA m x d :: mem m S' :: L) → R (.tuple #[.bool false, .bool true]) H') :
    CA en F.record_Run_Step [P r] H R := by
  refine step_of h hq (by kernel_rfl) ?_
  apply vc_record_Run_drop
  have hB := h.bump 19
  refine asAddr_in ⟨_, Sep.ld0 hB rfl, asAddr_in ⟨_, Sep.ld1 hB rfl, asAddr_in ⟨_, Sep.ld0 hB rfl, asAddr_in ⟨_, Sep.ld1 hB rfl, asAddr_in ⟨_, Sep.ld0 hB rfl, ?_⟩⟩⟩⟩⟩
  rw [ha]
  refine drop_s (Sep.up2 hB) o hc hi hw fun H2 S2 o2 h2 => ⟨_, rfl, ⟨?_, trivial⟩⟩
  exact asAddr_in (Sep.st1 h2 (Nat.le_of_ble_eq_true rfl) fun H4 h4 => ⟨_, _, rfl, hR H4 S2 o2 (Sep.pick h4 3 [1, 2, 0] (by decide))⟩)
end Go.Proofs.Ytgpacebjbdhphaa
