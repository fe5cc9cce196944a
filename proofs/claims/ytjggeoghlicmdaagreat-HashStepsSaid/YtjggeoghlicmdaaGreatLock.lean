/-
  Locks: what their functions do, in a memory of one region.
-/
import Derived.Test.YtjggeoghlicmdaaGreatSmemSep
import Derived.Test.YtjggeoghlicmdaaGreatAs43
import Derived.Test.YtjggeoghlicmdaaGreatVcL
namespace Go.Proofs.YtjggeoghlicmdaaGreat
open Go Go.AS Go.RowKit
set_option linter.unusedVariables false
variable {H H' : Heap} {m : Nat} {S S' : Sm} {R : Value → Heap → Prop} {L : List Asr} {ws : List (BitVec 64)} {c : Int}

theorem wrs {n : Int} (h : -9223372036854775808 ≤ n ∧ n < 9223372036854775808) : wr n = n := wrap_i64 h

/-- One region, of handle 1, and no access was bad. -/
structure One (S : Sm) (ws : List (BitVec 64)) (c : Int) : Prop where
  regs : ∃ b born, S.regs = [⟨1, b, born, ws⟩]
  cnt : S.count = c
  bads : S.bads = 0
  c0 : 0 ≤ c

theorem acc_one (o : One S ws c) (hc : c < 4611686018427387904) {i : Nat} (hi : i < ws.length) (f : BitVec 64 → BitVec 64) :
    (S.acc 1 i true f).1 = (ws.getD i 0, true) ∧ One (S.acc 1 i true f).2 (ws.set i (f (ws.getD i 0))) (c + 1) := by
  obtain ⟨b, born, hr⟩ := o.regs
  have hf : S.find 1 = some ⟨1, b, born, ws⟩ := by unfold Sm.find; rw [hr]; rfl
  have e : S.acc 1 i true f = ((ws.getD i 0, true), S.cnt.upd 1 i (f (ws.getD i 0))) := by
    unfold Sm.acc; rw [hf]; simp only
    rw [if_pos ⟨trivial, by omega, by omega⟩]
    rfl
  have c0 := o.c0
  rw [e]
  refine ⟨rfl, ⟨⟨b, born, ?_⟩, ?_, o.bads, by omega⟩⟩
  · show S.regs.map _ = _
    rw [hr]; rfl
  · show wr (S.count + 1) = c + 1
    rw [o.cnt]; exact wrs (by omega)

theorem more_fn (w : BitVec 64) : fetchF 0 (BitVec.allOnes 64) 1 w = w + 1 := by
  unfold fetchF
  rw [under_all]
  show (w &&& BitVec.allOnes 64) + (1 &&& BitVec.allOnes 64) = w + 1
  rw [BitVec.and_allOnes, BitVec.and_allOnes]

/-- One is added to a word. -/
theorem more_s (h : Sep H (mem m S :: L)) (o : One S ws c) (hc : c < 4611686018427387904) {i : Nat} (hi : i < ws.length)
    (hR : ∀ H' S', One S' (ws.set i (ws.getD i 0 + 1)) (c + 1) → Sep H' (mem m S' :: L) → R (.tuple #[W (ws.getD i 0), .bool true]) H') : CA en F.lock_more [P m, I 1, I i] H R := by
  apply vc_lock_more
  rw [all_ones]
  obtain ⟨e1, o'⟩ := acc_one o hc hi (fetchF 0 (BitVec.allOnes 64) 1)
  rw [more_fn] at o'
  refine fetch_s (v := 1) h fun H' h' => ?_
  have ho : isAtomic 0 = true := rfl
  rw [ho] at h' ⊢
  rw [e1]
  exact ⟨_, _, rfl, hR H' _ o' h'⟩

theorem load1_s (h : Sep H (mem m S :: L)) (o : One S ws c) (hc : c < 4611686018427387904) {i : Nat} (hi : i < ws.length)
    (hR : ∀ H' S', One S' ws (c + 1) → Sep H' (mem m S' :: L) → R (.tuple #[W (ws.getD i 0), .bool true]) H') : CA en F.smem_Mem_Load [P m, I 1, I i] H R := by
  obtain ⟨e1, o'⟩ := acc_one o hc hi id
  have e2 : ws.set i (id (ws.getD i 0)) = ws := by
    rw [List.getD_eq_getElem?_getD, List.getElem?_eq_getElem hi]
    exact List.set_getElem_self hi
  rw [e2] at o'
  refine load_s h fun H' h' => ?_
  rw [e1]
  exact hR H' _ o' h'

theorem store1_s (h : Sep H (mem m S :: L)) (o : One S ws c) (hc : c < 4611686018427387904) {i : Nat} (hi : i < ws.length) {v : BitVec 64}
    (hR : ∀ H' S', One S' (ws.set i v) (c + 1) → Sep H' (mem m S' :: L) → R (.bool true) H') : CA en F.smem_Mem_Store [P m, I 1, I i, W v] H R := by
  obtain ⟨e1, o'⟩ := acc_one o hc hi (fun _ => v)
  refine store_s h fun H' h' => ?_
  rw [e1]
  exact hR H' _ o' h'

/-- A taker at word i, with its ticket, on its way. -/
def tkc (m i : Nat) (t : BitVec 64) (f b : Nat) : List Value := [P m, I 1, I i, W t, .func (.func f) #[P b] #[]]
abbrev tk (m i : Nat) (t : BitVec 64) (f b : Nat) : Asr := bx b (.cells true 0 (tkc m i t f b))

theorem take_s (h : Sep H L) {i : Nat} (hR : ∀ H' b, Sep H' (tk m i 0 F.lock_Taker_draw b :: L) → R (P b) H') : CA en F.lock_Take [P m, I 1, I i] H R := by
  apply vc_lock_Take
  exact Sep.nw h fun b H2 h2 => Sep.st0 h2 (Nat.le_of_ble_eq_true rfl) fun H3 h3 => hR H3 b h3

variable {b i : Nat} {t : BitVec 64}

theorem draw_s (h : Sep H (tk m i t F.lock_Taker_draw b :: mem m S :: L)) (o : One S ws c) (hc : c < 4611686018427387904) (hi : i < ws.length)
    (hR : ∀ H' S', One S' (ws.set i (ws.getD i 0 + 1)) (c + 1) → Sep H' (tk m i (ws.getD i 0) F.lock_Taker_wait b :: mem m S' :: L) → R (.bool false) H') : CA en F.lock_Taker_Step [P b] H R := by
  apply vc_lock_Taker_Step
  refine asAddr_in ⟨_, Sep.ld0 h rfl, asFn_in ⟨Option.isSome_iff_exists.1 (by kernel_rfl), ?_⟩⟩
  show CA en F.lock_Taker_draw [P b] H _
  apply vc_lock_Taker_draw
  have hB := h.bump 18
  refine asAddr_in ⟨_, Sep.ld0 hB rfl, asAddr_in ⟨_, Sep.ld0 hB rfl, asAddr_in ⟨_, Sep.ld0 hB rfl, ?_⟩⟩⟩
  refine more_s (Sep.up1 hB) o hc hi fun H' S' o' h' => ⟨_, _, rfl, ⟨cond_yes rfl (asAddr_in (Sep.st1 h' (Nat.le_of_ble_eq_true rfl) fun H2 h2 => asAddr_in (Sep.st1 h2 (Nat.le_of_ble_eq_true rfl) fun H3 h3 => ⟨_, rfl, hR H3 S' o' (Sep.up1 h3)⟩))), trivial⟩⟩

theorem wait_s (h : Sep H (tk m i t F.lock_Taker_wait b :: mem m S :: L)) (o : One S ws c) (hc : c < 4611686018427387904) (hi : i + 1 < ws.length) (hw : ws.length ≤ 65536)
    (hR : ∀ H' S', One S' ws (c + 1) → Sep H' (tk m i t (if ws.getD (i + 1) 0 = t then F.lock_Taker_got else F.lock_Taker_wait) b :: mem m S' :: L) → R (.bool (decide (ws.getD (i + 1) 0 = t))) H') : CA en F.lock_Taker_Step [P b] H R := by
  apply vc_lock_Taker_Step
  refine asAddr_in ⟨_, Sep.ld0 h rfl, asFn_in ⟨Option.isSome_iff_exists.1 (by kernel_rfl), ?_⟩⟩
  show CA en F.lock_Taker_wait [P b] H _
  apply vc_lock_Taker_wait
  have hB := h.bump 19
  have ei : IntKind.i64.wrap ((i : Int) + 1) = ((i + 1 : Nat) : Int) := by rw [wrap_i64 (by omega)]; omega
  refine asAddr_in ⟨_, Sep.ld0 hB rfl, asAddr_in ⟨_, Sep.ld0 hB rfl, asAddr_in ⟨_, Sep.ld0 hB rfl, ?_⟩⟩⟩
  rw [ei]
  refine load1_s (Sep.up1 hB) o hc hi fun H' S' o' h' => ⟨_, _, rfl, ⟨cond_no rfl (asAddr_in ⟨_, Sep.ld1 h' rfl, ?_⟩), trivial⟩⟩
  rw [bv_bne]
  refine cond_of (fun hn => ⟨_, rfl, ?_⟩) fun hn => asAddr_in (Sep.st1 h' (Nat.le_of_ble_eq_true rfl) fun H3 h3 => ⟨_, rfl, ?_⟩)
  · have hn' : ¬ ws.getD (i + 1) 0 = t := by simpa using hn
    have := hR H' S' o'
    rw [if_neg hn', decide_eq_false hn'] at this
    exact this (Sep.up1 h')
  · have hn' : ws.getD (i + 1) 0 = t := by simpa using hn
    have := hR H3 S' o'
    rw [if_pos hn', decide_eq_true hn'] at this
    exact this (Sep.up1 h3)

theorem got_s (h : Sep H (tk m i t F.lock_Taker_got b :: L)) (hR : R (.bool true) H) : CA en F.lock_Taker_Step [P b] H R := by
  apply vc_lock_Taker_Step
  refine asAddr_in ⟨_, Sep.ld0 h rfl, asFn_in ⟨Option.isSome_iff_exists.1 (by kernel_rfl), ?_⟩⟩
  show CA en F.lock_Taker_got [P b] H _
  exact vc_lock_Taker_got _ _ _ ⟨_, rfl, hR⟩

theorem drop_s (h : Sep H (mem m S :: L)) (o : One S ws c) (hc : c < 4611686018427387904) (hi : i + 1 < ws.length) (hw : ws.length ≤ 65536)
    (hR : ∀ H' S', One S' (ws.set (i + 1) (ws.getD (i + 1) 0 + 1)) (c + 1) → Sep H' (mem m S' :: L) → R (.bool true) H') : CA en F.lock_Drop [P m, I 1, I i] H R := by
  apply vc_lock_Drop
  have ei : IntKind.i64.wrap ((i : Int) + 1) = ((i + 1 : Nat) : Int) := by rw [wrap_i64 (by omega)]; omega
  rw [ei]
  exact more_s h o hc hi fun H' S' o' h' => ⟨_, _, rfl, hR H' S' o' h'⟩

end Go.Proofs.YtjggeoghlicmdaaGreat
