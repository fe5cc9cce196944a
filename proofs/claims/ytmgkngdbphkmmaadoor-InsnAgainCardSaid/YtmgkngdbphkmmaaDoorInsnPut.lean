/-
  Instructions as bytes: insn.Put answers puts.
-/
import Derived.Test.YtmgkngdbphkmmaaDoorInsnWord
import Derived.Test.YtmgkngdbphkmmaaDoorAs44
namespace Go.Proofs.YtmgkngdbphkmmaaDoor
open Go Go.AS Go.RowKit
set_option linter.unusedVariables false
variable {H H' : Heap} {R : Value → Heap → Prop} {L : List Asr}

def firstE : List Ins → Int
  | [] => 0
  | x :: l => if chkI x ≠ 0 then chkI x else firstE l
def putErr (l : List Ins) : Int := if l.length > 256 then 19 else firstE l

theorem firstE_zero : ∀ {l : List Ins}, firstE l = 0 ↔ ∀ x ∈ l, chkI x = 0
  | [] => by simp [firstE]
  | x :: l => by
    simp only [firstE, List.mem_cons, forall_eq_or_imp]
    split
    · rename_i h; exact ⟨fun h' => absurd h' h, fun h' => absurd h'.1 h⟩
    · rename_i h
      rw [firstE_zero]
      simp only [ne_eq, Classical.not_not] at h
      exact ⟨fun h' => ⟨h, h'⟩, fun h' => h'.2⟩

theorem drop_cons {α : Type} {l : List α} {j : Nat} {x : α} (h : l[j]? = some x) : l.drop j = x :: l.drop (j + 1) := by
  obtain ⟨hj, e⟩ := List.getElem?_eq_some_iff.1 h
  rw [List.drop_eq_getElem_cons hj, e]
theorem take_snoc' {α : Type} {l : List α} {j : Nat} {x : α} (h : l[j]? = some x) : l.take (j + 1) = l.take j ++ [x] := by
  rw [List.take_add_one, h]; rfl

/-- Where the instructions of a slice lie. -/
def Rds (L : List Asr) (a : Option Addr) (l : List Ins) : Prop :=
  ∀ H', Sep H' L → ∀ (j : Nat) x, l[j]? = some x → ∃ i, a = some ⟨i, 0, none⟩ ∧ H'.cellsAt i (0 + j * 5) 5 = some x.cells

theorem byte2 : ∀ s d : Fin 11, IntKind.u8.wrap (IntKind.i64.wrap ((BitVec.ofInt 64 (IntKind.i64.wrap (((s : Nat) : Int) * 16)) ||| (BitVec.ofInt 64 ((d : Nat) : Int))).toNat : Int)) = (((((s : Nat) : Int) * 16 + ((d : Nat) : Int)) % 256).toNat : Int) := by decide +kernel

theorem chk_regs {x : Ins} (h : chkI x = 0) : (0 ≤ x.dst ∧ x.dst ≤ 10) ∧ (0 ≤ x.src ∧ x.src ≤ 10) := by
  unfold chkI at h
  cases hr : refRow x.op with
  | none => rw [hr] at h; cases h
  | some r =>
    rw [hr] at h
    simp only at h
    split at h
    · cases h
    · rename_i h1
      simp only [Classical.not_not] at h1
      omega

theorem putI_n {x : Ins} (h : ¬ x.op = 24) : putI x = [(x.op % 256).toNat, ((x.src * 16 + x.dst) % 256).toNat] ++ (le 2 (u64 x.off) ++ le 4 (u64 x.imm)) := by
  unfold putI; rw [if_neg h]; simp
theorem putI_w {x : Ins} (h : x.op = 24) : putI x = [(x.op % 256).toNat, ((x.src * 16 + x.dst) % 256).toNat] ++ (le 2 (u64 x.off) ++ (le 4 (u64 x.imm) ++ ([0, 0, 0, 0] ++ le 4 (u64 x.imm / 4294967296)))) := by
  unfold putI; rw [if_pos h]

theorem puts_le : ∀ l : List Ins, (puts l).length ≤ 16 * l.length
  | [] => by simp [puts]
  | x :: l => by
    have := puts_le l
    have h2 := sizI_pos x
    rw [puts_cons, List.length_append, putI_len, List.length_cons]; omega
theorem puts_one (x : Ins) : puts [x] = putI x := by simp [puts]

theorem u64_eq (v : Int) : IntKind.u64.wrap v = ((u64 v : Nat) : Int) := by
  rw [wrap_u64']; unfold u64; omega

theorem Put_s {a : Option Addr} {l : List Ins} (h : Sep H (gh :: ga :: L)) (rd : Rds (gh :: ga :: L) a l)
    (hE : putErr l ≠ 0 → ∀ H', Sep H' (gh :: ga :: L) → R (.tuple #[.slice none 0 0, I (putErr l)]) H')
    (hR : putErr l = 0 → ∀ H' q, (q = none → puts l = []) → Sep H' (gl 1 q ((puts l).map Y) :: gh :: ga :: L) → R (.tuple #[.slice (addr q) (puts l).length 0, I 0]) H') :
    CA en F.insn_Put [.slice a l.length 0] H R := by
  apply vc_insn_Put
  refine cond_of (fun hl => ?_) fun hl => ?_
  · have hl : l.length > 256 := by simp only [decide_eq_true_eq] at hl; omega
    have e : putErr l = 19 := if_pos hl
    have := hE (by rw [e]; decide) H h
    rw [e] at this
    exact this
  have hl : ¬ l.length > 256 := by simp only [decide_eq_false_iff_not] at hl; omega
  have he : putErr l = firstE l := if_neg hl
  rw [he] at hE hR
  refine use_insn_Put_0 (fun k t2 t2l t3 t4 t4l t14 H => ∃ (j : Nat) (q : Option Nat), j ≤ l.length ∧ k = l.length - j ∧ t14 = (j : Int) ∧ firstE l = firstE (l.drop j) ∧ (q = none → puts (l.take j) = []) ∧ t4 = addr q ∧ t4l = (puts (l.take j)).length ∧
    Sep H (gl 1 q ((puts (l.take j)).map Y) :: gh :: ga :: L)) l.length ⟨0, none, by omega, rfl, rfl, rfl, fun _ => rfl, rfl, rfl, gl_none.2 h⟩ ?_
  clear h
  rintro k t2 t2l t3 t4 t4l t14 ys H3 ⟨j, q, hj, rfl, rfl, hf, hq, rfl, rfl, hs⟩
  refine cond_of (fun h1 => ?_) fun h1 => ?_
  · simp only [decide_eq_true_eq] at h1
    have hj' : j < l.length := by omega
    obtain ⟨x, hx⟩ : ∃ x, l[j]? = some x := ⟨_, List.getElem?_eq_getElem hj'⟩
    obtain ⟨i, rfl, hc⟩ := rd H3 hs.tail j x hx
    rw [drop_cons hx] at hf
    simp only [firstE] at hf
    refine ⟨by unfold inB; omega, asRow_in ⟨_, _, _, _, _, hc, Sep.nw hs fun i8 H9 h9 => Sep.st0 h9 (Nat.le_of_ble_eq_true rfl) fun H10 h10 => ⟨_, _, _, _, _, Sep.lds0 h10 rfl, ?_⟩⟩⟩
    refine check_s (x := x) (Sep.up3 (Sep.up3 h10)) fun H17 h17 => ⟨_, rfl, cond_of (fun he => ?_) fun he => ?_⟩
    · have he : chkI x ≠ 0 := by simpa using he
      rw [if_pos he] at hf
      refine asSl_in (asInt_in (asSl_in ?_))
      have := hE (by rw [hf]; exact he) H17 (Sep.rm2 (Sep.rm2 h17))
      rw [hf] at this
      exact this
    · have he : chkI x = 0 := by simpa using he
      rw [if_neg (by simpa using he)] at hf
      obtain ⟨hd, hsr⟩ := chk_regs he
      obtain ⟨d, hd'⟩ := Int.eq_ofNat_of_zero_le hd.1
      obtain ⟨s, hs'⟩ := Int.eq_ofNat_of_zero_le hsr.1
      have b2 := byte2 ⟨s, by omega⟩ ⟨d, by omega⟩
      simp only at b2
      rw [← hd', ← hs'] at b2
      have hlen := puts_le (l.take j)
      rw [List.length_take, Nat.min_eq_left (by omega)] at hlen
      have b1 : IntKind.u8.wrap x.op = (((x.op % 256).toNat : Nat) : Int) := by rw [wrap_u8']; omega
      refine ⟨⟨by decide, by decide, by decide⟩, Sep.nw h17 fun i19 H20 h20 => ?_⟩
      have hB := h20.bump 16
      have i0 : inB 0 16 := by unfold inB; omega
      have i1 : inB 1 16 := by unfold inB; omega
      have n4 : nn 4 := by unfold nn; decide
      refine ⟨_, Sep.ld3 hB rfl, _, Sep.ld3 hB rfl, n4, _, Sep.ld3 hB rfl, i0, Sep.st0 hB (Nat.le_of_ble_eq_true rfl) fun H24 h24 => ⟨i1, Sep.st0 h24 (Nat.le_of_ble_eq_true rfl) fun H25 h25 => ⟨?_, ⟨rfl, rfl, trivial⟩, ⟨⟨_, Sep.ld3 hB rfl, rfl⟩, ⟨_, Sep.ld3 h24 rfl, rfl⟩, trivial⟩, ⟨⟨n4, rfl⟩, ⟨n4, rfl⟩, trivial⟩, ⟨⟨_, Sep.ld3 hB rfl, rfl⟩, ⟨_, Sep.ld3 h24 rfl, rfl⟩, trivial⟩, trivial⟩⟩⟩
      have h25 : Sep H25 (bx i19 (.cells true 1 [.int .u8 (IntKind.u8.wrap x.op), .int .u8 (IntKind.u8.wrap (IntKind.i64.wrap ((BitVec.ofInt 64 (IntKind.i64.wrap (x.src * 16)) ||| (BitVec.ofInt 64 x.dst)).toNat : Int))), Y 0, Y 0, Y 0, Y 0, Y 0, Y 0, Y 0, Y 0, Y 0, Y 0, Y 0, Y 0, Y 0, Y 0]) :: gh :: ga :: bx i8 (.cells true 0 x.cells) :: gl 1 q ((puts (l.take j)).map Y) :: L) := h25
      rw [b1, b2] at h25
      refine ⟨_, Sep.ld3 h25 rfl, ?_⟩
      rw [u64_eq]
      refine put_s (o := 0) (at' := 2) (size := 2) (n := 16) (V := u64 x.off) h25 (.inr rfl) (.inr (.inl rfl)) (by decide) (by decide) (by simp) fun H32 h32 => ⟨_, rfl, _, Sep.ld3 h32 rfl, ?_⟩
      rw [u64_eq]
      refine put_s (o := 0) (at' := 4) (size := 4) (n := 16) (V := u64 x.imm) h32 (.inr rfl) (.inr (.inr (.inl rfl))) (by decide) (by decide) (by rw [upd_len]; simp) fun H36 h36 => ⟨_, rfl, _, Sep.ld3 h36 rfl, ?_⟩
      have fin : ∀ (H' : Heap) (q' : Nat) (n : Nat), n = (putI x).length → Sep H' (gl 1 (some q') ((puts (l.take j)).map Y ++ (putI x).map Y) :: gh :: ga :: L) → ∃ k, k < l.length - j ∧ ∃ (j' : Nat) (q2 : Option Nat), j' ≤ l.length ∧ k = l.length - j' ∧ IntKind.i64.wrap ((j : Int) + 1) = (j' : Int) ∧ firstE l = firstE (l.drop j') ∧ (q2 = none → puts (l.take j') = []) ∧ addr (some q') = addr q2 ∧ (puts (l.take j)).length + n = (puts (l.take j')).length ∧
          Sep H' (gl 1 q2 ((puts (l.take j')).map Y) :: gh :: ga :: L) := by
        intro H' q' n hn' h'
        refine ⟨l.length - (j + 1), by omega, j + 1, some q', by omega, rfl, ?_, hf, (fun h => by cases h), rfl, ?_, ?_⟩
        · rw [wrap_i64 (by omega)]; omega
        · rw [take_snoc' hx, puts_append, puts_one, List.length_append, hn']
        · rw [take_snoc' hx, puts_append, puts_one, List.map_append]
          exact h'
      have hlp : ((puts (l.take j)).map Y).length = (puts (l.take j)).length * 1 := by rw [List.length_map, Nat.mul_one]
      refine cond_of (fun hw => ?_) fun hw => ?_
      · have hw : ¬ x.op = 24 := by simpa using hw
        have hpl : (putI x).length = 8 := by rw [putI_len]; exact if_neg hw
        refine ⟨by unfold inS; omega, ⟨_, _, _, Sep.get0 h36, .inr rfl⟩, (putI x).map Y, rowOf_bx (es := 1) (n := 8) (b := i19) (Sep.get0 h36) (by decide) (by rw [putI_n hw, hs', hd']; rfl), ?_⟩
        refine apd_gl (b := q) (len := (puts (l.take j)).length) (n := 8) (Sep.up4 h36) (fun h => by rw [hq h]; rfl) (by decide) hlp (by decide) (by rw [List.length_map, hpl]) (by omega) fun H' q' h' => fin H' q' 8 hpl.symm (Sep.rm3 (Sep.rm1 h'))
      · have hw : x.op = 24 := by simpa using hw
        have hpl : (putI x).length = 16 := by rw [putI_len]; exact if_pos hw
        refine ⟨_, Sep.ld3 h36 rfl, by unfold nn; decide, ?_⟩
        have e32 : Int.fdiv (IntKind.u64.wrap x.imm) 4294967296 = ((u64 x.imm / 4294967296 : Nat) : Int) := by
          rw [u64_eq, Int.fdiv_eq_ediv_of_nonneg _ (by decide)]; omega
        rw [e32]
        refine put_s (o := 0) (at' := 12) (size := 4) (n := 16) (V := u64 x.imm / 4294967296) h36 (.inr rfl) (.inr (.inr (.inl rfl))) (by decide) (by decide) (by rw [upd_len, upd_len]; simp) fun H49 h49 => ⟨_, rfl, ?_⟩
        refine ⟨(putI x).map Y, rowOf_bx (es := 1) (n := 16) (b := i19) (Sep.get0 h49) (by decide) (by rw [putI_w hw, hs', hd']; rfl), ?_⟩
        refine apd_gl (b := q) (len := (puts (l.take j)).length) (n := 16) (Sep.up4 h49) (fun h => by rw [hq h]; rfl) (by decide) hlp (by decide) (by rw [List.length_map, hpl]) (by omega) fun H' q' h' => fin H' q' 16 hpl.symm (Sep.rm3 (Sep.rm1 h'))
  · simp only [decide_eq_false_iff_not] at h1
    obtain rfl : j = l.length := by omega
    rw [List.take_length] at hs hq
    refine asSl_in (asInt_in (asSl_in ?_))
    have := hR (by rw [hf, List.drop_length]; rfl) H3 q hq hs
    rw [List.take_length]
    exact this
end Go.Proofs.YtmgkngdbphkmmaaDoor
