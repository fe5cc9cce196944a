/-
  The instructions that bytes are: insn.Get answers getF.
-/
import Derived.Test.YtmgkngdbphkmmaaDoorInsnOne
namespace Go.Proofs.YtmgkngdbphkmmaaDoor
open Go Go.AS Go.RowKit
set_option linter.unusedVariables false
variable {H H' : Heap} {R : Value → Heap → Prop} {L : List Asr} {i z o : Nat} {w : Bool} {c : List Value}

def flatI (l : List Ins) : List Value := (l.map Ins.cells).flatten
theorem flatI_snoc (l : List Ins) (x : Ins) : flatI (l ++ [x]) = flatI l ++ x.cells := by simp [flatI]
theorem flatI_len : ∀ l : List Ins, (flatI l).length = l.length * 5
  | [] => rfl
  | x :: l => by
    have e : flatI (x :: l) = x.cells ++ flatI l := rfl
    rw [e, List.length_append, flatI_len l]
    simp only [List.length_cons, List.length_nil]
    omega

def pre (m : List Ins) : Except Int (List Ins) → Except Int (List Ins)
  | .ok l => .ok (m ++ l)
  | .error e => .error e
theorem pre_nil (r : Except Int (List Ins)) : pre [] r = r := by cases r <;> rfl

theorem Bytes.drop {p : Nat} {bs : List Nat} (h : Bytes c p bs) (k : Nat) : Bytes c (p + k) (bs.drop k) := by
  intro j b hj
  rw [List.getElem?_drop] at hj
  rw [Nat.add_assoc]
  exact h (k + j) b hj

def gets (bs : List Nat) : Except Int (List Ins) := getF chkI bs.length 0 bs

theorem Get_s {bs : List Nat} (h : Sep H (bx i (.cells w z c) :: gh :: ga :: L)) (hz : z = 0 ∨ z = 1) (hb : Bytes c o bs) (hlt : ∀ b ∈ bs, b < 256) (hn : bs.length < 4611686018427387904)
    (hE : ∀ e, gets bs = .error e → ∀ H', Sep H' (bx i (.cells w z c) :: gh :: ga :: L) → R (.tuple #[.slice none 0 0, I e]) H')
    (hR : ∀ l, gets bs = .ok l → ∀ H' q, (q = none → l = []) → Sep H' (gl 5 q (flatI l) :: bx i (.cells w z c) :: gh :: ga :: L) → R (.tuple #[.slice (addr q) l.length 0, I 0]) H') :
    CA en F.insn_Get [.slice (some ⟨i, o, none⟩) bs.length 0] H R := by
  apply vc_insn_Get
  refine use_insn_Get_0 (fun k t0 t0l t2 t2l t3 t4 t4l H => ∃ (p f : Nat) (m : List Ins) (q : Option Nat), p ≤ bs.length ∧ k = bs.length - p ∧ t0 = some ⟨i, o + p, none⟩ ∧ t0l = bs.length - p ∧ t4 = addr q ∧ t4l = m.length ∧ m.length ≤ 256 ∧ (q = none → m = []) ∧ bs.length - p ≤ f ∧
    gets bs = pre m (getF chkI f m.length (bs.drop p)) ∧ Sep H (gl 5 q (flatI m) :: bx i (.cells w z c) :: gh :: ga :: L)) bs.length
    ⟨0, bs.length, [], none, by omega, rfl, rfl, rfl, rfl, rfl, by simp, fun _ => rfl, by omega, by rw [pre_nil]; rfl, gl_none.2 h⟩ ?_
  clear h
  rintro k t0 t0l t2 t2l t3 t4 t4l ys H3 ⟨p, f, m, q, hp, rfl, rfl, rfl, rfl, rfl, hm, hq, hf, hg, hs⟩
  refine cond_of (fun h1 => ?_) fun h1 => ?_
  · simp only [decide_eq_true_eq] at h1
    have hp' : p < bs.length := by omega
    have hdl : (bs.drop p).length = bs.length - p := List.length_drop ..
    have hne : bs.drop p ≠ [] := by intro e; rw [e] at hdl; simp at hdl; omega
    obtain ⟨f, rfl⟩ : ∃ f', f = f' + 1 := ⟨f - 1, by omega⟩
    rw [getF, if_neg hne] at hg
    refine cond_of (fun h256 => ?_) fun h256 => ?_
    · have h256 : m.length = 256 := by have : ((m.length : Nat) : Int) = 256 := by simpa using h256
                                       omega
      rw [if_pos h256] at hg
      exact asSl_in (asInt_in (asSl_in (hE 19 hg H3 hs.tail)))
    have h256 : ¬ m.length = 256 := by
      intro e
      rw [e] at h256
      simp at h256
    rw [if_neg h256] at hg
    have hltd : ∀ b ∈ bs.drop p, b < 256 := fun b hb => hlt b (List.mem_of_mem_drop hb)
    obtain ⟨x, n, e, hgo⟩ : ∃ x n e, getOne chkI (bs.drop p) = (x, n, e) := ⟨_, _, _, rfl⟩
    rw [hgo] at hg
    simp only at hg
    have O := one_s (R := fun v1 H2 => v1 = .tuple #[x.val, I n, I e] ∧ Sep H2 (bx i (.cells w z c) :: gh :: ga :: gl 5 q (flatI m) :: L)) (o := o + p) (bs := bs.drop p) (Sep.up3 (Sep.up3 (Sep.up3 hs))) hz (hb.drop p) hltd (by omega) (by omega) fun H2 h2 => ⟨by rw [hgo], h2⟩
    rw [hdl] at O
    refine CA_conseq ?_ O
    rintro v1 H2 ⟨rfl, h2⟩
    clear O hs
    refine ⟨_, _, _, _, _, _, _, rfl, Sep.nw h2 fun i10 H11 h11 => Sep.st0 h11 (Nat.le_of_ble_eq_true rfl) fun H12 h12 => cond_of (fun he => ?_) fun he => ?_⟩
    · have he : e ≠ 0 := by simpa using he
      rw [if_pos he] at hg
      exact asSl_in (asInt_in (asSl_in (hE _ hg H12 (Sep.rm3 h12.tail))))
    have he : e = 0 := by simpa using he
    subst he
    rw [if_neg (by simp)] at hg
    obtain ⟨n1, n2, n3, n4⟩ := getOne_back hltd hgo
    rw [hdl] at n2
    have nsz := sizI_pos x
    have hB := h12.bump 9
    have hin : inS (n : Int) (bs.length - p) := by unfold inS; omega
    refine ⟨_, _, _, _, _, Sep.lds0 hB rfl, Sep.nw hB fun i18 H19 h19 => ⟨x.cells, rowOf_bx (es := 5) (n := 1) (b := i18) (Sep.get0 h19) (by decide) rfl, ?_⟩⟩
    refine apd_gl (b := q) (len := m.length) (n := 1) (cs := flatI m) (new := x.cells) (Sep.up5 h19) (fun h => by rw [hq h]; rfl) (by decide) (flatI_len m) (by decide) rfl (by omega) fun H23 q' h23 => ?_
    refine ⟨hin, ⟨⟨_, _, _, Sep.get3 h23, hz⟩, ⟨bs.length - (p + n), by omega, asSl_in ⟨p + n, f, m ++ [x], some q', by omega, rfl, ?_, ?_, rfl, by simp, by simp; omega, (fun h => by cases h), by omega, ?_, ?_⟩⟩, ⟨⟨hin, ⟨_, _, _, Sep.get1 hB, hz⟩, rfl, rfl, rfl⟩, ⟨hin, ⟨_, _, _, Sep.get2 h19, hz⟩, rfl, rfl, rfl⟩, ⟨hin, ⟨_, _, _, Sep.get3 h23, hz⟩, rfl, rfl, rfl⟩, trivial⟩, trivial⟩⟩
    · rw [Int.toNat_natCast, Nat.mul_one, Nat.add_assoc]
    · rw [Int.toNat_natCast]; omega
    · rw [hg, List.drop_drop]
      simp only [List.length_append, List.length_cons, List.length_nil, Nat.zero_add]
      cases getF chkI f (m.length + 1) (bs.drop (p + n)) with
      | ok l => simp [pre]
      | error e => rfl
    · rw [flatI_snoc]
      exact Sep.rm1 (Sep.rm1 h23)
  · simp only [decide_eq_false_iff_not] at h1
    have hp' : p = bs.length := by omega
    subst hp'
    have hg' : gets bs = .ok m := by
      rw [hg, List.drop_length]
      cases f <;> simp [getF, pre]
    exact asSl_in (asInt_in (asSl_in (hR m hg' H3 q hq hs)))
end Go.Proofs.YtmgkngdbphkmmaaDoor
