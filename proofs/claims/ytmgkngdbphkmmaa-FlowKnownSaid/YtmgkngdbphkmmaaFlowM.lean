/-
  Written by merge.py: FlowPure FlowFns FlowDo FlowReach FlowKit
-/
import Derived.Test.YtmgkngdbphkmmaaInsnM
import Derived.Test.YtmgkngdbphkmmaaVcF
import Derived.Test.YtmgkngdbphkmmaaVcK
/-
  Where instructions go on, without the program.
-/
namespace Go.Proofs.Ytmgkngdbphkmmaa
set_option linter.unusedVariables false
variable {l : List Ins} {x : Ins} {i j k : Nat}

def jmp (x : Ins) : Bool := decide ((x.op % 8 = 5 ∨ x.op % 8 = 6) ∧ x.op ≠ 149 ∧ x.op ≠ 133)
def wid (x : Ins) : Nat := if x.op = 24 then 2 else 1
/-- The place of an instruction. -/
def pl (l : List Ins) (i : Nat) : Nat := ((l.take i).map wid).sum
def plE (l : List Ins) : List Int := (List.range l.length).map fun i => (pl l i : Int)
def fnd (l : List Ins) (w : Int) : Option Nat := (List.range l.length).find? fun k => decide ((pl l k : Int) = w)
/-- An instruction's target; -1: none, -2: it is nowhere. -/
def tgA (l : List Ins) (i : Nat) : Int :=
  match l[i]? with
  | none => -2
  | some x => if jmp x = true then (match fnd l (pl l i + 1 + x.off) with | some k => (k : Int) | none => -2) else -1
def tgs (l : List Ins) : List Int := (List.range l.length).map (tgA l)
def gat (xs : List Int) : List Int := xs.foldl (fun out n => if n ≥ 0 ∧ n ∉ out then out ++ [n] else out) []
def beh (x : Ins) (i : Nat) : Int := if x.op = 149 ∨ x.op = 5 then -1 else (i : Int) + 1
def nx (x : Ins) (v : Int) (i : Nat) : List Int := gat [beh x i, v]
def nxN (l : List Ins) (i : Nat) : List Nat :=
  match l[i]? with
  | none => []
  | some x => (nx x (tgA l i) i).map Int.toNat
inductive Rch (l : List Ins) : Nat → Prop where
  | zero : Rch l 0
  | step {i j : Nat} : Rch l i → j ∈ nxN l i → Rch l j
def lastOk (l : List Ins) : Prop := ∀ x, l[l.length - 1]? = some x → x.op = 149 ∨ x.op = 5
instance : Decidable (lastOk l) := by
  unfold lastOk
  cases h : l[l.length - 1]? with
  | none => exact isTrue fun x hx => by cases hx
  | some y => exact if c : y.op = 149 ∨ y.op = 5 then isTrue fun x hx => by cases hx; exact c else isFalse fun h' => c (h' y rfl)
def allR (l : List Ins) : Prop := ∀ i, i < l.length → Rch l i
open Classical in
/-- What is wrong with instructions. -/
noncomputable def fe (l : List Ins) : Int :=
  if l.length > 256 then 19 else if l.length = 0 then 12 else if (-2 : Int) ∈ tgs l then 11 else if ¬ lastOk l then 12 else if ¬ allR l then 13 else 0

theorem gat_nil : gat [] = [] := rfl
theorem gat_snoc (xs : List Int) (n : Int) : gat (xs ++ [n]) = if n ≥ 0 ∧ n ∉ gat xs then gat xs ++ [n] else gat xs := by
  unfold gat; rw [List.foldl_append]; rfl
theorem gat_two (a b : Int) : gat [a, b] = if a ≥ 0 then (if b ≥ 0 ∧ b ≠ a then [a, b] else [a]) else (if b ≥ 0 then [b] else []) := by
  unfold gat
  simp only [List.foldl_cons, List.foldl_nil]
  by_cases ha : a ≥ 0
  · by_cases hb : b ≥ 0 ∧ b ≠ a <;> simp [ha, hb]
  · by_cases hb : b ≥ 0 <;> simp [ha, hb]
theorem gat_mem {a b c : Int} : c ∈ gat [a, b] ↔ c ≥ 0 ∧ (c = a ∨ c = b) := by
  rw [gat_two]
  by_cases ha : a ≥ 0
  · by_cases hb : b ≥ 0 ∧ b ≠ a
    · rw [if_pos ha, if_pos hb]
      simp only [List.mem_cons, List.not_mem_nil, or_false]
      omega
    · rw [if_pos ha, if_neg hb]
      simp only [List.mem_cons, List.not_mem_nil, or_false]
      omega
  · by_cases hb : b ≥ 0
    · rw [if_neg ha, if_pos hb]
      simp only [List.mem_cons, List.not_mem_nil, or_false]
      omega
    · rw [if_neg ha, if_neg hb]
      constructor
      · intro h; simp at h
      · intro h; omega
theorem gat_len (a b : Int) : (gat [a, b]).length ≤ 2 := by
  rw [gat_two]; split <;> split <;> simp

theorem wid_pos (x : Ins) : 1 ≤ wid x ∧ wid x ≤ 2 := by unfold wid; split <;> simp
theorem pl_zero (l : List Ins) : pl l 0 = 0 := rfl
theorem pl_succ (h : l[i]? = some x) : pl l (i + 1) = pl l i + wid x := by
  unfold pl; rw [List.take_add_one, h]; simp
theorem pl_le (l : List Ins) : ∀ i, pl l i ≤ 2 * i
  | 0 => by simp [pl]
  | i + 1 => by
    have ih := pl_le l i
    cases h : l[i]? with
    | none =>
      have e : l.take (i + 1) = l.take i := by rw [List.take_add_one, h]; simp
      unfold pl at ih ⊢
      rw [e]; omega
    | some x => rw [pl_succ h]; have := (wid_pos x).2; omega
theorem pl_lt (hij : i < j) (hj : j ≤ l.length) : pl l i < pl l j := by
  induction j with
  | zero => omega
  | succ j ih =>
    have h : l[j]? = some l[j] := List.getElem?_eq_getElem (by omega)
    rw [pl_succ h]
    have hw := (wid_pos l[j]).1
    rcases Nat.lt_or_ge i j with h1 | h1
    · have := ih h1 (by omega); omega
    · have : i = j := by omega
      subst this; omega
theorem pl_inj (hi : i < l.length) (hj : j < l.length) (h : pl l i = pl l j) : i = j := by
  rcases Nat.lt_trichotomy i j with h1 | h1 | h1
  · have := pl_lt h1 (by omega : j ≤ l.length); omega
  · exact h1
  · have := pl_lt h1 (by omega : i ≤ l.length); omega

theorem plE_len (l : List Ins) : (plE l).length = l.length := by simp [plE]
theorem plE_get (hi : i < l.length) : (plE l)[i]? = some (pl l i : Int) := by
  unfold plE; rw [List.getElem?_map, List.getElem?_range hi]; rfl
theorem tgs_len (l : List Ins) : (tgs l).length = l.length := by simp [tgs]
theorem tgs_get (hi : i < l.length) : (tgs l)[i]? = some (tgA l i) := by
  unfold tgs; rw [List.getElem?_map, List.getElem?_range hi]; rfl

theorem fnd_some {w : Int} (h : fnd l w = some k) : k < l.length ∧ (pl l k : Int) = w := by
  unfold fnd at h
  have h1 := List.find?_some h
  have h2 := List.mem_of_find?_eq_some h
  exact ⟨List.mem_range.1 h2, by simpa using h1⟩
theorem fnd_none {w : Int} (h : fnd l w = none) (hk : k < l.length) : (pl l k : Int) ≠ w := by
  unfold fnd at h
  rw [List.find?_eq_none] at h
  have := h k (List.mem_range.2 hk)
  simpa using this
theorem fnd_of {w : Int} (hk : k < l.length) (h : (pl l k : Int) = w) : fnd l w = some k := by
  cases hf : fnd l w with
  | none => exact absurd h (fnd_none hf hk)
  | some k' =>
    obtain ⟨a, b⟩ := fnd_some hf
    rw [pl_inj a hk (by omega)]

theorem tgA_lt (l : List Ins) (i : Nat) : tgA l i < l.length ∨ tgA l i < 0 := by
  unfold tgA
  split
  · right; decide
  · split
    · split
      · rename_i h; left; have := (fnd_some h).1; omega
      · right; decide
    · right; decide
theorem tgA_nn (hx : l[i]? = some x) (h : 0 ≤ tgA l i) : jmp x = true ∧ ∃ k : Nat, tgA l i = k ∧ k < l.length ∧ (pl l k : Int) = pl l i + 1 + x.off := by
  unfold tgA at h ⊢
  rw [hx] at h ⊢
  simp only at h ⊢
  split at h
  · rename_i hj
    rw [if_pos hj]
    cases hf : fnd l (pl l i + 1 + x.off) with
    | none => rw [hf] at h; simp at h
    | some k => exact ⟨hj, k, rfl, (fnd_some hf).1, (fnd_some hf).2⟩
  · omega
theorem tgA_jmp (hx : l[i]? = some x) (h2 : tgA l i ≠ -2) : (jmp x = true ↔ 0 ≤ tgA l i) := by
  constructor
  · intro hj
    unfold tgA at h2 ⊢
    rw [hx] at h2 ⊢
    simp only [hj, if_true] at h2 ⊢
    split at h2
    · omega
    · exact absurd rfl h2
  · intro h; exact (tgA_nn hx h).1
theorem tgA_no (hx : l[i]? = some x) (h : ¬ jmp x = true) : tgA l i = -1 := by
  unfold tgA; rw [hx]; simp only; rw [if_neg h]

theorem tgA_some (hx : l[i]? = some x) (hj : jmp x = true) (hf : fnd l (pl l i + 1 + x.off) = some k) : tgA l i = k := by
  unfold tgA; rw [hx]; simp only; rw [if_pos hj, hf]
theorem tgA_none (hx : l[i]? = some x) (hj : jmp x = true) (hf : fnd l (pl l i + 1 + x.off) = none) : tgA l i = -2 := by
  unfold tgA; rw [hx]; simp only; rw [if_pos hj, hf]

theorem nx_mem {c : Int} (hc : c ∈ nx x (tgA l i) i) : 0 ≤ c ∧ ((x.op ≠ 149 ∧ x.op ≠ 5 ∧ c = (i : Int) + 1) ∨ c = tgA l i) := by
  unfold nx at hc
  rw [gat_mem] at hc
  obtain ⟨h0, h1⟩ := hc
  refine ⟨h0, ?_⟩
  rcases h1 with h1 | h1
  · unfold beh at h1
    split at h1
    · omega
    · rename_i h; left; omega
  · exact .inr h1
theorem nx_lt (hl : lastOk l) (hx : l[i]? = some x) {c : Int} (hc : c ∈ nx x (tgA l i) i) : 0 ≤ c ∧ c < l.length := by
  obtain ⟨h0, h1⟩ := nx_mem hc
  refine ⟨h0, ?_⟩
  have hi : i < l.length := (List.getElem?_eq_some_iff.1 hx).1
  rcases h1 with ⟨h1, h2, h3⟩ | h1
  · have : i ≠ l.length - 1 := by
      intro e
      subst e
      have := hl x hx
      omega
    omega
  · have := tgA_lt l i
    omega
theorem nxN_lt (hl : lastOk l) (hj : j ∈ nxN l i) : j < l.length := by
  unfold nxN at hj
  split at hj
  · simp at hj
  · rename_i x hx
    obtain ⟨c, hc, rfl⟩ := List.mem_map.1 hj
    have := nx_lt hl hx hc
    omega

/-! ### The search -/
structure Dfs (l : List Ins) (seen : List Bool) (todo : List Nat) : Prop where
  len : seen.length = l.length
  sr : ∀ k, seen[k]? = some true → Rch l k
  tr : ∀ k ∈ todo, Rch l k ∧ k < l.length
  cl : ∀ i, seen[i]? = some true → ∀ j ∈ nxN l i, seen[j]? = some true ∨ j ∈ todo
  z : seen[0]? = some true ∨ 0 ∈ todo

def unseen (seen : List Bool) : Nat := seen.count false
theorem Dfs.init (h : 0 < l.length) : Dfs l (List.replicate l.length false) [0] := by
  refine ⟨by simp, fun k hk => ?_, fun k hk => ?_, fun i hi => ?_, .inr (by simp)⟩
  · rw [List.getElem?_replicate] at hk; split at hk <;> simp at hk
  · simp at hk; subst hk; exact ⟨.zero, h⟩
  · rw [List.getElem?_replicate] at hi; split at hi <;> simp at hi

theorem Dfs.old {seen : List Bool} {todo : List Nat} (h : Dfs l seen (todo ++ [i])) (hs : seen[i]? = some true) : Dfs l seen todo := by
  refine ⟨h.len, h.sr, fun k hk => h.tr k (by simp [hk]), fun a ha j hj => ?_, ?_⟩
  · rcases h.cl a ha j hj with h1 | h1
    · exact .inl h1
    · simp only [List.mem_append, List.mem_singleton] at h1
      rcases h1 with h1 | rfl
      · exact .inr h1
      · exact .inl hs
  · rcases h.z with h1 | h1
    · exact .inl h1
    · simp only [List.mem_append, List.mem_singleton] at h1
      rcases h1 with h1 | rfl
      · exact .inr h1
      · exact .inl hs

theorem get_set_b {s : List Bool} (hi : i < s.length) : (s.set i true)[k]? = if k = i then some true else s[k]? := by
  rw [List.getElem?_set]
  by_cases h : i = k
  · subst h; simp [hi]
  · rw [if_neg h, if_neg (Ne.symm h)]

theorem Dfs.new {seen : List Bool} {todo : List Nat} (hl : lastOk l) (h : Dfs l seen (todo ++ [i])) : Dfs l (seen.set i true) (todo ++ nxN l i) := by
  have hi := h.tr i (by simp)
  have hlt : i < seen.length := by rw [h.len]; exact hi.2
  refine ⟨by simp [h.len], fun k hk => ?_, fun k hk => ?_, fun a ha j hj => ?_, ?_⟩
  · rw [get_set_b hlt] at hk
    split at hk
    · rename_i e; subst e; exact hi.1
    · exact h.sr k hk
  · rcases List.mem_append.1 hk with h1 | h1
    · exact h.tr k (by simp [h1])
    · exact ⟨.step hi.1 h1, nxN_lt hl h1⟩
  · rw [get_set_b hlt] at ha
    rw [get_set_b hlt]
    split at ha
    · rename_i e; subst e
      exact .inr (List.mem_append_right _ hj)
    · by_cases e : j = i
      · rw [if_pos e]; exact .inl rfl
      · rw [if_neg e]
        rcases h.cl a ha j hj with h1 | h1
        · exact .inl h1
        · simp only [List.mem_append, List.mem_singleton] at h1
          rcases h1 with h1 | h1
          · exact .inr (List.mem_append_left _ h1)
          · exact absurd h1 e
  · rw [get_set_b hlt]
    by_cases e : 0 = i
    · rw [if_pos e]; exact .inl rfl
    · rw [if_neg e]
      rcases h.z with h1 | h1
      · exact .inl h1
      · simp only [List.mem_append, List.mem_singleton] at h1
        rcases h1 with h1 | h1
        · exact .inr (List.mem_append_left _ h1)
        · exact absurd h1 e

theorem unseen_set : ∀ {s : List Bool} {i : Nat}, s[i]? = some false → unseen (s.set i true) + 1 = unseen s
  | [], i, h => by simp at h
  | b :: s, 0, h => by simp at h; subst h; simp [unseen]
  | b :: s, i + 1, h => by
    have := unseen_set (s := s) (i := i) (by simpa using h)
    unfold unseen at this ⊢
    simp only [List.set_cons_succ, List.count_cons]
    omega

theorem Dfs.done {seen : List Bool} (h : Dfs l seen []) : ∀ k, seen[k]? = some true ↔ Rch l k := by
  intro k
  refine ⟨h.sr k, fun hr => ?_⟩
  induction hr with
  | zero => rcases h.z with h1 | h1
            · exact h1
            · simp at h1
  | step _ hj ih => rcases h.cl _ ih _ hj with h1 | h1
                    · exact h1
                    · simp at h1
theorem Dfs.all {seen : List Bool} (h : Dfs l seen []) : (false ∉ seen) ↔ allR l := by
  constructor
  · intro hf k hk
    refine (h.done k).1 ?_
    have hk' : k < seen.length := by rw [h.len]; exact hk
    rw [List.getElem?_eq_getElem hk']
    cases e : seen[k] with
    | true => rfl
    | false => exact absurd (e ▸ List.getElem_mem hk') hf
  · intro ha hf
    obtain ⟨k, hk, e⟩ := List.getElem_of_mem hf
    have := (h.done k).2 (ha k (by rw [← h.len]; exact hk))
    rw [List.getElem?_eq_getElem hk, e] at this
    simp at this
end Go.Proofs.Ytmgkngdbphkmmaa

/-
  Where instructions go on: what flow's small functions answer.
-/
namespace Go.Proofs.Ytmgkngdbphkmmaa
open Go Go.AS Go.RowKit
set_option linter.unusedVariables false
variable {H H' : Heap} {R : Value → Heap → Prop} {L M : List Asr} {a ta : Option Addr} {l : List Ins} {t : List Int} {x : Ins} {v : Int} {i j : Nat}

abbrev ints (t : List Int) : List Value := t.map fun v => I v
theorem ints_append (s t : List Int) : ints (s ++ t) = ints s ++ ints t := List.map_append
/-- Where the numbers of a slice lie. -/
def RdN (L : List Asr) (a : Option Addr) (t : List Int) : Prop :=
  ∀ H', Sep H' L → ∀ (j : Nat) v, t[j]? = some v → ∃ i, a = some ⟨i, 0, none⟩ ∧ H'.cell i (0 + j * 1) = some (I v)

theorem rdn_gl {q : Option Nat} (hm : gl 1 q (ints t) ∈ L) (hq : q = none → t = []) : RdN L (addr q) t := by
  intro H' hs j x hx
  cases q with
  | none => rw [hq rfl] at hx; simp at hx
  | some q =>
    have hg : H'.get q = some (.cells true 1 (ints t)) := (hs.all _ hm) (bx q (.cells true 1 (ints t))) (by simp)
    exact ⟨q, rfl, by rw [cell_of hg, Nat.zero_add, Nat.mul_one, List.getElem?_map, hx]; rfl⟩
theorem rdn_bx {i z : Nat} {w : Bool} (hm : bx i (.cells w z (ints t)) ∈ L) : RdN L (some ⟨i, 0, none⟩) t := by
  intro H' hs j x hx
  have hg : H'.get i = some (.cells w z (ints t)) := hs.all _ hm
  exact ⟨i, rfl, by rw [cell_of hg, Nat.zero_add, Nat.mul_one, List.getElem?_map, hx]; rfl⟩
theorem rdn_arg {n : Nat} (ha : Arg a n (t.map fun v => [I v]) M) (hM : ∀ A ∈ M, A ∈ L) : RdN L a t := by
  intro H' hs j x hx
  have hw : ∀ c ∈ t.map (fun v => [I v]), c.length = 1 := by intro c hc; obtain ⟨y, _, rfl⟩ := List.mem_map.1 hc; rfl
  obtain ⟨hj, e⟩ := List.getElem?_eq_some_iff.1 hx
  obtain ⟨i, h1, _, h2⟩ := ha.row hs hM hw (j := j) (by simpa using hj)
  refine ⟨i, h1, ?_⟩
  have := h2 0 (by decide)
  rw [List.getElem_map, e] at this
  exact this

theorem cells_cell {i o n k : Nat} {cs : List Value} (h : H.cellsAt i o n = some cs) (hk : k < n) : H.cell i (o + k) = cs[k]? := by
  unfold Heap.cellsAt at h
  unfold Heap.cell
  split at h
  · rename_i c hg
    unfold takeAt at h
    split at h
    · cases h
      rw [List.getElem?_take, if_pos hk, List.getElem?_drop]
    · cases h
  · cases h
theorem Rds.op (h : Rds L a l) (hs : Sep H L) (hx : l[j]? = some x) : ∃ i, a = some ⟨i, 0, none⟩ ∧ H.cell i (0 + j * 5) = some (I x.op) ∧ H.cell i (0 + j * 5 + 3) = some (I x.off) ∧ H.cellsAt i (0 + j * 5) 5 = some x.cells := by
  obtain ⟨i, e, hc⟩ := h H hs j x hx
  exact ⟨i, e, cells_cell (k := 0) hc (by decide), cells_cell (k := 3) hc (by decide), hc⟩

/-! ### Small ones -/
def OkI (x : Ins) : Prop := 0 ≤ x.op ∧ x.op ≤ 255 ∧ -32768 ≤ x.off ∧ x.off ≤ 32767
theorem okI_chk (h : chkI x = 0) : OkI x := by
  unfold chkI at h
  cases hr : refRow x.op with
  | none => rw [hr] at h; cases h
  | some r =>
    rw [hr] at h
    simp only at h
    have := row_bd hr
    split at h
    · cases h
    split at h
    · cases h
    split at h
    · cases h
    rename_i h1
    unfold OkI
    omega

theorem cls_eq {op : Int} (h0 : 0 ≤ op) (h1 : op ≤ 255) : IntKind.i64.wrap ((BitVec.ofInt 64 op &&& (BitVec.ofInt 64 7)).toNat : Int) = op % 8 := by
  have all : ∀ s : Fin 256, IntKind.i64.wrap ((BitVec.ofInt 64 (((s : Nat)) : Int) &&& (BitVec.ofInt 64 7)).toNat : Int) = ((s : Nat) : Int) % 8 := by decide +kernel
  obtain ⟨n, rfl⟩ := Int.eq_ofNat_of_zero_le h0
  exact all ⟨n, by omega⟩

theorem Jumps_s (h : Sep H L) (hx : OkI x) (hR : ∀ H', Sep H' L → R (.bool (jmp x)) H') : CA en F.flow_Jumps [x.val] H R := by
  apply vc_flow_Jumps
  refine Sep.nw h fun i1 H2 h2 => ⟨_, Sep.ld0 h2 rfl, ?_⟩
  apply vc_insn_Class
  rw [cls_eq hx.1 hx.2.1]
  have hr := hR H2 h2.tail
  have ans : ∀ b : Bool, b = jmp x → R (.bool b) H2 := fun b e => e ▸ hr
  refine ⟨_, rfl, cond_of (fun c => ?_) fun c => cond_of (fun d => ?_) fun d => ans _ ?_⟩
  · refine ⟨_, Sep.ld0 h2 rfl, cond_of (fun e => ⟨_, Sep.ld0 h2 rfl, ans _ ?_⟩) fun e => ans _ ?_⟩
    · simp only [beq_iff_eq] at c
      simp only [bne_iff_ne, ne_eq] at e
      unfold jmp
      rw [Bool.eq_iff_iff]
      simp [c, e]
    · simp only [beq_iff_eq] at c
      have e : x.op = 149 := by simpa using e
      unfold jmp
      rw [Bool.eq_iff_iff]
      simp [e]
  · refine ⟨_, Sep.ld0 h2 rfl, cond_of (fun e => ⟨_, Sep.ld0 h2 rfl, ans _ ?_⟩) fun e => ans _ ?_⟩
    · simp only [beq_iff_eq] at d
      simp only [bne_iff_ne, ne_eq] at e
      unfold jmp
      rw [Bool.eq_iff_iff]
      simp [d, e]
    · have e : x.op = 149 := by simpa using e
      unfold jmp
      rw [Bool.eq_iff_iff]
      simp [e]
  · have c : ¬ x.op % 8 = 5 := by simpa using c
    have d : ¬ x.op % 8 = 6 := by simpa using d
    unfold jmp
    rw [Bool.eq_iff_iff]
    simp [c, d]

/-- Does a list that may be none hold a number? -/
theorem containsN_s {n : Nat} (h : Sep H L) (rt : RdN L ta t) (hn : n = t.length) (hl : t.length < 4611686018427387904) (hR : R (.bool (decide (v ∈ t))) H) :
    CA en F.slices_Contains_int_int [.slice ta n 0, I v] H R := by
  subst hn
  apply vc_slices_Contains_int_int
  apply vc_slices_Index_int_int
  refine use_slices_Index_int_int_0 (fun k t4 t8 H' => ∃ j : Nat, j ≤ t.length ∧ k = t.length - j ∧ t8 = (j : Int) ∧ H' = H ∧ v ∉ t.take j) t.length ⟨0, by omega, rfl, rfl, rfl, by simp⟩ ?_
  rintro k t4 t8 ys H' ⟨j, hj, rfl, rfl, rfl, hn⟩
  refine cond_of (fun h1 => ?_) fun h1 => ?_
  · simp only [decide_eq_true_eq] at h1
    have hj' : j < t.length := by omega
    obtain ⟨i, rfl, hc⟩ := rt H' h j t[j] (List.getElem?_eq_getElem hj')
    refine ⟨by unfold inB; omega, asRow_in ⟨t[j], hc, cond_of (fun e => ?_) fun e => ?_⟩⟩
    · have e : v = t[j] := by simpa using e
      refine asInt_in ⟨_, rfl, ?_⟩
      have : decide (v ∈ t) = true := decide_eq_true (by rw [e]; exact List.getElem_mem _)
      rw [this] at hR
      have e2 : decide (((j : Nat) : Int) ≥ 0) = true := by simp
      rw [e2]
      exact hR
    · have e : ¬ v = t[j] := by simpa using e
      refine ⟨t.length - (j + 1), by omega, j + 1, by omega, rfl, ?_, rfl, ?_⟩
      · rw [wrap_i64 (by omega)]; omega
      · rw [List.take_add_one, List.getElem?_eq_getElem hj']
        simp only [Option.toList_some, List.mem_append, List.mem_singleton, not_or]
        exact ⟨hn, e⟩
  · simp only [decide_eq_false_iff_not] at h1
    obtain rfl : j = t.length := by omega
    rw [List.take_length] at hn
    refine asInt_in ⟨_, rfl, ?_⟩
    rw [decide_eq_false hn] at hR
    exact hR

theorem gat_lenA : ∀ (xs out : List Int), (xs.foldl (fun out n => if n ≥ 0 ∧ n ∉ out then out ++ [n] else out) out).length ≤ out.length + xs.length
  | [], out => by simp
  | n :: xs, out => by
    rw [List.foldl_cons]
    refine Nat.le_trans (gat_lenA xs _) ?_
    split <;> simp <;> omega
theorem gat_lenle (xs : List Int) : (gat xs).length ≤ xs.length := by
  have := gat_lenA xs []
  rw [List.length_nil, Nat.zero_add] at this
  exact this

theorem gather_s {i z : Nat} {w : Bool} {xs : List Int} (h : Sep H (bx i (.cells w z (ints xs)) :: L)) (hn : xs.length < 1000000) (hR : ∀ H' q, (q = none → gat xs = []) → Sep H' (gl 1 q (ints (gat xs)) :: L) → R (.slice (addr q) (gat xs).length 0) H') :
    CA en F.flow_gather [.slice (some ⟨i, 0, none⟩) xs.length 0] H R := by
  apply vc_flow_gather
  refine use_flow_gather_0 (fun k t2 t2l t7 H => ∃ (j : Nat) (q : Option Nat), j ≤ xs.length ∧ k = xs.length - j ∧ t7 = (j : Int) ∧ t2 = addr q ∧ t2l = (gat (xs.take j)).length ∧ (q = none → gat (xs.take j) = []) ∧ Sep H (gl 1 q (ints (gat (xs.take j))) :: bx i (.cells w z (ints xs)) :: L)) xs.length ⟨0, none, by omega, rfl, rfl, rfl, rfl, fun _ => rfl, gl_none.2 h⟩ ?_
  clear h
  rintro k t2 t2l t7 ys H3 ⟨j, q, hj, rfl, rfl, rfl, rfl, hq, hs⟩
  refine cond_of (fun h1 => ?_) fun h1 => ?_
  · simp only [decide_eq_true_eq] at h1
    have hj' : j < xs.length := by omega
    obtain ⟨y, hy⟩ : ∃ y, xs[j]? = some y := ⟨_, List.getElem?_eq_getElem hj'⟩
    have et : xs.take (j + 1) = xs.take j ++ [y] := take_snoc' hy
    have eg := gat_snoc (xs.take j) y
    rw [← et] at eg
    have hlen := gat_lenle (xs.take j)
    rw [List.length_take] at hlen
    have hw1 : IntKind.i64.wrap ((j : Int) + 1) = ((j + 1 : Nat) : Int) := by rw [wrap_i64 (by omega)]; omega
    refine ⟨by unfold inB; omega, asRow_in ⟨y, Sep.ld1 hs (by rw [Nat.zero_add, Int.toNat_natCast, Nat.mul_one, List.getElem?_map, hy]; rfl), cond_of (fun c => ?_) fun c => ?_⟩⟩
    · have c : y ≥ 0 := by simpa using c
      refine containsN_s hs (rdn_gl (by simp) hq) rfl (by omega) ⟨_, rfl, cond_of (fun d => ?_) fun d => ?_⟩
      · have d : y ∉ gat (xs.take j) := by simpa using d
        rw [if_pos ⟨c, d⟩] at eg
        refine Sep.nw hs fun i7 H8 h8 => ⟨[I y], rowOf_bx (es := 1) (n := 1) (b := i7) (Sep.get0 h8) (by decide) rfl, ?_⟩
        refine apd_gl (b := q) (len := (gat (xs.take j)).length) (n := 1) (cs := ints (gat (xs.take j))) (new := [I y]) (Sep.up1 h8) (fun h => by rw [hq h]; rfl) (by decide) (by rw [List.length_map, Nat.mul_one]) (by decide) rfl (by omega) fun H' q' h' => ⟨xs.length - (j + 1), by omega, j + 1, some q', by omega, rfl, hw1, rfl, ?_, (fun h => by cases h), ?_⟩
        · rw [eg, List.length_append]; rfl
        · rw [eg, ints_append]
          exact Sep.rm1 h'
      · have d : y ∈ gat (xs.take j) := by simpa using d
        rw [if_neg (fun h => h.2 d)] at eg
        exact ⟨xs.length - (j + 1), by omega, j + 1, q, by omega, rfl, hw1, rfl, by rw [eg], by rw [eg]; exact hq, by rw [eg]; exact hs⟩
    · have c : ¬ y ≥ 0 := by simpa using c
      rw [if_neg (fun h => c h.1)] at eg
      exact ⟨xs.length - (j + 1), by omega, j + 1, q, by omega, rfl, hw1, rfl, by rw [eg], by rw [eg]; exact hq, by rw [eg]; exact hs⟩
  · simp only [decide_eq_false_iff_not] at h1
    obtain rfl : j = xs.length := by omega
    rw [List.take_length] at hs hq ⊢
    exact asSl_in (hR H3 q hq (Sep.rm1 hs))

theorem Next_s {n m : Nat} (h : Sep H L) (rl : Rds L a l) (rt : RdN L ta t) (hn : n = l.length) (hm : m = t.length) (hx : l[i]? = some x) (hv : t[i]? = some v) (hi : i < 1000000)
    (hR : ∀ H' q, (q = none → nx x v i = []) → Sep H' (gl 1 q (ints (nx x v i)) :: L) → R (.slice (addr q) (nx x v i).length 0) H') :
    CA en F.flow_Next [.slice a n 0, .slice ta m 0, I i] H R := by
  subst hn hm
  apply vc_flow_Next
  have hil : i < l.length := (List.getElem?_eq_some_iff.1 hx).1
  have hit : i < t.length := (List.getElem?_eq_some_iff.1 hv).1
  obtain ⟨b, rfl, ho, _, _⟩ := rl.op h hx
  obtain ⟨b2, rfl, hv2⟩ := rt _ h i v hv
  have inl : inB (i : Int) l.length := by unfold inB; omega
  have int : inB (i : Int) t.length := by unfold inB; omega
  refine ⟨inl, asRow_in ⟨_, ho, cond_of (fun c => ?_) fun c => ⟨inl, asRow_in ⟨_, ho, cond_of (fun d => ?_) fun d => ?_⟩⟩⟩⟩
  · have c : x.op = 149 := by simpa using c
    have e : beh x i = -1 := if_pos (.inl c)
    refine ⟨int, asRow_in ⟨_, hv2, Sep.nw h fun i7 H8 h8 => ?_⟩⟩
    refine gather_s (xs := [-1, v]) h8 (by simp) fun H10 q hq h10 => ⟨_, _, rfl, ?_⟩
    have e2 : nx x v i = gat [-1, v] := by unfold nx; rw [e]
    rw [← e2] at hq h10 ⊢
    exact hR H10 q hq h10
  · have d : x.op = 5 := by simpa using d
    have e : beh x i = -1 := if_pos (.inr d)
    refine ⟨int, asRow_in ⟨_, hv2, Sep.nw h fun i7 H8 h8 => ?_⟩⟩
    refine gather_s (xs := [-1, v]) h8 (by simp) fun H10 q hq h10 => ⟨_, _, rfl, ?_⟩
    have e2 : nx x v i = gat [-1, v] := by unfold nx; rw [e]
    rw [← e2] at hq h10 ⊢
    exact hR H10 q hq h10
  · have c : ¬ x.op = 149 := by simpa using c
    have d : ¬ x.op = 5 := by simpa using d
    have e : beh x i = (i : Int) + 1 := if_neg (by omega)
    refine ⟨int, asRow_in ⟨_, hv2, ?_⟩⟩
    rw [wrap_i64 (by omega)]
    refine Sep.nw h fun i7 H8 h8 => ?_
    refine gather_s (xs := [(i : Int) + 1, v]) h8 (by simp) fun H10 q hq h10 => ⟨_, _, rfl, ?_⟩
    have e2 : nx x v i = gat [(i : Int) + 1, v] := by unfold nx; rw [e]
    rw [← e2] at hq h10 ⊢
    exact hR H10 q hq h10

theorem plE_take {n : Nat} (hj : n < l.length) : (plE l).take (n + 1) = (plE l).take n ++ [(pl l n : Int)] := take_snoc' (plE_get hj)

theorem Places_s {n : Nat} (h : Sep H L) (rl : Rds L a l) (hn : n = l.length) (hl : l.length < 1000000) (hR : ∀ H' q, (q = none → plE l = []) → Sep H' (gl 1 q (ints (plE l)) :: L) → R (.slice (addr q) l.length 0) H') :
    CA en F.flow_Places [.slice a n 0] H R := by
  subst hn
  apply vc_flow_Places
  refine use_flow_Places_0 (fun k t3 t3l t4 t9 H => ∃ (j : Nat) (q : Option Nat), j ≤ l.length ∧ k = l.length - j ∧ t9 = (j : Int) ∧ t4 = (pl l j : Int) ∧ t3 = addr q ∧ t3l = j ∧ (q = none → j = 0) ∧ Sep H (gl 1 q (ints ((plE l).take j)) :: L)) l.length ⟨0, none, by omega, rfl, rfl, rfl, rfl, rfl, fun _ => rfl, gl_none.2 h⟩ ?_
  clear h
  rintro k t3 t3l t4 t9 ys H3 ⟨j, q, hj, rfl, rfl, rfl, rfl, rfl, hq, hs⟩
  refine cond_of (fun h1 => ?_) fun h1 => ?_
  · simp only [decide_eq_true_eq] at h1
    have hj' : t3l < l.length := by omega
    obtain ⟨x, hx⟩ : ∃ x, l[t3l]? = some x := ⟨_, List.getElem?_eq_getElem hj'⟩
    obtain ⟨i, rfl, hc⟩ := rl _ hs.tail t3l x hx
    have hle := pl_le l t3l
    have hps := pl_succ hx
    have hw1 : IntKind.i64.wrap ((t3l : Int) + 1) = ((t3l + 1 : Nat) : Int) := by rw [wrap_i64 (by omega)]; omega
    refine ⟨by unfold inB; omega, asRow_in ⟨_, _, _, _, _, hc, Sep.nw hs fun i8 H9 h9 => Sep.st0 h9 (Nat.le_of_ble_eq_true rfl) fun H10 h10 => Sep.nw h10 fun i11 H12 h12 => ⟨[I (pl l t3l)], rowOf_bx (es := 1) (n := 1) (b := i11) (Sep.get0 h12) (by decide) rfl, ?_⟩⟩⟩
    refine apd_gl (b := q) (len := t3l) (n := 1) (cs := ints ((plE l).take t3l)) (new := [I (pl l t3l)]) (Sep.up2 h12) (fun h => by rw [hq h]; rfl) (by decide) (by rw [List.length_map, List.length_take, plE_len]; omega) (by decide) rfl (by omega) fun H' q' h' => ?_
    have h2 : Sep H' (gl 1 (some q') (ints ((plE l).take (t3l + 1))) :: L) := by
      rw [plE_take hj', ints_append]
      exact Sep.rm1 (Sep.rm1 h')
    refine ⟨x.op, Sep.ld2 h' rfl, cond_of (fun e => ?_) fun e => ?_⟩
    · have e : x.op = 24 := by simpa using e
      have ew : wid x = 2 := if_pos e
      refine ⟨l.length - (t3l + 1), by omega, t3l + 1, some q', by omega, rfl, hw1, ?_, rfl, rfl, (fun h => by cases h), h2⟩
      rw [wrap_i64 (n := (pl l t3l : Int) + 1) (by omega), wrap_i64 (by omega), hps, ew]; omega
    · have e : ¬ x.op = 24 := by simpa using e
      have ew : wid x = 1 := if_neg e
      refine ⟨l.length - (t3l + 1), by omega, t3l + 1, some q', by omega, rfl, hw1, ?_, rfl, rfl, (fun h => by cases h), h2⟩
      rw [wrap_i64 (by omega), hps, ew]; omega
  · simp only [decide_eq_false_iff_not] at h1
    obtain rfl : t3l = l.length := by omega
    rw [← plE_len l, List.take_length] at hs
    exact asSl_in (hR H3 q (fun h => List.eq_nil_of_length_eq_zero (by rw [plE_len]; exact hq h)) hs)
end Go.Proofs.Ytmgkngdbphkmmaa

/-
  Where instructions go on: targets, and what is reached.
-/
namespace Go.Proofs.Ytmgkngdbphkmmaa
open Go Go.AS Go.RowKit
set_option linter.unusedVariables false
variable {H H' : Heap} {R : Value → Heap → Prop} {L M : List Asr} {a ta : Option Addr} {l : List Ins} {t ps : List Int} {x : Ins} {v w : Int} {i j : Nat}

theorem less_s {a b : Int} (hR : R (.bool (decide (a < b))) H) : CA en F.cmp_Less_int [I a, I b] H R := by
  apply vc_cmp_Less_int
  apply vc_cmp_isNaN_int
  exact ⟨_, rfl, cond_no (by simp) hR⟩

theorem mid_eq {lo hi : Nat} (h : lo + hi < 10000000) : IntKind.i64.wrap (Int.fdiv (IntKind.u64.wrap (IntKind.i64.wrap ((lo : Int) + (hi : Int)))) 2) = (((lo + hi) / 2 : Nat) : Int) := by
  rw [wrap_i64 (n := (lo : Int) + (hi : Int)) (by omega), wrap_u64', Int.fdiv_eq_ediv_of_nonneg _ (by decide), wrap_i64 (by omega)]
  omega

theorem bins_s {n : Nat} (h : Sep H L) (rt : RdN L ta ps) (hn : n = ps.length) (hl : ps.length < 1000000) (hm : ∀ (i j : Nat) (u v : Int), ps[i]? = some u → ps[j]? = some v → i < j → u < v)
    (hY : ∀ k : Nat, ps[k]? = some w → R (.tuple #[I k, .bool true]) H) (hN : w ∉ ps → ∀ k : Int, R (.tuple #[I k, .bool false]) H) :
    CA en F.slices_BinarySearch_int_int [.slice ta n 0, I w] H R := by
  subst hn
  apply vc_slices_BinarySearch_int_int
  refine use_slices_BinarySearch_int_int_0 (fun k t7 t8 H' => ∃ lo hi : Nat, lo ≤ hi ∧ hi ≤ ps.length ∧ k = hi - lo ∧ t7 = (lo : Int) ∧ t8 = (hi : Int) ∧ H' = H ∧ (∀ (i : Nat) (u : Int), ps[i]? = some u → i < lo → u < w) ∧ (∀ (i : Nat) (u : Int), ps[i]? = some u → hi ≤ i → w ≤ u)) ps.length
    ⟨0, ps.length, by omega, by omega, rfl, rfl, rfl, rfl, fun i u _ h => absurd h (by omega), fun i u hu h => by have := (List.getElem?_eq_some_iff.1 hu).1; omega⟩ ?_
  rintro k t7 t8 ys H' ⟨lo, hi, hlh, hhi, rfl, rfl, rfl, rfl, h1, h2⟩
  refine cond_of (fun c => ?_) fun c => ?_
  · have c : lo < hi := by simp only [decide_eq_true_eq] at c; omega
    rw [mid_eq (by omega)]
    obtain ⟨u, hu⟩ : ∃ u, ps[(lo + hi) / 2]? = some u := ⟨_, List.getElem?_eq_getElem (by omega)⟩
    obtain ⟨b, rfl, hc⟩ := rt _ h _ u hu
    refine ⟨by unfold nn; decide, by unfold inB; omega, asRow_in ⟨u, hc, less_s ⟨_, rfl, cond_of (fun d => ?_) fun d => ?_⟩⟩⟩
    · have d : u < w := by simpa using d
      refine ⟨hi - ((lo + hi) / 2 + 1), by omega, (lo + hi) / 2 + 1, hi, by omega, hhi, rfl, ?_, rfl, rfl, fun i u' hu' hi' => ?_, h2⟩
      · rw [wrap_i64 (by omega)]; omega
      · rcases Nat.lt_or_ge i ((lo + hi) / 2) with h3 | h3
        · have := hm i _ u' u hu' hu h3; omega
        · have : i = (lo + hi) / 2 := by omega
          subst this
          rw [hu] at hu'; cases hu'; exact d
    · have d : ¬ u < w := by simpa using d
      refine ⟨(lo + hi) / 2 - lo, by omega, lo, (lo + hi) / 2, by omega, by omega, rfl, rfl, rfl, rfl, h1, fun i u' hu' hi' => ?_⟩
      rcases Nat.lt_or_ge ((lo + hi) / 2) i with h3 | h3
      · have := hm _ i u u' hu hu' h3; omega
      · have : i = (lo + hi) / 2 := by omega
        subst this
        rw [hu] at hu'; cases hu'; omega
  · have c : lo = hi := by simp only [decide_eq_false_iff_not] at c; omega
    subst c
    refine asInt_in (cond_of (fun d => ?_) fun d => ?_)
    · have d : lo < ps.length := by simp only [decide_eq_true_eq] at d; omega
      obtain ⟨u, hu⟩ : ∃ u, ps[lo]? = some u := ⟨_, List.getElem?_eq_getElem d⟩
      obtain ⟨b, rfl, hc⟩ := rt _ h _ u hu
      have inl : inB (lo : Int) ps.length := by unfold inB; omega
      refine ⟨inl, asRow_in ⟨u, hc, cond_of (fun e => ?_) fun e => ⟨inl, asRow_in ⟨u, hc, ?_⟩⟩⟩⟩
      · have e : u = w := by simpa using e
        subst e
        exact hY lo hu
      · have e : ¬ u = w := by simpa using e
        apply vc_slices_isNaN_int
        refine ⟨_, rfl, cond_no (by simp) (hN (fun hw => ?_) _)⟩
        obtain ⟨k, hk, hk'⟩ := List.getElem_of_mem hw
        have hk2 : ps[k]? = some w := by rw [List.getElem?_eq_getElem hk, hk']
        rcases Nat.lt_trichotomy k lo with h3 | h3 | h3
        · have := h1 k w hk2 h3; omega
        · subst h3; rw [hu] at hk2; cases hk2; exact e rfl
        · have := hm lo k u w hu hk2 h3
          have := h2 lo u hu (by omega)
          omega
    · have d : ps.length ≤ lo := by simp only [decide_eq_false_iff_not] at d; omega
      refine hN (fun hw => ?_) _
      obtain ⟨k, hk, hk'⟩ := List.getElem_of_mem hw
      have hk2 : ps[k]? = some w := by rw [List.getElem?_eq_getElem hk, hk']
      have := h1 k w hk2 (by omega); omega

theorem plE_mono (i j : Nat) (u v : Int) (hu : (plE l)[i]? = some u) (hv : (plE l)[j]? = some v) (hij : i < j) : u < v := by
  have hi := (List.getElem?_eq_some_iff.1 hu).1
  have hj := (List.getElem?_eq_some_iff.1 hv).1
  rw [plE_len] at hi hj
  rw [plE_get hi] at hu
  rw [plE_get hj] at hv
  cases hu; cases hv
  have := pl_lt hij (by omega : j ≤ l.length); omega

theorem tgs_take {n : Nat} (hj : n < l.length) : (tgs l).take (n + 1) = (tgs l).take n ++ [tgA l n] := take_snoc' (tgs_get hj)

theorem targets_s (h : Sep H L) (rl : Rds L a l) {n : Nat} (hn : n = l.length) (hl : l.length < 1000000) (hok : ∀ x ∈ l, OkI x)
    (hE : (-2 : Int) ∈ tgs l → ∀ H', Sep H' L → R (.tuple #[.slice none 0 0, I 11]) H')
    (hR : (-2 : Int) ∉ tgs l → ∀ H' q, (q = none → tgs l = []) → Sep H' (gl 1 q (ints (tgs l)) :: L) → R (.tuple #[.slice (addr q) l.length 0, I 0]) H') :
    CA en F.flow_targets [.slice a n 0] H R := by
  subst hn
  apply vc_flow_targets
  refine Places_s h rl rfl hl fun H2 qp hqp h2 => ⟨_, _, rfl, ?_⟩
  refine use_flow_targets_0 (fun k t2 t2l t3 t4 t4l t15 H => ∃ (j : Nat) (q : Option Nat), j ≤ l.length ∧ k = l.length - j ∧ t15 = (j : Int) ∧ t2 = none ∧ t2l = 0 ∧ t3 = 0 ∧ t4 = addr q ∧ t4l = j ∧ (q = none → j = 0) ∧ (-2 : Int) ∉ (tgs l).take j ∧ Sep H (gl 1 q (ints ((tgs l).take j)) :: gl 1 qp (ints (plE l)) :: L)) l.length ⟨0, none, by omega, rfl, rfl, rfl, rfl, rfl, rfl, rfl, fun _ => rfl, by simp, gl_none.2 h2⟩ ?_
  clear h h2
  rintro k t2 t2l t3 t4 t4l t15 ys H3 ⟨j, q, hj, rfl, rfl, rfl, rfl, rfl, rfl, rfl, hq, hno, hs⟩
  refine cond_of (fun h1 => ?_) fun h1 => ?_
  · simp only [decide_eq_true_eq] at h1
    have hj' : t4l < l.length := by omega
    obtain ⟨x, hx⟩ : ∃ x, l[t4l]? = some x := ⟨_, List.getElem?_eq_getElem hj'⟩
    obtain ⟨i, rfl, hc⟩ := rl _ hs.tail.tail t4l x hx
    have hw1 : IntKind.i64.wrap ((t4l : Int) + 1) = ((t4l + 1 : Nat) : Int) := by rw [wrap_i64 (by omega)]; omega
    have hle := pl_le l t4l
    have ho := hok x (List.mem_of_getElem? hx)
    have hlen : (ints ((tgs l).take t4l)).length = t4l := by rw [List.length_map, List.length_take, tgs_len]; omega
    -- the next round
    have next : ∀ (q' : Nat) (H' : Heap), tgA l t4l ≠ -2 → Sep H' (gl 1 (some q') (ints ((tgs l).take t4l) ++ [I (tgA l t4l)]) :: gl 1 qp (ints (plE l)) :: L) → ∃ k, k < l.length - t4l ∧ ∃ (j : Nat) (q : Option Nat), j ≤ l.length ∧ k = l.length - j ∧ IntKind.i64.wrap ((t4l : Int) + 1) = (j : Int) ∧ (none : Option Addr) = none ∧ 0 = 0 ∧ (0 : Int) = 0 ∧ addr (some q') = addr q ∧ t4l + 1 = j ∧ (q = none → j = 0) ∧ (-2 : Int) ∉ (tgs l).take j ∧ Sep H' (gl 1 q (ints ((tgs l).take j)) :: gl 1 qp (ints (plE l)) :: L) := by
      intro q' H' hne h'
      refine ⟨l.length - (t4l + 1), by omega, t4l + 1, some q', by omega, rfl, hw1, rfl, rfl, rfl, rfl, rfl, (fun h => by cases h), ?_, ?_⟩
      · rw [tgs_take hj']
        simp only [List.mem_append, List.mem_singleton, not_or]
        exact ⟨hno, fun e => hne e.symm⟩
      · rw [tgs_take hj', ints_append]; exact h'
    refine ⟨by unfold inB; omega, asRow_in ⟨_, _, _, _, _, hc, Sep.nw hs fun i8 H9 h9 => Sep.st0 h9 (Nat.le_of_ble_eq_true rfl) fun H10 h10 => ⟨_, _, _, _, _, Sep.lds0 h10 rfl, ?_⟩⟩⟩
    refine Jumps_s (x := x) h10 ho fun H17 h17 => ⟨_, rfl, cond_of (fun hjm => ?_) fun hjm => ?_⟩
    · have h17b := h17.bump 15
      have hp : RdN (gl 1 qp (ints (plE l)) :: L) (addr qp) (plE l) := rdn_gl (by simp) hqp
      obtain ⟨bp, hbp, hcp⟩ := hp _ h17b.tail.tail t4l _ (plE_get hj')
      refine ⟨by unfold inB; omega, ?_⟩
      rw [hbp]
      refine asRow_in ⟨(pl l t4l : Int), hcp, x.off, Sep.ld0 h17b rfl, ?_⟩
      rw [wrap_i64 (n := (pl l t4l : Int) + 1) (by omega), wrap_i64 (by have := ho.2.2; omega), ← hbp]
      refine bins_s (ps := plE l) h17b (fun H' hs' => hp H' hs'.tail.tail) (plE_len l).symm (by rw [plE_len]; exact hl) plE_mono (fun k hk => ⟨_, _, rfl, ⟨cond_no rfl ?_, trivial⟩⟩) fun hno' k => ⟨_, _, rfl, ⟨cond_yes rfl ?_, trivial⟩⟩
      · have hkl := (List.getElem?_eq_some_iff.1 hk).1
        rw [plE_len] at hkl
        rw [plE_get hkl] at hk
        have htg := tgA_some hx hjm (fnd_of hkl (Option.some.inj hk))
        refine Sep.nw h17b fun i27 H28 h28 => ⟨[I k], rowOf_bx (es := 1) (n := 1) (b := i27) (Sep.get0 h28) (by decide) rfl, ?_⟩
        refine apd_gl (b := q) (len := t4l) (n := 1) (cs := ints ((tgs l).take t4l)) (new := [I k]) (Sep.up2 h28) (fun h => by rw [hq h]; rfl) (by decide) (by rw [hlen, Nat.mul_one]) (by decide) rfl (by omega) fun H' q' h' => next q' H' (by rw [htg]; omega) ?_
        rw [htg]
        exact Sep.rm1 (Sep.rm1 h')
      · have hf : fnd l (pl l t4l + 1 + x.off) = none := by
          cases hf : fnd l (pl l t4l + 1 + x.off) with
          | none => rfl
          | some k =>
            obtain ⟨e1, e2⟩ := fnd_some hf
            exact absurd (by rw [← e2]; exact List.mem_of_getElem? (plE_get e1)) hno'
        have htg := tgA_none hx hjm hf
        refine asSl_in (asInt_in (asSl_in (hE ?_ _ h17b.tail.tail.tail)))
        have := List.mem_of_getElem? (tgs_get hj')
        rw [htg] at this
        exact this
    · have htg : tgA l t4l = -1 := tgA_no hx (by rw [hjm]; decide)
      refine Sep.nw h17 fun i27 H28 h28 => ⟨[I (-1)], rowOf_bx (es := 1) (n := 1) (b := i27) (Sep.get0 h28) (by decide) rfl, ?_⟩
      refine apd_gl (b := q) (len := t4l) (n := 1) (cs := ints ((tgs l).take t4l)) (new := [I (-1)]) (Sep.up2 h28) (fun h => by rw [hq h]; rfl) (by decide) (by rw [hlen, Nat.mul_one]) (by decide) rfl (by omega) fun H' q' h' => next q' H' (by rw [htg]; omega) ?_
      rw [htg]
      exact Sep.rm1 (Sep.rm1 h')
  · simp only [decide_eq_false_iff_not] at h1
    obtain rfl : t4l = l.length := by omega
    rw [← tgs_len l, List.take_length] at hs hno
    exact asSl_in (asInt_in (asSl_in (hR hno H3 q (fun h => List.eq_nil_of_length_eq_zero (by rw [tgs_len]; exact hq h)) (Sep.rm1 hs))))

/-! ### What is reached -/
abbrev bools (s : List Bool) : List Value := s.map fun b => .bool b
theorem set_one (c : List Value) (o : Nat) (v : Value) : setAt c o [v] = c.set o v := by simp [setAt]

theorem setAt_take : ∀ (new tc : List Value) (len : Nat), len + new.length ≤ tc.length → (setAt tc len new).take (len + new.length) = tc.take len ++ new
  | [], tc, len, _ => by simp [setAt]
  | y :: new, tc, len, h => by
    simp only [List.length_cons] at h
    have := setAt_take new (tc.set len y) (len + 1) (by simp; omega)
    simp only [setAt, List.length_cons]
    rw [show len + (new.length + 1) = len + 1 + new.length by omega, this, List.take_add_one, List.getElem?_set_self (by omega), List.take_set_of_le (by omega)]
    simp

/-- An append to a slice that ends ahead of its block's end, or at it. -/
theorem apd_pre {b len n bytes : Nat} {tc new : List Value} {K : Option Addr → Nat → Heap → Prop} (h : Sep H (bx b (.cells true 1 tc) :: L)) (hlen : len ≤ tc.length) (hnew : new.length = n) (hby : (len + n) * bytes ≤ 140737488355328)
    (k : ∀ H' b' tc', tc'.take (len + n) = tc.take len ++ new → len + n ≤ tc'.length → Sep H' (bx b' (.cells true 1 tc') :: L) → K (some ⟨b', 0, none⟩) (len + n) H') : apd H bytes 1 (some ⟨b, 0, none⟩) len n new K := by
  rcases Nat.eq_zero_or_pos n with rfl | hn
  · have e : new = [] := List.eq_nil_of_length_eq_zero hnew
    subst e
    exact .inl ⟨rfl, k H b tc (by simp) (by omega) h⟩
  · rcases Nat.lt_or_ge tc.length (0 + (len + n) * 1) with hc | hc
    · refine apd_grow (old := tc.take len) (Sep.get0 h) hn hc ?_ hby fun j H' ej eH => k H' j (tc.take len ++ new) ?_ ?_ ?_
      · unfold takeAt; rw [if_pos (by omega), Nat.mul_one, List.drop_zero]
      · rw [List.take_of_length_le (by rw [List.length_append, List.length_take, hnew]; omega)]
      · rw [List.length_append, List.length_take, hnew]; omega
      · have h2 := (Sep.put0 h .dead).new (.cells true 1 (tc.take len ++ new))
        rw [← eH, next_set, ← ej] at h2
        exact Sep.rm1 h2
    · refine .inr ⟨hn, .inr ⟨b, 0, tc, rfl, Sep.get0 h, .inl ⟨hc, ?_⟩⟩⟩
      have hst : stc H b (0 + len * 1) new (fun H' => K (some ⟨b, 0, none⟩) (len + n) H') := by
        refine Sep.st0 h (by rw [hnew]; omega) fun H' h' => k H' b _ ?_ ?_ h'
        · subst hnew
          rw [Nat.zero_add, Nat.mul_one]
          exact setAt_take _ _ _ (by omega)
        · rw [setAt_length]; omega
      exact stc_ok hst
end Go.Proofs.Ytmgkngdbphkmmaa

/-
  Where instructions go on: what is reached; Targets.
-/
namespace Go.Proofs.Ytmgkngdbphkmmaa
open Go Go.AS Go.RowKit
set_option linter.unusedVariables false
variable {H H' : Heap} {R : Value → Heap → Prop} {L M : List Asr} {a ta : Option Addr} {l : List Ins} {t ps : List Int} {x : Ins} {v w : Int} {i j : Nat}

abbrev nats (s : List Nat) : List Value := ints (s.map fun n : Nat => (n : Int))
theorem bools_set (s : List Bool) (i : Nat) (b : Bool) : (bools s).set i (.bool b) = bools (s.set i b) := List.map_set.symm
theorem nats_append (s t : List Nat) : nats (s ++ t) = nats s ++ nats t := by simp
theorem nx_nats (hx : l[i]? = some x) : ints (nx x (tgA l i) i) = nats (nxN l i) ∧ (nx x (tgA l i) i).length = (nxN l i).length := by
  have hn : nxN l i = (nx x (tgA l i) i).map Int.toNat := by unfold nxN; rw [hx]
  refine ⟨?_, by rw [hn, List.length_map]⟩
  rw [hn]
  simp only [ints, nats, List.map_map]
  refine List.map_congr_left fun c hc => ?_
  have := (nx_mem hc).1
  simp only [Function.comp_apply]
  rw [Int.toNat_of_nonneg this]
theorem nxN_len (l : List Ins) (i : Nat) : (nxN l i).length ≤ 2 := by
  unfold nxN
  split
  · simp
  · rw [List.length_map]; exact gat_len _ _

theorem visit_s {n m c0 c1 c2 c3 bs bt : Nat} {seen : List Bool} {todo : List Nat} {tc : List Value} {b : Bool}
    (h : Sep H (bx c0 (.cells true 0 [.slice (some ⟨bs, 0, none⟩) seen.length 0]) :: bx c1 (.cells true 0 [.slice (some ⟨bt, 0, none⟩) todo.length 0]) :: bx c2 (.cells true 0 [.slice a n 0]) :: bx c3 (.cells true 0 [.slice ta m 0]) :: bx bs (.cells true 1 (bools seen)) :: bx bt (.cells true 1 tc) :: L))
    (rl : Rds L a l) (rt : RdN L ta (tgs l)) (hn : n = l.length) (hm : m = l.length) (hx : l[i]? = some x) (hi : i < 1000000) (hs : seen[i]? = some b) (htl : todo.length ≤ tc.length) (ht : tc.take todo.length = nats todo) (hsm : todo.length < 1000000)
    (hO : b = true → ∀ H', Sep H' (bx c0 (.cells true 0 [.slice (some ⟨bs, 0, none⟩) seen.length 0]) :: bx c1 (.cells true 0 [.slice (some ⟨bt, 0, none⟩) todo.length 0]) :: bx c2 (.cells true 0 [.slice a n 0]) :: bx c3 (.cells true 0 [.slice ta m 0]) :: bx bs (.cells true 1 (bools seen)) :: bx bt (.cells true 1 tc) :: L) → R undef H')
    (hN : b = false → ∀ H' bt' tc', (todo ++ nxN l i).length ≤ tc'.length → tc'.take (todo ++ nxN l i).length = nats (todo ++ nxN l i) → Sep H' (bx c0 (.cells true 0 [.slice (some ⟨bs, 0, none⟩) (seen.set i true).length 0]) :: bx c1 (.cells true 0 [.slice (some ⟨bt', 0, none⟩) (todo ++ nxN l i).length 0]) :: bx c2 (.cells true 0 [.slice a n 0]) :: bx c3 (.cells true 0 [.slice ta m 0]) :: bx bs (.cells true 1 (bools (seen.set i true))) :: bx bt' (.cells true 1 tc') :: L) → R undef H') :
    CA en F.flow_reached_1 [I i, .pointer (some ⟨c0, 0, none⟩), .pointer (some ⟨c1, 0, none⟩), .pointer (some ⟨c2, 0, none⟩), .pointer (some ⟨c3, 0, none⟩)] H R := by
  subst hn hm
  have hlt : i < seen.length := (List.getElem?_eq_some_iff.1 hs).1
  have inl : inB (i : Int) seen.length := by unfold inB; omega
  apply vc_flow_reached_1
  refine asAddr_in ⟨_, _, Sep.ld0 h rfl, inl, asRow_in ⟨b, Sep.ld4 h (by rw [Nat.zero_add, Int.toNat_natCast, Nat.mul_one, List.getElem?_map, hs]; rfl), cond_of (fun c => ?_) fun c => ?_⟩⟩
  · have c : b = false := by simpa using c
    refine asAddr_in ⟨_, _, Sep.ld0 h rfl, inl, asRow_in (Sep.st4 h (by simp; omega) fun H14 h14 => ?_)⟩
    have e : setAt (bools seen) (0 + (i : Int).toNat * 1) [.bool true] = bools (seen.set i true) := by
      rw [set_one, Nat.zero_add, Int.toNat_natCast, Nat.mul_one, bools_set]
    rw [e] at h14
    have hb := h14.bump 7
    refine asAddr_in ⟨_, _, Sep.ld1 hb rfl, asAddr_in ⟨_, _, Sep.ld2 hb rfl, asAddr_in ⟨_, _, Sep.ld3 hb rfl, ?_⟩⟩⟩
    have hil : i < l.length := (List.getElem?_eq_some_iff.1 hx).1
    refine Next_s (l := l) (t := tgs l) (v := tgA l i) hb (fun H' hs => rl H' hs.tail.tail.tail.tail.tail.tail) (fun H' hs => rt H' hs.tail.tail.tail.tail.tail.tail) rfl (tgs_len l).symm hx (tgs_get hil) hi fun H28 q hq h28 => ⟨_, _, rfl, ints (nx x (tgA l i) i), ?_, ?_⟩
    · exact rowOf_gl (es := 1) h28 (by simp) (fun e => by rw [hq e]; rfl) (by rw [List.length_map, Nat.mul_one]) (by decide)
    · obtain ⟨en1, en2⟩ := nx_nats hx
      have hl2 := nxN_len l i
      rw [en1, en2]
      refine apd_pre (b := bt) (len := todo.length) (n := (nxN l i).length) (tc := tc) (Sep.up6 h28) htl (by simp) (by omega) fun H34 b' tc' e1 e2 h34 => ?_
      rw [ht, ← nats_append] at e1
      have h34 : Sep H34 (bx b' (.cells true 1 tc') :: gl 1 q (ints (nx x (tgA l i) i)) :: bx c0 (.cells true 0 [.slice (some ⟨bs, 0, none⟩) seen.length 0]) :: bx c1 (.cells true 0 [.slice (some ⟨bt, 0, none⟩) todo.length 0]) :: bx c2 (.cells true 0 [.slice a l.length 0]) :: bx c3 (.cells true 0 [.slice ta l.length 0]) :: bx bs (.cells true 1 (bools (seen.set i true))) :: L) := h34
      refine asAddr_in (Sep.st3 h34 (Nat.le_of_ble_eq_true rfl) fun H37 h37 => ⟨hN c H37 b' tc' (by rw [List.length_append]; exact e2) (by rw [List.length_append]; exact e1) ?_, ⟨asAddr_in ⟨_, _, Sep.ld1 hb rfl, rfl, rfl, rfl⟩, asAddr_in ⟨_, _, Sep.ld2 h28 rfl, rfl, rfl, rfl⟩, trivial⟩, trivial⟩)
      have h37 : Sep H37 (bx b' (.cells true 1 tc') :: gl 1 q (ints (nx x (tgA l i) i)) :: bx c0 (.cells true 0 [.slice (some ⟨bs, 0, none⟩) seen.length 0]) :: bx c1 (.cells true 0 [.slice (some ⟨b', 0, none⟩) (todo.length + (nxN l i).length) 0]) :: bx c2 (.cells true 0 [.slice a l.length 0]) :: bx c3 (.cells true 0 [.slice ta l.length 0]) :: bx bs (.cells true 1 (bools (seen.set i true))) :: L) := h37
      rw [List.length_set, List.length_append]
      have h38 := Sep.rm1 h37
      exact Sep.up5 (Sep.up5 (Sep.up5 (Sep.up5 (Sep.up5 h38))))
  · have c : b = true := by simpa using c
    exact hO c H h

theorem containsB_s {i n : Nat} {w : Bool} {z : Nat} {xs : List Bool} {v : Bool} (hn : n = xs.length) (hl : xs.length < 4611686018427387904) (h : H.get i = some (.cells w z (bools xs))) (hR : R (.bool (decide (v ∈ xs))) H) :
    CA en F.slices_Contains_bool_bool [.slice (some ⟨i, 0, none⟩) n 0, .bool v] H R := by
  subst hn
  apply vc_slices_Contains_bool_bool
  apply vc_slices_Index_bool_bool
  refine use_slices_Index_bool_bool_0 (fun k t4 t8 H' => ∃ j : Nat, j ≤ xs.length ∧ k = xs.length - j ∧ t8 = (j : Int) ∧ H' = H ∧ v ∉ xs.take j) xs.length ⟨0, by omega, rfl, rfl, rfl, by simp⟩ ?_
  rintro k t4 t8 ys H' ⟨j, hj, rfl, rfl, rfl, hn⟩
  refine cond_of (fun h1 => ?_) fun h1 => ?_
  · simp only [decide_eq_true_eq] at h1
    have hj' : j < xs.length := by omega
    refine ⟨by unfold inB; omega, asRow_in ⟨xs[j], by rw [cell_of h]; simp [List.getElem?_eq_getElem hj'], cond_of (fun e => ?_) fun e => ?_⟩⟩
    · have e : v = xs[j] := by simpa using e
      refine asInt_in ⟨_, rfl, ?_⟩
      have : decide (v ∈ xs) = true := decide_eq_true (by rw [e]; exact List.getElem_mem _)
      rw [this] at hR
      have e2 : decide (((j : Nat) : Int) ≥ 0) = true := by simp
      rw [e2]
      exact hR
    · have e : ¬ v = xs[j] := by simpa using e
      refine ⟨xs.length - (j + 1), by omega, j + 1, by omega, rfl, ?_, rfl, ?_⟩
      · rw [wrap_i64 (by omega)]; omega
      · rw [List.take_add_one, List.getElem?_eq_getElem hj']
        simp only [Option.toList_some, List.mem_append, List.mem_singleton, not_or]
        exact ⟨hn, e⟩
  · simp only [decide_eq_false_iff_not] at h1
    obtain rfl : j = xs.length := by omega
    rw [List.take_length] at hn
    refine asInt_in ⟨_, rfl, ?_⟩
    rw [decide_eq_false hn] at hR
    exact hR

theorem snoc_cases {α : Type} (s : List α) : s = [] ∨ ∃ s' b, s = s' ++ [b] := by
  rcases s.eq_nil_or_concat with h | ⟨s', b, h⟩
  · exact .inl h
  · exact .inr ⟨s', b, by rw [h, List.concat_eq_append]⟩

theorem reps_bools (n : Nat) : reps n [.bool false] = bools (List.replicate n false) := by
  have e : bools (List.replicate n false) = List.replicate n (.bool false) := List.map_replicate
  rw [e]
  induction n with
  | zero => rfl
  | succ n ih => simp [reps, List.replicate_succ, ih]

theorem reached_s {n m : Nat} (h : Sep H L) (rl : Rds L a l) (rt : RdN L ta (tgs l)) (hn : n = l.length) (hm : m = l.length) (h0 : 0 < l.length) (hl : l.length ≤ 10000) (hlast : lastOk l)
    (hR : ∀ H' b, (b = true ↔ allR l) → Sep H' L → R (.bool b) H') : CA en F.flow_reached [.slice a n 0, .slice ta m 0] H R := by
  subst hn hm
  apply vc_flow_reached
  refine Sep.nw h fun c2 H2 h2 => Sep.nw h2 fun c3 H4 h4 => ⟨_, _, Sep.ld1 h4 rfl, by unfold okLen; omega, Sep.nw h4 fun bs H8 h8 => Sep.nw h8 fun c0 H10 h10 => Sep.st0 h10 (Nat.le_of_ble_eq_true rfl) fun H11 h11 => Sep.nw h11 fun bt H13 h13 => Sep.nw h13 fun c1 H15 h15 => Sep.st0 h15 (Nat.le_of_ble_eq_true rfl) fun H16 h16 => ?_⟩
  rw [Int.toNat_natCast, reps_bools] at h16
  have h16 : Sep H16 (bx c1 (.cells true 0 [.slice (some ⟨bt, 0, none⟩) 1 0]) :: bx bt (.cells true 1 [I 0]) :: bx c0 (.cells true 0 [.slice (some ⟨bs, 0, none⟩) l.length 0]) :: bx bs (.cells true 1 (bools (List.replicate l.length false))) :: bx c3 (.cells true 0 [.slice ta l.length 0]) :: bx c2 (.cells true 0 [.slice a l.length 0]) :: L) := h16
  -- c0 c1 c2 c3 bs bt
  have h16' : Sep H16 (bx c0 (.cells true 0 [.slice (some ⟨bs, 0, none⟩) (List.replicate l.length false).length 0]) :: bx c1 (.cells true 0 [.slice (some ⟨bt, 0, none⟩) ([0] : List Nat).length 0]) :: bx c2 (.cells true 0 [.slice a l.length 0]) :: bx c3 (.cells true 0 [.slice ta l.length 0]) :: bx bs (.cells true 1 (bools (List.replicate l.length false))) :: bx bt (.cells true 1 [I 0]) :: L) := by
    rw [List.length_replicate]
    exact Sep.up5 (Sep.up4 (Sep.up5 (Sep.up4 (Sep.up3 (Sep.up1 h16)))))
  clear h h2 h4 h8 h10 h11 h13 h15 h16
  refine use_flow_reached_0 (fun k H => ∃ (seen : List Bool) (todo : List Nat) (bt : Nat) (tc : List Value), k = 3 * unseen seen + todo.length ∧ k ≤ 3 * l.length + 1 ∧ Dfs l seen todo ∧ todo.length ≤ tc.length ∧ tc.take todo.length = nats todo ∧
    Sep H (bx c0 (.cells true 0 [.slice (some ⟨bs, 0, none⟩) seen.length 0]) :: bx c1 (.cells true 0 [.slice (some ⟨bt, 0, none⟩) todo.length 0]) :: bx c2 (.cells true 0 [.slice a l.length 0]) :: bx c3 (.cells true 0 [.slice ta l.length 0]) :: bx bs (.cells true 1 (bools seen)) :: bx bt (.cells true 1 tc) :: L)) (3 * l.length + 1)
    ⟨List.replicate l.length false, [0], bt, [I 0], by simp [unseen], by omega, Dfs.init h0, by simp, rfl, h16'⟩ ?_
  clear h16'
  rintro k ys H3 ⟨seen, todo, bt, tc, rfl, hk, hd, htl, ht, hs⟩
  refine ⟨_, _, Sep.ld1 hs rfl, cond_of (fun c => ?_) fun c => ?_⟩
  · have c : 0 < todo.length := by simp only [decide_eq_true_eq] at c; omega
    rcases snoc_cases todo with rfl | ⟨todo, i, rfl⟩
    · simp at c
    simp only [List.length_append, List.length_cons, List.length_nil] at hs htl ht hk ⊢
    have hi := hd.tr i (by simp)
    obtain ⟨x, hx⟩ : ∃ x, l[i]? = some x := ⟨_, List.getElem?_eq_getElem hi.2⟩
    obtain ⟨b, hb⟩ : ∃ b, seen[i]? = some b := ⟨_, List.getElem?_eq_getElem (by rw [hd.len]; exact hi.2)⟩
    have hw : IntKind.i64.wrap (((todo.length + (0 + 1) : Nat) : Int) - 1) = (todo.length : Int) := by rw [wrap_i64 (by omega)]; omega
    have htc : tc[todo.length]? = some (I i) := by
      have : (tc.take (todo.length + (0 + 1)))[todo.length]? = some (I i) := by rw [ht, nats_append]; simp
      rw [List.getElem?_take, if_pos (by omega)] at this
      exact this
    have ht2 : tc.take todo.length = nats todo := by
      have := congrArg (List.take todo.length) ht
      rw [List.take_take, Nat.min_eq_left (by omega), nats_append, List.take_left' (by simp)] at this
      exact this
    refine ⟨_, _, Sep.ld1 hs rfl, _, _, Sep.ld1 hs rfl, by rw [hw]; unfold inB; omega, asRow_in ⟨(i : Int), by rw [hw, Int.toNat_natCast]; exact Sep.ld5 hs (by rw [Nat.zero_add, Nat.mul_one]; exact htc), _, _, Sep.ld1 hs rfl, _, _, Sep.ld1 hs rfl, by rw [hw]; unfold inS; omega, ?_⟩⟩
    rw [hw, Int.toNat_natCast]
    refine ⟨⟨_, _, _, Sep.get5 hs, .inr rfl⟩, Sep.st1 hs (Nat.le_of_ble_eq_true rfl) fun H15 h15 => ⟨⟨_, rfl⟩, ?_⟩⟩
    have h15 : Sep H15 (bx c0 (.cells true 0 [.slice (some ⟨bs, 0, none⟩) seen.length 0]) :: bx c1 (.cells true 0 [.slice (some ⟨bt, 0, none⟩) todo.length 0]) :: bx c2 (.cells true 0 [.slice a l.length 0]) :: bx c3 (.cells true 0 [.slice ta l.length 0]) :: bx bs (.cells true 1 (bools seen)) :: bx bt (.cells true 1 tc) :: L) := h15
    refine visit_s h15 rl rt rfl rfl hx (by omega) hb (by omega) ht2 (by omega) (fun hb' H17 h17 => ⟨rfl, ?_⟩) fun hb' H17 bt' tc' e1 e2 h17 => ⟨rfl, ?_⟩
    · subst hb'
      exact ⟨3 * unseen seen + todo.length, by omega, seen, todo, bt, tc, rfl, by omega, hd.old hb, by omega, ht2, h17⟩
    · subst hb'
      have hu := unseen_set hb
      have h2 := nxN_len l i
      refine ⟨3 * unseen (seen.set i true) + (todo ++ nxN l i).length, by rw [List.length_append]; omega, seen.set i true, todo ++ nxN l i, bt', tc', rfl, by rw [List.length_append]; omega, hd.new hlast, e1, e2, h17⟩
  · have c : todo.length = 0 := by simp only [decide_eq_false_iff_not] at c; omega
    have e : todo = [] := List.eq_nil_of_length_eq_zero c
    subst e
    refine ⟨_, _, Sep.ld0 hs rfl, containsB_s (xs := seen) (w := true) (z := 1) rfl (by rw [hd.len]; omega) (Sep.get4 hs) ⟨_, rfl, hR _ _ ?_ hs.tail.tail.tail.tail.tail.tail⟩⟩
    have := hd.all
    rw [← this]
    simp

theorem Targets_s {n : Nat} (h : Sep H L) (rl : Rds L a l) (hn : n = l.length) (hl : l.length < 1000000) (hok : ∀ x ∈ l, OkI x)
    (hE : fe l ≠ 0 → ∀ H', Sep H' L → R (.tuple #[.slice none 0 0, I (fe l)]) H')
    (hR : fe l = 0 → ∀ H' q, (q = none → tgs l = []) → Sep H' (gl 1 q (ints (tgs l)) :: L) → R (.tuple #[.slice (addr q) l.length 0, I 0]) H') :
    CA en F.flow_Targets [.slice a n 0] H R := by
  subst hn
  apply vc_flow_Targets
  refine cond_of (fun c => ?_) fun c => cond_of (fun d => ?_) fun d => ?_
  · have c : l.length > 256 := by simp only [decide_eq_true_eq] at c; omega
    have e : fe l = 19 := if_pos c
    have := hE (by rw [e]; decide) H h
    rw [e] at this
    exact this
  · have c : ¬ l.length > 256 := by simp only [decide_eq_false_iff_not] at c; omega
    have d : l.length = 0 := by have : ((l.length : Nat) : Int) = 0 := by simpa using d
                                omega
    have e : fe l = 12 := by unfold fe; rw [if_neg c, if_pos d]
    have := hE (by rw [e]; decide) H h
    rw [e] at this
    exact this
  · have c : ¬ l.length > 256 := by simp only [decide_eq_false_iff_not] at c; omega
    have d : ¬ l.length = 0 := by intro e; rw [e] at d; simp at d
    refine targets_s h rl rfl hl hok (fun hj H2 h2 => ⟨_, _, _, rfl, cond_yes rfl ?_⟩) fun hj H2 q hq h2 => ⟨_, _, _, rfl, cond_no rfl ?_⟩
    · have e : fe l = 11 := by unfold fe; rw [if_neg c, if_neg d, if_pos hj]
      have := hE (by rw [e]; decide) H2 h2
      rw [e] at this
      exact this
    · obtain ⟨x, hx⟩ : ∃ x, l[l.length - 1]? = some x := ⟨_, List.getElem?_eq_getElem (by omega)⟩
      have hw : IntKind.i64.wrap (((l.length : Nat) : Int) - 1) = ((l.length - 1 : Nat) : Int) := by rw [wrap_i64 (by omega)]; omega
      rw [hw]
      refine Next_s (l := l) (t := tgs l) (v := tgA l (l.length - 1)) h2 (fun H' hs => rl H' hs.tail) (rdn_gl (by simp) hq) rfl (tgs_len l).symm hx (tgs_get (by omega)) (by omega) fun H7 q7 hq7 h7 => ⟨_, _, rfl, ?_⟩
      have hlast : ((l.length : Int) ∈ nx x (tgA l (l.length - 1)) (l.length - 1)) ↔ ¬ lastOk l := by
        unfold nx
        rw [gat_mem]
        have := tgA_lt l (l.length - 1)
        unfold lastOk beh
        constructor
        · intro h1 h2
          have := h2 x hx
          rw [if_pos this] at h1
          omega
        · intro h1
          refine ⟨by omega, .inl ?_⟩
          rw [if_neg (fun h2 => h1 fun y hy => by rw [hx] at hy; cases hy; exact h2)]
          omega
      refine containsN_s h7 (rdn_gl (by simp) hq7) rfl (by have := gat_len (beh x (l.length - 1)) (tgA l (l.length - 1)); unfold nx; omega) ⟨_, rfl, cond_of (fun e => ?_) fun e => ?_⟩
      · have e' : ¬ lastOk l := hlast.1 (by simpa using e)
        have e2 : fe l = 12 := by unfold fe; rw [if_neg c, if_neg d, if_neg hj, if_pos e']
        have := hE (by rw [e2]; decide) H7 h7.tail.tail
        rw [e2] at this
        exact this
      · have e' : lastOk l := by
          have h1 : ¬ ((l.length : Int) ∈ nx x (tgA l (l.length - 1)) (l.length - 1)) := by simpa using e
          exact Classical.byContradiction fun h2 => h1 (hlast.2 h2)
        refine reached_s (l := l) h7 (fun H' hs => rl H' hs.tail.tail) (rdn_gl (by simp) hq) rfl rfl (by omega) (by omega) e' fun H14 b hb h14 => ⟨_, rfl, cond_of (fun f => ?_) fun f => ?_⟩
        · have f : ¬ allR l := fun h1 => by rw [hb.2 h1] at f; simp at f
          have e2 : fe l = 13 := by unfold fe; rw [if_neg c, if_neg d, if_neg hj, if_neg (fun h => h e'), if_pos f]
          have := hE (by rw [e2]; decide) H14 h14.tail.tail
          rw [e2] at this
          exact this
        · have f : allR l := hb.1 (by simpa using f)
          have e2 : fe l = 0 := by unfold fe; rw [if_neg c, if_neg d, if_neg hj, if_neg (fun h => h e'), if_neg (fun h => h f)]
          exact hR e2 H14 q hq h14.tail
end Go.Proofs.Ytmgkngdbphkmmaa

/-
  Where instructions go on: what the statements share.
-/
namespace Go.Proofs.Ytmgkngdbphkmmaa
open Go Go.AS Go.RowKit
set_option linter.unusedVariables false
variable {H H' : Heap} {R : Value → Heap → Prop} {L M : List Asr} {a b ta : Option Addr} {l : List Ins} {s t ps : List Int} {x : Ins} {v w : Int} {i j : Nat}

theorem fe_zero : fe l = 0 ↔ l.length ≤ 256 ∧ l.length ≠ 0 ∧ (-2 : Int) ∉ tgs l ∧ lastOk l ∧ allR l := by
  unfold fe
  constructor
  · intro h
    split at h
    · cases h
    split at h
    · cases h
    split at h
    · cases h
    split at h
    · cases h
    split at h
    · cases h
    rename_i h1 h2 h3 h4 h5
    exact ⟨by omega, h2, h3, Classical.not_not.1 h4, Classical.not_not.1 h5⟩
  · rintro ⟨h1, h2, h3, h4, h5⟩
    rw [if_neg (by omega), if_neg h2, if_neg h3, if_neg (fun h => h h4), if_neg (fun h => h h5)]
theorem fe_jump (h1 : l.length ≤ 256) (h2 : l.length ≠ 0) (h3 : (-2 : Int) ∈ tgs l) : fe l = 11 := by
  unfold fe; rw [if_neg (by omega), if_neg h2, if_pos h3]
theorem fe_end (h1 : l.length ≤ 256) (h2 : l.length ≠ 0) (h3 : (-2 : Int) ∉ tgs l) (h4 : ¬ lastOk l) : fe l = 12 := by
  unfold fe; rw [if_neg (by omega), if_neg h2, if_neg h3, if_pos h4]
theorem fe_dead (h1 : l.length ≤ 256) (h2 : l.length ≠ 0) (h3 : (-2 : Int) ∉ tgs l) (h4 : lastOk l) (h5 : ¬ allR l) : fe l = 13 := by
  unfold fe; rw [if_neg (by omega), if_neg h2, if_neg h3, if_neg (fun h => h h4), if_pos h5]
/-- What is reached lies in any set that is closed. -/
theorem Rch.in {S : List Nat} (h0 : 0 ∈ S) (hc : ∀ i ∈ S, ∀ j ∈ nxN l i, j ∈ S) {k : Nat} (h : Rch l k) : k ∈ S := by
  induction h with
  | zero => exact h0
  | step _ hj ih => exact hc _ ih _ hj

theorem SameInts_s {n m : Nat} (h : Sep H L) (ra : RdN L a s) (rb : RdN L b t) (hn : n = s.length) (hm : m = t.length) (hl : s.length < 1000000) (hR : ∀ H', Sep H' L → R (.bool (decide (s = t))) H') : CA en F.crossbarkit_SameInts [.slice a n 0, .slice b m 0] H R := by
  subst hn hm
  apply vc_crossbarkit_SameInts
  refine cond_of (fun hl => ?_) fun hl => ?_
  · have hl : s.length ≠ t.length := by intro e; rw [e] at hl; simp at hl
    have := hR H h
    rw [decide_eq_false (fun e => hl (by rw [e]))] at this
    exact this
  have hl : s.length = t.length := by
    have : ((s.length : Nat) : Int) = ((t.length : Nat) : Int) := by simpa using hl
    omega
  refine use_crossbarkit_SameInts_0 (fun k _ t5 H => ∃ j : Nat, j ≤ s.length ∧ k = s.length - j ∧ t5 = (j : Int) ∧ s.take j = t.take j ∧ Sep H L) s.length ⟨0, by omega, rfl, rfl, by simp, h⟩ ?_
  clear h
  rintro k t4 t5 ys H3 ⟨j, hj, rfl, rfl, he, hs⟩
  refine cond_of (fun h1 => ?_) fun h1 => ?_
  · simp only [decide_eq_true_eq] at h1
    have hj' : j < s.length := by omega
    obtain ⟨x, hx⟩ : ∃ x, s[j]? = some x := ⟨_, List.getElem?_eq_getElem hj'⟩
    obtain ⟨y, hy⟩ : ∃ y, t[j]? = some y := ⟨_, List.getElem?_eq_getElem (by omega)⟩
    have hB := hs.bump 9
    obtain ⟨i, rfl, e1⟩ := ra _ hB j x hx
    obtain ⟨i', rfl, e2⟩ := rb _ hB j y hy
    refine ⟨by unfold inB; omega, asRow_in ⟨_, e1, by unfold inB; omega, asRow_in ⟨_, e2, ⟨cond_of (fun hne => ?_) fun hne => ?_, trivial⟩⟩⟩⟩
    · have hne : ¬ x = y := by intro e; rw [e] at hne; simp at hne
      have := hR _ hB
      rw [decide_eq_false (fun e => by rw [e, hy] at hx; exact hne (Option.some.inj hx).symm)] at this
      exact asBool_in this
    · have hne : x = y := by simpa using hne
      refine ⟨s.length - (j + 1), by omega, j + 1, by omega, rfl, ?_, ?_, hB⟩
      · rw [wrap_i64 (by omega)]; omega
      · rw [List.take_add_one, List.take_add_one, he, hx, hy, hne]
  · simp only [decide_eq_false_iff_not] at h1
    obtain rfl : j = s.length := by omega
    have e : s = t := by
      rw [List.take_length, List.take_of_length_le (by omega)] at he
      exact he
    have := hR H3 hs
    rw [decide_eq_true e] at this
    exact asBool_in this

/-! ### The known ones -/
theorem rds_bx {i z : Nat} {w : Bool} (hm : bx i (.cells w z (flatI l)) ∈ L) : Rds L (some ⟨i, 0, none⟩) l := by
  intro H' hs j x hx
  have hg : H'.get i = some (.cells w z (flatI l)) := hs.all _ hm
  exact ⟨i, rfl, by rw [cellsAt_of hg, Nat.zero_add]; exact flatI_take l hx⟩

theorem is_s {n m : Nat} {e : Int} (h : Sep H L) (rl : Rds L a l) (rw' : RdN L b t) (hn : n = l.length) (hm : m = t.length) (hok : ∀ x ∈ l, OkI x) (hl : l.length < 1000000) (he : fe l = e) (hw : e = 0 → tgs l = t) (hw' : e ≠ 0 → t = [])
    (hR : ∀ H', Sep H' L → R (.bool true) H') : CA en F.crossbarlaw06_is [.slice b m 0, I e, .slice a n 0] H R := by
  subst hn hm he
  apply vc_crossbarlaw06_is
  refine Targets_s h rl rfl hl hok (fun hne H2 h2 => ⟨_, _, _, rfl, cond_yes (by simp) ?_⟩) fun hz H2 q hq h2 => ⟨_, _, _, rfl, cond_yes (by simp [hz]) ?_⟩
  · refine SameInts_s (s := []) (t := t) h2 (fun H' _ j v hv => by simp at hv) rw' rfl rfl (by simp) fun H7 h7 => ⟨_, rfl, ?_⟩
    have := hR H7 h7
    rw [hw' hne]
    exact this
  · refine SameInts_s (s := tgs l) (t := t) h2 (rdn_gl (by simp) hq) (fun H' hs => rw' H' hs.tail) (tgs_len l).symm rfl (by rw [tgs_len]; exact hl) fun H7 h7 => ⟨_, rfl, ?_⟩
    have := hR H7 h7.tail
    rw [hw hz, decide_eq_true rfl]
    exact this

theorem jump_s {off : Int} (h : Sep H L) (hR : ∀ H', Sep H' L → R (Ins.val ⟨21, 0, 0, off, 0⟩) H') : CA en F.crossbarlaw06_jump [I off] H R := by
  apply vc_crossbarlaw06_jump
  exact Sep.nw h fun i1 H2 h2 => Sep.st0 h2 (Nat.le_of_ble_eq_true rfl) fun H3 h3 => ⟨_, _, _, _, _, Sep.lds0 h3 rfl, hR _ h3.tail⟩
theorem ja_s {off : Int} (h : Sep H L) (hR : ∀ H', Sep H' L → R (Ins.val ⟨5, 0, 0, off, 0⟩) H') : CA en F.crossbarlaw06_ja [I off] H R := by
  apply vc_crossbarlaw06_ja
  exact Sep.nw h fun i1 H2 h2 => Sep.st0 h2 (Nat.le_of_ble_eq_true rfl) fun H3 h3 => ⟨_, _, _, _, _, Sep.lds0 h3 rfl, hR _ h3.tail⟩
theorem wide_s (h : Sep H L) (hR : ∀ H', Sep H' L → R (Ins.val ⟨24, 0, 0, 0, 0⟩) H') : CA en F.crossbarlaw06_wide [] H R := by
  apply vc_crossbarlaw06_wide
  exact Sep.nw h fun i1 H2 h2 => Sep.st0 h2 (Nat.le_of_ble_eq_true rfl) fun H3 h3 => ⟨_, _, _, _, _, Sep.lds0 h3 rfl, hR _ h3.tail⟩
theorem mov_s (h : Sep H L) (hR : ∀ H', Sep H' L → R (Ins.val ⟨183, 0, 0, 0, 0⟩) H') : CA en F.crossbarlaw06_mov [] H R := by
  apply vc_crossbarlaw06_mov
  exact Sep.nw h fun i1 H2 h2 => Sep.st0 h2 (Nat.le_of_ble_eq_true rfl) fun H3 h3 => ⟨_, _, _, _, _, Sep.lds0 h3 rfl, hR _ h3.tail⟩
theorem exit_s (h : Sep H L) (hR : ∀ H', Sep H' L → R (Ins.val ⟨149, 0, 0, 0, 0⟩) H') : CA en F.crossbarlaw06_exit [] H R := by
  apply vc_crossbarlaw06_exit
  exact Sep.nw h fun i1 H2 h2 => Sep.st0 h2 (Nat.le_of_ble_eq_true rfl) fun H3 h3 => ⟨_, _, _, _, _, Sep.lds0 h3 rfl, hR _ h3.tail⟩

instance (x : Ins) : Decidable (OkI x) := by unfold OkI; exact inferInstance

theorem known1 : fe [⟨21, 0, 0, 2, 0⟩, ⟨24, 0, 0, 0, 0⟩, ⟨149, 0, 0, 0, 0⟩] = 0 := by
  refine fe_zero.2 ⟨by decide, by decide, by decide +kernel, by decide +kernel, fun i hi => ?_⟩
  have h1 : Rch [⟨21, 0, 0, 2, 0⟩, ⟨24, 0, 0, 0, 0⟩, ⟨149, 0, 0, 0, 0⟩] 1 := .step .zero (by decide +kernel)
  have h2 : Rch [⟨21, 0, 0, 2, 0⟩, ⟨24, 0, 0, 0, 0⟩, ⟨149, 0, 0, 0, 0⟩] 2 := .step .zero (by decide +kernel)
  simp only [List.length_cons, List.length_nil] at hi
  obtain rfl | rfl | rfl : i = 0 ∨ i = 1 ∨ i = 2 := by omega
  · exact .zero
  · exact h1
  · exact h2
theorem known3 : fe [⟨5, 0, 0, 1, 0⟩, ⟨183, 0, 0, 0, 0⟩, ⟨149, 0, 0, 0, 0⟩] = 13 := by
  refine fe_dead (by decide) (by decide) (by decide +kernel) (by decide +kernel) fun h => ?_
  have := Rch.in (S := [0, 2]) (by decide) (by decide +kernel) (h 1 (by decide))
  revert this
  decide

theorem known06_s (h : Sep H L) (hR : ∀ H', Sep H' L → R (.bool true) H') : CA en F.crossbarlaw06_known [] H R := by
  apply vc_crossbarlaw06_known
  refine Sep.nw h fun i1 H2 h2 => jump_s h2 fun H4 h4 => ⟨_, _, _, _, _, rfl, wide_s h4 fun H11 h11 => ⟨_, _, _, _, _, rfl, exit_s h11 fun H18 h18 => ⟨_, _, _, _, _, rfl, Sep.nw h18 fun i24 H25 h25 => ?_⟩⟩⟩
  refine is_s (l := [⟨21, 0, 0, 2, 0⟩, ⟨24, 0, 0, 0, 0⟩, ⟨149, 0, 0, 0, 0⟩]) (t := [2, -1, -1]) h25 (rds_bx (w := true) (z := 5) (by exact List.mem_cons_self)) (rdn_bx (w := true) (z := 1) (by exact List.mem_cons_of_mem _ List.mem_cons_self)) rfl rfl (by decide) (by decide) known1 (fun _ => by kernel_rfl) (fun h => absurd rfl h) fun H27 h27 => ⟨_, rfl, cond_yes rfl ?_⟩
  refine jump_s h27.tail.tail fun H30 h30 => ⟨_, _, _, _, _, rfl, wide_s h30 fun H37 h37 => ⟨_, _, _, _, _, rfl, exit_s h37 fun H44 h44 => ⟨_, _, _, _, _, rfl, Sep.nw h44 fun i50 H51 h51 => ?_⟩⟩⟩
  refine is_s (l := [⟨21, 0, 0, 1, 0⟩, ⟨24, 0, 0, 0, 0⟩, ⟨149, 0, 0, 0, 0⟩]) (t := []) h51 (rds_bx (w := true) (z := 5) (by exact List.mem_cons_self)) (fun H' _ j v hv => by simp at hv) rfl rfl (by decide) (by decide) (fe_jump (by decide) (by decide) (by decide +kernel)) (fun h => absurd h (by decide)) (fun _ => rfl) fun H53 h53 => ⟨_, rfl, cond_yes rfl ?_⟩
  refine ja_s h53.tail fun H56 h56 => ⟨_, _, _, _, _, rfl, mov_s h56 fun H63 h63 => ⟨_, _, _, _, _, rfl, exit_s h63 fun H70 h70 => ⟨_, _, _, _, _, rfl, Sep.nw h70 fun i76 H77 h77 => ?_⟩⟩⟩
  exact is_s (l := [⟨5, 0, 0, 1, 0⟩, ⟨183, 0, 0, 0, 0⟩, ⟨149, 0, 0, 0, 0⟩]) (t := []) h77 (rds_bx (w := true) (z := 5) (by exact List.mem_cons_self)) (fun H' _ j v hv => by simp at hv) rfl rfl (by decide) (by decide) known3 (fun h => absurd h (by decide)) (fun _ => rfl) fun H79 h79 => ⟨_, rfl, hR _ h79.tail⟩
end Go.Proofs.Ytmgkngdbphkmmaa

