/-
  Written by merge.py: Harness Fit Rws Record RunsRec RecGo RecRun RecDoc RecSide RecTurn
-/
import Derived.Test.YtgpacebjbdhphaaKit
import Derived.Test.YtgpacebjbdhphaaAs49
import Derived.Test.YtgpacebjbdhphaaDeclM
import Derived.Test.YtgpacebjbdhphaaSmem
import Derived.Test.YtgpacebjbdhphaaLock
import Derived.Test.YtgpacebjbdhphaaAs48
import Derived.Test.YtgpacebjbdhphaaVcRc
import Derived.Tactics
import Derived.Test.YtgpacebjbdhphaaVcRr
/-
  Operations and results that are copied, compared and spoilt; lists of lists of operations, of the outset.
-/
namespace Go.Proofs.Ytgpacebjbdhphaa
open Go Go.AS Go.RowKit
set_option linter.unusedVariables false
variable {H H' H0 : Heap} {R : Value → Heap → Prop} {L M : List Asr} {a b : Option Addr} {ws vs : List (BitVec 64)}

def RdW (L : List Asr) (a : Option Addr) (ws : List (BitVec 64)) : Prop :=
  ∀ H', Sep H' L → ∀ (j : Nat) w, ws[j]? = some w → ∃ i, a = some ⟨i, 0, none⟩ ∧ H'.cell i (0 + j * 1) = some (W w)
abbrev wds (ws : List (BitVec 64)) : List Value := ws.map W
theorem rdw_gl {q : Option Nat} (hm : gl 1 q (wds ws) ∈ L) (hq : q = none → ws = []) : RdW L (addr q) ws := by
  intro H' hs j x hx
  cases q with
  | none => rw [hq rfl] at hx; simp at hx
  | some q =>
    have hg : H'.get q = some (.cells true 1 (wds ws)) := (hs.all _ hm) (bx q (.cells true 1 (wds ws))) (by simp)
    exact ⟨q, rfl, by rw [cell_of hg, Nat.zero_add, Nat.mul_one, List.getElem?_map, hx]; rfl⟩
theorem rdw_old {n : Nat} (o : OldS H0 a n (ws.map fun w => [W w])) (hm : old H0 ∈ L) : RdW L a ws := by
  intro H' hs j x hx
  exact o.cell0 hs hm (wmap_len ws) (by rw [List.getElem?_map, hx]; rfl) rfl
theorem RdW.tail' {A : Asr} (h : RdW L a ws) : RdW (A :: L) a ws := fun H' hs => h H' hs.tail

theorem CopyWords_s {n : Nat} (h : Sep H L) (ra : RdW L a ws) (hn' : n = ws.length) (hn : ws.length < 1000000000) (hR : ∀ H' q, (q = none → ws = []) → Sep H' (gl 1 q (wds ws) :: L) → R (.slice (addr q) ws.length 0) H') : CA en F.crossbarkit_CopyWords [.slice a n 0] H R := by
  subst hn'
  apply vc_crossbarkit_CopyWords
  refine use_crossbarkit_CopyWords_0 (fun k t3 t3l t4 H => ∃ (j : Nat) (q : Option Nat), j ≤ ws.length ∧ k = ws.length - j ∧ t4 = (j : Int) ∧ t3 = addr q ∧ t3l = j ∧ (q = none → j = 0) ∧ Sep H (gl 1 q (wds (ws.take j)) :: L)) ws.length ⟨0, none, by omega, rfl, rfl, rfl, rfl, fun _ => rfl, gl_none.2 h⟩ ?_
  clear h
  rintro k t3 t3l t4 ys H3 ⟨j, q, hj, rfl, rfl, rfl, rfl, hq, hs⟩
  refine cond_of (fun h1 => ?_) fun h1 => ?_
  · have hj' : t3l < ws.length := by simp only [decide_eq_true_eq] at h1; omega
    obtain ⟨x, hx⟩ : ∃ x, ws[t3l]? = some x := ⟨_, List.getElem?_eq_getElem hj'⟩
    obtain ⟨i, rfl, e1⟩ := ra _ hs.tail t3l x hx
    refine ⟨by unfold inB; omega, asRow_in ⟨_, e1, Sep.nw hs fun i4 H5 h5 => ⟨[W x], rowOf_bx (es := 1) (n := 1) (b := i4) (Sep.get0 h5) (by decide) rfl, ?_⟩⟩⟩
    refine apd_gl (b := q) (len := t3l) (n := 1) (cs := wds (ws.take t3l)) (new := [W x]) (Sep.up1 h5) (fun h => by rw [hq h]; rfl) (by decide) (by rw [List.length_map, List.length_take]; omega) (by decide) rfl (by omega) fun H' q' h' => ⟨ws.length - (t3l + 1), by omega, t3l + 1, some q', by omega, rfl, by rw [wrap_i64 (by omega)]; omega, rfl, rfl, (fun h => by cases h), ?_⟩
    rw [List.take_add_one, hx]
    have e : wds (ws.take t3l ++ (some x).toList) = wds (ws.take t3l) ++ [W x] := by simp
    rw [e]
    exact Sep.rm1 h'
  · have e : t3l = ws.length := by simp only [decide_eq_false_iff_not] at h1; omega
    subst e
    rw [List.take_length] at hs
    exact asSl_in (hR H3 q (fun h => List.eq_nil_of_length_eq_zero (hq h)) hs)

theorem SpoilWords_s {q : Option Nat} {n : Nat} (hn' : n = ws.length) (hl : ws.length < 100000) (n1 : q = none → ws = []) (hs : Sep H (gl 1 q (wds ws) :: L)) (hR : ∀ H', Sep H' L → R undef H') : CA en F.crossbarkit_SpoilWords [.slice (addr q) n 0] H R := by
  subst hn'
  apply vc_crossbarkit_SpoilWords
  refine use_crossbarkit_SpoilWords_0 (fun k t2 H => ∃ (j : Nat) (c : List Value), c.length = ws.length ∧ j ≤ ws.length ∧ k = ws.length - j ∧ t2 = (j : Int) ∧ Sep H (gl 1 q c :: L)) ws.length ⟨0, wds ws, by simp, by omega, rfl, rfl, hs⟩ ?_
  clear hs
  rintro k t2 ys H3 ⟨j, c, hl', hj, rfl, rfl, hs⟩
  refine cond_of (fun h1 => ?_) fun h1 => hR H3 hs.tail
  have hj' : j < ws.length := by simp only [decide_eq_true_eq] at h1; omega
  apply vc_crossbarkit_markWords
  refine ⟨_, rfl, by unfold inB; omega, ?_⟩
  cases q with
  | none => rw [n1 rfl] at hj'; simp at hj'
  | some q =>
    refine asRow_in (Sep.st0 (gl_some.1 hs) (by rw [Int.toNat_natCast]; simp only [List.length_cons, List.length_nil]; omega) fun H6 h6 => ⟨ws.length - (j + 1), by omega, j + 1, _, ?_, by omega, rfl, by rw [wrap_i64 (by omega)]; omega, gl_some.2 h6⟩)
    rw [setAt_length]; exact hl'

theorem SameWords_s {n k : Nat} (h : Sep H L) (ra : RdW L a ws) (rb : RdW L b ws) (hn' : n = ws.length) (hk' : k = ws.length) (hn : ws.length < 1000000000) (hR : ∀ H', Sep H' L → R (.bool true) H') : CA en F.crossbarkit_SameWords [.slice a n 0, .slice b k 0] H R := by
  subst hn' hk'
  apply vc_crossbarkit_SameWords
  refine cond_no (by simp) ?_
  refine use_crossbarkit_SameWords_0 (fun k _ t5 H => ∃ j : Nat, j ≤ ws.length ∧ k = ws.length - j ∧ t5 = (j : Int) ∧ Sep H L) ws.length ⟨0, by omega, rfl, rfl, h⟩ ?_
  clear h
  rintro k t4 t5 ys H3 ⟨j, hj, rfl, rfl, hs⟩
  refine cond_of (fun h1 => ?_) fun h1 => asBool_in (hR H3 hs)
  have hj' : j < ws.length := by simp only [decide_eq_true_eq] at h1; omega
  obtain ⟨x, hx⟩ : ∃ x, ws[j]? = some x := ⟨_, List.getElem?_eq_getElem hj'⟩
  have hB := hs.bump 9
  obtain ⟨i, rfl, e1⟩ := ra _ hB j x hx
  obtain ⟨i', rfl, e2⟩ := rb _ hB j x hx
  exact ⟨by unfold inB; omega, asRow_in ⟨_, e1, by unfold inB; omega, asRow_in ⟨_, e2, ⟨cond_no (by simp) ⟨ws.length - (j + 1), by omega, j + 1, by omega, rfl, by rw [wrap_i64 (by omega)]; omega, hB⟩, trivial⟩⟩⟩⟩

/-! ### Operations, results -/
abbrev opV (kind key flag cpu : Int) (a : Option Addr) (n : Nat) : List Value := [I kind, .int .u64 key, .slice a n 0, I flag, I cpu]
abbrev resV (no : Int) (a : Option Addr) (n : Nat) (key elem : Int) : List Value := [I no, .slice a n 0, .int .u64 key, I elem]

theorem CopyOp_s {kind key flag cpu : Int} {n : Nat} (h : Sep H L) (ra : RdW L a ws) (hn' : n = ws.length) (hn : ws.length < 1000000000)
    (hR : ∀ H' q, (q = none → ws = []) → Sep H' (gl 1 q (wds ws) :: L) → R (.agg #[I kind, .int .u64 key, .slice (addr q) ws.length 0, I flag, I cpu]) H') : CA en F.crossbarkit_CopyOp [.agg #[I kind, .int .u64 key, .slice a n 0, I flag, I cpu]] H R := by
  apply vc_crossbarkit_CopyOp
  refine Sep.nw h fun i1 H2 h2 => Sep.nw h2 fun i3 H4 h4 => ⟨_, _, Sep.ld1 h4 rfl, ?_⟩
  refine CopyWords_s h4 ra.tail'.tail' hn' hn fun H8 q hq h8 => ⟨_, _, rfl, Sep.st2 h8 (Nat.le_of_ble_eq_true rfl) fun H11 h11 => ⟨_, _, _, _, _, _, Sep.lds2 h11 rfl, Sep.st1 h11 (Nat.le_of_ble_eq_true rfl) fun H18 h18 => ⟨_, _, _, _, _, _, Sep.lds1 h18 rfl, hR H18 q hq (Sep.rm1 (Sep.rm1 h18))⟩⟩⟩
theorem CopyRes_s {no key elem : Int} {n : Nat} (h : Sep H L) (ra : RdW L a ws) (hn' : n = ws.length) (hn : ws.length < 1000000000)
    (hR : ∀ H' q, (q = none → ws = []) → Sep H' (gl 1 q (wds ws) :: L) → R (.agg #[I no, .slice (addr q) ws.length 0, .int .u64 key, I elem]) H') : CA en F.crossbarkit_CopyRes [.agg #[I no, .slice a n 0, .int .u64 key, I elem]] H R := by
  apply vc_crossbarkit_CopyRes
  refine Sep.nw h fun i1 H2 h2 => Sep.nw h2 fun i3 H4 h4 => ⟨_, _, Sep.ld1 h4 rfl, ?_⟩
  refine CopyWords_s h4 ra.tail'.tail' hn' hn fun H8 q hq h8 => ⟨_, _, rfl, Sep.st2 h8 (Nat.le_of_ble_eq_true rfl) fun H11 h11 => ⟨_, _, _, _, _, Sep.lds2 h11 rfl, Sep.st1 h11 (Nat.le_of_ble_eq_true rfl) fun H18 h18 => ⟨_, _, _, _, _, Sep.lds1 h18 rfl, hR H18 q hq (Sep.rm1 (Sep.rm1 h18))⟩⟩⟩
theorem SameRes_s {no key elem : Int} {n k : Nat} (h : Sep H L) (ra : RdW L a ws) (rb : RdW L b ws) (hn' : n = ws.length) (hk' : k = ws.length) (hn : ws.length < 1000000000) (hR : ∀ H', Sep H' L → R (.bool true) H') :
    CA en F.crossbarkit_SameRes [.agg #[I no, .slice a n 0, .int .u64 key, I elem], .agg #[I no, .slice b k 0, .int .u64 key, I elem]] H R := by
  apply vc_crossbarkit_SameRes
  refine Sep.nw h fun i1 H2 h2 => Sep.nw h2 fun i3 H4 h4 => ⟨_, Sep.ld1 h4 rfl, _, Sep.ld0 h4 rfl, cond_yes (by simp) ⟨_, _, _, _, _, Sep.lds1 h4 rfl, _, _, _, _, _, Sep.lds0 h4 rfl, ?_⟩⟩
  apply vc_crossbarkit_LikeRes
  refine Sep.nw h4 fun j1 H5 h5 => Sep.nw h5 fun j3 H6 h6 => ⟨_, Sep.ld1 h6 rfl, _, Sep.ld0 h6 rfl, cond_yes (by simp) ⟨_, Sep.ld1 h6 rfl, _, Sep.ld0 h6 rfl, cond_yes (by simp) ⟨_, _, Sep.ld1 h6 rfl, _, _, Sep.ld0 h6 rfl, ?_⟩⟩⟩
  exact SameWords_s h6 ra.tail'.tail'.tail'.tail' rb.tail'.tail'.tail'.tail' hn' hk' hn fun H' h' => ⟨_, rfl, _, rfl, hR H' h'.tail.tail.tail.tail⟩

/-! ### Lists of lists -/
theorem pick_of {α β : Type} {P : α → β → Prop} : ∀ (css : List β), (∀ c ∈ css, ∃ o, P o c) → ∃ l : List α, l.length = css.length ∧ ∀ (j : Nat) o, l[j]? = some o → ∃ c, css[j]? = some c ∧ P o c
  | [], _ => ⟨[], rfl, by simp⟩
  | c :: css, h => by
    obtain ⟨o, ho⟩ := h c (by simp)
    obtain ⟨l, h1, h2⟩ := pick_of css fun c hc => h c (List.mem_cons_of_mem _ hc)
    refine ⟨o :: l, by simp [h1], fun j x hx => ?_⟩
    cases j with
    | zero => simp at hx; subst hx; exact ⟨c, rfl, ho⟩
    | succ j => exact h2 j x (by simpa using hx)

structure Op where
  kind : Int
  key : BitVec 64
  val : List (BitVec 64)
  flag : Int
  cpu : Int
def OpC (H0 : Heap) (o : Op) (c : List Value) : Prop := ∃ a n, c = opV o.kind o.key.toNat o.flag o.cpu a n ∧ OldS H0 a n (o.val.map fun w => [W w])
structure OpsL (H0 : Heap) (a : Option Addr) (n : Nat) (l : List Op) : Prop where
  len : n = l.length
  ex : ∃ css, OldS H0 a n css ∧ (∀ c ∈ css, c.length = 5) ∧ ∀ (j : Nat) o, l[j]? = some o → ∃ c, css[j]? = some c ∧ OpC H0 o c
def OpsC (H0 : Heap) (l : List Op) (c : List Value) : Prop := ∃ a n, c = [.slice a n 0] ∧ OpsL H0 a n l
structure OpsLL (H0 : Heap) (a : Option Addr) (n : Nat) (ll : List (List Op)) : Prop where
  len : n = ll.length
  ex : ∃ css, OldS H0 a n css ∧ (∀ c ∈ css, c.length = 1) ∧ ∀ (k : Nat) l, ll[k]? = some l → ∃ c, css[k]? = some c ∧ OpsC H0 l c

theorem OpsLL.at' {n : Nat} {ll : List (List Op)} (o : OpsLL H0 a n ll) (hs : Sep H L) (hm : old H0 ∈ L) {k : Nat} {l : List Op} (hk : ll[k]? = some l) :
    ∃ i a' n', a = some ⟨i, 0, none⟩ ∧ H.cell i (0 + k * 1) = some (.slice a' n' 0) ∧ OpsL H0 a' n' l := by
  obtain ⟨css, h1, h2, h3⟩ := o.ex
  obtain ⟨c, hc, a', n', rfl, h4⟩ := h3 k l hk
  obtain ⟨i, e, h5⟩ := h1.cell0 hs hm h2 hc rfl
  exact ⟨i, a', n', e, h5, h4⟩
theorem OpsL.at' {n : Nat} {l : List Op} (o : OpsL H0 a n l) (hs : Sep H L) (hm : old H0 ∈ L) {j : Nat} {x : Op} (hj : l[j]? = some x) :
    ∃ i a' n', a = some ⟨i, 0, none⟩ ∧ H.cellsAt i (0 + j * 5) 5 = some (opV x.kind x.key.toNat x.flag x.cpu a' n') ∧ n' = x.val.length ∧ RdW L a' x.val := by
  obtain ⟨css, h1, h2, h3⟩ := o.ex
  obtain ⟨c, hc, a', n', rfl, h4⟩ := h3 j x hj
  obtain ⟨i, e, h5, _⟩ := h1.row hs hm h2 hc
  exact ⟨i, a', n', e, h5, by rw [h4.len]; simp, rdw_old h4 hm⟩

def tot (ll : List (List Op)) : Nat := (ll.map List.length).sum
theorem tot_snoc (ll : List (List Op)) (l : List Op) : tot (ll ++ [l]) = tot ll + l.length := by simp [tot]
theorem len_le_tot : ∀ {ll : List (List Op)} {l : List Op}, l ∈ ll → l.length ≤ tot ll
  | l' :: ll, l, h => by
    have e : tot (l' :: ll) = l'.length + tot ll := by simp [tot]
    rcases List.mem_cons.1 h with rfl | h
    · omega
    · have := len_le_tot h; omega
theorem tot_take_le (ll : List (List Op)) (j : Nat) : tot (ll.take j) ≤ tot ll := by
  have e : tot ll = tot (ll.take j) + tot (ll.drop j) := by
    conv => lhs; rw [← List.take_append_drop j ll]
    unfold tot
    rw [List.map_append, List.sum_append]
  omega
end Go.Proofs.Ytgpacebjbdhphaa

/-
  Operations that are fitted to a map; how many there are in lists.
-/
namespace Go.Proofs.Ytgpacebjbdhphaa
open Go Go.AS Go.RowKit
set_option linter.unusedVariables false
variable {H H' H0 : Heap} {R : Value → Heap → Prop} {L M : List Asr} {a b : Option Addr} {ws vs : List (BitVec 64)}

theorem Sep.nwx {o : AS.Obj} {K : Nat → Heap → Prop} (h : Sep H L) (k : Sep (H.new o) (bx H.next o :: L) → K H.next (H.new o)) : nwH H o K := k (h.new o)

def kl (k : Int) : List Int := if k = 1 then [1, 2, 4] else if k = 2 then [1, 2, 4] else if k = 3 then [1, 2, 4] else if k = 4 then [1, 2, 3, 4, 5] else if k = 5 then [1, 2, 3, 4, 5] else if k = 6 then [6, 7, 8] else if k = 7 then [6, 7, 8] else if k = 8 then [6, 8] else [1, 2, 3, 4]
theorem kl_len (k : Int) : 1 ≤ (kl k).length ∧ (kl k).length ≤ 5 := by
  unfold kl
  repeat' split
  all_goals decide
theorem kinds_s {k : Int} (h : Sep H L) (hR : ∀ H' i, Sep H' (bx i (.cells true 1 ((kl k).map I)) :: L) → R (.slice (some ⟨i, 0, none⟩) (kl k).length 0) H') : CA en F.crossbarkit_kinds [I k] H R := by
  apply vc_crossbarkit_kinds
  unfold kl at hR
  have go : ∀ {n : Int} {A B : Prop}, (k = n → A) → (k ≠ n → B) → bif (k == n) then A else B := fun h1 h2 => cond_of (fun z => h1 (by simpa using z)) fun z => h2 (by simpa using z)
  refine go (fun z => ?_) fun z1 => go (fun z => ?_) fun z2 => go (fun z => ?_) fun z3 => go (fun z => ?_) fun z4 => go (fun z => ?_) fun z5 => go (fun z => ?_) fun z6 => go (fun z => ?_) fun z7 => go (fun z => ?_) fun z8 => ?_
  all_goals
    refine Sep.nw h fun i H2 h2 => ?_
    revert h2
    have := hR H2 i
    simp [*] at this
    exact this

def fitK (k ok : Int) : Int := (kl k).getD (ok % (kl k).length).toNat 0
def fitB (k kind : Int) : Bool := kind == 2 || kind == 6 || (kind == 8 && k == 8)
def fitV (k : Int) (w : Nat) (kind : Int) (val : List (BitVec 64)) : List (BitVec 64) := if fitB k kind then (List.range w).map fun i => val.getD i 0 else []
def fitF (k kind flag : Int) : Int := if kind = 2 then flag % 3 else if kind = 4 then flag % 2 else if kind = 6 then (if k ≠ 8 then 2 * (flag % 2) else 0) else 0
theorem sameI (a : Int) : sameN.sameL 8 [I a] [I a] = true := by simp [sameN, sameN.sameL]

theorem fit_loop {ob i1 i3 n : Nat} {q : Option Nat} (v : BitVec 64) {kk ks : Value} {fs : List Value} {K : Heap → Prop} (h : Sep H (gl 1 q (wds ws) :: bx ob (.cells true 0 (kk :: ks :: .slice (addr q) n 0 :: fs)) :: L)) (hn : n = ws.length) (hq : q = none → ws = []) (hl : ws.length < 100000)
    (k : ∀ H' q', Sep H' (gl 1 (some q') (wds (ws ++ [v])) :: bx ob (.cells true 0 (kk :: ks :: .slice (addr (some q')) (n + 1) 0 :: fs)) :: L) → K H') :
    ∃ a l, H.cell ob 2 = some (.slice a l 0) ∧ nwH H (.cells true 1 [W v]) fun i H2 => ∃ l15, rowOf H2 1 (some ⟨i, 0, none⟩) 1 = some l15 ∧ apd H2 8 1 a l 1 l15 fun a16 i17 H18 => stc H18 ob 2 [(.slice a16 i17 0)] K := by
  refine ⟨_, _, Sep.ld1 h rfl, Sep.nw h fun i4 H5 h5 => ⟨[W v], rowOf_bx (es := 1) (n := 1) (b := i4) (Sep.get0 h5) (by decide) rfl, ?_⟩⟩
  subst hn
  refine apd_gl (b := q) (n := 1) (cs := wds ws) (new := [W v]) (Sep.up1 h5) (fun h => by rw [hq h]; rfl) (by decide) (by simp) (by decide) rfl (by omega) fun H' q' h' => ?_
  have e : wds ws ++ [W v] = wds (ws ++ [v]) := by simp
  rw [e] at h'
  exact Sep.st2 h' (Nat.le_of_ble_eq_true rfl) fun H6 h6 => k H6 q' h6.rm1

set_option maxHeartbeats 1000000 in
theorem FitOp_s {d : Dc} {w n : Nat} {kind key flag cpu : Int} (hw : d.words = (w : Int)) (hw2 : w ≤ 1000) (hd : d.inner = 0) (hk2 : d.kind ≠ 2) (h : Sep H L) (ra : RdW L a ws) (hn' : n = ws.length)
    (hR : ∀ H' q, (q = none → fitV d.kind w (fitK d.kind kind) ws = []) → Sep H' (gl 1 q (wds (fitV d.kind w (fitK d.kind kind) ws)) :: L) → R (.agg #[I (fitK d.kind kind), .int .u64 key, .slice (addr q) (fitV d.kind w (fitK d.kind kind) ws).length 0, I (fitF d.kind (fitK d.kind kind) flag), I 0]) H') :
    CA en F.crossbarkit_FitOp [.agg #[I d.kind, I d.entries, I d.words, I d.buckets, I d.inner], .agg #[I kind, .int .u64 key, .slice a n 0, I flag, I cpu], I 1] H R := by
  apply vc_crossbarkit_FitOp
  refine Sep.nw h fun i1 H2 h2 => Sep.nw h2 fun i3 H4 h4 => Sep.nw h4 fun i5 H6 h6 => ⟨_, Sep.ld2 h6 rfl, ?_⟩
  refine kinds_s h6 fun H9 i h9 => ⟨_, _, rfl, ?_⟩
  have hp := h9.fore1 (n := 13) (a := 11) (.cells true 0 [I 0, .int .u64 0, .slice none 0 0, I 0, I 0]) (by decide)
  generalize hob : H9.next + 11 = ob at hp ⊢
  -- ob kl i5 i3 i1
  obtain ⟨l1, l2⟩ := kl_len d.kind
  have em1 := Int.emod_nonneg kind (b := ((kl d.kind).length : Int)) (by omega)
  have em2 := Int.emod_lt_of_pos kind (b := ((kl d.kind).length : Int)) (by omega)
  refine ⟨_, Sep.ld3 hp rfl, Pick_ok (by omega) (by omega) ⟨_, rfl, ⟨by unfold inB; constructor <;> omega, ?_⟩⟩⟩
  have hb : (kind % ((kl d.kind).length : Int)).toNat < (kl d.kind).length := by omega
  have hK : ((kl d.kind).map I)[(kind % ((kl d.kind).length : Int)).toNat]? = some (I (fitK d.kind kind)) := by
    rw [List.getElem?_map, List.getElem?_eq_getElem hb]
    unfold fitK
    rw [List.getD_eq_getElem?_getD, List.getElem?_eq_getElem hb]; rfl
  refine asRow_in ⟨_, Sep.ld1 hp (by rw [Nat.zero_add, Nat.mul_one]; exact hK), _, Sep.ld3 hp rfl, ?_⟩
  generalize hkk : fitK d.kind kind = kk at *
  refine Sep.st0 hp (Nat.le_of_ble_eq_true rfl) fun H20 h20 => ⟨?_, ⟨⟨_, Sep.get0 hp, by simp [sameN, sameN.sameL]⟩, ⟨_, Sep.get0 hp, by simp [sameN, sameN.sameL]⟩, trivial⟩, ⟨⟨_, Sep.ld3 hp rfl, rfl⟩, ⟨_, Sep.ld3 hp rfl, rfl⟩, trivial⟩, trivial⟩
  refine ⟨fun _ H' => H' = H20, ⟨_, Sep.ld4 h20 rfl, cond_no (by simpa using hk2) rfl⟩, ?_⟩
  rintro ys H33 rfl
  refine ⟨fun l H' => l = [.bool (fitB d.kind kk)] ∧ H' = H33, ?_, ?_⟩
  · refine ⟨_, Sep.ld0 h20 rfl, cond_of (fun z => ?_) fun z => ⟨_, Sep.ld0 h20 rfl, cond_of (fun z6 => ?_) fun z6 => ⟨_, Sep.ld0 h20 rfl, cond_of (fun z8 => ⟨_, Sep.ld4 h20 rfl, ?_⟩) fun z8 => ?_⟩⟩⟩
    · refine ⟨?_, rfl⟩; unfold fitB; rw [z]; rfl
    · refine ⟨?_, rfl⟩; unfold fitB; rw [z6]; simp
    · refine ⟨?_, rfl⟩; unfold fitB; rw [z, z6, z8]; simp
    · refine ⟨?_, rfl⟩; unfold fitB; rw [z, z6, z8]; simp
  rintro ys H40 b41 ⟨e1, rfl⟩
  obtain rfl : b41 = fitB d.kind kk := by simpa using e1
  generalize hfb : fitB d.kind kk = vb at *
  refine ⟨fun _ H' => ∃ q, (q = none → fitV d.kind w kk ws = []) ∧ Sep H' (gl 1 q (wds (fitV d.kind w kk ws)) :: bx ob (.cells true 0 [I kk, .int .u64 key, .slice (addr q) (fitV d.kind w kk ws).length 0, I 0, I 0]) :: bx i5 (.cells true 0 [I 0, .int .u64 0, .slice none 0 0, I 0, I 0]) :: bx i3 (.cells true 0 [I kind, .int .u64 key, .slice a n 0, I flag, I cpu]) :: bx i1 (.cells true 0 [I d.kind, I d.entries, I d.words, I d.buckets, I d.inner]) :: L), ?_, ?_⟩
  · let W0 := (List.range w).map fun i => ws.getD i 0
    refine use_crossbarkit_FitOp_0 (fun k t10 H' => ∃ (j : Nat) (q : Option Nat), j ≤ w ∧ k = w - j ∧ t10 = (j : Int) ∧ (vb = false → j = 0) ∧ (q = none → j = 0) ∧ Sep H' (gl 1 q (wds ((List.range j).map fun i => ws.getD i 0)) :: bx ob (.cells true 0 [I kk, .int .u64 key, .slice (addr q) j 0, I 0, I 0]) :: bx i (.cells true 1 ((kl d.kind).map I)) :: bx i5 (.cells true 0 [I 0, .int .u64 0, .slice none 0 0, I 0, I 0]) :: bx i3 (.cells true 0 [I kind, .int .u64 key, .slice a n 0, I flag, I cpu]) :: bx i1 (.cells true 0 [I d.kind, I d.entries, I d.words, I d.buckets, I d.inner]) :: L)) w ⟨0, none, Nat.zero_le _, rfl, rfl, fun _ => rfl, fun _ => rfl, gl_none.2 h20⟩ ?_
    rintro k t10 ys H3 ⟨j, q, hj, rfl, rfl, hvj, hqj, h3⟩
    have hq' : q = none → (List.range j).map (fun i => ws.getD i 0) = [] := fun e => by rw [hqj e]; rfl
    have done : (vb = true → j = w) → ∃ q, (q = none → fitV d.kind w kk ws = []) ∧ Sep H3 (gl 1 q (wds (fitV d.kind w kk ws)) :: bx ob (.cells true 0 [I kk, .int .u64 key, .slice (addr q) (fitV d.kind w kk ws).length 0, I 0, I 0]) :: bx i5 (.cells true 0 [I 0, .int .u64 0, .slice none 0 0, I 0, I 0]) :: bx i3 (.cells true 0 [I kind, .int .u64 key, .slice a n 0, I flag, I cpu]) :: bx i1 (.cells true 0 [I d.kind, I d.entries, I d.words, I d.buckets, I d.inner]) :: L) := fun hv => by
      have e : fitV d.kind w kk ws = (List.range j).map fun i => ws.getD i 0 := by
        unfold fitV
        rw [hfb]
        cases vb with
        | false => rw [hvj rfl]; rfl
        | true => rw [hv rfl]; rfl
      have el : ((List.range j).map fun i => ws.getD i 0).length = j := by simp
      refine ⟨q, fun e1 => by rw [e]; exact hq' e1, ?_⟩
      rw [e, el]
      exact h3.rm2
    refine cond_of (fun hc => ⟨_, Sep.ld5 h3 rfl, cond_of (fun hlt => ?_) fun hlt => ?_⟩) fun hc => ?_
    · have hlt : j < w := by simp only [decide_eq_true_eq] at hlt; rw [hw] at hlt; omega
      have grow : ∀ (v : BitVec 64), v = ws.getD j 0 → ∃ a8 l8, H3.cell ob 2 = some (.slice a8 l8 0) ∧ nwH H3 (.cells true 1 [W v]) fun i9 H2 => ∃ l15, rowOf H2 1 (some ⟨i9, 0, none⟩) 1 = some l15 ∧ apd H2 8 1 a8 l8 1 l15 fun a16 i17 H18 => stc H18 ob 2 [(.slice a16 i17 0)] fun H' => ∃ k', k' < w - j ∧ ∃ (j' : Nat) (q : Option Nat), j' ≤ w ∧ k' = w - j' ∧ IntKind.i64.wrap ((j : Int) + 1) = (j' : Int) ∧ (vb = false → j' = 0) ∧ (q = none → j' = 0) ∧ Sep H' (gl 1 q (wds ((List.range j').map fun i => ws.getD i 0)) :: bx ob (.cells true 0 [I kk, .int .u64 key, .slice (addr q) j' 0, I 0, I 0]) :: bx i (.cells true 1 ((kl d.kind).map I)) :: bx i5 (.cells true 0 [I 0, .int .u64 0, .slice none 0 0, I 0, I 0]) :: bx i3 (.cells true 0 [I kind, .int .u64 key, .slice a n 0, I flag, I cpu]) :: bx i1 (.cells true 0 [I d.kind, I d.entries, I d.words, I d.buckets, I d.inner]) :: L) := fun v ev => by
        refine fit_loop (i1 := i1) (i3 := i3) v h3 (by simp) hq' (by simp; omega) fun H' q' h' => ⟨w - (j + 1), by omega, j + 1, some q', by omega, rfl, by rw [wrap_i64 (by omega)]; omega, fun e => (by rw [hc] at e; cases e), fun e => (by cases e), ?_⟩
        have e : (List.range (j + 1)).map (fun i => ws.getD i 0) = (List.range j).map (fun i => ws.getD i 0) ++ [v] := by rw [List.range_succ, List.map_append, ev]; rfl
        rw [e]; exact h'
      refine ⟨_, Sep.ld5 h3 rfl, _, Sep.ld5 h3 rfl, cond_yes (by rw [hd]; rfl) ⟨_, _, Sep.ld4 h3 rfl, cond_of (fun hin => ?_) fun hin => ?_⟩⟩
      · have hin : j < ws.length := by simp only [decide_eq_true_eq] at hin; omega
        have ra' := ra.tail' (A := bx i1 (.cells true 0 [I d.kind, I d.entries, I d.words, I d.buckets, I d.inner]))
        obtain ⟨g, rfl, e1⟩ := ra H3 (Sep.drop h3 6) j (ws.getD j 0) (by rw [List.getD_eq_getElem?_getD, List.getElem?_eq_getElem hin]; rfl)
        exact ⟨_, _, Sep.ld4 h3 rfl, ⟨by unfold inB; omega, asRow_in ⟨_, e1, grow _ rfl⟩⟩⟩
      · have hin : ws.length ≤ j := by simp only [decide_eq_false_iff_not] at hin; omega
        have e0 : IntKind.u64.wrap d.inner = ((0 : BitVec 64).toNat : Int) := by rw [hd]; rfl
        rw [e0]
        exact grow 0 (by rw [List.getD_eq_getElem?_getD, List.getElem?_eq_none hin]; rfl)
    · exact done fun _ => by simp only [decide_eq_false_iff_not] at hlt; rw [hw] at hlt; omega
    · exact done fun e => by rw [hc] at e; cases e
  rintro ys H46 ⟨q, hq, h46⟩
  have hR := fun H' => hR H' q hq
  -- v ob i5 i3 i1
  have fin : ∀ (f : Int) (H2 : Heap), f = fitF d.kind kk flag → Sep H2 (gl 1 q (wds (fitV d.kind w kk ws)) :: bx ob (.cells true 0 [I kk, .int .u64 key, .slice (addr q) (fitV d.kind w kk ws).length 0, I f, I 0]) :: bx i5 (.cells true 0 [I 0, .int .u64 0, .slice none 0 0, I 0, I 0]) :: bx i3 (.cells true 0 [I kind, .int .u64 key, .slice a n 0, I flag, I cpu]) :: bx i1 (.cells true 0 [I d.kind, I d.entries, I d.words, I d.buckets, I d.inner]) :: L) →
      ∃ n53 n54 a55 i56 n57 n58, H2.cellsAt ob 0 5 = some [I n53, .int .u64 n54, .slice a55 i56 0, I n57, I n58] ∧ stc H2 i5 0 [I n53, .int .u64 n54, .slice a55 i56 0, I n57, I n58] fun H59 => ∃ n60 n61 a62 i63 n64 n65, H59.cellsAt i5 0 5 = some [I n60, .int .u64 n61, .slice a62 i63 0, I n64, I n65] ∧ R (.agg #[I n60, .int .u64 n61, .slice a62 i63 0, I n64, I n65]) H59 := fun f H2 ef h2 => by
    refine ⟨_, _, _, _, _, _, Sep.lds1 h2 rfl, Sep.st2 h2 (Nat.le_of_ble_eq_true rfl) fun H59 h59 => ⟨_, _, _, _, _, _, Sep.lds2 h59 rfl, ?_⟩⟩
    rw [ef]
    exact hR H59 (Sep.pick h59 5 [0] (by decide))
  refine ⟨_, Sep.ld1 h46 rfl, cond_of (fun z => ?_) fun z => cond_of (fun z4 => ?_) fun z4 => cond_of (fun z6 => ⟨_, Sep.ld4 h46 rfl, cond_of (fun z8 => ?_) fun z8 => ?_⟩) fun z6 => ?_⟩
  · have z : kk = 2 := by simpa using z
    refine ⟨_, Sep.ld3 h46 rfl, Pick_ok (by decide) (by decide) ⟨_, rfl, Sep.st1 h46 (Nat.le_of_ble_eq_true rfl) fun H52 h52 => fin _ H52 ?_ h52⟩⟩
    unfold fitF; rw [if_pos z]
  · have z : ¬ kk = 2 := by simpa using z
    have z4 : kk = 4 := by simpa using z4
    refine ⟨_, Sep.ld3 h46 rfl, Pick_ok (by decide) (by decide) ⟨_, rfl, Sep.st1 h46 (Nat.le_of_ble_eq_true rfl) fun H52 h52 => fin _ H52 ?_ h52⟩⟩
    unfold fitF; rw [if_neg z, if_pos z4]
  · have z : ¬ kk = 2 := by simpa using z
    have z4 : ¬ kk = 4 := by simpa using z4
    have z6 : kk = 6 := by simpa using z6
    have z8 : d.kind ≠ 8 := by simpa using z8
    refine ⟨_, Sep.ld3 h46 rfl, Pick_ok (by decide) (by decide) ⟨_, rfl, Sep.st1 h46 (Nat.le_of_ble_eq_true rfl) fun H52 h52 => fin _ H52 ?_ h52⟩⟩
    unfold fitF; rw [if_neg z, if_neg z4, if_pos z6, if_pos z8, wrap_i64 (by omega)]
  · have z : ¬ kk = 2 := by simpa using z
    have z4 : ¬ kk = 4 := by simpa using z4
    have z6 : kk = 6 := by simpa using z6
    have z8 : ¬ d.kind ≠ 8 := by simpa using z8
    refine fin _ H46 ?_ h46
    unfold fitF; rw [if_neg z, if_neg z4, if_pos z6, if_neg z8]
  · have z : ¬ kk = 2 := by simpa using z
    have z4 : ¬ kk = 4 := by simpa using z4
    have z6 : ¬ kk = 6 := by simpa using z6
    refine fin _ H46 ?_ h46
    unfold fitF; rw [if_neg z, if_neg z4, if_neg z6]

/-! ### Lists of lists of operations, handed in -/
abbrev Bz : Nat := 140737488355328
def OldZ (H0 : Heap) (P : List Value → Prop) (c : List Value) : Prop :=
  c = [.slice none 0 0] ∨ ∃ (i : Nat) (cs : List (List Value)), c = [.slice (some ⟨i, 0, none⟩) cs.length 0] ∧ i < H0.next ∧ H0.get i = some (AS.Obj.cells false 0 cs.flatten) ∧ (∀ d ∈ cs, P d) ∧ cs.length ≤ 140737488355328
theorem OldZ.of {P : List Value → Prop} {c : List Value} (h : OldZ H0 P c) : ∃ a n css, c = [.slice a n 0] ∧ OldS H0 a n css ∧ (∀ d ∈ css, P d) ∧ css.length ≤ Bz := by
  rcases h with rfl | ⟨i, cs, rfl, h1, h2, h3, h4⟩
  · exact ⟨none, 0, [], rfl, ⟨rfl, .inl ⟨rfl, rfl⟩⟩, by simp, by simp⟩
  · exact ⟨_, _, cs, rfl, ⟨rfl, .inr ⟨i, rfl, h1, h2⟩⟩, h3, h4⟩
def OpZ (H0 : Heap) (c : List Value) : Prop :=
  ∃ (a18 b19 : List Value), c = a18 ++ b19 ∧ (∃ n : Int, a18 = [.int .i64 n] ∧ (Lit.int .i64 n).wf = true) ∧ (∃ (a20 b21 : List Value), b19 = a20 ++ b21 ∧ (∃ n : Int, a20 = [.int .u64 n] ∧ (Lit.int .u64 n).wf = true) ∧ (∃ (a22 b23 : List Value), b21 = a22 ++ b23 ∧ OldZ H0 (fun d => ∃ n : Int, d = [.int .u64 n] ∧ (Lit.int .u64 n).wf = true) a22 ∧ (∃ (a25 b26 : List Value), b23 = a25 ++ b26 ∧ (∃ n : Int, a25 = [.int .i64 n] ∧ (Lit.int .i64 n).wf = true) ∧ (∃ (a27 b28 : List Value), b26 = a27 ++ b28 ∧ (∃ n : Int, a27 = [.int .i64 n] ∧ (Lit.int .i64 n).wf = true) ∧ b28 = []))))
theorem OpZ.of {c : List Value} (h : OpZ H0 c) : ∃ o : Op, OpC H0 o c ∧ o.val.length ≤ Bz := by
  obtain ⟨_, _, rfl, ⟨k, rfl, _⟩, _, _, rfl, ⟨key, rfl, hk⟩, _, _, rfl, hv, _, _, rfl, ⟨f, rfl, _⟩, _, _, rfl, ⟨cp, rfl, _⟩, rfl⟩ := h
  obtain ⟨a, n, css, rfl, ho, hc, hl⟩ := hv.of
  obtain ⟨l, rfl⟩ := words_of css hc
  obtain ⟨w, rfl⟩ := word_of hk
  rw [List.length_map] at hl
  exact ⟨⟨k, w, l, f, cp⟩, ⟨a, n, rfl, ho⟩, hl⟩
theorem opc_len {o : Op} {c : List Value} (h : OpC H0 o c) : c.length = 5 := by obtain ⟨a, n, rfl, _⟩ := h; rfl
theorem opsC_of {c : List Value} (h : OldZ H0 (OpZ H0) c) : ∃ l : List Op, OpsC H0 l c ∧ l.length ≤ Bz ∧ ∀ x ∈ l, x.val.length ≤ Bz := by
  obtain ⟨a, n, css, rfl, ho, hc, hl⟩ := h.of
  obtain ⟨l, h1, h2⟩ := pick_of (P := fun (o : Op) c => OpC H0 o c ∧ o.val.length ≤ Bz) css fun c hm => (hc c hm).of
  refine ⟨l, ⟨a, n, rfl, by rw [h1]; exact ho.len, css, ho, fun c hm => ?_, fun j o hj => ?_⟩, by rw [h1]; exact hl, fun x hx => ?_⟩
  · obtain ⟨o, h3, _⟩ := (hc c hm).of
    exact opc_len h3
  · obtain ⟨c, h3, h4, _⟩ := h2 j o hj
    exact ⟨c, h3, h4⟩
  · obtain ⟨j, hj, rfl⟩ := List.mem_iff_getElem.1 hx
    obtain ⟨c, _, _, h5⟩ := h2 j _ (List.getElem?_eq_getElem hj)
    exact h5
theorem opsLL_of {c : List Value} (h : OldZ H0 (OldZ H0 (OpZ H0)) c) : ∃ (ll : List (List Op)) (a : Option Addr) (n : Nat), c = [.slice a n 0] ∧ OpsLL H0 a n ll ∧ (∀ l ∈ ll, l.length ≤ Bz) ∧ ∀ l ∈ ll, ∀ x ∈ l, x.val.length ≤ Bz := by
  obtain ⟨a, n, css, rfl, ho, hc, hl⟩ := h.of
  obtain ⟨ll, h1, h2⟩ := pick_of (P := fun (l : List Op) c => OpsC H0 l c ∧ l.length ≤ Bz ∧ ∀ x ∈ l, x.val.length ≤ Bz) css fun c hm => opsC_of (hc c hm)
  refine ⟨ll, a, n, rfl, ⟨by rw [h1]; exact ho.len, css, ho, fun c hm => ?_, fun j o hj => ?_⟩, fun l hm => ?_, fun l hm => ?_⟩
  · obtain ⟨l, ⟨a, n, rfl, _⟩, _⟩ := opsC_of (hc c hm); rfl
  · obtain ⟨c, h3, h4, _⟩ := h2 j o hj
    exact ⟨c, h3, h4⟩
  · obtain ⟨j, hj, rfl⟩ := List.mem_iff_getElem.1 hm
    obtain ⟨c, _, _, h5, _⟩ := h2 j _ (List.getElem?_eq_getElem hj)
    exact h5
  · obtain ⟨j, hj, rfl⟩ := List.mem_iff_getElem.1 hm
    obtain ⟨c, _, _, _, h5⟩ := h2 j _ (List.getElem?_eq_getElem hj)
    exact h5

/-- How many there are. -/
theorem Total_s {n : Nat} {ll : List (List Op)} (o : OpsLL H0 a n ll) (hb : n ≤ 4) (hl : ∀ l ∈ ll, l.length ≤ 140737488355328) (h : Sep H L) (hm : old H0 ∈ L) (hR : ∀ H', Sep H' L → R (I (tot ll)) H') : CA en F.crossbarkit_Total [.slice a n 0] H R := by
  apply vc_crossbarkit_Total
  have hn := o.len
  have hbd : ∀ j, j ≤ ll.length → tot (ll.take j) ≤ j * 140737488355328 := by
    intro j
    induction j with
    | zero => intro _; simp [tot]
    | succ j ih =>
      intro hj
      have hj' : j < ll.length := by omega
      rw [List.take_succ_eq_append_getElem hj', tot_snoc]
      have := hl _ (List.getElem_mem hj')
      have := ih (by omega)
      omega
  refine use_crossbarkit_Total_0 (fun k t3 t4 H => ∃ j : Nat, j ≤ ll.length ∧ k = ll.length - j ∧ t4 = (j : Int) ∧ t3 = (tot (ll.take j) : Int) ∧ Sep H L) ll.length ⟨0, by omega, rfl, rfl, by simp [tot], h⟩ ?_
  clear h
  rintro k t3 t4 ys H3 ⟨j, hj, rfl, rfl, rfl, hs⟩
  refine cond_of (fun h1 => ?_) fun h1 => ?_
  · have hj' : j < ll.length := by simp only [decide_eq_true_eq] at h1; omega
    obtain ⟨i, a', n', rfl, e1, o'⟩ := o.at' hs hm (List.getElem?_eq_getElem hj')
    have e : tot (ll.take (j + 1)) = tot (ll.take j) + n' := by rw [List.take_succ_eq_append_getElem hj', tot_snoc, o'.len]
    have b1 := hbd j hj
    have b2 := hl _ (List.getElem_mem hj')
    rw [← o'.len] at b2
    have b3 : j * 140737488355328 ≤ 4 * 140737488355328 := Nat.mul_le_mul_right _ (by omega)
    refine ⟨by unfold inB; omega, asRow_in ⟨_, _, e1, ll.length - (j + 1), by omega, j + 1, by omega, rfl, by rw [wrap_i64 (by omega)]; omega, ?_, hs⟩⟩
    rw [e, wrap_i64 (by omega)]; omega
  · have e : j = ll.length := by simp only [decide_eq_false_iff_not] at h1; omega
    subst e
    rw [List.take_length]
    exact asInt_in (hR H3 hs)
end Go.Proofs.Ytgpacebjbdhphaa

/-
  Rows of blocks, agents' cells, values that are the same; wherever they stand.
-/
namespace Go.Proofs.Ytgpacebjbdhphaa
open Go Go.AS Go.RowKit
set_option linter.unusedVariables false
variable {H H' H0 : Heap} {R : Value → Heap → Prop} {L M : List Asr} {a b : Option Addr} {ws vs : List (BitVec 64)}

theorem Sep.nwx' {o : AS.Obj} {K : Nat → Heap → Prop} (h : Sep H L) (k : Sep (H.new o) (bx H.next o :: L) → K H.next (H.new o)) : nwH H o K := k (h.new o)
/-! ### A row of a block, wherever the block stands -/
section
variable {i w k j o n : Nat} {ow : Bool} {css : List (List Value)} {row : List Value}
theorem rowld {v : Value} (h : Sep H L) (j : Nat) (hj : L[j]? = some (bx i (.cells ow w (css.set k row).flatten))) (hw : ∀ c ∈ css, c.length = w) (hr : row.length = w) (hk : k < css.length) (ho : row[o]? = some v) : H.cell i (0 + k * w + o) = some v := by
  have hlt : o < w := by have := (List.getElem?_eq_some_iff.1 ho).1; omega
  have hk' : k < (css.set k row).length := by simpa using hk
  rw [cell_of (h.get j hj), Nat.zero_add, rowsFlat_cell (set_rows hw hr) hk' hlt]
  simpa using ho
theorem rowld0 {v : Value} (h : Sep H L) (j : Nat) (hj : L[j]? = some (bx i (.cells ow w (css.set k row).flatten))) (hw : ∀ c ∈ css, c.length = w) (hr : row.length = w) (hk : k < css.length) (ho : row[0]? = some v) : H.cell i (0 + k * w) = some v := rowld (o := 0) h j hj hw hr hk ho
theorem takeAt_row {cs : List Value} {vs : List Value} (h : takeAt row o n = some vs) : ∃ p q, row = p ++ (vs ++ q) ∧ p.length = o ∧ vs.length = n := by
  unfold takeAt at h
  split at h
  · rename_i hl
    obtain rfl := Option.some.inj h
    refine ⟨row.take o, (row.drop o).drop n, ?_, by rw [List.length_take]; omega, by rw [List.length_take, List.length_drop]; omega⟩
    rw [List.take_append_drop, List.take_append_drop]
  · cases h
theorem rowlds {vs : List Value} (h : Sep H L) (j : Nat) (hj : L[j]? = some (bx i (.cells ow w (css.set k row).flatten))) (hw : ∀ c ∈ css, c.length = w) (hr : row.length = w) (hk : k < css.length) (ho : takeAt row o n = some vs) : H.cellsAt i (0 + k * w + o) n = some vs := by
  have hk' : k < (css.set k row).length := by simpa using hk
  have h1 := rowsFlat_len _ (set_rows (k := k) hw hr)
  have hle : k * w + w ≤ (css.set k row).length * w := by rw [← Nat.succ_mul]; exact Nat.mul_le_mul_right _ hk'
  rw [cellsAt_of (h.get j hj), Nat.zero_add]
  unfold takeAt at ho ⊢
  split at ho
  · rename_i hl
    rw [if_pos (by omega), ← List.drop_drop, rowsFlat_drop _ k (set_rows hw hr), List.drop_eq_getElem_cons hk', List.flatten_cons]
    have e : (css.set k row)[k] = row := by simp
    rw [e, List.drop_append_of_le_length (by omega), List.take_append_of_le_length (by rw [List.length_drop]; omega)]
    exact ho
  · cases ho
theorem setAt_app : ∀ (vs : List Value) (p m q : List Value), m.length = vs.length → setAt (p ++ (m ++ q)) p.length vs = p ++ (vs ++ q)
  | [], p, m, q, h => by
    have : m = [] := List.eq_nil_of_length_eq_zero h
    subst this; rfl
  | v :: vs, p, m, q, h => by
    cases m with
    | nil => simp at h
    | cons x m =>
      have e1 : (p ++ (x :: m ++ q)).set p.length v = (p ++ [v]) ++ (m ++ q) := by simp
      show setAt ((p ++ (x :: m ++ q)).set p.length v) (p.length + 1) vs = _
      have e2 : p.length + 1 = (p ++ [v]).length := by simp
      rw [e1, e2, setAt_app vs (p ++ [v]) m q (by simpa using h)]
      simp
theorem rowst {vs : List Value} {K : Heap → Prop} (h : Sep H L) (j : Nat) (hj : L[j]? = some (bx i (.cells true w (css.set k row).flatten))) (hw : ∀ c ∈ css, c.length = w) (hr : row.length = w) (hk : k < css.length) (ho : o + vs.length ≤ w)
    (r : ∀ H', Sep H' (L.set j (bx i (.cells true w (css.set k (setAt row o vs)).flatten))) → K H') : stc H i (0 + k * w + o) vs K := by
  have hk' : k < (css.set k row).length := by simpa using hk
  have hlen := rowsFlat_len _ (set_rows (k := k) hw hr)
  have hle : k * w + w ≤ (css.set k row).length * w := by rw [← Nat.succ_mul]; exact Nat.mul_le_mul_right _ hk'
  refine Sep.st h j hj (by omega) fun H' h' => r H' ?_
  have e : setAt (css.set k row).flatten (0 + k * w + o) vs = (css.set k (setAt row o vs)).flatten := by
    have hkc : (css.set k row)[k]? = some row := by rw [List.getElem?_set_self hk]
    have s1 : css.set k row = css.take k ++ row :: css.drop (k + 1) := by rw [List.set_eq_take_append_cons_drop, if_pos hk]
    have s2 : css.set k (setAt row o vs) = css.take k ++ setAt row o vs :: css.drop (k + 1) := by rw [List.set_eq_take_append_cons_drop, if_pos hk]
    have l1 : (css.take k).flatten.length = k * w := by
      rw [rowsFlat_len (w := w) _ fun c hc => hw c (List.mem_of_mem_take hc), List.length_take, Nat.min_eq_left (by omega)]
    obtain ⟨p, q, ep, lp, lm⟩ := takeAt_row (row := row) (o := o) (n := vs.length) (cs := row) (vs := (row.drop o).take vs.length) (by unfold takeAt; rw [if_pos (by omega)])
    rw [s1, s2, List.flatten_append, List.flatten_append, List.flatten_cons, List.flatten_cons]
    generalize hm : (row.drop o).take vs.length = m at *
    have e3 : setAt row o vs = p ++ (vs ++ q) := by
      conv => lhs; rw [ep]
      rw [← lp]; exact setAt_app vs p m q lm
    rw [e3]
    have e4 : (css.take k).flatten ++ (row ++ (css.drop (k + 1)).flatten) = ((css.take k).flatten ++ p) ++ (m ++ (q ++ (css.drop (k + 1)).flatten)) := by
      conv => lhs; rw [ep]
      simp
    have e5 : 0 + k * w + o = ((css.take k).flatten ++ p).length := by rw [List.length_append, l1, lp]; omega
    rw [e4, e5, setAt_app vs _ m _ lm]
    simp
  rw [e] at h'
  exact h'
theorem rowst0 {vs : List Value} {K : Heap → Prop} (h : Sep H L) (j : Nat) (hj : L[j]? = some (bx i (.cells true w (css.set k row).flatten))) (hw : ∀ c ∈ css, c.length = w) (hr : row.length = w) (hk : k < css.length) (ho : vs.length ≤ w)
    (r : ∀ H', Sep H' (L.set j (bx i (.cells true w (css.set k (setAt row 0 vs)).flatten))) → K H') : stc H i (0 + k * w) vs K := rowst (o := 0) h j hj hw hr hk (by omega) r
end

theorem or_wrap (a b : BitVec 64) : IntKind.u64.wrap (((BitVec.ofInt 64 (a.toNat : Int) ||| BitVec.ofInt 64 (b.toNat : Int)).toNat : Nat) : Int) = (((a ||| b).toNat : Nat) : Int) := by
  rw [ofInt_bv, ofInt_bv, wrap_bv]
theorem wds_get {j : Nat} (h : j < ws.length) : (wds ws)[0 + j * 1]? = some (W (ws.getD j 0)) := by
  rw [Nat.zero_add, Nat.mul_one, List.getElem?_map, List.getElem?_eq_getElem h, List.getD_eq_getElem?_getD, List.getElem?_eq_getElem h]; rfl

theorem setAt1 (cs : List Value) (o : Nat) (v : Value) : setAt cs o [v] = cs.set o v := rfl
theorem rdw_bx {q : Nat} (hm : bx q (.cells true 1 (wds ws)) ∈ L) : RdW L (some ⟨q, 0, none⟩) ws := by
  intro H' hs j x hx
  have hg : H'.get q = some (.cells true 1 (wds ws)) := hs.all _ hm
  exact ⟨q, rfl, by rw [cell_of hg, Nat.zero_add, Nat.mul_one, List.getElem?_map, hx]; rfl⟩

/-! ### What agents are about -/
structure Ak where
  run : Option Addr
  kind : Int
  key : Int
  va : Option Addr
  vn : Nat
  fl : Int
  cp : Int
  at_ : Nat
  had : Bool
  no : Int
  ra : Option Addr
  rn : Nat
  rk : Int
  re : Int
abbrev Ak.cells (k : Ak) : List Value := [.pointer k.run, I k.kind, .int .u64 k.key, .slice k.va k.vn 0, I k.fl, I k.cp, I k.at_, .bool k.had, I k.no, .slice k.ra k.rn 0, .int .u64 k.rk, I k.re]
theorem ak_len (As : List Ak) : ∀ c ∈ As.map Ak.cells, c.length = 12 := by
  intro c hc; obtain ⟨v, _, rfl⟩ := List.mem_map.1 hc; rfl
theorem ak_set {As : List Ak} {k : Nat} {x : Ak} {row : List Value} (h : row = x.cells) : (As.map Ak.cells).set k row = (As.set k x).map Ak.cells := by rw [h, List.map_set]
theorem ak_row {As : List Ak} {k : Nat} {x : Ak} (h : As[k]? = some x) : (As.map Ak.cells).set k x.cells = As.map Ak.cells := by
  refine set_same ?_
  rw [List.getElem?_map, h]; rfl
theorem sameRes (a k e : Int) (p : Option Addr) (l : Nat) : sameN 8 (.agg #[.int .i64 a, .slice p l 0, .int .u64 k, .int .i64 e]) (.agg #[.int .i64 a, .slice p l 0, .int .u64 k, .int .i64 e]) = true := by simp [sameN, sameN.sameL]
theorem sameD (a b c d e : Int) : sameN 8 (.agg #[.int .i64 a, .int .i64 b, .int .i64 c, .int .i64 d, .int .i64 e]) (.agg #[.int .i64 a, .int .i64 b, .int .i64 c, .int .i64 d, .int .i64 e]) = true := by simp [sameN, sameN.sameL]
theorem sameL_refl : ∀ (c : List Value), (∀ v ∈ c, sameN 8 v v = true) → sameN.sameL 8 c c = true
  | [], _ => rfl
  | v :: c, h => by
    show (sameN 8 v v && sameN.sameL 8 c c) = true
    rw [h v (by simp), sameL_refl c fun w hw => h w (by simp [hw])]; rfl
theorem sameObj_refl {z : Nat} {c : List Value} (h : ∀ v ∈ c, sameN 8 v v = true) : sameObj (.cells true z c) (.cells true z c) = true := by
  show (Nat.beq z z && sameN.sameL 8 c c) = true
  rw [sameL_refl c h, Nat.beq_refl]; rfl
theorem mem_reps {v : Value} {z : List Value} : ∀ {n : Nat}, v ∈ reps n z → v ∈ z
  | 0, h => by simp [reps] at h
  | n + 1, h => by
    simp only [reps, List.mem_append] at h
    rcases h with h | h
    · exact h
    · exact mem_reps h
theorem reps_w (n : Nat) : reps n [.int .u64 0] = wds (List.replicate n 0) := by
  rw [reps_one]
  show _ = (List.replicate n (0 : BitVec 64)).map W
  rw [List.map_replicate]; rfl

end Go.Proofs.Ytgpacebjbdhphaa

/-
  Records: what the steps of their runs do, in a memory of one region.
-/
namespace Go.Proofs.Ytgpacebjbdhphaa
open Go Go.AS Go.RowKit
set_option linter.unusedVariables false
variable {H H' : Heap} {m x r b : Nat} {S S' : Sm} {R : Value → Heap → Prop} {L : List Asr} {ws : List (BitVec 64)} {c : Int}

theorem lbegin_s (h : Sep H (mem m S :: L)) (o : One S ws c) (hc : c < 4611686018427387904) {i : Nat} (hi : i < ws.length)
    (hR : ∀ H' S', One S' (ws.set i (ws.getD i 0 + 1)) (c + 1) → Sep H' (mem m S' :: L) → R (.bool true) H') : CA en F.lock_Begin [P m, I 1, I i] H R := by
  apply vc_lock_Begin
  exact more_s h o hc hi fun H' S' o' h' => ⟨_, _, rfl, hR H' S' o' h'⟩
theorem lend_s (h : Sep H (mem m S :: L)) (o : One S ws c) (hc : c < 4611686018427387904) {i : Nat} (hi : i < ws.length)
    (hR : ∀ H' S', One S' (ws.set i (ws.getD i 0 + 1)) (c + 1) → Sep H' (mem m S' :: L) → R (.bool true) H') : CA en F.lock_End [P m, I 1, I i] H R := by
  apply vc_lock_End
  exact lbegin_s h o hc hi fun H' S' o' h' => ⟨_, rfl, hR H' S' o' h'⟩
theorem lread_s (h : Sep H (mem m S :: L)) (o : One S ws c) (hc : c < 4611686018427387904) {i : Nat} (hi : i < ws.length)
    (hR : ∀ H' S', One S' ws (c + 1) → Sep H' (mem m S' :: L) → R (.tuple #[W (ws.getD i 0), .bool (decide ((ws.getD i 0).toNat % 2 = 0))]) H') : CA en F.lock_Read [P m, I 1, I i] H R := by
  apply vc_lock_Read
  refine load1_s h o hc hi fun H' S' o' h' => ⟨_, _, rfl, cond_yes rfl ⟨(by unfold nz; decide), ?_⟩⟩
  have := hR H' S' o' h'
  have e : (Int.tmod ((ws.getD i 0).toNat : Int) 2 == 0) = decide ((ws.getD i 0).toNat % 2 = 0) := by
    rw [Int.tmod_eq_emod_of_nonneg (by omega), Bool.eq_iff_iff, beq_iff_eq, decide_eq_true_eq]; omega
  rw [e]
  exact this
theorem lsame_s (h : Sep H (mem m S :: L)) (o : One S ws c) (hc : c < 4611686018427387904) {i : Nat} (hi : i < ws.length) {n : BitVec 64}
    (hR : ∀ H' S', One S' ws (c + 1) → Sep H' (mem m S' :: L) → R (.bool (decide (ws.getD i 0 = n))) H') : CA en F.lock_Same [P m, I 1, I i, W n] H R := by
  apply vc_lock_Same
  refine load1_s h o hc hi fun H' S' o' h' => ⟨_, _, rfl, cond_yes rfl ?_⟩
  have := hR H' S' o' h'
  rw [bv_beq]
  exact this

/-! ### A run -/
structure Rn where
  kind : Int
  key : Int
  ov : Option Nat
  on : Nat
  fl : Int
  cp : Int
  no : Int
  rv : Option Nat
  rl : Nat
  rk : Int
  re : Int
  nx : Value
  tk : Value
  at' : Int
  n : Int
  s : BitVec 64
abbrev Rn.cells (x : Nat) (q : Rn) : List Value := [P x, I q.kind, .int .u64 q.key, .slice (addr q.ov) q.on 0, I q.fl, I q.cp, I q.no, .slice (addr q.rv) q.rl 0, .int .u64 q.rk, I q.re, q.nx, q.tk, I q.at', I q.n, W q.s]
abbrev rA (r x : Nat) (q : Rn) : Asr := bx r (.cells true 0 (q.cells x))
abbrev fnv (f r : Nat) : Value := .func (.func f) #[P r] #[]
structure Md where
  kind : Int
  entries : Int
  words : Int
  buckets : Int
  inner : Int
abbrev mA (m x : Nat) (d : Md) : Asr := bx x (.cells true 0 [P m, I d.kind, I d.entries, I d.words, I d.buckets, I d.inner, I 1])

variable {q : Rn} {d : Md} {a k : Nat} {vs : List (BitVec 64)}

theorem step_of {f : Nat} (h : Sep H (rA r x q :: L)) (hq : q.nx = fnv f r) (hf : (en.fn f).isSome = true)
    (hC : CA en f [P r] H fun v H' => ∃ b1 b2, v = .tuple #[.bool b1, .bool b2] ∧ R (.tuple #[.bool b1, .bool b2]) H') : CA en F.record_Run_Step [P r] H R := by
  apply vc_record_Run_Step
  refine asAddr_in ⟨_, Sep.ld0 h rfl, ?_⟩
  rw [hq]
  exact asFn_in ⟨Option.isSome_iff_exists.1 hf, hC⟩

theorem slook_s (h : Sep H (rA r x q :: mA m x d :: mem m S :: L)) (hq : q.nx = fnv F.record_Run_look r) (ha : q.at' = (a : Int)) (hs : a < 100000) (o : One S ws c) (hc : c < 4611686018427387904) (hi : a + 2 < ws.length)
    (hR : ∀ H' S', One S' ws (c + 1) → Sep H' (rA r x (if (ws.getD (a + 2) 0).toNat % 2 = 0 then { q with s := ws.getD (a + 2) 0, n := 0, rv := none, rl := 0, nx := fnv F.record_Run_load r } else q) :: mA m x d :: mem m S' :: L) → R (.tuple #[.bool false, .bool false]) H') :
    CA en F.record_Run_Step [P r] H R := by
  refine step_of h hq (by kernel_rfl) ?_
  apply vc_record_Run_look
  have hB := h.bump 25
  refine asAddr_in ⟨_, Sep.ld0 hB rfl, asAddr_in ⟨_, Sep.ld1 hB rfl, asAddr_in ⟨_, Sep.ld0 hB rfl, asAddr_in ⟨_, Sep.ld1 hB rfl, asAddr_in ⟨_, Sep.ld0 hB rfl, ?_⟩⟩⟩⟩⟩
  have e : IntKind.i64.wrap (q.at' + 2) = ((a + 2 : Nat) : Int) := by rw [ha, wrap_i64 (by omega)]; omega
  rw [e]
  refine lread_s (Sep.up2 hB) o hc hi fun H2 S2 o2 h2 => ⟨_, _, rfl, ?_, trivial⟩
  have h3 : Sep H2 (rA r x q :: mA m x d :: mem m S2 :: L) := Sep.pick h2 3 [1, 2, 0] (by decide)
  have := fun H' => hR H' S2 o2
  refine cond_of (fun z => ?_) fun z => ?_
  · have z := of_decide_eq_true z
    rw [if_pos z] at this
    exact asAddr_in (Sep.st0 h3 (Nat.le_of_ble_eq_true rfl) fun H4 h4 => asAddr_in (Sep.st0 h4 (Nat.le_of_ble_eq_true rfl) fun H5 h5 => asAddr_in (Sep.st0 h5 (Nat.le_of_ble_eq_true rfl) fun H6 h6 => asAddr_in (Sep.st0 h6 (Nat.le_of_ble_eq_true rfl) fun H7 h7 => ⟨_, _, rfl, this H7 h7⟩))))
  · have z := of_decide_eq_false z
    rw [if_neg z] at this
    exact ⟨_, _, rfl, this H2 h3⟩

theorem sload_s (h : Sep H (rA r x q :: gl 1 q.rv (wds vs) :: mA m x d :: mem m S :: L)) (hq : q.nx = fnv F.record_Run_load r) (ha : q.at' = (a : Int)) (hk : q.n = (k : Int)) (hkw : (k : Int) < d.words) (hs : a + k < 100000) (hv : q.rl = vs.length) (hvn : q.rv = none → vs = []) (hvl : vs.length < 100000) (o : One S ws c) (hc : c < 4611686018427387904) (hi : a + 3 + k < ws.length)
    (hR : ∀ H' S' v, One S' ws (c + 1) → Sep H' (rA r x { q with rv := some v, rl := vs.length + 1, n := ((k + 1 : Nat) : Int), nx := if ((k + 1 : Nat) : Int) = d.words then fnv F.record_Run_same r else fnv F.record_Run_load r } :: gl 1 (some v) (wds (vs ++ [ws.getD (a + 3 + k) 0])) :: mA m x d :: mem m S' :: L) → R (.tuple #[.bool false, .bool false]) H') :
    CA en F.record_Run_Step [P r] H R := by
  refine step_of h hq (by kernel_rfl) ?_
  apply vc_record_Run_load
  have hB := h.bump 30
  refine asAddr_in ⟨_, Sep.ld0 hB rfl, asAddr_in ⟨_, Sep.ld2 hB rfl, asAddr_in ⟨_, Sep.ld0 hB rfl, asAddr_in ⟨_, Sep.ld2 hB rfl, asAddr_in ⟨_, Sep.ld0 hB rfl, asAddr_in ⟨_, Sep.ld0 hB rfl, ?_⟩⟩⟩⟩⟩⟩
  have e : IntKind.i64.wrap (IntKind.i64.wrap (q.at' + 3) + q.n) = ((a + 3 + k : Nat) : Int) := by rw [ha, hk, wrap_i64 (n := (a : Int) + 3) (by omega), wrap_i64 (by omega)]; omega
  rw [e]
  refine load1_s (Sep.up3 hB) o hc hi fun H2 S2 o2 h2 => ⟨_, _, rfl, ⟨?_, trivial⟩⟩
  have h3 : Sep H2 (rA r x q :: gl 1 q.rv (wds vs) :: mA m x d :: mem m S2 :: L) := Sep.pick h2 4 [1, 2, 3, 0] (by decide)
  refine asAddr_in ⟨_, _, Sep.ld0 h3 rfl, Sep.nw h3 fun i5 H6 h6 => ⟨[W (ws.getD (a + 3 + k) 0)], rowOf_bx (es := 1) (n := 1) (b := i5) (Sep.get0 h6) (by decide) rfl, ?_⟩⟩
  refine apd_gl (b := q.rv) (cs := wds vs) (new := [W (ws.getD (a + 3 + k) 0)]) (Sep.up2 h6) (fun e => by rw [hvn e]; rfl) (by decide) (by rw [hv]; simp) (by decide) rfl (by omega) fun H7 v h7 => ?_
  -- v i5 r x mem
  refine asAddr_in (Sep.st2 h7 (Nat.le_of_ble_eq_true rfl) fun H8 h8 => asAddr_in ⟨_, Sep.ld2 h8 rfl, asAddr_in (Sep.st2 h8 (Nat.le_of_ble_eq_true rfl) fun H9 h9 => ?_)⟩)
  have hB2 := h9.bump 13
  have ek : IntKind.i64.wrap (q.n + 1) = ((k + 1 : Nat) : Int) := by rw [hk, wrap_i64 (by omega)]; omega
  have := fun H' => hR H' S2 v o2
  rw [← hv] at this
  refine asAddr_in ⟨_, Sep.ld2 hB2 rfl, asAddr_in ⟨_, Sep.ld2 hB2 rfl, asAddr_in ⟨_, Sep.ld3 hB2 rfl, ⟨?_, trivial⟩⟩⟩⟩
  rw [ek] at hB2 ⊢
  have ew : wds (vs ++ [ws.getD (a + 3 + k) 0]) = wds vs ++ [W (ws.getD (a + 3 + k) 0)] := by simp
  rw [ew] at this
  refine cond_of (fun z => ?_) fun z => ?_
  · have z : ((k + 1 : Nat) : Int) = d.words := by simpa using z
    rw [if_pos z] at this
    exact asAddr_in (Sep.st2 hB2 (Nat.le_of_ble_eq_true rfl) fun H10 h10 => ⟨_, _, rfl, this H10 (Sep.pick h10 5 [2, 0, 3, 4] (by decide))⟩)
  · have z : ¬ ((k + 1 : Nat) : Int) = d.words := by simpa using z
    rw [if_neg z] at this
    refine ⟨_, _, rfl, this _ ?_⟩
    have h10 := Sep.pick hB2 5 [2, 0, 3, 4] (by decide)
    have e3 : (({ q with rv := some v, rl := q.rl + 1, n := ((k + 1 : Nat) : Int), nx := fnv F.record_Run_load r } : Rn).cells x) = ({ q with rv := some v, rl := q.rl + 1, n := ((k + 1 : Nat) : Int) } : Rn).cells x := by
      show [P x, _, _, _, _, _, _, _, _, _, fnv F.record_Run_load r, _, _, _, _] = _
      rw [← hq]
    unfold rA
    rw [e3]
    exact h10

theorem ssame_s (h : Sep H (rA r x q :: mA m x d :: mem m S :: L)) (hq : q.nx = fnv F.record_Run_same r) (ha : q.at' = (a : Int)) (hs : a < 100000) (o : One S ws c) (hc : c < 4611686018427387904) (hi : a + 2 < ws.length)
    (hY : ws.getD (a + 2) 0 = q.s → ∀ H' S', One S' ws (c + 1) → Sep H' (rA r x { q with nx := fnv F.record_Run_over r } :: mA m x d :: mem m S' :: L) → R (.tuple #[.bool true, .bool true]) H')
    (hN : ws.getD (a + 2) 0 ≠ q.s → ∀ H' S', One S' ws (c + 1) → Sep H' (rA r x { q with nx := fnv F.record_Run_look r } :: mA m x d :: mem m S' :: L) → R (.tuple #[.bool false, .bool false]) H') :
    CA en F.record_Run_Step [P r] H R := by
  refine step_of h hq (by kernel_rfl) ?_
  apply vc_record_Run_same
  have hB := h.bump 25
  refine asAddr_in ⟨_, Sep.ld0 hB rfl, asAddr_in ⟨_, Sep.ld1 hB rfl, asAddr_in ⟨_, Sep.ld0 hB rfl, asAddr_in ⟨_, Sep.ld1 hB rfl, asAddr_in ⟨_, Sep.ld0 hB rfl, asAddr_in ⟨_, Sep.ld0 hB rfl, ?_⟩⟩⟩⟩⟩⟩
  have e : IntKind.i64.wrap (q.at' + 2) = ((a + 2 : Nat) : Int) := by rw [ha, wrap_i64 (by omega)]; omega
  rw [e]
  refine lsame_s (Sep.up2 hB) o hc hi fun H2 S2 o2 h2 => ⟨_, rfl, ⟨?_, trivial⟩⟩
  have h3 : Sep H2 (rA r x q :: mA m x d :: mem m S2 :: L) := Sep.pick h2 3 [1, 2, 0] (by decide)
  refine cond_of (fun z => ?_) fun z => ?_
  · have z : ws.getD (a + 2) 0 ≠ q.s := by simpa using z
    exact asAddr_in (Sep.st0 h3 (Nat.le_of_ble_eq_true rfl) fun H4 h4 => ⟨_, _, rfl, hN z H4 S2 o2 h4⟩)
  · have z : ws.getD (a + 2) 0 = q.s := by simpa using z
    exact asAddr_in (Sep.st0 h3 (Nat.le_of_ble_eq_true rfl) fun H4 h4 => ⟨_, _, rfl, hY z H4 S2 o2 h4⟩)

theorem sdraw_s {t : BitVec 64} (h : Sep H (rA r x q :: tk m a t F.lock_Taker_draw b :: mA m x d :: mem m S :: L)) (hq : q.nx = fnv F.record_Run_take r) (ht : q.tk = P b) (o : One S ws c) (hc : c < 4611686018427387904) (hi : a < ws.length)
    (hR : ∀ H' S', One S' (ws.set a (ws.getD a 0 + 1)) (c + 1) → Sep H' (rA r x q :: tk m a (ws.getD a 0) F.lock_Taker_wait b :: mA m x d :: mem m S' :: L) → R (.tuple #[.bool false, .bool false]) H') :
    CA en F.record_Run_Step [P r] H R := by
  refine step_of h hq (by kernel_rfl) ?_
  apply vc_record_Run_take
  refine asAddr_in ⟨some ⟨b, 0, none⟩, ?_, ?_⟩
  · have := Sep.ld0 (o := 11) (v := q.tk) h rfl
    rw [ht] at this; exact this
  refine draw_s (Sep.pick h 4 [1, 3, 0, 2] (by decide)) o hc hi fun H2 S2 o2 h2 => ⟨_, rfl, cond_no rfl ⟨_, _, rfl, hR H2 S2 o2 ?_⟩⟩
  exact Sep.pick h2 4 [2, 0, 3, 1] (by decide)

theorem swait_s {t : BitVec 64} (h : Sep H (rA r x q :: tk m a t F.lock_Taker_wait b :: mA m x d :: mem m S :: L)) (hq : q.nx = fnv F.record_Run_take r) (ht : q.tk = P b) (o : One S ws c) (hc : c < 4611686018427387904) (hi : a + 1 < ws.length) (hw : ws.length ≤ 65536)
    (hY : ws.getD (a + 1) 0 = t → ∀ H' S', One S' ws (c + 1) → Sep H' (rA r x { q with nx := fnv F.record_Run_begin r } :: tk m a t F.lock_Taker_got b :: mA m x d :: mem m S' :: L) → R (.tuple #[.bool false, .bool false]) H')
    (hN : ws.getD (a + 1) 0 ≠ t → ∀ H' S', One S' ws (c + 1) → Sep H' (rA r x q :: tk m a t F.lock_Taker_wait b :: mA m x d :: mem m S' :: L) → R (.tuple #[.bool false, .bool false]) H') :
    CA en F.record_Run_Step [P r] H R := by
  refine step_of h hq (by kernel_rfl) ?_
  apply vc_record_Run_take
  refine asAddr_in ⟨some ⟨b, 0, none⟩, ?_, ?_⟩
  · have := Sep.ld0 (o := 11) (v := q.tk) h rfl
    rw [ht] at this; exact this
  refine wait_s (Sep.pick h 4 [1, 3, 0, 2] (by decide)) o hc hi hw fun H2 S2 o2 h2 => ⟨_, rfl, ?_⟩
  have h3 := Sep.pick h2 4 [2, 0, 3, 1] (by decide)
  by_cases e : ws.getD (a + 1) 0 = t
  · rw [decide_eq_true e]
    simp only [if_pos e] at h3
    exact cond_yes rfl (asAddr_in (Sep.st0 h3 (Nat.le_of_ble_eq_true rfl) fun H4 h4 => ⟨_, _, rfl, hY e H4 S2 o2 h4⟩))
  · rw [decide_eq_false e]
    simp only [if_neg e] at h3
    exact cond_no rfl ⟨_, _, rfl, hN e H2 S2 o2 h3⟩

theorem sbegin_s (h : Sep H (rA r x q :: mA m x d :: mem m S :: L)) (hq : q.nx = fnv F.record_Run_begin r) (ha : q.at' = (a : Int)) (hs : a < 100000) (o : One S ws c) (hc : c < 4611686018427387904) (hi : a + 2 < ws.length)
    (hR : ∀ H' S', One S' (ws.set (a + 2) (ws.getD (a + 2) 0 + 1)) (c + 1) → Sep H' (rA r x { q with nx := fnv F.record_Run_store r } :: mA m x d :: mem m S' :: L) → R (.tuple #[.bool false, .bool false]) H') :
    CA en F.record_Run_Step [P r] H R := by
  refine step_of h hq (by kernel_rfl) ?_
  apply vc_record_Run_begin
  have hB := h.bump 20
  refine asAddr_in ⟨_, Sep.ld0 hB rfl, asAddr_in ⟨_, Sep.ld1 hB rfl, asAddr_in ⟨_, Sep.ld0 hB rfl, asAddr_in ⟨_, Sep.ld1 hB rfl, asAddr_in ⟨_, Sep.ld0 hB rfl, ?_⟩⟩⟩⟩⟩
  have e : IntKind.i64.wrap (q.at' + 2) = ((a + 2 : Nat) : Int) := by rw [ha, wrap_i64 (by omega)]; omega
  rw [e]
  refine lbegin_s (Sep.up2 hB) o hc hi fun H2 S2 o2 h2 => ⟨_, rfl, ⟨?_, trivial⟩⟩
  exact asAddr_in (Sep.st1 h2 (Nat.le_of_ble_eq_true rfl) fun H4 h4 => ⟨_, _, rfl, hR H4 S2 o2 (Sep.pick h4 3 [1, 2, 0] (by decide))⟩)

theorem sstore_s (h : Sep H (rA r x q :: gl 1 q.ov (wds vs) :: mA m x d :: mem m S :: L)) (hq : q.nx = fnv F.record_Run_store r) (ha : q.at' = (a : Int)) (hk : q.n = (k : Int)) (hs : a + k < 100000) (hv : q.on = vs.length) (hkv : k < vs.length) (hvn : q.ov = none → vs = []) (o : One S ws c) (hc : c < 4611686018427387904) (hi : a + 3 + k < ws.length)
    (hR : ∀ H' S', One S' (ws.set (a + 3 + k) (vs.getD k 0)) (c + 1) → Sep H' (rA r x { q with n := ((k + 1 : Nat) : Int), nx := if ((k + 1 : Nat) : Int) = d.words then fnv F.record_Run_end r else fnv F.record_Run_store r } :: gl 1 q.ov (wds vs) :: mA m x d :: mem m S' :: L) → R (.tuple #[.bool false, .bool false]) H') :
    CA en F.record_Run_Step [P r] H R := by
  refine step_of h hq (by kernel_rfl) ?_
  apply vc_record_Run_store
  have hB := h.bump 36
  cases hov : q.ov with
  | none => rw [hvn hov] at hkv; simp at hkv
  | some g =>
    have hB' := Sep.up1 hB
    rw [hov] at hB'
    have hrow : ∀ {K : Nat → Nat → Prop}, K g 0 → asRow (addr q.ov) K := fun h => by rw [hov]; exact h
    have hcl : (H.bump 36).cell g (0 + k * 1) = some (W (vs.getD k 0)) := by
      rw [cell_of (gl_get hB'), Nat.zero_add, Nat.mul_one, List.getElem?_map, List.getElem?_eq_getElem hkv, List.getD_eq_getElem?_getD, List.getElem?_eq_getElem hkv]; rfl
    refine asAddr_in ⟨_, Sep.ld0 hB rfl, asAddr_in ⟨_, Sep.ld2 hB rfl, asAddr_in ⟨_, Sep.ld0 hB rfl, asAddr_in ⟨_, Sep.ld2 hB rfl, asAddr_in ⟨_, Sep.ld0 hB rfl, asAddr_in ⟨_, Sep.ld0 hB rfl, asAddr_in ⟨_, _, Sep.ld0 hB rfl, asAddr_in ⟨_, Sep.ld0 hB rfl, ?_⟩⟩⟩⟩⟩⟩⟩⟩
    have e : IntKind.i64.wrap (IntKind.i64.wrap (q.at' + 3) + q.n) = ((a + 3 + k : Nat) : Int) := by rw [ha, hk, wrap_i64 (n := (a : Int) + 3) (by omega), wrap_i64 (by omega)]; omega
    rw [e, hk, Int.toNat_natCast]
    refine ⟨by unfold inB; omega, hrow ⟨_, hcl, ?_⟩⟩
    refine store1_s (Sep.up3 hB) o hc hi fun H2 S2 o2 h2 => ⟨_, rfl, ⟨?_, trivial⟩⟩
    have h3 : Sep H2 (rA r x q :: gl 1 q.ov (wds vs) :: mA m x d :: mem m S2 :: L) := Sep.pick h2 4 [1, 2, 3, 0] (by decide)
    refine asAddr_in ⟨_, Sep.ld0 h3 rfl, asAddr_in (Sep.st0 h3 (Nat.le_of_ble_eq_true rfl) fun H4 h4 => ?_)⟩
    have hB2 := h4.bump 13
    have ek : IntKind.i64.wrap (q.n + 1) = ((k + 1 : Nat) : Int) := by rw [hk, wrap_i64 (by omega)]; omega
    have := fun H' => hR H' S2 o2
    refine asAddr_in ⟨_, Sep.ld0 hB2 rfl, asAddr_in ⟨_, Sep.ld0 hB2 rfl, asAddr_in ⟨_, Sep.ld2 hB2 rfl, ⟨?_, trivial⟩⟩⟩⟩
    rw [ek] at hB2 ⊢
    refine cond_of (fun z => ?_) fun z => ?_
    · have z : ((k + 1 : Nat) : Int) = d.words := by simpa using z
      rw [if_pos z] at this
      refine asAddr_in (Sep.st0 hB2 (Nat.le_of_ble_eq_true rfl) fun H10 h10 => ⟨_, _, rfl, this H10 ?_⟩)
      exact h10
    · have z : ¬ ((k + 1 : Nat) : Int) = d.words := by simpa using z
      rw [if_neg z] at this
      refine ⟨_, _, rfl, this _ ?_⟩
      have e3 : (({ q with n := ((k + 1 : Nat) : Int), nx := fnv F.record_Run_store r } : Rn).cells x) = ({ q with n := ((k + 1 : Nat) : Int) } : Rn).cells x := by
        show [P x, _, _, _, _, _, _, _, _, _, fnv F.record_Run_store r, _, _, _, _] = _
        rw [← hq]
      unfold rA
      rw [e3]
      exact hB2

theorem send_s (h : Sep H (rA r x q :: mA m x d :: mem m S :: L)) (hq : q.nx = fnv F.record_Run_end r) (ha : q.at' = (a : Int)) (hs : a < 100000) (o : One S ws c) (hc : c < 4611686018427387904) (hi : a + 2 < ws.length)
    (hR : ∀ H' S', One S' (ws.set (a + 2) (ws.getD (a + 2) 0 + 1)) (c + 1) → Sep H' (rA r x { q with nx := fnv F.record_Run_drop r } :: mA m x d :: mem m S' :: L) → R (.tuple #[.bool true, .bool false]) H') :
    CA en F.record_Run_Step [P r] H R := by
  refine step_of h hq (by kernel_rfl) ?_
  apply vc_record_Run_end
  have hB := h.bump 20
  refine asAddr_in ⟨_, Sep.ld0 hB rfl, asAddr_in ⟨_, Sep.ld1 hB rfl, asAddr_in ⟨_, Sep.ld0 hB rfl, asAddr_in ⟨_, Sep.ld1 hB rfl, asAddr_in ⟨_, Sep.ld0 hB rfl, ?_⟩⟩⟩⟩⟩
  have e : IntKind.i64.wrap (q.at' + 2) = ((a + 2 : Nat) : Int) := by rw [ha, wrap_i64 (by omega)]; omega
  rw [e]
  refine lend_s (Sep.up2 hB) o hc hi fun H2 S2 o2 h2 => ⟨_, rfl, ⟨?_, trivial⟩⟩
  exact asAddr_in (Sep.st1 h2 (Nat.le_of_ble_eq_true rfl) fun H4 h4 => ⟨_, _, rfl, hR H4 S2 o2 (Sep.pick h4 3 [1, 2, 0] (by decide))⟩)

theorem sdrop_s (h : Sep H (rA r x q :: mA m x d :: mem m S :: L)) (hq : q.nx = fnv F.record_Run_drop r) (ha : q.at' = (a : Int)) (hs : a < 100000) (o : One S ws c) (hc : c < 4611686018427387904) (hi : a + 1 < ws.length) (hw : ws.length ≤ 65536)
    (hR : ∀ H' S', One S' (ws.set (a + 1) (ws.getD (a + 1) 0 + 1)) (c + 1) → Sep H' (rA r x { q with nx := fnv F.record_Run_over r } :: mA m x d :: mem m S' :: L) → R (.tuple #[.bool false, .bool true]) H') :
    CA en F.record_Run_Step [P r] H R := by
  refine step_of h hq (by kernel_rfl) ?_
  apply vc_record_Run_drop
  have hB := h.bump 19
  refine asAddr_in ⟨_, Sep.ld0 hB rfl, asAddr_in ⟨_, Sep.ld1 hB rfl, asAddr_in ⟨_, Sep.ld0 hB rfl, asAddr_in ⟨_, Sep.ld1 hB rfl, asAddr_in ⟨_, Sep.ld0 hB rfl, ?_⟩⟩⟩⟩⟩
  rw [ha]
  refine drop_s (Sep.up2 hB) o hc hi hw fun H2 S2 o2 h2 => ⟨_, rfl, ⟨?_, trivial⟩⟩
  exact asAddr_in (Sep.st1 h2 (Nat.le_of_ble_eq_true rfl) fun H4 h4 => ⟨_, _, rfl, hR H4 S2 o2 (Sep.pick h4 3 [1, 2, 0] (by decide))⟩)
end Go.Proofs.Ytgpacebjbdhphaa

/-
  Records without a program: what agents do in turn, step by step; that values are whole, and that all come to their ends.
-/
namespace Go.Proofs.Ytgpacebjbdhphaa.Rr
set_option linter.unusedVariables false
abbrev Ws := List (BitVec 64)

/-- An entry: who draws next, who is served, the stamp, the words; what the document has. -/
structure Ent where
  dr : Nat
  sv : Nat
  st : Nat
  wd : Ws
  val : Ws
/-- A run: a reader of an entry (0 looks, 1 loads, 2 looks again), or a writer (0 draws, 1 waits, 2 begins, 3 stores, 4 ends, 5 drops). -/
inductive Run where
  | rd (e ph seen : Nat) (vals : Ws)
  | wr (e : Nat) (v : Ws) (ph n t : Nat)
def Run.e : Run → Nat
  | .rd e _ _ _ => e
  | .wr e _ _ _ _ => e
/-- A step; none: it is done. -/
def Run.step (N : Nat) (en : Ent) : Run → Ent × Option Run
  | .rd e ph seen vals =>
    if ph = 0 then (if en.st % 2 = 0 then (en, some (.rd e 1 en.st [])) else (en, some (.rd e 0 seen vals)))
    else if ph = 1 then (en, some (.rd e (if vals.length + 1 = N then 2 else 1) seen (vals ++ [en.wd.getD vals.length 0])))
    else if en.st = seen then (en, none) else (en, some (.rd e 0 seen vals))
  | .wr e v ph n t =>
    if ph = 0 then ({ en with dr := en.dr + 1 }, some (.wr e v 1 n en.dr))
    else if ph = 1 then (if en.sv = t then (en, some (.wr e v 2 n t)) else (en, some (.wr e v 1 n t)))
    else if ph = 2 then ({ en with st := en.st + 1 }, some (.wr e v 3 n t))
    else if ph = 3 then ({ en with wd := en.wd.set n (v.getD n 0) }, some (.wr e v (if n + 1 = N then 4 else 3) (n + 1) t))
    else if ph = 4 then ({ en with st := en.st + 1, val := v }, some (.wr e v 5 n t))
    else ({ en with sv := en.sv + 1 }, none)

theorem step_rd (N : Nat) (en : Ent) (e ph seen : Nat) (vals : Ws) : (Run.rd e ph seen vals).step N en =
    if ph = 0 then (if en.st % 2 = 0 then (en, some (.rd e 1 en.st [])) else (en, some (.rd e 0 seen vals)))
    else if ph = 1 then (en, some (.rd e (if vals.length + 1 = N then 2 else 1) seen (vals ++ [en.wd.getD vals.length 0])))
    else if en.st = seen then (en, none) else (en, some (.rd e 0 seen vals)) := rfl
theorem step_wr (N : Nat) (en : Ent) (e : Nat) (v : Ws) (ph n t : Nat) : (Run.wr e v ph n t).step N en =
    if ph = 0 then ({ en with dr := en.dr + 1 }, some (.wr e v 1 n en.dr))
    else if ph = 1 then (if en.sv = t then (en, some (.wr e v 2 n t)) else (en, some (.wr e v 1 n t)))
    else if ph = 2 then ({ en with st := en.st + 1 }, some (.wr e v 3 n t))
    else if ph = 3 then ({ en with wd := en.wd.set n (v.getD n 0) }, some (.wr e v (if n + 1 = N then 4 else 3) (n + 1) t))
    else if ph = 4 then ({ en with st := en.st + 1, val := v }, some (.wr e v 5 n t))
    else ({ en with sv := en.sv + 1 }, none) := rfl
theorem step_e {N : Nat} {en : Ent} {r r' : Run} (h : (r.step N en).2 = some r') : r'.e = r.e := by
  revert h
  cases r with
  | rd e1 ph seen vals =>
    rw [step_rd]
    repeat' split
    all_goals (intro h; cases h; try rfl)
  | wr e1 v ph n t =>
    rw [step_wr]
    repeat' split
    all_goals (intro h; cases h; try rfl)

/-- Agents: what they are about. -/
abbrev Ags := List (Option Run)
def On (As : Ags) (i : Nat) (r : Run) : Prop := As[i]? = some (some r)
theorem On.set {As : Ags} {k i : Nat} {x : Option Run} {r : Run} (h : On (As.set k x) i r) : (i = k ∧ x = some r) ∨ (i ≠ k ∧ On As i r) := by
  unfold On at h ⊢
  rw [List.getElem?_set] at h
  by_cases e : k = i
  · rw [if_pos e] at h
    split at h
    · exact .inl ⟨e.symm, Option.some.inj h⟩
    · cases h
  · rw [if_neg e] at h
    exact .inr ⟨fun h => e h.symm, h⟩
theorem On.keep {As : Ags} {k i : Nat} {x : Option Run} {r : Run} (h : On As i r) (hi : i ≠ k) : On (As.set k x) i r := by
  unfold On at h ⊢
  rw [List.getElem?_set_ne (fun e => hi e.symm)]; exact h
theorem On.here {As : Ags} {k : Nat} {r : Run} (hk : k < As.length) : On (As.set k (some r)) k r := by
  unfold On
  rw [List.getElem?_set_self hk]
theorem On.inj {As : Ags} {i : Nat} {r r' : Run} (h : On As i r) (h' : On As i r') : r = r' := by
  unfold On at h h'
  rw [h] at h'
  exact Option.some.inj (Option.some.inj h')

/-- What holds of an entry and of those who are about it. -/
structure EInv (N : Nat) (As : Ags) (e : Nat) (en : Ent) : Prop where
  len : en.wd.length = N
  lval : en.val.length = N
  le : en.sv ≤ en.dr
  tk : ∀ i v ph n t, On As i (.wr e v ph n t) → 1 ≤ ph → en.sv ≤ t ∧ t < en.dr
  all : ∀ t, en.sv ≤ t → t < en.dr → ∃ i v ph n, On As i (.wr e v ph n t) ∧ 1 ≤ ph
  dist : ∀ i j v v' ph ph' n n' t, On As i (.wr e v ph n t) → On As j (.wr e v' ph' n' t) → 1 ≤ ph → 1 ≤ ph' → i = j
  hold : ∀ i v ph n t, On As i (.wr e v ph n t) → 2 ≤ ph → t = en.sv
  fr : ∀ i v ph n t, On As i (.wr e v ph n t) → ph ≤ 5 ∧ v.length = N ∧ (ph < 3 → n = 0) ∧ (ph = 3 → n < N)
  even : (∀ i v ph n t, On As i (.wr e v ph n t) → ph ≠ 3 ∧ ph ≠ 4) → en.st % 2 = 0 ∧ en.wd = en.val
  b3 : ∀ i v n t, On As i (.wr e v 3 n t) → en.st % 2 = 1 ∧ en.wd = v.take n ++ en.val.drop n
  b4 : ∀ i v n t, On As i (.wr e v 4 n t) → en.st % 2 = 1 ∧ en.wd = v
  rd : ∀ i ph seen vals, On As i (.rd e ph seen vals) → ph ≤ 2 ∧ (1 ≤ ph → seen % 2 = 0 ∧ seen ≤ en.st ∧ vals.length ≤ N ∧ (ph = 1 → vals.length < N) ∧ (ph = 2 → vals.length = N) ∧ (seen = en.st → vals = en.val.take vals.length))

variable {N : Nat} {As : Ags} {e k : Nat} {en : Ent}

theorem EInv.one (h : EInv N As e en) {i j : Nat} {v v' : Ws} {ph ph' n n' t t' : Nat} (hi : On As i (.wr e v ph n t)) (hj : On As j (.wr e v' ph' n' t')) (p : 2 ≤ ph) (p' : 2 ≤ ph') : i = j := by
  have e1 := h.hold i v ph n t hi p
  have e2 := h.hold j v' ph' n' t' hj p'
  subst e1; subst e2
  exact h.dist i j v v' ph ph' n n' _ hi hj (by omega) (by omega)

/-- Another entry's agent steps. -/
theorem EInv.other (h : EInv N As e en) {x : Option Run} {r : Option Run} (hk : As[k]? = some r) (hr : ∀ r', r = some r' → r'.e ≠ e) (hx : ∀ r', x = some r' → r'.e ≠ e) : EInv N (As.set k x) e en := by
  have to : ∀ {i : Nat} {r' : Run}, On (As.set k x) i r' → r'.e = e → On As i r' := fun ho he => by
    rcases ho.set with ⟨_, e1⟩ | ⟨_, h1⟩
    · exact absurd he (hx _ e1)
    · exact h1
  have fro : ∀ {i : Nat} {r' : Run}, On As i r' → r'.e = e → On (As.set k x) i r' := fun ho he => by
    refine ho.keep ?_
    rintro rfl
    unfold On at ho
    rw [hk] at ho
    exact hr _ (Option.some.inj ho) he
  refine ⟨h.len, h.lval, h.le, fun i v ph n t ho p => h.tk i v ph n t (to ho rfl) p, fun t h1 h2 => ?_, fun i j v v' ph ph' n n' t h1 h2 => h.dist i j v v' ph ph' n n' t (to h1 rfl) (to h2 rfl), fun i v ph n t ho => h.hold i v ph n t (to ho rfl), fun i v ph n t ho => h.fr i v ph n t (to ho rfl), fun ha => h.even fun i v ph n t ho => ha i v ph n t (fro ho rfl), fun i v n t ho => h.b3 i v n t (to ho rfl), fun i v n t ho => h.b4 i v n t (to ho rfl), fun i ph seen vals ho => h.rd i ph seen vals (to ho rfl)⟩
  obtain ⟨i, v, ph, n, h3, h4⟩ := h.all t h1 h2
  exact ⟨i, v, ph, n, fro h3 rfl, h4⟩

/-- A reader's step (or its beginning, or its end). -/
theorem EInv.read (h : EInv N As e en) {x : Option Run} (hk : ∀ v ph n t, ¬ On As k (.wr e v ph n t)) (hw : ∀ v ph n t, x ≠ some (.wr e v ph n t))
    (hx : ∀ ph seen vals, x = some (.rd e ph seen vals) → ph ≤ 2 ∧ (1 ≤ ph → seen % 2 = 0 ∧ seen ≤ en.st ∧ vals.length ≤ N ∧ (ph = 1 → vals.length < N) ∧ (ph = 2 → vals.length = N) ∧ (seen = en.st → vals = en.val.take vals.length))) : EInv N (As.set k x) e en := by
  have to : ∀ {i : Nat} {v : Ws} {ph n t : Nat}, On (As.set k x) i (.wr e v ph n t) → On As i (.wr e v ph n t) := fun ho => by
    rcases ho.set with ⟨_, e1⟩ | ⟨_, h1⟩
    · exact absurd e1 (hw _ _ _ _)
    · exact h1
  have fro : ∀ {i : Nat} {v : Ws} {ph n t : Nat}, On As i (.wr e v ph n t) → On (As.set k x) i (.wr e v ph n t) := fun ho => by
    refine ho.keep ?_
    rintro rfl
    exact hk _ _ _ _ ho
  refine ⟨h.len, h.lval, h.le, fun i v ph n t ho p => h.tk i v ph n t (to ho) p, fun t h1 h2 => ?_, fun i j v v' ph ph' n n' t h1 h2 => h.dist i j v v' ph ph' n n' t (to h1) (to h2), fun i v ph n t ho => h.hold i v ph n t (to ho), fun i v ph n t ho => h.fr i v ph n t (to ho), fun ha => h.even fun i v ph n t ho => ha i v ph n t (fro ho), fun i v n t ho => h.b3 i v n t (to ho), fun i v n t ho => h.b4 i v n t (to ho), fun i ph seen vals ho => ?_⟩
  · obtain ⟨i, v, ph, n, h3, h4⟩ := h.all t h1 h2
    exact ⟨i, v, ph, n, fro h3, h4⟩
  · rcases ho.set with ⟨_, e1⟩ | ⟨_, h1⟩
    · exact hx ph seen vals e1
    · exact h.rd i ph seen vals h1

/-- A writer that is not yet one of those who have drawn. -/
theorem EInv.fresh (h : EInv N As e en) {v : Ws} {t : Nat} (hk : As[k]? = some none) (hv : v.length = N) : EInv N (As.set k (some (.wr e v 0 0 t))) e en := by
  have hno : ∀ r, ¬ On As k r := fun r ho => by unfold On at ho; rw [hk] at ho; cases ho
  have to : ∀ {i : Nat} {v' : Ws} {ph n t' : Nat}, On (As.set k (some (.wr e v 0 0 t))) i (.wr e v' ph n t') → 1 ≤ ph → On As i (.wr e v' ph n t') := fun ho p => by
    rcases ho.set with ⟨_, e1⟩ | ⟨_, h1⟩
    · cases e1; omega
    · exact h1
  have fro : ∀ {i : Nat} {r : Run}, On As i r → On (As.set k (some (.wr e v 0 0 t))) i r := fun ho => ho.keep (by rintro rfl; exact hno _ ho)
  refine ⟨h.len, h.lval, h.le, fun i v ph n t ho p => h.tk i v ph n t (to ho p) p, fun t h1 h2 => ?_, fun i j v v' ph ph' n n' t h1 h2 p p' => h.dist i j v v' ph ph' n n' t (to h1 p) (to h2 p') p p', fun i v ph n t ho p => h.hold i v ph n t (to ho (by omega)) p, fun i v' ph n t' ho => ?_, fun ha => h.even fun i v ph n t ho => ha i v ph n t (fro ho), fun i v n t ho => h.b3 i v n t (to ho (by omega)), fun i v n t ho => h.b4 i v n t (to ho (by omega)), fun i ph seen vals ho => ?_⟩
  · obtain ⟨i, v, ph, n, h3, h4⟩ := h.all t h1 h2
    exact ⟨i, v, ph, n, fro h3, h4⟩
  · rcases ho.set with ⟨_, e1⟩ | ⟨_, h1⟩
    · cases e1; exact ⟨by omega, hv, fun _ => rfl, fun h => by cases h⟩
    · exact h.fr i v' ph n t' h1
  · rcases ho.set with ⟨_, e1⟩ | ⟨_, h1⟩
    · cases e1
    · exact h.rd i ph seen vals h1

/-- A writer draws. -/
theorem EInv.draw (h : EInv N As e en) {v : Ws} {n t : Nat} (hk : On As k (.wr e v 0 n t)) : EInv N (As.set k (some (.wr e v 1 n en.dr))) e { en with dr := en.dr + 1 } := by
  have hkl : k < As.length := (List.getElem?_eq_some_iff.1 hk).1
  have hf := h.fr k v 0 n t hk
  have hle := h.le
  refine ⟨h.len, h.lval, by show en.sv ≤ en.dr + 1; omega, fun i v' ph n' t' ho p => ?_, fun t' h1 h2 => ?_, fun i j v1 v2 ph ph' n1 n2 t' h1 h2 p p' => ?_, fun i v' ph n' t' ho p => ?_, fun i v' ph n' t' ho => ?_, fun ha => h.even fun i v' ph n' t' ho => ?_, fun i v' n' t' ho => ?_, fun i v' n' t' ho => ?_, fun i ph seen vals ho => ?_⟩
  · rcases ho.set with ⟨_, e1⟩ | ⟨_, h1⟩
    · cases e1; exact ⟨hle, Nat.lt_succ_self _⟩
    · have := h.tk i v' ph n' t' h1 p
      exact ⟨this.1, Nat.lt_succ_of_lt this.2⟩
  · have h2 : t' < en.dr + 1 := h2
    by_cases e1 : t' = en.dr
    · subst e1; exact ⟨k, v, 1, n, On.here hkl, by omega⟩
    · obtain ⟨i, v', ph, n', h3, h4⟩ := h.all t' h1 (by omega)
      refine ⟨i, v', ph, n', h3.keep ?_, h4⟩
      rintro rfl
      cases hk.inj h3; omega
  · rcases h1.set with ⟨e1, e2⟩ | ⟨n1', h1⟩ <;> rcases h2.set with ⟨e3, e4⟩ | ⟨n2', h2⟩
    · omega
    · cases e2; have := (h.tk j v2 ph' n2 en.dr h2 p').2; omega
    · cases e4; have := (h.tk i v1 ph n1 en.dr h1 p).2; omega
    · exact h.dist i j v1 v2 ph ph' n1 n2 t' h1 h2 p p'
  · rcases ho.set with ⟨_, e1⟩ | ⟨_, h1⟩
    · cases e1; omega
    · exact h.hold i v' ph n' t' h1 p
  · rcases ho.set with ⟨_, e1⟩ | ⟨_, h1⟩
    · cases e1; exact ⟨by omega, hf.2.1, fun _ => hf.2.2.1 (by omega), fun h => by cases h⟩
    · exact h.fr i v' ph n' t' h1
  · by_cases hik : i = k
    · subst hik; cases hk.inj ho; omega
    · exact ha i v' ph n' t' (ho.keep hik)
  · rcases ho.set with ⟨_, e1⟩ | ⟨_, h1⟩
    · cases e1
    · exact h.b3 i v' n' t' h1
  · rcases ho.set with ⟨_, e1⟩ | ⟨_, h1⟩
    · cases e1
    · exact h.b4 i v' n' t' h1
  · rcases ho.set with ⟨_, e1⟩ | ⟨_, h1⟩
    · cases e1
    · exact h.rd i ph seen vals h1

/-- A writer that has drawn goes on: its number stays. -/
theorem EInv.go (h : EInv N As e en) {v : Ws} {ph n n' t ph' st' : Nat} {wd' val' : Ws} (hk : On As k (.wr e v ph n t)) (p : 1 ≤ ph) (p' : ph' ≤ 5) (pp : 2 ≤ ph')
    (ht : t = en.sv) (hn : (ph' < 3 → n' = 0) ∧ (ph' = 3 → n' < N)) (hl : wd'.length = N) (hl2 : val'.length = N)
    (heven : ph' ≠ 3 → ph' ≠ 4 → st' % 2 = 0 ∧ wd' = val') (h3 : ph' = 3 → st' % 2 = 1 ∧ wd' = v.take n' ++ val'.drop n') (h4 : ph' = 4 → st' % 2 = 1 ∧ wd' = v)
    (hr : ∀ seen, seen % 2 = 0 → seen ≤ en.st → seen ≤ st' ∧ (seen = st' → st' = en.st ∧ val' = en.val)) : EInv N (As.set k (some (.wr e v ph' n' t))) e { en with st := st', wd := wd', val := val' } := by
  have hkl : k < As.length := (List.getElem?_eq_some_iff.1 hk).1
  have hf := h.fr k v ph n t hk
  have only : ∀ {i : Nat} {v1 : Ws} {ph1 n1 t1 : Nat}, On As i (.wr e v1 ph1 n1 t1) → i ≠ k → ph1 < 2 := fun ho hi => by
    refine Classical.byContradiction fun hc => hi ?_
    have e1 := h.hold _ _ _ _ _ ho (by omega)
    subst ht; subst e1
    exact h.dist _ _ _ _ _ _ _ _ _ ho hk (by omega) p
  refine ⟨hl, hl2, h.le, fun i v' ph1 n1 t' ho p1 => ?_, fun t' h1 h2 => ?_, fun i j v1 v2 ph1 ph2 n1 n2 t' h1 h2 p1 p2 => ?_, fun i v' ph1 n1 t' ho p1 => ?_, fun i v' ph1 n1 t' ho => ?_, fun ha => ?_, fun i v' n1 t' ho => ?_, fun i v' n1 t' ho => ?_, fun i ph1 seen vals ho => ?_⟩
  · rcases ho.set with ⟨_, e1⟩ | ⟨_, h1⟩
    · cases e1; exact h.tk k v ph n t hk p
    · exact h.tk i v' ph1 n1 t' h1 p1
  · obtain ⟨i, v', ph1, n1, h3, h4⟩ := h.all t' h1 h2
    by_cases hik : i = k
    · subst hik; cases hk.inj h3; exact ⟨i, v, ph', n', On.here hkl, by omega⟩
    · exact ⟨i, v', ph1, n1, h3.keep hik, h4⟩
  · rcases h1.set with ⟨e1, e2⟩ | ⟨n1', h1⟩ <;> rcases h2.set with ⟨e3, e4⟩ | ⟨n2', h2⟩
    · omega
    · cases e2; exact e1.trans (h.dist k j v v2 ph ph2 n n2 t hk h2 p p2)
    · cases e4; exact (h.dist i k v1 v ph1 ph n1 n t h1 hk p1 p).trans e3.symm
    · exact h.dist i j v1 v2 ph1 ph2 n1 n2 t' h1 h2 p1 p2
  · rcases ho.set with ⟨_, e1⟩ | ⟨_, h1⟩
    · cases e1; exact ht
    · exact h.hold i v' ph1 n1 t' h1 p1
  · rcases ho.set with ⟨_, e1⟩ | ⟨_, h1⟩
    · cases e1; exact ⟨p', hf.2.1, hn⟩
    · exact h.fr i v' ph1 n1 t' h1
  · have := ha k v ph' n' t (On.here hkl)
    exact heven this.1 this.2
  · rcases ho.set with ⟨_, e1⟩ | ⟨hik, h1⟩
    · cases e1; exact h3 rfl
    · have := only h1 hik; omega
  · rcases ho.set with ⟨_, e1⟩ | ⟨hik, h1⟩
    · cases e1; exact h4 rfl
    · have := only h1 hik; omega
  · rcases ho.set with ⟨_, e1⟩ | ⟨_, h1⟩
    · cases e1
    · have := h.rd i ph1 seen vals h1
      refine ⟨this.1, fun p1 => ?_⟩
      obtain ⟨q1, q2, q3, q4, q5, q6⟩ := this.2 p1
      obtain ⟨q7, q8⟩ := hr seen q1 q2
      refine ⟨q1, q7, q3, q4, q5, fun es => ?_⟩
      obtain ⟨e1, e2⟩ := q8 es
      rw [e2]
      exact q6 (es.trans e1)

/-- A writer drops the lock. -/
theorem EInv.drop (h : EInv N As e en) {v : Ws} {n t : Nat} (hk : On As k (.wr e v 5 n t)) : EInv N (As.set k none) e { en with sv := en.sv + 1 } := by
  have hkl : k < As.length := (List.getElem?_eq_some_iff.1 hk).1
  have ht := h.hold k v 5 n t hk (by omega)
  have htk := h.tk k v 5 n t hk (by omega)
  have only : ∀ {i : Nat} {v1 : Ws} {ph1 n1 t1 : Nat}, On As i (.wr e v1 ph1 n1 t1) → i ≠ k → 1 ≤ ph1 → ph1 = 1 ∧ en.sv + 1 ≤ t1 := fun {i v1 ph1 n1 t1} ho hi p1 => by
    have hne : ¬ t1 = t := fun e1 => hi (by rw [e1] at ho; exact h.dist _ _ _ _ _ _ _ _ _ ho hk p1 (by omega))
    have h1 := h.tk _ _ _ _ _ ho p1
    have hlt : ¬ 2 ≤ ph1 := fun h2 => hne (by rw [h.hold _ _ _ _ _ ho h2, ht])
    exact ⟨by omega, by omega⟩
  have out : ∀ {i : Nat} {r : Run}, On (As.set k none) i r → i ≠ k ∧ On As i r := fun ho => by
    rcases ho.set with ⟨_, e1⟩ | h1
    · cases e1
    · exact h1
  refine ⟨h.len, h.lval, by show en.sv + 1 ≤ en.dr; omega, fun i v' ph n' t' ho p => ?_, fun t' h1 h2 => ?_, fun i j v1 v2 ph1 ph2 n1 n2 t' h1 h2 p1 p2 => h.dist i j v1 v2 ph1 ph2 n1 n2 t' (out h1).2 (out h2).2 p1 p2, fun i v' ph n' t' ho p => ?_, fun i v' ph n' t' ho => h.fr i v' ph n' t' (out ho).2, fun ha => h.even fun i v' ph n' t' ho => ?_, fun i v' n' t' ho => h.b3 i v' n' t' (out ho).2, fun i v' n' t' ho => h.b4 i v' n' t' (out ho).2, fun i ph seen vals ho => h.rd i ph seen vals (out ho).2⟩
  · obtain ⟨h1, h2⟩ := out ho
    exact ⟨(only h2 h1 p).2, (h.tk i v' ph n' t' h2 p).2⟩
  · have h1 : en.sv + 1 ≤ t' := h1
    obtain ⟨i, v', ph, n', h3, h4⟩ := h.all t' (by omega) h2
    refine ⟨i, v', ph, n', h3.keep ?_, h4⟩
    rintro rfl
    cases hk.inj h3; omega
  · obtain ⟨h1, h2⟩ := out ho
    have := only h2 h1 (by omega); omega
  · by_cases hik : i = k
    · subst hik; cases hk.inj ho; omega
    · exact ha i v' ph n' t' (ho.keep hik)

theorem take_set {v w : Ws} {n : Nat} (hn : n < v.length) (hl : w.length = v.length) : (v.take n ++ w.drop n).set n (v.getD n 0) = v.take (n + 1) ++ w.drop (n + 1) := by
  refine List.ext_getElem? fun i => ?_
  have h1 : (v.take n).length = n := by rw [List.length_take]; omega
  have h2 : (v.take (n + 1)).length = n + 1 := by rw [List.length_take]; omega
  rw [List.getElem?_set]
  by_cases e : n = i
  · subst e
    rw [if_pos rfl, if_pos (by rw [List.length_append, h1, List.length_drop]; omega), List.getElem?_append_left (by omega), List.getElem?_take_of_lt (by omega), List.getElem?_eq_getElem hn, List.getD_eq_getElem?_getD, List.getElem?_eq_getElem hn]; rfl
  · rw [if_neg e]
    rcases Nat.lt_or_ge i n with h | h
    · rw [List.getElem?_append_left (by omega), List.getElem?_append_left (by omega), List.getElem?_take_of_lt (by omega), List.getElem?_take_of_lt (by omega)]
    · rw [List.getElem?_append_right (by omega), List.getElem?_append_right (by omega), h1, h2, List.getElem?_drop, List.getElem?_drop]
      congr 1; omega

/-- A step of a run keeps what holds. -/
theorem EInv.step (h : EInv N As e en) (hN : 1 ≤ N) {r : Run} (hr : r.e = e) (hk : On As k r) : EInv N (As.set k (r.step N en).2) e (r.step N en).1 := by
  cases r with
  | rd e' ph seen vals =>
    have hr : e' = e := hr
    subst hr
    have hd := h.rd k ph seen vals hk
    have nw : ∀ v ph n t, ¬ On As k (.wr e' v ph n t) := fun v ph n t ho => by cases hk.inj ho
    rw [step_rd]
    by_cases p0 : ph = 0
    · rw [if_pos p0]
      by_cases pe : en.st % 2 = 0
      · rw [if_pos pe]
        refine h.read nw (by simp) fun ph' s' v' e1 => ?_
        cases e1
        refine ⟨by omega, fun _ => ⟨pe, Nat.le_refl _, Nat.zero_le _, fun _ => ?_, fun h => ?_, fun _ => rfl⟩⟩
        · show 0 < N; omega
        · omega
      · rw [if_neg pe]
        refine h.read nw (by simp) fun ph' s' v' e1 => ?_
        cases e1
        exact ⟨by omega, fun h => by omega⟩
    · rw [if_neg p0]
      obtain ⟨q1, q2, q3, q4, q5, q6⟩ := hd.2 (by omega)
      by_cases p1 : ph = 1
      · rw [if_pos p1]
        have hlt := q4 p1
        refine h.read nw (by simp) fun ph' s' v' e1 => ?_
        cases e1
        have hl : (vals ++ [en.wd.getD vals.length 0]).length = vals.length + 1 := by simp
        refine ⟨by split <;> omega, fun _ => ⟨q1, q2, by rw [hl]; omega, fun h1 => ?_, fun h2 => ?_, fun es => ?_⟩⟩
        · rw [hl]; split at h1 <;> omega
        · rw [hl]; split at h2 <;> omega
        · have ev := q6 es
          have heq : en.wd = en.val := by
            refine (h.even fun i v ph n t ho => ⟨?_, ?_⟩).2
            · rintro rfl; have := (h.b3 i v n t ho).1; omega
            · rintro rfl; have := (h.b4 i v n t ho).1; omega
          rw [hl, heq, List.take_add_one, ← ev]
          congr 1
          have : vals.length < en.val.length := by rw [h.lval]; exact hlt
          rw [List.getD_eq_getElem?_getD, List.getElem?_eq_getElem this]; rfl
      · rw [if_neg p1]
        by_cases p2 : en.st = seen
        · rw [if_pos p2]
          exact h.read nw (by simp) fun ph' s' v' e1 => by cases e1
        · rw [if_neg p2]
          refine h.read nw (by simp) fun ph' s' v' e1 => ?_
          cases e1
          exact ⟨by omega, fun h => by omega⟩
  | wr e' v ph n t =>
    have hr : e' = e := hr
    subst hr
    obtain ⟨f1, f2, f3, f4⟩ := h.fr k v ph n t hk
    have hkl : k < As.length := (List.getElem?_eq_some_iff.1 hk).1
    rw [step_wr]
    by_cases p0 : ph = 0
    · subst p0
      rw [if_pos rfl]; exact h.draw hk
    rw [if_neg p0]
    by_cases p1 : ph = 1
    · subst p1
      rw [if_pos rfl]
      by_cases es : en.sv = t
      · rw [if_pos es]
        have hev : en.st % 2 = 0 ∧ en.wd = en.val := by
          refine h.even fun i v' ph' n' t' ho => ?_
          by_cases hp : 2 ≤ ph'
          · have e1 := h.hold i v' ph' n' t' ho hp
            subst e1; subst es
            have := h.dist i k v' v ph' 1 n' n _ ho hk (by omega) (by omega)
            subst this
            cases hk.inj ho; omega
          · omega
        exact h.go (st' := en.st) (wd' := en.wd) (val' := en.val) hk (by omega) (by omega) (by omega) es.symm ⟨fun _ => f3 (by omega), fun h => by cases h⟩ h.len h.lval (fun _ _ => hev) (fun h => by cases h) (fun h => by cases h) (fun s _ hs => ⟨hs, fun e => ⟨rfl, rfl⟩⟩)
      · rw [if_neg es]
        have e1 : As.set k (some (.wr e' v 1 n t)) = As := by
          obtain ⟨hl, hg⟩ := List.getElem?_eq_some_iff.1 hk
          rw [← hg]; exact List.set_getElem_self hl
        rw [e1]; exact h
    rw [if_neg p1]
    have ht := h.hold k v ph n t hk (by omega)
    have oth : ∀ {i : Nat} {v' : Ws} {ph' n' t' : Nat}, On As i (.wr e' v' ph' n' t') → 2 ≤ ph' → v' = v ∧ ph' = ph ∧ n' = n ∧ t' = t := fun ho p => by
      have := h.one ho hk p (by omega)
      subst this
      cases hk.inj ho
      exact ⟨rfl, rfl, rfl, rfl⟩
    by_cases p2 : ph = 2
    · subst p2
      rw [if_pos rfl]
      obtain ⟨e1, e2⟩ := h.even fun i v' ph' n' t' ho => ⟨fun e => by have := oth ho (by omega); omega, fun e => by have := oth ho (by omega); omega⟩
      have hn0 := f3 (by omega)
      subst hn0
      refine h.go (st' := en.st + 1) (wd' := en.wd) (val' := en.val) hk (by omega) (by omega) (by omega) ht ⟨fun _ => rfl, fun _ => by omega⟩ h.len h.lval (fun h => absurd rfl h) (fun _ => ⟨by omega, by rw [e2]; simp⟩) (fun h => by cases h) (fun s hs hs2 => ⟨by omega, fun e => by omega⟩)
    rw [if_neg p2]
    by_cases p3 : ph = 3
    · subst p3
      rw [if_pos rfl]
      obtain ⟨b1, b2⟩ := h.b3 k v n t hk
      have hlt := f4 rfl
      have hw : en.wd.set n (v.getD n 0) = v.take (n + 1) ++ en.val.drop (n + 1) := by
        rw [b2]; exact take_set (by omega) (by rw [h.lval, f2])
      refine h.go (ph' := if n + 1 = N then 4 else 3) (st' := en.st) (wd' := en.wd.set n (v.getD n 0)) (val' := en.val) hk (by omega) (by split <;> omega) (by split <;> omega) ht ⟨fun h => by split at h <;> omega, fun h => by split at h <;> omega⟩ (by rw [List.length_set]; exact h.len) h.lval (fun h1 h2 => by split at h1 <;> split at h2 <;> omega) (fun _ => ⟨b1, hw⟩) (fun h4 => ⟨b1, ?_⟩) (fun s _ hs => ⟨hs, fun e => ⟨rfl, rfl⟩⟩)
      split at h4
      · rename_i e1
        rw [hw, e1, ← f2, List.take_length, f2, ← h.lval, List.drop_length, List.append_nil]
      · omega
    rw [if_neg p3]
    by_cases p4 : ph = 4
    · subst p4
      rw [if_pos rfl]
      obtain ⟨b1, b2⟩ := h.b4 k v n t hk
      refine h.go (st' := en.st + 1) (wd' := en.wd) (val' := v) hk (by omega) (by omega) (by omega) ht ⟨fun h => by omega, fun h => by cases h⟩ h.len f2 (fun _ _ => ⟨by omega, b2⟩) (fun h => by cases h) (fun h => by cases h) (fun s hs hs2 => ⟨by omega, fun e => by omega⟩)
    · rw [if_neg p4]
      have : ph = 5 := by omega
      subst this
      exact h.drop hk

/-! ### How long it takes -/
def cost (N : Nat) (en : Ent) : Run → Nat
  | .rd e ph seen vals => if ph = 0 then N + 2 else (if ph = 1 then N - vals.length + 1 else 1) + (if seen = en.st then 0 else N + 2)
  | .wr e v ph n t => if ph = 0 then N + 5 + 3 * (N + 2) else if ph = 1 then N + 4 + 3 * (N + 2) else if ph = 2 then N + 3 + 3 * (N + 2) else if ph = 3 then N - n + 2 else if ph = 4 then 2 else 1
def costO (N : Nat) (en : Ent) : Option Run → Nat
  | none => 0
  | some r => cost N en r
/-- It can't go on now. -/
def stuck (en : Ent) : Run → Prop
  | .rd e ph seen vals => ph = 0 ∧ en.st % 2 = 1
  | .wr e v ph n t => ph = 1 ∧ en.sv ≠ t
/-- How much more others have to do when it goes on. -/
def harm (N : Nat) : Run → Nat
  | .wr e v ph n t => if ph = 2 then N + 2 else 0
  | _ => 0

theorem cost_own (h : EInv N As e en) (hN : 1 ≤ N) {r : Run} (hr : r.e = e) (hk : On As k r) :
    (stuck en r ∧ r.step N en = (en, some r)) ∨ costO N (r.step N en).1 (r.step N en).2 + 3 * harm N r + 1 ≤ cost N en r := by
  cases r with
  | rd e' ph seen vals =>
    have hr : e' = e := hr
    subst hr
    obtain ⟨h2, hq⟩ := h.rd k ph seen vals hk
    rw [step_rd]
    by_cases p0 : ph = 0
    · subst p0
      rw [if_pos rfl]
      by_cases pe : en.st % 2 = 0
      · rw [if_pos pe]; right; simp [costO, cost, harm]
      · rw [if_neg pe]; left; exact ⟨⟨rfl, by omega⟩, rfl⟩
    · right
      rw [if_neg p0]
      obtain ⟨q1, q2, q3, q4, q5, q6⟩ := hq (by omega)
      by_cases p1 : ph = 1
      · subst p1
        have := q4 rfl
        rw [if_pos rfl]
        by_cases e1 : vals.length + 1 = N
        · simp [costO, cost, harm, e1]; omega
        · simp [costO, cost, harm, e1]; omega
      · rw [if_neg p1]
        by_cases p2 : en.st = seen
        · rw [if_pos p2]; simp [costO, cost, harm, p0, p1]
        · rw [if_neg p2]; simp [costO, cost, harm, p0, p1]; rw [if_neg (fun e => p2 e.symm)]; omega
  | wr e' v ph n t =>
    have hr : e' = e := hr
    subst hr
    obtain ⟨f1, f2, f3, f4⟩ := h.fr k v ph n t hk
    rw [step_wr]
    by_cases p0 : ph = 0
    · subst p0; right; simp [costO, cost, harm]; omega
    rw [if_neg p0]
    by_cases p1 : ph = 1
    · subst p1
      rw [if_pos rfl]
      by_cases es : en.sv = t
      · rw [if_pos es]; right; simp [costO, cost, harm]; omega
      · rw [if_neg es]; left; exact ⟨⟨rfl, es⟩, rfl⟩
    rw [if_neg p1]
    right
    by_cases p2 : ph = 2
    · subst p2; rw [if_pos rfl]
      have := f3 (by omega)
      simp [costO, cost, harm, this]; omega
    rw [if_neg p2]
    by_cases p3 : ph = 3
    · subst p3; rw [if_pos rfl]
      have := f4 rfl
      by_cases e1 : n + 1 = N
      · simp [costO, cost, harm, e1]; omega
      · simp [costO, cost, harm, e1]; omega
    rw [if_neg p3]
    by_cases p4 : ph = 4
    · subst p4; rw [if_pos rfl]; simp [costO, cost, harm]
    · rw [if_neg p4]
      have : ph = 5 := by omega
      subst this
      simp [costO, cost, harm]

theorem cost_else (h : EInv N As e en) {r r' : Run} {i : Nat} (hr : r.e = e) (hk : On As k r) (hr' : r'.e = e) (hi : On As i r') : cost N (r.step N en).1 r' ≤ cost N en r' + harm N r := by
  cases r' with
  | wr e' v ph n t => exact Nat.le_add_right _ _
  | rd e' ph' seen' vals' =>
    have hr' : e' = e := hr'
    subst hr'
    have hd := h.rd i ph' seen' vals' hi
    have key : (r.step N en).1.st = en.st ∨ ((r.step N en).1.st = en.st + 1 ∧ (harm N r = N + 2 ∨ en.st % 2 = 1)) := by
      cases r with
      | rd e1 ph seen vals =>
        left; rw [step_rd]
        split
        · split <;> rfl
        · split
          · rfl
          · split <;> rfl
      | wr e1 v ph n t =>
        rw [step_wr]
        by_cases p0 : ph = 0
        · rw [if_pos p0]; left; rfl
        rw [if_neg p0]
        by_cases p1 : ph = 1
        · rw [if_pos p1]; left; split <;> rfl
        rw [if_neg p1]
        by_cases p2 : ph = 2
        · rw [if_pos p2]; right; exact ⟨rfl, .inl (by simp [harm, p2])⟩
        rw [if_neg p2]
        by_cases p3 : ph = 3
        · rw [if_pos p3]; left; rfl
        rw [if_neg p3]
        by_cases p4 : ph = 4
        · rw [if_pos p4]; right
          have hr : e1 = e' := hr
          subst hr; subst p4
          exact ⟨rfl, .inr (h.b4 k v n t hk).1⟩
        · rw [if_neg p4]; left; rfl
    rcases key with e1 | ⟨e1, e2⟩
    · simp only [cost, e1]; omega
    · simp only [cost, e1]
      by_cases p0 : ph' = 0
      · simp [p0]
      · obtain ⟨q1, q2, _⟩ := hd.2 (by omega)
        simp only [p0, if_false]
        have c1 : ¬ seen' = en.st + 1 := by omega
        rw [if_neg c1]
        rcases e2 with e2 | e2
        · rw [e2]; split <;> omega
        · rw [if_neg (by omega : ¬ seen' = en.st)]; omega

def sumN : Nat → (Nat → Nat) → Nat
  | 0, _ => 0
  | n + 1, f => sumN n f + f n
theorem sumN_lt {n k d : Nat} {f f' : Nat → Nat} (hn : n ≤ 4) (hk : k < n) (h1 : f' k + 3 * d + 1 ≤ f k) (h2 : ∀ i, i < n → i ≠ k → f' i ≤ f i + d) : sumN n f' < sumN n f := by
  have a0 := h2 0
  have a1 := h2 1
  have a2 := h2 2
  have a3 := h2 3
  obtain rfl | rfl | rfl | rfl : n = 1 ∨ n = 2 ∨ n = 3 ∨ n = 4 := by omega
  · obtain rfl : k = 0 := by omega
    simp only [sumN]; omega
  · obtain rfl | rfl : k = 0 ∨ k = 1 := by omega
    all_goals simp only [sumN]; omega
  · obtain rfl | rfl | rfl : k = 0 ∨ k = 1 ∨ k = 2 := by omega
    all_goals simp only [sumN]; omega
  · obtain rfl | rfl | rfl | rfl : k = 0 ∨ k = 1 ∨ k = 2 ∨ k = 3 := by omega
    all_goals simp only [sumN]; omega

/-- All of it: the agents' runs, the entries. -/
structure St where
  As : Ags
  Es : List Ent
/-- What holds of all. -/
structure Inv (N E n : Nat) (s : St) : Prop where
  la : s.As.length = n
  le : s.Es.length = E
  ent : ∀ e en, s.Es[e]? = some en → EInv N s.As e en
  on : ∀ i r, On s.As i r → r.e < E
def St.cost (N : Nat) (s : St) (i : Nat) : Nat :=
  match s.As[i]? with
  | some (some r) => match s.Es[r.e]? with
    | some en => Rr.cost N en r
    | none => 0
  | _ => 0
def St.step (N : Nat) (s : St) (k : Nat) (r : Run) (en : Ent) : St := ⟨s.As.set k (r.step N en).2, s.Es.set r.e (r.step N en).1⟩

variable {E n : Nat} {s : St}
theorem Inv.step (h : Inv N E n s) (hN : 1 ≤ N) {r : Run} (hk : On s.As k r) (he : s.Es[r.e]? = some en) : Inv N E n (s.step N k r en) := by
  refine ⟨by simp [St.step, h.la], by simp [St.step, h.le], fun e en' h1 => ?_, fun i r' h1 => ?_⟩
  · have h1 : (s.Es.set r.e (r.step N en).1)[e]? = some en' := h1
    rw [List.getElem?_set] at h1
    by_cases ee : r.e = e
    · rw [if_pos ee] at h1
      split at h1
      · obtain rfl := Option.some.inj h1
        subst ee
        exact (h.ent _ en he).step hN rfl hk
      · cases h1
    · rw [if_neg ee] at h1
      refine (h.ent e en' h1).other (k := k) (r := some r) hk (fun r' e1 => ?_) fun r' e1 => ?_
      · cases e1; exact ee
      · have : r'.e = r.e := step_e e1
        rw [this]; exact ee
  · rcases h1.set with ⟨_, e1⟩ | ⟨_, h1⟩
    · have hr := h.on k r hk
      have : r'.e = r.e := step_e e1
      omega
    · exact h.on i r' h1

theorem EInv.free (h : EInv N As e en) {r : Run} (hr : r.e = e) (hk : On As k r) (hs : stuck en r) : ∃ i r', On As i r' ∧ r'.e = e ∧ ¬ stuck en r' := by
  cases r with
  | rd e' ph seen vals =>
    have hr : e' = e := hr
    subst hr
    obtain ⟨_, h1⟩ := hs
    refine Classical.byContradiction fun hc => ?_
    have := (h.even fun i v ph' n t ho => ⟨?_, ?_⟩).1
    · omega
    · rintro rfl; exact hc ⟨i, _, ho, rfl, fun z => by have := z.1; omega⟩
    · rintro rfl; exact hc ⟨i, _, ho, rfl, fun z => by have := z.1; omega⟩
  | wr e' v ph n t =>
    have hr : e' = e := hr
    subst hr
    obtain ⟨h1, h2⟩ := hs
    have h3 := h.tk k v ph n t hk (by omega)
    obtain ⟨i, v', ph', n', h4, h5⟩ := h.all en.sv (Nat.le_refl _) (by omega)
    exact ⟨i, _, h4, rfl, fun z => z.2 rfl⟩

theorem sumN_le {n : Nat} {f f' : Nat → Nat} (h : ∀ i, i < n → f' i ≤ f i) : sumN n f' ≤ sumN n f := by
  induction n with
  | zero => exact Nat.le_refl _
  | succ n ih =>
    have h1 := ih fun i hi => h i (by omega)
    have h2 := h n (by omega)
    simp only [sumN]; omega
theorem sumN_pos {n i : Nat} {f : Nat → Nat} (hi : i < n) : f i ≤ sumN n f := by
  induction n with
  | zero => omega
  | succ n ih =>
    simp only [sumN]
    by_cases e : i = n
    · subst e; omega
    · have := ih (by omega); omega

/-- All that is left. -/
def Phi (N : Nat) (lens ats : List Nat) (s : St) : Nat := sumN s.As.length fun i => s.cost N i + 60 * (lens.getD i 0 - ats.getD i 0)

theorem St.cost_on {s : St} {i : Nat} {r : Run} {en : Ent} (h : On s.As i r) (he : s.Es[r.e]? = some en) : s.cost N i = Rr.cost N en r := by
  unfold On at h
  unfold St.cost; rw [h]; simp only [he]
theorem St.cost_none {s : St} {i : Nat} (h : s.As[i]? = some none) : s.cost N i = 0 := by
  unfold St.cost; rw [h]

variable {lens ats : List Nat}
theorem phi_step (h : Inv N E n s) (hn : n ≤ 4) (hN : 1 ≤ N) {r : Run} (hk : On s.As k r) (he : s.Es[r.e]? = some en) :
    (stuck en r ∧ s.step N k r en = s) ∨ Phi N lens ats (s.step N k r en) < Phi N lens ats s := by
  have hkl : k < s.As.length := (List.getElem?_eq_some_iff.1 hk).1
  have hent := h.ent _ en he
  rcases cost_own hent hN rfl hk with ⟨h1, h2⟩ | h1
  · left
    refine ⟨h1, ?_⟩
    unfold St.step
    rw [h2]
    obtain ⟨hl, hg⟩ := List.getElem?_eq_some_iff.1 hk
    obtain ⟨hl2, hg2⟩ := List.getElem?_eq_some_iff.1 he
    have e1 : s.As.set k (some r) = s.As := by rw [← hg]; exact List.set_getElem_self hl
    have e2 : s.Es.set r.e en = s.Es := by rw [← hg2]; exact List.set_getElem_self hl2
    show (⟨s.As.set k (some r), s.Es.set r.e en⟩ : St) = s
    rw [e1, e2]
  · right
    unfold Phi
    have hlen : (s.step N k r en).As.length = s.As.length := List.length_set ..
    rw [hlen]
    refine sumN_lt (k := k) (d := harm N r) (by have := h.la; omega) hkl ?_ fun i hi hik => ?_
    · rw [St.cost_on hk he]
      have : (s.step N k r en).cost N k = costO N (r.step N en).1 (r.step N en).2 := by
        unfold St.cost
        show (match (s.As.set k (r.step N en).2)[k]? with | some (some r') => (match (s.Es.set r.e (r.step N en).1)[r'.e]? with | some en => Rr.cost N en r' | none => 0) | _ => 0) = _
        rw [List.getElem?_set_self hkl]
        cases hx : (r.step N en).2 with
        | none => rfl
        | some r' =>
          show (match (s.Es.set r.e (r.step N en).1)[r'.e]? with | some en => Rr.cost N en r' | none => 0) = _
          rw [step_e hx, List.getElem?_set_self (List.getElem?_eq_some_iff.1 he).1]; rfl
      rw [this]; omega
    · have : (s.step N k r en).cost N i ≤ s.cost N i + harm N r := by
        unfold St.cost
        show (match (s.As.set k (r.step N en).2)[i]? with | some (some r') => (match (s.Es.set r.e (r.step N en).1)[r'.e]? with | some en => Rr.cost N en r' | none => 0) | _ => 0) ≤ _
        rw [List.getElem?_set_ne (fun e => hik e.symm)]
        cases hx : s.As[i]? with
        | none => exact Nat.zero_le _
        | some x =>
          cases x with
          | none => exact Nat.zero_le _
          | some r' =>
            show (match (s.Es.set r.e (r.step N en).1)[r'.e]? with | some en => Rr.cost N en r' | none => 0) ≤ (match s.Es[r'.e]? with | some en => Rr.cost N en r' | none => 0) + harm N r
            by_cases ee : r'.e = r.e
            · rw [ee, List.getElem?_set_self (List.getElem?_eq_some_iff.1 he).1, he]
              exact cost_else hent rfl hk ee hx
            · rw [List.getElem?_set_ne (fun e => ee e.symm)]; omega
      omega

/-- A new run begins; or an operation is done at once. -/
theorem phi_begin (hk : s.As[k]? = some none) (hl : ats.length = s.As.length) (ha : ats.getD k 0 < lens.getD k 0) {r : Run} (he : s.Es[r.e]? = some en) (hc : cost N en r < 60) :
    Phi N lens (ats.set k (ats.getD k 0 + 1)) ⟨s.As.set k (some r), s.Es⟩ < Phi N lens ats s := by
  have hkl : k < s.As.length := (List.getElem?_eq_some_iff.1 hk).1
  unfold Phi
  have hlen : (s.As.set k (some r)).length = s.As.length := List.length_set ..
  show sumN (s.As.set k (some r)).length _ < _
  rw [hlen]
  have key : ∀ m, k < m → m ≤ s.As.length → sumN m (fun i => (⟨s.As.set k (some r), s.Es⟩ : St).cost N i + 60 * (lens.getD i 0 - (ats.set k (ats.getD k 0 + 1)).getD i 0)) < sumN m fun i => s.cost N i + 60 * (lens.getD i 0 - ats.getD i 0) := by
    have ne : ∀ i, i ≠ k → (⟨s.As.set k (some r), s.Es⟩ : St).cost N i + 60 * (lens.getD i 0 - (ats.set k (ats.getD k 0 + 1)).getD i 0) = s.cost N i + 60 * (lens.getD i 0 - ats.getD i 0) := fun i hi => by
      have e1 : (ats.set k (ats.getD k 0 + 1)).getD i 0 = ats.getD i 0 := by rw [List.getD_eq_getElem?_getD, List.getElem?_set_ne (fun e => hi e.symm), ← List.getD_eq_getElem?_getD]
      have e2 : (⟨s.As.set k (some r), s.Es⟩ : St).cost N i = s.cost N i := by
        unfold St.cost
        show (match (s.As.set k (some r))[i]? with | some (some r') => _ | _ => 0) = _
        rw [List.getElem?_set_ne (fun e => hi e.symm)]
      rw [e1, e2]
    intro m
    induction m with
    | zero => intro h; omega
    | succ m ih =>
      intro hm hm2
      simp only [sumN]
      by_cases e : k = m
      · subst e
        have e1 : (ats.set k (ats.getD k 0 + 1)).getD k 0 = ats.getD k 0 + 1 := by rw [List.getD_eq_getElem?_getD, List.getElem?_set_self (by omega)]; rfl
        have e2 : (⟨s.As.set k (some r), s.Es⟩ : St).cost N k = cost N en r := St.cost_on (s := ⟨s.As.set k (some r), s.Es⟩) (On.here hkl) he
        have e3 : sumN k (fun i => (⟨s.As.set k (some r), s.Es⟩ : St).cost N i + 60 * (lens.getD i 0 - (ats.set k (ats.getD k 0 + 1)).getD i 0)) ≤ sumN k fun i => s.cost N i + 60 * (lens.getD i 0 - ats.getD i 0) := sumN_le fun i hi => Nat.le_of_eq (ne i (by omega))
        rw [e1, e2, St.cost_none hk]
        omega
      · have := ih (by omega) (by omega)
        rw [ne m (fun h => e h.symm)]; omega
  exact key _ hkl (Nat.le_refl _)
theorem phi_now (hk : s.As[k]? = some none) (hl : ats.length = s.As.length) (ha : ats.getD k 0 < lens.getD k 0) : Phi N lens (ats.set k (ats.getD k 0 + 1)) s < Phi N lens ats s := by
  have hkl : k < s.As.length := (List.getElem?_eq_some_iff.1 hk).1
  unfold Phi
  have ne : ∀ i, i ≠ k → s.cost N i + 60 * (lens.getD i 0 - (ats.set k (ats.getD k 0 + 1)).getD i 0) = s.cost N i + 60 * (lens.getD i 0 - ats.getD i 0) := fun i hi => by
    have e1 : (ats.set k (ats.getD k 0 + 1)).getD i 0 = ats.getD i 0 := by rw [List.getD_eq_getElem?_getD, List.getElem?_set_ne (fun e => hi e.symm), ← List.getD_eq_getElem?_getD]
    rw [e1]
  have key : ∀ m, k < m → m ≤ s.As.length → sumN m (fun i => s.cost N i + 60 * (lens.getD i 0 - (ats.set k (ats.getD k 0 + 1)).getD i 0)) < sumN m fun i => s.cost N i + 60 * (lens.getD i 0 - ats.getD i 0) := by
    intro m
    induction m with
    | zero => intro h; omega
    | succ m ih =>
      intro hm hm2
      simp only [sumN]
      by_cases e : k = m
      · subst e
        have e1 : (ats.set k (ats.getD k 0 + 1)).getD k 0 = ats.getD k 0 + 1 := by rw [List.getD_eq_getElem?_getD, List.getElem?_set_self (by omega)]; rfl
        have e3 : sumN k (fun i => s.cost N i + 60 * (lens.getD i 0 - (ats.set k (ats.getD k 0 + 1)).getD i 0)) ≤ sumN k fun i => s.cost N i + 60 * (lens.getD i 0 - ats.getD i 0) := sumN_le fun i hi => Nat.le_of_eq (ne i (by omega))
        rw [e1]
        omega
      · have := ih (by omega) (by omega)
        rw [ne m (fun h => e h.symm)]; omega
  exact key _ hkl (Nat.le_refl _)

/-- It has nothing to do, or can't go on. -/
def Quiet (lens ats : List Nat) (s : St) (i : Nat) : Prop := (s.As[i]? = some none ∧ lens.getD i 0 ≤ ats.getD i 0) ∨ ∃ r en, On s.As i r ∧ s.Es[r.e]? = some en ∧ stuck en r
/-- All are through. -/
def Over (lens ats : List Nat) (s : St) : Prop := ∀ i, i < s.As.length → s.As[i]? = some none ∧ lens.getD i 0 ≤ ats.getD i 0
theorem over_of (h : Inv N E n s) (hq : ∀ i, i < s.As.length → Quiet lens ats s i) : Over lens ats s := by
  intro i hi
  rcases hq i hi with h1 | ⟨r, en, h1, h2, h3⟩
  · exact h1
  · exfalso
    obtain ⟨j, r', h4, h5, h6⟩ := (h.ent _ en h2).free rfl h1 h3
    have hj : j < s.As.length := (List.getElem?_eq_some_iff.1 h4).1
    rcases hq j hj with h7 | ⟨r2, en2, h7, h8, h9⟩
    · unfold On at h4; rw [h7.1] at h4; cases h4
    · obtain rfl := h7.inj h4
      rw [h5, h2] at h8
      obtain rfl := Option.some.inj h8
      exact h6 h9
theorem over_phi (h : Over lens ats s) : Phi N lens ats s = 0 := by
  unfold Phi
  have key : ∀ m, m ≤ s.As.length → sumN m (fun i => s.cost N i + 60 * (lens.getD i 0 - ats.getD i 0)) = 0 := by
    intro m
    induction m with
    | zero => intro _; rfl
    | succ m ih =>
      intro hm
      simp only [sumN]
      rw [ih (by omega), St.cost_none (h m (by omega)).1]
      have := (h m (by omega)).2
      omega
  exact key _ (Nat.le_refl _)
end Go.Proofs.Ytgpacebjbdhphaa.Rr

/-
  Records: runs of any operation of any entry, and what a step of them does.
-/
namespace Go.Proofs.Ytgpacebjbdhphaa
open Go Go.AS Go.RowKit
set_option linter.unusedVariables false
open Rr (Ent)
variable {H H' : Heap} {m x r b : Nat} {S S' : Sm} {R : Value → Heap → Prop} {L : List Asr} {ws : List (BitVec 64)} {c : Int} {q : Rn} {d : Md} {N : Nat} {Es : List Ent} {e : Nat} {en' : Ent}

/-! ### Rows of words -/
theorem fl_len {α : Type} {w : Nat} : ∀ (css : List (List α)), (∀ c ∈ css, c.length = w) → css.flatten.length = css.length * w
  | [], _ => by simp
  | c :: css, h => by
    rw [List.flatten_cons, List.length_append, fl_len css fun d hd => h d (List.mem_cons_of_mem _ hd), h c (by simp), List.length_cons, Nat.add_mul]
    omega
theorem fl_get {α : Type} {w : Nat} : ∀ {css : List (List α)} {k o : Nat} {row : List α}, (∀ c ∈ css, c.length = w) → css[k]? = some row → o < w → css.flatten[k * w + o]? = row[o]?
  | [], k, o, row, _, hk, _ => by simp at hk
  | c :: css, 0, o, row, hw, hk, ho => by
    simp at hk; subst hk
    have hc := hw c (by simp)
    rw [Nat.zero_mul, Nat.zero_add, List.flatten_cons, List.getElem?_append_left (by omega)]
  | c :: css, k + 1, o, row, hw, hk, ho => by
    have hc := hw c (by simp)
    have ih := fl_get (fun d hd => hw d (List.mem_cons_of_mem _ hd)) (by simpa using hk) ho
    rw [List.flatten_cons, List.getElem?_append_right (by rw [hc, Nat.add_mul]; omega), ← ih, hc]
    congr 1
    rw [Nat.add_mul]; omega
theorem fl_set {α : Type} {w : Nat} {v : α} : ∀ {css : List (List α)} {k o : Nat} {row : List α}, (∀ c ∈ css, c.length = w) → css[k]? = some row → o < w → css.flatten.set (k * w + o) v = (css.set k (row.set o v)).flatten
  | [], k, o, row, _, hk, _ => by simp at hk
  | c :: css, 0, o, row, hw, hk, ho => by
    simp at hk; subst hk
    have hc := hw c (by simp)
    simp only [Nat.zero_mul, Nat.zero_add, List.flatten_cons, List.set_cons_zero]
    rw [List.set_append_left _ _ (by omega)]
  | c :: css, k + 1, o, row, hw, hk, ho => by
    have hc := hw c (by simp)
    have ih := fl_set (v := v) (fun d hd => hw d (List.mem_cons_of_mem _ hd)) (by simpa using hk) ho
    rw [List.flatten_cons, List.set_append_right _ _ (by rw [hc, Nat.add_mul]; omega), List.set_cons_succ, List.flatten_cons, ← ih]
    congr 2
    rw [hc, Nat.add_mul]; omega

abbrev Bn (n : Nat) : BitVec 64 := BitVec.ofNat 64 n
theorem Bn_inj {a b : Nat} (ha : a < 1000000) (hb : b < 1000000) : (Bn a = Bn b) ↔ a = b := by
  constructor
  · intro h
    have := congrArg BitVec.toNat h
    simp only [BitVec.toNat_ofNat] at this
    omega
  · intro h; rw [h]
theorem Bn_succ (a : Nat) : Bn a + 1 = Bn (a + 1) := by
  show BitVec.ofNat 64 a + BitVec.ofNat 64 1 = _
  rw [← BitVec.ofNat_add]
theorem Bn_nat {n : Nat} (h : n < 1000000) : (Bn n).toNat = n := by
  show n % 2 ^ 64 = n
  exact Nat.mod_eq_of_lt (by omega)

/-- An entry's words. -/
def erow (en : Ent) : List (BitVec 64) := Bn en.dr :: Bn en.sv :: Bn en.st :: en.wd
def flatE (Es : List Ent) : List (BitVec 64) := (Es.map erow).flatten
structure EsOk (N : Nat) (Es : List Ent) : Prop where
  len : ∀ en ∈ Es, en.wd.length = N
theorem EsOk.row (h : EsOk N Es) : ∀ c ∈ Es.map erow, c.length = 3 + N := by
  intro c hc
  obtain ⟨en, hm, rfl⟩ := List.mem_map.1 hc
  show en.wd.length + 1 + 1 + 1 = _
  rw [h.len en hm]; omega
theorem flatE_len (h : EsOk N Es) : (flatE Es).length = Es.length * (3 + N) := by
  unfold flatE; rw [fl_len _ h.row, List.length_map]
theorem flatE_lt (h : EsOk N Es) {o : Nat} (he : e < Es.length) (ho : o < 3 + N) : e * (3 + N) + o < (flatE Es).length := by
  rw [flatE_len h]
  have : (e + 1) * (3 + N) ≤ Es.length * (3 + N) := Nat.mul_le_mul_right _ he
  rw [Nat.add_mul] at this; omega
theorem flatE_get (h : EsOk N Es) (he : Es[e]? = some en') {o : Nat} (ho : o < 3 + N) : (flatE Es).getD (e * (3 + N) + o) 0 = (erow en').getD o 0 := by
  rw [List.getD_eq_getElem?_getD, List.getD_eq_getElem?_getD]
  unfold flatE
  rw [fl_get h.row (row := erow en') (by rw [List.getElem?_map, he]; rfl) ho]
theorem flatE_set (h : EsOk N Es) (he : Es[e]? = some en') {o : Nat} (ho : o < 3 + N) {v : BitVec 64} {en2 : Ent} (h2 : erow en2 = (erow en').set o v) : (flatE Es).set (e * (3 + N) + o) v = flatE (Es.set e en2) := by
  unfold flatE
  rw [fl_set h.row (row := erow en') (by rw [List.getElem?_map, he]; rfl) ho, ← h2, List.map_set]

/-! ### Answers -/
def rans (E : Nat) (kind : Int) (key : BitVec 64) (flag : Int) (vals : List (List (BitVec 64))) : Int × List (BitVec 64) × BitVec 64 :=
  if kind = 4 then (if flag = 1 then (0, [], 0) else if E ≤ key.toNat then (0, [], 0) else if key.toNat + 1 = E then (2, [], 0) else (0, [], key + 1))
  else if kind = 1 then (if E ≤ key.toNat then (2, [], 0) else (0, vals.getD key.toNat [], 0))
  else if E ≤ key.toNat then (4, [], 0) else if flag = 1 then (3, [], 0) else (0, [], 0)

theorem wrap_len {n : Nat} (h : n < 1000000) : IntKind.u64.wrap (n : Int) = (n : Int) := by
  have := wrap_bv (Bn n)
  rw [Bn_nat h] at this
  exact this
theorem key_succ {k : BitVec 64} (h : k.toNat < 1000000) : IntKind.u64.wrap ((k.toNat : Int) + 1) = ((k + 1).toNat : Int) := by
  have e : BitVec.ofInt 64 1 = 1 := by decide
  rw [wrap_u64, ofInt_add, ofInt_bv, e]

abbrev mD (N E : Nat) (bk inn : Int) : Md := ⟨3, E, N, bk, inn⟩
theorem behind_s {E : Nat} {bk inn : Int} {key : BitVec 64} {kind fl cp : Int} {va : Option Addr} {vn : Nat} (h : Sep H (mA m x (mD N E bk inn) :: L)) (hE : 1 ≤ E ∧ E ≤ 64)
    (hR : ∀ H', Sep H' (mA m x (mD N E bk inn) :: L) → R (.agg #[I (rans E 4 key fl []).1, .slice none 0 0, .int .u64 (rans E 4 key fl []).2.2.toNat, I 0]) H') : CA en F.record_Map_behind [P x, .agg #[I kind, .int .u64 key.toNat, .slice va vn 0, I fl, I cp]] H R := by
  apply vc_record_Map_behind
  have e1 : IntKind.u64.wrap (IntKind.i64.wrap ((E : Int) - 1)) = ((E - 1 : Nat) : Int) := by
    have e : IntKind.i64.wrap ((E : Int) - 1) = ((E - 1 : Nat) : Int) := by rw [wrap_i64 (by omega)]; omega
    rw [e]; exact wrap_len (by omega)
  unfold rans at hR
  rw [if_pos rfl] at hR
  refine Sep.nw h fun i1 H2 h2 => Sep.nw h2 fun i3 H4 h4 => asAddr_in ⟨_, Sep.ld2 h4 rfl, _, Sep.ld1 h4 rfl, cond_of (fun z => ?_) fun z => ⟨_, Sep.ld1 h4 rfl, ?_⟩⟩
  · have z : fl = 1 := by simpa using z
    rw [if_pos z] at hR
    exact Sep.st0 h4 (Nat.le_of_ble_eq_true rfl) fun H9 h9 => ⟨_, _, _, _, _, Sep.lds0 h9 rfl, hR H9 h9.tail.tail⟩
  · have z : ¬ fl = 1 := by simpa using z
    rw [if_neg z] at hR
    rw [e1]
    refine cond_of (fun y => ?_) fun y => ⟨_, Sep.ld1 h4 rfl, cond_of (fun w => ?_) fun w => ⟨_, Sep.ld1 h4 rfl, ?_⟩⟩
    · have y : E ≤ key.toNat := by simp only [decide_eq_true_eq] at y; omega
      rw [if_pos y] at hR
      exact Sep.st0 h4 (Nat.le_of_ble_eq_true rfl) fun H9 h9 => ⟨_, _, _, _, _, Sep.lds0 h9 rfl, hR H9 h9.tail.tail⟩
    · have y : ¬ E ≤ key.toNat := by simp only [decide_eq_false_iff_not] at y; omega
      have w : key.toNat + 1 = E := by rw [beq_iff_eq] at w; omega
      rw [if_neg y, if_pos w] at hR
      exact Sep.st0 h4 (Nat.le_of_ble_eq_true rfl) fun H9 h9 => ⟨_, _, _, _, _, Sep.lds0 h9 rfl, hR H9 h9.tail.tail⟩
    · have y : ¬ E ≤ key.toNat := by simp only [decide_eq_false_iff_not] at y; omega
      have w : ¬ key.toNat + 1 = E := by rw [beq_eq_false_iff_ne] at w; omega
      rw [if_neg y, if_neg w] at hR
      rw [key_succ (by omega)]
      exact Sep.st0 h4 (Nat.le_of_ble_eq_true rfl) fun H9 h9 => ⟨_, _, _, _, _, Sep.lds0 h9 rfl, hR H9 h9.tail.tail⟩

abbrev nowv (i3 i1 : Nat) : Value := .func (.func F.record_Run_now_1) #[] #[P i3, P i1]
theorem now_s {no k' re : Int} (h : Sep H (rA r x q :: L)) (hR : ∀ H' i1 i3, Sep H' (bx i3 (.cells true 0 [I no, .slice none 0 0, .int .u64 k', I re]) :: bx i1 (.cells true 0 [P r]) :: rA r x { q with nx := nowv i3 i1 } :: L) → R undef H') : CA en F.record_Run_now [P r, .agg #[I no, .slice none 0 0, .int .u64 k', I re]] H R := by
  apply vc_record_Run_now
  exact Sep.nw h fun i1 H2 h2 => Sep.nw h2 fun i3 H4 h4 => ⟨_, Sep.ld1 h4 rfl, asAddr_in (Sep.st2 h4 (Nat.le_of_ble_eq_true rfl) fun H8 h8 => hR H8 i1 i3 h8)⟩

theorem snow_s {i1 i3 : Nat} {no k' re : Int} (h : Sep H (rA r x q :: bx i3 (.cells true 0 [I no, .slice none 0 0, .int .u64 k', I re]) :: bx i1 (.cells true 0 [P r]) :: L)) (hq : q.nx = nowv i3 i1)
    (hR : ∀ H', Sep H' (rA r x { q with nx := fnv F.record_Run_over r, no := no, rv := none, rl := 0, rk := k', re := re } :: bx i3 (.cells true 0 [I no, .slice none 0 0, .int .u64 k', I re]) :: bx i1 (.cells true 0 [P r]) :: L) → R (.tuple #[.bool true, .bool true]) H') : CA en F.record_Run_Step [P r] H R := by
  apply vc_record_Run_Step
  refine asAddr_in ⟨_, Sep.ld0 h rfl, ?_⟩
  rw [hq]
  refine asFn_in ⟨Option.isSome_iff_exists.1 (by kernel_rfl), ?_⟩
  show CA en F.record_Run_now_1 [P i3, P i1] H _
  apply vc_record_Run_now_1
  have hB := h.bump 11
  refine asAddr_in ⟨_, Sep.ld2 hB rfl, asAddr_in ⟨_, Sep.ld2 hB rfl, asAddr_in ⟨_, _, _, _, _, Sep.lds1 hB rfl, asAddr_in ⟨_, Sep.ld2 hB rfl, asAddr_in (Sep.st0 hB (Nat.le_of_ble_eq_true rfl) fun H19 h19 => asAddr_in (Sep.st0 h19 (Nat.le_of_ble_eq_true rfl) fun H22 h22 => ?_))⟩⟩⟩⟩
  exact ⟨⟨_, _, rfl, hR H22 h22⟩, ⟨asAddr_in ⟨_, Sep.ld2 hB rfl, rfl⟩, asAddr_in ⟨_, Sep.ld2 h19 rfl, rfl⟩, trivial⟩, ⟨asAddr_in ⟨_, Sep.ld2 hB rfl, rfl⟩, asAddr_in ⟨_, Sep.ld2 h19 rfl, rfl⟩, trivial⟩, trivial⟩

theorem sover_s (h : Sep H (rA r x q :: L)) (hq : q.nx = fnv F.record_Run_over r) (hR : R (.tuple #[.bool false, .bool true]) H) : CA en F.record_Run_Step [P r] H R := by
  refine step_of h hq (by kernel_rfl) ?_
  apply vc_record_Run_over
  exact ⟨_, _, rfl, hR⟩

theorem rres_s {vs : List (BitVec 64)} (h : Sep H (rA r x q :: gl 1 q.rv (wds vs) :: L)) (hl : q.rl = vs.length) (hv : vs.length < 1000) (hn : q.rv = none → vs = [])
    (hR : ∀ H' g, (g = none → vs = []) → Sep H' (gl 1 g (wds vs) :: rA r x q :: gl 1 q.rv (wds vs) :: L) → R (.agg #[I q.no, .slice (addr g) vs.length 0, .int .u64 q.rk, I q.re]) H') : CA en F.record_Run_Result [P r] H R := by
  apply vc_record_Run_Result
  refine Sep.nw h fun i1 H2 h2 => asAddr_in ⟨_, _, _, _, _, Sep.lds1 h2 rfl, Sep.nw h2 fun i10 H11 h11 => Sep.st0 h11 (Nat.le_of_ble_eq_true rfl) fun H12 h12 => ⟨_, _, Sep.ld0 h12 rfl, wds vs, ?_, ?_⟩⟩
  · rw [hl]
    cases hrv : q.rv with
    | none => rw [hn hrv]; rfl
    | some g =>
      by_cases h0 : vs.length = 0
      · rw [List.eq_nil_of_length_eq_zero h0]; rfl
      have h13 := Sep.up3 h12
      rw [hrv] at h13
      refine rowOf_bx (gl_get h13) (by omega) ?_
      have : (wds vs).length = vs.length * 1 := by simp
      rw [← this]; exact takeAt_all' _
  have h13 : Sep H12 (gl 1 none [] :: _) := gl_none.2 h12
  rw [hl]
  by_cases h0 : vs.length = 0
  · have e := List.eq_nil_of_length_eq_zero h0
    subst e
    refine .inl ⟨rfl, ?_⟩
    refine Sep.st1 h13 (Nat.le_of_ble_eq_true rfl) fun H19 h19 => ⟨_, _, _, _, _, Sep.lds1 h19 rfl, Sep.st2 h19 (Nat.le_of_ble_eq_true rfl) fun H25 h25 => ⟨_, _, _, _, _, Sep.lds2 h25 rfl, ?_⟩⟩
    exact hR H25 none (fun _ => rfl) (Sep.pick h25 5 [0, 3, 4] (by decide))
  refine apd_gl (b := none) (cs := []) (new := wds vs) h13 (fun _ => rfl) (by decide) rfl (by omega) (by simp) (by omega) fun H18 g h18 => ?_
  rw [Nat.zero_add, List.nil_append] at *
  refine Sep.st1 h18 (Nat.le_of_ble_eq_true rfl) fun H19 h19 => ⟨_, _, _, _, _, Sep.lds1 h19 rfl, Sep.st2 h19 (Nat.le_of_ble_eq_true rfl) fun H25 h25 => ⟨_, _, _, _, _, Sep.lds2 h25 rfl, ?_⟩⟩
  exact hR H25 (some g) (fun e => by cases e) (Sep.pick h25 5 [0, 3, 4] (by decide))
end Go.Proofs.Ytgpacebjbdhphaa

/-
  Records: a run's beginning, and its steps, as the pure ones.
-/
namespace Go.Proofs.Ytgpacebjbdhphaa
open Go Go.AS Go.RowKit
set_option linter.unusedVariables false
open Rr (Ent)
variable {H H' : Heap} {m x r b : Nat} {S S' : Sm} {R : Value → Heap → Prop} {L : List Asr} {ws : List (BitVec 64)} {c : Int} {q : Rn} {d : Md} {N E : Nat} {Es : List Ent} {e k : Nat} {en' : Ent} {bk inn : Int} {As : Rr.Ags}

/-- What is under way: an answer that is known, or a run. -/
inductive Gx where
  | now (no : Int) (k' : BitVec 64)
  | run (r : Rr.Run)
structure Rz (q : Rn) : Prop where
  no : q.no = 0
  rk : q.rk = 0
  re : q.re = 0
inductive GoOk (m x N r : Nat) : Gx → List Asr → Prop where
  | now {q : Rn} {i1 i3 : Nat} {no : Int} {k' : BitVec 64} (hq : q.nx = nowv i3 i1) : GoOk m x N r (.now no k') [rA r x q, bx i3 (.cells true 0 [I no, .slice none 0 0, .int .u64 k'.toNat, I 0]), bx i1 (.cells true 0 [P r])]
  | look {q : Rn} {e seen : Nat} {vals : List (BitVec 64)} (hz : Rz q) (ha : q.at' = ((e * (3 + N) : Nat) : Int)) (hq : q.nx = fnv F.record_Run_look r) : GoOk m x N r (.run (.rd e 0 seen vals)) [rA r x q]
  | load {q : Rn} {e seen : Nat} {vals : List (BitVec 64)} (hz : Rz q) (ha : q.at' = ((e * (3 + N) : Nat) : Int)) (hq : q.nx = fnv F.record_Run_load r) (hn : q.n = (vals.length : Int)) (hs : q.s = Bn seen) (hl : q.rl = vals.length) (hv : q.rv = none → vals = []) : GoOk m x N r (.run (.rd e 1 seen vals)) [rA r x q, gl 1 q.rv (wds vals)]
  | same {q : Rn} {e seen : Nat} {vals : List (BitVec 64)} (hz : Rz q) (ha : q.at' = ((e * (3 + N) : Nat) : Int)) (hq : q.nx = fnv F.record_Run_same r) (hs : q.s = Bn seen) (hl : q.rl = vals.length) (hv : q.rv = none → vals = []) : GoOk m x N r (.run (.rd e 2 seen vals)) [rA r x q, gl 1 q.rv (wds vals)]
  | draw {q : Rn} {e n t b : Nat} {v : List (BitVec 64)} (hz : Rz q) (ha : q.at' = ((e * (3 + N) : Nat) : Int)) (hq : q.nx = fnv F.record_Run_take r) (hb : q.tk = P b) (hrv : q.rv = none) (hrl : q.rl = 0) (hon : q.on = v.length) (hov : q.ov = none → v = []) (hn : q.n = (n : Int)) : GoOk m x N r (.run (.wr e v 0 n t)) [rA r x q, tk m (e * (3 + N)) 0 F.lock_Taker_draw b, gl 1 q.ov (wds v)]
  | wait {q : Rn} {e n t b : Nat} {v : List (BitVec 64)} (hz : Rz q) (ha : q.at' = ((e * (3 + N) : Nat) : Int)) (hq : q.nx = fnv F.record_Run_take r) (hb : q.tk = P b) (hrv : q.rv = none) (hrl : q.rl = 0) (hon : q.on = v.length) (hov : q.ov = none → v = []) (hn : q.n = (n : Int)) : GoOk m x N r (.run (.wr e v 1 n t)) [rA r x q, tk m (e * (3 + N)) (Bn t) F.lock_Taker_wait b, gl 1 q.ov (wds v)]
  | late {q : Rn} {e ph n t : Nat} {v : List (BitVec 64)} (hp : 2 ≤ ph) (hp5 : ph ≤ 5) (hz : Rz q) (ha : q.at' = ((e * (3 + N) : Nat) : Int)) (hq : q.nx = fnv (if ph = 2 then F.record_Run_begin else if ph = 3 then F.record_Run_store else if ph = 4 then F.record_Run_end else F.record_Run_drop) r) (hrv : q.rv = none) (hrl : q.rl = 0) (hon : q.on = v.length) (hov : q.ov = none → v = []) (hn : q.n = (n : Int)) : GoOk m x N r (.run (.wr e v ph n t)) [rA r x q, gl 1 q.ov (wds v)]
inductive OverOk (x r : Nat) : Int → List (BitVec 64) → BitVec 64 → List Asr → Prop where
  | mk {q : Rn} {no : Int} {vals : List (BitVec 64)} {k' : BitVec 64} (hq : q.nx = fnv F.record_Run_over r) (hno : q.no = no) (hl : q.rl = vals.length) (hv : q.rv = none → vals = []) (hk : q.rk = k'.toNat) (hre : q.re = 0) : OverOk x r no vals k' [rA r x q, gl 1 q.rv (wds vals)]

def eff (en : Ent) : Rr.Run → Bool
  | .rd e ph seen vals => decide (2 ≤ ph ∧ en.st = seen)
  | .wr e v ph n t => decide (ph = 4)
def resOf : Rr.Run → List (BitVec 64)
  | .rd _ _ _ vals => vals
  | .wr _ _ _ _ _ => []

theorem rec_hrec {run : Rr.Run} (he : Es[run.e]? = some en') (hE : Es.length ≤ 64) : run.e < 64 := by have := (List.getElem?_eq_some_iff.1 he).1; omega

set_option maxHeartbeats 2000000 in
theorem rstep_s {run : Rr.Run} {bl : List Asr} (g : GoOk m x N r (.run run) bl) (he : Es[run.e]? = some en') (ok : EsOk N Es) (inv : Rr.EInv N As run.e en') (hk : Rr.On As k run) (hN : 1 ≤ N ∧ N ≤ 4) (hE : Es.length ≤ 64) (o : One S (flatE Es) c) (hc : c < 4611686018427380000) (hb1 : en'.dr < 100000) (hb2 : en'.st < 100000)
    (h : Sep H (bl ++ mA m x (mD N E bk inn) :: mem m S :: L))
    (hR1 : ∀ H' S' r' bl', (run.step N en').2 = some r' → One S' (flatE (Es.set run.e (run.step N en').1)) (c + 1) → GoOk m x N r (.run r') bl' → Sep H' (bl' ++ mA m x (mD N E bk inn) :: mem m S' :: L) → R (.tuple #[.bool (eff en' run), .bool false]) H')
    (hR2 : ∀ H' S' bl', (run.step N en').2 = none → One S' (flatE (Es.set run.e (run.step N en').1)) (c + 1) → OverOk x r 0 (resOf run) 0 bl' → Sep H' (bl' ++ mA m x (mD N E bk inn) :: mem m S' :: L) → R (.tuple #[.bool (eff en' run), .bool true]) H') :
    CA en F.record_Run_Step [P r] H R := by
  have hel := (List.getElem?_eq_some_iff.1 he).1
  have hlen := flatE_len ok
  have hmul : Es.length * (3 + N) ≤ 64 * 7 := Nat.mul_le_mul hE (by omega)
  have lt : ∀ o, o < 3 + N → run.e * (3 + N) + o < (flatE Es).length := fun o ho => flatE_lt ok hel ho
  have l2 := lt 2 (by omega)
  have same : Es.set run.e en' = Es := by
    obtain ⟨hl, hg⟩ := List.getElem?_eq_some_iff.1 he
    conv => lhs; rw [← hg]
    exact List.set_getElem_self hl
  have hsv := inv.le
  have keep : ∀ {S'}, One S' (flatE Es) (c + 1) → One S' (flatE (Es.set run.e en')) (c + 1) := fun o' => by rw [same]; exact o'
  cases g with
  | @look q e seen vals hz ha hq =>
    have g2 : (flatE Es).getD (e * (3 + N) + 2) 0 = Bn en'.st := flatE_get ok he (by omega)
    refine slook_s h hq ha (by show e * (3 + N) < 100000; have : e * (3 + N) + 2 < _ := l2; omega) o (by omega) l2 fun H' S' o' h' => ?_
    rw [g2, Bn_nat (by omega)] at h'
    have hf : eff en' (.rd e 0 seen vals) = false := rfl
    rw [hf] at hR1
    rw [Rr.step_rd, if_pos rfl] at hR1
    by_cases hev : en'.st % 2 = 0
    · rw [if_pos hev] at hR1
      simp only [if_pos hev] at h'
      have h2 : Sep H' (gl 1 none (wds []) :: _) := gl_none.2 h'
      refine hR1 H' S' _ _ rfl (keep o') (.load (vals := []) (q := { q with s := Bn en'.st, n := 0, rv := none, rl := 0, nx := fnv F.record_Run_load r }) ⟨hz.no, hz.rk, hz.re⟩ ha rfl rfl rfl rfl (fun _ => rfl)) ?_
      exact Sep.up1 h2
    · rw [if_neg hev] at hR1
      simp only [if_neg hev] at h'
      exact hR1 H' S' _ _ rfl (keep o') (.look hz ha hq) h'
  | @load q e seen vals hz ha hq hn hs hl hv =>
    have hrd := inv.rd k 1 seen vals hk
    obtain ⟨_, _, _, hlt, _⟩ := hrd.2 (by omega)
    have hlt := hlt rfl
    have l3 : e * (3 + N) + 3 + vals.length < (flatE Es).length := by have : e * (3 + N) + (3 + vals.length) < _ := lt (3 + vals.length) (by omega); omega
    have hwd : (erow en').getD (3 + vals.length) 0 = en'.wd.getD vals.length 0 := by
      rw [List.getD_eq_getElem?_getD, List.getD_eq_getElem?_getD]
      have : (erow en')[3 + vals.length]? = en'.wd[vals.length]? := by rw [Nat.add_comm 3]; rfl
      rw [this]
    have g3 : (flatE Es).getD (e * (3 + N) + 3 + vals.length) 0 = en'.wd.getD vals.length 0 := by
      rw [Nat.add_assoc, ← hwd]; exact flatE_get ok he (by omega)
    refine sload_s (a := e * (3 + N)) (k := vals.length) h hq ha hn (by show (vals.length : Int) < (N : Int); omega) (by omega) hl hv (by omega) o (by omega) l3 fun H' S' v o' h' => ?_
    rw [g3] at h'
    have hf : eff en' (.rd e 1 seen vals) = false := rfl
    rw [hf] at hR1
    rw [Rr.step_rd, if_neg (by decide), if_pos rfl] at hR1
    have o2 := keep o'
    have hl1 : (vals ++ [en'.wd.getD vals.length 0]).length = vals.length + 1 := by simp
    by_cases hend : vals.length + 1 = N
    · rw [if_pos hend] at hR1
      have e1 : (((vals.length + 1 : Nat) : Int) = (mD N E bk inn).words) := by show ((vals.length + 1 : Nat) : Int) = (N : Int); omega
      simp only [if_pos e1] at h'
      exact hR1 H' S' _ _ rfl o2 (.same (q := { q with rv := some v, rl := vals.length + 1, n := ((vals.length + 1 : Nat) : Int), nx := fnv F.record_Run_same r }) ⟨hz.no, hz.rk, hz.re⟩ ha rfl hs hl1.symm (fun e => by cases e)) h'
    · rw [if_neg hend] at hR1
      have e1 : ¬ (((vals.length + 1 : Nat) : Int) = (mD N E bk inn).words) := by show ¬ ((vals.length + 1 : Nat) : Int) = (N : Int); omega
      simp only [if_neg e1] at h'
      exact hR1 H' S' _ _ rfl o2 (.load (q := { q with rv := some v, rl := vals.length + 1, n := ((vals.length + 1 : Nat) : Int), nx := fnv F.record_Run_load r }) ⟨hz.no, hz.rk, hz.re⟩ ha rfl (by show ((vals.length + 1 : Nat) : Int) = _; rw [hl1]) hs hl1.symm (fun e => by cases e)) h'
  | @same q e seen vals hz ha hq hs hl hv =>
    have g2 : (flatE Es).getD (e * (3 + N) + 2) 0 = Bn en'.st := flatE_get ok he (by omega)
    have hrd := inv.rd k 2 seen vals hk
    obtain ⟨_, hse, _, _, _⟩ := hrd.2 (by omega)
    rw [Rr.step_rd, if_neg (by decide), if_neg (by decide)] at hR1 hR2
    have h1 : Sep H (rA r x q :: mA m x (mD N E bk inn) :: mem m S :: gl 1 q.rv (wds vals) :: L) := Sep.pick h 4 [0, 2, 3, 1] (by decide)
    have hfin : en'.st = seen ↔ (flatE Es).getD (e * (3 + N) + 2) 0 = q.s := by
      rw [g2, hs, Bn_inj (by omega) (by omega)]
    refine ssame_s (a := e * (3 + N)) h1 hq ha (by have : e * (3 + N) + 2 < _ := l2; omega) o (by omega) l2 (fun z H' S' o' h' => ?_) (fun z H' S' o' h' => ?_)
    · have z := hfin.2 z
      rw [if_pos z] at hR2
      have hf : eff en' (.rd e 2 seen vals) = true := decide_eq_true ⟨by omega, z⟩
      rw [hf] at hR2
      exact hR2 H' S' _ rfl (keep o') (.mk (q := { q with nx := fnv F.record_Run_over r }) rfl hz.no hl hv (by show q.rk = _; rw [hz.rk]; rfl) hz.re) (Sep.pick h' 4 [0, 3, 1, 2] (by decide))
    · have z : ¬ en'.st = seen := fun e1 => z (hfin.1 e1)
      rw [if_neg z] at hR1
      have hf : eff en' (.rd e 2 seen vals) = false := decide_eq_false (fun h => z h.2)
      rw [hf] at hR1
      exact hR1 H' S' _ _ rfl (keep o') (.look (q := { q with nx := fnv F.record_Run_look r }) ⟨hz.no, hz.rk, hz.re⟩ ha rfl) (Sep.pick h' 4 [0, 1, 2] (by decide))
  | @draw q e n t b v hz ha hq hb hrv hrl hon hov hn =>
    have g0 : (flatE Es).getD (e * (3 + N)) 0 = Bn en'.dr := flatE_get (o := 0) ok he (by omega)
    have hf : eff en' (.wr e v 0 n t) = false := rfl
    rw [hf] at hR1
    rw [Rr.step_wr, if_pos rfl] at hR1
    have h1 : Sep H (rA r x q :: tk m (e * (3 + N)) 0 F.lock_Taker_draw b :: mA m x (mD N E bk inn) :: mem m S :: gl 1 q.ov (wds v) :: L) := Sep.pick h 5 [0, 1, 3, 4, 2] (by decide)
    refine sdraw_s (a := e * (3 + N)) h1 hq hb o (by omega) (lt 0 (by omega)) fun H' S' o' h' => ?_
    rw [g0] at o' h'
    have es : (flatE Es).set (e * (3 + N)) (Bn en'.dr + 1) = flatE (Es.set e { en' with dr := en'.dr + 1 }) := flatE_set (o := 0) ok he (by omega) (by rw [Bn_succ]; rfl)
    rw [es] at o'
    exact hR1 H' S' _ _ rfl o' (.wait (q := q) hz ha hq hb hrv hrl hon hov hn) (Sep.pick h' 5 [0, 1, 4, 2, 3] (by decide))
  | @wait q e n t b v hz ha hq hb hrv hrl hon hov hn =>
    have g1 : (flatE Es).getD (e * (3 + N) + 1) 0 = Bn en'.sv := flatE_get (o := 1) ok he (by omega)
    have ht := inv.tk k v 1 n t hk (by omega)
    have hf : eff en' (.wr e v 1 n t) = false := rfl
    rw [hf] at hR1
    rw [Rr.step_wr, if_neg (by decide), if_pos rfl] at hR1
    have h1 : Sep H (rA r x q :: tk m (e * (3 + N)) (Bn t) F.lock_Taker_wait b :: mA m x (mD N E bk inn) :: mem m S :: gl 1 q.ov (wds v) :: L) := Sep.pick h 5 [0, 1, 3, 4, 2] (by decide)
    have hw : (flatE Es).length ≤ 65536 := by omega
    refine swait_s (a := e * (3 + N)) h1 hq hb o (by omega) (lt 1 (by omega)) hw (fun z H' S' o' h' => ?_) fun z H' S' o' h' => ?_
    · rw [g1, Bn_inj (by omega) (by omega)] at z
      rw [if_pos z] at hR1
      exact hR1 H' S' _ _ rfl (keep o') (.late (q := { q with nx := fnv F.record_Run_begin r }) (by omega) (by omega) ⟨hz.no, hz.rk, hz.re⟩ ha rfl hrv hrl hon hov hn) (Sep.pick h' 5 [0, 4, 2, 3] (by decide))
    · rw [g1, ne_eq, Bn_inj (by omega) (by omega)] at z
      rw [if_neg z] at hR1
      exact hR1 H' S' _ _ rfl (keep o') (.wait (q := q) hz ha hq hb hrv hrl hon hov hn) (Sep.pick h' 5 [0, 1, 4, 2, 3] (by decide))
  | @late q e ph n t v hp hp5 hz ha hq hrv hrl hon hov hn =>
    obtain ⟨_, fl, f3, f4⟩ := inv.fr k v ph n t hk
    have h1 : Sep H (rA r x q :: mA m x (mD N E bk inn) :: mem m S :: gl 1 q.ov (wds v) :: L) := Sep.pick h 4 [0, 2, 3, 1] (by decide)
    have ha2 : e * (3 + N) < 100000 := by have : e * (3 + N) + 2 < _ := l2; omega
    rw [Rr.step_wr, if_neg (by omega), if_neg (by omega)] at hR1 hR2
    by_cases p2 : ph = 2
    · subst p2
      rw [if_pos rfl] at hR1
      have g2 : (flatE Es).getD (e * (3 + N) + 2) 0 = Bn en'.st := flatE_get (o := 2) ok he (by omega)
      have hf : eff en' (.wr e v 2 n t) = false := rfl
      rw [hf] at hR1
      refine sbegin_s (a := e * (3 + N)) h1 hq ha ha2 o (by omega) l2 fun H' S' o' h' => ?_
      have es : (flatE Es).set (e * (3 + N) + 2) (Bn en'.st + 1) = flatE (Es.set e { en' with st := en'.st + 1 }) := flatE_set (o := 2) ok he (by omega) (by rw [Bn_succ]; rfl)
      rw [g2, es] at o'
      exact hR1 H' S' _ _ rfl o' (.late (q := { q with nx := fnv F.record_Run_store r }) (by omega) (by omega) ⟨hz.no, hz.rk, hz.re⟩ ha rfl hrv hrl hon hov hn) (Sep.pick h' 4 [0, 3, 1, 2] (by decide))
    rw [if_neg p2] at hR1 hR2
    rw [if_neg p2] at hq
    by_cases p3 : ph = 3
    · subst p3
      rw [if_pos rfl] at hR1 hq
      have hlt := f4 rfl
      have hf : eff en' (.wr e v 3 n t) = false := rfl
      rw [hf] at hR1
      have l3 : e * (3 + N) + 3 + n < (flatE Es).length := by have : e * (3 + N) + (3 + n) < _ := lt (3 + n) (by omega); omega
      have h2 : Sep H (rA r x q :: gl 1 q.ov (wds v) :: mA m x (mD N E bk inn) :: mem m S :: L) := h
      refine sstore_s (a := e * (3 + N)) (k := n) h2 hq ha hn (by omega) hon (by omega) hov o (by omega) l3 fun H' S' o' h' => ?_
      have es : (flatE Es).set (e * (3 + N) + 3 + n) (v.getD n 0) = flatE (Es.set e { en' with wd := en'.wd.set n (v.getD n 0) }) := by
        rw [Nat.add_assoc]
        exact flatE_set (o := 3 + n) ok he (by omega) (by rw [Nat.add_comm 3]; rfl)
      rw [es] at o'
      by_cases hend : n + 1 = N
      · rw [if_pos hend] at hR1
        have e1 : (((n + 1 : Nat) : Int) = (mD N E bk inn).words) := by show ((n + 1 : Nat) : Int) = (N : Int); omega
        simp only [if_pos e1] at h'
        exact hR1 H' S' _ _ rfl o' (.late (q := { q with n := ((n + 1 : Nat) : Int), nx := fnv F.record_Run_end r }) (by omega) (by omega) ⟨hz.no, hz.rk, hz.re⟩ ha rfl hrv hrl hon hov rfl) h'
      · rw [if_neg hend] at hR1
        have e1 : ¬ (((n + 1 : Nat) : Int) = (mD N E bk inn).words) := by show ¬ ((n + 1 : Nat) : Int) = (N : Int); omega
        simp only [if_neg e1] at h'
        exact hR1 H' S' _ _ rfl o' (.late (q := { q with n := ((n + 1 : Nat) : Int), nx := fnv F.record_Run_store r }) (by omega) (by omega) ⟨hz.no, hz.rk, hz.re⟩ ha rfl hrv hrl hon hov rfl) h'
    rw [if_neg p3] at hR1 hR2 hq
    by_cases p4 : ph = 4
    · subst p4
      rw [if_pos rfl] at hR1 hq
      have g2 : (flatE Es).getD (e * (3 + N) + 2) 0 = Bn en'.st := flatE_get (o := 2) ok he (by omega)
      have hf : eff en' (.wr e v 4 n t) = true := rfl
      rw [hf] at hR1
      refine send_s (a := e * (3 + N)) h1 hq ha ha2 o (by omega) l2 fun H' S' o' h' => ?_
      have es : (flatE Es).set (e * (3 + N) + 2) (Bn en'.st + 1) = flatE (Es.set e { en' with st := en'.st + 1, val := v }) := flatE_set (o := 2) ok he (by omega) (by rw [Bn_succ]; rfl)
      rw [g2, es] at o'
      exact hR1 H' S' _ _ rfl o' (.late (q := { q with nx := fnv F.record_Run_drop r }) (by omega) (by omega) ⟨hz.no, hz.rk, hz.re⟩ ha rfl hrv hrl hon hov hn) (Sep.pick h' 4 [0, 3, 1, 2] (by decide))
    · rw [if_neg p4] at hR2 hq
      have p5 : ph = 5 := by omega
      subst p5
      have g1 : (flatE Es).getD (e * (3 + N) + 1) 0 = Bn en'.sv := flatE_get (o := 1) ok he (by omega)
      have hf : eff en' (.wr e v 5 n t) = false := rfl
      rw [hf] at hR2
      refine sdrop_s (a := e * (3 + N)) h1 hq ha ha2 o (by omega) (lt 1 (by omega)) (by omega) fun H' S' o' h' => ?_
      have es : (flatE Es).set (e * (3 + N) + 1) (Bn en'.sv + 1) = flatE (Es.set e { en' with sv := en'.sv + 1 }) := flatE_set (o := 1) ok he (by omega) (by rw [Bn_succ]; rfl)
      rw [g1, es] at o'
      have hg : gl 1 q.rv (wds []) = gl 1 none (wds []) := by rw [hrv]
      have h2 : Sep H' (gl 1 none (wds []) :: _) := gl_none.2 h'
      rw [← hg] at h2
      refine hR2 H' S' _ rfl o' (.mk (q := { q with nx := fnv F.record_Run_over r }) rfl hz.no hrl (fun _ => rfl) (by show q.rk = _; rw [hz.rk]; rfl) hz.re) ?_
      exact Sep.pick h2 5 [1, 0, 2, 3] (by decide)

def go0 (E : Nat) (kind : Int) (key : BitVec 64) (fl : Int) (v : List (BitVec 64)) : Gx :=
  if kind = 4 then .now (rans E 4 key fl []).1 (rans E 4 key fl []).2.2
  else if key.toNat < E then (if kind = 1 then .run (.rd key.toNat 0 0 []) else if fl = 1 then .now 3 0 else .run (.wr key.toNat v 0 0 0))
  else .now (if kind = 1 then 2 else 4) 0

set_option maxHeartbeats 1000000 in
theorem rbegin_s {gv : Option Nat} {v : List (BitVec 64)} {kind fl cp : Int} {key : BitVec 64} (h : Sep H (gl 1 gv (wds v) :: mA m x (mD N E bk inn) :: L)) (hgv : gv = none → v = []) (hE : 1 ≤ E ∧ E ≤ 64) (hN : 1 ≤ N ∧ N ≤ 4) (hv : kind ≠ 1 → kind ≠ 4 → 0 < v.length) (hvl : v.length < 1000)
    (hR : ∀ H' r bl, GoOk m x N r (go0 E kind key fl v) bl → Sep H' (bl ++ gl 1 gv (wds v) :: mA m x (mD N E bk inn) :: L) → R (P r) H') :
    CA en F.record_Map_Begin [P x, .agg #[I kind, .int .u64 key.toNat, .slice (addr gv) v.length 0, I fl, I cp]] H R := by
  apply vc_record_Map_Begin
  have ew : IntKind.u64.wrap (E : Int) = (E : Int) := wrap_len (by omega)
  refine Sep.nw h fun i1 H2 h2 => ⟨_, _, _, _, _, _, Sep.lds0 h2 rfl, Sep.nw h2 fun r H10 h10 => ?_⟩
  have h10 : Sep H10 (rA r x ⟨kind, key.toNat, gv, v.length, fl, cp, 0, none, 0, 0, 0, .nilFunc, .pointer none, 0, 0, 0⟩ :: bx i1 (.cells true 0 [I kind, .int .u64 key.toNat, .slice (addr gv) v.length 0, I fl, I cp]) :: gl 1 gv (wds v) :: mA m x (mD N E bk inn) :: L) := h10
  have hB := h10.bump 10
  -- r i1 gv x
  refine ⟨_, Sep.ld1 hB rfl, asAddr_in ⟨_, Sep.ld3 hB rfl, ⟨_, Sep.ld1 hB rfl, ?_⟩, trivial⟩⟩
  rw [ew]
  have hbase : key.toNat < E → IntKind.i64.wrap (IntKind.i64.wrap (key.toNat : Int) * IntKind.i64.wrap (3 + (N : Int))) = ((key.toNat * (3 + N) : Nat) : Int) := fun hk => by
    have h1 : key.toNat * (3 + N) ≤ 64 * 7 := Nat.mul_le_mul (by omega) (by omega)
    have e1 : IntKind.i64.wrap (key.toNat : Int) = (key.toNat : Int) := wrap_i64 (by omega)
    have e2 : IntKind.i64.wrap (3 + (N : Int)) = ((3 + N : Nat) : Int) := by rw [wrap_i64 (by omega)]; omega
    rw [e1, e2, ← Int.natCast_mul, wrap_i64 (by omega)]
  have now : ∀ (no : Int) {H2 : Heap}, go0 E kind key fl v = .now no 0 → Sep H2 (rA r x ⟨kind, key.toNat, gv, v.length, fl, cp, 0, none, 0, 0, 0, .nilFunc, .pointer none, 0, 0, 0⟩ :: bx i1 (.cells true 0 [I kind, .int .u64 key.toNat, .slice (addr gv) v.length 0, I fl, I cp]) :: gl 1 gv (wds v) :: mA m x (mD N E bk inn) :: L) →
      CA en F.record_Run_now [P r, .agg #[I no, .slice none 0 0, .int .u64 0, I 0]] H2 fun v29 H30 => v29 = undef ∧ R (P r) H30 := fun no H2 eg h2 => by
    refine now_s h2 fun H' j1 j3 h' => ⟨rfl, ?_⟩
    refine hR H' r _ (by rw [eg]; exact .now (q := { (⟨kind, key.toNat, gv, v.length, fl, cp, 0, none, 0, 0, 0, .nilFunc, .pointer none, 0, 0, 0⟩ : Rn) with nx := nowv j3 j1 }) (i1 := j1) (i3 := j3) rfl) ?_
    exact Sep.pick h' 6 [2, 0, 1, 4, 5] (by decide)
  refine cond_of (fun z4 => ⟨_, _, _, _, _, _, Sep.lds1 hB rfl, ?_⟩) fun z4 => ?_
  · have z4 : kind = 4 := by simpa using z4
    refine behind_s (Sep.up3 hB) hE fun H23 h23 => ⟨_, _, _, _, _, rfl, ?_⟩
    -- x r i1 gv
    refine now_s (Sep.up1 h23) fun H' j1 j3 h' => ⟨rfl, ?_⟩
    refine hR H' r _ (by unfold go0; rw [if_pos z4]; exact .now (q := { (⟨kind, key.toNat, gv, v.length, fl, cp, 0, none, 0, 0, 0, .nilFunc, .pointer none, 0, 0, 0⟩ : Rn) with nx := nowv j3 j1 }) (i1 := j1) (i3 := j3) rfl) ?_
    exact Sep.pick h' 6 [2, 0, 1, 5, 3] (by decide)
  · have z4 : ¬ kind = 4 := by simpa using z4
    unfold go0 at now hR
    rw [if_neg z4] at now hR
    by_cases hk : key.toNat < E
    · have e1 : decide ((key.toNat : Int) < (E : Int)) = true := by rw [decide_eq_true_iff]; omega
      rw [e1]
      rw [if_pos hk] at now hR
      refine cond_no rfl (cond_no rfl ⟨_, Sep.ld1 hB rfl, cond_of (fun z1 => ?_) fun z1 => ⟨_, Sep.ld1 hB rfl, cond_of (fun zf => ?_) fun zf => ?_⟩⟩)
      · have z1 : kind = 1 := by simpa using z1
        rw [if_pos z1] at hR
        have hC := hB.bump 20
        refine ⟨_, Sep.ld1 hC rfl, asAddr_in ⟨_, Sep.ld3 hC rfl, ?_⟩⟩
        rw [hbase hk]
        refine Sep.st0 hC (Nat.le_of_ble_eq_true rfl) fun H41 h41 => Sep.st0 h41 (Nat.le_of_ble_eq_true rfl) fun H42 h42 => ⟨?_, trivial⟩
        exact hR H42 r _ (.look (q := ⟨kind, key.toNat, gv, v.length, fl, cp, 0, none, 0, 0, 0, fnv F.record_Run_look r, .pointer none, ((key.toNat * (3 + N) : Nat) : Int), 0, 0⟩) ⟨rfl, rfl, rfl⟩ rfl rfl) (Sep.pick h42 4 [0, 2, 3] (by decide))
      · have z1 : ¬ kind = 1 := by simpa using z1
        have zf : fl = 1 := by simpa using zf
        rw [if_neg z1, if_pos zf] at now
        exact now 3 rfl hB
      · have z1 : ¬ kind = 1 := by simpa using z1
        have zf : ¬ fl = 1 := by simpa using zf
        have hv := hv z1 z4
        rw [if_neg z1, if_neg zf] at hR
        have hC := hB.bump 14
        refine ⟨_, Sep.ld1 hC rfl, asAddr_in ⟨_, Sep.ld3 hC rfl, ?_⟩⟩
        rw [hbase hk]
        refine Sep.st0 hC (Nat.le_of_ble_eq_true rfl) fun H50 h50 => ⟨⟨_, _, Sep.ld1 h50 rfl, wds v, ?_, ?_⟩, trivial⟩
        · obtain ⟨g, rfl⟩ : ∃ g, gv = some g := by
            cases gv with
            | none => rw [hgv rfl] at hv; simp at hv
            | some g => exact ⟨g, rfl⟩
          refine rowOf_bx (gl_get (Sep.up2 h50)) (by omega) ?_
          have : (wds v).length = v.length * 1 := by simp
          rw [← this]; exact takeAt_all' _
        have h51 : Sep H50 (gl 1 none [] :: _) := gl_none.2 h50
        refine apd_gl (b := none) (cs := []) (new := wds v) h51 (fun _ => rfl) (by decide) rfl hv (by simp) (by omega) fun H56 g' h56 => ?_
        rw [Nat.zero_add, List.nil_append] at *
        -- g' r i1 gv x
        refine Sep.st1 h56 (Nat.le_of_ble_eq_true rfl) fun H57 h57 => ?_
        have hD := h57.bump 23
        refine asAddr_in ⟨_, Sep.ld4 hD rfl, asAddr_in ⟨_, Sep.ld4 hD rfl, _, Sep.ld1 hD rfl, ?_⟩⟩
        refine take_s (i := key.toNat * (3 + N)) hD fun H66 b h66 => ⟨_, rfl, Sep.st2 h66 (Nat.le_of_ble_eq_true rfl) fun H68 h68 => Sep.st2 h68 (Nat.le_of_ble_eq_true rfl) fun H69 h69 => ⟨?_, trivial⟩⟩
        -- tk g' r i1 gv x
        refine hR H69 r _ (.draw (b := b) (q := ⟨kind, key.toNat, some g', v.length, fl, cp, 0, none, 0, 0, 0, fnv F.record_Run_take r, P b, ((key.toNat * (3 + N) : Nat) : Int), 0, 0⟩) ⟨rfl, rfl, rfl⟩ rfl rfl rfl rfl rfl rfl (fun e => by cases e) rfl) ?_
        exact Sep.pick h69 6 [2, 0, 1, 4, 5] (by decide)
    · have e1 : decide ((key.toNat : Int) < (E : Int)) = false := by rw [decide_eq_false_iff_not]; omega
      rw [e1]
      rw [if_neg hk] at now
      refine cond_yes rfl ⟨_, Sep.ld1 hB rfl, cond_of (fun z1 => ?_) fun z1 => cond_yes rfl ?_⟩
      · have z1 : kind = 1 := by simpa using z1
        rw [if_pos z1] at now
        exact now 2 rfl hB
      · have z1 : ¬ kind = 1 := by simpa using z1
        rw [if_neg z1] at now
        exact now 4 rfl hB
end Go.Proofs.Ytgpacebjbdhphaa

/-
  Records: the document's map.
-/
namespace Go.Proofs.Ytgpacebjbdhphaa
open Go Go.AS Go.RowKit
set_option linter.unusedVariables false
variable {H H' : Heap} {R : Value → Heap → Prop} {L M : List Asr} {A B : Asr} {N E : Nat} {vals : List (List (BitVec 64))} {qs : List Nat} {d : Dc} {rr vo : Nat}

theorem many_out {k : Nat} (hk : M[k]? = some A) (h : Sep H (many M :: L)) : Sep H (A :: many (M.eraseIdx k) :: L) := by
  have h1 := Sep.many_iff.1 h
  have h2 := h1.perm ((eraseIdx_perm hk).append_right L)
  exact (Sep.many_iff.2 (h2.perm List.perm_middle.symm)).swap
theorem many_in {k : Nat} (hk : k < M.length) (h : Sep H (B :: many (M.eraseIdx k) :: L)) : Sep H (many (M.set k B) :: L) := by
  have h1 := Sep.many_iff.1 h.swap
  have h2 := h1.perm List.perm_middle
  exact Sep.many_iff.2 (h2.perm ((set_perm hk).append_right L).symm)
theorem many_snoc (h : Sep H (B :: many M :: L)) : Sep H (many (M ++ [B]) :: L) := by
  have h1 := Sep.many_iff.1 h.swap
  refine Sep.many_iff.2 ?_
  rw [List.append_assoc]; exact h1

abbrev rowsG (qs : List Nat) (vals : List (List (BitVec 64))) : List Asr := List.zipWith (fun q v => bx q (.cells true 1 (wds v))) qs vals
abbrev slsG (N : Nat) (qs : List Nat) : List Value := qs.map fun q => .slice (some ⟨q, 0, none⟩) N 0
abbrev docA (rr : Nat) (vo : Option Nat) (d : Dc) (n : Nat) : Asr := bx rr (.cells true 0 [I d.kind, I d.entries, I d.words, I d.buckets, I d.inner, .slice (addr vo) n 0])

theorem rowsG_get (hl : qs.length = vals.length) {k : Nat} {q : Nat} {v : List (BitVec 64)} (hq : qs[k]? = some q) (hv : vals[k]? = some v) : (rowsG qs vals)[k]? = some (bx q (.cells true 1 (wds v))) := by
  show (List.zipWith _ qs vals)[k]? = _
  rw [List.getElem?_zipWith, hq, hv]
theorem rowsG_set : ∀ {qs : List Nat} {vals : List (List (BitVec 64))} (k q : Nat) (v : List (BitVec 64)), (rowsG qs vals).set k (bx q (.cells true 1 (wds v))) = rowsG (qs.set k q) (vals.set k v)
  | [], vals, k, q, v => by simp
  | q0 :: qs, [], k, q, v => by simp
  | q0 :: qs, v0 :: vals, 0, q, v => by simp
  | q0 :: qs, v0 :: vals, k + 1, q, v => by
    have := rowsG_set (qs := qs) (vals := vals) k q v
    simp only [rowsG] at this
    simp [this]
theorem rowsG_snoc (hl : qs.length = vals.length) (q : Nat) (v : List (BitVec 64)) : rowsG qs vals ++ [bx q (.cells true 1 (wds v))] = rowsG (qs ++ [q]) (vals ++ [v]) := by
  show _ = List.zipWith _ (qs ++ [q]) (vals ++ [v])
  rw [List.zipWith_append hl]; rfl

/-- The document's map is made. -/
theorem dnew_s (h : Sep H L) (he : d.entries = (E : Int)) (hw : d.words = (N : Int)) (hE : 1 ≤ E ∧ E ≤ 64) (hN : 1 ≤ N ∧ N ≤ 4)
    (hR : ∀ H' vo qs, qs.length = E → Sep H' (docA (H.next + 1) (some vo) d E :: gl 1 (some vo) (slsG N qs) :: many (rowsG qs (List.replicate E (List.replicate N 0))) :: L) → R (P (H.next + 1)) H') :
    CA en F.crossbarref14_New [.agg #[I d.kind, I d.entries, I d.words, I d.buckets, I d.inner]] H R := by
  apply vc_crossbarref14_New
  refine Sep.nwx' h fun h2 => ⟨_, _, _, _, _, Sep.lds0 h2 rfl, Sep.nwx' h2 fun h3 => ?_⟩
  have e1 : (H.new (.cells true 0 [I d.kind, I d.entries, I d.words, I d.buckets, I d.inner])).next = H.next + 1 := next_new _ _
  rw [e1] at h3 ⊢
  have h0 : Sep _ (docA (H.next + 1) none d 0 :: gl 1 none (slsG N []) :: many (rowsG [] []) :: bx H.next (.cells true 0 [I d.kind, I d.entries, I d.words, I d.buckets, I d.inner]) :: L) := Sep.up2 (gl_none.2 (Sep.many0 h3) |>.swap) |> fun z => Sep.pick z 4 [0, 2, 1, 3] (by decide)
  refine use_crossbarref14_New_0 (fun k t4 H' => ∃ (j : Nat) (vo : Option Nat) (qs : List Nat), j ≤ E ∧ k = E - j ∧ t4 = (j : Int) ∧ qs.length = j ∧ (vo = none → j = 0) ∧ Sep H' (docA (H.next + 1) vo d j :: gl 1 vo (slsG N qs) :: many (rowsG qs (List.replicate j (List.replicate N 0))) :: bx H.next (.cells true 0 [I d.kind, I d.entries, I d.words, I d.buckets, I d.inner]) :: L)) E ⟨0, none, [], Nat.zero_le _, rfl, rfl, rfl, fun _ => rfl, h0⟩ ?_
  rintro k t4 ys H3 ⟨j, vo, qs, hj, rfl, rfl, hq, hvo, h4⟩
  refine ⟨_, Sep.ld3 h4 rfl, ?_⟩
  refine cond_of (fun hc => ?_) fun hc => ?_
  · have hc : j < E := by simp only [decide_eq_true_eq] at hc; omega
    have hB := h4.bump 13
    refine ⟨_, _, Sep.ld0 hB rfl, _, Sep.ld3 hB rfl, ⟨by omega, Int.le_refl _, by omega⟩, ?_⟩
    rw [show d.words.toNat = N by omega, reps_w]
    refine Sep.nw hB fun i5 H6 h6 => Sep.nw h6 fun i7 H8 h8 => ⟨[.slice (some ⟨i5, 0, none⟩) N 0], rowOf_bx (es := 1) (n := 1) (b := i7) (Sep.get0 h8) (by decide) rfl, ?_⟩
    -- i7 i5 doc gl rows
    refine apd_gl (b := vo) (len := j) (n := 1) (cs := slsG N qs) (new := [.slice (some ⟨i5, 0, none⟩) N 0]) (Sep.up3 h8) (fun e => by have := hvo e; rw [List.eq_nil_of_length_eq_zero (by omega : qs.length = 0)]; rfl) (by decide) (by simp [hq]) (by decide) rfl (by omega) fun H12 q' h12 => ?_
    -- q' i7 i5 doc rows
    refine Sep.st3 h12 (Nat.le_of_ble_eq_true rfl) fun H13 h13 => ⟨⟨E - (j + 1), by omega, j + 1, some q', qs ++ [i5], by omega, rfl, by rw [wrap_i64 (by omega)]; omega, by simp [hq], (fun e => by cases e), ?_⟩, ⟨⟨_, _, Sep.ld0 hB rfl, rfl, rfl, rfl⟩, ⟨_, _, Sep.ld1 h6 rfl, rfl, rfl, rfl⟩, ⟨_, _, Sep.ld2 h8 rfl, rfl, rfl, rfl⟩, trivial⟩, trivial⟩
    have e1 : slsG N qs ++ [.slice (some ⟨i5, 0, none⟩) N 0] = slsG N (qs ++ [i5]) := by simp
    have e2 := rowsG_snoc (qs := qs) (vals := List.replicate j (List.replicate N 0)) (by simp [hq]) i5 (List.replicate N 0)
    rw [← List.replicate_succ'] at e2
    rw [← e2, ← e1]
    have h14 := Sep.pick h13 6 [2, 4, 3, 0, 5] (by decide)
    exact Sep.pick (many_snoc h14) 4 [1, 2, 0, 3] (by decide)
  · have hc : j = E := by simp only [decide_eq_false_iff_not] at hc; omega
    subst hc
    obtain ⟨vo, rfl⟩ : ∃ v, vo = some v := by
      cases vo with
      | none => have := hvo rfl; omega
      | some v => exact ⟨v, rfl⟩
    exact hR H3 vo qs hq (Sep.pick h4 4 [0, 1, 2] (by decide))

def rnew (E : Nat) (kind : Int) (key : BitVec 64) (flag : Int) (val : List (BitVec 64)) (vals : List (List (BitVec 64))) : List (List (BitVec 64)) :=
  if kind = 4 ∨ kind = 1 then vals else if E ≤ key.toNat ∨ flag = 1 then vals else vals.set key.toNat val

set_option maxHeartbeats 1000000 in
/-- What it does. -/
theorem ddo_s {a : Option Addr} {vn : Nat} {val : List (BitVec 64)} {kind fl cp : Int} {key : BitVec 64} (h : Sep H (docA rr (some vo) d E :: gl 1 (some vo) (slsG N qs) :: many (rowsG qs vals) :: L)) (hq : qs.length = E) (hvl : vals.length = E) (hN : ∀ v ∈ vals, v.length = N) (hE : 1 ≤ E ∧ E ≤ 64) (hN2 : 1 ≤ N ∧ N ≤ 4)
    (ra : RdW L a val) (hvn : vn = val.length) (hva : kind ≠ 4 → kind ≠ 1 → val.length = N)
    (hR : ∀ H' qs' g, qs'.length = E → (g = none → (rans E kind key fl vals).2.1 = []) → Sep H' (gl 1 g (wds (rans E kind key fl vals).2.1) :: docA rr (some vo) d E :: gl 1 (some vo) (slsG N qs') :: many (rowsG qs' (rnew E kind key fl val vals)) :: L) → R (.agg #[I (rans E kind key fl vals).1, .slice (addr g) (rans E kind key fl vals).2.1.length 0, .int .u64 (rans E kind key fl vals).2.2.toNat, I 0]) H') :
    CA en F.crossbarref14_Map_Do [P rr, .agg #[I kind, .int .u64 key.toNat, .slice a vn 0, I fl, I cp]] H R := by
  apply vc_crossbarref14_Map_Do
  have ew : IntKind.u64.wrap (((E : Nat) : Int)) = (E : Int) := wrap_len (by omega)
  unfold rans rnew at hR
  refine Sep.nw h fun i1 H2 h2 => Sep.nw h2 fun i3 H4 h4 => ?_
  -- i3 i1 doc gl rows
  refine asAddr_in ⟨_, _, Sep.ld2 h4 rfl, _, Sep.ld1 h4 rfl, ?_⟩
  have fin : ∀ (no : Int) (k' : BitVec 64) (vals' : List (List (BitVec 64))) {H2 : Heap} {qs' : List Nat}, qs'.length = E → (∀ H' qs' g, qs'.length = E → (g = none → ([] : List (BitVec 64)) = []) → Sep H' (gl 1 g (wds []) :: docA rr (some vo) d E :: gl 1 (some vo) (slsG N qs') :: many (rowsG qs' vals') :: L) → R (.agg #[I no, .slice (addr g) 0 0, .int .u64 k'.toNat, I 0]) H') →
      Sep H2 (bx i3 (.cells true 0 [I 0, .slice none 0 0, .int .u64 0, I 0]) :: bx i1 (.cells true 0 [I kind, .int .u64 key.toNat, .slice a vn 0, I fl, I cp]) :: docA rr (some vo) d E :: gl 1 (some vo) (slsG N qs') :: many (rowsG qs' vals') :: L) →
      stc H2 i3 0 [I no, .slice none 0 0, .int .u64 k'.toNat, I 0] fun H11 => ∃ n12 a13 i14 n15 n16, H11.cellsAt i3 0 4 = some [I n12, .slice a13 i14 0, .int .u64 n15, I n16] ∧ R (.agg #[I n12, .slice a13 i14 0, .int .u64 n15, I n16]) H11 := fun no k' vals' H2 qs' hq' hR h2 => by
    exact Sep.st0 h2 (Nat.le_of_ble_eq_true rfl) fun H11 h11 => ⟨_, _, _, _, _, Sep.lds0 h11 rfl, hR H11 qs' none hq' (fun _ => rfl) (gl_none.2 h11.tail.tail)⟩
  refine cond_of (fun z4 => ?_) fun z4 => ⟨_, Sep.ld1 h4 rfl, cond_of (fun z1 => ?_) fun z1 => ?_⟩
  · have z4 : kind = 4 := by simpa using z4
    rw [if_pos z4, if_pos (show kind = 4 ∨ kind = 1 from .inl z4)] at hR
    refine ⟨_, Sep.ld1 h4 rfl, cond_of (fun zf => ?_) fun zf => ⟨_, Sep.ld1 h4 rfl, ?_⟩⟩
    · have zf : fl = 1 := by simpa using zf
      rw [if_pos zf] at hR
      exact fin 0 0 vals hq hR h4
    · have zf : ¬ fl = 1 := by simpa using zf
      rw [if_neg zf] at hR
      rw [ew]
      refine cond_of (fun y => ?_) fun y => ⟨_, Sep.ld1 h4 rfl, ?_⟩
      · have y : E ≤ key.toNat := by simp only [decide_eq_true_eq] at y; omega
        rw [if_pos y] at hR
        exact fin 0 0 vals hq hR h4
      · have y : ¬ E ≤ key.toNat := by simp only [decide_eq_false_iff_not] at y; omega
        rw [if_neg y] at hR
        rw [key_succ (by omega)]
        have ks : (key + 1).toNat = key.toNat + 1 := by
          have := key_succ (k := key) (by omega)
          have e2 : IntKind.u64.wrap ((key.toNat : Int) + 1) = ((key.toNat + 1 : Nat) : Int) := by
            have := wrap_len (n := key.toNat + 1) (by omega)
            rw [← this]; rfl
          omega
        refine cond_of (fun w => ?_) fun w => ⟨_, Sep.ld1 h4 rfl, ?_⟩
        · have w : key.toNat + 1 = E := by rw [beq_iff_eq] at w; omega
          rw [if_pos w] at hR
          exact fin 2 0 vals hq hR h4
        · have w : ¬ key.toNat + 1 = E := by rw [beq_eq_false_iff_ne] at w; omega
          rw [if_neg w] at hR
          rw [key_succ (by omega)]
          exact fin 0 (key + 1) vals hq hR h4
  · have z4 : ¬ kind = 4 := by simpa using z4
    have z1 : kind = 1 := by simpa using z1
    rw [if_neg z4, if_pos z1, if_pos (show kind = 4 ∨ kind = 1 from .inr z1)] at hR
    refine ⟨_, Sep.ld1 h4 rfl, ?_⟩
    rw [ew]
    refine cond_of (fun y => ?_) fun y => ?_
    · have y : E ≤ key.toNat := by simp only [decide_eq_true_eq] at y; omega
      rw [if_pos y] at hR
      exact fin 2 0 vals hq hR h4
    · have y : ¬ E ≤ key.toNat := by simp only [decide_eq_false_iff_not] at y; omega
      rw [if_neg y] at hR
      have hB := h4.bump 11
      obtain ⟨q, hqk⟩ : ∃ q, qs[key.toNat]? = some q := ⟨_, List.getElem?_eq_getElem (by omega)⟩
      obtain ⟨v, hvk⟩ : ∃ v, vals[key.toNat]? = some v := ⟨_, List.getElem?_eq_getElem (by omega)⟩
      have hvN := hN v (List.mem_of_getElem? hvk)
      have hvd : vals.getD key.toNat [] = v := by rw [List.getD_eq_getElem?_getD, hvk]; rfl
      have hsl : (slsG N qs)[0 + (key.toNat : Int).toNat * 1]? = some (.slice (some ⟨q, 0, none⟩) N 0) := by
        rw [Int.toNat_natCast, Nat.zero_add, Nat.mul_one, List.getElem?_map, hqk]; rfl
      rw [hvd] at hR
      refine asAddr_in ⟨_, _, Sep.ld2 hB rfl, _, Sep.ld1 hB rfl, by unfold inB; omega, asRow_in ⟨_, _, Sep.ld0 (gl_some.1 (Sep.up3 hB)) hsl, ?_⟩⟩
      have hO := many_out (rowsG_get (by omega) hqk hvk) (Sep.up4 hB)
      -- row rest i3 i1 doc gl
      refine CopyWords_s hO (rdw_bx (ws := v) List.mem_cons_self) hvN.symm (by omega) fun H56 g hg h56 => ⟨_, _, rfl, ?_⟩
      -- g row rest i3 i1 doc gl
      refine Sep.st3 h56 (Nat.le_of_ble_eq_true rfl) fun H59 h59 => ⟨⟨_, _, _, _, _, Sep.lds3 h59 rfl, ?_⟩, trivial⟩
      have hI := many_in (k := key.toNat) (by show key.toNat < (List.zipWith _ qs vals).length; rw [List.length_zipWith]; omega) (Sep.pick h59 7 [1, 2, 0, 5, 6] (by decide))
      rw [rowsG_set, set_same hqk, set_same hvk] at hI
      exact hR H59 qs g hq hg (Sep.pick hI 4 [1, 2, 3, 0] (by decide))
  · have z4 : ¬ kind = 4 := by simpa using z4
    have z1 : ¬ kind = 1 := by simpa using z1
    rw [if_neg z4, if_neg z1, if_neg (show ¬ (kind = 4 ∨ kind = 1) from fun e => e.elim z4 z1)] at hR
    refine ⟨_, Sep.ld1 h4 rfl, ?_⟩
    rw [ew]
    refine cond_of (fun y => ?_) fun y => ⟨_, Sep.ld1 h4 rfl, cond_of (fun zf => ?_) fun zf => ?_⟩
    · have y : E ≤ key.toNat := by simp only [decide_eq_true_eq] at y; omega
      rw [if_pos y, if_pos (show E ≤ key.toNat ∨ fl = 1 from .inl y)] at hR
      exact fin 4 0 vals hq hR h4
    · have y : ¬ E ≤ key.toNat := by simp only [decide_eq_false_iff_not] at y; omega
      have zf : fl = 1 := by simpa using zf
      rw [if_neg y, if_pos zf, if_pos (show E ≤ key.toNat ∨ fl = 1 from .inr zf)] at hR
      exact fin 3 0 vals hq hR h4
    · have y : ¬ E ≤ key.toNat := by simp only [decide_eq_false_iff_not] at y; omega
      have zf : ¬ fl = 1 := by simpa using zf
      rw [if_neg y, if_neg zf, if_neg (show ¬ (E ≤ key.toNat ∨ fl = 1) from fun e => e.elim y zf)] at hR
      have hva := hva z4 z1
      have hB := h4.bump 11
      obtain ⟨q, hqk⟩ : ∃ q, qs[key.toNat]? = some q := ⟨_, List.getElem?_eq_getElem (by omega)⟩
      obtain ⟨v, hvk⟩ : ∃ v, vals[key.toNat]? = some v := ⟨_, List.getElem?_eq_getElem (by omega)⟩
      refine asAddr_in ⟨_, _, Sep.ld2 hB rfl, _, Sep.ld1 hB rfl, _, _, Sep.ld1 hB rfl, ?_⟩
      have ra' : RdW (bx i3 (.cells true 0 [I 0, .slice none 0 0, .int .u64 0, I 0]) :: bx i1 (.cells true 0 [I kind, .int .u64 key.toNat, .slice a vn 0, I fl, I cp]) :: docA rr (some vo) d E :: gl 1 (some vo) (slsG N qs) :: many (rowsG qs vals) :: L) a val := ra.tail'.tail'.tail'.tail'.tail'
      refine CopyWords_s hB ra' hvn (by omega) fun H87 g hg h87 => ⟨_, _, rfl, by unfold inB; omega, asRow_in ?_⟩
      obtain ⟨g, rfl⟩ : ∃ g', g = some g' := by
        cases g with
        | none => have := hg rfl; rw [this] at hva; simp at hva; omega
        | some g => exact ⟨g, rfl⟩
      -- g i3 i1 doc gl rows
      have hlt : 0 + (key.toNat : Int).toNat * 1 + 1 ≤ (slsG N qs).length := by rw [List.length_map, Int.toNat_natCast]; omega
      refine Sep.st0 (gl_some.1 (Sep.up4 h87)) hlt fun H92 h92 => ⟨?_, ⟨⟨_, Sep.ld1 hB rfl, rfl⟩, ⟨_, Sep.ld2 h87 rfl, rfl⟩, trivial⟩, ⟨⟨_, _, Sep.ld2 hB rfl, rfl, rfl, rfl⟩, ⟨_, _, Sep.ld3 h87 rfl, rfl, rfl, rfl⟩, trivial⟩, trivial⟩
      have es : setAt (slsG N qs) (0 + (key.toNat : Int).toNat * 1) [.slice (addr (some g)) val.length 0] = slsG N (qs.set key.toNat g) := by
        rw [Int.toNat_natCast, Nat.zero_add, Nat.mul_one, setAt1, hva, slsG, slsG, List.map_set]; rfl
      rw [es] at h92
      -- gl g i3 i1 doc rows
      have hO := many_out (rowsG_get (by omega) hqk hvk) (Sep.up5 h92)
      -- row rest gl g i3 i1 doc
      have hI := many_in (k := key.toNat) (by show key.toNat < (List.zipWith _ qs vals).length; rw [List.length_zipWith]; omega) (Sep.pick (gl_some.1 (Sep.up3 hO)) 7 [0, 2, 4, 5, 6, 3] (by decide))
      rw [rowsG_set] at hI
      -- rows i3 i1 doc gl
      have hJ : Sep H92 (bx i3 (.cells true 0 [I 0, .slice none 0 0, .int .u64 0, I 0]) :: bx i1 (.cells true 0 [I kind, .int .u64 key.toNat, .slice a vn 0, I fl, I cp]) :: docA rr (some vo) d E :: gl 1 (some vo) (slsG N (qs.set key.toNat g)) :: many (rowsG (qs.set key.toNat g) (vals.set key.toNat val)) :: L) := by
        have := Sep.pick hI 5 [1, 2, 3, 4, 0] (by decide)
        exact Sep.pick (gl_some.2 (Sep.up3 this)) 5 [1, 2, 3, 0, 4] (by decide)
      exact fin 0 0 (vals.set key.toNat val) (by rw [List.length_set]; exact hq) hR hJ
end Go.Proofs.Ytgpacebjbdhphaa

/-
  Records that agents are about: a step of an agent.
-/
namespace Go.Proofs.Ytgpacebjbdhphaa
open Go Go.AS Go.RowKit
set_option linter.unusedVariables false
open Rr (Ent)
variable {H H' H0 : Heap} {R : Value → Heap → Prop} {L M : List Asr} {N E n k s m x rr vo ab : Nat} {d : Dc} {la : Option Addr} {ll : List (List Op)} {st : Rr.St} {Ks : List Ak} {c : Int}

/-- What an operation asks for, and what was begun for it. -/
def OpOk (N E : Nat) (go : Gx) (kind : Int) (key : BitVec 64) (fl : Int) (val : List (BitVec 64)) : Prop :=
  match go with
  | .now no k' => (∀ vals, rans E kind key fl vals = (no, [], k')) ∧ (∀ vals, rnew E kind key fl val vals = vals) ∧ (kind ≠ 4 → kind ≠ 1 → val.length = N)
  | .run (.rd e _ _ _) => kind = 1 ∧ key.toNat = e ∧ e < E
  | .run (.wr e v _ _ _) => kind = 2 ∧ key.toNat = e ∧ e < E ∧ fl ≠ 1 ∧ val = v ∧ v.length = N
theorem OpOk.val {go : Gx} {kind fl : Int} {key : BitVec 64} {val : List (BitVec 64)} (h : OpOk N E go kind key fl val) : kind ≠ 4 → kind ≠ 1 → val.length = N := by
  cases go with
  | now no k' => exact h.2.2
  | run r =>
    cases r with
    | rd e ph seen vals => exact fun _ h1 => absurd h.1 h1
    | wr e v ph n t => obtain ⟨_, _, _, _, rfl, hl⟩ := h; exact fun _ _ => hl
theorem go0_ok {kind fl : Int} {key : BitVec 64} {val : List (BitVec 64)} (hk : kind = 1 ∨ kind = 2 ∨ kind = 4) (hv : kind = 2 → val.length = N) : OpOk N E (go0 E kind key fl val) kind key fl val := by
  unfold go0
  have hv' : kind ≠ 4 → kind ≠ 1 → val.length = N := fun h1 h2 => hv (by rcases hk with e | e | e; exact absurd e h2; exact e; exact absurd e h1)
  by_cases h4 : kind = 4
  · rw [if_pos h4]
    refine ⟨fun vals => ?_, fun vals => ?_, hv'⟩
    · unfold rans
      simp only [if_pos h4, if_true]
      by_cases h1 : fl = 1
      · simp only [if_pos h1]
      · simp only [if_neg h1]
        by_cases h2 : E ≤ key.toNat
        · simp only [if_pos h2]
        · simp only [if_neg h2]
          by_cases h3 : key.toNat + 1 = E
          · simp only [if_pos h3]
          · simp only [if_neg h3]
    · unfold rnew; rw [if_pos (.inl h4)]
  · rw [if_neg h4]
    by_cases hlt : key.toNat < E
    · rw [if_pos hlt]
      by_cases h1 : kind = 1
      · rw [if_pos h1]; exact ⟨h1, rfl, hlt⟩
      · have h2 : kind = 2 := by rcases hk with e | e | e; exact absurd e h1; exact e; exact absurd e h4
        rw [if_neg h1]
        by_cases hf : fl = 1
        · rw [if_pos hf]
          refine ⟨fun vals => ?_, fun vals => ?_, hv'⟩
          · unfold rans; rw [if_neg h4, if_neg h1, if_neg (by omega), if_pos hf]
          · unfold rnew; rw [if_neg (by rintro (e | e); exact h4 e; exact h1 e), if_pos (.inr hf)]
        · rw [if_neg hf]; exact ⟨h2, rfl, hlt, hf, rfl, hv h2⟩
    · rw [if_neg hlt]
      refine ⟨fun vals => ?_, fun vals => ?_, hv'⟩
      · unfold rans; rw [if_neg h4]
        by_cases h1 : kind = 1
        · rw [if_pos h1, if_pos h1, if_pos (by omega)]
        · rw [if_neg h1, if_neg h1, if_pos (by omega)]
      · unfold rnew
        by_cases h1 : kind = 1
        · rw [if_pos (.inr h1)]
        · rw [if_neg (by rintro (e | e); exact h4 e; exact h1 e), if_pos (.inl (by omega))]

def isLate : Rr.Run → Bool
  | .wr _ _ ph _ _ => decide (ph = 5)
  | _ => false
/-- An agent's cells, and what is owned for its run. -/
structure Rag (m x N E p : Nat) (go : Gx) (a : Ak) (B : List Asr) : Prop where
  run : a.run = some ⟨p, 0, none⟩
  ex : ∃ (bl : List Asr) (key : BitVec 64) (val : List (BitVec 64)) (g : Option Nat), GoOk m x N p go bl ∧ OpOk N E go a.kind key a.fl val ∧ a.key = key.toNat ∧ a.va = addr g ∧ a.vn = val.length ∧ val.length < 1000 ∧ (g = none → val = []) ∧ B = gl 1 g (wds val) :: bl
structure AgR (m x N E : Nat) (r : Rr.Run) (a : Ak) (B : Asr) : Prop where
  ex : ∃ p bl, Rag m x N E p (.run r) a bl ∧ B = many bl
  had : a.had = isLate r
  res : isLate r = true → a.no = 0 ∧ a.rn = 0 ∧ a.rk = 0 ∧ a.re = 0
def AgOk (m x N E : Nat) (r : Option Rr.Run) (a : Ak) (B : Asr) : Prop :=
  match r with
  | none => a.run = none
  | some r => AgR m x N E r a B

abbrev sideR (s m x rr ab n : Nat) (d : Dc) (la : Option Addr) : Asr := bx s (.cells true 0 [P m, P x, P rr, I d.kind, I d.entries, I d.words, I d.buckets, I d.inner, .slice la n 0, .slice (some ⟨ab, 0, none⟩) n 0])
structure RD (N E : Nat) (d : Dc) : Prop where
  kind : d.kind = 3
  ents : d.entries = (E : Int)
  words : d.words = (N : Int)
  inner : d.inner = 0
  hE : 1 ≤ E ∧ E ≤ 64
  hN : 1 ≤ N ∧ N ≤ 4

/-- All of it. -/
structure RS (H0 : Heap) (s m x rr vo ab n N E : Nat) (d : Dc) (la : Option Addr) (ll : List (List Op)) (H : Heap) (st : Rr.St) (Ks : List Ak) (c : Int) : Prop where
  len : Ks.length = n
  inv : Rr.Inv N E n st
  at_ : ∀ (i : Nat) (a : Ak) (l : List Op), Ks[i]? = some a → ll[i]? = some l → a.at_ ≤ l.length
  bnd : ∀ (e : Nat) (en : Ent), st.Es[e]? = some en → (en.dr : Int) ≤ c ∧ (en.st : Int) ≤ c
  ex : ∃ (S : Sm) (RB : List Asr) (qs : List Nat), One S (flatE st.Es) c ∧ RB.length = n ∧ qs.length = E ∧ (∀ (i : Nat) (a : Ak) (r : Option Rr.Run) (B : Asr), Ks[i]? = some a → st.As[i]? = some r → RB[i]? = some B → AgOk m x N E r a B) ∧
    Sep H [bx ab (.cells true 12 (Ks.map Ak.cells).flatten), sideR s m x rr ab n d la, mA m x (mD N E d.buckets d.inner), mem m S, docA rr (some vo) d E, gl 1 (some vo) (slsG N qs), many (rowsG qs (st.Es.map Ent.val)), many RB, old H0]

theorem es_ok (inv : Rr.Inv N E n st) : EsOk N st.Es := ⟨fun en hm => by
  obtain ⟨e, he⟩ := List.getElem?_of_mem hm
  exact (inv.ent e en he).len⟩
theorem es_val (inv : Rr.Inv N E n st) : ∀ v ∈ st.Es.map Ent.val, v.length = N := fun v hv => by
  obtain ⟨en, hm, rfl⟩ := List.mem_map.1 hv
  obtain ⟨e, he⟩ := List.getElem?_of_mem hm
  exact (inv.ent e en he).lval

/-- What tells a run's result. -/
def ResC (x p : Nat) (bl : List Asr) (no : Int) (vals : List (BitVec 64)) (k' : BitVec 64) : Prop :=
  ∀ (H : Heap) (L : List Asr) (R : Value → Heap → Prop), Sep H (bl ++ L) → (∀ H' g, (g = none → vals = []) → Sep H' (gl 1 g (wds vals) :: (bl ++ L)) → R (.agg #[I no, .slice (addr g) vals.length 0, .int .u64 k'.toNat, I 0]) H') → CA en F.record_Run_Result [P p] H R
theorem resC_over {p : Nat} {bl : List Asr} {no : Int} {vals : List (BitVec 64)} {k' : BitVec 64} (h : OverOk x p no vals k' bl) (hv : vals.length < 1000) : ResC x p bl no vals k' := by
  intro H L R hs hR
  cases h with
  | @mk q _ _ _ hq hno hl hvn hk hre =>
    refine rres_s hs hl hv hvn fun H' g hg h' => ?_
    rw [hno, hk, hre]
    exact hR H' g hg h'
theorem resC_late {p e n' t : Nat} {v : List (BitVec 64)} {bl : List Asr} (h : GoOk m x N p (.run (.wr e v 5 n' t)) bl) : ResC x p bl 0 [] 0 := by
  intro H L R hs hR
  cases h with
  | @late q _ _ _ _ _ hp hp5 hz ha hq hrv hrl hon hov hn =>
    have h1 : Sep H (gl 1 none (wds []) :: _) := gl_none.2 hs
    have hg : gl 1 q.rv (wds []) = gl 1 none (wds []) := by rw [hrv]
    rw [← hg] at h1
    refine rres_s (vs := []) (h1.swap) hrl (by decide) (fun _ => rfl) fun H' g hgn h' => ?_
    rw [hz.no, hz.rk, hz.re]
    -- g q rv ..
    exact hR H' g hgn (Sep.rm2 h')

theorem vals_set {Es : List Ent} {e : Nat} {en' : Ent} (he : Es[e]? = some en') (en2 : Ent) (h : en2.val = en'.val) : (Es.set e en2).map Ent.val = Es.map Ent.val := by
  rw [List.map_set]
  refine set_same ?_
  rw [List.getElem?_map, he]; show some en'.val = some en2.val; rw [h]

/-- What a step of a run has come to. -/
structure Out (m x N E n k p : Nat) (st st2 : Rr.St) (kind : Int) (key : BitVec 64) (fl : Int) (val : List (BitVec 64)) (late e' d' : Bool) (bl : List Asr) (no : Int) (rv : List (BitVec 64)) (k' : BitVec 64) : Prop where
  inv : Rr.Inv N E n st2
  go : d' = false → late = false ∧ no = 0 ∧ rv = [] ∧ k' = 0 ∧ ∃ r', st2.As[k]? = some (some r') ∧ GoOk m x N p (.run r') bl ∧ OpOk N E (.run r') kind key fl val ∧ isLate r' = e'
  over : d' = true → st2.As[k]? = some none ∧ OverOk x p no rv k' bl
  eff : e' = true → late = false ∧ rans E kind key fl (st.Es.map Ent.val) = (no, rv, k') ∧ rnew E kind key fl val (st.Es.map Ent.val) = st2.Es.map Ent.val ∧ ResC x p bl no rv k'
  noeff : e' = false → st2.Es.map Ent.val = st.Es.map Ent.val ∧ (d' = true → late = true ∧ no = 0 ∧ rv = [] ∧ k' = 0)
  else_ : ∀ i, i ≠ k → st2.As[i]? = st.As[i]?
  len : rv.length < 1000

theorem gstep_s {S : Sm} {p : Nat} {go : Gx} {bl : List Asr} {kind fl : Int} {key : BitVec 64} {val : List (BitVec 64)} {late : Bool} (g : GoOk m x N p go bl) (op : OpOk N E go kind key fl val) (rd : RD N E d) (inv : Rr.Inv N E n st) (hn : n ≤ 4)
    (hgo : (∃ no k', go = .now no k' ∧ st.As[k]? = some none ∧ late = false) ∨ ∃ r, go = .run r ∧ Rr.On st.As k r ∧ late = isLate r)
    (bnd : ∀ (e : Nat) (en : Ent), st.Es[e]? = some en → (en.dr : Int) ≤ c ∧ (en.st : Int) ≤ c) (o : One S (flatE st.Es) c) (hc : c < 90000) (lens ats : List Nat)
    (h : Sep H (bl ++ mA m x (mD N E d.buckets d.inner) :: mem m S :: L))
    (hR : ∀ H' S' st2 e' d' bl' no rv k' c', c ≤ c' → c' ≤ c + 1 → Out m x N E n k p st st2 kind key fl val late e' d' bl' no rv k' → One S' (flatE st2.Es) c' → (∀ (e : Nat) (en : Ent), st2.Es[e]? = some en → (en.dr : Int) ≤ c' ∧ (en.st : Int) ≤ c') →
      (Rr.Phi N lens ats st2 < Rr.Phi N lens ats st ∨ (st2 = st ∧ (go = .run (match go with | .run r => r | _ => .rd 0 0 0 []) → ∃ r en, Rr.On st.As k r ∧ st.Es[r.e]? = some en ∧ Rr.stuck en r))) →
      Sep H' (bl' ++ mA m x (mD N E d.buckets d.inner) :: mem m S' :: L) → R (.tuple #[.bool e', .bool d']) H') :
    CA en F.record_Run_Step [P p] H R := by
  rcases hgo with ⟨no, k', rfl, hk, rfl⟩ | ⟨r, rfl, hk, rfl⟩
  · cases g with
    | @now q i1 i3 _ _ hq =>
      refine snow_s h hq fun H' h' => ?_
      obtain ⟨o1, o2, _⟩ := op
      have h2 : Sep H' (gl 1 none (wds []) :: _) := gl_none.2 h'
      refine hR H' S st true true [rA p x { q with nx := fnv F.record_Run_over p, no := no, rv := none, rl := 0, rk := k'.toNat, re := 0 }, gl 1 none (wds [])] no [] k' c (Int.le_refl _) (by omega) ⟨inv, fun e => (by cases e), fun _ => ⟨hk, .mk (q := { q with nx := fnv F.record_Run_over p, no := no, rv := none, rl := 0, rk := k'.toNat, re := 0 }) rfl rfl rfl (fun _ => rfl) rfl rfl⟩, fun _ => ⟨rfl, o1 _, o2 _, ?_⟩, fun e => (by cases e), fun _ _ => rfl, by decide⟩ o bnd (.inr ⟨rfl, fun e => (by cases e)⟩) ?_
      · exact resC_over (.mk (q := { q with nx := fnv F.record_Run_over p, no := no, rv := none, rl := 0, rk := k'.toNat, re := 0 }) rfl rfl rfl (fun _ => rfl) rfl rfl) (by decide)
      · exact Sep.pick h2 6 [1, 0, 4, 5] (by decide)
  · have he' := inv.on k r hk
    obtain ⟨en', he⟩ : ∃ en', st.Es[r.e]? = some en' := ⟨_, List.getElem?_eq_getElem (by rw [inv.le]; exact he')⟩
    have hent := inv.ent _ _ he
    have hb := bnd _ _ he
    have hEl : st.Es.length ≤ 64 := by rw [inv.le]; exact rd.hE.2
    have inv2 := inv.step rd.hN.1 hk he
    have hprog := Rr.phi_step (lens := lens) (ats := ats) inv hn rd.hN.1 hk he
    have hprog2 : Rr.Phi N lens ats (st.step N k r en') < Rr.Phi N lens ats st ∨ (st.step N k r en' = st ∧ ((Gx.run r) = .run r → ∃ r en, Rr.On st.As k r ∧ st.Es[r.e]? = some en ∧ Rr.stuck en r)) := hprog.elim (fun z => .inr ⟨z.2, fun _ => ⟨r, en', hk, he, z.1⟩⟩) .inl
    have helse : ∀ i, i ≠ k → (st.step N k r en').As[i]? = st.As[i]? := fun i hi => List.getElem?_set_ne (fun e => hi e.symm)
    have hkl : k < st.As.length := (List.getElem?_eq_some_iff.1 hk).1
    have hself : (st.step N k r en').As[k]? = some (r.step N en').2 := List.getElem?_set_self hkl
    have hbnd : ∀ (e : Nat) (en : Ent), (st.step N k r en').Es[e]? = some en → (en.dr : Int) ≤ c + 1 ∧ (en.st : Int) ≤ c + 1 := fun e en h1 => by
      have h1 : (st.Es.set r.e (r.step N en').1)[e]? = some en := h1
      rw [List.getElem?_set] at h1
      split at h1
      · split at h1
        · obtain rfl := Option.some.inj h1
          have : (r.step N en').1.dr ≤ en'.dr + 1 ∧ (r.step N en').1.st ≤ en'.st + 1 := by
            cases r with
            | rd e1 ph seen vals => rw [Rr.step_rd]; repeat' split
                                    all_goals exact ⟨Nat.le_succ _, Nat.le_succ _⟩
            | wr e1 v ph n1 t => rw [Rr.step_wr]; repeat' split
                                 all_goals first
                                   | exact ⟨Nat.le_succ _, Nat.le_succ _⟩
                                   | exact ⟨Nat.le_refl _, Nat.le_succ _⟩
                                   | exact ⟨Nat.le_succ _, Nat.le_refl _⟩
          omega
        · cases h1
      · have := bnd e en h1; omega
    have hval : eff en' r = false → (st.step N k r en').Es.map Ent.val = st.Es.map Ent.val := fun hf => by
      refine vals_set he _ ?_
      cases r with
      | rd e1 ph seen vals => rw [Rr.step_rd]; repeat' split
                              all_goals rfl
      | wr e1 v ph n1 t =>
        have hf : ¬ ph = 4 := by simpa [eff] using hf
        rw [Rr.step_wr, if_neg hf]
        repeat' split
        all_goals rfl
    refine rstep_s g he (es_ok inv) hent hk rd.hN hEl o (by omega) (by omega) (by omega) h (fun H' S' r' bl' hr' o' g' h' => ?_) fun H' S' bl' hr' o' g' h' => ?_
    · -- goes on
      have hop : OpOk N E (.run r') kind key fl val := by
        cases r with
        | rd e1 ph seen vals =>
          have := Rr.step_e hr'
          cases r' with
          | rd e2 ph2 seen2 vals2 => obtain rfl : e2 = e1 := this; exact op
          | wr e2 v2 ph2 n2 t2 =>
            rw [Rr.step_rd] at hr'
            revert hr'
            repeat' split
            all_goals (intro h; cases h)
        | wr e1 v ph n1 t =>
          rw [Rr.step_wr] at hr'
          revert hr'
          repeat' split
          all_goals (intro h; cases h; try exact op)
      have hnl : isLate r = false := by
        cases r with
        | rd e1 ph seen vals => rfl
        | wr e1 v ph n1 t =>
          refine decide_eq_false fun z => ?_
          subst z
          rw [Rr.step_wr] at hr'; cases hr'
      have hlate : isLate r' = eff en' r := by
        cases r with
        | rd e1 ph seen vals =>
          rw [Rr.step_rd] at hr'
          by_cases p0 : ph = 0
          · have : eff en' (.rd e1 ph seen vals) = false := decide_eq_false (by omega)
            rw [this]; rw [if_pos p0] at hr'; revert hr'; split <;> (intro h; cases h; rfl)
          · rw [if_neg p0] at hr'
            by_cases p1 : ph = 1
            · have : eff en' (.rd e1 ph seen vals) = false := decide_eq_false (by omega)
              rw [this]; rw [if_pos p1] at hr'; cases hr'; rfl
            · rw [if_neg p1] at hr'
              by_cases p2 : en'.st = seen
              · rw [if_pos p2] at hr'; cases hr'
              · have : eff en' (.rd e1 ph seen vals) = false := decide_eq_false (fun z => p2 z.2)
                rw [this]; rw [if_neg p2] at hr'; cases hr'; rfl
        | wr e1 v ph n1 t =>
          rw [Rr.step_wr] at hr'
          by_cases p4 : ph = 4
          · subst p4; cases hr'; rfl
          · have : eff en' (.wr e1 v ph n1 t) = false := decide_eq_false p4
            rw [this]
            rw [if_neg p4] at hr'
            revert hr'
            repeat' split
            all_goals (intro h; cases h; try rfl)
            all_goals (show decide _ = false; simp)
      refine hR H' S' (st.step N k r en') (eff en' r) false bl' 0 [] 0 (c + 1) (by omega) (Int.le_refl _) ⟨inv2, fun _ => ⟨hnl, rfl, rfl, rfl, r', by rw [hself, hr'], g', hop, hlate⟩, fun e => (by cases e), fun he2 => ?_, fun hf => ⟨hval hf, fun e => (by cases e)⟩, helse, by decide⟩ o' hbnd hprog2 h'
      -- a writer's effect
      cases r with
      | rd e1 ph seen vals =>
        exfalso
        have z : 2 ≤ ph ∧ en'.st = seen := of_decide_eq_true he2
        rw [Rr.step_rd, if_neg (by omega), if_neg (by omega), if_pos z.2] at hr'
        cases hr'
      | wr e1 v ph n1 t =>
        have z : ph = 4 := of_decide_eq_true he2
        subst z
        obtain ⟨k2, k3, k4, k5, rfl, k6⟩ := op
        refine ⟨rfl, ?_, ?_, ?_⟩
        · unfold rans; rw [k2, if_neg (by decide), if_neg (by decide), if_neg (by omega), if_neg k5]
        · unfold rnew; rw [k2, if_neg (by decide), if_neg (by rintro (z | z); omega; exact k5 z), k3]
          show _ = (st.Es.set e1 _).map Ent.val
          rw [List.map_set]; rfl
        · rw [Rr.step_wr] at hr'
          cases hr'
          exact resC_late g'
    · -- over
      have hov := g'
      have hlen : (resOf r).length < 1000 := by
        cases r with
        | rd e1 ph seen vals =>
          have := hent.rd k ph seen vals hk
          rw [Rr.step_rd] at hr'
          show vals.length < 1000
          by_cases p0 : ph = 0
          · rw [if_pos p0] at hr'; revert hr'; split <;> (intro h; cases h)
          · have := (this.2 (by omega)).2.2.1; have := rd.hN.2; omega
        | wr e1 v ph n1 t => exact (by decide : 0 < 1000)
      refine hR H' S' (st.step N k r en') (eff en' r) true bl' 0 (resOf r) 0 (c + 1) (by omega) (Int.le_refl _) ⟨inv2, fun e => (by cases e), fun _ => ⟨by rw [hself, hr'], g'⟩, fun he2 => ?_, fun hf => ⟨hval hf, fun _ => ?_⟩, helse, hlen⟩ o' hbnd hprog2 h'
      · cases r with
        | wr e1 v ph n1 t =>
          exfalso
          have z : ph = 4 := of_decide_eq_true he2
          subst z
          rw [Rr.step_wr] at hr'; cases hr'
        | rd e1 ph seen vals =>
          have z : 2 ≤ ph ∧ en'.st = seen := of_decide_eq_true he2
          obtain ⟨k1, k2, k3⟩ := op
          obtain ⟨p2, hq⟩ := hent.rd k ph seen vals hk
          obtain ⟨_, _, _, _, q5, q6⟩ := hq (by omega)
          have hvl := q5 (by omega)
          have hv2 := q6 z.2.symm
          have hev : vals = en'.val := by rw [hv2, hvl, ← hent.lval, List.take_length]
          refine ⟨rfl, ?_, ?_, resC_over g' hlen⟩
          · unfold rans; rw [k1, if_neg (by decide), if_pos rfl, if_neg (by omega), k2]
            have : (st.Es.map Ent.val).getD e1 [] = vals := by
              have he : st.Es[e1]? = some en' := he
              rw [List.getD_eq_getElem?_getD, List.getElem?_map, he, hev]; rfl
            rw [this]; rfl
          · unfold rnew; rw [if_pos (.inr k1)]
            refine (vals_set he _ ?_).symm
            rw [Rr.step_rd]; repeat' split
            all_goals rfl
      · cases r with
        | rd e1 ph seen vals =>
          exfalso
          have z : ¬ (2 ≤ ph ∧ en'.st = seen) := of_decide_eq_false hf
          rw [Rr.step_rd] at hr'
          revert hr'
          repeat' split
          all_goals (intro h; cases h)
          exact z ⟨by omega, by assumption⟩
        | wr e1 v ph n1 t =>
          refine ⟨?_, rfl, rfl, rfl⟩
          rw [Rr.step_wr] at hr'
          have hp := (hent.fr k v ph n1 t hk).1
          revert hr'
          repeat' split
          all_goals (intro h; cases h)
          show decide (ph = 5) = true
          rw [decide_eq_true_iff]; omega
end Go.Proofs.Ytgpacebjbdhphaa

/-
  Records that agents are about: a turn of an agent.
-/
namespace Go.Proofs.Ytgpacebjbdhphaa
open Go Go.AS Go.RowKit
set_option linter.unusedVariables false
open Rr (Ent)
variable {H H' H0 : Heap} {R : Value → Heap → Prop} {L M : List Asr} {N E n k s m x rr vo ab : Nat} {d : Dc} {la : Option Addr} {ll : List (List Op)} {st : Rr.St} {Ks : List Ak} {c : Int}

theorem fit3 (ok : Int) : fitK 3 ok = 1 ∨ fitK 3 ok = 2 ∨ fitK 3 ok = 4 := by
  unfold fitK
  have h1 := Int.emod_nonneg ok (b := 3) (by decide)
  have h2 := Int.emod_lt_of_pos ok (b := 3) (by decide)
  have e : ((kl 3).length : Int) = 3 := rfl
  rw [e]
  obtain e1 | e1 | e1 : ok % 3 = 0 ∨ ok % 3 = 1 ∨ ok % 3 = 2 := by omega
  · rw [e1]; exact .inl rfl
  · rw [e1]; exact .inr (.inl rfl)
  · rw [e1]; exact .inr (.inr rfl)
theorem fitV3 (ok : Int) (val : List (BitVec 64)) : (fitK 3 ok = 2 → (fitV 3 N (fitK 3 ok) val).length = N) ∧ (fitV 3 N (fitK 3 ok) val).length ≤ N := by
  rcases fit3 ok with e | e | e <;> rw [e]
  · exact ⟨fun h => (by cases h), Nat.zero_le _⟩
  · have : fitV 3 N 2 val = (List.range N).map fun i => val.getD i 0 := rfl
    rw [this]; simp
  · exact ⟨fun h => (by cases h), Nat.zero_le _⟩

/-- An agent that is about to do a step. -/
structure Mid (H0 : Heap) (s m x rr vo ab n N E k : Nat) (d : Dc) (la : Option Addr) (ll : List (List Op)) (st : Rr.St) (Ks : List Ak) (c : Int) (H : Heap) (st1 : Rr.St) (a1 : Ak) (go : Gx) (p : Nat) (BB : List Asr) (RB : List Asr) (late : Bool) : Prop where
  rag : Rag m x N E p go a1 BB
  es : st1.Es = st.Es
  inv : Rr.Inv N E n st1
  hgo : (∃ no k', go = Gx.now no k' ∧ st1.As[k]? = some none ∧ late = false) ∨ ∃ r, go = Gx.run r ∧ Rr.On st1.As k r ∧ late = isLate r
  had : a1.had = late
  res : late = true → a1.no = 0 ∧ a1.rn = 0 ∧ a1.rk = 0 ∧ a1.re = 0
  else_ : ∀ i, i ≠ k → st1.As[i]? = st.As[i]?
  at_ : ∀ l, ll[k]? = some l → a1.at_ ≤ l.length
  prog : Rr.Phi N (ll.map List.length) ((Ks.map Ak.at_).set k a1.at_) st1 < Rr.Phi N (ll.map List.length) (Ks.map Ak.at_) st ∨ (st1 = st ∧ (Ks.map Ak.at_).set k a1.at_ = Ks.map Ak.at_ ∧ ∃ r, go = Gx.run r)
  rb : RB.length = n ∧ ∀ (i : Nat) (a : Ak) (r : Option Rr.Run) (B : Asr), i ≠ k → Ks[i]? = some a → st.As[i]? = some r → RB[i]? = some B → AgOk m x N E r a B
  ex : ∃ (S : Sm) (qs : List Nat), One S (flatE st.Es) c ∧ qs.length = E ∧ Sep H [bx ab (.cells true 12 ((Ks.map Ak.cells).set k a1.cells).flatten), sideR s m x rr ab n d la, mA m x (mD N E d.buckets d.inner), mem m S, docA rr (some vo) d E, gl 1 (some vo) (slsG N qs), many (rowsG qs (st.Es.map Ent.val)), many (RB.eraseIdx k), many BB, old H0]

theorem over_step {p : Nat} {no : Int} {rv : List (BitVec 64)} {k' : BitVec 64} {bl : List Asr} (h : OverOk x p no rv k' bl) (hs : Sep H (bl ++ L)) (hR : R (.tuple #[.bool false, .bool true]) H) : CA en F.record_Run_Step [P p] H R := by
  cases h with
  | mk hq hno hl hv hk hre => exact sover_s hs hq hR

set_option maxHeartbeats 4000000 in
theorem rside_s (o : OpsLL H0 la n ll) (rd : RD N E d) (w : RS H0 s m x rr vo ab n N E d la ll H st Ks c) (hk : k < n) (hn : n ≤ 4) (hl : ∀ l ∈ ll, l.length ≤ 1000) (hc : c < 80000)
    (hR : ∀ H' st' (Ks' : List Ak) c', c' ≤ c + 1 → RS H0 s m x rr vo ab n N E d la ll H' st' Ks' c' → (Rr.Phi N (ll.map List.length) (Ks'.map Ak.at_) st' < Rr.Phi N (ll.map List.length) (Ks.map Ak.at_) st ∨ (st' = st ∧ Ks'.map Ak.at_ = Ks.map Ak.at_ ∧ Rr.Quiet (ll.map List.length) (Ks.map Ak.at_) st k)) → R (.bool true) H') :
    CA en F.crossbarlaw14_side_step [P s, I k] H R := by
  apply vc_crossbarlaw14_side_step
  have hln := o.len
  have hE := rd.hE
  have hN := rd.hN
  have hkl : k < Ks.length := by rw [w.len]; exact hk
  obtain ⟨a, ha⟩ : ∃ a, Ks[k]? = some a := ⟨_, List.getElem?_eq_getElem hkl⟩
  obtain ⟨l, hll⟩ : ∃ l, ll[k]? = some l := ⟨_, List.getElem?_eq_getElem (by omega)⟩
  have hal := w.at_ k a l ha hll
  have hl' := hl l (List.mem_of_getElem? hll)
  have hlen : (ll.map List.length).getD k 0 = l.length := by rw [List.getD_eq_getElem?_getD, List.getElem?_map, hll]; rfl
  have hats : (Ks.map Ak.at_).getD k 0 = a.at_ := by rw [List.getD_eq_getElem?_getD, List.getElem?_map, ha]; rfl
  have hatl : (Ks.map Ak.at_).length = st.As.length := by rw [List.length_map, w.len, w.inv.la]
  obtain ⟨S, RB, qs, o1, hrb, hqs, hag, h⟩ := w.ex
  obtain ⟨r0, hr0⟩ : ∃ r0, st.As[k]? = some r0 := ⟨_, List.getElem?_eq_getElem (by rw [w.inv.la]; exact hk)⟩
  obtain ⟨B, hB0⟩ : ∃ B, RB[k]? = some B := ⟨_, List.getElem?_eq_getElem (by omega)⟩
  have hagk := hag k a r0 B ha hr0 hB0
  obtain ⟨arun, akind, akey, ava, avn, afl, acp, aat, ahad, ano, ara, arn, ark, are⟩ := a
  simp only at hal hats
  have hw := ak_len Ks
  have hkc : k < (Ks.map Ak.cells).length := by simpa using hkl
  have hset : Ks.map Ak.cells = (Ks.map Ak.cells).set k [.pointer arun, I akind, .int .u64 akey, .slice ava avn 0, I afl, I acp, I aat, .bool ahad, I ano, .slice ara arn 0, .int .u64 ark, I are] := (ak_row ha).symm
  have hrow : Sep H [bx ab (.cells true 12 ((Ks.map Ak.cells).set k [.pointer arun, I akind, .int .u64 akey, .slice ava avn 0, I afl, I acp, I aat, .bool ahad, I ano, .slice ara arn 0, .int .u64 ark, I are]).flatten), sideR s m x rr ab n d la, mA m x (mD N E d.buckets d.inner), mem m S, docA rr (some vo) d E, gl 1 (some vo) (slsG N qs), many (rowsG qs (st.Es.map Ent.val)), many RB, old H0] := by rw [← hset]; exact h
  have ew : aat < l.length → IntKind.i64.wrap ((aat : Int) + 1) = ((aat + 1 : Nat) : Int) := fun _ => by rw [wrap_i64 (by omega)]; omega
  have hm : ∀ (A B C D E' F' G I' : Asr), old H0 ∈ [A, B, C, D, E', F', G, I', old H0] := fun _ _ _ _ _ _ _ _ => by simp
  refine asAddr_in ⟨_, _, Sep.ld1 hrow rfl, by unfold inB; omega, asRow_in ?_⟩
  rw [Int.toNat_natCast]
  refine ⟨fun _ H' => ∃ st1 a1 go p BB RB late, Mid H0 s m x rr vo ab n N E k d la ll st Ks c H' st1 a1 go p BB RB late, ?_, ?_⟩
  · refine ⟨_, rowld0 hrow 0 rfl hw rfl hkc rfl, ?_⟩
    cases r0 with
    | some r =>
      have hagk : AgR m x N E r _ B := hagk
      obtain ⟨p, bl, rg, rfl⟩ := hagk.ex
      have hrun : arun = some ⟨p, 0, none⟩ := rg.run
      subst hrun
      refine cond_no rfl ⟨st, _, .run r, p, bl, RB, isLate r, rg, rfl, w.inv, .inr ⟨r, rfl, hr0, rfl⟩, hagk.had, hagk.res, fun _ _ => rfl, fun l h1 => w.at_ k _ l ha h1, .inr ⟨rfl, ?_, r, rfl⟩, ⟨hrb, fun i a r B _ h1 h2 h3 => hag i a r B h1 h2 h3⟩, S, qs, o1, hqs, ?_⟩
      · refine set_same ?_
        rw [List.getElem?_map, ha]; rfl
      · have h1 := many_out hB0 (Sep.up7 hrow)
        -- B rest ab side mA mem doc gl rows old
        exact Sep.pick h1 10 [2, 3, 4, 5, 6, 7, 8, 1, 0, 9] (by decide)
    | none =>
      have hrun : arun = none := hagk
      subst hrun
      refine cond_yes rfl ?_
      have hB := hrow.bump 13
      obtain ⟨i, a', n', rfl, e1, o'⟩ := o.at' hB (hm _ _ _ _ _ _ _ _) hll
      refine ⟨_, rowld hB 0 rfl hw rfl hkc rfl, asAddr_in ⟨_, _, Sep.ld1 hB rfl, by unfold inB; omega, asRow_in ⟨_, _, e1, ?_, trivial⟩⟩⟩
      have hn' := o'.len
      subst hn'
      refine cond_of (fun hge => ?_) fun hge => ?_
      · have hge : l.length ≤ aat := by simp only [decide_eq_true_eq] at hge; omega
        refine hR _ st Ks c (by omega) ⟨w.len, w.inv, w.at_, w.bnd, S, RB, qs, o1, hrb, hqs, hag, ?_⟩ (.inr ⟨rfl, rfl, .inl ⟨hr0, by rw [hlen, hats]; exact hge⟩⟩)
        rw [← hset] at hB; exact hB
      · have hge : aat < l.length := by simp only [decide_eq_false_iff_not] at hge; omega
        refine asAddr_in ⟨_, Sep.ld1 hB rfl, count_s (Sep.up3 hB) ⟨_, rfl, ?_⟩⟩
        have hC := hB.bump 22
        obtain ⟨i, a'', n'', e0, e2, o''⟩ := o.at' hC (hm _ _ _ _ _ _ _ _) hll
        cases e0
        obtain ⟨op, hop⟩ : ∃ op, l[aat]? = some op := ⟨_, List.getElem?_eq_getElem hge⟩
        obtain ⟨j, a3, n3, e3, e4, en3, rdw⟩ := o''.at' hC (hm _ _ _ _ _ _ _ _) hop
        subst e3
        refine asAddr_in ⟨_, _, _, _, _, Sep.lds1 hC rfl, asAddr_in ⟨_, _, Sep.ld1 hC rfl, by unfold inB; omega, asRow_in ⟨_, _, e2, _, rowld hC 0 rfl hw rfl hkc rfl, (by show (0 : Int) ≤ (aat : Int) ∧ (aat : Int) < (n'' : Nat); rw [o''.len]; omega), asRow_in ⟨_, _, _, _, _, _, e4, ?_⟩⟩⟩⟩
        have hkd := rd.kind
        refine FitOp_s (d := d) (w := N) rd.words (by omega) rd.inner (by rw [hkd]; decide) hC rdw en3 fun H49 q hq h49 => ⟨_, _, _, _, _, _, rfl, ?_⟩
        rw [hkd] at hq h49 ⊢
        have hf3 := fit3 op.kind
        obtain ⟨hfv, hfl⟩ := fitV3 (N := N) op.kind op.val
        generalize fitV 3 N (fitK 3 op.kind) op.val = v at *
        generalize fitF 3 (fitK 3 op.kind) op.flag = fl at *
        generalize fitK 3 op.kind = kk at *
        -- q ab side mA mem doc gl rows RB old
        refine rowst h49 1 rfl hw rfl hkc (Nat.le_of_ble_eq_true rfl) fun H56 h56 => ⟨⟨_, rowld h56 1 rfl hw rfl hkc rfl, ?_⟩, trivial⟩
        rw [ew hge]
        refine rowst h56 1 rfl hw rfl hkc (Nat.le_of_ble_eq_true rfl) fun H58 h58 => rowst h58 1 rfl hw rfl hkc (Nat.le_of_ble_eq_true rfl) fun H59 h59 => ⟨_, _, _, _, _, _, rowlds h59 1 rfl hw rfl hkc rfl, ?_⟩
        refine CopyOp_s h59 (rdw_gl (q := q) List.mem_cons_self hq) rfl (by omega) fun H67 q2 hq2 h67 => ⟨_, _, _, _, _, _, rfl, ?_⟩
        refine Sep.nw h67 fun i74 H75 h75 => Sep.st0 h75 (Nat.le_of_ble_eq_true rfl) fun H76 h76 => ?_
        have hD := h76.bump 10
        -- i74 q2 q ab side mA mem doc gl rows RB old
        refine asAddr_in ⟨_, Sep.ld4 hD rfl, _, _, _, _, _, _, Sep.lds0 hD rfl, ?_⟩
        have hE1 := Sep.pick hD 12 [1, 5, 0, 2, 3, 4, 6, 7, 8, 9, 10, 11] (by decide)
        refine rbegin_s hE1 hq2 hE hN (fun h1 h4 => by rw [hfv (by rcases hf3 with e | e | e; exact absurd e h1; exact e; exact absurd e h4)]; omega) (by omega) fun H87 p bl hgo h87 => ⟨_, rfl, ?_⟩
        have h87 := Sep.many_iff.2 h87
        -- bl q2 mA i74 q ab side mem doc gl rows RB old
        refine rowst0 h87 5 rfl hw rfl hkc (Nat.le_of_ble_eq_true rfl) fun H89 h89 => ⟨⟨_, _, Sep.ld3 h89 rfl, ?_⟩, trivial⟩
        refine SpoilWords_s (ws := v) rfl (by omega) hq2 (Sep.up1 h89) fun H93 h93 => ⟨rfl, ?_⟩
        -- bl mA i74 q ab side mem doc gl rows RB old
        refine ⟨_, rowld0 h93 4 rfl hw rfl hkc rfl, cond_no rfl (asAddr_in ⟨_, Sep.ld5 h93 rfl, ?_⟩)⟩
        refine count_s (Sep.up6 h93) ⟨_, rfl, cond_no (by simp) ?_⟩
        have hgok := go0_ok (N := N) (E := E) (key := op.key) (fl := fl) hf3 hfv
        let a1 : Ak := ⟨some ⟨p, 0, none⟩, kk, op.key.toNat, addr q, v.length, fl, 0, aat + 1, false, ano, ara, arn, ark, are⟩
        have hrag : Rag m x N E p (go0 E kk op.key fl v) a1 (gl 1 q (wds v) :: bl) := ⟨rfl, bl, op.key, v, q, hgo, hgok, rfl, rfl, rfl, by omega, hq, rfl⟩
        have hsep : Sep H93 [bx ab (.cells true 12 ((Ks.map Ak.cells).set k a1.cells).flatten), sideR s m x rr ab n d (some ⟨i, 0, none⟩), mA m x (mD N E d.buckets d.inner), mem m S, docA rr (some vo) d E, gl 1 (some vo) (slsG N qs), many (rowsG qs (st.Es.map Ent.val)), many (RB.eraseIdx k), many (gl 1 q (wds v) :: bl), old H0] := by
          have h1 := many_out hB0 (Sep.up10 h93)
          -- B RB' bl mA i74 q ab side mem doc gl rows old
          have h2 := Sep.pick h1 13 [2, 5, 6, 7, 3, 8, 9, 10, 11, 1, 12] (by decide)
          have h3 := Sep.many_iff.1 h2
          have h4 : Sep H93 (many (gl 1 q (wds v) :: bl) :: _) := Sep.many_iff.2 (h3.perm (List.perm_middle (l₁ := bl)))
          exact Sep.pick h4 10 [1, 2, 3, 4, 5, 6, 7, 8, 0, 9] (by decide)
        have hat1 : ∀ l, ll[k]? = some l → a1.at_ ≤ l.length := fun l2 h2 => by rw [hll] at h2; obtain rfl := Option.some.inj h2; exact hge
        have hlt : (Ks.map Ak.at_).getD k 0 < (ll.map List.length).getD k 0 := by rw [hats, hlen]; exact hge
        have hats1 : (Ks.map Ak.at_).set k a1.at_ = (Ks.map Ak.at_).set k ((Ks.map Ak.at_).getD k 0 + 1) := by rw [hats]
        have hrb' : ∀ (i : Nat) (a : Ak) (r : Option Rr.Run) (B : Asr), i ≠ k → Ks[i]? = some a → st.As[i]? = some r → RB[i]? = some B → AgOk m x N E r a B := fun i a r B _ h1 h2 h3 => hag i a r B h1 h2 h3
        cases hg : go0 E kk op.key fl v with
        | now no k' =>
          rw [hg] at hrag
          exact ⟨st, a1, .now no k', p, _, RB, false, hrag, rfl, w.inv, .inl ⟨no, k', rfl, hr0, rfl⟩, rfl, (fun e => by cases e), fun _ _ => rfl, hat1, .inl (by rw [hats1]; exact Rr.phi_now hr0 hatl hlt), ⟨hrb, hrb'⟩, S, qs, o1, hqs, hsep⟩
        | run r =>
          rw [hg] at hrag hgok
          have hre : r.e < E := by
            cases r with
            | rd e ph seen vals => exact hgok.2.2
            | wr e v ph n1 t => exact hgok.2.2.1
          have hfresh : (∃ e, r = .rd e 0 0 []) ∨ ∃ e v, r = .wr e v 0 0 0 ∧ v.length = N := by
            have hg' := hg
            unfold go0 at hg
            split at hg
            · cases hg
            · split at hg
              · split at hg
                · cases hg; exact .inl ⟨_, rfl⟩
                · split at hg
                  · cases hg
                  · cases hg; exact .inr ⟨_, _, rfl, hgok.2.2.2.2.2⟩
              · cases hg
          obtain ⟨en1, hen1⟩ : ∃ en1, st.Es[r.e]? = some en1 := ⟨_, List.getElem?_eq_getElem (by rw [w.inv.le]; exact hre)⟩
          have hnoOn : ∀ r', ¬ Rr.On st.As k r' := fun r' ho => by unfold Rr.On at ho; rw [hr0] at ho; cases ho
          have hinv1 : Rr.Inv N E n ⟨st.As.set k (some r), st.Es⟩ := by
            refine ⟨by show (st.As.set k (some r)).length = n; rw [List.length_set]; exact w.inv.la, w.inv.le, fun e en1 h1 => ?_, fun i r' h1 => ?_⟩
            · rcases hfresh with ⟨e2, rfl⟩ | ⟨e2, v2, rfl, hv2⟩
              · exact (w.inv.ent e en1 h1).read (fun v ph n t => hnoOn _) (by simp) fun ph seen vals e3 => by cases e3; exact ⟨by omega, fun h => by omega⟩
              · by_cases ee : e2 = e
                · subst ee; exact (w.inv.ent e2 en1 h1).fresh hr0 hv2
                · exact (w.inv.ent e en1 h1).other hr0 (fun r' e1 => by cases e1) fun r' e1 => by cases e1; exact ee
            · rcases h1.set with ⟨_, e1⟩ | ⟨_, h1⟩
              · cases e1; exact hre
              · exact w.inv.on i r' h1
          have hkAs : k < st.As.length := by rw [w.inv.la]; exact hk
          have hcost : Rr.cost N en1 r < 60 := by
            rcases hfresh with ⟨e2, rfl⟩ | ⟨e2, v2, rfl, hv2⟩
            · show N + 2 < 60; omega
            · show N + 5 + 3 * (N + 2) < 60; omega
          exact ⟨⟨st.As.set k (some r), st.Es⟩, a1, .run r, p, _, RB, false, hrag, rfl, hinv1, .inr ⟨r, rfl, Rr.On.here hkAs, by rcases hfresh with ⟨e2, rfl⟩ | ⟨e2, v2, rfl, hv2⟩ <;> rfl⟩, rfl, (fun e => by cases e), fun i hi => List.getElem?_set_ne (fun e => hi e.symm), hat1, .inl (by rw [hats1]; exact Rr.phi_begin hr0 hatl hlt hen1 hcost), ⟨hrb, hrb'⟩, S, qs, o1, hqs, hsep⟩
  · rintro ys H102 ⟨st1, a1, go, p, BB, RB1, late, mid⟩
    clear h hrow hset hagk hag hB0 hrb hqs o1 ew hats hal S RB qs
    obtain ⟨S1, qs1, o1, hqs, hs⟩ := mid.ex
    obtain ⟨arun1, bl, key, val, g, hgo, hop, hkey, hva, hvn, hvl, hgn, rfl⟩ := mid.rag
    obtain ⟨hrb, hag⟩ := mid.rb
    -- ab side mA mem doc gl rows RB' (opv :: bl) old
    have hes := mid.es
    have h1 : Sep H102 (many bl :: gl 1 g (wds val) :: [bx ab (.cells true 12 ((Ks.map Ak.cells).set k a1.cells).flatten), sideR s m x rr ab n d la, mA m x (mD N E d.buckets d.inner), mem m S1, docA rr (some vo) d E, gl 1 (some vo) (slsG N qs1), many (rowsG qs1 (st.Es.map Ent.val)), many (RB1.eraseIdx k), old H0]) := by
      have h2 := Sep.many_iff.1 (Sep.up8 hs)
      have h3 : Sep H102 (gl 1 g (wds val) :: (bl ++ _)) := h2
      exact (Sep.many_iff.2 (h3.perm (List.perm_middle (l₁ := bl)).symm))
    obtain ⟨a1run, a1kind, a1key, a1va, a1vn, a1fl, a1cp, a1at, a1had, a1no, a1ra, a1rn, a1rk, a1re⟩ := a1
    have hm1 := mid.had
    have hm2 := mid.res
    have hm3 := mid.at_
    have hm4 := mid.prog
    simp only at arun1 hkey hva hvn hm1 hm2 hm3 hm4 hop
    subst arun1 hm1
    -- bl opv ab side mA mem doc gl rows RB' old
    refine asAddr_in ⟨_, Sep.ld3 h1 rfl, count_s (Sep.up5 h1) ⟨_, rfl, asAddr_in ⟨_, Sep.ld3 h1 rfl, bad_s (Sep.up5 h1) ⟨_, rfl, _, rowld0 h1 2 rfl hw rfl hkc rfl, ?_⟩⟩⟩⟩
    have h2 := Sep.many_iff.1 (Sep.pick h1 11 [0, 4, 5, 1, 2, 3, 6, 7, 8, 9, 10] (by decide))
    have hbnd1 : ∀ (e : Nat) (en : Ent), st1.Es[e]? = some en → (en.dr : Int) ≤ c ∧ (en.st : Int) ≤ c := by rw [hes]; exact w.bnd
    refine gstep_s (lens := ll.map List.length) (ats := (Ks.map Ak.at_).set k a1at) hgo hop rd mid.inv hn mid.hgo hbnd1 (by rw [hes]; exact o1) (by omega) h2 fun H117 S2 st2 e' d' bl' no rv k' c' hc1 hc2 out o2 hbnd2 hprog h117 => ⟨_, _, rfl, ?_⟩
    have h117 := Sep.many_iff.2 h117
    -- bl mA mem opv ab side doc gl rows RB' old
    have hcn : S1.count = c := o1.cnt
    have hcn2 : S2.count = c' := o2.cnt
    have c0' := o1.c0
    refine asAddr_in ⟨_, Sep.ld5 h117 rfl, count_s (Sep.up2 h117) ⟨_, rfl, cond_no ?_ (asAddr_in ⟨_, Sep.ld5 h117 rfl, bad_s (Sep.up2 h117) ⟨_, rfl, cond_no ?_ ?_⟩⟩)⟩⟩
    · rw [hcn, hcn2, wrap_i64 (by omega), decide_eq_false_iff_not]; omega
    · rw [o1.bads, o2.bads]; rfl
    have hlater : ∀ (P : Prop), (e' = true → P) → (e' = false → P) → P := fun P h1 h2 => by cases e'; exact h2 rfl; exact h1 rfl
    have hprog3 : Rr.Phi N (ll.map List.length) ((Ks.map Ak.at_).set k a1at) st2 < Rr.Phi N (ll.map List.length) (Ks.map Ak.at_) st ∨ (st2 = st ∧ (Ks.map Ak.at_).set k a1at = Ks.map Ak.at_ ∧ Rr.Quiet (ll.map List.length) (Ks.map Ak.at_) st k) := by
      rcases hprog with hp | ⟨hp1, hp2⟩
      · rcases hm4 with hq | ⟨hq1, hq2, _⟩
        · exact .inl (Nat.lt_trans hp hq)
        · left; rw [hq1, hq2] at hp; rw [hq2]; exact hp
      · rcases hm4 with hq | ⟨hq1, hq2, r, hr⟩
        · left; rw [hp1]; exact hq
        · right
          subst hr
          obtain ⟨r, en1, h3, h4, h5⟩ := hp2 rfl
          rw [hq1] at h3 h4
          exact ⟨hp1.trans hq1, hq2, .inr ⟨r, en1, h3, h4, h5⟩⟩
    have hfin : ∀ {S3 : Sm} {qs3 : List Nat} (a2 : Ak), a2.at_ = a1at → ∀ (H' : Heap) (B2 : Asr), (∀ r, st2.As[k]? = some r → AgOk m x N E r a2 B2) → One S3 (flatE st2.Es) c' → qs3.length = E →
        Sep H' (B2 :: bx ab (.cells true 12 ((Ks.map Ak.cells).set k a2.cells).flatten) :: sideR s m x rr ab n d la :: mA m x (mD N E d.buckets d.inner) :: mem m S3 :: docA rr (some vo) d E :: gl 1 (some vo) (slsG N qs3) :: many (rowsG qs3 (st2.Es.map Ent.val)) :: many (RB1.eraseIdx k) :: old H0 :: []) → R (.bool true) H' := fun {S3 qs3} a2 hat H' B2 hok o3 hq3 h' => by
      refine hR H' st2 (Ks.set k a2) c' (by omega) ⟨by rw [List.length_set]; exact w.len, out.inv, fun i a l' hx hx' => ?_, hbnd2, S3, RB1.set k B2, qs3, o3, by rw [List.length_set]; exact hrb, hq3, fun i a r B hx hx2 hx3 => ?_, ?_⟩ ?_
      · rw [List.getElem?_set] at hx
        split at hx
        · rename_i e; subst e
          obtain rfl := Option.some.inj hx
          rw [hat]; exact hm3 l' hx'
        · exact w.at_ i a l' hx hx'
      · by_cases e : i = k
        · subst e
          rw [List.getElem?_set_self hkl] at hx
          obtain rfl := Option.some.inj hx
          rw [List.getElem?_set_self (by rw [hrb]; exact hk)] at hx3
          obtain rfl := Option.some.inj hx3
          exact hok r hx2
        · rw [List.getElem?_set_ne (fun z => e z.symm)] at hx hx3
          rw [out.else_ i e, mid.else_ i e] at hx2
          exact hag i a r B e hx hx2 hx3
      · have e := ak_set (As := Ks) (k := k) (x := a2) rfl
        rw [← e]
        have h3 := many_in (k := k) (B := B2) (M := RB1) (by rw [hrb]; exact hk) (Sep.pick h' 10 [0, 8, 1, 2, 3, 4, 5, 6, 7, 9] (by decide))
        exact Sep.pick h3 9 [1, 2, 3, 4, 5, 6, 7, 0, 8] (by decide)
      · rw [List.map_set, hat]; exact hprog3
    refine cond_of (fun ze => ?_) fun ze => ?_
    · obtain ⟨f1, f2', f3, hres⟩ := out.eff ze
      rw [hes] at f2' f3
      refine ⟨_, rowld h117 4 rfl hw rfl hkc rfl, cond_no f1 ?_⟩
      refine ⟨fun _ H' => ∃ (k2 y2 : Int) (va2 : Option Addr) (vn2 : Nat) (f2 cp2 : Int) (had2 : Bool) (no2 : Int) (ra2 : Option Addr) (rn2 : Nat) (rk2 re2 : Int) (g2 : Option Nat) (qs3 : List Nat), qs3.length = E ∧ (d' = false → a1kind = k2 ∧ a1key = y2 ∧ a1va = va2 ∧ a1vn = vn2 ∧ a1fl = f2 ∧ had2 = e' ∧ (e' = true → no2 = 0 ∧ rn2 = 0 ∧ rk2 = 0 ∧ re2 = 0)) ∧ (d' = true → had2 = true ∧ no2 = no ∧ rn2 = rv.length ∧ rk2 = (k'.toNat : Int) ∧ re2 = 0 ∧ ∀ L, gl 1 g2 (wds rv) ∈ L → RdW L ra2 rv) ∧
        Sep H' [bx ab (.cells true 12 ((Ks.map Ak.cells).set k [.pointer (some ⟨p, 0, none⟩), I k2, .int .u64 y2, .slice va2 vn2 0, I f2, I cp2, I a1at, .bool had2, I no2, .slice ra2 rn2 0, .int .u64 rk2, I re2]).flatten), sideR s m x rr ab n d la, mA m x (mD N E d.buckets d.inner), mem m S2, docA rr (some vo) d E, gl 1 (some vo) (slsG N qs3), many (rowsG qs3 (st2.Es.map Ent.val)), many (RB1.eraseIdx k), many bl', gl 1 g (wds val), gl 1 g2 (wds rv), old H0], ?_, ?_⟩
      · refine cond_yes ze (rowst h117 4 rfl hw rfl hkc (Nat.le_of_ble_eq_true rfl) fun H134 h134 => ⟨_, rowld0 h134 4 rfl hw rfl hkc rfl, ?_⟩)
        refine hres _ _ _ (Sep.many_iff.1 h134) fun H137 g7 hg7 h137 => ⟨_, _, _, _, _, rfl, ?_⟩
        have h137 := Sep.many_iff.2 (h137.perm (List.perm_middle (l₁ := bl')).symm)
        -- bl g7 mA mem opv ab side doc gl rows RB' old
        refine CopyRes_s h137 (rdw_gl (q := g7) (List.mem_cons_of_mem _ List.mem_cons_self) hg7) rfl (by have := out.len; omega) fun H144 q3 hq3n h144 => ⟨_, _, _, _, _, rfl, ?_⟩
        -- q3 bl g7 mA mem opv ab side doc gl rows RB' old
        refine rowst h144 6 rfl hw rfl hkc (Nat.le_of_ble_eq_true rfl) fun H150 h150 => ?_
        have hB := h150.bump 15
        refine ⟨_, _, _, _, _, rowlds hB 6 rfl hw rfl hkc rfl, asAddr_in ⟨_, Sep.ld7 hB rfl, _, _, _, _, _, _, rowlds hB 6 rfl hw rfl hkc rfl, ?_⟩⟩
        have hD := Sep.pick hB 13 [8, 9, 10, 5, 0, 1, 2, 3, 4, 6, 7, 11, 12] (by decide)
        subst hva hkey hvn
        refine ddo_s hD hqs (by rw [List.length_map, ← hes]; exact mid.inv.le) (by rw [← hes]; exact es_val mid.inv) hE hN (rdw_gl (q := g) List.mem_cons_self hgn) rfl hop.val fun H166 qs3 g9 hq9 hg9 h166 => ⟨_, _, _, _, _, rfl, ?_⟩
        rw [f2'] at hg9 h166 ⊢
        rw [f3] at h166
        -- g9 doc gl rows opv q3 bl g7 mA mem ab side RB' old
        refine SameRes_s h166 (rdw_gl (q := q3) (List.mem_cons_of_mem _ (List.mem_cons_of_mem _ (List.mem_cons_of_mem _ (List.mem_cons_of_mem _ (List.mem_cons_of_mem _ List.mem_cons_self))))) hq3n) (rdw_gl (q := g9) List.mem_cons_self hg9) rfl rfl (by have := out.len; omega) fun H173 h173 => ⟨_, rfl, ⟨cond_no rfl ⟨a1kind, key.toNat, addr g, val.length, a1fl, a1cp, true, no, addr q3, rv.length, k'.toNat, 0, q3, qs3, hq9, fun hd => ?_, fun hd => ⟨rfl, rfl, rfl, rfl, rfl, fun L hL => rdw_gl hL hq3n⟩, ?_⟩, ⟨⟨_, _, _, _, _, rowlds hB 6 rfl hw rfl hkc rfl, sameRes _ _ _ _ _⟩, ⟨_, _, _, _, _, rowlds h166 10 rfl hw rfl hkc rfl, sameRes _ _ _ _ _⟩, trivial⟩, trivial⟩⟩
        · obtain ⟨_, z1, z2, z3, _⟩ := out.go hd
          exact ⟨rfl, rfl, rfl, rfl, rfl, ze.symm, fun _ => ⟨z1, by rw [z2]; rfl, by rw [z3]; rfl, rfl⟩⟩
        · exact Sep.pick h173 14 [10, 11, 8, 9, 1, 2, 3, 12, 6, 4, 5, 13] (by decide)
      · rintro ys9 H186 ⟨k2, y2, va2, vn2, f2, cp2, had2, no2, ra2, rn2, rk2, re2, g2, qs3, hq3, jgo, jdone, h186⟩
        refine cond_of (fun zd => ?_) fun zd => ?_
        · have hdf : d' = false := by simpa using zd
          obtain ⟨b1, b2, b3, b4, b5, b6, b7⟩ := jgo hdf
          obtain ⟨c1, c2, c3, c4, r', c5, c6, c7, c8⟩ := out.go hdf
          refine hfin ⟨some ⟨p, 0, none⟩, k2, y2, va2, vn2, f2, cp2, a1at, had2, no2, ra2, rn2, rk2, re2⟩ rfl H186 (many (gl 1 g (wds val) :: bl')) (fun r hr => ?_) o2 hq3 ?_
          · rw [c5] at hr; obtain rfl := Option.some.inj hr
            subst b1 b2 b3 b4 b5
            exact ⟨⟨p, _, ⟨rfl, bl', key, val, g, c6, c7, hkey, hva, hvn, hvl, hgn, rfl⟩, rfl⟩, by show had2 = isLate r'; rw [c8]; exact b6, fun hl => b7 (by rw [← c8]; exact hl)⟩
          · have h9 := Sep.many_iff.1 (Sep.up8 h186)
            -- bl ++ (ab side mA mem doc gl rows RB' opv resv old)
            have h10 := Sep.many_iff.2 h9
            have h11 : Sep H186 (gl 1 g (wds val) :: many bl' :: bx ab (.cells true 12 ((Ks.map Ak.cells).set k [.pointer (some ⟨p, 0, none⟩), I k2, .int .u64 y2, .slice va2 vn2 0, I f2, I cp2, I a1at, .bool had2, I no2, .slice ra2 rn2 0, .int .u64 rk2, I re2]).flatten) :: sideR s m x rr ab n d la :: mA m x (mD N E d.buckets d.inner) :: mem m S2 :: docA rr (some vo) d E :: gl 1 (some vo) (slsG N qs3) :: many (rowsG qs3 (st2.Es.map Ent.val)) :: many (RB1.eraseIdx k) :: old H0 :: []) := Sep.pick h10 12 [9, 0, 1, 2, 3, 4, 5, 6, 7, 8, 11] (by decide)
            have h12 := Sep.many_iff.1 (Sep.up1 h11)
            exact Sep.many_iff.2 (h12.perm (List.perm_middle (l₁ := bl')))
        · have hdt : d' = true := by simpa using zd
          obtain ⟨b1, b2, b3, b4, b5, b6⟩ := jdone hdt
          obtain ⟨hov1, hov2⟩ := out.over hdt
          subst hdt
          refine asAddr_in ⟨_, Sep.ld1 h186 rfl, count_s (Sep.up3 h186) ⟨_, rfl, _, rowld0 h186 0 rfl hw rfl hkc rfl, ?_⟩⟩
          -- ab side mA mem doc gl rows RB' bl opv resv old
          have hres := resC_over hov2 out.len
          refine over_step hov2 (Sep.many_iff.1 (Sep.up8 h186)) ⟨_, _, rfl, ?_⟩
          have hB := h186.bump 34
          subst b1 b2 b3 b4 b5
          refine ⟨_, rowld hB 0 rfl hw rfl hkc rfl, cond_no rfl (cond_no rfl (cond_no rfl (asAddr_in ⟨_, Sep.ld1 hB rfl, count_s (Sep.up3 hB) ⟨_, rfl, cond_no (by simp) ⟨_, rowld0 hB 0 rfl hw rfl hkc rfl, ?_⟩⟩⟩)))⟩
          refine hres _ _ _ (Sep.many_iff.1 (Sep.up8 hB)) fun H207 g7 hg7 h207 => ⟨_, _, _, _, _, rfl, ?_⟩
          have h207 := Sep.many_iff.2 (h207.perm (List.perm_middle (l₁ := bl')).symm)
          -- bl g7 ab side mA mem doc gl rows RB' opv resv old
          refine ⟨_, _, _, _, _, rowlds h207 2 rfl hw rfl hkc rfl, ?_⟩
          refine SameRes_s h207 (rdw_gl (q := g7) (List.mem_cons_of_mem _ List.mem_cons_self) hg7) (b6 _ (by simp)) rfl rfl (by have := out.len; omega) fun H219 h219 => ⟨_, rfl, ⟨cond_no rfl ?_, ⟨⟨_, _, _, _, _, rowlds hB 0 rfl hw rfl hkc rfl, sameRes _ _ _ _ _⟩, ⟨_, _, _, _, _, rowlds h207 2 rfl hw rfl hkc rfl, sameRes _ _ _ _ _⟩, trivial⟩, trivial⟩⟩
          refine rowst0 h219 2 rfl hw rfl hkc (Nat.le_of_ble_eq_true rfl) fun H231 h231 => ?_
          refine hfin ⟨none, k2, y2, va2, vn2, f2, cp2, a1at, true, no2, ra2, rv.length, k'.toNat, 0⟩ rfl H231 (many []) (fun r hr => ?_) o2 hq3 ?_
          · rw [hov1] at hr; obtain rfl := Option.some.inj hr; exact rfl
          · exact Sep.many0 (Sep.pick h231 13 [2, 3, 4, 5, 6, 7, 8, 9, 12] (by decide))
    · have hne := out.noeff ze
      rw [hes] at hne
      refine ⟨fun _ H' => ∃ (k2 y2 : Int) (va2 : Option Addr) (vn2 : Nat) (f2 cp2 : Int) (had2 : Bool) (no2 : Int) (ra2 : Option Addr) (rn2 : Nat) (rk2 re2 : Int) (g2 : Option Nat) (qs3 : List Nat), qs3.length = E ∧ (d' = false → a1kind = k2 ∧ a1key = y2 ∧ a1va = va2 ∧ a1vn = vn2 ∧ a1fl = f2 ∧ had2 = e' ∧ (e' = true → no2 = 0 ∧ rn2 = 0 ∧ rk2 = 0 ∧ re2 = 0)) ∧ (d' = true → had2 = true ∧ no2 = no ∧ rn2 = rv.length ∧ rk2 = (k'.toNat : Int) ∧ re2 = 0 ∧ ∀ L, gl 1 g2 (wds rv) ∈ L → RdW L ra2 rv) ∧
        Sep H' [bx ab (.cells true 12 ((Ks.map Ak.cells).set k [.pointer (some ⟨p, 0, none⟩), I k2, .int .u64 y2, .slice va2 vn2 0, I f2, I cp2, I a1at, .bool had2, I no2, .slice ra2 rn2 0, .int .u64 rk2, I re2]).flatten), sideR s m x rr ab n d la, mA m x (mD N E d.buckets d.inner), mem m S2, docA rr (some vo) d E, gl 1 (some vo) (slsG N qs3), many (rowsG qs3 (st2.Es.map Ent.val)), many (RB1.eraseIdx k), many bl', gl 1 g (wds val), gl 1 g2 (wds rv), old H0], ?_, ?_⟩
      · refine cond_no ze ⟨a1kind, a1key, a1va, a1vn, a1fl, a1cp, a1had, a1no, a1ra, a1rn, a1rk, a1re, none, qs1, hqs, fun hd => ?_, fun hd => ?_, ?_⟩
        · obtain ⟨z0, z1, z2, z3, _⟩ := out.go hd
          exact ⟨rfl, rfl, rfl, rfl, rfl, by rw [z0, ze], fun z => by rw [ze] at z; cases z⟩
        · obtain ⟨z0, z1, z2, z3⟩ := hne.2 hd
          obtain ⟨y1, y2, y3, y4⟩ := hm2 z0
          exact ⟨z0, by rw [y1, z1], by rw [y2, z2]; rfl, by rw [y3, z3]; rfl, y4, fun L hL H' hs j xx hx => by rw [z2] at hx; simp at hx⟩
        · have hrv : rv = [] := by
            cases hd : d' with
            | false => exact (out.go hd).2.2.1
            | true => exact (hne.2 hd).2.2.1
          rw [hrv, hne.1]
          have h5 : Sep H117 (gl 1 none (wds []) :: _) := gl_none.2 h117
          have h6 := Sep.pick h5 12 [5, 6, 2, 3, 7, 8, 9, 10, 1, 4, 0, 11] (by decide)
          exact h6
      · rintro ys9 H186 ⟨k2, y2, va2, vn2, f2, cp2, had2, no2, ra2, rn2, rk2, re2, g2, qs3, hq3, jgo, jdone, h186⟩
        refine cond_of (fun zd => ?_) fun zd => ?_
        · have hdf : d' = false := by simpa using zd
          obtain ⟨b1, b2, b3, b4, b5, b6, b7⟩ := jgo hdf
          obtain ⟨c1, c2, c3, c4, r', c5, c6, c7, c8⟩ := out.go hdf
          refine hfin ⟨some ⟨p, 0, none⟩, k2, y2, va2, vn2, f2, cp2, a1at, had2, no2, ra2, rn2, rk2, re2⟩ rfl H186 (many (gl 1 g (wds val) :: bl')) (fun r hr => ?_) o2 hq3 ?_
          · rw [c5] at hr; obtain rfl := Option.some.inj hr
            subst b1 b2 b3 b4 b5
            exact ⟨⟨p, _, ⟨rfl, bl', key, val, g, c6, c7, hkey, hva, hvn, hvl, hgn, rfl⟩, rfl⟩, by show had2 = isLate r'; rw [c8]; exact b6, fun hl => b7 (by rw [← c8]; exact hl)⟩
          · have h9 := Sep.many_iff.1 (Sep.up8 h186)
            -- bl ++ (ab side mA mem doc gl rows RB' opv resv old)
            have h10 := Sep.many_iff.2 h9
            have h11 : Sep H186 (gl 1 g (wds val) :: many bl' :: bx ab (.cells true 12 ((Ks.map Ak.cells).set k [.pointer (some ⟨p, 0, none⟩), I k2, .int .u64 y2, .slice va2 vn2 0, I f2, I cp2, I a1at, .bool had2, I no2, .slice ra2 rn2 0, .int .u64 rk2, I re2]).flatten) :: sideR s m x rr ab n d la :: mA m x (mD N E d.buckets d.inner) :: mem m S2 :: docA rr (some vo) d E :: gl 1 (some vo) (slsG N qs3) :: many (rowsG qs3 (st2.Es.map Ent.val)) :: many (RB1.eraseIdx k) :: old H0 :: []) := Sep.pick h10 12 [9, 0, 1, 2, 3, 4, 5, 6, 7, 8, 11] (by decide)
            have h12 := Sep.many_iff.1 (Sep.up1 h11)
            exact Sep.many_iff.2 (h12.perm (List.perm_middle (l₁ := bl')))
        · have hdt : d' = true := by simpa using zd
          obtain ⟨b1, b2, b3, b4, b5, b6⟩ := jdone hdt
          obtain ⟨hov1, hov2⟩ := out.over hdt
          subst hdt
          refine asAddr_in ⟨_, Sep.ld1 h186 rfl, count_s (Sep.up3 h186) ⟨_, rfl, _, rowld0 h186 0 rfl hw rfl hkc rfl, ?_⟩⟩
          -- ab side mA mem doc gl rows RB' bl opv resv old
          have hres := resC_over hov2 out.len
          refine over_step hov2 (Sep.many_iff.1 (Sep.up8 h186)) ⟨_, _, rfl, ?_⟩
          have hB := h186.bump 34
          subst b1 b2 b3 b4 b5
          refine ⟨_, rowld hB 0 rfl hw rfl hkc rfl, cond_no rfl (cond_no rfl (cond_no rfl (asAddr_in ⟨_, Sep.ld1 hB rfl, count_s (Sep.up3 hB) ⟨_, rfl, cond_no (by simp) ⟨_, rowld0 hB 0 rfl hw rfl hkc rfl, ?_⟩⟩⟩)))⟩
          refine hres _ _ _ (Sep.many_iff.1 (Sep.up8 hB)) fun H207 g7 hg7 h207 => ⟨_, _, _, _, _, rfl, ?_⟩
          have h207 := Sep.many_iff.2 (h207.perm (List.perm_middle (l₁ := bl')).symm)
          -- bl g7 ab side mA mem doc gl rows RB' opv resv old
          refine ⟨_, _, _, _, _, rowlds h207 2 rfl hw rfl hkc rfl, ?_⟩
          refine SameRes_s h207 (rdw_gl (q := g7) (List.mem_cons_of_mem _ List.mem_cons_self) hg7) (b6 _ (by simp)) rfl rfl (by have := out.len; omega) fun H219 h219 => ⟨_, rfl, ⟨cond_no rfl ?_, ⟨⟨_, _, _, _, _, rowlds hB 0 rfl hw rfl hkc rfl, sameRes _ _ _ _ _⟩, ⟨_, _, _, _, _, rowlds h207 2 rfl hw rfl hkc rfl, sameRes _ _ _ _ _⟩, trivial⟩, trivial⟩⟩
          refine rowst0 h219 2 rfl hw rfl hkc (Nat.le_of_ble_eq_true rfl) fun H231 h231 => ?_
          refine hfin ⟨none, k2, y2, va2, vn2, f2, cp2, a1at, true, no2, ra2, rv.length, k'.toNat, 0⟩ rfl H231 (many []) (fun r hr => ?_) o2 hq3 ?_
          · rw [hov1] at hr; obtain rfl := Option.some.inj hr; exact rfl
          · exact Sep.many0 (Sep.pick h231 13 [2, 3, 4, 5, 6, 7, 8, 9, 12] (by decide))
end Go.Proofs.Ytgpacebjbdhphaa

