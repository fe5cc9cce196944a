/-
  Where instructions go on: the chapter's examples, loops, ends, and what is never reached.
-/
import Derived.Test.YtmgkngdbphkmmaaFlowM
import Derived.Test.YtmgkngdbphkmmaaVcH
import Derived.Test.YtmgkngdbphkmmaaAs48
namespace Go.Proofs.Ytmgkngdbphkmmaa
open Go Go.AS Go.RowKit
set_option linter.unusedVariables false
variable {H H' : Heap} {R : Value → Heap → Prop} {L M : List Asr}

theorem fe_chain {l : List Ins} (h1 : l.length ≤ 256) (h2 : l.length ≠ 0) (h3 : (-2 : Int) ∉ tgs l) (h4 : lastOk l) (hc : ∀ i ∈ List.range (l.length - 1), i + 1 ∈ nxN l i) : fe l = 0 := by
  refine fe_zero.2 ⟨h1, h2, h3, h4, fun i => ?_⟩
  induction i with
  | zero => intro _; exact .zero
  | succ i ih => intro hi; exact .step (ih (by omega)) (hc i (List.mem_range.2 (by omega)))
theorem fe_none : fe [] = 12 := by unfold fe; rw [if_neg (by decide), if_pos (by decide)]
theorem fe_two : fe [⟨149, 0, 0, 0, 0⟩, ⟨149, 0, 0, 0, 0⟩] = 13 := by
  refine fe_dead (by decide) (by decide) (by decide +kernel) (by decide +kernel) fun h => ?_
  have := Rch.in (S := [0]) (by decide) (by decide +kernel) (h 1 (by decide))
  revert this
  decide

/-! ### An append -/
theorem apdF_ne {bytes es len n : Nat} {a : Option Addr} {new : List Value} {K : Option Addr → Nat → Heap → Prop} (hl : len ≠ 256) (h : apd H bytes es a len n new K) : apdF H bytes es a len n new K := by
  rcases h with h | ⟨h0, h | ⟨i, o, c, ea, hg, h | ⟨h1, old, h2, h3, h4⟩⟩⟩
  · exact .inl h
  · exact .inr ⟨h0, .inl h⟩
  · exact .inr ⟨h0, .inr ⟨i, o, c, ea, hg, .inl h⟩⟩
  · exact .inr ⟨h0, .inr ⟨i, o, c, ea, hg, .inr ⟨h1, old, h2, h3, .inl ⟨hl, h4⟩⟩⟩⟩
theorem apdF_256 {b : Nat} {cs new : List Value} {K : Option Addr → Nat → Heap → Prop} (h : Sep H (bx b (.cells true 5 cs) :: L)) (hlen : cs.length = 256 * 5) (hnew : new.length = 5)
    (k : ∀ H' q, Sep H' (bx q (.cells false 5 (cs ++ new)) :: bx b (.cells false 5 cs) :: L) → K (some ⟨q, 0, none⟩) (256 + 1) H') : apdF H 40 5 (some ⟨b, 0, none⟩) 256 1 new K := by
  refine .inr ⟨by decide, .inr ⟨b, 0, cs, rfl, Sep.get0 h, .inr ⟨by omega, cs, by rw [← hlen]; exact takeAt_all' _, by decide, .inr ⟨rfl, ?_⟩⟩⟩⟩
  have e : cs.take (0 + 256 * 5) = cs := List.take_of_length_le (by omega)
  rw [e]
  have h2 := (Sep.put0 h (.cells false 5 cs)).new (.cells false 5 (cs ++ new))
  rw [next_set] at h2
  exact k _ _ h2

/-! ### 256 of one kind -/
abbrev movI : Ins := ⟨183, 0, 0, 0, 0⟩
abbrev exitI : Ins := ⟨149, 0, 0, 0, 0⟩
abbrev movs (n : Nat) : List Ins := List.replicate n movI
theorem movs_flat (n : Nat) : (flatI (movs n)).length = n * 5 := by
  unfold flatI
  rw [List.map_replicate]
  induction n with
  | zero => rfl
  | succ n ih => rw [List.replicate_succ, List.flatten_cons, List.length_append, ih]; simp; omega
theorem movs_snoc (n : Nat) : flatI (movs (n + 1)) = flatI (movs n) ++ movI.cells := by
  unfold flatI
  rw [List.map_replicate, List.map_replicate, List.replicate_succ', List.flatten_append]; simp
theorem movs_exit (n : Nat) : flatI (movs n ++ [exitI]) = flatI (movs n) ++ exitI.cells := by
  unfold flatI
  rw [List.map_append, List.flatten_append]; simp
theorem movs_fe : fe (movs 256) = 12 := by
  refine fe_end (by rw [List.length_replicate]; decide) (by rw [List.length_replicate]; decide) (fun h => ?_) fun h => ?_
  · obtain ⟨i, hi, e⟩ := List.mem_map.1 h
    have hi : i < 256 := by have := List.mem_range.1 hi; rwa [List.length_replicate] at this
    rw [tgA_no (x := movI) (by rw [List.getElem?_replicate, if_pos hi]) (by decide)] at e
    cases e
  · have := h movI (by rw [List.length_replicate, List.getElem?_replicate, if_pos (by decide)])
    revert this; decide
theorem movs_many : fe (movs 256 ++ [exitI]) = 19 := by
  unfold fe; rw [if_pos (by rw [List.length_append, List.length_replicate]; decide)]
theorem movs_ok (n : Nat) : ∀ x ∈ movs n, OkI x := fun x hx => by
  obtain ⟨_, rfl⟩ := List.mem_replicate.1 hx; decide

set_option maxRecDepth 100000 in
set_option maxHeartbeats 4000000 in
theorem FlowKnown_ok (H : Heap) : CA en F.crossbarlaw06_FlowKnown [] H fun r _ => r = .bool true := by
  apply vc_crossbarlaw06_FlowKnown
  have h : Sep H [] := Sep.nil
  refine Sep.nw h fun _ _ h => mov_s h fun _ h => ⟨_, _, _, _, _, rfl, exit_s h fun _ h => ⟨_, _, _, _, _, rfl, Sep.nw h fun _ _ h => is_s (l := [⟨183, 0, 0, 0, 0⟩, ⟨149, 0, 0, 0, 0⟩]) (t := [-1, -1]) h (rds_bx (w := true) (z := 5) (by exact List.mem_cons_self)) (rdn_bx (w := true) (z := 1) (by exact List.mem_cons_of_mem _ List.mem_cons_self)) rfl rfl (by decide) (by decide) (fe_chain (by decide) (by decide) (by decide +kernel) (by decide +kernel) (by decide +kernel)) (fun _ => by kernel_rfl) (fun h => absurd rfl h) fun _ h => ⟨_, rfl, cond_yes rfl ?_⟩⟩⟩
  have h := Sep.drop h 2
  refine Sep.nw h fun _ _ h => jump_s h fun _ h => ⟨_, _, _, _, _, rfl, mov_s h fun _ h => ⟨_, _, _, _, _, rfl, exit_s h fun _ h => ⟨_, _, _, _, _, rfl, Sep.nw h fun _ _ h => is_s (l := [⟨21, 0, 0, 1, 0⟩, ⟨183, 0, 0, 0, 0⟩, ⟨149, 0, 0, 0, 0⟩]) (t := [2, -1, -1]) h (rds_bx (w := true) (z := 5) (by exact List.mem_cons_self)) (rdn_bx (w := true) (z := 1) (by exact List.mem_cons_of_mem _ List.mem_cons_self)) rfl rfl (by decide) (by decide) (fe_chain (by decide) (by decide) (by decide +kernel) (by decide +kernel) (by decide +kernel)) (fun _ => by kernel_rfl) (fun h => absurd rfl h) fun _ h => ⟨_, rfl, cond_yes rfl ?_⟩⟩⟩⟩
  have h := Sep.drop h 2
  refine Sep.nw h fun _ _ h => mov_s h fun _ h => ⟨_, _, _, _, _, rfl, ja_s h fun _ h => ⟨_, _, _, _, _, rfl, Sep.nw h fun _ _ h => is_s (l := [⟨183, 0, 0, 0, 0⟩, ⟨5, 0, 0, -2, 0⟩]) (t := [-1, 0]) h (rds_bx (w := true) (z := 5) (by exact List.mem_cons_self)) (rdn_bx (w := true) (z := 1) (by exact List.mem_cons_of_mem _ List.mem_cons_self)) rfl rfl (by decide) (by decide) (fe_chain (by decide) (by decide) (by decide +kernel) (by decide +kernel) (by decide +kernel)) (fun _ => by kernel_rfl) (fun h => absurd rfl h) fun _ h => ⟨_, rfl, cond_yes rfl ?_⟩⟩⟩
  have h := Sep.drop h 2
  refine exit_s h fun _ h => ⟨_, _, _, _, _, rfl, mov_s h fun _ h => ⟨_, _, _, _, _, rfl, Sep.nw h fun _ _ h => is_s (l := [⟨149, 0, 0, 0, 0⟩, ⟨183, 0, 0, 0, 0⟩]) (t := []) h (rds_bx (w := true) (z := 5) (by exact List.mem_cons_self)) (fun H' _ j v hv => by simp at hv) rfl rfl (by decide) (by decide) (fe_end (by decide) (by decide) (by decide +kernel) (by decide +kernel)) (fun h => absurd h (by decide)) (fun _ => rfl) fun _ h => ⟨_, rfl, cond_yes rfl ?_⟩⟩⟩
  have h := Sep.drop h 1
  refine is_s (l := []) (t := []) h (fun H' _ j v hv => by simp at hv) (fun H' _ j v hv => by simp at hv) rfl rfl (by decide) (by decide) fe_none (fun h => absurd h (by decide)) (fun _ => rfl) fun _ h => ⟨_, rfl, cond_yes rfl ?_⟩
  refine Sep.nw h fun _ _ h => ja_s h fun _ h => ⟨_, _, _, _, _, rfl, Sep.nw h fun _ _ h => is_s (l := [⟨5, 0, 0, -1, 0⟩]) (t := [0]) h (rds_bx (w := true) (z := 5) (by exact List.mem_cons_self)) (rdn_bx (w := true) (z := 1) (by exact List.mem_cons_of_mem _ List.mem_cons_self)) rfl rfl (by decide) (by decide) (fe_chain (by decide) (by decide) (by decide +kernel) (by decide +kernel) (by decide +kernel)) (fun _ => by kernel_rfl) (fun h => absurd rfl h) fun _ h => ⟨_, rfl, cond_yes rfl ?_⟩⟩
  have h := Sep.drop h 2
  refine Sep.nw h fun _ _ h => jump_s h fun _ h => ⟨_, _, _, _, _, rfl, exit_s h fun _ h => ⟨_, _, _, _, _, rfl, Sep.nw h fun _ _ h => is_s (l := [⟨21, 0, 0, 0, 0⟩, ⟨149, 0, 0, 0, 0⟩]) (t := [1, -1]) h (rds_bx (w := true) (z := 5) (by exact List.mem_cons_self)) (rdn_bx (w := true) (z := 1) (by exact List.mem_cons_of_mem _ List.mem_cons_self)) rfl rfl (by decide) (by decide) (fe_chain (by decide) (by decide) (by decide +kernel) (by decide +kernel) (by decide +kernel)) (fun _ => by kernel_rfl) (fun h => absurd rfl h) fun _ h => ⟨_, rfl, ?_⟩⟩⟩
  have h := Sep.drop h 2
  refine ⟨fun ys H' => ys = [.bool true] ∧ Sep H' [], ?_, ?_⟩
  · refine ja_s h fun _ h => ⟨_, _, _, _, _, rfl, Sep.nw h fun _ _ h => is_s (l := [⟨5, 0, 0, -2, 0⟩]) (t := []) h (rds_bx (w := true) (z := 5) (by exact List.mem_cons_self)) (fun H' _ j v hv => by simp at hv) rfl rfl (by decide) (by decide) (fe_jump (by decide) (by decide) (by decide +kernel)) (fun h => absurd h (by decide)) (fun _ => rfl) fun _ h => ⟨_, rfl, cond_yes rfl ?_⟩⟩
    have h := Sep.drop h 1
    refine jump_s h fun _ h => ⟨_, _, _, _, _, rfl, exit_s h fun _ h => ⟨_, _, _, _, _, rfl, Sep.nw h fun _ _ h => is_s (l := [⟨21, 0, 0, 1, 0⟩, ⟨149, 0, 0, 0, 0⟩]) (t := []) h (rds_bx (w := true) (z := 5) (by exact List.mem_cons_self)) (fun H' _ j v hv => by simp at hv) rfl rfl (by decide) (by decide) (fe_jump (by decide) (by decide) (by decide +kernel)) (fun h => absurd h (by decide)) (fun _ => rfl) fun _ h => ⟨_, rfl, cond_yes rfl ?_⟩⟩⟩
    have h := Sep.drop h 1
    refine jump_s h fun _ h => ⟨_, _, _, _, _, rfl, Sep.nw h fun _ _ h => is_s (l := [⟨21, 0, 0, -1, 0⟩]) (t := []) h (rds_bx (w := true) (z := 5) (by exact List.mem_cons_self)) (fun H' _ j v hv => by simp at hv) rfl rfl (by decide) (by decide) (fe_end (by decide) (by decide) (by decide +kernel) (by decide +kernel)) (fun h => absurd h (by decide)) (fun _ => rfl) fun _ h => ⟨_, rfl, cond_yes rfl ?_⟩⟩
    have h := Sep.drop h 1
    refine exit_s h fun _ h => ⟨_, _, _, _, _, rfl, exit_s h fun _ h => ⟨_, _, _, _, _, rfl, Sep.nw h fun _ _ h => is_s (l := [⟨149, 0, 0, 0, 0⟩, ⟨149, 0, 0, 0, 0⟩]) (t := []) h (rds_bx (w := true) (z := 5) (by exact List.mem_cons_self)) (fun H' _ j v hv => by simp at hv) rfl rfl (by decide) (by decide) fe_two (fun h => absurd h (by decide)) (fun _ => rfl) fun _ h => ⟨_, rfl, cond_yes rfl ?_⟩⟩⟩
    have h := Sep.drop h 1
    refine wide_s h fun _ h => ⟨_, _, _, _, _, rfl, jump_s h fun _ h => ⟨_, _, _, _, _, rfl, exit_s h fun _ h => ⟨_, _, _, _, _, rfl, Sep.nw h fun _ _ h => is_s (l := [⟨24, 0, 0, 0, 0⟩, ⟨21, 0, 0, -2, 0⟩, ⟨149, 0, 0, 0, 0⟩]) (t := []) h (rds_bx (w := true) (z := 5) (by exact List.mem_cons_self)) (fun H' _ j v hv => by simp at hv) rfl rfl (by decide) (by decide) (fe_jump (by decide) (by decide) (by decide +kernel)) (fun h => absurd h (by decide)) (fun _ => rfl) fun _ h => ⟨_, rfl, cond_yes rfl ?_⟩⟩⟩⟩
    have h := Sep.drop h 1
    refine Sep.nw h fun _ _ h => wide_s h fun _ h => ⟨_, _, _, _, _, rfl, jump_s h fun _ h => ⟨_, _, _, _, _, rfl, exit_s h fun _ h => ⟨_, _, _, _, _, rfl, Sep.nw h fun _ _ h => is_s (l := [⟨24, 0, 0, 0, 0⟩, ⟨21, 0, 0, -3, 0⟩, ⟨149, 0, 0, 0, 0⟩]) (t := [-1, 0, -1]) h (rds_bx (w := true) (z := 5) (by exact List.mem_cons_self)) (rdn_bx (w := true) (z := 1) (by exact List.mem_cons_of_mem _ List.mem_cons_self)) rfl rfl (by decide) (by decide) (fe_chain (by decide) (by decide) (by decide +kernel) (by decide +kernel) (by decide +kernel)) (fun _ => by kernel_rfl) (fun h => absurd rfl h) fun _ h => ⟨_, rfl, cond_yes rfl ?_⟩⟩⟩⟩
    have h := Sep.drop h 2
    refine jump_s h fun _ h => ⟨_, _, _, _, _, rfl, mov_s h fun _ h => ⟨_, _, _, _, _, rfl, Sep.nw h fun _ _ h => is_s (l := [⟨21, 0, 0, 5, 0⟩, ⟨183, 0, 0, 0, 0⟩]) (t := []) h (rds_bx (w := true) (z := 5) (by exact List.mem_cons_self)) (fun H' _ j v hv => by simp at hv) rfl rfl (by decide) (by decide) (fe_jump (by decide) (by decide) (by decide +kernel)) (fun h => absurd h (by decide)) (fun _ => rfl) fun _ h => ⟨_, rfl, ?_⟩⟩⟩
    have h := Sep.drop h 1
    exact ⟨rfl, h⟩
  rintro ys H b2 ⟨eb, h⟩
  obtain rfl := one_bool eb
  refine ⟨fun ys H' => ∃ q, ys = [.slice (addr q) 1 0] ∧ (q = none → ([1] : List Int) = []) ∧ Sep H' [gl 1 q (ints [1])], ?_, ?_⟩
  · refine jump_s h fun _ h => ⟨_, _, _, _, _, rfl, exit_s h fun _ h => ⟨_, _, _, _, _, rfl, Sep.nw h fun _ _ h => Sep.nw h fun _ _ h => ?_⟩⟩
    refine Next_s (l := [⟨21, 0, 0, 0, 0⟩, ⟨149, 0, 0, 0, 0⟩]) (t := [1, -1]) (i := 0) (x := ⟨21, 0, 0, 0, 0⟩) (v := 1) h (rds_bx (w := true) (z := 5) (by exact List.mem_cons_of_mem _ List.mem_cons_self)) (rdn_bx (w := true) (z := 1) (by exact List.mem_cons_self)) rfl rfl rfl rfl (by decide) fun _ q hq h => ⟨_, _, rfl, q, rfl, hq, ?_⟩
    exact Sep.pick h 3 [0] (by decide)
  rintro ys H a1 n1 ⟨q1, e1, hq1, h⟩
  cases e1
  refine ⟨fun ys H' => ∃ q, ys = [.slice (addr q) 2 0] ∧ (q = none → ([1, 2] : List Int) = []) ∧ Sep H' [gl 1 q (ints [1, 2]), gl 1 q1 (ints [1])], ?_, ?_⟩
  · refine jump_s h fun _ h => ⟨_, _, _, _, _, rfl, mov_s h fun _ h => ⟨_, _, _, _, _, rfl, exit_s h fun _ h => ⟨_, _, _, _, _, rfl, Sep.nw h fun _ _ h => Sep.nw h fun _ _ h => ?_⟩⟩⟩
    refine Next_s (l := [⟨21, 0, 0, 1, 0⟩, ⟨183, 0, 0, 0, 0⟩, ⟨149, 0, 0, 0, 0⟩]) (t := [2, -1, -1]) (i := 0) (x := ⟨21, 0, 0, 1, 0⟩) (v := 2) h (rds_bx (w := true) (z := 5) (by exact List.mem_cons_of_mem _ List.mem_cons_self)) (rdn_bx (w := true) (z := 1) (by exact List.mem_cons_self)) rfl rfl rfl rfl (by decide) fun _ q hq h => ⟨_, _, rfl, q, rfl, hq, ?_⟩
    exact Sep.pick h 4 [0, 3] (by decide)
  rintro ys H a2 n2 ⟨q2, e2, hq2, h⟩
  cases e2
  refine ⟨fun ys H' => ∃ c, ys = [.pointer (some ⟨c, 0, none⟩)] ∧ Sep H' [bx c (.cells true 0 [I 133, I 0, I 0, I 0, I 1]), gl 1 q2 (ints [1, 2]), gl 1 q1 (ints [1])], ?_, ?_⟩
  · exact Sep.nw h fun c _ h => Sep.st0 h (Nat.le_of_ble_eq_true rfl) fun _ h => ⟨c, rfl, h⟩
  rintro ys H v3 ⟨c, e3, h⟩
  cases e3
  refine use_crossbarlaw06_FlowKnown_0 (fun k g n t H' => ∃ (j : Nat) (o : Option Nat), j ≤ 256 ∧ k = 256 - j ∧ t = (j : Int) ∧ g = addr o ∧ n = j ∧ (o = none → j = 0) ∧ Sep H' [gl 5 o (flatI (movs j)), bx c (.cells true 0 [I 133, I 0, I 0, I 0, I 1]), gl 1 q2 (ints [1, 2]), gl 1 q1 (ints [1])]) 256 ⟨0, none, Nat.zero_le _, rfl, rfl, rfl, rfl, fun _ => rfl, gl_none.2 h⟩ ?_
  clear h
  intro k g n t ys H hI
  obtain ⟨j, o, hj, ek, et, eg, en', ho, h⟩ := hI
  subst et eg en'
  refine cond_of (fun z => ?_) fun z => ?_
  · have z : n < 256 := by have := of_decide_eq_true z; omega
    refine mov_s h fun _ h => ⟨_, _, _, _, _, rfl, Sep.nw h fun i8 _ h => ⟨movI.cells, rowOf_bx (es := 5) (n := 1) (b := i8) (Sep.get0 h) (by decide) rfl, ?_⟩⟩
    refine apdF_ne (by omega) (apd_gl (b := o) (cs := flatI (movs n)) (new := movI.cells) (Sep.up1 h) (fun e => by rw [ho e]; rfl) (by decide) (movs_flat n) (by decide) rfl (by omega) fun _ q h => ?_)
    refine ⟨256 - (n + 1), by rw [ek]; omega, n + 1, some q, z, rfl, by rw [wrap_i64 (by omega)]; omega, rfl, rfl, (fun e => by cases e), ?_⟩
    rw [movs_snoc]
    exact Sep.pick h 5 [0, 2, 3, 4] (by decide)
  have z : n = 256 := by have := of_decide_eq_false z; omega
  subst z
  obtain ⟨b, rfl⟩ : ∃ b, o = some b := by
    cases o with
    | none => have := ho rfl; omega
    | some b => exact ⟨b, rfl⟩
  refine asSl_in ⟨fun ys H' => ys = [.bool true], ?_, ?_⟩
  · refine cond_yes rfl (cond_yes rfl (Sep.nw h fun _ _ h => ?_))
    -- i l c q2 q1
    refine SameInts_s (s := [1]) (t := [1]) h (rdn_gl (q := q1) (by simp) hq1) (rdn_bx (w := true) (z := 1) (by exact List.mem_cons_self)) rfl rfl (by decide) fun _ h => ⟨_, rfl, cond_yes (by decide) (Sep.nw h fun _ _ h => ?_)⟩
    refine SameInts_s (s := [1, 2]) (t := [1, 2]) h (rdn_gl (q := q2) (by simp) hq2) (rdn_bx (w := true) (z := 1) (by exact List.mem_cons_self)) rfl rfl (by decide) fun _ h => ⟨_, rfl, cond_yes (by decide) ?_⟩
    refine asAddr_in ⟨_, _, _, _, _, Sep.lds3 h rfl, Jumps_s (x := ⟨133, 0, 0, 0, 1⟩) h (by decide) fun _ h => ⟨_, rfl, cond_yes (by decide) ?_⟩⟩
    refine exit_s h fun _ h => ⟨_, _, _, _, _, rfl, Jumps_s (x := exitI) h (by decide) fun _ h => ⟨_, rfl, cond_yes (by decide) ?_⟩⟩
    refine Jumps_s (x := ⟨222, 0, 0, 0, 0⟩) h (by decide) fun _ h => ⟨_, rfl, cond_yes (by decide) ?_⟩
    refine exit_s h fun _ h => ⟨_, _, _, _, _, rfl, Sep.nw h fun i _ h => ⟨exitI.cells, rowOf_bx (es := 5) (n := 1) (b := i) (Sep.get0 h) (by decide) rfl, ?_⟩⟩
    refine apdF_256 (gl_some.1 (Sep.up3 h)) (movs_flat 256) rfl fun _ q h => ?_
    rw [← movs_exit] at h
    refine is_s (l := movs 256 ++ [exitI]) (t := []) h (rds_bx (w := false) (z := 5) (by exact List.mem_cons_self)) (fun H' _ j v hv => by simp at hv) (by simp) rfl (fun x hx => ?_) (by simp) movs_many (fun h => absurd h (by decide)) (fun _ => rfl) fun _ h => ⟨_, rfl, cond_yes rfl ?_⟩
    · rcases List.mem_append.1 hx with hx | hx
      · exact movs_ok 256 x hx
      · simp at hx; rw [hx]; decide
    refine is_s (l := movs 256) (t := []) h (rds_bx (w := false) (z := 5) (by exact List.mem_cons_of_mem _ List.mem_cons_self)) (fun H' _ j v hv => by simp at hv) (by simp) rfl (movs_ok 256) (by simp) movs_fe (fun h => absurd h (by decide)) (fun _ => rfl) fun _ h => ⟨_, rfl, cond_yes rfl ?_⟩
    exact known06_s h fun _ h => ⟨_, rfl, rfl⟩
  · rintro ys H b eb
    obtain rfl := one_bool eb
    rfl
end Go.Proofs.Ytmgkngdbphkmmaa
