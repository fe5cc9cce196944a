/-
  'crossbarlaw10.LockWhole' returns true: what is read under a stamp is whole.
-/
import Derived.Test.YthnifkjpkepbaaaWholePure
import Derived.Test.YthnifkjpkepbaaaVcW
namespace Go.Proofs.Ythnifkjpkepbaaa
open Go Go.AS Go.RowKit
set_option linter.unusedVariables false
variable {H H' : Heap} {m : Nat} {S S' : Sm} {R : Value → Heap → Prop} {L : List Asr} {ws : List (BitVec 64)} {c : Int}

theorem begin_s (h : Sep H (mem m S :: L)) (o : One S ws c) (hc : c < 4611686018427387904) {i : Nat} (hi : i < ws.length)
    (hR : ∀ H' S', One S' (ws.set i (ws.getD i 0 + 1)) (c + 1) → Sep H' (mem m S' :: L) → R (.bool true) H') : CA en F.lock_Begin [P m, I 1, I i] H R := by
  apply vc_lock_Begin
  exact more_s h o hc hi fun H' S' o' h' => ⟨_, _, rfl, hR H' S' o' h'⟩

theorem end_s (h : Sep H (mem m S :: L)) (o : One S ws c) (hc : c < 4611686018427387904) {i : Nat} (hi : i < ws.length)
    (hR : ∀ H' S', One S' (ws.set i (ws.getD i 0 + 1)) (c + 1) → Sep H' (mem m S' :: L) → R (.bool true) H') : CA en F.lock_End [P m, I 1, I i] H R := by
  apply vc_lock_End
  exact begin_s h o hc hi fun H' S' o' h' => ⟨_, rfl, hR H' S' o' h'⟩

theorem read_s (h : Sep H (mem m S :: L)) (o : One S ws c) (hc : c < 4611686018427387904) {i : Nat} (hi : i < ws.length)
    (hR : ∀ H' S', One S' ws (c + 1) → Sep H' (mem m S' :: L) → R (.tuple #[W (ws.getD i 0), .bool (decide ((ws.getD i 0).toNat % 2 = 0))]) H') : CA en F.lock_Read [P m, I 1, I i] H R := by
  apply vc_lock_Read
  refine load1_s h o hc hi fun H' S' o' h' => ⟨_, _, rfl, cond_yes rfl ⟨(by unfold nz; decide), ?_⟩⟩
  have := hR H' S' o' h'
  have e : (Int.tmod ((ws.getD i 0).toNat : Int) 2 == 0) = decide ((ws.getD i 0).toNat % 2 = 0) := by
    rw [Int.tmod_eq_emod_of_nonneg (by omega), Bool.eq_iff_iff, beq_iff_eq, decide_eq_true_eq]; omega
  rw [e]
  exact this

theorem same_s (h : Sep H (mem m S :: L)) (o : One S ws c) (hc : c < 4611686018427387904) {i : Nat} (hi : i < ws.length) {n : BitVec 64}
    (hR : ∀ H' S', One S' ws (c + 1) → Sep H' (mem m S' :: L) → R (.bool (decide (ws.getD i 0 = n))) H') : CA en F.lock_Same [P m, I 1, I i, W n] H R := by
  apply vc_lock_Same
  refine load1_s h o hc hi fun H' S' o' h' => ⟨_, _, rfl, cond_yes rfl ?_⟩
  have := hR H' S' o' h'
  rw [bv_beq]
  exact this

theorem rstep_s {rb k : Nat} {css : List (List Value)} {r : Rd} (h : Sep H (bx rb (.cells true 5 (css.set k r.cells).flatten) :: mem m S :: L)) (hw : ∀ c ∈ css, c.length = 5) (hk : k < css.length) (h4 : r.at' ≤ 4)
    (o : One S ws c) (hc : c < 4611686018427387904) (hl : ws.length = 6)
    (hR : ∀ H' S', One S' ws (c + 1) → Sep H' (bx rb (.cells true 5 (css.set k (r.next ws).cells).flatten) :: mem m S' :: L) → R (.bool (r.ans ws)) H') :
    CA en F.crossbarlaw10_reader_step [.pointer (some ⟨rb, 0 + k * 5, none⟩), P m] H R := by
  apply vc_crossbarlaw10_reader_step
  refine asAddr_in ⟨_, Sep.rld0 h hw rfl hk rfl, cond_of (fun h0 => ?_) fun h0 => ?_⟩
  · have h0 : r.at' = 0 := by simpa using h0
    refine read_s (i := 2) (Sep.up1 h) o hc (by omega) fun H2 S2 o2 h2 => ⟨_, _, rfl, asAddr_in (Sep.rst (o := 1) (Sep.up1 h2) hw rfl hk (by decide) fun H3 h3 => ?_)⟩
    have hR' := hR
    unfold Rd.next at hR'
    rw [if_pos h0] at hR'
    have ea : r.ans ws = false := by unfold Rd.ans; rw [decide_eq_false (by omega)]
    rw [ea] at hR'
    refine cond_of (fun hev => asAddr_in (Sep.rst0 h3 hw rfl hk (by decide) fun H4 h4 => hR' H4 S2 o2 ?_)) fun hev => hR' H3 S2 o2 ?_
    · rw [if_pos (by simpa using hev)]; exact h4
    · rw [if_neg (by simpa using hev)]
      have e : r.cells = [I 0, W r.n, W r.a, W r.b, W r.c] := by unfold Rd.cells; rw [h0]; rfl
      rw [e] at h3
      exact h3
  · have h0 : ¬ r.at' = 0 := by simpa using h0
    refine asAddr_in ⟨_, Sep.rld0 h hw rfl hk rfl, cond_of (fun h3 => ?_) fun h3 => ?_⟩
    · have h3 : r.at' ≤ 3 := by have := of_decide_eq_true h3; omega
      have hB := h.bump 20
      have hR' := hR
      unfold Rd.next at hR'
      rw [if_neg h0, if_pos h3] at hR'
      have ea : r.ans ws = false := by unfold Rd.ans; rw [decide_eq_false (by omega)]
      rw [ea] at hR'
      have e1 : IntKind.i64.wrap (2 + (r.at' : Int)) = ((2 + r.at' : Nat) : Int) := by rw [wrap_i64 (by omega)]; omega
      have e2 : IntKind.i64.wrap ((r.at' : Int) - 1) = ((r.at' - 1 : Nat) : Int) := by rw [wrap_i64 (by omega)]; omega
      have e3 : IntKind.i64.wrap ((r.at' : Int) + 1) = ((r.at' + 1 : Nat) : Int) := by rw [wrap_i64 (by omega)]; omega
      refine asAddr_in ⟨_, Sep.rld0 hB hw rfl hk rfl, asAddr_in ⟨_, Sep.rld0 hB hw rfl hk rfl, ?_⟩⟩
      rw [e1, e2]
      refine load1_s (Sep.up1 hB) o hc (by omega) fun H4 S4 o4 h4 => ⟨_, _, rfl, asAddr_in ⟨(by unfold inB; omega), ?_⟩⟩
      have e4 : (0 + k * 5 + 2) + (((r.at' - 1 : Nat) : Int)).toNat * 1 = 0 + k * 5 + (r.at' + 1) := by
        rw [Int.toNat_natCast]; omega
      rw [e4]
      refine Sep.rst (o := r.at' + 1) (Sep.up1 h4) hw rfl hk (by omega) fun H5 h5 => ⟨asAddr_in ⟨_, Sep.rld0 h5 hw (by simp [Rd.cells]) hk (by simp [Rd.cells]; rfl), asAddr_in (Sep.rst0 h5 hw (by simp [Rd.cells]) hk (by decide) fun H6 h6 => hR' H6 S4 o4 ?_)⟩, ⟨rfl, rfl, trivial⟩, ⟨⟨_, Sep.rld0 hB hw rfl hk rfl, rfl⟩, ⟨_, Sep.rld0 (Sep.up1 h4) hw rfl hk rfl, rfl⟩, trivial⟩, trivial⟩
      rw [e3] at h6
      obtain e | e | e : r.at' = 1 ∨ r.at' = 2 ∨ r.at' = 3 := by omega
      all_goals (rw [e] at h6 ⊢; exact h6)
    · have h3 : ¬ r.at' ≤ 3 := by have := of_decide_eq_false h3; omega
      refine asAddr_in (Sep.rst0 h hw rfl hk (by decide) fun H2 h2 => asAddr_in ⟨_, Sep.rld (o := 1) h2 hw rfl hk rfl, ?_⟩)
      refine same_s (i := 2) (Sep.up1 h2) o hc (by omega) fun H4 S4 o4 h4 => ⟨_, rfl, ?_⟩
      have := hR H4 S4 o4
      unfold Rd.next at this
      rw [if_neg h0, if_neg h3] at this
      have ea : r.ans ws = decide (ws.getD 2 0 = r.n) := by
        unfold Rd.ans
        rw [Bool.eq_iff_iff, decide_eq_true_eq, decide_eq_true_eq]
        exact ⟨fun h => h.2, fun h => ⟨by omega, h⟩⟩
      rw [ea] at this
      exact this (Sep.up1 h4)

theorem rds_set {Rs : List Rd} {ls : List (BitVec 64)} {q : Nat} {r' : Rd} {l' : BitVec 64} {P : Rd → BitVec 64 → Prop} (h : ∀ (i : Nat) r l, Rs[i]? = some r → ls[i]? = some l → P r l) (h' : P r' l') :
    ∀ (i : Nat) r l, (Rs.set q r')[i]? = some r → (ls.set q l')[i]? = some l → P r l := by
  intro i r l hr hl
  rw [List.getElem?_set] at hr hl
  by_cases e : q = i
  · rw [if_pos e] at hr hl
    split at hr <;> split at hl
    · cases hr; cases hl; exact h'
    · cases hl
    · cases hr
    · cases hr
  · rw [if_neg e] at hr hl
    exact h i r l hr hl

/-- The whole state. -/
structure WS (m wb rb lb N K : Nat) (M : List Asr) (H : Heap) (As : List Ag) (Rs : List Rd) (ls : List (BitVec 64)) (S : Sm) (dr sv nu pos : Nat) (c : Int) (j : Nat) : Prop where
  la : As.length = N
  lr : Rs.length = K
  ll : ls.length = K
  drj : dr ≤ j
  nuj : nu ≤ j
  cj : c ≤ j
  fair : Fair As dr sv
  le : sv ≤ dr
  hold : Hold As pos
  nu1 : 1 ≤ pos → 1 ≤ nu
  ps : pos ≤ 5
  one : One S (wds dr sv nu pos) c
  rds : ∀ (i : Nat) r l, Rs[i]? = some r → ls[i]? = some l → RdOk (stN nu pos) (whN nu pos) nu r l
  sep : Sep H (bx wb (.cells true 5 (As.map Ag.wcells).flatten) :: many (As.flatMap (Ag.tak m)) :: mem m S :: bx rb (.cells true 5 (Rs.map Rd.cells).flatten) :: bx lb (.cells true 1 (ls.map fun v => [W v]).flatten) :: M)

theorem wrap_number {nu : Nat} (h : nu < 4000) : IntKind.u64.wrap (((B nu).toNat : Int) + 1) = ((B (nu + 1)).toNat : Int) := by
  rw [wrap_u64, B_toNat (by omega), B_toNat (by omega)]
  have e : ((nu : Int) + 1) = ((nu + 1 : Nat) : Int) := by omega
  rw [e, BitVec.ofInt_natCast, BitVec.toNat_ofNat, Nat.mod_eq_of_lt (by omega)]

theorem LockWhole_ok {x0 x1 : Int} {a : Option Addr} {n : Nat} {l : List Int} {M : List Asr} (ha : Arg a n (l.map fun v => [I v]) M) (h : Sep H M) : CA en F.crossbarlaw10_LockWhole [I x0, I x1, .slice a n 0] H fun r _ => r = .bool true := by
  have hn : n = l.length := by rw [ha.len, List.length_map]
  subst hn
  apply vc_crossbarlaw10_LockWhole
  refine made1_s h (by decide) fun H2 m S0 o0 h2 => ⟨_, rfl, ?_⟩
  refine cond_no rfl (cond_of (fun hl => cond_yes rfl (CA_truth (by kernel_rfl) ⟨_, rfl, rfl⟩)) fun hl => ?_)
  simp only [decide_eq_false_iff_not] at hl
  refine Pick_ok (by decide) (by decide) ⟨_, rfl, ?_⟩
  have hN : IntKind.i64.wrap (1 + x0 % 4) = 1 + x0 % 4 := wrap_i64 (by omega)
  rw [hN]
  have hNb : 1 ≤ (1 + x0 % 4).toNat ∧ (1 + x0 % 4).toNat ≤ 4 := by omega
  refine ⟨⟨by omega, Int.le_refl _, by omega⟩, Sep.nw h2 fun wb H14 h14 => ?_⟩
  rw [reps_flat] at h14
  generalize hNN : (1 + x0 % 4).toNat = N at *
  refine Pick_ok (by decide) (by decide) ⟨_, rfl, ?_⟩
  have hK : IntKind.i64.wrap (1 + x1 % 3) = 1 + x1 % 3 := wrap_i64 (by omega)
  rw [hK]
  have hKb : 1 ≤ (1 + x1 % 3).toNat ∧ (1 + x1 % 3).toNat ≤ 3 := by omega
  refine ⟨⟨by omega, Int.le_refl _, by omega⟩, Sep.nw h14 fun rb H19 h19 => ?_⟩
  rw [reps_flat] at h19
  generalize hKK : (1 + x1 % 3).toNat = K at *
  refine ⟨⟨by omega, Int.le_refl _, by omega⟩, Sep.nw h19 fun lb H21 h21 => ?_⟩
  rw [reps_flat, Int.toNat_natCast] at h21
  have st0 : WS m wb rb lb N K M H21 (List.replicate N ⟨none, 0, false, false, 0⟩) (List.replicate K ⟨0, 0, 0, 0, 0⟩) (List.replicate K 0) S0 0 0 0 0 0 0 := by
    have hall : ∀ x ∈ List.replicate N (⟨none, 0, false, false, 0⟩ : Ag), x = ⟨none, 0, false, false, 0⟩ := fun x hx => (List.mem_replicate.1 hx).2
    refine ⟨by simp, by simp, by simp, Nat.le_refl _, Nat.le_refl _, Int.le_refl _, ?_, Nat.le_refl _, ?_, fun h => by omega, by omega, ?_, ?_, ?_⟩
    · exact ⟨(fun x hx _ => by rw [hall x hx]), (fun x hx hn => (hn (by rw [hall x hx])).elim), (fun x hx hl => by rw [hall x hx] at hl; cases hl), (fun i j x y hi _ _ hx _ => (hx (by rw [hall x (List.mem_of_getElem? hi)])).elim)⟩
    · exact ⟨(fun x hx hl => by rw [hall x hx] at hl; cases hl), fun _ => rfl⟩
    · exact o0
    · intro i r l hr hl
      have er := (List.mem_replicate.1 (List.mem_of_getElem? hr)).2
      have el := (List.mem_replicate.1 (List.mem_of_getElem? hl)).2
      subst er el
      show RdOk (stN 0 0) (whN 0 0) 0 ⟨0, 0, 0, 0, 0⟩ (B 0)
      exact RdOk.count rfl rfl
    · have e1 : (List.replicate N (⟨none, 0, false, false, 0⟩ : Ag)).map Ag.wcells = List.replicate N [.pointer none, I 0, .bool false, .bool false, I 0] := by rw [List.map_replicate]; rfl
      have e2 : (List.replicate N (⟨none, 0, false, false, 0⟩ : Ag)).flatMap (Ag.tak m) = [] := by
        rw [List.flatMap_eq_nil_iff]
        intro x hx
        rw [hall x hx]; rfl
      have e3 : (List.replicate K (⟨0, 0, 0, 0, 0⟩ : Rd)).map Rd.cells = List.replicate K [I 0, .int .u64 0, .int .u64 0, .int .u64 0, .int .u64 0] := by rw [List.map_replicate]; rfl
      have e4 : ((List.replicate K (0 : BitVec 64)).map fun v => [W v]) = List.replicate K [.int .u64 0] := by rw [List.map_replicate]; rfl
      rw [e1, e2, e3, e4]
      -- lb rb wb mem
      exact Sep.up4 (Sep.many0 (Sep.up3 (Sep.up1 h21)))
  refine use_crossbarlaw10_LockWhole_0 (fun k _ t11 t12 t13 H => ∃ (j : Nat) (As : List Ag) (Rs : List Rd) (ls : List (BitVec 64)) (S : Sm) (dr sv nu pos : Nat) (c : Int), j ≤ l.length ∧ k = l.length - j ∧ t13 = (j : Int) ∧ t11 = ((B nu).toNat : Int) ∧ t12 = ((B (whN nu pos)).toNat : Int) ∧ WS m wb rb lb N K M H As Rs ls S dr sv nu pos c j) l.length ⟨0, _, _, _, S0, 0, 0, 0, 0, 0, by omega, rfl, rfl, rfl, rfl, st0⟩ ?_
  clear st0 h2 h14 h19 h21 o0 S0
  rintro k0 t6 t11 t12 t13 ys H ⟨j, As, Rs, ls, S, dr, sv, nu, pos, c, hj, rfl, rfl, rfl, rfl, st⟩
  have hj1 : IntKind.i64.wrap ((j : Int) + 1) = ((j + 1 : Nat) : Int) := by rw [wrap_i64 (by omega)]; omega
  rw [hj1]
  refine cond_of (fun h1 => ?_) fun h1 => ?_
  · simp only [decide_eq_true_eq] at h1
    have hj' : j < l.length := by omega
    have hsep := st.sep
    obtain ⟨q, rfl, _, hq⟩ := ha.row (w := 1) hsep (fun A hA => List.mem_cons_of_mem _ (List.mem_cons_of_mem _ (List.mem_cons_of_mem _ (List.mem_cons_of_mem _ (List.mem_cons_of_mem _ hA))))) (by intro c hc; obtain ⟨v, _, rfl⟩ := List.mem_map.1 hc; rfl) (j := j) (by simpa using hj')
    refine ⟨by unfold inB; omega, asRow_in ⟨l[j], ?_, ?_⟩⟩
    · have := hq 0 (by decide)
      rw [Nat.add_zero] at this
      exact this.trans (by simp)
    have hNK : IntKind.i64.wrap ((N : Int) + (K : Int)) = ((N + K : Nat) : Int) := by rw [wrap_i64 (by omega)]; omega
    rw [hNK]
    refine Pick_ok (by omega) (by omega) ⟨_, rfl, ?_⟩
    have hkb : 0 ≤ l[j] % ((N + K : Nat) : Int) ∧ l[j] % ((N + K : Nat) : Int) < ((N + K : Nat) : Int) := ⟨Int.emod_nonneg _ (by omega), Int.emod_lt_of_pos _ (by omega)⟩
    obtain ⟨k, hk⟩ := Int.eq_ofNat_of_zero_le hkb.1
    rw [hk]
    have hkN : k < N + K := by omega
    have hcj : c < 4611686018427387904 := by have := st.cj; omega
    have hsv : sv < 10000 ∧ dr < 10000 := by have := st.le; have := st.drj; omega
    have hnu : nu < 4000 := by have := st.nuj; omega
    refine cond_of (fun hr => ?_) fun hr => ?_
    · -- a reader
      have hr : N ≤ k := by simpa using hr
      have ek : IntKind.i64.wrap ((k : Int) - (N : Int)) = ((k - N : Nat) : Int) := by rw [wrap_i64 (by omega)]; omega
      rw [ek]
      generalize hp : k - N = p
      have hpK : p < K := by omega
      have hpl : p < Rs.length := by rw [st.lr]; exact hpK
      obtain ⟨r, hpr⟩ : ∃ r, Rs[p]? = some r := ⟨Rs[p], List.getElem?_eq_getElem hpl⟩
      obtain ⟨lv, hplv⟩ : ∃ lv, ls[p]? = some lv := ⟨ls[p]'(by rw [st.ll]; exact hpK), List.getElem?_eq_getElem _⟩
      have hrow : (Rs.map Rd.cells)[p]? = some r.cells := by rw [List.getElem?_map, hpr]; rfl
      have hw := rd_len Rs
      have hpc : p < (Rs.map Rd.cells).length := by simpa using hpl
      have rok := st.rds p r lv hpr hplv
      refine ⟨by unfold inB; omega, ?_⟩
      refine rstep_s (Sep.rvw (Sep.up3 hsep) hrow |> fun h => Sep.up1 (Sep.up3 h)) hw hpc rok.le4 st.one hcj rfl fun H8 S8 o8 h8 => ⟨_, rfl, ?_⟩
      have eR : (Rs.set p (r.next (wds dr sv nu pos))).map Rd.cells = (Rs.map Rd.cells).set p (r.next (wds dr sv nu pos)).cells := by rw [List.map_set]
      have rok' := rok.next (dr := dr) (sv := sv) st.nu1 hnu
      refine cond_of (fun hans => ?_) fun hans => ?_
      · obtain ⟨ewh, ea, eb, ec, lN, el, elN⟩ := rok.ans st.nu1 hnu hans
        have er : r.next (wds dr sv nu pos) = ⟨0, r.n, B nu, B nu, B nu⟩ := by
          have : 3 < r.at' := (of_decide_eq_true hans).1
          unfold Rd.next
          rw [if_neg (by omega), if_neg (by omega), ea, eb, ec]
        rw [er] at h8 eR rok'
        have hB := h8.bump 48
        have hwl : ∀ x ∈ ls.map fun v => [W v], x.length = 1 := by intro x hx; obtain ⟨v, _, rfl⟩ := List.mem_map.1 hx; rfl
        have hrowl : (ls.map fun v => [W v])[p]? = some [W lv] := by rw [List.getElem?_map, hplv]; rfl
        have hpcl : p < (ls.map fun v => [W v]).length := by rw [List.length_map, st.ll]; exact hpK
        have e48 : H8.bump 48 = H8.bump 48 := rfl
        have hl5 := Sep.rvw (Sep.up4 hB) hrowl
        have i0 : inB 0 3 := by unfold inB; omega
        have i1 : inB 1 3 := by unfold inB; omega
        have i2 : inB 2 3 := by unfold inB; omega
        have ipK : inB (p : Int) K := by unfold inB; omega
        refine ⟨i0, _, Sep.rld (o := 2) hB hw rfl hpc rfl, i1, _, Sep.rld (o := 3) hB hw rfl hpc rfl, cond_no (by simp) ⟨i1, _, Sep.rld (o := 3) hB hw rfl hpc rfl, i2, _, Sep.rld (o := 4) hB hw rfl hpc rfl, cond_no (by simp) ⟨i0, _, Sep.rld (o := 2) hB hw rfl hpc rfl, cond_no (by rw [ewh]; simp) ⟨i0, _, Sep.rld (o := 2) hB hw rfl hpc rfl, ipK, _, Sep.rld0 hl5 hwl rfl hpcl rfl, ⟨cond_no ?_ ⟨i0, _, Sep.rld (o := 2) hB hw rfl hpc rfl, ipK, Sep.rst0 hl5 hwl rfl hpcl (by decide) fun H18 h18 => ?_⟩, trivial⟩⟩⟩⟩⟩
        · rw [el, B_toNat (by omega), B_toNat (by omega)]
          simp; omega
        · refine ⟨l.length - (j + 1), by omega, j + 1, As, Rs.set p ⟨0, r.n, B nu, B nu, B nu⟩, ls.set p (B nu), S8, dr, sv, nu, pos, c + 1, by omega, rfl, rfl, rfl, rfl, ?_⟩
          have el2 : (ls.set p (B nu)).map (fun v => [W v]) = (ls.map fun v => [W v]).set p [W (B nu)] := by rw [List.map_set]
          refine ⟨st.la, by rw [List.length_set]; exact st.lr, by rw [List.length_set]; exact st.ll, by have := st.drj; omega, by have := st.nuj; omega, by have := st.cj; omega, st.fair, st.le, st.hold, st.nu1, st.ps, o8, rds_set st.rds ?_, ?_⟩
          · exact RdOk.count rfl ewh
          · rw [eR, el2]
            exact Sep.up4 (Sep.up4 (Sep.up2 (Sep.up1 h18)))
      · refine ⟨l.length - (j + 1), by omega, j + 1, As, Rs.set p (r.next (wds dr sv nu pos)), ls, S8, dr, sv, nu, pos, c + 1, by omega, rfl, rfl, rfl, rfl, ?_⟩
        have el2 : ls.set p lv = ls := set_same hplv
        refine ⟨st.la, by rw [List.length_set]; exact st.lr, st.ll, by have := st.drj; omega, by have := st.nuj; omega, by have := st.cj; omega, st.fair, st.le, st.hold, st.nu1, st.ps, o8, ?_, ?_⟩
        · have := rds_set (q := p) st.rds rok'
          rw [el2] at this
          exact this
        · rw [eR]
          exact Sep.up3 (Sep.up3 (Sep.up1 h8))
    · -- a writer
      have hkN : k < N := by have := of_decide_eq_false hr; omega
      have hkl : k < As.length := by rw [st.la]; exact hkN
      obtain ⟨a, hka⟩ : ∃ a, As[k]? = some a := ⟨As[k], List.getElem?_eq_getElem hkl⟩
      have hkc : k < (As.map Ag.wcells).length := by simpa using hkl
      have hrow : (As.map Ag.wcells)[k]? = some a.wcells := by rw [List.getElem?_map, hka]; rfl
      have hw := wag_len As
      have ma := List.mem_of_getElem? hka
      have hv := Sep.rvw hsep hrow
      have htk : As.flatMap (Ag.tak m) = (As.take k).flatMap (Ag.tak m) ++ (a.tak m ++ (As.drop (k + 1)).flatMap (Ag.tak m)) := flatMap_split hka
      rw [htk] at hv
      refine ⟨by unfold inB; omega, _, Sep.rld0 hv hw rfl hkc rfl, ?_⟩
      cases hta : a.t with
      | none =>
        have hh := st.fair.idle a ma hta
        refine cond_yes rfl ?_
        have ht0 : a.tak m = [] := by unfold Ag.tak; rw [hta]
        rw [ht0, List.nil_append] at hv
        refine take_s hv (i := 0) fun H13 b h13 => ⟨_, rfl, ?_⟩
        refine Sep.rst0 (Sep.up1 h13) hw rfl hkc (by decide) fun H15 h15 => ⟨_, Sep.rld0 h15 hw rfl hkc rfl, cond_no rfl ⟨_, Sep.rld (o := 2) h15 hw rfl hkc rfl, cond_yes (by rw [hh]; rfl) ⟨_, Sep.rld0 h15 hw rfl hkc rfl, ?_⟩⟩⟩
        -- all, tk, takers, mem
        refine draw_s (i := 0) (Sep.up2 (Sep.up3 h15)) st.one hcj (by show 0 < 6; decide) fun H19 S' o' h19 => ⟨_, rfl, ?_⟩
        -- tk, mem, all, takers
        refine Sep.rst (o := 2) (Sep.up2 h19) hw rfl hkc (by decide) fun H21 h21 => Sep.rst (o := 1) h21 hw rfl hkc (by decide) fun H22 h22 => ?_
        refine ⟨l.length - (j + 1), by omega, j + 1, As.set k ⟨some b, 0, a.held, true, dr⟩, Rs, ls, S', dr + 1, sv, nu, pos, c + 1, by omega, rfl, rfl, rfl, rfl, ?_⟩
        have f1 := st.fair.draw st.le hka hta b
        have f2 : Fair (As.set k ⟨some b, 0, a.held, true, dr⟩) (dr + 1) sv := by
          have := f1.stay (k := k) (a := ⟨some b, a.at', a.held, true, dr⟩) (a' := ⟨some b, 0, a.held, true, dr⟩) (by rw [List.getElem?_set_self hkl]) rfl rfl (fun h => by rw [hh] at h; cases h)
          rw [List.set_set] at this
          exact this
        refine ⟨by rw [List.length_set]; exact st.la, st.lr, st.ll, by have := st.drj; omega, by have := st.nuj; omega, by have := st.cj; omega, f2, by have := st.le; omega, st.hold.free hka hh hh, st.nu1, st.ps, ?_, st.rds, ?_⟩
        · have := o'
          rw [wds_draw] at this
          exact this
        · -- all, tk, mem, takers
          have e1 : (As.set k ⟨some b, 0, a.held, true, dr⟩).map Ag.wcells = (As.map Ag.wcells).set k [.pointer (some ⟨b, 0, none⟩), I 0, .bool false, .bool false, I 0] := by rw [List.map_set]; simp only [Ag.wcells, hh]; rfl
          have e2 : (As.set k ⟨some b, 0, a.held, true, dr⟩).flatMap (Ag.tak m) = (As.take k).flatMap (Ag.tak m) ++ ([tk m 0 (BitVec.ofNat 64 dr) F.lock_Taker_wait b] ++ (As.drop (k + 1)).flatMap (Ag.tak m)) := by
            rw [flatMap_set hkl]
            show _ ++ ([tk m 0 (BitVec.ofNat 64 dr) (if a.held then _ else _) b] ++ _) = _
            rw [hh]; rfl
          rw [e1, e2]
          -- all, tk, mem, takers
          exact Sep.up1 (Sep.splitM.2 (Sep.many1.2 (Sep.up2 (Sep.up3 h22))))
      | some b =>
        refine cond_no rfl ⟨_, Sep.rld (o := 2) hv hw rfl hkc rfl, ?_⟩
        cases hh : a.held with
        | false =>
          refine cond_yes rfl ⟨_, Sep.rld0 hv hw rfl hkc (by show some (Value.pointer (a.t.map _)) = _; rw [hta]), ?_⟩
          have ht0 : a.tak m = [tk m 0 (BitVec.ofNat 64 a.turn) F.lock_Taker_wait b] := by unfold Ag.tak; rw [hta]; simp only; rw [hh]; rfl
          rw [ht0] at hv
          have h5 := Sep.many1.1 (Sep.splitM.1 (Sep.up1 hv))
          -- tk, rest, all, mem
          have hne : a.t ≠ none := by rw [hta]; intro e; cases e
          have htn := (st.fair.turn a ma hne).2
          refine wait_s (i := 0) (Sep.up1 (Sep.up3 h5)) st.one hcj (by show 1 < 6; decide) (by show 6 ≤ 65536; decide) fun H26 S' o' h26 => ⟨_, rfl, ?_⟩
          -- tk, mem, rest, all
          have hdec : (BitVec.ofNat 64 sv = BitVec.ofNat 64 a.turn) ↔ a.turn = sv := by rw [ofNat_inj hsv.1 (by omega)]; exact eq_comm
          have hget : (wds dr sv nu pos).getD (0 + 1) 0 = BitVec.ofNat 64 sv := rfl
          rw [hget] at h26 ⊢
          refine Sep.rst (o := 2) (Sep.up3 h26) hw rfl hkc (by decide) fun H29 h29 => Sep.rst (o := 1) h29 hw rfl hkc (by decide) fun H30 h30 => ?_
          refine ⟨l.length - (j + 1), by omega, j + 1, As.set k ⟨some b, 0, decide (BitVec.ofNat 64 sv = BitVec.ofNat 64 a.turn), a.drawn, a.turn⟩, Rs, ls, S', dr, sv, nu, pos, c + 1, by omega, rfl, rfl, rfl, rfl, ?_⟩
          refine ⟨by rw [List.length_set]; exact st.la, st.lr, st.ll, by have := st.drj; omega, by have := st.nuj; omega, by have := st.cj; omega, ?_, st.le, ?_, st.nu1, st.ps, o', st.rds, ?_⟩
          · exact st.fair.stay hka hta.symm rfl fun hd => ⟨hne, hdec.1 (by simpa using hd)⟩
          · by_cases hd : BitVec.ofNat 64 sv = BitVec.ofNat 64 a.turn
            · obtain ⟨g1, g2⟩ := st.hold.got st.fair hka hne (hdec.1 hd) hh (a' := ⟨some b, 0, decide (BitVec.ofNat 64 sv = BitVec.ofNat 64 a.turn), a.drawn, a.turn⟩) rfl
              rw [g2]; exact g1
            · exact st.hold.free hka hh (decide_eq_false hd)
          · have e1 : (As.set k ⟨some b, 0, decide (BitVec.ofNat 64 sv = BitVec.ofNat 64 a.turn), a.drawn, a.turn⟩).map Ag.wcells = (As.map Ag.wcells).set k [.pointer (some ⟨b, 0, none⟩), I 0, .bool (decide (BitVec.ofNat 64 sv = BitVec.ofNat 64 a.turn)), .bool false, I 0] := by rw [List.map_set]; rfl
            have e2 : (As.set k ⟨some b, 0, decide (BitVec.ofNat 64 sv = BitVec.ofNat 64 a.turn), a.drawn, a.turn⟩).flatMap (Ag.tak m) = (As.take k).flatMap (Ag.tak m) ++ ([tk m 0 (BitVec.ofNat 64 a.turn) (if BitVec.ofNat 64 sv = BitVec.ofNat 64 a.turn then F.lock_Taker_got else F.lock_Taker_wait) b] ++ (As.drop (k + 1)).flatMap (Ag.tak m)) := by
              rw [flatMap_set hkl]
              simp only [Ag.tak, decide_eq_true_eq]
            have e3 : a.wcells = [.pointer (some ⟨b, 0, none⟩), I a.at', .bool a.held, .bool false, I 0] := by unfold Ag.wcells; rw [hta]; rfl
            rw [e1, e2]
            rw [e3] at h30
            -- all, tk, mem, rest
            have h6 := Sep.many1.2 (Sep.up2 (Sep.up3 h30))
            -- many tk, rest?, all, mem
            exact Sep.up1 (Sep.splitM.2 h6)
        | true =>
          refine cond_no rfl ⟨_, Sep.rld (o := 1) hv hw rfl hkc rfl, ?_⟩
          have hne : a.t ≠ none := by rw [hta]; intro e; cases e
          have ht0 : a.tak m = [tk m 0 (BitVec.ofNat 64 a.turn) F.lock_Taker_got b] := by unfold Ag.tak; rw [hta]; simp only; rw [hh]; rfl
          have e3 : a.wcells = [.pointer (some ⟨b, 0, none⟩), I a.at', .bool true, .bool false, I 0] := by unfold Ag.wcells; rw [hta, hh]; rfl
          rw [e3] at hv
          have hat := st.hold.at' a ma hh
          rw [hat] at hv ⊢
          -- one that goes on: pos' behind it
          have go : ∀ (H4 : Heap) (S' : Sm) (nu' pos' : Nat), pos' ≤ 5 → nu' ≤ nu + 1 → 1 ≤ nu' → ((pos = 0 ∧ nu' = nu + 1 ∧ pos' = 1) ∨ (1 ≤ pos ∧ pos ≤ 4 ∧ 1 ≤ nu ∧ nu' = nu ∧ pos' = pos + 1) ∨ (pos = 5 ∧ nu' = nu ∧ pos' = 0)) →
              One S' (wds dr sv nu' pos') (c + 1) →
              Sep H4 (bx wb (.cells true 5 ((As.map Ag.wcells).set k [.pointer (some ⟨b, 0, none⟩), I pos', .bool true, .bool false, I 0]).flatten) :: mem m S' :: many ((As.take k).flatMap (Ag.tak m) ++ (a.tak m ++ (As.drop (k + 1)).flatMap (Ag.tak m))) :: bx rb (.cells true 5 (Rs.map Rd.cells).flatten) :: bx lb (.cells true 1 (ls.map fun v => [W v]).flatten) :: M) →
              WS m wb rb lb N K M H4 (As.set k ⟨some b, pos', true, a.drawn, a.turn⟩) Rs ls S' dr sv nu' pos' (c + 1) (j + 1) := by
            intro H4 S' nu' pos' q1 q2 q3 q4 o' h4
            refine ⟨by rw [List.length_set]; exact st.la, st.lr, st.ll, by have := st.drj; omega, by have := st.nuj; omega, by have := st.cj; omega, ?_, st.le, Hold.step st.fair hka hh rfl rfl, fun _ => q3, q1, o', fun i r l hr hl => (st.rds i r l hr hl).write q4, ?_⟩
            · exact st.fair.stay hka hta.symm rfl fun _ => ⟨hne, st.fair.held a ma hh⟩
            · have e1 : (As.set k ⟨some b, pos', true, a.drawn, a.turn⟩).map Ag.wcells = (As.map Ag.wcells).set k [.pointer (some ⟨b, 0, none⟩), I pos', .bool true, .bool false, I 0] := by rw [List.map_set]; rfl
              have e2 : (As.set k ⟨some b, pos', true, a.drawn, a.turn⟩).flatMap (Ag.tak m) = (As.take k).flatMap (Ag.tak m) ++ (a.tak m ++ (As.drop (k + 1)).flatMap (Ag.tak m)) := by
                rw [flatMap_set hkl, ht0]; rfl
              rw [e1, e2]
              exact Sep.up1 (Sep.up2 h4)
          have hmem := Sep.up2 hv
          have hps := st.ps
          have hn1 := st.nu1
          have one := st.one
          obtain e | e | e | e : pos = 0 ∨ (1 ≤ pos ∧ pos ≤ 3) ∨ pos = 4 ∨ pos = 5 := by omega
          · subst e
            refine cond_yes rfl (begin_s (i := 2) hmem one hcj (by show 2 < 6; decide) fun H4 S' o' h4 => ⟨_, rfl, cond_no rfl ⟨_, Sep.rld (o := 1) (Sep.up1 h4) hw rfl hkc rfl, Sep.rst (o := 1) (Sep.up1 h4) hw rfl hkc (by decide) fun H6 h6 => ?_⟩⟩)
            rw [wrap_number hnu]
            refine ⟨l.length - (j + 1), by omega, j + 1, _, Rs, ls, S', dr, sv, nu + 1, 1, c + 1, by omega, rfl, rfl, rfl, ?_, go H6 S' (nu + 1) 1 (by omega) (by omega) (by omega) (by omega) (by rw [← wds_begin]; exact o') h6⟩
            rfl
          · have hn1 := hn1 e.1
            have ew : IntKind.i64.wrap (2 + (pos : Int)) = ((2 + pos : Nat) : Int) := by rw [wrap_i64 (by omega)]; omega
            have ep : IntKind.i64.wrap ((pos : Int) + 1) = ((pos + 1 : Nat) : Int) := by rw [wrap_i64 (by omega)]; omega
            have fin : ∀ (H4 : Heap) (S' : Sm), One S' ((wds dr sv nu pos).set (2 + pos) (B nu)) (c + 1) → Sep H4 (bx wb (.cells true 5 ((As.map Ag.wcells).set k [.pointer (some ⟨b, 0, none⟩), I ((pos + 1 : Nat) : Int), .bool true, .bool false, I 0]).flatten) :: mem m S' :: many ((As.take k).flatMap (Ag.tak m) ++ (a.tak m ++ (As.drop (k + 1)).flatMap (Ag.tak m))) :: bx rb (.cells true 5 (Rs.map Rd.cells).flatten) :: bx lb (.cells true 1 (ls.map fun v => [W v]).flatten) :: M) →
                ∃ k62, k62 < l.length - j ∧ ∃ (j' : Nat) (As : List Ag) (Rs : List Rd) (ls : List (BitVec 64)) (S : Sm) (dr sv nu' pos' : Nat) (c : Int), j' ≤ l.length ∧ k62 = l.length - j' ∧ ((j + 1 : Nat) : Int) = (j' : Int) ∧ ((B nu).toNat : Int) = ((B nu').toNat : Int) ∧ ((B (whN nu pos)).toNat : Int) = ((B (whN nu' pos')).toNat : Int) ∧ WS m wb rb lb N K M H4 As Rs ls S dr sv nu' pos' c j' := by
              intro H4 S' o' h4
              rw [wds_write e] at o'
              refine ⟨l.length - (j + 1), by omega, j + 1, _, Rs, ls, S', dr, sv, nu, pos + 1, c + 1, by omega, rfl, rfl, rfl, ?_, go H4 S' nu (pos + 1) (by omega) (by omega) hn1 (by omega) o' h4⟩
              have : whN nu (pos + 1) = whN nu pos := by
                unfold whN; rw [if_pos (by omega), if_pos (by omega)]
              rw [this]
            have hlt : 2 + pos < (wds dr sv nu pos).length := by show _ < 6; omega
            refine cond_no (by rw [beq_eq_false_iff_ne]; omega) (cond_of (fun _ => ?_) fun n1 => cond_of (fun _ => ?_) fun n2 => cond_yes ?_ ?_)
            · exact ⟨_, Sep.rld (o := 1) hv hw rfl hkc rfl, by rw [ew]; exact store1_s (i := 2 + pos) hmem one hcj hlt fun H4 S' o' h4 => ⟨_, rfl, _, Sep.rld (o := 1) (Sep.up1 h4) hw rfl hkc rfl, by rw [ep]; exact Sep.rst (o := 1) (Sep.up1 h4) hw rfl hkc (by decide) fun H6 h6 => fin H6 S' o' h6⟩⟩
            · exact ⟨_, Sep.rld (o := 1) hv hw rfl hkc rfl, by rw [ew]; exact store1_s (i := 2 + pos) hmem one hcj hlt fun H4 S' o' h4 => ⟨_, rfl, _, Sep.rld (o := 1) (Sep.up1 h4) hw rfl hkc rfl, by rw [ep]; exact Sep.rst (o := 1) (Sep.up1 h4) hw rfl hkc (by decide) fun H6 h6 => fin H6 S' o' h6⟩⟩
            · simp only [beq_eq_false_iff_ne, beq_iff_eq] at *; omega
            · exact ⟨_, Sep.rld (o := 1) hv hw rfl hkc rfl, by rw [ew]; exact store1_s (i := 2 + pos) hmem one hcj hlt fun H4 S' o' h4 => ⟨_, rfl, _, Sep.rld (o := 1) (Sep.up1 h4) hw rfl hkc rfl, by rw [ep]; exact Sep.rst (o := 1) (Sep.up1 h4) hw rfl hkc (by decide) fun H6 h6 => fin H6 S' o' h6⟩⟩
          · subst e
            have hn1 := hn1 (by omega)
            refine cond_no rfl (cond_no rfl (cond_no rfl (cond_no rfl (cond_yes rfl (end_s (i := 2) hmem one hcj (by show 2 < 6; decide) fun H4 S' o' h4 => ⟨_, rfl, cond_no rfl ⟨_, Sep.rld (o := 1) (Sep.up1 h4) hw rfl hkc rfl, Sep.rst (o := 1) (Sep.up1 h4) hw rfl hkc (by decide) fun H6 h6 => ?_⟩⟩)))))
            refine ⟨l.length - (j + 1), by omega, j + 1, _, Rs, ls, S', dr, sv, nu, 5, c + 1, by omega, rfl, rfl, rfl, ?_, go H6 S' nu 5 (by omega) (by omega) hn1 (by omega) (by rw [← wds_end hn1]; exact o') h6⟩
            rfl
          · subst e
            have hn1 := hn1 (by omega)
            refine cond_no rfl (cond_no rfl (cond_no rfl (cond_no rfl (cond_no rfl (drop_s (i := 0) hmem one hcj (by show 1 < 6; decide) (by show 6 ≤ 65536; decide) fun H4 S' o' h4 => ⟨_, rfl, ?_⟩)))))
            refine Sep.rst0 (Sep.up1 h4) hw rfl hkc (by decide) fun H48 h48 => Sep.rst (o := 2) h48 hw rfl hkc (by decide) fun H49 h49 => ⟨_, Sep.rld (o := 1) h49 hw rfl hkc rfl, Sep.rst (o := 1) h49 hw rfl hkc (by decide) fun H50 h50 => ?_⟩
            obtain ⟨f', le'⟩ := st.fair.drop hka hh 6 a.turn
            refine ⟨l.length - (j + 1), by omega, j + 1, As.set k ⟨none, 6, false, false, a.turn⟩, Rs, ls, S', dr, sv + 1, nu, 0, c + 1, by omega, rfl, rfl, rfl, rfl, ?_⟩
            refine ⟨by rw [List.length_set]; exact st.la, st.lr, st.ll, by have := st.drj; omega, by have := st.nuj; omega, by have := st.cj; omega, f', le', Hold.drop st.fair hka hh rfl, fun h => by omega, by omega, ?_, fun i r l hr hl => (st.rds i r l hr hl).write (by omega), ?_⟩
            · have := o'
              rw [wds_drop] at this
              exact this
            · have e1 : (As.set k ⟨none, 6, false, false, a.turn⟩).map Ag.wcells = (As.map Ag.wcells).set k [.pointer none, I 6, .bool false, .bool false, I 0] := by rw [List.map_set]; rfl
              have e2 : (As.set k ⟨none, 6, false, false, a.turn⟩).flatMap (Ag.tak m) = (As.take k).flatMap (Ag.tak m) ++ (As.drop (k + 1)).flatMap (Ag.tak m) := by
                rw [flatMap_set hkl]; rfl
              rw [e1, e2]
              -- all, mem, takers
              have h6 := (Sep.splitM.1 (Sep.up2 h50)).tail
              -- rest, all, mem
              exact Sep.up1 h6
  · refine asBool_in (bad_s (Sep.up2 st.sep) ⟨_, rfl, cond_yes (by rw [st.one.bads]; rfl) (CA_truth (by kernel_rfl) ⟨_, rfl, rfl⟩)⟩)

theorem LockWhole_law (H : Heap) (us : List Value) (h : shpVs en H 7 T.LockWhole us) : CA en F.crossbarlaw10_LockWhole us H fun v _ => v = .bool true := by
  obtain ⟨v, u, rfl, ⟨n, hn, wn⟩, v2, u2, rfl, ⟨n2, hn2, wn2⟩, v3, u3, rfl, hA, rfl⟩ := args_LockWhole h
  obtain rfl := (List.cons.inj hn).1
  obtain rfl := (List.cons.inj hn2).1
  clear h hn hn2
  obtain ⟨a, n3, l, M, rfl, ha, hs⟩ := ints_arg hA
  exact LockWhole_ok ha hs
end Go.Proofs.Ythnifkjpkepbaaa
