/-
  'crossbarlaw10.LockTurns' returns true: at most one agent holds the lock, and they get it in turn.
-/
import Derived.Test.YthnifkjpkepbaaaLock
import Derived.Test.YthnifkjpkepbaaaArgs
namespace Go.Proofs.Ythnifkjpkepbaaa
open Go Go.AS Go.RowKit
set_option linter.unusedVariables false
variable {H H' : Heap} {m : Nat} {S S' : Sm} {R : Value → Heap → Prop} {L : List Asr} {c : Int}

structure Ag where
  t : Option Nat
  at' : Int
  held : Bool
  drawn : Bool
  turn : Nat

def Ag.cells (a : Ag) : List Value := [.pointer (a.t.map fun b => ⟨b, 0, none⟩), I a.at', .bool a.held, .bool a.drawn, I a.turn]
def Ag.tak (m : Nat) (a : Ag) : List Asr := match a.t with
  | none => []
  | some b => [tk m 0 (BitVec.ofNat 64 a.turn) (if a.held then F.lock_Taker_got else F.lock_Taker_wait) b]

theorem ag_len (As : List Ag) : ∀ c ∈ As.map Ag.cells, c.length = 5 := by
  intro c hc
  obtain ⟨a, _, rfl⟩ := List.mem_map.1 hc
  rfl

/-- What holds of agents: who waits has a turn of its own, who holds it is the one that is served. -/
structure Fair (As : List Ag) (dr sv : Nat) : Prop where
  idle : ∀ a ∈ As, a.t = none → a.held = false
  turn : ∀ a ∈ As, a.t ≠ none → sv ≤ a.turn ∧ a.turn < dr
  held : ∀ a ∈ As, a.held = true → a.turn = sv
  dist : ∀ (i j : Nat) (a b : Ag), As[i]? = some a → As[j]? = some b → i ≠ j → a.t ≠ none → b.t ≠ none → a.turn ≠ b.turn

theorem mem_set {As : List Ag} {k : Nat} {a x : Ag} (h : x ∈ As.set k a) : x = a ∨ ∃ i, i ≠ k ∧ As[i]? = some x := by
  obtain ⟨i, hi⟩ := List.mem_iff_getElem?.1 h
  rw [List.getElem?_set] at hi
  split at hi
  · split at hi
    · left; simpa using hi.symm
    · cases hi
  · rename_i hne
    exact .inr ⟨i, fun e => hne e.symm, hi⟩

theorem get_set' {As : List Ag} {k i : Nat} {a x : Ag} (h : (As.set k a)[i]? = some x) : (i = k ∧ x = a) ∨ (i ≠ k ∧ As[i]? = some x) := by
  rw [List.getElem?_set] at h
  split at h
  · rename_i e
    split at h
    · left; exact ⟨e.symm, by simpa using h.symm⟩
    · cases h
  · rename_i hne
    exact .inr ⟨fun e => hne e.symm, h⟩

theorem Fair.one {As : List Ag} {dr sv : Nat} (f : Fair As dr sv) {i j : Nat} {a b : Ag} (hi : As[i]? = some a) (hj : As[j]? = some b) (ha : a.held = true) (hb : b.held = true) : i = j := by
  refine Classical.byContradiction fun hne => ?_
  have ma := List.mem_of_getElem? hi
  have mb := List.mem_of_getElem? hj
  have ta : a.t ≠ none := fun e => by have := f.idle a ma e; rw [this] at ha; cases ha
  have tb : b.t ≠ none := fun e => by have := f.idle b mb e; rw [this] at hb; cases hb
  exact f.dist i j a b hi hj hne ta tb (by rw [f.held a ma ha, f.held b mb hb])

theorem Fair.draw {As : List Ag} {dr sv k : Nat} {a : Ag} (f : Fair As dr sv) (hs : sv ≤ dr) (hk : As[k]? = some a) (ht : a.t = none) (b : Nat) : Fair (As.set k ⟨some b, a.at', a.held, true, dr⟩) (dr + 1) sv := by
  have hh := f.idle a (List.mem_of_getElem? hk) ht
  refine ⟨fun x hx => ?_, fun x hx hn => ?_, fun x hx hl => ?_, fun i j x y hi hj hne hx hy => ?_⟩
  · rcases mem_set hx with rfl | ⟨i, _, hi⟩
    · intro e; cases e
    · exact f.idle x (List.mem_of_getElem? hi)
  · rcases mem_set hx with rfl | ⟨i, _, hi⟩
    · exact ⟨hs, Nat.lt_succ_self _⟩
    · have := f.turn x (List.mem_of_getElem? hi) hn; omega
  · rcases mem_set hx with rfl | ⟨i, _, hi⟩
    · simp only at hl; rw [hh] at hl; cases hl
    · exact f.held x (List.mem_of_getElem? hi) hl
  · rcases get_set' hi with ⟨e1, e2⟩ | ⟨h1, hi'⟩ <;> rcases get_set' hj with ⟨e3, e4⟩ | ⟨h2, hj'⟩
    · exact (hne (e1.trans e3.symm)).elim
    · have := (f.turn y (List.mem_of_getElem? hj') hy).2
      rw [e2]; show dr ≠ y.turn; omega
    · have := (f.turn x (List.mem_of_getElem? hi') hx).2
      rw [e4]; show x.turn ≠ dr; omega
    · exact f.dist i j x y hi' hj' hne hx hy

/-- One whose turn and taker stay. -/
theorem Fair.stay {As : List Ag} {dr sv k : Nat} {a a' : Ag} (f : Fair As dr sv) (hk : As[k]? = some a) (h1 : a'.t = a.t) (h2 : a'.turn = a.turn) (h3 : a'.held = true → a.t ≠ none ∧ a.turn = sv) : Fair (As.set k a') dr sv := by
  have ma := List.mem_of_getElem? hk
  refine ⟨fun x hx => ?_, fun x hx hn => ?_, fun x hx hl => ?_, fun i j x y hi hj hne hx hy => ?_⟩
  · rcases mem_set hx with rfl | ⟨i, _, hi⟩
    · intro e
      cases hl : x.held
      · rfl
      · exact ((h3 hl).1 (by rw [← h1]; exact e)).elim
    · exact f.idle x (List.mem_of_getElem? hi)
  · rcases mem_set hx with rfl | ⟨i, _, hi⟩
    · rw [h2]; exact f.turn a ma (by rw [← h1]; exact hn)
    · exact f.turn x (List.mem_of_getElem? hi) hn
  · rcases mem_set hx with rfl | ⟨i, _, hi⟩
    · rw [h2]; exact (h3 hl).2
    · exact f.held x (List.mem_of_getElem? hi) hl
  · rcases get_set' hi with ⟨e1, e2⟩ | ⟨h4, hi'⟩ <;> rcases get_set' hj with ⟨e3, e4⟩ | ⟨h5, hj'⟩
    · exact (hne (e1.trans e3.symm)).elim
    · subst e1 e2
      rw [h2]; exact f.dist i j a y hk hj' hne (by rw [← h1]; exact hx) hy
    · subst e3 e4
      rw [h2]; exact f.dist i j x a hi' hk hne hx (by rw [← h1]; exact hy)
    · exact f.dist i j x y hi' hj' hne hx hy

theorem Fair.drop {As : List Ag} {dr sv k : Nat} {a : Ag} (f : Fair As dr sv) (hk : As[k]? = some a) (hh : a.held = true) (at' : Int) (tu : Nat) : Fair (As.set k ⟨none, at', false, false, tu⟩) dr (sv + 1) ∧ sv + 1 ≤ dr := by
  have ma := List.mem_of_getElem? hk
  have ta : a.t ≠ none := fun e => by have := f.idle a ma e; rw [this] at hh; cases hh
  have ts := f.held a ma hh
  refine ⟨⟨fun x hx => ?_, fun x hx hn => ?_, fun x hx hl => ?_, fun i j x y hi hj hne hx hy => ?_⟩, ?_⟩
  · rcases mem_set hx with rfl | ⟨i, _, hi⟩
    · intro _; rfl
    · exact f.idle x (List.mem_of_getElem? hi)
  · rcases mem_set hx with rfl | ⟨i, hik, hi⟩
    · exact (hn rfl).elim
    · have h1 := f.turn x (List.mem_of_getElem? hi) hn
      have h2 := f.dist i k x a hi hk hik hn ta
      omega
  · rcases mem_set hx with rfl | ⟨i, hik, hi⟩
    · cases hl
    · exact (hik (f.one hi hk hl hh)).elim
  · rcases get_set' hi with ⟨e1, e2⟩ | ⟨h4, hi'⟩ <;> rcases get_set' hj with ⟨e3, e4⟩ | ⟨h5, hj'⟩
    · exact (hx (by rw [e2])).elim
    · exact (hx (by rw [e2])).elim
    · exact (hy (by rw [e4])).elim
    · exact f.dist i j x y hi' hj' hne hx hy
  · have := (f.turn a ma ta).2; omega

/-- The whole state. -/
structure Stt (m all : Nat) (M : List Asr) (H : Heap) (As : List Ag) (S : Sm) (dr sv : Nat) (c : Int) : Prop where
  fair : Fair As dr sv
  le : sv ≤ dr
  one : One S [BitVec.ofNat 64 dr, BitVec.ofNat 64 sv] c
  sep : Sep H (bx all (.cells true 5 (As.map Ag.cells).flatten) :: many (As.flatMap (Ag.tak m)) :: mem m S :: M)

theorem ofNat_inj {a b : Nat} (ha : a < 10000) (hb : b < 10000) : (BitVec.ofNat 64 a = BitVec.ofNat 64 b) ↔ a = b := by
  constructor
  · intro h
    have := congrArg BitVec.toNat h
    simp only [BitVec.toNat_ofNat] at this
    omega
  · rintro rfl; rfl

theorem ofNat_succ (a : Nat) : BitVec.ofNat 64 a + 1 = BitVec.ofNat 64 (a + 1) := by
  rw [BitVec.ofNat_add]; rfl

variable {all k : Nat} {M : List Asr} {As : List Ag} {a : Ag} {dr sv : Nat}

theorem LockTurns_ok {x0 x1 : Int} {a : Option Addr} {n : Nat} {l : List Int} {M : List Asr} (ha : Arg a n (l.map fun v => [I v]) M) (h : Sep H M) : CA en F.crossbarlaw10_LockTurns [I x0, I x1, .slice a n 0] H fun r _ => r = .bool true := by
  have hn : n = l.length := by rw [ha.len, List.length_map]
  subst hn
  apply vc_crossbarlaw10_LockTurns
  refine made1_s h (by decide) fun H2 m S0 o0 h2 => ⟨_, rfl, ?_⟩
  refine cond_no rfl (cond_of (fun hl => cond_yes rfl (CA_truth (by kernel_rfl) ⟨_, rfl, rfl⟩)) fun hl => ?_)
  simp only [decide_eq_false_iff_not] at hl
  refine Pick_ok (by decide) (by decide) ⟨_, rfl, ?_⟩
  have hN : IntKind.i64.wrap (1 + x0 % 5) = 1 + x0 % 5 := wrap_i64 (by omega)
  rw [hN]
  have hNb : 1 ≤ (1 + x0 % 5).toNat ∧ (1 + x0 % 5).toNat ≤ 5 := by omega
  refine ⟨⟨by omega, Int.le_refl _, by omega⟩, Sep.nw h2 fun all H14 h14 => ?_⟩
  rw [reps_flat] at h14
  generalize hNN : (1 + x0 % 5).toNat = N at *
  refine Pick_ok (by decide) (by decide) ⟨_, rfl, ?_⟩
  generalize hwk : x1 % 4 = work at *
  have st0 : Stt m all M H14 (List.replicate N ⟨none, 0, false, false, 0⟩) S0 0 0 0 := by
    have hall : ∀ x ∈ List.replicate N (⟨none, 0, false, false, 0⟩ : Ag), x = ⟨none, 0, false, false, 0⟩ := fun x hx => (List.mem_replicate.1 hx).2
    refine ⟨⟨(fun x hx _ => by rw [hall x hx]), (fun x hx hn => (hn (by rw [hall x hx])).elim), (fun x hx hl => by rw [hall x hx] at hl; cases hl), (fun i j x y hi _ _ hx _ => (hx (by rw [hall x (List.mem_of_getElem? hi)])).elim)⟩, Nat.le_refl _, o0, ?_⟩
    have e1 : (List.replicate N (⟨none, 0, false, false, 0⟩ : Ag)).map Ag.cells = List.replicate N [.pointer none, I 0, .bool false, .bool false, I 0] := by rw [List.map_replicate]; rfl
    have e2 : (List.replicate N (⟨none, 0, false, false, 0⟩ : Ag)).flatMap (Ag.tak m) = [] := by
      rw [List.flatMap_eq_nil_iff]
      intro x hx
      rw [hall x hx]; rfl
    rw [e1, e2]
    exact Sep.up1 (Sep.many0 h14)
  refine use_crossbarlaw10_LockTurns_0 (fun k _ t9 t10 t H => ∃ (j : Nat) (As : List Ag) (S : Sm) (dr sv : Nat), j ≤ l.length ∧ k = l.length - j ∧ t = (j : Int) ∧ t9 = (dr : Int) ∧ t10 = (sv : Int) ∧ dr ≤ j ∧ As.length = N ∧ Stt m all M H As S dr sv j) l.length ⟨0, _, S0, 0, 0, by omega, rfl, rfl, rfl, rfl, Nat.le_refl _, by simp, st0⟩ ?_
  clear st0 h2 h14 o0 S0
  rintro k0 t6 t9 t10 t ys H ⟨j, As, S, dr, sv, hj, rfl, rfl, rfl, rfl, hdr, hlen, st⟩
  refine cond_of (fun h1 => ?_) fun h1 => ?_
  · simp only [decide_eq_true_eq] at h1
    have hj' : j < l.length := by omega
    have hsep := st.sep
    obtain ⟨q, rfl, _, hq⟩ := ha.row (w := 1) hsep (fun A hA => List.mem_cons_of_mem _ (List.mem_cons_of_mem _ (List.mem_cons_of_mem _ hA))) (by intro c hc; obtain ⟨v, _, rfl⟩ := List.mem_map.1 hc; rfl) (j := j) (by simpa using hj')
    refine ⟨by unfold inB; omega, asRow_in ⟨l[j], ?_, ?_⟩⟩
    · have := hq 0 (by decide)
      rw [Nat.add_zero] at this
      exact this.trans (by simp)
    refine Pick_ok (by omega) (by omega) ⟨_, rfl, ?_⟩
    have hkb : 0 ≤ l[j] % (N : Int) ∧ l[j] % (N : Int) < N := ⟨Int.emod_nonneg _ (by omega), Int.emod_lt_of_pos _ (by omega)⟩
    obtain ⟨k, hk⟩ := Int.eq_ofNat_of_zero_le hkb.1
    rw [hk]
    have hkN : k < N := by omega
    have hkl : k < As.length := by omega
    have hkc : k < (As.map Ag.cells).length := by simpa using hkl
    refine ⟨by unfold inB; omega, count_s (Sep.up2 hsep) ⟨_, rfl, ?_⟩⟩
    have ecnt : S.count = j := st.one.cnt
    rw [ecnt]
    obtain ⟨a, hka⟩ : ∃ a, As[k]? = some a := ⟨As[k], List.getElem?_eq_getElem hkl⟩
    have hrow : (As.map Ag.cells)[k]? = some a.cells := by rw [List.getElem?_map, hka]; rfl
    have hw := ag_len As
    have hsv : sv < 10000 ∧ dr < 10000 := by have := st.le; omega
    have hcj : (j : Int) < 4611686018427387904 := by omega
    have ma := List.mem_of_getElem? hka
    -- what holds behind the step
    refine ⟨fun vs H' => ∃ (b : Bool) (As' : List Ag) (S' : Sm) (dr' sv' : Nat), vs = [.bool b, I dr', I sv'] ∧ dr' ≤ j + 1 ∧ As'.length = N ∧ Stt m all M H' As' S' dr' sv' ((j : Int) + 1), ?_, ?_⟩
    · have hv := Sep.rvw hsep hrow
      have htk : As.flatMap (Ag.tak m) = (As.take k).flatMap (Ag.tak m) ++ (a.tak m ++ (As.drop (k + 1)).flatMap (Ag.tak m)) := flatMap_split hka
      rw [htk] at hv
      refine ⟨_, Sep.rld0 hv hw rfl hkc rfl, ?_⟩
      cases hta : a.t with
      | none =>
        have hh := st.fair.idle a ma hta
        refine cond_yes rfl ?_
        have ht0 : a.tak m = [] := by unfold Ag.tak; rw [hta]
        rw [ht0, List.nil_append] at hv
        refine take_s hv (i := 0) fun H13 b h13 => ⟨_, rfl, ?_⟩
        refine Sep.rst0 (Sep.up1 h13) hw rfl hkc (by decide) fun H15 h15 => ⟨_, Sep.rld0 h15 hw rfl hkc rfl, cond_no rfl ⟨_, Sep.rld0 h15 hw rfl hkc rfl, ?_⟩⟩
        -- all, tk, takers, mem
        refine draw_s (i := 0) (Sep.up2 (Sep.up3 h15)) st.one hcj (by show 0 < 2; decide) fun H19 S' o' h19 => ⟨_, rfl, cond_no rfl ?_⟩
        -- tk, mem, all, takers
        refine Sep.rst (o := 3) (Sep.up2 h19) hw rfl hkc (by decide) fun H21 h21 => Sep.rst (o := 4) h21 hw rfl hkc (by decide) fun H22 h22 => ?_
        refine ⟨t6, As.set k ⟨some b, a.at', a.held, true, dr⟩, S', dr + 1, sv, ?_, by omega, by simpa using hlen, ⟨st.fair.draw st.le hka hta b, by have := st.le; omega, ?_, ?_⟩⟩
        · have : IntKind.i64.wrap ((dr : Int) + 1) = ((dr + 1 : Nat) : Int) := by rw [wrap_i64 (by omega)]; omega
          rw [this]
        · have := o'
          simp only [List.getD_cons_zero, List.set_cons_zero, ofNat_succ] at this
          exact this
        · -- all, tk, mem, takers
          have e1 : (As.set k ⟨some b, a.at', a.held, true, dr⟩).map Ag.cells = (As.map Ag.cells).set k [.pointer (some ⟨b, 0, none⟩), I a.at', .bool a.held, .bool true, I dr] := by rw [List.map_set]; rfl
          have e2 : (As.set k ⟨some b, a.at', a.held, true, dr⟩).flatMap (Ag.tak m) = (As.take k).flatMap (Ag.tak m) ++ ([tk m 0 (BitVec.ofNat 64 dr) F.lock_Taker_wait b] ++ (As.drop (k + 1)).flatMap (Ag.tak m)) := by
            rw [flatMap_set hkl]
            show _ ++ ([tk m 0 (BitVec.ofNat 64 dr) (if a.held then _ else _) b] ++ _) = _
            rw [hh]; rfl
          rw [e1, e2]
          -- all, tk, mem, takers
          exact Sep.up1 (Sep.splitM.2 (Sep.many1.2 (Sep.up2 (Sep.up3 h22))))
      | some b =>
        refine cond_no rfl ⟨_, Sep.rld (o := 2) hv hw rfl hkc rfl, ?_⟩
        cases hh : a.held with
        | false =>
          refine cond_yes rfl ⟨_, Sep.rld0 hv hw rfl hkc (by show some (Value.pointer (a.t.map _)) = _; rw [hta]), ?_⟩
          have ht0 : a.tak m = [tk m 0 (BitVec.ofNat 64 a.turn) F.lock_Taker_wait b] := by unfold Ag.tak; rw [hta]; simp only; rw [hh]; rfl
          rw [ht0] at hv
          have h5 := Sep.many1.1 (Sep.splitM.1 (Sep.up1 hv))
          -- tk, rest, all, mem
          have htn := (st.fair.turn a ma (by rw [hta]; intro e; cases e)).2
          refine wait_s (i := 0) (Sep.up1 (Sep.up3 h5)) st.one hcj (by show 1 < 2; decide) (by show 2 ≤ 65536; decide) fun H26 S' o' h26 => ⟨_, rfl, ?_⟩
          -- tk, mem, rest, all
          have hdec : (BitVec.ofNat 64 sv = BitVec.ofNat 64 a.turn) ↔ a.turn = sv := by rw [ofNat_inj hsv.1 (by omega)]; exact eq_comm
          have hget : [BitVec.ofNat 64 dr, BitVec.ofNat 64 sv].getD (0 + 1) 0 = BitVec.ofNat 64 sv := rfl
          rw [hget] at h26 ⊢
          refine ⟨_, Sep.rld (o := 4) (Sep.up3 h26) hw rfl hkc rfl, cond_no ?_ ?_⟩
          · by_cases e : a.turn = sv
            · rw [decide_eq_true (hdec.2 e), e]; simp
            · rw [decide_eq_false fun h => e (hdec.1 h)]
              have : ((a.turn : Int) == (sv : Int)) = false := by rw [beq_eq_false_iff_ne]; omega
              rw [this]; rfl
          refine Sep.rst (o := 2) (Sep.up3 h26) hw rfl hkc (by decide) fun H29 h29 => Sep.rst (o := 1) h29 hw rfl hkc (by decide) fun H30 h30 => ?_
          refine ⟨t6, As.set k ⟨some b, 0, decide (BitVec.ofNat 64 sv = BitVec.ofNat 64 a.turn), a.drawn, a.turn⟩, S', dr, sv, rfl, by omega, by simpa using hlen, ⟨st.fair.stay hka hta.symm rfl ?_, st.le, o', ?_⟩⟩
          · intro hd
            exact ⟨(by rw [hta]; intro e; cases e), hdec.1 (by simpa using hd)⟩
          · have e1 : (As.set k ⟨some b, 0, decide (BitVec.ofNat 64 sv = BitVec.ofNat 64 a.turn), a.drawn, a.turn⟩).map Ag.cells = (As.map Ag.cells).set k [.pointer (some ⟨b, 0, none⟩), I 0, .bool (decide (BitVec.ofNat 64 sv = BitVec.ofNat 64 a.turn)), .bool a.drawn, I a.turn] := by rw [List.map_set]; rfl
            have e2 : (As.set k ⟨some b, 0, decide (BitVec.ofNat 64 sv = BitVec.ofNat 64 a.turn), a.drawn, a.turn⟩).flatMap (Ag.tak m) = (As.take k).flatMap (Ag.tak m) ++ ([tk m 0 (BitVec.ofNat 64 a.turn) (if BitVec.ofNat 64 sv = BitVec.ofNat 64 a.turn then F.lock_Taker_got else F.lock_Taker_wait) b] ++ (As.drop (k + 1)).flatMap (Ag.tak m)) := by
              rw [flatMap_set hkl]
              simp only [Ag.tak, decide_eq_true_eq]
            have e3 : a.cells = [.pointer (some ⟨b, 0, none⟩), I a.at', .bool a.held, .bool a.drawn, I a.turn] := by unfold Ag.cells; rw [hta]; rfl
            rw [e1, e2]
            rw [e3] at h30
            -- all, tk, mem, rest
            have h6 := Sep.many1.2 (Sep.up2 (Sep.up3 h30))
            -- many tk, rest?, all, mem
            exact Sep.up1 (Sep.splitM.2 h6)
        | true =>
          refine cond_no rfl ⟨_, Sep.rld (o := 1) hv hw rfl hkc rfl, ?_⟩
          have ht0 : a.tak m = [tk m 0 (BitVec.ofNat 64 a.turn) F.lock_Taker_got b] := by unfold Ag.tak; rw [hta]; simp only; rw [hh]; rfl
          rw [ht0] at hv
          have e3 : a.cells = [.pointer (some ⟨b, 0, none⟩), I a.at', .bool true, .bool a.drawn, I a.turn] := by unfold Ag.cells; rw [hta, hh]; rfl
          rw [e3] at hv
          refine cond_of (fun hw1 => ?_) fun hw1 => ?_
          · refine ⟨_, Sep.rld0 hv hw rfl hkc rfl, ?_⟩
            have h5 := Sep.many1.1 (Sep.splitM.1 (Sep.up1 hv))
            refine got_s h5 ⟨_, rfl, cond_no rfl (count_s (Sep.up2 hv) ⟨_, rfl, cond_no (by rw [ecnt]; simp) ?_⟩)⟩
            refine load1_s (i := 0) (Sep.up2 hv) st.one hcj (by show 0 < 2; decide) fun H40 S' o' h40 => ⟨_, _, rfl, ?_⟩
            refine ⟨_, Sep.rld (o := 1) (Sep.up1 h40) hw rfl hkc rfl, Sep.rst (o := 1) (Sep.up1 h40) hw rfl hkc (by decide) fun H44 h44 => ?_⟩
            refine ⟨t6, As.set k ⟨some b, IntKind.i64.wrap (a.at' + 1), true, a.drawn, a.turn⟩, S', dr, sv, rfl, by omega, by simpa using hlen, ⟨st.fair.stay hka hta.symm rfl (fun _ => ⟨(by rw [hta]; intro e; cases e), st.fair.held a ma hh⟩), st.le, o', ?_⟩⟩
            have e1 : (As.set k ⟨some b, IntKind.i64.wrap (a.at' + 1), true, a.drawn, a.turn⟩).map Ag.cells = (As.map Ag.cells).set k [.pointer (some ⟨b, 0, none⟩), I (IntKind.i64.wrap (a.at' + 1)), .bool true, .bool a.drawn, I a.turn] := by rw [List.map_set]; rfl
            have e2 : (As.set k ⟨some b, IntKind.i64.wrap (a.at' + 1), true, a.drawn, a.turn⟩).flatMap (Ag.tak m) = (As.take k).flatMap (Ag.tak m) ++ ([tk m 0 (BitVec.ofNat 64 a.turn) F.lock_Taker_got b] ++ (As.drop (k + 1)).flatMap (Ag.tak m)) := by
              rw [flatMap_set hkl]; rfl
            rw [e1, e2]
            -- all, mem, takers
            exact Sep.up1 (Sep.up2 h44)
          · refine drop_s (i := 0) (Sep.up2 hv) st.one hcj (by show 1 < 2; decide) (by show 2 ≤ 65536; decide) fun H46 S' o' h46 => ⟨_, rfl, cond_no rfl ?_⟩
            -- mem, all, takers
            refine Sep.rst0 (Sep.up1 h46) hw rfl hkc (by decide) fun H48 h48 => Sep.rst (o := 2) h48 hw rfl hkc (by decide) fun H49 h49 => Sep.rst (o := 3) h49 hw rfl hkc (by decide) fun H50 h50 => ?_
            obtain ⟨f', le'⟩ := st.fair.drop hka hh a.at' a.turn
            refine ⟨t6, As.set k ⟨none, a.at', false, false, a.turn⟩, S', dr, sv + 1, ?_, by omega, by simpa using hlen, ⟨f', le', ?_, ?_⟩⟩
            · have : IntKind.i64.wrap ((sv : Int) + 1) = ((sv + 1 : Nat) : Int) := by rw [wrap_i64 (by omega)]; omega
              rw [this]
            · have := o'
              simp only [Nat.zero_add, List.getD_cons_succ, List.getD_cons_zero, List.set_cons_succ, List.set_cons_zero, ofNat_succ] at this
              exact this
            · have e1 : (As.set k ⟨none, a.at', false, false, a.turn⟩).map Ag.cells = (As.map Ag.cells).set k [.pointer none, I a.at', .bool false, .bool false, I a.turn] := by rw [List.map_set]; rfl
              have e2 : (As.set k ⟨none, a.at', false, false, a.turn⟩).flatMap (Ag.tak m) = (As.take k).flatMap (Ag.tak m) ++ (As.drop (k + 1)).flatMap (Ag.tak m) := by
                rw [flatMap_set hkl]; rfl
              rw [e1, e2]
              -- all, mem, takers
              have h6 := (Sep.splitM.1 (Sep.up2 h50)).tail
              -- rest, all, mem
              exact Sep.up1 h6
    · rintro ys2 H52 b53 n54 n55 ⟨b, As', S', dr', sv', e, hdr', hlen', st'⟩
      simp only [List.cons.injEq, Value.bool.injEq, Value.int.injEq, true_and, and_true] at e
      obtain ⟨rfl, rfl, rfl⟩ := e
      refine use_crossbarlaw10_LockTurns_1 (fun k' t15 t16 H' => ∃ p : Nat, p ≤ N ∧ k' = N - p ∧ t16 = (p : Int) ∧ (t15 = 0 ∨ t15 = 1) ∧ (t15 = 1 → ∃ i, i < p ∧ ∃ x, As'[i]? = some x ∧ x.held = true) ∧ H' = H52) N ⟨0, by omega, rfl, rfl, Or.inl rfl, (fun h => by cases h), rfl⟩ ?_
      rintro k' t15 t16 ys3 H' ⟨p, hp, rfl, rfl, h15, hheld, rfl⟩
      refine cond_of (fun h3 => ?_) fun h3 => ?_
      · simp only [decide_eq_true_eq] at h3
        have hpl : p < As'.length := by omega
        obtain ⟨x, hx⟩ : ∃ x, As'[p]? = some x := ⟨As'[p], List.getElem?_eq_getElem hpl⟩
        have hxr : (As'.map Ag.cells)[p]? = some x.cells := by rw [List.getElem?_map, hx]; rfl
        refine ⟨by unfold inB; omega, _, Sep.rld (o := 2) (Sep.rvw st'.sep hxr) (ag_len As') rfl (by simpa using hpl) rfl, ?_⟩
        have w1 : IntKind.i64.wrap ((p : Int) + 1) = ((p + 1 : Nat) : Int) := by rw [wrap_i64 (by omega)]; omega
        refine cond_of (fun h5 => ⟨N - (p + 1), by omega, p + 1, by omega, rfl, w1, ?_, fun _ => ⟨p, by omega, x, hx, h5⟩, rfl⟩) fun h5 => ⟨N - (p + 1), by omega, p + 1, by omega, rfl, w1, h15, fun h => by obtain ⟨i, hi, y, hy⟩ := hheld h; exact ⟨i, by omega, y, hy⟩, rfl⟩
        rcases h15 with h15 | h15
        · right; rw [h15]; rfl
        · obtain ⟨i, hi, y, hy, hyh⟩ := hheld h15
          have := st'.fair.one hy hx hyh h5
          omega
      · refine asInt_in (count_s (Sep.up2 st'.sep) ⟨_, rfl, cond_no ?_ (cond_no ?_ (bad_s (Sep.up2 st'.sep) ⟨_, rfl, cond_no ?_ ⟨l.length - (j + 1), by omega, j + 1, As', S', dr', sv', by omega, rfl, ?_, rfl, rfl, hdr', hlen', st'⟩⟩))⟩)
        · rw [bne_eq_false_iff_eq, st'.one.cnt, wrap_i64 (by omega)]
        · rw [decide_eq_false_iff_not]; omega
        · rw [bne_eq_false_iff_eq, st'.one.bads]
        · rw [wrap_i64 (by omega)]; omega
  · refine asBool_in (CA_truth (by kernel_rfl) ⟨_, rfl, rfl⟩)

theorem ints_of : ∀ (css : List (List Value)), (∀ c ∈ css, ∃ n : Int, c = [I n]) → ∃ l : List Int, css = l.map fun v => [I v]
  | [], _ => ⟨[], rfl⟩
  | c :: css, h => by
    obtain ⟨n, rfl⟩ := h c (by simp)
    obtain ⟨l, rfl⟩ := ints_of css fun c hc => h c (List.mem_cons_of_mem _ hc)
    exact ⟨n :: l, rfl⟩

theorem ints_arg {H : Heap} {v : Value} (hA : [v] = [.slice none 0 0] ∨ ∃ (i : Nat) (cs : List (List Value)), [v] = [.slice (some ⟨i, 0, none⟩) cs.length 0] ∧ i < H.next ∧ H.get i = some (AS.Obj.cells false 0 cs.flatten) ∧ ∀ c ∈ cs, (∃ n : Int, c = [.int .i64 n] ∧ (Lit.int .i64 n).wf = true)) :
    ∃ (a : Option Addr) (n : Nat) (l : List Int) (M : List Asr), v = .slice a n 0 ∧ Arg a n (l.map fun v => [I v]) M ∧ Sep H M := by
  obtain ⟨a, n2, css, M, rfl, ha, hs, hc⟩ := Arg.of (P := fun c => ∃ n : Int, c = [I n]) (H := H) (v := v) (by
    rcases hA with hA | ⟨i, cs, hA, hi, hg, hc⟩
    · exact .inl (List.cons.inj hA).1
    · exact .inr ⟨i, cs, (List.cons.inj hA).1, hi, hg, fun c hm => by obtain ⟨n, e, _⟩ := hc c hm; exact ⟨n, e⟩⟩)
  obtain ⟨l, rfl⟩ := ints_of css hc
  exact ⟨_, _, l, M, rfl, ha, hs⟩

theorem LockTurns_law (H : Heap) (us : List Value) (h : shpVs en H 7 T.LockTurns us) : CA en F.crossbarlaw10_LockTurns us H fun v _ => v = .bool true := by
  obtain ⟨v, u, rfl, ⟨n, hn, wn⟩, v2, u2, rfl, ⟨n2, hn2, wn2⟩, v3, u3, rfl, hA, rfl⟩ := args_LockTurns h
  obtain rfl := (List.cons.inj hn).1
  obtain rfl := (List.cons.inj hn2).1
  clear h hn hn2
  obtain ⟨a, n3, l, M, rfl, ha, hs⟩ := ints_arg hA
  exact LockTurns_ok ha hs
end Go.Proofs.Ythnifkjpkepbaaa
