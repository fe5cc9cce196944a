/-
  'crossbarlaw10.LockBound' returns true: none waits for longer than all others once.
-/
import Derived.Test.YthnifkjpkepbaaaLock
import Derived.Test.YthnifkjpkepbaaaArgs
import Derived.Test.YthnifkjpkepbaaaVcB
import Derived.Test.YthnifkjpkepbaaaBoundRun
namespace Go.Proofs.Ythnifkjpkepbaaa
open Go Go.AS Go.RowKit LB
set_option linter.unusedVariables false
variable {H H' : Heap} {m : Nat} {S S' : Sm} {R : Value → Heap → Prop} {L : List Asr} {c : Int}

theorem all_ok {n work turn : Nat} (hn : 1 ≤ n ∧ n ≤ 6) (hw : work < 6) (ht : turn < n) : simOut n work turn 200 0 (init n) = true := by
  have h : allOf n = true := by
    have : n = 1 ∨ n = 2 ∨ n = 3 ∨ n = 4 ∨ n = 5 ∨ n = 6 := by omega
    rcases this with rfl | rfl | rfl | rfl | rfl | rfl
    · exact all1
    · exact all2
    · exact all3
    · exact all4
    · exact all5
    · exact all6
  have h1 := List.all_eq_true.1 h work (List.mem_range.2 hw)
  exact List.all_eq_true.1 h1 turn (List.mem_range.2 ht)

/-- An agent and its taker. -/
abbrev Wg := PA × Option Nat
def Wg.tV (a : Wg) : Value := .pointer (a.2.map fun b => ⟨b, 0, none⟩)
def Wg.hV (a : Wg) : Value := I (if a.1.ph = 1 then -1 else a.1.held)
def Wg.wV (a : Wg) : Value := I a.1.waits
def Wg.gV (a : Wg) : Value := I a.1.got
def Wg.tak (m : Nat) (a : Wg) : List Asr := match a.2 with
  | none => []
  | some b => [tk m 0 (BitVec.ofNat 64 a.1.turn) (if a.1.ph = 1 then F.lock_Taker_wait else F.lock_Taker_got) b]

def bd (T : Nat) (s : PS) : Prop := s.dr ≤ T ∧ s.sv ≤ T ∧ ∀ x ∈ s.as, x.turn ≤ T ∧ x.waits ≤ T ∧ x.got ≤ T ∧ x.held ≤ T

theorem bd_step {T : Nat} {s : PS} {most work a : Nat} {x y : PA} {dr sv : Nat} (h : bd T s) (hx : x ∈ s.as) (e : stepW most work s.dr s.sv x = some (dr, sv, y)) : bd (T + 1) ⟨dr, sv, s.as.set a y⟩ := by
  obtain ⟨h1, h2, h3⟩ := h
  have hx3 := h3 x hx
  have key : dr ≤ T + 1 ∧ sv ≤ T + 1 ∧ y.turn ≤ T + 1 ∧ y.waits ≤ T + 1 ∧ y.got ≤ T + 1 ∧ y.held ≤ T + 1 := by
    unfold stepW at e
    split at e
    · simp only [Option.some.injEq, Prod.mk.injEq] at e
      obtain ⟨rfl, rfl, rfl⟩ := e
      simp only; omega
    · cases hb : Nat.ble (x.waits + 1) most with
      | false => rw [hb] at e; cases e
      | true =>
        rw [hb] at e
        cases hs : Nat.beq s.sv x.turn with
        | false =>
          rw [hs] at e
          simp only [cond_true, cond_false, Option.some.injEq, Prod.mk.injEq] at e
          obtain ⟨rfl, rfl, rfl⟩ := e
          simp only; omega
        | true =>
          rw [hs] at e
          simp only [cond_true, Option.some.injEq, Prod.mk.injEq] at e
          obtain ⟨rfl, rfl, rfl⟩ := e
          simp only; omega
    · cases hb : Nat.ble (x.held + 1) work with
      | false =>
        rw [hb] at e
        simp only [cond_false, Option.some.injEq, Prod.mk.injEq] at e
        obtain ⟨rfl, rfl, rfl⟩ := e
        simp only; omega
      | true =>
        rw [hb] at e
        simp only [cond_true, Option.some.injEq, Prod.mk.injEq] at e
        obtain ⟨rfl, rfl, rfl⟩ := e
        simp only; omega
  refine ⟨key.1, key.2.1, fun z hz => ?_⟩
  rcases List.mem_or_eq_of_mem_set hz with h4 | h4
  · have := h3 z h4; omega
  · rw [h4]; exact key.2.2

/-- What holds between steps. -/
structure Bt (H : Heap) (tb hb wb gb m : Nat) (As : List Wg) (S : Sm) (s : PS) (T : Nat) : Prop where
  one : One S [BitVec.ofNat 64 s.dr, BitVec.ofNat 64 s.sv] S.count
  cnt : S.count ≤ T
  pas : As.map (·.1) = s.as
  ok : ∀ a ∈ As, a.2 = none ↔ a.1.ph = 0
  bds : bd T s
  sep : Sep H [bx tb (.cells true 1 (As.map Wg.tV)), bx hb (.cells true 1 (As.map Wg.hV)), bx wb (.cells true 1 (As.map Wg.wV)), bx gb (.cells true 1 (As.map Wg.gV)), mem m S, many (As.flatMap (Wg.tak m))]

theorem Bt.next {tb hb wb gb T a most work dr sv : Nat} {As : List Wg} {s : PS} {x : Wg} {y : PA} {t : Option Nat} {cT cH cW cG : List Value} (st : Bt H tb hb wb gb m As S s T) (hx : As[a]? = some x) (e : stepW most work s.dr s.sv x.1 = some (dr, sv, y))
    (one : One S' [BitVec.ofNat 64 dr, BitVec.ofNat 64 sv] S'.count) (cnt : S'.count ≤ T + 1) (ok : t = none ↔ y.ph = 0)
    (eT : cT = (As.map Wg.tV).set a (Wg.tV (y, t))) (eH : cH = (As.map Wg.hV).set a (Wg.hV (y, t))) (eW : cW = (As.map Wg.wV).set a (Wg.wV (y, t))) (eG : cG = (As.map Wg.gV).set a (Wg.gV (y, t)))
    (sep : Sep H' [bx tb (.cells true 1 cT), bx hb (.cells true 1 cH), bx wb (.cells true 1 cW), bx gb (.cells true 1 cG), mem m S', many ((As.take a).flatMap (Wg.tak m) ++ (Wg.tak m (y, t) ++ (As.drop (a + 1)).flatMap (Wg.tak m)))]) :
    Bt H' tb hb wb gb m (As.set a (y, t)) S' ⟨dr, sv, s.as.set a y⟩ (T + 1) := by
  have hl : a < As.length := (List.getElem?_eq_some_iff.1 hx).1
  subst eT eH eW eG
  refine ⟨one, by omega, by rw [List.map_set, st.pas], fun z hz => ?_, bd_step st.bds ?_ e, ?_⟩
  · rcases List.mem_or_eq_of_mem_set hz with h4 | h4
    · exact st.ok z h4
    · rw [h4]; exact ok
  · rw [← st.pas]; exact List.mem_map_of_mem (List.mem_of_getElem? hx)
  · rw [List.map_set, List.map_set, List.map_set, List.map_set, flatMap_set hl]
    exact sep

theorem ofNat_inj {a b : Nat} (ha : a < 10000) (hb : b < 10000) : (BitVec.ofNat 64 a = BitVec.ofNat 64 b) ↔ a = b := by
  constructor
  · intro h
    have := congrArg BitVec.toNat h
    simp only [BitVec.toNat_ofNat] at this
    omega
  · rintro rfl; rfl

theorem ofNat_succ (a : Nat) : BitVec.ofNat 64 a + 1 = BitVec.ofNat 64 (a + 1) := by
  rw [BitVec.ofNat_add]; rfl

theorem at1 {cs : List Value} {a : Nat} {v : Value} (h : cs[a]? = some v) : cs[0 + a * 1]? = some v := by rw [Nat.zero_add, Nat.mul_one]; exact h
theorem setAt1 (cs : List Value) (a : Nat) (v : Value) : setAt cs (0 + a * 1) [v] = cs.set a v := by
  rw [Nat.zero_add, Nat.mul_one]; rfl
theorem len1 {cs : List Value} {a : Nat} {v : Value} (h : a < cs.length) : 0 + a * 1 + [v].length ≤ cs.length := by
  simp only [List.length_cons, List.length_nil]; omega
theorem stepW_cases {most work d v dr sv : Nat} {x y : PA} (e : stepW most work d v x = some (dr, sv, y)) :
    (x.ph = 0 ∧ dr = d + 1 ∧ sv = v ∧ y = ⟨1, d, 1, x.got, 0⟩) ∨
    (x.ph = 1 ∧ x.waits + 1 ≤ most ∧ dr = d ∧ sv = v ∧ y = if v = x.turn then ⟨2, x.turn, x.waits + 1, x.got + 1, 0⟩ else ⟨1, x.turn, x.waits + 1, x.got, 0⟩) ∨
    (2 ≤ x.ph ∧ dr = d ∧ (if x.held < work then sv = v ∧ y = ⟨2, x.turn, x.waits, x.got, x.held + 1⟩ else sv = v + 1 ∧ y = ⟨0, x.turn, x.waits, x.got, x.held⟩)) := by
  unfold stepW at e
  split at e
  · rename_i hp
    simp only [Option.some.injEq, Prod.mk.injEq] at e
    exact .inl ⟨hp, e.1.symm, e.2.1.symm, e.2.2.symm⟩
  · rename_i hp
    refine .inr (.inl ?_)
    cases hb : Nat.ble (x.waits + 1) most with
    | false => rw [hb] at e; cases e
    | true =>
      rw [hb] at e
      have hb' := Nat.le_of_ble_eq_true hb
      cases hs : Nat.beq v x.turn with
      | false =>
        rw [hs] at e
        simp only [cond_true, cond_false, Option.some.injEq, Prod.mk.injEq] at e
        have hne : ¬ v = x.turn := fun h => by rw [h, Nat.beq_refl] at hs; cases hs
        rw [if_neg hne]
        exact ⟨hp, hb', e.1.symm, e.2.1.symm, e.2.2.symm⟩
      | true =>
        rw [hs] at e
        simp only [cond_true, Option.some.injEq, Prod.mk.injEq] at e
        rw [if_pos (Nat.eq_of_beq_eq_true hs)]
        exact ⟨hp, hb', e.1.symm, e.2.1.symm, e.2.2.symm⟩
  · rename_i hp
    refine .inr (.inr ⟨by omega, ?_⟩)
    cases hb : Nat.ble (x.held + 1) work with
    | false =>
      rw [hb] at e
      simp only [cond_false, Option.some.injEq, Prod.mk.injEq] at e
      have hne : ¬ x.held < work := fun h => by rw [Nat.ble_eq_true_of_le h] at hb; cases hb
      rw [if_neg hne]
      exact ⟨e.1.symm, e.2.1.symm, e.2.2.symm⟩
    | true =>
      rw [hb] at e
      simp only [cond_true, Option.some.injEq, Prod.mk.injEq] at e
      rw [if_pos (show x.held < work from Nat.le_of_ble_eq_true hb)]
      exact ⟨e.1.symm, e.2.1.symm, e.2.2.symm⟩

theorem One.self {ws : List (BitVec 64)} (o : One S ws c) : One S ws S.count := by
  have h := o.cnt
  rw [h]; exact o

theorem map_same {As : List Wg} {a : Nat} {x : Wg} {f : Wg → Value} (hx : As[a]? = some x) {v : Value} (e : f x = v) : As.map f = (As.map f).set a v := by
  refine (set_same ?_).symm
  rw [List.getElem?_map, hx, ← e]; rfl

set_option maxRecDepth 100000 in
set_option maxHeartbeats 4000000 in
theorem LockBound_ok {x0 x1 x2 : Int} (h : Sep H []) : CA en F.crossbarlaw10_LockBound [I x0, I x1, I x2] H fun r _ => r = .bool true := by
  apply vc_crossbarlaw10_LockBound
  refine made1_s h (by decide) fun H2 m S0 o0 h2 => ⟨_, rfl, cond_no rfl ?_⟩
  refine Pick_ok (by decide) (by decide) ⟨_, rfl, Pick_ok (by decide) (by decide) ⟨_, rfl, ?_⟩⟩
  rw [wrap_i64 (n := 1 + x0 % 6) (by omega)]
  have hn0 : 1 ≤ 1 + x0 % 6 ∧ 1 + x0 % 6 ≤ 6 := by omega
  obtain ⟨n, hn⟩ : ∃ n : Nat, 1 + x0 % 6 = (n : Int) := ⟨(1 + x0 % 6).toNat, by omega⟩
  have hw0 : 0 ≤ x1 % 6 ∧ x1 % 6 < 6 := by omega
  obtain ⟨work, hwk⟩ : ∃ n : Nat, x1 % 6 = (n : Int) := ⟨(x1 % 6).toNat, by omega⟩
  have hn1 : 1 ≤ n ∧ n ≤ 6 := by omega
  have hw1 : work < 6 := by omega
  rw [hn, hwk]
  clear hn0 hw0 hn hwk
  refine Pick_ok (by omega) (by omega) ⟨_, rfl, ?_⟩
  have ht0 : 0 ≤ x2 % (n : Int) ∧ x2 % (n : Int) < n := ⟨Int.emod_nonneg _ (by omega), Int.emod_lt_of_pos _ (by omega)⟩
  obtain ⟨turn, htn⟩ : ∃ t : Nat, x2 % (n : Int) = (t : Int) := ⟨(x2 % (n : Int)).toNat, by omega⟩
  have ht1 : turn < n := by omega
  rw [htn]
  clear ht0 htn
  have okl : okLen 8 (n : Int) (n : Int) := ⟨by omega, by omega, by omega⟩
  refine ⟨okl, Sep.nw h2 fun tb H14 h14 => ⟨okl, Sep.nw h14 fun hb H16 h16 => ⟨okl, Sep.nw h16 fun wb H18 h18 => ⟨okl, Sep.nw h18 fun gb H20 h20 => ?_⟩⟩⟩⟩
  have hgood := all_ok (n := n) (work := work) (turn := turn) (by omega) (by omega) (by omega)
  have st0 : Bt H20 tb hb wb gb m (List.replicate n (⟨0, 0, 0, 0, 0⟩, none)) S0 (init n) 0 := by
    have hall : ∀ x ∈ List.replicate n ((⟨0, 0, 0, 0, 0⟩, none) : Wg), x = (⟨0, 0, 0, 0, 0⟩, none) := fun x hx => (List.mem_replicate.1 hx).2
    have oc := o0.cnt
    refine ⟨by rw [oc]; exact o0, by rw [oc]; decide, by rw [List.map_replicate]; rfl, fun a ha => by rw [hall a ha]; simp, ⟨Nat.le_refl _, Nat.le_refl _, fun x hx => ?_⟩, ?_⟩
    · have : x = ⟨0, 0, 0, 0, 0⟩ := (List.mem_replicate.1 hx).2
      rw [this]; simp
    · have e2 : (List.replicate n ((⟨0, 0, 0, 0, 0⟩, none) : Wg)).flatMap (Wg.tak m) = [] := by
        rw [List.flatMap_eq_nil_iff]
        intro x hx
        rw [hall x hx]; rfl
      rw [e2, List.map_replicate, List.map_replicate, List.map_replicate, List.map_replicate]
      have hr : ∀ v, reps (n : Int).toNat [v] = List.replicate n v := fun v => by rw [reps_flat]; simp
      simp only [hr] at h20
      -- got, waits, held, takers, mem
      exact Sep.up5 (Sep.up4 (Sep.up3 (Sep.up2 (Sep.up5 (Sep.many0 h20)))))
  clear h2 h14 h16 h18 h20 o0
  obtain ⟨X, hX⟩ : ∃ X : Nat, X = 200 := ⟨200, rfl⟩
  rw [← hX] at hgood
  refine use_crossbarlaw10_LockBound_0 (fun k' _ t13 H => ∃ (r : Nat) (s : PS) (As : List Wg) (S : Sm), r ≤ X ∧ k' = X - r ∧ t13 = (r : Int) ∧ As.length = n ∧ simOut n work turn (X - r) r s = true ∧ Bt H tb hb wb gb m As S s (r * n)) X ⟨0, init n, List.replicate n (⟨0, 0, 0, 0, 0⟩, none), S0, by omega, rfl, rfl, List.length_replicate, hgood, (by rw [Nat.zero_mul]; exact st0)⟩ ?_
  clear st0 hgood
  intro k' t6 t13 ys H hI
  obtain ⟨r, s, As, S, hr, ek, et, hl, hsim, st⟩ := hI
  subst ek et
  have hr12 : (r : Int) < 200 ∨ ¬ (r : Int) < 200 := by omega
  rcases hr12 with hr2 | hr2
  · rw [decide_eq_true hr2]
    simp only [cond_true]
    have h1 := hr2
    obtain ⟨q, hq⟩ : ∃ q, X - r = q + 1 := ⟨X - r - 1, by omega⟩
    rw [hq] at hsim
    have hrn : r * n + n ≤ 1206 := by
      have : r * n ≤ 200 * 6 := Nat.mul_le_mul (by omega) (by omega)
      omega
    refine use_crossbarlaw10_LockBound_1 (fun k' _ t14 H' => ∃ (k : Nat) (s : PS) (As : List Wg) (S : Sm), k ≤ n ∧ k' = n - k ∧ t14 = (k : Int) ∧ As.length = n ∧ simIn n work turn r (simOut n work turn q (r + 1)) (n - k) k s = true ∧ Bt H' tb hb wb gb m As S s (r * n + k)) n ⟨0, s, As, S, by omega, rfl, rfl, hl, hsim, st⟩ ?_
    clear hsim st hl
    intro k' t6 t14 ys H hI
    obtain ⟨k, s, As, S, hk, ek, et, hl, hsim, st⟩ := hI
    subst ek et
    refine cond_of (fun h2 => ?_) fun h2 => ?_
    · simp only [decide_eq_true_eq] at h2
      have hrt : r * turn ≤ 200 * 6 := Nat.mul_le_mul (by omega) (by omega)
      have eA : Int.tmod (IntKind.i64.wrap ((k : Int) + IntKind.i64.wrap ((r : Int) * (turn : Int)))) (n : Int) = (((k + r * turn) % n : Nat) : Int) := by
        rw [← Int.natCast_mul, wrap_i64 (n := ((r * turn : Nat) : Int)) (by omega), wrap_i64 (by omega), Int.tmod_eq_emod_of_nonneg (by omega), Int.natCast_emod, Int.natCast_add]
      rw [eA]
      have ha : (k + r * turn) % n < n := Nat.mod_lt _ (by omega)
      have hl1 : n - k = (n - (k + 1)) + 1 := by omega
      rw [hl1] at hsim
      have hs : (match LB.step n work ((k + r * turn) % n) s with | none => false | some s' => simIn n work turn r (simOut n work turn q (r + 1)) (n - (k + 1)) (k + 1) s') = true := hsim
      clear hsim eA
      generalize (k + r * turn) % n = a at *
      obtain ⟨x, hx⟩ : ∃ x, As[a]? = some x := ⟨As[a], List.getElem?_eq_getElem (by omega)⟩
      have hm := List.mem_of_getElem? hx
      have hxs : s.as[a]? = some x.1 := by rw [← st.pas, List.getElem?_map, hx]; rfl
      unfold LB.step at hs
      rw [hxs] at hs
      cases e : stepW (n * (work + 4) + 4) work s.dr s.sv x.1 with
      | none => simp only [e] at hs; cases hs
      | some p =>
      obtain ⟨dr, sv, y⟩ := p
      simp only [e] at hs
      obtain ⟨kk, hkk⟩ : ∃ kk, kk = k := ⟨k, rfl⟩
      rw [← hkk]
      have fin : ∀ {H' : Heap} {As' : List Wg} {S' : Sm}, As'.length = n → Bt H' tb hb wb gb m As' S' ⟨dr, sv, s.as.set a y⟩ (r * n + k + 1) → ∃ k35, k35 < n - kk ∧ ∃ (k : Nat) (s : PS) (As : List Wg) (S : Sm), k ≤ n ∧ k35 = n - k ∧ IntKind.i64.wrap ((kk : Int) + 1) = (k : Int) ∧ As.length = n ∧ simIn n work turn r (simOut n work turn q (r + 1)) (n - k) k s = true ∧ Bt H' tb hb wb gb m As S s (r * n + k) :=
        fun hl' st' => ⟨n - (k + 1), by omega, k + 1, _, _, _, by omega, rfl, by rw [wrap_i64 (by omega)]; omega, hl', hs, st'⟩
      have hv := st.sep
      rw [flatMap_split hx] at hv
      have hin : inB (a : Int) n := by unfold inB; omega
      have lT : a < (As.map Wg.tV).length := by rw [List.length_map]; omega
      have lH : a < (As.map Wg.hV).length := by rw [List.length_map]; omega
      have lW : a < (As.map Wg.wV).length := by rw [List.length_map]; omega
      have lG : a < (As.map Wg.gV).length := by rw [List.length_map]; omega
      have cT : (As.map Wg.tV)[a]? = some (Wg.tV x) := by rw [List.getElem?_map, hx]; rfl
      have cH : (As.map Wg.hV)[a]? = some (Wg.hV x) := by rw [List.getElem?_map, hx]; rfl
      have cW : (As.map Wg.wV)[a]? = some (Wg.wV x) := by rw [List.getElem?_map, hx]; rfl
      have cG : (As.map Wg.gV)[a]? = some (Wg.gV x) := by rw [List.getElem?_map, hx]; rfl
      obtain ⟨bd1, bd2, bd3⟩ := st.bds
      have bx3 := bd3 x.1 (by rw [← st.pas]; exact List.mem_map_of_mem hm)
      have hok := st.ok x hm
      have scnt := st.cnt
      have c0 := st.one.c0
      have hcc : S.count < 4611686018427387904 := by omega
      have hnw : n * (work + 4) ≤ 6 * 9 := Nat.mul_le_mul (by omega) (by omega)
      have em : IntKind.i64.wrap (IntKind.i64.wrap ((n : Int) * IntKind.i64.wrap ((work : Int) + 4)) + 4) = ((n * (work + 4) + 4 : Nat) : Int) := by
        rw [wrap_i64 (n := (work : Int) + 4) (by omega), show (n : Int) * ((work : Int) + 4) = ((n * (work + 4) : Nat) : Int) by rw [Int.natCast_mul, Int.natCast_add]; rfl, wrap_i64 (n := ((n * (work + 4) : Nat) : Int)) (by omega), wrap_i64 (by omega)]
        omega
      rw [em]
      have hcs := stepW_cases e
      have hN : ∀ {y : PA} {t : Option Nat}, (As.set a (y, t)).length = n := by intros; rw [List.length_set]; exact hl
      refine ⟨by unfold nz; omega, fun vs H' => (x.1.ph ≠ 0 ∧ Sep H' [bx tb (.cells true 1 (As.map Wg.tV)), bx hb (.cells true 1 (As.map Wg.hV)), bx wb (.cells true 1 (As.map Wg.wV)), bx gb (.cells true 1 (As.map Wg.gV)), mem m S, many ((As.take a).flatMap (Wg.tak m) ++ (Wg.tak m x ++ (As.drop (a + 1)).flatMap (Wg.tak m)))]) ∨
        (x.1.ph = 0 ∧ ∃ b, Sep H' [tk m 0 0 F.lock_Taker_draw b, mem m S, bx tb (.cells true 1 ((As.map Wg.tV).set a (P b))), bx hb (.cells true 1 ((As.map Wg.hV).set a (I (-1)))), bx wb (.cells true 1 ((As.map Wg.wV).set a (I 0))), bx gb (.cells true 1 (As.map Wg.gV)), many ((As.take a).flatMap (Wg.tak m) ++ (As.drop (a + 1)).flatMap (Wg.tak m))]), ⟨hin, ?_⟩, ?_⟩
      · cases ht : x.2 with
        | none =>
          have hph : x.1.ph = 0 := hok.1 ht
          have ht0 : Wg.tak m x = [] := by unfold Wg.tak; rw [ht]
          rw [ht0, List.nil_append] at hv
          have cT' : (As.map Wg.tV)[a]? = some (.pointer none) := by rw [cT]; unfold Wg.tV; rw [ht]; rfl
          refine ⟨_, Sep.ld0 hv (at1 cT'), cond_yes rfl ?_⟩
          refine take_s hv (i := 0) fun H4 b h4 => ⟨_, rfl, hin, Sep.st1 h4 (len1 lT) fun H6 h6 => ?_⟩
          rw [setAt1] at h6
          refine ⟨hin, _, Sep.ld1 h6 (at1 (List.getElem?_set_self lT)), cond_no rfl ⟨hin, Sep.st3 h6 (len1 lW) fun H8 h8 => ⟨hin, Sep.st2 h8 (len1 lH) fun H9 h9 => .inr ⟨hph, b, ?_⟩⟩⟩⟩
          rw [setAt1, setAt1] at h9
          -- tk, T, H, W, G, mem, many
          exact Sep.up1 (Sep.up5 h9)
        | some b =>
          have cT' : (As.map Wg.tV)[a]? = some (P b) := by rw [cT]; unfold Wg.tV; rw [ht]; rfl
          exact ⟨_, Sep.ld0 hv (at1 cT'), cond_no rfl (.inl ⟨fun h0 => (by rw [hok.2 h0] at ht; cases ht), hv⟩)⟩
      rintro ys10 H11 b12 hJ
      rcases hJ with ⟨hph, h11⟩ | ⟨hph, b, h11⟩
      · obtain ⟨b, ht⟩ : ∃ b, x.2 = some b := by
          cases ht : x.2 with
          | none => exact absurd (hok.1 ht) hph
          | some b => exact ⟨b, rfl⟩
        have cT' : (As.map Wg.tV)[a]? = some (P b) := by rw [cT]; unfold Wg.tV; rw [ht]; rfl
        rcases hcs with ⟨hp, _⟩ | ⟨hp, hle, rfl, rfl, hy⟩ | ⟨hp, rfl, hy⟩
        · exact absurd hp hph
        · -- it waits
          have cH' : (As.map Wg.hV)[a]? = some (I (-1)) := by rw [cH]; unfold Wg.hV; rw [if_pos hp]
          refine ⟨hin, _, Sep.ld1 h11 (at1 cH'), cond_yes rfl ⟨hin, _, Sep.ld2 h11 (at1 cW), hin, Sep.st2 h11 (len1 lW) fun H15 h15 => ?_⟩⟩
          rw [setAt1, wrap_i64 (by omega)] at h15
          have ht0 : Wg.tak m x = [tk m 0 (BitVec.ofNat 64 x.1.turn) F.lock_Taker_wait b] := by unfold Wg.tak; rw [ht]; simp only; rw [if_pos hp]
          rw [ht0] at h15
          -- T, H, W, G, mem, many
          have h5 := Sep.many1.1 (Sep.splitM.1 (Sep.up5 h15))
          -- tk, AB, T, H, W, G, mem
          refine ⟨fun vs H' => ∃ S', One S' [BitVec.ofNat 64 s.dr, BitVec.ofNat 64 s.sv] S'.count ∧ S'.count = S.count + 1 ∧ Sep H' [tk m 0 (BitVec.ofNat 64 x.1.turn) (if s.sv = x.1.turn then F.lock_Taker_got else F.lock_Taker_wait) b, mem m S', many ((As.take a).flatMap (Wg.tak m) ++ (As.drop (a + 1)).flatMap (Wg.tak m)), bx tb (.cells true 1 (As.map Wg.tV)), bx hb (.cells true 1 ((As.map Wg.hV).set a (Wg.hV (y, some b)))), bx wb (.cells true 1 ((As.map Wg.wV).set a (I ((x.1.waits : Int) + 1)))), bx gb (.cells true 1 ((As.map Wg.gV).set a (Wg.gV (y, some b))))], ⟨hin, _, Sep.ld2 h5 (at1 cT'), ?_⟩, ?_⟩
          · refine wait_s (i := 0) (Sep.up1 (Sep.up6 h5)) st.one hcc (by show 1 < 2; decide) (by show 2 ≤ 65536; decide) fun H19 S' o' h19 => ⟨_, rfl, ?_⟩
            have hget : [BitVec.ofNat 64 s.dr, BitVec.ofNat 64 s.sv].getD (0 + 1) 0 = BitVec.ofNat 64 s.sv := rfl
            rw [hget] at h19 ⊢
            have hiff := ofNat_inj (a := s.sv) (b := x.1.turn) (by omega) (by omega)
            have hc1 := o'.cnt
            by_cases hsv : s.sv = x.1.turn
            · rw [if_pos hsv] at hy ⊢
              rw [if_pos (hiff.2 hsv)] at h19
              rw [decide_eq_true (hiff.2 hsv)]
              refine cond_yes rfl ⟨hin, Sep.st4 h19 (len1 lH) fun H21 h21 => ⟨hin, _, Sep.ld6 h21 (at1 cG), hin, Sep.st6 h21 (len1 lG) fun H23 h23 => ⟨S', o'.self, hc1, ?_⟩⟩⟩
              rw [setAt1, setAt1, wrap_i64 (by omega)] at h23
              rw [hy]
              exact h23
            · rw [if_neg hsv] at hy ⊢
              rw [if_neg fun hh => hsv (hiff.1 hh)] at h19
              rw [decide_eq_false fun hh => hsv (hiff.1 hh)]
              refine cond_no rfl ⟨S', o'.self, hc1, ?_⟩
              have eH : (As.map Wg.hV).set a (Wg.hV (y, some b)) = As.map Wg.hV := (map_same hx (by rw [hy]; unfold Wg.hV; rw [if_pos hp, if_pos rfl])).symm
              have eG : (As.map Wg.gV).set a (Wg.gV (y, some b)) = As.map Wg.gV := (map_same hx (by rw [hy]; rfl)).symm
              rw [eH, eG]
              exact h19
          rintro ys24 H25 ⟨S', o', hc1, h25⟩
          refine ⟨hin, _, Sep.ld5 h25 (at1 (List.getElem?_set_self lW)), cond_no (by rw [decide_eq_false_iff_not]; omega) (fin hN (st.next (t := some b) (cW := (As.map Wg.wV).set a (I ((x.1.waits : Int) + 1))) hx e o' (by omega) (by rw [hy]; split <;> simp) (map_same hx (by unfold Wg.tV; rw [ht])) rfl (by rw [hy]; split <;> rfl) rfl ?_))⟩
          have hyt : Wg.tak m (y, some b) = [tk m 0 (BitVec.ofNat 64 x.1.turn) (if s.sv = x.1.turn then F.lock_Taker_got else F.lock_Taker_wait) b] := by
            rw [hy]
            unfold Wg.tak
            by_cases hsv : s.sv = x.1.turn
            · rw [if_pos hsv, if_pos hsv]; rfl
            · rw [if_neg hsv, if_neg hsv]; rfl
          rw [hyt]
          have h6 := Sep.splitM.2 (Sep.many1.2 (Sep.up1 (Sep.up2 h25)))
          -- many, mem, T, H, W, G
          exact Sep.up5 (Sep.up5 (Sep.up5 (Sep.up5 (Sep.up1 h6))))
        · -- it holds
          have hp1 : ¬ x.1.ph = 1 := by omega
          have cH' : (As.map Wg.hV)[a]? = some (I x.1.held) := by rw [cH]; unfold Wg.hV; rw [if_neg hp1]
          have ht0 : Wg.tak m x = [tk m 0 (BitVec.ofNat 64 x.1.turn) F.lock_Taker_got b] := by unfold Wg.tak; rw [ht]; simp only; rw [if_neg hp1]
          rw [ht0] at h11
          refine ⟨hin, _, Sep.ld1 h11 (at1 cH'), cond_no (by rw [decide_eq_false_iff_not]; omega) ⟨hin, _, Sep.ld1 h11 (at1 cH'), cond_of (fun h7 => ?_) fun h7 => ?_⟩⟩
          · simp only [decide_eq_true_eq] at h7
            rw [if_pos (by omega)] at hy
            obtain ⟨rfl, hy⟩ := hy
            refine load1_s (i := 0) (Sep.up4 h11) st.one hcc (by show 0 < 2; decide) fun H30 S' o' h30 => ⟨_, _, rfl, hin, _, Sep.ld2 h30 (at1 cH'), hin, Sep.st2 h30 (len1 lH) fun H34 h34 => ?_⟩
            rw [setAt1, wrap_i64 (by omega)] at h34
            have hc1 := o'.cnt
            refine fin hN (st.next (t := some b) (cH := (As.map Wg.hV).set a (I ((x.1.held : Int) + 1))) hx e o'.self (by omega) (by rw [hy]; simp) (map_same hx (by unfold Wg.tV; rw [ht])) (by rw [hy]; rfl) (map_same hx (by rw [hy]; rfl)) (map_same hx (by rw [hy]; rfl)) ?_)
            have hyt : Wg.tak m (y, some b) = [tk m 0 (BitVec.ofNat 64 x.1.turn) F.lock_Taker_got b] := by rw [hy]; rfl
            rw [hyt]
            -- mem, T, H, W, G, many
            exact Sep.up4 (Sep.up4 (Sep.up4 (Sep.up4 h34)))
          · simp only [decide_eq_false_iff_not] at h7
            rw [if_neg (by omega)] at hy
            obtain ⟨rfl, hy⟩ := hy
            refine drop_s (i := 0) (Sep.up4 h11) st.one hcc (by show 1 < 2; decide) (by show 2 ≤ 65536; decide) fun H37 S' o' h37 => ⟨_, rfl, cond_no rfl ⟨hin, Sep.st1 h37 (len1 lT) fun H39 h39 => ?_⟩⟩
            rw [setAt1] at h39
            have hc1 := o'.cnt
            have o2 : One S' [BitVec.ofNat 64 s.dr, BitVec.ofNat 64 (s.sv + 1)] S'.count := by
              have := o'.self
              simp only [Nat.zero_add, List.getD_cons_succ, List.getD_cons_zero, List.set_cons_succ, List.set_cons_zero, ofNat_succ] at this
              exact this
            refine fin hN (st.next (t := none) hx e o2 (by omega) (by rw [hy]; simp) rfl (map_same hx (by rw [hy]; unfold Wg.hV; rw [if_neg hp1]; rfl)) (map_same hx (by rw [hy]; rfl)) (map_same hx (by rw [hy]; rfl)) ?_)
            show Sep H39 [_, _, _, _, _, many (_ ++ ([] ++ _))]
            rw [List.nil_append]
            -- mem, T, H, W, G, many
            have h6 := (Sep.splitM.1 (Sep.up5 h39)).tail
            -- AB, mem, T, H, W, G
            exact Sep.up5 (Sep.up5 (Sep.up5 (Sep.up5 (Sep.up1 h6))))
      · -- it begins
        rcases hcs with ⟨_, rfl, rfl, hy⟩ | ⟨hp, _⟩ | ⟨hp, _⟩
        · refine ⟨hin, _, Sep.ld3 h11 (at1 (List.getElem?_set_self lH)), cond_yes rfl ⟨hin, _, Sep.ld4 h11 (at1 (List.getElem?_set_self lW)), hin, Sep.st4 h11 (len1 (by rw [List.length_set]; exact lW)) fun H15 h15 => ?_⟩⟩
          rw [setAt1, wrap_i64 (by omega)] at h15
          rw [Int.toNat_natCast, List.set_set] at h15
          refine ⟨fun vs H' => ∃ S', One S' [BitVec.ofNat 64 (s.dr + 1), BitVec.ofNat 64 s.sv] S'.count ∧ S'.count = S.count + 1 ∧ Sep H' [tk m 0 (BitVec.ofNat 64 s.dr) F.lock_Taker_wait b, mem m S', bx tb (.cells true 1 ((As.map Wg.tV).set a (P b))), bx hb (.cells true 1 ((As.map Wg.hV).set a (I (-1)))), bx wb (.cells true 1 ((As.map Wg.wV).set a (I 1))), bx gb (.cells true 1 (As.map Wg.gV)), many ((As.take a).flatMap (Wg.tak m) ++ (As.drop (a + 1)).flatMap (Wg.tak m))], ⟨hin, _, Sep.ld2 h15 (at1 (List.getElem?_set_self lT)), ?_⟩, ?_⟩
          · refine draw_s (i := 0) h15 st.one hcc (by show 0 < 2; decide) fun H19 S' o' h19 => ⟨_, rfl, cond_no rfl ⟨S', ?_, o'.cnt, h19⟩⟩
            have := o'.self
            simp only [List.getD_cons_zero, List.set_cons_zero, ofNat_succ] at this
            exact this
          rintro ys24 H25 ⟨S', o', hc1, h25⟩
          refine ⟨hin, _, Sep.ld4 h25 (at1 (List.getElem?_set_self lW)), cond_no (by rw [decide_eq_false_iff_not]; omega) (fin hN (st.next (t := some b) (cH := (As.map Wg.hV).set a (I (-1))) (cW := (As.map Wg.wV).set a (I 1)) hx e o' (by omega) (by rw [hy]; simp) rfl (by rw [hy]; rfl) (by rw [hy]; rfl) (map_same hx (by rw [hy]; rfl)) ?_))⟩
          have hyt : Wg.tak m (y, some b) = [tk m 0 (BitVec.ofNat 64 s.dr) F.lock_Taker_wait b] := by rw [hy]; rfl
          rw [hyt]
          -- tk, mem, T, H, W, G, AB
          have h6 := Sep.splitM.2 (Sep.many1.2 (Sep.up1 (Sep.up6 h25)))
          -- many, mem, T, H, W, G
          exact Sep.up5 (Sep.up5 (Sep.up5 (Sep.up5 (Sep.up1 h6))))
        · omega
        · omega
    · simp only [decide_eq_false_iff_not] at h2
      obtain rfl : k = n := by omega
      rw [Nat.sub_self] at hsim
      have hsim' : simOut k work turn q (r + 1) s = true := hsim
      refine asBool_in ⟨X - (r + 1), by omega, r + 1, s, As, S, by omega, rfl, by rw [wrap_i64 (by omega)]; omega, hl, ?_, ?_⟩
      · rw [show X - (r + 1) = q by omega]; exact hsim'
      · rw [Nat.add_mul, Nat.one_mul]; exact st
  · rw [decide_eq_false hr2]
    simp only [cond_false]
    obtain rfl : r = X := by omega
    rw [Nat.sub_self] at hsim
    have hfin : final s = true := hsim
    have hrn : r * n ≤ 200 * 6 := Nat.mul_le_mul (by omega) (by omega)
    obtain ⟨x, hx⟩ : ∃ x, As[0]? = some x := ⟨As[0], List.getElem?_eq_getElem (by omega)⟩
    have hfair : ∀ y ∈ As, fair x.1.got y.1.got = true := by
      intro y hy
      unfold final at hfin
      rw [← st.pas] at hfin
      cases As with
      | nil => cases hx
      | cons z As =>
        simp only [List.getElem?_cons_zero, Option.some.injEq] at hx
        subst hx
        exact List.all_eq_true.1 hfin y.1 (List.mem_map_of_mem (f := (·.1)) hy)
    have bd3 := st.bds.2.2
    have bgot : ∀ y ∈ As, y.1.got ≤ 1200 := fun y hy => by
      have := (bd3 y.1 (by rw [← st.pas]; exact List.mem_map_of_mem hy)).2.2.1
      omega
    have sep := st.sep
    refine asBool_in (use_crossbarlaw10_LockBound_2 (fun k' _ t16 H' => ∃ p : Nat, p ≤ n ∧ k' = n - p ∧ t16 = (p : Int) ∧ Sep H' [bx tb (.cells true 1 (As.map Wg.tV)), bx hb (.cells true 1 (As.map Wg.hV)), bx wb (.cells true 1 (As.map Wg.wV)), bx gb (.cells true 1 (As.map Wg.gV)), mem m S, many (As.flatMap (Wg.tak m))]) n ⟨0, by omega, rfl, rfl, sep⟩ ?_)
    intro k' t6 t16 ys2 H2 hI
    obtain ⟨p, hp, ek, et, hsep⟩ := hI
    subst ek et
    refine cond_of (fun h2 => ?_) fun h2 => ?_
    · simp only [decide_eq_true_eq] at h2
      have hB := hsep.bump 27
      have hpl : p < n := by omega
      obtain ⟨y, hy⟩ : ∃ y, As[p]? = some y := ⟨As[p], List.getElem?_eq_getElem (by omega)⟩
      have cG : (As.map Wg.gV)[p]? = some (Wg.gV y) := by rw [List.getElem?_map, hy]; rfl
      have c0 : (As.map Wg.gV)[0]? = some (Wg.gV x) := by rw [List.getElem?_map, hx]; rfl
      have hf := hfair y (List.mem_of_getElem? hy)
      have b1 := bgot y (List.mem_of_getElem? hy)
      have b0 := bgot x (List.mem_of_getElem? hx)
      unfold fair at hf
      simp only [Bool.and_eq_true, Bool.not_eq_true', Nat.ble_eq] at hf
      obtain ⟨⟨f1, f2⟩, f3⟩ := hf
      have f1' : y.1.got ≠ 0 := fun hh => by rw [hh] at f1; cases f1
      have in0 : inB 0 n := by unfold inB; omega
      have inp : inB (p : Int) n := by unfold inB; omega
      refine ⟨inp, _, Sep.ld3 hB (at1 cG), cond_no (by rw [beq_eq_false_iff_ne]; omega) ⟨inp, _, Sep.ld3 hB (at1 cG), in0, _, Sep.ld3 hB c0, cond_no (by rw [wrap_i64 (by omega), decide_eq_false_iff_not]; omega) ⟨in0, _, Sep.ld3 hB c0, inp, _, Sep.ld3 hB (at1 cG), cond_no (by rw [wrap_i64 (by omega), decide_eq_false_iff_not]; omega) ⟨n - (p + 1), by omega, p + 1, by omega, rfl, by rw [wrap_i64 (by omega)]; omega, hB⟩, trivial⟩⟩⟩
    · refine asBool_in (bad_s (Sep.up4 hsep) ⟨_, rfl, cond_yes (by rw [st.one.bads]; rfl) (CA_truth (by kernel_rfl) ⟨_, rfl, rfl⟩)⟩)

theorem LockBound_law (H : Heap) (us : List Value) (h : shpVs en H 7 T.LockBound us) : CA en F.crossbarlaw10_LockBound us H fun v _ => v = .bool true := by
  obtain ⟨v, u, rfl, ⟨n, hn, wn⟩, v2, u2, rfl, ⟨n2, hn2, wn2⟩, v3, u3, rfl, ⟨n3, hn3, wn3⟩, rfl⟩ := args_LockBound h
  obtain rfl := (List.cons.inj hn).1
  obtain rfl := (List.cons.inj hn2).1
  obtain rfl := (List.cons.inj hn3).1
  exact LockBound_ok ⟨by simp, by simp [feet], by simp [feet]⟩
end Go.Proofs.Ythnifkjpkepbaaa
