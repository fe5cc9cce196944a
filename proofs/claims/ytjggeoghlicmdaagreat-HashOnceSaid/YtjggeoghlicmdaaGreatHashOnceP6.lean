/-
  hashOnce.proved: part 6 of its proof. No condition.
  Written by a program out of the texts HashWM.
-/
import Derived.Test.YtjggeoghlicmdaaGreatHashOnceP5
namespace Go.Proofs.YtjggeoghlicmdaaGreat
open Go Go.AS Go.RowKit
set_option linter.unusedVariables false
variable {c : Lc} {A A' : Ab} {G G' : Gr} {cap : Int} {q q' : Qr} {i j : Nat} {pre rest : List El} {e : El} {P : List Int} {n k : Nat} {rs : List Qr} {M M' : List (List El)}
def Nx.holds : Nx → Bool
  | .none => false
  | .enter _ _ => false
  | .begin => false
  | .stillNo => false
  | _ => true
def Nx.lv : Nx → Bool
  | .leave => true
  | _ => false
def Nx.waits : Nx → Bool
  | .enter t _ => decide (t.ph = 1)
  | _ => false
def Nx.hi : Nx → Nat
  | .change (.take _) => 1
  | .after (.take _) => 1
  | .off _ => 1
  | _ => 0
def Nx.offp : Nx → Nat
  | .off _ => 1
  | _ => 0
def Nx.pend : Nx → Bool
  | .link => true
  | .off _ => true
  | .unl1 _ => true
  | .unl2 _ _ => true
  | _ => false
def Nx.priv (m : Int) : Nx → List Int
  | .words _ _ _ _ _ => [m]
  | .change .add => [m]
  | .after .add => [m]
  | .link => [m]
  | .space => if m = 0 then [] else [m]
  | _ => []
def Nx.chd (m : Int) : Nx → Bool
  | .after _ => true
  | .space => decide (m ≠ 0)
  | _ => false
def Qr.holds (q : Qr) : Bool := q.nx.holds && !(q.dn && q.nx.lv)
def Qr.inq (q : Qr) : Bool := q.holds || q.nx.waits
def Qr.priv (q : Qr) : List Int := q.nx.priv q.made
def Qr.chd (q : Qr) : Bool := q.nx.chd q.made
theorem pend_holds {n : Nx} (h : n.pend = true) : n.holds = true ∧ n.lv = false := by cases n <;> first | exact ⟨rfl, rfl⟩ | cases h
theorem chd_holds {n : Nx} {m : Int} (h : n.chd m = true) : n.holds = true ∧ n.lv = false := by cases n <;> first | exact ⟨rfl, rfl⟩ | cases h
structure Nm where
  n : Nat
  E : Nat
  B : Nat
def Nm.sz (N : Nm) : Nat := 2 * N.E + 6 * N.B + 12
def Nm.cr (N : Nm) : Nat := N.n * N.sz
def Nm.c2 (N : Nm) : Nat := N.n * 4
def Nm.op (N : Nm) : Nat := 12 + N.cr + 2 * N.c2
def Nm.w (N : Nm) : Nat := 2 * N.E + 2
def sc (N : Nm) (M : List (List El)) (r : Nat) (same : Bool) : Nat := 2 * (M.drop r).flatten.length + 6 * (N.B - r) + 6 + if same then 0 else N.sz
def r0 (c : Lc) (q : Qr) : Int := if q.fl = 1 then 0 else bkt q.ky c.d3
def kb (c : Lc) (q : Qr) (i : Nat) : Wd × Bool := if q.fl ≠ 1 ∧ bkt q.ky c.d3 = (i : Int) then (q.ky, true) else (0, false)
def hits (k : Wd) (bh : Bool) (e : El) : Prop := k.toNat < e.k.toNat ∨ (e.k = k ∧ bh = false)
def Qr.same (A : Ab) (q : Qr) : Bool := decide (q.was = A.chg)
def CbF (c : Lc) (i : Nat) (q : Qr) (kk : Wd) (bh : Bool) : Cb → Prop
  | .find => q.kd ≠ 4 ∧ bkt q.ky c.d3 = (i : Int) ∧ kk = q.ky ∧ bh = false
  | .next room => q.kd = 4 ∧ room = (i : Int) ∧ r0 c q ≤ (i : Int) ∧ kk = (kb c q i).1 ∧ bh = (kb c q i).2
def CbN (N : Nm) (A : Ab) (M : List (List El)) (i : Nat) (q : Qr) : Cb → Nat
  | .find => N.op
  | .next _ => 1 + sc N M (i + 1) (q.same A)
def ThN (N : Nm) (A : Ab) (M : List (List El)) (i : Nat) (q : Qr) : Th → Nat
  | .op => 3 + N.w + N.op
  | .search _ _ _ => sc N M i (q.same A)
def ThF (c : Lc) (i : Nat) (q : Qr) (k : Th) : Prop := CbF c i q (k.key q).1 (k.key q).2.1 (k.key q).2.2
def AtF (c : Lc) (A : Ab) (i : Nat) (q : Qr) : Prop := ∃ pre e rest, In c A i q pre (e :: rest) ∧ q.cur = e.h ∧ e.k = q.ky ∧ bkt q.ky c.d3 = (i : Int)
def GapF (c : Lc) (A : Ab) (i : Nat) (q : Qr) : Prop := ∃ pre rest, In c A i q pre rest ∧ BitVec.ofInt 64 q.cur = first rest ∧ (∀ e ∈ pre, e.k.toNat < q.ky.toNat) ∧ (∀ e ∈ rest, q.ky.toNat < e.k.toNat) ∧ bkt q.ky c.d3 = (i : Int) ∧ q.kd = 2 ∧ q.fl ≠ 2
def OutF (c : Lc) (A : Ab) (M : List (List El)) (i : Nat) (q : Qr) : Prop := ∃ pre e rest, In c A i q pre (e :: rest) ∧ q.cur = e.h ∧ M[i]? = some (pre ++ rest)
def OwnF (q : Qr) (V : View) : Prop := q.made ≠ 0 ∧ V q.made = some [BitVec.ofInt 64 q.cur, q.ky, q.val]
def Fact (N : Nm) (c : Lc) (A : Ab) (M : List (List El)) (V : View) (q : Qr) (k : Nat) : Prop :=
  q.dn = true ∨ ∃ i : Nat, match q.nx with
  | .none => False
  | .enter t th => q.room = i ∧ i < A.ls.length ∧ t.i = lk i ∧ (t.ph = 0 ∨ t.ph = 1) ∧ ThF c i q th ∧ q.made = 0 ∧ ThN N A M i q th ≤ k + t.ph
  | .th th => q.room = i ∧ i < A.ls.length ∧ ThF c i q th ∧ q.made = 0 ∧ ThN N A M i q th ≤ k + 2
  | .load kk bh cb => q.made = 0 ∧ CbF c i q kk bh cb ∧ ∃ pre rest, In c A i q pre rest ∧ (∀ e ∈ pre, ¬ hits kk bh e) ∧ 1 + 2 * rest.length + CbN N A M i q cb ≤ k
  | .ask kk bh cb => q.made = 0 ∧ CbF c i q kk bh cb ∧ ∃ pre e rest, In c A i q pre (e :: rest) ∧ q.cur = e.h ∧ (∀ e ∈ pre, ¬ hits kk bh e) ∧ 2 + 2 * rest.length + CbN N A M i q cb ≤ k
  | .set => AtF c A i q ∧ q.kd = 2 ∧ q.fl ≠ 1 ∧ 2 ≤ k
  | .look => AtF c A i q ∧ q.kd = 1 ∧ 2 ≤ k
  | .drop => AtF c A i q ∧ q.kd = 3 ∧ 5 + N.cr + N.c2 ≤ k
  | .take => AtF c A i q ∧ q.kd ≠ 1 ∧ q.kd ≠ 2 ∧ q.kd ≠ 3 ∧ q.kd ≠ 4 ∧ 7 + N.cr + 2 * N.c2 ≤ k
  | .change (.take w) => w = .away ∧ AtF c A i q ∧ q.kd ≠ 1 ∧ q.kd ≠ 2 ∧ q.kd ≠ 3 ∧ q.kd ≠ 4 ∧ 6 + N.cr + 2 * N.c2 ≤ k
  | .after (.take w) => w = .away ∧ AtF c A i q ∧ q.kd ≠ 1 ∧ q.kd ≠ 2 ∧ q.kd ≠ 3 ∧ q.kd ≠ 4 ∧ 5 + 2 * N.c2 ≤ k
  | .change .drop => False
  | .after .drop => AtF c A i q ∧ q.kd = 3 ∧ 4 + N.c2 ≤ k
  | .space => (q.made = 0 ∧ 11 + N.cr + N.c2 ≤ k ∨ OwnF q V ∧ 4 + N.c2 ≤ k) ∧ GapF c A i q
  | .make => q.made = 0 ∧ GapF c A i q ∧ q.was.toNat < N.E ∧ 10 + N.cr + N.c2 ≤ k
  | .words _ _ h all m => h = q.made ∧ q.made ≠ 0 ∧ GapF c A i q ∧ q.was.toNat < N.E ∧ 1 ≤ m ∧ m ≤ 3 ∧ 6 + m + N.cr + N.c2 ≤ k ∧ all = [BitVec.ofInt 64 q.cur, q.ky, q.val] ∧ ∃ ws, V q.made = some ws ∧ ws.length = 3 ∧ ws.drop m = all.drop m
  | .change .add => OwnF q V ∧ GapF c A i q ∧ q.was.toNat < N.E ∧ 6 + N.cr + N.c2 ≤ k
  | .after .add => OwnF q V ∧ GapF c A i q ∧ q.was.toNat < N.E ∧ 3 + N.c2 + (if q.was = A.cnt &&& lowM then 0 else 2) ≤ k
  | .link => q.made ≠ 0 ∧ 2 ≤ k ∧ ∃ pre rest, In c A i q pre rest ∧ V q.made = some [first rest, q.ky, q.val] ∧ M[i]? = some (pre ++ ⟨q.made, q.ky⟩ :: rest)
  | .off w => w = .away ∧ OutF c A M i q ∧ 4 + N.c2 ≤ k
  | .unl1 w => w = .away ∧ OutF c A M i q ∧ 3 ≤ k
  | .unl2 v w => w = .away ∧ 2 ≤ k ∧ ∃ pre e rest, In c A i q pre (e :: rest) ∧ q.cur = e.h ∧ M[i]? = some (pre ++ rest) ∧ v = first rest
  | .leave => q.room = i ∧ i < A.ls.length ∧ 1 ≤ k
  | .begin => q.kd = 4 ∧ q.made = 0 ∧ N.sz ≤ k
  | .free room => q.kd = 4 ∧ room = (i : Int) ∧ q.room = i ∧ i < A.ls.length ∧ q.made = 0 ∧ r0 c q ≤ (i : Int) ∧ 1 + sc N M (i + 1) (q.same A) ≤ k
  | .stillNo => q.kd = 4 ∧ q.made = 0 ∧ sc N M N.B (q.same A) ≤ k
  | .stillKey => q.kd = 4 ∧ q.made = 0 ∧ r0 c q ≤ (i : Int) ∧ (∃ pre e rest, In c A i q pre (e :: rest) ∧ q.key = e.k ∧ hits (kb c q i).1 (kb c q i).2 e ∧ ∀ e ∈ pre, ¬ hits (kb c q i).1 (kb c q i).2 e) ∧ 6 + (if q.same A then 0 else N.sz) ≤ k
  | .freeBegin => q.room = i ∧ i < A.ls.length ∧ q.kd = 4 ∧ q.made = 0 ∧ 1 + N.sz ≤ k
  | .vlook => False
structure Que (A : Ab) (rs : List Qr) (i : Nat) (Q : List Nat) : Prop where
  nd : Q.Nodup
  mem : ∀ a, a ∈ Q ↔ ∃ q, rs[a]? = some q ∧ q.inq = true ∧ q.room = (i : Int)
  tk : A.tk i = A.sv i + BitVec.ofNat 64 Q.length
  at' : ∀ k a q, Q[k]? = some a → rs[a]? = some q → (q.holds = true → k = 0) ∧ ∀ t th, q.nx = .enter t th → t.ph = 1 → t.t = A.sv i + BitVec.ofNat 64 k
theorem set_some {l : List Qr} {a b : Nat} {q q' x : Qr} (h : l[a]? = some q) : (l.set a q')[b]? = some x ↔ (b = a ∧ x = q') ∨ (b ≠ a ∧ l[b]? = some x) := by
  have hlt := (List.getElem?_eq_some_iff.1 h).1
  rw [List.getElem?_set]
  by_cases e : a = b
  · subst e
    rw [if_pos rfl, if_pos hlt]
    constructor
    · intro h; exact .inl ⟨rfl, (Option.some.inj h).symm⟩
    · rintro (⟨_, rfl⟩ | ⟨h, _⟩)
      · rfl
      · exact absurd rfl h
  · rw [if_neg e]
    constructor
    · intro h; exact .inr ⟨fun h => e h.symm, h⟩
    · rintro (⟨h, _⟩ | ⟨_, h⟩)
      · exact absurd h.symm e
      · exact h
theorem holds_inq (h : q.holds = true) : q.inq = true := by unfold Qr.inq; rw [h]; rfl
theorem Que.one {Q : List Nat} (hQ : Que A rs i Q) {a b : Nat} {qa qb : Qr} (ha : rs[a]? = some qa) (hb : rs[b]? = some qb) (h1 : qa.holds = true) (h2 : qb.holds = true) (r1 : qa.room = (i : Int)) (r2 : qb.room = (i : Int)) : a = b := by
  have m1 := (hQ.mem a).2 ⟨qa, ha, holds_inq h1, r1⟩
  have m2 := (hQ.mem b).2 ⟨qb, hb, holds_inq h2, r2⟩
  obtain ⟨k1, e1⟩ := List.getElem?_of_mem m1
  obtain ⟨k2, e2⟩ := List.getElem?_of_mem m2
  have z1 := (hQ.at' k1 a qa e1 ha).1 h1
  have z2 := (hQ.at' k2 b qb e2 hb).1 h2
  subst z1 z2
  rw [e1] at e2
  exact Option.some.inj e2
theorem Que.keep {Q : List Nat} (hQ : Que A rs i Q) {a : Nat} (ha : rs[a]? = some q) (e1 : A'.tk i = A.tk i) (e2 : A'.sv i = A.sv i) (hin : q'.inq = true ∧ q'.room = (i : Int) ↔ q.inq = true ∧ q.room = (i : Int))
    (hh : q'.inq = true → q'.room = (i : Int) → (q'.holds = true → q.holds = true) ∧ ∀ t th, q'.nx = .enter t th → t.ph = 1 → ∃ th', q.nx = .enter t th') : Que A' (rs.set a q') i Q := by
  refine ⟨hQ.nd, fun b => ?_, by rw [e1, e2]; exact hQ.tk, fun k b x hk hx => ?_⟩
  · rw [hQ.mem b]
    constructor
    · rintro ⟨x, h1, h2⟩
      by_cases e : b = a
      · subst e
        rw [ha] at h1; obtain rfl := Option.some.inj h1
        exact ⟨q', (set_some ha).2 (.inl ⟨rfl, rfl⟩), hin.2 h2⟩
      · exact ⟨x, (set_some ha).2 (.inr ⟨e, h1⟩), h2⟩
    · rintro ⟨x, h1, h2⟩
      rcases (set_some ha).1 h1 with ⟨rfl, rfl⟩ | ⟨_, h1⟩
      · exact ⟨q, ha, hin.1 h2⟩
      · exact ⟨x, h1, h2⟩
  · rw [e2]
    rcases (set_some ha).1 hx with ⟨rfl, rfl⟩ | ⟨_, hx⟩
    · have hb := (hQ.mem b).1 (List.mem_of_getElem? hk)
      obtain ⟨y, h1, h2⟩ := hb
      rw [ha] at h1; obtain rfl := Option.some.inj h1
      obtain ⟨h3, h4⟩ := hin.2 h2
      obtain ⟨h5, h6⟩ := hh h3 h4
      refine ⟨fun h => (hQ.at' k b q hk ha).1 (h5 h), fun t th ht hp => ?_⟩
      obtain ⟨th', e⟩ := h6 t th ht hp
      exact (hQ.at' k b q hk ha).2 t th' e hp
    · exact hQ.at' k b x hk hx
theorem Que.draw {Q : List Nat} (hQ : Que A rs i Q) {a : Nat} {t : Tk} {th : Th} (ha : rs[a]? = some q) (h0 : q.inq = false) (hr : q'.room = (i : Int)) (hn : q'.nx = .enter t th) (hp : t.ph = 1) (ht : t.t = A.tk i) (e1 : A'.tk i = A.tk i + 1) (e2 : A'.sv i = A.sv i) : Que A' (rs.set a q') i (Q ++ [a]) := by
  have hout : a ∉ Q := fun h => by
    obtain ⟨x, h1, h2, _⟩ := (hQ.mem a).1 h
    rw [ha] at h1; obtain rfl := Option.some.inj h1
    rw [h0] at h2; cases h2
  have hi' : q'.inq = true := by unfold Qr.inq; rw [hn]; simp [Nx.waits, hp]
  have hh' : q'.holds = false := by unfold Qr.holds; rw [hn]; rfl
  refine ⟨?_, fun b => ?_, ?_, fun k b x hk hx => ?_⟩
  · exact List.nodup_append.2 ⟨hQ.nd, by simp, fun x hx y hy e => by simp only [List.mem_singleton] at hy; subst hy; subst e; exact hout hx⟩
  · rw [List.mem_append, List.mem_singleton, hQ.mem b]
    constructor
    · rintro (⟨x, h1, h2⟩ | rfl)
      · have e : b ≠ a := fun e => hout ((hQ.mem a).2 ⟨x, by rw [← e]; exact h1, h2⟩)
        exact ⟨x, (set_some ha).2 (.inr ⟨e, h1⟩), h2⟩
      · exact ⟨q', (set_some ha).2 (.inl ⟨rfl, rfl⟩), hi', hr⟩
    · rintro ⟨x, h1, h2⟩
      rcases (set_some ha).1 h1 with ⟨rfl, _⟩ | ⟨_, h1⟩
      · exact .inr rfl
      · exact .inl ⟨x, h1, h2⟩
  · rw [e1, e2, hQ.tk, List.length_append, List.length_singleton, BitVec.ofNat_add, BitVec.add_assoc]; rfl
  · rw [e2]
    by_cases hk2 : k < Q.length
    · rw [List.getElem?_append_left hk2] at hk
      rcases (set_some ha).1 hx with ⟨rfl, rfl⟩ | ⟨_, hx⟩
      · exact absurd (List.mem_of_getElem? hk) hout
      · exact hQ.at' k b x hk hx
    · rw [List.getElem?_append_right (by omega)] at hk
      have hkl : k - Q.length < [a].length := (List.getElem?_eq_some_iff.1 hk).1
      simp only [List.length_singleton] at hkl
      have ek : k = Q.length := by omega
      subst ek
      rw [Nat.sub_self] at hk
      obtain rfl : a = b := by simpa using hk
      rcases (set_some ha).1 hx with ⟨_, rfl⟩ | ⟨h, _⟩
      · refine ⟨fun h => (by rw [hh'] at h; cases h), fun t2 th2 h2 _ => ?_⟩
        rw [hn] at h2
        obtain ⟨rfl, _⟩ := Nx.enter.inj h2
        rw [ht, hQ.tk]
      · exact absurd rfl h
theorem Que.got {Q : List Nat} (hQ : Que A rs i Q) (hl : Q.length < 18446744073709551616) {a : Nat} {t : Tk} {th : Th} (ha : rs[a]? = some q) (hr : q.room = (i : Int)) (hn : q.nx = .enter t th) (hp : t.ph = 1) (ht : t.t = A.sv i) (e1 : A'.tk i = A.tk i) (e2 : A'.sv i = A.sv i)
    (h1 : q'.room = (i : Int)) (h2 : q'.inq = true) (h3 : ∀ t th, q'.nx ≠ .enter t th) : Que A' (rs.set a q') i Q := by
  have hi' : q.inq = true := by unfold Qr.inq; rw [hn]; simp [Nx.waits, hp]
  have hz : ∀ k, Q[k]? = some a → k = 0 := fun k hk => by
    have h4 := (hQ.at' k a q hk ha).2 t th hn hp
    rw [ht] at h4
    have h5 : BitVec.ofNat 64 k = 0 := by
      have h6 : A.sv i + BitVec.ofNat 64 k - A.sv i = A.sv i - A.sv i := by rw [← h4]
      rw [BitVec.sub_self, BitVec.add_comm, BitVec.add_sub_cancel] at h6
      exact h6
    have h6 := congrArg BitVec.toNat h5
    rw [BitVec.toNat_ofNat] at h6
    have := (List.getElem?_eq_some_iff.1 hk).1
    have h7 : (0 : Wd).toNat = 0 := rfl
    rw [h7] at h6
    omega
  refine ⟨hQ.nd, fun b => ?_, by rw [e1, e2]; exact hQ.tk, fun k b x hk hx => ?_⟩
  · rw [hQ.mem b]
    constructor
    · rintro ⟨x, h1', h2'⟩
      by_cases e : b = a
      · subst e; exact ⟨q', (set_some ha).2 (.inl ⟨rfl, rfl⟩), h2, h1⟩
      · exact ⟨x, (set_some ha).2 (.inr ⟨e, h1'⟩), h2'⟩
    · rintro ⟨x, h1', h2'⟩
      rcases (set_some ha).1 h1' with ⟨rfl, rfl⟩ | ⟨_, h1'⟩
      · exact ⟨q, ha, hi', hr⟩
      · exact ⟨x, h1', h2'⟩
  · rw [e2]
    rcases (set_some ha).1 hx with ⟨rfl, rfl⟩ | ⟨_, hx⟩
    · exact ⟨fun _ => hz k hk, fun t th h _ => absurd h (h3 t th)⟩
    · exact hQ.at' k b x hk hx
theorem Que.drop {Q : List Nat} (hQ : Que A rs i Q) {a : Nat} (ha : rs[a]? = some q) (hr : q.room = (i : Int)) (hh : q.holds = true) (h0 : q'.inq = false) (e1 : A'.tk i = A.tk i) (e2 : A'.sv i = A.sv i + 1) : ∃ Q', Q'.length < Q.length ∧ Que A' (rs.set a q') i Q' := by
  have hm := (hQ.mem a).2 ⟨q, ha, holds_inq hh, hr⟩
  obtain ⟨k0, hk0⟩ := List.getElem?_of_mem hm
  have hz := (hQ.at' k0 a q hk0 ha).1 hh
  subst hz
  obtain ⟨Q', rfl⟩ : ∃ Q', Q = a :: Q' := by
    cases Q with
    | nil => simp at hk0
    | cons x Q' => exact ⟨Q', by simp at hk0; rw [hk0]⟩
  clear hk0
  have nd := List.nodup_cons.1 hQ.nd
  refine ⟨Q', by simp, nd.2, fun b => ?_, ?_, fun k b x hk hx => ?_⟩
  · constructor
    · intro hb
      have e : b ≠ a := fun e => nd.1 (e ▸ hb)
      obtain ⟨x, h1, h2⟩ := (hQ.mem b).1 (List.mem_cons_of_mem _ hb)
      exact ⟨x, (set_some ha).2 (.inr ⟨e, h1⟩), h2⟩
    · rintro ⟨x, h1, h2⟩
      rcases (set_some ha).1 h1 with ⟨rfl, rfl⟩ | ⟨e, h1⟩
      · rw [h0] at h2; cases h2.1
      · rcases List.mem_cons.1 ((hQ.mem b).2 ⟨x, h1, h2⟩) with h | h
        · exact absurd h e
        · exact h
  · rw [e1, e2, hQ.tk, List.length_cons, Nat.add_comm, BitVec.ofNat_add, BitVec.add_assoc]; rfl
  · rw [e2]
    rcases (set_some ha).1 hx with ⟨rfl, rfl⟩ | ⟨e, hx⟩
    · exact absurd (List.mem_of_getElem? hk) nd.1
    · have h5 := hQ.at' (k + 1) b x (by simpa using hk) hx
      refine ⟨fun h => absurd (h5.1 h) (by omega), fun t th h6 h7 => ?_⟩
      rw [h5.2 t th h6 h7, Nat.add_comm k 1, BitVec.ofNat_add, BitVec.add_assoc]; rfl
end Go.Proofs.YtjggeoghlicmdaaGreat
namespace Go.Proofs.YtjggeoghlicmdaaGreat
open Go Go.AS Go.RowKit
set_option linter.unusedVariables false
variable {N : Nm} {c : Lc} {A A' : Ab} {G G' : Gr} {cap : Int} {q q' x : Qr} {i j : Nat} {pre rest : List El} {e : El} {P : List Int} {n k k' a b clk : Nat} {rs : List Qr} {M M' : List (List El)} {ks : Nat → Nat} {V V' : View}
theorem sum_set (f : Qr → Nat) : ∀ {rs : List Qr} {a : Nat}, rs[a]? = some q → ((rs.set a q').map f).sum + f q = (rs.map f).sum + f q'
  | x :: rs, 0, h => by
    obtain rfl : x = q := by simpa using h
    simp only [List.set_cons_zero, List.map_cons, List.sum_cons]; omega
  | x :: rs, a + 1, h => by
    have := sum_set f (rs := rs) (a := a) (by simpa using h)
    simp only [List.set_cons_succ, List.map_cons, List.sum_cons]; omega
def oth (rs : List Qr) (a : Nat) : List Int := (rs.take a ++ rs.drop (a + 1)).flatMap Qr.priv
theorem flat_oth : ∀ {rs : List Qr} {a : Nat}, rs[a]? = some q → (rs.flatMap Qr.priv).Perm (q.priv ++ oth rs a)
  | x :: rs, 0, h => by
    obtain rfl : x = q := by simpa using h
    exact List.Perm.refl _
  | x :: rs, a + 1, h => by
    have h1 := flat_oth (rs := rs) (a := a) (by simpa using h)
    have e : oth (x :: rs) (a + 1) = x.priv ++ oth rs a := by unfold oth; simp
    rw [e, List.flatMap_cons]
    refine (h1.append_left x.priv).trans ?_
    rw [← List.append_assoc, ← List.append_assoc]
    exact (List.perm_append_comm (l₁ := x.priv) (l₂ := q.priv)).append_right _
theorem oth_set {q' : Qr} : ∀ {rs : List Qr} {a : Nat}, oth (rs.set a q') a = oth rs a
  | [], a => by simp [oth]
  | x :: rs, 0 => by simp [oth]
  | x :: rs, a + 1 => by
    have : oth (rs.set a q') a = oth rs a := oth_set
    unfold oth at this ⊢
    simp only [List.set_cons_succ, List.take_succ_cons, List.drop_succ_cons, List.cons_append, List.flatMap_cons, this]
theorem flat_oth' (h : rs[a]? = some q) : ((rs.set a q').flatMap Qr.priv).Perm (q'.priv ++ oth rs a) := by
  have h1 : (rs.set a q')[a]? = some q' := (set_some h).2 (.inl ⟨rfl, rfl⟩)
  have := flat_oth h1
  rw [oth_set] at this; exact this
theorem oth_mem (ha : rs[a]? = some q) (hb : rs[b]? = some x) (hn : b ≠ a) {h : Int} (hh : h ∈ x.priv) : h ∈ oth rs a := by
  unfold oth
  refine List.mem_flatMap.2 ⟨x, ?_, hh⟩
  rw [List.mem_append]
  have hlb := (List.getElem?_eq_some_iff.1 hb).1
  by_cases e : b < a
  · left
    refine List.mem_of_getElem? (i := b) ?_
    rw [List.getElem?_take, if_pos e]; exact hb
  · right
    refine List.mem_of_getElem? (i := b - (a + 1)) ?_
    rw [List.getElem?_drop, show a + 1 + (b - (a + 1)) = b by omega]; exact hb
theorem Bk.permP {nn : Nat} {xs ys : List Int} (h : Bk c cap nn G xs) (p : xs.Perm ys) : Bk c cap nn G ys :=
  ⟨h.ok, h.own, fun a ha => h.len a (by rw [List.mem_append] at ha ⊢; exact ha.imp_left p.mem_iff.2), h.perm.trans (List.Perm.cons _ (p.append_right _)), h.rng, h.nd, h.made, by rw [← p.length_eq]; exact h.room, h.room0, h.capb, h.bads⟩
theorem Mem.permP {P' : List Int} (h : Mem c cap A P G) (p : P.Perm P') : Mem c cap A P' G := ⟨h.bk.permP (p.append_left _), h.vw, h.rooms, h.made⟩
def Srt (c : Lc) (i : Nat) (l : List El) : Prop := (l.Pairwise fun a b => a.k.toNat < b.k.toNat) ∧ ∀ e ∈ l, bkt e.k c.d3 = (i : Int)
def Nx.scan (B : Nat) (room : Int) : Nx → Option Int
  | .enter _ (.search _ _ r) => some r
  | .th (.search _ _ r) => some r
  | .load _ _ (.next r) => some r
  | .ask _ _ (.next r) => some r
  | .free r => some (r + 1)
  | .stillKey => some room
  | .stillNo => some B
  | _ => Option.none
def Qr.scan (B : Nat) (q : Qr) : Option Int := if q.dn then Option.none else q.nx.scan B q.room
def Clean (c : Lc) (q : Qr) (M : List (List El)) (j : Nat) : Prop := ∀ l, M[j]? = some l → ∀ e ∈ l, ¬ hits (kb c q j).1 (kb c q j).2 e
def Nxt (c : Lc) (B : Nat) (A : Ab) (rs : List Qr) (M : List (List El)) (q : Qr) : Prop := ∀ r, q.scan B = some r → q.was.toNat ≤ A.chg.toNat ∧ (q.was = A.chg →
  (∀ j : Nat, r0 c q ≤ (j : Int) → (j : Int) < r → Clean c q M j) ∧ ∀ (b : Nat) (x : Qr), rs[b]? = some x → x.chd = true → ¬ (r0 c q ≤ x.room ∧ x.room < r))
structure World (N : Nm) (c : Lc) (cap : Int) (clk : Nat) (A : Ab) (G : Gr) (rs : List Qr) (ks : Nat → Nat) (M : List (List El)) : Prop where
  mem : Mem c cap A (rs.flatMap Qr.priv) G
  nn : N.n = rs.length
  nE : (N.E : Int) = c.d1
  nB : N.B = A.ls.length
  sml : N.n ≤ 1000 ∧ 1 ≤ N.E ∧ N.E ≤ 64
  lenM : M.length = A.ls.length
  tm : A.mb ≤ clk ∧ A.chg.toNat ≤ clk ∧ clk < 2305843009213692000
  que : ∀ i, i < A.ls.length → ∃ Q, Que A rs i Q ∧ Q.length ≤ clk
  fact : ∀ (a : Nat) (q : Qr), rs[a]? = some q → Fact N c A M G.S.V q (ks a)
  cnt : A.cnt = BitVec.ofNat 64 (M.flatten.length + (rs.map (·.nx.offp)).sum + 4294967296 * (rs.map (·.nx.hi)).sum)
  le : M.flatten.length + (rs.map (·.nx.offp)).sum ≤ N.E
  rel : ∀ i, i < A.ls.length → (∀ (a : Nat) (q : Qr), rs[a]? = some q → q.room = (i : Int) → q.dn = false → q.nx.pend = false) → M[i]? = A.ls[i]?
  srt : ∀ i l, M[i]? = some l → Srt c i l
  nxt : ∀ (a : Nat) (q : Qr), rs[a]? = some q → Nxt c N.B A rs M q
structure Cost (N : Nm) (A A' : Ab) (M M' : List (List El)) (δ : Nat) : Prop where
  chg : A'.chg = A.chg ∨ (A.chg.toNat < A'.chg.toNat ∧ N.sz ≤ δ)
  sz : M' = M ∨ (4 ≤ δ ∧ A'.chg = A.chg ∧ ∀ r, (M'.drop r).flatten.length ≤ (M.drop r).flatten.length + 1)
  low : A'.cnt &&& lowM = A.cnt &&& lowM ∨ 4 ≤ δ
theorem sc_up {δ : Nat} (h : Cost N A A' M M' δ) (r : Nat) (q : Qr) (hw : q.was.toNat ≤ A.chg.toNat) : sc N M' r (q.same A') ≤ sc N M r (q.same A) + δ := by
  unfold sc
  have h1 : (if q.same A' then 0 else N.sz) ≤ (if q.same A then 0 else N.sz) + if A'.chg = A.chg then 0 else N.sz := by
    by_cases e : A'.chg = A.chg
    · unfold Qr.same; rw [e, if_pos rfl]; omega
    · rw [if_neg e]; split <;> omega
  rcases h.sz with e | ⟨e1, e2, e3⟩
  · rw [e]
    rcases h.chg with e | ⟨e1, e2⟩
    · rw [if_pos e] at h1; omega
    · have : (if A'.chg = A.chg then 0 else N.sz) ≤ N.sz := by split <;> omega
      omega
  · rw [if_pos e2] at h1
    have := e3 r
    omega
theorem cbn_up {δ : Nat} (h : Cost N A A' M M' δ) (q : Qr) (hw : q.was.toNat ≤ A.chg.toNat) (cb : Cb) : CbN N A' M' i q cb ≤ CbN N A M i q cb + δ := by
  cases cb with
  | find => exact Nat.le_add_right _ _
  | next room =>
    have := sc_up h (i + 1) q hw
    show 1 + sc N M' (i + 1) (q.same A') ≤ 1 + sc N M (i + 1) (q.same A) + δ
    omega
theorem Fact.keep {δ : Nat} (h : Fact N c A M V q k) (hl : A'.ls.length = A.ls.length) (h1 : q.holds = true → ∀ i : Nat, q.room = (i : Int) → A'.ls[i]? = A.ls[i]? ∧ M'[i]? = M[i]?) (hV : ∀ h ∈ q.priv, V' h = V h)
    (hc : Cost N A A' M M' δ) (hw : q.dn = false → (q.scan N.B).isSome = true → q.was.toNat ≤ A.chg.toNat) : Fact N c A' M' V' q (k + δ) := by
  rcases h with h | ⟨i, h⟩
  · exact .inl h
  by_cases hd : q.dn = true
  · exact .inl hd
  have hd : q.dn = false := by simpa using hd
  refine .inr ⟨i, ?_⟩
  have hin : ∀ {pre rest}, q.nx.holds = true → In c A i q pre rest → In c A' i q pre rest := fun hh I => ⟨I.room, by rw [(h1 (by unfold Qr.holds; rw [hh, hd]; rfl) i I.room).1]; exact I.ls, I.ah, I.ai⟩
  have hM : ∀ {pre rest}, q.nx.holds = true → In c A i q pre rest → M'[i]? = M[i]? := fun hh I => (h1 (by unfold Qr.holds; rw [hh, hd]; rfl) i I.room).2
  have hat : q.nx.holds = true → AtF c A i q → AtF c A' i q := fun hh ⟨pre, e, rest, a1, a2, a3, a4⟩ => ⟨pre, e, rest, hin hh a1, a2, a3, a4⟩
  have hgap : q.nx.holds = true → GapF c A i q → GapF c A' i q := fun hh ⟨pre, rest, a1, a2⟩ => ⟨pre, rest, hin hh a1, a2⟩
  have hout : q.nx.holds = true → OutF c A M i q → OutF c A' M' i q := fun hh ⟨pre, e, rest, a1, a2, a3⟩ => ⟨pre, e, rest, hin hh a1, a2, by rw [hM hh a1]; exact a3⟩
  have hown : q.nx.holds = true → q.made ∈ q.priv → OwnF q V → OwnF q V' := fun hh hp ⟨a0, a2⟩ => ⟨a0, by rw [hV _ hp]; exact a2⟩
  cases hn : q.nx with
  | none => rw [hn] at h; exact h
  | enter t th =>
    rw [hn] at h hin hM hat hgap hout hown
    obtain ⟨a1, a2, a3, a4, a5, a6, a7⟩ := h
    refine ⟨a1, by omega, a3, a4, a5, a6, ?_⟩
    have : ThN N A' M' i q th ≤ ThN N A M i q th + δ := by
      cases th with
      | op => exact Nat.le_add_right _ _
      | search kk bh room => exact sc_up hc i q (hw hd (by unfold Qr.scan; rw [hd, hn]; rfl))
    omega
  | th th =>
    rw [hn] at h hin hM hat hgap hout hown
    obtain ⟨a1, a2, a5, a6, a7⟩ := h
    refine ⟨a1, by omega, a5, a6, ?_⟩
    have : ThN N A' M' i q th ≤ ThN N A M i q th + δ := by
      cases th with
      | op => exact Nat.le_add_right _ _
      | search kk bh room => exact sc_up hc i q (hw hd (by unfold Qr.scan; rw [hd, hn]; rfl))
    omega
  | load kk bh cb =>
    rw [hn] at h hin hM hat hgap hout hown
    obtain ⟨a1, a2, pre, rest, a3, a4, a5⟩ := h
    have : CbN N A' M' i q cb ≤ CbN N A M i q cb + δ := by
      cases cb with
      | find => exact Nat.le_add_right _ _
      | next room => exact cbn_up hc q (hw hd (by unfold Qr.scan; rw [hd, hn]; rfl)) _
    exact ⟨a1, a2, pre, rest, hin rfl a3, a4, by omega⟩
  | ask kk bh cb =>
    rw [hn] at h hin hM hat hgap hout hown
    obtain ⟨a1, a2, pre, e, rest, a3, a4, a5, a6⟩ := h
    have : CbN N A' M' i q cb ≤ CbN N A M i q cb + δ := by
      cases cb with
      | find => exact Nat.le_add_right _ _
      | next room => exact cbn_up hc q (hw hd (by unfold Qr.scan; rw [hd, hn]; rfl)) _
    exact ⟨a1, a2, pre, e, rest, hin rfl a3, a4, a5, by omega⟩
  | set => rw [hn] at h hat; exact ⟨hat rfl h.1, h.2.1, h.2.2.1, by have := h.2.2.2; omega⟩
  | look => rw [hn] at h hat; exact ⟨hat rfl h.1, h.2.1, by have := h.2.2; omega⟩
  | drop => rw [hn] at h hat; exact ⟨hat rfl h.1, h.2.1, by have := h.2.2; omega⟩
  | take => rw [hn] at h hat; obtain ⟨a1, a2, a3, a4, a5, a6⟩ := h; exact ⟨hat rfl a1, a2, a3, a4, a5, by omega⟩
  | change f =>
    cases f with
    | add =>
      have hp : q.made ∈ q.priv := by unfold Qr.priv; rw [hn]; exact .head _
      rw [hn] at h hgap hown; obtain ⟨a1, a2, a3, a4⟩ := h; exact ⟨hown rfl hp a1, hgap rfl a2, a3, by omega⟩
    | drop => rw [hn] at h; exact h
    | take _ => rw [hn] at h hat; obtain ⟨a0, a1, a2, a3, a4, a5, a6⟩ := h; exact ⟨a0, hat rfl a1, a2, a3, a4, a5, by omega⟩
  | after f =>
    cases f with
    | add =>
      have hp : q.made ∈ q.priv := by unfold Qr.priv; rw [hn]; exact .head _
      rw [hn] at h hgap hown; obtain ⟨a1, a2, a3, a4⟩ := h
      refine ⟨hown rfl hp a1, hgap rfl a2, a3, ?_⟩
      rcases hc.low with e | e
      · rw [e]; omega
      · have : (if q.was = A'.cnt &&& lowM then 0 else 2) ≤ 2 := by split <;> omega
        omega
    | drop => rw [hn] at h hat; exact ⟨hat rfl h.1, h.2.1, by have := h.2.2; omega⟩
    | take _ => rw [hn] at h hat; obtain ⟨a0, a1, a2, a3, a4, a5, a6⟩ := h; exact ⟨a0, hat rfl a1, a2, a3, a4, a5, by omega⟩
  | space =>
    have hp : q.made ≠ 0 → q.made ∈ q.priv := fun h0 => by unfold Qr.priv; rw [hn]; unfold Nx.priv; rw [if_neg h0]; exact .head _
    rw [hn] at h hgap hown
    refine ⟨?_, hgap rfl h.2⟩
    rcases h.1 with ⟨a1, a2⟩ | ⟨a1, a2⟩
    · exact .inl ⟨a1, by omega⟩
    · exact .inr ⟨hown rfl (hp a1.1) a1, by omega⟩
  | make => rw [hn] at h hgap; obtain ⟨a1, a2, a3, a4⟩ := h; exact ⟨a1, hgap rfl a2, a3, by omega⟩
  | words gw bw hh all m =>
    have hp : q.made ∈ q.priv := by unfold Qr.priv; rw [hn]; exact .head _
    rw [hn] at h hgap
    obtain ⟨a1, a2, a3, a4, a5, a6, a7, a8, ws, a9, a10⟩ := h
    exact ⟨a1, a2, hgap rfl a3, a4, a5, a6, by omega, a8, ws, by rw [hV _ hp]; exact a9, a10⟩
  | link =>
    have hp : q.made ∈ q.priv := by unfold Qr.priv; rw [hn]; exact .head _
    rw [hn] at h hin hM
    obtain ⟨a1, a2, pre, rest, a3, a4, a5⟩ := h
    exact ⟨a1, by omega, pre, rest, hin rfl a3, by rw [hV _ hp]; exact a4, by rw [hM rfl a3]; exact a5⟩
  | off _ => rw [hn] at h hout; exact ⟨h.1, hout rfl h.2.1, by have := h.2.2; omega⟩
  | unl1 _ => rw [hn] at h hout; exact ⟨h.1, hout rfl h.2.1, by have := h.2.2; omega⟩
  | unl2 v _ =>
    rw [hn] at h hin hM
    obtain ⟨a0, a1, pre, e, rest, a2, a3, a4, a5⟩ := h
    exact ⟨a0, by omega, pre, e, rest, hin rfl a2, a3, by rw [hM rfl a2]; exact a4, a5⟩
  | leave => rw [hn] at h; exact ⟨h.1, by omega, by omega⟩
  | begin => rw [hn] at h; exact ⟨h.1, h.2.1, by omega⟩
  | free room =>
    rw [hn] at h
    obtain ⟨a1, a2, a3, a4, a5, a6, a7⟩ := h
    have := sc_up hc (i + 1) q (hw hd (by unfold Qr.scan; rw [hd, hn]; rfl))
    exact ⟨a1, a2, a3, by omega, a5, a6, by omega⟩
  | stillNo =>
    rw [hn] at h
    have := sc_up hc N.B q (hw hd (by unfold Qr.scan; rw [hd, hn]; rfl))
    exact ⟨h.1, h.2.1, by omega⟩
  | stillKey =>
    rw [hn] at h hin
    obtain ⟨a1, a2, a3, ⟨pre, e, rest, a4, a5⟩, a6⟩ := h
    refine ⟨a1, a2, a3, ⟨pre, e, rest, hin rfl a4, a5⟩, ?_⟩
    rcases hc.chg with e | ⟨_, e⟩
    · unfold Qr.same at a6 ⊢; rw [e]; omega
    · have : (if q.same A' then 0 else N.sz) ≤ N.sz := by split <;> omega
      omega
  | freeBegin => rw [hn] at h; exact ⟨h.1, by omega, h.2.2.1, h.2.2.2.1, by omega⟩
  | vlook => rw [hn] at h; exact h.elim
structure Upd (N : Nm) (c : Lc) (cap : Int) (clk : Nat) (A : Ab) (G : Gr) (rs : List Qr) (M : List (List El)) (a : Nat) (q q' : Qr) (A' : Ab) (G' : Gr) (M' : List (List El)) (k' δ : Nat) : Prop where
  mem : Mem c cap A' (q'.priv ++ oth rs a) G'
  len : A'.ls.length = A.ls.length
  lenM : M'.length = M.length
  tm : A'.mb ≤ clk + 1 ∧ A'.chg.toNat ≤ clk + 1
  que : ∀ i, i < A.ls.length → ∃ Q, Que A' (rs.set a q') i Q ∧ Q.length ≤ clk + 1
  own : ∀ j : Nat, A'.ls[j]? ≠ A.ls[j]? ∨ M'[j]? ≠ M[j]? → q.holds = true ∧ q.room = (j : Int)
  V : ∀ h ∈ oth rs a, G'.S.V h = G.S.V h
  fact : Fact N c A' M' G'.S.V q' k'
  cost : Cost N A A' M M' δ
  cnt : A'.cnt = BitVec.ofNat 64 (M'.flatten.length + ((rs.set a q').map (·.nx.offp)).sum + 4294967296 * ((rs.set a q').map (·.nx.hi)).sum)
  le : M'.flatten.length + ((rs.set a q').map (·.nx.offp)).sum ≤ N.E
  rel : ∀ i : Nat, i < A.ls.length → q.room = (i : Int) → (q.nx.pend = true ∨ A'.ls[i]? ≠ A.ls[i]? ∨ M'[i]? ≠ M[i]?) → (q'.room = (i : Int) → q'.dn = false → q'.nx.pend = false) → M'[i]? = A'.ls[i]?
  srt : ∀ i l, M'[i]? = some l → Srt c i l
  own' : A'.chg = A.chg → (q'.chd = true → q.chd = true ∧ q'.room = q.room) ∧ ∀ j : Nat, M'[j]? ≠ M[j]? → q.chd = true
  nxt : Nxt c N.B A' (rs.set a q') M' q'
theorem World.oth_priv (W : World N c cap clk A G rs ks M) (ha : rs[a]? = some q) : Mem c cap A (q.priv ++ oth rs a) G := W.mem.permP (flat_oth ha)
theorem World.upd (W : World N c cap clk A G rs ks M) (ha : rs[a]? = some q) {k' δ : Nat} (U : Upd N c cap clk A G rs M a q q' A' G' M' k' δ) (hclk : clk + 1 < 2305843009213692000) :
    World N c cap (clk + 1) A' G' (rs.set a q') (fun b => if b = a then k' else ks b + δ) M' := by
  have hset : ∀ {b : Nat} {x : Qr}, (rs.set a q')[b]? = some x → (b = a ∧ x = q') ∨ (b ≠ a ∧ rs[b]? = some x) := fun h => (set_some ha).1 h
  have hoth : ∀ {b : Nat} {x : Qr}, b ≠ a → rs[b]? = some x → x.holds = true → ∀ i : Nat, x.room = (i : Int) → A'.ls[i]? = A.ls[i]? ∧ M'[i]? = M[i]? := fun {b x} hb hx hh i hr => by
    have key : ¬ (A'.ls[i]? ≠ A.ls[i]? ∨ M'[i]? ≠ M[i]?) := fun hne => by
      obtain ⟨h1, h2⟩ := U.own i hne
      by_cases hi : i < A.ls.length
      · obtain ⟨Q, hQ, _⟩ := W.que i hi
        exact hb (hQ.one hx ha hh h1 hr h2)
      · have e1 : A'.ls[i]? = A.ls[i]? := by rw [List.getElem?_eq_none (by rw [U.len]; omega), List.getElem?_eq_none (by omega)]
        have e2 : M'[i]? = M[i]? := by rw [List.getElem?_eq_none (by rw [U.lenM, W.lenM]; omega), List.getElem?_eq_none (by rw [W.lenM]; omega)]
        rcases hne with h | h
        · exact h e1
        · exact h e2
    exact ⟨Classical.byContradiction fun h => key (.inl h), Classical.byContradiction fun h => key (.inr h)⟩
  refine ⟨U.mem.permP (flat_oth' ha).symm, by rw [List.length_set]; exact W.nn, W.nE, by rw [U.len]; exact W.nB, W.sml, by rw [U.lenM, U.len]; exact W.lenM, ⟨by have := U.tm; omega, U.tm.2, hclk⟩, fun i hi => ?_, fun b x hx => ?_, U.cnt, U.le, fun i hi hp => ?_, U.srt, fun b x hx => ?_⟩
  · exact U.que i (by rw [← U.len]; exact hi)
  · rcases hset hx with ⟨rfl, rfl⟩ | ⟨hb, hx⟩
    · rw [if_pos rfl]; exact U.fact
    · rw [if_neg hb]
      refine (W.fact b x hx).keep U.len (hoth hb hx) (fun h hh => U.V h (oth_mem ha hx hb hh)) U.cost fun _ hs => ?_
      obtain ⟨r, hr⟩ := Option.isSome_iff_exists.1 hs
      exact (W.nxt b x hx r hr).1
  · rw [U.len] at hi
    by_cases hq : q.room = (i : Int) ∧ (q.nx.pend = true ∨ A'.ls[i]? ≠ A.ls[i]? ∨ M'[i]? ≠ M[i]?)
    · exact U.rel i hi hq.1 hq.2 fun hr => hp a q' ((set_some ha).2 (.inl ⟨rfl, rfl⟩)) hr
    · have hk : A'.ls[i]? = A.ls[i]? ∧ M'[i]? = M[i]? := by
        refine ⟨Classical.byContradiction fun h => ?_, Classical.byContradiction fun h => ?_⟩
        · exact hq ⟨(U.own i (.inl h)).2, .inr (.inl h)⟩
        · exact hq ⟨(U.own i (.inr h)).2, .inr (.inr h)⟩
      rw [hk.1, hk.2]
      refine W.rel i hi fun b x hx hr hxd => ?_
      by_cases hb : b = a
      · subst hb
        rw [ha] at hx; obtain rfl := Option.some.inj hx
        exact Classical.byContradiction fun h => hq ⟨hr, .inl (by simpa using h)⟩
      · exact hp b x ((set_some ha).2 (.inr ⟨hb, hx⟩)) hr hxd
  · rcases hset hx with ⟨rfl, rfl⟩ | ⟨hb, hx⟩
    · exact U.nxt
    · intro r hr
      obtain ⟨h1, h2⟩ := W.nxt b x hx r hr
      rcases U.cost.chg with e | ⟨e, _⟩
      · rw [e]
        refine ⟨h1, fun hw => ?_⟩
        obtain ⟨h3, h4⟩ := h2 hw
        obtain ⟨u1, u2⟩ := U.own' e
        refine ⟨fun j hj1 hj2 => ?_, fun b2 y hy hc => ?_⟩
        · have hM : M'[j]? = M[j]? := Classical.byContradiction fun hne => by
            have h5 := U.own j (.inr hne)
            exact h4 a q ha (u2 j hne) (by rw [h5.2]; exact ⟨hj1, hj2⟩)
          intro l hl
          rw [hM] at hl
          exact h3 j hj1 hj2 l hl
        · rcases hset hy with ⟨rfl, rfl⟩ | ⟨_, hy⟩
          · obtain ⟨u3, u4⟩ := u1 hc
            rw [u4]; exact h4 b2 q ha u3
          · exact h4 b2 y hy hc
      · refine ⟨by omega, fun hw => ?_⟩
        rw [hw] at h1; omega
end Go.Proofs.YtjggeoghlicmdaaGreat
namespace Go.Proofs.YtjggeoghlicmdaaGreat
open Go Go.AS Go.RowKit
set_option linter.unusedVariables false
variable {N : Nm} {c : Lc} {A A' : Ab} {G G' : Gr} {cap : Int} {q q' x : Qr} {i j : Nat} {pre rest : List El} {e : El} {P : List Int} {n k k' a clk δ : Nat} {rs : List Qr} {M M' : List (List El)} {ks : Nat → Nat} {V V' : View} {b : Bs}
def Nx.fx : Nx → Bool
  | .leave => true
  | .link => true
  | .off _ => true
  | .unl1 _ => true
  | .unl2 _ _ => true
  | _ => false
def Qr.fx (q : Qr) : Bool := q.dn || q.nx.fx
def Vs (c : Lc) (q' : Qr) (S S' : Sm) (st : Option (Int × Wd)) : Prop := ∀ h, h ≠ c.h → (h ∈ q'.priv → q'.nx = .link) → S'.V h ≠ none → S.V h ≠ none ∧ val S' h = match st with | some (a, w) => if h = a then w else val S h | none => val S h
def elemOf (c : Lc) (h : Int) (w : Wd) : Int := if c.d0 = 10 then IntKind.i64.wrap w.toNat else h
def Miss (c : Lc) (M : List (List El)) (ky : Wd) : Prop := ∃ (i : Nat) (l : List El), bkt ky c.d3 = (i : Int) ∧ M[i]? = some l ∧ ∀ e ∈ l, e.k ≠ ky
def Has (c : Lc) (M : List (List El)) (ky : Wd) (i : Nat) (pre : List El) (e : El) (rest : List El) : Prop := bkt ky c.d3 = (i : Int) ∧ M[i]? = some (pre ++ e :: rest) ∧ e.k = ky
inductive Efx (c : Lc) (q : Qr) (M : List (List El)) (S : Sm) : Int → List Wd → Wd → Int → Option (Int × Wd) → List (List El) → Prop where
  | none : q.kd ≠ 4 → (q.kd = 2 → q.fl = 2) → Miss c M q.ky → Efx c q M S 2 [] 0 0 none M
  | twice {i : Nat} {pre rest : List El} {e : El} : q.kd = 2 → q.fl = 1 → Has c M q.ky i pre e rest → Efx c q M S 3 [] 0 0 none M
  | set {i : Nat} {pre rest : List El} {e : El} : q.kd = 2 → q.fl ≠ 1 → Has c M q.ky i pre e rest → Efx c q M S 0 [] 0 0 (some (e.h, q.val)) M
  | look {i : Nat} {pre rest : List El} {e : El} : q.kd = 1 → Has c M q.ky i pre e rest → Efx c q M S 0 [val S e.h] 0 (elemOf c e.h (val S e.h)) none M
  | full : q.kd = 2 → q.fl ≠ 2 → Miss c M q.ky → c.d1 ≤ (M.flatten.length : Int) → Efx c q M S 4 [] 0 0 none M
  | mem : q.kd = 2 → q.fl ≠ 2 → Miss c M q.ky → S.room < 3 → Efx c q M S 5 [] 0 0 none M
  | add {i : Nat} {pre rest : List El} {h : Int} {w : Wd} : q.kd = 2 → q.fl ≠ 2 → bkt q.ky c.d3 = (i : Int) → M[i]? = some (pre ++ rest) → (∀ e ∈ pre, e.k.toNat < q.ky.toNat) → (∀ e ∈ rest, q.ky.toNat < e.k.toNat) → (M.flatten.length : Int) < c.d1 →
      S.V h = some [w, q.ky, q.val] → h ∉ M.flatten.map El.h → Efx c q M S 0 [] 0 0 none (M.set i (pre ++ ⟨h, q.ky⟩ :: rest))
  | del {i : Nat} {pre rest : List El} {e : El} : q.kd = 3 → Has c M q.ky i pre e rest → Efx c q M S 0 [] 0 0 none (M.set i (pre ++ rest))
  | tak {i : Nat} {pre rest : List El} {e : El} : q.kd ≠ 1 → q.kd ≠ 2 → q.kd ≠ 3 → q.kd ≠ 4 → Has c M q.ky i pre e rest → Efx c q M S 0 [val S e.h] 0 0 none (M.set i (pre ++ rest))
  | past : q.kd = 4 → (∀ j : Nat, r0 c q ≤ (j : Int) → j < M.length → Clean c q M j) → Efx c q M S 2 [] 0 0 none M
  | next {i : Nat} {pre rest : List El} {e : El} : q.kd = 4 → r0 c q ≤ (i : Int) → (∀ j : Nat, r0 c q ≤ (j : Int) → j < i → Clean c q M j) → M[i]? = some (pre ++ e :: rest) → hits (kb c q i).1 (kb c q i).2 e → (∀ e ∈ pre, ¬ hits (kb c q i).1 (kb c q i).2 e) → Efx c q M S 0 [] e.k 0 none M
def Blk (A : Ab) (q : Qr) : Prop := (∃ (t : Tk) (th : Th) (i : Nat), q.nx = .enter t th ∧ t.ph = 1 ∧ q.room = (i : Int) ∧ A.sv i ≠ t.t) ∨ (q.nx = .space ∧ ¬ (A.cnt &&& lowM).toNat < N.E ∧ A.cnt >>> 32 ≠ 0)
structure Stp (N : Nm) (c : Lc) (cap : Int) (clk : Nat) (A : Ab) (G : Gr) (rs : List Qr) (ks : Nat → Nat) (M : List (List El)) (a : Nat) (q q' : Qr) (G' : Gr) (A' : Ab) (M' : List (List El)) (k' δ : Nat) (st : Option (Int × Wd)) : Prop where
  upd : Upd N c cap clk A G rs M a q q' A' G' M' k' δ
  vals : Vs c q' G.S G'.S st
  eff : (q'.eff = true ∧ Efx c q M G.S q'.no q'.rv q'.rk q'.el st M') ∨ (q'.eff = false ∧ M' = M ∧ st = none ∧ q'.no = q.no ∧ q'.rv = q.rv ∧ q'.rk = q.rk ∧ q'.el = q.el)
  one : q'.fx = (q.fx || q'.eff) ∧ (q.fx = true → q'.eff = false)
  pot : k' + N.n * δ < ks a ∨ (Blk (N := N) A q ∧ k' = ks a ∧ δ = 0 ∧ A'.sv = A.sv ∧ A'.cnt = A.cnt ∧ q'.nx = q.nx ∧ q'.room = q.room)
  ins : G'.ins = G.ins
  sam : q'.kd = q.kd ∧ q'.ky = q.ky ∧ q'.fl = q.fl ∧ q'.val = q.val
theorem World.que_keep (W : World N c cap clk A G rs ks M) (ha : rs[a]? = some q) (e1 : A'.tk = A.tk) (e2 : A'.sv = A.sv) (hin : ∀ i : Nat, q'.inq = true ∧ q'.room = (i : Int) ↔ q.inq = true ∧ q.room = (i : Int))
    (hh : q'.inq = true → (q'.holds = true → q.holds = true) ∧ ∀ t th, q'.nx = .enter t th → t.ph = 1 → ∃ th', q.nx = .enter t th') : ∀ i, i < A.ls.length → ∃ Q, Que A' (rs.set a q') i Q ∧ Q.length ≤ clk + 1 := fun i hi => by
  obtain ⟨Q, hQ, hl⟩ := W.que i hi
  exact ⟨Q, hQ.keep ha (by rw [e1]) (by rw [e2]) (hin i) fun h _ => hh h, by omega⟩
theorem World.que_hold (W : World N c cap clk A G rs ks M) (ha : rs[a]? = some q) (e1 : A'.tk = A.tk) (e2 : A'.sv = A.sv) (h1 : q.holds = true) (h2 : q'.holds = true) (hr : q'.room = q.room) (hn : ∀ t th, q'.nx ≠ .enter t th) : ∀ i, i < A.ls.length → ∃ Q, Que A' (rs.set a q') i Q ∧ Q.length ≤ clk + 1 :=
  W.que_keep ha e1 e2 (fun i => by rw [holds_inq h1, holds_inq h2, hr]) fun _ => ⟨fun _ => h1, fun t th h _ => absurd h (hn t th)⟩
theorem World.que_out (W : World N c cap clk A G rs ks M) (ha : rs[a]? = some q) (e1 : A'.tk = A.tk) (e2 : A'.sv = A.sv) (h1 : q.inq = false) (h2 : q'.inq = false) : ∀ i, i < A.ls.length → ∃ Q, Que A' (rs.set a q') i Q ∧ Q.length ≤ clk + 1 :=
  W.que_keep ha e1 e2 (fun i => by rw [h1, h2]; simp) fun h => by rw [h2] at h; cases h
theorem World.que_draw (W : World N c cap clk A G rs ks M) (ha : rs[a]? = some q) {r : Nat} {t : Tk} {th : Th} (hr : r < A.ls.length) (h0 : q.inq = false) (h1 : q'.room = (r : Int)) (hn : q'.nx = .enter t th) (hp : t.ph = 1) (ht : t.t = A.tk r) :
    ∀ i, i < A.ls.length → ∃ Q, Que (drawn A r) (rs.set a q') i Q ∧ Q.length ≤ clk + 1 := fun i hi => by
  obtain ⟨Q, hQ, hl⟩ := W.que i hi
  by_cases e : i = r
  · subst e
    refine ⟨Q ++ [a], hQ.draw ha h0 h1 hn hp ht ?_ rfl, by simp; omega⟩
    show (if i = i then _ else _) = _
    rw [if_pos rfl]
  · refine ⟨Q, hQ.keep ha ?_ rfl ?_ fun _ h => ?_, by omega⟩
    · show (if i = r then _ else _) = _
      rw [if_neg e]
    · rw [h0, h1]
      constructor
      · rintro ⟨_, h⟩; omega
      · rintro ⟨h, _⟩; cases h
    · rw [h1] at h; omega
theorem World.que_got (W : World N c cap clk A G rs ks M) (ha : rs[a]? = some q) {r : Nat} {t : Tk} {th : Th} (hr : q.room = (r : Int)) (hn : q.nx = .enter t th) (hp : t.ph = 1) (ht : A.sv r = t.t) (h1 : q'.room = q.room) (h2 : q'.holds = true) (h3 : ∀ t th, q'.nx ≠ .enter t th) :
    ∀ i, i < A.ls.length → ∃ Q, Que A (rs.set a q') i Q ∧ Q.length ≤ clk + 1 := fun i hi => by
  obtain ⟨Q, hQ, hl⟩ := W.que i hi
  have hq : q.inq = true := by unfold Qr.inq; rw [hn]; simp [Nx.waits, hp]
  by_cases e : i = r
  · subst e
    exact ⟨Q, hQ.got (by have := W.tm.2.2; omega) ha hr hn hp ht.symm rfl rfl (h1.trans hr) (holds_inq h2) h3, by omega⟩
  · refine ⟨Q, hQ.keep ha rfl rfl ?_ fun _ h => ?_, by omega⟩
    · rw [h1, holds_inq h2, hq]
    · rw [h1, hr] at h; omega
theorem World.que_drop (W : World N c cap clk A G rs ks M) (ha : rs[a]? = some q) {r : Nat} (hr : q.room = (r : Int)) (hh : q.holds = true) (h0 : q'.inq = false) :
    ∀ i, i < A.ls.length → ∃ Q, Que (freed A r) (rs.set a q') i Q ∧ Q.length ≤ clk + 1 := fun i hi => by
  obtain ⟨Q, hQ, hl⟩ := W.que i hi
  by_cases e : i = r
  · subst e
    obtain ⟨Q', hl', hQ'⟩ := hQ.drop (A' := freed A i) ha hr hh h0 rfl (by show (if i = i then _ else _) = _; rw [if_pos rfl])
    exact ⟨Q', hQ', by omega⟩
  · refine ⟨Q, hQ.keep ha rfl ?_ ?_ fun h => ?_, by omega⟩
    · show (if i = r then _ else _) = _
      rw [if_neg e]
    · rw [h0, hr]
      constructor
      · rintro ⟨h, _⟩; cases h
      · rintro ⟨_, h⟩; omega
    · rw [h0] at h; cases h
theorem Upd.same (W : World N c cap clk A G rs ks M) (ha : rs[a]? = some q) (hm : Mem c cap A' (q'.priv ++ oth rs a) G') (e1 : A'.ls = A.ls) (e2 : A'.cnt = A.cnt) (e3 : A'.chg = A.chg) (e4 : A'.mb ≤ A.mb + 1) (que : ∀ i, i < A.ls.length → ∃ Q, Que A' (rs.set a q') i Q ∧ Q.length ≤ clk + 1)
    (hV : ∀ h ∈ oth rs a, G'.S.V h = G.S.V h) (hf : Fact N c A' M G'.S.V q' k') (hi : q'.nx.hi = q.nx.hi) (ho : q'.nx.offp = q.nx.offp) (hp : q.nx.pend = true → q'.nx.pend = true ∧ q'.room = q.room ∧ q'.dn = false) (hc : q'.chd = true → q.chd = true ∧ q'.room = q.room) (hn : Nxt c N.B A' (rs.set a q') M q') :
    Upd N c cap clk A G rs M a q q' A' G' M k' 0 := by
  have s1 := sum_set (q' := q') (fun q => q.nx.offp) ha
  have s2 := sum_set (q' := q') (fun q => q.nx.hi) ha
  simp only [ho] at s1
  simp only [hi] at s2
  have s1' : ((rs.set a q').map (·.nx.offp)).sum = (rs.map (·.nx.offp)).sum := by omega
  have s2' : ((rs.set a q').map (·.nx.hi)).sum = (rs.map (·.nx.hi)).sum := by omega
  refine ⟨hm, by rw [e1], rfl, ⟨by have := W.tm; omega, by rw [e3]; have := W.tm; omega⟩, que, fun j h => ?_, hV, hf, ⟨.inl e3, .inl rfl, .inl (by rw [e2])⟩, by rw [s1', s2', e2]; exact W.cnt, by rw [s1']; exact W.le, fun i _ hr h => ?_, W.srt, fun _ => ⟨hc, fun j h => absurd rfl h⟩, hn⟩
  · rcases h with h | h
    · exact absurd (by rw [e1]) h
    · exact absurd rfl h
  · intro h2
    rcases h with h | h | h
    · obtain ⟨h3, h4, h5⟩ := hp h
      rw [h2 (h4.trans hr) h5] at h3; cases h3
    · exact absurd (by rw [e1]) h
    · exact absurd rfl h
theorem nxt_none (h : q'.scan N.B = none) : Nxt c N.B A rs M q' := fun r hr => by rw [h] at hr; cases hr
theorem Vs.same {S S' : Sm} (h : ∀ h, S'.V h = S.V h) : Vs c q' S S' none := fun h0 _ _ h3 => ⟨by rw [h] at h3; exact h3, by show val S' h0 = val S h0; unfold val; rw [h]⟩
theorem Vs.own {S S' : Sm} (h : ∀ h, h ≠ c.h → S'.V h = S.V h) : Vs c q' S S' none := fun h0 h1 _ h3 => ⟨by rw [h _ h1] at h3; exact h3, by show val S' h0 = val S h0; unfold val; rw [h _ h1]⟩
theorem World.oth_ne (W : World N c cap clk A G rs ks M) (ha : rs[a]? = some q) {h : Int} (hh : h ∈ oth rs a) : h ≠ c.h :=
  (W.oth_priv ha).bk.ne_c (List.mem_append_left _ (List.mem_append_right _ (List.mem_append_right _ hh)))
end Go.Proofs.YtjggeoghlicmdaaGreat
namespace Go.Proofs.YtjggeoghlicmdaaGreat
open Go Go.AS Go.RowKit
set_option linter.unusedVariables false
variable {N : Nm} {c : Lc} {A A' : Ab} {G G' : Gr} {cap : Int} {q q' x : Qr} {i j : Nat} {pre rest : List El} {e : El} {P : List Int} {n k k' a clk δ : Nat} {rs : List Qr} {M M' : List (List El)} {ks : Nat → Nat} {V V' : View} {b : Bs}
theorem acc_ne {S : Sm} {h a i : Int} {may : Bool} {f : Wd → Wd} (hn : h ≠ a) : (S.acc a i may f).2.V h = S.V h := by
  unfold Sm.acc
  split
  · rename_i r hr
    split
    · show (Sm.upd S.cnt a i.toNat _).V h = S.V h
      unfold Sm.V
      rw [find_map_upd]
      show Option.map Reg.ws (Option.map _ (S.find h)) = _
      cases hf : S.find h with
      | none => rfl
      | some r2 =>
        have hr : r2.h = h := (find_mem hf).2
        simp only [Option.map_some, Option.some.injEq]
        rw [if_neg (by rw [hr]; exact hn)]
    · rfl
  · rfl
theorem acc_id {S : Sm} {a i : Int} : ∀ h, (S.acc a i true id).2.V h = S.V h := by
  intro h
  by_cases hn : h = a
  · subst hn
    unfold Sm.acc
    split
    · rename_i r hr
      split
      · rename_i hb
        show (Sm.upd S.cnt h i.toNat _).V h = S.V h
        unfold Sm.V
        rw [find_map_upd]
        show Option.map Reg.ws (Option.map _ (S.find h)) = _
        rw [hr]
        have hrh : r.h = h := (find_mem hr).2
        simp only [Option.map_some, Option.some.injEq, hrh, if_true, id]
        refine List.ext_getElem? fun k => ?_
        rw [List.getElem?_set]
        by_cases e : i.toNat = k
        · subst e
          have hlt : i.toNat < r.ws.length := by omega
          rw [if_pos rfl, if_pos hlt, List.getElem?_eq_getElem hlt, List.getD_eq_getElem?_getD, List.getElem?_eq_getElem hlt]; rfl
        · rw [if_neg e]
      · rfl
    · rfl
  · exact acc_ne hn
abbrev Stepd (N : Nm) (c : Lc) (cap : Int) (clk : Nat) (A : Ab) (G : Gr) (rs : List Qr) (ks : Nat → Nat) (M : List (List El)) (a : Nat) (q : Qr) (r : Qr × Gr) : Prop := ∃ A' M' k' δ st, Stp N c cap clk A G rs ks M a q r.1 r.2 A' M' k' δ st
theorem step_eq (hd : q.dn = false) : q.step c G b = doNx c q.nx { q with eff := false } G b := by
  unfold Qr.step; rw [if_neg (by rw [hd]; exact Bool.false_ne_true)]
theorem step_of {nx0 : Nx} (hd : q.dn = false) (hn : q.nx = nx0) : q.step c G b = doNx c nx0 { q with eff := false } G b := by
  subst hn; exact step_eq hd
theorem holds_of (hd : q.dn = false) : q.holds = q.nx.holds := by unfold Qr.holds; rw [hd]; simp
theorem Nxt.keep {B : Nat} (h : Nxt c B A rs M q) (ha : rs[a]? = some q) (hs : ∀ r, q'.scan B = some r → q.scan B = some r) (h1 : q'.fl = q.fl) (h2 : q'.ky = q.ky) (h3 : q'.was = q.was) (hc : A'.chg = A.chg) (hch : q'.chd = true → q.chd = true ∧ q'.room = q.room) : Nxt c B A' (rs.set a q') M q' := by
  intro r hr
  obtain ⟨g1, g2⟩ := h r (hs r hr)
  have e0 : r0 c q' = r0 c q := by unfold r0; rw [h1, h2]
  have ek : ∀ j, kb c q' j = kb c q j := fun j => by unfold kb; rw [h1, h2]
  rw [h3, hc, e0]
  refine ⟨g1, fun hw => ?_⟩
  obtain ⟨g3, g4⟩ := g2 hw
  refine ⟨fun j hj1 hj2 l hl e he => ?_, fun b2 y hy hc => ?_⟩
  · rw [ek]; exact g3 j hj1 hj2 l hl e he
  · rcases (set_some ha).1 hy with ⟨rfl, rfl⟩ | ⟨_, hy⟩
    · obtain ⟨u3, u4⟩ := hch hc
      rw [u4]; exact g4 b2 q ha u3
    · exact g4 b2 y hy hc
def Nx.rd : Nx → Bool
  | .th _ => true
  | .load _ _ _ => true
  | .ask _ _ _ => true
  | _ => false
def Nx.rd2 : Nx → Bool
  | .load _ _ _ => true
  | .ask _ _ _ => true
  | .stillKey => true
  | .free _ => true
  | .leave => true
  | .set => true
  | .space => true
  | .look => true
  | .drop => true
  | .take => true
  | _ => false
theorem rd_all {n : Nx} {m : Int} (h : n.rd = true) : n.holds = true ∧ n.lv = false ∧ n.hi = 0 ∧ n.offp = 0 ∧ n.pend = false ∧ n.fx = false ∧ n.chd m = false ∧ n.priv m = [] := by
  cases n <;> first | exact ⟨rfl, rfl, rfl, rfl, rfl, rfl, rfl, rfl⟩ | exact Bool.noConfusion h
theorem rd2_all {n : Nx} (h : n.rd2 = true) : n.holds = true ∧ n.hi = 0 ∧ n.offp = 0 ∧ n.chd 0 = false ∧ n.priv 0 = [] ∧ ∀ t th, n ≠ .enter t th := by
  cases n <;> first | exact ⟨rfl, rfl, rfl, rfl, rfl, fun _ _ h => by cases h⟩ | exact Bool.noConfusion h
structure Wk (N : Nm) (c : Lc) (A : Ab) (G : Gr) (rs : List Qr) (ks : Nat → Nat) (M : List (List El)) (a : Nat) (q q' : Qr) (k' : Nat) : Prop where
  rd : q'.nx.rd2 = true
  dn : q'.dn = false
  made : q'.made = 0
  room : q'.room = q.room
  sam : q'.kd = q.kd ∧ q'.ky = q.ky ∧ q'.fl = q.fl ∧ q'.val = q.val
  fact : Fact N c A M G.S.V q' k'
  lt : k' < ks a
  nxt : Nxt c N.B A (rs.set a q') M q'
  eff : (q'.eff = true ∧ q'.nx = .leave ∧ Efx c q M G.S q'.no q'.rv q'.rk q'.el none M) ∨ (q'.eff = false ∧ q'.nx.fx = false ∧ q'.no = q.no ∧ q'.rv = q.rv ∧ q'.rk = q.rk ∧ q'.el = q.el)
theorem stp_walk (W : World N c cap clk A G rs ks M) (ha : rs[a]? = some q) (hd : q.dn = false) (hr : q.nx.rd = true) (hm : Mem c cap A (oth rs a) G') (hV : ∀ h, G'.S.V h = G.S.V h) (hi : G'.ins = G.ins) (K : Wk N c A G rs ks M a q q' k') : Stepd N c cap clk A G rs ks M a q (q', G') := by
  obtain ⟨r1, r2, r3, r4, r5, r6, r7, r8⟩ := rd_all (m := q.made) hr
  obtain ⟨t1, t2, t3, t4, t5, t6⟩ := rd2_all K.rd
  have hh : q.holds = true := by rw [holds_of hd]; exact r1
  have hh' : q'.holds = true := by rw [holds_of K.dn]; exact t1
  have hc' : q'.chd = false := by unfold Qr.chd; rw [K.made]; exact t4
  have hp' : q'.priv = [] := by unfold Qr.priv; rw [K.made]; exact t5
  have eV : G'.S.V = G.S.V := funext hV
  refine ⟨A, M, k', 0, none, ?_, Vs.same hV, ?_, ?_, .inl (by have := K.lt; omega), hi, K.sam⟩
  · refine Upd.same W ha (by rw [hp']; exact hm) rfl rfl rfl (by omega) (W.que_hold ha rfl rfl hh hh' K.room t6) (fun h _ => hV h) ?_ (by rw [t2, r3]) (by rw [t3, r4]) (fun h => by rw [r5] at h; cases h) (fun h => by rw [hc'] at h; cases h) K.nxt
    show Fact N c A M G'.S.V q' k'
    rw [eV]; exact K.fact
  · rcases K.eff with ⟨e1, _, e2⟩ | ⟨e1, _, e2⟩
    · exact .inl ⟨e1, e2⟩
    · exact .inr ⟨e1, rfl, rfl, e2⟩
  · have hq : q.fx = false := by unfold Qr.fx; rw [hd, r6]; rfl
    refine ⟨?_, fun h => by rw [hq] at h; cases h⟩
    rw [hq]
    unfold Qr.fx
    rw [K.dn]
    rcases K.eff with ⟨e1, e2, _⟩ | ⟨e1, e2, _⟩ <;> rw [e1, e2] <;> rfl
theorem World.hold_ls (W : World N c cap clk A G rs ks M) (ha : rs[a]? = some q) (hh : q.holds = true) (hp : q.nx.pend = false) (hr : q.room = (i : Int)) (hi : i < A.ls.length) : M[i]? = A.ls[i]? := by
  refine W.rel i hi fun b2 x hx hxr _ => Classical.byContradiction fun hne => ?_
  have hne : x.nx.pend = true := by simpa using hne
  obtain ⟨h1, h2⟩ := pend_holds hne
  have hxh : x.holds = true := by unfold Qr.holds; rw [h1, h2]; simp
  obtain ⟨Q, hQ, _⟩ := W.que i hi
  have e := hQ.one hx ha hxh hh hxr hr
  subst e
  rw [ha] at hx; obtain rfl := Option.some.inj hx
  rw [hp] at hne; cases hne
theorem World.len_E (W : World N c cap clk A G rs ks M) {l : List El} (hl : M[i]? = some l) : l.length ≤ N.E := by
  have h1 := W.le
  have h2 : l.length ≤ M.flatten.length := by
    have h2 : M.flatten = _ := flat_split hl
    rw [h2]; simp only [List.length_append]; omega
  omega
theorem Nxt.next {r : Int} (W : World N c cap clk A G rs ks M) (ha : rs[a]? = some q) (hh : q.holds = true) (hr : q.room = (i : Int)) (hi : i < A.ls.length) (hs : q.scan N.B = some (i : Int)) (hs' : q'.scan N.B = some r) (er : r = (i : Int) + 1) (h1 : q'.fl = q.fl) (h2 : q'.ky = q.ky) (h3 : q'.was = q.was) (hch : q'.chd = false) (hc : Clean c q M i) : Nxt c N.B A (rs.set a q') M q' := by
  intro r' hr'
  rw [hs'] at hr'; obtain rfl := Option.some.inj hr'
  obtain ⟨g1, g2⟩ := W.nxt a q ha _ hs
  have e0 : r0 c q' = r0 c q := by unfold r0; rw [h1, h2]
  have ek : ∀ j, kb c q' j = kb c q j := fun j => by unfold kb; rw [h1, h2]
  rw [h3, e0, er]
  refine ⟨g1, fun hw => ?_⟩
  obtain ⟨g3, g4⟩ := g2 hw
  refine ⟨fun j hj1 hj2 l hl e he => ?_, fun b2 y hy hyc => ?_⟩
  · rw [ek]
    by_cases ej : j = i
    · subst ej; exact hc l hl e he
    · exact g3 j hj1 (by omega) l hl e he
  · rcases (set_some ha).1 hy with ⟨rfl, rfl⟩ | ⟨hb, hy⟩
    · rw [hch] at hyc; cases hyc
    · intro hx
      by_cases ex : y.room = (i : Int)
      · obtain ⟨c1, c2⟩ := chd_holds hyc
        have hyh : y.holds = true := by unfold Qr.holds; rw [c1, c2]; simp
        obtain ⟨Q, hQ, _⟩ := W.que i hi
        exact hb (hQ.one hy ha hyh hh ex hr)
      · exact g4 b2 y hy hyc ⟨hx.1, by omega⟩
structure Kp (q q' : Qr) : Prop where
  kd : q'.kd = q.kd
  ky : q'.ky = q.ky
  fl : q'.fl = q.fl
  val : q'.val = q.val
  was : q'.was = q.was
  made : q'.made = q.made
  room : q'.room = q.room
  dn : q'.dn = false
  eff : q'.eff = false
  no : q'.no = q.no
  rv : q'.rv = q.rv
  rk : q'.rk = q.rk
  el : q'.el = q.el
theorem Kp.trans {q2 : Qr} (h : Kp q q') (h2 : Kp q' q2) : Kp q q2 :=
  ⟨h2.kd.trans h.kd, h2.ky.trans h.ky, h2.fl.trans h.fl, h2.val.trans h.val, h2.was.trans h.was, h2.made.trans h.made, h2.room.trans h.room, h2.dn, h2.eff, h2.no.trans h.no, h2.rv.trans h.rv, h2.rk.trans h.rk, h2.el.trans h.el⟩
theorem wd_eq {x y : Wd} (h : x.toNat = y.toNat) : x = y := BitVec.eq_of_toNat_eq h
theorem wk_found {q1 : Qr} {there : Bool} (W : World N c cap clk A G rs ks M) (ha : rs[a]? = some q) (hd : q.dn = false) (hr : q.nx.rd = true) (hmade : q.made = 0) (K : Kp q q1) (I : In c A i q1 pre rest) (hu : q1.cur = curOf rest)
    (hk4 : q.kd ≠ 4) (hb : bkt q.ky c.d3 = (i : Int)) (hpre : ∀ e ∈ pre, ¬ hits q.ky false e) (ht : there = true → ∃ e r, rest = e :: r ∧ hits q.ky false e ∧ q1.key = e.k) (hf : there = false → rest = []) (hlt : N.op < ks a) :
    Wk N c A G rs ks M a q (q1.found (there && decide (q1.key = q1.ky))) N.op := by
  obtain ⟨r1, r2, r3, r4, r5, r6, r7, r8⟩ := rd_all (m := q.made) hr
  have hh : q.holds = true := by rw [holds_of hd]; exact r1
  have hM : M[i]? = some (pre ++ rest) := by rw [W.hold_ls ha hh r5 (K.room.symm.trans I.room) I.lt]; exact I.ls
  have hsrt := W.srt i _ hM
  have hsp := List.pairwise_append.1 hsrt.1
  have hpre' : ∀ e ∈ pre, e.k.toNat < q.ky.toNat := fun e he => by
    have := hpre e he
    unfold hits at this
    have h1 : ¬ q.ky.toNat < e.k.toNat := fun h => this (.inl h)
    have h2 : ¬ e.k.toNat = q.ky.toNat := fun h => this (.inr ⟨wd_eq h, rfl⟩)
    omega
  have hm1 : q1.made = 0 := K.made.trans hmade
  have nx0 : ∀ {q' : Qr}, q'.scan N.B = none → Nxt c N.B A (rs.set a q') M q' := fun h => nxt_none h
  have scn : ∀ {q' : Qr}, q'.dn = false → q'.nx.scan N.B q'.room = Option.none → q'.scan N.B = Option.none := fun h1 h2 => by unfold Qr.scan; rw [h1]; exact h2
  have hlen := W.len_E hM
  unfold Qr.found
  cases htt : there && decide (q1.key = q1.ky) with
  | true =>
    simp only [Bool.and_eq_true, decide_eq_true_eq] at htt
    obtain ⟨e, r, rfl, hhit, hkey⟩ := ht htt.1
    have ek : e.k = q.ky := by rw [← hkey, htt.2, K.ky]
    have hhas : Has c M q.ky i pre e r := ⟨hb, hM, ek⟩
    have hat : ∀ {q' : Qr}, q'.room = q1.room → q'.ah = q1.ah → q'.ai = q1.ai → q'.cur = q1.cur → q'.ky = q1.ky → AtF c A i q' := fun e1 e2 e3 e4 e5 => ⟨pre, e, r, I.same e1 e2 e3, e4.trans hu, by rw [ek, e5, K.ky], by rw [e5, K.ky]; exact hb⟩
    by_cases e1 : q1.kd = 2 ∧ True ∧ q1.fl = 1
    · rw [if_pos (by simpa using e1)]
      exact ⟨rfl, K.dn, hm1, K.room, ⟨K.kd, K.ky, K.fl, K.val⟩, .inr ⟨i, I.room, I.lt, by unfold Nm.op; omega⟩, hlt, nx0 (scn K.dn rfl), .inl ⟨rfl, rfl, .twice (K.kd.symm.trans e1.1) (K.fl.symm.trans e1.2.2) hhas⟩⟩
    · rw [if_neg (by simpa using e1)]
      by_cases e2 : q1.kd = 2
      · rw [if_pos ⟨e2, rfl⟩]
        have hfl : q1.fl ≠ 1 := fun h => e1 ⟨e2, trivial, h⟩
        exact ⟨rfl, K.dn, hm1, K.room, ⟨K.kd, K.ky, K.fl, K.val⟩, .inr ⟨i, hat rfl rfl rfl rfl rfl, e2, hfl, by unfold Nm.op; omega⟩, hlt, nx0 (scn K.dn rfl), .inr ⟨K.eff, rfl, K.no, K.rv, K.rk, K.el⟩⟩
      · rw [if_neg (fun h => e2 h.1), if_neg (fun h => e2 h.1), if_neg (by simp)]
        by_cases e3 : q1.kd = 1
        · rw [if_pos e3]
          exact ⟨rfl, K.dn, hm1, K.room, ⟨K.kd, K.ky, K.fl, K.val⟩, .inr ⟨i, hat rfl rfl rfl rfl rfl, e3, by unfold Nm.op; omega⟩, hlt, nx0 (scn K.dn rfl), .inr ⟨K.eff, rfl, K.no, K.rv, K.rk, K.el⟩⟩
        · rw [if_neg e3]
          by_cases e4 : q1.kd = 3
          · rw [if_pos e4]
            exact ⟨rfl, K.dn, hm1, K.room, ⟨K.kd, K.ky, K.fl, K.val⟩, .inr ⟨i, hat rfl rfl rfl rfl rfl, e4, by unfold Nm.op; omega⟩, hlt, nx0 (scn K.dn rfl), .inr ⟨K.eff, rfl, K.no, K.rv, K.rk, K.el⟩⟩
          · rw [if_neg e4]
            exact ⟨rfl, K.dn, hm1, K.room, ⟨K.kd, K.ky, K.fl, K.val⟩, .inr ⟨i, hat rfl rfl rfl rfl rfl, e3, e2, e4, by rw [← K.kd] at hk4; exact hk4, by unfold Nm.op; omega⟩, hlt, nx0 (scn K.dn rfl), .inr ⟨K.eff, rfl, K.no, K.rv, K.rk, K.el⟩⟩
  | false =>
    have hrest : ∀ e ∈ rest, q.ky.toNat < e.k.toNat := by
      cases hth : there with
      | false => rw [hf hth]; simp
      | true =>
        obtain ⟨e, r, rfl, hhit, hkey⟩ := ht hth
        rw [hth] at htt
        have hne : ¬ e.k = q.ky := fun h => by
          have h2 : q1.key = q1.ky := by rw [hkey, h, K.ky]
          simp [h2] at htt
        have h1 : q.ky.toNat < e.k.toNat := by
          rcases hhit with h | h
          · exact h
          · exact absurd h.1 hne
        intro x hx
        rcases List.mem_cons.1 hx with rfl | hx
        · exact h1
        · have := (List.pairwise_cons.1 hsp.2.1).1 x hx
          omega
    have hmiss : Miss c M q.ky := ⟨i, pre ++ rest, hb, hM, fun e he h => by
      rcases List.mem_append.1 he with he | he
      · have := hpre' e he; rw [h] at this; omega
      · have := hrest e he; rw [h] at this; omega⟩
    rw [if_neg (by simp), if_neg (by simp)]
    by_cases e1 : q1.kd = 2 ∧ q1.fl ≠ 2
    · rw [if_pos e1]
      have hg : GapF c A i (q1.to .space) := ⟨pre, rest, I.same rfl rfl rfl, by show BitVec.ofInt 64 q1.cur = _; rw [hu]; cases rest <;> rfl, by show ∀ e ∈ pre, _ < q1.ky.toNat; rw [K.ky]; exact hpre', by show ∀ e ∈ rest, q1.ky.toNat < _; rw [K.ky]; exact hrest, by show bkt q1.ky c.d3 = _; rw [K.ky]; exact hb, e1.1, e1.2⟩
      exact ⟨rfl, K.dn, hm1, K.room, ⟨K.kd, K.ky, K.fl, K.val⟩, .inr ⟨i, .inl ⟨hm1, by unfold Nm.op; omega⟩, hg⟩, hlt, nx0 (scn K.dn rfl), .inr ⟨K.eff, rfl, K.no, K.rv, K.rk, K.el⟩⟩
    · rw [if_neg e1, if_pos rfl]
      exact ⟨rfl, K.dn, hm1, K.room, ⟨K.kd, K.ky, K.fl, K.val⟩, .inr ⟨i, I.room, I.lt, by unfold Nm.op; omega⟩, hlt, nx0 (scn K.dn rfl), .inl ⟨rfl, rfl, .none hk4 (fun h => Classical.byContradiction fun h2 => e1 ⟨K.kd.trans h, by rw [K.fl]; exact h2⟩) hmiss⟩⟩
end Go.Proofs.YtjggeoghlicmdaaGreat
namespace Go.Proofs.YtjggeoghlicmdaaGreat
open Go Go.AS Go.RowKit
set_option linter.unusedVariables false
variable {N : Nm} {c : Lc} {A A' : Ab} {G G' : Gr} {cap : Int} {q q' x : Qr} {i j : Nat} {pre rest : List El} {e : El} {P : List Int} {n k k' a clk δ : Nat} {rs : List Qr} {M M' : List (List El)} {ks : Nat → Nat} {V V' : View} {b : Bs}
theorem same_kp (K : Kp q q') : q'.same A = q.same A := by unfold Qr.same; rw [K.was]
theorem kb_kp (K : Kp q q') (i : Nat) : kb c q' i = kb c q i := by unfold kb; rw [K.fl, K.ky]
theorem r0_kp (K : Kp q q') : r0 c q' = r0 c q := by unfold r0; rw [K.fl, K.ky]
theorem wk_next {q1 : Qr} {there : Bool} (W : World N c cap clk A G rs ks M) (ha : rs[a]? = some q) (hd : q.dn = false) (hr : q.nx.rd = true) (hmade : q.made = 0) (K : Kp q q1) (I : In c A i q1 pre rest) (hu : q1.cur = curOf rest)
    (hk4 : q.kd = 4) (hb : r0 c q ≤ (i : Int)) (hsc : q.scan N.B = some (i : Int)) (hpre : ∀ e ∈ pre, ¬ hits (kb c q i).1 (kb c q i).2 e) (ht : there = true → ∃ e r, rest = e :: r ∧ hits (kb c q i).1 (kb c q i).2 e ∧ q1.key = e.k) (hf : there = false → rest = []) (hlt : 1 + sc N M (i + 1) (q.same A) < ks a) :
    Wk N c A G rs ks M a q (q1.cb (.next (i : Int)) there) (1 + sc N M (i + 1) (q.same A)) := by
  obtain ⟨r1, r2, r3, r4, r5, r6, r7, r8⟩ := rd_all (m := q.made) hr
  have hh : q.holds = true := by rw [holds_of hd]; exact r1
  have hM : M[i]? = some (pre ++ rest) := by rw [W.hold_ls ha hh r5 (K.room.symm.trans I.room) I.lt]; exact I.ls
  have hm1 : q1.made = 0 := K.made.trans hmade
  cases there with
  | true =>
    obtain ⟨e, r, rfl, hhit, hkey⟩ := ht rfl
    have hs : (q1.to .stillKey).scan N.B = some (i : Int) := by unfold Qr.scan; show (if q1.dn then _ else some q1.room) = _; rw [K.dn, I.room]; rfl
    refine ⟨rfl, K.dn, hm1, K.room, ⟨K.kd, K.ky, K.fl, K.val⟩, .inr ⟨i, K.kd.trans hk4, hm1, by show r0 c q1 ≤ _; rw [r0_kp K]; exact hb, ⟨pre, e, r, I.same rfl rfl rfl, hkey, ?_, ?_⟩, ?_⟩, hlt, ?_, .inr ⟨K.eff, rfl, K.no, K.rv, K.rk, K.el⟩⟩
    · show hits (kb c q1 i).1 (kb c q1 i).2 e
      rw [kb_kp K]; exact hhit
    · show ∀ e ∈ pre, ¬ hits (kb c q1 i).1 (kb c q1 i).2 e
      rw [kb_kp K]; exact hpre
    · show 6 + (if q1.same A then 0 else N.sz) ≤ _
      rw [same_kp K]; unfold sc; omega
    · refine (W.nxt a q ha).keep ha (fun r hr => ?_) K.fl K.ky K.was rfl (fun h => by cases h)
      have hr : (q1.to .stillKey).scan N.B = some r := hr
      rw [hs] at hr; rw [hsc]; exact hr
  | false =>
    have hrest := hf rfl
    subst hrest
    have hs : (q1.to (.free (i : Int))).scan N.B = some ((i : Int) + 1) := by unfold Qr.scan; show (if q1.dn then _ else some _) = _; rw [K.dn]; rfl
    refine ⟨rfl, K.dn, hm1, K.room, ⟨K.kd, K.ky, K.fl, K.val⟩, .inr ⟨i, K.kd.trans hk4, rfl, I.room, I.lt, hm1, by show r0 c q1 ≤ _; rw [r0_kp K]; exact hb, ?_⟩, hlt, ?_, .inr ⟨K.eff, rfl, K.no, K.rv, K.rk, K.el⟩⟩
    · show 1 + sc N M (i + 1) (q1.same A) ≤ _
      rw [same_kp K]; exact Nat.le_refl _
    · refine Nxt.next W ha hh (K.room.symm.trans I.room) I.lt hsc hs rfl K.fl K.ky K.was rfl fun l hl e he => ?_
      rw [hM] at hl
      obtain rfl := Option.some.inj hl
      rw [List.append_nil] at he
      exact hpre e he
theorem CbF.kp {kk : Wd} {bh : Bool} {cb : Cb} (h : CbF c i q kk bh cb) (K : Kp q q') : CbF c i q' kk bh cb := by
  cases cb with
  | find => exact ⟨by rw [K.kd]; exact h.1, by rw [K.ky]; exact h.2.1, by rw [K.ky]; exact h.2.2.1, h.2.2.2⟩
  | next room => exact ⟨by rw [K.kd]; exact h.1, h.2.1, by rw [r0_kp K]; exact h.2.2.1, by rw [kb_kp K]; exact h.2.2.2.1, by rw [kb_kp K]; exact h.2.2.2.2⟩
theorem CbN_kp {cb : Cb} (K : Kp q q') : CbN N A M i q' cb = CbN N A M i q cb := by
  cases cb with
  | find => rfl
  | next room => show 1 + sc N M (i + 1) (q'.same A) = _; rw [same_kp K]; rfl
def Cb.sc : Cb → Option Int
  | .find => Option.none
  | .next r => some r
theorem wk_cb {q1 : Qr} {kk : Wd} {bh : Bool} {cb : Cb} {there : Bool} (W : World N c cap clk A G rs ks M) (ha : rs[a]? = some q) (hd : q.dn = false) (hr : q.nx.rd = true) (hmade : q.made = 0) (K : Kp q q1) (I : In c A i q1 pre rest) (hu : q1.cur = curOf rest)
    (hcb : CbF c i q kk bh cb) (hsc : q.scan N.B = cb.sc) (hpre : ∀ e ∈ pre, ¬ hits kk bh e) (ht : there = true → ∃ e r, rest = e :: r ∧ hits kk bh e ∧ q1.key = e.k) (hf : there = false → rest = []) (hlt : CbN N A M i q cb < ks a) :
    Wk N c A G rs ks M a q (q1.cb cb there) (CbN N A M i q cb) := by
  cases cb with
  | find =>
    obtain ⟨h1, h2, rfl, rfl⟩ := hcb
    exact wk_found W ha hd hr hmade K I hu h1 h2 hpre ht hf hlt
  | next room =>
    obtain ⟨h1, rfl, h3, rfl, rfl⟩ := hcb
    exact wk_next W ha hd hr hmade K I hu h1 h3 hsc hpre ht hf hlt
theorem wk_loaded {q1 : Qr} {kk : Wd} {bh : Bool} {cb : Cb} (W : World N c cap clk A G rs ks M) (ha : rs[a]? = some q) (hd : q.dn = false) (hr : q.nx.rd = true) (hmade : q.made = 0) (K : Kp q q1) (I : In c A i q1 pre rest)
    (hcb : CbF c i q kk bh cb) (hsc : q.scan N.B = cb.sc) (hpre : ∀ e ∈ pre, ¬ hits kk bh e) (hlt : 2 * rest.length + CbN N A M i q cb < ks a) : ∃ k', Wk N c A G rs ks M a q (q1.loaded (first rest) kk bh cb) k' := by
  have ee := (s_load W.mem I kk bh cb).2.2
  rw [ee]
  clear ee
  cases rest with
  | nil => exact ⟨_, wk_cb (pre := pre) (rest := []) (q1 := ({ q1 with cur := 0 } : Qr).to (.ask kk bh cb)) W ha hd hr hmade (K.trans ⟨rfl, rfl, rfl, rfl, rfl, rfl, rfl, K.dn, K.eff, rfl, rfl, rfl, rfl⟩) (I.same rfl rfl rfl) rfl hcb hsc hpre (fun h => by cases h) (fun _ => rfl) (by simp at hlt; exact hlt)⟩
  | cons e r =>
    refine ⟨2 * (e :: r).length + CbN N A M i q cb, rfl, K.dn, K.made.trans hmade, K.room, ⟨K.kd, K.ky, K.fl, K.val⟩, .inr ⟨i, K.made.trans hmade, hcb.kp (K.trans ⟨rfl, rfl, rfl, rfl, rfl, rfl, rfl, K.dn, K.eff, rfl, rfl, rfl, rfl⟩), pre, e, r, I.same rfl rfl rfl, rfl, hpre, ?_⟩, hlt, ?_, .inr ⟨K.eff, rfl, K.no, K.rv, K.rk, K.el⟩⟩
    · have : CbN N A M i (({ q1 with cur := e.h } : Qr).to (.ask kk bh cb)) cb = CbN N A M i q cb := CbN_kp (K.trans ⟨rfl, rfl, rfl, rfl, rfl, rfl, rfl, K.dn, K.eff, rfl, rfl, rfl, rfl⟩)
      show 2 + 2 * r.length + CbN N A M i (({ q1 with cur := e.h } : Qr).to (.ask kk bh cb)) cb ≤ _
      rw [this, List.length_cons]; omega
    · refine (W.nxt a q ha).keep ha (fun r hr => ?_) K.fl K.ky K.was rfl (fun h => by cases h)
      rw [hsc]
      have hr : (if q1.dn = true then Option.none else (Nx.ask kk bh cb).scan N.B q1.room) = some r := hr
      rw [K.dn] at hr
      cases cb <;> exact hr
theorem rd_priv (hr : q.nx.rd = true) : q.priv = [] := (rd_all (m := q.made) hr).2.2.2.2.2.2.2
theorem w_load {kk : Wd} {bh : Bool} {cb : Cb} (W : World N c cap clk A G rs ks M) (ha : rs[a]? = some q) (hd : q.dn = false) (hn : q.nx = .load kk bh cb) : Stepd N c cap clk A G rs ks M a q (q.step c G b) := by
  have hrd : q.nx.rd = true := by rw [hn]; rfl
  have M0 := W.oth_priv ha
  rw [rd_priv hrd] at M0
  rcases W.fact a q ha with h | ⟨i, h⟩
  · rw [hd] at h; cases h
  rw [hn] at h
  obtain ⟨h1, h2, pre, rest, I, hpre, hk⟩ := h
  have I' : In c A i ({ q with eff := false } : Qr) pre rest := I.same rfl rfl rfl
  have K : Kp q { q with eff := false } := ⟨rfl, rfl, rfl, rfl, rfl, rfl, rfl, hd, rfl, rfl, rfl, rfl, rfl⟩
  rw [step_of hd hn, s_loadN M0 I' kk bh cb]
  obtain ⟨k', hw⟩ := wk_loaded W ha hd hrd h1 K I' h2 (by unfold Qr.scan; rw [hd, hn]; cases cb <;> rfl) hpre (by omega)
  exact stp_walk W ha hd hrd (s_load M0 I' kk bh cb).2.1 acc_id rfl hw
theorem w_ask {kk : Wd} {bh : Bool} {cb : Cb} (W : World N c cap clk A G rs ks M) (ha : rs[a]? = some q) (hd : q.dn = false) (hn : q.nx = .ask kk bh cb) : Stepd N c cap clk A G rs ks M a q (q.step c G b) := by
  have hrd : q.nx.rd = true := by rw [hn]; rfl
  have M0 := W.oth_priv ha
  rw [rd_priv hrd] at M0
  rcases W.fact a q ha with h | ⟨i, h⟩
  · rw [hd] at h; cases h
  rw [hn] at h
  obtain ⟨h1, h2, pre, e, rest, I, hu, hpre, hk⟩ := h
  have I' : In c A i ({ q with eff := false } : Qr) pre (e :: rest) := I.same rfl rfl rfl
  have K : Kp q { q with eff := false } := ⟨rfl, rfl, rfl, rfl, rfl, rfl, rfl, hd, rfl, rfl, rfl, rfl, rfl⟩
  have hsc : q.scan N.B = cb.sc := by unfold Qr.scan; rw [hd, hn]; cases cb <;> rfl
  obtain ⟨g1, g2⟩ := s_ask (b := b) M0 I' hu kk bh cb
  rw [step_of hd hn, g1]
  unfold Qr.asked
  by_cases ht : kk.toNat < e.k.toNat ∨ (e.k = kk ∧ bh = false)
  · rw [if_pos ht]
    have hw := wk_cb (there := true) (q1 := { ({ q with eff := false } : Qr) with key := e.k }) W ha hd hrd h1 (K.trans ⟨rfl, rfl, rfl, rfl, rfl, rfl, rfl, hd, rfl, rfl, rfl, rfl, rfl⟩) (I.same rfl rfl rfl) hu h2 hsc hpre (fun _ => ⟨e, rest, rfl, ht, rfl⟩) (fun h => by cases h) (by omega)
    exact stp_walk W ha hd hrd g2 acc_id rfl hw
  · rw [if_neg ht]
    have K2 : Kp q (({ ({ q with eff := false } : Qr) with key := e.k, ah := q.cur, ai := 0 } : Qr).to (.load kk bh cb)) := K.trans ⟨rfl, rfl, rfl, rfl, rfl, rfl, rfl, hd, rfl, rfl, rfl, rfl, rfl⟩
    refine stp_walk (k' := 1 + 2 * rest.length + CbN N A M i q cb) W ha hd hrd g2 acc_id rfl ⟨rfl, hd, h1, rfl, ⟨rfl, rfl, rfl, rfl⟩, .inr ⟨i, h1, h2.kp K2, pre ++ [e], rest, I.on rfl hu rfl, fun x hx => ?_, ?_⟩, by omega, ?_, .inr ⟨rfl, rfl, rfl, rfl, rfl, rfl⟩⟩
    · rcases List.mem_append.1 hx with hx | hx
      · exact hpre x hx
      · simp only [List.mem_singleton] at hx; subst hx; exact ht
    · exact Nat.le_of_eq (by rw [CbN_kp K2])
    · refine (W.nxt a q ha).keep ha (fun r hr => ?_) rfl rfl rfl rfl (fun h => by cases h)
      rw [hsc]
      have hr : (if q.dn = true then Option.none else (Nx.load kk bh cb).scan N.B q.room) = some r := hr
      rw [hd] at hr
      cases cb <;> exact hr
theorem sc_step {l : List El} {s : Bool} (hl : M[i]? = some l) (hi : i < N.B) : sc N M i s = sc N M (i + 1) s + 2 * l.length + 6 := by
  obtain ⟨h1, h2⟩ := List.getElem?_eq_some_iff.1 hl
  unfold sc
  rw [List.drop_eq_getElem_cons h1, List.flatten_cons, List.length_append, h2]; omega
theorem w_th {th : Th} (W : World N c cap clk A G rs ks M) (ha : rs[a]? = some q) (hd : q.dn = false) (hn : q.nx = .th th) : Stepd N c cap clk A G rs ks M a q (q.step c G b) := by
  have hrd : q.nx.rd = true := by rw [hn]; rfl
  obtain ⟨r1, _, _, _, r5, _⟩ := rd_all (m := q.made) hrd
  have hh : q.holds = true := by rw [holds_of hd]; exact r1
  have M0 := W.oth_priv ha
  rw [rd_priv hrd] at M0
  rcases W.fact a q ha with h | ⟨i, h⟩
  · rw [hd] at h; cases h
  rw [hn] at h
  obtain ⟨hr, hi, hth, h1, hk⟩ := h
  have hM := W.hold_ls ha hh r5 hr hi
  have hl : A.ls[i]? = some A.ls[i] := List.getElem?_eq_getElem hi
  have hlen := W.len_E (hM.trans hl)
  have K : Kp q { q with eff := false } := ⟨rfl, rfl, rfl, rfl, rfl, rfl, rfl, hd, rfl, rfl, rfl, rfl, rfl⟩
  obtain ⟨G1, g1, g2⟩ := s_th (b := b) (q := { q with eff := false }) M0 hl hr th
  rw [step_of hd hn, g1]
  have ek : ∀ q1 : Qr, q1.ky = q.ky → th.key q1 = th.key q := fun q1 e => by cases th with | op => simp only [Th.key, e] | search _ _ _ => rfl
  rw [ek { q with eff := false } rfl]
  have I : In c A i (({ ({ q with eff := false } : Qr) with ah := c.h, ai := Go.Proofs.YtjggeoghlicmdaaGreat.hd ({ q with eff := false } : Qr).room } : Qr).to (.load (th.key q).1 (th.key q).2.1 (th.key q).2.2)) [] A.ls[i] :=
    In.head hl hr rfl (by show Go.Proofs.YtjggeoghlicmdaaGreat.hd q.room = _; rw [hr]) (by have := W.mem.rooms.2.2; omega)
  obtain ⟨k', hw⟩ := wk_loaded (pre := []) (rest := A.ls[i]) (q1 := (({ ({ q with eff := false } : Qr) with ah := c.h, ai := Go.Proofs.YtjggeoghlicmdaaGreat.hd ({ q with eff := false } : Qr).room } : Qr).to (.load (th.key q).1 (th.key q).2.1 (th.key q).2.2))) W ha hd hrd h1 (K.trans ⟨rfl, rfl, rfl, rfl, rfl, rfl, rfl, hd, rfl, rfl, rfl, rfl, rfl⟩) I hth (by unfold Qr.scan; rw [hd, hn]; cases th <;> rfl) (fun e he => by cases he) (by
    cases th with
    | op =>
      have hk : 3 + N.w + N.op ≤ ks a + 2 := hk
      show 2 * A.ls[i].length + N.op < ks a
      unfold Nm.w at hk; omega
    | search kk bh room =>
      have hk : sc N M i (q.same A) ≤ ks a + 2 := hk
      show 2 * A.ls[i].length + (1 + sc N M (i + 1) (q.same A)) < ks a
      rw [sc_step (hM.trans hl) (by have := W.nB; omega)] at hk; omega)
  have eG : G1 = G.mem (doTh c th { q with eff := false } G.S).2 := (congrArg Prod.snd g1).symm
  refine stp_walk W ha hd hrd g2 ?_ ?_ hw
  · rw [eG]; exact acc_id
  · rw [eG]
theorem thn_pos {th : Th} : 3 ≤ ThN N A M i q th := by
  cases th with
  | op => show 3 ≤ 3 + N.w + N.op; omega
  | search _ _ _ => show 3 ≤ sc N M i (q.same A); unfold sc; omega
theorem w_enter {t : Tk} {th : Th} (W : World N c cap clk A G rs ks M) (ha : rs[a]? = some q) (hd : q.dn = false) (hn : q.nx = .enter t th) : Stepd N c cap clk A G rs ks M a q (q.step c G b) := by
  have M0 := W.oth_priv ha
  have hpr : q.priv = [] := by unfold Qr.priv; rw [hn]; rfl
  rw [hpr] at M0
  have hfx : q.fx = false := by unfold Qr.fx; rw [hd, hn]; rfl
  have hhd : q.holds = false := by rw [holds_of hd, hn]; rfl
  rcases W.fact a q ha with h | ⟨i, h⟩
  · rw [hd] at h; cases h
  rw [hn] at h
  obtain ⟨hr, hi, hti, hph, hth, h1, hk⟩ := h
  have hM0 : c.h ∉ oth rs a := fun h => W.oth_ne ha h rfl
  rcases hph with hp | hp
  · -- a ticket is drawn
    obtain ⟨G1, g1, g2⟩ := s_draw (b := b) (q := { q with eff := false }) (k := th) M0 (t := t) hi hti hp
    rw [step_of hd hn, g1]
    have hin : q.inq = false := by unfold Qr.inq; rw [hhd, hn]; show (false || decide (t.ph = 1)) = false; simp [hp]
    have eG : G1 = G.mem (t.step c G.S).2.2 := (congrArg Prod.snd g1).symm
    have hV : ∀ h, h ≠ c.h → G1.S.V h = G.S.V h := fun h hh => by
      rw [eG]; show (t.step c G.S).2.2.V h = _
      unfold Tk.step; rw [if_pos hp]; exact acc_ne hh
    refine ⟨drawn A i, M, ks a - 1, 0, none, ?_, Vs.own hV, .inr ⟨rfl, rfl, rfl, rfl, rfl, rfl, rfl⟩, ⟨?_, fun h => by rw [hfx] at h; cases h⟩, .inl (by have := thn_pos (N := N) (A := A) (M := M) (i := i) (q := q) (th := th); omega), by rw [eG], ⟨rfl, rfl, rfl, rfl⟩⟩
    · refine Upd.same W ha g2 rfl rfl rfl (by show A.mb ≤ A.mb + 1; omega) (W.que_draw ha hi hin hr rfl rfl rfl) (fun h hh => hV h fun e => hM0 (e ▸ hh)) (.inr ⟨i, hr, hi, hti, .inr rfl, hth, h1, ?_⟩) (by rw [hn]; rfl) (by rw [hn]; rfl) (fun h => by rw [hn] at h; cases h) (fun h => by cases h) ?_
      · have hk : ThN N A M i q th ≤ ks a + t.ph := hk
        rw [hp] at hk
        have h0 := thn_pos (N := N) (A := A) (M := M) (i := i) (q := q) (th := th)
        show ThN N A M i q th ≤ ks a - 1 + 1
        omega
      · refine (W.nxt a q ha).keep ha (fun r hr => ?_) rfl rfl rfl rfl (fun h => by cases h)
        have hr : (if q.dn = true then Option.none else (Nx.enter t th).scan N.B q.room) = some r := by
          rw [← hr]; unfold Qr.scan Qr.to; cases th <;> rfl
        unfold Qr.scan; rw [hn]; exact hr
    · rw [hfx]; show (q.dn || false) = _; rw [hd]; rfl
  · obtain ⟨G1, g1, g2⟩ := s_wait (b := b) (q := { q with eff := false }) (k := th) M0 (t := t) hi hti hp
    rw [step_of hd hn, g1]
    have hin : q.inq = true := by unfold Qr.inq; rw [hhd, hn]; show (false || decide (t.ph = 1)) = true; simp [hp]
    have eG : G1 = G.mem (t.step c G.S).2.2 := (congrArg Prod.snd g1).symm
    have hV : ∀ h, G1.S.V h = G.S.V h := fun h => by
      rw [eG]; show (t.step c G.S).2.2.V h = _
      unfold Tk.step
      rw [if_neg (by omega), if_pos hp]
      split <;> exact acc_id h
    have eV : G1.S.V = G.S.V := funext hV
    have hins : G1.ins = G.ins := by rw [eG]
    by_cases e : A.sv i = t.t
    · rw [if_pos e]
      refine ⟨A, M, ks a - 1, 0, none, ?_, Vs.same hV, .inr ⟨rfl, rfl, rfl, rfl, rfl, rfl, rfl⟩, ⟨?_, fun h => by rw [hfx] at h; cases h⟩, .inl (by have := thn_pos (N := N) (A := A) (M := M) (i := i) (q := q) (th := th); omega), hins, ⟨rfl, rfl, rfl, rfl⟩⟩
      · refine Upd.same W ha g2 rfl rfl rfl (by omega) (W.que_got ha hr hn hp e rfl (by show (true && !(q.dn && false)) = true; rw [hd]; rfl) (fun _ _ h => by cases h)) (fun h _ => hV h) (.inr ⟨i, hr, hi, hth, h1, ?_⟩) (by rw [hn]; rfl) (by rw [hn]; rfl) (fun h => by rw [hn] at h; cases h) (fun h => by cases h) ?_
        · show ThN N A M i q th ≤ ks a - 1 + 2
          omega
        · refine (W.nxt a q ha).keep ha (fun r hr => ?_) rfl rfl rfl rfl (fun h => by cases h)
          have hr : (if q.dn = true then Option.none else (Nx.th th).scan N.B q.room) = some r := hr
          unfold Qr.scan; rw [hn]
          rw [← hr]; cases th <;> rfl
      · rw [hfx]; show (q.dn || false) = _; rw [hd]; rfl
    · rw [if_neg e]
      refine ⟨A, M, ks a, 0, none, ?_, Vs.same hV, .inr ⟨rfl, rfl, rfl, rfl, rfl, rfl, rfl⟩, ⟨?_, fun h => by rw [hfx] at h; cases h⟩, .inr ⟨.inl ⟨t, th, i, hn, hp, hr, e⟩, rfl, rfl, rfl, rfl, hn.symm, rfl⟩, hins, ⟨rfl, rfl, rfl, rfl⟩⟩
      · refine Upd.same W ha g2 rfl rfl rfl (by omega) (W.que_keep ha rfl rfl (fun _ => ?_) fun _ => ⟨fun h => ?_, fun t' th' h _ => ?_⟩) (fun h _ => hV h) (.inr ⟨i, hr, hi, hti, .inr hp, hth, h1, hk⟩) (by rw [hn]; rfl) (by rw [hn]; rfl) (fun h => by rw [hn] at h; cases h) (fun h => by cases h) ?_
        · have : (({ q with eff := false } : Qr).to (.enter t th)).inq = true := by
            unfold Qr.inq; show (_ || decide (t.ph = 1)) = true; simp [hp]
          rw [this, hin]; exact Iff.rfl
        · have : (({ q with eff := false } : Qr).to (.enter t th)).holds = false := rfl
          rw [this] at h; cases h
        · obtain ⟨rfl, rfl⟩ := Nx.enter.inj h
          exact ⟨th, hn⟩
        · refine (W.nxt a q ha).keep ha (fun r hr => ?_) rfl rfl rfl rfl (fun h => by cases h)
          have hr : (if q.dn = true then Option.none else (Nx.enter t th).scan N.B q.room) = some r := hr
          unfold Qr.scan; rw [hn]; exact hr
      · rw [hfx]; show (q.dn || false) = _; rw [hd]; rfl
end Go.Proofs.YtjggeoghlicmdaaGreat
namespace Go.Proofs.YtjggeoghlicmdaaGreat
open Go Go.AS Go.RowKit
set_option linter.unusedVariables false
variable {N : Nm} {c : Lc} {A A' : Ab} {G G' : Gr} {cap : Int} {q q' x : Qr} {i j : Nat} {pre rest : List El} {e : El} {P : List Int} {n k k' a clk δ : Nat} {rs : List Qr} {M M' : List (List El)} {ks : Nat → Nat} {V V' : View} {b : Bs}
theorem leave_holds (hd : q.dn = false) {no el : Int} {rv : List Wd} {rk : Wd} : ((({ q with eff := false } : Qr).give no rv rk el).to .leave).holds = true := by
  show (true && !(q.dn && true)) = true; rw [hd]; rfl
theorem scan_none (h : q'.nx.scan N.B q'.room = Option.none) : q'.scan N.B = Option.none := by unfold Qr.scan; rw [h]; split <;> rfl
theorem w_set (W : World N c cap clk A G rs ks M) (ha : rs[a]? = some q) (hd : q.dn = false) (hn : q.nx = .set) : Stepd N c cap clk A G rs ks M a q (q.step c G b) := by
  have M0 := W.oth_priv ha
  have hpr : q.priv = [] := by unfold Qr.priv; rw [hn]; rfl
  rw [hpr] at M0
  have hfx : q.fx = false := by unfold Qr.fx; rw [hd, hn]; rfl
  have hhd : q.holds = true := by rw [holds_of hd, hn]; rfl
  rcases W.fact a q ha with h | ⟨i, h⟩
  · rw [hd] at h; cases h
  rw [hn] at h
  obtain ⟨⟨pre, e, rest, I, hu, ek, hb⟩, hk2, hfl, hk⟩ := h
  have hM : M[i]? = some (pre ++ e :: rest) := by rw [W.hold_ls ha hhd (by rw [hn]; rfl) I.room I.lt]; exact I.ls
  have he := I.el
  obtain ⟨s1, s2, s3, s4⟩ := M0.stVal (h := q.cur) (by rw [hu]; exact M0.elm he) q.val
  have e1 : q.step c G b = ((({ q with eff := false } : Qr).give 0 [] 0 0).to .leave, G.mem (G.S.acc q.cur 2 true fun _ => q.val).2) := by rw [step_of hd hn]; rfl
  rw [e1]
  refine ⟨A, M, 1, 0, some (e.h, q.val), ?_, fun h h1 h2 h3 => ?_, .inl ⟨rfl, .set hk2 hfl ⟨hb, hM, ek⟩⟩, ⟨?_, fun h => by rw [hfx] at h; cases h⟩, .inl (by omega), rfl, ⟨rfl, rfl, rfl, rfl⟩⟩
  · refine Upd.same W ha s2 rfl rfl rfl (by omega) (W.que_hold ha rfl rfl hhd (leave_holds hd) rfl (fun _ _ h => by cases h)) (fun h hh => s3 h fun e2 => M0.el_ne he hh (hu.symm.trans e2.symm)) (.inr ⟨i, I.room, I.lt, Nat.le_refl _⟩) (by rw [hn]; rfl) (by rw [hn]; rfl) (fun h => by rw [hn] at h; cases h) (fun h => by cases h) (nxt_none (scan_none rfl))
  · by_cases e2 : h = e.h
    · subst e2
      obtain ⟨v, hv⟩ := M0.elem I.ls
      refine ⟨by rw [hv]; simp, ?_⟩
      show val _ e.h = if e.h = e.h then q.val else _
      rw [if_pos rfl, ← hu]; exact s4
    · have e3 : (G.S.acc q.cur 2 true fun _ => q.val).2.V h = G.S.V h := s3 h (by rw [hu]; exact e2)
      refine ⟨by rw [← e3]; exact h3, ?_⟩
      show val _ h = if h = e.h then q.val else val G.S h
      rw [if_neg e2]; unfold val; rw [show (G.mem (G.S.acc q.cur 2 true fun _ => q.val).2).S.V h = G.S.V h from e3]
  · rw [hfx]; show (q.dn || true) = true; rw [hd]; rfl
theorem w_look (W : World N c cap clk A G rs ks M) (ha : rs[a]? = some q) (hd : q.dn = false) (hn : q.nx = .look) : Stepd N c cap clk A G rs ks M a q (q.step c G b) := by
  have M0 := W.oth_priv ha
  have hpr : q.priv = [] := by unfold Qr.priv; rw [hn]; rfl
  rw [hpr] at M0
  have hfx : q.fx = false := by unfold Qr.fx; rw [hd, hn]; rfl
  have hhd : q.holds = true := by rw [holds_of hd, hn]; rfl
  rcases W.fact a q ha with h | ⟨i, h⟩
  · rw [hd] at h; cases h
  rw [hn] at h
  obtain ⟨⟨pre, e, rest, I, hu, ek, hb⟩, hk1, hk⟩ := h
  have hM : M[i]? = some (pre ++ e :: rest) := by rw [W.hold_ls ha hhd (by rw [hn]; rfl) I.room I.lt]; exact I.ls
  obtain ⟨G1, s1, s2⟩ := s_look (b := b) (q := { q with eff := false }) M0 I.el hu
  rw [step_of hd hn, s1]
  have eG : G1 = G.mem (G.S.acc q.cur 2 true id).2 := (congrArg Prod.snd s1).symm
  have hV : ∀ h, G1.S.V h = G.S.V h := fun h => by rw [eG]; exact acc_id h
  have eel : Qr.elem c { q with eff := false } (val G.S e.h) = elemOf c e.h (val G.S e.h) := by unfold Qr.elem elemOf; rw [show ({ q with eff := false } : Qr).cur = e.h from hu]
  refine ⟨A, M, 1, 0, none, ?_, Vs.same hV, .inl ⟨rfl, ?_⟩, ⟨?_, fun h => by rw [hfx] at h; cases h⟩, .inl (by omega), by rw [eG], ⟨rfl, rfl, rfl, rfl⟩⟩
  · exact Upd.same W ha s2 rfl rfl rfl (by omega) (W.que_hold ha rfl rfl hhd (leave_holds hd) rfl (fun _ _ h => by cases h)) (fun h _ => hV h) (.inr ⟨i, I.room, I.lt, Nat.le_refl _⟩) (by rw [hn]; rfl) (by rw [hn]; rfl) (fun h => by rw [hn] at h; cases h) (fun h => by cases h) (nxt_none (scan_none rfl))
  · show Efx c q M G.S 0 [val G.S e.h] 0 (Qr.elem c { q with eff := false } (val G.S e.h)) none M
    rw [eel]; exact .look hk1 ⟨hb, hM, ek⟩
  · rw [hfx]; show (q.dn || true) = true; rw [hd]; rfl
theorem drop_V {S : Sm} : ∀ h, h ≠ c.h → (dropL c q S).V h = S.V h := fun h hh => acc_ne hh
theorem w_leave (W : World N c cap clk A G rs ks M) (ha : rs[a]? = some q) (hd : q.dn = false) (hn : q.nx = .leave) : Stepd N c cap clk A G rs ks M a q (q.step c G b) := by
  have M0 := W.oth_priv ha
  have hpr : q.priv = [] := by unfold Qr.priv; rw [hn]; rfl
  rw [hpr] at M0
  have hfx : q.fx = true := by unfold Qr.fx; rw [hd, hn]; rfl
  have hhd : q.holds = true := by rw [holds_of hd, hn]; rfl
  rcases W.fact a q ha with h | ⟨i, h⟩
  · rw [hd] at h; cases h
  rw [hn] at h
  obtain ⟨hr, hi, hk⟩ := h
  obtain ⟨G1, s1, s2⟩ := s_leave (b := b) (q := { q with eff := false }) M0 hr hi
  rw [step_of hd hn, s1]
  have eG : G1 = G.mem (dropL c { q with eff := false } G.S) := (congrArg Prod.snd s1).symm
  have hV : ∀ h, h ≠ c.h → G1.S.V h = G.S.V h := fun h hh => by rw [eG]; exact drop_V h hh
  have hp' : ({ ({ q with eff := false } : Qr) with dn := true } : Qr).priv = [] := hpr
  refine ⟨freed A i, M, 0, 0, none, ?_, Vs.own hV, .inr ⟨rfl, rfl, rfl, rfl, rfl, rfl, rfl⟩, ⟨by rw [hfx]; rfl, fun _ => rfl⟩, .inl (by omega), by rw [eG], ⟨rfl, rfl, rfl, rfl⟩⟩
  refine Upd.same W ha (by rw [hp']; exact s2) rfl rfl rfl (by show A.mb ≤ A.mb + 1; omega) (W.que_drop ha hr hhd ?_) (fun h hh => hV h (W.oth_ne ha hh)) (.inl rfl) (by rw [hn]) (by rw [hn]) (fun h => by rw [hn] at h; cases h) (fun h => ?_) (nxt_none ?_)
  · show ((q.nx.holds && !(true && q.nx.lv)) || q.nx.waits) = false
    rw [hn]; rfl
  · have h : q.nx.chd q.made = true := h
    rw [hn] at h; cases h
  · unfold Qr.scan; rfl
theorem r0_in (W : World N c cap clk A G rs ks M) (q : Qr) : ∃ r : Nat, r0 c q = (r : Int) ∧ r < A.ls.length := by
  have hr := W.mem.rooms
  unfold r0
  by_cases e : q.fl = 1
  · rw [if_pos e]; exact ⟨0, rfl, by omega⟩
  · rw [if_neg e]
    have := bkt_in (k := q.ky) (n := c.d3) (by omega)
    exact ⟨(bkt q.ky c.d3).toNat, by omega, by omega⟩
theorem search_fact (W : World N c cap clk A G rs ks M) {q1 : Qr} {r : Nat} {bh : Bool} {b0 : Nat} (hA : A'.ls = A.ls) (hk : q1.kd = 4) (hm : q1.made = 0) (h0 : r0 c q1 ≤ (r : Int)) (hr : r ≤ A.ls.length) (hbh : bh = true ↔ (q1.fl ≠ 1 ∧ bkt q1.ky c.d3 = (r : Int))) (hc : sc N M r (q1.same A') ≤ k') :
    Fact N c A' M V (q1.search c r bh b0) k' ∧ (q1.search c r bh b0).inq = false ∧ (q1.search c r bh b0).priv = [] ∧ (q1.search c r bh b0).nx.hi = 0 ∧ (q1.search c r bh b0).nx.offp = 0 ∧ (q1.search c r bh b0).chd = false ∧
      (q1.search c r bh b0).nx.scan N.B (q1.search c r bh b0).room = some (r : Int) ∧ (q1.search c r bh b0).nx.fx = false := by
  have hd3 := W.mem.rooms.1
  unfold Qr.search
  by_cases e : c.d3 ≤ (r : Int)
  · rw [if_pos e]
    have er : r = A.ls.length := by omega
    refine ⟨.inr ⟨0, hk, hm, ?_⟩, rfl, rfl, rfl, rfl, rfl, ?_, rfl⟩
    · rw [W.nB, ← er]; exact hc
    · show some ((N.B : Nat) : Int) = _
      rw [W.nB, er]
  · rw [if_neg e]
    refine ⟨.inr ⟨r, rfl, by rw [hA]; omega, rfl, .inl rfl, ?_, hm, hc⟩, rfl, rfl, rfl, rfl, rfl, rfl, rfl⟩
    have hkb : ∀ q2 : Qr, q2.fl = q1.fl → q2.ky = q1.ky → kb c q2 r = (if bh then q1.ky else 0, bh) := fun q2 h1 h2 => by
      unfold kb
      rw [h1, h2]
      by_cases e : q1.fl ≠ 1 ∧ bkt q1.ky c.d3 = (r : Int)
      · rw [if_pos e, hbh.2 e]; rfl
      · rw [if_neg e]
        have : bh = false := by
          cases hb : bh with
          | false => rfl
          | true => exact absurd (hbh.1 hb) e
        rw [this]; rfl
    refine ⟨hk, rfl, h0, ?_, ?_⟩
    · exact (congrArg Prod.fst (hkb (q1.enter (r : Int) (.search (if bh then q1.ky else 0) bh r) b0) rfl rfl)).symm
    · exact (congrArg Prod.snd (hkb (q1.enter (r : Int) (.search (if bh then q1.ky else 0) bh r) b0) rfl rfl)).symm
theorem w_begin (W : World N c cap clk A G rs ks M) (ha : rs[a]? = some q) (hd : q.dn = false) (hn : q.nx = .begin) : Stepd N c cap clk A G rs ks M a q (q.step c G b) := by
  have M0 := W.oth_priv ha
  have hpr : q.priv = [] := by unfold Qr.priv; rw [hn]; rfl
  rw [hpr] at M0
  have hfx : q.fx = false := by unfold Qr.fx; rw [hd, hn]; rfl
  have hin : q.inq = false := by unfold Qr.inq Qr.holds; rw [hn]; rfl
  rcases W.fact a q ha with h | ⟨i, h⟩
  · rw [hd] at h; cases h
  rw [hn] at h
  obtain ⟨hk4, hm, hk⟩ := h
  obtain ⟨G1, s1, s2⟩ := s_begin (b := b) (q := { q with eff := false }) M0
  rw [step_of hd hn, s1]
  have eG : G1 = G.mem (G.S.acc c.h 1 true id).2 := (congrArg Prod.snd s1).symm
  have hV : ∀ h, G1.S.V h = G.S.V h := fun h => by rw [eG]; exact acc_id h
  obtain ⟨r, hr, hrl⟩ := r0_in W q
  have er : (if ({ q with eff := false } : Qr).fl = 1 then 0 else bkt ({ q with eff := false } : Qr).ky c.d3) = (r : Int) := hr
  rw [er]
  have hsz : 1 ≤ N.sz := by unfold Nm.sz; omega
  have hsc : sc N M r true ≤ N.sz - 1 := by
    have h1 := W.le
    have h2 : (M.drop r).flatten.length ≤ M.flatten.length := by
      have h2 : M.flatten = (M.take r).flatten ++ (M.drop r).flatten := by rw [← List.flatten_append, List.take_append_drop]
      rw [h2, List.length_append]; omega
    unfold sc Nm.sz; simp only [if_true]; omega
  have hsm : ({ ({ q with eff := false } : Qr) with was := A.chg } : Qr).same A = true := by unfold Qr.same; exact decide_eq_true rfl
  obtain ⟨f1, f2, f3, f4, f5, f6, f7, f8⟩ := search_fact (A' := A) (V := G1.S.V) (k' := N.sz - 1) (bh := decide (({ q with eff := false } : Qr).fl ≠ 1)) (b0 := b.1) W (q1 := { ({ q with eff := false } : Qr) with was := A.chg }) (r := r) rfl hk4 hm (Int.le_of_eq hr) (by omega) (by
    rw [decide_eq_true_eq]
    refine ⟨fun h => ⟨h, ?_⟩, fun h => h.1⟩
    have h : q.fl ≠ 1 := h
    have hr := hr
    unfold r0 at hr; rw [if_neg h] at hr; exact hr) (by rw [hsm]; exact hsc)
  have hsame : ∀ {q2 : Qr} {bh : Bool} {b0 : Nat}, (q2.search c r bh b0).kd = q2.kd ∧ (q2.search c r bh b0).ky = q2.ky ∧ (q2.search c r bh b0).fl = q2.fl ∧ (q2.search c r bh b0).val = q2.val ∧ (q2.search c r bh b0).eff = q2.eff ∧ (q2.search c r bh b0).dn = q2.dn ∧ (q2.search c r bh b0).was = q2.was ∧
      (q2.search c r bh b0).no = q2.no ∧ (q2.search c r bh b0).rv = q2.rv ∧ (q2.search c r bh b0).rk = q2.rk ∧ (q2.search c r bh b0).el = q2.el := fun {q2 bh b0} => by
    unfold Qr.search; split <;> exact ⟨rfl, rfl, rfl, rfl, rfl, rfl, rfl, rfl, rfl, rfl, rfl⟩
  generalize hq' : Qr.search c { ({ q with eff := false } : Qr) with was := A.chg } (r : Int) (decide (({ q with eff := false } : Qr).fl ≠ 1)) b.1 = q' at *
  have hs := @hsame { ({ q with eff := false } : Qr) with was := A.chg } (decide (({ q with eff := false } : Qr).fl ≠ 1)) b.1
  rw [hq'] at hs
  obtain ⟨g1, g2, g3, g4, g5, g6, g7, g8, g9, g10, g11⟩ := hs
  refine ⟨A, M, N.sz - 1, 0, none, ?_, Vs.same hV, .inr ⟨g5, rfl, rfl, g8, g9, g10, g11⟩, ⟨?_, fun h => by rw [hfx] at h; cases h⟩, .inl (by omega), by rw [eG], ⟨g1, g2, g3, g4⟩⟩
  · refine Upd.same W ha (by rw [f3]; exact s2) rfl rfl rfl (by omega) (W.que_out ha rfl rfl hin f2) (fun h _ => hV h) f1 (by rw [hn, f4]; rfl) (by rw [hn, f5]; rfl) (fun h => by rw [hn] at h; cases h) (fun h => by rw [f6] at h; cases h) ?_
    intro r' hr'
    unfold Qr.scan at hr'
    rw [g6, show ({ ({ q with eff := false } : Qr) with was := A.chg } : Qr).dn = false from hd, f7] at hr'
    obtain rfl : (r : Int) = r' := by simpa using hr'
    have e0 : r0 c q' = (r : Int) := by rw [← hr]; unfold r0; rw [g3, g2]
    refine ⟨by rw [g7]; exact Nat.le_refl _, fun _ => ⟨fun j hj1 hj2 => ?_, fun _ y _ _ hy => ?_⟩⟩
    · rw [e0] at hj1; omega
    · rw [e0] at hy; omega
  · rw [hfx]; unfold Qr.fx; rw [g6, f8, g5]; show (q.dn || false) = _; rw [hd]
theorem search_sam {q2 : Qr} {r : Int} {bh : Bool} {b0 : Nat} : (q2.search c r bh b0).kd = q2.kd ∧ (q2.search c r bh b0).ky = q2.ky ∧ (q2.search c r bh b0).fl = q2.fl ∧ (q2.search c r bh b0).val = q2.val ∧ (q2.search c r bh b0).eff = q2.eff ∧ (q2.search c r bh b0).dn = q2.dn ∧ (q2.search c r bh b0).was = q2.was ∧
      (q2.search c r bh b0).no = q2.no ∧ (q2.search c r bh b0).rv = q2.rv ∧ (q2.search c r bh b0).rk = q2.rk ∧ (q2.search c r bh b0).el = q2.el := by
  unfold Qr.search; split <;> exact ⟨rfl, rfl, rfl, rfl, rfl, rfl, rfl, rfl, rfl, rfl, rfl⟩
theorem w_free {room : Int} (W : World N c cap clk A G rs ks M) (ha : rs[a]? = some q) (hd : q.dn = false) (hn : q.nx = .free room) : Stepd N c cap clk A G rs ks M a q (q.step c G b) := by
  have M0 := W.oth_priv ha
  have hpr : q.priv = [] := by unfold Qr.priv; rw [hn]; rfl
  rw [hpr] at M0
  have hfx : q.fx = false := by unfold Qr.fx; rw [hd, hn]; rfl
  have hhd : q.holds = true := by rw [holds_of hd, hn]; rfl
  rcases W.fact a q ha with h | ⟨i, h⟩
  · rw [hd] at h; cases h
  rw [hn] at h
  obtain ⟨hk4, rfl, hr, hi, hm, h0, hk⟩ := h
  obtain ⟨G1, s1, s2⟩ := s_free (b := b) (q := { q with eff := false }) M0 hr hi (i : Int)
  rw [step_of hd hn, s1]
  have eG : G1 = G.mem (dropL c { q with eff := false } G.S) := (congrArg Prod.snd s1).symm
  have hV : ∀ h, h ≠ c.h → G1.S.V h = G.S.V h := fun h hh => by rw [eG]; exact drop_V h hh
  have er : wr ((i : Int) + 1) = ((i + 1 : Nat) : Int) := by have := W.mem.rooms; rw [wrs (by omega)]; omega
  rw [er]
  obtain ⟨f1, f2, f3, f4, f5, f6, f7, f8⟩ := search_fact (A' := freed A i) (V := G1.S.V) (k' := ks a - 1) (bh := false) (b0 := b.1) W (q1 := { q with eff := false }) (r := i + 1) rfl hk4 hm (by show r0 c q ≤ _; omega) (by omega) ⟨fun h => (by cases h), fun h => by
    have h1 : q.fl ≠ 1 := h.1
    have h2 : bkt q.ky c.d3 = ((i + 1 : Nat) : Int) := h.2
    unfold r0 at h0; rw [if_neg h1, h2] at h0; omega⟩ (by show sc N M (i + 1) (q.same A) ≤ _; omega)
  obtain ⟨g1, g2, g3, g4, g5, g6, g7, g8, g9, g10, g11⟩ := search_sam (c := c) (q2 := { q with eff := false }) (r := ((i + 1 : Nat) : Int)) (bh := false) (b0 := b.1)
  generalize hq' : Qr.search c { q with eff := false } ((i + 1 : Nat) : Int) false b.1 = q' at *
  refine ⟨freed A i, M, ks a - 1, 0, none, ?_, Vs.own hV, .inr ⟨g5, rfl, rfl, g8, g9, g10, g11⟩, ⟨?_, fun h => by rw [hfx] at h; cases h⟩, .inl (by omega), by rw [eG], ⟨g1, g2, g3, g4⟩⟩
  · refine Upd.same W ha (by rw [f3]; exact s2) rfl rfl rfl (by show A.mb ≤ A.mb + 1; omega) (W.que_drop ha hr hhd f2) (fun h hh => hV h (W.oth_ne ha hh)) f1 (by rw [hn, f4]; rfl) (by rw [hn, f5]; rfl) (fun h => by rw [hn] at h; cases h) (fun h => by rw [f6] at h; cases h) ?_
    refine (W.nxt a q ha).keep ha (fun r hr => ?_) g3 g2 g7 rfl (fun h => by rw [f6] at h; cases h)
    unfold Qr.scan at hr ⊢
    rw [g6, show ({ q with eff := false } : Qr).dn = false from hd, f7] at hr
    rw [hd, hn]
    rw [← hr]
    show some ((i : Int) + 1) = some _
    congr 1
  · rw [hfx]; unfold Qr.fx; rw [g6, f8, g5]; show (q.dn || false) = _; rw [hd]
theorem w_freeBegin (W : World N c cap clk A G rs ks M) (ha : rs[a]? = some q) (hd : q.dn = false) (hn : q.nx = .freeBegin) : Stepd N c cap clk A G rs ks M a q (q.step c G b) := by
  have M0 := W.oth_priv ha
  have hpr : q.priv = [] := by unfold Qr.priv; rw [hn]; rfl
  rw [hpr] at M0
  have hfx : q.fx = false := by unfold Qr.fx; rw [hd, hn]; rfl
  have hhd : q.holds = true := by rw [holds_of hd, hn]; rfl
  rcases W.fact a q ha with h | ⟨i, h⟩
  · rw [hd] at h; cases h
  rw [hn] at h
  obtain ⟨hr, hi, hk4, hm, hk⟩ := h
  obtain ⟨G1, s1, s2⟩ := s_freeBegin (b := b) (q := { q with eff := false }) M0 hr hi
  rw [step_of hd hn, s1]
  have eG : G1 = G.mem (dropL c { q with eff := false } G.S) := (congrArg Prod.snd s1).symm
  have hV : ∀ h, h ≠ c.h → G1.S.V h = G.S.V h := fun h hh => by rw [eG]; exact drop_V h hh
  refine ⟨freed A i, M, N.sz, 0, none, ?_, Vs.own hV, .inr ⟨rfl, rfl, rfl, rfl, rfl, rfl, rfl⟩, ⟨?_, fun h => by rw [hfx] at h; cases h⟩, .inl (by omega), by rw [eG], ⟨rfl, rfl, rfl, rfl⟩⟩
  · exact Upd.same W ha s2 rfl rfl rfl (by show A.mb ≤ A.mb + 1; omega) (W.que_drop ha hr hhd rfl) (fun h hh => hV h (W.oth_ne ha hh)) (.inr ⟨i, hk4, hm, Nat.le_refl _⟩) (by rw [hn]; rfl) (by rw [hn]; rfl) (fun h => by rw [hn] at h; cases h) (fun h => by cases h) (nxt_none (scan_none rfl))
  · rw [hfx]; show (q.dn || false) = _; rw [hd]; rfl
theorem w_stillNo (W : World N c cap clk A G rs ks M) (ha : rs[a]? = some q) (hd : q.dn = false) (hn : q.nx = .stillNo) : Stepd N c cap clk A G rs ks M a q (q.step c G b) := by
  have M0 := W.oth_priv ha
  have hpr : q.priv = [] := by unfold Qr.priv; rw [hn]; rfl
  rw [hpr] at M0
  have hfx : q.fx = false := by unfold Qr.fx; rw [hd, hn]; rfl
  have hin : q.inq = false := by unfold Qr.inq Qr.holds; rw [hn]; rfl
  have hnx := W.nxt a q ha N.B (by unfold Qr.scan; rw [hd, hn]; rfl)
  rcases W.fact a q ha with h | ⟨i, h⟩
  · rw [hd] at h; cases h
  rw [hn] at h
  obtain ⟨hk4, hm, hk⟩ := h
  obtain ⟨G1, s1, s2⟩ := s_stillNo (b := b) (q := { q with eff := false }) M0
  have eG : G1 = G.mem (G.S.acc c.h 1 true id).2 := (congrArg Prod.snd s1).symm
  have hV : ∀ h, G1.S.V h = G.S.V h := fun h => by rw [eG]; exact acc_id h
  by_cases e : A.chg = q.was
  · have s1' : doNx c .stillNo { q with eff := false } G b = (({ ({ q with eff := false } : Qr).give 2 [] 0 0 with dn := true } : Qr), G1) := by rw [s1]; congr 1; exact if_pos e
    rw [step_of hd hn, s1']
    refine ⟨A, M, 0, 0, none, ?_, Vs.same hV, .inl ⟨rfl, .past hk4 fun j hj1 hj2 => (hnx.2 e.symm).1 j hj1 (by have := W.nB; have := W.lenM; omega)⟩, ⟨by rw [hfx]; rfl, fun h => by rw [hfx] at h; cases h⟩, .inl (by unfold sc at hk; omega), by rw [eG], ⟨rfl, rfl, rfl, rfl⟩⟩
    refine Upd.same W ha ?_ rfl rfl rfl (by omega) (W.que_out ha rfl rfl hin ?_) (fun h _ => hV h) (.inl rfl) rfl rfl (fun h => by rw [hn] at h; cases h) (fun h => ?_) (nxt_none rfl)
    · show Mem c cap A (q.priv ++ oth rs a) G1
      rw [hpr]; exact s2
    · show (q.nx.holds && _ || q.nx.waits) = false
      rw [hn]; rfl
    · have h : q.nx.chd q.made = true := h
      rw [hn] at h; cases h
  · have s1' : doNx c .stillNo { q with eff := false } G b = (({ q with eff := false } : Qr).to .begin, G1) := by rw [s1]; congr 1; exact if_neg e
    rw [step_of hd hn, s1']
    have hsm : q.same A = false := by unfold Qr.same; exact decide_eq_false fun h => e h.symm
    rw [hsm] at hk
    have hk : N.sz + 6 ≤ ks a := by unfold sc at hk; simp at hk; omega
    refine ⟨A, M, N.sz, 0, none, ?_, Vs.same hV, .inr ⟨rfl, rfl, rfl, rfl, rfl, rfl, rfl⟩, ⟨?_, fun h => by rw [hfx] at h; cases h⟩, .inl (by omega), by rw [eG], ⟨rfl, rfl, rfl, rfl⟩⟩
    · exact Upd.same W ha s2 rfl rfl rfl (by omega) (W.que_out ha rfl rfl hin rfl) (fun h _ => hV h) (.inr ⟨i, hk4, hm, Nat.le_refl _⟩) (by rw [hn]; rfl) (by rw [hn]; rfl) (fun h => by rw [hn] at h; cases h) (fun h => by cases h) (nxt_none (scan_none rfl))
    · rw [hfx]; show (q.dn || false) = _; rw [hd]; rfl
theorem w_stillKey (W : World N c cap clk A G rs ks M) (ha : rs[a]? = some q) (hd : q.dn = false) (hn : q.nx = .stillKey) : Stepd N c cap clk A G rs ks M a q (q.step c G b) := by
  have M0 := W.oth_priv ha
  have hpr : q.priv = [] := by unfold Qr.priv; rw [hn]; rfl
  rw [hpr] at M0
  have hfx : q.fx = false := by unfold Qr.fx; rw [hd, hn]; rfl
  have hhd : q.holds = true := by rw [holds_of hd, hn]; rfl
  have hnx := W.nxt a q ha q.room (by unfold Qr.scan; rw [hd, hn]; rfl)
  rcases W.fact a q ha with h | ⟨i, h⟩
  · rw [hd] at h; cases h
  rw [hn] at h
  obtain ⟨hk4, hm, h0, ⟨pre, e, rest, I, hkey, hhit, hpre⟩, hk⟩ := h
  have hM : M[i]? = some (pre ++ e :: rest) := by rw [W.hold_ls ha hhd (by rw [hn]; rfl) I.room I.lt]; exact I.ls
  obtain ⟨G1, s1, s2⟩ := s_stillKey (b := b) (q := { q with eff := false }) M0
  have eG : G1 = G.mem (G.S.acc c.h 1 true id).2 := (congrArg Prod.snd s1).symm
  have hV : ∀ h, G1.S.V h = G.S.V h := fun h => by rw [eG]; exact acc_id h
  by_cases e1 : A.chg = q.was
  · have s1' : doNx c .stillKey { q with eff := false } G b = ((({ q with eff := false } : Qr).give 0 [] q.key 0).to .leave, G1) := by rw [s1]; congr 1; exact if_pos e1
    rw [step_of hd hn, s1']
    refine ⟨A, M, 1, 0, none, ?_, Vs.same hV, .inl ⟨rfl, ?_⟩, ⟨?_, fun h => by rw [hfx] at h; cases h⟩, .inl (by omega), by rw [eG], ⟨rfl, rfl, rfl, rfl⟩⟩
    · exact Upd.same W ha s2 rfl rfl rfl (by omega) (W.que_hold ha rfl rfl hhd (leave_holds hd) rfl (fun _ _ h => by cases h)) (fun h _ => hV h) (.inr ⟨i, I.room, I.lt, Nat.le_refl _⟩) (by rw [hn]; rfl) (by rw [hn]; rfl) (fun h => by rw [hn] at h; cases h) (fun h => by cases h) (nxt_none (scan_none rfl))
    · show Efx c q M G.S 0 [] q.key 0 none M
      rw [hkey]
      exact .next hk4 h0 (fun j hj1 hj2 => (hnx.2 e1.symm).1 j hj1 (by rw [I.room]; omega)) hM hhit hpre
    · rw [hfx]; show (q.dn || true) = true; rw [hd]; rfl
  · have s1' : doNx c .stillKey { q with eff := false } G b = (({ q with eff := false } : Qr).to .freeBegin, G1) := by rw [s1]; congr 1; exact if_neg e1
    rw [step_of hd hn, s1']
    have hsm : q.same A = false := by unfold Qr.same; exact decide_eq_false fun h => e1 h.symm
    rw [hsm] at hk
    have hk : N.sz + 6 ≤ ks a := by simp at hk; omega
    refine ⟨A, M, 1 + N.sz, 0, none, ?_, Vs.same hV, .inr ⟨rfl, rfl, rfl, rfl, rfl, rfl, rfl⟩, ⟨?_, fun h => by rw [hfx] at h; cases h⟩, .inl (by omega), by rw [eG], ⟨rfl, rfl, rfl, rfl⟩⟩
    · exact Upd.same W ha s2 rfl rfl rfl (by omega) (W.que_hold ha rfl rfl hhd (by show (true && !(q.dn && false)) = true; rw [hd]; rfl) rfl (fun _ _ h => by cases h)) (fun h _ => hV h) (.inr ⟨i, I.room, I.lt, hk4, hm, Nat.le_refl _⟩) (by rw [hn]; rfl) (by rw [hn]; rfl) (fun h => by rw [hn] at h; cases h) (fun h => by cases h) (nxt_none (scan_none rfl))
    · rw [hfx]; show (q.dn || false) = _; rw [hd]; rfl
end Go.Proofs.YtjggeoghlicmdaaGreat
namespace Go.Proofs.YtjggeoghlicmdaaGreat
open Go Go.AS Go.RowKit
set_option linter.unusedVariables false
theorem low_bits (w : Wd) : (w &&& lowM).toNat = w.toNat % 4294967296 := and_low w
theorem high_bits (w : Wd) : (w &&& ~~~lowM).toNat = w.toNat / 4294967296 * 4294967296 := by
  rw [BitVec.toNat_and]
  have e : (~~~lowM : Wd).toNat = 18446744069414584320 := by decide
  rw [e]
  apply Nat.eq_of_testBit_eq
  intro j
  rw [Nat.testBit_and]
  have h1 : (18446744069414584320 : Nat) = (2 ^ 32 - 1) <<< 32 := by decide
  have h2 : w.toNat / 4294967296 * 4294967296 = (w.toNat >>> 32) <<< 32 := by rw [Nat.shiftLeft_eq, Nat.shiftRight_eq_div_pow]
  rw [h1, h2, Nat.testBit_shiftLeft, Nat.testBit_shiftLeft, Nat.testBit_shiftRight, Nat.testBit_two_pow_sub_one]
  by_cases hj : 32 ≤ j
  · have e3 : 32 + (j - 32) = j := by omega
    rw [e3]
    by_cases hj2 : j < 64
    · have : j - 32 < 32 := by omega
      simp [hj, this]
    · have : w.toNat.testBit j = false := Nat.testBit_lt_two_pow (Nat.lt_of_lt_of_le w.isLt (Nat.pow_le_pow_right (by decide) (by omega)))
      simp [this]
  · simp [hj]
theorem under_low (w v : Wd) : (under w lowM v).toNat = w.toNat / 4294967296 * 4294967296 + v.toNat % 4294967296 := by
  unfold under
  rw [BitVec.toNat_or, high_bits, low_bits]
  have h : w.toNat / 4294967296 * 4294967296 = (w.toNat / 4294967296) <<< 32 := by rw [Nat.shiftLeft_eq]
  rw [h]
  exact (Nat.shiftLeft_add_eq_or_of_lt (show v.toNat % 4294967296 < 2 ^ 32 by omega) _).symm
def cw (l h : Nat) : Wd := BitVec.ofNat 64 (l + 4294967296 * h)
theorem cw_nat {l h : Nat} (hl : l < 4294967296) (hh : h < 4294967296) : (cw l h).toNat = l + 4294967296 * h := by
  unfold cw; rw [BitVec.toNat_ofNat]; omega
theorem cw_low {l h : Nat} (hl : l < 4294967296) (hh : h < 4294967296) : (cw l h &&& lowM).toNat = l := by
  rw [low_bits, cw_nat hl hh]; omega
theorem cw_high {l h : Nat} (hl : l < 4294967296) (hh : h < 4294967296) : cw l h >>> 32 = 0 ↔ h = 0 := by
  constructor
  · intro e
    have := congrArg BitVec.toNat e
    rw [BitVec.toNat_ushiftRight, cw_nat hl hh, Nat.shiftRight_eq_div_pow] at this
    have h0 : (0 : Wd).toNat = 0 := rfl
    rw [h0] at this; omega
  · intro e
    subst e
    apply BitVec.eq_of_toNat_eq
    rw [BitVec.toNat_ushiftRight, cw_nat hl hh, Nat.shiftRight_eq_div_pow]
    show _ = 0
    omega
theorem cw_tick {l h : Nat} (hl : l < 4294967296) (hh : h + 1 < 4294967296) : cw l h + tick = cw l (h + 1) := by
  apply BitVec.eq_of_toNat_eq
  rw [BitVec.toNat_add, cw_nat hl (by omega), cw_nat hl hh]
  have : tick.toNat = 4294967296 := by decide
  rw [this]; omega
theorem cw_untick {l h : Nat} (hl : l + 1 < 4294967296) (hh : h + 1 < 4294967296) : cw (l + 1) (h + 1) + untick = cw l h := by
  apply BitVec.eq_of_toNat_eq
  rw [BitVec.toNat_add, cw_nat hl hh, cw_nat (by omega) (by omega)]
  have : untick.toNat = 18446744069414584319 := by decide
  rw [this]; omega
theorem cw_less {l h : Nat} (hl : l + 1 < 4294967296) (hh : h < 4294967296) : fetchF 0 lowM lowM (cw (l + 1) h) = cw l h := by
  apply BitVec.eq_of_toNat_eq
  unfold fetchF
  have e : aluF 0 (cw (l + 1) h &&& lowM) (lowM &&& lowM) = (cw (l + 1) h &&& lowM) + (lowM &&& lowM) := by unfold aluF; rw [if_pos rfl]
  rw [e, under_low, BitVec.toNat_add, low_bits, low_bits, cw_nat hl hh, cw_nat (by omega) hh]
  have : lowM.toNat = 4294967295 := by decide
  rw [this]; omega
theorem xor_and' (a b m : Wd) : (a ^^^ b) &&& m = (a &&& m) ^^^ (b &&& m) := by
  apply BitVec.eq_of_getLsbD_eq
  intro i hi
  simp only [BitVec.getLsbD_and, BitVec.getLsbD_xor]
  cases a.getLsbD i <;> cases b.getLsbD i <;> cases m.getLsbD i <;> rfl
theorem cw_more {l h : Nat} {w : Wd} (hl : l + 1 < 4294967296) (hh : h < 4294967296) (hw : cw l h &&& lowM = w) : casF lowM w (w + 1) (cw l h) = cw (l + 1) h := by
  subst hw
  have e0 : (cw l h ^^^ (cw l h &&& lowM)) &&& lowM = 0 := by
    rw [xor_and', BitVec.and_assoc, BitVec.and_self, BitVec.xor_self]; rfl
  unfold casF
  rw [if_pos e0]
  apply BitVec.eq_of_toNat_eq
  rw [under_low, BitVec.toNat_add, low_bits, cw_nat (by omega) hh, cw_nat hl hh]
  have : (1 : Wd).toNat = 1 := rfl
  rw [this]; omega
theorem cw_not {l h : Nat} {w v : Wd} (hs : w.toNat < 4294967296) (hw : cw l h &&& lowM ≠ w) : casF lowM w v (cw l h) = cw l h := by
  unfold casF
  rw [if_neg]
  intro e
  refine hw ?_
  have e1 : (cw l h &&& lowM) ^^^ (w &&& lowM) = 0 := by rw [← xor_and']; exact e
  have e2 : w &&& lowM = w := by
    apply BitVec.eq_of_toNat_eq
    rw [low_bits]; omega
  rw [e2] at e1
  exact BitVec.xor_eq_zero_iff.1 e1
end Go.Proofs.YtjggeoghlicmdaaGreat
namespace Go.Proofs.YtjggeoghlicmdaaGreat
open Go Go.AS Go.RowKit
set_option linter.unusedVariables false
variable {N : Nm} {c : Lc} {A A' : Ab} {G G' : Gr} {cap : Int} {q q' x : Qr} {i j : Nat} {pre rest : List El} {e : El} {P : List Int} {n k k' a clk δ : Nat} {rs : List Qr} {M M' : List (List El)} {ks : Nat → Nat} {V V' : View} {b : Bs}
theorem sum_le (f : Qr → Nat) (hf : ∀ q, f q ≤ 1) : ∀ rs : List Qr, (rs.map f).sum ≤ rs.length
  | [] => Nat.le_refl _
  | x :: rs => by have := sum_le f hf rs; have := hf x; simp only [List.map_cons, List.sum_cons, List.length_cons]; omega
theorem hi_le (n : Nx) : n.hi ≤ 1 := by
  cases n with
  | change f => cases f <;> first | exact Nat.le_refl 1 | exact Nat.zero_le 1
  | after f => cases f <;> first | exact Nat.le_refl 1 | exact Nat.zero_le 1
  | off _ => exact Nat.le_refl 1
  | _ => exact Nat.zero_le 1
theorem off_hi (n : Nx) : n.offp ≤ n.hi := by
  cases n with
  | off _ => exact Nat.le_refl 1
  | _ => exact Nat.zero_le _
theorem sum_mono (f g : Qr → Nat) (hf : ∀ q, f q ≤ g q) : ∀ rs : List Qr, (rs.map f).sum ≤ (rs.map g).sum
  | [] => Nat.le_refl _
  | x :: rs => by have := sum_mono f g hf rs; have := hf x; simp only [List.map_cons, List.sum_cons]; omega
def offs (rs : List Qr) : Nat := (rs.map (·.nx.offp)).sum
def his (rs : List Qr) : Nat := (rs.map (·.nx.hi)).sum
theorem World.cw (W : World N c cap clk A G rs ks M) : A.cnt = cw (M.flatten.length + offs rs) (his rs) ∧ M.flatten.length + offs rs ≤ 64 ∧ his rs ≤ 1000 ∧ M.flatten.length + offs rs ≤ N.E := by
  have h1 := sum_le (fun q => q.nx.hi) (fun q => hi_le q.nx) rs
  have h2 := W.sml
  have h3 := W.le
  have h4 := W.nn
  exact ⟨W.cnt, by unfold offs; omega, by unfold his; omega, h3⟩
theorem offs_set (ha : rs[a]? = some q) : offs (rs.set a q') + q.nx.offp = offs rs + q'.nx.offp := sum_set (fun q => q.nx.offp) ha
theorem his_set (ha : rs[a]? = some q) : his (rs.set a q') + q.nx.hi = his rs + q'.nx.hi := sum_set (fun q => q.nx.hi) ha
theorem offs_to (ha : rs[a]? = some q) {o o' : Nat} (h : q.nx.offp = o) (h' : q'.nx.offp = o') : offs (rs.set a q') + o = offs rs + o' := by rw [← h, ← h']; exact offs_set ha
theorem his_to (ha : rs[a]? = some q) {o o' : Nat} (h : q.nx.hi = o) (h' : q'.nx.hi = o') : his (rs.set a q') + o = his rs + o' := by rw [← h, ← h']; exact his_set ha
theorem Upd.chg (W : World N c cap clk A G rs ks M) (ha : rs[a]? = some q) (hm : Mem c cap { A with chg := A.chg + 1 } (q'.priv ++ oth rs a) G') (hh : q.holds = true) (hh' : q'.holds = true) (hr : q'.room = q.room) (hn : ∀ t th, q'.nx ≠ .enter t th)
    (hV : ∀ h ∈ oth rs a, G'.S.V h = G.S.V h) (hf : Fact N c { A with chg := A.chg + 1 } M G'.S.V q' k') (hi : q'.nx.hi = q.nx.hi) (ho : q'.nx.offp = q.nx.offp) (hp : q.nx.pend = false) (hs : q'.nx.scan N.B q'.room = Option.none) :
    Upd N c cap clk A G rs M a q q' { A with chg := A.chg + 1 } G' M k' N.sz := by
  have s1 := offs_set (q' := q') ha
  have s2 := his_set (q' := q') ha
  rw [ho] at s1
  rw [hi] at s2
  have s1' : offs (rs.set a q') = offs rs := by omega
  have s2' : his (rs.set a q') = his rs := by omega
  have htm := W.tm
  have hlt : (A.chg + 1).toNat = A.chg.toNat + 1 := by
    rw [BitVec.toNat_add]
    have : (1 : Wd).toNat = 1 := rfl
    rw [this]; omega
  refine ⟨hm, rfl, rfl, ⟨by show A.mb ≤ _; omega, by show (A.chg + 1).toNat ≤ _; omega⟩, W.que_hold ha rfl rfl hh hh' hr hn, fun j h => ?_, hV, hf, ⟨.inr ⟨by show _ < (A.chg + 1).toNat; omega, Nat.le_refl _⟩, .inl rfl, .inl rfl⟩, ?_, ?_, fun i _ _ h => ?_, W.srt, fun h => ?_, nxt_none (scan_none hs)⟩
  · rcases h with h | h <;> exact absurd rfl h
  · show A.cnt = BitVec.ofNat 64 (M.flatten.length + offs (rs.set a q') + 4294967296 * his (rs.set a q'))
    rw [s1', s2']; exact W.cnt
  · show M.flatten.length + offs (rs.set a q') ≤ _
    rw [s1']; exact W.le
  · rcases h with h | h | h
    · rw [hp] at h; cases h
    · exact absurd rfl h
    · exact absurd rfl h
  · have h : A.chg + 1 = A.chg := h
    rw [h] at hlt; omega
theorem to_holds (hd : q.dn = false) {m : Nx} (h : m.holds = true) (hl : m.lv = false) : (({ q with eff := false } : Qr).to m).holds = true := by
  show (m.holds && !(q.dn && m.lv)) = true
  rw [h, hl, hd]; rfl
theorem give_holds (hd : q.dn = false) {m : Nx} {no el : Int} {rv : List Wd} {rk : Wd} (h : m.holds = true) (hl : m.lv = false) : ((({ q with eff := false } : Qr).give no rv rk el).to m).holds = true := by
  show (m.holds && !(q.dn && m.lv)) = true
  rw [h, hl, hd]; rfl
theorem w_take (W : World N c cap clk A G rs ks M) (ha : rs[a]? = some q) (hd : q.dn = false) (hn : q.nx = .take) : Stepd N c cap clk A G rs ks M a q (q.step c G b) := by
  have M0 := W.oth_priv ha
  have hpr : q.priv = [] := by unfold Qr.priv; rw [hn]; rfl
  rw [hpr] at M0
  have hfx : q.fx = false := by unfold Qr.fx; rw [hd, hn]; rfl
  have hhd : q.holds = true := by rw [holds_of hd, hn]; rfl
  rcases W.fact a q ha with h | ⟨i, h⟩
  · rw [hd] at h; cases h
  rw [hn] at h
  obtain ⟨⟨pre, e, rest, I, hu, ek, hb⟩, k1, k2, k3, k4, hk⟩ := h
  obtain ⟨G1, s1, s2⟩ := s_take (b := b) (q := { q with eff := false }) M0
  rw [step_of hd hn, s1]
  have eG : G1 = G.mem (G.S.acc c.h 0 true (addF tick)).2 := (congrArg Prod.snd s1).symm
  have hV : ∀ h, h ≠ c.h → G1.S.V h = G.S.V h := fun h hh => by rw [eG]; exact acc_ne hh
  obtain ⟨c1, c2, c3, c4⟩ := W.cw
  have o1 := offs_set (q' := ({ q with eff := false } : Qr).to (.change (.take .away))) ha
  have o2 := his_set (q' := ({ q with eff := false } : Qr).to (.change (.take .away))) ha
  rw [hn] at o1 o2
  have o1 : offs (rs.set a (({ q with eff := false } : Qr).to (.change (.take .away)))) = offs rs := o1
  have o2 : his (rs.set a (({ q with eff := false } : Qr).to (.change (.take .away)))) = his rs + 1 := o2
  have ecnt : A.cnt + tick = Go.Proofs.YtjggeoghlicmdaaGreat.cw (M.flatten.length + offs rs) (his rs + 1) := by rw [c1]; exact cw_tick (by omega) (by omega)
  refine ⟨{ A with cnt := A.cnt + tick }, M, 6 + N.cr + 2 * N.c2, 0, none, ⟨s2, rfl, rfl, ⟨by have := W.tm; show A.mb ≤ _; omega, by have := W.tm; show A.chg.toNat ≤ _; omega⟩, W.que_hold ha rfl rfl hhd (to_holds hd rfl rfl) rfl (fun _ _ h => by cases h), fun j h => ?_, fun h hh => hV h (W.oth_ne ha hh), .inr ⟨i, rfl, ⟨pre, e, rest, I.to rfl rfl rfl rfl, hu, ek, hb⟩, k1, k2, k3, k4, Nat.le_refl _⟩, ⟨.inl rfl, .inl rfl, .inl ?_⟩, ?_, ?_, fun i _ _ h => ?_, W.srt, fun _ => ⟨fun h => (by cases h), fun j h => absurd rfl h⟩, nxt_none (scan_none rfl)⟩,
    Vs.own hV, .inr ⟨rfl, rfl, rfl, rfl, rfl, rfl, rfl⟩, ⟨?_, fun h => by rw [hfx] at h; cases h⟩, .inl (by omega), by rw [eG], ⟨rfl, rfl, rfl, rfl⟩⟩
  · rcases h with h | h <;> exact absurd rfl h
  · show (A.cnt + tick) &&& lowM = A.cnt &&& lowM
    apply BitVec.eq_of_toNat_eq
    rw [ecnt, c1, cw_low (by omega) (by omega), cw_low (by omega) (by omega)]
  · show A.cnt + tick = BitVec.ofNat 64 (M.flatten.length + offs (rs.set a _) + 4294967296 * his (rs.set a _))
    rw [o1, o2]; exact ecnt
  · show M.flatten.length + offs (rs.set a _) ≤ _
    rw [o1]; exact c4
  · rcases h with h | h | h
    · rw [hn] at h; cases h
    · exact absurd rfl h
    · exact absurd rfl h
  · rw [hfx]; show (q.dn || false) = _; rw [hd]; rfl
theorem w_changeTake {w : Aw} (W : World N c cap clk A G rs ks M) (ha : rs[a]? = some q) (hd : q.dn = false) (hn : q.nx = .change (.take w)) : Stepd N c cap clk A G rs ks M a q (q.step c G b) := by
  have M0 := W.oth_priv ha
  have hpr : q.priv = [] := by unfold Qr.priv; rw [hn]; rfl
  rw [hpr] at M0
  have hfx : q.fx = false := by unfold Qr.fx; rw [hd, hn]; rfl
  have hhd : q.holds = true := by rw [holds_of hd, hn]; rfl
  rcases W.fact a q ha with h | ⟨i, h⟩
  · rw [hd] at h; cases h
  rw [hn] at h
  obtain ⟨k0, ⟨pre, e, rest, I, hu, ek, hb⟩, k1, k2, k3, k4, hk⟩ := h
  obtain ⟨G1, s1, s2⟩ := s_change (b := b) (q := { q with eff := false }) M0 (.take w)
  rw [step_of hd hn, s1]
  have eG : G1 = G.mem (G.S.acc c.h 1 true (addF 1)).2 := (congrArg Prod.snd s1).symm
  have hV : ∀ h, h ≠ c.h → G1.S.V h = G.S.V h := fun h hh => by rw [eG]; exact acc_ne hh
  have hcr : N.cr = N.n * N.sz := rfl
  refine ⟨{ A with chg := A.chg + 1 }, M, 5 + 2 * N.c2, N.sz, none, Upd.chg W ha s2 hhd (to_holds hd rfl rfl) rfl (fun _ _ h => by cases h) (fun h hh => hV h (W.oth_ne ha hh)) (.inr ⟨i, k0, ⟨pre, e, rest, I.to rfl rfl rfl rfl, hu, ek, hb⟩, k1, k2, k3, k4, Nat.le_refl _⟩) (by rw [hn]; rfl) (by rw [hn]; rfl) (by rw [hn]; rfl) rfl,
    Vs.own hV, .inr ⟨rfl, rfl, rfl, rfl, rfl, rfl, rfl⟩, ⟨?_, fun h => by rw [hfx] at h; cases h⟩, .inl (by omega), by rw [eG], ⟨rfl, rfl, rfl, rfl⟩⟩
  rw [hfx]; show (q.dn || false) = _; rw [hd]; rfl
theorem w_drop (W : World N c cap clk A G rs ks M) (ha : rs[a]? = some q) (hd : q.dn = false) (hn : q.nx = .drop) : Stepd N c cap clk A G rs ks M a q (q.step c G b) := by
  have M0 := W.oth_priv ha
  have hpr : q.priv = [] := by unfold Qr.priv; rw [hn]; rfl
  rw [hpr] at M0
  have hfx : q.fx = false := by unfold Qr.fx; rw [hd, hn]; rfl
  have hhd : q.holds = true := by rw [holds_of hd, hn]; rfl
  rcases W.fact a q ha with h | ⟨i, h⟩
  · rw [hd] at h; cases h
  rw [hn] at h
  obtain ⟨⟨pre, e, rest, I, hu, ek, hb⟩, k3, hk⟩ := h
  obtain ⟨G1, s1, s2⟩ := s_drop (b := b) (q := { q with eff := false }) M0
  rw [step_of hd hn, s1]
  have eG : G1 = G.mem (G.S.acc c.h 1 true (addF 1)).2 := (congrArg Prod.snd s1).symm
  have hV : ∀ h, h ≠ c.h → G1.S.V h = G.S.V h := fun h hh => by rw [eG]; exact acc_ne hh
  have hcr : N.cr = N.n * N.sz := rfl
  refine ⟨{ A with chg := A.chg + 1 }, M, 4 + N.c2, N.sz, none, Upd.chg W ha s2 hhd (to_holds hd rfl rfl) rfl (fun _ _ h => by cases h) (fun h hh => hV h (W.oth_ne ha hh)) (.inr ⟨i, ⟨pre, e, rest, I.to rfl rfl rfl rfl, hu, ek, hb⟩, k3, Nat.le_refl _⟩) (by rw [hn]; rfl) (by rw [hn]; rfl) (by rw [hn]; rfl) rfl,
    Vs.own hV, .inr ⟨rfl, rfl, rfl, rfl, rfl, rfl, rfl⟩, ⟨?_, fun h => by rw [hfx] at h; cases h⟩, .inl (by omega), by rw [eG], ⟨rfl, rfl, rfl, rfl⟩⟩
  rw [hfx]; show (q.dn || false) = _; rw [hd]; rfl
end Go.Proofs.YtjggeoghlicmdaaGreat
namespace Go.Proofs.YtjggeoghlicmdaaGreat
open Go Go.AS Go.RowKit
set_option linter.unusedVariables false
variable {N : Nm} {c : Lc} {A A' : Ab} {G G' : Gr} {cap : Int} {q q' x : Qr} {i j : Nat} {pre rest : List El} {e : El} {P : List Int} {n k k' a clk δ : Nat} {rs : List Qr} {M M' : List (List El)} {ks : Nat → Nat} {V V' : View} {b : Bs}
theorem set_ne {α : Type} {l : List α} {i j : Nat} {y : α} (h : (l.set i y)[j]? ≠ l[j]?) : j = i ∧ i < l.length := by
  rw [List.getElem?_set] at h
  by_cases e : i = j
  · rw [if_pos e] at h
    subst e
    by_cases h2 : i < l.length
    · exact ⟨rfl, h2⟩
    · rw [if_neg h2, List.getElem?_eq_none (by omega)] at h; exact absurd rfl h
  · rw [if_neg e] at h; exact absurd rfl h
theorem set_get' {α : Type} {l : List α} {i : Nat} {y : α} (h : i < l.length) : (l.set i y)[i]? = some y := by rw [List.getElem?_set, if_pos rfl, if_pos h]
theorem drop_set_len {l l' : List El} : ∀ {M : List (List El)} {i : Nat}, M[i]? = some l → ∀ r, ((M.set i l').drop r).flatten.length + (if r ≤ i then l.length else 0) = (M.drop r).flatten.length + (if r ≤ i then l'.length else 0)
  | x :: M, 0, h, 0 => by
    obtain rfl : x = l := by simpa using h
    simp only [List.set_cons_zero, List.drop_zero, List.flatten_cons, List.length_append]
    simp; omega
  | x :: M, 0, h, r + 1 => by simp
  | x :: M, i + 1, h, 0 => by
    have := drop_set_len (l' := l') (M := M) (i := i) (l := l) (by simpa using h) 0
    simp only [List.set_cons_succ, List.drop_zero, List.flatten_cons, List.length_append] at this ⊢
    simp at this ⊢; omega
  | x :: M, i + 1, h, r + 1 => by
    have := drop_set_len (l' := l') (M := M) (i := i) (l := l) (by simpa using h) r
    simp only [List.set_cons_succ, List.drop_succ_cons, Nat.add_le_add_iff_right] at this ⊢
    exact this
theorem cut_len (h : M[i]? = some (pre ++ e :: rest)) : (M.set i (pre ++ rest)).flatten.length + 1 = M.flatten.length := by
  have := drop_set_len (l' := pre ++ rest) h 0
  simp only [List.drop_zero, Nat.zero_le, if_true, List.length_append, List.length_cons] at this
  omega
theorem add_len {y : El} (h : M[i]? = some (pre ++ rest)) : (M.set i (pre ++ y :: rest)).flatten.length = M.flatten.length + 1 := by
  have := drop_set_len (l' := pre ++ y :: rest) h 0
  simp only [List.drop_zero, Nat.zero_le, if_true, List.length_append, List.length_cons] at this
  omega
theorem cut_drop (h : M[i]? = some (pre ++ e :: rest)) (r : Nat) : ((M.set i (pre ++ rest)).drop r).flatten.length ≤ (M.drop r).flatten.length + 1 := by
  have := drop_set_len (l' := pre ++ rest) h r
  simp only [List.length_append, List.length_cons] at this
  split at this <;> omega
theorem add_drop {y : El} (h : M[i]? = some (pre ++ rest)) (r : Nat) : ((M.set i (pre ++ y :: rest)).drop r).flatten.length ≤ (M.drop r).flatten.length + 1 := by
  have := drop_set_len (l' := pre ++ y :: rest) h r
  simp only [List.length_append, List.length_cons] at this
  split at this <;> omega
theorem Srt.cut (h : Srt c i (pre ++ e :: rest)) : Srt c i (pre ++ rest) :=
  ⟨List.Pairwise.sublist (List.Sublist.append_left (List.sublist_cons_self ..) pre) h.1, fun x hx => h.2 x (by
    rcases List.mem_append.1 hx with hx | hx
    · exact List.mem_append_left _ hx
    · exact List.mem_append_right _ (List.mem_cons_of_mem _ hx))⟩
theorem srt_set (W : ∀ j l, M[j]? = some l → Srt c j l) {l : List El} (h : Srt c i l) : ∀ j l', (M.set i l)[j]? = some l' → Srt c j l' := fun j l' hj => by
  rw [List.getElem?_set] at hj
  by_cases e : i = j
  · rw [if_pos e] at hj
    subst e
    split at hj
    · obtain rfl := Option.some.inj hj; exact h
    · cases hj
  · rw [if_neg e] at hj; exact W j l' hj
theorem w_afterTake {w : Aw} (W : World N c cap clk A G rs ks M) (ha : rs[a]? = some q) (hd : q.dn = false) (hn : q.nx = .after (.take w)) : Stepd N c cap clk A G rs ks M a q (q.step c G b) := by
  have M0 := W.oth_priv ha
  have hpr : q.priv = [] := by unfold Qr.priv; rw [hn]; rfl
  rw [hpr] at M0
  have hfx : q.fx = false := by unfold Qr.fx; rw [hd, hn]; rfl
  have hhd : q.holds = true := by rw [holds_of hd, hn]; rfl
  have hch : q.chd = true := by unfold Qr.chd; rw [hn]; rfl
  rcases W.fact a q ha with h | ⟨i, h⟩
  · rw [hd] at h; cases h
  rw [hn] at h
  obtain ⟨k0, ⟨pre, e, rest, I, hu, ek, hb⟩, k1, k2, k3, k4, hk⟩ := h
  have hM : M[i]? = some (pre ++ e :: rest) := by rw [W.hold_ls ha hhd (by rw [hn]; rfl) I.room I.lt]; exact I.ls
  have hiM : i < M.length := by rw [W.lenM]; exact I.lt
  obtain ⟨G1, s1, s2⟩ := s_afterTake (b := b) (q := { q with eff := false }) M0 I.el hu w
  rw [step_of hd hn, s1]
  have eG : G1 = G.mem (G.S.acc q.cur 2 true id).2 := (congrArg Prod.snd s1).symm
  have hV : ∀ h, G1.S.V h = G.S.V h := fun h => by rw [eG]; exact acc_id h
  obtain ⟨c1, c2, c3, c4⟩ := W.cw
  have o1 : offs (rs.set a ((({ q with eff := false } : Qr).give 0 [val G.S e.h] 0 0).to (.off w))) = offs rs + 1 := by have := offs_to (q' := (({ q with eff := false } : Qr).give 0 [val G.S e.h] 0 0).to (.off w)) ha (o := 0) (o' := 1) (by rw [hn]; rfl) rfl; omega
  have o2 : his (rs.set a ((({ q with eff := false } : Qr).give 0 [val G.S e.h] 0 0).to (.off w))) = his rs := by have := his_to (q' := (({ q with eff := false } : Qr).give 0 [val G.S e.h] 0 0).to (.off w)) ha (o := 1) (o' := 1) (by rw [hn]; rfl) rfl; omega
  have hlen := cut_len hM
  have hc2 : N.c2 = N.n * 4 := rfl
  refine ⟨A, M.set i (pre ++ rest), 4 + N.c2, 4, none, ⟨s2, rfl, List.length_set, ⟨by have := W.tm; omega, by have := W.tm; omega⟩, W.que_hold ha rfl rfl hhd (give_holds hd rfl rfl) rfl (fun _ _ h => by cases h), fun j h => ?_, fun h _ => hV h, .inr ⟨i, k0, ⟨pre, e, rest, I.same rfl rfl rfl, hu, set_get' hiM⟩, Nat.le_refl _⟩, ⟨.inl rfl, .inr ⟨Nat.le_refl _, rfl, cut_drop hM⟩, .inl rfl⟩, ?_, ?_, fun i' _ hr _ h => ?_, srt_set W.srt (W.srt i _ hM).cut, fun _ => ⟨fun h => (by cases h), fun _ _ => hch⟩, nxt_none (scan_none rfl)⟩,
    Vs.same hV, .inl ⟨rfl, ?_⟩, ⟨?_, fun h => by rw [hfx] at h; cases h⟩, .inl (by omega), by rw [eG], ⟨rfl, rfl, rfl, rfl⟩⟩
  · rcases h with h | h
    · exact absurd rfl h
    · obtain ⟨rfl, _⟩ := set_ne h
      exact ⟨hhd, I.room⟩
  · show A.cnt = BitVec.ofNat 64 ((M.set i (pre ++ rest)).flatten.length + offs (rs.set a _) + 4294967296 * his (rs.set a _))
    rw [o1, o2, c1]; unfold Go.Proofs.YtjggeoghlicmdaaGreat.cw; congr 1; omega
  · show (M.set i (pre ++ rest)).flatten.length + offs (rs.set a _) ≤ _
    rw [o1]; omega
  · have h : true = false := h hr hd
    cases h
  · exact .tak k1 k2 k3 k4 ⟨hb, hM, ek⟩
  · rw [hfx]; show (q.dn || true) = true; rw [hd]; rfl
theorem w_off {w : Aw} (W : World N c cap clk A G rs ks M) (ha : rs[a]? = some q) (hd : q.dn = false) (hn : q.nx = .off w) : Stepd N c cap clk A G rs ks M a q (q.step c G b) := by
  have M0 := W.oth_priv ha
  have hpr : q.priv = [] := by unfold Qr.priv; rw [hn]; rfl
  rw [hpr] at M0
  have hfx : q.fx = true := by unfold Qr.fx; rw [hd, hn]; rfl
  have hhd : q.holds = true := by rw [holds_of hd, hn]; rfl
  rcases W.fact a q ha with h | ⟨i, h⟩
  · rw [hd] at h; cases h
  rw [hn] at h
  obtain ⟨k0, ⟨pre, e, rest, I, hu, hM⟩, hk⟩ := h
  obtain ⟨G1, s1, s2⟩ := s_off (b := b) (q := { q with eff := false }) M0 w
  rw [step_of hd hn, s1]
  have eG : G1 = G.mem (G.S.acc c.h 0 true (addF untick)).2 := (congrArg Prod.snd s1).symm
  have hV : ∀ h, h ≠ c.h → G1.S.V h = G.S.V h := fun h hh => by rw [eG]; exact acc_ne hh
  obtain ⟨c1, c2, c3, c4⟩ := W.cw
  have p1 := offs_to (q' := ({ q with eff := false } : Qr).to (.unl1 w)) ha (o := 1) (o' := 0) (by rw [hn]; rfl) rfl
  have p2 := his_to (q' := ({ q with eff := false } : Qr).to (.unl1 w)) ha (o := 1) (o' := 0) (by rw [hn]; rfl) rfl
  have o1 : offs (rs.set a (({ q with eff := false } : Qr).to (.unl1 w))) = offs rs - 1 := by omega
  have o2 : his (rs.set a (({ q with eff := false } : Qr).to (.unl1 w))) = his rs - 1 := by omega
  have ecnt : A.cnt + untick = Go.Proofs.YtjggeoghlicmdaaGreat.cw (M.flatten.length + (offs rs - 1)) (his rs - 1) := by
    rw [c1, show M.flatten.length + offs rs = M.flatten.length + (offs rs - 1) + 1 by omega, show his rs = his rs - 1 + 1 by omega]; exact cw_untick (by omega) (by omega)
  have hc2 : N.c2 = N.n * 4 := rfl
  refine ⟨{ A with cnt := A.cnt + untick }, M, 3, 4, none, ⟨s2, rfl, rfl, ⟨by have := W.tm; show A.mb ≤ _; omega, by have := W.tm; show A.chg.toNat ≤ _; omega⟩, W.que_hold ha rfl rfl hhd (to_holds hd rfl rfl) rfl (fun _ _ h => by cases h), fun j h => ?_, fun h hh => hV h (W.oth_ne ha hh), .inr ⟨i, k0, ⟨pre, e, rest, I.to rfl rfl rfl rfl, hu, hM⟩, Nat.le_refl _⟩, ⟨.inl rfl, .inl rfl, .inr (Nat.le_refl _)⟩, ?_, ?_, fun i _ hr _ h => ?_, W.srt, fun _ => ⟨fun h => (by cases h), fun j h => absurd rfl h⟩, nxt_none (scan_none rfl)⟩,
    Vs.own hV, .inr ⟨rfl, rfl, rfl, rfl, rfl, rfl, rfl⟩, ⟨by rw [hfx]; show (q.dn || true) = true; rw [hd]; rfl, fun _ => rfl⟩, .inl (by omega), by rw [eG], ⟨rfl, rfl, rfl, rfl⟩⟩
  · rcases h with h | h <;> exact absurd rfl h
  · show A.cnt + untick = BitVec.ofNat 64 (M.flatten.length + offs (rs.set a _) + 4294967296 * his (rs.set a _))
    rw [o1, o2]; exact ecnt
  · show M.flatten.length + offs (rs.set a _) ≤ _
    rw [o1]; omega
  · have h : true = false := h hr hd
    cases h
theorem w_unl1 {w : Aw} (W : World N c cap clk A G rs ks M) (ha : rs[a]? = some q) (hd : q.dn = false) (hn : q.nx = .unl1 w) : Stepd N c cap clk A G rs ks M a q (q.step c G b) := by
  have M0 := W.oth_priv ha
  have hpr : q.priv = [] := by unfold Qr.priv; rw [hn]; rfl
  rw [hpr] at M0
  have hfx : q.fx = true := by unfold Qr.fx; rw [hd, hn]; rfl
  have hhd : q.holds = true := by rw [holds_of hd, hn]; rfl
  rcases W.fact a q ha with h | ⟨i, h⟩
  · rw [hd] at h; cases h
  rw [hn] at h
  obtain ⟨k0, ⟨pre, e, rest, I, hu, hM⟩, hk⟩ := h
  obtain ⟨G1, s1, s2⟩ := s_unl1 (b := b) (q := { q with eff := false }) M0 (I.same rfl rfl rfl) hu w
  rw [step_of hd hn, s1]
  have eG : G1 = G.mem (G.S.acc q.cur 0 true id).2 := (congrArg Prod.snd s1).symm
  have hV : ∀ h, G1.S.V h = G.S.V h := fun h => by rw [eG]; exact acc_id h
  refine ⟨A, M, 2, 0, none, ?_, Vs.same hV, .inr ⟨rfl, rfl, rfl, rfl, rfl, rfl, rfl⟩, ⟨by rw [hfx]; show (q.dn || true) = true; rw [hd]; rfl, fun _ => rfl⟩, .inl (by omega), by rw [eG], ⟨rfl, rfl, rfl, rfl⟩⟩
  exact Upd.same W ha s2 rfl rfl rfl (by omega) (W.que_hold ha rfl rfl hhd (to_holds hd rfl rfl) rfl (fun _ _ h => by cases h)) (fun h _ => hV h) (.inr ⟨i, k0, Nat.le_refl _, pre, e, rest, I.same rfl rfl rfl, hu, hM, rfl⟩) (by rw [hn]; rfl) (by rw [hn]; rfl) (fun _ => ⟨rfl, rfl, hd⟩) (fun h => by cases h) (nxt_none (scan_none rfl))
end Go.Proofs.YtjggeoghlicmdaaGreat
namespace Go.Proofs.YtjggeoghlicmdaaGreat
open Go Go.AS Go.RowKit
set_option linter.unusedVariables false
variable {N : Nm} {c : Lc} {A A' : Ab} {G G' : Gr} {cap : Int} {q q' x : Qr} {i j : Nat} {pre rest : List El} {e : El} {P : List Int} {n k k' a clk δ : Nat} {rs : List Qr} {M M' : List (List El)} {ks : Nat → Nat} {V V' : View} {b : Bs}
theorem spot_ne (M0 : Mem c cap A P G) (I : In c A i q pre rest) {h : Int} (hh : h ∈ P) : h ≠ q.ah := by
  rw [I.ah]
  unfold spotH
  cases hg : pre.getLast? with
  | none => exact M0.bk.ne_c (List.mem_append_left _ (List.mem_append_right _ hh))
  | some y =>
    have hy : y ∈ A.els := Ab.mem I.ls (List.mem_append_left _ (List.mem_of_getLast? hg))
    exact fun e => M0.el_ne hy hh e.symm
theorem w_unl2 {v : Wd} {w : Aw} (W : World N c cap clk A G rs ks M) (ha : rs[a]? = some q) (hd : q.dn = false) (hn : q.nx = .unl2 v w) : Stepd N c cap clk A G rs ks M a q (q.step c G b) := by
  have M0 := W.oth_priv ha
  have hpr : q.priv = [] := by unfold Qr.priv; rw [hn]; rfl
  rw [hpr] at M0
  have hfx : q.fx = true := by unfold Qr.fx; rw [hd, hn]; rfl
  have hhd : q.holds = true := by rw [holds_of hd, hn]; rfl
  rcases W.fact a q ha with h | ⟨i, h⟩
  · rw [hd] at h; cases h
  rw [hn] at h
  obtain ⟨rfl, hk, pre, e, rest, I, hu, hM, rfl⟩ := h
  obtain ⟨u1, u2⟩ := M0.unlink I.ls I.ah I.ai
  obtain ⟨d1, d2, d3, d4, d5, d6⟩ := u1.defer b.1
  have e1 : q.step c G b = (({ q with eff := false } : Qr).to .leave, ((G.mem (G.S.acc q.ah q.ai true fun _ => first rest).2).defer e.h b.1).2) := by
    rw [step_of hd hn]
    show (_, ((G.mem (G.S.acc q.ah q.ai true fun _ => first rest).2).defer q.cur b.1).2) = _
    rw [hu]; rfl
  rw [e1]
  have hV : ∀ h ∈ oth rs a, (((G.mem (G.S.acc q.ah q.ai true fun _ => first rest).2).defer e.h b.1).2).S.V h = G.S.V h := fun h hh => by
    rw [d3 h (List.mem_cons_of_mem _ (List.mem_append_right _ hh))]
    exact acc_ne (spot_ne M0 I hh)
  have o1 : offs (rs.set a (({ q with eff := false } : Qr).to .leave)) = offs rs := by have := offs_to (q' := ({ q with eff := false } : Qr).to .leave) ha (o := 0) (o' := 0) (by rw [hn]; rfl) rfl; omega
  have o2 : his (rs.set a (({ q with eff := false } : Qr).to .leave)) = his rs := by have := his_to (q' := ({ q with eff := false } : Qr).to .leave) ha (o := 0) (o' := 0) (by rw [hn]; rfl) rfl; omega
  refine ⟨{ A with ls := A.ls.set i (pre ++ rest) }, M, 1, 0, none, ⟨d1, List.length_set, rfl, ⟨by have := W.tm; show A.mb ≤ _; omega, by have := W.tm; show A.chg.toNat ≤ _; omega⟩, W.que_hold ha rfl rfl hhd (by show (true && !(q.dn && true)) = true; rw [hd]; rfl) rfl (fun _ _ h => by cases h), fun j h => ?_, hV, .inr ⟨i, I.room, ?_, Nat.le_refl _⟩, ⟨.inl rfl, .inl rfl, .inl rfl⟩, ?_, ?_, fun i' hi' hr _ _ => ?_, W.srt, fun _ => ⟨fun h => (by cases h), fun j h => absurd rfl h⟩, nxt_none (scan_none rfl)⟩,
    fun h h1 _ h3 => ?_, .inr ⟨rfl, rfl, rfl, rfl, rfl, rfl, rfl⟩, ⟨by rw [hfx]; show (q.dn || true) = true; rw [hd]; rfl, fun _ => rfl⟩, .inl (by omega), d4, ⟨rfl, rfl, rfl, rfl⟩⟩
  · rcases h with h | h
    · obtain ⟨rfl, _⟩ := set_ne h
      exact ⟨hhd, I.room⟩
    · exact absurd rfl h
  · show i < (A.ls.set i (pre ++ rest)).length
    rw [List.length_set]; exact I.lt
  · show A.cnt = BitVec.ofNat 64 (M.flatten.length + offs (rs.set a _) + 4294967296 * his (rs.set a _))
    rw [o1, o2]; exact W.cnt
  · show M.flatten.length + offs (rs.set a _) ≤ _
    rw [o1]; exact W.le
  · have ei : i' = i := by have := I.room; omega
    subst ei
    show M[i']? = (A.ls.set i' (pre ++ rest))[i']?
    rw [hM, set_get' hi']
  · have e2 := d2 h h3
    obtain ⟨u3, u4⟩ := u2 h h1
    rw [e2] at h3
    refine ⟨u4 h3, ?_⟩
    show val _ h = val G.S h
    rw [← u3]
    unfold val; rw [e2]
theorem w_afterDrop (W : World N c cap clk A G rs ks M) (ha : rs[a]? = some q) (hd : q.dn = false) (hn : q.nx = .after .drop) : Stepd N c cap clk A G rs ks M a q (q.step c G b) := by
  have M0 := W.oth_priv ha
  have hpr : q.priv = [] := by unfold Qr.priv; rw [hn]; rfl
  rw [hpr] at M0
  have hfx : q.fx = false := by unfold Qr.fx; rw [hd, hn]; rfl
  have hhd : q.holds = true := by rw [holds_of hd, hn]; rfl
  have hch : q.chd = true := by unfold Qr.chd; rw [hn]; rfl
  rcases W.fact a q ha with h | ⟨i, h⟩
  · rw [hd] at h; cases h
  rw [hn] at h
  obtain ⟨⟨pre, e, rest, I, hu, ek, hb⟩, k3, hk⟩ := h
  have hM : M[i]? = some (pre ++ e :: rest) := by rw [W.hold_ls ha hhd (by rw [hn]; rfl) I.room I.lt]; exact I.ls
  have hiM : i < M.length := by rw [W.lenM]; exact I.lt
  obtain ⟨G1, s1, s2⟩ := s_afterDrop (b := b) (q := { q with eff := false }) M0
  rw [step_of hd hn, s1]
  have eG : G1 = G.mem (G.S.acc c.h 0 true (fetchF 0 lowM lowM)).2 := (congrArg Prod.snd s1).symm
  have hV : ∀ h, h ≠ c.h → G1.S.V h = G.S.V h := fun h hh => by rw [eG]; exact acc_ne hh
  obtain ⟨c1, c2, c3, c4⟩ := W.cw
  have o1 : offs (rs.set a ((({ q with eff := false } : Qr).give 0 [] 0 0).to (.unl1 .away))) = offs rs := by have := offs_to (q' := (({ q with eff := false } : Qr).give 0 [] 0 0).to (.unl1 .away)) ha (o := 0) (o' := 0) (by rw [hn]; rfl) rfl; omega
  have o2 : his (rs.set a ((({ q with eff := false } : Qr).give 0 [] 0 0).to (.unl1 .away))) = his rs := by have := his_to (q' := (({ q with eff := false } : Qr).give 0 [] 0 0).to (.unl1 .away)) ha (o := 0) (o' := 0) (by rw [hn]; rfl) rfl; omega
  have hlen := cut_len hM
  have hc2 : N.c2 = N.n * 4 := rfl
  have ecnt : fetchF 0 lowM lowM A.cnt = Go.Proofs.YtjggeoghlicmdaaGreat.cw ((M.set i (pre ++ rest)).flatten.length + offs rs) (his rs) := by
    rw [c1, show M.flatten.length + offs rs = (M.set i (pre ++ rest)).flatten.length + offs rs + 1 by omega]; exact cw_less (by omega) (by omega)
  refine ⟨{ A with cnt := fetchF 0 lowM lowM A.cnt }, M.set i (pre ++ rest), 3, 4, none, ⟨s2, rfl, List.length_set, ⟨by have := W.tm; show A.mb ≤ _; omega, by have := W.tm; show A.chg.toNat ≤ _; omega⟩, W.que_hold ha rfl rfl hhd (give_holds hd rfl rfl) rfl (fun _ _ h => by cases h), fun j h => ?_, fun h hh => hV h (W.oth_ne ha hh), .inr ⟨i, rfl, ⟨pre, e, rest, I.to rfl rfl rfl rfl, hu, set_get' hiM⟩, Nat.le_refl _⟩, ⟨.inl rfl, .inr ⟨Nat.le_refl _, rfl, cut_drop hM⟩, .inr (Nat.le_refl _)⟩, ?_, ?_, fun i' _ hr _ h => ?_, srt_set W.srt (W.srt i _ hM).cut, fun _ => ⟨fun h => (by cases h), fun _ _ => hch⟩, nxt_none (scan_none rfl)⟩,
    Vs.own hV, .inl ⟨rfl, .del k3 ⟨hb, hM, ek⟩⟩, ⟨?_, fun h => by rw [hfx] at h; cases h⟩, .inl (by omega), by rw [eG], ⟨rfl, rfl, rfl, rfl⟩⟩
  · rcases h with h | h
    · exact absurd rfl h
    · obtain ⟨rfl, _⟩ := set_ne h
      exact ⟨hhd, I.room⟩
  · show fetchF 0 lowM lowM A.cnt = BitVec.ofNat 64 ((M.set i (pre ++ rest)).flatten.length + offs (rs.set a _) + 4294967296 * his (rs.set a _))
    rw [o1, o2]; exact ecnt
  · show (M.set i (pre ++ rest)).flatten.length + offs (rs.set a _) ≤ _
    rw [o1]; omega
  · have h : true = false := h hr hd
    cases h
  · rw [hfx]; show (q.dn || true) = true; rw [hd]; rfl
end Go.Proofs.YtjggeoghlicmdaaGreat
namespace Go.Proofs.YtjggeoghlicmdaaGreat
open Go Go.AS Go.RowKit
set_option linter.unusedVariables false
variable {N : Nm} {c : Lc} {A A' : Ab} {G G' : Gr} {cap : Int} {q q' x : Qr} {i j : Nat} {pre rest : List El} {e : El} {P : List Int} {n k k' a clk δ : Nat} {rs : List Qr} {M M' : List (List El)} {ks : Nat → Nat} {V V' : View} {b : Bs}
theorem own_one (W : World N c cap clk A G rs ks M) (ha : rs[a]? = some q) (hp : q.priv = [q.made]) : q.made ∉ oth rs a ∧ q.made ≠ c.h ∧ 1 ≤ q.made ∧ q.made ≤ G.S.made := by
  have M0 := W.oth_priv ha
  rw [hp] at M0
  have nd := (List.nodup_cons.1 M0.bk.nd2).2
  have nd := (List.nodup_append.1 (List.nodup_append.1 nd).1).2.1
  have hb := M0.bd (h := q.made) (by simp)
  exact ⟨(List.nodup_cons.1 nd).1, M0.bk.ne_c (List.mem_append_left _ (List.mem_append_right _ (by simp))), hb.1, hb.2.1⟩
theorem w_link (W : World N c cap clk A G rs ks M) (ha : rs[a]? = some q) (hd : q.dn = false) (hn : q.nx = .link) : Stepd N c cap clk A G rs ks M a q (q.step c G b) := by
  have M0 := W.oth_priv ha
  have hpr : q.priv = [q.made] := by unfold Qr.priv; rw [hn]; rfl
  obtain ⟨w1, w2, _⟩ := own_one W ha hpr
  rw [hpr] at M0
  have hfx : q.fx = true := by unfold Qr.fx; rw [hd, hn]; rfl
  have hhd : q.holds = true := by rw [holds_of hd, hn]; rfl
  rcases W.fact a q ha with h | ⟨i, h⟩
  · rw [hd] at h; cases h
  rw [hn] at h
  obtain ⟨hm, hk, pre, rest, I, hv, hM⟩ := h
  obtain ⟨u1, u2⟩ := M0.link I.ls hv I.ah I.ai
  have e1 : q.step c G b = (({ q with eff := false } : Qr).to .leave, G.mem (G.S.acc q.ah q.ai true fun _ => BitVec.ofInt 64 q.made).2) := by rw [step_of hd hn]; rfl
  rw [e1]
  have hV : ∀ h ∈ oth rs a, (G.mem (G.S.acc q.ah q.ai true fun _ => BitVec.ofInt 64 q.made).2).S.V h = G.S.V h := fun h hh => acc_ne (spot_ne M0 I (List.mem_cons_of_mem _ hh))
  have o1 : offs (rs.set a (({ q with eff := false } : Qr).to .leave)) = offs rs := by have := offs_to (q' := ({ q with eff := false } : Qr).to .leave) ha (o := 0) (o' := 0) (by rw [hn]; rfl) rfl; omega
  have o2 : his (rs.set a (({ q with eff := false } : Qr).to .leave)) = his rs := by have := his_to (q' := ({ q with eff := false } : Qr).to .leave) ha (o := 0) (o' := 0) (by rw [hn]; rfl) rfl; omega
  refine ⟨{ A with ls := A.ls.set i (pre ++ ⟨q.made, q.ky⟩ :: rest) }, M, 1, 0, none, ⟨u1, List.length_set, rfl, ⟨by have := W.tm; show A.mb ≤ _; omega, by have := W.tm; show A.chg.toNat ≤ _; omega⟩, W.que_hold ha rfl rfl hhd (by show (true && !(q.dn && true)) = true; rw [hd]; rfl) rfl (fun _ _ h => by cases h), fun j h => ?_, hV, .inr ⟨i, I.room, ?_, Nat.le_refl _⟩, ⟨.inl rfl, .inl rfl, .inl rfl⟩, ?_, ?_, fun i' hi' hr _ _ => ?_, W.srt, fun _ => ⟨fun h => (by cases h), fun j h => absurd rfl h⟩, nxt_none (scan_none rfl)⟩,
    fun h h1 _ h3 => ⟨(u2 h h1).2 h3, (u2 h h1).1⟩, .inr ⟨rfl, rfl, rfl, rfl, rfl, rfl, rfl⟩, ⟨by rw [hfx]; show (q.dn || true) = true; rw [hd]; rfl, fun _ => rfl⟩, .inl (by omega), rfl, ⟨rfl, rfl, rfl, rfl⟩⟩
  · rcases h with h | h
    · obtain ⟨rfl, _⟩ := set_ne h
      exact ⟨hhd, I.room⟩
    · exact absurd rfl h
  · show i < (A.ls.set i _).length
    rw [List.length_set]; exact I.lt
  · show A.cnt = BitVec.ofNat 64 (M.flatten.length + offs (rs.set a _) + 4294967296 * his (rs.set a _))
    rw [o1, o2]; exact W.cnt
  · show M.flatten.length + offs (rs.set a _) ≤ _
    rw [o1]; exact W.le
  · have ei : i' = i := by have := I.room; omega
    subst ei
    show M[i']? = (A.ls.set i' _)[i']?
    rw [hM, set_get' hi']
theorem World.mem_M (W : World N c cap clk A G rs ks M) {l : List El} (hl : M[j]? = some l) {y : El} (hy : y ∈ l) : y ∈ A.els ∨ ∃ (b : Nat) (x : Qr), rs[b]? = some x ∧ x.nx = .link ∧ y.h = x.made := by
  have hj : j < A.ls.length := by rw [← W.lenM]; exact (List.getElem?_eq_some_iff.1 hl).1
  by_cases hp : ∀ (a : Nat) (q : Qr), rs[a]? = some q → q.room = (j : Int) → q.dn = false → q.nx.pend = false
  · have := W.rel j hj hp
    rw [hl] at this
    exact .inl (Ab.mem this.symm hy)
  · obtain ⟨b, x, hx, hr, hd, hpd⟩ : ∃ (b : Nat) (x : Qr), rs[b]? = some x ∧ x.room = (j : Int) ∧ x.dn = false ∧ x.nx.pend = true := by
      refine Classical.byContradiction fun hne => hp fun b x hx hr hd => Classical.byContradiction fun h => hne ⟨b, x, hx, hr, hd, by simpa using h⟩
    have out : ∀ {i : Nat}, OutF c A M i x → y ∈ A.els := fun {i} ⟨pre, e, rest, I, _, hM⟩ => by
      have ei : i = j := by have := I.room; omega
      subst ei
      rw [hl] at hM; obtain rfl := Option.some.inj hM
      refine Ab.mem I.ls ?_
      rcases List.mem_append.1 hy with h | h
      · exact List.mem_append_left _ h
      · exact List.mem_append_right _ (List.mem_cons_of_mem _ h)
    rcases W.fact b x hx with h | ⟨i, h⟩
    · rw [hd] at h; cases h
    cases hn : x.nx with
    | link =>
      rw [hn] at h
      obtain ⟨_, _, pre, rest, I, _, hM⟩ := h
      have ei : i = j := by have := I.room; omega
      subst ei
      rw [hl] at hM; obtain rfl := Option.some.inj hM
      rcases List.mem_append.1 hy with h | h
      · exact .inl (Ab.mem I.ls (List.mem_append_left _ h))
      · rcases List.mem_cons.1 h with rfl | h
        · exact .inr ⟨b, x, hx, hn, rfl⟩
        · exact .inl (Ab.mem I.ls (List.mem_append_right _ h))
    | off w => rw [hn] at h; exact .inl (out h.2.1)
    | unl1 w => rw [hn] at h; exact .inl (out h.2.1)
    | unl2 v w =>
      rw [hn] at h
      obtain ⟨_, _, pre, e, rest, I, hu, hM, _⟩ := h
      exact .inl (out ⟨pre, e, rest, I, hu, hM⟩)
    | _ => rw [hn] at hpd; cases hpd
theorem w_afterAdd (W : World N c cap clk A G rs ks M) (ha : rs[a]? = some q) (hd : q.dn = false) (hn : q.nx = .after .add) : Stepd N c cap clk A G rs ks M a q (q.step c G b) := by
  have M0 := W.oth_priv ha
  have hpr : q.priv = [q.made] := by unfold Qr.priv; rw [hn]; rfl
  obtain ⟨w1, w2, _⟩ := own_one W ha hpr
  have hfx : q.fx = false := by unfold Qr.fx; rw [hd, hn]; rfl
  have hhd : q.holds = true := by rw [holds_of hd, hn]; rfl
  have hch : q.chd = true := by unfold Qr.chd; rw [hn]; rfl
  rcases W.fact a q ha with h | ⟨i, h⟩
  · rw [hd] at h; cases h
  rw [hn] at h
  obtain ⟨⟨hm, hv⟩, ⟨pre, rest, I, hu, hp1, hp2, hb, hk2, hfl⟩, hE, hk⟩ := h
  have hM : M[i]? = some (pre ++ rest) := by rw [W.hold_ls ha hhd (by rw [hn]; rfl) I.room I.lt]; exact I.ls
  have hiM : i < M.length := by rw [W.lenM]; exact I.lt
  obtain ⟨G1, s2, s1, s3⟩ := s_afterAdd (b := b) (q := { q with eff := false }) M0
  have eG : G1 = G.mem (doAfter c .add { q with eff := false } G.S).2 := (congrArg Prod.snd s1).symm
  have hV : ∀ h, h ≠ c.h → G1.S.V h = G.S.V h := fun h hh => by
    have := congrFun s3 h
    rw [this, if_neg hh]
  have hins : G1.ins = G.ins := by rw [eG]
  obtain ⟨c1, c2, c3, c4⟩ := W.cw
  have hc2 : N.c2 = N.n * 4 := rfl
  rw [step_of hd hn, s1]
  by_cases e : A.cnt &&& lowM = q.was
  · -- counted
    have eif : (if A.cnt &&& lowM = ({ q with eff := false } : Qr).was then (({ q with eff := false } : Qr).give 0 [] 0 0).to .link else ({ q with eff := false } : Qr).to .space) = (({ q with eff := false } : Qr).give 0 [] 0 0).to .link := if_pos e
    rw [eif]
    have hk : 3 + N.c2 ≤ ks a := by omega
    have hlow : (M.flatten.length + offs rs) < N.E := by
      rw [← e, c1, cw_low (by omega) (by omega)] at hE; exact hE
    have o1 : offs (rs.set a ((({ q with eff := false } : Qr).give 0 [] 0 0).to .link)) = offs rs := by have := offs_to (q' := (({ q with eff := false } : Qr).give 0 [] 0 0).to .link) ha (o := 0) (o' := 0) (by rw [hn]; rfl) rfl; omega
    have o2 : his (rs.set a ((({ q with eff := false } : Qr).give 0 [] 0 0).to .link)) = his rs := by have := his_to (q' := (({ q with eff := false } : Qr).give 0 [] 0 0).to .link) ha (o := 0) (o' := 0) (by rw [hn]; rfl) rfl; omega
    have hlen := add_len (y := ⟨q.made, q.ky⟩) hM
    have ecnt : casF lowM q.was (q.was + 1) A.cnt = Go.Proofs.YtjggeoghlicmdaaGreat.cw ((M.set i (pre ++ ⟨q.made, q.ky⟩ :: rest)).flatten.length + offs rs) (his rs) := by
      have hw : Go.Proofs.YtjggeoghlicmdaaGreat.cw (M.flatten.length + offs rs) (his rs) &&& lowM = q.was := by rw [← c1]; exact e
      rw [c1, show (M.set i (pre ++ ⟨q.made, q.ky⟩ :: rest)).flatten.length + offs rs = M.flatten.length + offs rs + 1 by omega]; exact cw_more (by omega) (by omega) hw
    have hsrt := W.srt i _ hM
    have hsp := List.pairwise_append.1 hsrt.1
    have hsrt' : Srt c i (pre ++ ⟨q.made, q.ky⟩ :: rest) := by
      refine ⟨List.pairwise_append.2 ⟨hsp.1, List.pairwise_cons.2 ⟨fun y hy => hp2 y hy, hsp.2.1⟩, fun y hy z hz => ?_⟩, fun y hy => ?_⟩
      · rcases List.mem_cons.1 hz with rfl | hz
        · exact hp1 y hy
        · exact hsp.2.2 y hy z hz
      · rcases List.mem_append.1 hy with hy | hy
        · exact hsrt.2 y (List.mem_append_left _ hy)
        · rcases List.mem_cons.1 hy with rfl | hy
          · exact hb
          · exact hsrt.2 y (List.mem_append_right _ hy)
    have hnew : q.made ∉ M.flatten.map El.h := fun hh => by
      obtain ⟨y, hy, ey⟩ := List.mem_map.1 hh
      obtain ⟨l, hl, hy⟩ := List.mem_flatten.1 hy
      obtain ⟨j, hj⟩ := List.getElem?_of_mem hl
      rcases W.mem_M hj hy with h | ⟨b2, x, hx, hxn, hxm⟩
      · exact M0.el_ne h (by rw [hpr]; exact .head _) ey
      · have hba : b2 ≠ a := fun h => by
          subst h
          rw [ha] at hx; obtain rfl := Option.some.inj hx
          rw [hn] at hxn; cases hxn
        exact w1 (by rw [← ey, hxm]; exact oth_mem ha hx hba (by unfold Qr.priv; rw [hxn]; exact .head _))
    rw [hu] at hv
    refine ⟨{ A with cnt := casF lowM q.was (q.was + 1) A.cnt }, M.set i (pre ++ ⟨q.made, q.ky⟩ :: rest), 2, 4, none, ⟨?_, rfl, List.length_set, ⟨by have := W.tm; show A.mb ≤ _; omega, by have := W.tm; show A.chg.toNat ≤ _; omega⟩, W.que_hold ha rfl rfl hhd (give_holds hd rfl rfl) rfl (fun _ _ h => by cases h), fun j h => ?_, fun h hh => hV h (W.oth_ne ha hh), .inr ⟨i, hm, Nat.le_refl _, pre, rest, I.to rfl rfl rfl rfl, ?_, set_get' hiM⟩, ⟨.inl rfl, .inr ⟨Nat.le_refl _, rfl, add_drop hM⟩, .inr (Nat.le_refl _)⟩, ?_, ?_, fun i' _ hr _ h => ?_, srt_set W.srt hsrt', fun _ => ⟨fun h => (by cases h), fun _ _ => hch⟩, nxt_none (scan_none rfl)⟩,
      Vs.own hV, .inl ⟨rfl, .add hk2 hfl hb hM hp1 hp2 ?_ hv hnew⟩, ⟨?_, fun h => by rw [hfx] at h; cases h⟩, .inl (by omega), hins, ⟨rfl, rfl, rfl, rfl⟩⟩
    · show Mem c cap { A with cnt := casF lowM q.was (q.was + 1) A.cnt } ([q.made] ++ oth rs a) G1
      rw [← hpr]; exact s2
    · rcases h with h | h
      · exact absurd rfl h
      · obtain ⟨rfl, _⟩ := set_ne h
        exact ⟨hhd, I.room⟩
    · show G1.S.V q.made = _
      rw [hV _ w2]; exact hv
    · show casF lowM q.was (q.was + 1) A.cnt = BitVec.ofNat 64 ((M.set i (pre ++ ⟨q.made, q.ky⟩ :: rest)).flatten.length + offs (rs.set a _) + 4294967296 * his (rs.set a _))
      rw [o1, o2]; exact ecnt
    · show (M.set i (pre ++ ⟨q.made, q.ky⟩ :: rest)).flatten.length + offs (rs.set a _) ≤ _
      rw [o1]; omega
    · have h : true = false := h hr hd
      cases h
    · have := W.nE; omega
    · rw [hfx]; show (q.dn || true) = true; rw [hd]; rfl
  · -- an other one counted
    have eif : (if A.cnt &&& lowM = ({ q with eff := false } : Qr).was then (({ q with eff := false } : Qr).give 0 [] 0 0).to .link else ({ q with eff := false } : Qr).to .space) = ({ q with eff := false } : Qr).to .space := if_neg e
    rw [eif]
    have hk : 5 + N.c2 ≤ ks a := by
      rw [if_neg (fun h => e h.symm)] at hk; omega
    have ecnt : casF lowM q.was (q.was + 1) A.cnt = A.cnt := by
      rw [c1]; rw [c1] at e
      exact cw_not (by have := W.sml; omega) e
    have hpr' : (({ q with eff := false } : Qr).to .space).priv = [q.made] := by
      show (if q.made = 0 then [] else [q.made]) = _
      rw [if_neg hm]
    have eA : ({ A with cnt := casF lowM q.was (q.was + 1) A.cnt } : Ab) = A := by rw [ecnt]
    have s2' : Mem c cap A (q.priv ++ oth rs a) G1 := by
      have s2 : Mem c cap { A with cnt := casF lowM q.was (q.was + 1) A.cnt } (q.priv ++ oth rs a) G1 := s2
      rw [eA] at s2; exact s2
    refine ⟨A, M, 4 + N.c2, 0, none, ?_, Vs.own hV, .inr ⟨rfl, rfl, rfl, rfl, rfl, rfl, rfl⟩, ⟨?_, fun h => by rw [hfx] at h; cases h⟩, .inl (by omega), hins, ⟨rfl, rfl, rfl, rfl⟩⟩
    · exact Upd.same W ha (by rw [hpr', ← hpr]; exact s2') rfl rfl rfl (by omega) (W.que_hold ha rfl rfl hhd (to_holds hd rfl rfl) rfl (fun _ _ h => by cases h)) (fun h hh => hV h (W.oth_ne ha hh)) (.inr ⟨i, .inr ⟨⟨hm, by show G1.S.V q.made = _; rw [hV _ w2]; exact hv⟩, Nat.le_refl _⟩, pre, rest, I.same rfl rfl rfl, hu, hp1, hp2, hb, hk2, hfl⟩) (by rw [hn]; rfl) (by rw [hn]; rfl) (fun h => by rw [hn] at h; cases h) (fun _ => ⟨hch, rfl⟩) (nxt_none (scan_none rfl))
    · rw [hfx]; show (q.dn || false) = _; rw [hd]; rfl
end Go.Proofs.YtjggeoghlicmdaaGreat
namespace Go.Proofs.YtjggeoghlicmdaaGreat
open Go Go.AS Go.RowKit
set_option linter.unusedVariables false
variable {N : Nm} {c : Lc} {A A' : Ab} {G G' : Gr} {cap : Int} {q q' x : Qr} {i j : Nat} {pre rest : List El} {e : El} {P : List Int} {n k k' a clk δ : Nat} {rs : List Qr} {M M' : List (List El)} {ks : Nat → Nat} {V V' : View} {b : Bs}
theorem gap_miss (W : World N c cap clk A G rs ks M) (ha : rs[a]? = some q) (hh : q.holds = true) (hp : q.nx.pend = false) (h : GapF c A i q) : Miss c M q.ky := by
  obtain ⟨pre, rest, I, hu, hp1, hp2, hb, hk2, hfl⟩ := h
  have hM : M[i]? = some (pre ++ rest) := by rw [W.hold_ls ha hh hp I.room I.lt]; exact I.ls
  refine ⟨i, _, hb, hM, fun e he h => ?_⟩
  rcases List.mem_append.1 he with he | he
  · have := hp1 e he; rw [h] at this; omega
  · have := hp2 e he; rw [h] at this; omega
theorem GapF.to {q' : Qr} (h : GapF c A i q) (e1 : q'.room = q.room) (e2 : q'.ah = q.ah) (e3 : q'.ai = q.ai) (e4 : q'.cur = q.cur) (e5 : q'.ky = q.ky) (e6 : q'.kd = q.kd) (e7 : q'.fl = q.fl) (e8 : A'.ls = A.ls) : GapF c A' i q' := by
  obtain ⟨pre, rest, I, hu, hp1, hp2, hb, hk2, hfl⟩ := h
  exact ⟨pre, rest, I.to e8 e1 e2 e3, by rw [e4]; exact hu, by rw [e5]; exact hp1, by rw [e5]; exact hp2, by rw [e5]; exact hb, e6.trans hk2, by rw [e7]; exact hfl⟩
theorem Mem.permQ {P' : List Int} (h : Mem c cap A P G) (e : P = P') : Mem c cap A P' G := e ▸ h
theorem w_changeAdd (W : World N c cap clk A G rs ks M) (ha : rs[a]? = some q) (hd : q.dn = false) (hn : q.nx = .change .add) : Stepd N c cap clk A G rs ks M a q (q.step c G b) := by
  have M0 := W.oth_priv ha
  have hpr : q.priv = [q.made] := by unfold Qr.priv; rw [hn]; rfl
  obtain ⟨w1, w2, _⟩ := own_one W ha hpr
  have hfx : q.fx = false := by unfold Qr.fx; rw [hd, hn]; rfl
  have hhd : q.holds = true := by rw [holds_of hd, hn]; rfl
  rcases W.fact a q ha with h | ⟨i, h⟩
  · rw [hd] at h; cases h
  rw [hn] at h
  obtain ⟨⟨hm, hv⟩, hg, hE, hk⟩ := h
  obtain ⟨G1, s1, s2⟩ := s_change (b := b) (q := { q with eff := false }) M0 .add
  rw [step_of hd hn, s1]
  have eG : G1 = G.mem (G.S.acc c.h 1 true (addF 1)).2 := (congrArg Prod.snd s1).symm
  have hV : ∀ h, h ≠ c.h → G1.S.V h = G.S.V h := fun h hh => by rw [eG]; exact acc_ne hh
  have hcr : N.cr = N.n * N.sz := rfl
  refine ⟨{ A with chg := A.chg + 1 }, M, 5 + N.c2, N.sz, none, Upd.chg W ha (s2.permQ (by rw [hpr]; rfl)) hhd (to_holds hd rfl rfl) rfl (fun _ _ h => by cases h) (fun h hh => hV h (W.oth_ne ha hh)) (.inr ⟨i, ⟨hm, ?_⟩, hg.to rfl rfl rfl rfl rfl rfl rfl rfl, hE, ?_⟩) (by rw [hn]; rfl) (by rw [hn]; rfl) (by rw [hn]; rfl) rfl,
    Vs.own hV, .inr ⟨rfl, rfl, rfl, rfl, rfl, rfl, rfl⟩, ⟨?_, fun h => by rw [hfx] at h; cases h⟩, .inl (by omega), by rw [eG], ⟨rfl, rfl, rfl, rfl⟩⟩
  · show G1.S.V q.made = _
    rw [hV _ w2]; exact hv
  · have : (if q.was = A.cnt &&& lowM then 0 else 2) ≤ 2 := by split <;> omega
    show 3 + N.c2 + (if q.was = A.cnt &&& lowM then 0 else 2) ≤ 5 + N.c2
    omega
  · rw [hfx]; show (q.dn || false) = _; rw [hd]; rfl
theorem w_words {gw bw m : Nat} {h0 : Int} {all : List Wd} (W : World N c cap clk A G rs ks M) (ha : rs[a]? = some q) (hd : q.dn = false) (hn : q.nx = .words gw bw h0 all m) : Stepd N c cap clk A G rs ks M a q (q.step c G b) := by
  have M0 := W.oth_priv ha
  have hpr : q.priv = [q.made] := by unfold Qr.priv; rw [hn]; rfl
  obtain ⟨w1, w2, _⟩ := own_one W ha hpr
  rw [hpr] at M0
  have hfx : q.fx = false := by unfold Qr.fx; rw [hd, hn]; rfl
  have hhd : q.holds = true := by rw [holds_of hd, hn]; rfl
  rcases W.fact a q ha with h | ⟨i, h⟩
  · rw [hd] at h; cases h
  rw [hn] at h
  obtain ⟨rfl, hm, hg, hE, hm1, hm3, hk, rfl, ws, hv, hl, hws⟩ := h
  obtain ⟨G1, s1, s2, s3⟩ := s_words (b := b) (q := { q with eff := false }) (gw := gw) (bw := bw) (all := [BitVec.ofInt 64 q.cur, q.ky, q.val]) (n := m) M0 hv hl ⟨hm1, hm3⟩
  rw [step_of hd hn, s1]
  have eG : G1 = G.mem (G.S.acc q.made ((m - 1 : Nat) : Int) true fun _ => [BitVec.ofInt 64 q.cur, q.ky, q.val].getD (m - 1) 0).2 := (congrArg Prod.snd s1).symm
  have hV : ∀ h, h ≠ q.made → G1.S.V h = G.S.V h := fun h hh => by rw [eG]; exact acc_ne hh
  have hVo : ∀ h ∈ oth rs a, G1.S.V h = G.S.V h := fun h hh => hV h fun e => w1 (e ▸ hh)
  obtain ⟨x0, x1, x2, rfl⟩ : ∃ x0 x1 x2, ws = [x0, x1, x2] := by
    match ws, hl with
    | [x0, x1, x2], _ => exact ⟨_, _, _, rfl⟩
  have vals : ∀ q' : Qr, q'.priv = [q.made] → q'.nx ≠ .link → Vs c q' G.S G1.S none := fun q' hq' hnl h h1 h2 h3 => by
    have hne : h ≠ q.made := fun e => hnl (h2 (by rw [hq', e]; exact .head _))
    have e := hV h hne
    rw [e] at h3
    exact ⟨h3, by show val G1.S h = val G.S h; unfold val; rw [e]⟩
  by_cases e : m = 1
  · subst e
    rw [if_pos rfl]
    have hws : [x1, x2] = [q.ky, q.val] := hws
    obtain ⟨rfl, rfl⟩ : x1 = q.ky ∧ x2 = q.val := by simpa using hws
    refine ⟨A, M, 6 + N.cr + N.c2, 0, none, ?_, vals _ rfl (fun h => by cases h), .inr ⟨rfl, rfl, rfl, rfl, rfl, rfl, rfl⟩, ⟨?_, fun h => by rw [hfx] at h; cases h⟩, .inl (by omega), by rw [eG], ⟨rfl, rfl, rfl, rfl⟩⟩
    · exact Upd.same W ha s2 rfl rfl rfl (by omega) (W.que_hold ha rfl rfl hhd (to_holds hd rfl rfl) rfl (fun _ _ h => by cases h)) hVo (.inr ⟨i, ⟨hm, s3⟩, hg.to rfl rfl rfl rfl rfl rfl rfl rfl, hE, Nat.le_refl _⟩) (by rw [hn]; rfl) (by rw [hn]; rfl) (fun h => by rw [hn] at h; cases h) (fun h => by cases h) (nxt_none (scan_none rfl))
    · rw [hfx]; show (q.dn || false) = _; rw [hd]; rfl
  · rw [if_neg e]
    refine ⟨A, M, 6 + (m - 1) + N.cr + N.c2, 0, none, ?_, vals _ rfl (fun h => by cases h), .inr ⟨rfl, rfl, rfl, rfl, rfl, rfl, rfl⟩, ⟨?_, fun h => by rw [hfx] at h; cases h⟩, .inl (by omega), by rw [eG], ⟨rfl, rfl, rfl, rfl⟩⟩
    · refine Upd.same W ha s2 rfl rfl rfl (by omega) (W.que_hold ha rfl rfl hhd (to_holds hd rfl rfl) rfl (fun _ _ h => by cases h)) hVo (.inr ⟨i, rfl, hm, hg.to rfl rfl rfl rfl rfl rfl rfl rfl, hE, by omega, by omega, Nat.le_refl _, rfl, _, s3, by simp, ?_⟩) (by rw [hn]; rfl) (by rw [hn]; rfl) (fun h => by rw [hn] at h; cases h) (fun h => by cases h) (nxt_none (scan_none rfl))
      have hm23 : m = 2 ∨ m = 3 := by omega
      rcases hm23 with rfl | rfl
      · have hws : [x2] = [q.val] := hws
        obtain rfl : x2 = q.val := by simpa using hws
        rfl
      · rfl
    · rw [hfx]; show (q.dn || false) = _; rw [hd]; rfl
theorem w_make (W : World N c cap clk A G rs ks M) (ha : rs[a]? = some q) (hd : q.dn = false) (hn : q.nx = .make) : Stepd N c cap clk A G rs ks M a q (q.step c G b) := by
  have M0 := W.oth_priv ha
  have hpr : q.priv = [] := by unfold Qr.priv; rw [hn]; rfl
  rw [hpr] at M0
  have hfx : q.fx = false := by unfold Qr.fx; rw [hd, hn]; rfl
  have hhd : q.holds = true := by rw [holds_of hd, hn]; rfl
  rcases W.fact a q ha with h | ⟨i, h⟩
  · rw [hd] at h; cases h
  rw [hn] at h
  obtain ⟨hm, hg, hE, hk⟩ := h
  have hmiss := gap_miss W ha hhd (by rw [hn]; rfl) hg
  obtain ⟨_, _, I, _, _, _, _, hk2, hfl⟩ := id hg
  rcases M0.make b.1 with ⟨h1, h2⟩ | ⟨h1, h2, h3, h4, h5, h6⟩
  · have e1 : q.step c G b = (({ q with eff := false } : Qr).fail 5, G.mem G.S) := by
      rw [step_of hd hn]
      show (if (G.S.make b.1 3).1.2 ≠ 0 then _ else _) = _
      rw [h2]; rfl
    rw [e1]
    refine ⟨A, M, 1, 0, none, ?_, Vs.same fun _ => rfl, .inl ⟨rfl, .mem hk2 hfl hmiss h1⟩, ⟨?_, fun h => by rw [hfx] at h; cases h⟩, .inl (by omega), rfl, ⟨rfl, rfl, rfl, rfl⟩⟩
    · exact Upd.same W ha M0 rfl rfl rfl (by omega) (W.que_hold ha rfl rfl hhd (leave_holds hd) rfl (fun _ _ h => by cases h)) (fun h _ => rfl) (.inr ⟨i, I.room, I.lt, Nat.le_refl _⟩) (by rw [hn]; rfl) (by rw [hn]; rfl) (fun h => by rw [hn] at h; cases h) (fun h => by cases h) (nxt_none (scan_none rfl))
    · rw [hfx]; show (q.dn || true) = true; rw [hd]; rfl
  · have e1 : q.step c G b = (({ ({ q with eff := false } : Qr) with made := G.S.made + 1 } : Qr).to (.words b.2.1 b.2.2 (G.S.made + 1) [BitVec.ofInt 64 q.cur, q.ky, q.val] 3), G.mem (G.S.make b.1 3).2) := by
      rw [step_of hd hn]
      show (if (G.S.make b.1 3).1.2 ≠ 0 then _ else _) = _
      rw [h2]; rfl
    rw [e1]
    have htm := W.tm
    have h3 := h3 (by omega)
    have hne : ∀ h ∈ oth rs a, h ≠ G.S.made + 1 := fun h hh e => by
      have := (M0.bd (h := h) (List.mem_append_left _ (List.mem_append_right _ hh))).2.1
      omega
    have hb0 := M0.bk.made.1
    refine ⟨{ A with mb := A.mb + 1 }, M, 9 + N.cr + N.c2, 0, none, ?_, fun h hh1 hh2 hh3 => ?_, .inr ⟨rfl, rfl, rfl, rfl, rfl, rfl, rfl⟩, ⟨?_, fun h => by rw [hfx] at h; cases h⟩, .inl (by omega), rfl, ⟨rfl, rfl, rfl, rfl⟩⟩
    · exact Upd.same W ha h3 rfl rfl rfl (Int.le_refl _) (W.que_hold ha rfl rfl hhd (by show (true && !(q.dn && false)) = true; rw [hd]; rfl) rfl (fun _ _ h => by cases h)) (fun h hh => h5 h (hne h hh)) (.inr ⟨i, rfl, by show G.S.made + 1 ≠ 0; omega, hg.to rfl rfl rfl rfl rfl rfl rfl rfl, hE, by decide, by decide, Nat.le_of_eq (by omega), rfl, _, h4, rfl, rfl⟩) (by rw [hn]; rfl) (by rw [hn]; rfl) (fun h => by rw [hn] at h; cases h) (fun h => by cases h) (nxt_none (scan_none rfl))
    · have hx : h ≠ G.S.made + 1 := fun e => by have := hh2 (by rw [e]; exact .head _); cases this
      have e := h5 h hx
      have hh3 : (G.S.make b.1 3).2.V h ≠ none := hh3
      rw [e] at hh3
      exact ⟨hh3, by show val (G.S.make b.1 3).2 h = val G.S h; unfold val; rw [e]⟩
    · rw [hfx]; show (q.dn || false) = _; rw [hd]; rfl
theorem w_space (W : World N c cap clk A G rs ks M) (ha : rs[a]? = some q) (hd : q.dn = false) (hn : q.nx = .space) : Stepd N c cap clk A G rs ks M a q (q.step c G b) := by
  have M0 := W.oth_priv ha
  have hfx : q.fx = false := by unfold Qr.fx; rw [hd, hn]; rfl
  have hhd : q.holds = true := by rw [holds_of hd, hn]; rfl
  rcases W.fact a q ha with h | ⟨i, h⟩
  · rw [hd] at h; cases h
  rw [hn] at h
  obtain ⟨hor, hg⟩ := h
  have hmiss := gap_miss W ha hhd (by rw [hn]; rfl) hg
  obtain ⟨_, _, I, _, _, _, _, hk2, hfl⟩ := id hg
  obtain ⟨c1, c2, c3, c4⟩ := W.cw
  obtain ⟨h1, h2, h3⟩ := M0.cnt id
  have eA : ({ A with cnt := id A.cnt } : Ab) = A := rfl
  rw [eA] at h2
  have hV : ∀ h, (G.mem (G.S.acc c.h 0 true id).2).S.V h = G.S.V h := acc_id
  have eV : (G.mem (G.S.acc c.h 0 true id).2).S.V = G.S.V := funext hV
  have e0 : q.step c G b = Qr.space c { q with eff := false } A.cnt (G.mem (G.S.acc c.h 0 true id).2) := by
    rw [step_of hd hn]
    show Qr.space c { q with eff := false } (G.S.acc c.h 0 true id).1.1 _ = _
    rw [h1]
  have elow : (A.cnt &&& lowM).toNat = M.flatten.length + offs rs := by rw [c1]; exact cw_low (by omega) (by omega)
  have eE : (BitVec.ofInt 64 c.d1).toNat = N.E := by
    have := W.nE; have := W.sml
    rw [BitVec.toNat_ofInt]; omega
  unfold Qr.space at e0
  by_cases hlt : (A.cnt &&& lowM).toNat < N.E
  · rw [if_pos (by rw [eE]; exact hlt)] at e0
    rcases hor with ⟨hm, hk⟩ | ⟨⟨hm, hv⟩, hk⟩
    · have e1 : q.step c G b = (({ ({ q with eff := false } : Qr) with was := A.cnt &&& lowM } : Qr).to .make, G.mem (G.S.acc c.h 0 true id).2) := by
        rw [e0]
        show (Qr.to _ (if q.made = 0 then Nx.make else .after .add), _) = _
        rw [if_pos hm]
      rw [e1]
      have hpr : q.priv = [] := by unfold Qr.priv; rw [hn]; unfold Nx.priv; rw [if_pos hm]
      refine ⟨A, M, 10 + N.cr + N.c2, 0, none, ?_, Vs.same hV, .inr ⟨rfl, rfl, rfl, rfl, rfl, rfl, rfl⟩, ⟨?_, fun h => by rw [hfx] at h; cases h⟩, .inl (by omega), rfl, ⟨rfl, rfl, rfl, rfl⟩⟩
      · exact Upd.same W ha (h2.permQ (by rw [hpr]; rfl)) rfl rfl rfl (by omega) (W.que_hold ha rfl rfl hhd (by show (true && !(q.dn && false)) = true; rw [hd]; rfl) rfl (fun _ _ h => by cases h)) (fun h _ => hV h) (.inr ⟨i, hm, hg.to rfl rfl rfl rfl rfl rfl rfl rfl, hlt, Nat.le_refl _⟩) (by rw [hn]; rfl) (by rw [hn]; rfl) (fun h => by rw [hn] at h; cases h) (fun h => by cases h) (nxt_none (scan_none rfl))
      · rw [hfx]; show (q.dn || false) = _; rw [hd]; rfl
    · have e1 : q.step c G b = (({ ({ q with eff := false } : Qr) with was := A.cnt &&& lowM } : Qr).to (.after .add), G.mem (G.S.acc c.h 0 true id).2) := by
        rw [e0]
        show (Qr.to _ (if q.made = 0 then Nx.make else .after .add), _) = _
        rw [if_neg hm]
      rw [e1]
      have hpr : q.priv = [q.made] := by unfold Qr.priv; rw [hn]; unfold Nx.priv; rw [if_neg hm]
      have hch : q.chd = true := by unfold Qr.chd; rw [hn]; exact decide_eq_true hm
      refine ⟨A, M, 3 + N.c2, 0, none, ?_, Vs.same hV, .inr ⟨rfl, rfl, rfl, rfl, rfl, rfl, rfl⟩, ⟨?_, fun h => by rw [hfx] at h; cases h⟩, .inl (by omega), rfl, ⟨rfl, rfl, rfl, rfl⟩⟩
      · refine Upd.same W ha (h2.permQ (by rw [hpr]; rfl)) rfl rfl rfl (by omega) (W.que_hold ha rfl rfl hhd (by show (true && !(q.dn && false)) = true; rw [hd]; rfl) rfl (fun _ _ h => by cases h)) (fun h _ => hV h) (.inr ⟨i, ⟨hm, (hV _).trans hv⟩, hg.to rfl rfl rfl rfl rfl rfl rfl rfl, hlt, ?_⟩) (by rw [hn]; rfl) (by rw [hn]; rfl) (fun h => by rw [hn] at h; cases h) (fun _ => ⟨hch, rfl⟩) (nxt_none (scan_none rfl))
        show 3 + N.c2 + (if A.cnt &&& lowM = A.cnt &&& lowM then 0 else 2) ≤ 3 + N.c2
        rw [if_pos rfl]; omega
      · rw [hfx]; show (q.dn || false) = _; rw [hd]; rfl
  · rw [if_neg (by rw [eE]; exact hlt)] at e0
    by_cases hz : A.cnt >>> 32 = 0
    · rw [if_pos hz] at e0
      have hh0 : his rs = 0 := by rw [c1] at hz; exact (cw_high (by omega) (by omega)).1 hz
      have ho0 : offs rs = 0 := by
        have := sum_mono (fun q => q.nx.offp) (fun q => q.nx.hi) (fun q => off_hi q.nx) rs
        unfold his at hh0; unfold offs; omega
      have hfull : c.d1 ≤ (M.flatten.length : Int) := by
        have := W.nE; omega
      rcases hor with ⟨hm, hk⟩ | ⟨⟨hm, hv⟩, hk⟩
      · have e1 : q.step c G b = (({ ({ q with eff := false } : Qr) with was := A.cnt &&& lowM } : Qr).fail 4, G.mem (G.S.acc c.h 0 true id).2) := by
          rw [e0]
          show (_, if 0 < q.made then _ else _) = _
          rw [if_neg (by omega)]
        rw [e1]
        have hpr : q.priv = [] := by unfold Qr.priv; rw [hn]; unfold Nx.priv; rw [if_pos hm]
        refine ⟨A, M, 1, 0, none, ?_, Vs.same hV, .inl ⟨rfl, .full hk2 hfl hmiss hfull⟩, ⟨?_, fun h => by rw [hfx] at h; cases h⟩, .inl (by omega), rfl, ⟨rfl, rfl, rfl, rfl⟩⟩
        · exact Upd.same W ha (h2.permQ (by rw [hpr]; rfl)) rfl rfl rfl (by omega) (W.que_hold ha rfl rfl hhd (by show (true && !(q.dn && true)) = true; rw [hd]; rfl) rfl (fun _ _ h => by cases h)) (fun h _ => hV h) (.inr ⟨i, I.room, I.lt, Nat.le_refl _⟩) (by rw [hn]; rfl) (by rw [hn]; rfl) (fun h => by rw [hn] at h; cases h) (fun h => by cases h) (nxt_none (scan_none rfl))
        · rw [hfx]; show (q.dn || true) = true; rw [hd]; rfl
      · have hpr : q.priv = [q.made] := by unfold Qr.priv; rw [hn]; unfold Nx.priv; rw [if_neg hm]
        obtain ⟨w1, w2, w3, _⟩ := own_one W ha hpr
        have e1 : q.step c G b = (({ ({ q with eff := false } : Qr) with was := A.cnt &&& lowM } : Qr).fail 4, (G.mem (G.S.acc c.h 0 true id).2).mem ((G.mem (G.S.acc c.h 0 true id).2).S.free q.made).2) := by
          rw [e0]
          show (_, if 0 < q.made then _ else _) = _
          rw [if_pos (by omega)]
        rw [e1]
        rw [hpr] at h2
        obtain ⟨f1, f2⟩ := Mem.free (h := q.made) (P := oth rs a) h2
        have hV2 : ∀ h, h ≠ q.made → ((G.mem (G.S.acc c.h 0 true id).2).mem ((G.mem (G.S.acc c.h 0 true id).2).S.free q.made).2).S.V h = G.S.V h := fun h hh => (f2 h hh).trans (hV h)
        refine ⟨A, M, 1, 0, none, ?_, fun h hh1 hh2 hh3 => ?_, .inl ⟨rfl, .full hk2 hfl hmiss hfull⟩, ⟨?_, fun h => by rw [hfx] at h; cases h⟩, .inl (by omega), rfl, ⟨rfl, rfl, rfl, rfl⟩⟩
        · exact Upd.same W ha f1 rfl rfl rfl (by omega) (W.que_hold ha rfl rfl hhd (by show (true && !(q.dn && true)) = true; rw [hd]; rfl) rfl (fun _ _ h => by cases h)) (fun h hh => hV2 h fun e => w1 (e ▸ hh)) (.inr ⟨i, I.room, I.lt, Nat.le_refl _⟩) (by rw [hn]; rfl) (by rw [hn]; rfl) (fun h => by rw [hn] at h; cases h) (fun h => by cases h) (nxt_none (scan_none rfl))
        · have hne : h ≠ q.made := fun e => hh3 (by
            subst e
            show ((G.mem (G.S.acc c.h 0 true id).2).S.free q.made).2.V q.made = none
            rw [V_free, if_pos rfl])
          have e := hV2 h hne
          rw [e] at hh3
          exact ⟨hh3, by show val _ h = val G.S h; unfold val; rw [e]⟩
        · rw [hfx]; show (q.dn || true) = true; rw [hd]; rfl
    · rw [if_neg hz] at e0
      rw [e0]
      refine ⟨A, M, ks a, 0, none, ?_, Vs.same hV, .inr ⟨rfl, rfl, rfl, rfl, rfl, rfl, rfl⟩, ⟨?_, fun _ => rfl⟩, .inr ⟨.inr ⟨hn, hlt, hz⟩, rfl, rfl, rfl, rfl, rfl, rfl⟩, rfl, ⟨rfl, rfl, rfl, rfl⟩⟩
      · have hp' : ({ ({ q with eff := false } : Qr) with was := A.cnt &&& lowM } : Qr).priv = q.priv := rfl
        refine Upd.same W ha h2 rfl rfl rfl (by omega) (W.que_hold ha rfl rfl hhd hhd rfl (fun t th h => ?_)) (fun h _ => hV h) (.inr ⟨i, ?_⟩) rfl rfl (fun h => by rw [hn] at h; cases h) (fun h => ⟨h, rfl⟩) (nxt_none ?_)
        · have h : q.nx = .enter t th := h
          rw [hn] at h; cases h
        · show match q.nx with | _ => _
          rw [hn]
          refine ⟨?_, hg.to rfl rfl rfl rfl rfl rfl rfl rfl⟩
          rcases hor with h | ⟨⟨hm, hv⟩, hk⟩
          · exact .inl h
          · exact .inr ⟨⟨hm, (hV _).trans hv⟩, hk⟩
        · unfold Qr.scan
          show (if q.dn then _ else q.nx.scan N.B q.room) = _
          rw [hn, hd]; rfl
      · rw [hfx]; unfold Qr.fx
        show (q.dn || q.nx.fx) = _
        rw [hd, hn]; rfl
theorem w_step (W : World N c cap clk A G rs ks M) (ha : rs[a]? = some q) (hd : q.dn = false) : Stepd N c cap clk A G rs ks M a q (q.step c G b) := by
  have hF : ∃ i : Nat, _ := (W.fact a q ha).resolve_left (by rw [hd]; exact Bool.false_ne_true)
  obtain ⟨i, hF⟩ := hF
  cases hn : q.nx with
  | none => rw [hn] at hF; exact hF.elim
  | enter t th => exact w_enter W ha hd hn
  | th th => exact w_th W ha hd hn
  | load _ _ _ => exact w_load W ha hd hn
  | ask _ _ _ => exact w_ask W ha hd hn
  | set => exact w_set W ha hd hn
  | look => exact w_look W ha hd hn
  | space => exact w_space W ha hd hn
  | make => exact w_make W ha hd hn
  | words _ _ _ _ _ => exact w_words W ha hd hn
  | change f =>
    cases f with
    | add => exact w_changeAdd W ha hd hn
    | drop => rw [hn] at hF; exact hF.elim
    | take _ => exact w_changeTake W ha hd hn
  | after f =>
    cases f with
    | add => exact w_afterAdd W ha hd hn
    | drop => exact w_afterDrop W ha hd hn
    | take _ => exact w_afterTake W ha hd hn
  | link => exact w_link W ha hd hn
  | drop => exact w_drop W ha hd hn
  | take => exact w_take W ha hd hn
  | unl1 _ => exact w_unl1 W ha hd hn
  | unl2 _ _ => exact w_unl2 W ha hd hn
  | off _ => exact w_off W ha hd hn
  | leave => exact w_leave W ha hd hn
  | begin => exact w_begin W ha hd hn
  | free _ => exact w_free W ha hd hn
  | stillNo => exact w_stillNo W ha hd hn
  | stillKey => exact w_stillKey W ha hd hn
  | freeBegin => exact w_freeBegin W ha hd hn
  | vlook => rw [hn] at hF; exact hF.elim
end Go.Proofs.YtjggeoghlicmdaaGreat
namespace Go.Proofs.YtjggeoghlicmdaaGreat
open Go Go.AS Go.RowKit
set_option linter.unusedVariables false
variable {N : Nm} {c : Lc} {A A' : Ab} {G G' : Gr} {cap : Int} {q q' x : Qr} {i j : Nat} {pre rest : List El} {e : El} {P : List Int} {n k k' a clk δ : Nat} {rs : List Qr} {M M' : List (List El)} {ks : Nat → Nat} {V V' : View} {b : Bs}
theorem found_dn {t : Bool} : (q.found t).dn = q.dn := by
  unfold Qr.found; repeat' split
  all_goals rfl
theorem cb_dn {cb : Cb} {t : Bool} : (q.cb cb t).dn = q.dn := by
  cases cb with
  | find => exact found_dn
  | next r => unfold Qr.cb; dsimp only; split <;> rfl
theorem loaded_dn {w k : Wd} {bh : Bool} {cb : Cb} : (q.loaded w k bh cb).dn = q.dn := by
  unfold Qr.loaded; split
  · rw [cb_dn]; rfl
  · rfl
theorem asked_dn {w k : Wd} {bh : Bool} {cb : Cb} : (q.asked w k bh cb).dn = q.dn := by
  unfold Qr.asked; split
  · rw [cb_dn]
  · rfl
theorem search_dn {r : Int} {bh : Bool} {b0 : Nat} : (q.search c r bh b0).dn = q.dn := by unfold Qr.search; split <;> rfl
theorem space_dn {w : Wd} : (q.space c w G).1.dn = q.dn := by
  unfold Qr.space; repeat' split
  all_goals rfl
def Dni (rs : List Qr) : Prop := ∀ (a : Nat) (q : Qr), rs[a]? = some q → q.dn = true → q.inq = false
theorem dn_step (W : World N c cap clk A G rs ks M) (ha : rs[a]? = some q) (hd : q.dn = false) (h : (q.step c G b).1.dn = true) : (q.step c G b).1.inq = false := by
  have hF : ∃ i : Nat, _ := (W.fact a q ha).resolve_left (by rw [hd]; exact Bool.false_ne_true)
  obtain ⟨i, hF⟩ := hF
  cases hn : q.nx with
  | leave =>
    rw [step_of hd hn]
    show ((q.nx.holds && !(true && q.nx.lv)) || q.nx.waits) = false
    rw [hn]; rfl
  | stillNo =>
    rw [step_of hd hn] at h ⊢
    by_cases e : (Qr.still c { q with eff := false } G.S).1 = true
    · have e1 : (doNx c .stillNo { q with eff := false } G b).1 = { ({ q with eff := false } : Qr).give 2 [] 0 0 with dn := true } := if_pos e
      rw [e1]
      show ((q.nx.holds && !(true && q.nx.lv)) || q.nx.waits) = false
      rw [hn]; rfl
    · have e1 : (doNx c .stillNo { q with eff := false } G b).1 = ({ q with eff := false } : Qr).to .begin := if_neg e
      rw [e1] at h
      have h : q.dn = true := h
      rw [hd] at h; cases h
  | stillKey =>
    rw [step_of hd hn] at h
    exfalso
    have e1 : (doNx c .stillKey { q with eff := false } G b).1.dn = q.dn := by
      show (if (Qr.still c { q with eff := false } G.S).1 then _ else _ : Qr).dn = _
      split <;> rfl
    rw [e1, hd] at h; cases h
  | none => rw [hn] at hF; exact hF.elim
  | vlook => rw [hn] at hF; exact hF.elim
  | unl2 v w =>
    rw [hn] at hF
    obtain ⟨rfl, _⟩ := hF
    rw [step_of hd hn] at h
    have h : q.dn = true := h
    rw [hd] at h; cases h
  | load _ _ _ => rw [step_of hd hn] at h; exfalso; have e1 := loaded_dn (q := { q with eff := false }) (w := (G.S.acc q.ah q.ai true id).1.1) (k := ‹Wd›) (bh := ‹Bool›) (cb := ‹Cb›); have h : (Qr.loaded { q with eff := false } _ _ _ _).dn = true := h; rw [e1] at h; have h : q.dn = true := h; rw [hd] at h; cases h
  | ask _ _ _ => rw [step_of hd hn] at h; exfalso; have e1 := asked_dn (q := { q with eff := false }) (w := (G.S.acc q.cur 1 true id).1.1) (k := ‹Wd›) (bh := ‹Bool›) (cb := ‹Cb›); have h : (Qr.asked { q with eff := false } _ _ _ _).dn = true := h; rw [e1] at h; have h : q.dn = true := h; rw [hd] at h; cases h
  | th th =>
    rw [step_of hd hn] at h; exfalso
    have h : (doTh c th { q with eff := false } G.S).1.dn = true := h
    unfold doTh doLoad at h
    rw [loaded_dn] at h
    have h : q.dn = true := h
    rw [hd] at h; cases h
  | begin => rw [step_of hd hn] at h; exfalso; have h : (Qr.search c _ _ _ _).dn = true := h; rw [search_dn] at h; have h : q.dn = true := h; rw [hd] at h; cases h
  | free _ => rw [step_of hd hn] at h; exfalso; have h : (Qr.search c _ _ _ _).dn = true := h; rw [search_dn] at h; have h : q.dn = true := h; rw [hd] at h; cases h
  | space => rw [step_of hd hn] at h; exfalso; have h : (Qr.space c { q with eff := false } _ _).1.dn = true := h; rw [space_dn] at h; have h : q.dn = true := h; rw [hd] at h; cases h
  | make =>
    rw [step_of hd hn] at h; exfalso
    have e1 : (doNx c .make { q with eff := false } G b).1.dn = q.dn := by
      show (if _ then _ else _ : Qr × Gr).1.dn = _
      split <;> rfl
    rw [e1, hd] at h; cases h
  | after f =>
    rw [step_of hd hn] at h; exfalso
    have e1 : (doNx c (.after f) { q with eff := false } G b).1.dn = q.dn := by
      show (doAfter c f { q with eff := false } G.S).1.dn = _
      cases f with
      | add => unfold doAfter; dsimp only; split <;> rfl
      | drop => rfl
      | take _ => rfl
    rw [e1, hd] at h; cases h
  | _ => rw [step_of hd hn] at h; exfalso; have h : q.dn = true := h; rw [hd] at h; cases h
theorem blk_of (W : World N c cap clk A G rs ks M) (D : Dni rs) (ha : rs[a]? = some q) (hd : q.dn = false) : ∃ (b : Nat) (x : Qr), rs[b]? = some x ∧ x.dn = false ∧ ¬ Blk (N := N) A x := by
  have dnf : ∀ {b : Nat} {x : Qr}, rs[b]? = some x → x.inq = true → x.dn = false := fun hx hi => by
    cases h : Qr.dn _ with
    | false => rfl
    | true => rw [D _ _ hx h] at hi; cases hi
  have tk : A.cnt >>> 32 ≠ 0 → ∃ (b : Nat) (x : Qr), rs[b]? = some x ∧ x.dn = false ∧ ¬ Blk (N := N) A x := fun hz => by
    obtain ⟨c1, c2, c3, c4⟩ := W.cw
    have hh : his rs ≠ 0 := fun h => hz (by rw [c1]; exact (cw_high (by omega) (by omega)).2 h)
    obtain ⟨y, hy, hy1⟩ : ∃ y ∈ rs, y.nx.hi ≠ 0 := by
      refine Classical.byContradiction fun hne => hh ?_
      have : ∀ l : List Qr, (∀ y ∈ l, y.nx.hi = 0) → (l.map (·.nx.hi)).sum = 0 := fun l => by
        induction l with
        | nil => intro _; rfl
        | cons y l ih => intro h; simp only [List.map_cons, List.sum_cons, h y (.head _), ih fun z hz => h z (List.mem_cons_of_mem _ hz)]
      exact this rs fun y hy => Classical.byContradiction fun h => hne ⟨y, hy, h⟩
    obtain ⟨b, hb⟩ := List.getElem?_of_mem hy
    have hin : y.inq = true ∧ (∀ t th, y.nx ≠ .enter t th) ∧ y.nx ≠ .space := by
      cases hn : y.nx with
      | change f => exact ⟨by unfold Qr.inq Qr.holds; rw [hn]; show (true && !(y.dn && false)) || false = true; simp, fun _ _ h => (by cases h), fun h => (by cases h)⟩
      | after f => exact ⟨by unfold Qr.inq Qr.holds; rw [hn]; show (true && !(y.dn && false)) || false = true; simp, fun _ _ h => (by cases h), fun h => (by cases h)⟩
      | off f => exact ⟨by unfold Qr.inq Qr.holds; rw [hn]; show (true && !(y.dn && false)) || false = true; simp, fun _ _ h => (by cases h), fun h => (by cases h)⟩
      | _ => exact absurd (by rw [hn]; rfl) hy1
    refine ⟨b, y, hb, dnf hb hin.1, fun h => ?_⟩
    rcases h with ⟨t, th, _, h, _⟩ | ⟨h, _⟩
    · exact hin.2.1 t th h
    · exact hin.2.2 h
  by_cases hB : Blk (N := N) A q
  · rcases hB with ⟨t, th, i, hn, hp, hr, hne⟩ | ⟨hn, _, hz⟩
    · have hi : i < A.ls.length := by
        obtain ⟨i', hF⟩ := (W.fact a q ha).resolve_left (by rw [hd]; exact Bool.false_ne_true)
        rw [hn] at hF
        have := hF.1; have := hF.2.1; omega
      obtain ⟨Q, hQ, _⟩ := W.que i hi
      have hin : q.inq = true := by unfold Qr.inq; rw [hn]; simp [Nx.waits, hp]
      have hm := (hQ.mem a).2 ⟨q, ha, hin, hr⟩
      cases Q with
      | nil => cases hm
      | cons b Q =>
        obtain ⟨x, hx, hxi, hxr⟩ := (hQ.mem b).1 (.head _)
        have hxd := dnf hx hxi
        by_cases hxB : Blk (N := N) A x
        · rcases hxB with ⟨t2, th2, i2, hn2, hp2, hr2, hne2⟩ | ⟨_, _, hz⟩
          · have e : i2 = i := by omega
            subst e
            have := (hQ.at' 0 b x rfl hx).2 t2 th2 hn2 hp2
            exact absurd (by rw [this]; simp) hne2
          · exact tk hz
        · exact ⟨b, x, hx, hxd, hxB⟩
    · exact tk hz
  · exact ⟨a, q, ha, hd, hB⟩
def phi (ks : Nat → Nat) : Nat → Nat
  | 0 => 0
  | n + 1 => phi ks n + ks n
theorem phi_up (ks : Nat → Nat) (a k' δ : Nat) : ∀ n, phi (fun b => if b = a then k' else ks b + δ) n + (if a < n then ks a + δ else 0) = phi ks n + n * δ + (if a < n then k' else 0)
  | 0 => by simp [phi]
  | n + 1 => by
    have := phi_up ks a k' δ n
    show phi (fun b => if b = a then k' else ks b + δ) n + (if n = a then k' else ks n + δ) + (if a < n + 1 then ks a + δ else 0) = phi ks n + ks n + (n + 1) * δ + (if a < n + 1 then k' else 0)
    rw [Nat.add_mul]
    by_cases e : n = a
    · subst e
      simp only [Nat.lt_irrefl, if_false] at this
      simp only [if_true, Nat.lt_succ_self]
      omega
    · rw [if_neg e]
      by_cases h : a < n
      · simp only [h, if_true] at this
        simp only [show a < n + 1 from by omega, if_true]
        omega
      · simp only [h, if_false] at this
        simp only [show ¬ a < n + 1 from by omega, if_false]
        omega
theorem phi_step {st : Option (Int × Wd)} (W : World N c cap clk A G rs ks M) (ha : rs[a]? = some q) (S : Stp N c cap clk A G rs ks M a q q' G' A' M' k' δ st) :
    phi (fun b => if b = a then k' else ks b + δ) N.n < phi ks N.n ∨ (Blk (N := N) A q ∧ phi (fun b => if b = a then k' else ks b + δ) N.n = phi ks N.n ∧ A'.sv = A.sv ∧ A'.cnt = A.cnt ∧ q'.nx = q.nx ∧ q'.room = q.room) := by
  have hlt : a < N.n := by rw [W.nn]; exact (List.getElem?_eq_some_iff.1 ha).1
  have h := phi_up ks a k' δ N.n
  rw [if_pos hlt, if_pos hlt] at h
  rcases S.pot with h1 | ⟨h1, h2, h3, h4, h5, h6, h7⟩
  · left; omega
  · right
    refine ⟨h1, ?_, h4, h5, h6, h7⟩
    subst h3
    omega
end Go.Proofs.YtjggeoghlicmdaaGreat
namespace Go.Proofs.YtjggeoghlicmdaaGreat
open Go Go.AS Go.RowKit
set_option linter.unusedVariables false
variable {N : Nm} {c : Lc} {A A' : Ab} {G G' : Gr} {cap : Int} {q q' x : Qr} {i j : Nat} {P : List Int} {n k k' a clk δ : Nat} {rs : List Qr} {M M' : List (List El)} {ks ks' : Nat → Nat} {b : Bs}
theorem World.clk_up (W : World N c cap clk A G rs ks M) (h : clk + 1 < 2305843009213692000) : World N c cap (clk + 1) A G rs ks M :=
  ⟨W.mem, W.nn, W.nE, W.nB, W.sml, W.lenM, ⟨by have := W.tm; omega, by have := W.tm; omega, h⟩, fun i hi => by
    obtain ⟨Q, hQ, hl⟩ := W.que i hi
    exact ⟨Q, hQ, by omega⟩, W.fact, W.cnt, W.le, W.rel, W.srt, W.nxt⟩
theorem set_self {l : List Qr} {a : Nat} (h : l[a]? = some q) : l.set a q = l := by
  refine List.ext_getElem? fun k => ?_
  rw [List.getElem?_set]
  by_cases e : a = k
  · subst e; rw [if_pos rfl, if_pos (List.getElem?_eq_some_iff.1 h).1, h]
  · rw [if_neg e]
def Idl (N : Nm) (A : Ab) (q : Qr) : Prop := q.dn = true ∨ Blk (N := N) A q
structure Turn (N : Nm) (c : Lc) (cap : Int) (clk : Nat) (A : Ab) (G : Gr) (rs : List Qr) (ks : Nat → Nat) (M : List (List El)) (a : Nat) (q q' : Qr) (G' : Gr) (A' : Ab) (M' : List (List El)) (ks' : Nat → Nat) (st : Option (Int × Wd)) : Prop where
  w : World N c cap (clk + 1) A' G' (rs.set a q') ks' M'
  dni : Dni (rs.set a q')
  pot : phi ks' N.n < phi ks N.n ∨ (Idl N A q ∧ phi ks' N.n = phi ks N.n ∧ A'.sv = A.sv ∧ A'.cnt = A.cnt ∧ q'.nx = q.nx ∧ q'.room = q.room ∧ q'.dn = q.dn)
  vals : q.dn = false → Vs c q' G.S G'.S st
  same : q.dn = true → q' = q ∧ G' = G ∧ A' = A ∧ M' = M ∧ st = none
  eff : q.dn = false → (q'.eff = true ∧ Efx c q M G.S q'.no q'.rv q'.rk q'.el st M') ∨ (q'.eff = false ∧ M' = M ∧ st = none ∧ q'.no = q.no ∧ q'.rv = q.rv ∧ q'.rk = q.rk ∧ q'.el = q.el)
  one : q.dn = false → q'.fx = (q.fx || q'.eff) ∧ (q.fx = true → q'.eff = false)
  ins : G'.ins = G.ins
  sam : q'.kd = q.kd ∧ q'.ky = q.ky ∧ q'.fl = q.fl ∧ q'.val = q.val
theorem turn (W : World N c cap clk A G rs ks M) (D : Dni rs) (ha : rs[a]? = some q) (hclk : clk + 1 < 2305843009213692000) (b : Bs) :
    ∃ A' M' ks' st, Turn N c cap clk A G rs ks M a q (q.step c G b).1 (q.step c G b).2 A' M' ks' st := by
  by_cases hd : q.dn = true
  · have e : q.step c G b = (q, G) := by unfold Qr.step; rw [if_pos hd]
    rw [e]
    refine ⟨A, M, ks, none, by rw [set_self ha]; exact W.clk_up hclk, by rw [set_self ha]; exact D, .inr ⟨.inl hd, rfl, rfl, rfl, rfl, rfl, rfl⟩, fun h => ?_, fun _ => ⟨rfl, rfl, rfl, rfl, rfl⟩, fun h => ?_, fun h => ?_, rfl, ⟨rfl, rfl, rfl, rfl⟩⟩
    all_goals rw [hd] at h; cases h
  · have hd : q.dn = false := by simpa using hd
    obtain ⟨A', M', k', δ, st, S⟩ := w_step (b := b) W ha hd
    refine ⟨A', M', _, st, W.upd ha S.upd hclk, fun a2 x hx hxd => ?_, ?_, fun _ => S.vals, fun h => (by rw [hd] at h; cases h), fun _ => S.eff, fun _ => S.one, S.ins, S.sam⟩
    · rcases (set_some ha).1 hx with ⟨rfl, rfl⟩ | ⟨_, hx⟩
      · exact dn_step W ha hd hxd
      · exact D a2 x hx hxd
    · rcases phi_step W ha S with h | ⟨h1, h2, h3, h4, h5, h6⟩
      · exact .inl h
      · refine .inr ⟨.inr h1, h2, h3, h4, h5, h6, ?_⟩
        cases hd' : (q.step c G b).1.dn with
        | false => rw [hd]
        | true =>
          have h7 := dn_step W ha hd hd'
          exfalso
          have h8 : q.inq = true := by
            rcases h1 with ⟨t, th, _, hn, hp, _⟩ | ⟨hn, _⟩
            · unfold Qr.inq; rw [hn]; simp [Nx.waits, hp]
            · exact holds_inq (by rw [holds_of hd, hn]; rfl)
          have h9 : (q.step c G b).1.inq = true := by
            rcases h1 with ⟨t, th, _, hn, hp, _⟩ | ⟨hn, _⟩
            · unfold Qr.inq; rw [h5, hn]; simp [Nx.waits, hp]
            · unfold Qr.inq Qr.holds; rw [h5, hn]; simp [Nx.holds, Nx.lv]
          rw [h7] at h9; cases h9
def Stall (N : Nm) (A : Ab) (rs : List Qr) (t f : Nat) : Prop := f ≤ t ∧ ∀ j, 1 ≤ j → j ≤ f → ∀ q, rs[(t - j) % N.n]? = some q → Idl N A q
def Over (rs : List Qr) : Prop := ∀ (a : Nat) (q : Qr), rs[a]? = some q → q.dn = true
theorem over_of (W : World N c cap clk A G rs ks M) (D : Dni rs) {t f : Nat} (h : Stall N A rs t f) (hf : N.n ≤ f) (hn : 0 < N.n) : Over rs := by
  intro a q ha
  cases hd : q.dn with
  | true => rfl
  | false =>
    exfalso
    obtain ⟨b, x, hx, hxd, hxB⟩ := blk_of W D ha hd
    have hb : b < N.n := by rw [W.nn]; exact (List.getElem?_eq_some_iff.1 hx).1
    have ht := h.1
    -- which of the last turns was b's
    obtain ⟨j, hj1, hj2, hj3⟩ : ∃ j, 1 ≤ j ∧ j ≤ N.n ∧ (t - j) % N.n = b := by
      have hdm := Nat.div_add_mod t N.n
      have hm := Nat.mod_lt t hn
      by_cases e : b < t % N.n
      · refine ⟨t % N.n - b, by omega, by omega, ?_⟩
        have : t - (t % N.n - b) = N.n * (t / N.n) + b := by omega
        rw [this, Nat.mul_add_mod, Nat.mod_eq_of_lt hb]
      · refine ⟨t % N.n + N.n - b, by omega, by omega, ?_⟩
        have hq : 1 ≤ t / N.n := (Nat.one_le_div_iff hn).2 (by omega)
        have h2 : N.n * (t / N.n) = N.n * (t / N.n - 1) + N.n := by
          rw [← Nat.mul_succ]; congr 1; omega
        have : t - (t % N.n + N.n - b) = N.n * (t / N.n - 1) + b := by omega
        rw [this, Nat.mul_add_mod, Nat.mod_eq_of_lt hb]
    rcases h.2 j hj1 (by omega) x (by rw [hj3]; exact hx) with h1 | h1
    · rw [h1] at hxd; cases hxd
    · exact hxB h1
theorem stall_step {t f : Nat} {st : Option (Int × Wd)} (h : Stall N A rs t f) (hn : 0 < N.n) (hlen : N.n = rs.length) (ha : rs[t % N.n]? = some q) (T : Turn N c cap clk A G rs ks M (t % N.n) q q' G' A' M' ks' st) (hf : f < N.n) :
    ∃ f', Stall N A' (rs.set (t % N.n) q') (t + 1) f' ∧ f' ≤ N.n ∧ phi ks' N.n * N.n + (N.n - f') < phi ks N.n * N.n + (N.n - f) := by
  rcases T.pot with h1 | ⟨h1, h2, h3, h4, h5, h6, h7⟩
  · refine ⟨0, ⟨Nat.zero_le _, fun j h1 h2 => by omega⟩, Nat.zero_le _, ?_⟩
    have : (phi ks' N.n + 1) * N.n ≤ phi ks N.n * N.n := Nat.mul_le_mul_right _ h1
    rw [Nat.add_mul, Nat.one_mul] at this
    omega
  · have hidl : ∀ {x y : Qr}, y.dn = x.dn → y.nx = x.nx → y.room = x.room → Idl N A x → Idl N A' y := fun e1 e2 e3 hx => by
      rcases hx with hx | ⟨t, th, i, g1, g2, g3, g4⟩ | ⟨g1, g2, g3⟩
      · exact .inl (e1.trans hx)
      · exact .inr (.inl ⟨t, th, i, e2.trans g1, g2, e3.trans g3, by rw [h3]; exact g4⟩)
      · exact .inr (.inr ⟨e2.trans g1, by rw [h4]; exact g2, by rw [h4]; exact g3⟩)
    refine ⟨f + 1, ⟨by have := h.1; omega, fun j hj1 hj2 x hx => ?_⟩, hf, by rw [h2]; omega⟩
    by_cases e : j = 1
    · subst e
      rw [Nat.add_sub_cancel] at hx
      rcases (set_some ha).1 hx with ⟨_, rfl⟩ | ⟨h, _⟩
      · exact hidl h7 h5 h6 h1
      · exact absurd rfl h
    · have ej : t + 1 - j = t - (j - 1) := by omega
      rw [ej] at hx
      rcases (set_some ha).1 hx with ⟨_, rfl⟩ | ⟨_, hx⟩
      · exact hidl h7 h5 h6 h1
      · exact hidl rfl rfl rfl (h.2 (j - 1) (by omega) (by omega) x hx)
end Go.Proofs.YtjggeoghlicmdaaGreat
namespace Go.Proofs.YtjggeoghlicmdaaGreat
open Go Go.AS Go.RowKit
set_option linter.unusedVariables false
variable {N : Nm} {c : Lc} {A A' : Ab} {G G' : Gr} {cap mx : Int} {q q' x : Qr} {i j : Nat} {P : List Int} {n k k' a clk δ : Nat} {rs : List Qr} {M M' : List (List El)} {ks ks' : Nat → Nat} {b : Bs}
structure Rest (N : Nm) (c : Lc) (cap : Int) (clk : Nat) (A : Ab) (G : Gr) (M : List (List El)) : Prop where
  mem : Mem c cap A [] G
  nE : (N.E : Int) = c.d1
  nB : N.B = A.ls.length
  sml : 1 ≤ N.E ∧ N.E ≤ 64
  tm : A.mb ≤ clk ∧ A.chg.toNat ≤ clk ∧ clk < 2305843009213692000
  lock : ∀ i, i < A.ls.length → A.tk i = A.sv i
  cnt : A.cnt = BitVec.ofNat 64 M.flatten.length
  le : M.flatten.length ≤ N.E
  ls : M = A.ls
  srt : ∀ i l, M[i]? = some l → Srt c i l
theorem all_none {rs : List Qr} (h : ∀ (a : Nat) (q : Qr), rs[a]? = some q → q.nx.hi = 0 ∧ q.nx.offp = 0 ∧ q.priv = []) : his rs = 0 ∧ offs rs = 0 ∧ rs.flatMap Qr.priv = [] := by
  induction rs with
  | nil => exact ⟨rfl, rfl, rfl⟩
  | cons y rs ih =>
    obtain ⟨h1, h2, h3⟩ := h 0 y rfl
    obtain ⟨i1, i2, i3⟩ := ih fun a q hq => h (a + 1) q (by simpa using hq)
    refine ⟨?_, ?_, ?_⟩
    · unfold his at i1 ⊢; simp only [List.map_cons, List.sum_cons, h1, i1]
    · unfold offs at i2 ⊢; simp only [List.map_cons, List.sum_cons, h2, i2]
    · rw [List.flatMap_cons, h3, i3]; rfl
structure New (c : Lc) (q : Qr) : Prop where
  dn : q.dn = false
  fx : q.fx = false
  made : q.made = 0
  nx : (∃ (t : Tk) (r : Nat), q.nx = .enter t .op ∧ t.ph = 0 ∧ t.i = lk r ∧ q.room = (r : Int) ∧ bkt q.ky c.d3 = (r : Int) ∧ (r : Int) < c.d3 ∧ q.kd ≠ 4) ∨ (q.nx = .begin ∧ q.kd = 4)
theorem New.out (h : New c q) : q.nx.hi = 0 ∧ q.nx.offp = 0 ∧ q.priv = [] ∧ q.inq = false ∧ q.nx.pend = false ∧ (∀ B, q.scan B = none) ∧ q.chd = false := by
  rcases h.nx with ⟨t, r, hn, hp, _⟩ | ⟨hn, _⟩
  · refine ⟨by rw [hn]; rfl, by rw [hn]; rfl, by unfold Qr.priv; rw [hn]; rfl, by unfold Qr.inq Qr.holds; rw [hn]; simp [Nx.holds, Nx.waits, hp], by rw [hn]; rfl, fun B => by unfold Qr.scan; rw [hn]; split <;> rfl, by unfold Qr.chd; rw [hn]; rfl⟩
  · refine ⟨by rw [hn]; rfl, by rw [hn]; rfl, by unfold Qr.priv; rw [hn]; rfl, by unfold Qr.inq Qr.holds; rw [hn]; rfl, by rw [hn]; rfl, fun B => by unfold Qr.scan; rw [hn]; split <;> rfl, by unfold Qr.chd; rw [hn]; rfl⟩
theorem new_new {kd fl cpu : Int} {ky v : Wd} {b0 : Nat} (hd3 : 1 ≤ c.d3) : New c (Qr.new c kd ky fl cpu v b0) := by
  have hb := bkt_in (k := ky) (n := c.d3) hd3
  unfold Qr.new
  by_cases e : kd = 4
  · rw [if_pos e]; exact ⟨rfl, rfl, rfl, .inr ⟨rfl, e⟩⟩
  · rw [if_neg e]
    obtain ⟨r, hr⟩ : ∃ r : Nat, bkt ky c.d3 = (r : Int) := ⟨(bkt ky c.d3).toNat, by omega⟩
    refine ⟨rfl, rfl, rfl, .inl ⟨⟨b0, 0, 0, lk (bkt ky c.d3)⟩, r, rfl, rfl, by rw [hr], hr, hr, by omega, e⟩⟩
def Nm.st (N : Nm) : Nat := N.sz + (3 + N.w + N.op)
theorem Rest.begin (R : Rest N c cap clk A G M) {rs : List Qr} (hn : rs.length ≤ 1000) (h : ∀ (a : Nat) (q : Qr), rs[a]? = some q → New c q) :
    World ⟨rs.length, N.E, N.B⟩ c cap clk A G rs (fun _ => Nm.st ⟨rs.length, N.E, N.B⟩) M := by
  obtain ⟨a1, a2, a3⟩ := all_none fun a q hq => by
    obtain ⟨o1, o2, o3, _⟩ := (h a q hq).out
    exact ⟨o1, o2, o3⟩
  refine ⟨by rw [a3]; exact R.mem, rfl, R.nE, R.nB, ⟨hn, R.sml⟩, by rw [R.ls], R.tm, fun i hi => ⟨[], ⟨List.nodup_nil, fun a => ⟨fun h => (by cases h), fun ⟨q, h1, h2, _⟩ => ?_⟩, by rw [R.lock i hi]; simp, fun k a q hk => by simp at hk⟩, Nat.zero_le _⟩, fun a q hq => ?_, ?_, ?_, fun i _ _ => by rw [R.ls], R.srt, fun a q hq => nxt_none ((h a q hq).out.2.2.2.2.2.1 _)⟩
  · rw [(h a q h1).out.2.2.2.1] at h2; cases h2
  · have hq := h a q hq
    rcases hq.nx with ⟨t, r, hn, hp, ht, hr, hb, hlt, hk⟩ | ⟨hn, hk⟩
    · refine .inr ⟨r, ?_⟩
      rw [hn]
      refine ⟨hr, by have := R.mem.rooms; omega, ht, .inl hp, ⟨hk, hb, rfl, rfl⟩, hq.made, ?_⟩
      show 3 + Nm.w _ + Nm.op _ ≤ Nm.st _ + t.ph
      unfold Nm.st; omega
    · refine .inr ⟨0, ?_⟩
      rw [hn]
      exact ⟨hk, hq.made, by unfold Nm.st; omega⟩
  · show A.cnt = BitVec.ofNat 64 (M.flatten.length + offs rs + 4294967296 * his rs)
    rw [a1, a2]; exact R.cnt
  · show M.flatten.length + offs rs ≤ _
    rw [a2]; exact R.le
theorem dni_new (h : ∀ (a : Nat) (q : Qr), rs[a]? = some q → New c q) : Dni rs := fun a q hq hd => by rw [(h a q hq).dn] at hd; cases hd
theorem inq_none (h : q.inq = false) (hd : q.dn = true) : q.nx.hi = 0 ∧ q.nx.offp = 0 ∧ q.priv = [] ∧ q.nx.pend = false := by
  unfold Qr.inq Qr.holds at h
  rw [hd] at h
  cases hn : q.nx with
  | leave => exact ⟨rfl, rfl, by unfold Qr.priv; rw [hn]; rfl, rfl⟩
  | none => exact ⟨rfl, rfl, by unfold Qr.priv; rw [hn]; rfl, rfl⟩
  | enter t th => exact ⟨rfl, rfl, by unfold Qr.priv; rw [hn]; rfl, rfl⟩
  | begin => exact ⟨rfl, rfl, by unfold Qr.priv; rw [hn]; rfl, rfl⟩
  | stillNo => exact ⟨rfl, rfl, by unfold Qr.priv; rw [hn]; rfl, rfl⟩
  | _ => rw [hn] at h; simp [Nx.holds, Nx.lv] at h
theorem World.rest (W : World N c cap clk A G rs ks M) (D : Dni rs) (O : Over rs) : Rest N c cap clk A G M := by
  have hno : ∀ (a : Nat) (q : Qr), rs[a]? = some q → q.nx.hi = 0 ∧ q.nx.offp = 0 ∧ q.priv = [] ∧ q.nx.pend = false := fun a q hq => inq_none (D a q hq (O a q hq)) (O a q hq)
  obtain ⟨a1, a2, a3⟩ := all_none fun a q hq => by
    obtain ⟨o1, o2, o3, _⟩ := hno a q hq
    exact ⟨o1, o2, o3⟩
  refine ⟨by rw [← a3]; exact W.mem, W.nE, W.nB, W.sml.2, W.tm, fun i hi => ?_, ?_, ?_, ?_, W.srt⟩
  · obtain ⟨Q, hQ, _⟩ := W.que i hi
    have : Q = [] := by
      cases Q with
      | nil => rfl
      | cons b Q =>
        obtain ⟨x, hx, hxi, _⟩ := (hQ.mem b).1 (.head _)
        rw [D b x hx (O b x hx)] at hxi; cases hxi
    have h := hQ.tk
    rw [this] at h; rw [h]; simp
  · have h : A.cnt = BitVec.ofNat 64 (M.flatten.length + offs rs + 4294967296 * his rs) := W.cnt
    rw [a1, a2] at h; exact h
  · have h : M.flatten.length + offs rs ≤ _ := W.le
    rw [a2] at h; exact h
  · refine List.ext_getElem? fun i => ?_
    by_cases hi : i < A.ls.length
    · exact W.rel i hi fun a q hq _ _ => (hno a q hq).2.2.2
    · rw [List.getElem?_eq_none (by rw [W.lenM]; omega), List.getElem?_eq_none (by omega)]
theorem Idle.rest (I : Idle c cap mx A G) (h0 : A.ls = List.replicate A.ls.length []) (hN : (N.E : Int) = c.d1) (hB : N.B = A.ls.length) (hc : A.mb ≤ clk ∧ A.chg.toNat ≤ clk ∧ clk < 2305843009213692000) : Rest N c cap clk A G A.ls := by
  have hd := I.d1
  refine ⟨I.mem, hN, hB, ⟨by omega, by omega⟩, hc, I.lock, I.cnt, ?_, rfl, fun i l hl => ?_⟩
  · have := I.le; omega
  · rw [h0] at hl
    have := List.eq_of_mem_replicate (List.mem_of_getElem? hl)
    subst this
    exact ⟨List.Pairwise.nil, fun e he => by cases he⟩
end Go.Proofs.YtjggeoghlicmdaaGreat
namespace Go.Proofs.YtjggeoghlicmdaaGreat
open Go Go.AS Go.RowKit
set_option linter.unusedVariables false
variable {N : Nm} {c : Lc} {A A' : Ab} {G G' : Gr} {cap mx : Int} {q q' x : Qr} {i j : Nat} {P : List Int} {n k k' a clk δ : Nat} {rs : List Qr} {M M' M0 : List (List El)} {ks ks' : Nat → Nat} {b : Bs} {S S0 : Sm}
theorem nodup_le : ∀ (m : Nat) (l : List Int), l.Nodup → (∀ h ∈ l, 1 ≤ h ∧ h ≤ (m : Int)) → l.length ≤ m
  | 0, l, _, h => by
    cases l with
    | nil => exact Nat.le_refl _
    | cons x l => have := h x (.head _); omega
  | m + 1, l, nd, h => by
    by_cases hm : ((m : Int) + 1) ∈ l
    · have h1 := nodup_le m (l.erase ((m : Int) + 1)) (nd.erase _) fun x hx => by
        have h2 := (List.Nodup.mem_erase_iff nd).1 hx
        have h3 := h x h2.2
        have h4 := h2.1
        omega
      rw [List.length_erase_of_mem hm] at h1
      omega
    · have := nodup_le m l nd fun x hx => by
        have h3 := h x hx
        have h4 : x ≠ (m : Int) + 1 := fun e => hm (e ▸ hx)
        omega
      omega
theorem room_made (M : Mem c cap A P G) : cap ≤ G.S.room + 3 * (G.S.made - 1) := by
  have B := M.bk
  have h1 := nodup_le G.S.made.toNat (G.S.regs.map Reg.h) B.nd fun h hh => by
    have := B.rng h hh; have := B.made; omega
  have h2 := B.perm.length_eq
  simp only [List.length_cons, List.length_append, List.length_map] at h1 h2
  have h3 := B.room
  have h4 := B.made
  simp only [List.length_append, List.length_map] at h3
  omega
theorem found_made {t : Bool} : (q.found t).made = q.made := by
  unfold Qr.found; repeat' split
  all_goals rfl
theorem cb_made {cb : Cb} {t : Bool} : (q.cb cb t).made = q.made := by
  cases cb with
  | find => exact found_made
  | next r => unfold Qr.cb; dsimp only; split <;> rfl
theorem loaded_made {w k : Wd} {bh : Bool} {cb : Cb} : (q.loaded w k bh cb).made = q.made := by
  unfold Qr.loaded; split
  · rw [cb_made]; rfl
  · rfl
theorem asked_made {w k : Wd} {bh : Bool} {cb : Cb} : (q.asked w k bh cb).made = q.made := by
  unfold Qr.asked; split
  · rw [cb_made]
  · rfl
theorem search_made {r : Int} {bh : Bool} {b0 : Nat} : (q.search c r bh b0).made = q.made := by unfold Qr.search; split <;> rfl
theorem space_made {w : Wd} : (q.space c w G).1.made = q.made ∧ (q.space c w G).2.S.made = G.S.made := by
  unfold Qr.space; repeat' split
  all_goals exact ⟨rfl, rfl⟩
theorem defer_made {h : Int} {b0 : Nat} : (G.defer h b0).2.S.made = G.S.made := by
  unfold Gr.defer
  split
  · rfl
  · exact frees_made _ _
theorem tk_made {t : Tk} : (t.step c S).2.2.made = S.made := by
  unfold Tk.step
  split
  · exact acc_made ..
  · split
    · split <;> exact acc_made ..
    · rfl
def Qr.mkn (q : Qr) : Nat := if q.made = 0 then 0 else 1
theorem mk_same (h : q'.made = q.made) : q'.mkn = q.mkn := by unfold Qr.mkn; rw [h]
theorem step_made (W : World N c cap clk A G rs ks M) (ha : rs[a]? = some q) (hd : q.dn = false) : (q.step c G b).2.S.made + q.mkn ≤ G.S.made + (q.step c G b).1.mkn := by
  have hF : ∃ i : Nat, _ := (W.fact a q ha).resolve_left (by rw [hd]; exact Bool.false_ne_true)
  obtain ⟨i, hF⟩ := hF
  have key : ∀ {r : Qr × Gr}, r.1.made = q.made → r.2.S.made = G.S.made → r.2.S.made + (q.mkn : Int) ≤ G.S.made + (r.1.mkn : Int) := fun h1 h2 => by rw [mk_same h1, h2]; exact Int.le_refl _
  cases hn : q.nx with
  | none => rw [hn] at hF; exact hF.elim
  | vlook => rw [hn] at hF; exact hF.elim
  | make =>
    rw [hn] at hF
    have hm : q.made = 0 := hF.1
    rw [step_of hd hn]
    have e1 : doNx c .make { q with eff := false } G b = if (G.S.make b.1 3).1.2 ≠ 0 then (({ q with eff := false } : Qr).fail 5, G.mem (G.S.make b.1 3).2) else (({ ({ q with eff := false } : Qr) with made := (G.S.make b.1 3).1.1 } : Qr).to (.words b.2.1 b.2.2 (G.S.make b.1 3).1.1 [BitVec.ofInt 64 q.cur, q.ky, q.val] 3), G.mem (G.S.make b.1 3).2) := rfl
    rw [e1]
    rcases W.mem.make b.1 with ⟨h1, h2⟩ | ⟨h1, h2, h3, h4, h5, h6⟩
    · rw [if_pos (by rw [h2]; show (5 : Int) ≠ 0; decide)]
      refine key rfl ?_
      show (G.S.make b.1 3).2.made = G.S.made
      rw [h2]
    · rw [if_neg (by rw [h2]; show ¬ (0 : Int) ≠ 0; decide)]
      have hb := W.mem.bk.made.1
      show (G.S.make b.1 3).2.made + ((if q.made = 0 then 0 else 1 : Nat) : Int) ≤ G.S.made + ((if (G.S.make b.1 3).1.1 = 0 then 0 else 1 : Nat) : Int)
      have h2' : (G.S.make b.1 3).1.1 = G.S.made + 1 := by rw [h2]
      rw [h6, if_pos hm, h2', if_neg (by omega)]; simp
  | enter t th => rw [step_of hd hn]; exact key rfl tk_made
  | th th =>
    rw [step_of hd hn]
    refine key ?_ (acc_made ..)
    show (doTh c th { q with eff := false } G.S).1.made = q.made
    unfold doTh doLoad; rw [loaded_made]; rfl
  | load _ _ _ => rw [step_of hd hn]; exact key loaded_made (acc_made ..)
  | ask _ _ _ => rw [step_of hd hn]; exact key asked_made (acc_made ..)
  | space =>
    rw [step_of hd hn]
    exact key (space_made (G := G.mem (G.S.acc c.h 0 true id).2)).1 ((space_made (q := { q with eff := false }) (w := (G.S.acc c.h 0 true id).1.1) (G := G.mem (G.S.acc c.h 0 true id).2)).2.trans (acc_made ..))
  | begin => rw [step_of hd hn]; exact key search_made (acc_made ..)
  | free _ => rw [step_of hd hn]; exact key search_made (acc_made ..)
  | stillNo =>
    rw [step_of hd hn]
    refine key ?_ (acc_made ..)
    show (if (Qr.still c { q with eff := false } G.S).1 then _ else _ : Qr).made = _
    split <;> rfl
  | stillKey =>
    rw [step_of hd hn]
    refine key ?_ (acc_made ..)
    show (if (Qr.still c { q with eff := false } G.S).1 then _ else _ : Qr).made = _
    split <;> rfl
  | unl2 v w =>
    rw [hn] at hF
    obtain ⟨rfl, _⟩ := hF
    rw [step_of hd hn]
    exact key rfl (defer_made.trans (acc_made ..))
  | after f =>
    rw [step_of hd hn]
    refine key ?_ ?_
    · show (doAfter c f { q with eff := false } G.S).1.made = _
      cases f with
      | add => unfold doAfter; dsimp only; split <;> rfl
      | drop => rfl
      | take _ => rfl
    · show (doAfter c f { q with eff := false } G.S).2.made = _
      cases f with
      | add => unfold doAfter; dsimp only; split <;> exact acc_made ..
      | drop => exact acc_made ..
      | take _ => exact acc_made ..
  | _ => rw [step_of hd hn]; exact key rfl (acc_made ..)
end Go.Proofs.YtjggeoghlicmdaaGreat
namespace Go.Proofs.YtjggeoghlicmdaaGreat
open Go Go.AS Go.RowKit
set_option linter.unusedVariables false
variable {N : Nm} {c : Lc} {A A' : Ab} {G G' : Gr} {cap mx : Int} {q q0 q' x : Qr} {i j : Nat} {P : List Int} {n k k' a clk δ : Nat} {rs : List Qr} {M M' M0 : List (List El)} {ks ks' : Nat → Nat} {b : Bs} {S S0 : Sm} {st : Option (Int × Wd)}
def hs (M : List (List El)) : List Int := M.flatten.map El.h
theorem hs_mem {M : List (List El)} {h : Int} (hh : h ∈ hs M) : ∃ (j : Nat) (l : List El) (y : El), M[j]? = some l ∧ y ∈ l ∧ y.h = h := by
  obtain ⟨y, hy, e⟩ := List.mem_map.1 hh
  obtain ⟨l, hl, hy⟩ := List.mem_flatten.1 hy
  obtain ⟨j, hj⟩ := List.getElem?_of_mem hl
  exact ⟨j, l, y, hj, hy, e⟩
theorem mem_hs {M : List (List El)} {l : List El} {y : El} (hj : M[j]? = some l) (hy : y ∈ l) : y.h ∈ hs M :=
  List.mem_map.2 ⟨y, List.mem_flatten.2 ⟨l, List.mem_of_getElem? hj, hy⟩, rfl⟩
theorem World.val_ok (W : World N c cap clk A G rs ks M) (ha : rs[a]? = some q) {h : Int} (hh : h ∈ hs M) : h ≠ c.h ∧ (h ∈ q.priv → q.nx = .link) ∧ G.S.V h ≠ none := by
  obtain ⟨j, l, y, hl, hy, rfl⟩ := hs_mem hh
  have M0 := W.oth_priv ha
  rcases W.mem_M hl hy with h1 | ⟨b, x, hx, hxn, hxm⟩
  · have h2 := M0.elm h1
    obtain ⟨p1, p2, p3, hv⟩ := M0.alive h2
    exact ⟨M0.bk.ne_c h2, fun h3 => absurd rfl (M0.el_ne h1 (List.mem_append_left _ h3)), by rw [hv]; simp⟩
  · have hp : x.priv = [x.made] := by unfold Qr.priv; rw [hxn]; rfl
    obtain ⟨w1, w2, _⟩ := own_one W hx hp
    have hal : x.made ∈ A.els.map El.h ++ rs.flatMap Qr.priv ++ G.q.map Wt.h := List.mem_append_left _ (List.mem_append_right _ (List.mem_flatMap.2 ⟨x, List.mem_of_getElem? hx, by rw [hp]; exact .head _⟩))
    obtain ⟨p1, p2, p3, hv⟩ := W.mem.alive hal
    rw [hxm]
    refine ⟨w2, fun h3 => ?_, by rw [hv]; simp⟩
    by_cases e : b = a
    · subst e
      rw [ha] at hx; obtain rfl := Option.some.inj hx
      exact hxn
    · exact absurd (oth_mem hx ha (fun e2 => e e2.symm) h3) w1
def after (st : Option (Int × Wd)) (S : Sm) (h : Int) : Wd := match st with | some (a, w) => if h = a then w else val S h | none => val S h
theorem Turn.value (T : Turn N c cap clk A G rs ks M a q q' G' A' M' ks' st) (ha : rs[a]? = some q) {h : Int} (hh : h ∈ hs M') : val G'.S h = after st G.S h := by
  by_cases hd : q.dn = true
  · obtain ⟨_, e2, _, _, e5⟩ := T.same hd
    rw [e2, e5]; rfl
  · have hd : q.dn = false := by simpa using hd
    obtain ⟨h1, h2, h3⟩ := T.w.val_ok ((set_some ha).2 (.inl ⟨rfl, rfl⟩)) hh
    exact (T.vals hd h h1 h2 h3).2
def Sem (c : Lc) (cap md : Int) (q0 : Qr) (M0 : List (List El)) (S0 : Sm) (q : Qr) (M : List (List El)) (S : Sm) : Prop :=
  (q.fx = false ∧ M = M0 ∧ ∀ h ∈ hs M0, val S h = val S0 h) ∨
  (q.fx = true ∧ ∃ S1 st, Efx c q0 M0 S1 q.no q.rv q.rk q.el st M ∧ (∀ h ∈ hs M0, val S1 h = val S0 h) ∧ cap ≤ S1.room + 3 * (md - 1) ∧ ∀ h ∈ hs M, val S h = after st S1 h)
theorem Efx.like {no : Int} {rv : List Wd} {rk : Wd} {el : Int} (h : Efx c q M S no rv rk el st M') (e : q0.kd = q.kd ∧ q0.ky = q.ky ∧ q0.fl = q.fl ∧ q0.val = q.val) : Efx c q0 M S no rv rk el st M' := by
  obtain ⟨e1, e2, e3, e4⟩ := e
  have er : r0 c q0 = r0 c q := by unfold r0; rw [e2, e3]
  have ek : ∀ j, kb c q0 j = kb c q j := fun j => by unfold kb; rw [e2, e3]
  have ec : ∀ {M : List (List El)} {j : Nat}, Clean c q M j → Clean c q0 M j := fun h l hl e he => by rw [ek]; exact h l hl e he
  cases h with
  | none h1 h2 h3 => exact .none (by rw [e1]; exact h1) (by rw [e1, e3]; exact h2) (by rw [e2]; exact h3)
  | twice h1 h2 h3 => exact .twice (e1.trans h1) (e3.trans h2) (by rw [e2]; exact h3)
  | set h1 h2 h3 => rw [← e4]; exact .set (e1.trans h1) (by rw [e3]; exact h2) (by rw [e2]; exact h3)
  | look h1 h2 => exact .look (e1.trans h1) (by rw [e2]; exact h2)
  | full h1 h2 h3 h4 => exact .full (e1.trans h1) (by rw [e3]; exact h2) (by rw [e2]; exact h3) h4
  | mem h1 h2 h3 h4 => exact .mem (e1.trans h1) (by rw [e3]; exact h2) (by rw [e2]; exact h3) h4
  | add h1 h2 h3 h4 h5 h6 h7 h8 h9 => rw [← e2]; rw [← e2] at h3 h5 h6 h8; rw [← e4] at h8; exact .add (e1.trans h1) (by rw [e3]; exact h2) h3 h4 h5 h6 h7 h8 h9
  | del h1 h2 => exact .del (e1.trans h1) (by rw [e2]; exact h2)
  | tak h1 h2 h3 h4 h5 => exact .tak (by rw [e1]; exact h1) (by rw [e1]; exact h2) (by rw [e1]; exact h3) (by rw [e1]; exact h4) (by rw [e2]; exact h5)
  | past h1 h2 => exact .past (e1.trans h1) fun j hj1 hj2 => ec (h2 j (by rw [← er]; exact hj1) hj2)
  | next h1 h2 h3 h4 h5 h6 => exact .next (e1.trans h1) (by rw [er]; exact h2) (fun j hj1 hj2 => ec (h3 j (by rw [← er]; exact hj1) hj2)) h4 (by rw [ek]; exact h5) (by rw [ek]; exact h6)
def Ends (N : Nm) (c : Lc) (cap md : Int) (C : Nat) (q0 : Qr) (M0 : List (List El)) (S0 : Sm) (ins : List Int) : Qr → Gr → Prop := fun q G =>
  ∃ A M clk, Rest N c cap clk A G M ∧ clk ≤ C ∧ G.S.made ≤ md ∧ q.fx = true ∧ Sem c cap md q0 M0 S0 q M G.S ∧ G.ins = ins
theorem al_world {md : Int} {C : Nat} (hn : N.n = 1) : ∀ (m clk : Nat) (A : Ab) (G : Gr) (q : Qr) (ks : Nat → Nat) (M : List (List El)) (ins : List Int), World N c cap clk A G [q] ks M → Dni [q] → q.dn = false → phi ks 1 ≤ m → clk + m ≤ C → C + 1 < 2305843009213692000 →
    (q.kd = q0.kd ∧ q.ky = q0.ky ∧ q.fl = q0.fl ∧ q.val = q0.val) → Sem c cap md q0 M0 S0 q M G.S → G.S.made + 1 ≤ md + (q.mkn : Int) → G.ins = ins → Al c (Ends N c cap md C q0 M0 S0 ins) m q.fx q G := by
  intro m
  induction m with
  | zero =>
    intro clk A G q ks M ins W D hd hphi hC hC2 hsam hsem hmd hins
    exfalso
    obtain ⟨A', M', ks', st, T⟩ := turn (a := 0) W D rfl (by omega) (0, 0, 0)
    rcases T.pot with h | ⟨h, _⟩
    · rw [hn] at h; omega
    · obtain ⟨b, x, hx, hxd, hxB⟩ := blk_of W D (a := 0) rfl hd
      have hb : b = 0 := by have := (List.getElem?_eq_some_iff.1 hx).1; simpa using this
      subst hb
      obtain rfl : q = x := by simpa using hx
      rcases h with h | h
      · rw [hd] at h; cases h
      · exact hxB h
  | succ m ih =>
    intro clk A G q ks M ins W D hd hphi hC hC2 hsam hsem hmd hins
    have hne : q.nx ≠ .none := fun e => by
      obtain ⟨i, hF⟩ := (W.fact 0 q rfl).resolve_left (by rw [hd]; exact Bool.false_ne_true)
      rw [e] at hF; exact hF
    refine ⟨hd, hne, W.mem.bk.fresh, W.mem.bk.qlen, fun b => ?_⟩
    obtain ⟨A', M', ks', st, T⟩ := turn (a := 0) W D rfl (by omega) b
    have hmade := step_made (b := b) W (a := 0) rfl hd
    obtain ⟨o1, o2⟩ := T.one hd
    have hphi' : phi ks' 1 < phi ks 1 := by
      rcases T.pot with h | ⟨h, _⟩
      · rw [hn] at h; exact h
      · obtain ⟨b, x, hx, hxd, hxB⟩ := blk_of W D (a := 0) rfl hd
        have hb : b = 0 := by have := (List.getElem?_eq_some_iff.1 hx).1; simpa using this
        subst hb
        obtain rfl : q = x := by simpa using hx
        rcases h with h | h
        · rw [hd] at h; cases h
        · exact absurd h hxB
    have hroom : cap ≤ G.S.room + 3 * (G.S.made - 1) := room_made W.mem
    have hmkn : ∀ q : Qr, q.mkn ≤ 1 := fun q => by unfold Qr.mkn; split <;> omega
    have hsem' : Sem c cap md q0 M0 S0 (q.step c G b).1 M' (q.step c G b).2.S := by
      rcases hsem with ⟨s1, s2, s3⟩ | ⟨s1, S1, st1, s2, s3, s4, s5⟩
      · rcases T.eff hd with ⟨e1, e2⟩ | ⟨e1, e2, e3, _⟩
        · refine .inr ⟨by rw [o1, e1]; simp, G.S, st, ?_, s3, ?_, fun h hh => T.value rfl hh⟩
          · rw [s2] at e2
            exact e2.like ⟨hsam.1.symm, hsam.2.1.symm, hsam.2.2.1.symm, hsam.2.2.2.symm⟩
          · have := hmkn q; omega
        · refine .inl ⟨by rw [o1, s1, e1]; rfl, e2.trans s2, fun h hh => ?_⟩
          rw [T.value rfl (by rw [e2, s2]; exact hh), e3]
          exact s3 h hh
      · have e1 := o2 s1
        rcases T.eff hd with ⟨e2, _⟩ | ⟨_, e2, e3, e4, e5, e6, e7⟩
        · rw [e1] at e2; cases e2
        · refine .inr ⟨by rw [o1, s1]; rfl, S1, st1, by rw [e2, e4, e5, e6, e7]; exact s2, s3, s4, fun h hh => ?_⟩
          rw [T.value rfl hh, e3]
          rw [e2] at hh
          exact s5 h hh
    have hsam' : (q.step c G b).1.kd = q0.kd ∧ (q.step c G b).1.ky = q0.ky ∧ (q.step c G b).1.fl = q0.fl ∧ (q.step c G b).1.val = q0.val := ⟨T.sam.1.trans hsam.1, T.sam.2.1.trans hsam.2.1, T.sam.2.2.1.trans hsam.2.2.1, T.sam.2.2.2.trans hsam.2.2.2⟩
    have hmd' : (q.step c G b).2.S.made + 1 ≤ md + ((q.step c G b).1.mkn : Int) := by omega
    refine ⟨fun hdn => ⟨?_, ?_⟩, fun hdn => ⟨?_, ?_⟩⟩
    · have hfx : (q.step c G b).1.fx = true := by unfold Qr.fx; rw [hdn]; rfl
      rw [hfx] at o1
      revert o1 o2
      cases q.fx <;> cases (q.step c G b).1.eff <;> simp
    · have hO : Over ([q].set 0 (q.step c G b).1) := fun a x hx => by
        rcases (set_some (a := 0) rfl).1 hx with ⟨_, rfl⟩ | ⟨h1, h2⟩
        · exact hdn
        · have := (List.getElem?_eq_some_iff.1 h2).1; simp at this; omega
      have := hmkn (q.step c G b).1
      exact ⟨A', M', clk + 1, T.w.rest T.dni hO, by omega, by omega, by unfold Qr.fx; rw [hdn]; rfl, hsem', T.ins.trans hins⟩
    · revert o1 o2
      cases q.fx <;> cases (q.step c G b).1.eff <;> simp
    · have := ih (clk + 1) A' (q.step c G b).2 (q.step c G b).1 ks' M' ins T.w T.dni hdn (by omega) (by omega) hC2 hsam' hsem' hmd' (T.ins.trans hins)
      rw [o1] at this; exact this
end Go.Proofs.YtjggeoghlicmdaaGreat
namespace Go.Proofs.YtjggeoghlicmdaaGreat
open Go Go.AS Go.RowKit
set_option linter.unusedVariables false
variable {H H' : Heap} {L : List Asr} {N : Nm} {c : Lc} {A A' : Ab} {G G' : Gr} {X : Gx} {cap : Int} {q q0 q' : Qr} {i j : Nat} {a clk : Nat} {M M' M0 : List (List El)} {S S0 : Sm} {st : Option (Int × Wd)} {R : Value → Heap → Prop}
theorem run1_s {kd fl : Int} {ky : Wd} {most : Int} {vs : List Wd} {va : Option Addr} {n C : Nat} {R : Value → Option Addr → Heap → Value → Heap → Prop} (hI : Rest N c cap clk A X.G M) (h : Sep H (xA c :: grA c.g c.m X :: L)) (hn : n = vs.length)
    (hv : ∀ w, vs.head? = some w → ∃ b o, va = some ⟨b, o, none⟩ ∧ ∀ H', Sep H' L → H'.cell b o = some (W w)) (hC : clk + Nm.st ⟨1, N.E, N.B⟩ ≤ C ∧ C + 1 < 2305843009213692000) (hm : (Nm.st ⟨1, N.E, N.B⟩ : Int) ≤ most ∧ most < 100000)
    (hR : ∀ b v0 a0 H0 H' X' q' o, Ends ⟨1, N.E, N.B⟩ c cap (X.G.S.made + 1) C (Qr.new c kd ky fl 0 (vs.headD 0) b) M X.G.S X.G.ins q' X'.G → (o = none → q'.rv = []) → Sep H' (xA c :: grA c.g c.m X' :: gl 1 o (q'.rv.map W) :: L) →
      R v0 a0 H0 (.tuple #[.agg #[I q'.no, .slice (addr o) q'.rv.length 0, W q'.rk, I q'.el], .bool true]) H') :
    CA en F.hash_Map_Begin [P c.x, .agg #[I kd, W ky, .slice va n 0, I fl, I 0]] H fun v H' => ∃ a14, v = .pointer a14 ∧ CA en F.crossbarlaw15_finish [.pointer a14, I most] H' (R v a14 H') := by
  have hrm := hI.mem.rooms
  refine Begin_s (vs := vs) h hn (by omega) hv fun H' r PL b0 hk => ⟨_, rfl, ?_⟩
  have hnew : New c (Qr.new c kd ky fl 0 (vs.headD 0) b0) := new_new (by omega)
  have hall : ∀ (a : Nat) (q : Qr), [Qr.new c kd ky fl 0 (vs.headD 0) b0][a]? = some q → New c q := fun a q hq => by
    have ha : a = 0 := by have := (List.getElem?_eq_some_iff.1 hq).1; simpa using this
    subst ha
    obtain rfl : Qr.new c kd ky fl 0 (vs.headD 0) b0 = q := by simpa using hq
    exact hnew
  have hW := hI.begin (rs := [Qr.new c kd ky fl 0 (vs.headD 0) b0]) (by simp) hall
  have hfx := hnew.fx
  have hmk : (Qr.new c kd ky fl 0 (vs.headD 0) b0).mkn = 0 := by unfold Qr.mkn; rw [if_pos hnew.made]
  have hA := al_world (md := X.G.S.made + 1) (C := C) (q0 := Qr.new c kd ky fl 0 (vs.headD 0) b0) (M0 := M) (S0 := X.G.S) rfl (Nm.st ⟨1, N.E, N.B⟩) clk A X.G _ _ M X.G.ins hW (dni_new hall) hnew.dn (by show 0 + Nm.st ⟨1, N.E, N.B⟩ ≤ Nm.st ⟨1, N.E, N.B⟩; omega) hC.1 hC.2 ⟨rfl, rfl, rfl, rfl⟩ (.inl ⟨hfx, rfl, fun _ _ => rfl⟩) (by rw [hmk]; omega) rfl
  rw [hfx] at hA
  exact finish_s hk hA hm.1 hm.2 (by omega) fun H2 X' q' o hF ho h2 => hR b0 _ _ _ H2 X' q' o hF ho h2
theorem new_kd {kd fl cpu : Int} {ky v : Wd} {b0 : Nat} : (Qr.new c kd ky fl cpu v b0).kd = kd ∧ (Qr.new c kd ky fl cpu v b0).ky = ky ∧ (Qr.new c kd ky fl cpu v b0).fl = fl ∧ (Qr.new c kd ky fl cpu v b0).val = v := by
  unfold Qr.new; split <;> exact ⟨rfl, rfl, rfl, rfl⟩
theorem Rest.num (R : Rest N c cap clk A G M) {N' : Nm} {clk' : Nat} (h1 : N'.E = N.E) (h2 : N'.B = N.B) (hc : clk ≤ clk' ∧ clk' < 2305843009213692000) : Rest N' c cap clk' A G M :=
  ⟨R.mem, by rw [h1]; exact R.nE, by rw [h2]; exact R.nB, by rw [h1]; exact R.sml, by have := R.tm; omega, R.lock, R.cnt, by rw [h1]; exact R.le, R.ls, R.srt⟩
theorem Miss.no {ky : Wd} (h : Miss c M ky) {i : Nat} {pre rest : List El} {e : El} (h2 : Has c M ky i pre e rest) : False := by
  obtain ⟨i', l, b1, b2, b3⟩ := h
  have e1 : i' = i := by have := h2.1; omega
  subst e1
  rw [h2.2.1] at b2
  obtain rfl := Option.some.inj b2
  exact b3 e (by simp) h2.2.2
theorem ends_upd {md : Int} {C : Nat} {ins : List Int} {ky v : Wd} (h : Ends N c cap md C q0 M0 S0 ins q G) (hk : q0.kd = 2) (hky : q0.ky = ky) (hfl : q0.fl = 0) (hvl : q0.val = v) (hmiss : Miss c M0 ky) (hlt : (M0.flatten.length : Int) < c.d1) (hroom : 3 * (md - 1) + 3 ≤ cap) :
    q.no = 0 ∧ q.rv = [] ∧ q.rk = 0 ∧ ∃ A M clk, Rest N c cap clk A G M ∧ clk ≤ C ∧ G.S.made ≤ md ∧ G.ins = ins ∧ ∃ (i : Nat) (pre rest : List El) (y : El), bkt ky c.d3 = (i : Int) ∧ M0[i]? = some (pre ++ rest) ∧ M = M0.set i (pre ++ y :: rest) ∧ y.k = ky ∧ val G.S y.h = v ∧ ∀ h ∈ hs M0, val G.S h = val S0 h := by
  obtain ⟨A, M, clk, R, hC, hmd, hfx, hsem, hins⟩ := h
  rcases hsem with ⟨s1, _⟩ | ⟨s1, S1, st, s2, s3, s4, s5⟩
  · rw [hfx] at s1; cases s1
  have e0 : ∀ (h : Prop), (q0.fl = 2 → h) ∨ True := fun _ => .inr trivial
  have go : ∀ {no : Int} {rv : List Wd} {rk : Wd} {el : Int}, Efx c q0 M0 S1 no rv rk el st M → no = 0 ∧ rv = [] ∧ rk = 0 ∧ st = none ∧ ∃ (i : Nat) (pre rest : List El) (y : El) (w : Wd), bkt ky c.d3 = (i : Int) ∧ M0[i]? = some (pre ++ rest) ∧ M = M0.set i (pre ++ y :: rest) ∧ y.k = ky ∧ S1.V y.h = some [w, ky, v] := fun he => by
    cases he with
    | none h1 h2 h3 => have := h2 hk; omega
    | twice h1 h2 h3 => omega
    | set h1 h2 h3 => rw [hky] at h3; exact (hmiss.no h3).elim
    | look h1 h2 => omega
    | full h1 h2 h3 h4 => omega
    | mem h1 h2 h3 h4 => omega
    | add h1 h2 h3 h4 h5 h6 h7 h8 h9 =>
      rw [hky, hvl] at h8
      rw [hky] at h3
      exact ⟨rfl, rfl, rfl, rfl, _, _, _, ⟨_, q0.ky⟩, _, h3, h4, rfl, hky, h8⟩
    | del h1 h2 => omega
    | tak h1 h2 h3 h4 h5 => exact absurd hk h2
    | past h1 h2 => omega
    | next h1 h2 h3 h4 h5 h6 => omega
  obtain ⟨g1, g2, g3, rfl, i, pre, rest, y, w, g4, g5, rfl, g6, g7⟩ := go s2
  have hi : i < M0.length := (List.getElem?_eq_some_iff.1 g5).1
  refine ⟨g1, g2, g3, A, _, clk, R, hC, hmd, hins, i, pre, rest, y, g4, g5, rfl, g6, ?_, fun h hh => ?_⟩
  · rw [s5 y.h (mem_hs (set_get' hi) (by simp))]
    show val S1 y.h = v
    unfold val; rw [g7]; rfl
  · have hm : h ∈ hs (M0.set i (pre ++ y :: rest)) := by
      obtain ⟨j, l, z, hj, hz, rfl⟩ := hs_mem hh
      by_cases e : j = i
      · subst e
        rw [g5] at hj; obtain rfl := Option.some.inj hj
        refine mem_hs (set_get' hi) ?_
        rcases List.mem_append.1 hz with h | h
        · exact List.mem_append_left _ h
        · exact List.mem_append_right _ (List.mem_cons_of_mem _ h)
      · exact mem_hs (j := j) (l := l) (by rw [List.getElem?_set, if_neg (fun h => e h.symm)]; exact hj) hz
    rw [s5 h hm]
    exact s3 h hh
theorem gives_s {ky v : Wd} {i3 C : Nat} (hI : Rest N c cap clk A X.G M) (hmiss : Miss c M ky) (hlt : (M.flatten.length : Int) < c.d1) (hroom : 3 * X.G.S.made + 3 ≤ cap) (hC : clk + Nm.st ⟨1, N.E, N.B⟩ ≤ C ∧ C + 1 < 2305843009213692000) (hm : (Nm.st ⟨1, N.E, N.B⟩ : Int) ≤ 1100)
    (h : Sep H (xA c :: grA c.g c.m X :: bx i3 (.cells true 1 [W v]) :: L))
    (hR : ∀ H' X' A' M', Rest N c cap C A' X'.G M' → X'.G.S.made ≤ X.G.S.made + 1 → X'.G.ins = X.G.ins →
      (∃ (i : Nat) (pre rest : List El) (y : El), bkt ky c.d3 = (i : Int) ∧ M[i]? = some (pre ++ rest) ∧ M' = M.set i (pre ++ y :: rest) ∧ y.k = ky ∧ val X'.G.S y.h = v ∧ ∀ h ∈ hs M, val X'.G.S h = val X.G.S h) →
      Sep H' (xA c :: grA c.g c.m X' :: L) → R (.bool true) H') :
    CA en F.crossbarlaw15_gives [P c.x, .agg #[I 2, W ky, .slice (some ⟨i3, 0, none⟩) 1 0, I 0, I 0], I 0, .int .u64 0] H R := by
  apply vc_crossbarlaw15_gives
  refine Sep.nw h fun i1 H2 h2 => ⟨_, _, _, _, _, _, Sep.lds0 h2 rfl, ?_⟩
  refine run1_s (vs := [v]) (most := 1100) (C := C) (L := bx i3 (.cells true 1 [W v]) :: bx i1 (.cells true 0 [I 2, W ky, .slice (some ⟨i3, 0, none⟩) 1 0, I 0, I 0]) :: L) hI (Sep.pick h2 4 [1, 2, 3, 0] (by decide)) rfl (fun w hw => ⟨i3, 0, rfl, fun H' h' => ?_⟩) hC ⟨hm, by decide⟩ fun b0 _ _ _ H3 X' q' o hE ho h3 => ⟨_, _, _, _, _, _, rfl, ?_⟩
  · obtain rfl : v = w := by simpa using hw
    exact Sep.ld0 h' rfl
  obtain ⟨k1, k2, k3, k4⟩ := new_kd (c := c) (kd := 2) (fl := 0) (cpu := 0) (ky := ky) (v := v) (b0 := b0)
  obtain ⟨e1, e2, e3, A', M', clk', R', hC', hmd, hins, hx⟩ := ends_upd hE k1 k2 k3 k4 hmiss hlt (by omega)
  -- xA gr o i3 i1 L
  refine Sep.nw h3 fun i20 H21 h21 => Sep.st0 h21 (Nat.le_of_ble_eq_true rfl) fun H22 h22 => cond_no rfl ⟨_, Sep.ld0 h22 rfl, ?_⟩
  rw [e1]
  refine cond_no rfl (cond_yes rfl ⟨_, Sep.ld5 h22 rfl, cond_no rfl ⟨_, Sep.ld5 h22 rfl, cond_no rfl ⟨_, _, Sep.ld0 h22 rfl, ?_⟩⟩⟩)
  rw [e2]
  refine cond_yes rfl ⟨_, Sep.ld0 h22 rfl, ?_⟩
  rw [e3]
  exact hR H22 X' A' M' (R'.num rfl rfl ⟨hC', by omega⟩) hmd hins hx (Sep.pick h22 6 [1, 2] (by decide))
end Go.Proofs.YtjggeoghlicmdaaGreat
namespace Go.Proofs.YtjggeoghlicmdaaGreat
open Go Go.AS Go.RowKit
set_option linter.unusedVariables false
variable {H H' : Heap} {L : List Asr} {N : Nm} {c : Lc} {A A' : Ab} {G G' : Gr} {X : Gx} {cap : Int} {q q0 q' : Qr} {i j : Nat} {a clk : Nat} {M M' M0 : List (List El)} {ks ks' : Nat → Nat} {st : Option (Int × Wd)} {K : Value → Heap → Prop}
theorem manyM_out {α : Type} {f : α → Asr} {q : List α} {j : Nat} {w : α} (hj : q[j]? = some w) : Sep H (many (q.map f) :: L) ↔ Sep H (f w :: many ((q.take j).map f ++ (q.drop (j + 1)).map f) :: L) := by
  have e : q.map f = (q.take j).map f ++ ([f w] ++ (q.drop (j + 1)).map f) := by
    obtain ⟨hl, hg⟩ := List.getElem?_eq_some_iff.1 hj
    have h1 : q = q.take j ++ (w :: q.drop (j + 1)) := by rw [← hg, ← List.drop_eq_getElem_cons hl, List.take_append_drop]
    conv => lhs; rw [h1]
    rw [List.map_append]; rfl
  rw [e, Sep.splitM, Sep.many1]
theorem manyM_set {α : Type} {f : α → Asr} {q : List α} {j : Nat} {w w' : α} (hj : q[j]? = some w) : Sep H (many ((q.set j w').map f) :: L) ↔ Sep H (f w' :: many ((q.take j).map f ++ (q.drop (j + 1)).map f) :: L) := by
  have hl := (List.getElem?_eq_some_iff.1 hj).1
  have h1 : (q.set j w')[j]? = some w' := by rw [List.getElem?_set_self hl]
  rw [manyM_out h1, List.take_set_of_le (Nat.le_refl _), List.drop_set_of_lt (by omega)]
theorem manyM_snoc {α : Type} {f : α → Asr} {q : List α} {w : α} (h : Sep H (f w :: many (q.map f) :: L)) : Sep H (many ((q ++ [w]).map f) :: L) := by
  refine Sep.many_iff.2 ?_
  have h1 := Sep.many_iff.1 (Sep.up1 h)
  rw [List.map_append]
  have e : q.map f ++ [w].map f ++ L = q.map f ++ (f w :: L) := by simp
  rw [e]; exact h1
structure Hr where
  r : Nat
  PL : List Asr
  q : Qr
  sa : Option Addr
  nv : Value
def hrA (c : Lc) (R : Hr) : Asr := many [rA R.r c R.q R.sa R.nv, many R.PL, many (tkL c R.q.nx)]
def Hr.ok (R : Hr) : Prop := RV R.PL R.q.rv R.sa ∧ NV R.PL R.r R.q.ky R.q.nx R.nv
theorem Hr.rk {R : Hr} {T : List Asr} (hok : R.ok) (h : Sep H (hrA c R :: xA c :: grA c.g c.m X :: T)) : Rk H R.PL R.r c R.q X T := by
  have h1 : Sep H ([rA R.r c R.q R.sa R.nv, many R.PL, many (tkL c R.q.nx)] ++ (xA c :: grA c.g c.m X :: T)) := Sep.many_iff.1 h
  have h2 : Sep H (rA R.r c R.q R.sa R.nv :: many R.PL :: many (tkL c R.q.nx) :: xA c :: grA c.g c.m X :: T) := h1
  exact ⟨R.sa, R.nv, hok.1, hok.2, Sep.pick h2 5 [0, 1, 3, 4, 2] (by decide)⟩
theorem Rk.hr {PL : List Asr} {r : Nat} {T : List Asr} (h : Rk H PL r c q X T) : ∃ R : Hr, R.ok ∧ R.r = r ∧ R.q = q ∧ Sep H (hrA c R :: xA c :: grA c.g c.m X :: T) := by
  obtain ⟨sa, nv, h1, h2, h3⟩ := h.ex
  have h4 : Sep H (rA r c q sa nv :: many PL :: many (tkL c q.nx) :: xA c :: grA c.g c.m X :: T) := Sep.pick h3 5 [0, 1, 4, 2, 3] (by decide)
  exact ⟨⟨r, PL, q, sa, nv⟩, ⟨h1, h2⟩, rfl, rfl, Sep.many_iff.2 h4⟩
theorem runs_step {Rs : List Hr} {R : Hr} (W : World N c cap clk A X.G (Rs.map Hr.q) ks M) (hok : ∀ R ∈ Rs, R.ok) (ha : Rs[a]? = some R) (h : Sep H (xA c :: grA c.g c.m X :: many (Rs.map (hrA c)) :: L))
    (hR : ∀ H' X' R' b, R'.r = R.r → R'.q = (R.q.step c X.G b).1 → X'.G = (R.q.step c X.G b).2 → (∀ R ∈ Rs.set a R', R.ok) → Sep H' (xA c :: grA c.g c.m X' :: many ((Rs.set a R').map (hrA c)) :: L) →
      K (.tuple #[.bool (R.q.tells (R.q.step c X.G b).1).1, .bool (R.q.tells (R.q.step c X.G b).1).2]) H') : CA en F.hash_Run_Step [P R.r] H K := by
  have hq : (Rs.map Hr.q)[a]? = some R.q := by rw [List.getElem?_map, ha]; rfl
  have h1 : Sep H (many (Rs.map (hrA c)) :: xA c :: grA c.g c.m X :: L) := Sep.up2 h
  have h2 := (manyM_out ha).1 h1
  have h3 : Sep H (hrA c R :: xA c :: grA c.g c.m X :: many ((Rs.take a).map (hrA c) ++ (Rs.drop (a + 1)).map (hrA c)) :: L) := Sep.pick h2 4 [0, 2, 3, 1] (by decide)
  have hrm := W.mem.rooms
  refine step_s (Hr.rk (hok R (List.mem_of_getElem? ha)) h3) W.mem.bk.qlen W.mem.bk.fresh (fun hd e => ?_) (by omega) fun H' PL' X' b _ eX hk => ?_
  · obtain ⟨i, hF⟩ := (W.fact a R.q hq).resolve_left (by rw [hd]; exact Bool.false_ne_true)
    rw [e] at hF; exact hF
  · obtain ⟨R', g1, g2, g3, g4⟩ := hk.hr
    have g5 : Sep H' (hrA c R' :: many ((Rs.take a).map (hrA c) ++ (Rs.drop (a + 1)).map (hrA c)) :: xA c :: grA c.g c.m X' :: L) := Sep.pick g4 4 [0, 3, 1, 2] (by decide)
    have g6 := (manyM_set (w' := R') ha).2 g5
    have g7 : Sep H' (xA c :: grA c.g c.m X' :: many ((Rs.set a R').map (hrA c)) :: L) := Sep.pick g6 3 [1, 2, 0] (by decide)
    refine hR H' X' R' b g2 g3 eX (fun R2 h2 => ?_) g7
    rcases List.mem_or_eq_of_mem_set h2 with h | h
    · exact hok R2 h
    · rw [h]; exact g1
theorem runs_res {Rs : List Hr} {R : Hr} (hok : ∀ R ∈ Rs, R.ok) (ha : Rs[a]? = some R) (h : Sep H (xA c :: grA c.g c.m X :: many (Rs.map (hrA c)) :: L))
    (hR : ∀ H' o R', R'.r = R.r → R'.q = R.q → (∀ R ∈ Rs.set a R', R.ok) → (o = none → R.q.rv = []) → Sep H' (xA c :: grA c.g c.m X :: many ((Rs.set a R').map (hrA c)) :: gl 1 o (R.q.rv.map W) :: L) →
      K (.agg #[I R.q.no, .slice (addr o) R.q.rv.length 0, W R.q.rk, I R.q.el]) H') : CA en F.hash_Run_Result [P R.r] H K := by
  have h1 : Sep H (many (Rs.map (hrA c)) :: xA c :: grA c.g c.m X :: L) := Sep.up2 h
  have h2 := (manyM_out ha).1 h1
  have h3 : Sep H (hrA c R :: xA c :: grA c.g c.m X :: many ((Rs.take a).map (hrA c) ++ (Rs.drop (a + 1)).map (hrA c)) :: L) := Sep.pick h2 4 [0, 2, 3, 1] (by decide)
  refine rres_s (Hr.rk (hok R (List.mem_of_getElem? ha)) h3) fun H' o ho hk => ?_
  obtain ⟨R', g1, g2, g3, g4⟩ := hk.hr
  have g5 : Sep H' (hrA c R' :: many ((Rs.take a).map (hrA c) ++ (Rs.drop (a + 1)).map (hrA c)) :: xA c :: grA c.g c.m X :: gl 1 o (R.q.rv.map W) :: L) := Sep.pick g4 5 [0, 4, 1, 2, 3] (by decide)
  have g6 := (manyM_set (w' := R') ha).2 g5
  have g7 : Sep H' (xA c :: grA c.g c.m X :: many ((Rs.set a R').map (hrA c)) :: gl 1 o (R.q.rv.map W) :: L) := Sep.pick g6 3 [1, 2, 0] (by decide)
  refine hR H' o R' g2 g3 (fun R2 h2 => ?_) ho g7
  rcases List.mem_or_eq_of_mem_set h2 with h | h
  · exact hok R2 h
  · rw [h]; exact g1
end Go.Proofs.YtjggeoghlicmdaaGreat
namespace Go.Proofs.YtjggeoghlicmdaaGreat
open Go Go.AS Go.RowKit
set_option linter.unusedVariables false
variable {N : Nm} {c : Lc} {A A' : Ab} {G G' : Gr} {cap : Int} {q q0 q' x : Qr} {i j : Nat} {a b clk : Nat} {M M' M0 : List (List El)} {ks ks' : Nat → Nat} {S S0 : Sm} {st : Option (Int × Wd)} {rs : List Qr} {ky kz : Wd} {pre rest : List El} {e y : El}
def Is (c : Lc) (M : List (List El)) (ky : Wd) (h : Int) : Prop := ∃ (i : Nat) (pre rest : List El) (e : El), Has c M ky i pre e rest ∧ e.h = h
theorem Is.no {k : Int} (h : Is c M ky k) (m : Miss c M ky) : False := by
  obtain ⟨i, pre, rest, e, h, _⟩ := h
  obtain ⟨i', l, b1, b2, b3⟩ := m
  have e1 : i' = i := by have := h.1; omega
  subst e1
  rw [h.2.1] at b2; obtain rfl := Option.some.inj b2
  exact b3 e (by simp) h.2.2
theorem Is.add {h : Int} (hM : M[i]? = some (pre ++ rest)) (hs : Is c M ky h) : Is c (M.set i (pre ++ y :: rest)) ky h := by
  obtain ⟨j, p, r, e, ⟨b1, b2, b3⟩, b4⟩ := hs
  have hi := (List.getElem?_eq_some_iff.1 hM).1
  by_cases ej : j = i
  · subst ej
    rw [hM] at b2
    have he : e ∈ pre ++ y :: rest := by
      have : e ∈ pre ++ rest := by rw [Option.some.inj b2]; simp
      rcases List.mem_append.1 this with h | h
      · exact List.mem_append_left _ h
      · exact List.mem_append_right _ (List.mem_cons_of_mem _ h)
    obtain ⟨p2, r2, e2⟩ := List.append_of_mem he
    exact ⟨j, p2, r2, e, ⟨b1, by rw [set_get' hi, e2], b3⟩, b4⟩
  · exact ⟨j, p, r, e, ⟨b1, by rw [List.getElem?_set, if_neg (fun h => ej h.symm)]; exact b2, b3⟩, b4⟩
theorem Is.cut {h : Int} (hM : M[i]? = some (pre ++ y :: rest)) (hy : y.k ≠ ky) (hs : Is c M ky h) : Is c (M.set i (pre ++ rest)) ky h := by
  obtain ⟨j, p, r, e, ⟨b1, b2, b3⟩, b4⟩ := hs
  have hi := (List.getElem?_eq_some_iff.1 hM).1
  by_cases ej : j = i
  · subst ej
    rw [hM] at b2
    have he : e ∈ pre ++ rest := by
      have : e ∈ pre ++ y :: rest := by rw [Option.some.inj b2]; simp
      rcases List.mem_append.1 this with h | h
      · exact List.mem_append_left _ h
      · rcases List.mem_cons.1 h with rfl | h
        · exact absurd b3 hy
        · exact List.mem_append_right _ h
    obtain ⟨p2, r2, e2⟩ := List.append_of_mem he
    exact ⟨j, p2, r2, e, ⟨b1, by rw [set_get' hi, e2], b3⟩, b4⟩
  · exact ⟨j, p, r, e, ⟨b1, by rw [List.getElem?_set, if_neg (fun h => ej h.symm)]; exact b2, b3⟩, b4⟩
theorem Miss.add (hM : M[i]? = some (pre ++ rest)) (hy : y.k ≠ ky) (hs : Miss c M ky) : Miss c (M.set i (pre ++ y :: rest)) ky := by
  obtain ⟨j, l, b1, b2, b3⟩ := hs
  have hi := (List.getElem?_eq_some_iff.1 hM).1
  by_cases ej : j = i
  · subst ej
    rw [hM] at b2
    obtain rfl := Option.some.inj b2
    refine ⟨j, _, b1, set_get' hi, fun e he => ?_⟩
    rcases List.mem_append.1 he with h | h
    · exact b3 e (List.mem_append_left _ h)
    · rcases List.mem_cons.1 h with rfl | h
      · exact hy
      · exact b3 e (List.mem_append_right _ h)
  · exact ⟨j, l, b1, by rw [List.getElem?_set, if_neg (fun h => ej h.symm)]; exact b2, b3⟩
theorem Miss.cut (hM : M[i]? = some (pre ++ y :: rest)) (hs : Miss c M ky) : Miss c (M.set i (pre ++ rest)) ky := by
  obtain ⟨j, l, b1, b2, b3⟩ := hs
  have hi := (List.getElem?_eq_some_iff.1 hM).1
  by_cases ej : j = i
  · subst ej
    rw [hM] at b2
    obtain rfl := Option.some.inj b2
    refine ⟨j, _, b1, set_get' hi, fun e he => ?_⟩
    rcases List.mem_append.1 he with h | h
    · exact b3 e (List.mem_append_left _ h)
    · exact b3 e (List.mem_append_right _ (List.mem_cons_of_mem _ h))
  · exact ⟨j, l, b1, by rw [List.getElem?_set, if_neg (fun h => ej h.symm)]; exact b2, b3⟩
theorem Miss.took (hs : Srt c i (pre ++ y :: rest)) (hM : M[i]? = some (pre ++ y :: rest)) (hb : bkt ky c.d3 = (i : Int)) (hy : y.k = ky) : Miss c (M.set i (pre ++ rest)) ky := by
  have hi := (List.getElem?_eq_some_iff.1 hM).1
  have hp := List.pairwise_append.1 hs.1
  refine ⟨i, _, hb, set_get' hi, fun e he h => ?_⟩
  rcases List.mem_append.1 he with g | g
  · have := hp.2.2 e g y (.head _)
    rw [h, hy] at this; omega
  · have := (List.pairwise_cons.1 hp.2.1).1 e g
    rw [h, hy] at this; omega
theorem Is.laid (hM : M[i]? = some (pre ++ rest)) (hb : bkt ky c.d3 = (i : Int)) (hy : y.k = ky) : Is c (M.set i (pre ++ y :: rest)) ky y.h :=
  ⟨i, pre, rest, y, ⟨hb, set_get' (List.getElem?_eq_some_iff.1 hM).1, hy⟩, rfl⟩
theorem gap_no (hM : M[i]? = some (pre ++ rest)) (hb : bkt ky c.d3 = (i : Int)) (h1 : ∀ e ∈ pre, e.k.toNat < ky.toNat) (h2 : ∀ e ∈ rest, ky.toNat < e.k.toNat) : Miss c M ky :=
  ⟨i, _, hb, hM, fun e he h => by
    rcases List.mem_append.1 he with g | g
    · have := h1 e g; rw [h] at this; omega
    · have := h2 e g; rw [h] at this; omega⟩
theorem Is.hs {h : Int} (hI : Is c M ky h) : h ∈ hs M := by
  obtain ⟨j, p, r, e, ⟨b1, b2, b3⟩, rfl⟩ := hI
  exact mem_hs b2 (by simp)
structure Hist (c : Lc) (T : Nat) (rs : List Qr) (M : List (List El)) (S : Sm) (w7 w9 : Option Nat) : Prop where
  kd : ∀ (a : Nat) (q : Qr), rs[a]? = some q → (a < T → q.kd = 5 ∧ q.ky = 7) ∧ (T ≤ a → q.kd = 2 ∧ q.ky = 9 ∧ q.fl = 1)
  n7 : w7 = none → (∃ h, Is c M 7 h ∧ val S h = 70) ∧ ∀ (a : Nat) (q : Qr), rs[a]? = some q → a < T → q.fx = false
  s7 : ∀ w, w7 = some w → Miss c M 7 ∧ w < T ∧ ∀ (a : Nat) (q : Qr), rs[a]? = some q → a < T → (a = w → q.fx = true ∧ q.no = 0 ∧ q.rv = [70]) ∧ (a ≠ w → q.fx = true → q.no = 2)
  n9 : w9 = none → Miss c M 9 ∧ ∀ (a : Nat) (q : Qr), rs[a]? = some q → T ≤ a → q.fx = true → q.no = 4
  s9 : ∀ w, w9 = some w → (∃ h, Is c M 9 h) ∧ T ≤ w ∧ w < rs.length ∧ ∀ (a : Nat) (q : Qr), rs[a]? = some q → T ≤ a → (a = w → q.fx = true ∧ q.no = 0) ∧ (a ≠ w → q.fx = true → q.no = 3 ∨ q.no = 4)
theorem hset (ha : rs[a]? = some q) {P : Nat → Qr → Prop} (h : ∀ (b : Nat) (x : Qr), rs[b]? = some x → P b x) (h2 : P a q') : ∀ (b : Nat) (x : Qr), (rs.set a q')[b]? = some x → P b x := fun b x hx => by
  rcases (set_some ha).1 hx with ⟨rfl, rfl⟩ | ⟨_, hx⟩
  · exact h2
  · exact h b x hx
theorem hist_step {T : Nat} {w7 w9 : Option Nat} (W : World N c cap clk A G rs ks M) (Y : Hist c T rs M G.S w7 w9) (ha : rs[a]? = some q) (hroom : 3 ≤ G.S.room) (U : Turn N c cap clk A G rs ks M a q q' G' A' M' ks' st) :
    ∃ w7' w9', Hist c T (rs.set a q') M' G'.S w7' w9' := by
  obtain ⟨s1, s2, s3, s4⟩ := U.sam
  have hkd : ∀ (b : Nat) (x : Qr), (rs.set a q')[b]? = some x → (b < T → x.kd = 5 ∧ x.ky = 7) ∧ (T ≤ b → x.kd = 2 ∧ x.ky = 9 ∧ x.fl = 1) := hset ha Y.kd (by rw [s1, s2, s3]; exact Y.kd a q ha)
  -- nothing came of it
  have quiet : M' = M → st = none → q'.fx = q.fx → q'.no = q.no → q'.rv = q.rv → ∃ w7' w9', Hist c T (rs.set a q') M' G'.S w7' w9' := fun e1 e2 e3 e4 e5 => by
    subst e1
    refine ⟨w7, w9, hkd, fun h => ?_, fun w h => ?_, fun h => ?_, fun w h => ?_⟩
    · obtain ⟨⟨h7, g1, g2⟩, g3⟩ := Y.n7 h
      exact ⟨⟨h7, g1, by rw [U.value ha g1.hs, e2]; exact g2⟩, hset ha g3 (by rw [e3]; exact g3 a q ha)⟩
    · obtain ⟨g1, g2, g3⟩ := Y.s7 w h
      exact ⟨g1, g2, hset ha g3 (by rw [e3, e4, e5]; exact g3 a q ha)⟩
    · obtain ⟨g1, g3⟩ := Y.n9 h
      exact ⟨g1, hset ha g3 (by rw [e3, e4]; exact g3 a q ha)⟩
    · obtain ⟨g1, g2, g0, g3⟩ := Y.s9 w h
      exact ⟨g1, g2, by rw [List.length_set]; exact g0, hset ha g3 (by rw [e3, e4]; exact g3 a q ha)⟩
  by_cases hd : q.dn = true
  · obtain ⟨e1, e2, e3, e4, e5⟩ := U.same hd
    exact quiet e4 e5 (by rw [e1]) (by rw [e1]) (by rw [e1])
  have hd : q.dn = false := by simpa using hd
  obtain ⟨o1, o2⟩ := U.one hd
  rcases U.eff hd with ⟨e1, hE⟩ | ⟨e1, e2, e3, e4, e5, _, _⟩
  · have hfx : q.fx = false := by
      cases h : q.fx with
      | false => rfl
      | true => rw [o2 h] at e1; cases e1
    have hfx' : q'.fx = true := by rw [o1, e1]; simp
    have hlt := (List.getElem?_eq_some_iff.1 ha).1
    by_cases hT : a < T
    · -- one who takes
      obtain ⟨k1, k2⟩ := (Y.kd a q ha).1 hT
      -- the others of 9
      have nine9 : ∀ {M' : List (List El)}, (Miss c M 9 → Miss c M' 9) → (∀ h, Is c M 9 h → Is c M' 9 h) → (w9 = none → Miss c M' 9 ∧ ∀ (b : Nat) (x : Qr), (rs.set a q')[b]? = some x → T ≤ b → x.fx = true → x.no = 4) ∧
          (∀ w, w9 = some w → (∃ h, Is c M' 9 h) ∧ T ≤ w ∧ w < (rs.set a q').length ∧ ∀ (b : Nat) (x : Qr), (rs.set a q')[b]? = some x → T ≤ b → (b = w → x.fx = true ∧ x.no = 0) ∧ (b ≠ w → x.fx = true → x.no = 3 ∨ x.no = 4)) := fun hm hi =>
        ⟨fun h => ⟨hm (Y.n9 h).1, hset ha (Y.n9 h).2 fun h => by omega⟩, fun w h => by
          obtain ⟨⟨h9, g1⟩, g2, g0, g3⟩ := Y.s9 w h
          exact ⟨⟨h9, hi h9 g1⟩, g2, by rw [List.length_set]; exact g0, hset ha g3 fun h => by omega⟩⟩
      have out : q'.no = 2 ∧ M' = M ∧ st = none ∧ Miss c M 7 ∨ ∃ (i : Nat) (pre rest : List El) (e : El), Has c M 7 i pre e rest ∧ q'.no = 0 ∧ q'.rv = [val G.S e.h] ∧ M' = M.set i (pre ++ rest) ∧ st = none := by
        generalize q'.no = no at hE ⊢
        generalize q'.rv = rv at hE ⊢
        generalize q'.rk = rk at hE
        generalize q'.el = el at hE
        cases hE with
        | none h1 h2 h3 => rw [k2] at h3; exact .inl ⟨rfl, rfl, rfl, h3⟩
        | twice h1 h2 h3 => omega
        | set h1 h2 h3 => omega
        | look h1 h2 => omega
        | full h1 h2 h3 h4 => omega
        | mem h1 h2 h3 h4 => omega
        | add h1 h2 h3 h4 h5 h6 h7 h8 h9 => omega
        | del h1 h2 => omega
        | tak h1 h2 h3 h4 h5 => rw [k2] at h5; exact .inr ⟨_, _, _, _, h5, rfl, rfl, rfl, rfl⟩
        | past h1 h2 => omega
        | next h1 h2 h3 h4 h5 h6 => omega
      rcases out with ⟨g1, rfl, g3, g4⟩ | ⟨i, pre, rest, e, hh, g1, g2, rfl, g4⟩
      · -- it was gone
        obtain ⟨n1, n2⟩ := nine9 (M' := M') id (fun _ h => h)
        cases hw : w7 with
        | none => exact ((Y.n7 hw).1.choose_spec.1.no g4).elim
        | some w =>
          obtain ⟨y1, y2, y3⟩ := Y.s7 w hw
          refine ⟨some w, w9, hkd, fun h => (by cases h), fun w' h => ?_, n1, n2⟩
          obtain rfl := Option.some.inj h
          refine ⟨y1, y2, hset ha y3 fun _ => ⟨fun e => ?_, fun _ _ => g1⟩⟩
          have := ((y3 a q ha hT).1 e).1
          rw [hfx] at this; cases this
      · have his : Is c M 7 e.h := ⟨i, pre, rest, e, hh, rfl⟩
        have h97 : e.k ≠ 9 := by rw [hh.2.2]; decide
        obtain ⟨n1, n2⟩ := nine9 (M' := M.set i (pre ++ rest)) (fun m => m.cut hh.2.1) (fun _ h => h.cut hh.2.1 h97)
        cases hw : w7 with
        | some w => exact (his.no (Y.s7 w hw).1).elim
        | none =>
          obtain ⟨⟨h7, y1, y2⟩, y3⟩ := Y.n7 hw
          have e7 : h7 = e.h := by
            obtain ⟨i2, p2, r2, e2, ⟨c1, c2, c3⟩, rfl⟩ := y1
            have ei : i2 = i := by have := hh.1; omega
            subst ei
            rw [hh.2.1] at c2
            have hs := W.srt i2 _ hh.2.1
            have hp := List.pairwise_append.1 hs.1
            have hm : e2 ∈ pre ++ e :: rest := by rw [Option.some.inj c2]; simp
            have hk : e2.k = e.k := by rw [c3, hh.2.2]
            rcases List.mem_append.1 hm with g | g
            · have := hp.2.2 e2 g e (.head _); rw [hk] at this; omega
            · rcases List.mem_cons.1 g with rfl | g
              · rfl
              · have := (List.pairwise_cons.1 hp.2.1).1 e2 g; rw [hk] at this; omega
          refine ⟨some a, w9, hkd, fun h => (by cases h), fun w' h => ?_, n1, n2⟩
          obtain rfl := Option.some.inj h
          refine ⟨Miss.took (W.srt i _ hh.2.1) hh.2.1 hh.1 hh.2.2, hT, fun b x hx hb => ?_⟩
          rcases (set_some ha).1 hx with ⟨rfl, rfl⟩ | ⟨hne, hx⟩
          · exact ⟨fun _ => ⟨hfx', g1, by rw [g2, ← e7, y2]⟩, fun h => absurd rfl h⟩
          · refine ⟨fun h => absurd h hne, fun _ h => ?_⟩
            rw [y3 b x hx hb] at h; cases h
    · -- one who lays
      have hT' : T ≤ a := by omega
      obtain ⟨k1, k2, k3⟩ := (Y.kd a q ha).2 hT'
      have seven : ∀ {M' : List (List El)}, (Miss c M 7 → Miss c M' 7) → (∀ h, Is c M 7 h → Is c M' 7 h) → (∀ h, Is c M 7 h → val G'.S h = val G.S h) → (w7 = none → (∃ h, Is c M' 7 h ∧ val G'.S h = 70) ∧ ∀ (b : Nat) (x : Qr), (rs.set a q')[b]? = some x → b < T → x.fx = false) ∧
          (∀ w, w7 = some w → Miss c M' 7 ∧ w < T ∧ ∀ (b : Nat) (x : Qr), (rs.set a q')[b]? = some x → b < T → (b = w → x.fx = true ∧ x.no = 0 ∧ x.rv = [70]) ∧ (b ≠ w → x.fx = true → x.no = 2)) := fun hm hi hv =>
        ⟨fun h => by
          obtain ⟨⟨h7, y1, y2⟩, y3⟩ := Y.n7 h
          exact ⟨⟨h7, hi h7 y1, by rw [hv h7 y1]; exact y2⟩, hset ha y3 fun h => by omega⟩, fun w h => by
          obtain ⟨g1, g2, g3⟩ := Y.s7 w h
          exact ⟨hm g1, g2, hset ha g3 fun h => by omega⟩⟩
      have out : q'.no = 3 ∧ M' = M ∧ st = none ∧ (∃ h, Is c M 9 h) ∨ q'.no = 4 ∧ M' = M ∧ st = none ∧ Miss c M 9 ∨ ∃ (i : Nat) (pre rest : List El) (y : El), bkt 9 c.d3 = (i : Int) ∧ M[i]? = some (pre ++ rest) ∧ y.k = 9 ∧ Miss c M 9 ∧ q'.no = 0 ∧ M' = M.set i (pre ++ y :: rest) ∧ st = none := by
        generalize q'.no = no at hE ⊢
        generalize q'.rv = rv at hE
        generalize q'.rk = rk at hE
        generalize q'.el = el at hE
        cases hE with
        | none h1 h2 h3 => have := h2 k1; omega
        | twice h1 h2 h3 => rw [k2] at h3; exact .inl ⟨rfl, rfl, rfl, _, _, _, _, _, h3, rfl⟩
        | set h1 h2 h3 => exact absurd k3 h2
        | look h1 h2 => omega
        | full h1 h2 h3 h4 => rw [k2] at h3; exact .inr (.inl ⟨rfl, rfl, rfl, h3⟩)
        | mem h1 h2 h3 h4 => omega
        | add h1 h2 h3 h4 h5 h6 h7 h8 h9 =>
          rw [k2] at h3 h5 h6
          exact .inr (.inr ⟨_, _, _, ⟨_, q.ky⟩, h3, h4, k2, gap_no h4 h3 h5 h6, rfl, rfl, rfl⟩)
        | del h1 h2 => omega
        | tak h1 h2 h3 h4 h5 => exact absurd k1 h2
        | past h1 h2 => omega
        | next h1 h2 h3 h4 h5 h6 => omega
      rcases out with ⟨g1, rfl, g3, h9, g4⟩ | ⟨g1, rfl, g3, g4⟩ | ⟨i, pre, rest, y, hb, hM, hy, hm9, g1, rfl, g4⟩
      · obtain ⟨n1, n2⟩ := seven (M' := M') id (fun _ h => h) (fun h hh => by rw [U.value ha hh.hs, g3]; rfl)
        cases hw : w9 with
        | none => exact (g4.no (Y.n9 hw).1).elim
        | some w =>
          obtain ⟨y1, y2, y0, y3⟩ := Y.s9 w hw
          refine ⟨w7, some w, hkd, n1, n2, fun h => (by cases h), fun w' h => ?_⟩
          obtain rfl := Option.some.inj h
          refine ⟨y1, y2, by rw [List.length_set]; exact y0, hset ha y3 fun _ => ⟨fun e => ?_, fun _ _ => .inl g1⟩⟩
          have := ((y3 a q ha hT').1 e).1
          rw [hfx] at this; cases this
      · obtain ⟨n1, n2⟩ := seven (M' := M') id (fun _ h => h) (fun h hh => by rw [U.value ha hh.hs, g3]; rfl)
        cases hw : w9 with
        | some w => exact ((Y.s9 w hw).1.choose_spec.no g4).elim
        | none =>
          obtain ⟨y1, y3⟩ := Y.n9 hw
          exact ⟨w7, none, hkd, n1, n2, fun _ => ⟨y1, hset ha y3 fun _ _ => g1⟩, fun w h => (by cases h)⟩
      · have h97 : y.k ≠ 7 := by rw [hy]; decide
        obtain ⟨n1, n2⟩ := seven (M' := M.set i (pre ++ y :: rest)) (fun m => m.add hM h97) (fun _ h => h.add hM) (fun h hh => by rw [U.value ha (hh.add hM).hs, g4]; rfl)
        cases hw : w9 with
        | some w => exact ((Y.s9 w hw).1.choose_spec.no hm9).elim
        | none =>
          obtain ⟨y1, y3⟩ := Y.n9 hw
          refine ⟨w7, some a, hkd, n1, n2, fun h => (by cases h), fun w' h => ?_⟩
          obtain rfl := Option.some.inj h
          refine ⟨⟨_, Is.laid hM hb hy⟩, hT', by rw [List.length_set]; exact hlt, fun b x hx hbT => ?_⟩
          rcases (set_some ha).1 hx with ⟨rfl, rfl⟩ | ⟨hne, hx⟩
          · exact ⟨fun _ => ⟨hfx', g1⟩, fun h => absurd rfl h⟩
          · exact ⟨fun h => absurd h hne, fun _ h => .inr (y3 b x hx hbT h)⟩
  · exact quiet e2 e3 (by rw [o1, e1]; simp) e4 e5
end Go.Proofs.YtjggeoghlicmdaaGreat
namespace Go.Proofs.YtjggeoghlicmdaaGreat
open Go Go.AS Go.RowKit
set_option linter.unusedVariables false
variable {H H' : Heap} {L : List Asr} {N : Nm} {c : Lc} {A A' : Ab} {G G' : Gr} {X : Gx} {cap : Int} {q q0 q' : Qr} {i j : Nat} {a clk : Nat} {M M' M0 : List (List El)} {ks ks' : Nat → Nat} {st : Option (Int × Wd)}
abbrev ptrs (Rs : List Hr) : List Value := Rs.map fun R => P R.r
theorem begin_push {Rs : List Hr} {o : Option Nat} {kd fl : Int} {ky : Wd} {va : Option Addr} {vs : List Wd} {n : Nat} {K : Option Addr → Nat → Heap → Prop} (hok : ∀ R ∈ Rs, R.ok) (ho : o = none → Rs = []) (hlen : Rs.length ≤ 1000)
    (h : Sep H (xA c :: grA c.g c.m X :: many (Rs.map (hrA c)) :: gl 1 o (ptrs Rs) :: L)) (hn : n = vs.length) (hd3 : c.d3 < 9223372036854775808)
    (hv : ∀ w, vs.head? = some w → ∃ b o, va = some ⟨b, o, none⟩ ∧ ∀ H', Sep H' L → H'.cell b o = some (W w))
    (hR : ∀ H' R' b o', R'.q = Qr.new c kd ky fl 0 (vs.headD 0) b → (∀ R ∈ Rs ++ [R'], R.ok) → Sep H' (xA c :: grA c.g c.m X :: many ((Rs ++ [R']).map (hrA c)) :: gl 1 (some o') (ptrs (Rs ++ [R'])) :: L) → K (addr (some o')) (Rs.length + 1) H') :
    CA en F.hash_Map_Begin [P c.x, .agg #[I kd, W ky, .slice va n 0, I fl, I 0]] H fun v9 H10 => ∃ a11, v9 = .pointer a11 ∧ nwH H10 (.cells true 1 [.pointer a11]) fun i12 H13 => ∃ l14, rowOf H13 1 (some ⟨i12, 0, none⟩) 1 = some l14 ∧ apd H13 8 1 (addr o) Rs.length 1 l14 K := by
  refine Begin_s (vs := vs) h hn hd3 (fun w hw => ?_) fun H' r PL b0 hk => ⟨_, rfl, ?_⟩
  · obtain ⟨b, o2, e1, e2⟩ := hv w hw
    exact ⟨b, o2, e1, fun H' h' => e2 H' (h'.drop 2)⟩
  · obtain ⟨R', g1, g2, g3, g4⟩ := hk.hr
    refine Sep.nw g4 fun i12 H13 h13 => ⟨[P r], rowOf_bx (es := 1) (n := 1) (b := i12) (Sep.get0 h13) (by decide) rfl, ?_⟩
    -- i12 R' xA gr runs list L
    have h14 : Sep H13 (gl 1 o (ptrs Rs) :: hrA c R' :: xA c :: grA c.g c.m X :: many (Rs.map (hrA c)) :: L) := Sep.pick h13 6 [5, 1, 2, 3, 4] (by decide)
    refine apd_gl (b := o) (cs := ptrs Rs) (new := [P r]) h14 (fun e => by rw [ho e]; rfl) (by decide) (by simp) (by decide) rfl (by omega) fun H5 o' h5 => ?_
    have h6 : Sep H5 (hrA c R' :: many (Rs.map (hrA c)) :: gl 1 (some o') (ptrs Rs ++ [P r]) :: xA c :: grA c.g c.m X :: L) := Sep.pick h5 5 [1, 4, 0, 2, 3] (by decide)
    have h7 := manyM_snoc h6
    have h8 : Sep H5 (xA c :: grA c.g c.m X :: many ((Rs ++ [R']).map (hrA c)) :: gl 1 (some o') (ptrs Rs ++ [P r]) :: L) := Sep.pick h7 4 [2, 3, 0, 1] (by decide)
    have e : ptrs (Rs ++ [R']) = ptrs Rs ++ [P r] := by
      show (Rs ++ [R']).map _ = _
      rw [List.map_append, ← g2]; rfl
    refine hR H5 R' b0 o' g3 (fun R hR2 => ?_) (by rw [e]; exact h8)
    rcases List.mem_append.1 hR2 with h | h
    · exact hok R h
    · simp only [List.mem_singleton] at h; rw [h]; exact g1
theorem ptr_at {Rs : List Hr} {o : Option Nat} {R : Hr} {M : List Asr} (ha : Rs[a]? = some R) (ho : o = none → Rs = []) (h : Sep H (gl 1 o (ptrs Rs) :: M)) {K : Nat → Nat → Prop} (hK : ∀ i, H.cell i (0 + a * 1) = some (P R.r) → K i 0) : asRow (addr o) K := by
  cases o with
  | none => rw [ho rfl] at ha; simp at ha
  | some b =>
    have h1 := gl_some.1 h
    refine asRow_in (hK b ?_)
    refine Sep.ld0 h1 ?_
    rw [Nat.zero_add, Nat.mul_one, List.getElem?_map, ha]; rfl
end Go.Proofs.YtjggeoghlicmdaaGreat
namespace Go.Proofs.YtjggeoghlicmdaaGreat
open Go Go.AS Go.RowKit
set_option linter.unusedVariables false
variable {N : Nm} {c : Lc} {A A' : Ab} {G G' : Gr} {cap : Int} {q q' x : Qr} {a b clk T nn F tl at' : Nat} {M M' : List (List El)} {ks ks' : Nat → Nat} {rs : List Qr}
def mks (rs : List Qr) : Nat := (rs.map Qr.mkn).sum
theorem mks_le (rs : List Qr) : mks rs ≤ rs.length := sum_le Qr.mkn (fun q => by unfold Qr.mkn; split <;> omega) rs
structure Lp (c : Lc) (T nn F tl : Nat) (rs : List Qr) (G : Gr) (at' : Nat) : Prop where
  ex : ∃ A ks M w7 w9, World ⟨nn, 2, 4⟩ c 386 (100000 + at') A G rs ks M ∧ Dni rs ∧ Hist c T rs M G.S w7 w9 ∧ G.S.made ≤ 3 + mks rs ∧ phi ks nn ≤ F ∧
    (tl ≤ at' → Over rs ∨ ∃ f, f < nn ∧ Stall ⟨nn, 2, 4⟩ A rs at' f ∧ phi ks nn * nn + (nn - f) + (at' - tl) ≤ F * nn + nn)
theorem lp_step (P : Lp c T nn F tl rs G at') (hn : 0 < nn) (hn8 : nn ≤ 8) (hat : at' ≤ 90000) (ha : rs[a]? = some q) (ha2 : tl ≤ at' → a = at' % nn) (b : Bs) : Lp c T nn F tl (rs.set a (q.step c G b).1) (q.step c G b).2 (at' + 1) := by
  obtain ⟨A, ks, M, w7, w9, W, D, Y, hmd, hphi, hst⟩ := P.ex
  have hlen : nn = rs.length := W.nn
  have hroom : 3 ≤ G.S.room := by
    have h1 := room_made W.mem
    have h2 := mks_le rs
    omega
  obtain ⟨A', M', ks', st, U⟩ := turn W D ha (by omega) b
  obtain ⟨w7', w9', Y'⟩ := hist_step W Y ha hroom U
  have hmd' : (q.step c G b).2.S.made ≤ 3 + mks (rs.set a (q.step c G b).1) := by
    have hs : mks (rs.set a (q.step c G b).1) + q.mkn = mks rs + (q.step c G b).1.mkn := sum_set Qr.mkn ha
    by_cases hd : q.dn = true
    · obtain ⟨e1, e2, _⟩ := U.same hd
      rw [e1] at hs
      rw [e1, e2]; omega
    · have := step_made (b := b) W ha (by simpa using hd)
      omega
  have hphi' : phi ks' nn ≤ phi ks nn := by
    rcases U.pot with h | ⟨_, h, _⟩
    · have h : phi ks' nn < phi ks nn := h
      omega
    · have h : phi ks' nn = phi ks nn := h
      omega
  refine ⟨A', ks', M', w7', w9', U.w, U.dni, Y', hmd', by omega, fun ht => ?_⟩
  by_cases ht2 : tl ≤ at'
  · rcases hst ht2 with O | ⟨f, hf, hS, hle⟩
    · left
      obtain ⟨e1, e2, _⟩ := U.same (O a q ha)
      rw [e1, set_self ha]; exact O
    · have ea := ha2 ht2
      subst ea
      obtain ⟨f', g1, g2, g3⟩ := stall_step (N := ⟨nn, 2, 4⟩) hS hn hlen ha U hf
      have g3 : phi ks' nn * nn + (nn - f') < phi ks nn * nn + (nn - f) := g3
      have g2 : f' ≤ nn := g2
      by_cases e : f' < nn
      · exact .inr ⟨f', e, g1, by omega⟩
      · exact .inl (over_of U.w U.dni g1 (by show nn ≤ f'; omega) hn)
  · have e : at' + 1 = tl := by omega
    refine .inr ⟨0, hn, ⟨Nat.zero_le _, fun j h1 h2 => by omega⟩, ?_⟩
    have : phi ks' nn * nn ≤ F * nn := Nat.mul_le_mul_right _ (by omega)
    omega
theorem lp_over (P : Lp c T nn F tl rs G at') (hn : 0 < nn) (h1 : tl ≤ at') (h2 : F * nn + nn ≤ at' - tl) : Over rs := by
  obtain ⟨A, ks, M, w7, w9, W, D, Y, hmd, hphi, hst⟩ := P.ex
  rcases hst h1 with O | ⟨f, hf, _, hle⟩
  · exact O
  · omega
theorem phi_const (k : Nat) : ∀ n, phi (fun _ => k) n = n * k
  | 0 => by simp [phi]
  | n + 1 => by unfold phi; rw [phi_const k n, Nat.add_mul]; omega
theorem lp_init {x m g : Nat} {A : Ab} {h7 : Int} (R : Rest ⟨1, 2, 4⟩ (hcOf x m g 2 4) 386 100000 A G M) (hmd : G.S.made ≤ 3) (h1 : Is (hcOf x m g 2 4) M 7 h7) (h2 : val G.S h7 = 70) (h3 : Miss (hcOf x m g 2 4) M 9) (hnew : ∀ (a : Nat) (q : Qr), rs[a]? = some q → New (hcOf x m g 2 4) q)
    (hkd : ∀ (a : Nat) (q : Qr), rs[a]? = some q → (a < T → q.kd = 5 ∧ q.ky = 7) ∧ (T ≤ a → q.kd = 2 ∧ q.ky = 9 ∧ q.fl = 1)) (hl : rs.length ≤ 8) (hl0 : 0 < rs.length) : Lp (hcOf x m g 2 4) T rs.length 3560 tl rs G 0 := by
  have W := R.begin (rs := rs) (by omega) hnew
  have hphi : phi (fun _ => Nm.st ⟨rs.length, 2, 4⟩) rs.length ≤ 3560 := by
    rw [phi_const]
    have h : ∀ n, n < 9 → n * Nm.st ⟨n, 2, 4⟩ ≤ 3560 := by decide
    exact h rs.length (by omega)
  refine ⟨A, _, M, none, none, W, dni_new hnew, ⟨hkd, fun _ => ⟨⟨h7, h1, h2⟩, fun a q hq _ => (hnew a q hq).fx⟩, fun w h => (by cases h), fun _ => ⟨h3, fun a q hq _ h => ?_⟩, fun w h => (by cases h)⟩, by omega, hphi, fun ht => ?_⟩
  · rw [(hnew a q hq).fx] at h; cases h
  · refine .inr ⟨0, hl0, ⟨Nat.zero_le _, fun j h1 h2 => by omega⟩, ?_⟩
    have := Nat.mul_le_mul_right rs.length hphi
    show phi (fun _ => Nm.st ⟨rs.length, 2, 4⟩) rs.length * rs.length + (rs.length - 0) + (0 - tl) ≤ 3560 * rs.length + rs.length
    omega
def lefts (rs : List Qr) : Nat := (rs.map fun q => if q.dn then 0 else 1).sum
theorem lefts_set (ha : rs[a]? = some q) : lefts (rs.set a q') + (if q.dn then 0 else 1) = lefts rs + (if q'.dn then 0 else 1) := sum_set (fun q => if q.dn then 0 else 1) ha
theorem lefts_zero : ∀ {rs : List Qr}, lefts rs = 0 ↔ Over rs
  | [] => ⟨fun _ a q h => by simp at h, fun _ => rfl⟩
  | x :: rs => by
    have ih := lefts_zero (rs := rs)
    have e : lefts (x :: rs) = (if x.dn then 0 else 1) + lefts rs := by unfold lefts; simp
    rw [e]
    constructor
    · intro h a q hq
      cases a with
      | zero =>
        obtain rfl : x = q := by simpa using hq
        cases hd : x.dn with
        | true => rfl
        | false => rw [hd] at h; simp at h
      | succ a => exact ih.1 (by omega) a q (by simpa using hq)
    · intro h
      rw [h 0 x rfl, ih.2 fun a q hq => h (a + 1) q (by simpa using hq)]; rfl
theorem lefts_all : ∀ {rs : List Qr}, (∀ q ∈ rs, q.dn = false) → lefts rs = rs.length
  | [], _ => rfl
  | x :: rs, h => by
    have ih := lefts_all (rs := rs) fun q hq => h q (List.mem_cons_of_mem _ hq)
    have e : lefts (x :: rs) = (if x.dn then 0 else 1) + lefts rs := by unfold lefts; simp
    rw [e, h x (.head _), ih, List.length_cons]; simp; omega
end Go.Proofs.YtjggeoghlicmdaaGreat
namespace Go.Proofs.YtjggeoghlicmdaaGreat
open Go Go.AS Go.RowKit
set_option linter.unusedVariables false
variable {N : Nm} {c : Lc} {A A' : Ab} {G G' : Gr} {cap : Int} {q q' x q0 : Qr} {a b clk T : Nat} {M M' M0 : List (List El)} {S S0 : Sm} {rs : List Qr}
theorem set_selfA {α : Type} {l : List α} {a : Nat} {x : α} (h : l[a]? = some x) : l.set a x = l := by
  refine List.ext_getElem? fun k => ?_
  rw [List.getElem?_set]
  by_cases e : a = k
  · subst e; rw [if_pos rfl, if_pos (List.getElem?_eq_some_iff.1 h).1, h]
  · rw [if_neg e]
theorem LA_imp2 {E : Env} {b : Code} {xs : Fr} {H : Heap} {x0 x1 : X} {K0 K1 J0 J1 : Fr → Heap → Prop} (h : LA E b xs H [(x0, J0), (x1, J1)]) (h0 : ∀ y H, J0 y H → K0 y H) (h1 : ∀ y H, J1 y H → K1 y H) : LA E b xs H [(x0, K0), (x1, K1)] := by
  obtain ⟨n, x, s, hr, xs', e1, e2, e3, p, hp, e4, e5⟩ := h
  refine ⟨n, x, s, hr, xs', e1, e2, e3, ?_⟩
  simp only [List.mem_cons, List.not_mem_nil, or_false] at hp
  rcases hp with rfl | rfl
  · exact ⟨(x0, K0), by simp, e4, h0 _ _ e5⟩
  · exact ⟨(x1, K1), by simp, e4, h1 _ _ e5⟩
theorem lefts_le (rs : List Qr) : lefts rs ≤ rs.length := sum_le (fun q => if q.dn then 0 else 1) (fun q => by show (if q.dn then 0 else 1) ≤ 1; split <;> omega) rs
def Gave (T w lw : Nat) (rs : List Qr) : Prop := ∀ (a : Nat) (q : Qr), rs[a]? = some q → (a < T → (a = w → q.no = 0 ∧ q.rv = [70]) ∧ (a ≠ w → q.no = 2)) ∧ (T ≤ a → (a = lw → q.no = 0) ∧ (a ≠ lw → q.no = 3 ∨ q.no = 4))
theorem hist_over {w7 w9 : Option Nat} (Y : Hist c T rs M S w7 w9) (O : Over rs) (hT : 2 ≤ T) (hT2 : T < rs.length) :
    ∃ w lw, w < T ∧ T ≤ lw ∧ ((lw < rs.length ∧ ∃ h, Is c M 9 h) ∨ (lw = rs.length ∧ Miss c M 9)) ∧ Gave T w lw rs := by
  have fx : ∀ (a : Nat) (q : Qr), rs[a]? = some q → q.fx = true := fun a q h => by unfold Qr.fx; rw [O a q h]; rfl
  obtain ⟨w, hw⟩ : ∃ w, w7 = some w := by
    cases h : w7 with
    | some w => exact ⟨w, rfl⟩
    | none =>
      have h0 : rs[0]? = some rs[0] := List.getElem?_eq_getElem (by omega)
      have h1 := (Y.n7 h).2 0 rs[0] h0 (by omega)
      rw [fx 0 rs[0] h0] at h1; cases h1
  obtain ⟨_, w1, w2⟩ := Y.s7 w hw
  cases h9 : w9 with
  | none =>
    obtain ⟨y1, y2⟩ := Y.n9 h9
    exact ⟨w, rs.length, w1, by omega, .inr ⟨rfl, y1⟩, fun a q hq => ⟨fun ha => ⟨fun e => ((w2 a q hq ha).1 e).2, fun e => (w2 a q hq ha).2 e (fx a q hq)⟩, fun ha => ⟨fun e => by have := (List.getElem?_eq_some_iff.1 hq).1; omega, fun _ => .inr (y2 a q hq ha (fx a q hq))⟩⟩⟩
  | some v =>
    obtain ⟨y1, y2, y3, y4⟩ := Y.s9 v h9
    exact ⟨w, v, w1, y2, .inl ⟨y3, y1⟩, fun a q hq => ⟨fun ha => ⟨fun e => ((w2 a q hq ha).1 e).2, fun e => (w2 a q hq ha).2 e (fx a q hq)⟩, fun ha => ⟨fun e => ((y4 a q hq ha).1 e).2, fun e => (y4 a q hq ha).2 e (fx a q hq)⟩⟩⟩
theorem ends_look {md : Int} {C : Nat} {ins : List Int} {ky : Wd} (h : Ends N c cap md C q0 M0 S0 ins q G) (hk : q0.kd = 1) (hky : q0.ky = ky) :
    ((∃ h, Is c M0 ky h) → q.no = 0) ∧ (Miss c M0 ky → q.no = 2) ∧ ∃ A M clk, Rest N c cap clk A G M := by
  obtain ⟨A, M, clk, R, hC, hmd, hfx, hsem, hins⟩ := h
  rcases hsem with ⟨s1, _⟩ | ⟨s1, S1, st, s2, s3, s4, s5⟩
  · rw [hfx] at s1; cases s1
  refine ⟨fun ⟨h7, h⟩ => ?_, fun h => ?_, A, M, clk, R⟩
  · generalize q.no = no at s2 ⊢
    generalize q.rv = rv at s2
    generalize q.rk = rk at s2
    generalize q.el = el at s2
    cases s2 with
    | none h1 h2 h3 => rw [hky] at h3; exact (h.no h3).elim
    | twice h1 h2 h3 => omega
    | set h1 h2 h3 => rfl
    | look h1 h2 => rfl
    | full h1 h2 h3 h4 => omega
    | mem h1 h2 h3 h4 => omega
    | add h1 h2 h3 h4 h5 h6 h7 h8 h9 => rfl
    | del h1 h2 => rfl
    | tak h1 h2 h3 h4 h5 => rfl
    | past h1 h2 => omega
    | next h1 h2 h3 h4 h5 h6 => rfl
  · generalize q.no = no at s2 ⊢
    generalize q.rv = rv at s2
    generalize q.rk = rk at s2
    generalize q.el = el at s2
    cases s2 with
    | none h1 h2 h3 => rfl
    | twice h1 h2 h3 => omega
    | set h1 h2 h3 => omega
    | look h1 h2 => rw [hky] at h2; exact (h.no h2).elim
    | full h1 h2 h3 h4 => omega
    | mem h1 h2 h3 h4 => omega
    | add h1 h2 h3 h4 h5 h6 h7 h8 h9 => omega
    | del h1 h2 => omega
    | tak h1 h2 h3 h4 h5 => exact absurd hk h1
    | past h1 h2 => rfl
    | next h1 h2 h3 h4 h5 h6 => omega
end Go.Proofs.YtjggeoghlicmdaaGreat
