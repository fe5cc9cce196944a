/-
  What waits for one who is inside stays; how many may be deferred (no program in sight but s.alone).
-/
import Derived.Test.YtjggeoghlicmdaaGreatLruM
namespace Go.Proofs.YtjggeoghlicmdaaGreat
open Go Go.AS Go.RowKit
set_option linter.unusedVariables false
variable {H H' : Heap} {R : Value → Heap → Prop} {L : List Asr} {c : Lc} {X : Gx} {G : Gr} {la la' : List El} {w : Wd} {q : Qr} {mx : Int} {ky v : Wd} {h a : Int} {z : Nat}

/-- What holds from step to step. -/
theorem Fin'.inv {I : Qr → Gr → Prop} (hI : ∀ q G b, q.dn = false → I q G → I (q.step c G b).1 (q.step c G b).2) {Q : Nat → Qr → Gr → Prop} {k e : Nat} {q : Qr} {G : Gr} (hf : Fin' c Q k e q G) (h0 : I q G) :
    Fin' c (fun k q G => Q k q G ∧ I q G) k e q G := by
  induction hf with
  | @step k e q G hd hn hf hl hk h1 h2 ih => exact .step hd hn hf hl hk (fun b hb => ⟨(h1 b hb).1, ⟨(h1 b hb).2.1, hI _ _ _ hd h0⟩, (h1 b hb).2.2⟩) fun b hb => ih b hb (hI _ _ _ hd h0)

/-- A region that waits for a, at least. -/
structure Kept (h a : Int) (G : Gr) : Prop where
  ins : a ∈ G.ins
  reg : h ∈ G.S.regs.map Reg.h
  ws : ∀ w ∈ G.q, w.h = h → a ∈ w.ws
theorem frees_has {hs : List Int} {S : Sm} {h : Int} (h1 : h ∈ S.regs.map Reg.h) (h2 : h ∉ hs) : h ∈ (frees S hs).regs.map Reg.h := by
  rw [frees_keys]
  exact List.mem_filter.2 ⟨h1, by simpa using h2⟩
theorem Kept.swept (k : Kept h a G) : Kept h a G.swept := by
  refine ⟨k.ins, frees_has k.reg fun hg => ?_, fun w hw e => k.ws w (List.mem_filter.1 hw).1 e⟩
  obtain ⟨w, hw, e1, e2⟩ := gone_mem.1 hg
  have := k.ws w hw e2
  rw [e1] at this; simp at this
theorem Kept.defer (k : Kept h a G) (x : Int) (b : Nat) : Kept h a (G.defer x b).2 := by
  unfold Gr.defer; split
  · exact k
  · refine Kept.swept ⟨k.ins, k.reg, fun w hw e => ?_⟩
    rcases List.mem_append.1 hw with hw | hw
    · exact k.ws w hw e
    · simp only [List.mem_singleton] at hw
      subst hw; exact k.ins
theorem Kept.mem {S : Sm} (k : Kept h a G) (hk : ∀ x ∈ G.S.regs.map Reg.h, x ∈ S.regs.map Reg.h) : Kept h a (G.mem S) := ⟨k.ins, hk _ k.reg, k.ws⟩
theorem Kept.acc {b i : Int} {may : Bool} {f : Wd → Wd} (k : Kept h a G) : Kept h a (G.mem (G.S.acc b i may f).2) := k.mem fun x hx => by rw [acc_keys]; exact hx
theorem Kept.make (k : Kept h a G) (b : Nat) (n : Int) : Kept h a (G.mem (G.S.make b n).2) := k.mem fun x hx => by
  unfold Sm.make; split
  · exact hx
  · split
    · exact hx
    · show x ∈ (G.S.regs ++ [_]).map Reg.h
      rw [List.map_append]; exact List.mem_append_left _ hx
theorem Kept.enter (k : Kept h a G) (b : Int) : Kept h a (G.enter b).2 := by
  unfold Gr.enter; split
  · exact k
  · exact ⟨List.mem_append_left _ k.ins, k.reg, k.ws⟩
theorem Kept.leave {b : Int} (hn : a ≠ b) (k : Kept h a G) : Kept h a (G.leave b).2 := by
  unfold Gr.leave; split
  · refine Kept.swept ⟨(List.mem_erase_of_ne hn).2 k.ins, k.reg, fun w hw e => ?_⟩
    obtain ⟨w', hw', rfl⟩ := List.mem_map.1 hw
    exact (List.mem_erase_of_ne hn).2 (k.ws w' hw' e)
  · exact k
theorem doKS_kept : ∀ (k : KS) (q : Qr) (G : Gr) (b : Nat), Kept h a G → Kept h a (doKS c k q G b).2
  | .upd, q, G, b, k => k
  | .takeEnd, q, G, b, k => k.defer ..
  | .delEnd, q, G, b, k => k.defer ..
  | .used, q, G, b, k => k
  | .layVal _, q, G, b, k => k
  | .layYoung _, q, G, b, k => k
  | .layGive kk, q, G, b, k => doKS_kept kk _ G b k
  | .abs1, q, G, b, k => k
  | .absLay _, q, G, b, k => k
  | .absDef _, q, G, b, k => k.defer ..
  | .head _ _, q, G, b, k => k
  | .away, q, G, b, k => k
  | .begin, q, G, b, k => k
  | .room, q, G, b, k => k
theorem doKL_kept (kk : KL) (w : Wd) (q : Qr) (G : Gr) (b : Nat) (k : Kept h a G) : Kept h a (doKL c kk w q G b).2 := by
  cases kk with
  | walkAt a => exact k
  | walkKey a => cases a <;> exact k
  | look => exact k
  | take => exact k
  | count => exact k.make b 3
  | unl _ => exact k
  | young _ _ => exact k
theorem doNx_kept (nx : Nx) (q : Qr) (G : Gr) (b : Nat) (k : Kept h a G) : Kept h a (doNx c nx q G b).2 := by
  cases nx with
  | none => exact k
  | enter t kk =>
    have k1 : Kept h a (G.mem (t.step c G.S).2.2) := by
      unfold Tk.step; split
      · exact k.acc
      · split
        · split <;> exact k.acc
        · exact k
    show Kept h a (if _ then _ else _ : Qr × Gr).2
    split
    · exact doKS_kept kk _ _ b k1
    · exact k1
  | load x i kk => exact doKL_kept kk _ _ _ b k.acc
  | store x i w kk => exact doKS_kept kk _ _ b k.acc
  | more w => exact k.acc
  | drop => exact k.acc

/-! ### How many are deferred yet, at most -/
def dKS (z : Nat) : KS → Nat
  | .upd => 0 | .takeEnd => 1 | .delEnd => 1 | .used => 0 | .layVal k => dKS z k | .layYoung k => dKS z k | .layGive k => dKS z k
  | .abs1 => 0 | .absLay _ => 1 | .absDef _ => 1 | .head _ k => dKS z k | .away => 0 | .begin => z | .room => 5
def dKL (z : Nat) : KL → Nat
  | .walkAt .key => z | .walkAt .near => 1 | .walkAt .room => 5 | .walkKey .key => z | .walkKey .near => 1 | .walkKey .room => 5 | .look => 0 | .take => 1 | .count => 1 | .unl k => dKS z k | .young _ k => dKS z k
def dNx (z : Nat) : Nx → Nat
  | .none => 0 | .enter _ k => dKS z k | .load _ _ k => dKL z k | .store _ _ _ k => dKS z k | .more _ => 0 | .drop => 0
/-- z: 0 of a lookup. -/
structure Dz (z n : Nat) (q : Qr) (G : Gr) (d : Nat) : Prop where
  st : q.st = false
  kd : q.kd ≠ 4
  z0 : z = 0 → q.kd = 1
  z1 : z ≤ 1 ∧ n ≤ 4
  le : G.q.length + d ≤ n
variable {n d : Nat}
/-- What is left is told by what is next. -/
def Dn (z n : Nat) (q : Qr) (G : Gr) : Prop := Dz z n q G (dNx z q.nx)
theorem Dz.give {no : Int} {rv : List Wd} {rk : Wd} {el : Int} (h : Dz z n q G d) : Dz z n (q.give no rv rk el) G d := ⟨h.st, h.kd, h.z0, h.z1, h.le⟩
theorem Dz.less {d' : Nat} (h : Dz z n q G d) (hd : d' ≤ d) : Dz z n q G d' := ⟨h.st, h.kd, h.z0, h.z1, Nat.le_trans (Nat.add_le_add_left hd _) h.le⟩
theorem Dz.away (h : Dz z n q G d) : Dn z n q.away G := by
  unfold Qr.away Dn; rw [if_neg (by rw [h.st]; exact Bool.false_ne_true)]
  exact ⟨h.st, h.kd, h.z0, h.z1, Nat.le_trans (Nat.add_le_add_left (Nat.zero_le d) _) h.le⟩
theorem Dz.fail (h : Dz z n q G d) (e : Int) : Dn z n (q.fail e) G := (h.give).away
theorem Dz.def (h : Dz z n q G (d + 1)) (x : Int) (b : Nat) : Dz z n q (G.defer x b).2 d := by
  refine ⟨h.st, h.kd, h.z0, h.z1, ?_⟩
  have h1 := h.le
  unfold Gr.defer; split
  · show G.q.length + d ≤ n; omega
  · have : (kept (G.add x b).q).length ≤ (G.add x b).q.length := kept_le _
    have e2 : (G.add x b).q.length = G.q.length + 1 := by show (G.q ++ [_]).length = _; rw [List.length_append]; rfl
    show (kept (G.add x b).q).length + d ≤ n
    omega
theorem Dz.nx (h : Dz z n q G d) (q' : Qr) (h1 : q'.st = q.st) (h2 : q'.kd = q.kd) (hd : dNx z q'.nx ≤ d) : Dn z n q' G := show Dz z n q' G _ from ⟨h1.trans h.st, fun e => h.kd (h2.symm.trans e), fun e => h2.trans (h.z0 e), h.z1, by have := h.le; omega⟩
theorem Dz.used (h : Dz z n q G d) : Dn z n (q.used c) G := by
  unfold Qr.used; split
  · exact h.away
  · exact Dz.nx h (q.unlink .used) rfl rfl (Nat.zero_le d)
theorem Dz.found (h : Dz z n q G z) : Dn z n q.found G := by
  unfold Qr.found; split
  · split
    · exact h.fail 3
    · exact Dz.nx h (q.store q.cur 1 q.val .upd) rfl rfl (Nat.zero_le _)
  · split
    · exact Dz.nx h (q.load q.cur 1 .look) rfl rfl (Nat.zero_le _)
    · rename_i hk
      have : z ≠ 0 := fun e => hk (h.z0 e)
      split
      · exact Dz.nx h (q.load q.cur 1 .take) rfl rfl (show 1 ≤ z by omega)
      · exact Dz.nx h (q.unlink .delEnd) rfl rfl (show 1 ≤ z by omega)
theorem Dz.absent (h : Dz z n q G z) : Dn z n (q.absent c) G := by
  unfold Qr.absent; split
  · exact h.fail 2
  · rename_i hne
    have hk : q.kd = 2 := by
      simp only [not_or, ne_eq, Decidable.not_not] at hne; exact hne.1
    have : z ≠ 0 := fun e => by have := h.z0 e; rw [hk] at this; exact absurd this (by decide)
    exact Dz.nx h (q.load c.h 3 .count) rfl rfl (show 1 ≤ z by omega)
theorem doKS_dz : ∀ (k : KS) (q : Qr) (G : Gr) (b : Nat), Dz z n q G (dKS z k) → Dn z n (doKS c k q G b).1 (doKS c k q G b).2
  | .upd, q, G, b, h => (h.give).used
  | .takeEnd, q, G, b, h => Dz.nx (h.def q.cur b) (q.more ones) rfl rfl (Nat.le_refl 0)
  | .delEnd, q, G, b, h => Dz.nx (h.def q.cur b) ((q.give 0 [] 0 0).more ones) rfl rfl (Nat.le_refl 0)
  | .used, q, G, b, h => Dz.nx h (q.young c q.cur .away) rfl rfl (Nat.le_refl 0)
  | .layVal k, q, G, b, h => Dz.nx h (q.store q.made 1 q.val (.layYoung k)) rfl rfl (Nat.le_refl _)
  | .layYoung k, q, G, b, h => Dz.nx h (q.young c q.made (.layGive k)) rfl rfl (Nat.le_refl _)
  | .layGive k, q, G, b, h => doKS_dz k _ G b h.give
  | .abs1, q, G, b, h => Dz.nx h (q.more 1) rfl rfl (Nat.le_refl 0)
  | .absLay l, q, G, b, h => Dz.nx h (q.lay (.absDef l)) rfl rfl (Nat.le_refl 1)
  | .absDef l, q, G, b, h => (h.def l b).away
  | .head x k, q, G, b, h => Dz.nx h (q.store c.h 2 (BitVec.ofInt 64 x) k) rfl rfl (Nat.le_refl _)
  | .away, q, G, b, h => h.away
  | .begin, q, G, b, h => by
    show Dn z n (q.begin c) G
    unfold Qr.begin; rw [if_neg h.kd]
    exact Dz.nx h (q.walk c .key) rfl rfl (Nat.le_refl z)
  | .room, q, G, b, h => Dz.nx h (q.walk c .room) rfl rfl (Nat.le_refl 5)
theorem doKL_dz (k : KL) (w : Wd) (q : Qr) (G : Gr) (b : Nat) (h : Dz z n q G (dKL z k)) : Dn z n (doKL c k w q G b).1 (doKL c k w q G b).2 := by
  cases k with
  | walkAt a =>
    have h1 : Dz z n { q with cur := IntKind.i64.wrap w.toNat } G (dKL z (.walkAt a)) := ⟨h.st, h.kd, h.z0, h.z1, h.le⟩
    show Dn z n (if w = 0 then _ else _) G
    split
    · cases a with
      | key => exact Dz.absent h1
      | near =>
        show Dn z n (Qr.nearest _) G
        unfold Qr.nearest; split
        · exact (h1.give).away
        · exact h1.fail 2
      | room => exfalso; have h2 : G.q.length + 5 ≤ n := h.le; have := h.z1.2; omega
    · cases a <;> exact Dz.nx h1 (Qr.load { q with cur := IntKind.i64.wrap w.toNat } (IntKind.i64.wrap w.toNat) 0 (.walkKey _)) rfl rfl (Nat.le_refl _)
  | walkKey a =>
    cases a with
    | key =>
      show Dn z n (if w = q.ky then _ else _) G
      split
      · exact h.found
      · exact Dz.nx h (q.go .key) rfl rfl (Nat.le_refl _)
    | near =>
      show Dn z n ((q.nearer w).go .near) G
      unfold Qr.nearer; split
      · exact Dz.nx h (Qr.go { q with best := w, any := true } .near) rfl rfl (Nat.le_refl _)
      · exact Dz.nx h (q.go .near) rfl rfl (Nat.le_refl _)
    | room => exact Dz.nx h (Qr.go { q with keys := q.keys ++ [w] } .room) rfl rfl (Nat.le_refl _)
  | look => exact (h.give).used
  | take => exact Dz.nx h ((q.give 0 [w] 0 0).unlink .takeEnd) rfl rfl (Nat.le_refl 1)
  | count =>
    have h2 : Dz z n q (G.mem (G.S.make b 3).2) 1 := ⟨h.st, h.kd, h.z0, h.z1, h.le⟩
    show Dn z n (Qr.count c q w (G.S.make b 3).1.2 (G.S.make b 3).1.1) (G.mem (G.S.make b 3).2)
    unfold Qr.count; split
    · exact h2.fail 5
    · split
      · exact Dz.nx h2 (Qr.lay { q with made := (G.S.make b 3).1.1 } .abs1) rfl rfl (Nat.zero_le _)
      · exact Dz.nx h2 (Qr.store { q with made := (G.S.make b 3).1.1 } q.bh q.bi 0 (.absLay q.ah)) rfl rfl (Nat.le_refl 1)
  | unl k => exact Dz.nx h (q.store q.ah q.ai w k) rfl rfl (Nat.le_refl _)
  | young x k => exact Dz.nx h (q.store x 2 w (.head x k)) rfl rfl (Nat.le_refl _)
theorem doNx_dz (nx : Nx) (q : Qr) (G : Gr) (b : Nat) (e : q.nx = nx) (h : Dz z n q G (dNx z nx)) : Dn z n (doNx c nx q G b).1 (doNx c nx q G b).2 := by
  have hS : ∀ S, Dz z n q (G.mem S) (dNx z nx) := fun S => ⟨h.st, h.kd, h.z0, h.z1, h.le⟩
  cases nx with
  | none => exact Dz.nx h q rfl rfl (by rw [e]; exact Nat.le_refl _)
  | enter t kk =>
    show Dn z n (if _ then _ else _ : Qr × Gr).1 (if _ then _ else _ : Qr × Gr).2
    split
    · have h1 : Dz z n { q with nx := .enter (t.step c G.S).2.1 kk } (G.mem (t.step c G.S).2.2) (dKS z kk) := ⟨h.st, h.kd, h.z0, h.z1, (hS (t.step c G.S).2.2).le⟩
      exact doKS_dz kk _ _ b h1
    · exact Dz.nx (hS _) { q with nx := .enter (t.step c G.S).2.1 kk } rfl rfl (Nat.le_refl _)
  | load x i kk => exact doKL_dz kk _ _ _ b (hS _)
  | store x i w kk => exact doKS_dz kk _ _ b (hS _)
  | more w => exact (hS (G.S.acc c.h 3 true (addF w)).2).away
  | drop => exact Dz.nx (hS (G.S.acc c.h 1 true (addF 1)).2) { q with dn := true } rfl rfl (by show dNx z q.nx ≤ 0; rw [e]; exact Nat.le_refl 0)
theorem step_kd {q : Qr} (hd : q.dn = false) (G : Gr) (b : Nat) : q.step c G b = doNx c q.nx { q with eff := false } G b := by
  unfold Qr.step; rw [if_neg (by rw [hd]; exact Bool.false_ne_true)]
theorem step_dz {q : Qr} (G : Gr) (b : Nat) (hd : q.dn = false) (h : Dn z n q G) : Dn z n (q.step c G b).1 (q.step c G b).2 := by
  have h : Dz z n q G (dNx z q.nx) := h
  rw [step_kd hd]; exact doNx_dz q.nx { q with eff := false } G b rfl ⟨h.st, h.kd, h.z0, h.z1, h.le⟩
theorem step_kept {q : Qr} (G : Gr) (b : Nat) (hd : q.dn = false) (k : Kept h a G) : Kept h a (q.step c G b).2 := by
  rw [step_kd hd]; exact doNx_kept _ _ _ _ k

/-! ### s.alone, with what holds from step to step -/
theorem op2_s {I : Qr → Gr → Prop} {kd fl : Int} (hIst : ∀ q G b, q.dn = false → I q G → I (q.step c G b).1 (q.step c G b).2) (hI0 : ∀ b, I (Qr.new kd ky fl 0 (if kd = 2 then v else 0) b) (X.G.enter 0).2)
    (h : Sep H (xA c :: grA c.g c.m X :: L)) (hI : Idle c w mx X.G la) (hmx : mx + 1000 < 2305843009213693951) (hk : kd ≠ 4)
    (hR : ∀ H' X' k q la' o, 1 ≤ k → k ≤ 2 * la.length + 12 → Did c X.G la q X'.G la' → q.kd = kd ∧ q.ky = ky ∧ q.fl = fl ∧ q.val = (if kd = 2 then v else 0) →
      Idle c (w + 1) (mx + 1000) X'.G la' → (∀ a, a ∈ X'.G.ins ↔ a ∈ X.G.ins) → X'.G.n = X.G.n → (∃ Ge, I q Ge ∧ X'.G = (Ge.leave 0).2) → (o = none → q.rv = []) →
      Sep H' (xA c :: grA c.g c.m X' :: gl 1 o (q.rv.map W) :: L) → R (.tuple #[.agg #[.int .i64 q.no, .slice (addr o) q.rv.length 0, W q.rk, .int .i64 q.el], .int .i64 k]) H') :
    CA en F.crossbarlaw16_one_alone [.agg #[P c.m, P c.g, P c.x], .int .i64 kd, W ky, W v, .int .i64 fl] H R := by
  have hent : X.G.enter 0 = (true, { X.G with ins := X.G.ins ++ [0] }) := by
    unfold Gr.enter
    rw [if_neg (by simp only [not_or]; exact ⟨by omega, by have := hI.n; omega, hI.out⟩)]
  obtain ⟨M1, eS, eq⟩ := hI.mem.enter 0
  have hw : Wn c X.G.S.made (X.G.enter 0).2 la := ⟨by rw [eS], by have := hI.made; omega, hI.d1, hI.le, hI.keys⟩
  have hlen : la.length ≤ 64 := by have := hI.le; have := hI.d1; omega
  refine alone_s (Q := fun k q G => ((((k ≤ 2 * la.length + 12 ∧ ∃ la', PM c ⟨(· = w + 1), w⟩ q G la' ∧ Whole c X.G.S.made (X.G.enter 0).2 la q G la') ∧ (q.kd = kd ∧ q.ky = ky ∧ q.fl = fl ∧ q.val = (if kd = 2 then v else 0))) ∧ G.ins = X.G.ins ++ [0] ∧ G.n = X.G.n ∧ G.S.made ≤ mx + k) ∧ 1 ≤ k) ∧ I q G)
    h (by rw [hent]) (fun b => ?_) fun H' X' k q G o ⟨⟨⟨⟨⟨hk2, la', hp, hwh⟩, hop⟩, hins, hn, hmd⟩, hk1⟩, hIe⟩ e ho hs => ?_
  · have h1 := Run.alone (kd := kd) (fl := fl) (ky := ky) (v := if kd = 2 then v else 0) M1 hw hk b
    have h2 := Run.fin (N := 2 * la.length + 12) (G0 := (X.G.enter 0).2) (la0 := la) (k := 0) (fun q G la h => Mem.qlen h) h1 (by omega) (by omega) ⟨rfl, rfl, Vals.refl _⟩
    have h3 := (h2.ops (kd := kd) (fl := fl) (ky := ky) (v := if kd = 2 then v else 0) ⟨rfl, rfl, rfl, rfl⟩).grace (ins := X.G.ins ++ [0]) (n := X.G.n) (mx := mx) (by omega) ⟨by rw [hent], by rw [hent], by rw [eS]; exact hI.mem.made.1, by rw [eS]; have := hI.made; omega⟩
    exact h3.pos.inv hIst (hI0 b)
  · have M2 : Mem c ⟨(· = w + 1), w + 1⟩ G la' [] (lenW la') := hp
    obtain ⟨M3, f3⟩ := M2.leave 0
    obtain ⟨Ga, qe, Gb, b1, b2, b3, b4, b5, b6, b7⟩ := hwh.ex
    have hkeep := b1.keeps hI.keys hI.le hI.d1.1
    have hi : ∀ a, a ∈ (G.leave 0).2.ins ↔ a ∈ X.G.ins := fun a => by
      rw [leave_ins M2.ok, hins]
      simp only [List.mem_append, List.mem_singleton]
      constructor
      · rintro ⟨h1 | h1, h2⟩
        · exact h1
        · exact absurd h1 h2
      · intro h1
        exact ⟨.inl h1, fun e => hI.out (e ▸ h1)⟩
    refine hR H' X' k q la' o hk1 hk2 ?_ hop ?_ (by rw [e]; exact hi) (by rw [e, leave_n, hn]) ⟨G, hIe, e⟩ ho hs
    · rw [e]
      refine ⟨Ga, qe, Gb, b1, b2, b3, by rw [b4, eq], ?_, b6.trans fun a _ hc hv => keepV (f3 a hv) hv, b7⟩
      intro a ha hc hv
      have := b5 a ha hc hv
      rw [eS] at this; exact this
    · rw [e]
      refine ⟨M3, by rw [leave_made]; omega, hI.d1, hkeep.2, hkeep.1, by rw [leave_n, hn]; exact hI.n, fun h0 => hI.out ((hi 0).1 h0)⟩

/-- A word of an element that stays, if it is not the one that is updated. -/
theorem did_val {w' : Wd} {mx' : Int} (D : Did c X.G la q G la') (h1 : h ≤ X.G.S.made) (h2 : h ≠ c.h) (h3 : G.S.V h ≠ none) (h4 : ∀ e ∈ la, e.h = h → q.kd = 2 → e.k ≠ q.ky) : val G.S h = val X.G.S h := by
  obtain ⟨Ga, qe, Gb, b1, b2, b3, b4, b5, b6, b7⟩ := D.ex
  obtain ⟨z1, z2⟩ := b6 h trivial h2 h3
  obtain ⟨u1, u2⟩ := b7 h h1 h2 z1
  have u2 := u2.resolve_left fun ⟨x1, y, hy, e1, e2⟩ => h4 y hy e1 (b3.1.trans x1) (e2.trans b3.2.1.symm)
  obtain ⟨v1, v2⟩ := b5 h h1 h2 u1
  exact z2.trans (u2.trans v2)
end Go.Proofs.YtjggeoghlicmdaaGreat
