/-
  Written by merge.py: LruQ LruDo LruDo2 LruStep LruStep2 LruBegin LruAlone LruMem LruMem2 LruMem3 LruRunP LruRunP2 LruRunP3 LruRunP4 LruRunP5 LruOp LruOp2 LruOp3 LruMade LruView LruAgeP LruUse
-/
import Derived.Test.YtjggeoghlicmdaaGreatGraceDo
import Derived.Test.YtjggeoghlicmdaaGreatLock
import Derived.Test.YtjggeoghlicmdaaGreatVcLr
import Derived.Test.YtjggeoghlicmdaaGreatVcLa
import Derived.Test.YtjggeoghlicmdaaGreatGraceP0
import Derived.Test.YtjggeoghlicmdaaGreatDeclM
/-
  A run of an lru map as a machine: its numbers, what is next, what a step does (no program in sight).
-/
namespace Go.Proofs.YtjggeoghlicmdaaGreat
open Go Go.AS Go.RowKit
set_option linter.unusedVariables false

/-- What is asked of each key. -/
inductive Ask where
  | key | near | room
/-- What comes behind a store. -/
inductive KS where
  | upd | takeEnd | delEnd | used | layVal (k : KS) | layYoung (k : KS) | layGive (k : KS) | abs1 | absLay (last : Int) | absDef (last : Int) | head (h : Int) (k : KS) | away | begin | room
/-- What comes behind a load. -/
inductive KL where
  | walkAt (a : Ask) | walkKey (a : Ask) | look | take | count | unl (k : KS) | young (h : Int) (k : KS)
/-- One who takes a lock: its ticket, how far it is. -/
structure Tk where
  b : Nat
  t : BitVec 64
  ph : Nat
inductive Nx where
  | none | enter (t : Tk) (k : KS) | load (h i : Int) (k : KL) | store (h i : Int) (w : BitVec 64) (k : KS) | more (w : BitVec 64) | drop

/-- A map: its block, its memory, its grace, its declaration, its region. -/
structure Lc where
  x : Nat
  m : Nat
  g : Nat
  d0 : Int
  d1 : Int
  d2 : Int
  d3 : Int
  d4 : Int
  h : Int
  /-- (no cell of it) the room, if there is no element -/
  cap : Int

structure Qr where
  kd : Int
  ky : BitVec 64
  fl : Int
  cpu : Int
  val : BitVec 64
  no : Int
  rv : List (BitVec 64)
  rk : BitVec 64
  el : Int
  nx : Nx
  eff : Bool
  dn : Bool
  st : Bool
  ah : Int
  ai : Int
  bh : Int
  bi : Int
  cur : Int
  made : Int
  best : BitVec 64
  any : Bool
  vb : Option Nat
  keys : List (BitVec 64)

def Qr.give (q : Qr) (no : Int) (rv : List (BitVec 64)) (rk : BitVec 64) (el : Int) : Qr := { q with no := no, rv := rv, rk := rk, el := el, eff := true }
def Qr.away (q : Qr) : Qr := if q.st then { q with dn := true } else { q with nx := .drop }
def Qr.fail (q : Qr) (e : Int) : Qr := (q.give e [] 0 0).away
def Qr.load (q : Qr) (h i : Int) (k : KL) : Qr := { q with nx := .load h i k }
def Qr.store (q : Qr) (h i : Int) (w : BitVec 64) (k : KS) : Qr := { q with nx := .store h i w k }
def Qr.more (q : Qr) (w : BitVec 64) : Qr := { q with nx := .more w }
def Qr.on (q : Qr) (a : Ask) : Qr := q.load q.ah q.ai (.walkAt a)
def Qr.walk (c : Lc) (q : Qr) (a : Ask) : Qr := { q with ah := c.h, ai := 2 }.on a
def Qr.begin (c : Lc) (q : Qr) : Qr := if q.kd = 4 then q.walk c .near else q.walk c .key
def Qr.young (c : Lc) (q : Qr) (h : Int) (k : KS) : Qr := q.load c.h 2 (.young h k)
def Qr.unlink (q : Qr) (k : KS) : Qr := q.load q.cur 2 (.unl k)
def Qr.used (c : Lc) (q : Qr) : Qr := if q.ah = c.h ∧ q.ai = 2 then q.away else q.unlink .used
def Qr.lay (q : Qr) (k : KS) : Qr := q.store q.made 0 q.ky (.layVal k)
def Qr.found (q : Qr) : Qr :=
  if q.kd = 2 then if q.fl = 1 then q.fail 3 else q.store q.cur 1 q.val .upd
  else if q.kd = 1 then q.load q.cur 1 .look else if q.kd = 5 then q.load q.cur 1 .take else q.unlink .delEnd
def Qr.absent (c : Lc) (q : Qr) : Qr := if q.kd ≠ 2 ∨ q.fl = 2 then q.fail 2 else q.load c.h 3 .count
def Qr.nearer (q : Qr) (k : BitVec 64) : Qr :=
  if (q.fl = 1 ∨ q.ky.toNat < k.toNat) ∧ (q.any = false ∨ k.toNat < q.best.toNat) then { q with best := k, any := true } else q
def Qr.nearest (q : Qr) : Qr := if q.any then (q.give 0 [] q.best 0).away else q.fail 2
def Qr.go (q : Qr) (a : Ask) : Qr := { q with bh := q.ah, bi := q.ai, ah := q.cur, ai := 2 }.on a

def ones : BitVec 64 := BitVec.allOnes 64
abbrev Gr.mem (G : Gr) (S : Sm) : Gr := { G with S := S }

def doKS (c : Lc) : KS → Qr → Gr → Nat → Qr × Gr
  | .upd, q, G, _ => ((q.give 0 [] 0 0).used c, G)
  | .takeEnd, q, G, b => (q.more ones, (G.defer q.cur b).2)
  | .delEnd, q, G, b => ((q.give 0 [] 0 0).more ones, (G.defer q.cur b).2)
  | .used, q, G, _ => (q.young c q.cur .away, G)
  | .layVal k, q, G, _ => (q.store q.made 1 q.val (.layYoung k), G)
  | .layYoung k, q, G, _ => (q.young c q.made (.layGive k), G)
  | .layGive k, q, G, b => doKS c k (q.give 0 [] 0 0) G b
  | .abs1, q, G, _ => (q.more 1, G)
  | .absLay last, q, G, _ => (q.lay (.absDef last), G)
  | .absDef last, q, G, b => (q.away, (G.defer last b).2)
  | .head h k, q, G, _ => (q.store c.h 2 (BitVec.ofInt 64 h) k, G)
  | .away, q, G, _ => (q.away, G)
  | .begin, q, G, _ => (q.begin c, G)
  | .room, q, G, _ => (q.walk c .room, G)

def Qr.stop (c : Lc) (q : Qr) : Ask → Qr
  | .key => q.absent c
  | .near => q.nearest
  | .room => { q.give 0 [] 0 0 with dn := true }

def Qr.count (c : Lc) (q : Qr) (n : BitVec 64) (e h : Int) : Qr :=
  if e ≠ 0 then q.fail 5
  else if n.toNat < (BitVec.ofInt 64 c.d1).toNat then { q with made := h }.lay .abs1
  else { q with made := h }.store q.bh q.bi 0 (.absLay q.ah)

def doKL (c : Lc) : KL → BitVec 64 → Qr → Gr → Nat → Qr × Gr
  | .walkAt a, w, q, G, _ => (if w = 0 then { q with cur := IntKind.i64.wrap w.toNat }.stop c a else { q with cur := IntKind.i64.wrap w.toNat }.load (IntKind.i64.wrap w.toNat) 0 (.walkKey a), G)
  | .walkKey .key, w, q, G, _ => (if w = q.ky then q.found else q.go .key, G)
  | .walkKey .near, w, q, G, _ => ((q.nearer w).go .near, G)
  | .walkKey .room, w, q, G, _ => ({ q with keys := q.keys ++ [w] }.go .room, G)
  | .look, w, q, G, _ => ((q.give 0 [w] 0 q.cur).used c, G)
  | .take, w, q, G, _ => ((q.give 0 [w] 0 0).unlink .takeEnd, G)
  | .count, w, q, G, b => (q.count c w (G.S.make b 3).1.2 (G.S.make b 3).1.1, G.mem (G.S.make b 3).2)
  | .unl k, w, q, G, _ => (q.store q.ah q.ai w k, G)
  | .young h k, w, q, G, _ => (q.store h 2 w (.head h k), G)

def addF (w : BitVec 64) : BitVec 64 → BitVec 64 := fetchF 0 ones w
/-- A step of one who takes the lock: does it have it? -/
def Tk.step (c : Lc) (t : Tk) (S : Sm) : Bool × Tk × Sm :=
  if t.ph = 0 then (false, if (S.acc c.h 0 true (addF 1)).1.2 then ⟨t.b, (S.acc c.h 0 true (addF 1)).1.1, 1⟩ else t, (S.acc c.h 0 true (addF 1)).2)
  else if t.ph = 1 then
    if (S.acc c.h 1 true id).1.2 = true ∧ (S.acc c.h 1 true id).1.1 = t.t then (true, { t with ph := 2 }, (S.acc c.h 1 true id).2) else (false, t, (S.acc c.h 1 true id).2)
  else (true, t, S)

def doNx (c : Lc) : Nx → Qr → Gr → Nat → Qr × Gr
  | .none, q, G, _ => (q, G)
  | .enter t k, q, G, b =>
    if (t.step c G.S).1 then doKS c k { q with nx := .enter (t.step c G.S).2.1 k } (G.mem (t.step c G.S).2.2) b
    else ({ q with nx := .enter (t.step c G.S).2.1 k }, G.mem (t.step c G.S).2.2)
  | .load h i k, q, G, b => doKL c k (G.S.acc h i true id).1.1 q (G.mem (G.S.acc h i true id).2) b
  | .store h i w k, q, G, b => doKS c k q (G.mem (G.S.acc h i true fun _ => w).2) b
  | .more w, q, G, _ => (q.away, G.mem (G.S.acc c.h 3 true (addF w)).2)
  | .drop, q, G, _ => ({ q with dn := true }, G.mem (G.S.acc c.h 1 true (addF 1)).2)

/-- A step of a run. -/
def Qr.step (c : Lc) (q : Qr) (G : Gr) (b : Nat) : Qr × Gr := if q.dn then (q, G) else doNx c q.nx { q with eff := false } G b
/-- What it tells: an effect, done. -/
def Qr.tells (q : Qr) (q' : Qr) : Bool × Bool := if q.dn then (false, true) else (q'.eff, q'.dn)
/-- A run that begins. -/
def Qr.new (kd : Int) (ky : BitVec 64) (fl cpu : Int) (val : BitVec 64) (b : Nat) : Qr :=
  ⟨kd, ky, fl, cpu, val, 0, [], 0, 0, .enter ⟨b, 0, 0⟩ .begin, false, false, false, 0, 0, 0, 0, 0, 0, 0, false, none, []⟩
end Go.Proofs.YtjggeoghlicmdaaGreat

/-
  Runs of an lru map in memory: the steps that a run knows, as closures; what its functions do.
-/
namespace Go.Proofs.YtjggeoghlicmdaaGreat
open Go Go.AS Go.RowKit
set_option linter.unusedVariables false
variable {H H' : Heap} {R K : Value → Heap → Prop} {L PL PL' : List Asr} {r : Nat} {c : Lc}

/-! ### A pool of blocks that stay -/
theorem pool_ins (As : List Asr) (h : Sep H (As ++ many PL :: L)) : Sep H (many (As ++ PL) :: L) := by
  have h1 : Sep H (many PL :: (As ++ L)) := h.perm List.perm_middle
  refine Sep.many_iff.2 ((Sep.many_iff.1 h1).perm ?_)
  rw [List.append_assoc]
  exact List.perm_append_comm_assoc PL As L
theorem pld {g o z k : Nat} {w : Bool} {cs : List Value} {v : Value} (h : Sep H L) (hk : L[k]? = some (many PL)) (hm : bx g (.cells w z cs) ∈ PL) (hv : cs[o]? = some v) : H.cell g o = some v :=
  (cell_of (h.one k hk _ hm) o).trans hv
theorem plds {g o z k n : Nat} {w : Bool} {cs v : List Value} (h : Sep H L) (hk : L[k]? = some (many PL)) (hm : bx g (.cells w z cs) ∈ PL) (hv : takeAt cs o n = some v) : H.cellsAt g o n = some v := by
  have hg : H.get g = some (.cells w z cs) := h.one k hk _ hm
  unfold Heap.cellsAt; rw [hg]; exact hv
abbrev b1 (g : Nat) (v : Value) : Asr := bx g (.cells true 0 [v])
theorem sub_r {A B : List Asr} (h : ∀ x ∈ A, x ∈ B) (As : List Asr) : ∀ x ∈ A, x ∈ As ++ B := fun x hx => List.mem_append_right _ (h x hx)
theorem sub_t {A B C : List Asr} (h : ∀ x ∈ A, x ∈ B) (k : ∀ x ∈ B, x ∈ C) : ∀ x ∈ A, x ∈ C := fun x hx => k x (h x hx)

/-! ### The memory and its grace, as one thing owned -/
structure Gx where
  G : Gr
  b : Option Nat
  junk : List Value
  hb : b = none → G.q = []
  hj : b = none → junk = []
abbrev Gx.rest (g m : Nat) (X : Gx) : List Asr := [bx g (.cells true 0 [P m, I X.G.n, .map (some X.G.mi), .slice (addr X.b) X.G.q.length 0]), im .i64 X.G.mi (kset X.G.ins), gl 2 X.b (rows X.G.q ++ X.junk), wm X.G.q]
def grA (g m : Nat) (X : Gx) : Asr := many (mem m X.G.S :: X.rest g m)
def Gx.to (X : Gx) (S : Sm) : Gx := ⟨X.G.mem S, X.b, X.junk, X.hb, X.hj⟩
theorem gr_out {g m : Nat} {X : Gx} (h : Sep H (grA g m X :: L)) : Sep H (mem m X.G.S :: (X.rest g m ++ L)) := Sep.many_iff.1 h
theorem gr_in {g m : Nat} {X : Gx} {S : Sm} (h : Sep H (mem m S :: (X.rest g m ++ L))) : Sep H (grA g m (X.to S) :: L) := Sep.many_iff.2 h
theorem gr_isG {g m : Nat} {X : Gx} (h : Sep H (grA g m X :: L)) : IsG H g m X.G L :=
  ⟨X.b, X.junk, X.hb, X.hj, Sep.pick (gr_out h) 5 [1, 2, 3, 4, 0] (by decide)⟩
theorem isG_gr {g m : Nat} {G : Gr} (h : IsG H g m G L) : ∃ X : Gx, X.G = G ∧ Sep H (grA g m X :: L) := by
  obtain ⟨b, junk, hb, hj, hs⟩ := h.ex
  refine ⟨⟨G, b, junk, hb, hj⟩, rfl, Sep.many_iff.2 ?_⟩
  exact Sep.pick hs 5 [4, 0, 1, 2, 3] (by decide)

theorem gload_s {g m : Nat} {X : Gx} {a i : Int} (h : Sep H (grA g m X :: L))
    (hR : ∀ H', Sep H' (grA g m (X.to (X.G.S.acc a i true id).2) :: L) → R (.tuple #[W (X.G.S.acc a i true id).1.1, .bool (X.G.S.acc a i true id).1.2]) H') : CA en F.smem_Mem_Load [P m, I a, I i] H R :=
  load_s (gr_out h) fun H' h' => hR H' (gr_in h')
theorem gstore_s {g m : Nat} {X : Gx} {a i : Int} {v : BitVec 64} (h : Sep H (grA g m X :: L))
    (hR : ∀ H', Sep H' (grA g m (X.to (X.G.S.acc a i true fun _ => v).2) :: L) → R (.bool (X.G.S.acc a i true fun _ => v).1.2) H') : CA en F.smem_Mem_Store [P m, I a, I i, W v] H R :=
  store_s (gr_out h) fun H' h' => hR H' (gr_in h')
theorem gadd_s {g m : Nat} {X : Gx} {a i : Int} {v : BitVec 64} (h : Sep H (grA g m X :: L))
    (hR : ∀ H', Sep H' (grA g m (X.to (X.G.S.acc a i true (addF v)).2) :: L) → R (.tuple #[W (X.G.S.acc a i true (addF v)).1.1, .bool (X.G.S.acc a i true (addF v)).1.2]) H') : CA en F.smem_Mem_Fetch [P m, I a, I i, I 0, .int .u64 18446744073709551615, W v] H R := by
  rw [all_ones]
  exact fetch_s (gr_out h) fun H' h' => hR H' (gr_in h')
theorem gmore_s {g m : Nat} {X : Gx} {a i : Int} (h : Sep H (grA g m X :: L))
    (hR : ∀ H', Sep H' (grA g m (X.to (X.G.S.acc a i true (addF 1)).2) :: L) → R (.tuple #[W (X.G.S.acc a i true (addF 1)).1.1, .bool (X.G.S.acc a i true (addF 1)).1.2]) H') : CA en F.lock_more [P m, I a, I i] H R := by
  apply vc_lock_more
  exact gadd_s (v := 1) h fun H' h' => ⟨_, _, rfl, hR H' h'⟩
theorem gmake_s {g m : Nat} {X : Gx} {n : Int} (h : Sep H (grA g m X :: L)) (hf : X.G.S.find (wr (X.G.S.made + 1)) = none)
    (hR : ∀ H' b, Sep H' (grA g m (X.to (X.G.S.make b n).2) :: L) → R (.tuple #[I (X.G.S.make b n).1.1, I (X.G.S.make b n).1.2]) H') : CA en F.smem_Mem_Make [P m, I n] H R :=
  make_s (gr_out h) (fun _ _ _ => hf) fun H' b h' => hR H' b (gr_in h')
theorem gdefer_s {g m : Nat} {X : Gx} {a : Int} (h : Sep H (grA g m X :: L)) (hl : X.G.q.length < 10000)
    (hR : ∀ H' X' mb f n, X'.G = (X.G.defer a mb).2 → Sep H' (grA g m X' :: L) → R (.slice f n 0) H') : CA en F.grace_Grace_Defer [P g, I a] H R :=
  defer_s (gr_isG h) hl fun H' f mb _ h' => by
    obtain ⟨X', e, h2⟩ := isG_gr h'
    exact hR H' X' mb _ _ e (Sep.rm1 h2)

/-! ### A run's values -/
inductive AskV (PL : List Asr) (r : Nat) : Ask → Value → Prop where
  | key {g : Nat} (h : b1 g (P r) ∈ PL) : AskV PL r .key (.func (.func F.lru_Run_begin_1) #[] #[P g])
  | near : AskV PL r .near (.func (.func F.lru_Run_nearer) #[P r] #[])
inductive EndV (PL : List Asr) (r : Nat) : Ask → Value → Prop where
  | key : EndV PL r .key (.func (.func F.lru_Run_absent) #[P r] #[])
  | near : EndV PL r .near (.func (.func F.lru_Run_nearest) #[P r] #[])
inductive SV (PL : List Asr) (r : Nat) : KS → Value → Prop where
  | upd {g : Nat} (h : b1 g (P r) ∈ PL) : SV PL r .upd (.func (.func F.lru_Run_found_1) #[] #[P g])
  | takeEnd {g : Nat} (h : b1 g (P r) ∈ PL) : SV PL r .takeEnd (.func (.func F.lru_Run_found_3_1) #[] #[P g])
  | delEnd {g : Nat} (h : b1 g (P r) ∈ PL) : SV PL r .delEnd (.func (.func F.lru_Run_found_4) #[] #[P g])
  | used {g : Nat} (h : b1 g (P r) ∈ PL) : SV PL r .used (.func (.func F.lru_Run_used_1) #[] #[P g])
  | layVal {g g2 : Nat} {k : KS} {v : Value} (h : b1 g (P r) ∈ PL) (h2 : b1 g2 v ∈ PL) (hk : SV PL r k v) : SV PL r (.layVal k) (.func (.func F.lru_Run_lay_1) #[] #[P g, P g2])
  | layYoung {g g2 : Nat} {k : KS} {v : Value} (h : b1 g (P r) ∈ PL) (h2 : b1 g2 v ∈ PL) (hk : SV PL r k v) : SV PL r (.layYoung k) (.func (.func F.lru_Run_lay_1_1) #[] #[P g, P g2])
  | layGive {g g2 : Nat} {k : KS} {v : Value} (h : b1 g (P r) ∈ PL) (h2 : b1 g2 v ∈ PL) (hk : SV PL r k v) : SV PL r (.layGive k) (.func (.func F.lru_Run_lay_1_1_1) #[] #[P g, P g2])
  | abs1 {g : Nat} (h : b1 g (P r) ∈ PL) : SV PL r .abs1 (.func (.func F.lru_Run_absent_1_1) #[] #[P g])
  | absLay {g g2 : Nat} {last : Int} (h : b1 g (P r) ∈ PL) (h2 : b1 g2 (I last) ∈ PL) : SV PL r (.absLay last) (.func (.func F.lru_Run_absent_1_2) #[] #[P g, P g2])
  | absDef {g g2 : Nat} {last : Int} (h : b1 g (P r) ∈ PL) (h2 : b1 g2 (I last) ∈ PL) : SV PL r (.absDef last) (.func (.func F.lru_Run_absent_1_2_1) #[] #[P g, P g2])
  | head {g g2 g3 : Nat} {a : Int} {k : KS} {v : Value} (h : b1 g (P r) ∈ PL) (h2 : b1 g2 (I a) ∈ PL) (h3 : b1 g3 v ∈ PL) (hk : SV PL r k v) : SV PL r (.head a k) (.func (.func F.lru_Run_youngest_1_1) #[] #[P g, P g2, P g3])
  | away : SV PL r .away (.func (.func F.lru_Run_away) #[P r] #[])
  | begin : SV PL r .begin (.func (.func F.lru_Run_begin) #[P r] #[])
abbrev onV (g0 g1 g2 g3 : Nat) : Value := .func (.func F.lru_Run_walk_1) #[] #[P g0, P g1, P g2, P g3]
/-- What a walk has captured: the run, the end, the question, itself. -/
structure Wk (PL : List Asr) (r : Nat) (a : Ask) (g0 g1 g2 g3 : Nat) : Prop where
  run : b1 g0 (P r) ∈ PL
  stop : ∃ v, b1 g1 v ∈ PL ∧ EndV PL r a v
  ask : ∃ v, b1 g2 v ∈ PL ∧ AskV PL r a v
  on : b1 g3 (onV g0 g1 g2 g3) ∈ PL
inductive LV (PL : List Asr) (r : Nat) : KL → Value → Prop where
  | walkAt {a : Ask} {g0 g1 g2 g3 : Nat} (h : Wk PL r a g0 g1 g2 g3) : LV PL r (.walkAt a) (.func (.func F.lru_Run_walk_1_1) #[] #[P g0, P g1, P g2, P g3])
  | walkKey {a : Ask} {g0 g1 g2 g3 : Nat} (h : Wk PL r a g0 g1 g2 g3) : LV PL r (.walkKey a) (.func (.func F.lru_Run_walk_1_1_1) #[] #[P g2, P g0, P g3])
  | look {g : Nat} (h : b1 g (P r) ∈ PL) : LV PL r .look (.func (.func F.lru_Run_found_2) #[] #[P g])
  | take {g : Nat} (h : b1 g (P r) ∈ PL) : LV PL r .take (.func (.func F.lru_Run_found_3) #[] #[P g])
  | count {g : Nat} (h : b1 g (P r) ∈ PL) : LV PL r .count (.func (.func F.lru_Run_absent_1) #[] #[P g])
  | unl {g g2 : Nat} {k : KS} {v : Value} (h : b1 g (P r) ∈ PL) (h2 : b1 g2 v ∈ PL) (hk : SV PL r k v) : LV PL r (.unl k) (.func (.func F.lru_Run_unlink_1) #[] #[P g, P g2])
  | young {g g2 g3 : Nat} {a : Int} {k : KS} {v : Value} (h : b1 g (P r) ∈ PL) (h2 : b1 g2 (I a) ∈ PL) (h3 : b1 g3 v ∈ PL) (hk : SV PL r k v) : LV PL r (.young a k) (.func (.func F.lru_Run_youngest_1) #[] #[P g, P g2, P g3])
inductive NV (PL : List Asr) (r : Nat) : Nx → Value → Prop where
  | none {v : Value} : NV PL r .none v
  | enter {g g2 : Nat} {t : Tk} {k : KS} {v : Value} (h : b1 g (P t.b) ∈ PL) (h2 : b1 g2 v ∈ PL) (hk : SV PL r k v) : NV PL r (.enter t k) (.func (.func F.lru_Run_enter_1) #[] #[P g, P g2])
  | load {g g2 g3 : Nat} {a i : Int} {k : KL} {v : Value} (h : b1 g (P r) ∈ PL) (h2 : bx g2 (.cells true 0 [I a, I i]) ∈ PL) (h3 : b1 g3 v ∈ PL) (hk : LV PL r k v) : NV PL r (.load a i k) (.func (.func F.lru_Run_load_1) #[] #[P g, P g2, P g3])
  | store {g g2 g3 g4 : Nat} {a i : Int} {w : BitVec 64} {k : KS} {v : Value} (h : b1 g (P r) ∈ PL) (h2 : bx g2 (.cells true 0 [I a, I i]) ∈ PL) (h3 : b1 g3 (W w) ∈ PL) (h4 : b1 g4 v ∈ PL) (hk : SV PL r k v) : NV PL r (.store a i w k) (.func (.func F.lru_Run_store_1) #[] #[P g, P g2, P g3, P g4])
  | more {g g2 : Nat} {w : BitVec 64} (h : b1 g (P r) ∈ PL) (h2 : b1 g2 (W w) ∈ PL) : NV PL r (.more w) (.func (.func F.lru_Run_more_1) #[] #[P g, P g2])
  | drop {g : Nat} (h : b1 g (P r) ∈ PL) : NV PL r .drop (.func (.func F.lru_Run_away_1) #[] #[P g])

theorem AskV.mono (hp : ∀ A ∈ PL, A ∈ PL') {a : Ask} {v : Value} (h : AskV PL r a v) : AskV PL' r a v := by
  cases h with
  | key h => exact .key (hp _ h)
  | near => exact .near
theorem EndV.mono {a : Ask} {v : Value} (h : EndV PL r a v) : EndV PL' r a v := by
  cases h with
  | key => exact .key
  | near => exact .near
theorem SV.mono (hp : ∀ A ∈ PL, A ∈ PL') {k : KS} {v : Value} (h : SV PL r k v) : SV PL' r k v := by
  induction h with
  | upd h => exact .upd (hp _ h)
  | takeEnd h => exact .takeEnd (hp _ h)
  | delEnd h => exact .delEnd (hp _ h)
  | used h => exact .used (hp _ h)
  | layVal h h2 _ ih => exact .layVal (hp _ h) (hp _ h2) ih
  | layYoung h h2 _ ih => exact .layYoung (hp _ h) (hp _ h2) ih
  | layGive h h2 _ ih => exact .layGive (hp _ h) (hp _ h2) ih
  | abs1 h => exact .abs1 (hp _ h)
  | absLay h h2 => exact .absLay (hp _ h) (hp _ h2)
  | absDef h h2 => exact .absDef (hp _ h) (hp _ h2)
  | head h h2 h3 _ ih => exact .head (hp _ h) (hp _ h2) (hp _ h3) ih
  | away => exact .away
  | begin => exact .begin
theorem Wk.mono (hp : ∀ A ∈ PL, A ∈ PL') {a : Ask} {g0 g1 g2 g3 : Nat} (h : Wk PL r a g0 g1 g2 g3) : Wk PL' r a g0 g1 g2 g3 := by
  obtain ⟨v, h1, h2⟩ := h.stop
  obtain ⟨w, h3, h4⟩ := h.ask
  exact ⟨hp _ h.run, ⟨v, hp _ h1, h2.mono⟩, ⟨w, hp _ h3, h4.mono hp⟩, hp _ h.on⟩
theorem LV.mono (hp : ∀ A ∈ PL, A ∈ PL') {k : KL} {v : Value} (h : LV PL r k v) : LV PL' r k v := by
  cases h with
  | walkAt h => exact .walkAt (h.mono hp)
  | walkKey h => exact .walkKey (h.mono hp)
  | look h => exact .look (hp _ h)
  | take h => exact .take (hp _ h)
  | count h => exact .count (hp _ h)
  | unl h h2 hk => exact .unl (hp _ h) (hp _ h2) (hk.mono hp)
  | young h h2 h3 hk => exact .young (hp _ h) (hp _ h2) (hp _ h3) (hk.mono hp)
theorem NV.mono (hp : ∀ A ∈ PL, A ∈ PL') {n : Nx} {v : Value} (h : NV PL r n v) : NV PL' r n v := by
  cases h with
  | none => exact .none
  | enter h h2 hk => exact .enter (hp _ h) (hp _ h2) (hk.mono hp)
  | load h h2 h3 hk => exact .load (hp _ h) (hp _ h2) (hp _ h3) (hk.mono hp)
  | store h h2 h3 h4 hk => exact .store (hp _ h) (hp _ h2) (hp _ h3) (hp _ h4) (hk.mono hp)
  | more h h2 => exact .more (hp _ h) (hp _ h2)
  | drop h => exact .drop (hp _ h)
theorem SV.fn {k : KS} {v : Value} (h : SV PL r k v) : ∃ f l cs, v = .func (.func f) ⟨l⟩ ⟨cs⟩ := by cases h <;> exact ⟨_, _, _, rfl⟩
theorem LV.fn {k : KL} {v : Value} (h : LV PL r k v) : ∃ f l cs, v = .func (.func f) ⟨l⟩ ⟨cs⟩ := by cases h <;> exact ⟨_, _, _, rfl⟩
theorem AskV.fn {k : Ask} {v : Value} (h : AskV PL r k v) : ∃ f l cs, v = .func (.func f) ⟨l⟩ ⟨cs⟩ := by cases h <;> exact ⟨_, _, _, rfl⟩
theorem EndV.fn {k : Ask} {v : Value} (h : EndV PL r k v) : ∃ f l cs, v = .func (.func f) ⟨l⟩ ⟨cs⟩ := by cases h <;> exact ⟨_, _, _, rfl⟩

/-- The words that a run tells. -/
def RV (PL : List Asr) (ws : List (BitVec 64)) (sa : Option Addr) : Prop :=
  (ws = [] ∧ sa = none) ∨ ∃ b w, ws = [w] ∧ sa = some ⟨b, 0, none⟩ ∧ bx b (.cells true 1 [W w]) ∈ PL
theorem RV.mono (hp : ∀ A ∈ PL, A ∈ PL') {ws : List (BitVec 64)} {sa : Option Addr} (h : RV PL ws sa) : RV PL' ws sa :=
  h.imp_right fun ⟨b, w, h1, h2, h3⟩ => ⟨b, w, h1, h2, hp _ h3⟩

abbrev rA (r : Nat) (c : Lc) (q : Qr) (sa : Option Addr) (v : Value) : Asr :=
  bx r (.cells true 0 [P c.x, I q.kd, W q.ky, .slice none 0 0, I q.fl, I q.cpu, W q.val, I q.no, .slice sa q.rv.length 0, W q.rk, I q.el, v, .bool q.eff, .bool q.dn, .bool q.st, I q.ah, I q.ai, I q.bh, I q.bi, I q.cur, I q.made, W q.best, .bool q.any])
abbrev xA (c : Lc) : Asr := bx c.x (.cells true 0 [P c.m, P c.g, I c.d0, I c.d1, I c.d2, I c.d3, I c.d4, I c.h])
def tkF (ph : Nat) : Nat := if ph = 0 then F.lock_Taker_draw else if ph = 1 then F.lock_Taker_wait else F.lock_Taker_got
abbrev tkA (c : Lc) (t : Tk) : Asr := bx t.b (.cells true 0 [P c.m, I c.h, I 0, W t.t, .func (.func (tkF t.ph)) #[P t.b] #[]])
def tkL (c : Lc) : Nx → List Asr
  | .enter t _ => [tkA c t]
  | _ => []
/-- A run in memory. -/
structure Rk (H : Heap) (PL : List Asr) (r : Nat) (c : Lc) (q : Qr) (X : Gx) (L : List Asr) : Prop where
  ex : ∃ sa v, RV PL q.rv sa ∧ NV PL r q.nx v ∧ Sep H (rA r c q sa v :: many PL :: xA c :: grA c.g c.m X :: many (tkL c q.nx) :: L)

variable {q : Qr} {X X' : Gx}
theorem dropT {T : List Asr} {A B C D : Asr} (h : Sep H (A :: B :: C :: D :: many T :: L)) : Sep H (A :: B :: C :: D :: many [] :: L) := by
  have h1 : Sep H (many [] :: A :: B :: C :: D :: L) := Sep.many0 (Sep.rm4 h)
  exact Sep.pick h1 5 [1, 2, 3, 4, 0] (by decide)

/-! ### What a run does next -/
theorem rload_s {a i : Int} {k : KL} {v : Value} (h : Rk H PL r c q X L) (hk : LV PL r k v)
    (hR : ∀ H' PL', (∀ A ∈ PL, A ∈ PL') → Rk H' PL' r c (q.load a i k) X L → R undef H') : CA en F.lru_Run_load [P r, .agg #[I a, I i], v] H R := by
  obtain ⟨sa, nv, hrv, hnv, hs⟩ := h.ex
  obtain ⟨f, l, cs, rfl⟩ := hk.fn
  apply vc_lru_Run_load
  refine Sep.nw hs fun i1 H2 h2 => Sep.nw h2 fun i3 H4 h4 => Sep.nw h4 fun i5 H6 h6 => ⟨_, Sep.ld2 h6 rfl, asAddr_in (Sep.st3 h6 (Nat.le_of_ble_eq_true rfl) fun H10 h10 => ?_)⟩
  have hp := sub_r (A := PL) (fun _ h => h) [b1 i5 (.func (.func f) ⟨l⟩ ⟨cs⟩), bx i3 (.cells true 0 [I a, I i]), b1 i1 (P r)]
  refine hR H10 _ hp ⟨sa, _, hrv.mono hp, .load (g := i1) (g2 := i3) (g3 := i5) (by simp) (by simp) (.head _) (hk.mono hp), ?_⟩
  have h11 := pool_ins [_, _, _] (Sep.pick h10 8 [0, 1, 2, 4, 3, 5, 6, 7] (by decide))
  exact dropT (Sep.pick h11 5 [1, 0, 2, 3, 4] (by decide))

theorem rstore_s {a i : Int} {w : BitVec 64} {k : KS} {v : Value} (h : Rk H PL r c q X L) (hk : SV PL r k v)
    (hR : ∀ H' PL', (∀ A ∈ PL, A ∈ PL') → Rk H' PL' r c (q.store a i w k) X L → R undef H') : CA en F.lru_Run_store [P r, .agg #[I a, I i], W w, v] H R := by
  obtain ⟨sa, nv, hrv, hnv, hs⟩ := h.ex
  obtain ⟨f, l, cs, rfl⟩ := hk.fn
  apply vc_lru_Run_store
  refine Sep.nw hs fun i1 H2 h2 => Sep.nw h2 fun i3 H4 h4 => Sep.nw h4 fun i5 H6 h6 => Sep.nw h6 fun i7 H8 h8 => ⟨_, Sep.ld3 h8 rfl, asAddr_in (Sep.st4 h8 (Nat.le_of_ble_eq_true rfl) fun H10 h10 => ?_)⟩
  have hp := sub_r (A := PL) (fun _ h => h) [b1 i7 (.func (.func f) ⟨l⟩ ⟨cs⟩), b1 i5 (W w), bx i3 (.cells true 0 [I a, I i]), b1 i1 (P r)]
  refine hR H10 _ hp ⟨sa, _, hrv.mono hp, .store (g := i1) (g2 := i3) (g3 := i5) (g4 := i7) (by simp) (by simp) (by simp) (.head _) (hk.mono hp), ?_⟩
  have h11 := pool_ins [_, _, _, _] (Sep.pick h10 9 [0, 1, 2, 3, 5, 4, 6, 7, 8] (by decide))
  exact dropT (Sep.pick h11 5 [1, 0, 2, 3, 4] (by decide))

theorem rmore_s {w : BitVec 64} (h : Rk H PL r c q X L)
    (hR : ∀ H' PL', (∀ A ∈ PL, A ∈ PL') → Rk H' PL' r c (q.more w) X L → R undef H') : CA en F.lru_Run_more [P r, W w] H R := by
  obtain ⟨sa, nv, hrv, hnv, hs⟩ := h.ex
  apply vc_lru_Run_more
  refine Sep.nw hs fun i1 H2 h2 => Sep.nw h2 fun i3 H4 h4 => ⟨_, Sep.ld1 h4 rfl, asAddr_in (Sep.st2 h4 (Nat.le_of_ble_eq_true rfl) fun H10 h10 => ?_)⟩
  have hp := sub_r (A := PL) (fun _ h => h) [b1 i3 (W w), b1 i1 (P r)]
  refine hR H10 _ hp ⟨sa, _, hrv.mono hp, .more (g := i1) (g2 := i3) (by simp) (by simp), ?_⟩
  have h11 := pool_ins [_, _] (Sep.pick h10 7 [0, 1, 3, 2, 4, 5, 6] (by decide))
  exact dropT (Sep.pick h11 5 [1, 0, 2, 3, 4] (by decide))

theorem raway_s (h : Rk H PL r c q X L)
    (hR : ∀ H' PL', (∀ A ∈ PL, A ∈ PL') → Rk H' PL' r c q.away X L → R undef H') : CA en F.lru_Run_away [P r] H R := by
  obtain ⟨sa, nv, hrv, hnv, hs⟩ := h.ex
  apply vc_lru_Run_away
  refine Sep.nw hs fun i1 H2 h2 => ⟨_, Sep.ld0 h2 rfl, asAddr_in ⟨_, Sep.ld1 h2 rfl, cond_of (fun e => ?_) fun e => ?_⟩⟩
  · refine ⟨_, Sep.ld0 h2 rfl, asAddr_in (Sep.st1 h2 (Nat.le_of_ble_eq_true rfl) fun H10 h10 => ?_)⟩
    refine hR H10 PL (fun _ h => h) ?_
    have e2 : q.away = { q with dn := true } := if_pos e
    rw [e2]
    exact ⟨sa, nv, hrv, hnv, h10.tail⟩
  · refine ⟨_, Sep.ld0 h2 rfl, asAddr_in (Sep.st1 h2 (Nat.le_of_ble_eq_true rfl) fun H10 h10 => ?_)⟩
    have hp := sub_r (A := PL) (fun _ h => h) [b1 i1 (P r)]
    have e2 : q.away = { q with nx := .drop } := if_neg (by rw [e]; exact Bool.false_ne_true)
    refine hR H10 _ hp ?_
    rw [e2]
    refine ⟨sa, _, hrv.mono hp, .drop (g := i1) (by simp), ?_⟩
    have h11 := pool_ins [_] (Sep.pick h10 6 [0, 2, 1, 3, 4, 5] (by decide))
    exact dropT (Sep.pick h11 5 [1, 0, 2, 3, 4] (by decide))

theorem rgive_s {no el : Int} {rv : List (BitVec 64)} {rk : BitVec 64} {sa : Option Addr} (h : Rk H PL r c q X L) (hv : RV PL rv sa)
    (hR : ∀ H', Rk H' PL r c (q.give no rv rk el) X L → R undef H') : CA en F.lru_Run_give [P r, .agg #[I no, .slice sa rv.length 0, W rk, I el]] H R := by
  obtain ⟨sa', nv, hrv, hnv, hs⟩ := h.ex
  apply vc_lru_Run_give
  refine Sep.nw hs fun i1 H2 h2 => ⟨_, _, _, _, _, Sep.lds0 h2 rfl, asAddr_in (Sep.st1 h2 (Nat.le_of_ble_eq_true rfl) fun H10 h10 => asAddr_in (Sep.st1 h10 (Nat.le_of_ble_eq_true rfl) fun H13 h13 => ?_))⟩
  exact hR H13 ⟨sa, nv, hv, hnv, h13.tail⟩

theorem rfail_s {e : Int} (h : Rk H PL r c q X L)
    (hR : ∀ H' PL', (∀ A ∈ PL, A ∈ PL') → Rk H' PL' r c (q.fail e) X L → R undef H') : CA en F.lru_Run_none [P r, I e] H R := by
  apply vc_lru_Run_none
  refine rgive_s (rv := []) (rk := 0) (sa := none) h (.inl ⟨rfl, rfl⟩) fun H2 h2 => ⟨rfl, ?_⟩
  exact raway_s h2 fun H4 PL' hp h4 => ⟨rfl, hR H4 PL' hp h4⟩

theorem rhead_s (h : Rk H PL r c q X L) (hR : ∀ H', Rk H' PL r c q X L → R (.agg #[I c.h, I 2]) H') : CA en F.lru_Run_head [P r] H R := by
  obtain ⟨sa, nv, hrv, hnv, hs⟩ := h.ex
  apply vc_lru_Run_head
  refine Sep.nw hs fun i1 H2 h2 => asAddr_in ⟨_, Sep.ld1 h2 rfl, asAddr_in ⟨_, Sep.ld3 h2 rfl, Sep.st0 h2 (Nat.le_of_ble_eq_true rfl) fun H9 h9 => ⟨_, _, Sep.lds0 h9 rfl, ?_⟩⟩⟩
  exact hR H9 ⟨sa, nv, hrv, hnv, h9.tail⟩
end Go.Proofs.YtjggeoghlicmdaaGreat

/-
  Runs of an lru map in memory: what the longer functions do.
-/
namespace Go.Proofs.YtjggeoghlicmdaaGreat
open Go Go.AS Go.RowKit
set_option linter.unusedVariables false
variable {H H' : Heap} {R K : Value → Heap → Prop} {L PL PL' : List Asr} {r : Nat} {c : Lc} {q : Qr} {X X' : Gx}

theorem ins2 (As : List Asr) {A : Asr} {M : List Asr} (h : Sep H (As ++ A :: many PL :: M)) : Sep H (A :: many (As ++ PL) :: M) := by
  have h1 : Sep H (As ++ many PL :: A :: M) := h.perm ((List.Perm.swap (many PL) A M).append_left As)
  exact (pool_ins As h1).swap
theorem Rk.bump (h : Rk H PL r c q X L) (n : Nat) : Rk (H.bump n) PL r c q X L := by
  obtain ⟨sa, nv, hrv, hnv, hs⟩ := h.ex
  exact ⟨sa, nv, hrv, hnv, hs.bump n⟩
theorem Rk.box (h : Rk H PL r c q X L) {g : Nat} {v : Value} (hm : b1 g v ∈ PL) : H.cell g 0 = some v := by
  obtain ⟨sa, nv, hrv, hnv, hs⟩ := h.ex
  exact pld (k := 1) hs rfl hm rfl
theorem Rk.ins (As : List Asr) {sa : Option Addr} {nv : Value} (hrv : RV PL q.rv sa) (hnv : NV PL r q.nx nv) (h : Sep H (As ++ rA r c q sa nv :: many PL :: xA c :: grA c.g c.m X :: many (tkL c q.nx) :: L)) : Rk H (As ++ PL) r c q X L :=
  have hp := sub_r (A := PL) (fun _ h => h) As
  ⟨sa, nv, hrv.mono hp, hnv.mono hp, ins2 As h⟩

theorem ryoung_s {a : Int} {k : KS} {v : Value} (h : Rk H PL r c q X L) (hk : SV PL r k v)
    (hR : ∀ H' PL', (∀ A ∈ PL, A ∈ PL') → Rk H' PL' r c (q.young c a k) X L → R undef H') : CA en F.lru_Run_youngest [P r, I a, v] H R := by
  obtain ⟨sa, nv, hrv, hnv, hs⟩ := h.ex
  obtain ⟨f, l, cs, rfl⟩ := hk.fn
  apply vc_lru_Run_youngest
  refine Sep.nw hs fun i1 H2 h2 => Sep.nw h2 fun i3 H4 h4 => Sep.nw h4 fun i5 H6 h6 => ?_
  have hp := sub_r (A := PL) (fun _ h => h) [b1 i5 (.func (.func f) ⟨l⟩ ⟨cs⟩), b1 i3 (I a), b1 i1 (P r)]
  have o6 := (Rk.ins [_, _, _] hrv hnv h6).bump 5
  refine ⟨_, Sep.ld2 (h6.bump 5) rfl, _, Sep.ld2 (h6.bump 5) rfl, rhead_s o6 fun H10 o10 => ⟨_, _, rfl, ?_⟩⟩
  refine rload_s (k := .young a k) o10 (.young (g := i1) (g2 := i3) (g3 := i5) (by simp) (by simp) (.head _) (hk.mono hp)) fun H14 PL' hp' o14 => ⟨rfl, ⟨hR H14 PL' (sub_t hp hp') o14, ⟨⟨_, Sep.ld2 (h6.bump 5) rfl, rfl⟩, ⟨_, o10.box (by simp), rfl⟩, trivial⟩, trivial⟩⟩

theorem runlink_s {k : KS} {v : Value} (h : Rk H PL r c q X L) (hk : SV PL r k v)
    (hR : ∀ H' PL', (∀ A ∈ PL, A ∈ PL') → Rk H' PL' r c (q.unlink k) X L → R undef H') : CA en F.lru_Run_unlink [P r, v] H R := by
  obtain ⟨sa, nv, hrv, hnv, hs⟩ := h.ex
  obtain ⟨f, l, cs, rfl⟩ := hk.fn
  apply vc_lru_Run_unlink
  refine Sep.nw hs fun i1 H2 h2 => Sep.nw h2 fun i3 H4 h4 => ?_
  have hp := sub_r (A := PL) (fun _ h => h) [b1 i3 (.func (.func f) ⟨l⟩ ⟨cs⟩), b1 i1 (P r)]
  have o4 := (Rk.ins [_, _] hrv hnv h4).bump 8
  have h5 := h4.bump 8
  refine ⟨_, Sep.ld1 h5 rfl, _, Sep.ld1 h5 rfl, asAddr_in ⟨_, Sep.ld2 h5 rfl, ?_⟩⟩
  refine rload_s (k := .unl k) o4 (.unl (g := i1) (g2 := i3) (by simp) (.head _) (hk.mono hp)) fun H14 PL' hp' o14 => ⟨rfl, ⟨hR H14 PL' (sub_t hp hp') o14, trivial⟩⟩

theorem rlay_s {k : KS} {v : Value} (h : Rk H PL r c q X L) (hk : SV PL r k v)
    (hR : ∀ H' PL', (∀ A ∈ PL, A ∈ PL') → Rk H' PL' r c (q.lay k) X L → R undef H') : CA en F.lru_Run_lay [P r, v] H R := by
  obtain ⟨sa, nv, hrv, hnv, hs⟩ := h.ex
  obtain ⟨f, l, cs, rfl⟩ := hk.fn
  apply vc_lru_Run_lay
  refine Sep.nw hs fun i1 H2 h2 => Sep.nw h2 fun i3 H4 h4 => ?_
  have hp := sub_r (A := PL) (fun _ h => h) [b1 i3 (.func (.func f) ⟨l⟩ ⟨cs⟩), b1 i1 (P r)]
  have o4 := (Rk.ins [_, _] hrv hnv h4).bump 13
  have h5 := h4.bump 13
  refine ⟨_, Sep.ld1 h5 rfl, _, Sep.ld1 h5 rfl, asAddr_in ⟨_, Sep.ld2 h5 rfl, _, Sep.ld1 h5 rfl, asAddr_in ⟨_, Sep.ld2 h5 rfl, ?_⟩⟩⟩
  refine rstore_s (k := .layVal k) o4 (.layVal (g := i1) (g2 := i3) (by simp) (.head _) (hk.mono hp)) fun H14 PL' hp' o14 => ⟨rfl, ⟨hR H14 PL' (sub_t hp hp') o14, trivial⟩⟩

theorem same_sp (a b : Int) : sameN 8 (.agg #[I a, I b]) (.agg #[I a, I b]) = true := by simp [sameN, sameN.sameL]

theorem rused_s (h : Rk H PL r c q X L)
    (hR : ∀ H' PL', (∀ A ∈ PL, A ∈ PL') → Rk H' PL' r c (q.used c) X L → R undef H') : CA en F.lru_Run_used [P r] H R := by
  obtain ⟨sa, nv, hrv, hnv, hs⟩ := h.ex
  apply vc_lru_Run_used
  refine Sep.nw hs fun i1 H2 h2 => ?_
  have hp := sub_r (A := PL) (fun _ h => h) [b1 i1 (P r)]
  have o2 := (Rk.ins [_] hrv hnv h2).bump 7
  have h3 := h2.bump 7
  refine ⟨_, Sep.ld0 h3 rfl, asAddr_in ⟨_, _, Sep.lds1 h3 rfl, _, Sep.ld0 h3 rfl, rhead_s o2 fun H10 o10 => ⟨_, _, rfl, ⟨?_, ?_, ⟨⟨_, Sep.ld0 h3 rfl, rfl⟩, ⟨_, o10.box (by simp), rfl⟩, trivial⟩, trivial⟩⟩⟩⟩
  · refine cond_of (fun e => ⟨_, o10.box (v := P r) (by simp), ?_⟩) fun e => ⟨_, o10.box (v := P r) (by simp), ?_⟩
    · have e' : q.ah = c.h ∧ q.ai = 2 := by simpa using e
      refine raway_s o10 fun H14 PL' hp' o14 => ⟨rfl, hR H14 PL' (sub_t hp hp') ?_⟩
      unfold Qr.used; rw [if_pos e']; exact o14
    · have e' : ¬ (q.ah = c.h ∧ q.ai = 2) := by simpa using e
      refine runlink_s o10 (.used (g := i1) (by simp)) fun H14 PL' hp' o14 => ⟨rfl, hR H14 PL' (sub_t hp hp') ?_⟩
      unfold Qr.used; rw [if_neg e']; exact o14
  · obtain ⟨sa', nv', _, _, hs'⟩ := o10.ex
    exact ⟨⟨_, _, Sep.lds1 h3 rfl, same_sp _ _⟩, ⟨_, _, Sep.lds0 hs' rfl, same_sp _ _⟩, trivial⟩

theorem rfound_s (h : Rk H PL r c q X L)
    (hR : ∀ H' PL', (∀ A ∈ PL, A ∈ PL') → Rk H' PL' r c q.found X L → R undef H') : CA en F.lru_Run_found [P r] H R := by
  obtain ⟨sa, nv, hrv, hnv, hs⟩ := h.ex
  apply vc_lru_Run_found
  refine Sep.nw hs fun i1 H2 h2 => ⟨_, Sep.ld0 h2 rfl, asAddr_in ⟨_, Sep.ld1 h2 rfl, Sep.nw h2 fun i7 H8 h8 => Sep.st0 h8 (Nat.le_of_ble_eq_true rfl) fun H9 h9 => ?_⟩⟩
  have h9 : Sep H9 (bx i7 (.cells true 0 [I q.cur, I 1]) :: b1 i1 (P r) :: rA r c q sa nv :: many PL :: xA c :: grA c.g c.m X :: many (tkL c q.nx) :: L) := h9
  have hp := sub_r (A := PL) (fun _ h => h) [bx i7 (.cells true 0 [I q.cur, I 1]), b1 i1 (P r)]
  have o9 := Rk.ins [_, _] hrv hnv h9
  have hb := h9.bump 8
  refine ⟨_, Sep.ld1 h9 rfl, asAddr_in ⟨_, Sep.ld2 h9 rfl, cond_of (fun e => ?_) fun e => ?_⟩⟩
  · have e : q.kd = 2 := by simpa using e
    refine ⟨_, Sep.ld1 h9 rfl, asAddr_in ⟨_, Sep.ld2 h9 rfl, cond_of (fun d => ?_) fun d => ?_⟩⟩
    · have d : q.fl = 1 := by simpa using d
      refine ⟨_, Sep.ld1 h9 rfl, rfail_s o9 fun H20 PL' hp' o20 => ⟨rfl, hR H20 PL' (sub_t hp hp') ?_⟩⟩
      unfold Qr.found; rw [if_pos e, if_pos d]; exact o20
    · have d : ¬ q.fl = 1 := by simpa using d
      refine ⟨_, Sep.ld1 h9 rfl, asAddr_in ⟨_, Sep.ld2 h9 rfl, cond_yes (by simp [e]) ?_⟩⟩
      refine ⟨_, Sep.ld1 hb rfl, _, _, Sep.lds0 hb rfl, _, Sep.ld1 hb rfl, asAddr_in ⟨_, Sep.ld2 hb rfl, ?_⟩⟩
      refine rstore_s (k := .upd) (o9.bump 8) (.upd (g := i1) (by simp)) fun H20 PL' hp' o20 => ⟨rfl, hR H20 PL' (sub_t hp hp') ?_, trivial⟩
      unfold Qr.found; rw [if_pos e, if_neg d]; exact o20
  · have e : ¬ q.kd = 2 := by simpa using e
    refine ⟨_, Sep.ld1 h9 rfl, asAddr_in ⟨_, Sep.ld2 h9 rfl, cond_no (by simpa using e) ?_⟩⟩
    refine ⟨_, Sep.ld1 h9 rfl, asAddr_in ⟨_, Sep.ld2 h9 rfl, cond_of (fun d => ?_) fun d => ?_⟩⟩
    · have d : q.kd = 1 := by simpa using d
      refine ⟨_, Sep.ld1 h9 rfl, _, _, Sep.lds0 h9 rfl, ?_⟩
      refine rload_s (k := .look) o9 (.look (g := i1) (by simp)) fun H20 PL' hp' o20 => ⟨rfl, hR H20 PL' (sub_t hp hp') ?_⟩
      unfold Qr.found; rw [if_neg e, if_pos d]; exact o20
    · have d : ¬ q.kd = 1 := by simpa using d
      refine ⟨_, Sep.ld1 h9 rfl, asAddr_in ⟨_, Sep.ld2 h9 rfl, cond_of (fun b => ?_) fun b => ?_⟩⟩
      · have b : q.kd = 5 := by simpa using b
        refine ⟨_, Sep.ld1 h9 rfl, _, _, Sep.lds0 h9 rfl, ?_⟩
        refine rload_s (k := .take) o9 (.take (g := i1) (by simp)) fun H20 PL' hp' o20 => ⟨rfl, hR H20 PL' (sub_t hp hp') ?_⟩
        unfold Qr.found; rw [if_neg e, if_neg d, if_pos b]; exact o20
      · have b : ¬ q.kd = 5 := by simpa using b
        refine ⟨_, Sep.ld1 h9 rfl, ?_⟩
        refine runlink_s o9 (.delEnd (g := i1) (by simp)) fun H20 PL' hp' o20 => ⟨rfl, hR H20 PL' (sub_t hp hp') ?_⟩
        unfold Qr.found; rw [if_neg e, if_neg d, if_neg b]; exact o20

theorem rabsent_s (h : Rk H PL r c q X L)
    (hR : ∀ H' PL', (∀ A ∈ PL, A ∈ PL') → Rk H' PL' r c (q.absent c) X L → R undef H') : CA en F.lru_Run_absent [P r] H R := by
  obtain ⟨sa, nv, hrv, hnv, hs⟩ := h.ex
  apply vc_lru_Run_absent
  refine Sep.nw hs fun i1 H2 h2 => ?_
  have hp := sub_r (A := PL) (fun _ h => h) [b1 i1 (P r)]
  have o2 := Rk.ins [_] hrv hnv h2
  have hb := h2.bump 11
  refine ⟨_, Sep.ld0 h2 rfl, asAddr_in ⟨_, Sep.ld1 h2 rfl, cond_of (fun e => ?_) fun e => ?_⟩⟩
  · have e : q.kd ≠ 2 := by simpa using e
    refine ⟨_, Sep.ld0 h2 rfl, rfail_s o2 fun H20 PL' hp' o20 => ⟨rfl, hR H20 PL' (sub_t hp hp') ?_⟩⟩
    unfold Qr.absent; rw [if_pos (.inl e)]; exact o20
  · have e : q.kd = 2 := by simpa using e
    refine ⟨_, Sep.ld0 h2 rfl, asAddr_in ⟨_, Sep.ld1 h2 rfl, cond_of (fun d => ?_) fun d => ?_⟩⟩
    · have d : q.fl = 2 := by simpa using d
      refine ⟨_, Sep.ld0 h2 rfl, rfail_s o2 fun H20 PL' hp' o20 => ⟨rfl, hR H20 PL' (sub_t hp hp') ?_⟩⟩
      unfold Qr.absent; rw [if_pos (.inr d)]; exact o20
    · have d : ¬ q.fl = 2 := by simpa using d
      refine ⟨_, Sep.ld0 hb rfl, _, Sep.ld0 hb rfl, asAddr_in ⟨_, Sep.ld1 hb rfl, asAddr_in ⟨_, Sep.ld3 hb rfl, ?_⟩⟩⟩
      refine rload_s (k := .count) (o2.bump 11) (.count (g := i1) (by simp)) fun H20 PL' hp' o20 => ⟨rfl, hR H20 PL' (sub_t hp hp') ?_, trivial⟩
      unfold Qr.absent; rw [if_neg (by simp only [not_or]; exact ⟨fun h => h e, d⟩)]; exact o20

theorem rnearest_s (h : Rk H PL r c q X L)
    (hR : ∀ H' PL', (∀ A ∈ PL, A ∈ PL') → Rk H' PL' r c q.nearest X L → R undef H') : CA en F.lru_Run_nearest [P r] H R := by
  obtain ⟨sa, nv, hrv, hnv, hs⟩ := h.ex
  apply vc_lru_Run_nearest
  refine asAddr_in ⟨_, Sep.ld0 hs rfl, cond_of (fun e => ?_) fun e => asAddr_in ⟨_, Sep.ld0 hs rfl, ?_⟩⟩
  · have e : ¬ q.any = true := by simpa using e
    refine rfail_s h fun H20 PL' hp' o20 => ⟨rfl, hR H20 PL' hp' ?_⟩
    unfold Qr.nearest; rw [if_neg e]; exact o20
  · have e : q.any = true := by simpa using e
    refine rgive_s (rv := []) (sa := none) h (.inl ⟨rfl, rfl⟩) fun H2 h2 => ⟨rfl, raway_s h2 fun H20 PL' hp' o20 => ⟨rfl, hR H20 PL' hp' ?_⟩⟩
    unfold Qr.nearest; rw [if_pos e]; exact o20

theorem rnearer_s {k : BitVec 64} (h : Rk H PL r c q X L)
    (hR : ∀ H', Rk H' PL r c (q.nearer k) X L → R (.bool false) H') : CA en F.lru_Run_nearer [P r, W k] H R := by
  obtain ⟨sa, nv, hrv, hnv, hs⟩ := h.ex
  apply vc_lru_Run_nearer
  have yes : ((q.fl = 1 ∨ q.ky.toNat < k.toNat) ∧ (q.any = false ∨ k.toNat < q.best.toNat)) → stc H r (0 + 21) [W k] fun H9 => AS.asAddr (P r) fun i10 i11 => stc H9 i10 (i11 + 22) [.bool true] fun H12 => R (.bool false) H12 := fun e =>
    Sep.st0 hs (Nat.le_of_ble_eq_true rfl) fun H9 h9 => asAddr_in (Sep.st0 h9 (Nat.le_of_ble_eq_true rfl) fun H12 h12 => hR H12 (by
      unfold Qr.nearer; rw [if_pos e]
      exact ⟨sa, nv, hrv, hnv, h12⟩))
  have no : ¬ ((q.fl = 1 ∨ q.ky.toNat < k.toNat) ∧ (q.any = false ∨ k.toNat < q.best.toNat)) → R (.bool false) H := fun e => hR H (by
      unfold Qr.nearer; rw [if_neg e]; exact h)
  have inner : (q.fl = 1 ∨ q.ky.toNat < k.toNat) → ∃ b, H.cell r (0 + 22) = some (.bool b) ∧ cond (!b) (AS.asAddr (P r) fun i j => stc H i (j + 21) [W k] fun H9 => AS.asAddr (P r) fun i10 i11 => stc H9 i10 (i11 + 22) [.bool true] fun H12 => R (.bool false) H12)
      (AS.asAddr (P r) fun i j => ∃ n, H.cell i (j + 21) = some (.int .u64 n) ∧ cond (decide ((k.toNat : Int) < n)) (AS.asAddr (P r) fun i j => stc H i (j + 21) [W k] fun H9 => AS.asAddr (P r) fun i10 i11 => stc H9 i10 (i11 + 22) [.bool true] fun H12 => R (.bool false) H12) (R (.bool false) H)) := fun e => by
    refine ⟨_, Sep.ld0 hs rfl, cond_of (fun a => asAddr_in (yes ⟨e, .inl (by simpa using a)⟩)) fun a => asAddr_in ⟨_, Sep.ld0 hs rfl, cond_of (fun b => asAddr_in (yes ⟨e, .inr (by simpa using b)⟩)) fun b => no fun ⟨_, f⟩ => ?_⟩⟩
    have a : q.any = true := by simpa using a
    have b : ¬ k.toNat < q.best.toNat := by simpa using b
    rcases f with f | f
    · rw [a] at f; cases f
    · exact b f
  refine asAddr_in ⟨_, Sep.ld0 hs rfl, cond_of (fun e => asAddr_in (inner (.inl (by simpa using e)))) fun e => asAddr_in ⟨_, Sep.ld0 hs rfl, cond_of (fun d => asAddr_in (inner (.inr (by simpa using d)))) fun d => no fun ⟨f, _⟩ => ?_⟩⟩
  rcases f with f | f
  · exact absurd f (by simpa using e)
  · exact absurd f (by simpa using d)

theorem ron_s {a : Ask} {g0 g1 g2 g3 : Nat} (hw : Wk PL r a g0 g1 g2 g3) (h : Rk H PL r c q X L)
    (hR : ∀ H' PL', (∀ A ∈ PL, A ∈ PL') → Rk H' PL' r c (q.on a) X L → R undef H') : CA en F.lru_Run_walk_1 [P g0, P g1, P g2, P g3] H R := by
  have hb := h.bump 7
  obtain ⟨sa, nv, hrv, hnv, hs⟩ := hb.ex
  apply vc_lru_Run_walk_1
  refine asAddr_in ⟨_, hb.box hw.run, asAddr_in ⟨_, hb.box hw.run, asAddr_in ⟨_, _, Sep.lds0 hs rfl, ?_⟩⟩⟩
  exact rload_s (k := .walkAt a) hb (.walkAt hw) fun H14 PL' hp' o14 => ⟨rfl, ⟨hR H14 PL' hp' o14, trivial⟩⟩

theorem rwalk_s {a : Ask} {va ve : Value} (h : Rk H PL r c q X L) (ha : AskV PL r a va) (he : EndV PL r a ve)
    (hR : ∀ H' PL', (∀ A ∈ PL, A ∈ PL') → Rk H' PL' r c (q.walk c a) X L → R undef H') : CA en F.lru_Run_walk [P r, va, ve] H R := by
  obtain ⟨sa, nv, hrv, hnv, hs⟩ := h.ex
  obtain ⟨f, l, cs, rfl⟩ := ha.fn
  obtain ⟨f', l', cs', rfl⟩ := he.fn
  apply vc_lru_Run_walk
  refine Sep.nw hs fun i1 H2 h2 => Sep.nw h2 fun i3 H4 h4 => Sep.nw h4 fun i5 H6 h6 => ?_
  have hp := sub_r (A := PL) (fun _ h => h) [b1 i5 (.func (.func f') ⟨l'⟩ ⟨cs'⟩), b1 i3 (.func (.func f) ⟨l⟩ ⟨cs⟩), b1 i1 (P r)]
  have o6 := (Rk.ins [_, _, _] hrv hnv h6).bump 6
  have h7 := h6.bump 6
  refine ⟨_, Sep.ld2 h7 rfl, _, Sep.ld2 h7 rfl, rhead_s o6 fun H10 o10 => ⟨_, _, rfl, asAddr_in ?_⟩⟩
  obtain ⟨sa', nv', hrv', hnv', hs'⟩ := o10.ex
  refine Sep.st0 hs' (Nat.le_of_ble_eq_true rfl) fun H15 h15 => ⟨Sep.nw h15 fun i18 H19 h19 => Sep.st0 h19 (Nat.le_of_ble_eq_true rfl) fun H20 h20 => ⟨_, Sep.ld0 h20 rfl, asFn_in ⟨Option.isSome_iff_exists.1 (by kernel_rfl), ?_⟩⟩, ⟨⟨_, Sep.ld2 h7 rfl, rfl⟩, ⟨_, o10.box (by simp), rfl⟩, trivial⟩, trivial⟩
  show CA en F.lru_Run_walk_1 [P i1, P i5, P i3, P i18] H20 _
  have o20 : Rk H20 _ r c { q with ah := c.h, ai := 2 } X L := Rk.ins (q := { q with ah := c.h, ai := 2 }) [b1 i18 (onV i1 i5 i3 i18)] hrv' hnv' h20
  have hp2 := sub_r (A := [b1 i5 (.func (.func f') ⟨l'⟩ ⟨cs'⟩), b1 i3 (.func (.func f) ⟨l⟩ ⟨cs⟩), b1 i1 (P r)] ++ PL) (fun _ h => h) [b1 i18 (onV i1 i5 i3 i18)]
  have hp3 := sub_t hp hp2
  refine ron_s (a := a) ⟨?_, ⟨_, ?_, he.mono⟩, ⟨_, ?_, ha.mono hp3⟩, .head _⟩ o20 fun H14 PL' hp' o14 => ⟨rfl, hR H14 PL' (sub_t hp3 hp') o14⟩
  · exact .tail _ (.tail _ (.tail _ (.head _)))
  · exact .tail _ (.head _)
  · exact .tail _ (.tail _ (.head _))

theorem rbegin_s (h : Rk H PL r c q X L)
    (hR : ∀ H' PL', (∀ A ∈ PL, A ∈ PL') → Rk H' PL' r c (q.begin c) X L → R undef H') : CA en F.lru_Run_begin [P r] H R := by
  obtain ⟨sa, nv, hrv, hnv, hs⟩ := h.ex
  apply vc_lru_Run_begin
  refine Sep.nw hs fun i1 H2 h2 => ?_
  have hp := sub_r (A := PL) (fun _ h => h) [b1 i1 (P r)]
  have o2 := Rk.ins [_] hrv hnv h2
  refine ⟨_, Sep.ld0 h2 rfl, asAddr_in ⟨_, Sep.ld1 h2 rfl, cond_of (fun e => ?_) fun e => ?_⟩⟩
  · have e : q.kd = 4 := by simpa using e
    refine ⟨_, Sep.ld0 h2 rfl, _, Sep.ld0 h2 rfl, _, Sep.ld0 h2 rfl, rwalk_s o2 .near .near fun H20 PL' hp' o20 => ⟨rfl, hR H20 PL' (sub_t hp hp') ?_⟩⟩
    unfold Qr.begin; rw [if_pos e]; exact o20
  · have e : ¬ q.kd = 4 := by simpa using e
    refine ⟨_, Sep.ld0 h2 rfl, _, Sep.ld0 h2 rfl, rwalk_s o2 (.key (g := i1) (by simp)) .key fun H20 PL' hp' o20 => ⟨rfl, hR H20 PL' (sub_t hp hp') ?_⟩⟩
    unfold Qr.begin; rw [if_neg e]; exact o20
end Go.Proofs.YtjggeoghlicmdaaGreat

/-
  Runs of an lru map in memory: what comes behind a load or a store; a step.
-/
namespace Go.Proofs.YtjggeoghlicmdaaGreat
open Go Go.AS Go.RowKit
set_option linter.unusedVariables false
variable {H H' : Heap} {R K : Value → Heap → Prop} {L PL PL' : List Asr} {r : Nat} {c : Lc} {q : Qr} {X X' : Gx}

theorem SV.same {k : KS} {v : Value} (h : SV PL r k v) : sameP v v := by cases h <;> simp [sameP, sameN, sameN.sameL]
theorem rall_s (h : Rk H PL r c q X L)
    (hR : ∀ H' PL', (∀ A ∈ PL, A ∈ PL') → Rk H' PL' r c (q.more ones) X L → R undef H') : CA en F.lru_Run_more [P r, .int .u64 18446744073709551615] H R := by
  rw [all_ones]
  exact rmore_s (w := ones) h hR
theorem rdefer_s {a : Int} (h : Rk H PL r c q X L) (hl : X.G.q.length < 10000)
    (hR : ∀ H' X' mb f n, X'.G = (X.G.defer a mb).2 → Rk H' PL r c q X' L → R (.slice f n 0) H') : CA en F.grace_Grace_Defer [P c.g, I a] H R := by
  obtain ⟨sa, nv, hrv, hnv, hs⟩ := h.ex
  refine gdefer_s (Sep.up3 hs) hl fun H17 X' mb f n e h17 => hR H17 X' mb f n e ⟨sa, nv, hrv, hnv, ?_⟩
  exact Sep.pick h17 5 [1, 2, 3, 0, 4] (by decide)

/-- What comes behind a store. -/
theorem ks_s {k : KS} {v : Value} (hk : SV PL r k v) : ∀ {q : Qr} {X : Gx} {H : Heap} {K : Value → Heap → Prop}, Rk H PL r c q X L → X.G.q.length < 10000 →
    (∀ H' PL' X' b, (∀ A ∈ PL, A ∈ PL') → X'.G = (doKS c k q X.G b).2 → Rk H' PL' r c (doKS c k q X.G b).1 X' L → K undef H') →
    AS.asFn v fun f l cs => (∃ fn, en.fn f = some fn) ∧ CA en f (l ++ [] ++ cs) H K := by
  induction hk with
  | upd hg =>
    intro q X H K h hl hR
    refine asFn_in ⟨Option.isSome_iff_exists.1 (by kernel_rfl), ?_⟩
    show CA en F.lru_Run_found_1 [_] H K
    apply vc_lru_Run_found_1
    refine asAddr_in ⟨_, h.box hg, rgive_s (rv := []) (rk := 0) (sa := none) h (.inl ⟨rfl, rfl⟩) fun H5 h5 => ⟨rfl, asAddr_in ⟨_, h5.box hg, rused_s h5 fun H10 PL' hp o => ⟨rfl, hR H10 PL' X 0 hp rfl o⟩⟩⟩⟩
  | takeEnd hg =>
    intro q X H K h hl hR
    refine asFn_in ⟨Option.isSome_iff_exists.1 (by kernel_rfl), ?_⟩
    show CA en F.lru_Run_found_3_1 [_] H K
    apply vc_lru_Run_found_3_1
    have hb := h.bump 12
    obtain ⟨sa, nv, hrv, hnv, hs⟩ := hb.ex
    refine asAddr_in ⟨_, hb.box hg, asAddr_in ⟨_, Sep.ld0 hs rfl, asAddr_in ⟨_, Sep.ld2 hs rfl, asAddr_in ⟨_, hb.box hg, asAddr_in ⟨_, Sep.ld0 hs rfl, ?_⟩⟩⟩⟩⟩
    refine rdefer_s hb hl fun H17 X' mb f n e o17 => ⟨_, _, rfl, ⟨asAddr_in ⟨_, o17.box hg, rall_s o17 fun H23 PL' hp o => ⟨rfl, hR H23 PL' X' mb hp e o⟩⟩, trivial⟩⟩
  | delEnd hg =>
    intro q X H K h hl hR
    refine asFn_in ⟨Option.isSome_iff_exists.1 (by kernel_rfl), ?_⟩
    show CA en F.lru_Run_found_4 [_] H K
    apply vc_lru_Run_found_4
    refine asAddr_in ⟨_, h.box hg, rgive_s (rv := []) (rk := 0) (sa := none) h (.inl ⟨rfl, rfl⟩) fun H5 h5 => ⟨rfl, ?_⟩⟩
    have hb := h5.bump 12
    obtain ⟨sa, nv, hrv, hnv, hs⟩ := hb.ex
    refine asAddr_in ⟨_, hb.box hg, asAddr_in ⟨_, Sep.ld0 hs rfl, asAddr_in ⟨_, Sep.ld2 hs rfl, asAddr_in ⟨_, hb.box hg, asAddr_in ⟨_, Sep.ld0 hs rfl, ?_⟩⟩⟩⟩⟩
    refine rdefer_s hb hl fun H17 X' mb f n e o17 => ⟨_, _, rfl, ⟨asAddr_in ⟨_, o17.box hg, rall_s o17 fun H23 PL' hp o => ⟨rfl, hR H23 PL' X' mb hp e o⟩⟩, trivial⟩⟩
  | used hg =>
    intro q X H K h hl hR
    refine asFn_in ⟨Option.isSome_iff_exists.1 (by kernel_rfl), ?_⟩
    show CA en F.lru_Run_used_1 [_] H K
    apply vc_lru_Run_used_1
    have hb := h.bump 8
    obtain ⟨sa, nv, hrv, hnv, hs⟩ := hb.ex
    refine asAddr_in ⟨_, hb.box hg, asAddr_in ⟨_, hb.box hg, asAddr_in ⟨_, Sep.ld0 hs rfl, asAddr_in ⟨_, hb.box hg, ?_⟩⟩⟩⟩
    exact ryoung_s (k := .away) hb .away fun H23 PL' hp o => ⟨rfl, ⟨hR H23 PL' X 0 hp rfl o, trivial⟩⟩
  | layVal hg h2 hk ih =>
    intro q X H K h hl hR
    refine asFn_in ⟨Option.isSome_iff_exists.1 (by kernel_rfl), ?_⟩
    show CA en F.lru_Run_lay_1 [_, _] H K
    apply vc_lru_Run_lay_1
    have hb := h.bump 12
    obtain ⟨sa, nv, hrv, hnv, hs⟩ := hb.ex
    refine asAddr_in ⟨_, hb.box hg, asAddr_in ⟨_, hb.box hg, asAddr_in ⟨_, Sep.ld0 hs rfl, asAddr_in ⟨_, hb.box hg, asAddr_in ⟨_, Sep.ld0 hs rfl, ?_⟩⟩⟩⟩⟩
    exact rstore_s hb (.layYoung hg h2 hk) fun H23 PL' hp o => ⟨rfl, ⟨hR H23 PL' X 0 hp rfl o, trivial⟩⟩
  | layYoung hg h2 hk ih =>
    intro q X H K h hl hR
    refine asFn_in ⟨Option.isSome_iff_exists.1 (by kernel_rfl), ?_⟩
    show CA en F.lru_Run_lay_1_1 [_, _] H K
    apply vc_lru_Run_lay_1_1
    have hb := h.bump 7
    obtain ⟨sa, nv, hrv, hnv, hs⟩ := hb.ex
    refine asAddr_in ⟨_, hb.box hg, asAddr_in ⟨_, hb.box hg, asAddr_in ⟨_, Sep.ld0 hs rfl, ?_⟩⟩⟩
    exact ryoung_s hb (.layGive hg h2 hk) fun H23 PL' hp o => ⟨rfl, ⟨hR H23 PL' X 0 hp rfl o, trivial⟩⟩
  | layGive hg h2 hk ih =>
    intro q X H K h hl hR
    refine asFn_in ⟨Option.isSome_iff_exists.1 (by kernel_rfl), ?_⟩
    show CA en F.lru_Run_lay_1_1_1 [_, _] H K
    apply vc_lru_Run_lay_1_1_1
    refine asAddr_in ⟨_, h.box hg, rgive_s (rv := []) (rk := 0) (sa := none) h (.inl ⟨rfl, rfl⟩) fun H5 h5 => ⟨rfl, asAddr_in ⟨_, h5.box h2, ?_⟩⟩⟩
    exact ih h5 hl fun H23 PL' X' b hp e o => ⟨rfl, hR H23 PL' X' b hp e o⟩
  | abs1 hg =>
    intro q X H K h hl hR
    refine asFn_in ⟨Option.isSome_iff_exists.1 (by kernel_rfl), ?_⟩
    show CA en F.lru_Run_absent_1_1 [_] H K
    apply vc_lru_Run_absent_1_1
    exact asAddr_in ⟨_, h.box hg, rmore_s (w := 1) h fun H23 PL' hp o => ⟨rfl, hR H23 PL' X 0 hp rfl o⟩⟩
  | absLay hg h2 =>
    intro q X H K h hl hR
    refine asFn_in ⟨Option.isSome_iff_exists.1 (by kernel_rfl), ?_⟩
    show CA en F.lru_Run_absent_1_2 [_, _] H K
    apply vc_lru_Run_absent_1_2
    exact asAddr_in ⟨_, h.box hg, rlay_s h (.absDef hg h2) fun H23 PL' hp o => ⟨rfl, hR H23 PL' X 0 hp rfl o⟩⟩
  | absDef hg h2 =>
    intro q X H K h hl hR
    refine asFn_in ⟨Option.isSome_iff_exists.1 (by kernel_rfl), ?_⟩
    show CA en F.lru_Run_absent_1_2_1 [_, _] H K
    apply vc_lru_Run_absent_1_2_1
    have hb := h.bump 9
    obtain ⟨sa, nv, hrv, hnv, hs⟩ := hb.ex
    refine asAddr_in ⟨_, hb.box hg, asAddr_in ⟨_, Sep.ld0 hs rfl, asAddr_in ⟨_, Sep.ld2 hs rfl, asAddr_in ⟨_, hb.box h2, ?_⟩⟩⟩⟩
    refine rdefer_s hb hl fun H17 X' mb f n e o17 => ⟨_, _, rfl, ⟨asAddr_in ⟨_, o17.box hg, raway_s o17 fun H23 PL' hp o => ⟨rfl, hR H23 PL' X' mb hp e o⟩⟩, trivial⟩⟩
  | head hg h2 h3 hk ih =>
    intro q X H K h hl hR
    refine asFn_in ⟨Option.isSome_iff_exists.1 (by kernel_rfl), ?_⟩
    show CA en F.lru_Run_youngest_1_1 [_, _, _] H K
    apply vc_lru_Run_youngest_1_1
    have hb := h.bump 7
    refine asAddr_in ⟨_, hb.box hg, asAddr_in ⟨_, hb.box hg, rhead_s hb fun H8 o8 => ⟨_, _, rfl, asAddr_in ⟨_, o8.box h2, asAddr_in ⟨_, o8.box h3, ?_⟩⟩⟩⟩⟩
    rw [wrap_u64]
    refine rstore_s o8 hk fun H23 PL' hp o => ⟨rfl, ⟨hR H23 PL' X 0 hp rfl o, ?_, ?_, ?_, trivial⟩⟩
    · exact ⟨asAddr_in ⟨_, hb.box h3, hk.same⟩, asAddr_in ⟨_, o8.box h3, hk.same⟩, trivial⟩
    · exact ⟨asAddr_in ⟨_, hb.box h2, rfl⟩, asAddr_in ⟨_, o8.box h2, rfl⟩, trivial⟩
    · exact ⟨asAddr_in ⟨_, hb.box hg, rfl⟩, asAddr_in ⟨_, o8.box hg, rfl⟩, trivial⟩
  | away =>
    intro q X H K h hl hR
    refine asFn_in ⟨Option.isSome_iff_exists.1 (by kernel_rfl), ?_⟩
    show CA en F.lru_Run_away [_] H K
    exact raway_s h fun H23 PL' hp o => hR H23 PL' X 0 hp rfl o
  | begin =>
    intro q X H K h hl hR
    refine asFn_in ⟨Option.isSome_iff_exists.1 (by kernel_rfl), ?_⟩
    show CA en F.lru_Run_begin [_] H K
    exact rbegin_s h fun H23 PL' hp o => hR H23 PL' X 0 hp rfl o

/-- The end of a walk. -/
theorem stop_s {a : Ask} {v : Value} (ha : EndV PL r a v) (h : Rk H PL r c q X L)
    (hR : ∀ H' PL', (∀ A ∈ PL, A ∈ PL') → Rk H' PL' r c (q.stop c a) X L → K undef H') :
    AS.asFn v fun f l cs => (∃ fn, en.fn f = some fn) ∧ CA en f (l ++ [] ++ cs) H K := by
  cases ha with
  | key =>
    refine asFn_in ⟨Option.isSome_iff_exists.1 (by kernel_rfl), ?_⟩
    show CA en F.lru_Run_absent [_] H K
    exact rabsent_s h hR
  | near =>
    refine asFn_in ⟨Option.isSome_iff_exists.1 (by kernel_rfl), ?_⟩
    show CA en F.lru_Run_nearest [_] H K
    exact rnearest_s h hR
/-- What is asked of a key. -/
theorem ask_s {a : Ask} {v : Value} {w : BitVec 64} (ha : AskV PL r a v) (h : Rk H PL r c q X L)
    (hR : ∀ H' PL', (∀ A ∈ PL, A ∈ PL') →
      (match a with
       | .key => (w = q.ky ∧ Rk H' PL' r c q.found X L → K (.bool true) H') ∧ (w ≠ q.ky ∧ PL' = PL ∧ Rk H' PL' r c q X L → K (.bool false) H')
       | .near => PL' = PL ∧ Rk H' PL' r c (q.nearer w) X L → K (.bool false) H'
       | .room => True)) :
    AS.asFn v fun f l cs => (∃ fn, en.fn f = some fn) ∧ CA en f (l ++ [W w] ++ cs) H K := by
  cases ha with
  | key hg =>
    refine asFn_in ⟨Option.isSome_iff_exists.1 (by kernel_rfl), ?_⟩
    show CA en F.lru_Run_begin_1 [W w, _] H K
    apply vc_lru_Run_begin_1
    obtain ⟨sa, nv, hrv, hnv, hs⟩ := h.ex
    refine asAddr_in ⟨_, h.box hg, asAddr_in ⟨_, Sep.ld0 hs rfl, ?_⟩⟩
    rw [bv_beq]
    refine cond_of (fun e => asAddr_in ⟨_, h.box hg, ?_⟩) fun e => asAddr_in ⟨_, h.box hg, asAddr_in ⟨_, Sep.ld0 hs rfl, ?_⟩⟩
    · have e : w = q.ky := by simpa using e
      refine rfound_s h fun H11 PL' hp o => ⟨rfl, asAddr_in ⟨_, o.box (hp _ hg), asAddr_in ?_⟩⟩
      obtain ⟨sa', nv', hrv', hnv', hs'⟩ := o.ex
      have ek : q.found.ky = q.ky := by
        unfold Qr.found Qr.fail Qr.away Qr.unlink Qr.load Qr.store Qr.give; split <;> (try split) <;> (try split) <;> rfl
      refine ⟨_, Sep.ld0 hs' rfl, ?_⟩
      rw [ek, bv_beq, e, beq_self_eq_true]
      exact (hR H11 PL' hp).1 ⟨e, o⟩
    · have e : w ≠ q.ky := by simpa using e
      rw [bv_beq, beq_false_of_ne e]
      exact (hR H PL (fun _ h => h)).2 ⟨e, rfl, h⟩
  | near =>
    refine asFn_in ⟨Option.isSome_iff_exists.1 (by kernel_rfl), ?_⟩
    show CA en F.lru_Run_nearer [_, W w] H K
    exact rnearer_s h fun H' o => hR H' PL (fun _ h => h) ⟨rfl, o⟩

/-- A key that is not the one that is looked for: the walk goes on. -/
theorem rgo_s {a : Ask} {g0 g1 g2 g3 : Nat} (hw : Wk PL r a g0 g1 g2 g3) (h : Rk H PL r c q X L)
    (hR : ∀ H' PL', (∀ A ∈ PL, A ∈ PL') → Rk H' PL' r c (q.go a) X L → R undef H') :
    AS.asAddr (P g0) fun i10 i11 => ∃ a12, (H.bump 17).cell i10 i11 = some (.pointer a12) ∧
    AS.asAddr (P g0) fun i13 i14 => ∃ a15, (H.bump 17).cell i13 i14 = some (.pointer a15) ∧
    AS.asAddr (P g0) fun i16 i17 => ∃ a18, (H.bump 17).cell i16 i17 = some (.pointer a18) ∧
    AS.asAddr (.pointer a18) fun i19 i20 => ∃ n21, ∃ n22, (H.bump 17).cellsAt i19 (i20 + 15) 2 = some [I n21, I n22] ∧
    AS.asAddr (P g0) fun i23 i24 => ∃ a25, (H.bump 17).cell i23 i24 = some (.pointer a25) ∧
    AS.asAddr (.pointer a25) fun i26 i27 => ∃ n28, (H.bump 17).cell i26 (i27 + 19) = some (I n28) ∧
    AS.asAddr (.pointer a12) fun i29 i30 => stc (H.bump 17) i29 (i30 + 17) [I n21, I n22] fun H31 =>
    AS.asAddr (.pointer a15) fun i32 i33 => stc H31 i32 (i33 + 15) [I n28, I 2] fun H34 => (
      (AS.asAddr (P g3) fun i41 i42 => ∃ v43, H34.cell i41 i42 = some v43 ∧ AS.asFn v43 fun f44 l45 l46 => (∃ fn, en.fn f44 = some fn) ∧
        CA en f44 (l45 ++ [] ++ l46) H34 fun v47 H48 => v47 = undef ∧ R undef H48) ∧
      ((AS.asAddr (P g0) fun i38 i39 => ∃ a40, (H.bump 17).cell i38 i39 = some (.pointer a40) ∧ a15 = a40) ∧ (AS.asAddr (P g0) fun i35 i36 => ∃ a37, H31.cell i35 i36 = some (.pointer a37) ∧ a15 = a37) ∧ True) ∧ True) := by
  have hb := h.bump 17
  obtain ⟨sa, nv, hrv, hnv, hs⟩ := hb.ex
  refine asAddr_in ⟨_, hb.box hw.run, asAddr_in ⟨_, hb.box hw.run, asAddr_in ⟨_, hb.box hw.run, asAddr_in ⟨_, _, Sep.lds0 hs rfl, asAddr_in ⟨_, hb.box hw.run, asAddr_in ⟨_, Sep.ld0 hs rfl, asAddr_in (Sep.st0 hs (Nat.le_of_ble_eq_true rfl) fun H31 h31 => asAddr_in (Sep.st0 h31 (Nat.le_of_ble_eq_true rfl) fun H34 h34 => ?_))⟩⟩⟩⟩⟩⟩
  have o34 : Rk H34 PL r c { q with bh := q.ah, bi := q.ai, ah := q.cur, ai := 2 } X L := ⟨sa, nv, hrv, hnv, h34⟩
  refine ⟨asAddr_in ⟨_, o34.box hw.on, asFn_in ⟨Option.isSome_iff_exists.1 (by kernel_rfl), ?_⟩⟩, ⟨asAddr_in ⟨_, hb.box hw.run, rfl⟩, asAddr_in ⟨_, pld (k := 1) h31 rfl hw.run rfl, rfl⟩, trivial⟩, trivial⟩
  show CA en F.lru_Run_walk_1 [P g0, P g1, P g2, P g3] H34 _
  exact ron_s hw o34 fun H48 PL' hp o => ⟨rfl, hR H48 PL' hp o⟩
end Go.Proofs.YtjggeoghlicmdaaGreat

/-
  Runs of an lru map in memory: what comes behind a load; a step.
-/
namespace Go.Proofs.YtjggeoghlicmdaaGreat
open Go Go.AS Go.RowKit
set_option linter.unusedVariables false
variable {H H' : Heap} {R K : Value → Heap → Prop} {L M PL PL' : List Asr} {r : Nat} {c : Lc} {q : Qr} {X X' : Gx}

abbrev Sm.fresh (S : Sm) : Prop := S.find (wr (S.made + 1)) = none
theorem acc_made (S : Sm) (a i : Int) (may : Bool) (f : BitVec 64 → BitVec 64) : (S.acc a i may f).2.made = S.made := by
  unfold Sm.acc; split
  · split <;> rfl
  · rfl
theorem acc_keys (S : Sm) (a i : Int) (may : Bool) (f : BitVec 64 → BitVec 64) : (S.acc a i may f).2.regs.map Reg.h = S.regs.map Reg.h := by
  unfold Sm.acc; split
  · split
    · show ((S.cnt.regs.map _).map Reg.h) = _
      rw [List.map_map]
      refine List.map_congr_left fun x _ => ?_
      show Reg.h (if x.h = a then _ else x) = x.h
      split <;> rfl
    · rfl
  · rfl
theorem find_none_iff {S : Sm} {k : Int} : S.find k = none ↔ k ∉ S.regs.map Reg.h := by
  unfold Sm.find
  rw [List.find?_eq_none]
  simp only [List.mem_map, not_exists, not_and, beq_iff_eq]
theorem acc_fresh {S : Sm} (a i : Int) (may : Bool) (f : BitVec 64 → BitVec 64) (h : S.fresh) : (S.acc a i may f).2.fresh := by
  have h' := find_none_iff.1 h
  refine find_none_iff.2 ?_
  rw [acc_made, acc_keys]; exact h'

theorem rmake_s {n : Int} (h : Rk H PL r c q X L) (hf : X.G.S.fresh)
    (hR : ∀ H' b, Rk H' PL r c q (X.to (X.G.S.make b n).2) L → R (.tuple #[I (X.G.S.make b n).1.1, I (X.G.S.make b n).1.2]) H') : CA en F.smem_Mem_Make [P c.m, I n] H R := by
  obtain ⟨sa, nv, hrv, hnv, hs⟩ := h.ex
  refine gmake_s (Sep.up3 hs) hf fun H17 b h17 => hR H17 b ⟨sa, nv, hrv, hnv, ?_⟩
  exact Sep.pick h17 5 [1, 2, 3, 0, 4] (by decide)

theorem w_zero {w : BitVec 64} (e : (((w.toNat : Int) == 0) : Bool) = true) : w = 0 := by
  have e : w.toNat = 0 := by simpa using e
  exact BitVec.eq_of_toNat_eq e
theorem w_some {w : BitVec 64} (e : (((w.toNat : Int) == 0) : Bool) = false) : w ≠ 0 := fun h => by
  subst h; simp at e

/-- What comes behind a load. -/
theorem kl_s {k : KL} {v : Value} {w : BitVec 64} (hk : LV PL r k v) (h : Rk H PL r c q X L) (hl : X.G.q.length < 10000) (hf : X.G.S.fresh)
    (hR : ∀ H' PL' X' b, (∀ A ∈ PL, A ∈ PL') → X'.G = (doKL c k w q X.G b).2 → Rk H' PL' r c (doKL c k w q X.G b).1 X' L → K undef H') :
    AS.asFn v fun f l cs => (∃ fn, en.fn f = some fn) ∧ CA en f (l ++ [W w] ++ cs) H K := by
  cases hk with
  | walkAt hw =>
    refine asFn_in ⟨Option.isSome_iff_exists.1 (by kernel_rfl), ?_⟩
    show CA en F.lru_Run_walk_1_1 [W w, _, _, _, _] H K
    apply vc_lru_Run_walk_1_1
    obtain ⟨sa, nv, hrv, hnv, hs⟩ := h.ex
    refine asAddr_in ⟨_, h.box hw.run, asAddr_in (Sep.st0 hs (Nat.le_of_ble_eq_true rfl) fun H6 h6 => ?_)⟩
    have o6 : Rk H6 PL r c { q with cur := IntKind.i64.wrap w.toNat } X L := ⟨sa, nv, hrv, hnv, h6⟩
    refine cond_of (fun e => ?_) fun e => ?_
    · have e := w_zero e
      obtain ⟨ve, h1, h2⟩ := hw.stop
      refine asAddr_in ⟨_, o6.box h1, stop_s h2 o6 fun H14 PL' hp o => ⟨rfl, hR H14 PL' X 0 hp rfl ?_⟩⟩
      show Rk H14 PL' r c (if w = 0 then _ else _) X L
      rw [if_pos e]; exact o
    · have e := w_some e
      have hb := o6.bump 8
      obtain ⟨sa, nv, hrv, hnv, hs⟩ := hb.ex
      refine asAddr_in ⟨_, hb.box hw.run, asAddr_in ⟨_, hb.box hw.run, asAddr_in ⟨_, Sep.ld0 hs rfl, ?_⟩⟩⟩
      refine rload_s hb (.walkKey hw) fun H14 PL' hp o => ⟨rfl, ⟨hR H14 PL' X 0 hp rfl ?_, trivial⟩⟩
      show Rk H14 PL' r c (if w = 0 then _ else _) X L
      rw [if_neg e]; exact o
  | walkKey hw =>
    refine asFn_in ⟨Option.isSome_iff_exists.1 (by kernel_rfl), ?_⟩
    show CA en F.lru_Run_walk_1_1_1 [W w, _, _, _] H K
    apply vc_lru_Run_walk_1_1_1
    obtain ⟨va, h1, h2⟩ := hw.ask
    refine asAddr_in ⟨_, h.box h1, ask_s h2 h fun H8 PL1 hp1 => ?_⟩
    cases h2 with
    | key hg =>
      refine ⟨fun ⟨e, o⟩ => ⟨_, rfl, cond_no rfl (hR H8 PL1 X 0 hp1 rfl ?_)⟩, fun ⟨e, e2, o⟩ => ⟨_, rfl, cond_yes rfl ?_⟩⟩
      · show Rk H8 PL1 r c (if w = q.ky then _ else _) X L
        rw [if_pos e]; exact o
      · subst e2
        refine rgo_s (R := K) hw o fun H14 PL' hp o14 => hR H14 PL' X 0 hp rfl ?_
        show Rk H14 PL' r c (if w = q.ky then _ else _) X L
        rw [if_neg e]; exact o14
    | near =>
      rintro ⟨e2, o⟩
      subst e2
      exact ⟨_, rfl, cond_yes rfl (rgo_s (R := K) hw o fun H14 PL' hp o14 => hR H14 PL' X 0 hp rfl o14)⟩
  | look hg =>
    refine asFn_in ⟨Option.isSome_iff_exists.1 (by kernel_rfl), ?_⟩
    show CA en F.lru_Run_found_2 [W w, _] H K
    apply vc_lru_Run_found_2
    have hb := h.bump 9
    obtain ⟨sa, nv, hrv, hnv, hs⟩ := hb.ex
    refine asAddr_in ⟨_, hb.box hg, Sep.nw hs fun i4 H5 h5 => asAddr_in ⟨_, pld (k := 2) h5 rfl hg rfl, asAddr_in ⟨_, Sep.ld1 h5 rfl, ?_⟩⟩⟩
    have o5 := Rk.ins [_] hrv hnv h5
    have hp := sub_r (A := PL) (fun _ h => h) [bx i4 (.cells true 1 [W w])]
    refine rgive_s (rv := [w]) (rk := 0) (sa := some ⟨i4, 0, none⟩) o5 (.inr ⟨i4, w, rfl, rfl, .head _⟩) fun H13 o13 => ⟨rfl, ⟨?_, ⟨⟨_, Sep.ld0 hs rfl, rfl⟩, ⟨_, Sep.ld1 h5 rfl, rfl⟩, trivial⟩, ⟨asAddr_in ⟨_, hb.box hg, rfl⟩, asAddr_in ⟨_, o5.box (hp _ hg), rfl⟩, trivial⟩, ⟨asAddr_in ⟨_, hb.box hg, rfl⟩, asAddr_in ⟨_, o5.box (hp _ hg), rfl⟩, trivial⟩, trivial⟩⟩
    exact asAddr_in ⟨_, o13.box (hp _ hg), rused_s o13 fun H14 PL' hp' o => ⟨rfl, hR H14 PL' X 0 (sub_t hp hp') rfl o⟩⟩
  | take hg =>
    refine asFn_in ⟨Option.isSome_iff_exists.1 (by kernel_rfl), ?_⟩
    show CA en F.lru_Run_found_3 [W w, _] H K
    apply vc_lru_Run_found_3
    obtain ⟨sa, nv, hrv, hnv, hs⟩ := h.ex
    refine asAddr_in ⟨_, h.box hg, Sep.nw hs fun i4 H5 h5 => ?_⟩
    have o5 := Rk.ins [_] hrv hnv h5
    have hp := sub_r (A := PL) (fun _ h => h) [bx i4 (.cells true 1 [W w])]
    refine rgive_s (rv := [w]) (rk := 0) (sa := some ⟨i4, 0, none⟩) o5 (.inr ⟨i4, w, rfl, rfl, .head _⟩) fun H13 o13 => ⟨rfl, ?_⟩
    exact asAddr_in ⟨_, o13.box (hp _ hg), runlink_s o13 (.takeEnd (hp _ hg)) fun H14 PL' hp' o => ⟨rfl, hR H14 PL' X 0 (sub_t hp hp') rfl o⟩⟩
  | count hg =>
    refine asFn_in ⟨Option.isSome_iff_exists.1 (by kernel_rfl), ?_⟩
    show CA en F.lru_Run_absent_1 [W w, _] H K
    apply vc_lru_Run_absent_1
    obtain ⟨sa, nv, hrv, hnv, hs⟩ := h.ex
    refine asAddr_in ⟨_, h.box hg, asAddr_in ⟨_, Sep.ld0 hs rfl, asAddr_in ⟨_, Sep.ld2 hs rfl, ?_⟩⟩⟩
    refine rmake_s h hf fun H11 b o11 => ⟨_, _, rfl, ?_⟩
    refine cond_of (fun e => ?_) fun e => ?_
    · have e : (X.G.S.make b 3).1.2 ≠ 0 := by simpa using e
      refine asAddr_in ⟨_, o11.box hg, rfail_s o11 fun H14 PL' hp' o => ⟨rfl, hR H14 PL' (X.to (X.G.S.make b 3).2) b hp' rfl ?_⟩⟩
      show Rk H14 PL' r c (q.count c w (X.G.S.make b 3).1.2 (X.G.S.make b 3).1.1) _ L
      unfold Qr.count; rw [if_pos e]; exact o
    · have e : ¬ (X.G.S.make b 3).1.2 ≠ 0 := by simpa using e
      obtain ⟨sa, nv, hrv, hnv, hs⟩ := o11.ex
      refine asAddr_in ⟨_, o11.box hg, asAddr_in (Sep.st0 hs (Nat.le_of_ble_eq_true rfl) fun H24 h24 => ?_)⟩
      have o24 : Rk H24 PL r c { q with made := (X.G.S.make b 3).1.1 } (X.to (X.G.S.make b 3).2) L := ⟨sa, nv, hrv, hnv, h24⟩
      refine asAddr_in ⟨_, o24.box hg, asAddr_in ⟨_, Sep.ld0 h24 rfl, Sep.nw h24 fun i31 H32 h32 => Sep.st0 h32 (Nat.le_of_ble_eq_true rfl) fun H33 h33 => ?_⟩⟩
      have o33 := Rk.ins (q := { q with made := (X.G.S.make b 3).1.1 }) [b1 i31 (I q.ah)] hrv hnv h33
      have hp := sub_r (A := PL) (fun _ h => h) [b1 i31 (I q.ah)]
      refine asAddr_in ⟨_, o33.box (hp _ hg), asAddr_in ⟨_, Sep.ld1 h33 rfl, asAddr_in ⟨_, Sep.ld3 h33 rfl, ?_⟩⟩⟩
      rw [wrap_u64]
      refine cond_of (fun d => ?_) fun d => ?_
      · have d : w.toNat < (BitVec.ofInt 64 c.d1).toNat := Int.ofNat_lt.1 (of_decide_eq_true d)
        refine asAddr_in ⟨_, o33.box (hp _ hg), rlay_s (k := .abs1) o33 (.abs1 (hp _ hg)) fun H14 PL' hp' o => ⟨rfl, hR H14 PL' (X.to (X.G.S.make b 3).2) b (sub_t hp hp') rfl ?_⟩⟩
        show Rk H14 PL' r c (q.count c w (X.G.S.make b 3).1.2 (X.G.S.make b 3).1.1) _ L
        unfold Qr.count; rw [if_neg e, if_pos d]; exact o
      · have d : ¬ w.toNat < (BitVec.ofInt 64 c.d1).toNat := fun h => of_decide_eq_false d (Int.ofNat_lt.2 h)
        have hb := o33.bump 7
        obtain ⟨sa', nv', hrv', hnv', hs'⟩ := hb.ex
        refine asAddr_in ⟨_, hb.box (hp _ hg), asAddr_in ⟨_, hb.box (hp _ hg), asAddr_in ⟨_, _, Sep.lds0 hs' rfl, ?_⟩⟩⟩
        refine rstore_s (w := 0) (k := .absLay q.ah) hb (.absLay (hp _ hg) (.head _)) fun H14 PL' hp' o => ⟨rfl, ⟨hR H14 PL' (X.to (X.G.S.make b 3).2) b (sub_t hp hp') rfl ?_, trivial⟩⟩
        show Rk H14 PL' r c (q.count c w (X.G.S.make b 3).1.2 (X.G.S.make b 3).1.1) _ L
        unfold Qr.count; rw [if_neg e, if_neg d]; exact o
  | unl hg h2 hk =>
    refine asFn_in ⟨Option.isSome_iff_exists.1 (by kernel_rfl), ?_⟩
    show CA en F.lru_Run_unlink_1 [W w, _, _] H K
    apply vc_lru_Run_unlink_1
    have hb := h.bump 8
    obtain ⟨sa, nv, hrv, hnv, hs⟩ := hb.ex
    refine asAddr_in ⟨_, hb.box hg, asAddr_in ⟨_, hb.box hg, asAddr_in ⟨_, _, Sep.lds0 hs rfl, asAddr_in ⟨_, hb.box h2, ?_⟩⟩⟩⟩
    exact rstore_s hb hk fun H14 PL' hp' o => ⟨rfl, ⟨hR H14 PL' X 0 hp' rfl o, trivial⟩⟩
  | young hg h2 h3 hk =>
    refine asFn_in ⟨Option.isSome_iff_exists.1 (by kernel_rfl), ?_⟩
    show CA en F.lru_Run_youngest_1 [W w, _, _, _] H K
    apply vc_lru_Run_youngest_1
    refine asAddr_in ⟨_, h.box hg, asAddr_in ⟨_, h.box h2, ?_⟩⟩
    exact rstore_s h (.head hg h2 h3 hk) fun H14 PL' hp' o => ⟨rfl, hR H14 PL' X 0 hp' rfl o⟩

/-! ### Who takes the lock -/
theorem tk_b {t : Tk} {S : Sm} : (t.step c S).2.1.b = t.b := by
  unfold Tk.step; split
  · simp only; split <;> rfl
  · split
    · split <;> rfl
    · rfl
theorem tk_s {t : Tk} (h : Sep H (tkA c t :: grA c.g c.m X :: M))
    (hR : ∀ H', Sep H' (tkA c (t.step c X.G.S).2.1 :: grA c.g c.m (X.to (t.step c X.G.S).2.2) :: M) → R (.bool (t.step c X.G.S).1) H') : CA en F.lock_Taker_Step [P t.b] H R := by
  obtain ⟨tb, tt, ph⟩ := t
  apply vc_lock_Taker_Step
  rcases ph with _ | _ | n
  · refine asAddr_in ⟨_, Sep.ld0 h rfl, asFn_in ⟨Option.isSome_iff_exists.1 (by kernel_rfl), ?_⟩⟩
    show CA en F.lock_Taker_draw [P tb] H _
    apply vc_lock_Taker_draw
    have hB := h.bump 18
    refine asAddr_in ⟨_, Sep.ld0 hB rfl, asAddr_in ⟨_, Sep.ld0 hB rfl, asAddr_in ⟨_, Sep.ld0 hB rfl, ?_⟩⟩⟩
    refine gmore_s (Sep.up1 hB) fun H' h' => ⟨_, _, rfl, ⟨cond_of (fun e => asAddr_in (Sep.st1 h' (Nat.le_of_ble_eq_true rfl) fun H2 h2 => asAddr_in (Sep.st1 h2 (Nat.le_of_ble_eq_true rfl) fun H3 h3 => ⟨_, rfl, ?_⟩))) fun e => ⟨_, rfl, ?_⟩, trivial⟩⟩
    · have := hR H3
      unfold Tk.step at this
      rw [if_pos rfl] at this
      simp only at this
      rw [if_pos e] at this
      exact this (Sep.up1 h3)
    · have := hR H'
      unfold Tk.step at this
      rw [if_pos rfl] at this
      simp only at this
      rw [if_neg (by rw [e]; exact Bool.false_ne_true)] at this
      exact this (Sep.up1 h')
  · refine asAddr_in ⟨_, Sep.ld0 h rfl, asFn_in ⟨Option.isSome_iff_exists.1 (by kernel_rfl), ?_⟩⟩
    show CA en F.lock_Taker_wait [P tb] H _
    apply vc_lock_Taker_wait
    have hB := h.bump 19
    refine asAddr_in ⟨_, Sep.ld0 hB rfl, asAddr_in ⟨_, Sep.ld0 hB rfl, asAddr_in ⟨_, Sep.ld0 hB rfl, ?_⟩⟩⟩
    have e01 : IntKind.i64.wrap ((0 : Int) + 1) = 1 := by decide
    rw [e01]
    have no : ∀ H', ¬ ((X.G.S.acc c.h 1 true id).1.2 = true ∧ (X.G.S.acc c.h 1 true id).1.1 = tt) → Sep H' (grA c.g c.m (X.to (X.G.S.acc c.h 1 true id).2) :: tkA c ⟨tb, tt, 1⟩ :: M) → R (.bool false) H' := fun H' e h' => by
      have := hR H'
      unfold Tk.step at this
      rw [if_neg (by simp), if_pos rfl, if_neg e] at this
      exact this (Sep.up1 h')
    refine gload_s (Sep.up1 hB) fun H' h' => ⟨_, _, rfl, ⟨cond_of (fun e => ⟨_, rfl, no H' (fun h => ?_) h'⟩) fun e => asAddr_in ⟨_, Sep.ld1 h' rfl, ?_⟩, trivial⟩⟩
    · have e : (X.G.S.acc c.h 1 true id).1.2 = false := by simpa using e
      rw [e] at h; cases h.1
    · have e : (X.G.S.acc c.h 1 true id).1.2 = true := by simpa using e
      rw [bv_bne]
      refine cond_of (fun d => ⟨_, rfl, no H' (fun h => ?_) h'⟩) fun d => asAddr_in (Sep.st1 h' (Nat.le_of_ble_eq_true rfl) fun H3 h3 => ⟨_, rfl, ?_⟩)
      · rw [h.2] at d; simp at d
      · have d : (X.G.S.acc c.h 1 true id).1.1 = tt := by simpa using d
        have := hR H3
        unfold Tk.step at this
        rw [if_neg (by simp), if_pos rfl, if_pos ⟨e, d⟩] at this
        exact this (Sep.up1 h3)
  · refine asAddr_in ⟨_, Sep.ld0 h rfl, asFn_in ⟨Option.isSome_iff_exists.1 (by kernel_rfl), ?_⟩⟩
    show CA en F.lock_Taker_got [P tb] H _
    refine vc_lock_Taker_got _ _ _ ⟨_, rfl, ?_⟩
    have := hR H
    unfold Tk.step at this
    rw [if_neg (by simp), if_neg (by simp)] at this
    refine this ?_
    exact h

theorem gdrop_s {a : Int} (h : Sep H (grA c.g c.m X :: M))
    (hR : ∀ H' b, Sep H' (grA c.g c.m (X.to (X.G.S.acc a 1 true (addF 1)).2) :: M) → R (.bool b) H') : CA en F.lock_Drop [P c.m, I a, I 0] H R := by
  apply vc_lock_Drop
  have e01 : IntKind.i64.wrap ((0 : Int) + 1) = 1 := by decide
  rw [e01]
  exact gmore_s h fun H' h' => ⟨_, _, rfl, hR H' _ h'⟩

/-! ### A step -/
theorem step_s (h : Rk H PL r c q X L) (hl : X.G.q.length < 10000) (hf : X.G.S.fresh) (hnx : q.nx ≠ .none)
    (hR : ∀ H' PL' X' b, X'.G = (q.step c X.G b).2 → Rk H' PL' r c (q.step c X.G b).1 X' L → R (.tuple #[.bool (q.tells (q.step c X.G b).1).1, .bool (q.tells (q.step c X.G b).1).2]) H') : CA en F.lru_Run_Step [P r] H R := by
  obtain ⟨sa, nv, hrv, hnv, hs⟩ := h.ex
  apply vc_lru_Run_Step
  refine asAddr_in ⟨_, Sep.ld0 hs rfl, cond_of (fun e => ?_) fun e => ?_⟩
  · have := hR H PL X 0
    unfold Qr.step Qr.tells at this
    rw [if_pos e, if_pos e] at this
    exact this rfl h
  · have e : ¬ q.dn = true := by rw [e]; exact Bool.false_ne_true
    refine asAddr_in (Sep.st0 hs (Nat.le_of_ble_eq_true rfl) fun H6 h6 => asAddr_in ⟨_, Sep.ld0 h6 rfl, ?_⟩)
    have h6 : Sep H6 (rA r c { q with eff := false } sa nv :: many PL :: xA c :: grA c.g c.m X :: many (tkL c q.nx) :: L) := h6
    have o6 : Rk H6 PL r c { q with eff := false } X L := ⟨sa, nv, hrv, hnv, h6⟩
    have fin : ∀ H' PL' X' b, X'.G = (doNx c q.nx { q with eff := false } X.G b).2 → Rk H' PL' r c (doNx c q.nx { q with eff := false } X.G b).1 X' L →
        AS.asAddr (P r) fun i15 i16 => ∃ b17, (H'.bump 10).cell i15 (i16 + 12) = some (.bool b17) ∧ AS.asAddr (P r) fun i18 i19 => ∃ b20, (H'.bump 10).cell i18 (i19 + 13) = some (.bool b20) ∧ ((R (.tuple #[.bool b17, .bool b20]) (H'.bump 10)) ∧ True) := fun H' PL' X' b e1 o => by
      have ob := o.bump 10
      obtain ⟨sa, nv, hrv, hnv, hs⟩ := ob.ex
      refine asAddr_in ⟨_, Sep.ld0 hs rfl, asAddr_in ⟨_, Sep.ld0 hs rfl, ?_, trivial⟩⟩
      have := hR (H'.bump 10) PL' X' b
      unfold Qr.step Qr.tells at this
      rw [if_neg e, if_neg e] at this
      exact this e1 ob
    have n6 : ({ q with eff := false } : Qr).nx = q.nx := rfl
    have hrv6 : RV PL ({ q with eff := false } : Qr).rv sa := hrv
    clear hR hs h e o6
    generalize ({ q with eff := false } : Qr) = q6 at *
    generalize q.nx = nx at *
    clear hrv
    cases hnv with
    | none => exact absurd rfl hnx
    | @enter g g2 t k v h1 h2 hk =>
      refine asFn_in ⟨Option.isSome_iff_exists.1 (by kernel_rfl), ?_⟩
      show CA en F.lru_Run_enter_1 [_, _] H6 _
      apply vc_lru_Run_enter_1
      refine asAddr_in ⟨_, pld (k := 1) h6 rfl h1 rfl, ?_⟩
      have h7 : Sep H6 (tkA c t :: rA r c q6 sa (.func (.func F.lru_Run_enter_1) #[] #[P g, P g2]) :: many PL :: xA c :: grA c.g c.m X :: L) := Sep.many_iff.1 (Sep.up4 h6)
      refine tk_s (Sep.pick h7 5 [0, 4, 1, 2, 3] (by decide)) fun H5 h5 => ⟨_, rfl, ?_⟩
      have h8 : Sep H5 (many [tkA c (t.step c X.G.S).2.1] :: grA c.g c.m (X.to (t.step c X.G.S).2.2) :: rA r c q6 sa (.func (.func F.lru_Run_enter_1) #[] #[P g, P g2]) :: many PL :: xA c :: L) := Sep.many_iff.2 h5
      have o5 : Rk H5 PL r c { q6 with nx := .enter (t.step c X.G.S).2.1 k } (X.to (t.step c X.G.S).2.2) L :=
        ⟨sa, _, hrv6, .enter (by rw [tk_b]; exact h1) h2 hk, Sep.pick h8 5 [2, 3, 4, 1, 0] (by decide)⟩
      refine cond_of (fun g => asAddr_in ⟨_, o5.box h2, ks_s hk o5 hl fun H' PL' X' b hp e o => ⟨rfl, rfl, fin H' PL' X' b ?_ ?_⟩⟩) fun g => ⟨rfl, fin H5 PL (X.to (t.step c X.G.S).2.2) 0 ?_ ?_⟩
      · show X'.G = (if _ then _ else _ : Qr × Gr).2
        rw [if_pos g]; exact e
      · show Rk H' PL' r c (if _ then _ else _ : Qr × Gr).1 X' L
        rw [if_pos g]; exact o
      · show _ = (if _ then _ else _ : Qr × Gr).2
        rw [if_neg (by rw [g]; exact Bool.false_ne_true)]; rfl
      · show Rk H5 PL r c (if _ then _ else _ : Qr × Gr).1 _ L
        rw [if_neg (by rw [g]; exact Bool.false_ne_true)]; exact o5
    | @load g g2 g3 a i k v h1 h2 h3 hk =>
      refine asFn_in ⟨Option.isSome_iff_exists.1 (by kernel_rfl), ?_⟩
      show CA en F.lru_Run_load_1 [_, _, _] H6 _
      apply vc_lru_Run_load_1
      have hb := h6.bump 17
      refine asAddr_in ⟨_, pld (k := 1) hb rfl h1 rfl, asAddr_in ⟨_, Sep.ld0 hb rfl, asAddr_in ⟨_, Sep.ld2 hb rfl, asAddr_in ⟨_, pld (k := 1) hb rfl h2 rfl, asAddr_in ⟨_, pld (k := 1) hb rfl h2 rfl, ?_⟩⟩⟩⟩⟩
      refine gload_s (Sep.up3 hb) fun H17 h17 => ⟨_, _, rfl, ⟨?_, trivial⟩⟩
      have h18 : Sep H17 (rA r c q6 sa _ :: many PL :: xA c :: grA c.g c.m (X.to (X.G.S.acc a i true id).2) :: many (tkL c (.load a i k)) :: L) := Sep.pick h17 5 [1, 2, 3, 0, 4] (by decide)
      have o17 : Rk H17 PL r c q6 (X.to (X.G.S.acc a i true id).2) L := ⟨sa, _, hrv6, by rw [n6]; exact .load h1 h2 h3 hk, by rw [n6]; exact h18⟩
      refine asAddr_in ⟨_, o17.box h3, kl_s hk o17 hl (acc_fresh _ _ _ _ hf) fun H' PL' X' b hp e o => ⟨rfl, rfl, fin H' PL' X' b e o⟩⟩
    | @store g g2 g3 g4 a i w k v h1 h2 h3 h4 hk =>
      refine asFn_in ⟨Option.isSome_iff_exists.1 (by kernel_rfl), ?_⟩
      show CA en F.lru_Run_store_1 [_, _, _, _] H6 _
      apply vc_lru_Run_store_1
      have hb := h6.bump 13
      refine asAddr_in ⟨_, pld (k := 1) hb rfl h1 rfl, asAddr_in ⟨_, Sep.ld0 hb rfl, asAddr_in ⟨_, Sep.ld2 hb rfl, asAddr_in ⟨_, pld (k := 1) hb rfl h2 rfl, asAddr_in ⟨_, pld (k := 1) hb rfl h2 rfl, asAddr_in ⟨_, pld (k := 1) hb rfl h3 rfl, ?_⟩⟩⟩⟩⟩⟩
      refine gstore_s (Sep.up3 hb) fun H17 h17 => ⟨_, rfl, ⟨?_, trivial⟩⟩
      have h18 : Sep H17 (rA r c q6 sa _ :: many PL :: xA c :: grA c.g c.m (X.to (X.G.S.acc a i true fun _ => w).2) :: many (tkL c (.store a i w k)) :: L) := Sep.pick h17 5 [1, 2, 3, 0, 4] (by decide)
      have o17 : Rk H17 PL r c q6 (X.to (X.G.S.acc a i true fun _ => w).2) L := ⟨sa, _, hrv6, by rw [n6]; exact .store h1 h2 h3 h4 hk, by rw [n6]; exact h18⟩
      refine asAddr_in ⟨_, o17.box h4, ks_s hk o17 hl fun H' PL' X' b hp e o => ⟨rfl, rfl, fin H' PL' X' b e o⟩⟩
    | @more g g2 w h1 h2 =>
      refine asFn_in ⟨Option.isSome_iff_exists.1 (by kernel_rfl), ?_⟩
      show CA en F.lru_Run_more_1 [_, _] H6 _
      apply vc_lru_Run_more_1
      have hb := h6.bump 16
      refine asAddr_in ⟨_, pld (k := 1) hb rfl h1 rfl, asAddr_in ⟨_, Sep.ld0 hb rfl, asAddr_in ⟨_, Sep.ld2 hb rfl, asAddr_in ⟨_, pld (k := 1) hb rfl h1 rfl, asAddr_in ⟨_, Sep.ld0 hb rfl, asAddr_in ⟨_, Sep.ld2 hb rfl, asAddr_in ⟨_, pld (k := 1) hb rfl h2 rfl, ?_⟩⟩⟩⟩⟩⟩⟩
      refine gadd_s (Sep.up3 hb) fun H17 h17 => ⟨_, _, rfl, ⟨?_, trivial⟩⟩
      have h18 : Sep H17 (rA r c q6 sa _ :: many PL :: xA c :: grA c.g c.m (X.to (X.G.S.acc c.h 3 true (addF w)).2) :: many (tkL c (.more w)) :: L) := Sep.pick h17 5 [1, 2, 3, 0, 4] (by decide)
      have o17 : Rk H17 PL r c q6 (X.to (X.G.S.acc c.h 3 true (addF w)).2) L := ⟨sa, _, hrv6, by rw [n6]; exact .more h1 h2, by rw [n6]; exact h18⟩
      refine asAddr_in ⟨_, o17.box h1, raway_s o17 fun H' PL' hp o => ⟨rfl, rfl, fin H' PL' _ 0 rfl o⟩⟩
    | @drop g h1 =>
      refine asFn_in ⟨Option.isSome_iff_exists.1 (by kernel_rfl), ?_⟩
      show CA en F.lru_Run_away_1 [_] H6 _
      apply vc_lru_Run_away_1
      have hb := h6.bump 15
      refine asAddr_in ⟨_, pld (k := 1) hb rfl h1 rfl, asAddr_in ⟨_, Sep.ld0 hb rfl, asAddr_in ⟨_, Sep.ld2 hb rfl, asAddr_in ⟨_, pld (k := 1) hb rfl h1 rfl, asAddr_in ⟨_, Sep.ld0 hb rfl, asAddr_in ⟨_, Sep.ld2 hb rfl, ?_⟩⟩⟩⟩⟩⟩
      refine gdrop_s (Sep.up3 hb) fun H17 b h17 => ⟨_, rfl, ⟨?_, trivial⟩⟩
      have h18 : Sep H17 (rA r c q6 sa _ :: many PL :: xA c :: grA c.g c.m (X.to (X.G.S.acc c.h 1 true (addF 1)).2) :: many (tkL c .drop) :: L) := Sep.pick h17 5 [1, 2, 3, 0, 4] (by decide)
      refine asAddr_in ⟨_, pld (k := 1) h18 rfl h1 rfl, asAddr_in (Sep.st0 h18 (Nat.le_of_ble_eq_true rfl) fun H27 h27 => ⟨rfl, fin H27 PL (X.to (X.G.S.acc c.h 1 true (addF 1)).2) 0 rfl ⟨sa, .func (.func F.lru_Run_away_1) #[] #[P g], hrv6, ?_, ?_⟩⟩)⟩
      · show NV PL r q6.nx _
        rw [n6]; exact .drop h1
      · show Sep H27 (rA r c { q6 with dn := true } sa _ :: many PL :: xA c :: grA c.g c.m (X.to (X.G.S.acc c.h 1 true (addF 1)).2) :: many (tkL c q6.nx) :: L)
        rw [n6]; exact h27
end Go.Proofs.YtjggeoghlicmdaaGreat

/-
  Runs of an lru map in memory: how they begin, what they tell.
-/
namespace Go.Proofs.YtjggeoghlicmdaaGreat
open Go Go.AS Go.RowKit
set_option linter.unusedVariables false
variable {H H' : Heap} {R K : Value → Heap → Prop} {L M PL PL' : List Asr} {r : Nat} {c : Lc} {q : Qr} {X X' : Gx}

theorem gtake_s (h : Sep H M) (hR : ∀ H' b, Sep H' (tkA c ⟨b, 0, 0⟩ :: M) → R (P b) H') : CA en F.lock_Take [P c.m, I c.h, I 0] H R := by
  apply vc_lock_Take
  exact Sep.nw h fun b H2 h2 => Sep.st0 h2 (Nat.le_of_ble_eq_true rfl) fun H3 h3 => hR H3 b h3

theorem renter_s {k : KS} {v : Value} (h : Rk H PL r c q X L) (hk : SV PL r k v)
    (hR : ∀ H' PL' b, Rk H' PL' r c { q with nx := .enter ⟨b, 0, 0⟩ k } X L → R undef H') : CA en F.lru_Run_enter [P r, v] H R := by
  obtain ⟨sa, nv, hrv, hnv, hs⟩ := h.ex
  obtain ⟨f, l, cs, rfl⟩ := hk.fn
  apply vc_lru_Run_enter
  refine Sep.nw hs fun i1 H2 h2 => ?_
  have hp := h2.fore1 (n := 17) (a := 15) (.cells true 0 [.pointer none]) (by decide)
  generalize H2.next + 15 = tb at hp ⊢
  refine asAddr_in ⟨_, Sep.ld2 hp rfl, asAddr_in ⟨_, Sep.ld4 hp rfl, asAddr_in ⟨_, Sep.ld2 hp rfl, asAddr_in ⟨_, Sep.ld4 hp rfl, ?_⟩⟩⟩⟩
  refine gtake_s hp fun H16 b h16 => ⟨_, rfl, Sep.st1 h16 (Nat.le_of_ble_eq_true rfl) fun H18 h18 => ⟨asAddr_in (Sep.st3 h18 (Nat.le_of_ble_eq_true rfl) fun H23 h23 => ?_), ⟨⟨_, Sep.get0 hp, rfl⟩, ⟨_, Sep.get1 h16, rfl⟩, trivial⟩, trivial⟩⟩
  have hq := sub_r (A := PL) (fun _ h => h) [b1 tb (P b), b1 i1 (.func (.func f) ⟨l⟩ ⟨cs⟩)]
  refine hR H23 ([b1 tb (P b), b1 i1 (.func (.func f) ⟨l⟩ ⟨cs⟩)] ++ PL) b ⟨sa, _, hrv.mono hq, .enter (g := tb) (g2 := i1) (.head _) (.tail _ (.head _)) (hk.mono hq), ?_⟩
  have h24 := pool_ins [_, _] (Sep.pick h23 8 [1, 2, 4, 3, 5, 6, 0] (by decide))
  have h25 : Sep H23 (tkA c ⟨b, 0, 0⟩ :: _ :: _ :: _ :: _ :: L) := Sep.up4 h24
  have h26 := (Sep.many_iff (L := [tkA c ⟨b, 0, 0⟩])).2 h25
  exact Sep.pick h26 5 [2, 1, 3, 4, 0] (by decide)

/-- An operation begins. -/
theorem Begin_s {kd fl cpu : Int} {ky : BitVec 64} {va : Option Addr} {vs : List (BitVec 64)} {n : Nat} (h : Sep H (xA c :: grA c.g c.m X :: L)) (hn : n = vs.length)
    (hv : ∀ w, vs.head? = some w → ∃ b o, va = some ⟨b, o, none⟩ ∧ ∀ H', Sep H' L → H'.cell b o = some (W w))
    (hR : ∀ H' r PL b, Rk H' PL r c (Qr.new kd ky fl cpu (vs.headD 0) b) X L → R (P r) H') : CA en F.lru_Map_Begin [P c.x, .agg #[I kd, W ky, .slice va n 0, I fl, I cpu]] H R := by
  subst hn
  apply vc_lru_Map_Begin
  refine Sep.nw h fun i1 H2 h2 => ⟨_, _, _, _, _, _, Sep.lds0 h2 rfl, Sep.nw h2 fun r H10 h10 => ⟨_, _, Sep.ld1 h10 rfl, ?_⟩⟩
  have fin : ∀ H19 (q : Qr), q.rv = [] → q.nx = .none → Sep H19 (rA r c q none .nilFunc :: xA c :: grA c.g c.m X :: L) → (∀ b, { q with nx := .enter ⟨b, 0, 0⟩ .begin } = Qr.new kd ky fl cpu (vs.headD 0) b) → CA en F.lru_Run_enter [P r, .func (.func F.lru_Run_begin) #[P r] #[]] H19 fun v20 H21 => v20 = undef ∧ R (P r) H21 := fun H19 q e1 e2 h19 e3 => by
    have o : Rk H19 [] r c q X L := ⟨none, .nilFunc, .inl ⟨e1, rfl⟩, by rw [e2]; exact .none, by
      have h20 : Sep H19 (many [] :: many [] :: rA r c q none .nilFunc :: xA c :: grA c.g c.m X :: L) := Sep.many0 (Sep.many0 h19)
      rw [e2]
      exact Sep.pick h20 5 [2, 0, 3, 4, 1] (by decide)⟩
    refine renter_s (k := .begin) o .begin fun H' PL' b o' => ⟨rfl, hR H' r PL' b ?_⟩
    rw [← e3 b]; exact o'
  refine cond_of (fun e => ?_) fun e => ?_
  · have e : 0 < vs.length := by have := of_decide_eq_true e; omega
    obtain ⟨w, vs', rfl⟩ : ∃ w vs', vs = w :: vs' := by
      cases vs with
      | nil => simp at e
      | cons w vs' => exact ⟨w, vs', rfl⟩
    obtain ⟨b, o, rfl, hc⟩ := hv w rfl
    refine ⟨_, _, Sep.ld1 h10 rfl, by unfold inB; simp, ?_⟩
    show ∃ n17, H10.cell b o = some (.int .u64 n17) ∧ _
    refine ⟨_, hc H10 (h10.drop 4), Sep.st0 h10 (Nat.le_of_ble_eq_true rfl) fun H18 h18 => Sep.st0 h18 (Nat.le_of_ble_eq_true rfl) fun H19 h19 => ?_⟩
    exact fin H19 { Qr.new kd ky fl cpu w 0 with nx := .none } rfl rfl (Sep.rm1 h19) fun _ => rfl
  · have e : vs = [] := by
      have := of_decide_eq_false e
      exact List.eq_nil_of_length_eq_zero (by omega)
    subst e
    refine Sep.st0 h10 (Nat.le_of_ble_eq_true rfl) fun H19 h19 => ?_
    exact fin H19 { Qr.new kd ky fl cpu 0 0 with nx := .none } rfl rfl (Sep.rm1 h19) fun _ => rfl

/-! ### What it gave -/
theorem clone1_s {ws : List (BitVec 64)} {sa : Option Addr} (h : Sep H (many PL :: M)) (hv : RV PL ws sa)
    (hR : ∀ H' o, (o = none → ws = []) → Sep H' (gl 1 o (ws.map W) :: many PL :: M) → R (.slice (addr o) ws.length 0) H') : CA en F.slices_Clone_uint64_uint64 [.slice sa ws.length 0] H R := by
  apply vc_slices_Clone_uint64_uint64
  rcases hv with ⟨rfl, rfl⟩ | ⟨b, w, rfl, rfl, hm⟩
  · exact cond_yes rfl (hR H none (fun _ => rfl) (gl_none.2 h))
  · refine cond_no rfl (Sep.nw h fun i1 H2 h2 => ⟨[W w], rowOf_bx (h2.one1 _ hm) (by simp) rfl, ?_⟩)
    refine apd_gl (b := some i1) (cs := []) (new := [W w]) (gl_some.2 h2) (fun e => by cases e) (by decide) rfl (by simp) rfl (by simp) fun H6 o' h6 => ?_
    exact hR H6 (some o') (fun e => by cases e) h6

theorem rres_s (h : Rk H PL r c q X L)
    (hR : ∀ H' o, (o = none → q.rv = []) → Rk H' PL r c q X (gl 1 o (q.rv.map W) :: L) → R (.agg #[I q.no, .slice (addr o) q.rv.length 0, W q.rk, I q.el]) H') : CA en F.lru_Run_Result [P r] H R := by
  obtain ⟨sa, nv, hrv, hnv, hs⟩ := h.ex
  apply vc_lru_Run_Result
  refine Sep.nw hs fun i1 H2 h2 => asAddr_in ⟨_, _, _, _, _, Sep.lds1 h2 rfl, Sep.nw h2 fun i10 H11 h11 => Sep.st0 h11 (Nat.le_of_ble_eq_true rfl) fun H12 h12 => ⟨_, _, Sep.ld0 h12 rfl, ?_⟩⟩
  refine clone1_s (Sep.up3 h12) hrv fun H16 o ho h16 => ⟨_, _, rfl, ?_⟩
  -- o PL i10 i1 rA xA gr T
  refine Sep.st2 h16 (Nat.le_of_ble_eq_true rfl) fun H19 h19 => ⟨_, _, _, _, _, Sep.lds2 h19 rfl, ?_⟩
  refine Sep.st3 h19 (Nat.le_of_ble_eq_true rfl) fun H25 h25 => ⟨_, _, _, _, _, Sep.lds3 h25 rfl, ?_⟩
  exact hR H25 o ho ⟨sa, nv, hrv, hnv, Sep.pick h25 8 [4, 1, 5, 6, 7, 0] (by decide)⟩
end Go.Proofs.YtjggeoghlicmdaaGreat

/-
  An operation of an lru map that nobody disturbs.
-/
namespace Go.Proofs.YtjggeoghlicmdaaGreat
open Go Go.AS Go.RowKit
set_option linter.unusedVariables false
variable {H H' : Heap} {R K : Value → Heap → Prop} {L M PL PL' : List Asr} {r : Nat} {c : Lc} {q : Qr} {X X' : Gx}

/-- A run that comes to its end, whatever the numbers of new blocks: k steps are done, with e effects. -/
inductive Fin' (c : Lc) (P : Nat → Qr → Gr → Prop) : Nat → Nat → Qr → Gr → Prop where
  | step {k e : Nat} {q : Qr} {G : Gr} (hd : q.dn = false) (hn : q.nx ≠ .none) (hf : G.S.fresh) (hl : G.q.length < 10000) (hk : k < 998)
      (h1 : ∀ b, (q.step c G b).1.dn = true → e + (q.step c G b).1.eff.toNat = 1 ∧ P (k + 1) (q.step c G b).1 (q.step c G b).2 ∧ (q.step c G b).2.q.length < 10000)
      (h2 : ∀ b, (q.step c G b).1.dn = false → Fin' c P (k + 1) (e + (q.step c G b).1.eff.toNat) (q.step c G b).1 (q.step c G b).2) : Fin' c P k e q G

theorem rleave_s {a : Int} (h : Rk H PL r c q X L) (hl : X.G.q.length < 10000)
    (hR : ∀ H' X' f n, X'.G = (X.G.leave a).2 → Rk H' PL r c q X' L → R (.slice f n 0) H') : CA en F.grace_Grace_Leave [P c.g, I a] H R := by
  obtain ⟨sa, nv, hrv, hnv, hs⟩ := h.ex
  refine leave_s (gr_isG (Sep.up3 hs)) (by omega) fun H' f _ h' => ?_
  obtain ⟨X', e, h2⟩ := isG_gr h'
  exact hR H' X' _ _ e ⟨sa, nv, hrv, hnv, Sep.pick (Sep.rm1 h2) 5 [1, 2, 3, 0, 4] (by decide)⟩
theorem genter_s {g m : Nat} {a : Int} (h : Sep H (grA g m X :: M))
    (hR : ∀ H' X', X'.G = (X.G.enter a).2 → Sep H' (grA g m X' :: M) → R (.bool (X.G.enter a).1) H') : CA en F.grace_Grace_Enter [P g, I a] H R :=
  enter_s (gr_isG h) fun H' h' => by
    obtain ⟨X', e, h2⟩ := isG_gr h'
    exact hR H' X' e h2


set_option maxRecDepth 20000 in
theorem alone_s {Q : Nat → Qr → Gr → Prop} {kd fl : Int} {ky v : BitVec 64} (h : Sep H (xA c :: grA c.g c.m X :: L)) (hent : (X.G.enter 0).1 = true)
    (hF : ∀ b, Fin' c Q 0 0 (Qr.new kd ky fl 0 (if kd = 2 then v else 0) b) (X.G.enter 0).2)
    (hR : ∀ H' X' k q G o, Q k q G → X'.G = (G.leave 0).2 → (o = none → q.rv = []) → Sep H' (xA c :: grA c.g c.m X' :: gl 1 o (q.rv.map W) :: L) → R (.tuple #[.agg #[I q.no, .slice (addr o) q.rv.length 0, W q.rk, I q.el], I k]) H') :
    CA en F.crossbarlaw16_one_alone [.agg #[P c.m, P c.g, P c.x], I kd, W ky, W v, I fl] H R := by
  apply vc_crossbarlaw16_one_alone
  refine Sep.nw h fun i1 H2 h2 => Sep.nw h2 fun i3 H4 h4 => ⟨_, Sep.ld1 h4 rfl, ?_⟩
  refine genter_s (Sep.up3 h4) fun H7 X7 e7 h7 => ⟨_, rfl, Sep.nw h7 fun i9 H10 h10 => Sep.st0 h10 (Nat.le_of_ble_eq_true rfl) fun H11 h11 => ?_⟩
  rw [hent]
  -- i9 gr i3 i1 x
  refine ⟨fun _ H17 => ∃ (va : Option Addr) (vs : List (BitVec 64)) (Lv : List Asr) (n : Nat), n = vs.length ∧ vs.headD 0 = (if kd = 2 then v else 0) ∧ (∀ w, vs.head? = some w → ∃ b, va = some ⟨b, 0, none⟩ ∧ bx b (.cells true 1 [W w]) ∈ Lv) ∧
    Sep H17 (bx i9 (.cells true 0 [I kd, W ky, .slice va n 0, I fl, I 0]) :: bx i3 (.cells true 0 [I 0, .slice none 0 0, .int .u64 0, I 0]) :: bx i1 (.cells true 0 [P c.m, P c.g, P c.x]) :: xA c :: grA c.g c.m X7 :: many Lv :: L), ?_, ?_⟩
  · refine cond_of (fun e => Sep.nw h11 fun i13 H14 h14 => Sep.st1 h14 (Nat.le_of_ble_eq_true rfl) fun H15 h15 => ?_) fun e => ?_
    · have e : kd = 2 := by simpa using e
      refine ⟨some ⟨i13, 0, none⟩, [v], [bx i13 (.cells true 1 [W v])], 1, rfl, by rw [if_pos e]; rfl, fun w hw => ⟨i13, rfl, by simp at hw; subst hw; exact .head _⟩, ?_⟩
      have h16 : Sep H15 (many [bx i13 (.cells true 1 [W v])] :: bx i9 _ :: grA c.g c.m X7 :: bx i3 _ :: bx i1 _ :: xA c :: L) := Sep.many_iff.2 h15
      exact Sep.pick h16 6 [1, 3, 4, 5, 2, 0] (by decide)
    · have e : ¬ kd = 2 := by simpa using e
      refine ⟨none, [], [], 0, rfl, by rw [if_neg e]; rfl, fun w hw => by simp at hw, ?_⟩
      have h16 : Sep H11 (many [] :: bx i9 _ :: grA c.g c.m X7 :: bx i3 _ :: bx i1 _ :: xA c :: L) := Sep.many0 h11
      exact Sep.pick h16 6 [1, 3, 4, 5, 2, 0] (by decide)
  · rintro ys H17 ⟨va, vs, Lv, n, rfl, hv0, hvh, h17⟩
    refine ⟨_, Sep.ld2 h17 rfl, _, _, _, _, _, _, Sep.lds0 h17 rfl, ?_⟩
    refine Begin_s (Sep.pick h17 6 [3, 4, 1, 2, 5] (by decide)) rfl (fun w hw => ?_) fun H26 r PL b o26 => ⟨_, rfl, cond_no rfl ?_⟩
    · obtain ⟨b, e, hm⟩ := hvh w hw
      exact ⟨b, 0, e, fun H' hs => pld (k := 2) hs rfl hm rfl⟩
    rw [hv0] at o26
    refine use_crossbarlaw16_one_alone_0 (fun n t11 t15 t16 H => ∃ (k e : Nat) (q : Qr) (PL : List Asr) (X : Gx), n = 998 - k ∧ t11 = 0 ∧ t15 = (e : Int) ∧ t16 = ((k + 1 : Nat) : Int) ∧ e ≤ k ∧ Fin' c Q k e q X.G ∧
      Rk H PL r c q X (bx i3 (.cells true 0 [I 0, .slice none 0 0, .int .u64 0, I 0]) :: bx i1 (.cells true 0 [P c.m, P c.g, P c.x]) :: many Lv :: L)) 998 ⟨0, 0, _, PL, X7, rfl, rfl, rfl, rfl, Nat.le_refl _, by rw [e7]; exact hF b, o26⟩ ?_
    rintro n t11 t15 t16 ys2 H1 ⟨k, e, q, PL1, X1, rfl, rfl, rfl, rfl, hek, hfin, o1⟩
    cases hfin with
    | step hd hn hf hl hk hx1 hx2 =>
    refine cond_yes (decide_eq_true (by omega)) ?_
    refine step_s o1 hl hf hn fun H2 PL2 X2 b eX o2 => ⟨_, _, rfl, ?_⟩
    have et : q.tells (q.step c X1.G b).1 = ((q.step c X1.G b).1.eff, (q.step c X1.G b).1.dn) := by unfold Qr.tells; rw [if_neg (by rw [hd]; exact Bool.false_ne_true)]
    rw [et]
    show cond (q.step c X1.G b).1.eff _ _
    have hx1 := hx1 b
    have hx2 := hx2 b
    rw [← eX] at hx1 hx2
    generalize (q.step c X1.G b).1 = q2 at *
    have ew : IntKind.i64.wrap ((e : Int) + 1) = ((e + 1 : Nat) : Int) := by rw [wrap_i64 (by omega)]; omega
    have ek : IntKind.i64.wrap (((k + 1 : Nat) : Int) + 1) = ((k + 1 + 1 : Nat) : Int) := by rw [wrap_i64 (by omega)]; omega
    cases he : q2.eff with
    | true =>
      rw [he] at hx1 hx2
      refine cond_yes rfl (cond_of (fun d => cond_yes rfl ?_) fun d => ?_)
      · obtain ⟨hy1, hy2, hy3⟩ := hx1 d
        have hy1 : e + 1 = 1 := hy1
        obtain ⟨sa, nv, hrv, hnv, hs⟩ := o2.ex
        refine ⟨_, Sep.ld6 hs rfl, rleave_s o2 hy3 fun H7 X7 f n e7 o7 => ⟨_, _, rfl, cond_no (by rw [ew, hy1]; rfl) ?_⟩⟩
        refine rres_s o7 fun H12 oo ho o12 => ⟨_, _, _, _, _, rfl, ?_⟩
        obtain ⟨sa, nv, hrv, hnv, hs⟩ := o12.ex
        refine Sep.st6 hs (Nat.le_of_ble_eq_true rfl) fun H18 h18 => ?_
        refine asInt_in ⟨_, _, _, _, _, Sep.lds6 h18 rfl, ?_⟩
        exact hR H18 X7 (k + 1) q2 X2.G oo hy2 e7 ho (Sep.pick h18 9 [2, 3, 5] (by decide))
      · refine ⟨998 - (k + 1), by omega, k + 1, e + 1, q2, PL2, X2, rfl, rfl, ew, ek, by omega, hx2 d, o2⟩
    | false =>
      rw [he] at hx1 hx2
      refine cond_no rfl (cond_of (fun d => cond_yes rfl ?_) fun d => ?_)
      · obtain ⟨hy1, hy2, hy3⟩ := hx1 d
        have hy1 : e = 1 := hy1
        obtain ⟨sa, nv, hrv, hnv, hs⟩ := o2.ex
        refine ⟨_, Sep.ld6 hs rfl, rleave_s o2 hy3 fun H7 X7 f n e7 o7 => ⟨_, _, rfl, cond_no (by rw [hy1]; rfl) ?_⟩⟩
        refine rres_s o7 fun H12 oo ho o12 => ⟨_, _, _, _, _, rfl, ?_⟩
        obtain ⟨sa, nv, hrv, hnv, hs⟩ := o12.ex
        refine Sep.st6 hs (Nat.le_of_ble_eq_true rfl) fun H18 h18 => ?_
        refine asInt_in ⟨_, _, _, _, _, Sep.lds6 h18 rfl, ?_⟩
        exact hR H18 X7 (k + 1) q2 X2.G oo hy2 e7 ho (Sep.pick h18 9 [2, 3, 5] (by decide))
      · refine ⟨998 - (k + 1), by omega, k + 1, e, q2, PL2, X2, rfl, rfl, rfl, ek, by omega, hx2 d, o2⟩
end Go.Proofs.YtjggeoghlicmdaaGreat

/-
  The list of an lru map in memory: what the words of its regions say (no program in sight).
-/
namespace Go.Proofs.YtjggeoghlicmdaaGreat
open Go Go.AS Go.RowKit
set_option linter.unusedVariables false
abbrev Wd := BitVec 64

/-- The words of a region. -/
def Sm.V (S : Sm) (h : Int) : Option (List Wd) := (S.find h).map Reg.ws

theorem find_map_upd (S : Sm) (a : Int) (i : Nat) (w : Wd) (h : Int) : (S.upd a i w).find h = (S.find h).map fun r => if r.h = a then { r with ws := r.ws.set i w } else r := by
  unfold Sm.find Sm.upd
  simp only
  rw [List.find?_map]
  have : ((fun r : Reg => r.h == h) ∘ fun r => if r.h = a then { r with ws := r.ws.set i w } else r) = fun r => r.h == h := by
    funext r; simp only [Function.comp]; split <;> rfl
  rw [this]

theorem V_acc {S : Sm} {a : Int} {ws : List Wd} {i : Nat} (hv : S.V a = some ws) (hi : i < ws.length) (f : Wd → Wd) :
    (S.acc a i true f).1 = (ws.getD i 0, true) ∧ (∀ h, (S.acc a i true f).2.V h = if h = a then some (ws.set i (f (ws.getD i 0))) else S.V h) ∧ (S.acc a i true f).2.bads = S.bads ∧ (S.acc a i true f).2.room = S.room ∧ (S.acc a i true f).2.count = wr (S.count + 1) := by
  unfold Sm.V at hv
  cases hf : S.find a with
  | none => rw [hf] at hv; cases hv
  | some r =>
    rw [hf] at hv
    have hw : r.ws = ws := by simpa using hv
    have e : S.acc a i true f = ((ws.getD i 0, true), S.cnt.upd a i (f (ws.getD i 0))) := by
      unfold Sm.acc; rw [hf]; simp only
      rw [hw, if_pos ⟨trivial, by omega, by omega⟩]
      rfl
    rw [e]
    refine ⟨rfl, fun h => ?_, rfl, rfl, rfl⟩
    unfold Sm.V
    rw [find_map_upd]
    show Option.map Reg.ws (Option.map _ (S.find h)) = _
    by_cases eh : h = a
    · subst eh
      rw [hf, if_pos rfl]
      have hr : r.h = h := (find_mem hf).2
      simp only [Option.map_some, hr, if_true, hw]
    · rw [if_neg eh]
      cases hf2 : S.find h with
      | none => rfl
      | some r2 =>
        have hr : r2.h = h := (find_mem hf2).2
        simp only [Option.map_some, Option.some.injEq]
        rw [if_neg (by rw [hr]; exact eh)]

theorem V_mk {S : Sm} (b n : Nat) (hf : S.fresh) (h : Int) : (S.mk' b n).V h = if h = wr (S.made + 1) then some (List.replicate n 0) else S.V h := by
  unfold Sm.V Sm.find Sm.mk'
  simp only
  rw [List.find?_append]
  by_cases e : h = wr (S.made + 1)
  · subst e
    have : S.regs.find? (fun r => r.h == wr (S.made + 1)) = none := hf
    rw [this, if_pos rfl]
    simp
  · rw [if_neg e]
    have : ([⟨wr (S.made + 1), b, S.cl, List.replicate n 0⟩] : List Reg).find? (fun r => r.h == h) = none := by
      rw [List.find?_eq_none]
      intro r hr
      simp only [List.mem_singleton] at hr
      subst hr
      simp only [beq_iff_eq]
      exact fun h2 => e h2.symm
    cases hx : S.regs.find? (fun r => r.h == h) with
    | some r => rfl
    | none =>
      simp only [Option.none_or, Option.map_none]
      simp only [Option.map_eq_none_iff]
      first | exact this | (simp only [List.find?_cons, List.find?_nil]; split <;> simp_all)

theorem V_free (S : Sm) (a h : Int) : (S.free a).2.V h = if h = a then none else S.V h := by
  unfold Sm.V Sm.free Sm.find
  simp only
  rw [List.find?_filter]
  by_cases e : h = a
  · rw [if_pos e]
    have : S.regs.find? (fun r => decide ((r.h != a) = true ∧ (r.h == h) = true)) = none := by
      rw [List.find?_eq_none]
      intro r _
      subst e
      simp only [bne_iff_ne, ne_eq, beq_iff_eq, decide_eq_true_eq, not_and]
      exact fun h1 h2 => h1 h2
    rw [this]; rfl
  · rw [if_neg e]
    have : (fun r : Reg => decide ((r.h != a) = true ∧ (r.h == h) = true)) = fun r => r.h == h := by
      funext r
      rw [Bool.eq_iff_iff]
      simp only [bne_iff_ne, ne_eq, beq_iff_eq, decide_eq_true_eq]
      exact ⟨fun h1 => h1.2, fun h1 => ⟨fun h2 => e (by rw [← h1, h2]), h1⟩⟩
    rw [this]
theorem V_frees : ∀ (hs : List Int) (S : Sm) (h : Int), (frees S hs).V h = if h ∈ hs then none else S.V h
  | [], S, h => rfl
  | a :: hs, S, h => by
    show (frees (S.free a).2 hs).V h = _
    rw [V_frees hs, V_free]
    by_cases h1 : h = a
    · simp [h1]
    · simp [h1]
theorem V_some_mem {S : Sm} {h : Int} {ws : List Wd} (hv : S.V h = some ws) : h ∈ S.regs.map Reg.h := by
  unfold Sm.V at hv
  cases hf : S.find h with
  | none => rw [hf] at hv; cases hv
  | some r => exact List.mem_map.2 ⟨r, (find_mem hf).1, (find_mem hf).2⟩
theorem size_V {S : Sm} {h : Int} {ws : List Wd} (hv : S.V h = some ws) : S.size h = ws.length := by
  unfold Sm.V at hv
  unfold Sm.size
  cases hf : S.find h with
  | none => rw [hf] at hv; cases hv
  | some r => rw [hf] at hv; simp only [Option.map_some, Option.some.injEq] at hv; rw [← hv]
theorem frees_keys : ∀ (hs : List Int) (S : Sm), (frees S hs).regs.map Reg.h = (S.regs.map Reg.h).filter fun h => !hs.contains h
  | [], S => (List.filter_eq_self.2 fun x _ => by simp).symm
  | a :: hs, S => by
    show (frees (S.free a).2 hs).regs.map Reg.h = _
    rw [frees_keys hs]
    have : (S.free a).2.regs.map Reg.h = (S.regs.map Reg.h).filter fun h => h != a := by
      unfold Sm.free; simp only [List.filter_map]; rfl
    rw [this, List.filter_filter]
    refine List.filter_congr fun x _ => ?_
    rw [Bool.eq_iff_iff]
    simp only [Bool.and_eq_true, Bool.not_eq_true', List.contains_eq_mem, decide_eq_false_iff_not, bne_iff_ne, ne_eq, List.mem_cons, not_or]
    exact ⟨fun h => ⟨h.2, h.1⟩, fun h => ⟨h.2, h.1⟩⟩
theorem frees_made : ∀ (hs : List Int) (S : Sm), (frees S hs).made = S.made
  | [], S => rfl
  | a :: hs, S => by show (frees (S.free a).2 hs).made = _; rw [frees_made hs]; rfl
theorem frees_bads : ∀ (hs : List Int) (S : Sm), (frees S hs).bads = S.bads
  | [], S => rfl
  | a :: hs, S => by show (frees (S.free a).2 hs).bads = _; rw [frees_bads hs]; rfl
theorem frees_room : ∀ (hs : List Int) (S : Sm), hs.Nodup → (∀ h ∈ hs, S.size h = 3) → 0 ≤ S.room → S.room + 3 * hs.length < 4611686018427387904 → (frees S hs).room = S.room + 3 * hs.length
  | [], S, _, _, _, _ => by simp [frees]
  | a :: hs, S, nd, hz, h0, h1 => by
    rw [List.nodup_cons] at nd
    have hl : ((a :: hs).length : Int) = hs.length + 1 := by simp
    rw [hl] at h1 ⊢
    have e : (S.free a).2.room = S.room + 3 := by
      show wr (S.room + S.size a) = _
      rw [hz a (by simp), wrs (by omega)]; rfl
    show (frees (S.free a).2 hs).room = _
    rw [frees_room hs (S.free a).2 nd.2 (fun h hh => ?_) (by rw [e]; omega) (by rw [e]; omega), e]
    · omega
    · have hne : h ≠ a := fun e => nd.1 (e ▸ hh)
      have := hz h (by simp [hh])
      unfold Sm.size Sm.free Sm.find at *
      simp only at *
      rw [List.find?_filter]
      have e2 : (fun r : Reg => decide ((r.h != a) = true ∧ (r.h == h) = true)) = fun r => r.h == h := by
        funext r
        rw [Bool.eq_iff_iff]
        simp only [bne_iff_ne, ne_eq, beq_iff_eq, decide_eq_true_eq]
        exact ⟨fun h1 => h1.2, fun h1 => ⟨fun h2 => hne (by rw [← h1, h2]), h1⟩⟩
      rw [e2]; exact this

/-! ### The list -/
structure El where
  h : Int
  k : Wd
def first : List El → Wd
  | [] => 0
  | e :: _ => BitVec.ofInt 64 e.h
def Link (S : Sm) : List El → Prop
  | [] => True
  | e :: l => (∃ v, S.V e.h = some [e.k, v, first l]) ∧ Link S l
/-- Where what points at the rest stands. -/
def spot (c : Lc) (l : List El) : Int := match l.getLast? with | none => c.h | some e => e.h
def val (S : Sm) (h : Int) : Wd := ((S.V h).getD []).getD 1 0

theorem Link.frame {S S' : Sm} : ∀ {l : List El}, Link S l → (∀ e ∈ l, S'.V e.h = S.V e.h) → Link S' l
  | [], _, _ => trivial
  | e :: l, ⟨⟨v, h1⟩, h2⟩, hf => ⟨⟨v, by rw [hf e (by simp), h1]⟩, h2.frame fun x hx => hf x (by simp [hx])⟩
theorem Link.at' {S : Sm} : ∀ {l1 : List El} {e : El} {l2 : List El}, Link S (l1 ++ e :: l2) → ∃ v, S.V e.h = some [e.k, v, first l2]
  | [], e, l2, h => h.1
  | a :: l1, e, l2, h => Link.at' (l1 := l1) h.2
/-- A value changes. -/
theorem Link.val {S S' : Sm} {a : Int} : ∀ {l : List El}, Link S l → (∀ h, h ≠ a → S'.V h = S.V h) → (∀ x y z, S.V a = some [x, y, z] → ∃ y', S'.V a = some [x, y', z]) → Link S' l
  | [], _, _, _ => trivial
  | e :: l, ⟨⟨v, h1⟩, h2⟩, hf, ha => ⟨by
      by_cases e1 : e.h = a
      · subst e1; exact ha _ _ _ h1
      · exact ⟨v, by rw [hf _ e1, h1]⟩, h2.val hf ha⟩
/-- What stands behind l1 goes, but for m. -/
theorem Link.cut {S S' : Sm} {c : Lc} {m : List El} : ∀ {l1 l2 : List El}, Link S (l1 ++ l2) → ((l1 ++ l2).map El.h).Nodup → (∀ e ∈ l1 ++ m, e.h ≠ spot c l1 → S'.V e.h = S.V e.h) → (∀ e ∈ m, e.h ≠ spot c l1) →
    (∀ x y z, S.V (spot c l1) = some [x, y, z] → l1 ≠ [] → S'.V (spot c l1) = some [x, y, first m]) → Link S m → Link S' (l1 ++ m)
  | [], l2, _, _, hf, hm, _, hl => Link.frame hl fun e he => hf e (by simpa using he) (hm e he)
  | [a], l2, h, nd, hf, hm, hs, hl => by
    obtain ⟨⟨v, h1⟩, h2⟩ := h
    refine ⟨⟨v, hs _ _ _ h1 (by simp)⟩, Link.frame hl fun e he => hf e (List.mem_cons_of_mem _ he) (hm e he)⟩
  | a :: b :: l1, l2, h, nd, hf, hm, hs, hl => by
    obtain ⟨⟨v, h1⟩, h2⟩ := h
    have es : spot c (a :: b :: l1) = spot c (b :: l1) := by unfold spot; rw [List.getLast?_cons_cons]
    rw [es] at hf hm hs
    have na : a.h ≠ spot c (b :: l1) := by
      intro e
      have : spot c (b :: l1) ∈ (b :: l1).map El.h := by
        unfold spot
        cases hg : (b :: l1).getLast? with
        | none => simp at hg
        | some x => exact List.mem_map.2 ⟨x, List.mem_of_getLast? hg, rfl⟩
      rw [List.cons_append, List.map_cons, List.nodup_cons] at nd
      exact nd.1 (by rw [e, List.map_append]; exact List.mem_append_left _ this)
    refine ⟨⟨v, ?_⟩, ?_⟩
    · rw [hf a (by simp) na, h1]; rfl
    · rw [List.cons_append, List.map_cons, List.nodup_cons] at nd
      exact Link.cut (l1 := b :: l1) h2 nd.2 (fun e he => hf e (by simp only [List.cons_append, List.mem_cons] at he ⊢; exact .inr he)) hm (fun x y z h3 _ => hs x y z h3 (by simp)) hl
end Go.Proofs.YtjggeoghlicmdaaGreat

/-
  The list of an lru map in memory: what each access does to it.
-/
namespace Go.Proofs.YtjggeoghlicmdaaGreat
open Go Go.AS Go.RowKit
set_option linter.unusedVariables false

/-- A memory's room; what the lock's words say: the next ticket, the one that is served. -/
structure Cx where
  dq : Wd → Prop
  sv : Wd
def Cx.next (z : Cx) : Cx := { z with sv := z.sv + 1 }

structure Mem (c : Lc) (cap : Cx) (G : Gr) (l : List El) (x : List Int) (cnt : Wd) : Prop where
  ok : Ok G
  lock : ∃ dr, cap.dq dr ∧ G.S.V c.h = some [dr, cap.sv, first l, cnt]
  link : Link G.S l
  len : ∀ h ∈ x ++ G.q.map Wt.h, ∃ p q r, G.S.V h = some [p, q, r]
  perm : (G.S.regs.map Reg.h).Perm (c.h :: (l.map El.h ++ x ++ G.q.map Wt.h))
  rng : ∀ h ∈ G.S.regs.map Reg.h, 1 ≤ h ∧ h ≤ G.S.made
  nd : (G.S.regs.map Reg.h).Nodup
  made : 0 ≤ G.S.made ∧ G.S.made < 2305843009213693952
  room : G.S.room + 3 * (l.length + x.length + G.q.length) = c.cap
  room0 : 0 ≤ G.S.room
  capb : c.cap ≤ 20000
  bads : G.S.bads = 0

variable {c : Lc} {cap : Cx} {G : Gr} {l : List El} {x : List Int} {cnt : Wd}

theorem Mem.nd2 (M : Mem c cap G l x cnt) : (c.h :: (l.map El.h ++ x ++ G.q.map Wt.h)).Nodup := M.perm.nodup_iff.1 M.nd
theorem Mem.qlen (M : Mem c cap G l x cnt) : G.q.length < 10000 := by
  have := M.room; have := M.room0; have := M.capb; omega
theorem Mem.wmade (M : Mem c cap G l x cnt) : wr (G.S.made + 1) = G.S.made + 1 := by have := M.made; exact wrs (by omega)
theorem Mem.fresh (M : Mem c cap G l x cnt) : G.S.fresh := by
  refine find_none_iff.2 fun h => ?_
  have := (M.rng _ h).2
  rw [M.wmade] at this
  omega
theorem Mem.alive (M : Mem c cap G l x cnt) {h : Int} (hm : h ∈ l.map El.h ++ x ++ G.q.map Wt.h) : ∃ p q r, G.S.V h = some [p, q, r] := by
  rw [List.append_assoc] at hm
  rcases List.mem_append.1 hm with hm | hm
  · obtain ⟨e, he, rfl⟩ := List.mem_map.1 hm
    obtain ⟨l1, l2, rfl⟩ := List.append_of_mem he
    obtain ⟨v, hv⟩ := M.link.at'
    exact ⟨_, _, _, hv⟩
  · exact M.len h hm
theorem Mem.ne_c (M : Mem c cap G l x cnt) {h : Int} (hm : h ∈ l.map El.h ++ x ++ G.q.map Wt.h) : h ≠ c.h := fun e => by
  have := M.nd2
  rw [List.nodup_cons] at this
  exact this.1 (e ▸ hm)
theorem Mem.bd (M : Mem c cap G l x cnt) {h : Int} (hm : h ∈ l.map El.h ++ x ++ G.q.map Wt.h) : 1 ≤ h ∧ h ≤ G.S.made :=
  M.rng h (M.perm.mem_iff.2 (List.mem_cons_of_mem _ hm))
theorem Mem.bdc (M : Mem c cap G l x cnt) : 1 ≤ c.h ∧ c.h ≤ G.S.made := M.rng _ (M.perm.mem_iff.2 (List.mem_cons_self ..))

/-- An access that is good. -/
theorem Mem.acc (M : Mem c cap G l x cnt) {a : Int} {i : Nat} {f : Wd → Wd} {ws : List Wd} (hv : G.S.V a = some ws) (hi : i < ws.length) {l' : List El} {x' : List Int} {cnt' : Wd}
    (hlock : ∃ dr, cap.dq dr ∧ (G.S.acc a i true f).2.V c.h = some [dr, cap.sv, first l', cnt']) (hlink : Link (G.S.acc a i true f).2 l')
    (hperm : (l'.map El.h ++ x').Perm (l.map El.h ++ x)) : Mem c cap (G.mem (G.S.acc a i true f).2) l' x' cnt' := by
  obtain ⟨e1, e2, e3, e4, e5⟩ := V_acc hv hi f
  have hl : l'.length + x'.length = l.length + x.length := by have := hperm.length_eq; simpa using this
  have hm : ∀ h, h ∈ x' ++ G.q.map Wt.h → h ∈ l.map El.h ++ x ++ G.q.map Wt.h := fun h hh => by
    rcases List.mem_append.1 hh with hh | hh
    · exact List.mem_append_left _ (hperm.mem_iff.1 (List.mem_append_right _ hh))
    · exact List.mem_append_right _ hh
  refine ⟨⟨⟨M.ok.ind, M.ok.nd, M.ok.ws⟩, M.ok.full⟩, hlock, hlink, fun h hh => ?_, ?_, ?_, ?_, ?_, ?_, ?_, M.capb, ?_⟩
  · obtain ⟨p, q, r, h1⟩ := M.alive (hm h hh)
    show ∃ p q r, (G.S.acc a i true f).2.V h = some [p, q, r]
    rw [e2]
    by_cases e : h = a
    · subst e
      rw [h1] at hv
      simp only [Option.some.injEq] at hv
      subst hv
      rw [if_pos rfl]
      match i, hi with
      | 0, _ => exact ⟨_, _, _, rfl⟩
      | 1, _ => exact ⟨_, _, _, rfl⟩
      | 2, _ => exact ⟨_, _, _, rfl⟩
    · rw [if_neg e]; exact ⟨p, q, r, h1⟩
  · show ((G.S.acc a i true f).2.regs.map Reg.h).Perm _
    rw [acc_keys]
    exact M.perm.trans ((hperm.symm.append_right _).cons _)
  · show ∀ h ∈ (G.S.acc a i true f).2.regs.map Reg.h, 1 ≤ h ∧ h ≤ (G.S.acc a i true f).2.made
    rw [acc_keys, acc_made]; exact M.rng
  · show ((G.S.acc a i true f).2.regs.map Reg.h).Nodup
    rw [acc_keys]; exact M.nd
  · show 0 ≤ (G.S.acc a i true f).2.made ∧ (G.S.acc a i true f).2.made < _
    rw [acc_made]; exact M.made
  · show (G.S.acc a i true f).2.room + _ = _
    rw [e4]
    have := M.room
    show G.S.room + 3 * ((l'.length : Int) + x'.length + G.q.length) = c.cap
    omega
  · show 0 ≤ (G.S.acc a i true f).2.room
    rw [e4]; exact M.room0
  · show (G.S.acc a i true f).2.bads = 0
    rw [e3]; exact M.bads

theorem V_acc0 {S : Sm} {a : Int} {ws : List Wd} (hv : S.V a = some ws) (hi : 0 < ws.length) (f : Wd → Wd) :
    (S.acc a 0 true f).1 = (ws.getD 0 0, true) ∧ (∀ h, (S.acc a 0 true f).2.V h = if h = a then some (ws.set 0 (f (ws.getD 0 0))) else S.V h) ∧ (S.acc a 0 true f).2.bads = S.bads ∧ (S.acc a 0 true f).2.room = S.room ∧ (S.acc a 0 true f).2.count = wr (S.count + 1) := V_acc (i := 0) hv hi f
theorem Mem.acc0 (M : Mem c cap G l x cnt) {a : Int} {f : Wd → Wd} {ws : List Wd} (hv : G.S.V a = some ws) (hi : 0 < ws.length) {l' : List El} {x' : List Int} {cnt' : Wd}
    (hlock : ∃ dr, cap.dq dr ∧ (G.S.acc a 0 true f).2.V c.h = some [dr, cap.sv, first l', cnt']) (hlink : Link (G.S.acc a 0 true f).2 l')
    (hperm : (l'.map El.h ++ x').Perm (l.map El.h ++ x)) : Mem c cap (G.mem (G.S.acc a 0 true f).2) l' x' cnt' := M.acc (i := 0) hv hi hlock hlink hperm
theorem V_acc1 {S : Sm} {a : Int} {ws : List Wd} (hv : S.V a = some ws) (hi : 1 < ws.length) (f : Wd → Wd) :
    (S.acc a 1 true f).1 = (ws.getD 1 0, true) ∧ (∀ h, (S.acc a 1 true f).2.V h = if h = a then some (ws.set 1 (f (ws.getD 1 0))) else S.V h) ∧ (S.acc a 1 true f).2.bads = S.bads ∧ (S.acc a 1 true f).2.room = S.room ∧ (S.acc a 1 true f).2.count = wr (S.count + 1) := V_acc (i := 1) hv hi f
theorem Mem.acc1 (M : Mem c cap G l x cnt) {a : Int} {f : Wd → Wd} {ws : List Wd} (hv : G.S.V a = some ws) (hi : 1 < ws.length) {l' : List El} {x' : List Int} {cnt' : Wd}
    (hlock : ∃ dr, cap.dq dr ∧ (G.S.acc a 1 true f).2.V c.h = some [dr, cap.sv, first l', cnt']) (hlink : Link (G.S.acc a 1 true f).2 l')
    (hperm : (l'.map El.h ++ x').Perm (l.map El.h ++ x)) : Mem c cap (G.mem (G.S.acc a 1 true f).2) l' x' cnt' := M.acc (i := 1) hv hi hlock hlink hperm
theorem V_acc2 {S : Sm} {a : Int} {ws : List Wd} (hv : S.V a = some ws) (hi : 2 < ws.length) (f : Wd → Wd) :
    (S.acc a 2 true f).1 = (ws.getD 2 0, true) ∧ (∀ h, (S.acc a 2 true f).2.V h = if h = a then some (ws.set 2 (f (ws.getD 2 0))) else S.V h) ∧ (S.acc a 2 true f).2.bads = S.bads ∧ (S.acc a 2 true f).2.room = S.room ∧ (S.acc a 2 true f).2.count = wr (S.count + 1) := V_acc (i := 2) hv hi f
theorem Mem.acc2 (M : Mem c cap G l x cnt) {a : Int} {f : Wd → Wd} {ws : List Wd} (hv : G.S.V a = some ws) (hi : 2 < ws.length) {l' : List El} {x' : List Int} {cnt' : Wd}
    (hlock : ∃ dr, cap.dq dr ∧ (G.S.acc a 2 true f).2.V c.h = some [dr, cap.sv, first l', cnt']) (hlink : Link (G.S.acc a 2 true f).2 l')
    (hperm : (l'.map El.h ++ x').Perm (l.map El.h ++ x)) : Mem c cap (G.mem (G.S.acc a 2 true f).2) l' x' cnt' := M.acc (i := 2) hv hi hlock hlink hperm
theorem V_acc3 {S : Sm} {a : Int} {ws : List Wd} (hv : S.V a = some ws) (hi : 3 < ws.length) (f : Wd → Wd) :
    (S.acc a 3 true f).1 = (ws.getD 3 0, true) ∧ (∀ h, (S.acc a 3 true f).2.V h = if h = a then some (ws.set 3 (f (ws.getD 3 0))) else S.V h) ∧ (S.acc a 3 true f).2.bads = S.bads ∧ (S.acc a 3 true f).2.room = S.room ∧ (S.acc a 3 true f).2.count = wr (S.count + 1) := V_acc (i := 3) hv hi f
theorem Mem.acc3 (M : Mem c cap G l x cnt) {a : Int} {f : Wd → Wd} {ws : List Wd} (hv : G.S.V a = some ws) (hi : 3 < ws.length) {l' : List El} {x' : List Int} {cnt' : Wd}
    (hlock : ∃ dr, cap.dq dr ∧ (G.S.acc a 3 true f).2.V c.h = some [dr, cap.sv, first l', cnt']) (hlink : Link (G.S.acc a 3 true f).2 l')
    (hperm : (l'.map El.h ++ x').Perm (l.map El.h ++ x)) : Mem c cap (G.mem (G.S.acc a 3 true f).2) l' x' cnt' := M.acc (i := 3) hv hi hlock hlink hperm

/-- A load. -/
theorem Mem.load (M : Mem c cap G l x cnt) {a : Int} {i : Nat} {ws : List Wd} (hv : G.S.V a = some ws) (hi : i < ws.length) :
    (G.S.acc a i true id).1.1 = ws.getD i 0 ∧ Mem c cap (G.mem (G.S.acc a i true id).2) l x cnt ∧ ∀ h, (G.S.acc a i true id).2.V h = G.S.V h := by
  obtain ⟨e1, e2, e3, e4, e5⟩ := V_acc hv hi id
  have same : ∀ h, (G.S.acc a i true id).2.V h = G.S.V h := fun h => by
    rw [e2]
    by_cases e : h = a
    · subst e
      rw [if_pos rfl, hv, List.getD_eq_getElem?_getD, List.getElem?_eq_getElem hi]
      simp
    · rw [if_neg e]
  refine ⟨by rw [e1], M.acc hv hi ?_ ?_ (List.Perm.refl _), same⟩
  · rw [same]; exact M.lock
  · exact M.link.frame fun e _ => same _

theorem Mem.hnc (M : Mem c cap G l x cnt) {e : El} (he : e ∈ l) : e.h ≠ c.h := M.ne_c (List.mem_append_left _ (List.mem_append_left _ (List.mem_map.2 ⟨e, he, rfl⟩)))
/-- How many there are changes. -/
theorem Mem.accC (M : Mem c cap G l x cnt) (f : Wd → Wd) :
    (G.S.acc c.h 3 true f).1 = (cnt, true) ∧ Mem c cap (G.mem (G.S.acc c.h 3 true f).2) l x (f cnt) ∧ ∀ h, h ≠ c.h → (G.S.acc c.h 3 true f).2.V h = G.S.V h := by
  obtain ⟨dr, sv, hv⟩ := M.lock
  obtain ⟨e1, e2, e3, e4, e5⟩ := V_acc3 hv (by simp) f
  have same : ∀ h, h ≠ c.h → (G.S.acc c.h 3 true f).2.V h = G.S.V h := fun h hn => by rw [e2, if_neg hn]
  refine ⟨e1, M.acc3 hv (by simp) ?_ ?_ (List.Perm.refl _), same⟩
  · rw [e2, if_pos rfl]; exact ⟨dr, sv, rfl⟩
  · exact M.link.frame fun e he => same _ (M.hnc he)
/-- The lock's next ticket is drawn. -/
theorem Mem.draw (M : Mem c cap G l x cnt) {dq' : Wd → Prop} (f : Wd → Wd) (hf : ∀ d, cap.dq d → dq' (f d)) :
    ∃ d, cap.dq d ∧ (G.S.acc c.h 0 true f).1 = (d, true) ∧ (∃ d2, G.S.V c.h = some [d, cap.sv, first l, d2]) ∧ Mem c { cap with dq := dq' } (G.mem (G.S.acc c.h 0 true f).2) l x cnt ∧ (G.S.acc c.h 0 true f).2.V c.h = some [f d, cap.sv, first l, cnt] ∧ ∀ h, h ≠ c.h → (G.S.acc c.h 0 true f).2.V h = G.S.V h := by
  obtain ⟨dr, sv, hv⟩ := M.lock
  obtain ⟨e1, e2, e3, e4, e5⟩ := V_acc0 hv (by simp) f
  have same : ∀ h, h ≠ c.h → (G.S.acc c.h 0 true f).2.V h = G.S.V h := fun h hn => by rw [e2, if_neg hn]
  have hc : (G.S.acc c.h 0 true f).2.V c.h = some [f dr, cap.sv, first l, cnt] := by rw [e2, if_pos rfl]; rfl
  have M0 : Mem c { cap with dq := fun d => cap.dq d ∨ dq' d } G l x cnt := ⟨M.ok, ⟨dr, .inl sv, hv⟩, M.link, M.len, M.perm, M.rng, M.nd, M.made, M.room, M.room0, M.capb, M.bads⟩
  have M1 := M0.acc0 (f := f) hv (by simp) (l' := l) (x' := x) (cnt' := cnt) ⟨f dr, .inr (hf dr sv), hc⟩ (M.link.frame fun e he => same _ (M.hnc he)) (List.Perm.refl _)
  exact ⟨dr, sv, e1, ⟨cnt, hv⟩, ⟨M1.ok, ⟨f dr, hf dr sv, hc⟩, M1.link, M1.len, M1.perm, M1.rng, M1.nd, M1.made, M1.room, M1.room0, M1.capb, M1.bads⟩, hc, same⟩
/-- The next one is served. -/
theorem Mem.served (M : Mem c cap G l x cnt) (f : Wd → Wd) (hf : f cap.sv = cap.sv + 1) :
    Mem c cap.next (G.mem (G.S.acc c.h 1 true f).2) l x cnt ∧ ∀ h, h ≠ c.h → (G.S.acc c.h 1 true f).2.V h = G.S.V h := by
  obtain ⟨dr, sv, hv⟩ := M.lock
  obtain ⟨e1, e2, e3, e4, e5⟩ := V_acc1 hv (by simp) f
  have same : ∀ h, h ≠ c.h → (G.S.acc c.h 1 true f).2.V h = G.S.V h := fun h hn => by rw [e2, if_neg hn]
  have hm : ∀ h, h ∈ l.map El.h ++ x ++ G.q.map Wt.h → (G.S.acc c.h 1 true f).2.V h = G.S.V h := fun h hh => same h (M.ne_c hh)
  refine ⟨⟨⟨⟨M.ok.ind, M.ok.nd, M.ok.ws⟩, M.ok.full⟩, ⟨dr, sv, ?_⟩, M.link.frame fun e he => same _ (M.hnc he), fun h hh => ?_, ?_, ?_, ?_, ?_, ?_, ?_, M.capb, ?_⟩, same⟩
  · show (G.S.acc c.h 1 true f).2.V c.h = some [dr, cap.sv + 1, first l, cnt]
    rw [e2, if_pos rfl, ← hf]; rfl
  · show ∃ p q r, (G.S.acc c.h 1 true f).2.V h = some [p, q, r]
    rw [hm h (by rw [List.append_assoc]; exact List.mem_append_right _ hh)]
    exact M.len h hh
  · show ((G.S.acc c.h 1 true f).2.regs.map Reg.h).Perm _
    rw [acc_keys]; exact M.perm
  · show ∀ h ∈ (G.S.acc c.h 1 true f).2.regs.map Reg.h, 1 ≤ h ∧ h ≤ (G.S.acc c.h 1 true f).2.made
    rw [acc_keys, acc_made]; exact M.rng
  · show ((G.S.acc c.h 1 true f).2.regs.map Reg.h).Nodup
    rw [acc_keys]; exact M.nd
  · show 0 ≤ (G.S.acc c.h 1 true f).2.made ∧ (G.S.acc c.h 1 true f).2.made < _
    rw [acc_made]; exact M.made
  · show (G.S.acc c.h 1 true f).2.room + _ = _
    rw [e4]; exact M.room
  · show 0 ≤ (G.S.acc c.h 1 true f).2.room
    rw [e4]; exact M.room0
  · show (G.S.acc c.h 1 true f).2.bads = 0
    rw [e3]; exact M.bads

/-- A value is stored. -/
theorem Mem.stVal (M : Mem c cap G l x cnt) {a : Int} {p v r : Wd} (hv : G.S.V a = some [p, v, r]) (ha : a ∈ l.map El.h ++ x ++ G.q.map Wt.h) (w : Wd) :
    (G.S.acc a 1 true fun _ => w).1.2 = true ∧ Mem c cap (G.mem (G.S.acc a 1 true fun _ => w).2) l x cnt ∧ ∀ h, (G.S.acc a 1 true fun _ => w).2.V h = if h = a then some [p, w, r] else G.S.V h := by
  obtain ⟨e1, e2, e3, e4, e5⟩ := V_acc1 hv (by simp) (fun _ => w)
  refine ⟨by rw [e1], M.acc1 hv (by simp) ?_ ?_ (List.Perm.refl _), e2⟩
  · rw [e2, if_neg (M.ne_c ha).symm]; exact M.lock
  · refine M.link.val (a := a) (fun h hn => by rw [e2, if_neg hn]) fun x y z h3 => ?_
    rw [hv] at h3
    simp only [Option.some.injEq, List.cons.injEq, and_true] at h3
    obtain ⟨rfl, rfl, rfl⟩ := h3
    exact ⟨w, by rw [e2, if_pos rfl]; rfl⟩

/-- A word of an element that is not in the list. -/
theorem Mem.stX (M : Mem c cap G l x cnt) {a : Int} {ws : List Wd} (hv : G.S.V a = some ws) (ha : a ∈ x) {i : Nat} (hi : i < ws.length) (w : Wd) :
    (G.S.acc a i true fun _ => w).1.2 = true ∧ Mem c cap (G.mem (G.S.acc a i true fun _ => w).2) l x cnt ∧ ∀ h, (G.S.acc a i true fun _ => w).2.V h = if h = a then some (ws.set i w) else G.S.V h := by
  obtain ⟨e1, e2, e3, e4, e5⟩ := V_acc hv hi (fun _ => w)
  have ham : a ∈ l.map El.h ++ x ++ G.q.map Wt.h := List.mem_append_left _ (List.mem_append_right _ ha)
  refine ⟨by rw [e1], M.acc hv hi ?_ ?_ (List.Perm.refl _), e2⟩
  · rw [e2, if_neg (M.ne_c ham).symm]; exact M.lock
  · refine M.link.frame fun e he => by
      have hn : e.h ≠ a := fun h => by
        have nd := (List.nodup_cons.1 M.nd2).2
        rw [List.append_assoc] at nd
        exact (List.nodup_append.1 nd).2.2 e.h (List.mem_map.2 ⟨e, he, rfl⟩) a (List.mem_append_left _ ha) h
      rw [e2, if_neg hn]

/-- An element goes out of the list. -/
theorem Mem.unlink {l1 m : List El} {e : El} (M : Mem c cap G (l1 ++ e :: m) x cnt) :
    (G.S.acc (spot c l1) 2 true fun _ => first m).1.2 = true ∧ Mem c cap (G.mem (G.S.acc (spot c l1) 2 true fun _ => first m).2) (l1 ++ m) (e.h :: x) cnt ∧
    (∀ h, val (G.S.acc (spot c l1) 2 true fun _ => first m).2 h = val G.S h ∨ h = c.h) ∧ (G.S.acc (spot c l1) 2 true fun _ => first m).2.V e.h = G.S.V e.h := by
  have nd := (List.nodup_cons.1 M.nd2).2
  rw [List.append_assoc] at nd
  have ndl := (List.nodup_append.1 nd).1
  have he : e.h ∈ (l1 ++ e :: m).map El.h ++ x ++ G.q.map Wt.h := List.mem_append_left _ (List.mem_append_left _ (by simp))
  have hsp : l1 ≠ [] → ∃ a ∈ l1, spot c l1 = a.h := fun h => by
    unfold spot
    cases hg : l1.getLast? with
    | none => rw [List.getLast?_eq_none_iff] at hg; exact absurd hg h
    | some a => exact ⟨a, List.mem_of_getLast? hg, rfl⟩
  have hmem : ∀ y ∈ l1, y.h ∉ (e :: m).map El.h := fun y hy hh => by
    rw [List.map_append] at ndl
    exact (List.nodup_append.1 ndl).2.2 y.h (List.mem_map.2 ⟨y, hy, rfl⟩) y.h hh rfl
  have hns : ∀ y ∈ e :: m, y.h ≠ spot c l1 := fun y hy h => by
    by_cases hl : l1 = []
    · subst hl
      exact M.ne_c (h := y.h) (List.mem_append_left _ (List.mem_append_left _ (List.mem_map.2 ⟨y, hy, rfl⟩))) h
    · obtain ⟨a, ha, e2⟩ := hsp hl
      exact hmem a ha (by rw [← e2, ← h]; exact List.mem_map.2 ⟨y, hy, rfl⟩)
  have hperm : ((l1 ++ m).map El.h ++ e.h :: x).Perm ((l1 ++ e :: m).map El.h ++ x) := by
    simp only [List.map_append, List.map_cons, List.append_assoc]
    refine List.Perm.append_left _ ?_
    exact List.perm_middle
  have hlm : Link G.S m := by
    have := M.link
    clear hperm hns hmem hsp he ndl nd M
    induction l1 with
    | nil => exact this.2
    | cons a l1 ih => exact ih this.2
  by_cases hl : l1 = []
  · subst hl
    obtain ⟨dr, sv, hv⟩ := M.lock
    obtain ⟨e1, e2, e3, e4, e5⟩ := V_acc2 hv (by simp) (fun _ => first m)
    have es : spot c [] = c.h := rfl
    rw [es]
    refine ⟨by rw [e1], M.acc2 hv (by simp) ?_ ?_ hperm, fun h => ?_, ?_⟩
    · rw [e2, if_pos rfl]; exact ⟨dr, sv, rfl⟩
    · exact Link.frame hlm fun y hy => by rw [e2, if_neg (show ¬ y.h = c.h from hns y (List.mem_cons_of_mem _ hy))]
    · by_cases hh : h = c.h
      · exact .inr hh
      · left; unfold val; rw [e2, if_neg hh]
    · rw [e2, if_neg (M.ne_c he)]
  · obtain ⟨a, ha, es⟩ := hsp hl
    have ham : a.h ∈ (l1 ++ e :: m).map El.h ++ x ++ G.q.map Wt.h := List.mem_append_left _ (List.mem_append_left _ (List.mem_map.2 ⟨a, List.mem_append_left _ ha, rfl⟩))
    obtain ⟨p, v, r, hv⟩ := M.alive ham
    rw [← es] at hv
    obtain ⟨e1, e2, e3, e4, e5⟩ := V_acc2 hv (by simp) (fun _ => first m)
    refine ⟨by rw [e1], M.acc2 hv (by simp) ?_ ?_ hperm, fun h => ?_, ?_⟩
    · rw [e2, if_neg (by rw [es]; exact (M.ne_c ham).symm)]
      obtain ⟨dr, sv, h1⟩ := M.lock
      refine ⟨dr, sv, ?_⟩
      rw [h1]
      obtain ⟨b, l1, rfl⟩ : ∃ b l2, l1 = b :: l2 := by
        cases l1 with
        | nil => exact absurd rfl hl
        | cons b l2 => exact ⟨b, l2, rfl⟩
      rfl
    · refine Link.cut M.link ndl (fun y hy hn => by rw [e2, if_neg hn]) (fun y hy => hns y (List.mem_cons_of_mem _ hy)) (fun p' v' r' h3 _ => ?_) hlm
      rw [hv] at h3
      simp only [Option.some.injEq, List.cons.injEq, and_true] at h3
      obtain ⟨rfl, rfl, rfl⟩ := h3
      rw [e2, if_pos rfl]; rfl
    · left
      unfold val
      rw [e2]
      by_cases hh : h = spot c l1
      · subst hh; rw [if_pos rfl, hv]; rfl
      · rw [if_neg hh]
    · rw [e2, if_neg (hns e (by simp))]

/-- An element becomes the first one. -/
theorem Mem.attach {h : Int} {k v : Wd} (M : Mem c cap G l (h :: x) cnt) (hv : G.S.V h = some [k, v, first l]) :
    (G.S.acc c.h 2 true fun _ => BitVec.ofInt 64 h).1.2 = true ∧ Mem c cap (G.mem (G.S.acc c.h 2 true fun _ => BitVec.ofInt 64 h).2) (⟨h, k⟩ :: l) x cnt ∧
    ∀ a, a ≠ c.h → (G.S.acc c.h 2 true fun _ => BitVec.ofInt 64 h).2.V a = G.S.V a := by
  obtain ⟨dr, sv, hc⟩ := M.lock
  obtain ⟨e1, e2, e3, e4, e5⟩ := V_acc2 hc (by simp) (fun _ => BitVec.ofInt 64 h)
  have hh : h ≠ c.h := M.ne_c (List.mem_append_left _ (List.mem_append_right _ (by simp)))
  have same : ∀ a, a ≠ c.h → (G.S.acc c.h 2 true fun _ => BitVec.ofInt 64 h).2.V a = G.S.V a := fun a ha => by rw [e2, if_neg ha]
  refine ⟨by rw [e1], M.acc2 hc (by simp) ?_ ?_ ?_, same⟩
  · rw [e2, if_pos rfl]; exact ⟨dr, sv, rfl⟩
  · refine ⟨⟨v, ?_⟩, M.link.frame fun e he => ?_⟩
    · show Sm.V _ h = _
      rw [same h hh, hv]
    · exact same _ (M.ne_c (List.mem_append_left _ (List.mem_append_left _ (List.mem_map.2 ⟨e, he, rfl⟩))))
  · simp only [List.map_cons, List.cons_append]
    exact List.perm_middle.symm
end Go.Proofs.YtjggeoghlicmdaaGreat

/-
  The list of an lru map in memory: new regions, and those that go.
-/
namespace Go.Proofs.YtjggeoghlicmdaaGreat
open Go Go.AS Go.RowKit
set_option linter.unusedVariables false
variable {c : Lc} {cap : Cx} {G : Gr} {l : List El} {x : List Int} {cnt : Wd}

theorem filter_gone {q : List Wt} (nd : (q.map Wt.h).Nodup) : ((q.map Wt.h).filter fun h => !(gone q).contains h) = (kept q).map Wt.h := by
  rw [List.filter_map]
  have : q.filter ((fun h => !(gone q).contains h) ∘ Wt.h) = kept q := by
    refine List.filter_congr fun w hw => ?_
    simp only [Function.comp]
    rw [Bool.eq_iff_iff]
    simp only [Bool.not_eq_true', List.contains_eq_mem, decide_eq_false_iff_not]
    rw [ne_iff]
    constructor
    · intro h e; exact h (gone_mem.2 ⟨w, hw, e, rfl⟩)
    · intro h e; exact gone_kept nd e (kept_mem.2 ⟨w, hw, h, rfl⟩)
  rw [this]

theorem swept_mem {G1 : Gr} (p : Pre G1) (lock : ∃ dr, cap.dq dr ∧ G1.S.V c.h = some [dr, cap.sv, first l, cnt]) (link : Link G1.S l) (len : ∀ h ∈ x ++ G1.q.map Wt.h, ∃ p q r, G1.S.V h = some [p, q, r])
    (perm : (G1.S.regs.map Reg.h).Perm (c.h :: (l.map El.h ++ x ++ G1.q.map Wt.h))) (rng : ∀ h ∈ G1.S.regs.map Reg.h, 1 ≤ h ∧ h ≤ G1.S.made) (nd : (G1.S.regs.map Reg.h).Nodup)
    (made : 0 ≤ G1.S.made ∧ G1.S.made < 2305843009213693952) (room : G1.S.room + 3 * (l.length + x.length + G1.q.length) = c.cap) (room0 : 0 ≤ G1.S.room) (capb : c.cap ≤ 20000) (bads : G1.S.bads = 0) :
    Mem c cap G1.swept l x cnt ∧ ∀ h, G1.swept.S.V h ≠ none → G1.swept.S.V h = G1.S.V h := by
  have nd2 := perm.nodup_iff.1 nd
  have hV : ∀ h, G1.swept.S.V h = if h ∈ gone G1.q then none else G1.S.V h := fun h => V_frees (gone G1.q) G1.S h
  have hgq : ∀ h ∈ gone G1.q, h ∈ G1.q.map Wt.h := fun h hh => gone_sub hh
  have hng : ∀ h, h ∈ c.h :: (l.map El.h ++ x) → h ∉ gone G1.q := fun h hh hg => by
    have h2 : (c.h :: (l.map El.h ++ x)) ++ G1.q.map Wt.h = c.h :: (l.map El.h ++ x ++ G1.q.map Wt.h) := rfl
    rw [← h2] at nd2
    exact (List.nodup_append.1 nd2).2.2 h hh h (hgq h hg) rfl
  have keys : G1.swept.S.regs.map Reg.h = (G1.S.regs.map Reg.h).filter fun h => !(gone G1.q).contains h := frees_keys _ _
  have hkg := kept_gone G1.q
  have h3 : ∀ h ∈ gone G1.q, G1.S.size h = 3 := fun h hh => by
    obtain ⟨a, b, d, hv⟩ := len h (List.mem_append_right _ (hgq h hh))
    rw [size_V hv]; rfl
  have hroom : G1.swept.S.room = G1.S.room + 3 * (gone G1.q).length := frees_room (gone G1.q) G1.S (gone_nd p.nd) h3 room0 (by omega)
  refine ⟨⟨p.swept, ?_, ?_, ?_, ?_, ?_, ?_, ?_, ?_, ?_, capb, ?_⟩, fun h hn => ?_⟩
  · rw [hV, if_neg (hng _ (List.mem_cons_self ..))]; exact lock
  · exact link.frame fun e he => by rw [hV, if_neg (hng _ (List.mem_cons_of_mem _ (List.mem_append_left _ (List.mem_map.2 ⟨e, he, rfl⟩))))]
  · intro h hh
    rcases List.mem_append.1 hh with hh | hh
    · rw [hV, if_neg (hng _ (List.mem_cons_of_mem _ (List.mem_append_right _ hh)))]
      exact len h (List.mem_append_left _ hh)
    · rw [hV, if_neg (fun hg => gone_kept p.nd hg hh)]
      exact len h (List.mem_append_right _ (kept_sub hh))
  · rw [keys]
    refine (perm.filter _).trans ?_
    rw [show (c.h :: (l.map El.h ++ x ++ G1.q.map Wt.h)) = (c.h :: (l.map El.h ++ x)) ++ G1.q.map Wt.h from rfl, List.filter_append, filter_gone p.nd]
    have : (c.h :: (l.map El.h ++ x)).filter (fun h => !(gone G1.q).contains h) = c.h :: (l.map El.h ++ x) := List.filter_eq_self.2 fun h hh => by
      have := hng h hh
      simpa using this
    rw [this]
    exact List.Perm.refl _
  · rw [keys]
    intro h hh
    have := rng h (List.mem_filter.1 hh).1
    show 1 ≤ h ∧ h ≤ (frees G1.S (gone G1.q)).made
    rw [frees_made]; exact this
  · rw [keys]; exact nd.filter _
  · show 0 ≤ (frees G1.S (gone G1.q)).made ∧ (frees G1.S (gone G1.q)).made < _
    rw [frees_made]; exact made
  · rw [hroom]
    show G1.S.room + 3 * ((gone G1.q).length : Int) + 3 * ((l.length : Int) + x.length + (kept G1.q).length) = c.cap
    omega
  · rw [hroom]; omega
  · show (frees G1.S (gone G1.q)).bads = 0
    rw [frees_bads]; exact bads
  · rw [hV] at hn ⊢
    by_cases hg : h ∈ gone G1.q
    · rw [if_pos hg] at hn; exact absurd rfl hn
    · rw [if_neg hg]

/-- An element that goes waits, or its region goes. -/
theorem Mem.defer {h : Int} (M : Mem c cap G l (h :: x) cnt) (b : Nat) :
    Mem c cap (G.defer h b).2 l x cnt ∧ (∀ a, (G.defer h b).2.S.V a ≠ none → (G.defer h b).2.S.V a = G.S.V a) ∧ (G.defer h b).2.ins = G.ins ∧ (G.defer h b).2.q = kept (G.q ++ [⟨h, b, G.ins⟩]) := by
  obtain ⟨p1, p2, p3, hv⟩ := M.len h (by simp)
  have hs : G.S.size h ≠ 0 := by rw [size_V hv]; simp
  have nd := (List.nodup_cons.1 M.nd2).2
  have hq : h ∉ G.q.map Wt.h := fun hh => by
    exact (List.nodup_append.1 nd).2.2 h (List.mem_append_right _ (by simp)) h hh rfl
  have e : G.defer h b = (gone (G.add h b).q, (G.add h b).swept) := if_neg (by simp only [not_or]; exact ⟨hs, hq⟩)
  rw [e]
  have hm : (G.add h b).q.map Wt.h = G.q.map Wt.h ++ [h] := by show (G.q ++ [_]).map Wt.h = _; rw [List.map_append]; rfl
  have hlen : ((G.add h b).q.length : Int) = G.q.length + 1 := by show ((G.q ++ [_]).length : Int) = _; simp
  obtain ⟨M', f⟩ := swept_mem (c := c) (cap := cap) (l := l) (x := x) (cnt := cnt) (M.ok.add (mb := b) h hq) M.lock M.link (fun a ha => M.len a (by
      rw [hm] at ha
      simp only [List.mem_append, List.mem_cons, List.not_mem_nil, or_false, List.cons_append] at ha ⊢
      rcases ha with ha | ha | ha
      · exact .inr (.inl ha)
      · exact .inr (.inr ha)
      · exact .inl ha)) (M.perm.trans (by
      rw [hm]
      refine List.Perm.cons _ ?_
      simp only [List.append_assoc, List.cons_append]
      refine List.Perm.append_left _ ?_
      have : (x ++ (G.q.map Wt.h ++ [h])) = (x ++ G.q.map Wt.h) ++ [h] := by simp
      rw [this]
      exact (List.perm_append_comm (l₁ := [h]) (l₂ := x ++ G.q.map Wt.h))))
    M.rng M.nd M.made (by
      have := M.room
      rw [hlen]
      simp only [List.length_cons] at this
      show G.S.room + _ = c.cap
      omega) M.room0 M.capb M.bads
  exact ⟨M', f, rfl, rfl⟩

theorem Mem.leave (M : Mem c cap G l x cnt) (a : Int) :
    Mem c cap (G.leave a).2 l x cnt ∧ ∀ h, (G.leave a).2.S.V h ≠ none → (G.leave a).2.S.V h = G.S.V h := by
  unfold Gr.leave
  split
  · have hm : (G.left a).q.map Wt.h = G.q.map Wt.h := map_er a G.q
    have hl : (G.left a).q.length = G.q.length := by show (G.q.map (er a)).length = _; simp
    exact swept_mem M.ok.left M.lock M.link (by rw [hm]; exact M.len) (by rw [hm]; exact M.perm) M.rng M.nd M.made (by rw [hl]; exact M.room) M.room0 M.capb M.bads
  · exact ⟨M, fun _ _ => rfl⟩
theorem Mem.enter (M : Mem c cap G l x cnt) (a : Int) : Mem c cap (G.enter a).2 l x cnt ∧ (G.enter a).2.S = G.S ∧ (G.enter a).2.q = G.q := by
  have ok := M.ok.enter (a := a)
  have e1 : (G.enter a).2.S = G.S := by unfold Gr.enter; split <;> rfl
  have e2 : (G.enter a).2.q = G.q := by unfold Gr.enter; split <;> rfl
  refine ⟨⟨ok, ?_, ?_, ?_, ?_, ?_, ?_, ?_, ?_, ?_, M.capb, ?_⟩, e1, e2⟩
  · rw [e1]; exact M.lock
  · rw [e1]; exact M.link
  · rw [e1, e2]; exact M.len
  · rw [e1, e2]; exact M.perm
  · rw [e1]; exact M.rng
  · rw [e1]; exact M.nd
  · rw [e1]; exact M.made
  · rw [e1, e2]; exact M.room
  · rw [e1]; exact M.room0
  · rw [e1]; exact M.bads

/-- A new region. -/
theorem Mem.make (M : Mem c cap G l x cnt) (hm : G.S.made < 2305843009213693951) (b : Nat) :
    (G.S.room < 3 ∧ G.S.make b 3 = ((0, 5), G.S)) ∨
    (3 ≤ G.S.room ∧ (G.S.make b 3).1 = (G.S.made + 1, 0) ∧ Mem c cap (G.mem (G.S.make b 3).2) l ((G.S.made + 1) :: x) cnt ∧ (G.S.make b 3).2.V (G.S.made + 1) = some [0, 0, 0] ∧
      (∀ h, h ≠ G.S.made + 1 → (G.S.make b 3).2.V h = G.S.V h) ∧ (G.S.make b 3).2.made = G.S.made + 1) := by
  by_cases hr : G.S.room < 3
  · left; refine ⟨hr, ?_⟩
    unfold Sm.make
    rw [if_neg (by omega), if_pos hr]
  · right
    have e : G.S.make b 3 = ((wr (G.S.made + 1), 0), G.S.mk' b 3) := by
      unfold Sm.make
      rw [if_neg (by omega), if_neg hr]; rfl
    have hv := V_mk b 3 M.fresh
    rw [M.wmade] at hv
    rw [e]
    have emade : (G.S.mk' b 3).made = G.S.made + 1 := M.wmade
    have eroom : (G.S.mk' b 3).room = G.S.room - 3 := by
      show wr (G.S.room - ((3 : Nat) : Int)) = _
      have := M.room; have := M.room0; have := M.capb
      rw [wrs (by omega)]; rfl
    have ekeys : (G.S.mk' b 3).regs.map Reg.h = G.S.regs.map Reg.h ++ [G.S.made + 1] := by
      show (G.S.regs ++ [_]).map Reg.h = _
      rw [List.map_append]
      show _ ++ [wr (G.S.made + 1)] = _
      rw [M.wmade]
    have hne : ∀ h ∈ G.S.regs.map Reg.h, h ≠ G.S.made + 1 := fun h hh e => by have := (M.rng h hh).2; omega
    have hold : ∀ h ∈ c.h :: (l.map El.h ++ x ++ G.q.map Wt.h), h ≠ G.S.made + 1 := fun h hh => hne h (M.perm.mem_iff.2 hh)
    refine ⟨by omega, by rw [M.wmade], ⟨⟨⟨M.ok.ind, M.ok.nd, M.ok.ws⟩, M.ok.full⟩, ?_, ?_, ?_, ?_, ?_, ?_, ?_, ?_, ?_, M.capb, M.bads⟩, ?_, fun h hh => ?_, emade⟩
    · show ∃ dr, cap.dq dr ∧ (G.S.mk' b 3).V c.h = _
      rw [hv, if_neg (hold _ (List.mem_cons_self ..))]; exact M.lock
    · exact M.link.frame fun e he => by
        show (G.S.mk' b 3).V e.h = _
        rw [hv, if_neg (hold _ (List.mem_cons_of_mem _ (List.mem_append_left _ (List.mem_append_left _ (List.mem_map.2 ⟨e, he, rfl⟩)))))]
    · intro h hh
      show ∃ p q r, (G.S.mk' b 3).V h = _
      by_cases e : h = G.S.made + 1
      · rw [hv, if_pos e]; exact ⟨0, 0, 0, rfl⟩
      · rw [hv, if_neg e]
        refine M.len h ?_
        simp only [List.cons_append, List.mem_cons] at hh
        exact hh.resolve_left e
    · show ((G.S.mk' b 3).regs.map Reg.h).Perm _
      rw [ekeys]
      refine (List.perm_append_comm.trans ((M.perm.cons (G.S.made + 1)).trans ?_))
      show ((G.S.made + 1) :: c.h :: _).Perm _
      refine (List.Perm.swap _ _ _).trans (List.Perm.cons _ ?_)
      simp only [List.append_assoc, List.cons_append]
      exact List.perm_middle.symm
    · show ∀ h ∈ (G.S.mk' b 3).regs.map Reg.h, 1 ≤ h ∧ h ≤ (G.S.mk' b 3).made
      rw [ekeys, emade]
      intro h hh
      have := M.made
      rcases List.mem_append.1 hh with hh | hh
      · have := M.rng h hh; omega
      · simp only [List.mem_singleton] at hh; omega
    · show ((G.S.mk' b 3).regs.map Reg.h).Nodup
      rw [ekeys]
      exact List.nodup_append.2 ⟨M.nd, by simp, fun a ha b hb e => by simp only [List.mem_singleton] at hb; exact hne a ha (e.trans hb)⟩
    · show 0 ≤ (G.S.mk' b 3).made ∧ (G.S.mk' b 3).made < _
      rw [emade]; have := M.made; omega
    · show (G.S.mk' b 3).room + _ = c.cap
      rw [eroom]
      have := M.room
      simp only [List.length_cons]
      show G.S.room - 3 + 3 * ((l.length : Int) + ((x.length + 1 : Nat) : Int) + G.q.length) = c.cap
      omega
    · show 0 ≤ (G.S.mk' b 3).room
      rw [eroom]; omega
    · rw [hv, if_pos rfl]; rfl
    · show (G.S.mk' b 3).V h = _
      rw [hv, if_neg hh]
end Go.Proofs.YtjggeoghlicmdaaGreat

/-
  A run of an lru map that holds the lock: what it does to the list, step by step (no program in sight).
  I: what others may do between its steps.
-/
namespace Go.Proofs.YtjggeoghlicmdaaGreat
open Go Go.AS Go.RowKit
set_option linter.unusedVariables false
variable {c : Lc} {cap : Cx} {G : Gr} {l la : List El} {x : List Int} {cnt : Wd} {I : Gr → Gr → Prop} {m0 : Int} {P : Qr → Gr → List El → Prop} {n : Nat} {had : Bool} {q : Qr}

theorem val_same {S S' : Sm} {a : Int} (h : S'.V a = S.V a) : val S' a = val S a := by unfold val; rw [h]
theorem keepV {S S' : Sm} {a : Int} (h : S'.V a = S.V a) (hn : S'.V a ≠ none) : S.V a ≠ none ∧ val S' a = val S a := ⟨by rw [← h]; exact hn, val_same h⟩
theorem V_keys {S : Sm} {a : Int} : S.V a ≠ none ↔ a ∈ S.regs.map Reg.h := by
  unfold Sm.V
  rw [ne_eq, Option.map_eq_none_iff]
  exact ⟨fun h => Classical.byContradiction fun k => h (find_none_iff.2 k), fun h k => find_none_iff.1 k h⟩
theorem keepA {S : Sm} {a h i : Int} {f : Wd → Wd} (hn : (S.acc h i true f).2.V a ≠ none) : S.V a ≠ none := by
  rw [V_keys, acc_keys] at hn; exact V_keys.2 hn
def Qr.res (q : Qr) : Int × List Wd × Wd × Int := (q.no, q.rv, q.rk, q.el)
def findK (la : List El) (k : Wd) : Option El := la.find? fun e => e.k == k
def rm (la : List El) (k : Wd) : List El := la.filter fun e => e.k != k
def nearF (q : Qr) (b : Option Wd) (e : El) : Option Wd :=
  if (q.fl = 1 ∨ q.ky.toNat < e.k.toNat) ∧ (match b with | none => true | some w => decide (e.k.toNat < w.toNat)) = true then some e.k else b
def nearRes (q : Qr) (la : List El) : Int × List Wd × Wd × Int := match la.foldl (nearF q) none with | some k => (0, [], k, 0) | none => (2, [], 0, 0)
/-- What an operation's effect is: what it gives, and the list (the youngest first). -/
def Eff (c : Lc) (G : Gr) (q : Qr) (G' : Gr) (la la' : List El) : Prop :=
  if q.kd = 4 then la' = la ∧ q.res = nearRes q la else
  match findK la q.ky with
  | some e =>
    if q.kd = 2 then (if q.fl = 1 then q.res = (3, [], 0, 0) ∧ la' = la else q.res = (0, [], 0, 0) ∧ la' = e :: rm la q.ky ∧ val G'.S e.h = q.val)
    else if q.kd = 1 then q.res = (0, [val G'.S e.h], 0, e.h) ∧ la' = e :: rm la q.ky
    else if q.kd = 5 then q.res = (0, [val G'.S e.h], 0, 0) ∧ la' = rm la q.ky
    else q.res = (0, [], 0, 0) ∧ la' = rm la q.ky
  | none =>
    if q.kd ≠ 2 ∨ q.fl = 2 then q.res = (2, [], 0, 0) ∧ la' = la
    else (q.res = (5, [], 0, 0) ∧ la' = la ∧ G.S.room < 3 ∧ G.S.room + 3 * ((la.length : Int) + G.q.length) = c.cap) ∨
      (q.res = (0, [], 0, 0) ∧ ∃ h, (∀ e ∈ la, e.h ≠ h) ∧ la' = ⟨h, q.ky⟩ :: (if (la.length : Int) < c.d1 then la else la.dropLast) ∧ val G'.S h = q.val)

structure Tr (c : Lc) (m0 : Int) (had : Bool) (G : Gr) (q' : Qr) (G' : Gr) (la la' : List El) : Prop where
  no : q'.eff = false → la' = la
  yes : q'.eff = true → had = false ∧ Eff c G q' G' la la'
  vals : ∀ h, (h ≤ m0 ∨ had = true) → h ≠ c.h → G'.S.V h ≠ none → G.S.V h ≠ none ∧ ((q'.eff = true ∧ q'.kd = 2 ∧ ∃ e ∈ la, e.h = h ∧ e.k = q'.ky) ∨ val G'.S h = val G.S h)
  wait : had = false → q'.eff = false → G'.q = G.q

def Run (c : Lc) (I : Gr → Gr → Prop) (m0 : Int) (P : Qr → Gr → List El → Prop) : Nat → Bool → Qr → Gr → List El → Prop
  | 0, _, _, _, _ => False
  | n + 1, had, q, G, la => q.dn = false ∧ q.nx ≠ .none ∧ ∀ G1, I G G1 → G1.S.fresh ∧ G1.q.length < 10000 ∧ ∀ b, ∃ la', Tr c m0 had G1 (q.step c G1 b).1 (q.step c G1 b).2 la la' ∧
      ((q.step c G1 b).1.dn = true → (had || (q.step c G1 b).1.eff) = true ∧ P (q.step c G1 b).1 (q.step c G1 b).2 la') ∧
      ((q.step c G1 b).1.dn = false → Run c I m0 P n (had || (q.step c G1 b).1.eff) (q.step c G1 b).1 (q.step c G1 b).2 la')

theorem Run.mono : ∀ {n m : Nat} {had : Bool} {q : Qr} {G : Gr} {la : List El}, Run c I m0 P n had q G la → n ≤ m → Run c I m0 P m had q G la
  | 0, _, _, _, _, _, h, _ => h.elim
  | n + 1, 0, _, _, _, _, h, hm => by omega
  | n + 1, m + 1, had, q, G, la, ⟨h1, h2, h3⟩, hm => ⟨h1, h2, fun G1 hi => by
      obtain ⟨h4, h5, h6⟩ := h3 G1 hi
      refine ⟨h4, h5, fun b => ?_⟩
      obtain ⟨la', t, h7, h8⟩ := h6 b
      exact ⟨la', t, h7, fun hd => (h8 hd).mono (by omega)⟩⟩

/-- What others leave as it is. -/
structure Rely (c : Lc) (cap : Cx) (m0 : Int) (I : Gr → Gr → Prop) : Prop where
  mem : ∀ {G G1 : Gr} {l : List El} {x : List Int} {cnt : Wd}, I G G1 → Mem c cap G l x cnt → Mem c cap G1 l x cnt
  made : ∀ {G G1 : Gr}, I G G1 → G1.S.made = G.S.made
  words : ∀ {G G1 : Gr} {l : List El} {x : List Int} {cnt : Wd} {h : Int} {p v r : Wd}, I G G1 → Mem c cap G l x cnt → h ∈ l.map El.h ++ x → G.S.V h = some [p, v, r] → ∃ v', G1.S.V h = some [p, v', r] ∧ (m0 < h → v' = v)

theorem Rely.eq : Rely c cap m0 (fun G G1 => G1 = G) :=
  ⟨fun h M => by subst h; exact M, fun h => by subst h; rfl, fun h M hh hv => by subst h; exact ⟨_, hv, fun _ => rfl⟩⟩

variable (hr : Rely c cap m0 I)
include hr

theorem Run.intro (M : Mem c cap G l x cnt) {nx0 : Nx} (hd : q.dn = false) (hn : q.nx = nx0) (hne : nx0 ≠ .none)
    (h : ∀ G1, I G G1 → Mem c cap G1 l x cnt → G1.S.made = G.S.made → ∀ b, ∃ la', Tr c m0 had G1 (doNx c nx0 { q with eff := false } G1 b).1 (doNx c nx0 { q with eff := false } G1 b).2 la la' ∧
      ((doNx c nx0 { q with eff := false } G1 b).1.dn = true → (had || (doNx c nx0 { q with eff := false } G1 b).1.eff) = true ∧ P (doNx c nx0 { q with eff := false } G1 b).1 (doNx c nx0 { q with eff := false } G1 b).2 la') ∧
      ((doNx c nx0 { q with eff := false } G1 b).1.dn = false → Run c I m0 P n (had || (doNx c nx0 { q with eff := false } G1 b).1.eff) (doNx c nx0 { q with eff := false } G1 b).1 (doNx c nx0 { q with eff := false } G1 b).2 la')) : Run c I m0 P (n + 1) had q G la := by
  refine ⟨hd, by rw [hn]; exact hne, fun G1 hi => ?_⟩
  have M1 := hr.mem hi M
  refine ⟨M1.fresh, M1.qlen, fun b => ?_⟩
  have := h G1 hi M1 (hr.made hi) b
  have e : q.step c G1 b = doNx c nx0 { q with eff := false } G1 b := by
    unfold Qr.step; rw [if_neg (by rw [hd]; exact Bool.false_ne_true), hn]
  rw [e]; exact this

/-- A step without an effect, from which the run goes on. -/
theorem Run.quiet (M : Mem c cap G l x cnt) {nx0 : Nx} (hd : q.dn = false) (hn : q.nx = nx0) (hne : nx0 ≠ .none)
    (h : ∀ G1, I G G1 → Mem c cap G1 l x cnt → G1.S.made = G.S.made → ∀ b, ∃ q' G', doNx c nx0 { q with eff := false } G1 b = (q', G') ∧ q'.eff = false ∧ q'.dn = false ∧
      (∀ a, (a ≤ m0 ∨ had = true) → a ≠ c.h → G'.S.V a ≠ none → G1.S.V a ≠ none ∧ val G'.S a = val G1.S a) ∧ (had = true ∨ G'.q = G1.q) ∧ Run c I m0 P n had q' G' la) : Run c I m0 P (n + 1) had q G la := by
  refine Run.intro hr M hd hn hne fun G1 hi M1 em b => ?_
  obtain ⟨q', G', e, h1, h2, h3, h5, h4⟩ := h G1 hi M1 em b
  rw [e]
  refine ⟨la, ⟨fun _ => rfl, (fun h => by rw [h1] at h; cases h), fun a ha hc hv => ⟨(h3 a ha hc hv).1, .inr (h3 a ha hc hv).2⟩, fun hh _ => h5.resolve_left (by rw [hh]; exact Bool.false_ne_true)⟩, (fun h => by rw [h2] at h; cases h), fun _ => ?_⟩
  show Run c I m0 P n (had || q'.eff) q' G' la
  rw [h1, Bool.or_false]; exact h4

/-- A step with an effect. -/
theorem Run.effect (M : Mem c cap G l x cnt) {nx0 : Nx} (hd : q.dn = false) (hn : q.nx = nx0) (hne : nx0 ≠ .none)
    (h : ∀ G1, I G G1 → Mem c cap G1 l x cnt → G1.S.made = G.S.made → ∀ b, ∃ q' G' la', doNx c nx0 { q with eff := false } G1 b = (q', G') ∧ q'.eff = true ∧ q'.dn = false ∧ Eff c G1 q' G' la la' ∧
      (∀ a, a ≤ m0 → a ≠ c.h → G'.S.V a ≠ none → G1.S.V a ≠ none ∧ ((q'.kd = 2 ∧ ∃ e ∈ la, e.h = a ∧ e.k = q'.ky) ∨ val G'.S a = val G1.S a)) ∧ Run c I m0 P n true q' G' la') : Run c I m0 P (n + 1) false q G la := by
  refine Run.intro hr M hd hn hne fun G1 hi M1 em b => ?_
  obtain ⟨q', G', la', e, h1, h2, h5, h3, h4⟩ := h G1 hi M1 em b
  rw [e]
  refine ⟨la', ⟨(fun h => by rw [h1] at h; cases h), fun _ => ⟨rfl, h5⟩, fun a ha hc hv => have ha := ha.resolve_right (fun h => by cases h); ⟨(h3 a ha hc hv).1, (h3 a ha hc hv).2.imp (fun ⟨x, y⟩ => ⟨h1, x, y⟩) id⟩, (fun _ h => by rw [h1] at h; cases h)⟩, (fun h => by rw [h2] at h; cases h), fun _ => ?_⟩
  show Run c I m0 P n (false || q'.eff) q' G' la'
  rw [h1]; exact h4

omit hr in
theorem addF_eq (w a : Wd) : addF w a = a + w := by
  unfold addF fetchF ones
  rw [under_all]
  show (a &&& BitVec.allOnes 64) + (w &&& BitVec.allOnes 64) = a + w
  rw [BitVec.and_allOnes, BitVec.and_allOnes]

/-! ### From the end to the beginning -/
theorem Run.drop (M : Mem c cap G la [] cnt) (hd : q.dn = false) (hn : q.nx = .drop)
    (hP : ∀ q' G', q'.res = q.res → Mem c cap.next G' la [] cnt → P q' G' la) : Run c I m0 P 1 true q G la := by
  refine Run.intro hr M hd hn (fun h => by cases h) fun G1 hi M1 em b => ?_
  obtain ⟨M2, same⟩ := M1.served (addF 1) (by rw [addF_eq])
  refine ⟨la, ⟨fun _ => rfl, (fun h => by cases h), fun a ha hc hv => ?_, (fun h => by cases h)⟩, fun _ => ⟨rfl, hP _ _ rfl M2⟩, (fun h => by cases h)⟩
  obtain ⟨x1, x2⟩ := keepV (same a hc) hv
  exact ⟨x1, .inr x2⟩
theorem Run.more {w : Wd} (M : Mem c cap G la [] cnt) (hd : q.dn = false) (hs : q.st = false) (hn : q.nx = .more w)
    (hP : ∀ q' G', q'.res = q.res → Mem c cap.next G' la [] (cnt + w) → P q' G' la) : Run c I m0 P 2 true q G la := by
  refine Run.quiet hr M hd hn (fun h => by cases h) fun G1 hi M1 em b => ?_
  obtain ⟨e1, M2, same⟩ := M1.accC (addF w)
  rw [addF_eq] at M2
  have ea : ({ q with eff := false } : Qr).away = { q with eff := false, nx := .drop } := by unfold Qr.away; rw [if_neg (by rw [hs]; exact Bool.false_ne_true)]
  refine ⟨{ q with eff := false, nx := .drop }, _, by rw [← ea]; rfl, rfl, hd, fun a ha hc hv => keepV (same a hc) hv, .inl rfl, ?_⟩
  · exact Run.drop hr M2 hd rfl fun q' G' e M => hP q' G' e M
end Go.Proofs.YtjggeoghlicmdaaGreat

/-
  A run of an lru map that holds the lock: what comes behind its walk.
-/
namespace Go.Proofs.YtjggeoghlicmdaaGreat
open Go Go.AS Go.RowKit
set_option linter.unusedVariables false
variable {c : Lc} {cap : Cx} {G : Gr} {l la l1 m : List El} {e : El} {x : List Int} {cnt : Wd} {I : Gr → Gr → Prop} {m0 : Int} {n : Nat} {had : Bool} {q : Qr}

def lenW (l : List El) : Wd := BitVec.ofNat 64 l.length
/-- How a run leaves the map. -/
def PM (c : Lc) (cap : Cx) (q : Qr) (G : Gr) (la : List El) : Prop := Mem c cap.next G la [] (lenW la)
abbrev RunM (c : Lc) (cap : Cx) (I : Gr → Gr → Prop) (m0 : Int) := Run c I m0 (PM c cap)

theorem away_eq {q : Qr} (hs : q.st = false) : q.away = { q with nx := .drop } := by unfold Qr.away; rw [if_neg (by rw [hs]; exact Bool.false_ne_true)]
theorem val_of {S : Sm} {a : Int} {p v r : Wd} (h : S.V a = some [p, v, r]) : val S a = v := by unfold val; rw [h]; rfl

variable (hr : Rely c cap m0 I)
include hr

theorem Run.dropM (M : Mem c cap G la [] (lenW la)) (hd : q.dn = false) (hn : q.nx = .drop) : RunM c cap I m0 1 true q G la :=
  Run.drop hr M hd hn fun q' G' _ M => M
theorem Run.moreM {w : Wd} (M : Mem c cap G la [] cnt) (hw : cnt + w = lenW la) (hd : q.dn = false) (hs : q.st = false) (hn : q.nx = .more w) : RunM c cap I m0 2 true q G la :=
  Run.more hr M hd hs hn fun q' G' _ M => by
    unfold PM; rw [← hw]; exact M

/-! ### An element becomes the youngest one again -/
theorem Run.headAway {h : Int} {k v : Wd} (M : Mem c cap G l [h] (lenW (⟨h, k⟩ :: l))) (hv : G.S.V h = some [k, v, first l]) (hd : q.dn = false) (hs : q.st = false) (hn : q.nx = .store c.h 2 (BitVec.ofInt 64 h) .away) :
    RunM c cap I m0 2 true q G (⟨h, k⟩ :: l) := by
  refine Run.quiet hr M hd hn (fun h => by cases h) fun G1 hi M1 em b => ?_
  obtain ⟨v', hv1, _⟩ := hr.words hi M (by simp) hv
  obtain ⟨_, M2, same⟩ := M1.attach hv1
  refine ⟨{ q with eff := false, nx := .drop }, _, by rw [← away_eq (q := { q with eff := false }) hs]; rfl, rfl, hd, fun a ha hc hn => keepV (same a hc) hn, .inl rfl, ?_⟩
  exact Run.dropM hr M2 hd rfl
theorem Run.stAway {h : Int} {k v r : Wd} (M : Mem c cap G l [h] (lenW (⟨h, k⟩ :: l))) (hv : G.S.V h = some [k, v, r]) (hd : q.dn = false) (hs : q.st = false) (hn : q.nx = .store h 2 (first l) (.head h .away)) :
    RunM c cap I m0 3 true q G (⟨h, k⟩ :: l) := by
  refine Run.quiet hr M hd hn (fun h => by cases h) fun G1 hi M1 em b => ?_
  obtain ⟨v', hv1, _⟩ := hr.words hi M (by simp) hv
  obtain ⟨_, M2, V2⟩ := M1.stX (i := 2) hv1 (by simp) (by simp) (first l)
  refine ⟨{ q with eff := false, nx := .store c.h 2 (BitVec.ofInt 64 h) .away }, G1.mem (G1.S.acc h (2 : Nat) true fun _ => first l).2, rfl, rfl, hd, fun a ha hc hn => ⟨keepA hn, ?_⟩, .inl rfl, ?_⟩
  · show val (G1.S.acc h (2 : Nat) true fun _ => first l).2 a = _
    unfold val; rw [V2]
    by_cases e : a = h
    · subst e; rw [if_pos rfl, hv1]; rfl
    · rw [if_neg e]
  · refine Run.headAway hr (v := v') M2 ?_ hd hs rfl
    show (G1.S.acc h (2 : Nat) true fun _ => first l).2.V h = _
    rw [V2, if_pos rfl]; rfl
theorem Run.youngAway {h : Int} {k v r : Wd} (M : Mem c cap G l [h] (lenW (⟨h, k⟩ :: l))) (hv : G.S.V h = some [k, v, r]) (hd : q.dn = false) (hs : q.st = false) (hn : q.nx = .load c.h 2 (.young h .away)) :
    RunM c cap I m0 4 true q G (⟨h, k⟩ :: l) := by
  refine Run.quiet hr M hd hn (fun h => by cases h) fun G1 hi M1 em b => ?_
  obtain ⟨v', hv1, _⟩ := hr.words hi M (by simp) hv
  obtain ⟨dr, sv, hc⟩ := M1.lock
  obtain ⟨e1, M2, same⟩ := M1.load (i := 2) hc (by simp)
  have e1 : (G1.S.acc c.h 2 true id).1.1 = first l := e1
  refine ⟨{ q with eff := false, nx := .store h 2 (first l) (.head h .away) }, G1.mem (G1.S.acc c.h (2 : Nat) true id).2, by rw [← e1]; rfl, rfl, hd, fun a ha hc hn => keepV (same a) hn, .inl rfl, ?_⟩
  exact Run.stAway hr (v := v') (r := r) M2 (by rw [← hv1]; exact same h) hd hs rfl

theorem Run.unlUsed (M : Mem c cap G (l1 ++ e :: m) [] (lenW (l1 ++ e :: m))) (ha : q.ah = spot c l1) (hi' : q.ai = 2) (hc : q.cur = e.h) (hd : q.dn = false) (hs : q.st = false) (hn : q.nx = .store q.ah q.ai (first m) .used) :
    RunM c cap I m0 5 true q G (e :: (l1 ++ m)) := by
  rw [ha, hi'] at hn
  refine Run.quiet hr M hd hn (fun h => by cases h) fun G1 hi M1 em b => ?_
  obtain ⟨p, v, r, hv⟩ := M1.alive (h := e.h) (List.mem_append_left _ (List.mem_append_left _ (by simp)))
  obtain ⟨v0, hv0⟩ := M1.link.at'
  obtain ⟨_, M2, vs, ve⟩ := M1.unlink
  refine ⟨{ q with eff := false, nx := .load c.h 2 (.young e.h .away) }, G1.mem (G1.S.acc (spot c l1) 2 true fun _ => first m).2, by rw [← hc]; rfl, rfl, hd, fun a ha hcc hn => ⟨keepA hn, (vs a).resolve_right hcc⟩, .inl rfl, ?_⟩
  have el : lenW (l1 ++ e :: m) = lenW (⟨e.h, e.k⟩ :: (l1 ++ m)) := congrArg (BitVec.ofNat 64) (by rw [List.length_cons, List.length_append, List.length_append, List.length_cons]; rfl)
  rw [el] at M2
  exact Run.youngAway hr (v := v0) (r := first m) M2 (by rw [← hv0]; exact ve) hd hs rfl
theorem Run.ldUsed (M : Mem c cap G (l1 ++ e :: m) [] (lenW (l1 ++ e :: m))) (ha : q.ah = spot c l1) (hi' : q.ai = 2) (hc : q.cur = e.h) (hd : q.dn = false) (hs : q.st = false) (hn : q.nx = .load e.h 2 (.unl .used)) :
    RunM c cap I m0 6 true q G (e :: (l1 ++ m)) := by
  refine Run.quiet hr M hd hn (fun h => by cases h) fun G1 hi M1 em b => ?_
  obtain ⟨v0, hv0⟩ := M1.link.at'
  obtain ⟨e1, M2, same⟩ := M1.load (i := 2) hv0 (by simp)
  have e1 : (G1.S.acc e.h 2 true id).1.1 = first m := e1
  refine ⟨{ q with eff := false, nx := .store q.ah q.ai (first m) .used }, G1.mem (G1.S.acc e.h (2 : Nat) true id).2, by rw [← e1]; rfl, rfl, hd, fun a ha hc hn => keepV (same a) hn, .inl rfl, ?_⟩
  exact Run.unlUsed hr M2 ha hi' hc hd hs rfl
/-- used, from what the run is then. -/
theorem Run.used (M : Mem c cap G (l1 ++ e :: m) [] (lenW (l1 ++ e :: m))) (ha : q.ah = spot c l1) (hi' : q.ai = 2) (hc : q.cur = e.h) (hd : q.dn = false) (hs : q.st = false) :
    RunM c cap I m0 6 true (q.used c) G (e :: (l1 ++ m)) ∧ (q.used c).dn = false ∧ (q.used c).eff = q.eff ∧ (q.used c).res = q.res ∧ (q.used c).kd = q.kd ∧ (q.used c).ky = q.ky ∧ (q.used c).fl = q.fl ∧ (q.used c).val = q.val := by
  by_cases hl : l1 = []
  · subst hl
    have e1 : q.used c = { q with nx := .drop } := by
      unfold Qr.used; rw [if_pos ⟨ha, hi'⟩, away_eq hs]
    rw [e1]
    exact ⟨Run.mono (n := 1) (m := 6) (Run.dropM hr M hd rfl) (by decide), hd, rfl, rfl, rfl, rfl, rfl, rfl⟩
  · have hne : spot c l1 ≠ c.h := by
      unfold spot
      cases hg : l1.getLast? with
      | none => rw [List.getLast?_eq_none_iff] at hg; exact absurd hg hl
      | some a => exact M.ne_c (List.mem_append_left _ (List.mem_append_left _ (List.mem_map.2 ⟨a, List.mem_append_left _ (List.mem_of_getLast? hg), rfl⟩)))
    have e1 : q.used c = { q with nx := .load q.cur 2 (.unl .used) } := by
      unfold Qr.used; rw [if_neg (fun h => hne (by rw [← ha]; exact h.1))]; rfl
    rw [e1]
    refine ⟨Run.ldUsed hr M ha hi' hc hd hs (by rw [← hc]), hd, rfl, rfl, rfl, rfl, rfl, rfl⟩

/-! ### An element goes -/
omit hr in
theorem lenW_less : lenW (l1 ++ e :: m) + ones = lenW (l1 ++ m) := by
  have e1 : (l1 ++ e :: m).length = (l1 ++ m).length + 1 := by rw [List.length_append, List.length_append, List.length_cons]; rfl
  unfold lenW ones
  rw [e1, BitVec.ofNat_add, BitVec.add_assoc]
  have : (BitVec.ofNat 64 1 + BitVec.allOnes 64) = 0#64 := by decide
  rw [this, BitVec.add_zero]
theorem Run.unlTake (M : Mem c cap G (l1 ++ e :: m) [] (lenW (l1 ++ e :: m))) (ha : q.ah = spot c l1) (hi' : q.ai = 2) (hc : q.cur = e.h) (hd : q.dn = false) (hs : q.st = false) (hn : q.nx = .store q.ah q.ai (first m) .takeEnd) :
    RunM c cap I m0 3 true q G (l1 ++ m) := by
  rw [ha, hi'] at hn
  refine Run.quiet hr M hd hn (fun h => by cases h) fun G1 hi M1 em b => ?_
  obtain ⟨_, M2, vs, ve⟩ := M1.unlink
  obtain ⟨M3, f3, _, _⟩ := M2.defer b
  refine ⟨{ q with eff := false, nx := .more ones }, ((G1.mem (G1.S.acc (spot c l1) 2 true fun _ => first m).2).defer e.h b).2, by rw [← hc]; rfl, rfl, hd, fun a ha hcc hn => ?_, .inl rfl, ?_⟩
  · obtain ⟨x1, x2⟩ := keepV (f3 a hn) hn
    exact ⟨keepA x1, x2.trans ((vs a).resolve_right hcc)⟩
  · exact Run.moreM hr M3 lenW_less hd hs rfl
theorem Run.ldTake2 (M : Mem c cap G (l1 ++ e :: m) [] (lenW (l1 ++ e :: m))) (ha : q.ah = spot c l1) (hi' : q.ai = 2) (hc : q.cur = e.h) (hd : q.dn = false) (hs : q.st = false) (hn : q.nx = .load e.h 2 (.unl .takeEnd)) :
    RunM c cap I m0 4 true q G (l1 ++ m) := by
  refine Run.quiet hr M hd hn (fun h => by cases h) fun G1 hi M1 em b => ?_
  obtain ⟨v0, hv0⟩ := M1.link.at'
  obtain ⟨e1, M2, same⟩ := M1.load (i := 2) hv0 (by simp)
  have e1 : (G1.S.acc e.h 2 true id).1.1 = first m := e1
  refine ⟨{ q with eff := false, nx := .store q.ah q.ai (first m) .takeEnd }, G1.mem (G1.S.acc e.h (2 : Nat) true id).2, by rw [← e1]; rfl, rfl, hd, fun a ha hc hn => keepV (same a) hn, .inl rfl, ?_⟩
  exact Run.unlTake hr M2 ha hi' hc hd hs rfl

/-! ### Where the key is -/
omit hr in
theorem findK_at {k : Wd} (h1 : ∀ y ∈ l1, y.k ≠ k) (he : e.k = k) : findK (l1 ++ e :: m) k = some e := by
  unfold findK
  rw [List.find?_append]
  have : l1.find? (fun e => e.k == k) = none := List.find?_eq_none.2 fun y hy => by simpa using h1 y hy
  rw [this, List.find?_cons_of_pos (by simpa using he)]; rfl
omit hr in
theorem rm_at {k : Wd} (h1 : ∀ y ∈ l1, y.k ≠ k) (he : e.k = k) (h2 : ∀ y ∈ m, y.k ≠ k) : rm (l1 ++ e :: m) k = l1 ++ m := by
  unfold rm
  rw [List.filter_append, List.filter_cons_of_neg (by simpa using he)]
  rw [List.filter_eq_self.2 fun y hy => by simpa using h1 y hy, List.filter_eq_self.2 fun y hy => by simpa using h2 y hy]

/-- Where a run is that has found its key. -/
structure At (c : Lc) (q : Qr) (l1 : List El) (e : El) (m : List El) : Prop where
  ah : q.ah = spot c l1
  ai : q.ai = 2
  cur : q.cur = e.h
  dn : q.dn = false
  st : q.st = false
  k1 : ∀ y ∈ l1, y.k ≠ q.ky
  ke : e.k = q.ky
  k2 : ∀ y ∈ m, y.k ≠ q.ky

theorem Run.look (M : Mem c cap G (l1 ++ e :: m) [] (lenW (l1 ++ e :: m))) (hA : At c q l1 e m) (hk : q.kd = 1) (hn : q.nx = .load e.h 1 .look) :
    RunM c cap I m0 7 false q G (l1 ++ e :: m) := by
  refine Run.effect hr M hA.dn hn (fun h => by cases h) fun G1 hi M1 em b => ?_
  obtain ⟨v0, hv0⟩ := M1.link.at'
  obtain ⟨e1, M2, same⟩ := M1.load (i := 1) hv0 (by simp)
  have e1 : (G1.S.acc e.h 1 true id).1.1 = v0 := e1
  obtain ⟨hu, u1, u2, u3, u4, u5, u6, u7⟩ := Run.used (q := ({ q with eff := false } : Qr).give 0 [v0] 0 q.cur) hr M2 hA.ah hA.ai hA.cur hA.dn hA.st
  refine ⟨(({ q with eff := false } : Qr).give 0 [v0] 0 q.cur).used c, G1.mem (G1.S.acc e.h (1 : Nat) true id).2, e :: (l1 ++ m), by rw [← e1]; rfl, u2.trans rfl, u1, ?_, fun a ha hc hn => ⟨(keepV (same a) hn).1, .inr (val_same (same a))⟩, hu⟩
  unfold Eff
  rw [u4, u5, u3]
  have e2 : (({ q with eff := false } : Qr).give 0 [v0] 0 q.cur).kd = 1 := hk
  have e3 : (({ q with eff := false } : Qr).give 0 [v0] 0 q.cur).ky = q.ky := rfl
  rw [e2, e3, if_neg (by decide), findK_at hA.k1 hA.ke]
  simp only
  rw [if_neg (by decide), if_pos trivial]
  refine ⟨?_, ?_⟩
  · show ((0 : Int), [v0], (0 : Wd), q.cur) = _
    have : val (G1.S.acc e.h (1 : Nat) true id).2 e.h = v0 := val_of (by rw [same]; exact hv0)
    rw [hA.cur]
    show _ = ((0 : Int), [val (G1.S.acc e.h (1 : Nat) true id).2 e.h], (0 : Wd), e.h)
    rw [this]
  · show _ = e :: rm _ q.ky
    rw [rm_at hA.k1 hA.ke hA.k2]
end Go.Proofs.YtjggeoghlicmdaaGreat

/-
  A run of an lru map that holds the lock: updates, deletes, takes.
-/
namespace Go.Proofs.YtjggeoghlicmdaaGreat
open Go Go.AS Go.RowKit
set_option linter.unusedVariables false
variable {c : Lc} {cap : Cx} {G : Gr} {l la l1 m : List El} {e : El} {x : List Int} {cnt : Wd} {I : Gr → Gr → Prop} {m0 : Int} {n : Nat} {had : Bool} {q : Qr}
variable (hr : Rely c cap m0 I)
include hr

theorem Run.upd (M : Mem c cap G (l1 ++ e :: m) [] (lenW (l1 ++ e :: m))) (hA : At c q l1 e m) (hk : q.kd = 2) (hf : q.fl ≠ 1) (hn : q.nx = .store e.h 1 q.val .upd) :
    RunM c cap I m0 7 false q G (l1 ++ e :: m) := by
  refine Run.effect hr M hA.dn hn (fun h => by cases h) fun G1 hi M1 em b => ?_
  obtain ⟨v0, hv0⟩ := M1.link.at'
  obtain ⟨e1, M2, V2⟩ := M1.stVal hv0 (List.mem_append_left _ (List.mem_append_left _ (by simp))) q.val
  obtain ⟨hu, u1, u2, u3, u4, u5, u6, u7⟩ := Run.used (q := ({ q with eff := false } : Qr).give 0 [] 0 0) hr M2 hA.ah hA.ai hA.cur hA.dn hA.st
  refine ⟨(({ q with eff := false } : Qr).give 0 [] 0 0).used c, G1.mem (G1.S.acc e.h 1 true fun _ => q.val).2, e :: (l1 ++ m), rfl, u2.trans rfl, u1, ?_, fun a ha hc hn => ⟨keepA hn, ?_⟩, hu⟩
  · unfold Eff
    rw [u4, u5, u3, u6, u7]
    have e2 : (({ q with eff := false } : Qr).give 0 [] 0 0).kd = 2 := hk
    have e3 : (({ q with eff := false } : Qr).give 0 [] 0 0).ky = q.ky := rfl
    have e4 : ¬ (({ q with eff := false } : Qr).give 0 [] 0 0).fl = 1 := hf
    rw [e2, e3, if_neg (by decide), findK_at hA.k1 hA.ke]
    simp only
    rw [if_pos trivial, if_neg e4, rm_at hA.k1 hA.ke hA.k2]
    have hV : (G1.S.acc e.h 1 true fun _ => q.val).2.V e.h = some [e.k, q.val, first m] := by rw [V2, if_pos rfl]
    exact ⟨rfl, rfl, val_of hV⟩
  · by_cases ea : a = e.h
    · left
      rw [u4, u5]
      exact ⟨hk, e, by simp, ea.symm, hA.ke⟩
    · right
      refine val_same ?_
      show (G1.S.acc e.h 1 true fun _ => q.val).2.V a = _
      rw [V2, if_neg ea]

theorem Run.take (M : Mem c cap G (l1 ++ e :: m) [] (lenW (l1 ++ e :: m))) (hA : At c q l1 e m) (hk : q.kd = 5) (hn : q.nx = .load e.h 1 .take) :
    RunM c cap I m0 5 false q G (l1 ++ e :: m) := by
  refine Run.effect hr M hA.dn hn (fun h => by cases h) fun G1 hi M1 em b => ?_
  obtain ⟨v0, hv0⟩ := M1.link.at'
  obtain ⟨e1, M2, same⟩ := M1.load (i := 1) hv0 (by simp)
  have e1 : (G1.S.acc e.h 1 true id).1.1 = v0 := e1
  refine ⟨(({ q with eff := false } : Qr).give 0 [v0] 0 0).unlink .takeEnd, G1.mem (G1.S.acc e.h (1 : Nat) true id).2, l1 ++ m, by rw [← e1]; rfl, rfl, hA.dn, ?_, fun a ha hc hn => ⟨(keepV (same a) hn).1, .inr (val_same (same a))⟩, ?_⟩
  · unfold Eff
    have e2 : ((({ q with eff := false } : Qr).give 0 [v0] 0 0).unlink .takeEnd).kd = 5 := hk
    have e3 : ((({ q with eff := false } : Qr).give 0 [v0] 0 0).unlink .takeEnd).ky = q.ky := rfl
    rw [e2, e3, if_neg (by decide), findK_at hA.k1 hA.ke]
    simp only
    rw [if_neg (by decide), if_neg (by decide), if_pos trivial, rm_at hA.k1 hA.ke hA.k2]
    refine ⟨?_, rfl⟩
    have : val (G1.S.acc e.h (1 : Nat) true id).2 e.h = v0 := val_of (by rw [same]; exact hv0)
    show ((0 : Int), [v0], (0 : Wd), (0 : Int)) = ((0 : Int), [val (G1.S.acc e.h (1 : Nat) true id).2 e.h], (0 : Wd), (0 : Int))
    rw [this]
  · refine Run.ldTake2 hr M2 hA.ah hA.ai hA.cur hA.dn hA.st ?_
    show Nx.load q.cur 2 _ = _
    rw [hA.cur]

theorem Run.unlDel (M : Mem c cap G (l1 ++ e :: m) [] (lenW (l1 ++ e :: m))) (hA : At c q l1 e m) (hk : q.kd ≠ 1 ∧ q.kd ≠ 2 ∧ q.kd ≠ 4 ∧ q.kd ≠ 5) (hn : q.nx = .store q.ah q.ai (first m) .delEnd) :
    RunM c cap I m0 3 false q G (l1 ++ e :: m) := by
  rw [hA.ah, hA.ai] at hn
  refine Run.effect hr M hA.dn hn (fun h => by cases h) fun G1 hi M1 em b => ?_
  obtain ⟨_, M2, vs, ve⟩ := M1.unlink
  obtain ⟨M3, f3, _, _⟩ := M2.defer b
  refine ⟨(({ q with eff := false } : Qr).give 0 [] 0 0).more ones, ((G1.mem (G1.S.acc (spot c l1) 2 true fun _ => first m).2).defer e.h b).2, l1 ++ m, by rw [← hA.cur]; rfl, rfl, hA.dn, ?_, fun a ha hcc hn => ?_, ?_⟩
  · unfold Eff
    have e3 : ((({ q with eff := false } : Qr).give 0 [] 0 0).more ones).ky = q.ky := rfl
    have e2 : ((({ q with eff := false } : Qr).give 0 [] 0 0).more ones).kd = q.kd := rfl
    rw [e2, e3, if_neg hk.2.2.1, findK_at hA.k1 hA.ke]
    simp only
    rw [if_neg hk.2.1, if_neg hk.1, if_neg hk.2.2.2, rm_at hA.k1 hA.ke hA.k2]
    exact ⟨rfl, rfl⟩
  · obtain ⟨x1, x2⟩ := keepV (f3 a hn) hn
    exact ⟨keepA x1, .inr (x2.trans ((vs a).resolve_right hcc))⟩
  · exact Run.moreM hr M3 lenW_less hA.dn hA.st rfl
theorem Run.ldDel (M : Mem c cap G (l1 ++ e :: m) [] (lenW (l1 ++ e :: m))) (hA : At c q l1 e m) (hk : q.kd ≠ 1 ∧ q.kd ≠ 2 ∧ q.kd ≠ 4 ∧ q.kd ≠ 5) (hn : q.nx = .load e.h 2 (.unl .delEnd)) :
    RunM c cap I m0 4 false q G (l1 ++ e :: m) := by
  refine Run.quiet hr M hA.dn hn (fun h => by cases h) fun G1 hi M1 em b => ?_
  obtain ⟨v0, hv0⟩ := M1.link.at'
  obtain ⟨e1, M2, same⟩ := M1.load (i := 2) hv0 (by simp)
  have e1 : (G1.S.acc e.h 2 true id).1.1 = first m := e1
  refine ⟨{ q with eff := false, nx := .store q.ah q.ai (first m) .delEnd }, G1.mem (G1.S.acc e.h (2 : Nat) true id).2, by rw [← e1]; rfl, rfl, hA.dn, fun a ha hc hn => keepV (same a) hn, .inr rfl, ?_⟩
  exact Run.unlDel hr M2 ⟨hA.ah, hA.ai, hA.cur, hA.dn, hA.st, hA.k1, hA.ke, hA.k2⟩ hk rfl

/-! ### A new element -/
/-- What comes behind the new element's laying: one more, or the eldest goes. -/
inductive Lay (c : Lc) (l : List El) : KS → List Int → List El → Wd → Prop where
  | one (h : (l.length : Int) < c.d1) : Lay c l .abs1 [] l (lenW l)
  | last {a : El} (h : ¬ ((l ++ [a]).length : Int) < c.d1) : Lay c l (.absDef a.h) [a.h] (l ++ [a]) (lenW (l ++ [a]))

theorem Run.layHead {h : Int} {k : KS} (hl : Lay c l k x la cnt) (M : Mem c cap G l (h :: x) cnt) (hh : m0 < h) (hv : G.S.V h = some [q.ky, q.val, first l]) (hd : q.dn = false) (hs : q.st = false)
    (hk : q.kd = 2 ∧ q.fl ≠ 2) (hno : ∀ y ∈ la, y.k ≠ q.ky) (hne : ∀ y ∈ la, y.h ≠ h) (hn : q.nx = .store c.h 2 (BitVec.ofInt 64 h) (.layGive k)) : RunM c cap I m0 3 false q G la := by
  refine Run.effect hr M hd hn (fun h => by cases h) fun G1 hi M1 em b => ?_
  obtain ⟨v', hv1, hvv⟩ := hr.words hi M (by simp) hv
  have hvv := hvv hh
  subst hvv
  obtain ⟨_, M2, same⟩ := M1.attach hv1
  have hhc : h ≠ c.h := M.ne_c (List.mem_append_left _ (List.mem_append_right _ (by simp)))
  have hnone : findK la q.ky = none := List.find?_eq_none.2 fun y hy => by simpa using hno y hy
  have hval : val (G1.S.acc c.h 2 true fun _ => BitVec.ofInt 64 h).2 h = q.val := val_of (by rw [same h hhc]; exact hv1)
  cases hl with
  | one hlt =>
    refine ⟨(({ q with eff := false } : Qr).give 0 [] 0 0).more 1, G1.mem (G1.S.acc c.h 2 true fun _ => BitVec.ofInt 64 h).2, ⟨h, q.ky⟩ :: l, rfl, rfl, hd, ?_, fun a ha hc hn => ⟨(keepV (same a hc) hn).1, .inr (val_same (same a hc))⟩, ?_⟩
    · unfold Eff
      have e2 : ((({ q with eff := false } : Qr).give 0 [] 0 0).more 1).kd = 2 := hk.1
      have e3 : ((({ q with eff := false } : Qr).give 0 [] 0 0).more 1).ky = q.ky := rfl
      have e4 : ((({ q with eff := false } : Qr).give 0 [] 0 0).more 1).fl = q.fl := rfl
      rw [e2, e3, e4, if_neg (by decide), hnone]
      simp only
      rw [if_neg (by simp only [ne_eq, not_true_eq_false, false_or]; exact hk.2)]
      right
      exact ⟨rfl, h, hne, by rw [if_pos hlt], hval⟩
    · refine Run.moreM hr M2 ?_ hd hs rfl
      unfold lenW
      rw [List.length_cons, BitVec.ofNat_add]
      rfl
  | @last a hge =>
    obtain ⟨M3, f3, _, _⟩ := M2.defer b
    have ea : ((({ q with eff := false } : Qr).give 0 [] 0 0).away) = { ({ q with eff := false } : Qr).give 0 [] 0 0 with nx := .drop } := away_eq hs
    refine ⟨{ ({ q with eff := false } : Qr).give 0 [] 0 0 with nx := .drop }, ((G1.mem (G1.S.acc c.h 2 true fun _ => BitVec.ofInt 64 h).2).defer a.h b).2, ⟨h, q.ky⟩ :: l, by rw [← ea]; rfl, rfl, hd, ?_, fun y hy hc hn => ?_, ?_⟩
    · unfold Eff
      have e2 : ({ ({ q with eff := false } : Qr).give 0 [] 0 0 with nx := Nx.drop }).kd = 2 := hk.1
      have e3 : ({ ({ q with eff := false } : Qr).give 0 [] 0 0 with nx := Nx.drop }).ky = q.ky := rfl
      have e4 : ({ ({ q with eff := false } : Qr).give 0 [] 0 0 with nx := Nx.drop }).fl = q.fl := rfl
      rw [e2, e3, e4, if_neg (by decide), hnone]
      simp only
      rw [if_neg (by simp only [ne_eq, not_true_eq_false, false_or]; exact hk.2)]
      right
      refine ⟨rfl, h, hne, by rw [if_neg hge, List.dropLast_concat], ?_⟩
      have : ((G1.mem (G1.S.acc c.h 2 true fun _ => BitVec.ofInt 64 h).2).defer a.h b).2.S.V h ≠ none := by
        obtain ⟨p, r, s, e⟩ := M3.alive (h := h) (by simp)
        rw [e]; simp
      rw [val_same (f3 h this)]; exact hval
    · obtain ⟨x1, x2⟩ := keepV (f3 y hn) hn
      exact ⟨keepA x1, .inr (x2.trans (val_same (same y hc)))⟩
    · have el : lenW (l ++ [a]) = lenW (⟨h, q.ky⟩ :: l) := congrArg (BitVec.ofNat 64) (by rw [List.length_append, List.length_cons]; rfl)
      rw [el] at M3
      exact Run.mono (n := 1) (m := 2) (Run.dropM hr M3 hd rfl) (by decide)

theorem Run.laySt {h : Int} {k : KS} {r : Wd} (hl : Lay c l k x la cnt) (M : Mem c cap G l (h :: x) cnt) (hh : m0 < h) (hv : G.S.V h = some [q.ky, q.val, r]) (hd : q.dn = false) (hs : q.st = false)
    (hk : q.kd = 2 ∧ q.fl ≠ 2) (hno : ∀ y ∈ la, y.k ≠ q.ky) (hne : ∀ y ∈ la, y.h ≠ h) (hn : q.nx = .store h 2 (first l) (.head h (.layGive k))) : RunM c cap I m0 4 false q G la := by
  refine Run.quiet hr M hd hn (fun h => by cases h) fun G1 hi M1 em b => ?_
  obtain ⟨v', hv1, hvv⟩ := hr.words hi M (by simp) hv
  have hvv := hvv hh
  subst hvv
  obtain ⟨_, M2, V2⟩ := M1.stX (i := 2) hv1 (by simp) (by simp) (first l)
  refine ⟨{ q with eff := false, nx := .store c.h 2 (BitVec.ofInt 64 h) (.layGive k) }, G1.mem (G1.S.acc h (2 : Nat) true fun _ => first l).2, rfl, rfl, hd, fun a ha hc hn => ⟨keepA hn, ?_⟩, .inr rfl, ?_⟩
  · have ha : a ≤ m0 := ha.resolve_right (fun h => by cases h)
    refine val_same ?_
    show (G1.S.acc h (2 : Nat) true fun _ => first l).2.V a = _
    rw [V2, if_neg (by omega)]
  · refine Run.layHead (q := { q with eff := false, nx := .store c.h 2 (BitVec.ofInt 64 h) (.layGive k) }) hr hl M2 hh ?_ hd hs hk hno hne rfl
    show (G1.S.acc h (2 : Nat) true fun _ => first l).2.V h = _
    rw [V2, if_pos rfl]; rfl
theorem Run.layLd {h : Int} {k : KS} {r : Wd} (hl : Lay c l k x la cnt) (M : Mem c cap G l (h :: x) cnt) (hh : m0 < h) (hv : G.S.V h = some [q.ky, q.val, r]) (hd : q.dn = false) (hs : q.st = false)
    (hk : q.kd = 2 ∧ q.fl ≠ 2) (hno : ∀ y ∈ la, y.k ≠ q.ky) (hne : ∀ y ∈ la, y.h ≠ h) (hn : q.nx = .load c.h 2 (.young h (.layGive k))) : RunM c cap I m0 5 false q G la := by
  refine Run.quiet hr M hd hn (fun h => by cases h) fun G1 hi M1 em b => ?_
  obtain ⟨v', hv1, hvv⟩ := hr.words hi M (by simp) hv
  have hvv := hvv hh
  subst hvv
  obtain ⟨dr, sv, hc⟩ := M1.lock
  obtain ⟨e1, M2, same⟩ := M1.load (i := 2) hc (by simp)
  have e1 : (G1.S.acc c.h 2 true id).1.1 = first l := e1
  refine ⟨{ q with eff := false, nx := .store h 2 (first l) (.head h (.layGive k)) }, G1.mem (G1.S.acc c.h (2 : Nat) true id).2, by rw [← e1]; rfl, rfl, hd, fun a ha hc hn => keepV (same a) hn, .inr rfl, ?_⟩
  exact Run.laySt (q := { q with eff := false, nx := .store h 2 (first l) (.head h (.layGive k)) }) (r := r) hr hl M2 hh (by rw [← hv1]; exact same h) hd hs hk hno hne rfl
theorem Run.layVal {h : Int} {k : KS} {p r : Wd} (hl : Lay c l k x la cnt) (M : Mem c cap G l (h :: x) cnt) (hh : m0 < h) (hv : G.S.V h = some [q.ky, p, r]) (hd : q.dn = false) (hs : q.st = false) (hm : q.made = h)
    (hk : q.kd = 2 ∧ q.fl ≠ 2) (hno : ∀ y ∈ la, y.k ≠ q.ky) (hne : ∀ y ∈ la, y.h ≠ h) (hn : q.nx = .store h 1 q.val (.layYoung k)) : RunM c cap I m0 6 false q G la := by
  refine Run.quiet hr M hd hn (fun h => by cases h) fun G1 hi M1 em b => ?_
  obtain ⟨v', hv1, hvv⟩ := hr.words hi M (by simp) hv
  obtain ⟨_, M2, V2⟩ := M1.stX (i := 1) hv1 (by simp) (by simp) q.val
  refine ⟨{ q with eff := false, nx := .load c.h 2 (.young h (.layGive k)) }, G1.mem (G1.S.acc h (1 : Nat) true fun _ => q.val).2, by rw [← hm]; rfl, rfl, hd, fun a ha hc hn => ⟨keepA hn, ?_⟩, .inr rfl, ?_⟩
  · have ha : a ≤ m0 := ha.resolve_right (fun h => by cases h)
    refine val_same ?_
    show (G1.S.acc h (1 : Nat) true fun _ => q.val).2.V a = _
    rw [V2, if_neg (by omega)]
  · refine Run.layLd (q := { q with eff := false, nx := .load c.h 2 (.young h (.layGive k)) }) (r := r) hr hl M2 hh ?_ hd hs hk hno hne rfl
    show (G1.S.acc h (1 : Nat) true fun _ => q.val).2.V h = _
    rw [V2, if_pos rfl]; rfl
theorem Run.layKey {h : Int} {k : KS} {o p r : Wd} (hl : Lay c l k x la cnt) (M : Mem c cap G l (h :: x) cnt) (hh : m0 < h) (hv : G.S.V h = some [o, p, r]) (hd : q.dn = false) (hs : q.st = false) (hm : q.made = h)
    (hk : q.kd = 2 ∧ q.fl ≠ 2) (hno : ∀ y ∈ la, y.k ≠ q.ky) (hne : ∀ y ∈ la, y.h ≠ h) (hn : q.nx = .store h 0 q.ky (.layVal k)) : RunM c cap I m0 7 false q G la := by
  refine Run.quiet hr M hd hn (fun h => by cases h) fun G1 hi M1 em b => ?_
  obtain ⟨v', hv1, hvv⟩ := hr.words hi M (by simp) hv
  obtain ⟨_, M2, V2⟩ := M1.stX (i := 0) hv1 (by simp) (by simp) q.ky
  refine ⟨{ q with eff := false, nx := .store h 1 q.val (.layYoung k) }, G1.mem (G1.S.acc h (0 : Nat) true fun _ => q.ky).2, by rw [← hm]; rfl, rfl, hd, fun a ha hc hn => ⟨keepA hn, ?_⟩, .inr rfl, ?_⟩
  · have ha : a ≤ m0 := ha.resolve_right (fun h => by cases h)
    refine val_same ?_
    show (G1.S.acc h (0 : Nat) true fun _ => q.ky).2.V a = _
    rw [V2, if_neg (by omega)]
  · refine Run.layVal (q := { q with eff := false, nx := .store h 1 q.val (.layYoung k) }) (p := v') (r := r) hr hl M2 hh ?_ hd hs hm hk hno hne rfl
    show (G1.S.acc h (0 : Nat) true fun _ => q.ky).2.V h = _
    rw [V2, if_pos rfl]; rfl
/-- The eldest goes out of the list. -/
theorem Run.cut {h : Int} {a : El} {o p r : Wd} (hge : ¬ ((l ++ [a]).length : Int) < c.d1) (M : Mem c cap G (l ++ [a]) [h] (lenW (l ++ [a]))) (hh : m0 < h) (hv : G.S.V h = some [o, p, r]) (hd : q.dn = false) (hs : q.st = false) (hm : q.made = h)
    (hk : q.kd = 2 ∧ q.fl ≠ 2) (hno : ∀ y ∈ l ++ [a], y.k ≠ q.ky) (hne : ∀ y ∈ l ++ [a], y.h ≠ h) (hn : q.nx = .store (spot c l) 2 0 (.absLay a.h)) : RunM c cap I m0 8 false q G (l ++ [a]) := by
  refine Run.quiet hr M hd hn (fun h => by cases h) fun G1 hi M1 em b => ?_
  obtain ⟨v', hv1, hvv⟩ := hr.words hi M (by simp) hv
  obtain ⟨_, M2, vs, ve⟩ := M1.unlink (l1 := l) (e := a) (m := [])
  have e0 : (fun _ : Wd => first []) = fun _ => (0 : Wd) := rfl
  rw [e0, List.append_nil] at M2
  have hs2 : h ≠ spot c l := fun e => by
    by_cases hl : l = []
    · subst hl; exact M.ne_c (h := h) (by simp) e
    · unfold spot at e
      cases hg : l.getLast? with
      | none => rw [List.getLast?_eq_none_iff] at hg; exact hl hg
      | some y => rw [hg] at e; exact hne y (List.mem_append_left _ (List.mem_of_getLast? hg)) e.symm
  have hV : (G1.S.acc (spot c l) 2 true fun _ => (0 : Wd)).2.V h = some [o, v', r] := by
    have hal : ∃ ws, G1.S.V (spot c l) = some ws ∧ 2 < ws.length := by
      by_cases hl : l = []
      · subst hl
        obtain ⟨dr, sv, hc⟩ := M1.lock
        exact ⟨_, hc, by simp⟩
      · unfold spot
        cases hg : l.getLast? with
        | none => rw [List.getLast?_eq_none_iff] at hg; exact absurd hg hl
        | some y =>
          obtain ⟨p, q, r, e⟩ := M1.alive (h := y.h) (List.mem_append_left _ (List.mem_append_left _ (List.mem_map.2 ⟨y, List.mem_append_left _ (List.mem_of_getLast? hg), rfl⟩)))
          exact ⟨_, e, by simp⟩
    obtain ⟨ws, hw, hlw⟩ := hal
    rw [(V_acc2 hw hlw _).2.1, if_neg hs2]; exact hv1
  refine ⟨{ q with eff := false, nx := .store h 0 q.ky (.layVal (.absDef a.h)) }, G1.mem (G1.S.acc (spot c l) 2 true fun _ => (0 : Wd)).2, by rw [← hm]; rfl, rfl, hd, fun y hy hc hn => ⟨keepA hn, (vs y).resolve_right hc⟩, .inr rfl, ?_⟩
  have M3 : Mem c cap (G1.mem (G1.S.acc (spot c l) 2 true fun _ => (0 : Wd)).2) l (h :: [a.h]) (lenW (l ++ [a])) := by
    refine ⟨M2.ok, M2.lock, M2.link, fun y hy => M2.len y (by simpa [or_comm, or_left_comm] using hy), M2.perm.trans ?_, M2.rng, M2.nd, M2.made, M2.room, M2.room0, M2.capb, M2.bads⟩
    refine List.Perm.cons _ (List.Perm.append_right _ (List.Perm.append_left _ (List.Perm.swap _ _ _)))
  exact Run.layKey (q := { q with eff := false, nx := .store h 0 q.ky (.layVal (.absDef a.h)) }) hr (.last hge) M3 hh hV hd hs hm hk hno hne rfl
end Go.Proofs.YtjggeoghlicmdaaGreat

/-
  A run of an lru map that holds the lock: its walk.
-/
namespace Go.Proofs.YtjggeoghlicmdaaGreat
open Go Go.AS Go.RowKit
set_option linter.unusedVariables false
variable {c : Lc} {cap : Cx} {G : Gr} {l la l1 m : List El} {e : El} {x : List Int} {cnt : Wd} {I : Gr → Gr → Prop} {m0 : Int} {n : Nat} {had : Bool} {q : Qr}

theorem hw_nat {h : Int} (h1 : 1 ≤ h) (h2 : h < 2305843009213693952) : ((BitVec.ofInt 64 h).toNat : Int) = h := by
  rw [BitVec.toNat_ofInt]; omega
theorem hw_cur {h : Int} (h1 : 1 ≤ h) (h2 : h < 2305843009213693952) : IntKind.i64.wrap ((BitVec.ofInt 64 h).toNat : Int) = h := by
  rw [hw_nat h1 h2, wrap_i64 (by omega)]
theorem hw_ne {h : Int} (h1 : 1 ≤ h) (h2 : h < 2305843009213693952) : BitVec.ofInt 64 h ≠ 0 := fun e => by
  have := hw_nat h1 h2
  rw [e] at this
  have e0 : ((0 : Wd).toNat : Int) = 0 := rfl
  omega
theorem lenW_nat (h : (l.length : Int) ≤ 64) : (lenW l).toNat = l.length := by
  unfold lenW; rw [BitVec.toNat_ofNat]; omega
theorem spot_snoc : spot c (l1 ++ [e]) = e.h := by unfold spot; rw [List.getLast?_concat]

theorem tri_quiet {s : Qr × Gr} {G1 G' : Gr} {q' : Qr} (e : s = (q', G')) (h1 : q'.eff = false) (h2 : q'.dn = false)
    (h3 : ∀ a, (a ≤ m0 ∨ had = true) → a ≠ c.h → G'.S.V a ≠ none → G1.S.V a ≠ none ∧ val G'.S a = val G1.S a) (h5 : had = true ∨ G'.q = G1.q) (h4 : RunM c cap I m0 n had q' G' la) :
    ∃ la', Tr c m0 had G1 s.1 s.2 la la' ∧ (s.1.dn = true → (had || s.1.eff) = true ∧ PM c cap s.1 s.2 la') ∧ (s.1.dn = false → RunM c cap I m0 n (had || s.1.eff) s.1 s.2 la') := by
  rw [e]
  refine ⟨la, ⟨fun _ => rfl, (fun h => by rw [h1] at h; cases h), fun a ha hc hv => ⟨(h3 a ha hc hv).1, .inr (h3 a ha hc hv).2⟩, fun hh _ => h5.resolve_left (by rw [hh]; exact Bool.false_ne_true)⟩, (fun h => by rw [h2] at h; cases h), fun _ => ?_⟩
  show RunM c cap I m0 n (had || q'.eff) q' G' la
  rw [h1, Bool.or_false]; exact h4
theorem tri_effect {s : Qr × Gr} {G1 G' : Gr} {q' : Qr} {la' : List El} (e : s = (q', G')) (h1 : q'.eff = true) (h2 : q'.dn = false) (h5 : Eff c G1 q' G' la la')
    (h3 : ∀ a, a ≤ m0 → a ≠ c.h → G'.S.V a ≠ none → G1.S.V a ≠ none ∧ ((q'.kd = 2 ∧ ∃ e ∈ la, e.h = a ∧ e.k = q'.ky) ∨ val G'.S a = val G1.S a)) (h4 : RunM c cap I m0 n true q' G' la') :
    ∃ la', Tr c m0 false G1 s.1 s.2 la la' ∧ (s.1.dn = true → (false || s.1.eff) = true ∧ PM c cap s.1 s.2 la') ∧ (s.1.dn = false → RunM c cap I m0 n (false || s.1.eff) s.1 s.2 la') := by
  rw [e]
  refine ⟨la', ⟨(fun h => by rw [h1] at h; cases h), fun _ => ⟨rfl, h5⟩, fun a ha hc hv => have ha := ha.resolve_right (fun h => by cases h); ⟨(h3 a ha hc hv).1, (h3 a ha hc hv).2.imp (fun ⟨x, y⟩ => ⟨h1, x, y⟩) id⟩, (fun _ h => by rw [h1] at h; cases h)⟩, (fun h => by rw [h2] at h; cases h), fun _ => ?_⟩
  show RunM c cap I m0 n (false || q'.eff) q' G' la'
  rw [h1]; exact h4
def Qr.failed (q : Qr) (z : Int) : Qr := { q.give z [] 0 0 with nx := .drop }
theorem fail_eq (q : Qr) (z : Int) (hs : q.st = false) : q.fail z = q.failed z := away_eq (q := q.give z [] 0 0) hs

variable (hr : Rely c cap m0 I)
include hr

/-- What is wanted of a map, and a run. -/
structure Wn (c : Lc) (m0 : Int) (G : Gr) (la : List El) : Prop where
  made : G.S.made = m0
  m0 : m0 < 2305843009213693951
  d1 : 1 ≤ c.d1 ∧ c.d1 ≤ 64
  le : (la.length : Int) ≤ c.d1
  keys : (la.map El.k).Nodup

theorem Run.count (M : Mem c cap G la [] (lenW la)) (hw : Wn c m0 G la) (hd : q.dn = false) (hs : q.st = false) (hk : q.kd = 2 ∧ q.fl ≠ 2) (hno : ∀ y ∈ la, y.k ≠ q.ky)
    (ha : q.ah = spot c la) (hb : ∀ l0 a, la = l0 ++ [a] → q.bh = spot c l0 ∧ q.bi = 2) (hn : q.nx = .load c.h 3 .count) : RunM c cap I m0 9 false q G la := by
  refine Run.intro hr M hd hn (fun h => by cases h) fun G1 hi M1 em b => ?_
  obtain ⟨dr, sv, hc⟩ := M1.lock
  obtain ⟨e1, M2, same⟩ := M1.load (i := 3) hc (by simp)
  have e1 : (G1.S.acc c.h 3 true id).1.1 = lenW la := e1
  have em2 : (G1.S.acc c.h (3 : Nat) true id).2.made = m0 := by rw [acc_made, em]; exact hw.made
  have e5 : (G1.S.acc c.h (3 : Nat) true id).2.room = G1.S.room := (V_acc (i := 3) hc (by simp) id).2.2.2.1
  rcases M2.make (by rw [em2]; exact hw.m0) b with ⟨hroom, hmk⟩ | ⟨hroom, hmk, M3, hv3, same3, em3⟩
  · have hmk : (G1.S.acc c.h 3 true id).2.make b 3 = ((0, 5), (G1.S.acc c.h 3 true id).2) := hmk
    have ec : doNx c (.load c.h 3 .count) { q with eff := false } G1 b = (({ q with eff := false } : Qr).failed 5, G1.mem (G1.S.acc c.h (3 : Nat) true id).2) := by
      show (Qr.count c _ _ ((G1.S.acc c.h 3 true id).2.make b 3).1.2 ((G1.S.acc c.h 3 true id).2.make b 3).1.1, (G1.mem ((G1.S.acc c.h 3 true id).2.make b 3).2)) = _
      rw [hmk]
      unfold Qr.count
      rw [if_pos (by simp), fail_eq ({ q with eff := false } : Qr) 5 hs]; rfl
    refine tri_effect ec rfl hd ?_ (fun a ha hc hn => ⟨(keepV (same a) hn).1, .inr (val_same (same a))⟩) (Run.mono (n := 1) (m := 8) (Run.dropM hr M2 hd rfl) (by decide))
    · unfold Eff
      have e2 : (({ q with eff := false } : Qr).failed 5).kd = 2 := hk.1
      have e3 : (({ q with eff := false } : Qr).failed 5).ky = q.ky := rfl
      have e4 : (({ q with eff := false } : Qr).failed 5).fl = q.fl := rfl
      have hnone : findK la q.ky = none := List.find?_eq_none.2 fun y hy => by simpa using hno y hy
      rw [e2, e3, e4, if_neg (by decide), hnone]
      simp only
      rw [if_neg (by simp only [ne_eq, not_true_eq_false, false_or]; exact hk.2)]
      left
      have hroom : (G1.S.acc c.h (3 : Nat) true id).2.room < 3 := hroom
      exact ⟨rfl, trivial, by rw [← e5]; exact hroom, by have := M1.room; simpa using this⟩
  · rw [show (G1.mem (G1.S.acc c.h (3 : Nat) true id).2).S.made = m0 from em2] at hmk M3 hv3 same3
    have hmk : ((G1.S.acc c.h 3 true id).2.make b 3).1 = (m0 + 1, 0) := hmk
    have hne : ∀ y ∈ la, y.h ≠ m0 + 1 := fun y hy e => by
      have := (M.bd (h := y.h) (List.mem_append_left _ (List.mem_append_left _ (List.mem_map.2 ⟨y, hy, rfl⟩)))).2
      rw [hw.made] at this; omega
    have hval : ∀ a, a ≤ m0 → ((G1.mem (G1.S.acc c.h (3 : Nat) true id).2).S.make b 3).2.V a ≠ none → G1.S.V a ≠ none ∧ val ((G1.mem (G1.S.acc c.h (3 : Nat) true id).2).S.make b 3).2 a = val G1.S a := fun a ha hn => by
      obtain ⟨x1, x2⟩ := keepV (same3 a (by omega)) hn
      obtain ⟨x3, x4⟩ := keepV (same a) x1
      exact ⟨x3, x2.trans x4⟩
    have hlen := lenW_nat (l := la) (by have := hw.le; have := hw.d1; omega)
    have hd1 : ((BitVec.ofInt 64 c.d1).toNat : Int) = c.d1 := hw_nat hw.d1.1 (by have := hw.d1; omega)
    by_cases hlt : (la.length : Int) < c.d1
    · have ec : doNx c (.load c.h 3 .count) { q with eff := false } G1 b = ({ q with eff := false, made := m0 + 1, nx := .store (m0 + 1) 0 q.ky (.layVal .abs1) }, (G1.mem (G1.S.acc c.h (3 : Nat) true id).2).mem ((G1.mem (G1.S.acc c.h (3 : Nat) true id).2).S.make b 3).2) := by
        show (Qr.count c _ (G1.S.acc c.h 3 true id).1.1 ((G1.S.acc c.h 3 true id).2.make b 3).1.2 ((G1.S.acc c.h 3 true id).2.make b 3).1.1, (G1.mem ((G1.S.acc c.h 3 true id).2.make b 3).2)) = _
        rw [hmk, e1]
        unfold Qr.count
        rw [if_neg (by simp), if_pos (by omega)]; rfl
      refine tri_quiet ec rfl hd (fun a ha hc hn => hval a (ha.resolve_right (fun h => by cases h)) hn) (.inr rfl) ?_
      exact Run.mono (n := 7) (m := 8) (Run.layKey (q := { q with eff := false, made := m0 + 1, nx := .store (m0 + 1) 0 q.ky (.layVal .abs1) }) hr (.one hlt) M3 (by omega) hv3 hd hs rfl hk hno hne rfl) (by decide)
    · obtain ⟨l0, a, rfl⟩ : ∃ l0 a, la = l0 ++ [a] := by
        rcases List.eq_nil_or_concat la with h | ⟨l0, a, h⟩
        · subst h; have := hw.d1.1; simp at hlt; omega
        · exact ⟨l0, a, by rw [h, List.concat_eq_append]⟩
      obtain ⟨hb1, hb2⟩ := hb l0 a rfl
      rw [spot_snoc] at ha
      have ec : doNx c (.load c.h 3 .count) { q with eff := false } G1 b = ({ q with eff := false, made := m0 + 1, nx := .store (spot c l0) 2 0 (.absLay a.h) }, (G1.mem (G1.S.acc c.h (3 : Nat) true id).2).mem ((G1.mem (G1.S.acc c.h (3 : Nat) true id).2).S.make b 3).2) := by
        show (Qr.count c _ (G1.S.acc c.h 3 true id).1.1 ((G1.S.acc c.h 3 true id).2.make b 3).1.2 ((G1.S.acc c.h 3 true id).2.make b 3).1.1, (G1.mem ((G1.S.acc c.h 3 true id).2.make b 3).2)) = _
        rw [hmk, e1]
        unfold Qr.count
        rw [if_neg (by simp), if_neg (by omega), ← hb1, ← hb2, ← ha]; rfl
      refine tri_quiet ec rfl hd (fun a ha hc hn => hval a (ha.resolve_right (fun h => by cases h)) hn) (.inr rfl) ?_
      exact Run.cut (q := { q with eff := false, made := m0 + 1, nx := .store (spot c l0) 2 0 (.absLay a.h) }) hr hlt M3 (by omega) hv3 hd hs rfl hk hno hne rfl

/-- Where a walk is. -/
structure Wat (c : Lc) (q : Qr) (l1 : List El) : Prop where
  ah : q.ah = spot c l1
  ai : q.ai = 2
  bh : ∀ l0 a, l1 = l0 ++ [a] → q.bh = spot c l0 ∧ q.bi = 2
  dn : q.dn = false
  st : q.st = false
  k1 : ∀ y ∈ l1, y.k ≠ q.ky
  k4 : q.kd ≠ 4

theorem Run.walk : ∀ {m l1 : List El} {q : Qr} {G : Gr}, Mem c cap G (l1 ++ m) [] (lenW (l1 ++ m)) → Wn c m0 G (l1 ++ m) → Wat c q l1 → q.nx = .load (spot c l1) 2 (.walkAt .key) → RunM c cap I m0 (2 * m.length + 10) false q G (l1 ++ m)
  | [], l1, q, G, M, hw, hW, hn => by
    refine Run.intro hr M hW.dn hn (fun h => by cases h) fun G1 hi M1 em b => ?_
    rw [List.append_nil] at M M1 hw ⊢
    have hrd : ∃ ws, G1.S.V (spot c l1) = some ws ∧ 2 < ws.length ∧ ws.getD 2 0 = 0 := by
      rcases List.eq_nil_or_concat l1 with h | ⟨l0, a, h⟩
      · subst h
        obtain ⟨dr, sv, hc⟩ := M1.lock
        exact ⟨_, hc, by simp, rfl⟩
      · rw [List.concat_eq_append] at h
        subst h
        obtain ⟨v, hv⟩ := M1.link.at'
        exact ⟨_, by rw [spot_snoc]; exact hv, by simp, rfl⟩
    obtain ⟨ws, hws, hlw, hz⟩ := hrd
    obtain ⟨e1, M2, same⟩ := M1.load (i := 2) hws hlw
    have e1 : (G1.S.acc (spot c l1) 2 true id).1.1 = 0 := by rw [← hz]; exact e1
    have hnone : findK l1 q.ky = none := List.find?_eq_none.2 fun y hy => by simpa using hW.k1 y hy
    by_cases hab : q.kd ≠ 2 ∨ q.fl = 2
    · have ec : doNx c (.load (spot c l1) 2 (.walkAt .key)) { q with eff := false } G1 b = (({ q with eff := false, cur := IntKind.i64.wrap ((0 : Wd).toNat : Int) } : Qr).failed 2, G1.mem (G1.S.acc (spot c l1) (2 : Nat) true id).2) := by
        show (if (G1.S.acc (spot c l1) 2 true id).1.1 = 0 then Qr.stop c _ .key else _, _) = _
        rw [e1, if_pos rfl]
        show (Qr.absent c _, _) = _
        unfold Qr.absent
        rw [if_pos hab, fail_eq ({ q with eff := false, cur := IntKind.i64.wrap ((0 : Wd).toNat : Int) } : Qr) 2 hW.st]; rfl
      refine tri_effect ec rfl hW.dn ?_ (fun a ha hc hn => ⟨(keepV (same a) hn).1, .inr (val_same (same a))⟩) (Run.mono (n := 1) (m := 9) (Run.dropM hr M2 hW.dn rfl) (by decide))
      · unfold Eff
        have e3 : (({ q with eff := false, cur := IntKind.i64.wrap ((0 : Wd).toNat : Int) } : Qr).failed 2).ky = q.ky := rfl
        have e2 : (({ q with eff := false, cur := IntKind.i64.wrap ((0 : Wd).toNat : Int) } : Qr).failed 2).kd = q.kd := rfl
        have e4 : (({ q with eff := false, cur := IntKind.i64.wrap ((0 : Wd).toNat : Int) } : Qr).failed 2).fl = q.fl := rfl
        rw [e2, e3, e4, if_neg hW.k4, hnone]
        simp only
        rw [if_pos hab]
        exact ⟨rfl, trivial⟩
    · have ec : doNx c (.load (spot c l1) 2 (.walkAt .key)) { q with eff := false } G1 b = ({ q with eff := false, cur := IntKind.i64.wrap ((0 : Wd).toNat : Int), nx := .load c.h 3 .count }, G1.mem (G1.S.acc (spot c l1) (2 : Nat) true id).2) := by
        show (if (G1.S.acc (spot c l1) 2 true id).1.1 = 0 then Qr.stop c _ .key else _, _) = _
        rw [e1, if_pos rfl]
        show (Qr.absent c _, _) = _
        unfold Qr.absent
        rw [if_neg hab]; rfl
      refine tri_quiet ec rfl hW.dn (fun a ha hc hn => keepV (same a) hn) (.inr rfl) ?_
      have hab : q.kd = 2 ∧ q.fl ≠ 2 := by
        simp only [not_or, ne_eq, Decidable.not_not] at hab; exact hab
      exact Run.count (q := { q with eff := false, cur := IntKind.i64.wrap ((0 : Wd).toNat : Int), nx := .load c.h 3 .count }) hr M2 ⟨by rw [← hw.made, ← em]; exact acc_made .., hw.m0, hw.d1, hw.le, hw.keys⟩ hW.dn hW.st hab hW.k1 hW.ah hW.bh rfl
  | e :: m, l1, q, G, M, hw, hW, hn => by
    have hsp : ∀ {G : Gr}, Mem c cap G (l1 ++ e :: m) [] (lenW (l1 ++ e :: m)) → ∃ ws, G.S.V (spot c l1) = some ws ∧ 2 < ws.length ∧ ws.getD 2 0 = BitVec.ofInt 64 e.h := fun M1 => by
      rcases List.eq_nil_or_concat l1 with h | ⟨l0, a, h⟩
      · subst h
        obtain ⟨dr, sv, hc⟩ := M1.lock
        exact ⟨_, hc, by simp, rfl⟩
      · rw [List.concat_eq_append] at h
        subst h
        have hl := M1.link
        rw [List.append_assoc] at hl
        obtain ⟨v, hv⟩ := hl.at'
        exact ⟨_, by rw [spot_snoc]; exact hv, by simp, rfl⟩
    have heb := M.bd (h := e.h) (List.mem_append_left _ (List.mem_append_left _ (by simp)))
    have he1 : 1 ≤ e.h := heb.1
    have he2 : e.h < 2305843009213693952 := by have := M.made; omega
    show RunM c cap I m0 ((2 * m.length + 10) + 1 + 1) false q G (l1 ++ e :: m)
    refine Run.quiet hr M hW.dn hn (fun h => by cases h) fun G1 hi M1 em b => ?_
    obtain ⟨ws, hws, hlw, hz⟩ := hsp M1
    obtain ⟨e1, M2, same⟩ := M1.load (i := 2) hws hlw
    have e1 : (G1.S.acc (spot c l1) 2 true id).1.1 = BitVec.ofInt 64 e.h := by rw [← hz]; exact e1
    refine ⟨{ q with eff := false, cur := e.h, nx := .load e.h 0 (.walkKey .key) }, G1.mem (G1.S.acc (spot c l1) (2 : Nat) true id).2, ?_, rfl, hW.dn, fun a ha hc hn => keepV (same a) hn, .inr rfl, ?_⟩
    · show (if (G1.S.acc (spot c l1) 2 true id).1.1 = 0 then _ else Qr.load _ (IntKind.i64.wrap ((G1.S.acc (spot c l1) 2 true id).1.1.toNat : Int)) 0 (.walkKey .key), _) = _
      rw [e1, if_neg (hw_ne he1 he2), hw_cur he1 he2]; rfl
    have hw2 : Wn c m0 (G1.mem (G1.S.acc (spot c l1) (2 : Nat) true id).2) (l1 ++ e :: m) := ⟨by rw [← hw.made, ← em]; exact acc_made .., hw.m0, hw.d1, hw.le, hw.keys⟩
    generalize G1.mem (G1.S.acc (spot c l1) (2 : Nat) true id).2 = G2 at M2 hw2
    refine Run.intro hr M2 hW.dn rfl (fun h => by cases h) fun G3 hi3 M3 em3 b => ?_
    obtain ⟨v0, hv0⟩ := M3.link.at'
    obtain ⟨e4, M4, same4⟩ := M3.load (i := 0) hv0 (by simp)
    have e4 : (G3.S.acc e.h 0 true id).1.1 = e.k := e4
    have nd := hw.keys
    rw [List.map_append, List.map_cons] at nd
    by_cases hk : e.k = q.ky
    · have ec : doNx c (.load e.h 0 (.walkKey .key)) { q with eff := false, cur := e.h, nx := .load e.h 0 (.walkKey .key) } G3 b = (({ q with eff := false, cur := e.h, nx := .load e.h 0 (.walkKey .key) } : Qr).found, G3.mem (G3.S.acc e.h (0 : Nat) true id).2) := by
        show (if (G3.S.acc e.h 0 true id).1.1 = q.ky then _ else _, _) = _
        rw [e4, if_pos hk]; rfl
      have k2 : ∀ y ∈ m, y.k ≠ q.ky := fun y hy h => by
        have := (List.nodup_cons.1 (List.nodup_append.1 nd).2.1).1
        exact this (by rw [hk, ← h]; exact List.mem_map.2 ⟨y, hy, rfl⟩)
      have hAt : ∀ nx, At c { q with eff := false, cur := e.h, nx := nx } l1 e m := fun nx => ⟨hW.ah, hW.ai, rfl, hW.dn, hW.st, hW.k1, hk, k2⟩
      unfold Qr.found at ec
      by_cases d2 : q.kd = 2
      · by_cases f1 : q.fl = 1
        · rw [if_pos d2, if_pos f1, fail_eq ({ q with eff := false, cur := e.h, nx := .load e.h 0 (.walkKey .key) } : Qr) 3 hW.st] at ec
          refine tri_effect ec rfl hW.dn ?_ (fun a ha hc hn => ⟨(keepV (same4 a) hn).1, .inr (val_same (same4 a))⟩) (Run.mono (n := 1) (m := 2 * m.length + 10) (Run.dropM hr M4 hW.dn rfl) (by omega))
          · unfold Eff
            show (if q.kd = 4 then _ else match findK (l1 ++ e :: m) q.ky with | some e => _ | none => _)
            rw [if_neg hW.k4, findK_at hW.k1 hk]
            show (if q.kd = 2 then (if q.fl = 1 then _ else _) else _)
            rw [if_pos d2, if_pos f1]
            exact ⟨rfl, rfl⟩
        · rw [if_pos d2, if_neg f1] at ec
          exact tri_quiet ec rfl hW.dn (fun a ha hc hn => keepV (same4 a) hn) (.inr rfl) (Run.mono (n := 7) (m := 2 * m.length + 10) (Run.upd hr M4 (hAt _) d2 f1 rfl) (by omega))
      · rw [if_neg d2] at ec
        by_cases d1 : q.kd = 1
        · rw [if_pos d1] at ec
          exact tri_quiet ec rfl hW.dn (fun a ha hc hn => keepV (same4 a) hn) (.inr rfl) (Run.mono (n := 7) (m := 2 * m.length + 10) (Run.look hr M4 (hAt _) d1 rfl) (by omega))
        · rw [if_neg d1] at ec
          by_cases d5 : q.kd = 5
          · rw [if_pos d5] at ec
            exact tri_quiet ec rfl hW.dn (fun a ha hc hn => keepV (same4 a) hn) (.inr rfl) (Run.mono (n := 5) (m := 2 * m.length + 10) (Run.take hr M4 (hAt _) d5 rfl) (by omega))
          · rw [if_neg d5] at ec
            exact tri_quiet ec rfl hW.dn (fun a ha hc hn => keepV (same4 a) hn) (.inr rfl) (Run.mono (n := 4) (m := 2 * m.length + 10) (Run.ldDel hr M4 (hAt _) ⟨d1, d2, hW.k4, d5⟩ rfl) (by omega))
    · have ec : doNx c (.load e.h 0 (.walkKey .key)) { q with eff := false, cur := e.h, nx := .load e.h 0 (.walkKey .key) } G3 b = ({ q with eff := false, cur := e.h, bh := q.ah, bi := q.ai, ah := e.h, ai := 2, nx := .load e.h 2 (.walkAt .key) }, G3.mem (G3.S.acc e.h (0 : Nat) true id).2) := by
        show (if (G3.S.acc e.h 0 true id).1.1 = q.ky then _ else _, _) = _
        rw [e4, if_neg hk]; rfl
      refine tri_quiet ec rfl hW.dn (fun a ha hc hn => keepV (same4 a) hn) (.inr rfl) ?_
      have ea : l1 ++ e :: m = (l1 ++ [e]) ++ m := by simp
      have hw4 : Wn c m0 (G3.mem (G3.S.acc e.h (0 : Nat) true id).2) (l1 ++ e :: m) := ⟨by rw [← hw2.made, ← em3]; exact acc_made .., hw.m0, hw.d1, hw.le, hw.keys⟩
      rw [ea] at M4 hw4 ⊢
      refine Run.walk M4 hw4 ⟨spot_snoc.symm, rfl, fun l0 a h => ?_, hW.dn, hW.st, fun y hy => ?_, hW.k4⟩ (by rw [spot_snoc])
      · have := List.append_inj_left' h rfl
        subst this
        exact ⟨hW.ah, hW.ai⟩
      · rcases List.mem_append.1 hy with hy | hy
        · exact hW.k1 y hy
        · simp only [List.mem_singleton] at hy; subst hy; exact hk
end Go.Proofs.YtjggeoghlicmdaaGreat

/-
  A whole operation of an lru map that nobody disturbs.
-/
namespace Go.Proofs.YtjggeoghlicmdaaGreat
open Go Go.AS Go.RowKit
set_option linter.unusedVariables false
variable {c : Lc} {cap : Cx} {G : Gr} {l la l1 m : List El} {e : El} {x : List Int} {cnt : Wd} {m0 : Int} {n : Nat} {had : Bool} {q : Qr}

/-! ### What a step keeps -/
def Kp (q q' : Qr) : Prop := (q'.kd = q.kd ∧ q'.ky = q.ky ∧ q'.fl = q.fl ∧ q'.val = q.val) ∧ ((q'.eff = q.eff ∧ q'.res = q.res) ∨ q'.eff = true)
theorem Kp.refl (q : Qr) : Kp q q := ⟨⟨rfl, rfl, rfl, rfl⟩, .inl ⟨rfl, rfl⟩⟩
theorem Kp.trans {a b d : Qr} (h : Kp a b) (k : Kp b d) : Kp a d := by
  refine ⟨⟨k.1.1.trans h.1.1, k.1.2.1.trans h.1.2.1, k.1.2.2.1.trans h.1.2.2.1, k.1.2.2.2.trans h.1.2.2.2⟩, ?_⟩
  rcases k.2 with ⟨k1, k2⟩ | k1
  · rcases h.2 with ⟨h1, h2⟩ | h1
    · exact .inl ⟨k1.trans h1, k2.trans h2⟩
    · exact .inr (k1.trans h1)
  · exact .inr k1
theorem Kp.give (q : Qr) (a : Int) (b : List Wd) (d : Wd) (e : Int) : Kp q (q.give a b d e) := ⟨⟨rfl, rfl, rfl, rfl⟩, .inr rfl⟩
theorem Kp.same {q q' : Qr} (h1 : (q'.kd, q'.ky, q'.fl, q'.val, q'.eff, q'.res) = (q.kd, q.ky, q.fl, q.val, q.eff, q.res)) : Kp q q' := by
  simp only [Prod.mk.injEq] at h1
  exact ⟨⟨h1.1, h1.2.1, h1.2.2.1, h1.2.2.2.1⟩, .inl ⟨h1.2.2.2.2.1, h1.2.2.2.2.2⟩⟩
theorem Kp.away (q : Qr) : Kp q q.away := by unfold Qr.away; split <;> exact Kp.same rfl
theorem Kp.fail (q : Qr) (e : Int) : Kp q (q.fail e) := (Kp.give q ..).trans (Kp.away _)
theorem Kp.begin (q : Qr) : Kp q (q.begin c) := by unfold Qr.begin; split <;> exact Kp.same rfl
theorem Kp.used (q : Qr) : Kp q (q.used c) := by
  unfold Qr.used; split
  · exact Kp.away q
  · exact Kp.same rfl
theorem Kp.found (q : Qr) : Kp q q.found := by
  unfold Qr.found; split
  · split
    · exact Kp.fail ..
    · exact Kp.same rfl
  · split
    · exact Kp.same rfl
    · split <;> exact Kp.same rfl
theorem Kp.absent (q : Qr) : Kp q (q.absent c) := by
  unfold Qr.absent; split
  · exact Kp.fail ..
  · exact Kp.same rfl
theorem Kp.nearer (q : Qr) (k : Wd) : Kp q (q.nearer k) := by unfold Qr.nearer; split <;> exact Kp.same rfl
theorem Kp.nearest (q : Qr) : Kp q q.nearest := by
  unfold Qr.nearest; split
  · exact (Kp.give q ..).trans (Kp.away _)
  · exact Kp.fail ..
theorem Kp.doKS : ∀ (k : KS) (q : Qr) (G : Gr) (b : Nat), Kp q (doKS c k q G b).1
  | .upd, q, G, b => (Kp.give q ..).trans (Kp.used _)
  | .takeEnd, q, G, b => Kp.same rfl
  | .delEnd, q, G, b => (Kp.give q ..).trans (Kp.same rfl)
  | .used, q, G, b => Kp.same rfl
  | .layVal k, q, G, b => Kp.same rfl
  | .layYoung k, q, G, b => Kp.same rfl
  | .layGive k, q, G, b => (Kp.give q 0 [] 0 0).trans (Kp.doKS k _ G b)
  | .abs1, q, G, b => Kp.same rfl
  | .absLay _, q, G, b => Kp.same rfl
  | .absDef _, q, G, b => Kp.away q
  | .head _ _, q, G, b => Kp.same rfl
  | .away, q, G, b => Kp.away q
  | .begin, q, G, b => Kp.begin q
  | .room, q, G, b => Kp.same rfl
theorem Kp.stop (q : Qr) (a : Ask) : Kp q (q.stop c a) := by
  cases a
  · exact Kp.absent q
  · exact Kp.nearest q
  · exact (Kp.give q 0 [] 0 0).trans (Kp.same rfl)
theorem Kp.count (q : Qr) (w : Wd) (e h : Int) : Kp q (q.count c w e h) := by
  unfold Qr.count; split
  · exact Kp.fail ..
  · split <;> exact Kp.same rfl
theorem Kp.doKL (k : KL) (w : Wd) (q : Qr) (G : Gr) (b : Nat) : Kp q (doKL c k w q G b).1 := by
  cases k with
  | walkAt a =>
    show Kp q (if w = 0 then _ else _)
    split
    · exact (Kp.same rfl : Kp q { q with cur := IntKind.i64.wrap w.toNat }).trans (Kp.stop _ _)
    · exact Kp.same rfl
  | walkKey a =>
    cases a with
    | key =>
      show Kp q (if w = q.ky then _ else _)
      split
      · exact Kp.found q
      · exact Kp.same rfl
    | near => exact (Kp.nearer q w).trans (Kp.same rfl)
    | room => exact Kp.same rfl
  | look => exact (Kp.give q ..).trans (Kp.used _)
  | take => exact (Kp.give q ..).trans (Kp.same rfl)
  | count => exact Kp.count ..
  | unl k => exact Kp.same rfl
  | young h k => exact Kp.same rfl
theorem Kp.doNx (nx : Nx) (q : Qr) (G : Gr) (b : Nat) : Kp q (doNx c nx q G b).1 := by
  cases nx with
  | none => exact Kp.refl q
  | enter t k =>
    show Kp q (if _ then _ else _ : Qr × Gr).1
    split
    · exact (Kp.same rfl : Kp q { q with nx := .enter (t.step c G.S).2.1 k }).trans (Kp.doKS ..)
    · exact Kp.same rfl
  | load a i k => exact Kp.doKL ..
  | store a i w k => exact Kp.doKS ..
  | more w => exact Kp.away q
  | drop => exact Kp.same rfl

/-! ### From the beginning to the end -/
def Vals (c : Lc) (p : Int → Prop) (G G' : Gr) : Prop := ∀ h, p h → h ≠ c.h → G'.S.V h ≠ none → G.S.V h ≠ none ∧ val G'.S h = val G.S h
theorem Vals.refl {p : Int → Prop} (G : Gr) : Vals c p G G := fun h _ _ hn => ⟨hn, rfl⟩
theorem Vals.trans {p : Int → Prop} {A B D : Gr} (h : Vals c p A B) (k : Vals c p B D) : Vals c p A D := fun a ha hc hn => by
  obtain ⟨x1, x2⟩ := k a ha hc hn
  obtain ⟨x3, x4⟩ := h a ha hc x1
  exact ⟨x3, x2.trans x4⟩
/-- What a whole operation has done. -/
structure Whole (c : Lc) (m0 : Int) (G0 : Gr) (la0 : List El) (q : Qr) (G : Gr) (la : List El) : Prop where
  ex : ∃ Ga qe Gb, Eff c Ga qe Gb la0 la ∧ qe.res = q.res ∧ (q.kd = qe.kd ∧ q.ky = qe.ky ∧ q.fl = qe.fl ∧ q.val = qe.val) ∧ Ga.q = G0.q ∧ Vals c (· ≤ m0) G0 Ga ∧ Vals c (fun _ => True) Gb G ∧
    ∀ h, h ≤ m0 → h ≠ c.h → Gb.S.V h ≠ none → Ga.S.V h ≠ none ∧ ((qe.kd = 2 ∧ ∃ e ∈ la0, e.h = h ∧ e.k = qe.ky) ∨ val Gb.S h = val Ga.S h)
def Acc (c : Lc) (m0 : Int) (G0 : Gr) (la0 : List El) : Bool → Qr → Gr → List El → Prop
  | false, q, G, la => la = la0 ∧ G.q = G0.q ∧ Vals c (· ≤ m0) G0 G
  | true, q, G, la => Whole c m0 G0 la0 q G la

theorem Run.fin {P : Qr → Gr → List El → Prop} {N : Nat} {G0 : Gr} {la0 : List El} (hP : ∀ q G la, P q G la → G.q.length < 10000) :
    ∀ {n k : Nat} {had : Bool} {q : Qr} {G : Gr} {la : List El}, Run c (fun G G1 => G1 = G) m0 P n had q G la → k + n ≤ N → N ≤ 998 → Acc c m0 G0 la0 had q G la →
      Fin' c (fun k q G => k ≤ N ∧ ∃ la, P q G la ∧ Whole c m0 G0 la0 q G la) k had.toNat q G
  | 0, _, _, _, _, _, h, _, _, _ => h.elim
  | n + 1, k, had, q, G, la, ⟨hd, hn, h⟩, hk, hN, ha => by
    obtain ⟨hf, hl, hb⟩ := h G rfl
    have key : ∀ b, ∃ la', Acc c m0 G0 la0 (had || (q.step c G b).1.eff) (q.step c G b).1 (q.step c G b).2 la' ∧ (had = true → (q.step c G b).1.eff = false) ∧
        ((q.step c G b).1.dn = true → (had || (q.step c G b).1.eff) = true ∧ P (q.step c G b).1 (q.step c G b).2 la') ∧
        ((q.step c G b).1.dn = false → Run c (fun G G1 => G1 = G) m0 P n (had || (q.step c G b).1.eff) (q.step c G b).1 (q.step c G b).2 la') := fun b => by
      obtain ⟨la', t, h1, h2⟩ := hb b
      have e : q.step c G b = doNx c q.nx { q with eff := false } G b := by
        unfold Qr.step; rw [if_neg (by rw [hd]; exact Bool.false_ne_true)]
      have kp := Kp.doNx (c := c) q.nx { q with eff := false } G b
      rw [← e] at kp
      generalize q.step c G b = s at *
      have hyes : had = true → s.1.eff = false := fun hh => by
        cases he : s.1.eff with
        | false => rfl
        | true => have := (t.yes he).1; rw [hh] at this; cases this
      refine ⟨la', ?_, hyes, h1, h2⟩
      cases had with
      | false =>
        obtain ⟨rfl, a2, a3⟩ := ha
        cases he : s.1.eff with
        | false =>
          have e1 := t.no he
          subst e1
          refine ⟨rfl, (t.wait rfl he).trans a2, a3.trans fun h hh hc hv => ?_⟩
          obtain ⟨x1, x2⟩ := t.vals h (.inl hh) hc hv
          refine ⟨x1, x2.resolve_left fun y => ?_⟩
          rw [he] at y; cases y.1
        | true =>
          exact ⟨G, s.1, s.2, (t.yes he).2, rfl, ⟨rfl, rfl, rfl, rfl⟩, a2, a3, Vals.refl _, fun h hh hc hv => by
            obtain ⟨x1, x2⟩ := t.vals h (.inl hh) hc hv
            exact ⟨x1, x2.imp (fun y => y.2) id⟩⟩
      | true =>
        have he := hyes rfl
        have e1 := t.no he
        subst e1
        obtain ⟨Ga, qe, Gb, b1, b2, b3, b4, b5, b6, b7⟩ := ha.ex
        have hres : s.1.res = q.res := by
          rcases kp.2 with y | y
          · exact y.2
          · rw [he] at y; cases y
        refine ⟨Ga, qe, Gb, b1, b2.trans hres.symm, ⟨kp.1.1.trans b3.1, kp.1.2.1.trans b3.2.1, kp.1.2.2.1.trans b3.2.2.1, kp.1.2.2.2.trans b3.2.2.2⟩, b4, b5, b6.trans fun h _ hc hv => ?_, b7⟩
        obtain ⟨x1, x2⟩ := t.vals h (.inr rfl) hc hv
        refine ⟨x1, x2.resolve_left fun y => ?_⟩
        rw [he] at y; cases y.1
    refine Fin'.step hd hn hf hl (by omega) (fun b hdn => ?_) fun b hdn => ?_
    · obtain ⟨la', k1, k2, k3, _⟩ := key b
      obtain ⟨k4, k5⟩ := k3 hdn
      rw [k4] at k1
      refine ⟨?_, ⟨by omega, la', k5, k1⟩, hP _ _ _ k5⟩
      cases had with
      | false => simp only [Bool.false_or] at k4; rw [k4]; rfl
      | true => rw [k2 rfl]; rfl
    · obtain ⟨la', k1, k2, _, k3⟩ := key b
      have := Run.fin hP (k3 hdn) (by omega : k + 1 + n ≤ N) hN k1
      have et : (had || (q.step c G b).1.eff).toNat = had.toNat + (q.step c G b).1.eff.toNat := by
        cases had with
        | false => simp
        | true => rw [k2 rfl]; rfl
      rw [et] at this
      exact this

theorem Fin'.weaken {Q Q' : Nat → Qr → Gr → Prop} (hq : ∀ k q G, Q k q G → Q' k q G) {k e : Nat} {q : Qr} {G : Gr} (h : Fin' c Q k e q G) : Fin' c Q' k e q G := by
  induction h with
  | step hd hn hf hl hk h1 h2 ih => exact .step hd hn hf hl hk (fun b hb => ⟨(h1 b hb).1, hq _ _ _ (h1 b hb).2.1, (h1 b hb).2.2⟩) ih
/-- What is asked stays. -/
theorem Fin'.ops {Q : Nat → Qr → Gr → Prop} {kd fl : Int} {ky v : Wd} {k e : Nat} {q : Qr} {G : Gr} (h : Fin' c Q k e q G) (ho : q.kd = kd ∧ q.ky = ky ∧ q.fl = fl ∧ q.val = v) :
    Fin' c (fun k q G => Q k q G ∧ (q.kd = kd ∧ q.ky = ky ∧ q.fl = fl ∧ q.val = v)) k e q G := by
  induction h with
  | @step k e q G hd hn hf hl hk h1 h2 ih =>
    have kp : ∀ b, (q.step c G b).1.kd = kd ∧ (q.step c G b).1.ky = ky ∧ (q.step c G b).1.fl = fl ∧ (q.step c G b).1.val = v := fun b => by
      have e : q.step c G b = doNx c q.nx { q with eff := false } G b := by
        unfold Qr.step; rw [if_neg (by rw [hd]; exact Bool.false_ne_true)]
      have kp := (Kp.doNx (c := c) q.nx { q with eff := false } G b).1
      rw [← e] at kp
      exact ⟨kp.1.trans ho.1, kp.2.1.trans ho.2.1, kp.2.2.1.trans ho.2.2.1, kp.2.2.2.trans ho.2.2.2⟩
    exact .step hd hn hf hl hk (fun b hb => ⟨(h1 b hb).1, ⟨(h1 b hb).2.1, kp b⟩, (h1 b hb).2.2⟩) fun b hb => ih b hb (kp b)
theorem begin_key {q : Qr} (h : q.kd ≠ 4) : q.begin c = q.walk c .key := if_neg h
/-- An operation alone: the lock is free, then it is free again. -/
theorem Run.alone {w : Wd} {kd fl : Int} {ky v : Wd} (M : Mem c ⟨(· = w), w⟩ G la [] (lenW la)) (hw : Wn c m0 G la) (hk : kd ≠ 4) (b : Nat) :
    RunM c ⟨(· = w + 1), w⟩ (fun G G1 => G1 = G) m0 (2 * la.length + 12) false (Qr.new kd ky fl 0 v b) G la := by
  show RunM c ⟨(· = w + 1), w⟩ (fun G G1 => G1 = G) m0 ((2 * la.length + 10) + 1 + 1) false (Qr.new kd ky fl 0 v b) G la
  refine Run.intro (Rely.eq (cap := ⟨(· = w), w⟩)) M rfl (nx0 := .enter ⟨b, 0, 0⟩ .begin) rfl (fun h => by cases h) fun G1 hi M1 em b2 => ?_
  subst hi
  obtain ⟨d, hd, e1, _, M2, hv2, same⟩ := M1.draw (dq' := (· = w + 1)) (addF 1) (fun d hd => by rw [addF_eq]; show d + 1 = w + 1; rw [show d = w from hd])
  have hd : d = w := hd
  subst hd
  have ec : doNx c (.enter ⟨b, 0, 0⟩ .begin) { Qr.new kd ky fl 0 v b with eff := false } G1 b2 = ({ Qr.new kd ky fl 0 v b with nx := .enter ⟨b, d, 1⟩ .begin }, G1.mem (G1.S.acc c.h 0 true (addF 1)).2) := by
    have et : Tk.step c ⟨b, 0, 0⟩ G1.S = (false, ⟨b, d, 1⟩, (G1.S.acc c.h 0 true (addF 1)).2) := by
      unfold Tk.step
      rw [if_pos rfl]
      simp only [e1, if_true]
    unfold doNx
    simp only [et]
    rfl
  refine tri_quiet ec rfl rfl (fun a ha hc hn => keepV (same a hc) hn) (.inr rfl) ?_
  have hw2 : Wn c m0 (G1.mem (G1.S.acc c.h 0 true (addF 1)).2) la := ⟨by rw [← hw.made]; exact acc_made .., hw.m0, hw.d1, hw.le, hw.keys⟩
  generalize G1.mem (G1.S.acc c.h 0 true (addF 1)).2 = G2 at M2 hw2
  refine Run.intro (Rely.eq (cap := ⟨(· = d + 1), d⟩)) M2 rfl (nx0 := .enter ⟨b, d, 1⟩ .begin) rfl (fun h => by cases h) fun G3 hi M3 em b2 => ?_
  subst hi
  obtain ⟨dr, _, hv⟩ := M3.lock
  obtain ⟨e1, M4, same⟩ := M3.load (i := 1) hv (by simp)
  have e1 : (G3.S.acc c.h 1 true id).1 = (d, true) := by
    have := (V_acc1 hv (by simp) id).1
    exact this
  have ec : doNx c (.enter ⟨b, d, 1⟩ .begin) { ({ Qr.new kd ky fl 0 v b with nx := .enter ⟨b, d, 1⟩ .begin } : Qr) with eff := false } G3 b2 = ({ Qr.new kd ky fl 0 v b with ah := c.h, ai := 2, nx := .load c.h 2 (.walkAt .key) }, G3.mem (G3.S.acc c.h (1 : Nat) true id).2) := by
    have et : Tk.step c ⟨b, d, 1⟩ G3.S = (true, ⟨b, d, 2⟩, (G3.S.acc c.h 1 true id).2) := by
      unfold Tk.step
      rw [if_neg (by simp), if_pos rfl, if_pos (by rw [e1]; exact ⟨rfl, rfl⟩)]
    unfold doNx
    simp only [et]
    show (Qr.begin c _, _) = _
    rw [begin_key]
    · rfl
    · exact hk
  refine tri_quiet ec rfl rfl (fun a ha hc hn => keepV (same a) hn) (.inr rfl) ?_
  have := Run.walk (l1 := []) (m := la) (q := { Qr.new kd ky fl 0 v b with ah := c.h, ai := 2, nx := .load c.h 2 (.walkAt .key) }) (Rely.eq (cap := ⟨(· = d + 1), d⟩)) M4
    ⟨by rw [← hw2.made]; exact acc_made .., hw2.m0, hw2.d1, hw2.le, hw2.keys⟩ ⟨rfl, rfl, fun l0 a h => by simp at h, rfl, rfl, fun y hy => by simp at hy, hk⟩ rfl
  exact this
end Go.Proofs.YtjggeoghlicmdaaGreat

/-
  s.alone, by what it does to the list.
-/
namespace Go.Proofs.YtjggeoghlicmdaaGreat
open Go Go.AS Go.RowKit
set_option linter.unusedVariables false
variable {H H' : Heap} {R : Value → Heap → Prop} {L : List Asr} {c : Lc} {X : Gx} {G : Gr} {la : List El} {w : Wd}

/-- A map that nobody is at: how many regions were made, at most; the list; the lock's words. -/
structure Idle (c : Lc) (w : Wd) (mx : Int) (G : Gr) (la : List El) : Prop where
  mem : Mem c ⟨(· = w), w⟩ G la [] (lenW la)
  made : G.S.made ≤ mx
  d1 : 1 ≤ c.d1 ∧ c.d1 ≤ 64
  le : (la.length : Int) ≤ c.d1
  keys : (la.map El.k).Nodup
  n : 0 < G.n
  out : 0 ∉ G.ins

theorem alone2_s {kd fl : Int} {ky v : Wd} {mx : Int} (h : Sep H (xA c :: grA c.g c.m X :: L)) (hI : Idle c w mx X.G la) (hmx : mx < 2305843009213693951) (hk : kd ≠ 4)
    (hR : ∀ H' X' k q G la' o, k ≤ 2 * la.length + 12 → Whole c X.G.S.made (X.G.enter 0).2 la q G la' → q.kd = kd ∧ q.ky = ky ∧ q.fl = fl ∧ q.val = (if kd = 2 then v else 0) →
      Mem c ⟨(· = w + 1), w + 1⟩ G la' [] (lenW la') → X'.G = (G.leave 0).2 → (o = none → q.rv = []) →
      Sep H' (xA c :: grA c.g c.m X' :: gl 1 o (q.rv.map W) :: L) → R (.tuple #[.agg #[I q.no, .slice (addr o) q.rv.length 0, W q.rk, I q.el], I k]) H') :
    CA en F.crossbarlaw16_one_alone [.agg #[P c.m, P c.g, P c.x], I kd, W ky, W v, I fl] H R := by
  have hent : (X.G.enter 0).1 = true := by
    unfold Gr.enter
    rw [if_neg (by simp only [not_or]; exact ⟨by omega, by have := hI.n; omega, hI.out⟩)]
  obtain ⟨M1, eS, eq⟩ := hI.mem.enter 0
  have hw : Wn c X.G.S.made (X.G.enter 0).2 la := ⟨by rw [eS], by have := hI.made; omega, hI.d1, hI.le, hI.keys⟩
  have hlen : la.length ≤ 64 := by have := hI.le; have := hI.d1; omega
  refine alone_s (Q := fun k q G => k ≤ 2 * la.length + 12 ∧ ∃ la', PM c ⟨(· = w + 1), w⟩ q G la' ∧ Whole c X.G.S.made (X.G.enter 0).2 la q G la' ∧ (q.kd = kd ∧ q.ky = ky ∧ q.fl = fl ∧ q.val = (if kd = 2 then v else 0))) h hent (fun b => ?_) fun H' X' k q G o ⟨hk2, la', hp, hwh, hop⟩ e ho hs => ?_
  · have h1 := Run.alone (kd := kd) (fl := fl) (ky := ky) (v := if kd = 2 then v else 0) M1 hw hk b
    have h2 := Run.fin (N := 2 * la.length + 12) (G0 := (X.G.enter 0).2) (la0 := la) (k := 0) (fun q G la h => Mem.qlen h) h1 (by omega) (by omega) ⟨rfl, rfl, Vals.refl _⟩
    refine h2.ops ?_ |>.weaken fun k q G ⟨⟨a, la', b, d⟩, e⟩ => ⟨a, la', b, d, e⟩
    exact ⟨rfl, rfl, rfl, rfl⟩
  · exact hR H' X' k q G la' o hk2 hwh hop hp e ho hs
end Go.Proofs.YtjggeoghlicmdaaGreat

/-
  An operation alone leaves the map idle.
-/
namespace Go.Proofs.YtjggeoghlicmdaaGreat
open Go Go.AS Go.RowKit
set_option linter.unusedVariables false
variable {c : Lc} {G : Gr} {la la' : List El} {w : Wd} {q : Qr}

/-- Who is inside stays; a region may be new. -/
def Gq (G G' : Gr) : Prop := G'.ins = G.ins ∧ G'.n = G.n ∧ (G'.S.made = G.S.made ∨ G'.S.made = wr (G.S.made + 1))
theorem Gq.refl (G : Gr) : Gq G G := ⟨rfl, rfl, .inl rfl⟩
theorem Gq.defer (G : Gr) (h : Int) (b : Nat) : (G.defer h b).2.ins = G.ins ∧ (G.defer h b).2.n = G.n ∧ (G.defer h b).2.S.made = G.S.made := by
  unfold Gr.defer; split
  · exact ⟨rfl, rfl, rfl⟩
  · exact ⟨rfl, rfl, frees_made _ _⟩
theorem doKS_G : ∀ (k : KS) (q : Qr) (G : Gr) (b : Nat), (doKS c k q G b).2.ins = G.ins ∧ (doKS c k q G b).2.n = G.n ∧ (doKS c k q G b).2.S.made = G.S.made
  | .upd, q, G, b => ⟨rfl, rfl, rfl⟩
  | .takeEnd, q, G, b => Gq.defer ..
  | .delEnd, q, G, b => Gq.defer ..
  | .used, q, G, b => ⟨rfl, rfl, rfl⟩
  | .layVal k, q, G, b => ⟨rfl, rfl, rfl⟩
  | .layYoung k, q, G, b => ⟨rfl, rfl, rfl⟩
  | .layGive k, q, G, b => doKS_G k _ G b
  | .abs1, q, G, b => ⟨rfl, rfl, rfl⟩
  | .absLay _, q, G, b => ⟨rfl, rfl, rfl⟩
  | .absDef _, q, G, b => Gq.defer ..
  | .head _ _, q, G, b => ⟨rfl, rfl, rfl⟩
  | .away, q, G, b => ⟨rfl, rfl, rfl⟩
  | .begin, q, G, b => ⟨rfl, rfl, rfl⟩
  | .room, q, G, b => ⟨rfl, rfl, rfl⟩
theorem make_made (S : Sm) (b : Nat) (n : Int) : (S.make b n).2.made = S.made ∨ (S.make b n).2.made = wr (S.made + 1) := by
  unfold Sm.make; split
  · exact .inl rfl
  · split
    · exact .inl rfl
    · exact .inr rfl
theorem doKL_G (k : KL) (w : Wd) (q : Qr) (G : Gr) (b : Nat) : Gq G (doKL c k w q G b).2 := by
  cases k with
  | walkAt a => exact Gq.refl G
  | walkKey a => cases a <;> exact Gq.refl G
  | look => exact Gq.refl G
  | take => exact Gq.refl G
  | count => exact ⟨rfl, rfl, make_made _ _ _⟩
  | unl k => exact Gq.refl G
  | young h k => exact Gq.refl G
theorem tk_made {t : Tk} {S : Sm} : (t.step c S).2.2.made = S.made := by
  unfold Tk.step; split
  · exact acc_made ..
  · split
    · split <;> exact acc_made ..
    · rfl
theorem doNx_G (nx : Nx) (q : Qr) (G : Gr) (b : Nat) : Gq G (doNx c nx q G b).2 := by
  cases nx with
  | none => exact Gq.refl G
  | enter t k =>
    show Gq G (if _ then _ else _ : Qr × Gr).2
    split
    · obtain ⟨h1, h2, h3⟩ := doKS_G (c := c) k { q with nx := .enter (t.step c G.S).2.1 k } (G.mem (t.step c G.S).2.2) b
      exact ⟨h1, h2, .inl (h3.trans tk_made)⟩
    · exact ⟨rfl, rfl, .inl tk_made⟩
  | load a i k =>
    obtain ⟨h1, h2, h3⟩ := doKL_G (c := c) k (G.S.acc a i true id).1.1 q (G.mem (G.S.acc a i true id).2) b
    have e : (G.mem (G.S.acc a i true id).2).S.made = G.S.made := acc_made ..
    rw [e] at h3
    exact ⟨h1, h2, h3⟩
  | store a i w k =>
    obtain ⟨h1, h2, h3⟩ := doKS_G (c := c) k q (G.mem (G.S.acc a i true fun _ => w).2) b
    exact ⟨h1, h2, .inl (h3.trans (acc_made ..))⟩
  | more w => exact ⟨rfl, rfl, .inl (acc_made ..)⟩
  | drop => exact ⟨rfl, rfl, .inl (acc_made ..)⟩

theorem Fin'.grace {Q : Nat → Qr → Gr → Prop} {ins : List Int} {n mx : Int} (hN : mx + 1000 < 2305843009213693952) {k e : Nat} {G : Gr} (h : Fin' c Q k e q G)
    (ho : G.ins = ins ∧ G.n = n ∧ 0 ≤ G.S.made ∧ G.S.made ≤ mx + k) : Fin' c (fun k q G => Q k q G ∧ G.ins = ins ∧ G.n = n ∧ G.S.made ≤ mx + k) k e q G := by
  induction h with
  | @step k e q G hd hn hf hl hk h1 h2 ih =>
    have kp : ∀ b, (q.step c G b).2.ins = ins ∧ (q.step c G b).2.n = n ∧ 0 ≤ (q.step c G b).2.S.made ∧ (q.step c G b).2.S.made ≤ mx + (k + 1 : Nat) := fun b => by
      have e : q.step c G b = doNx c q.nx { q with eff := false } G b := by
        unfold Qr.step; rw [if_neg (by rw [hd]; exact Bool.false_ne_true)]
      obtain ⟨g1, g2, g3⟩ := doNx_G (c := c) q.nx { q with eff := false } G b
      rw [← e] at g1 g2 g3
      have hw : wr (G.S.made + 1) = G.S.made + 1 := wrs (by omega)
      rw [hw] at g3
      exact ⟨g1.trans ho.1, g2.trans ho.2.1, by rcases g3 with g | g <;> omega, by rcases g3 with g | g <;> omega⟩
    exact .step hd hn hf hl hk (fun b hb => ⟨(h1 b hb).1, ⟨(h1 b hb).2.1, (kp b).1, (kp b).2.1, (kp b).2.2.2⟩, (h1 b hb).2.2⟩) fun b hb => ih b hb (kp b)

/-! ### The list behind an effect -/
theorem rm_keys {k : Wd} (nd : (la.map El.k).Nodup) : ((rm la k).map El.k).Nodup ∧ k ∉ (rm la k).map El.k := by
  refine ⟨nd.sublist (List.filter_sublist.map _), fun h => ?_⟩
  obtain ⟨e, he, e2⟩ := List.mem_map.1 h
  have := (List.mem_filter.1 he).2
  simp only [bne_iff_ne, ne_eq] at this
  exact this e2
theorem rm_len {k : Wd} {e : El} (h : findK la k = some e) : (rm la k).length < la.length := by
  unfold rm
  have hm := List.mem_of_find?_eq_some h
  have hk := List.find?_some h
  exact List.length_filter_lt_length_iff_exists.2 ⟨e, hm, by simpa using hk⟩
theorem Eff.keeps {Ga Gb : Gr} (he : Eff c Ga q Gb la la') (nd : (la.map El.k).Nodup) (hle : (la.length : Int) ≤ c.d1) (hd : 1 ≤ c.d1) : (la'.map El.k).Nodup ∧ (la'.length : Int) ≤ c.d1 := by
  unfold Eff at he
  split at he
  · rw [he.1]; exact ⟨nd, hle⟩
  · split at he
    · rename_i e hf
      have hk : e.k = q.ky := by simpa using List.find?_some hf
      have h1 := rm_keys (k := q.ky) nd
      have h2 := rm_len hf
      have h3 : ((e :: rm la q.ky).map El.k).Nodup := by
        rw [List.map_cons, List.nodup_cons, hk]; exact ⟨h1.2, h1.1⟩
      have h4 : ((e :: rm la q.ky).length : Int) ≤ c.d1 := by rw [List.length_cons]; omega
      split at he
      · split at he
        · rw [he.2]; exact ⟨nd, hle⟩
        · rw [he.2.1]; exact ⟨h3, h4⟩
      · split at he
        · rw [he.2]; exact ⟨h3, h4⟩
        · split at he
          · rw [he.2]; exact ⟨h1.1, by omega⟩
          · rw [he.2]; exact ⟨h1.1, by omega⟩
    · rename_i hf
      have hno : q.ky ∉ la.map El.k := fun h => by
        obtain ⟨e, he, e2⟩ := List.mem_map.1 h
        have := List.find?_eq_none.1 hf e he
        simp only [beq_iff_eq] at this
        exact this e2
      split at he
      · rw [he.2]; exact ⟨nd, hle⟩
      · rcases he with he | ⟨_, h, _, e1, _⟩
        · rw [he.2.1]; exact ⟨nd, hle⟩
        · rw [e1]
          split
          · refine ⟨?_, by rw [List.length_cons]; omega⟩
            rw [List.map_cons, List.nodup_cons]; exact ⟨hno, nd⟩
          · refine ⟨?_, by rw [List.length_cons, List.length_dropLast]; omega⟩
            rw [List.map_cons, List.nodup_cons]
            exact ⟨fun h => hno (List.map_subset _ (List.dropLast_subset _) h), nd.sublist ((List.dropLast_sublist _).map _)⟩
end Go.Proofs.YtjggeoghlicmdaaGreat

/-
  s.alone: from an idle map to an idle map.
-/
namespace Go.Proofs.YtjggeoghlicmdaaGreat
open Go Go.AS Go.RowKit
set_option linter.unusedVariables false
variable {H H' : Heap} {R : Value → Heap → Prop} {L : List Asr} {c : Lc} {X : Gx} {G : Gr} {la la' : List El} {w : Wd} {q : Qr}

theorem Fin'.pos {Q : Nat → Qr → Gr → Prop} {k e : Nat} {G : Gr} (h : Fin' c Q k e q G) : Fin' c (fun k q G => Q k q G ∧ 1 ≤ k) k e q G := by
  induction h with
  | step hd hn hf hl hk h1 h2 ih => exact .step hd hn hf hl hk (fun b hb => ⟨(h1 b hb).1, ⟨(h1 b hb).2.1, by omega⟩, (h1 b hb).2.2⟩) ih
theorem leave_made {a : Int} : (G.leave a).2.S.made = G.S.made := by
  unfold Gr.leave; split
  · exact frees_made _ _
  · rfl

/-- What an operation alone has done, in all. -/
structure Did (c : Lc) (G0 : Gr) (la0 : List El) (q : Qr) (G : Gr) (la : List El) : Prop where
  ex : ∃ Ga qe Gb, Eff c Ga qe Gb la0 la ∧ qe.res = q.res ∧ (q.kd = qe.kd ∧ q.ky = qe.ky ∧ q.fl = qe.fl ∧ q.val = qe.val) ∧ Ga.q = G0.q ∧ Vals c (· ≤ G0.S.made) G0 Ga ∧ Vals c (fun _ => True) Gb G ∧
    ∀ h, h ≤ G0.S.made → h ≠ c.h → Gb.S.V h ≠ none → Ga.S.V h ≠ none ∧ ((qe.kd = 2 ∧ ∃ e ∈ la0, e.h = h ∧ e.k = qe.ky) ∨ val Gb.S h = val Ga.S h)

theorem op_s {kd fl : Int} {ky v : Wd} {mx : Int} (h : Sep H (xA c :: grA c.g c.m X :: L)) (hI : Idle c w mx X.G la) (hmx : mx + 1000 < 2305843009213693952) (hk : kd ≠ 4)
    (hR : ∀ H' X' k q la' o, 1 ≤ k → k ≤ 2 * la.length + 12 → Did c X.G la q X'.G la' → q.kd = kd ∧ q.ky = ky ∧ q.fl = fl ∧ q.val = (if kd = 2 then v else 0) →
      Idle c (w + 1) (mx + 1000) X'.G la' → (∀ a, a ∈ X'.G.ins ↔ a ∈ X.G.ins) → (o = none → q.rv = []) →
      Sep H' (xA c :: grA c.g c.m X' :: gl 1 o (q.rv.map W) :: L) → R (.tuple #[.agg #[I q.no, .slice (addr o) q.rv.length 0, W q.rk, I q.el], I k]) H') :
    CA en F.crossbarlaw16_one_alone [.agg #[P c.m, P c.g, P c.x], I kd, W ky, W v, I fl] H R := by
  have hent : X.G.enter 0 = (true, { X.G with ins := X.G.ins ++ [0] }) := by
    unfold Gr.enter
    rw [if_neg (by simp only [not_or]; exact ⟨by omega, by have := hI.n; omega, hI.out⟩)]
  obtain ⟨M1, eS, eq⟩ := hI.mem.enter 0
  have hw : Wn c X.G.S.made (X.G.enter 0).2 la := ⟨by rw [eS], by have := hI.made; omega, hI.d1, hI.le, hI.keys⟩
  have hlen : la.length ≤ 64 := by have := hI.le; have := hI.d1; omega
  refine alone_s (Q := fun k q G => (((k ≤ 2 * la.length + 12 ∧ ∃ la', PM c ⟨(· = w + 1), w⟩ q G la' ∧ Whole c X.G.S.made (X.G.enter 0).2 la q G la') ∧ (q.kd = kd ∧ q.ky = ky ∧ q.fl = fl ∧ q.val = (if kd = 2 then v else 0))) ∧ G.ins = X.G.ins ++ [0] ∧ G.n = X.G.n ∧ G.S.made ≤ mx + k) ∧ 1 ≤ k)
    h (by rw [hent]) (fun b => ?_) fun H' X' k q G o ⟨⟨⟨⟨hk2, la', hp, hwh⟩, hop⟩, hins, hn, hmd⟩, hk1⟩ e ho hs => ?_
  · have h1 := Run.alone (kd := kd) (fl := fl) (ky := ky) (v := if kd = 2 then v else 0) M1 hw hk b
    have h2 := Run.fin (N := 2 * la.length + 12) (G0 := (X.G.enter 0).2) (la0 := la) (k := 0) (fun q G la h => Mem.qlen h) h1 (by omega) (by omega) ⟨rfl, rfl, Vals.refl _⟩
    have h3 := (h2.ops (kd := kd) (fl := fl) (ky := ky) (v := if kd = 2 then v else 0) ⟨rfl, rfl, rfl, rfl⟩).grace (ins := X.G.ins ++ [0]) (n := X.G.n) (mx := mx) hmx ⟨by rw [hent], by rw [hent], by rw [eS]; exact hI.mem.made.1, by rw [eS]; have := hI.made; omega⟩
    exact h3.pos
  · have M2 : Mem c ⟨(· = w + 1), w + 1⟩ G la' [] (lenW la') := hp
    obtain ⟨M3, f3⟩ := M2.leave 0
    obtain ⟨Ga, qe, Gb, b1, b2, b3, b4, b5, b6, b7⟩ := hwh.ex
    have hkeep := b1.keeps hI.keys hI.le hI.d1.1
    have hi : ∀ a, a ∈ (G.leave 0).2.ins ↔ a ∈ X.G.ins := fun a => by
      rw [leave_ins M2.ok, hins]
      simp only [List.mem_append, List.mem_singleton]
      constructor
      · rintro ⟨h1 | h1, h2⟩
        · exact h1
        · exact absurd h1 h2
      · intro h1
        exact ⟨.inl h1, fun e => hI.out (e ▸ h1)⟩
    refine hR H' X' k q la' o hk1 hk2 ?_ hop ?_ (by rw [e]; exact hi) ho hs
    · rw [e]
      refine ⟨Ga, qe, Gb, b1, b2, b3, by rw [b4, eq], ?_, b6.trans fun a _ hc hv => keepV (f3 a hv) hv, b7⟩
      intro a ha hc hv
      have := b5 a ha hc hv
      rw [eS] at this; exact this
    · rw [e]
      refine ⟨M3, by rw [leave_made]; omega, hI.d1, hkeep.2, hkeep.1, by rw [leave_n, hn]; exact hI.n, fun h0 => hI.out ((hi 0).1 h0)⟩
end Go.Proofs.YtjggeoghlicmdaaGreat

/-
  An lru map that is new.
-/
namespace Go.Proofs.YtjggeoghlicmdaaGreat
open Go Go.AS Go.RowKit
set_option linter.unusedVariables false
variable {H H' : Heap} {R : Value → Heap → Prop} {L : List Asr} {m : Nat} {S : Sm}

theorem newG2_s {n : Int} (hs : Sep H (mem m S :: L)) (hR : ∀ H' g mi, IsG H' g m ⟨n, mi, [], [], S⟩ L → R (P g) H') : CA en F.grace_New [I n, P m] H R := by
  apply vc_grace_New
  refine im_new (ik := .i64) hs fun mi H2 h2 => Sep.nw h2 fun g H4 h4 => hR H4 g mi ⟨none, [], fun _ => rfl, fun _ => rfl, ?_⟩
  have h5 : Sep H4 (wm [] :: bx g (.cells true 0 [P m, I n, .map (some mi), .slice none 0 0]) :: im .i64 mi [] :: mem m S :: L) := Sep.many0 h4
  have h6 : Sep H4 (gl 2 none [] :: wm [] :: bx g (.cells true 0 [P m, I n, .map (some mi), .slice none 0 0]) :: im .i64 mi [] :: mem m S :: L) := gl_none.2 h5
  exact Sep.pick h6 5 [2, 3, 0, 1, 4] (by decide)

theorem lru_chk {n : Int} (h : 1 ≤ n ∧ n ≤ 64) : chks [⟨5, n, 1, 0, 0⟩] = 0 := by
  have e1 : ¬ (n < 1) := by omega
  have e2 : ¬ (n > 64) := by omega
  simp [chks, firstBad, chk, kindOf, kindD, e1, e2]

abbrev lcOf (x m g : Nat) (n cp : Int) : Lc := ⟨x, m, g, 5, n, 1, 0, 0, 1, cp⟩
/-- New. -/
theorem lnew_s {g : Nat} {X : Gx} {n cp : Int} (hn : 1 ≤ n ∧ n ≤ 64) (h : Sep H (grA g m X :: L)) (hm : X.G.S.made = 0) (hf : X.G.S.fresh) (hroom : 4 ≤ X.G.S.room)
    (hR : ∀ H' x b, Sep H' (xA (lcOf x m g n cp) :: grA g m (X.to (X.G.S.mk' b 4)) :: L) → R (.tuple #[P x, I 0]) H') : CA en F.lru_New [P m, P g, .agg #[I 5, I n, I 1, I 0, I 0], I 1] H R := by
  apply vc_lru_New
  refine Sep.nw h fun i1 H2 h2 => ⟨_, _, _, _, _, Sep.lds0 h2 rfl, Sep.nw h2 fun i8 H9 h9 => ?_⟩
  refine Check_ok (l := [⟨5, n, 1, 0, 0⟩]) ⟨rfl, .inr ⟨i8, true, 5, rfl, h9.footlt (by simp [bx]), Sep.get0 h9⟩⟩ fun H11 fr => ⟨_, rfl, ?_⟩
  have h11 := (h9.keep fr).tail
  rw [lru_chk hn]
  refine cond_no rfl ⟨_, Sep.ld0 h11 rfl, cond_no rfl ?_⟩
  refine gmake_s (Sep.up1 h11) hf fun H15 b h15 => ⟨_, _, rfl, ?_⟩
  have e : X.G.S.make b 4 = ((1, 0), X.G.S.mk' b 4) := by
    unfold Sm.make
    rw [if_neg (by omega), if_neg (by omega), hm]; rfl
  rw [e] at h15 ⊢
  refine cond_no rfl ⟨_, _, _, _, _, Sep.lds1 h15 rfl, Sep.nw h15 fun x H24 h24 => ?_⟩
  exact hR H24 x b (Sep.pick h24 3 [0, 1] (by decide))

theorem idle_new {mp mi b x m g : Nat} {n room : Int} (hn : 1 ≤ n ∧ n ≤ 64) (hr : 4 ≤ room ∧ room ≤ 20000) :
    Idle (lcOf x m g n (room - 4)) 0 1 (⟨2, mi, [], [], (newSm mp room).mk' b 4⟩ : Gr) [] := by
  have hc : clampRoom room = room := by rw [clampRoom_eq]; omega
  have hw : wr ((newSm mp room).made + 1) = 1 := wrs (by simp [newSm])
  have hV : ((newSm mp room).mk' b 4).V 1 = some [0, 0, 0, 0] := by
    rw [V_mk b 4 rfl, hw, if_pos rfl]; rfl
  have hk : ((newSm mp room).mk' b 4).regs.map Reg.h = [1] := by
    show [wr ((newSm mp room).made + 1)] = [1]
    rw [hw]
  have hmd : ((newSm mp room).mk' b 4).made = 1 := hw
  have hrm : ((newSm mp room).mk' b 4).room = room - 4 := by
    show wr (clampRoom room - 4) = room - 4
    rw [hc]; exact wrs (by omega)
  refine ⟨⟨⟨⟨by simp, by simp, by simp⟩, by simp⟩, ⟨0, rfl, hV⟩, trivial, by simp, ?_, ?_, ?_, ?_, ?_, ?_, ?_, rfl⟩, ?_, hn, ?_, by simp, by show (0 : Int) < 2; decide, by simp⟩
  · show (((newSm mp room).mk' b 4).regs.map Reg.h).Perm _
    rw [hk]; exact List.Perm.refl _
  · show ∀ h ∈ ((newSm mp room).mk' b 4).regs.map Reg.h, 1 ≤ h ∧ h ≤ ((newSm mp room).mk' b 4).made
    rw [hk, hmd]; intro h hh; simp only [List.mem_singleton] at hh; omega
  · show (((newSm mp room).mk' b 4).regs.map Reg.h).Nodup
    rw [hk]; simp
  · show 0 ≤ ((newSm mp room).mk' b 4).made ∧ ((newSm mp room).mk' b 4).made < _
    rw [hmd]; decide
  · show ((newSm mp room).mk' b 4).room + _ = room - 4
    rw [hrm]; simp
  · show 0 ≤ ((newSm mp room).mk' b 4).room
    rw [hrm]; omega
  · show room - 4 ≤ 20000; omega
  · show ((newSm mp room).mk' b 4).made ≤ 1
    rw [hmd]; decide
  · show ((0 : Nat) : Int) ≤ n; omega
theorem made_s {n room : Int} (hn : 1 ≤ n ∧ n ≤ 64) (hr : 4 ≤ room ∧ room ≤ 20000) (h : Sep H L)
    (hR : ∀ H' x m g X, Idle (lcOf x m g n (room - 4)) 0 1 X.G [] → X.G.ins = [] → Sep H' (xA (lcOf x m g n (room - 4)) :: grA g m X :: L) → R (.tuple #[.agg #[P m, P g, P x], .bool true]) H') : CA en F.crossbarlaw16_made [I n, I room] H R := by
  have hc : clampRoom room = room := by rw [clampRoom_eq]; omega
  apply vc_crossbarlaw16_made
  refine Sep.nw h fun i1 H2 h2 => new_s h2 fun H4 m mp h4 => ⟨_, rfl, cond_no rfl ?_⟩
  refine newG2_s h4 fun H11 g mi hg => ⟨_, rfl, cond_no rfl ?_⟩
  obtain ⟨X, eX, h11⟩ := isG_gr hg
  refine lnew_s (cp := room - 4) hn h11 (by rw [eX]; rfl) (by rw [eX]; rfl) (by rw [eX]; show 4 ≤ clampRoom room; rw [hc]; exact hr.1) fun H18 x b h18 => ⟨_, _, rfl, cond_yes rfl ?_⟩
  refine Sep.st2 h18 (Nat.le_of_ble_eq_true rfl) fun H21 h21 => ⟨_, _, _, Sep.lds2 h21 rfl, ?_⟩
  refine hR H21 x m g (X.to (X.G.S.mk' b 4)) ?_ ?_ (Sep.rm2 h21)
  · show Idle _ _ _ (X.G.mem (X.G.S.mk' b 4)) _
    rw [eX]; exact idle_new hn hr
  · show X.G.ins = []
    rw [eX]
end Go.Proofs.YtjggeoghlicmdaaGreat

/-
  What lookups and updates alone do to keys and values.
-/
namespace Go.Proofs.YtjggeoghlicmdaaGreat
open Go Go.AS Go.RowKit
set_option linter.unusedVariables false
variable {c : Lc} {G0 G : Gr} {la la' : List El} {w w' : Wd} {q : Qr} {mx mx' : Int}

theorem el_of_h : ∀ {l : List El}, (l.map El.h).Nodup → ∀ {x y : El}, x ∈ l → y ∈ l → x.h = y.h → x = y
  | [], _, _, _, h1, _, _ => by simp at h1
  | z :: l, nd, x, y, h1, h2, e => by
    rw [List.map_cons, List.nodup_cons] at nd
    rcases List.mem_cons.1 h1 with h1 | h1
    · rcases List.mem_cons.1 h2 with h2 | h2
      · rw [h1, h2]
      · exact (nd.1 (List.mem_map.2 ⟨y, h2, by rw [← e, h1]⟩)).elim
    · rcases List.mem_cons.1 h2 with h2 | h2
      · exact (nd.1 (List.mem_map.2 ⟨x, h1, by rw [e, h2]⟩)).elim
      · exact el_of_h nd.2 h1 h2 e
theorem Idle.hbd (hI : Idle c w mx G la) {e : El} (he : e ∈ la) : e.h ≤ G.S.made ∧ e.h ≠ c.h ∧ G.S.V e.h ≠ none := by
  have hm : e.h ∈ la.map El.h ++ [] ++ G.q.map Wt.h := List.mem_append_left _ (List.mem_append_left _ (List.mem_map.2 ⟨e, he, rfl⟩))
  obtain ⟨p, v, r, hv⟩ := hI.mem.alive hm
  exact ⟨(hI.mem.bd hm).2, hI.mem.ne_c hm, by rw [hv]; simp⟩

/-- A lookup. -/
theorem did_look (D : Did c G0 la q G la') (h0 : Idle c w mx G0 la) (h1 : Idle c w' mx' G la') (hk : q.kd = 1) :
    (findK la q.ky = none ∧ q.res = (2, [], 0, 0) ∧ la' = la ∧ ∀ e ∈ la', val G.S e.h = val G0.S e.h) ∨
    ∃ e, findK la q.ky = some e ∧ q.res = (0, [val G0.S e.h], 0, e.h) ∧ la' = e :: rm la q.ky ∧ ∀ e ∈ la', val G.S e.h = val G0.S e.h := by
  obtain ⟨Ga, qe, Gb, b1, b2, b3, b4, b5, b6, b7⟩ := D.ex
  have hke : qe.kd = 1 := b3.1.symm.trans hk
  have same : ∀ e ∈ la', e ∈ la → val Gb.S e.h = val G0.S e.h ∧ val G.S e.h = val G0.S e.h := fun e he hl => by
    obtain ⟨x1, x2, x3⟩ := h1.hbd he
    obtain ⟨y1, y2, y3⟩ := h0.hbd hl
    obtain ⟨z1, z2⟩ := b6 e.h trivial x2 x3
    obtain ⟨u1, u2⟩ := b7 e.h y1 x2 z1
    have u2 := u2.resolve_left fun h => by rw [hke] at h; exact absurd h.1 (by decide)
    obtain ⟨v1, v2⟩ := b5 e.h y1 x2 u1
    exact ⟨u2.trans v2, z2.trans (u2.trans v2)⟩
  unfold Eff at b1
  rw [hke, if_neg (by decide), ← b3.2.1] at b1
  cases hf : findK la q.ky with
  | none =>
    rw [hf] at b1
    simp only at b1
    rw [if_pos (.inl (by decide))] at b1
    obtain ⟨r1, rfl⟩ := b1
    exact .inl ⟨rfl, b2.symm.trans r1, rfl, fun e he => (same e he he).2⟩
  | some e =>
    rw [hf] at b1
    simp only at b1
    rw [if_neg (by decide), if_pos trivial] at b1
    obtain ⟨r1, r2⟩ := b1
    have hm : e ∈ la := List.mem_of_find?_eq_some hf
    have hs : ∀ y ∈ la', y ∈ la := fun y hy => by
      rw [r2] at hy
      rcases List.mem_cons.1 hy with h | h
      · rw [h]; exact hm
      · exact (List.mem_filter.1 h).1
    right
    refine ⟨e, rfl, ?_, r2, fun y hy => (same y hy (hs y hy)).2⟩
    rw [← b2, r1, (same e (by rw [r2]; simp) hm).1]

/-- An update of any key, where there is room. -/
theorem did_upd (D : Did c G0 la q G la') (h0 : Idle c w mx G0 la) (h1 : Idle c w' mx' G la') (hk : q.kd = 2) (hf0 : q.fl = 0) (hq : G0.q = []) (hroom : 195 ≤ c.cap) :
    q.res = (0, [], 0, 0) ∧ ∃ h, la' = ⟨h, q.ky⟩ :: (if (rm la q.ky).length < la.length then rm la q.ky else if (la.length : Int) < c.d1 then la else la.dropLast) ∧ val G.S h = q.val ∧
      ∀ e ∈ la', e.k ≠ q.ky → val G.S e.h = val G0.S e.h := by
  obtain ⟨Ga, qe, Gb, b1, b2, b3, b4, b5, b6, b7⟩ := D.ex
  have hke : qe.kd = 2 := b3.1.symm.trans hk
  have hfe : qe.fl = 0 := b3.2.2.1.symm.trans hf0
  have same : ∀ e ∈ la', e ∈ la → e.k ≠ q.ky → val G.S e.h = val G0.S e.h := fun e he hl hn => by
    obtain ⟨x1, x2, x3⟩ := h1.hbd he
    obtain ⟨y1, y2, y3⟩ := h0.hbd hl
    obtain ⟨z1, z2⟩ := b6 e.h trivial x2 x3
    obtain ⟨u1, u2⟩ := b7 e.h y1 x2 z1
    have u2 := u2.resolve_left fun ⟨_, y, hy, e1, e2⟩ => by
      have ey : y = e := by
        have nd := h0.mem.nd2
        rw [List.nodup_cons] at nd
        have nd2 := (List.nodup_append.1 (List.nodup_append.1 nd.2).1).1
        exact el_of_h nd2 hy hl e1
      rw [ey, ← b3.2.1] at e2
      exact hn e2
    obtain ⟨v1, v2⟩ := b5 e.h y1 x2 u1
    exact z2.trans (u2.trans v2)
  unfold Eff at b1
  rw [hke, if_neg (by decide), ← b3.2.1, ← b3.2.2.2, hfe] at b1
  cases hf : findK la q.ky with
  | none =>
    rw [hf] at b1
    simp only at b1
    rw [if_neg (by simp)] at b1
    have hlen : (la.length : Int) ≤ 64 := by have := h0.le; have := h0.d1; omega
    have hno : ∀ e ∈ la, e.k ≠ q.ky := fun e he h => by
      have := List.find?_eq_none.1 hf e he
      simp only [beq_iff_eq] at this
      exact this h
    have hrm : rm la q.ky = la := List.filter_eq_self.2 fun e he => by simpa using hno e he
    rcases b1 with ⟨_, _, b8, b9⟩ | ⟨r1, h, hne, r2, r3⟩
    · rw [b4, hq] at b9
      simp only [List.length_nil] at b9
      omega
    · refine ⟨b2.symm.trans r1, h, ?_, ?_, fun e he hn => ?_⟩
      · rw [hrm, if_neg (Nat.lt_irrefl _)]; exact r2
      · obtain ⟨x1, x2, x3⟩ := h1.hbd (e := ⟨h, q.ky⟩) (by rw [r2]; simp)
        exact (b6 h trivial x2 x3).2.trans r3
      · refine same e he ?_ hn
        rw [r2] at he
        rcases List.mem_cons.1 he with h3 | h3
        · exact absurd (by rw [h3]) hn
        · split at h3
          · exact h3
          · exact List.dropLast_subset _ h3
  | some e =>
    rw [hf] at b1
    simp only at b1
    rw [if_pos trivial, if_neg (by decide)] at b1
    obtain ⟨r1, r2, r3⟩ := b1
    have hm : e ∈ la := List.mem_of_find?_eq_some hf
    have hk2 : e.k = q.ky := by simpa using List.find?_some hf
    refine ⟨b2.symm.trans r1, e.h, ?_, ?_, fun y hy hn => ?_⟩
    · rw [if_pos (rm_len hf), r2, ← hk2]
    · obtain ⟨x1, x2, x3⟩ := h1.hbd (e := e) (by rw [r2]; simp)
      exact (b6 e.h trivial x2 x3).2.trans r3
    · refine same y hy ?_ hn
      rw [r2] at hy
      rcases List.mem_cons.1 hy with h | h
      · rw [h]; exact hm
      · exact (List.mem_filter.1 h).1
end Go.Proofs.YtjggeoghlicmdaaGreat

/-
  Keys that are used, one behind the other: what the list says then (no program in sight).
-/
namespace Go.Proofs.YtjggeoghlicmdaaGreat
open Go Go.AS Go.RowKit
set_option linter.unusedVariables false
variable {c : Lc} {G0 G : Gr} {la la' : List El} {w w' : Wd} {q : Qr} {mx mx' : Int} {ws vs : List Wd} {S S' : Sm} {ord : List Nat} {key : Wd}

/-- The list says: keys and values of those in order, the last one first. -/
def Says (ws vs : List Wd) (ord : List Nat) (S : Sm) (la : List El) : Prop := la.map (fun e => (e.k, val S e.h)) = (ord.map fun j => (ws.getD j 0, vs.getD j 0)).reverse

theorem Says.len (h : Says ws vs ord S la) : la.length = ord.length := by
  have := congrArg List.length h
  simpa using this
theorem Says.keys (h : Says ws vs ord S la) : la.map El.k = (ord.map fun j => ws.getD j 0).reverse := by
  have := congrArg (List.map Prod.fst) h
  rw [List.map_map, List.map_reverse, List.map_map] at this
  exact this
theorem Says.vals (h : Says ws vs ord S la) (hv : ∀ e ∈ la, val S' e.h = val S e.h) : Says ws vs ord S' la := by
  unfold Says at h ⊢
  rw [← h]
  exact List.map_congr_left fun e he => by rw [hv e he]
theorem Says.set (h : Says ws vs ord S la) {i : Nat} (hi : ∀ j ∈ ord, j < i) (v : Wd) : Says ws (vs.set i v) ord S la := by
  unfold Says at h ⊢
  rw [h]
  congr 1
  refine List.map_congr_left fun j hj => ?_
  have := hi j hj
  have e : (vs.set i v).getD j 0 = vs.getD j 0 := by
    rw [List.getD_eq_getElem?_getD, List.getD_eq_getElem?_getD, List.getElem?_set_ne (by omega)]
  rw [e]
theorem Says.none (h : Says ws vs ord S la) (hn : ∀ j ∈ ord, ws.getD j 0 ≠ key) : findK la key = none := by
  unfold findK
  rw [List.find?_eq_none]
  intro e he
  have : e.k ∈ la.map El.k := List.mem_map.2 ⟨e, he, rfl⟩
  rw [h.keys, List.mem_reverse, List.mem_map] at this
  obtain ⟨j, hj, e2⟩ := this
  simp only [beq_iff_eq]
  intro e3
  exact hn j hj (e2.trans e3)
/-- Where a key is. -/
theorem Says.some {o1 o2 : List Nat} {p : Nat} (h : Says ws vs (o1 ++ p :: o2) S la) (nd : (la.map El.k).Nodup) (hp : ws.getD p 0 = key) :
    ∃ e, findK la key = some e ∧ e.k = key ∧ val S e.h = vs.getD p 0 ∧ Says ws vs (o1 ++ o2) S (rm la key) ∧ ∀ j ∈ o1 ++ o2, ws.getD j 0 ≠ key := by
  have h0 := h
  unfold Says at h
  rw [List.map_append, List.map_cons, List.reverse_append, List.reverse_cons, List.append_assoc] at h
  obtain ⟨m2, m1, rfl, e1, e2⟩ := List.map_eq_append_iff.1 h
  obtain ⟨e, m, rfl, e3, e4⟩ := List.map_eq_cons_iff.1 e2
  simp only [Prod.mk.injEq] at e3
  have e4 : m.map (fun e => (e.k, val S e.h)) = (o1.map fun j => (ws.getD j 0, vs.getD j 0)).reverse := e4
  have ek : e.k = key := e3.1.trans hp
  rw [List.map_append, List.map_cons] at nd
  have n1 := (List.nodup_append.1 nd)
  have hm2 : ∀ y ∈ m2, y.k ≠ key := fun y hy hh => n1.2.2 y.k (List.mem_map.2 ⟨y, hy, rfl⟩) e.k (by simp) (hh.trans ek.symm)
  have hm : ∀ y ∈ m, y.k ≠ key := fun y hy hh => (List.nodup_cons.1 n1.2.1).1 (by rw [ek, ← hh]; exact List.mem_map.2 ⟨y, hy, rfl⟩)
  refine ⟨e, findK_at hm2 ek, ek, e3.2, ?_, ?_⟩
  · rw [rm_at hm2 ek hm]
    unfold Says
    rw [List.map_append, List.map_append, List.reverse_append, e1, e4]
  · intro j hj hh
    have kk := h0.keys
    have : ws.getD j 0 ∈ (m2 ++ m).map El.k := by
      have s1 : m2.map El.k = (o2.map fun j => ws.getD j 0).reverse := by
        have := congrArg (List.map Prod.fst) e1
        rw [List.map_map, List.map_reverse, List.map_map] at this
        exact this
      have s2 : m.map El.k = (o1.map fun j => ws.getD j 0).reverse := by
        have := congrArg (List.map Prod.fst) e4
        rw [List.map_map, List.map_reverse, List.map_map] at this
        exact this
      rw [List.map_append, s1, s2, ← List.reverse_append, List.mem_reverse, ← List.map_append]
      exact List.mem_map.2 ⟨j, hj, rfl⟩
    rw [List.map_append] at this
    rcases List.mem_append.1 this with h3 | h3
    · obtain ⟨y, hy, e5⟩ := List.mem_map.1 h3
      exact hm2 y hy (e5.trans hh)
    · obtain ⟨y, hy, e5⟩ := List.mem_map.1 h3
      exact hm y hy (e5.trans hh)
/-- The youngest one is another one. -/
theorem Says.snoc {e : El} {i : Nat} (h : Says ws vs ord S la) (hk : e.k = ws.getD i 0) (hv : val S e.h = vs.getD i 0) : Says ws vs (ord ++ [i]) S (e :: la) := by
  unfold Says at h ⊢
  rw [List.map_append, List.reverse_append, List.map_cons, h, hk, hv]; rfl
/-- The eldest one goes. -/
theorem Says.tail {j : Nat} (h : Says ws vs (j :: ord) S la) : Says ws vs ord S la.dropLast := by
  unfold Says at h ⊢
  rw [List.map_dropLast, h, List.map_cons, List.reverse_cons, List.dropLast_concat]
end Go.Proofs.YtjggeoghlicmdaaGreat

/-
  Lookups and updates alone, by what they tell of keys and values; slices of numbers of a list.
-/
namespace Go.Proofs.YtjggeoghlicmdaaGreat
open Go Go.AS Go.RowKit
set_option linter.unusedVariables false
variable {H H' : Heap} {R : Value → Heap → Prop} {L : List Asr} {c : Lc} {X : Gx} {G : Gr} {la la' : List El} {w : Wd} {q : Qr} {mx : Int} {ky v : Wd}

theorem q_nil (h : Ok G) (hi : G.ins = []) : G.q = [] := by
  cases hq : G.q with
  | nil => rfl
  | cons x l =>
    have hx : x ∈ G.q := by rw [hq]; exact .head _
    have h1 := h.full x hx
    cases hw : x.ws with
    | nil => exact (h1 hw).elim
    | cons a ws =>
      have := (h.ws x hx).1 a (by rw [hw]; exact .head _)
      rw [hi] at this; simp at this
theorem ins_nil {X X' : Gx} (h : ∀ a, a ∈ X'.G.ins ↔ a ∈ X.G.ins) (hi : X.G.ins = []) : X'.G.ins = [] := by
  cases hx : X'.G.ins with
  | nil => rfl
  | cons a l =>
    have := (h a).1 (by rw [hx]; exact .head _)
    rw [hi] at this; simp at this

theorem op_look (h : Sep H (xA c :: grA c.g c.m X :: L)) (hI : Idle c w mx X.G la) (hmx : mx + 1000 < 2305843009213693951)
    (hR : ∀ H' X' k la' o rv no el, 1 ≤ k → k ≤ 2 * la.length + 12 → Idle c (w + 1) (mx + 1000) X'.G la' → (∀ a, a ∈ X'.G.ins ↔ a ∈ X.G.ins) → (∀ e ∈ la', val X'.G.S e.h = val X.G.S e.h) →
      ((findK la ky = none ∧ no = 2 ∧ rv = [] ∧ el = 0 ∧ la' = la) ∨ ∃ e, findK la ky = some e ∧ no = 0 ∧ rv = [val X.G.S e.h] ∧ el = e.h ∧ la' = e :: rm la ky) → (o = none → rv = []) →
      Sep H' (xA c :: grA c.g c.m X' :: gl 1 o (rv.map W) :: L) → R (.tuple #[.agg #[I no, .slice (addr o) rv.length 0, W 0, I el], I (k : Nat)]) H') :
    CA en F.crossbarlaw16_one_alone [.agg #[P c.m, P c.g, P c.x], I 1, W ky, W 0, I 0] H R := by
  refine op_s h hI (by omega) (by decide) fun H' X' k q la' o hk1 hk2 hD hop hI' hins ho hs => ?_
  have hk : q.kd = 1 := hop.1
  have hy : q.ky = ky := hop.2.1
  have key : ∀ no rv rk el, q.res = (no, rv, rk, el) → rk = 0 → ((findK la ky = none ∧ no = 2 ∧ rv = [] ∧ el = 0 ∧ la' = la) ∨ ∃ e, findK la ky = some e ∧ no = 0 ∧ rv = [val X.G.S e.h] ∧ el = e.h ∧ la' = e :: rm la ky) →
      (∀ e ∈ la', val X'.G.S e.h = val X.G.S e.h) → R (.tuple #[.agg #[I q.no, .slice (addr o) q.rv.length 0, W q.rk, I q.el], I k]) H' := fun no rv rk el e0 e1 e2 e3 => by
    unfold Qr.res at e0
    simp only [Prod.mk.injEq] at e0
    obtain ⟨rfl, rfl, rfl, rfl⟩ := e0
    rw [e1]
    exact hR H' X' k la' o q.rv q.no q.el hk1 hk2 hI' hins e3 e2 ho hs
  rcases did_look hD hI hI' hk with ⟨h1, h2, h3, h4⟩ | ⟨e, h1, h2, h3, h4⟩
  · rw [hy] at h1
    exact key _ _ _ _ h2 rfl (.inl ⟨h1, rfl, rfl, rfl, h3⟩) h4
  · rw [hy] at h1 h3
    exact key _ _ _ _ h2 rfl (.inr ⟨e, h1, rfl, rfl, rfl, h3⟩) h4

theorem op_upd (h : Sep H (xA c :: grA c.g c.m X :: L)) (hI : Idle c w mx X.G la) (hmx : mx + 1000 < 2305843009213693951) (hins : X.G.ins = []) (hcap : 195 ≤ c.cap)
    (hR : ∀ H' X' k la' o hn, 1 ≤ k → k ≤ 2 * la.length + 12 → Idle c (w + 1) (mx + 1000) X'.G la' → X'.G.ins = [] →
      la' = ⟨hn, ky⟩ :: (if (rm la ky).length < la.length then rm la ky else if (la.length : Int) < c.d1 then la else la.dropLast) → val X'.G.S hn = v → (∀ e ∈ la', e.k ≠ ky → val X'.G.S e.h = val X.G.S e.h) →
      Sep H' (xA c :: grA c.g c.m X' :: L) → R (.tuple #[.agg #[I 0, .slice (addr o) 0 0, W 0, I 0], I (k : Nat)]) H') :
    CA en F.crossbarlaw16_one_alone [.agg #[P c.m, P c.g, P c.x], I 2, W ky, W v, I 0] H R := by
  refine op_s h hI (by omega) (by decide) fun H' X' k q la' o hk1 hk2 hD hop hI' hin ho hs => ?_
  obtain ⟨h1, hn, h2, h3, h4⟩ := did_upd hD hI hI' hop.1 hop.2.2.1 (q_nil hI.mem.ok hins) hcap
  unfold Qr.res at h1
  simp only [Prod.mk.injEq] at h1
  rw [h1.1, h1.2.1, h1.2.2.1, h1.2.2.2]
  rw [hop.2.1] at h2 h4
  have e4 : q.val = v := by rw [hop.2.2.2]; rfl
  refine hR H' X' k la' o hn hk1 hk2 hI' (ins_nil hin hins) h2 (h3.trans e4) h4 (Sep.rm2 hs)

/-! ### Slices of numbers of a list -/
abbrev nums (o : List Nat) : List Value := o.map fun j : Nat => Value.int .u64 ((j : Nat) : Int)
theorem nums_app (a b : List Nat) : nums (a ++ b) = nums a ++ nums b := List.map_append
theorem nums_drop (a : List Nat) (p : Nat) : nums (a.drop p) = (nums a).drop p := List.map_drop
theorem nums_len (a : List Nat) : (nums a).length = a.length := List.length_map _
inductive KP : Option Addr → List Nat → Asr → Prop where
  | nl : KP none [] (many [])
  | bk (kb : Nat) (pre : List Value) (o : List Nat) : KP (some ⟨kb, pre.length, none⟩) o (bx kb (.cells true 1 (pre ++ nums o)))
variable {kp : Option Addr} {o : List Nat} {A : Asr}
/-- An append behind a slice that begins within its block. -/
theorem apd_off {es tb len n bytes : Nat} {pre cs new : List Value} {K : Option Addr → Nat → Heap → Prop} (h : Sep H (bx tb (.cells true es (pre ++ cs)) :: L)) (hes : 0 < es) (hlen : cs.length = len * es) (hn : 0 < n) (hnew : new.length = n * es) (hby : (len + n) * bytes ≤ 140737488355328)
    (k : ∀ H' q, Sep H' (bx q (.cells true es (cs ++ new)) :: L) → K (some ⟨q, 0, none⟩) (len + n) H') : apd H bytes es (some ⟨tb, pre.length, none⟩) len n new K := by
  refine apd_grow (old := cs) (Sep.get0 h) hn ?_ ?_ hby fun j H2 ej e2 => ?_
  · rw [List.length_append, hlen, Nat.add_mul]
    have : 0 < n * es := Nat.mul_pos hn hes
    omega
  · rw [← hlen]; simp [takeAt]
  · refine k H2 j ?_
    have h2 := (Sep.put0 h .dead).new (.cells true es (cs ++ new))
    rw [← e2, next_set, ← ej] at h2
    exact Sep.rm1 h2
theorem KP.ld (hk : KP kp o A) (h : Sep H (A :: L)) {k : Nat} (hk2 : k < o.length) : ∃ kb pre, kp = some ⟨kb, pre, none⟩ ∧ H.cell kb (pre + k * 1) = some (.int .u64 ((o[k] : Nat) : Int)) := by
  cases hk with
  | nl => simp at hk2
  | bk kb pre o =>
    refine ⟨kb, _, rfl, ?_⟩
    rw [cell_of (Sep.get0 h), Nat.mul_one, List.getElem?_append_right (by omega), Nat.add_sub_cancel_left, List.getElem?_map, List.getElem?_eq_getElem hk2]
    rfl
theorem KP.app {i : Nat} {F : Option Addr → Nat → Heap → Prop} (hk : KP kp o A) (h : Sep H (A :: L)) (hl : o.length ≤ 1000)
    (k : ∀ H' q A', KP q (o ++ [i]) A' → Sep H' (A' :: L) → F q (o.length + 1) H') : apd H 8 1 kp o.length 1 [.int .u64 (i : Int)] F := by
  cases hk with
  | nl =>
    refine apd_first (by decide) (by decide) fun j H2 ej e2 => ?_
    have h7 := (Sep.many_iff.1 h).new (.cells true 1 [.int .u64 (i : Int)])
    rw [← e2, ← ej] at h7
    exact k H2 _ _ (.bk j [] [i]) h7
  | bk kb pre o =>
    refine apd_off (new := [.int .u64 (i : Int)]) h (by decide) (by simp) (by decide) rfl (by omega) fun H2 q h2 => ?_
    refine k H2 _ _ (.bk q [] (o ++ [i])) ?_
    have e : nums (o ++ [i]) = nums o ++ [.int .u64 (i : Int)] := nums_app o [i]
    rw [e]; exact h2
/-- A slice without its first ones. -/
theorem KP.cut {n p : Nat} {K : Value → Prop} (hk : KP kp o A) (h : Sep H (A :: L)) (hp : p ≤ o.length) (hn : n = o.length - p)
    (hK : ∀ q, (kp = none → q = none) → KP q (o.drop p) A → K (.slice q n 0)) : slK H kp 1 p n K := by
  subst hn
  cases hk with
  | nl =>
    have : p = 0 := by simpa using hp
    subst this
    exact hK none (fun _ => rfl) .nl
  | bk kb pre o =>
    refine ⟨⟨_, _, _, Sep.get0 h, .inr rfl⟩, hK _ (fun h => by cases h) ?_⟩
    have e : pre ++ nums o = (pre ++ (nums o).take p) ++ nums (o.drop p) := by
      rw [List.append_assoc, nums_drop, List.take_append_drop]
    have e2 : pre.length + p * 1 = (pre ++ (nums o).take p).length := by
      rw [List.length_append, List.length_take, List.length_map, Nat.mul_one, Nat.min_eq_left hp]
    rw [e, e2]
    exact .bk kb _ _
theorem KP.row (hk : KP kp o A) (h : Sep H (A :: L)) : ∃ l, rowOf H 1 kp o.length = some l ∧ l = nums o := by
  cases hk with
  | nl => exact ⟨[], rfl, rfl⟩
  | bk kb pre o =>
    refine ⟨nums o, ?_, rfl⟩
    show (if o.length * 1 = 0 then some [] else match H.get kb with | some (.cells _ _ c) => takeAt c pre.length (o.length * 1) | _ => none) = _
    by_cases e : o.length * 1 = 0
    · have : o = [] := List.eq_nil_of_length_eq_zero (by omega)
      subst this; rfl
    · rw [if_neg e, Sep.get0 h]
      have : takeAt (pre ++ nums o) pre.length (nums o).length = some (nums o) := by
        unfold takeAt; rw [if_pos (by rw [List.length_append]; omega), List.drop_left, List.take_length]
      rw [Nat.mul_one]
      rw [nums_len] at this; exact this

theorem copyO_s {p : Nat} (hk : KP kp o A) (h : Sep H (A :: L)) (hp : p ≤ o.length) (hb : o.length < 1000000) (hR : ∀ H' q, (q = none → p = 0) → Sep H' (gl 1 q (nums (o.take p)) :: A :: L) → R (.slice (addr q) p 0) H') : CA en F.crossbarkit_CopyWords [.slice kp p 0] H R := by
  apply vc_crossbarkit_CopyWords
  refine use_crossbarkit_CopyWords_0 (fun k t3 t3l t4 H => ∃ (j : Nat) (q : Option Nat), j ≤ p ∧ k = p - j ∧ t4 = (j : Int) ∧ t3 = addr q ∧ t3l = j ∧ (q = none → j = 0) ∧ Sep H (gl 1 q (nums (o.take j)) :: A :: L)) p ⟨0, none, by omega, rfl, rfl, rfl, rfl, fun _ => rfl, gl_none.2 h⟩ ?_
  clear h
  rintro k t3 t3l t4 ys H3 ⟨j, q, hj, rfl, rfl, rfl, rfl, hq, hs⟩
  refine cond_of (fun h1 => ?_) fun h1 => ?_
  · have hj' : t3l < p := by simp only [decide_eq_true_eq] at h1; omega
    obtain ⟨kb, pre, rfl, e1⟩ := hk.ld hs.tail (k := t3l) (by omega)
    refine ⟨by unfold inB; omega, asRow_in ⟨_, e1, Sep.nw hs fun i4 H5 h5 => ⟨[.int .u64 ((o[t3l] : Nat) : Int)], rowOf_bx (es := 1) (n := 1) (b := i4) (Sep.get0 h5) (by decide) rfl, ?_⟩⟩⟩
    refine apd_gl (b := q) (len := t3l) (n := 1) (cs := nums (o.take t3l)) (new := [.int .u64 ((o[t3l] : Nat) : Int)]) (Sep.up1 h5) (fun h => by rw [hq h]; rfl) (by decide) (by rw [List.length_map, List.length_take]; omega) (by decide) rfl (by omega) fun H' q' h' => ⟨p - (t3l + 1), by omega, t3l + 1, some q', by omega, rfl, by rw [wrap_i64 (by omega)]; omega, rfl, rfl, (fun h => by cases h), ?_⟩
    rw [List.take_add_one, List.getElem?_eq_getElem (by omega)]
    have e : nums (o.take t3l ++ (some o[t3l]).toList) = nums (o.take t3l) ++ [.int .u64 ((o[t3l] : Nat) : Int)] := nums_app _ _
    rw [e]
    exact Sep.rm1 h'
  · have e : t3l = p := by simp only [decide_eq_false_iff_not] at h1; omega
    subst e
    exact asSl_in (hR H3 q hq hs)
theorem KP.dropped {kb p : Nat} {pre : List Value} (hp : p ≤ o.length) : KP (some ⟨kb, pre.length + p * 1, none⟩) (o.drop p) (bx kb (.cells true 1 (pre ++ nums o))) := by
  have e : pre ++ nums o = (pre ++ (nums o).take p) ++ nums (o.drop p) := by
    rw [List.append_assoc, nums_drop, List.take_append_drop]
  have e2 : pre.length + p * 1 = (pre ++ (nums o).take p).length := by
    rw [List.length_append, List.length_take, List.length_map, Nat.mul_one, Nat.min_eq_left hp]
  rw [e, e2]
  exact .bk kb _ _
theorem kp_of_gl {b : Option Nat} (h : Sep H (gl 1 b (nums o) :: L)) (hb : b = none → o = []) : ∃ A, KP (addr b) o A ∧ Sep H (A :: L) := by
  cases b with
  | none =>
    obtain rfl := hb rfl
    exact ⟨_, .nl, h⟩
  | some b => exact ⟨_, .bk b [] o, gl_some.1 h⟩
/-- An append of some, or of none. -/
theorem apd_any {es : Nat} {b : Option Nat} {cs new : List Value} {bytes len n : Nat} {K : Option Addr → Nat → Heap → Prop} (h : Sep H (gl es b cs :: L)) (hb : b = none → cs = []) (hes : 0 < es) (hlen : cs.length = len * es)
    (hnew : new.length = n * es) (hby : (len + n) * bytes ≤ 140737488355328) (k : ∀ H' q, (q = none → cs ++ new = []) → Sep H' (gl es q (cs ++ new) :: L) → K (addr q) (len + n) H') : apd H bytes es (addr b) len n new K := by
  by_cases hn : n = 0
  · subst hn
    have : new = [] := List.eq_nil_of_length_eq_zero (by omega)
    subst this
    refine .inl ⟨rfl, k H b (fun h => by rw [hb h]; rfl) ?_⟩
    rw [List.append_nil]; exact h
  · exact apd_gl h hb hes hlen (by omega) hnew hby fun H' q h' => k H' (some q) (fun h => by cases h) h'
end Go.Proofs.YtjggeoghlicmdaaGreat

