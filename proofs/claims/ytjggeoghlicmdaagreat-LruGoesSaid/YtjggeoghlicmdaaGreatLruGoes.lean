/-
  'crossbarlaw16.LruGoes' returns true: what goes keeps its word for those inside.
-/
import Derived.Test.YtjggeoghlicmdaaGreatLruStay
import Derived.Test.YtjggeoghlicmdaaGreatVcLc
import Derived.Test.YtjggeoghlicmdaaGreatArgs
namespace Go.Proofs.YtjggeoghlicmdaaGreat
open Go Go.AS Go.RowKit
set_option linter.unusedVariables false
variable {H H' : Heap} {R : Value → Heap → Prop} {L M : List Asr} {c : Lc} {X : Gx} {G : Gr} {la la' : List El} {w : Wd} {q : Qr} {mx : Int} {ky v : Wd} {h a : Int} {x m g : Nat} {n room : Int}

/-! ### What keys do -/
/-- A key that is not there is laid. -/
theorem did_ins (D : Did c X.G la q G la') (hk : q.kd = 2) (hf0 : q.fl = 0) (hq : X.G.q = []) (hno : findK la q.ky = none) :
    (q.res = (5, [], 0, 0) ∧ la' = la ∧ c.cap < 3 * (la.length : Int) + 3) ∨
    q.res = (0, [], 0, 0) ∧ ∃ h, (∀ e ∈ la, e.h ≠ h) ∧ la' = ⟨h, q.ky⟩ :: (if (la.length : Int) < c.d1 then la else la.dropLast) ∧ (c.h ≠ h → G.S.V h ≠ none → val G.S h = q.val) := by
  obtain ⟨Ga, qe, Gb, b1, b2, b3, b4, b5, b6, b7⟩ := D.ex
  have hke : qe.kd = 2 := b3.1.symm.trans hk
  have hfe : qe.fl = 0 := b3.2.2.1.symm.trans hf0
  unfold Eff at b1
  rw [hke, if_neg (by decide), ← b3.2.1, ← b3.2.2.2, hfe, hno] at b1
  simp only at b1
  rw [if_neg (by simp)] at b1
  rcases b1 with ⟨r1, r2, b8, b9⟩ | ⟨r1, h, hne, r2, r3⟩
  · left
    rw [b4, hq] at b9
    simp only [List.length_nil] at b9
    exact ⟨b2.symm.trans r1, r2, by omega⟩
  · right
    exact ⟨b2.symm.trans r1, h, hne, r2, fun hc hv => (b6 h trivial hc.symm hv).2.trans r3⟩
/-- A key that is there goes. -/
theorem did_del (D : Did c X.G la q G la') (hk : q.kd = 3 ∨ q.kd = 5) {e : El} (he : findK la q.ky = some e) :
    la' = rm la q.ky ∧ ∃ v, q.res = (0, if q.kd = 3 then [] else [v], 0, 0) ∧ (e.h ≠ c.h → G.S.V e.h ≠ none → v = val G.S e.h) := by
  obtain ⟨Ga, qe, Gb, b1, b2, b3, b4, b5, b6, b7⟩ := D.ex
  have hke : q.kd = qe.kd := b3.1
  unfold Eff at b1
  rw [← b3.2.1, he, ← hke, if_neg (by rcases hk with h | h <;> rw [h] <;> decide)] at b1
  simp only at b1
  rw [if_neg (by rcases hk with h | h <;> rw [h] <;> decide), if_neg (by rcases hk with h | h <;> rw [h] <;> decide)] at b1
  rcases hk with h | h
  · rw [if_neg (by rw [h]; decide)] at b1
    refine ⟨b1.2, val G.S e.h, ?_, fun _ _ => rfl⟩
    rw [if_pos h]; exact b2.symm.trans b1.1
  · rw [if_pos h] at b1
    refine ⟨b1.2, val Gb.S e.h, ?_, fun hc hv => (b6 e.h trivial hc hv).2.symm⟩
    rw [if_neg (by rw [h]; decide)]; exact b2.symm.trans b1.1

theorem live_len {cap : Cx} {xs : List Int} {cnt : Wd} (M : Mem c cap G la xs cnt) : G.S.regs.length = 1 + la.length + xs.length + G.q.length := by
  have := M.perm.length_eq
  simp only [List.length_map, List.length_cons, List.length_append] at this
  omega
theorem acc_live (S : Sm) (a i : Int) (may : Bool) (f : Wd → Wd) : (S.acc a i may f).2.regs.length = S.regs.length := by
  have := congrArg List.length (acc_keys S a i may f)
  simpa using this
theorem acc_gone {S : Sm} {a i : Int} {may : Bool} {f : Wd → Wd} (hv : S.V a = none) : (S.acc a i may f).1.2 = false := by
  have : S.find a = none := by
    unfold Sm.V at hv
    exact Option.map_eq_none_iff.1 hv
  unfold Sm.acc; rw [this]

theorem gleave_s (h : Sep H (grA g m X :: M)) (hl : X.G.q.length < 10000)
    (hR : ∀ H' X' f n, X'.G = (X.G.leave a).2 → Sep H' (grA g m X' :: M) → R (.slice f n 0) H') : CA en F.grace_Grace_Leave [P g, I a] H R := by
  refine leave_s (gr_isG h) (by omega) fun H' f _ h' => ?_
  obtain ⟨X', e, h2⟩ := isG_gr h'
  exact hR H' X' _ _ e (Sep.rm1 h2)

theorem made2_s (hn : 1 ≤ n ∧ n ≤ 64) (hr : 4 ≤ room ∧ room ≤ 20000) (h : Sep H L)
    (hR : ∀ H' x m g X, Idle (lcOf x m g n (room - 4)) 0 1 X.G [] → X.G.ins = [] → X.G.n = 2 → Sep H' (xA (lcOf x m g n (room - 4)) :: grA g m X :: L) → R (.tuple #[.agg #[P m, P g, P x], .bool true]) H') : CA en F.crossbarlaw16_made [I n, I room] H R := by
  have hc : clampRoom room = room := by rw [clampRoom_eq]; omega
  apply vc_crossbarlaw16_made
  refine Sep.nw h fun i1 H2 h2 => new_s h2 fun H4 m mp h4 => ⟨_, rfl, cond_no rfl ?_⟩
  refine newG2_s h4 fun H11 g mi hg => ⟨_, rfl, cond_no rfl ?_⟩
  obtain ⟨X, eX, h11⟩ := isG_gr hg
  refine lnew_s (cp := room - 4) hn h11 (by rw [eX]; rfl) (by rw [eX]; rfl) (by rw [eX]; show 4 ≤ clampRoom room; rw [hc]; exact hr.1) fun H18 x b h18 => ⟨_, _, rfl, cond_yes rfl ?_⟩
  refine Sep.st2 h18 (Nat.le_of_ble_eq_true rfl) fun H21 h21 => ⟨_, _, _, Sep.lds2 h21 rfl, ?_⟩
  refine hR H21 x m g (X.to (X.G.S.mk' b 4)) ?_ ?_ ?_ (Sep.rm2 h21)
  · show Idle _ _ _ (X.G.mem (X.G.S.mk' b 4)) _
    rw [eX]; exact idle_new hn hr
  · show X.G.ins = []
    rw [eX]
  · show X.G.n = 2
    rw [eX]

theorem kd_st {z k : Nat} (q : Qr) (G : Gr) (b : Nat) (hd : q.dn = false) (h1 : Kept h a G ∧ Dn z k q G) : Kept h a (q.step c G b).2 ∧ Dn z k (q.step c G b).1 (q.step c G b).2 := ⟨step_kept G b hd h1.1, step_dz G b hd h1.2⟩
theorem new_dz {z k : Nat} {kd fl : Int} {vv : Wd} {b : Nat} (h4 : kd ≠ 4) (hz : z = 0 → kd = 1) (h1 : z ≤ 1 ∧ k ≤ 4) (hl : G.q.length + z ≤ k) : Dn z k (Qr.new kd ky fl 0 vv b) G := show Dz z k _ G z from ⟨rfl, h4, hz, h1, hl⟩

/-- What holds of the map when the element waits. -/
structure Wait (c : Lc) (h : Int) (w : Wd) (mx : Int) (G : Gr) (la : List El) (k : Nat) (v : Wd) : Prop where
  idle : Idle c w mx G la
  kept : Kept h 1 G
  q1 : G.q.length = 1
  no : findK la 5 = none
  hne : ∀ e ∈ la, e.h ≠ h
  hc : h ≠ c.h
  len : la.length = k
  vl : val G.S h = v
  ins : ∀ a, a ∈ G.ins ↔ a = 1
  n2 : G.n = 2

theorem Wait.inq {k : Nat} (W0 : Wait c h w mx G la k v) : h ∈ G.q.map Wt.h := by
  have := W0.idle.mem.perm.mem_iff.1 W0.kept.reg
  simp only [List.mem_cons, List.mem_append, List.not_mem_nil, or_false] at this
  rcases this with e | e | e
  · exact (W0.hc e).elim
  · obtain ⟨y, hy, e2⟩ := List.mem_map.1 e
    exact (W0.hne y hy e2).elim
  · exact e
theorem Wait.val3 {k : Nat} (W0 : Wait c h w mx G la k v) : ∃ p r, G.S.V h = some [p, v, r] := by
  obtain ⟨p, v', r, hv⟩ := W0.idle.mem.alive (List.mem_append_right _ W0.inq)
  have := W0.vl
  unfold val at this; rw [hv] at this
  have e : v' = v := this
  exact ⟨p, r, by rw [hv, e]⟩
theorem Wait.load {k : Nat} (W0 : Wait c h w mx G la k v) : (G.S.acc h 1 true id).1 = (v, true) ∧ Wait c h w mx (G.mem (G.S.acc h 1 true id).2) la k v := by
  obtain ⟨p, r, hv⟩ := W0.val3
  obtain ⟨e1, M1, same⟩ := W0.idle.mem.load (i := 1) hv (by simp)
  have e0 : (G.S.acc h 1 true id).1 = (v, true) := (V_acc1 hv (by simp) id).1
  refine ⟨e0, ⟨⟨M1, ?_, W0.idle.d1, W0.idle.le, W0.idle.keys, W0.idle.n, W0.idle.out⟩, W0.kept.acc, W0.q1, W0.no, W0.hne, W0.hc, W0.len, ?_, W0.ins, W0.n2⟩⟩
  · show (G.S.acc h 1 true id).2.made ≤ mx
    rw [acc_made]; exact W0.idle.made
  · have := same h
    show val (G.S.acc h 1 true id).2 h = v
    exact (val_same this).trans W0.vl
theorem Wait.store {k : Nat} (W0 : Wait c h w mx G la k v) (u : Wd) : (G.S.acc h 1 true fun _ => u).1.2 = true ∧ Wait c h w mx (G.mem (G.S.acc h 1 true fun _ => u).2) la k u := by
  obtain ⟨p, r, hv⟩ := W0.val3
  obtain ⟨e1, M1, same⟩ := W0.idle.mem.stVal hv (List.mem_append_right _ W0.inq) u
  refine ⟨e1, ⟨⟨M1, ?_, W0.idle.d1, W0.idle.le, W0.idle.keys, W0.idle.n, W0.idle.out⟩, W0.kept.acc, W0.q1, W0.no, W0.hne, W0.hc, W0.len, ?_, W0.ins, W0.n2⟩⟩
  · show (G.S.acc h 1 true fun _ => u).2.made ≤ mx
    rw [acc_made]; exact W0.idle.made
  · show val (G.S.acc h 1 true fun _ => u).2 h = u
    unfold val; rw [same h, if_pos rfl]; rfl

theorem one_q {z : Nat} {G1 Ge : Gr} (hd : Dn z 1 q Ge) (e : G1 = (Ge.leave 0).2) (hq : h ∈ G1.q.map Wt.h) : G1.q.length = 1 := by
  have h1 : Ge.q.length ≤ 1 := by have := Dz.le (show Dz z 1 q Ge _ from hd); omega
  have h2 : G1.q.length ≤ Ge.q.length := by
    rw [e]; unfold Gr.leave; split
    · show (kept (Ge.q.map (er 0))).length ≤ _
      exact Nat.le_trans (kept_le _) (by simp)
    · exact Nat.le_refl _
  have h3 : 0 < G1.q.length := by
    cases hx : G1.q with
    | nil => rw [hx] at hq; simp at hq
    | cons a l => simp
  omega
theorem mem_inq {G1 : Gr} {w1 : Wd} {mx1 : Int} (hI : Idle c w1 mx1 G1 la) (hk : Kept h 1 G1) (hc : h ≠ c.h) (hne : ∀ e ∈ la, e.h ≠ h) : h ∈ G1.q.map Wt.h := by
  have := hI.mem.perm.mem_iff.1 hk.reg
  simp only [List.mem_cons, List.mem_append, List.not_mem_nil, or_false] at this
  rcases this with e | e | e
  · exact (hc e).elim
  · obtain ⟨y, hy, e2⟩ := List.mem_map.1 e
    exact (hne y hy e2).elim
  · exact e
theorem res_of {no el : Int} {rv : List Wd} {rk : Wd} (h : q.res = (no, rv, rk, el)) : q.no = no ∧ q.rv = rv ∧ q.rk = rk ∧ q.el = el := by
  unfold Qr.res at h
  simpa only [Prod.mk.injEq] using h

/-- When the last one has left. -/
theorem Wait.gone {k : Nat} (W0 : Wait c h w mx G la k v) : (G.leave 1).2.q = [] ∧ (G.leave 1).2.S.regs.length = 1 + k ∧ (G.leave 1).2.S.V h = none := by
  obtain ⟨M1, _⟩ := W0.idle.mem.leave 1
  have hi : (G.leave 1).2.ins = [] := by
    cases hx : (G.leave 1).2.ins with
    | nil => rfl
    | cons a l =>
      have : a ∈ (G.leave 1).2.ins := by rw [hx]; exact .head _
      rw [leave_ins W0.idle.mem.ok] at this
      exact (this.2 ((W0.ins a).1 this.1)).elim
  have hq := q_nil M1.ok hi
  refine ⟨hq, ?_, ?_⟩
  · rw [live_len M1, hq, W0.len]; simp
  · refine Classical.byContradiction fun hn => ?_
    have := M1.perm.mem_iff.1 (V_keys.1 hn)
    rw [hq] at this
    simp only [List.mem_cons, List.mem_append, List.map_nil, List.not_mem_nil, or_false] at this
    rcases this with e | e
    · exact W0.hc e
    · obtain ⟨y, hy, e2⟩ := List.mem_map.1 e
      exact W0.hne y hy e2

/-- The second part: a map that is too small. -/
structure Full (x m g : Nat) (k : Nat) (X : Gx) : Prop where
  ex : ∃ w la, Idle (lcOf x m g 4 12) w (1 + 2000 * k) X.G la ∧ X.G.ins = [] ∧ ∀ e ∈ la, e.k.toNat < k

theorem Cell_s {a : Option Addr} (hh : 1 ≤ h) (hR : R (.tuple #[I h, I 1]) H) : CA en F.lru_Map_Cell [.pointer a, I h] H R := by
  apply vc_lru_Map_Cell
  exact cond_no (decide_eq_false (by omega)) hR

set_option maxHeartbeats 4000000 in
theorem LruGoes_ok {how : Int} {u : Wd} : CA en F.crossbarlaw16_LruGoes [I how, W v, W u] H fun r _ => r = .bool true := by
  apply vc_crossbarlaw16_LruGoes
  refine made2_s (by decide) (by decide) (Sep.nil (H := H)) fun H2 x m g X0 hI0 hins0 hn0 h2 => ⟨_, _, _, _, rfl, ?_⟩
  refine Sep.nw h2 fun i7 H8 h8 => Sep.st0 h8 (Nat.le_of_ble_eq_true rfl) fun H9 h9 => ⟨fun _ H' => H' = H9, cond_no rfl rfl, ?_⟩
  rintro _ H12 b13 rfl
  have hbase : X0.G.S.regs.length = 1 := by rw [live_len hI0.mem, q_nil hI0.mem.ok hins0]; rfl
  refine ⟨_, Sep.ld0 h9 rfl, live_s (gr_out (Sep.up2 h9)) ⟨_, rfl, _, _, _, Sep.lds0 h9 rfl, ?_⟩⟩
  rw [hbase]
  obtain ⟨c, hc⟩ : ∃ c, c = lcOf x m g 1 36 := ⟨_, rfl⟩
  have hcm : c.m = m := by rw [hc]
  have hcg : c.g = g := by rw [hc]
  have hcx : c.x = x := by rw [hc]
  have hcap : c.cap = 36 := by rw [hc]
  have hd1 : c.d1 = 1 := by rw [hc]
  have e40 : lcOf x m g 1 (40 - 4) = c := hc.symm
  rw [e40] at h9 hI0
  -- 1: 5 is laid
  have h9' : Sep H12 (xA c :: grA c.g c.m X0 :: bx i7 (.cells true 0 [P c.m, P c.g, P c.x]) :: []) := by rw [hcm, hcg, hcx]; exact Sep.pick h9 3 [1, 2, 0] (by decide)
  rw [← hcm, ← hcg, ← hcx]
  refine op2_s (I := fun _ _ => True) (ky := 5#64) (v := v) (fun _ _ _ _ _ => trivial) (fun _ => trivial) h9' hI0 (by decide) (by decide) fun H22 X1 k1 q1 la1 o1 _ _ hD1 hop1 hI1 hi1 hn1 _ _ h22 => ⟨_, _, _, _, _, _, rfl, ?_⟩
  have hins1 := ins_nil hi1 hins0
  have hq1 : q1.ky = 5 := hop1.2.1
  obtain ⟨h, hla1, hv1⟩ : ∃ h, la1 = [⟨h, 5⟩] ∧ val X1.G.S h = v := by
    rcases did_ins hD1 hop1.1 hop1.2.2.1 (q_nil hI0.mem.ok hins0) rfl with ⟨_, _, e⟩ | ⟨_, h, _, e1, e2⟩
    · rw [hcap] at e; simp at e
    · rw [hq1, if_pos (by rw [hd1]; decide)] at e1
      have hm : (⟨h, 5⟩ : El) ∈ la1 := by rw [e1]; exact .head _
      obtain ⟨_, y1, y2⟩ := hI1.hbd hm
      exact ⟨h, e1, (e2 (Ne.symm y1) y2).trans hop1.2.2.2⟩
  -- 2: and looked up
  refine ⟨_, _, _, Sep.lds3 h22 rfl, ?_⟩
  refine op2_s (I := fun _ _ => True) (ky := 5#64) (v := 0#64) (fun _ _ _ _ _ => trivial) (fun _ => trivial) h22 hI1 (by decide) (by decide) fun H33 X2 k2 q2 la2 o2 _ _ hD2 hop2 hI2 hi2 hn2 _ ho2 h33 => ⟨_, _, _, _, _, _, rfl, ?_⟩
  have hins2 := ins_nil hi2 hins1
  have hq2 : q2.ky = 5 := hop2.2.1
  obtain ⟨hel, hla2, hv2⟩ : q2.el = h ∧ la2 = [⟨h, 5⟩] ∧ val X2.G.S h = v := by
    have hf : findK la1 q2.ky = some ⟨h, 5⟩ := by rw [hla1, hq2]; rfl
    rcases did_look hD2 hI1 hI2 hop2.1 with ⟨e, _⟩ | ⟨e, e1, e2, e3, e4⟩
    · rw [hf] at e; cases e
    · rw [hf] at e1; cases e1
      have e5 : la2 = [⟨h, 5⟩] := by rw [e3, hla1, hq2]; rfl
      exact ⟨(res_of e2).2.2.2, e5, (e4 ⟨h, 5⟩ (by rw [e5]; exact .head _)).trans hv1⟩
  have hm2 : (⟨h, 5⟩ : El) ∈ la2 := by rw [hla2]; exact .head _
  obtain ⟨hb1, hhc, hV2⟩ := hI2.hbd hm2
  have hh1 : 1 ≤ h := (hI2.mem.bd (List.mem_append_left _ (List.mem_append_left _ (List.mem_map.2 ⟨_, hm2, rfl⟩)))).1
  -- xA gr o2 o1 i7
  refine Sep.nw h33 fun i40 H41 h41 => Sep.st0 h41 (Nat.le_of_ble_eq_true rfl) fun H42 h42 => ⟨_, Sep.ld5 h42 rfl, _, Sep.ld0 h42 rfl, ?_⟩
  rw [hel] at h42 ⊢
  refine Cell_s hh1 ⟨_, _, rfl, _, Sep.ld5 h42 rfl, ?_⟩
  -- i40 xA gr o2 o1 i7
  refine genter_s (Sep.up2 h42) fun H51 X3 e3 h51 => ⟨_, rfl, ?_⟩
  obtain ⟨M3, eS3, eq3⟩ := hI2.mem.enter 1
  have hent3 : (X2.G.enter 1).2 = { X2.G with ins := X2.G.ins ++ [1] } := by
    unfold Gr.enter
    rw [if_neg]
    rw [hins2, hn2, hn1, hn0]; simp
  rw [← e3] at M3 eS3 eq3 hent3
  have hq3 : X3.G.q = [] := eq3.trans (q_nil hI2.mem.ok hins2)
  have hI3 : Idle c (0 + 1 + 1) (1 + 1000 + 1000) X3.G la2 := ⟨M3, by rw [eS3]; exact hI2.made, hI2.d1, hI2.le, hI2.keys, by rw [hent3]; exact hI2.n, by rw [hent3, hins2]; simp⟩
  have hins3 : ∀ a, a ∈ X3.G.ins ↔ a = 1 := fun a => by rw [hent3, hins2]; simp
  have hn3 : X3.G.n = 2 := by rw [hent3]; show X2.G.n = 2; rw [hn2, hn1, hn0]
  have hk3 : Kept h 1 X3.G := ⟨(hins3 1).2 rfl, by rw [eS3]; exact V_keys.1 hV2, by rw [hq3]; simp⟩
  have hv3 : val X3.G.S h = v := by rw [eS3]; exact hv2
  have hb3 : h ≤ X3.G.S.made := by rw [eS3]; exact hb1
  have hno3 : ∀ y ∈ la2, y.h = h → y.k = 5 := fun y hy _ => by rw [hla2] at hy; simp at hy; rw [hy]; rfl
  refine Pick_ok (by decide) (by decide) ⟨_, rfl, ?_⟩
  have hmod : how % 3 = 0 ∨ how % 3 = 1 ∨ how % 3 = 2 := by omega
  -- gr i40 xA o2 o1 i7
  refine Sep.nw h51 fun i56 H57 h57 => ?_
  -- i56 gr i40 xA o2 o1 i7
  have hlen3 : X3.G.q.length = 0 := by rw [hq3]; rfl
  refine ⟨fun _ H' => ∃ (X4 : Gx) (la4 : List El) (w4 : Wd) (mx4 : Int) (o4 : Option Nat) (rv : List Wd) (rk el : Int), mx4 ≤ 10000 ∧ Wait c h w4 mx4 X4.G la4 (if how % 3 = 0 then 1 else 0) v ∧ (how % 3 = 2 → rv = [v]) ∧ (o4 = none → rv = []) ∧
      Sep H' (bx i56 (.cells true 0 [I 0, .slice (addr o4) rv.length 0, .int .u64 rk, I el]) :: xA c :: grA c.g c.m X4 :: gl 1 o4 (rv.map W) :: bx i7 (.cells true 0 [P c.m, P c.g, P c.x]) :: []), ?_, ?_⟩
  · have hpre : Sep H57 (xA c :: grA c.g c.m X3 :: bx i56 (.cells true 0 [I 0, .slice none 0 0, .int .u64 0, I 0]) :: bx i7 (.cells true 0 [P c.m, P c.g, P c.x]) :: []) := Sep.pick h57 7 [3, 1, 0, 6] (by decide)
    have hld : H57.cellsAt i7 0 3 = some [P c.m, P c.g, P c.x] := Sep.lds3 hpre rfl
    refine cond_of (fun e => ?_) fun e => ?_
    · have e : how % 3 = 0 := by simpa using e
      refine ⟨_, _, _, hld, ?_⟩
      refine op2_s (I := fun q G => Kept h 1 G ∧ Dn 1 1 q G) (ky := 6#64) (v := u) kd_st (fun b => ⟨hk3.enter 0, new_dz (by decide) (fun h => absurd h (by decide)) (by decide) ?_⟩) hpre hI3 (by decide) (by decide) fun H63 X4 k4 q4 la4 o4 _ _ hD4 hop4 hI4 hi4 hn4 hge ho4 h63 => ⟨_, _, _, _, _, _, rfl, ?_⟩
      · rw [(hI3.mem.enter 0).2.2, hlen3]; decide
      have hq4 : q4.ky = 6 := hop4.2.1
      obtain ⟨Ge, ⟨hkG, hdG⟩, eG⟩ := hge
      have hk4 : Kept h 1 X4.G := by rw [eG]; exact hkG.leave (by decide)
      have hno : findK la2 q4.ky = none := by rw [hla2, hq4]; rfl
      rcases did_ins hD4 hop4.1 hop4.2.2.1 hq3 hno with ⟨_, _, e6⟩ | ⟨e5, h', e6, e7, _⟩
      · rw [hcap, hla2] at e6; simp at e6
      have e8 : la4 = [⟨h', 6⟩] := by rw [e7, hq4, hla2, hd1]; rfl
      have hne4 : ∀ y ∈ la4, y.h ≠ h := fun y hy => by
        rw [e8] at hy; simp at hy; rw [hy]
        exact fun e9 => e6 ⟨h, 5⟩ hm2 e9.symm
      refine Sep.st3 h63 (Nat.le_of_ble_eq_true rfl) fun H70 h70 => ⟨X4, la4, _, _, o4, q4.rv, (q4.rk.toNat : Int), q4.el, by decide, ⟨hI4, hk4, one_q hdG eG (mem_inq hI4 hk4 hhc hne4), by rw [e8]; rfl, hne4, hhc, by rw [e8, if_pos e]; rfl, ?_, fun a => (hi4 a).trans (hins3 a), hn4.trans hn3⟩, fun e2 => by omega, ho4, ?_⟩
      · refine (did_val (w' := 0) (mx' := 0) hD4 hb3 hhc (V_keys.2 hk4.reg) fun y hy e1 e2 e3 => ?_).trans hv3
        rw [hno3 y hy e1, hq4] at e3
        exact absurd e3 (by decide)
      · rw [(res_of e5).1] at h70
        exact Sep.pick h70 5 [3, 0, 1, 2, 4] (by decide)
    · have e0 : how % 3 ≠ 0 := by simpa using e
      -- a key that goes
      have del : ∀ kd : Int, kd = 3 ∨ kd = 5 → (kd = 5 ↔ how % 3 = 2) → ∀ K : Heap → Prop, (∀ H', (∃ (X4 : Gx) (la4 : List El) (w4 : Wd) (mx4 : Int) (o4 : Option Nat) (rv : List Wd) (rk el : Int), mx4 ≤ 10000 ∧ Wait c h w4 mx4 X4.G la4 (if how % 3 = 0 then 1 else 0) v ∧ (how % 3 = 2 → rv = [v]) ∧ (o4 = none → rv = []) ∧
          Sep H' (bx i56 (.cells true 0 [I 0, .slice (addr o4) rv.length 0, .int .u64 rk, I el]) :: xA c :: grA c.g c.m X4 :: gl 1 o4 (rv.map W) :: bx i7 (.cells true 0 [P c.m, P c.g, P c.x]) :: [])) → K H') →
          CA en F.crossbarlaw16_one_alone [.agg #[P c.m, P c.g, P c.x], I kd, W 5#64, W 0#64, I 0] H57 fun v74 H75 => ∃ n76, ∃ a77 i78, ∃ n79, ∃ n80, ∃ n81, v74 = (.tuple #[(.agg #[I n76, (.slice a77 i78 0), (.int .u64 n79), I n80]), I n81]) ∧
            stc H75 i56 0 [I n76, (.slice a77 i78 0), (.int .u64 n79), I n80] fun H82 => K H82 := by
        intro kd hkd hkd5 K hK
        refine op2_s (I := fun q G => Kept h 1 G ∧ Dn 1 1 q G) (ky := 5#64) (v := 0#64) kd_st (fun b => ⟨hk3.enter 0, new_dz (by rcases hkd with h | h <;> rw [h] <;> decide) (fun h => absurd h (by decide)) (by decide) ?_⟩) hpre hI3 (by decide) (by rcases hkd with h | h <;> rw [h] <;> decide) fun H63 X4 k4 q4 la4 o4 _ _ hD4 hop4 hI4 hi4 hn4 hge ho4 h63 => ⟨_, _, _, _, _, _, rfl, ?_⟩
        · rw [(hI3.mem.enter 0).2.2, hlen3]; decide
        have hq4 : q4.ky = 5 := hop4.2.1
        obtain ⟨Ge, ⟨hkG, hdG⟩, eG⟩ := hge
        have hk4 : Kept h 1 X4.G := by rw [eG]; exact hkG.leave (by decide)
        have hf : findK la2 q4.ky = some ⟨h, 5⟩ := by rw [hla2, hq4]; rfl
        obtain ⟨e7, vv, e5, e6⟩ := did_del hD4 (by rw [hop4.1]; exact hkd) hf
        have e8 : la4 = [] := by rw [e7, hq4, hla2]; rfl
        have hne4 : ∀ y ∈ la4, y.h ≠ h := fun y hy => by rw [e8] at hy; simp at hy
        have hval : val X4.G.S h = v := (did_val (w' := 0) (mx' := 0) hD4 hb3 hhc (V_keys.2 hk4.reg) fun y hy e1 e2 e3 => by
          rw [hop4.1] at e2
          rcases hkd with h | h <;> rw [h] at e2 <;> exact absurd e2 (by decide)).trans hv3
        refine Sep.st3 (Sep.pick h63 5 [0, 1, 2, 3, 4] (by decide)) (Nat.le_of_ble_eq_true rfl) fun H70 h70 => hK H70 ⟨X4, la4, _, _, o4, q4.rv, (q4.rk.toNat : Int), q4.el, by decide, ⟨hI4, hk4, one_q hdG eG (mem_inq hI4 hk4 hhc hne4), by rw [e8]; rfl, hne4, hhc, by rw [e8, if_neg e0]; rfl, hval, fun a => (hi4 a).trans (hins3 a), hn4.trans hn3⟩, fun e2 => ?_, ho4, ?_⟩
        · rw [(res_of e5).2.1, hop4.1, if_neg (by rw [hkd5.2 e2]; decide), e6 hhc (V_keys.2 hk4.reg), hval]
        · rw [(res_of e5).1] at h70
          exact Sep.pick h70 5 [3, 0, 1, 2, 4] (by decide)
      refine cond_of (fun e => ?_) fun e => ?_
      · have e : how % 3 = 1 := by simpa using e
        exact ⟨_, _, _, hld, del 3 (.inl rfl) ⟨fun h => absurd h (by decide), fun h => by omega⟩ _ fun H' h => h⟩
      · have e : how % 3 ≠ 1 := by simpa using e
        exact cond_yes (by simp; omega) ⟨_, _, _, hld, del 5 (.inr rfl) ⟨fun _ => by omega, fun _ => rfl⟩ _ fun H' h => h⟩
  · rintro _ H96 ⟨X4, la4, w4, mx4, o4, rv, rk, el, hmx4, W4, hrv, ho4, h96⟩
    -- i56 xA gr o4 i7
    refine ⟨_, Sep.ld4 h96 rfl, ?_⟩
    obtain ⟨l1, W5⟩ := W4.load
    refine gload_s (Sep.up2 h96) fun H99 h99 => ⟨_, _, rfl, ?_⟩
    rw [l1]
    generalize hX5 : X4.to (X4.G.S.acc h 1 true id).2 = X5 at h99
    have W5 : Wait c h w4 mx4 X5.G la4 (if how % 3 = 0 then 1 else 0) v := by rw [← hX5]; exact W5
    -- gr i56 xA o4 i7
    refine ⟨_, Sep.ld4 h99 rfl, ?_⟩
    obtain ⟨l2, W6⟩ := W5.store u
    refine gstore_s h99 fun H104 h104 => ⟨_, rfl, ?_⟩
    rw [l2]
    generalize hX6 : X5.to (X5.G.S.acc h 1 true fun _ => u).2 = X6 at h104
    have W6 : Wait c h w4 mx4 X6.G la4 (if how % 3 = 0 then 1 else 0) u := by rw [← hX6]; exact W6
    refine ⟨_, Sep.ld4 h104 rfl, ?_⟩
    obtain ⟨l3, W7⟩ := W6.load
    refine gload_s h104 fun H108 h108 => ⟨_, _, rfl, ?_⟩
    rw [l3]
    generalize hX7 : X6.to (X6.G.S.acc h 1 true id).2 = X7 at h108
    have W7 : Wait c h w4 mx4 X7.G la4 (if how % 3 = 0 then 1 else 0) u := by rw [← hX7]; exact W7
    clear l1 l2 l3 W4 W5 W6 hX7 hX6 hX5
    refine ⟨_, _, _, Sep.lds4 h108 rfl, ?_⟩
    refine op2_s (I := fun q G => Kept h 1 G ∧ Dn 0 1 q G) (ky := 5#64) (v := 0#64) kd_st (fun b => ⟨W7.kept.enter 0, new_dz (by decide) (fun _ => rfl) (by decide) ?_⟩) (Sep.pick h108 5 [2, 0, 1, 3, 4] (by decide)) W7.idle (by omega) (by decide) fun H115 X8 k8 q8 la8 o8 _ _ hD8 hop8 hI8 hi8 hn8 hge ho8 h115 => ⟨_, _, _, _, _, _, rfl, ?_⟩
    · rw [(W7.idle.mem.enter 0).2.2, W7.q1]; decide
    have hq8 : q8.ky = 5 := hop8.2.1
    obtain ⟨Ge, ⟨hkG, hdG⟩, eG⟩ := hge
    have hk8 : Kept h 1 X8.G := by rw [eG]; exact hkG.leave (by decide)
    obtain ⟨e8, e9, e10⟩ : q8.no = 2 ∧ la8 = la4 ∧ val X8.G.S h = u := by
      rcases did_look hD8 W7.idle hI8 hop8.1 with ⟨f1, f2, f3, f4⟩ | ⟨e, f1, _⟩
      · refine ⟨(res_of f2).1, f3, ?_⟩
        have hm := W7.idle.mem.bd (List.mem_append_right _ W7.inq)
        exact (did_val (w' := 0) (mx' := 0) hD8 hm.2 W7.hc (V_keys.2 hk8.reg) fun y hy e1 e2 e3 => by rw [hop8.1] at e2; exact absurd e2 (by decide)).trans W7.vl
      · rw [hq8, W7.no] at f1; cases f1
    have W8 : Wait c h (w4 + 1) (mx4 + 1000) X8.G la8 (if how % 3 = 0 then 1 else 0) u :=
      ⟨hI8, hk8, one_q hdG eG (mem_inq hI8 hk8 W7.hc (by rw [e9]; exact W7.hne)), by rw [e9]; exact W7.no, by rw [e9]; exact W7.hne, W7.hc, by rw [e9]; exact W7.len, e10, fun a => (hi8 a).trans (W7.ins a), hn8.trans W7.n2⟩
    -- xA gr o8 i56 o4 i7
    refine Sep.nw h115 fun i122 H123 h123 => Sep.st0 h123 (Nat.le_of_ble_eq_true rfl) fun H124 h124 => ?_
    rw [e8] at h124
    -- i122 xA gr o8 i56 o4 i7
    refine ⟨fun _ H' => ∃ Xn, Xn.G = X8.G ∧ Sep H' (bx i7 (.cells true 0 [P c.m, P c.g, P c.x]) :: grA c.g c.m Xn :: []), ⟨_, Sep.ld4 h124 rfl, cond_no rfl ?_⟩, ?_⟩
    · have rest : ∀ H132, Sep H132 (bx i122 (.cells true 0 [I 2, .slice (addr o8) q8.rv.length 0, W q8.rk, I q8.el]) :: xA c :: grA c.g c.m X8 :: gl 1 o8 (q8.rv.map W) :: bx i56 (.cells true 0 [I 0, .slice (addr o4) rv.length 0, .int .u64 rk, I el]) :: gl 1 o4 (rv.map W) :: bx i7 (.cells true 0 [P c.m, P c.g, P c.x]) :: []) → ∀ K : Heap → Prop, (∀ H', (∃ Xn : Gx, Xn.G = X8.G ∧ Sep H' (bx i7 (.cells true 0 [P c.m, P c.g, P c.x]) :: grA c.g c.m Xn :: [])) → K H') →
          ∃ n134, H132.cell i122 0 = some (I n134) ∧ bif (n134 != 2) then (Value.bool false = Value.bool true) else (∃ a135, H132.cell i7 1 = some (.pointer a135) ∧ CA en F.grace_Grace_Waits [(.pointer a135)] H132 fun v136 H137 => ∃ n138, v136 = I n138 ∧ bif (n138 != 1) then (Value.bool false = Value.bool true) else K H137) := by
        intro H132 h132 K hK
        exact ⟨_, Sep.ld0 h132 rfl, cond_no rfl ⟨_, Sep.ld6 h132 rfl, waits_s (gr_isG (Sep.up2 h132)) ⟨_, rfl, cond_no (by rw [W8.q1]; rfl) (hK _ ⟨X8, rfl, Sep.pick h132 7 [6, 2] (by decide)⟩)⟩⟩⟩
      refine cond_of (fun e => ?_) fun e => ?_
      · have e : how % 3 = 2 := by simpa using e
        obtain rfl := hrv e
        obtain ⟨ob, rfl⟩ : ∃ ob, o4 = some ob := by
          cases o4 with
          | none => exact absurd (ho4 rfl) (by simp)
          | some ob => exact ⟨ob, rfl⟩
        refine ⟨_, _, Sep.ld4 h124 rfl, Sep.nw h124 fun i129 H130 h130 => ?_⟩
        have hr1 : WRow H130 (addr (some ob)) [v] := .inr ⟨ob, true, 1, rfl, h130.lt ob (by simp [feet, bx, gl, many, grA]), gl_get (Sep.up6 h130)⟩
        have hr2 : WRow H130 (some ⟨i129, 0, none⟩) [v] := .inr ⟨i129, true, 1, rfl, h130.footlt (by simp [bx]), Sep.get0 h130⟩
        refine SameWords_ok (w1 := [v]) (w2 := [v]) hr1 hr2 (by simp) fun H132 fr => ⟨_, rfl, cond_no (by simp) (cond_no rfl (cond_no (by simp) (cond_no rfl (cond_no rfl (cond_no (by simp) ?_)))))⟩
        exact rest H132 (h130.keep fr).tail _ fun H' h => h
      · refine cond_no rfl (cond_no (by simp) (cond_no rfl (cond_no rfl (cond_no (by simp) ?_))))
        exact rest H124 h124 _ fun H' h => h
    · rintro _ H145 b146 ⟨Xn, eXn, h145⟩
      refine ⟨_, Sep.ld0 h145 rfl, gleave_s (Sep.up1 h145) (by rw [eXn, W8.q1]; decide) fun H149 X9 f n9 e9 h149 => ⟨_, _, rfl, _, Sep.ld1 h149 rfl, ?_⟩⟩
      rw [eXn] at e9
      obtain ⟨g1, g2, g3⟩ := W8.gone
      rw [← e9] at g1 g2 g3
      refine gload_s h149 fun H154 h154 => ⟨_, _, rfl, ?_⟩
      have g4 : (X9.G.S.acc h 1 true id).1.2 = false := acc_gone g3
      have g5 : (X9.G.S.acc h 1 true id).2.regs.length = 1 + (if how % 3 = 0 then 1 else 0) := (acc_live ..).trans g2
      rw [g4]
      refine ⟨fun vs' H' => vs' = [I (if how % 3 = 0 then 2 else 1)] ∧ H' = H154, cond_of (fun e => ?_) (fun e => ?_), ?_⟩
      · have e : how % 3 = 0 := by simpa using e
        exact ⟨by rw [if_pos e, wrap_i64 (by decide)]; rfl, rfl⟩
      · have e : how % 3 ≠ 0 := by simpa using e
        exact ⟨by rw [if_neg e]; rfl, rfl⟩
      · rintro _ H159 n160 ⟨e160, rfl⟩
        obtain rfl : n160 = if how % 3 = 0 then 2 else 1 := by simpa using e160
        refine ⟨fun _ _ => True, cond_no rfl ⟨_, Sep.ld1 h154 rfl, live_s (gr_out h154) ⟨_, rfl, cond_no ?_ ⟨_, Sep.ld1 h154 rfl, waits_s (gr_isG h154) ⟨_, rfl, cond_no (by show ((X9.G.q.length : Int) != 0) = false; rw [g1]; rfl) trivial⟩⟩⟩⟩, ?_⟩
        · show (((X9.G.S.acc h 1 true id).2.regs.length : Int) != _) = false
          rw [g5]; split <;> rfl
        · rintro _ H171 b172 _
          refine made2_s (by decide) (by decide) (Sep.nil (H := H171)) fun H174 x m g X0 hI0 hins0 hn0 h174 => ⟨_, _, _, _, rfl, ?_⟩
          refine Sep.nw h174 fun i H180 h180 => Sep.st0 h180 (Nat.le_of_ble_eq_true rfl) fun H181 h181 => ⟨fun _ H' => H' = H181, cond_no rfl rfl, ?_⟩
          rintro _ H184 b185 rfl
          refine use_crossbarlaw16_LruGoes_0 (fun k t6 t27 H => ∃ (j : Nat) (X : Gx), j ≤ 9 ∧ k = 9 - j ∧ t27 = (j : Int) ∧ Full x m g j X ∧ Sep H (bx i (.cells true 0 [P m, P g, P x]) :: xA (lcOf x m g 4 12) :: grA g m X :: [])) 9 ⟨0, X0, by decide, rfl, rfl, ⟨0, [], hI0, hins0, by simp⟩, h181⟩ ?_
          rintro k t6 t27 ys H ⟨j, X, hj, rfl, rfl, hF, hs⟩
          refine cond_of (fun h1 => ?_) fun h1 => ?_
          · have hj' : j < 9 := by simp only [decide_eq_true_eq] at h1; omega
            refine ⟨_, _, _, Sep.lds0 hs rfl, ?_⟩
            have ewk : IntKind.u64.wrap ((j : Int) + 1) = ((j + 1 : Nat) : Int) := by
              have h1 : IntKind.u64.wrap ((j : Int) + 1) = ((j : Int) + 1) % 18446744073709551616 := rfl
              rw [h1]; omega
            obtain ⟨w, la, hI, hins, hlt⟩ := hF.ex
            have ew : (.int .u64 (j : Int) : Value) = W (BitVec.ofNat 64 j) := by
              have : (BitVec.ofNat 64 j).toNat = j := by rw [BitVec.toNat_ofNat]; omega
              show _ = Value.int .u64 ((BitVec.ofNat 64 j).toNat : Int)
              rw [this]
            obtain ⟨kw, hkw⟩ : ∃ kw, kw = BitVec.ofNat 64 j := ⟨_, rfl⟩
            have hkn : kw.toNat = j := by rw [hkw, BitVec.toNat_ofNat]; omega
            rw [ew, ← hkw]
            have hno : findK la kw = none := by
              refine List.find?_eq_none.2 fun e he => ?_
              simp only [beq_iff_eq]
              intro e2
              have := hlt e he
              rw [e2, hkn] at this; omega
            refine op_s (Sep.pick hs 3 [1, 2, 0] (by decide)) hI (by omega) (by decide) fun H5 X1 k1 q la1 o _ _ hD hop hI1 hi1 _ h5 => ⟨_, _, _, _, _, _, rfl, ?_⟩
            have hins1 := ins_nil hi1 hins
            have hlt1 : ∀ e ∈ la1, e.k.toNat < j + 1 := by
              have hq : q.ky = kw := hop.2.1
              rcases did_ins hD hop.1 hop.2.2.1 (q_nil hI.mem.ok hins) (by rw [hq]; exact hno) with ⟨_, e2, _⟩ | ⟨_, h2, _, e2, _⟩
              · intro e he; rw [e2] at he; have := hlt e he; omega
              · intro e he
                rw [e2] at he
                rcases List.mem_cons.1 he with he | he
                · rw [he, hq, hkn]; omega
                · have : e ∈ la := by
                    split at he
                    · exact he
                    · exact List.dropLast_subset _ he
                  have := hlt e this; omega
            have hcase : (q.no = 5 ∧ findK la1 kw = none ∧ X1.G.S.room < 8) ∨ (q.no = 0 ∧ findK la1 kw ≠ none) := by
              have hq : q.ky = kw := hop.2.1
              rcases did_ins hD hop.1 hop.2.2.1 (q_nil hI.mem.ok hins) (by rw [hq]; exact hno) with ⟨e1, e2, e3⟩ | ⟨e1, h2, _, e2, _⟩
              · refine .inl ⟨(res_of e1).1, by rw [e2]; exact hno, ?_⟩
                have := hI1.mem.room
                have := hI1.mem.room0
                have hc1 : (lcOf x m g 4 12).cap = 12 := rfl
                rw [e2] at *
                rw [hc1] at *
                omega
              · refine .inr ⟨(res_of e1).1, ?_⟩
                rw [e2, hq]
                unfold findK
                rw [List.find?_cons]
                simp
            -- xA gr o i M
            refine Sep.nw h5 fun i12 H13 h13 => Sep.st0 h13 (Nat.le_of_ble_eq_true rfl) fun H14 h14 => ⟨_, _, _, Sep.lds4 h14 rfl, ?_⟩
            refine op_look (ky := kw) (Sep.pick h14 5 [1, 2, 0, 4] (by decide)) hI1 (by omega) fun H19 X2 k2 la2 o2 rv2 no2 el2 _ _ hI2 hi2 _ hc2 _ h19 => ⟨_, _, _, _, _, _, rfl, ?_⟩
            have hins2 := ins_nil hi2 hins1
            have hno2 : (no2 = 2 ∧ findK la1 kw = none) ∨ (no2 = 0 ∧ findK la1 kw ≠ none) := by
              rcases hc2 with ⟨a, b, _⟩ | ⟨e, a, b, _⟩
              · exact .inl ⟨b, a⟩
              · exact .inr ⟨b, by rw [a]; simp⟩
            have hlt2 : ∀ e ∈ la2, e.k.toNat < j + 1 := fun e he => by
              rcases hc2 with ⟨_, _, _, _, e2⟩ | ⟨e0, a, _, _, _, e2⟩
              · rw [e2] at he; exact hlt1 e he
              · rw [e2] at he
                rcases List.mem_cons.1 he with he | he
                · rw [he]; exact hlt1 e0 (List.mem_of_find?_eq_some a)
                · exact hlt1 e (List.mem_filter.1 he).1
            have hroom : X2.G.S.room < 8 ∨ findK la1 kw ≠ none := by
              rcases hcase with ⟨_, a, b⟩ | ⟨_, a⟩
              · left
                have h1 := hI2.mem.room
                have h2 := hI1.mem.room
                have e3 : la2 = la1 := by
                  rcases hc2 with ⟨_, _, _, _, e2⟩ | ⟨e0, a', _⟩
                  · exact e2
                  · rw [a] at a'; cases a'
                rw [q_nil hI2.mem.ok hins2, e3] at h1
                rw [q_nil hI1.mem.ok hins1] at h2
                omega
              · exact .inr a
            -- xA gr o2 i12 i M
            refine Sep.nw h19 fun i26 H27 h27 => Sep.st0 h27 (Nat.le_of_ble_eq_true rfl) fun H28 h28 => ?_
            have fin1 : Full x m g (j + 1) X2 := ⟨_, la2, ⟨hI2.mem, by have := hI2.made; omega, hI2.d1, hI2.le, hI2.keys, hI2.n, hI2.out⟩, hins2, hlt2⟩
            have fin2 : Sep H28 (bx i (.cells true 0 [P m, P g, P x]) :: xA (lcOf x m g 4 12) :: grA g m X2 :: []) := Sep.pick h28 6 [5, 1, 2] (by decide)
            refine ⟨fun vs' H' => vs' = [.bool false] ∧ H' = H28, ⟨_, Sep.ld4 h28 rfl, ?_⟩, fun _ H47 b48 ⟨e, e2⟩ => by
              obtain rfl : b48 = false := by simpa using e
              rw [e2]; exact cond_no rfl ⟨9 - (j + 1), by omega, j + 1, X2, by omega, rfl, ewk, fin1, fin2⟩⟩
            rcases hcase with ⟨c1, c2, c3⟩ | ⟨c1, c2⟩
            · have e2 : no2 = 2 := by
                rcases hno2 with ⟨a, _⟩ | ⟨_, a⟩
                · exact a
                · exact (a c2).elim
              refine cond_yes (by rw [c1]; rfl) ⟨_, Sep.ld4 h28 rfl, cond_no (by rw [c1]; rfl) ⟨_, Sep.ld4 h28 rfl, _, Sep.ld0 h28 rfl, cond_no (by rw [c1, e2]; rfl) ⟨_, Sep.ld4 h28 rfl, cond_yes (by rw [c1]; rfl) ⟨_, Sep.ld5 h28 rfl, ?_⟩⟩⟩⟩
              refine room_s (gr_out (Sep.up2 h28)) ⟨_, rfl, by rw [decide_eq_false (hroom.elim (fun h => by omega) fun h => (h c2).elim)], rfl⟩
            · have e2 : no2 = 0 := by
                rcases hno2 with ⟨_, a⟩ | ⟨a, _⟩
                · exact (c2 a).elim
                · exact a
              exact cond_no (by rw [c1]; rfl) ⟨_, Sep.ld4 h28 rfl, _, Sep.ld0 h28 rfl, cond_no (by rw [c1, e2]; rfl) ⟨_, Sep.ld4 h28 rfl, cond_no (by rw [c1]; rfl) ⟨rfl, rfl⟩⟩⟩
          · refine asBool_in ⟨_, Sep.ld0 hs rfl, ?_⟩
            obtain ⟨w9, la9, hI9, _⟩ := hF.ex
            refine bad_s (gr_out (Sep.up2 hs)) ⟨_, rfl, cond_yes (by rw [hI9.mem.bads]; rfl) (CA_truth (by kernel_rfl) ⟨_, rfl, rfl⟩)⟩

theorem LruGoes_law (H : Heap) (us : List Value) (h : shpVs en H 7 T.LruGoes us) : CA en F.crossbarlaw16_LruGoes us H fun v _ => v = .bool true := by
  obtain ⟨v, u, rfl, ⟨n1, hn1, _⟩, v2, u2, rfl, ⟨n2, hn2, w2⟩, v3, u3, rfl, ⟨n3, hn3, w3⟩, rfl⟩ := args_LruGoes h
  obtain rfl := (List.cons.inj hn1).1
  obtain rfl := (List.cons.inj hn2).1
  obtain rfl := (List.cons.inj hn3).1
  obtain ⟨v, rfl⟩ := word_of w2
  obtain ⟨w, rfl⟩ := word_of w3
  exact LruGoes_ok
end Go.Proofs.YtjggeoghlicmdaaGreat
