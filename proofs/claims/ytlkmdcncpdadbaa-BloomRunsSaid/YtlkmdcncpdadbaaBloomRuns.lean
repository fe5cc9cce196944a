/-
  Whatever agents do with a bloom: it is the document's one.
-/
import Derived.Test.YtlkmdcncpdadbaaBloomM
import Derived.Test.YtlkmdcncpdadbaaArgz
import Derived.Test.YtlkmdcncpdadbaaAs48
namespace Go.Proofs.Ytlkmdcncpdadbaa
open Go Go.AS Go.RowKit
set_option linter.unusedVariables false
variable {H H' H0 : Heap} {R : Value → Heap → Prop} {L M : List Asr} {ws vs : List (BitVec 64)} {d : Dc} {ll : List (List Op)} {la : Option Addr} {s m x rr bb ab n : Nat}

theorem fits_s (h : Sep H L) (hR : ∀ H', Sep H' L → R (.bool (decide (chks [d] = 0 ∧ d.kind = 8))) H') : CA en F.crossbarlaw18_Fits [.agg #[I d.kind, I d.entries, I d.words, I d.buckets, I d.inner]] H R := by
  apply vc_crossbarlaw18_Fits
  refine Sep.nw h fun i1 H2 h2 => ⟨_, _, _, _, _, Sep.lds0 h2 rfl, Sep.nw h2 fun i8 H9 h9 => ?_⟩
  refine Check_ok (l := [d]) ⟨rfl, .inr ⟨i8, true, 5, rfl, h9.footlt (by simp [bx]), Sep.get0 h9⟩⟩ fun H11 fr => ⟨_, rfl, ?_⟩
  have h11 := h9.keep fr
  refine cond_of (fun z => ⟨_, Sep.ld1 h11 rfl, ?_⟩) fun z => ?_
  · have z : chks [d] = 0 := by simpa using z
    have e : (d.kind == 8) = decide (chks [d] = 0 ∧ d.kind = 8) := by rw [Bool.eq_iff_iff]; simp [z]
    rw [e]; exact hR H11 h11.tail.tail
  · have z : ¬ chks [d] = 0 := by simpa using z
    have e : false = decide (chks [d] = 0 ∧ d.kind = 8) := by symm; simp [z]
    rw [e]; exact hR H11 h11.tail.tail

theorem big_s {pa : Option Addr} {pn : Nat} (o : OpsLL H0 la n ll) (hl : ∀ l ∈ ll, l.length ≤ Bz) (h : Sep H L) (hm : old H0 ∈ L)
    (hR1 : ∀ H', Sep H' L → R (.bool true) H') (hR2 : 1 ≤ n ∧ n ≤ 4 → tot ll ≤ 120 → pn ≤ 2000 → ∀ H', Sep H' L → R (.bool false) H') : CA en F.crossbarlaw18_Big [.slice la n 0, .slice pa pn 0] H R := by
  apply vc_crossbarlaw18_Big
  refine cond_of (fun z => hR1 H h) fun z => cond_of (fun z2 => hR1 H h) fun z2 => ?_
  have hn : 1 ≤ n ∧ n ≤ 4 := by simp only [decide_eq_false_iff_not] at z z2; omega
  refine Total_s o hn.2 hl h hm fun H2 h2 => ⟨_, rfl, cond_of (fun z3 => hR1 H2 h2) fun z3 => ?_⟩
  have ht : tot ll ≤ 120 := by simp only [decide_eq_false_iff_not] at z3; omega
  by_cases hp : pn ≤ 2000
  · have e : decide (((pn : Nat) : Int) > 2000) = false := by rw [decide_eq_false_iff_not]; omega
    rw [e]; exact hR2 hn ht hp H2 h2
  · have e : decide (((pn : Nat) : Int) > 2000) = true := by rw [decide_eq_true_iff]; omega
    rw [e]; exact hR1 H2 h2

theorem sameD (a b c d e : Int) : sameN 8 (.agg #[.int .i64 a, .int .i64 b, .int .i64 c, .int .i64 d, .int .i64 e]) (.agg #[.int .i64 a, .int .i64 b, .int .i64 c, .int .i64 d, .int .i64 e]) = true := by simp [sameN, sameN.sameL]
theorem sameL_refl : ∀ (c : List Value), (∀ v ∈ c, sameN 8 v v = true) → sameN.sameL 8 c c = true
  | [], _ => rfl
  | v :: c, h => by
    show (sameN 8 v v && sameN.sameL 8 c c) = true
    rw [h v (by simp), sameL_refl c fun w hw => h w (by simp [hw])]; rfl
theorem sameObj_refl {z : Nat} {c : List Value} (h : ∀ v ∈ c, sameN 8 v v = true) : sameObj (.cells true z c) (.cells true z c) = true := by
  show (Nat.beq z z && sameN.sameL 8 c c) = true
  rw [sameL_refl c h, Nat.beq_refl]; rfl
theorem mem_reps {v : Value} {z : List Value} : ∀ {n : Nat}, v ∈ reps n z → v ∈ z
  | 0, h => by simp [reps] at h
  | n + 1, h => by
    simp only [reps, List.mem_append] at h
    rcases h with h | h
    · exact h
    · exact mem_reps h
theorem reps_w (n : Nat) : reps n [.int .u64 0] = wds (List.replicate n 0) := by
  rw [reps_one]
  show _ = (List.replicate n (0 : BitVec 64)).map W
  rw [List.map_replicate]; rfl

theorem chk_bd (h : chks [d] = 0) (hk : d.kind = 8) : d.words = 1 ∧ d.inner = 0 := by
  have e : chks [d] = chk [d] d := by
    show (if (1 : Int) > 10 then (19 : Int) else if chk [d] d ≠ 0 then chk [d] d else 0) = _
    rw [if_neg (by omega)]; split <;> omega
  rw [e] at h
  unfold chk at h
  have hw : (kindD d.kind).words = 1 := by rw [hk]; rfl
  rw [if_neg (by rw [hk]; decide)] at h
  by_cases h2 : d.entries < 1 ∨ d.entries > 64 ∨ d.words < 1 ∨ d.words > (kindD d.kind).words
  · rw [if_pos h2] at h; cases h
  · rw [if_neg h2] at h
    rw [hw] at h2
    refine ⟨by omega, ?_⟩
    split at h
    · cases h
    · have hn : (kindD d.kind).nested = false := by rw [hk]; rfl
      rw [hn] at h
      simp at h
      exact h

/-- The document's map, and where it stands. -/
theorem bref_s {nb : Nat} (h : Sep H L) (hb : d.buckets = (nb : Int)) (hb2 : nb ≤ 32) (hR : ∀ H', Sep H' (refA (H.next + 9) (H.next + 8) d nb :: bx (H.next + 8) (.cells true 1 (wds (List.replicate nb 0))) :: L) → R (P (H.next + 9)) H') :
    CA en F.crossbarref18_New [.agg #[I d.kind, I d.entries, I d.words, I d.buckets, I d.inner]] H R := by
  apply vc_crossbarref18_New
  refine Sep.nwx h fun h2 => ?_
  have hB := h2.bump 7
  refine ⟨_, _, _, _, _, Sep.lds0 hB rfl, _, Sep.ld0 hB rfl, ⟨by omega, Int.le_refl _, by rw [hb, Int.toNat_natCast]; omega⟩, ?_⟩
  rw [hb, Int.toNat_natCast, reps_w]
  have e1 : ((H.new (.cells true 0 [I d.kind, I d.entries, I d.words, I d.buckets, I d.inner])).bump 7).next = H.next + 8 := by rw [next_bump, next_new]
  rw [hb] at hB e1
  refine Sep.nwx hB fun h3 => Sep.nwx h3 fun h4 => ?_
  rw [e1] at h3 h4 ⊢
  have e2 : ((((H.new (.cells true 0 [I d.kind, I d.entries, I d.words, I nb, I d.inner])).bump 7).new (.cells true 1 (wds (List.replicate nb 0)))).next) = H.next + 9 := by rw [next_new, e1]
  rw [e2] at h4 ⊢
  refine ⟨hR _ ?_, ⟨⟨_, _, _, _, _, Sep.lds0 hB rfl, sameD _ _ _ _ _⟩, ⟨_, _, _, _, _, Sep.lds1 h3 rfl, sameD _ _ _ _ _⟩, trivial⟩, trivial⟩
  unfold refA
  rw [hb]
  exact h4.rm2

abbrev ak0 : Ak := ⟨none, 0, 0, none, 0, 0, 0, 0, false, 0, none, 0, 0, 0⟩
theorem graceNew_s {n : Int} {p : Option Addr} (h : Sep H L) (hR : ∀ H' g, Sep H' L → R (P g) H') : CA en F.grace_New [I n, .pointer p] H R := by
  apply vc_grace_New
  exact Sep.nw h fun mi H2 h2 => Sep.nw h2 fun g H4 h4 => hR H4 g h4.tail.tail

theorem bstart_s (h : Sep H [old H0]) (hd : chks [d] = 0) (hk : d.kind = 8) (hn : 1 ≤ n ∧ n ≤ 4)
    (hR : ∀ H' s m x rr bb ab ws, BD d ws → BS H0 s m x rr bb ab n d la ll H' (List.replicate n ak0) ws 0 → R (P s) H') : CA en F.crossbarlaw18_begin [.agg #[I d.kind, I d.entries, I d.words, I d.buckets, I d.inner], .slice la n 0] H R := by
  apply vc_crossbarlaw18_begin
  have hp := pow_bd (chk8 hd hk)
  obtain ⟨nb, hnb⟩ : ∃ nb : Nat, d.buckets = (nb : Int) := ⟨d.buckets.toNat, by omega⟩
  have hcl : d.buckets ≤ clampRoom 65536 := by rw [clampRoom_eq]; omega
  refine Sep.nw h fun i1 H2 h2 => new_s h2 fun H4 m mp h4 => ⟨_, rfl, cond_no rfl ?_⟩
  have hB4 := h4.bump 12
  refine graceNew_s hB4 fun H7 g h7 => ⟨_, rfl, _, _, _, _, _, Sep.lds1 h7 rfl, ?_⟩
  refine bnew_s h7 (fun z => by rcases z with z | z; exact absurd hd z; exact absurd hk z) (fun _ _ z => by omega) fun _ _ _ H15 x S' o' h15 => ⟨_, _, rfl, ⟨cond_no rfl (cond_no rfl ?_), ⟨⟨_, _, _, _, _, Sep.lds1 hB4 rfl, sameD _ _ _ _ _⟩, ⟨_, _, _, _, _, Sep.lds1 h7 rfl, sameD _ _ _ _ _⟩, trivial⟩, trivial⟩⟩
  have hB := h15.bump 12
  -- bm mem i1 old
  refine ⟨_, _, _, _, _, Sep.lds2 hB rfl, ?_⟩
  refine bref_s hB hnb (by omega) fun H34 h34 => ⟨_, rfl, _, _, _, _, _, Sep.lds4 h34 rfl, ⟨by omega, Int.le_refl _, by omega⟩, ?_⟩
  have e1 : (H15.bump 12).next = H15.next + 12 := by rw [next_bump]
  rw [e1]
  have hF := h15.fore2 (n := 12) (a := 8) (b := 10) (.cells true 12 (reps ((n : Nat) : Int).toNat [.pointer none, I 0, .int .u64 0, .slice none 0 0, I 0, I 0, I 0, .bool false, I 0, .slice none 0 0, .int .u64 0, I 0])) (.cells true 0 [P m, P x, P (H15.next + 12 + 9), I d.kind, I d.entries, I d.words, I d.buckets, I d.inner, .slice la n 0, .slice (some ⟨H15.next + 8, 0, none⟩) ((n : Nat) : Int).toNat 0]) (by decide) (by decide) (by decide)
  refine ⟨_, _, _, _, _, Sep.lds4 hF rfl, ?_⟩
  refine bref_s hF hnb (by omega) fun H47 h47 => ⟨_, rfl, _, _, _, _, _, Sep.lds6 h47 rfl, ⟨by omega, Int.le_refl _, by omega⟩, ?_⟩
  have e3 : (((H15.bump 12).set (H15.next + 8) (.cells true 12 (reps ((n : Nat) : Int).toNat [.pointer none, I 0, .int .u64 0, .slice none 0 0, I 0, I 0, I 0, .bool false, I 0, .slice none 0 0, .int .u64 0, I 0]))).set (H15.next + 10) (.cells true 0 [P m, P x, P (H15.next + 12 + 9), I d.kind, I d.entries, I d.words, I d.buckets, I d.inner, .slice la n 0, .slice (some ⟨H15.next + 8, 0, none⟩) ((n : Nat) : Int).toNat 0])).next = H15.next + 12 := by rw [next_set, next_set, next_bump]
  rw [e3] at h47 ⊢
  -- ref bits side agents bm mem i1 old
  have er : reps ((n : Nat) : Int).toNat [.pointer none, I 0, .int .u64 0, .slice none 0 0, I 0, I 0, I 0, .bool false, I 0, .slice none 0 0, .int .u64 0, I 0] = ((List.replicate n ak0).map Ak.cells).flatten := by
    rw [Int.toNat_natCast, reps_flat, List.map_replicate]; rfl
  have s1 : ∀ v ∈ [P m, P x, P (H15.next + 12 + 9), I d.kind, I d.entries, I d.words, I d.buckets, I d.inner, .slice la n 0, .slice (some ⟨H15.next + 8, 0, none⟩) ((n : Nat) : Int).toNat 0], sameN 8 v v = true := by
    intro v hv
    simp only [List.mem_cons, List.not_mem_nil, or_false] at hv
    rcases hv with rfl | rfl | rfl | rfl | rfl | rfl | rfl | rfl | rfl | rfl <;> simp [sameN]
  have s2 : ∀ v ∈ reps ((n : Nat) : Int).toNat [.pointer none, I 0, .int .u64 0, .slice none 0 0, I 0, I 0, I 0, .bool false, I 0, .slice none 0 0, .int .u64 0, I 0], sameN 8 v v = true := by
    intro v hv
    have hv := mem_reps hv
    simp only [List.mem_cons, List.not_mem_nil, or_false] at hv
    rcases hv with rfl | rfl | rfl | rfl | rfl | rfl | rfl | rfl | rfl | rfl | rfl | rfl <;> simp [sameN]
  have hl : okLen 128 (n : Int) (n : Int) := ⟨by omega, Int.le_refl _, by omega⟩
  refine ⟨hR H47 (H15.next + 10) m x (H15.next + 12 + 9) (H15.next + 12 + 8) (H15.next + 8) (List.replicate nb 0) ?_ ⟨by simp, fun i a hi => ?_, fun i a l hi hl => ?_, S', ?_, ?_⟩, ⟨⟨_, Sep.get2 h47, sameObj_refl s1⟩, trivial⟩, ⟨⟨hl, _, Sep.get1 hF, sameObj_refl s2⟩, ⟨hl, _, Sep.get3 h47, sameObj_refl s2⟩, trivial⟩, ⟨rfl, rfl, trivial⟩, ⟨⟨_, _, _, _, _, Sep.lds4 hF rfl, sameD _ _ _ _ _⟩, ⟨_, _, _, _, _, Sep.lds6 h47 rfl, sameD _ _ _ _ _⟩, trivial⟩, trivial⟩
  · have hc := chk_bd hd hk
    exact ⟨hk, hc.1, hc.2, by rw [hnb]; simp, by simp; omega⟩
  · obtain ⟨_, rfl⟩ := List.mem_replicate.1 (List.mem_of_getElem? hi); rfl
  · obtain ⟨_, rfl⟩ := List.mem_replicate.1 (List.mem_of_getElem? hi); exact Nat.zero_le _
  · rw [hnb] at o'; exact o'
  · rw [er, Int.toNat_natCast] at h47
    have e : (List.replicate nb (0 : BitVec 64)).length = nb := by simp
    rw [e]
    exact Sep.pick h47 8 [3, 2, 4, 5, 0, 1, 7] (by decide)

/-- How far each one has come. -/
def Far (ll : List (List Op)) (As : List Ak) (j : Nat) : Prop := ∀ (i : Nat) (a : Ak) (l : List Op), As[i]? = some a → ll[i]? = some l → j ≤ a.at_ ∨ a.at_ = l.length

theorem rest_s {As : List Ak} {c : Int} (o : OpsLL H0 la n ll) (bd : BD d ws) (w : BS H0 s m x rr bb ab n d la ll H As ws c) (hn : 1 ≤ n ∧ n ≤ 4) (ht : tot ll ≤ 120) (hc : c ≤ 100000)
    (hR : ∀ H', R (.bool true) H') : CA en F.crossbarlaw18_side_rest [P s] H R := by
  have hl : ∀ l ∈ ll, l.length ≤ 1000 := fun l hm => by have := len_le_tot hm; omega
  have hlz : ∀ l ∈ ll, l.length ≤ Bz := fun l hm => by have := hl l hm; show l.length ≤ 140737488355328; omega
  have hln := o.len
  apply vc_crossbarlaw18_side_rest
  have bd0 := bd
  refine use_crossbarlaw18_side_rest_0 (fun k t2 t3 H' => ∃ (j : Nat) (As : List Ak) (ws' : List (BitVec 64)) (c' : Int), j ≤ 60 * (tot ll + 1) ∧ k = 60 * (tot ll + 1) - j ∧ t3 = (j : Int) ∧ c' ≤ 100000 + 40 * j ∧ ws'.length = ws.length ∧ BS H0 s m x rr bb ab n d la ll H' As ws' c' ∧ Far ll As j) (60 * (tot ll + 1)) ⟨0, As, ws, c, Nat.zero_le _, rfl, rfl, by omega, rfl, w, fun i a l _ _ => .inl (Nat.zero_le _)⟩ ?_
  clear w
  rintro k t2 t3 ys H3 ⟨j, As, ws', c', hj, rfl, rfl, hc', hwl, w, far⟩
  obtain ⟨S, o1, h⟩ := w.ex
  refine asAddr_in ⟨_, _, Sep.ld1 h rfl, ?_⟩
  refine Total_s o hn.2 hlz h (by simp) fun H6 h6 => ⟨_, rfl, ?_⟩
  have w6 : BS H0 s m x rr bb ab n d la ll H6 As ws' c' := ⟨w.len, w.run, w.at_, S, o1, h6⟩
  clear w
  have e1 : IntKind.i64.wrap (60 * IntKind.i64.wrap ((tot ll : Int) + 1)) = ((60 * (tot ll + 1) : Nat) : Int) := by
    rw [wrap_i64 (n := (tot ll : Int) + 1) (by omega), wrap_i64 (by omega)]; omega
  rw [e1]
  refine cond_of (fun hlt => ?_) fun hlt => ?_
  · have hlt : j < 60 * (tot ll + 1) := by simp only [decide_eq_true_eq] at hlt; omega
    refine use_crossbarlaw18_side_rest_1 (fun k' t2 t4 H' => ∃ (q : Nat) (As : List Ak) (ws' : List (BitVec 64)) (c2 : Int), q ≤ n ∧ k' = n - q ∧ t4 = (q : Int) ∧ c2 ≤ c' + 10 * q ∧ ws'.length = ws.length ∧ BS H0 s m x rr bb ab n d la ll H' As ws' c2 ∧ Far ll As j ∧ ∀ (i : Nat) (a : Ak) (l : List Op), i < q → As[i]? = some a → ll[i]? = some l → j + 1 ≤ a.at_ ∨ a.at_ = l.length) n ⟨0, As, ws', c', Nat.zero_le _, rfl, rfl, by omega, hwl, w6, far, fun i a l h => by omega⟩ ?_
    rintro k' t2' t4 ys' H4 ⟨q, As, ws', c2, hq, rfl, rfl, hc2, hwl, w, far, far2⟩
    obtain ⟨S, o1, h⟩ := w.ex
    refine asAddr_in ⟨_, _, Sep.ld1 h rfl, cond_of (fun hqn => ?_) fun hqn => ?_⟩
    · have hqn : q < n := by simp only [decide_eq_true_eq] at hqn; omega
      refine bside_s o ⟨bd.kind, bd.words, bd.inner, by rw [hwl]; exact bd.b, by rw [hwl]; exact bd.h1⟩ w hqn hn.2 hl (by omega) fun H' As2 ws2 c3 hc3 hw2 w2 st => ⟨_, rfl, cond_no rfl ⟨n - (q + 1), by omega, q + 1, As2, ws2, c3, by omega, rfl, by rw [wrap_i64 (by omega)]; omega, by omega, by rw [hw2]; exact hwl, w2, fun i a l h1 h2 => ?_, fun i a l hi h1 h2 => ?_⟩⟩
      · obtain ⟨a0, h3⟩ : ∃ a0, As[i]? = some a0 := ⟨_, List.getElem?_eq_getElem (by have := (List.getElem?_eq_some_iff.1 h1).1; rw [w2.len] at this; rw [w.len]; exact this)⟩
        obtain ⟨a', h4, h5⟩ := st i a0 l h3 h2
        rw [h1] at h4; obtain rfl := Option.some.inj h4
        have := far i a0 l h3 h2
        have ha := w.at_ i a0 l h3 h2
        rw [h5]
        split
        · split <;> omega
        · exact this
      · obtain ⟨a0, h3⟩ : ∃ a0, As[i]? = some a0 := ⟨_, List.getElem?_eq_getElem (by have := (List.getElem?_eq_some_iff.1 h1).1; rw [w2.len] at this; rw [w.len]; exact this)⟩
        obtain ⟨a', h4, h5⟩ := st i a0 l h3 h2
        rw [h1] at h4; obtain rfl := Option.some.inj h4
        have f1 := far i a0 l h3 h2
        have ha := w.at_ i a0 l h3 h2
        rw [h5]
        by_cases e : i = q
        · rw [if_pos e]; split <;> omega
        · rw [if_neg e]; exact far2 i a0 l (by omega) h3 h2
    · have hqn : q = n := by simp only [decide_eq_false_iff_not] at hqn; omega
      subst hqn
      refine asBool_in ⟨60 * (tot ll + 1) - (j + 1), by omega, j + 1, As, ws', c2, by omega, rfl, by rw [wrap_i64 (by omega)]; omega, by omega, hwl, w, fun i a l h1 h2 => ?_⟩
      refine far2 i a l ?_ h1 h2
      have := (List.getElem?_eq_some_iff.1 h1).1
      rw [w.len] at this; exact this
  · have hj2 : j = 60 * (tot ll + 1) := by simp only [decide_eq_false_iff_not] at hlt; omega
    have full : ∀ (i : Nat) (a : Ak) (l : List Op), As[i]? = some a → ll[i]? = some l → a.at_ = l.length := fun i a l h1 h2 => by
      rcases far i a l h1 h2 with h3 | h3
      · have := len_le_tot (List.mem_of_getElem? h2)
        have := w6.at_ i a l h1 h2
        omega
      · exact h3
    refine asBool_in ?_
    refine use_crossbarlaw18_side_rest_2 (fun k' t2 t5 H' => ∃ (q : Nat) (S : Sm), q ≤ n ∧ k' = n - q ∧ t5 = (q : Int) ∧ Sep H' [bx ab (.cells true 12 (As.map Ak.cells).flatten), sideA s m x rr ab n d la, bm m x d 1, mem m S, refA rr bb d ws'.length, bx bb (.cells true 1 (wds ws')), old H0]) n (by obtain ⟨S, _, h⟩ := w6.ex; exact ⟨0, S, Nat.zero_le _, rfl, rfl, h⟩) ?_
    rintro k' t2' t5 ys' H4 ⟨q, S, hq, rfl, rfl, h⟩
    refine asAddr_in ⟨_, _, Sep.ld1 h rfl, cond_of (fun hqn => ?_) fun hqn => ?_⟩
    · have hqn : q < n := by simp only [decide_eq_true_eq] at hqn; omega
      obtain ⟨a, ha⟩ : ∃ a, As[q]? = some a := ⟨_, List.getElem?_eq_getElem (by rw [w6.len]; exact hqn)⟩
      obtain ⟨l, hll⟩ : ∃ l, ll[q]? = some l := ⟨_, List.getElem?_eq_getElem (by omega)⟩
      have hrun := w6.run q a ha
      have hat := full q a l ha hll
      have hw := ak_len As
      have hkc : q < (As.map Ak.cells).length := by simp [w6.len]; exact hqn
      have hB := h.bump 28
      have hB' := hB
      rw [← ak_row ha] at hB'
      obtain ⟨i, a', n', rfl, e1, o'⟩ := o.at' hB (by simp) hll
      refine asAddr_in ⟨_, _, Sep.ld1 hB rfl, by unfold inB; omega, asRow_in ⟨a.run, rowld0 hB' 0 rfl hw rfl hkc rfl, cond_no (by rw [hrun]; rfl) (asAddr_in ⟨_, _, Sep.ld1 hB rfl, by unfold inB; omega, asRow_in ⟨(a.at_ : Int), rowld hB' 0 rfl hw rfl hkc rfl, asAddr_in ⟨_, _, Sep.ld1 hB rfl, by unfold inB; omega, asRow_in ⟨_, _, e1, cond_no ?_ ⟨n - (q + 1), by omega, q + 1, S, by omega, rfl, by rw [wrap_i64 (by omega)]; omega, hB⟩, trivial⟩⟩⟩⟩)⟩⟩
      rw [o'.len, hat, decide_eq_false_iff_not]; omega
    · exact asBool_in (hR H4)

theorem BloomRuns_ok {pa : Option Addr} {pn : Nat} {l : List Int} (o : OpsLL H0 la n ll) (hl : ∀ l ∈ ll, l.length ≤ Bz) (hp : OldS H0 pa pn (l.map fun v => [I v])) : CA en F.crossbarlaw18_BloomRuns [d.val, .slice la n 0, .slice pa pn 0] H0 fun v _ => v = .bool true := by
  apply vc_crossbarlaw18_BloomRuns
  have hln := o.len
  have hpn := hp.len
  rw [List.length_map] at hpn
  refine Sep.nw (Sep.start H0) fun i1 H2 h2 => ⟨_, _, _, _, _, Sep.lds0 h2 rfl, fits_s h2 fun H9 h9 => ⟨_, rfl, cond_of (fun z => CA_truth (by kernel_rfl) ⟨_, rfl, rfl⟩) fun z => ?_⟩⟩
  have z : chks [d] = 0 ∧ d.kind = 8 := by simpa using z
  refine big_s o hl h9 (by simp) (fun H15 h15 => ⟨_, rfl, cond_yes rfl (CA_truth (by kernel_rfl) ⟨_, rfl, rfl⟩)⟩) fun hn ht hpl H15 h15 => ⟨_, rfl, cond_no rfl ⟨_, _, _, _, _, Sep.lds0 h15 rfl, ?_⟩⟩
  have hl2 : ∀ l ∈ ll, l.length ≤ 1000 := fun l hm => by have := len_le_tot hm; omega
  refine bstart_s (ll := ll) h15.tail z.1 z.2 hn fun H26 s m x rr bb ab ws bd w => ⟨_, rfl, cond_no rfl ?_⟩
  refine use_crossbarlaw18_BloomRuns_0 (fun k t6 t8 H' => ∃ (j : Nat) (As : List Ak) (ws' : List (BitVec 64)) (c' : Int), j ≤ pn ∧ k = pn - j ∧ t8 = (j : Int) ∧ c' ≤ 10 * j ∧ ws'.length = ws.length ∧ BS H0 s m x rr bb ab n d la ll H' As ws' c') pn ⟨0, _, ws, 0, Nat.zero_le _, rfl, rfl, by omega, rfl, w⟩ ?_
  clear w
  rintro k t6 t8 ys H3 ⟨j, As, ws', c', hj, rfl, rfl, hc', hwl, w⟩
  have bd' : BD d ws' := ⟨bd.kind, bd.words, bd.inner, by rw [hwl]; exact bd.b, by rw [hwl]; exact bd.h1⟩
  refine cond_of (fun hlt => ?_) fun hlt => ?_
  · have hlt : j < pn := by simp only [decide_eq_true_eq] at hlt; omega
    obtain ⟨S, o1, h⟩ := w.ex
    obtain ⟨v, hv⟩ : ∃ v, l[j]? = some v := ⟨_, List.getElem?_eq_getElem (by omega)⟩
    obtain ⟨i, rfl, e1⟩ := hp.cell0 (w := 1) h (by simp) (fun c hc => by obtain ⟨v, _, rfl⟩ := List.mem_map.1 hc; rfl) (j := j) (r := [I v]) (by rw [List.getElem?_map, hv]; rfl) rfl
    refine ⟨by unfold inB; omega, asRow_in ⟨_, e1, Pick_ok (by omega) (by omega) ⟨_, rfl, ?_⟩⟩⟩
    have q1 := Int.emod_nonneg v (b := (n : Int)) (by omega)
    have q2 := Int.emod_lt_of_pos v (b := (n : Int)) (by omega)
    obtain ⟨q, hq⟩ : ∃ q : Nat, v % (n : Int) = (q : Int) := ⟨(v % (n : Int)).toNat, by omega⟩
    rw [hq]
    refine bside_s o bd' w (k := q) (by omega) hn.2 hl2 (by omega) fun H' As2 ws2 c3 hc3 hw2 w2 _ => ⟨_, rfl, cond_no rfl ⟨pn - (j + 1), by omega, j + 1, As2, ws2, c3, by omega, rfl, by rw [wrap_i64 (by omega)]; omega, by omega, by rw [hw2]; exact hwl, w2⟩⟩
  · exact asBool_in (rest_s o bd' w hn ht (by omega) fun H' => ⟨_, rfl, cond_yes rfl (CA_truth (by kernel_rfl) ⟨_, rfl, rfl⟩)⟩)

theorem BloomRuns_law (H : Heap) (us : List Value) (h : shzVs en H 7 T.BloomRuns us) : CA en F.crossbarlaw18_BloomRuns us H fun v _ => v = .bool true := by
  obtain ⟨_, _, rfl, ⟨l3, rfl, _, _, rfl, ⟨n1, rfl, _⟩, _, _, rfl, ⟨n2, rfl, _⟩, _, _, rfl, ⟨n3, rfl, _⟩, _, _, rfl, ⟨n4, rfl, _⟩, _, _, rfl, ⟨n5, rfl, _⟩, rfl⟩, v2, _, rfl, hA, v3, _, rfl, hB, rfl⟩ := args_BloomRuns h
  obtain ⟨ll, la, n, e1, o, hl, _⟩ := opsLL_of (H0 := H) (c := [v2]) hA
  obtain rfl := (List.cons.inj e1).1
  obtain ⟨pa, pn, css, e2, hp, hc, _⟩ := OldZ.of (H0 := H) (c := [v3]) (P := fun c => ∃ n : Int, c = [.int .i64 n] ∧ (Lit.int .i64 n).wf = true) hB
  obtain rfl := (List.cons.inj e2).1
  obtain ⟨l, rfl⟩ := numbers_of css hc
  exact BloomRuns_ok (d := ⟨n1, n2, n3, n4, n5⟩) o hl hp
end Go.Proofs.Ytlkmdcncpdadbaa
