/-
  Blooms: what their functions do, in a memory of one region.
-/
import Derived.Test.YtlkmdcncpdadbaaSmemOne
import Derived.Test.YtlkmdcncpdadbaaAs43
import Derived.Test.YtlkmdcncpdadbaaDeclLoops
import Derived.Test.YtlkmdcncpdadbaaVcBl
namespace Go.Proofs.Ytlkmdcncpdadbaa
open Go Go.AS Go.RowKit
set_option linter.unusedVariables false
variable {H H' : Heap} {m : Nat} {S S' : Sm} {R : Value → Heap → Prop} {L : List Asr} {ws : List (BitVec 64)} {c : Int} {A B : Asr}

/-- A block whose number was given ahead. -/
theorem Sep.pre {i : Nat} (o : AS.Obj) (h : Sep H L) (hi : i < H.next) (hn : i ∉ feet L) : Sep (H.set i o) (bx i o :: L) := by
  refine ⟨fun A hA => ?_, ?_, fun j hj => ?_⟩
  · rcases List.mem_cons.1 hA with rfl | hA
    · exact get_set_self _ _ _
    · refine A.loc (fun j hj => ?_) (h.all A hA)
      have : j ∈ feet L := List.mem_flatMap.2 ⟨A, hA, hj⟩
      exact get_set_ne fun e => hn (e ▸ this)
  · rw [feet_cons]
    refine List.nodup_append.2 ⟨by simp [bx], h.nd, fun a ha b hb e => ?_⟩
    simp only [bx, List.mem_singleton] at ha
    exact hn (ha ▸ e ▸ hb)
  · rw [feet_cons] at hj
    rcases List.mem_append.1 hj with h1 | h1
    · simp only [bx, List.mem_singleton] at h1
      rw [h1]; exact hi
    · exact h.lt j h1

/-- Two of them. -/
theorem Sep.pre2 (h : Sep H L) {n a b : Nat} (o1 o2 : AS.Obj) (ha : a < n) (hb : b < n) (hab : b ≠ a) : Sep (((H.bump n).set (H.next + a) o1).set (H.next + b) o2) (bx (H.next + b) o2 :: bx (H.next + a) o1 :: L) := by
  have h1 : Sep ((H.bump n).set (H.next + a) o1) (bx (H.next + a) o1 :: L) := Sep.pre o1 (h.bump n) (by rw [next_bump]; omega) fun hc => by have := h.lt _ hc; omega
  refine Sep.pre o2 h1 (by rw [next_set, next_bump]; omega) fun hc => ?_
  rw [feet_cons] at hc
  rcases List.mem_append.1 hc with h2 | h2
  · simp only [bx, List.mem_singleton] at h2; omega
  · have := h.lt _ h2; omega

/-- A map. -/
abbrev bm (m x : Nat) (d : Dc) (hd : Int) : Asr := bx x (.cells true 0 [P m, I d.kind, I d.entries, I d.words, I d.buckets, I d.inner, I hd])

theorem chk8 {d : Dc} (h : chks [d] = 0) (hk : d.kind = 8) : pow d.buckets := by
  have e : chks [d] = chk [d] d := by
    show (if (1 : Int) > 10 then (19 : Int) else if chk [d] d ≠ 0 then chk [d] d else 0) = _
    rw [if_neg (by omega)]; split <;> omega
  rw [e] at h
  refine Classical.byContradiction fun hp => ?_
  unfold chk at h
  rw [if_neg (by rw [hk]; decide)] at h
  by_cases h2 : d.entries < 1 ∨ d.entries > 64 ∨ d.words < 1 ∨ d.words > (kindD d.kind).words
  · rw [if_pos h2] at h; cases h
  · rw [if_neg h2, if_pos (.inl ⟨by rw [hk]; rfl, hp⟩)] at h; cases h

theorem asFnNil_func {f : Fn} {fs cs : Array Value} {K : Bool → Prop} (h : K false) : asFnNil (.func f fs cs) K := h
theorem asFnNil_nil {K : Bool → Prop} (h : K true) : asFnNil .nilFunc K := h

theorem pow_bd {n : Int} (h : pow n) : 1 ≤ n ∧ n ≤ 32 := by unfold pow at h; omega

theorem bnew_s {mp : Nat} {room : Int} {d : Dc} {g : Option Addr} {t : Int} (h : Sep H (mem m (newSm mp room) :: L))
    (hR1 : chks [d] ≠ 0 ∨ d.kind ≠ 8 → ∀ H', Sep H' (mem m (newSm mp room) :: L) → R (.tuple #[.pointer none, I 1]) H')
    (hR2 : chks [d] = 0 → d.kind = 8 → clampRoom room < d.buckets → ∀ H', Sep H' (mem m (newSm mp room) :: L) → R (.tuple #[.pointer none, I 5]) H')
    (hR3 : chks [d] = 0 → d.kind = 8 → d.buckets ≤ clampRoom room → ∀ H' x S', One S' (List.replicate d.buckets.toNat 0) 0 → Sep H' (bm m x d 1 :: mem m S' :: L) → R (.tuple #[P x, I 0]) H') :
    CA en F.bloom_New [P m, .pointer g, d.val, I t] H R := by
  apply vc_bloom_New
  refine Sep.nw h fun i1 H2 h2 => ⟨_, _, _, _, _, Sep.lds0 h2 rfl, Sep.nw h2 fun i8 H9 h9 => ?_⟩
  refine Check_ok (l := [d]) ⟨rfl, .inr ⟨i8, true, 5, rfl, h9.footlt (by simp [bx]), Sep.get0 h9⟩⟩ fun H11 fr => ⟨_, rfl, ?_⟩
  have h11 := (h9.keep fr).tail
  refine cond_of (fun hc => ?_) fun hc => ?_
  · exact hR1 (.inl (by simpa using hc)) H11 h11.tail
  have hc : chks [d] = 0 := by simpa using hc
  refine ⟨_, Sep.ld0 h11 rfl, cond_of (fun hk => ?_) fun hk => ?_⟩
  · exact hR1 (.inr (by simpa using hk)) H11 h11.tail
  have hk : d.kind = 8 := by simpa using hk
  have hp := pow_bd (chk8 hc hk)
  refine ⟨_, Sep.ld0 h11 rfl, make_s (Sep.up1 h11) (fun _ _ _ => rfl) fun H16 b h16 => ⟨_, _, rfl, ?_⟩⟩
  by_cases hr : d.buckets ≤ clampRoom room
  · have hr' : d.buckets ≤ room := by rw [clampRoom_eq] at hr; omega
    obtain ⟨e1, o⟩ := One.first (mp := mp) (b := b) (room := room) hp.1 (by omega) hr'
    rw [e1]
    refine cond_no rfl ⟨_, _, _, _, _, Sep.lds0 (Sep.up1 h16) rfl, Sep.nw h16 fun i24 H25 h25 => ?_⟩
    exact hR3 hc hk hr H25 i24 _ o (Sep.rm2 h25)
  · have e : (newSm mp room).make b d.buckets = ((0, 5), newSm mp room) := by
      unfold Sm.make
      rw [if_neg (by omega), if_pos (by show clampRoom room < _; omega)]
    rw [e] at h16 ⊢
    exact cond_yes rfl (hR2 hc hk (by omega) H16 (Sep.rm1 h16))

theorem bmade_s (h : Sep H L) {n : Int} (hn : pow n) (hR : ∀ H' m x S, One S (List.replicate n.toNat 0) 0 → Sep H' (bm m x ⟨8, 1, 1, n, 0⟩ 1 :: mem m S :: L) → R (.tuple #[P m, P x]) H') : CA en F.crossbarlaw18_made [I n] H R := by
  apply vc_crossbarlaw18_made
  have hc : chks [⟨8, 1, 1, n, 0⟩] = 0 := by
    unfold pow at hn
    rcases hn with rfl | rfl | rfl | rfl | rfl | rfl <;> rfl
  refine new_s h fun H2 m mp h2 => ⟨_, rfl, cond_no rfl ?_⟩
  refine bnew_s (d := ⟨8, 1, 1, n, 0⟩) h2 (fun h => ?_) (fun _ _ hr => ?_) fun _ _ _ H' x S' o h' => ⟨_, _, rfl, cond_no rfl (hR H' m x S' o h')⟩
  · rcases h with h | h
    · exact (h hc).elim
    · exact (h rfl).elim
  · have := pow_bd hn
    rw [clampRoom_eq] at hr
    simp only at hr
    omega

theorem bbegin_s {x v n z : Nat} {w : Bool} {d : Dc} {k : BitVec 64} {kind key f3 f4 : Int} {cs : List Value} (h : Sep H (bm m x d 1 :: bx v (.cells w z (W k :: cs)) :: L)) (hb : d.buckets < 9223372036854775808)
    (hR : ∀ H' r c0 c1 c2, Sep H' (bx r (.cells true 0 [.func (.func (if kind = 6 then F.bloom_Map_Begin_1 else F.bloom_Map_Begin_2)) #[] #[P c0, P c1, P c2], I 0]) :: bx c0 (.cells true 0 [P x]) :: bx c1 (.cells true 0 [I (bkt k d.buckets)]) :: bx c2 (.cells true 0 [W (bitsOf k)]) :: bm m x d 1 :: bx v (.cells w z (W k :: cs)) :: L) → R (P r) H') :
    CA en F.bloom_Map_Begin [P x, .agg #[I kind, .int .u64 key, .slice (some ⟨v, 0, none⟩) (n + 1) 0, I f3, I f4]] H R := by
  apply vc_bloom_Map_Begin
  refine Sep.nw h fun i1 H2 h2 => Sep.nw h2 fun i3 H4 h4 => ?_
  have hT := Sep.pre2 h4 (n := 17) (a := 13) (b := 14) (.cells true 0 [I 0]) (.cells true 0 [W 0]) (by decide) (by decide) (by decide)
  refine ⟨_, _, Sep.ld2 hT rfl, by unfold inB; omega, asRow_in ⟨_, Sep.ld5 hT rfl, _, Sep.ld3 hT rfl, asAddr_in ⟨_, Sep.ld4 hT rfl, ?_⟩⟩⟩
  refine Bloom_ok hb ⟨_, _, rfl, ?_⟩
  refine Sep.st1 hT (Nat.le_of_ble_eq_true rfl) fun H18 h18 => Sep.st0 h18 (Nat.le_of_ble_eq_true rfl) fun H19 h19 => ⟨⟨_, Sep.ld2 h19 rfl, ?_⟩, ⟨⟨_, Sep.get0 hT, rfl⟩, ⟨_, Sep.get0 hT, rfl⟩, trivial⟩, ⟨⟨_, Sep.get1 hT, rfl⟩, ⟨_, Sep.get1 hT, rfl⟩, trivial⟩, trivial⟩
  -- c2 c1 op c0 bm v
  refine cond_of (fun hk => ?_) fun hk => ?_
  · refine Sep.nw h19 fun i25 H26 h26 => ?_
    have := hR H26 i25 i1 (H4.next + 13) (H4.next + 14)
    rw [if_pos (by simpa using hk)] at this
    -- r c2 c1 op c0 bm v
    exact this (Sep.up3 (Sep.up3 (Sep.up2 (Sep.up1 (Sep.rm3 h26)))))
  · refine Sep.nw h19 fun i25 H26 h26 => ?_
    have := hR H26 i25 i1 (H4.next + 13) (H4.next + 14)
    rw [if_neg (by simpa using hk)] at this
    exact this (Sep.up3 (Sep.up3 (Sep.up2 (Sep.up1 (Sep.rm3 h26)))))

theorem bkt_of {k : BitVec 64} {n : Int} (hn : 1 ≤ n) : 0 ≤ bkt k n ∧ bkt k n < n := by
  unfold bkt
  rw [if_neg (by omega)]
  exact ⟨Int.emod_nonneg _ (by omega), Int.emod_lt_of_pos _ (by omega)⟩

/-- Whether a word is found. -/
def has (ws : List (BitVec 64)) (k : BitVec 64) : Bool := decide (ws.getD (bkt k ws.length).toNat 0 &&& bitsOf k = bitsOf k)
def push (ws : List (BitVec 64)) (k : BitVec 64) : List (BitVec 64) := ws.set (bkt k ws.length).toNat (ws.getD (bkt k ws.length).toNat 0 ||| bitsOf k)
theorem push_len (ws : List (BitVec 64)) (k : BitVec 64) : (push ws k).length = ws.length := List.length_set ..

theorem and_wrap (a b : BitVec 64) : IntKind.u64.wrap (((BitVec.ofInt 64 (a.toNat : Int) &&& BitVec.ofInt 64 (b.toNat : Int)).toNat : Nat) : Int) = (((a &&& b).toNat : Nat) : Int) := by
  rw [BitVec.ofInt_natCast, BitVec.ofInt_natCast, BitVec.ofNat_toNat, BitVec.ofNat_toNat, BitVec.setWidth_eq, BitVec.setWidth_eq]
  exact u64_self (by omega) (by have := (a &&& b).isLt; omega)

variable {x r c0 c1 c2 : Nat} {k : BitVec 64} {d : Dc}

abbrev bld (r c0 c1 c2 f : Nat) : Asr := bx r (.cells true 0 [.func (.func f) #[] #[P c0, P c1, P c2], I 0])
abbrev bdn (r : Nat) (e : Int) : Asr := bx r (.cells true 0 [.nilFunc, I e])

theorem bpush_s (h : Sep H (bld r c0 c1 c2 F.bloom_Map_Begin_1 :: bx c0 (.cells true 0 [P x]) :: bx c1 (.cells true 0 [I (bkt k d.buckets)]) :: bx c2 (.cells true 0 [W (bitsOf k)]) :: bm m x d 1 :: mem m S :: L))
    (o : One S ws c) (hc : c < 4611686018427387904) (hb : d.buckets = ws.length) (h1 : 1 ≤ ws.length)
    (hR : ∀ H' S', One S' (push ws k) (c + 1) → Sep H' (bdn r 0 :: bx c0 (.cells true 0 [P x]) :: bx c1 (.cells true 0 [I (bkt k d.buckets)]) :: bx c2 (.cells true 0 [W (bitsOf k)]) :: bm m x d 1 :: mem m S' :: L) → R (.tuple #[.bool true, .bool true]) H') :
    CA en F.bloom_Run_Step [P r] H R := by
  apply vc_bloom_Run_Step
  refine asAddr_in ⟨_, Sep.ld0 h rfl, asFnNil_func ?_⟩
  refine cond_no rfl (asAddr_in ⟨_, Sep.ld0 h rfl, asFn_in ⟨Option.isSome_iff_exists.1 (by kernel_rfl), ?_⟩⟩)
  show CA en F.bloom_Map_Begin_1 [P c0, P c1, P c2] H _
  apply vc_bloom_Map_Begin_1
  have hB := h.bump 12
  have hk := bkt_of (k := k) (n := d.buckets) (by omega)
  obtain ⟨i, hi⟩ := Int.eq_ofNat_of_zero_le hk.1
  have hin : (bkt k ws.length).toNat = i := by rw [← hb, hi]; rfl
  refine asAddr_in ⟨_, Sep.ld1 hB rfl, asAddr_in ⟨_, Sep.ld4 hB rfl, asAddr_in ⟨_, Sep.ld1 hB rfl, asAddr_in ⟨_, Sep.ld4 hB rfl, asAddr_in ⟨_, Sep.ld2 hB rfl, asAddr_in ⟨_, Sep.ld3 hB rfl, asAddr_in ⟨_, Sep.ld3 hB rfl, ?_⟩⟩⟩⟩⟩⟩⟩
  rw [hi]
  refine or1_s (Sep.up5 hB) o hc (by omega) fun H' S' o' h' => ⟨_, _, rfl, ⟨⟨_, rfl, ?_⟩, trivial⟩⟩
  have h' := Sep.up1 h'
  refine asAddr_in (Sep.st0 h' (Nat.le_of_ble_eq_true rfl) fun H2 h2 => asAddr_in (Sep.st0 h2 (Nat.le_of_ble_eq_true rfl) fun H3 h3 => ?_))
  refine hR H3 S' ?_ ?_
  · unfold push; rw [hin]; exact o'
  · -- r mem c0 c1 c2 bm
    exact Sep.up4 (Sep.up5 (Sep.up5 (Sep.up5 (Sep.up5 h3))))

theorem bpeek_s (h : Sep H (bld r c0 c1 c2 F.bloom_Map_Begin_2 :: bx c0 (.cells true 0 [P x]) :: bx c1 (.cells true 0 [I (bkt k d.buckets)]) :: bx c2 (.cells true 0 [W (bitsOf k)]) :: bm m x d 1 :: mem m S :: L))
    (o : One S ws c) (hc : c < 4611686018427387904) (hb : d.buckets = ws.length) (h1 : 1 ≤ ws.length)
    (hR : ∀ H' S', One S' ws (c + 1) → Sep H' (bdn r (if has ws k then 0 else 2) :: bx c0 (.cells true 0 [P x]) :: bx c1 (.cells true 0 [I (bkt k d.buckets)]) :: bx c2 (.cells true 0 [W (bitsOf k)]) :: bm m x d 1 :: mem m S' :: L) → R (.tuple #[.bool true, .bool true]) H') :
    CA en F.bloom_Run_Step [P r] H R := by
  apply vc_bloom_Run_Step
  refine asAddr_in ⟨_, Sep.ld0 h rfl, asFnNil_func ?_⟩
  refine cond_no rfl (asAddr_in ⟨_, Sep.ld0 h rfl, asFn_in ⟨Option.isSome_iff_exists.1 (by kernel_rfl), ?_⟩⟩)
  show CA en F.bloom_Map_Begin_2 [P c0, P c1, P c2] H _
  apply vc_bloom_Map_Begin_2
  have hB := h.bump 15
  have hk := bkt_of (k := k) (n := d.buckets) (by omega)
  obtain ⟨i, hi⟩ := Int.eq_ofNat_of_zero_le hk.1
  have hin : (bkt k ws.length).toNat = i := by rw [← hb, hi]; rfl
  refine asAddr_in ⟨_, Sep.ld1 hB rfl, asAddr_in ⟨_, Sep.ld4 hB rfl, asAddr_in ⟨_, Sep.ld1 hB rfl, asAddr_in ⟨_, Sep.ld4 hB rfl, asAddr_in ⟨_, Sep.ld2 hB rfl, ?_⟩⟩⟩⟩⟩
  rw [hi]
  refine load1_s (Sep.up5 hB) o hc (by omega) fun H' S' o' h' => ⟨_, _, rfl, ⟨asAddr_in ⟨_, Sep.ld4 h' rfl, asAddr_in ⟨_, Sep.ld4 h' rfl, ?_⟩⟩, trivial⟩⟩
  rw [and_wrap, bv_bne]
  have hh : has ws k = decide (ws.getD i 0 &&& bitsOf k = bitsOf k) := by unfold has; rw [hin]
  have h' := Sep.up1 h'
  refine cond_of (fun hn => ⟨_, rfl, ?_⟩) fun hn => ⟨_, rfl, ?_⟩
  · refine asAddr_in (Sep.st0 h' (Nat.le_of_ble_eq_true rfl) fun H2 h2 => asAddr_in (Sep.st0 h2 (Nat.le_of_ble_eq_true rfl) fun H3 h3 => hR H3 S' o' ?_))
    have : has ws k = false := by rw [hh]; simpa using hn
    rw [this]
    exact Sep.up4 (Sep.up5 (Sep.up5 (Sep.up5 (Sep.up5 h3))))
  · refine asAddr_in (Sep.st0 h' (Nat.le_of_ble_eq_true rfl) fun H2 h2 => asAddr_in (Sep.st0 h2 (Nat.le_of_ble_eq_true rfl) fun H3 h3 => hR H3 S' o' ?_))
    have : has ws k = true := by rw [hh]; simpa using hn
    rw [this]
    exact Sep.up4 (Sep.up5 (Sep.up5 (Sep.up5 (Sep.up5 h3))))

theorem bagain_s {e : Int} (h : Sep H (bdn r e :: L)) (hR : R (.tuple #[.bool false, .bool true]) H) : CA en F.bloom_Run_Step [P r] H R := by
  apply vc_bloom_Run_Step
  exact asAddr_in ⟨_, Sep.ld0 h rfl, asFnNil_nil (cond_yes rfl hR)⟩

theorem bresult_s {e : Int} (h : Sep H (bdn r e :: L)) (hR : ∀ H', Sep H' (bdn r e :: L) → R (.agg #[I e, .slice none 0 0, .int .u64 0, I 0]) H') : CA en F.bloom_Run_Result [P r] H R := by
  apply vc_bloom_Run_Result
  refine Sep.nw h fun i H2 h2 => asAddr_in ⟨_, Sep.ld1 h2 rfl, Sep.st0 h2 (Nat.le_of_ble_eq_true rfl) fun H6 h6 => ⟨_, _, _, _, _, Sep.lds0 h6 rfl, hR H6 h6.tail⟩⟩

/-- What one operation leaves. -/
def done (kind : Int) (ws : List (BitVec 64)) (k : BitVec 64) : List (BitVec 64) := if kind = 6 then push ws k else ws
def gives (kind : Int) (ws : List (BitVec 64)) (k : BitVec 64) : Int := if kind = 6 then 0 else if has ws k then 0 else 2

theorem bstep_s {kind : Int} (h : Sep H (bld r c0 c1 c2 (if kind = 6 then F.bloom_Map_Begin_1 else F.bloom_Map_Begin_2) :: bx c0 (.cells true 0 [P x]) :: bx c1 (.cells true 0 [I (bkt k d.buckets)]) :: bx c2 (.cells true 0 [W (bitsOf k)]) :: bm m x d 1 :: mem m S :: L))
    (o : One S ws c) (hc : c < 4611686018427387904) (hb : d.buckets = ws.length) (h1 : 1 ≤ ws.length)
    (hR : ∀ H' S', One S' (done kind ws k) (c + 1) → Sep H' (bdn r (gives kind ws k) :: bx c0 (.cells true 0 [P x]) :: bx c1 (.cells true 0 [I (bkt k d.buckets)]) :: bx c2 (.cells true 0 [W (bitsOf k)]) :: bm m x d 1 :: mem m S' :: L) → R (.tuple #[.bool true, .bool true]) H') :
    CA en F.bloom_Run_Step [P r] H R := by
  unfold done gives at hR
  by_cases hk : kind = 6
  · rw [if_pos hk] at h
    simp only [if_pos hk] at hR
    exact bpush_s h o hc hb h1 hR
  · rw [if_neg hk] at h
    simp only [if_neg hk] at hR
    exact bpeek_s h o hc hb h1 hR

theorem once_s {kind : Int} (h : Sep H (bm m x d 1 :: mem m S :: L)) (o : One S ws c) (hc : c < 4611686018427387000) (hb : d.buckets = ws.length) (h1 : 1 ≤ ws.length ∧ ws.length ≤ 32)
    (hR : ∀ H' S', One S' (done kind ws k) (c + 1) → Sep H' (bm m x d 1 :: mem m S' :: L) → R (.tuple #[I (gives kind ws k), .bool true]) H') : CA en F.crossbarlaw18_once [P m, P x, I kind, W k] H R := by
  apply vc_crossbarlaw18_once
  refine count_s (Sep.up1 h) ⟨_, rfl, Sep.nw h fun i4 H5 h5 => ?_⟩
  rw [o.cnt]
  have c0 := o.c0
  have ecw : IntKind.i64.wrap (c + 1) = c + 1 := wrap_i64 (by omega)
  refine bbegin_s (n := 0) (Sep.up1 h5) (by omega) fun H7 r c0 c1 c2 h7 => ⟨_, rfl, cond_no rfl (count_s (Sep.up6 h7) ⟨_, rfl, cond_no (by rw [o.cnt]; simp) ?_⟩)⟩
  refine bstep_s (Sep.rm5 h7) o (by omega) hb h1.1 fun H13 S' o' h13 => ⟨_, _, rfl, bagain_s h13 ⟨_, _, rfl, bresult_s h13 fun H21 h21 => ⟨_, _, _, _, _, rfl, ?_⟩⟩⟩
  refine Sep.nw h21 fun i27 H28 h28 => Sep.st0 h28 (Nat.le_of_ble_eq_true rfl) fun H29 h29 => ?_
  have hB := h29.bump 38
  refine ⟨_, Sep.ld0 hB rfl, cond_yes rfl (cond_yes rfl (cond_yes rfl (cond_yes rfl (count_s (Sep.up6 hB) ⟨_, rfl, cond_yes (by rw [o'.cnt, ecw]; simp) ⟨_, _, Sep.ld0 hB rfl, cond_yes rfl ⟨_, Sep.ld0 hB rfl, cond_yes rfl ⟨_, Sep.ld0 hB rfl, ⟨?_, ⟨rfl, rfl, trivial⟩, ⟨⟨_, Sep.ld0 hB rfl, rfl⟩, ⟨_, Sep.ld0 hB rfl, rfl⟩, trivial⟩, trivial⟩⟩⟩⟩⟩))))⟩
  exact hR _ S' o' (Sep.rm0 (Sep.rm0 (Sep.rm0 (Sep.rm0 (Sep.rm0 hB)))))
end Go.Proofs.Ytlkmdcncpdadbaa
