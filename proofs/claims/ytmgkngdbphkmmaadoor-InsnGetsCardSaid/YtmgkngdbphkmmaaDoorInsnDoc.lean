/-
  The document's bytes of instructions, and its instructions of bytes.
-/
import Derived.Test.YtmgkngdbphkmmaaDoorInsnRef
namespace Go.Proofs.YtmgkngdbphkmmaaDoor
open Go Go.AS Go.RowKit
set_option linter.unusedVariables false
variable {H H' : Heap} {R : Value → Heap → Prop} {L M : List Asr} {a : Option Addr} {bs : List Nat} {l : List Ins}

theorem le_snoc : ∀ (n v : Nat), le (n + 1) v = le n v ++ [v / 256 ^ n % 256]
  | 0, v => by simp [le]
  | n + 1, v => by
    rw [le, le_snoc n (v / 256), le, List.cons_append, Nat.div_div_eq_div_mul, Nat.pow_succ, Nat.mul_comm 256]
theorem le_add : ∀ (m n v : Nat), le (m + n) v = le m v ++ le n (v / 256 ^ m)
  | 0, n, v => by simp [le]
  | m + 1, n, v => by
    rw [show m + 1 + n = (m + n) + 1 by omega, le, le_add m n (v / 256), le, List.cons_append, Nat.div_div_eq_div_mul, Nat.pow_succ, Nat.mul_comm 256]

theorem laid_s {v : Int} {s : Nat} (hs : 0 < s ∧ s ≤ 8) (h : Sep H L) (hR : ∀ H' q, Sep H' (gl 1 (some q) ((le s (u64 v)).map Y) :: L) → R (.slice (addr (some q)) s 0) H') : CA en F.crossbarref02_laid [I v, I s] H R := by
  apply vc_crossbarref02_laid
  rw [u64_eq]
  have hU : u64 v < 18446744073709551616 := by unfold u64; omega
  generalize u64 v = U at hU hR
  refine use_crossbarref02_laid_0 (fun k t5 t5l t6 t7 H => ∃ (j : Nat) (q : Option Nat), j ≤ s ∧ k = s - j ∧ t7 = (j : Int) ∧ t6 = ((U / 256 ^ j : Nat) : Int) ∧ t5 = addr q ∧ t5l = j ∧ (q = none → j = 0) ∧ Sep H (gl 1 q ((le j U).map Y) :: L)) s ⟨0, none, by omega, rfl, rfl, by simp, rfl, rfl, fun _ => rfl, gl_none.2 h⟩ ?_
  clear h
  rintro k t5 t5l t6 t7 ys H3 ⟨j, q, hj, rfl, rfl, rfl, rfl, rfl, hq, hs'⟩
  refine cond_of (fun h1 => ?_) fun h1 => ?_
  · have hj' : t5l < s := by simp only [decide_eq_true_eq] at h1; omega
    have hlt : U / 256 ^ t5l < 18446744073709551616 := Nat.lt_of_le_of_lt (Nat.div_le_self _ _) hU
    have e1 : IntKind.u8.wrap (Int.tmod ((U / 256 ^ t5l : Nat) : Int) 256) = ((U / 256 ^ t5l % 256 : Nat) : Int) := by
      generalize U / 256 ^ t5l = W
      rw [Int.tmod_eq_emod_of_nonneg (by omega)]
      have : ((W : Int) % 256) = ((W % 256 : Nat) : Int) := by omega
      rw [this, wrap_u8']; omega
    have e2 : IntKind.u64.wrap (Int.tdiv ((U / 256 ^ t5l : Nat) : Int) 256) = ((U / 256 ^ (t5l + 1) : Nat) : Int) := by
      rw [Nat.pow_succ, ← Nat.div_div_eq_div_mul]
      generalize U / 256 ^ t5l = W at hlt
      rw [Int.tdiv_eq_ediv_of_nonneg (by omega)]
      have : ((W : Int) / 256) = ((W / 256 : Nat) : Int) := by omega
      rw [this, wrap_u64']; omega
    rw [e1]
    refine ⟨by unfold nz; decide, Sep.nw hs' fun i H5 h5 => ⟨[Y (U / 256 ^ t5l % 256)], rowOf_bx (es := 1) (n := 1) (b := i) (Sep.get0 h5) (by decide) rfl, ?_⟩⟩
    refine apd_gl (b := q) (len := t5l) (n := 1) (cs := (le t5l U).map Y) (new := [Y (U / 256 ^ t5l % 256)]) (Sep.up1 h5) (fun h => by rw [hq h]; rfl) (by decide) (by rw [List.length_map, le_len]; omega) (by decide) rfl (by omega) fun H' q' h' => ⟨by unfold nz; decide, s - (t5l + 1), by omega, t5l + 1, some q', by omega, rfl, by rw [wrap_i64 (by omega)]; omega, e2, rfl, rfl, (fun h => by cases h), ?_⟩
    rw [le_snoc, List.map_append]
    exact Sep.rm1 h'
  · have e : t5l = s := by simp only [decide_eq_false_iff_not] at h1; omega
    subst e
    cases q with
    | none => have := hq rfl; omega
    | some q => exact asSl_in (hR H3 q hs')

theorem asSlice_in {a : Option Addr} {l : Nat} {K : Option Addr → Nat → Prop} (h : K a l) : AS.asSlice (.slice a l 0) K := h
theorem slK_part {q lo n es : Nat} {cs : List Value} {K : Value → Prop} (hs : Sep H L) (hm : gl es (some q) cs ∈ L) (hK : K (.slice (some ⟨q, 0 + lo * es, none⟩) n 0)) : slK H (addr (some q)) es lo n K := by
  have hg : H.get q = some (.cells true es cs) := (hs.all _ hm) (bx q (.cells true es cs)) (by simp)
  exact ⟨⟨_, _, _, hg, .inr rfl⟩, hK⟩
theorem rowOf_part {q o n es z : Nat} {w : Bool} {c cs : List Value} (hg : H.get q = some (.cells w z c)) (hn : 0 < n * es) (hc : takeAt c o (n * es) = some cs) : rowOf H es (some ⟨q, o, none⟩) n = some cs := by
  show (if n * es = 0 then some [] else match H.get q with | some (.cells _ _ c) => takeAt c o (n * es) | _ => none) = some cs
  rw [if_neg (by omega), hg]
  exact hc

theorem docPut_s {n : Nat} (h : Sep H L) (rd : Rds L a l) (hn : n = l.length)
    (hE : putErr l ≠ 0 → ∀ H', Sep H' L → R (.tuple #[.slice none 0 0, I (putErr l)]) H')
    (hR : putErr l = 0 → ∀ H' q, (q = none → puts l = []) → Sep H' (gl 1 q ((puts l).map Y) :: L) → R (.tuple #[.slice (addr q) (puts l).length 0, I 0]) H') :
    CA en F.crossbarref02_Put [.slice a n 0] H R := by
  subst hn
  apply vc_crossbarref02_Put
  refine cond_of (fun c => ?_) fun c => ?_
  · have c : l.length > 256 := by simp only [decide_eq_true_eq] at c; omega
    have e : putErr l = 19 := if_pos c
    have := hE (by rw [e]; decide) H h
    rw [e] at this; exact this
  have c : ¬ l.length > 256 := by simp only [decide_eq_false_iff_not] at c; omega
  have e : putErr l = firstE l := if_neg c
  rw [e] at hE hR
  refine use_crossbarref02_Put_0 (fun k t2 t2l t3 t4 t4l t5 H => ∃ (j : Nat) (q : Option Nat), j ≤ l.length ∧ k = l.length - j ∧ t5 = (j : Int) ∧ t2 = none ∧ t2l = 0 ∧ t3 = 0 ∧ t4 = addr q ∧ t4l = (puts (l.take j)).length ∧ (q = none → puts (l.take j) = []) ∧ firstE l = firstE (l.drop j) ∧ Sep H (gl 1 q ((puts (l.take j)).map Y) :: L)) l.length
    ⟨0, none, by omega, rfl, rfl, rfl, rfl, rfl, rfl, rfl, fun _ => rfl, rfl, gl_none.2 h⟩ ?_
  clear h
  rintro k t2 t2l t3 t4 t4l t5 ys H3 ⟨j, q, hj, rfl, rfl, rfl, rfl, rfl, rfl, rfl, hq, hf, hs⟩
  refine cond_of (fun h1 => ?_) fun h1 => ?_
  · have hj' : j < l.length := by simp only [decide_eq_true_eq] at h1; omega
    obtain ⟨x, hx⟩ : ∃ x, l[j]? = some x := ⟨_, List.getElem?_eq_getElem hj'⟩
    obtain ⟨i, rfl, e1⟩ := rd H3 hs.tail j x hx
    have hle := puts_le (l.take j)
    rw [List.length_take, Nat.min_eq_left hj] at hle
    rw [drop_cons hx, firstE] at hf
    refine ⟨by unfold inB; omega, asRow_in ⟨_, _, _, _, _, e1, Sep.nw hs fun i8 H9 h9 => Sep.st0 h9 (Nat.le_of_ble_eq_true rfl) fun H10 h10 => ⟨_, _, _, _, _, Sep.lds0 h10 rfl, ?_⟩⟩⟩
    refine docCheck_s (x := x) h10 fun H17 h17 => ⟨_, rfl, cond_of (fun he => ?_) fun he => ?_⟩
    · have he : chkI x ≠ 0 := by simpa using he
      rw [if_pos he] at hf
      have := hE (by rw [hf]; exact he) H17 h17.tail.tail
      rw [hf] at this
      exact asSl_in (asInt_in (asSl_in this))
    have he : chkI x = 0 := by simpa using he
    rw [if_neg (by rw [he]; simp)] at hf
    have hbd := chk_bnd x he
    obtain ⟨hd, hsr⟩ := chk_regs he
    have b1 : IntKind.u8.wrap x.op = (((x.op % 256).toNat : Nat) : Int) := by rw [wrap_u8']; have := hbd.op; omega
    have b2 : IntKind.u8.wrap (IntKind.i64.wrap (x.dst + IntKind.i64.wrap (16 * x.src))) = ((((x.src * 16 + x.dst) % 256).toNat : Nat) : Int) := by
      rw [wrap_i64 (n := 16 * x.src) (by omega), wrap_i64 (by omega), wrap_u8']; omega
    refine ⟨_, Sep.ld0 h17 rfl, _, Sep.ld0 h17 rfl, _, Sep.ld0 h17 rfl, Sep.nw h17 fun i22 H23 h23 => ⟨[Y (x.op % 256).toNat, Y ((x.src * 16 + x.dst) % 256).toNat], rowOf_bx (es := 1) (n := 2) (b := i22) (Sep.get0 h23) (by decide) (by rw [b1, b2]; rfl), ?_⟩⟩
    refine apd_gl (b := q) (cs := (puts (l.take j)).map Y) (new := [Y (x.op % 256).toNat, Y ((x.src * 16 + x.dst) % 256).toNat]) (Sep.up2 h23) (fun h => by rw [hq h]; rfl) (by decide) (by simp) (by decide) rfl (by omega) fun H27 q2 h27 => ?_
    refine ⟨_, Sep.ld2 h27 rfl, laid_s (s := 2) (by decide) h27 fun H30 q3 h30 => ⟨_, _, rfl, (le 2 (u64 x.off)).map Y, rowOf_gl h30 (List.mem_cons_self ..) (fun h => by cases h) (by rw [List.length_map, le_len]) (by decide), ?_⟩⟩
    refine apd_gl (b := some q2) (cs := (puts (l.take j)).map Y ++ [Y (x.op % 256).toNat, Y ((x.src * 16 + x.dst) % 256).toNat]) (new := (le 2 (u64 x.off)).map Y) (Sep.up1 h30) (fun h => by cases h) (by decide) (by simp) (by decide) (by rw [List.length_map, le_len]) (by omega) fun H36 q4 h36 => ?_
    -- q4 q3 i22 i8 L
    have htk := take_snoc' hx
    have hpt : puts (l.take (j + 1)) = puts (l.take j) ++ putI x := by rw [htk, puts_append, puts_one]
    refine ⟨_, Sep.ld3 h36 rfl, cond_of (fun hw => ?_) fun hw => ?_⟩
    · have hw : ¬ x.op = 24 := by simpa using hw
      refine ⟨_, Sep.ld3 h36 rfl, laid_s (s := 4) (by decide) h36 fun H40 q5 h40 => ⟨_, _, rfl, (le 4 (u64 x.imm)).map Y, rowOf_gl h40 (List.mem_cons_self ..) (fun h => by cases h) (by rw [List.length_map, le_len]) (by decide), ?_⟩⟩
      refine apd_gl (b := some q4) (cs := (puts (l.take j)).map Y ++ [Y (x.op % 256).toNat, Y ((x.src * 16 + x.dst) % 256).toNat] ++ (le 2 (u64 x.off)).map Y) (new := (le 4 (u64 x.imm)).map Y) (Sep.up1 h40) (fun h => by cases h) (by decide) (by simp [le_len]) (by decide) (by rw [List.length_map, le_len]) (by omega) fun H46 q6 h46 => ⟨l.length - (j + 1), by omega, j + 1, some q6, by omega, rfl, by rw [wrap_i64 (by omega)]; omega, rfl, rfl, rfl, rfl, ?_, (fun h => by cases h), hf, ?_⟩
      · rw [hpt, List.length_append, putI_len]; unfold sizI; rw [if_neg hw]
      · rw [hpt, putI_n hw]
        have : (puts (l.take j) ++ ([(x.op % 256).toNat, ((x.src * 16 + x.dst) % 256).toNat] ++ (le 2 (u64 x.off) ++ le 4 (u64 x.imm)))).map Y = (puts (l.take j)).map Y ++ [Y (x.op % 256).toNat, Y ((x.src * 16 + x.dst) % 256).toNat] ++ (le 2 (u64 x.off)).map Y ++ (le 4 (u64 x.imm)).map Y := by simp
        rw [this]
        exact Sep.rm1 (Sep.rm1 (Sep.rm1 (Sep.rm1 h46)))
    · have hw : x.op = 24 := by simpa using hw
      have hU : u64 x.imm < 18446744073709551616 := by unfold u64; omega
      have l8 : le 8 (u64 x.imm) = le 4 (u64 x.imm) ++ le 4 (u64 x.imm / 4294967296) := le_add 4 4 _
      refine ⟨_, Sep.ld3 h36 rfl, laid_s (s := 8) (by decide) h36 fun H50 q5 h50 => ⟨_, _, rfl, by unfold inS; omega, slK_part h50 (List.mem_cons_self ..) (asSlice_in ⟨(le 4 (u64 x.imm)).map Y, ?_, ?_⟩)⟩⟩
      · refine rowOf_part (gl_get h50) (by decide) ?_
        rw [l8, List.map_append]
        unfold takeAt
        rw [if_pos (by simp [le_len]), List.drop_zero, List.take_append_of_le_length (by simp [le_len]), List.take_of_length_le (by simp [le_len])]
      refine apd_gl (b := some q4) (cs := (puts (l.take j)).map Y ++ [Y (x.op % 256).toNat, Y ((x.src * 16 + x.dst) % 256).toNat] ++ (le 2 (u64 x.off)).map Y) (new := (le 4 (u64 x.imm)).map Y) (Sep.up1 h50) (fun h => by cases h) (by decide) (by simp [le_len]) (by decide) (by rw [List.length_map, le_len]) (by omega) fun H59 q6 h59 => ?_
      refine Sep.nw h59 fun i60 H61 h61 => ⟨[Y 0, Y 0, Y 0, Y 0], rowOf_bx (es := 1) (n := 4) (b := i60) (Sep.get0 h61) (by decide) rfl, ?_⟩
      refine apd_gl (b := some q6) (cs := (puts (l.take j)).map Y ++ [Y (x.op % 256).toNat, Y ((x.src * 16 + x.dst) % 256).toNat] ++ (le 2 (u64 x.off)).map Y ++ (le 4 (u64 x.imm)).map Y) (new := [Y 0, Y 0, Y 0, Y 0]) (Sep.up1 h61) (fun h => by cases h) (by decide) (by simp [le_len]) (by decide) rfl (by omega) fun H65 q7 h65 => ?_
      -- q7 i60 q5 ..
      refine ⟨by unfold inS; omega, slK_part h65 (List.mem_cons_of_mem _ (List.mem_cons_of_mem _ (List.mem_cons_self ..))) (asSlice_in ⟨(le 4 (u64 x.imm / 4294967296)).map Y, ?_, ?_⟩)⟩
      · refine rowOf_part (gl_get (Sep.up2 h65)) (by decide) ?_
        rw [l8, List.map_append]
        unfold takeAt
        rw [if_pos (by simp [le_len])]
        have e4 : ((le 4 (u64 x.imm)).map Y).length = 4 := by rw [List.length_map, le_len]
        rw [List.drop_append, List.drop_of_length_le (by rw [e4]; decide), List.nil_append, e4, List.take_of_length_le (by simp [le_len])]
        rfl
      refine apd_gl (b := some q7) (cs := (puts (l.take j)).map Y ++ [Y (x.op % 256).toNat, Y ((x.src * 16 + x.dst) % 256).toNat] ++ (le 2 (u64 x.off)).map Y ++ (le 4 (u64 x.imm)).map Y ++ [Y 0, Y 0, Y 0, Y 0]) (new := (le 4 (u64 x.imm / 4294967296)).map Y) h65 (fun h => by cases h) (by decide) (by simp [le_len]) (by decide) (by rw [List.length_map, le_len]) (by omega) fun H72 q8 h72 => ⟨l.length - (j + 1), by omega, j + 1, some q8, by omega, rfl, by rw [wrap_i64 (by omega)]; omega, rfl, rfl, rfl, rfl, ?_, (fun h => by cases h), hf, ?_⟩
      · rw [hpt, List.length_append, putI_len]; unfold sizI; rw [if_pos hw]
      · rw [hpt, putI_w hw]
        have : (puts (l.take j) ++ ([(x.op % 256).toNat, ((x.src * 16 + x.dst) % 256).toNat] ++ (le 2 (u64 x.off) ++ (le 4 (u64 x.imm) ++ ([0, 0, 0, 0] ++ le 4 (u64 x.imm / 4294967296)))))).map Y = (puts (l.take j)).map Y ++ [Y (x.op % 256).toNat, Y ((x.src * 16 + x.dst) % 256).toNat] ++ (le 2 (u64 x.off)).map Y ++ (le 4 (u64 x.imm)).map Y ++ [Y 0, Y 0, Y 0, Y 0] ++ (le 4 (u64 x.imm / 4294967296)).map Y := by simp
        rw [this]
        exact Sep.rm1 (Sep.rm1 (Sep.rm1 (Sep.rm1 (Sep.rm1 h72))))
  · obtain rfl : j = l.length := by simp only [decide_eq_false_iff_not] at h1; omega
    rw [List.take_length] at hq hs
    rw [List.drop_length] at hf
    rw [List.take_length]
    exact asSl_in (asInt_in (asSl_in (hR (by rw [hf]; rfl) H3 q hq hs)))
end Go.Proofs.YtmgkngdbphkmmaaDoor
