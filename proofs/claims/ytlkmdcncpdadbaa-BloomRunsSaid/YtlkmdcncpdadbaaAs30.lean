/-
  Arguments of any plain shape (numbers, bools, structs, slices of them) in the plain machine's memory.
-/
import Derived.Test.YtlkmdcncpdadbaaAs24
import Derived.ChangeShapes
import Derived.DataReads
import Derived.Carry
namespace Go.AS
open Go.RowKit
set_option linter.unusedVariables false

section
variable {E : Env}

/-- Are the fields one behind the other? Where they end. -/
def contig (E : Env) : List Field → Nat → Option Nat
  | [], o => some o
  | f :: fs, o => bif Nat.beq f.offset o then (match sizeA E f.type with
    | some n => contig E fs (o + n)
    | none => none) else none

def okTy (E : Env) : Nat → Nat → Bool
  | 0, _ => false
  | d + 1, t => match und E t with
    | some .bool => true
    | some (.int _) => true
    | some (.slice e) => okTy E d e && (match sizeA E e with
      | some n => Nat.ble 1 n
      | none => false)
    | some (.struct fs) => (fs.toList.all fun f => okTy E d f.type) && (match sizeA E t, contig E fs.toList 0 with
      | some n, some m => Nat.beq n m
      | _, _ => false)
    | _ => false

def shpFs (p : Nat → List Value → Prop) : List Field → List Value → Prop
  | [], vs => vs = []
  | f :: fs, vs => ∃ a b, vs = a ++ b ∧ p f.type a ∧ shpFs p fs b

/-- Cells of the shape of a type; what they lead to is in memory, and stays. -/
def shp (E : Env) (H : Heap) : Nat → Nat → List Value → Prop
  | 0, _, _ => False
  | d + 1, t, vs => match und E t with
    | some .bool => ∃ b, vs = [.bool b]
    | some (.int k) => ∃ n, vs = [.int k n] ∧ (Lit.int k n).wf = true
    | some (.slice e) => vs = [.slice none 0 0] ∨ ∃ (i : Nat) (cs : List (List Value)), vs = [.slice (some ⟨i, 0, none⟩) cs.length 0] ∧ i < H.next ∧ H.get i = some (.cells false 0 cs.flatten) ∧ ∀ c ∈ cs, shp E H d e c
    | some (.struct fs) => shpFs (fun t vs => shp E H d t vs) fs.toList vs
    | _ => False

theorem shpFs_mono {p q : Nat → List Value → Prop} (h : ∀ t vs, p t vs → q t vs) : ∀ {fs : List Field} {vs : List Value}, shpFs p fs vs → shpFs q fs vs
  | [], vs, hp => hp
  | f :: fs, vs, ⟨a, b, e, h1, h2⟩ => ⟨a, b, e, h _ _ h1, shpFs_mono h h2⟩

theorem shp_frm {H H' : Heap} (hf : Frm [] H H') : ∀ {d t : Nat} {vs : List Value}, shp E H d t vs → shp E H' d t vs
  | 0, _, _, h => h.elim
  | d + 1, t, vs, h => by
    unfold shp at h ⊢
    split
    · rename_i hu; rw [hu] at h; exact h
    · rename_i hu; rw [hu] at h; exact h
    · rename_i hu
      rw [hu] at h
      rcases h with h | ⟨i, cs, h1, h2, h3, h4⟩
      · exact .inl h
      · exact .inr ⟨i, cs, h1, Nat.lt_of_lt_of_le h2 hf.1, by rw [hf.2 i h2 (by simp)]; exact h3, fun c hc => shp_frm hf (h4 c hc)⟩
    · rename_i hu
      rw [hu] at h
      exact shpFs_mono (fun t vs hs => shp_frm hf hs) h
    · rename_i h1 h2 h3 h4
      split at h
      · rename_i hu; exact (h1 hu).elim
      · rename_i hu; exact (h2 _ hu).elim
      · rename_i hu; exact (h3 _ hu).elim
      · rename_i hu; exact (h4 _ hu).elim
      · exact h

/-- What opening gives. -/
def Opened (E : Env) (w : World) (μ : Inj) (H : Heap) (P : Heap → List Value → Prop) (CS : List Value) : Prop :=
  ∃ (μ' : Inj) (H' : Heap) (vs : List Value), Grow H μ H' μ' ∧ HRel E w.heap.size μ' H' w ∧ VRels μ' vs CS ∧ P H' vs ∧ Frm [] H H' ∧ vs.all one = true

theorem flatten_vrels {μ : Inj} : ∀ {cs CS : List (List Value)}, cs.length = CS.length → (∀ (j : Nat) (c C : List Value), cs[j]? = some c → CS[j]? = some C → VRels μ c C) → VRels μ cs.flatten CS.flatten
  | [], [], _, _ => .nil
  | [], _ :: _, h, _ => by simp at h
  | _ :: _, [], h, _ => by simp at h
  | c :: cs, C :: CS, h, hh => by
    simp only [List.flatten_cons]
    exact (hh 0 c C rfl rfl).append (flatten_vrels (by simpa using h) fun j a b ha hb => hh (j + 1) a b (by simpa using ha) (by simpa using hb))

variable {w : World} {D : Type} {enc : TypeId × Value → D} {spare : Nat → Bool} {held : Bool}

/-- A list of pieces, one behind the other. -/
theorem open_list {p : Heap → List Value → Prop} (hp : ∀ {H H' : Heap} {vs : List Value}, Frm [] H H' → p H vs → p H' vs) : ∀ (CSs : List (List Value)),
    (∀ CS ∈ CSs, ∀ {μ : Inj} {H : Heap}, HRel E w.heap.size μ H w → Opened E w μ H p CS) → ∀ {μ : Inj} {H : Heap}, HRel E w.heap.size μ H w →
    ∃ (μ' : Inj) (H' : Heap) (css : List (List Value)), Grow H μ H' μ' ∧ HRel E w.heap.size μ' H' w ∧ css.length = CSs.length ∧ (∀ (j : Nat) (c C : List Value), css[j]? = some c → CSs[j]? = some C → VRels μ' c C) ∧ (∀ c ∈ css, p H' c) ∧ Frm [] H H' ∧ (∀ c ∈ css, c.all one = true)
  | [], _, μ, H, hH => ⟨μ, H, [], Grow.refl _ _, hH, rfl, by simp, by simp, Frm.refl _ _, by simp⟩
  | CS :: CSs, hop, μ, H, hH => by
    obtain ⟨μ1, H1, vs, g1, h1, r1, p1, f1, o1⟩ := hop CS (by simp) hH
    obtain ⟨μ2, H2, css, g2, h2, l2, r2, p2, f2, o2⟩ := open_list (p := p) hp CSs (fun C hC => hop C (List.mem_cons_of_mem _ hC)) h1
    refine ⟨μ2, H2, vs :: css, g1.trans g2, h2, by simp [l2], ?_, ?_, f1.trans f2 (by simp), ?_⟩
    · intro j c C hc hC
      cases j with
      | zero => simp at hc hC; subst hc; subst hC; exact VRels.mono g2.le r1
      | succ j => simp at hc hC; exact r2 j c C hc hC
    · intro c hc
      rcases List.mem_cons.1 hc with rfl | hc
      · exact hp f2 p1
      · exact p2 c hc
    · intro c hc
      rcases List.mem_cons.1 hc with rfl | hc
      · exact o1
      · exact o2 c hc

theorem open_fields {d fuel : Nat} (hE : E.Ok) (ih : ∀ (t : Nat) (CS : List Value) x, DataW.trod enc E.prog w 0 spare held fuel t CS = some x → okTy E d t = true → ∀ {μ : Inj} {H : Heap}, HRel E w.heap.size μ H w → Opened E w μ H (fun H' vs => shp E H' d t vs) CS) :
    ∀ (fs : List Field) (o : Nat) (CS : List Value), (∀ f ∈ fs, okTy E d f.type = true) → contig E fs o = some CS.length → (∀ f ∈ fs, ∃ x, DataW.trod enc E.prog w 0 spare held fuel f.type ((CS.drop f.offset).take (E.prog.cellsOf f.type)) = some x) →
    ∀ {μ : Inj} {H : Heap}, HRel E w.heap.size μ H w → Opened E w μ H (fun H' vs => shpFs (fun t vs => shp E H' d t vs) fs vs) (CS.drop o)
  | [], o, CS, _, hc, _, μ, H, hH => by
    simp only [contig, Option.some.injEq] at hc
    subst hc
    refine ⟨μ, H, [], Grow.refl _ _, hH, ?_, rfl, Frm.refl _ _, rfl⟩
    rw [List.drop_length]; exact .nil
  | f :: fs, o, CS, hok, hc, hx, μ, H, hH => by
    simp only [contig] at hc
    cases hb : Nat.beq f.offset o with
    | false => rw [hb] at hc; cases hc
    | true =>
      rw [hb] at hc
      obtain rfl := Nat.eq_of_beq_eq_true hb
      simp only [cond_true] at hc
      cases hs : sizeA E f.type with
      | none => rw [hs] at hc; cases hc
      | some n =>
        rw [hs] at hc
        simp only at hc
        obtain ⟨x, hx0⟩ := hx f (by simp)
        obtain ⟨μ1, H1, vs, g1, h1, r1, p1, f1, o1⟩ := ih f.type _ x hx0 (hok f (by simp)) hH
        have hcell : E.prog.cellsOf f.type = n := by
          unfold sizeA at hs
          cases hi : E.ty f.type with
          | none => rw [hi] at hs; cases hs
          | some i =>
            rw [hi] at hs
            simp only [Option.map_some, Option.some.injEq] at hs
            have := hE.ty _ _ hi
            unfold Program.cellsOf
            rw [this]; simpa using hs
        obtain ⟨μ2, H2, vs2, g2, h2, r2, p2, f2, o2⟩ := open_fields hE ih fs (f.offset + n) CS (fun g hg => hok g (by simp [hg])) hc (fun g hg => hx g (by simp [hg])) h1
        refine ⟨μ2, H2, vs ++ vs2, g1.trans g2, h2, ?_, ⟨vs, vs2, rfl, shp_frm f2 p1, p2⟩, f1.trans f2 (by simp), by simp [o1, o2]⟩
        have e : CS.drop f.offset = (CS.drop f.offset).take n ++ CS.drop (f.offset + n) := by
          rw [← List.drop_drop]; exact (List.take_append_drop _ _).symm
        rw [e]
        rw [hcell] at r1
        exact (VRels.mono g2.le r1).append r2

theorem cellsOf_size (hE : E.Ok) {t n : Nat} (hs : sizeA E t = some n) : E.prog.cellsOf t = n := by
  unfold sizeA at hs
  cases hi : E.ty t with
  | none => rw [hi] at hs; cases hs
  | some i =>
    rw [hi] at hs
    simp only [Option.map_some, Option.some.injEq] at hs
    have := hE.ty _ _ hi
    unfold Program.cellsOf
    rw [this]; simpa using hs

theorem cells?_get {w : World} {a : Addr} {n : Nat} {CS : List Value} (h : w.cells? 0 a n = some CS) : CS.length = n ∧ ∀ j, j < n → w.cell? (a.add j) = CS[j]? := by
  unfold World.cells? at h
  rw [if_pos (Nat.zero_le _)] at h
  refine ⟨by simpa using mapM_some_length h, fun j hj => ?_⟩
  exact mapM_some_get h j j (by simp [hj])

theorem flatten_len {α : Type} {z : Nat} : ∀ {l : List (List α)}, (∀ c ∈ l, c.length = z) → l.flatten.length = l.length * z
  | [], _ => by simp
  | c :: l, h => by
    simp only [List.flatten_cons, List.length_append, List.length_cons]
    rw [h c (by simp), flatten_len fun c hc => h c (by simp [hc]), Nat.succ_mul, Nat.add_comm]

theorem flatten_get {α : Type} {z : Nat} : ∀ {l : List (List α)} {k : Nat}, (∀ c ∈ l, c.length = z) → 0 < z → k < l.length * z → ∃ c, l[k / z]? = some c ∧ l.flatten[k]? = c[k % z]?
  | [], k, _, _, h => by simp at h
  | c :: l, k, h, hz, hk => by
    have hc := h c (by simp)
    by_cases hlt : k < z
    · refine ⟨c, by rw [Nat.div_eq_of_lt hlt]; rfl, ?_⟩
      rw [List.flatten_cons, List.getElem?_append_left (by omega), Nat.mod_eq_of_lt hlt]
    · have hk' : k - z < l.length * z := by
        simp only [List.length_cons, Nat.succ_mul] at hk
        omega
      obtain ⟨c', h1, h2⟩ := flatten_get (l := l) (k := k - z) (fun c hc => h c (by simp [hc])) hz hk'
      have hk2 : k = (k - z) + z := by omega
      refine ⟨c', ?_, ?_⟩
      · rw [hk2, Nat.add_div_right _ hz]; simpa using h1
      · rw [List.flatten_cons, List.getElem?_append_right (by omega), hc, h2]
        conv => rhs; rw [hk2, Nat.add_mod_right]

theorem open_cells (hE : E.Ok) : ∀ (fuel t : Nat) (CS : List Value) (x : DataW D × List MemPlace), DataW.trod enc E.prog w 0 spare held fuel t CS = some x → ∀ (d : Nat), okTy E d t = true →
    ∀ {μ : Inj} {H : Heap}, HRel E w.heap.size μ H w → Opened E w μ H (fun H' vs => shp E H' d t vs) CS
  | 0, t, CS, x, h, d, ho, μ, H, hH => by simp [DataW.trod] at h
  | fuel + 1, t, CS, x, h, 0, ho, μ, H, hH => by simp [okTy] at ho
  | fuel + 1, t, CS, x, h, d + 1, ho, μ, H, hH => by
    have ih := open_cells hE fuel
    unfold okTy at ho
    split at ho
    · rename_i hu
      have hP := und_ok hE hu
      unfold DataW.trod at h
      rw [hP] at h
      split at h <;> simp_all
      exact ⟨μ, H, [.bool _], Grow.refl _ _, hH, .cons (.bool _) .nil, by unfold shp; rw [hu]; exact ⟨_, rfl⟩, Frm.refl _ _, rfl⟩
    · rename_i k hu
      have hP := und_ok hE hu
      obtain ⟨n, rfl, hx, hw⟩ := DataW.trod_int hP h
      exact ⟨μ, H, [.int k n], Grow.refl _ _, hH, .cons (.int _ _) .nil, by unfold shp; rw [hu]; exact ⟨n, rfl, hw⟩, Frm.refl _ _, rfl⟩
    · rename_i e hu
      have hP := und_ok hE hu
      simp only [Bool.and_eq_true] at ho
      obtain ⟨ho1, ho2⟩ := ho
      cases hs : sizeA E e with
      | none => rw [hs] at ho2; cases ho2
      | some z =>
        rw [hs] at ho2
        simp only at ho2
        have hz : 0 < z := Nat.le_of_ble_eq_true ho2
        have hcell := cellsOf_size hE hs
        have hform : CS = [.slice none 0 0] ∨ ∃ a len cap, CS = [.slice (some a) len cap] := by
          unfold DataW.trod at h
          rw [hP] at h
          split at h <;> simp_all
        rcases hform with rfl | ⟨a, len, cap, rfl⟩
        · exact ⟨μ, H, [.slice none 0 0], Grow.refl _ _, hH, .cons .sliceNil .nil, by unfold shp; rw [hu]; exact .inl rfl, Frm.refl _ _, rfl⟩
        · have hel : len ≤ cap ∧ ∃ elems : List (DataW D × List MemPlace), (List.range len).mapM (fun i => (w.cells? 0 (a.add (i * z)) z).bind (DataW.trod enc E.prog w 0 spare held fuel e)) = some elems := by
            unfold DataW.trod at h
            rw [hP] at h
            simp only [hcell] at h
            split at h
            · rename_i hc
              refine ⟨hc.2.1, ?_⟩
              cases hm : (List.range len).mapM (fun i => (w.cells? 0 (a.add (i * z)) z).bind (DataW.trod enc E.prog w 0 spare held fuel e)) with
              | none => rw [hm] at h; simp at h
              | some el => exact ⟨el, rfl⟩
            · cases h
          obtain ⟨hle, elems, hel⟩ := hel
          have each : ∀ i, i < len → ∃ C x, w.cells? 0 (a.add (i * z)) z = some C ∧ DataW.trod enc E.prog w 0 spare held fuel e C = some x := by
            intro i hi
            have h1 := mapM_some_get hel i i (by simp [hi])
            have hl := mapM_some_length hel
            simp only [List.length_range] at hl
            rw [List.getElem?_eq_getElem (by omega : i < elems.length)] at h1
            cases hc : w.cells? 0 (a.add (i * z)) z with
            | none => rw [hc] at h1; cases h1
            | some C => rw [hc] at h1; exact ⟨C, _, rfl, h1⟩
          -- the elements' cells
          let CSs : List (List Value) := (List.range len).map fun i => (w.cells? 0 (a.add (i * z)) z).getD []
          have hCl : CSs.length = len := by simp [CSs]
          have hCg : ∀ i, i < len → ∃ C, CSs[i]? = some C ∧ w.cells? 0 (a.add (i * z)) z = some C := by
            intro i hi
            obtain ⟨C, x', h1, h2⟩ := each i hi
            exact ⟨C, by simp [CSs, hi, h1], h1⟩
          obtain ⟨μ1, H1, css, g1, h1, l1, r1, p1, f1, o1⟩ := open_list (E := E) (w := w) (p := fun H' vs => shp E H' d e vs) (fun hf hs => shp_frm hf hs) CSs (fun C hC => by
            obtain ⟨i, hi, rfl⟩ := List.mem_iff_getElem.1 hC
            obtain ⟨C', x', h1, h2⟩ := each i (by omega)
            obtain ⟨C'', h3, h4⟩ := hCg i (by omega)
            rw [List.getElem?_eq_getElem hi] at h3
            injection h3 with h3
            rw [h1] at h4; injection h4 with h4; subst h4
            rw [h3]
            intro μ H hH
            exact ih e _ x' h2 d ho1 hH) hH
          have hz2 : ∀ C ∈ CSs, C.length = z := by
            intro C hC
            obtain ⟨i, hi, rfl⟩ := List.mem_iff_getElem.1 hC
            obtain ⟨C'', h3, h4⟩ := hCg i (by omega)
            rw [List.getElem?_eq_getElem hi] at h3
            injection h3 with h3
            rw [h3]
            exact (cells?_get h4).1
          have hvr : VRels μ1 css.flatten CSs.flatten := flatten_vrels l1 r1
          -- the block
          have hobj : css.flatten = [] ∨ ∃ C el fr, a.block < w.heap.size ∧ w.heap[a.block]? = some (.cells C el fr) ∧ a.spot = none ∧ cellsRel μ1 css.flatten C a.off := by
            by_cases h0 : len = 0
            · left
              have : css = [] := List.eq_nil_of_length_eq_zero (by omega)
              rw [this]; rfl
            · right
              obtain ⟨C0, h3, h4⟩ := hCg 0 (by omega)
              have hc0 := (cells?_get h4).2 0 hz
              have e0 : (a.add (0 * z)).add 0 = a := by simp [Addr.add]
              rw [e0] at hc0
              have hC0 : C0[0]? ≠ none := by
                have := (cells?_get h4).1
                rw [List.getElem?_eq_getElem (by omega)]
                simp
              unfold World.cell? at hc0
              cases hb : w.heap[a.block]? with
              | none => rw [hb] at hc0; exact absurd hc0.symm hC0
              | some ob =>
                rw [hb] at hc0
                cases ob with
                | cells C el fr =>
                  simp only at hc0
                  have hsp : a.spot = none := by
                    cases hsp : a.spot with
                    | none => rfl
                    | some s => rw [hsp] at hc0; simp only [Option.isSome_some, if_true] at hc0; exact absurd hc0.symm hC0
                  refine ⟨C, el, fr, ?_, rfl, hsp, ?_⟩
                  · rcases Nat.lt_or_ge a.block w.heap.size with h | h
                    · exact h
                    · rw [Array.getElem?_eq_none h] at hb; cases hb
                  · intro j v hj
                    obtain ⟨V, hV, hr⟩ := hvr.get hj
                    refine ⟨V, ?_, hr⟩
                    have hfl : CSs.flatten.length = CSs.length * z := flatten_len hz2
                    have hjl : j < CSs.length * z := by
                      rw [← hfl]
                      rcases Nat.lt_or_ge j CSs.flatten.length with h | h
                      · exact h
                      · rw [List.getElem?_eq_none h] at hV; cases hV
                    obtain ⟨c, hc1, hc2⟩ := flatten_get hz2 hz hjl
                    have hi : j / z < len := by
                      rw [hCl] at hjl
                      exact (Nat.div_lt_iff_lt_mul hz).2 hjl
                    obtain ⟨C', h5, h6⟩ := hCg (j / z) hi
                    rw [hc1] at h5; injection h5 with h5; subst h5
                    have h7 := (cells?_get h6).2 (j % z) (Nat.mod_lt _ hz)
                    rw [hc2] at hV
                    rw [hV] at h7
                    have ea : (a.add (j / z * z)).add (j % z) = ⟨a.block, a.off + j, none⟩ := by
                      have hdm : j / z * z + j % z = j := by rw [Nat.mul_comm]; exact Nat.div_add_mod j z
                      unfold Addr.add
                      cases a with
                      | mk ab ao asp =>
                      simp only at hsp
                      subst hsp
                      split <;> split <;> simp only [Addr.mk.injEq, and_true, true_and] <;> omega
                    rw [ea] at h7
                    unfold World.cell? at h7
                    rw [hb] at h7
                    simpa using h7
                | _ => simp at hc0; exact absurd hc0.symm (by simpa using hC0)
          have hall : css.flatten.all one = true := by
            rw [List.all_eq_true]
            intro v hv
            obtain ⟨c, hc, hvc⟩ := List.mem_flatten.1 hv
            exact List.all_eq_true.1 (o1 c hc) v hvc
          have hnone : μ1 H1.next = none := h1.fresh _ (Nat.le_refl _)
          have fin : ∀ L : Loc, L.esz = 0 → (∀ i oi Li, H1.get i = some oi → oi.isOwn = true → μ1 i = some Li → Li.blk ≠ L.blk) →
              (css.flatten = [] ∨ ∃ C el fr, L.blk < w.heap.size ∧ w.heap[L.blk]? = some (.cells C el fr) ∧ cellsRel μ1 css.flatten C L.off) →
              (∀ μ' : Inj, μ' H1.next = some L → VRel μ' (.slice (some ⟨H1.next, 0, none⟩) css.length 0) (.slice (some a) len cap)) →
              Opened E w μ H (fun H' vs => shp E H' (d + 1) t vs) [.slice (some a) len cap] := by
            intro L hL hfree hcells hv
            have hH2 : HRel E w.heap.size (μ1.add H1.next L) (H1.new (.cells false 0 css.flatten)) w := by
              refine h1.adoptAt H1.next L _ hnone (fun j => get_new _ _ _) (Nat.le_succ _) (Nat.lt_succ_self _) hfree ?_
              refine ⟨L, Inj.add_self _ _ _, hL, rfl, hall, ?_⟩
              rcases hcells with h0 | ⟨C, el, fr, hlt, hb, hr⟩
              · exact .inl h0
              · exact .inr ⟨C, el, fr, hlt, hb, hr.mono (Inj.le_add L hnone)⟩
            refine ⟨_, _, [.slice (some ⟨H1.next, 0, none⟩) css.length 0], g1.trans (Grow.new _ L hnone), hH2, .cons (hv _ (Inj.add_self _ _ _)) .nil, ?_, f1.trans ((Frm.refl [] _).new _) (by simp), rfl⟩
            unfold shp
            rw [hu]
            exact .inr ⟨H1.next, css, rfl, Nat.lt_succ_self _, get_new_self _ _, fun c hc => shp_frm ((Frm.refl [] _).new _) (p1 c hc)⟩
          have own : ∀ i oi Li, H1.get i = some oi → oi.isOwn = true → μ1 i = some Li → w.heap.size ≤ Li.blk ∧ Li.blk < w.heap.size := by
            intro i oi Li hi hown hm
            obtain ⟨L2, e1, e2, e3⟩ := (h1.obj i oi hi ⟨Li, hm⟩).own_loc hown
            rw [hm] at e1; injection e1 with e1; subst e1
            exact ⟨e2, e3⟩
          rcases hobj with h0 | ⟨C, el, fr, hlt, hb, hsp, hr⟩
          · have h00 : len = 0 := by
              have h2 : css.flatten.length = css.length * z := flatten_len fun c hc => by
                obtain ⟨i, hi, rfl⟩ := List.mem_iff_getElem.1 hc
                have hi' : i < CSs.length := by omega
                have := (r1 i css[i] CSs[i] (List.getElem?_eq_getElem hi) (List.getElem?_eq_getElem hi')).length
                rw [this]; exact hz2 _ (List.getElem_mem _)
              rw [h0] at h2
              simp only [List.length_nil] at h2
              rcases Nat.mul_eq_zero.1 h2.symm with h | h
              · omega
              · omega
            refine fin ⟨w.heap.size, 0, 0, 0⟩ rfl (fun i oi Li a b c => ?_) (.inl h0) fun μ' hm => ?_
            · have := own i oi Li a b c
              show Li.blk ≠ w.heap.size
              omega
            · rw [l1, hCl, h00]
              exact .sliceEnd hm (.inl rfl)
          · refine fin ⟨a.block, a.off, 0, 0⟩ rfl (fun i oi Li a' b c => ?_) (.inr ⟨C, el, fr, hlt, hb, hr⟩) fun μ' hm => ?_
            · have := own i oi Li a' b c
              show Li.blk ≠ a.block
              omega
            · rw [l1, hCl]
              have e : a = ⟨a.block, a.off + 0, none⟩ := by cases a; simp only at hsp; subst hsp; rfl
              rw [e]
              exact .slice hm hle (.inl rfl)
    · rename_i fs hu
      have hP := und_ok hE hu
      simp only [Bool.and_eq_true, List.all_eq_true] at ho
      obtain ⟨ho1, ho2⟩ := ho
      cases hs : sizeA E t with
      | none => rw [hs] at ho2; cases ho2
      | some n =>
        cases hc : contig E fs.toList 0 with
        | none => rw [hs, hc] at ho2; cases ho2
        | some m =>
          rw [hs, hc] at ho2
          obtain rfl := Nat.eq_of_beq_eq_true ho2
          have hcell := cellsOf_size hE hs
          have hstr : CS.length = n ∧ ∃ xs : List (DataW D × List MemPlace), fs.toList.mapM (fun f => DataW.trod enc E.prog w 0 spare held fuel f.type ((CS.drop f.offset).take (E.prog.cellsOf f.type))) = some xs := by
            unfold DataW.trod at h
            rw [hP, hcell] at h
            split at h <;> simp_all
            obtain ⟨hl, xs, hm, _⟩ := h
            exact ⟨xs, hm⟩
          obtain ⟨hl, xs, hm⟩ := hstr
          have := open_fields (spare := spare) (held := held) (enc := enc) (d := d) (fuel := fuel) hE (fun t CS x h ho {μ H} hH => ih t CS x h d ho hH) fs.toList 0 CS (fun f hf => ho1 f hf) (by rw [hc, hl]) (fun f hf => by
            obtain ⟨i, hi, rfl⟩ := List.mem_iff_getElem.1 hf
            have h1 := mapM_some_get hm i _ (List.getElem?_eq_getElem hi)
            have hlen := mapM_some_length hm
            rw [List.getElem?_eq_getElem (by omega : i < xs.length)] at h1
            exact ⟨_, h1⟩) hH
          simp only [List.drop_zero] at this
          obtain ⟨μ', H', vs, a1, a2, a3, a4, a5, a6⟩ := this
          exact ⟨μ', H', vs, a1, a2, a3, by unfold shp; rw [hu]; exact a4, a5, a6⟩
    · cases ho
end
end Go.AS
