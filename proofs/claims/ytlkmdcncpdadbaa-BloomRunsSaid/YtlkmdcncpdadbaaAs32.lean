/-
  Arguments of any plain shape, and how long their slices may be.
-/
import Derived.Test.YtlkmdcncpdadbaaAs30
import Derived.WideShapes
import Derived.SizedLaws
namespace Go.AS
open Go.RowKit Go.ChangeShapes Go.WideShapes
set_option linter.unusedVariables false

section
variable {E : Env}

def okTz (E : Env) : Nat → Nat → Bool
  | 0, _ => false
  | d + 1, t => match und E t with
    | some .bool => true
    | some (.int _) => true
    | some (.slice e) => okTz E d e && (match sizeA E e with
      | some n => Nat.ble 1 n
      | none => false) && (match E.ty e with
      | some i => Nat.ble 1 i.bytes
      | none => false)
    | some (.struct fs) => (fs.toList.all fun f => okTz E d f.type) && (match sizeA E t, contig E fs.toList 0 with
      | some n, some m => Nat.beq n m
      | _, _ => false)
    | _ => false

/-- What it weighs is within reach. -/
def Wt {D : Type} (E : Env) (t : Nat) (x : DataW D) : Prop := ∀ n ∈ x.weights E.prog t, n ≤ reachBytes

theorem bytes_pos (hE : E.Ok) {e : Nat} (h : (match E.ty e with | some i => Nat.ble 1 i.bytes | none => false) = true) : 1 ≤ E.prog.bytesOf e := by
  cases hi : E.ty e with
  | none => rw [hi] at h; cases h
  | some i =>
    rw [hi] at h
    have := hE.ty _ _ hi
    unfold Program.bytesOf
    rw [this]
    exact Nat.le_of_ble_eq_true h

theorem weightsAll_mem {D : Type} {P : Program} {e n : Nat} : ∀ {l : List (DataW D)} {y : DataW D}, y ∈ l → n ∈ y.weights P e → n ∈ DataW.weightsAll P e l
  | [], y, h, _ => by simp at h
  | z :: l, y, h, hn => by
    simp only [DataW.weightsAll, List.mem_append]
    rcases List.mem_cons.1 h with rfl | h
    · exact .inl hn
    · exact .inr (weightsAll_mem h hn)

/-- Cells of the shape of a type; what they lead to is in memory, and stays. -/
def shz (E : Env) (H : Heap) : Nat → Nat → List Value → Prop
  | 0, _, _ => False
  | d + 1, t, vs => match und E t with
    | some .bool => ∃ b, vs = [.bool b]
    | some (.int k) => ∃ n, vs = [.int k n] ∧ (Lit.int k n).wf = true
    | some (.slice e) => vs = [.slice none 0 0] ∨ ∃ (i : Nat) (cs : List (List Value)), vs = [.slice (some ⟨i, 0, none⟩) cs.length 0] ∧ i < H.next ∧ H.get i = some (.cells false 0 cs.flatten) ∧ (∀ c ∈ cs, shz E H d e c) ∧ cs.length ≤ 140737488355328
    | some (.struct fs) => shpFs (fun t vs => shz E H d t vs) fs.toList vs
    | _ => False

theorem shz_frm {H H' : Heap} (hf : Frm [] H H') : ∀ {d t : Nat} {vs : List Value}, shz E H d t vs → shz E H' d t vs
  | 0, _, _, h => h.elim
  | d + 1, t, vs, h => by
    unfold shz at h ⊢
    split
    · rename_i hu; rw [hu] at h; exact h
    · rename_i hu; rw [hu] at h; exact h
    · rename_i hu
      rw [hu] at h
      rcases h with h | ⟨i, cs, h1, h2, h3, h4, h5⟩
      · exact .inl h
      · exact .inr ⟨i, cs, h1, Nat.lt_of_lt_of_le h2 hf.1, by rw [hf.2 i h2 (by simp)]; exact h3, fun c hc => shz_frm hf (h4 c hc), h5⟩
    · rename_i hu
      rw [hu] at h
      exact shpFs_mono (fun t vs hs => shz_frm hf hs) h
    · rename_i h1 h2 h3 h4
      split at h
      · rename_i hu; exact (h1 hu).elim
      · rename_i hu; exact (h2 _ hu).elim
      · rename_i hu; exact (h3 _ hu).elim
      · rename_i hu; exact (h4 _ hu).elim
      · exact h

variable {w : World} {D : Type} {enc : TypeId × Value → D} {spare : Nat → Bool} {held : Bool} {r : Reach} {bs : Nat}

theorem open_fieldsz {d fuel : Nat} (hE : E.Ok) (ih : ∀ (t : Nat) (CS : List Value) x, DataW.trod enc E.prog w 0 spare held fuel t CS = some x → Wt E t x.1 → okTz E d t = true → ∀ {μ : Inj} {H : Heap}, HRel E w.heap.size μ H w → Opened E w μ H (fun H' vs => shz E H' d t vs) CS) :
    ∀ (fs : List Field) (o : Nat) (CS : List Value), (∀ f ∈ fs, okTz E d f.type = true) → contig E fs o = some CS.length → (∀ f ∈ fs, ∃ x, DataW.trod enc E.prog w 0 spare held fuel f.type ((CS.drop f.offset).take (E.prog.cellsOf f.type)) = some x ∧ Wt E f.type x.1) →
    ∀ {μ : Inj} {H : Heap}, HRel E w.heap.size μ H w → Opened E w μ H (fun H' vs => shpFs (fun t vs => shz E H' d t vs) fs vs) (CS.drop o)
  | [], o, CS, _, hc, _, μ, H, hH => by
    simp only [contig, Option.some.injEq] at hc
    subst hc
    refine ⟨μ, H, [], Grow.refl _ _, hH, ?_, rfl, Frm.refl _ _, rfl⟩
    rw [List.drop_length]; exact .nil
  | f :: fs, o, CS, hok, hc, hx, μ, H, hH => by
    simp only [contig] at hc
    cases hb : Nat.beq f.offset o with
    | false => rw [hb] at hc; cases hc
    | true =>
      rw [hb] at hc
      obtain rfl := Nat.eq_of_beq_eq_true hb
      simp only [cond_true] at hc
      cases hs : sizeA E f.type with
      | none => rw [hs] at hc; cases hc
      | some n =>
        rw [hs] at hc
        simp only at hc
        obtain ⟨x, hx0, hxw⟩ := hx f (by simp)
        obtain ⟨μ1, H1, vs, g1, h1, r1, p1, f1, o1⟩ := ih f.type _ x hx0 hxw (hok f (by simp)) hH
        have hcell : E.prog.cellsOf f.type = n := by
          unfold sizeA at hs
          cases hi : E.ty f.type with
          | none => rw [hi] at hs; cases hs
          | some i =>
            rw [hi] at hs
            simp only [Option.map_some, Option.some.injEq] at hs
            have := hE.ty _ _ hi
            unfold Program.cellsOf
            rw [this]; simpa using hs
        obtain ⟨μ2, H2, vs2, g2, h2, r2, p2, f2, o2⟩ := open_fieldsz hE ih fs (f.offset + n) CS (fun g hg => hok g (by simp [hg])) hc (fun g hg => hx g (by simp [hg])) h1
        refine ⟨μ2, H2, vs ++ vs2, g1.trans g2, h2, ?_, ⟨vs, vs2, rfl, shz_frm f2 p1, p2⟩, f1.trans f2 (by simp), by simp [o1, o2]⟩
        have e : CS.drop f.offset = (CS.drop f.offset).take n ++ CS.drop (f.offset + n) := by
          rw [← List.drop_drop]; exact (List.take_append_drop _ _).symm
        rw [e]
        rw [hcell] at r1
        exact (VRels.mono g2.le r1).append r2

theorem open_cellsz (hE : E.Ok) : ∀ (fuel t : Nat) (CS : List Value) (x : DataW D × List MemPlace), DataW.trod enc E.prog w 0 spare held fuel t CS = some x → Wt E t x.1 → ∀ (d : Nat), okTz E d t = true →
    ∀ {μ : Inj} {H : Heap}, HRel E w.heap.size μ H w → Opened E w μ H (fun H' vs => shz E H' d t vs) CS
  | 0, t, CS, x, h, hw, d, ho, μ, H, hH => by simp [DataW.trod] at h
  | fuel + 1, t, CS, x, h, hw, 0, ho, μ, H, hH => by simp [okTz] at ho
  | fuel + 1, t, CS, x, h, hwt, d + 1, ho, μ, H, hH => by
    have ih := open_cellsz hE fuel
    unfold okTz at ho
    split at ho
    · rename_i hu
      have hP := und_ok hE hu
      unfold DataW.trod at h
      rw [hP] at h
      split at h <;> simp_all
      exact ⟨μ, H, [.bool _], Grow.refl _ _, hH, .cons (.bool _) .nil, by unfold shz; rw [hu]; exact ⟨_, rfl⟩, Frm.refl _ _, rfl⟩
    · rename_i k hu
      have hP := und_ok hE hu
      obtain ⟨n, rfl, hx, hw⟩ := DataW.trod_int hP h
      exact ⟨μ, H, [.int k n], Grow.refl _ _, hH, .cons (.int _ _) .nil, by unfold shz; rw [hu]; exact ⟨n, rfl, hw⟩, Frm.refl _ _, rfl⟩
    · rename_i e hu
      have hP := und_ok hE hu
      simp only [Bool.and_eq_true] at ho
      obtain ⟨⟨ho1, ho2⟩, ho3⟩ := ho
      cases hs : sizeA E e with
      | none => rw [hs] at ho2; cases ho2
      | some z =>
        rw [hs] at ho2
        simp only at ho2
        have hz : 0 < z := Nat.le_of_ble_eq_true ho2
        have hcell := cellsOf_size hE hs
        have hform : CS = [.slice none 0 0] ∨ ∃ a len cap, CS = [.slice (some a) len cap] := by
          unfold DataW.trod at h
          rw [hP] at h
          split at h <;> simp_all
        rcases hform with rfl | ⟨a, len, cap, rfl⟩
        · exact ⟨μ, H, [.slice none 0 0], Grow.refl _ _, hH, .cons .sliceNil .nil, by unfold shz; rw [hu]; exact .inl rfl, Frm.refl _ _, rfl⟩
        · have hel : len ≤ cap ∧ ∃ elems : List (DataW D × List MemPlace), (List.range len).mapM (fun i => (w.cells? 0 (a.add (i * z)) z).bind (DataW.trod enc E.prog w 0 spare held fuel e)) = some elems ∧ ∃ sp, x.1 = .slice (elems.map (·.1)) sp := by
            unfold DataW.trod at h
            rw [hP] at h
            simp only [hcell] at h
            split at h
            · rename_i hc
              refine ⟨hc.2.1, ?_⟩
              cases hm : (List.range len).mapM (fun i => (w.cells? 0 (a.add (i * z)) z).bind (DataW.trod enc E.prog w 0 spare held fuel e)) with
              | none => rw [hm] at h; simp at h
              | some el =>
                rw [hm] at h
                simp only [Option.bind_some, Option.map_eq_some_iff] at h
                obtain ⟨rest, _, h⟩ := h
                refine ⟨el, rfl, rest.map (·.1), ?_⟩
                rw [← h]
            · cases h
          obtain ⟨hle, elems, hel, sp, hxe⟩ := hel
          have helen : elems.length = len := by
            have := mapM_some_length hel
            simpa using this
          have hwts : (len + sp.length) * E.prog.bytesOf e ≤ reachBytes ∧ ∀ y ∈ elems, Wt E e y.1 := by
            have h1 : Wt E t (.slice (elems.map (·.1)) sp) := by rw [← hxe]; exact hwt
            unfold Wt DataW.weights at h1
            rw [hP] at h1
            refine ⟨h1 _ (by simp [helen]), fun y hy n hn => h1 n ?_⟩
            refine List.mem_cons_of_mem _ (List.mem_append_left _ ?_)
            exact weightsAll_mem (List.mem_map_of_mem hy) hn
          have hcap : len ≤ 140737488355328 := by
            have hb : 1 ≤ E.prog.bytesOf e := bytes_pos hE ho3
            have h1 := hwts.1
            have h2 : (len + sp.length) * 1 ≤ (len + sp.length) * E.prog.bytesOf e := Nat.mul_le_mul_left _ hb
            unfold reachBytes at h1
            omega
          have each : ∀ i, i < len → ∃ C x, w.cells? 0 (a.add (i * z)) z = some C ∧ DataW.trod enc E.prog w 0 spare held fuel e C = some x ∧ Wt E e x.1 := by
            intro i hi
            have h1 := mapM_some_get hel i i (by simp [hi])
            have hl := mapM_some_length hel
            simp only [List.length_range] at hl
            rw [List.getElem?_eq_getElem (by omega : i < elems.length)] at h1
            cases hc : w.cells? 0 (a.add (i * z)) z with
            | none => rw [hc] at h1; cases h1
            | some C => rw [hc] at h1; exact ⟨C, _, rfl, h1, hwts.2 _ (List.getElem_mem _)⟩
          -- the elements' cells
          let CSs : List (List Value) := (List.range len).map fun i => (w.cells? 0 (a.add (i * z)) z).getD []
          have hCl : CSs.length = len := by simp [CSs]
          have hCg : ∀ i, i < len → ∃ C, CSs[i]? = some C ∧ w.cells? 0 (a.add (i * z)) z = some C := by
            intro i hi
            obtain ⟨C, x', h1, h2, _⟩ := each i hi
            exact ⟨C, by simp [CSs, hi, h1], h1⟩
          obtain ⟨μ1, H1, css, g1, h1, l1, r1, p1, f1, o1⟩ := open_list (E := E) (w := w) (p := fun H' vs => shz E H' d e vs) (fun hf hs => shz_frm hf hs) CSs (fun C hC => by
            obtain ⟨i, hi, rfl⟩ := List.mem_iff_getElem.1 hC
            obtain ⟨C', x', h1, h2, h2w⟩ := each i (by omega)
            obtain ⟨C'', h3, h4⟩ := hCg i (by omega)
            rw [List.getElem?_eq_getElem hi] at h3
            injection h3 with h3
            rw [h1] at h4; injection h4 with h4; subst h4
            rw [h3]
            intro μ H hH
            exact ih e _ x' h2 h2w d ho1 hH) hH
          have hz2 : ∀ C ∈ CSs, C.length = z := by
            intro C hC
            obtain ⟨i, hi, rfl⟩ := List.mem_iff_getElem.1 hC
            obtain ⟨C'', h3, h4⟩ := hCg i (by omega)
            rw [List.getElem?_eq_getElem hi] at h3
            injection h3 with h3
            rw [h3]
            exact (cells?_get h4).1
          have hvr : VRels μ1 css.flatten CSs.flatten := flatten_vrels l1 r1
          -- the block
          have hobj : css.flatten = [] ∨ ∃ C el fr, a.block < w.heap.size ∧ w.heap[a.block]? = some (.cells C el fr) ∧ a.spot = none ∧ cellsRel μ1 css.flatten C a.off := by
            by_cases h0 : len = 0
            · left
              have : css = [] := List.eq_nil_of_length_eq_zero (by omega)
              rw [this]; rfl
            · right
              obtain ⟨C0, h3, h4⟩ := hCg 0 (by omega)
              have hc0 := (cells?_get h4).2 0 hz
              have e0 : (a.add (0 * z)).add 0 = a := by simp [Addr.add]
              rw [e0] at hc0
              have hC0 : C0[0]? ≠ none := by
                have := (cells?_get h4).1
                rw [List.getElem?_eq_getElem (by omega)]
                simp
              unfold World.cell? at hc0
              cases hb : w.heap[a.block]? with
              | none => rw [hb] at hc0; exact absurd hc0.symm hC0
              | some ob =>
                rw [hb] at hc0
                cases ob with
                | cells C el fr =>
                  simp only at hc0
                  have hsp : a.spot = none := by
                    cases hsp : a.spot with
                    | none => rfl
                    | some s => rw [hsp] at hc0; simp only [Option.isSome_some, if_true] at hc0; exact absurd hc0.symm hC0
                  refine ⟨C, el, fr, ?_, rfl, hsp, ?_⟩
                  · rcases Nat.lt_or_ge a.block w.heap.size with h | h
                    · exact h
                    · rw [Array.getElem?_eq_none h] at hb; cases hb
                  · intro j v hj
                    obtain ⟨V, hV, hr⟩ := hvr.get hj
                    refine ⟨V, ?_, hr⟩
                    have hfl : CSs.flatten.length = CSs.length * z := flatten_len hz2
                    have hjl : j < CSs.length * z := by
                      rw [← hfl]
                      rcases Nat.lt_or_ge j CSs.flatten.length with h | h
                      · exact h
                      · rw [List.getElem?_eq_none h] at hV; cases hV
                    obtain ⟨c, hc1, hc2⟩ := flatten_get hz2 hz hjl
                    have hi : j / z < len := by
                      rw [hCl] at hjl
                      exact (Nat.div_lt_iff_lt_mul hz).2 hjl
                    obtain ⟨C', h5, h6⟩ := hCg (j / z) hi
                    rw [hc1] at h5; injection h5 with h5; subst h5
                    have h7 := (cells?_get h6).2 (j % z) (Nat.mod_lt _ hz)
                    rw [hc2] at hV
                    rw [hV] at h7
                    have ea : (a.add (j / z * z)).add (j % z) = ⟨a.block, a.off + j, none⟩ := by
                      have hdm : j / z * z + j % z = j := by rw [Nat.mul_comm]; exact Nat.div_add_mod j z
                      unfold Addr.add
                      cases a with
                      | mk ab ao asp =>
                      simp only at hsp
                      subst hsp
                      split <;> split <;> simp only [Addr.mk.injEq, and_true, true_and] <;> omega
                    rw [ea] at h7
                    unfold World.cell? at h7
                    rw [hb] at h7
                    simpa using h7
                | _ => simp at hc0; exact absurd hc0.symm (by simpa using hC0)
          have hall : css.flatten.all one = true := by
            rw [List.all_eq_true]
            intro v hv
            obtain ⟨c, hc, hvc⟩ := List.mem_flatten.1 hv
            exact List.all_eq_true.1 (o1 c hc) v hvc
          have hnone : μ1 H1.next = none := h1.fresh _ (Nat.le_refl _)
          have fin : ∀ L : Loc, L.esz = 0 → (∀ i oi Li, H1.get i = some oi → oi.isOwn = true → μ1 i = some Li → Li.blk ≠ L.blk) →
              (css.flatten = [] ∨ ∃ C el fr, L.blk < w.heap.size ∧ w.heap[L.blk]? = some (.cells C el fr) ∧ cellsRel μ1 css.flatten C L.off) →
              (∀ μ' : Inj, μ' H1.next = some L → VRel μ' (.slice (some ⟨H1.next, 0, none⟩) css.length 0) (.slice (some a) len cap)) →
              Opened E w μ H (fun H' vs => shz E H' (d + 1) t vs) [.slice (some a) len cap] := by
            intro L hL hfree hcells hv
            have hH2 : HRel E w.heap.size (μ1.add H1.next L) (H1.new (.cells false 0 css.flatten)) w := by
              refine h1.adoptAt H1.next L _ hnone (fun j => get_new _ _ _) (Nat.le_succ _) (Nat.lt_succ_self _) hfree ?_
              refine ⟨L, Inj.add_self _ _ _, hL, rfl, hall, ?_⟩
              rcases hcells with h0 | ⟨C, el, fr, hlt, hb, hr⟩
              · exact .inl h0
              · exact .inr ⟨C, el, fr, hlt, hb, hr.mono (Inj.le_add L hnone)⟩
            refine ⟨_, _, [.slice (some ⟨H1.next, 0, none⟩) css.length 0], g1.trans (Grow.new _ L hnone), hH2, .cons (hv _ (Inj.add_self _ _ _)) .nil, ?_, f1.trans ((Frm.refl [] _).new _) (by simp), rfl⟩
            unfold shz
            rw [hu]
            exact .inr ⟨H1.next, css, rfl, Nat.lt_succ_self _, get_new_self _ _, fun c hc => shz_frm ((Frm.refl [] _).new _) (p1 c hc), by rw [l1, hCl]; exact hcap⟩
          have own : ∀ i oi Li, H1.get i = some oi → oi.isOwn = true → μ1 i = some Li → w.heap.size ≤ Li.blk ∧ Li.blk < w.heap.size := by
            intro i oi Li hi hown hm
            obtain ⟨L2, e1, e2, e3⟩ := (h1.obj i oi hi ⟨Li, hm⟩).own_loc hown
            rw [hm] at e1; injection e1 with e1; subst e1
            exact ⟨e2, e3⟩
          rcases hobj with h0 | ⟨C, el, fr, hlt, hb, hsp, hr⟩
          · have h00 : len = 0 := by
              have h2 : css.flatten.length = css.length * z := flatten_len fun c hc => by
                obtain ⟨i, hi, rfl⟩ := List.mem_iff_getElem.1 hc
                have hi' : i < CSs.length := by omega
                have := (r1 i css[i] CSs[i] (List.getElem?_eq_getElem hi) (List.getElem?_eq_getElem hi')).length
                rw [this]; exact hz2 _ (List.getElem_mem _)
              rw [h0] at h2
              simp only [List.length_nil] at h2
              rcases Nat.mul_eq_zero.1 h2.symm with h | h
              · omega
              · omega
            refine fin ⟨w.heap.size, 0, 0, 0⟩ rfl (fun i oi Li a b c => ?_) (.inl h0) fun μ' hm => ?_
            · have := own i oi Li a b c
              show Li.blk ≠ w.heap.size
              omega
            · rw [l1, hCl, h00]
              exact .sliceEnd hm (.inl rfl)
          · refine fin ⟨a.block, a.off, 0, 0⟩ rfl (fun i oi Li a' b c => ?_) (.inr ⟨C, el, fr, hlt, hb, hr⟩) fun μ' hm => ?_
            · have := own i oi Li a' b c
              show Li.blk ≠ a.block
              omega
            · rw [l1, hCl]
              have e : a = ⟨a.block, a.off + 0, none⟩ := by cases a; simp only at hsp; subst hsp; rfl
              rw [e]
              exact .slice hm hle (.inl rfl)
    · rename_i fs hu
      have hP := und_ok hE hu
      simp only [Bool.and_eq_true, List.all_eq_true] at ho
      obtain ⟨ho1, ho2⟩ := ho
      cases hs : sizeA E t with
      | none => rw [hs] at ho2; cases ho2
      | some n =>
        cases hc : contig E fs.toList 0 with
        | none => rw [hs, hc] at ho2; cases ho2
        | some m =>
          rw [hs, hc] at ho2
          obtain rfl := Nat.eq_of_beq_eq_true ho2
          have hcell := cellsOf_size hE hs
          have hstr : CS.length = n ∧ ∃ xs : List (DataW D × List MemPlace), fs.toList.mapM (fun f => DataW.trod enc E.prog w 0 spare held fuel f.type ((CS.drop f.offset).take (E.prog.cellsOf f.type))) = some xs ∧ x.1 = .agg (xs.map (·.1)) := by
            unfold DataW.trod at h
            rw [hP, hcell] at h
            split at h <;> simp_all
            obtain ⟨hl, xs, hm, hx⟩ := h
            exact ⟨xs, hm, by rw [← hx]⟩
          obtain ⟨hl, xs, hm, hxe⟩ := hstr
          have hlen := mapM_some_length hm
          have hwf : ∀ i (hi : i < fs.toList.length) (hi2 : i < xs.length), Wt E (fs.toList[i]).type (xs[i]).1 := by
            intro i hi hi2 n hn
            have h1 : Wt E t (.agg (xs.map (·.1))) := by rw [← hxe]; exact hwt
            unfold Wt DataW.weights at h1
            rw [hP] at h1
            refine h1 n (DataW.weights_mem_each (j := i) (t := (fs.toList[i]).type) (d := (xs[i]).1) ?_ ?_ n hn)
            · rw [List.getElem?_map, List.getElem?_eq_getElem hi]; rfl
            · rw [List.getElem?_map, List.getElem?_eq_getElem hi2]; rfl
          have := open_fieldsz (spare := spare) (held := held) (enc := enc) (d := d) (fuel := fuel) hE (fun t CS x h hw ho {μ H} hH => ih t CS x h hw d ho hH) fs.toList 0 CS (fun f hf => ho1 f hf) (by rw [hc, hl]) (fun f hf => by
            obtain ⟨i, hi, rfl⟩ := List.mem_iff_getElem.1 hf
            have h1 := mapM_some_get hm i _ (List.getElem?_eq_getElem hi)
            rw [List.getElem?_eq_getElem (by omega : i < xs.length)] at h1
            exact ⟨_, h1, hwf i hi (by omega)⟩) hH
          simp only [List.drop_zero] at this
          obtain ⟨μ', H', vs, a1, a2, a3, a4, a5, a6⟩ := this
          exact ⟨μ', H', vs, a1, a2, a3, by unfold shz; rw [hu]; exact a4, a5, a6⟩
    · cases ho
def shzV (E : Env) (H : Heap) (d t : Nat) (v : Value) : Prop :=
  match und E t with
  | some (.struct _) => ∃ l, v = .agg ⟨l⟩ ∧ shz E H d t l
  | _ => shz E H d t [v]

def shzVs (E : Env) (H : Heap) (d : Nat) : List Nat → List Value → Prop
  | [], vs => vs = []
  | t :: ts, vs => ∃ v us, vs = v :: us ∧ shzV E H d t v ∧ shzVs E H d ts us

theorem shzV_frm {H H' : Heap} (hf : Frm [] H H') {d t : Nat} {v : Value} (h : shzV E H d t v) : shzV E H' d t v := by
  unfold shzV at h ⊢
  split
  · rename_i hu; rw [hu] at h; obtain ⟨l, e, h⟩ := h; exact ⟨l, e, shz_frm hf h⟩
  · rename_i hu
    split at h
    · rename_i hu2; exact (hu _ hu2).elim
    · exact shz_frm hf h

theorem open_argz (hE : E.Ok) {t d : Nat} {v : Value} {x : DataW D} {ps : List MemPlace} (h : DataW.Trod enc E.prog w 0 spare held t v x ps) (hwt : Wt E t x) (hv : Value.okWide E.prog w r bs t v) (ho : okTz E d t = true)
    {μ : Inj} {H : Heap} (hH : HRel E w.heap.size μ H w) : ∃ (μ' : Inj) (H' : Heap) (u : Value), Grow H μ H' μ' ∧ HRel E w.heap.size μ' H' w ∧ VRel μ' u v ∧ shzV E H' d t u ∧ Frm [] H H' := by
  obtain ⟨fuel, h⟩ := h
  obtain ⟨μ', H', vs, g1, h1, r1, s1, f1, o1⟩ := open_cellsz hE fuel t _ _ h hwt d ho hH
  cases d with
  | zero => simp [okTz] at ho
  | succ d =>
  unfold okTz at ho
  split at ho
  · rename_i hu
    have hP := und_ok hE hu
    obtain ⟨b, hb⟩ : ∃ b, v = .bool b := by
      simp only [Value.okWide, hP, Cell.okWide, Cell.ok] at hv
      cases v <;> simp_all
    subst hb
    unfold shz at s1
    rw [hu] at s1
    obtain ⟨b', rfl⟩ := s1
    refine ⟨μ', H', .bool b', g1, h1, ?_, by unfold shzV; rw [hu]; unfold shz; rw [hu]; exact ⟨_, rfl⟩, f1⟩
    cases r1 with
    | cons a b => exact a
  · rename_i k hu
    have hP := und_ok hE hu
    obtain ⟨n, hb⟩ := okWide_int hP hv
    subst hb
    have s1' := s1
    unfold shz at s1
    rw [hu] at s1
    obtain ⟨b', rfl, hw⟩ := s1
    refine ⟨μ', H', .int k b', g1, h1, ?_, by unfold shzV; rw [hu]; exact s1', f1⟩
    cases r1 with
    | cons a b => exact a
  · rename_i e hu
    have hP := und_ok hE hu
    obtain ⟨a, len, cap, hb⟩ := okWide_slice hP hv
    subst hb
    have s1' := s1
    unfold shz at s1
    rw [hu] at s1
    obtain ⟨u, rfl⟩ : ∃ u, vs = [u] := by
      rcases s1 with rfl | ⟨i, cs, rfl, _⟩ <;> exact ⟨_, rfl⟩
    refine ⟨μ', H', u, g1, h1, ?_, by unfold shzV; rw [hu]; exact s1', f1⟩
    cases r1 with
    | cons a b => exact a
  · rename_i fs hu
    have hP := und_ok hE hu
    have hb : ∃ cs, v = .agg cs := by
      simp only [Value.okWide, hP] at hv
      obtain ⟨cs, e, _⟩ := hv
      exact ⟨cs, e⟩
    obtain ⟨cs, rfl⟩ := hb
    exact ⟨μ', H', .agg ⟨vs⟩, g1, h1, .agg r1, by unfold shzV; rw [hu]; exact ⟨vs, rfl, s1⟩, f1⟩
  · cases ho

theorem open_argsz (hE : E.Ok) {d : Nat} : ∀ (ts : List TypeId) (vs : List Value) (xs : List (DataW D)) (ps : List MemPlace), DataW.TrodAll enc E.prog w 0 spare held ts vs xs ps → (∀ n ∈ DataW.weightsEach E.prog ts xs, n ≤ reachBytes) →
    (∀ (j : Nat) t v, ts[j]? = some t → vs[j]? = some v → Value.okWide E.prog w r bs t v) → ts.all (okTz E d) = true → ∀ {μ : Inj} {H : Heap}, HRel E w.heap.size μ H w →
    ∃ (μ' : Inj) (H' : Heap) (us : List Value), HRel E w.heap.size μ' H' w ∧ VRels μ' us vs ∧ shzVs E H' d ts us ∧ Grow H μ H' μ' ∧ Frm [] H H'
  | [], vs, xs, ps, h, _, _, _, μ, H, hH => by
    obtain ⟨rfl, rfl, rfl⟩ := Go.ChangeShapes.trodAll_nil h
    exact ⟨μ, H, [], hH, .nil, rfl, Grow.refl _ _, Frm.refl _ _⟩
  | t :: ts, vs, xs, ps, h, hw, hv, ho, μ, H, hH => by
    obtain ⟨v, vs', x, xs', p, q, rfl, rfl, rfl, h1, h2⟩ := Go.ChangeShapes.trodAll_cons h
    simp only [List.all_cons, Bool.and_eq_true] at ho
    obtain ⟨μ1, H1, u, g1, k1, r1, s1, f1⟩ := open_argz hE h1 (fun n hn => hw n (by simp only [DataW.weightsEach, List.mem_append]; exact .inl hn)) (hv 0 t v rfl rfl) ho.1 hH
    obtain ⟨μ2, H2, us, k2, r2, s2, g2, f2⟩ := open_argsz hE ts vs' xs' q h2 (fun n hn => hw n (by simp only [DataW.weightsEach, List.mem_append]; exact .inr hn)) (fun j t v a b => hv (j + 1) t v (by simpa using a) (by simpa using b)) ho.2 k1
    exact ⟨μ2, H2, u :: us, k2, .cons (r1.mono g2.le) r2, ⟨u, us, rfl, shzV_frm f2 s1, s2⟩, g1.trans g2, f1.trans f2 (by simp)⟩

/-- A law that holds of all arguments of these shapes. -/
theorem law_callsz (hE : E.Ok) (hmix : E.prog.follows .mixedOrders = true) {f : FuncId} {d : Nat} {ts : List TypeId} (hlaw : ∀ H us, shzVs E H d ts us → CA E f us H fun v _ => v = .bool true)
    (ho : ts.all (okTz E d) = true) {vs : Array Value} {xs : List (DataW D)} {ps : List MemPlace} (h : DataW.TrodAll enc E.prog w 0 spare held ts vs.toList xs ps) (hw : (DataW.weightsEach E.prog ts xs).all (· ≤ reachBytes) = true)
    (hv : ∀ (j : Nat) t v, ts[j]? = some t → vs[j]? = some v → Value.okWide E.prog w r bs t v) :
    Calls E.prog f vs w fun e w' => e = .returned (.bool true) ∧ Below w.heap.size w w' := by
  obtain ⟨μ, H, us, h1, h2, h3, _, _⟩ := open_argsz hE ts vs.toList xs ps h (fun n hn => of_decide_eq_true (List.all_eq_true.1 hw n hn)) (fun j t v a b => hv j t v a (by rw [← Array.getElem?_toList]; exact b)) ho (hrel0 E w)
  exact calls_of_CA hE hmix (hlaw H us h3) h1 h2
end
end Go.AS
