/-
  Slices that grow by append: what is owned for them.
-/
import Derived.Test.YtlkmdcncpdadbaaAs43
namespace Go.AS
open Go.RowKit
set_option linter.unusedVariables false
variable {H H' : Heap} {L M : List Asr}

def addr (b : Option Nat) : Option Addr := b.map fun i => ⟨i, 0, none⟩

/-- A slice from its block's beginning to its end; none: it has none. -/
def gl (es : Nat) (b : Option Nat) (cs : List Value) : Asr := many (match b with | none => [] | some b => [bx b (.cells true es cs)])

theorem gl_some {es b : Nat} {cs : List Value} : Sep H (gl es (some b) cs :: L) ↔ Sep H (bx b (.cells true es cs) :: L) := Sep.many_iff
theorem gl_none {es : Nat} {cs : List Value} : Sep H (gl es none cs :: L) ↔ Sep H L := Sep.many_iff

theorem takeAt_all' (c : List Value) : takeAt c 0 c.length = some c := by simp [takeAt]

theorem gl_get {es b : Nat} {cs : List Value} (h : Sep H (gl es (some b) cs :: L)) : H.get b = some (.cells true es cs) := Sep.get0 (gl_some.1 h)

/-- An append. -/
theorem apd_gl {es : Nat} {b : Option Nat} {cs new : List Value} {bytes len n : Nat} {K : Option Addr → Nat → Heap → Prop} (h : Sep H (gl es b cs :: L)) (hb : b = none → cs = []) (hes : 0 < es) (hlen : cs.length = len * es) (hn : 0 < n)
    (hnew : new.length = n * es) (hby : (len + n) * bytes ≤ 140737488355328) (k : ∀ H' q, Sep H' (gl es (some q) (cs ++ new) :: L) → K (addr (some q)) (len + n) H') : apd H bytes es (addr b) len n new K := by
  cases b with
  | none =>
    have hc := hb rfl
    subst hc
    have hl : len = 0 := by
      simp only [List.length_nil] at hlen
      rcases Nat.eq_zero_or_pos len with h1 | h1
      · exact h1
      · have : 0 < len * es := Nat.mul_pos h1 hes
        omega
    subst hl
    rw [Nat.zero_add] at hby
    refine apd_first hn hby fun j H2 ej e2 => ?_
    have := k H2 j
    rw [Nat.zero_add, List.nil_append] at this
    refine this (gl_some.2 ?_)
    subst ej e2
    exact (gl_none.1 h).new _
  | some b =>
    have h1 := gl_some.1 h
    refine apd_grow (Sep.get0 h1) hn ?_ (by rw [← hlen]; exact takeAt_all' _) hby fun j H2 ej e2 => ?_
    · rw [hlen, Nat.zero_add, Nat.add_mul]
      have : 0 < n * es := Nat.mul_pos hn hes
      omega
    · refine k H2 j (gl_some.2 ?_)
      have h2 := (Sep.put0 h1 .dead).new (.cells true es (cs ++ new))
      rw [← e2, next_set, ← ej] at h2
      exact Sep.rm1 h2

theorem rowOf_bx {es b n : Nat} {w : Bool} {z : Nat} {c cs : List Value} (hg : H.get b = some (.cells w z c)) (hn : 0 < n * es) (hc : takeAt c 0 (n * es) = some cs) : rowOf H es (some ⟨b, 0, none⟩) n = some cs := by
  show (if n * es = 0 then some [] else match H.get b with | some (.cells _ _ c) => takeAt c 0 (n * es) | _ => none) = some cs
  rw [if_neg (by omega), hg]
  exact hc
end Go.AS
