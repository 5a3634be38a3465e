/- What comes in, read: a row of whole numbers as the calls read it. -/
import Derived.Test.YthlogangnppghaaSlP
set_option linter.unusedVariables false
set_option linter.unusedSimpArgs false
namespace Go.Proofs.Ythlogangnppghaa.Sl
open Go

def IsRow (k : IntKind) (w : World) (a : Option Addr) (len cap : Nat) (zs : List Int) : Prop :=
  (a = none ∧ len = 0 ∧ cap = 0 ∧ zs = []) ∨
  ∃ x, a = some x ∧ len ≤ cap ∧ cap ≤ maxLen ∧ zs.length = cap ∧ (∀ i, i < zs.length → w.cell? (x.add i) = some (.int k (zs.getD i 0))) ∧ ∀ n ∈ zs, (Lit.int k n).wf = true
theorem IsRow.rd {k : IntKind} {e : En Int} (hz : e.sz = 1) (he : ∀ x, e.enc x = [.int k x]) {w : World} {a : Option Addr} {len cap : Nat} {zs : List Int} (h : IsRow k w a len cap zs) : Rd e (hpOf w) a len cap (zs.take len) := by
  rcases h with ⟨rfl, rfl, rfl, rfl⟩ | ⟨x, rfl, h1, h2, h3, h4, h5⟩
  · exact rd_nil e _
  · refine ⟨by rw [List.length_take]; omega, h1, h2, fun hpos => ?_⟩
    have h0 := h4 0 (by omega)
    have hspot : x.spot = none := by have := World.cell?_spot h0; simpa [Addr.add] using this
    obtain ⟨b, o, spot⟩ := x
    simp only at hspot
    subst hspot
    refine ⟨b, o, rfl, fun i j v hi hv => ?_⟩
    rw [he] at hv
    cases j with
    | succ j => simp at hv
    | zero =>
      simp only [List.getElem?_cons_zero, Option.some.injEq] at hv
      subst hv
      have := h4 i (by omega)
      rw [Addr.add_mid, cell_hcell] at this
      rw [hz, Nat.mul_one, Nat.add_zero, this]
      simp only [List.getD_eq_getElem?_getD, List.getElem?_take, hi, if_true]
      rw [List.getElem?_eq_getElem (by omega)]; rfl
theorem IsRow.wf {k : IntKind} {w : World} {a : Option Addr} {len cap : Nat} {zs : List Int} (h : IsRow k w a len cap zs) : ∀ n ∈ zs.take len, (Lit.int k n).wf = true := by
  rcases h with ⟨rfl, rfl, rfl, rfl⟩ | ⟨x, rfl, h1, h2, h3, h4, h5⟩
  · simp
  · exact fun n hn => h5 n (List.mem_of_mem_take hn)
theorem IsRow.len {k : IntKind} {w : World} {a : Option Addr} {len cap : Nat} {zs : List Int} (h : IsRow k w a len cap zs) : (zs.take len).length = len := by
  rcases h with ⟨rfl, rfl, rfl, rfl⟩ | ⟨x, rfl, h1, h2, h3, h4, h5⟩
  · rfl
  · rw [List.length_take]; omega
end Go.Proofs.Ythlogangnppghaa.Sl
