/- Rows of one's own behind the library's sort and its like: the shelf's contracts in the words of chunks. -/
import Derived.Test.YthlogangnppghaaSlH
import Derived.Shelf.Sort.Plain
import Derived.Shelf.Slices.CompactI
import Derived.Lib.RowBridge
import Derived.Shelf.Slices.In.SortNone
import Derived.Sort.OwnSortedInts
set_option linter.unusedVariables false
set_option linter.unusedSimpArgs false
namespace Go.Proofs.Ythlogangnppghaa.Sl
open Go Go.Shelf Go.Sort Go.RowKit

variable {P : Program} {ρ : Ren} {w w0 w' : World} {cs : List Hp} {pre post : List Hp} {α : Type} {e : En α} {E : TypeId} {A B : Option Addr} {m c : Nat} {l l2 : List α}

theorem own_blk (pre : List Hp) (H : HS w0 (pre ++ own e E A m c l :: post) w) (hm : 0 < m) : ∃ g cur, A = some ⟨g, 0, none⟩ ∧ w.heap[g]? = some (.cells cur E (0, 0)) ∧ m ≤ c ∧ c ≤ maxLen ∧ cur.size = c * e.sz ∧ cur.toList.take (m * e.sz) = l.flatMap e.enc ∧ l.length = m := by
  obtain ⟨h1', h2', dd, hh, ha, -⟩ := SL.pull pre H.sl
  rcases ha.2 with ⟨_, h, _⟩ | ⟨gg, cur, hA, q1, q2, q3, q4, q5⟩
  · omega
  · refine ⟨gg, cur, hA, ?_, q1, q2, q3, q4, ha.1⟩
    have : hpOf w gg = some (.cells cur E (0, 0)) := by rw [hh]; exact un_some (by rw [q5]; simp [one])
    exact this
theorem HS.rowed (pre : List Hp) {g : Nat} (H : HS w0 (pre ++ own e E (some ⟨g, 0, none⟩) m c l :: post) w) (hm : 0 < m) (hg : w.grownBy w' (some g)) {new : Array Value}
    (hb : w'.heap[g]? = some (.cells new E (0, 0))) (hs : new.size = c * e.sz) {l' : List α} (ht : new.toList.take (m * e.sz) = l'.flatMap e.enc) (hl' : l'.length = m) : HS w0 (pre ++ own e E (some ⟨g, 0, none⟩) m c l' :: post) w' := by
  obtain ⟨g1, g2, g3, g4, g5⟩ := hg
  refine ⟨SL.turn H.sl (some g) ?_ (fun k hk hne => g5 k hk (fun e => hne (by rw [e]))) ?_, g1.trans H.os, g2.trans H.tape, g3.trans H.out, Nat.le_trans H.size g4⟩
  · rintro k hk h q
    cases hk
    rcases q.2 with ⟨_, h, _⟩ | ⟨gg, cur, hA, _, _, _, _, q5⟩
    · omega
    · cases hA; rw [q5]; simp [one]
  · rintro h1 q -
    rcases q.2 with ⟨_, h, _⟩ | ⟨gg, cur, hA, q1, q2, q3, q4, q5⟩
    · omega
    · cases hA
      refine ⟨one g (.cells new E (0, 0)), ⟨hl', .inr ⟨g, new, rfl, q1, q2, hs, ht, rfl⟩⟩, fun k o hk => ?_⟩
      simp only [one] at hk
      split at hk
      · rename_i hkg; subst hkg; cases hk; exact ⟨hb, .inl (by rw [q5]; simp [one])⟩
      · cases hk
theorem HS.drewN (H : HS w0 cs w) (n : Nat) : HS w0 cs { w with drawn := w.drawn + n } := ⟨H.sl, H.os, H.tape, H.out, H.size⟩

theorem flat_int {e : En Int} (hz : e.sz = 1) (he : ∀ x, e.enc x = [.int .i64 x]) (l : List Int) : l.flatMap e.enc = l.map (Value.int .i64) := by
  induction l with
  | nil => rfl
  | cons x l ih => rw [List.flatMap_cons, he, ih]; rfl
/-- slices.Sort, of whole numbers -/
theorem sort_ints (Ly : Lays.n189 P ρ) {e : En Int} (hz : e.sz = 1) (he : ∀ x, e.enc x = [.int .i64 x]) (pre : List Hp) {l : List Int} (H : HS w0 (pre ++ own e E A m c l :: post) w) (hsz : l.length < 4611686018427387904) :
    Calls P (ρ.f 189) #[.slice A m c] w fun x w' => x = .returned (.tuple #[]) ∧ HS w0 (pre ++ own e E A m c (l.mergeSort fun x y => decide (x ≤ y)) :: post) w' := by
  have hlm := own_len pre H
  rcases Nat.eq_zero_or_pos m with h0 | hpos
  · subst h0
    have : l = [] := List.eq_nil_of_length_eq_zero hlm
    subst this
    refine (Any.slices_Sort_int_none Ly A c w).mono ?_
    rintro x w' ⟨rfl, rfl⟩
    exact ⟨rfl, by simpa using H⟩
  · obtain ⟨g, cur, rfl, hb, h1, h2, h3, h4, h5⟩ := own_blk pre H hpos
    rw [hz, Nat.mul_one] at h3 h4
    rw [flat_int hz he] at h4
    have hg : g < w.heap.size := (Array.getElem?_eq_some_iff.1 hb).1
    have hh : Holds (Value.int .i64) w g 0 l.toArray := holds_of_blockI hb (by rw [h5]; exact h4)
    have := Any.slices_Sort_int Ly g 0 c l w hh hg hsz
    rw [h5] at this
    refine this.mono ?_
    rintro x w' ⟨rfl, n, os, rfl⟩
    have hlen : (l.mergeSort fun x y => decide (x ≤ y)).length = m := by rw [List.length_mergeSort, h5]
    refine ⟨rfl, HS.rowed pre H hpos (grownBy_sortedI _) (heap_sortedI _ hb) ?_ ?_ hlen⟩
    · rw [hz]; simp [putCells, h3]
    · rw [hz, Nat.mul_one, flat_int hz he]
      rw [← hlen]; exact take_putCellsI cur _ (by rw [hlen]; omega)
/-- slices.Compact, of whole numbers -/
theorem compact_ints (Ly : Lays2.n20 P ρ) {e : En Int} (hz : e.sz = 1) (he : ∀ x, e.enc x = [.int .i64 x]) (pre : List Hp) {l : List Int} (H : HS w0 (pre ++ own e E A m c l :: post) w) (hsz : l.length < 4611686018427387904) :
    Calls P (ρ.f 20) #[.slice A m c] w fun x w' => ∃ Ar nr cr, x = .returned (.slice Ar nr cr) ∧ HS w0 (pre ++ own e E Ar nr cr (Lib.compact l) :: post) w' := by
  have hlm := own_len pre H
  rcases Nat.eq_zero_or_pos m with h0 | hpos
  · subst h0
    have : l = [] := List.eq_nil_of_length_eq_zero hlm
    subst this
    refine (Any.slices_Compact_int_empty Ly A c w).mono ?_
    rintro x w' ⟨rfl, rfl⟩
    exact ⟨_, _, _, rfl, by simpa [Lib.compact, Lib.compactUpTo] using H⟩
  · obtain ⟨g, cur, rfl, hb, h1, h2, h3, h4, h5⟩ := own_blk pre H hpos
    rw [hz, Nat.mul_one] at h3 h4
    rw [flat_int hz he] at h4
    have hh : Holds (Value.int .i64) w g 0 l.toArray := holds_of_blockI hb (by rw [h5]; exact h4)
    have := Any.slices_Compact_int Ly g 0 c l w hh (by omega) (by omega)
    rw [h5] at this
    refine this.mono ?_
    rintro x w' ⟨rfl, n, rfl⟩
    have hcl := Lib.compact_length_le l
    have hlen : (Lib.compact l ++ List.replicate (m - (Lib.compact l).length) (0 : Int)).length = m := by rw [List.length_append, List.length_replicate]; omega
    have k1 := grownBy_sortedI (w := w) (g := g) (n := n) (os := #[]) (Lib.compact l ++ List.replicate (m - (Lib.compact l).length) (0 : Int)).toArray
    have k2 := heap_sortedI (n := n) (os := #[]) (Lib.compact l ++ List.replicate (m - (Lib.compact l).length) (0 : Int)).toArray hb
    rw [grow_empty] at k1 k2
    have HH := HS.rowed pre H hpos k1 k2 (l' := Lib.compact l ++ List.replicate (m - (Lib.compact l).length) (0 : Int)) (by rw [hz]; simp [putCells, h3]) (by
      rw [hz, Nat.mul_one, flat_int hz he]
      have hT := take_putCellsI cur (Lib.compact l ++ List.replicate (m - (Lib.compact l).length) (0 : Int)) (by rw [hlen]; omega)
      rw [hlen] at hT; exact hT) hlen
    have HH2 := HS.shrink pre HH (q := (Lib.compact l).length) (by omega)
    rw [List.take_left' rfl] at HH2
    exact ⟨_, _, _, rfl, HH2⟩
end Go.Proofs.Ythlogangnppghaa.Sl
