/- What came and what went: numbers of one list that are not in another, each once, rising. -/
import Derived.Test.YthlogangnppghaaSlP
import Derived.Test.YthlogangnppghaaF9
set_option linter.unusedVariables false
set_option linter.unusedSimpArgs false
namespace Go.Proofs.Ythlogangnppghaa.M
open Go Go.Proofs.Ythlogangnppghaa.Sl

theorem index_l0 (l : List Int) (v : Int) (hl : l.length < 9000000000000000000) : ∀ (m i k : Nat), i + m = l.length → m < k → ∃ r, slices_Index_int_int.l0 k l v i = some r ∧ (0 ≤ r ↔ v ∈ l.drop i)
  | 0, i, k + 1, h1, h2 => by
    refine ⟨-1, by rw [slices_Index_int_int.l0, if_neg (by omega)], ?_⟩
    rw [List.drop_of_length_le (by omega)]; simp
  | m + 1, i, k + 1, h1, h2 => by
    have hlt : i < l.length := by omega
    have hr : rd e_i64 l (i : Int) = l[i] := rd_nat _ _ i hlt
    rw [slices_Index_int_int.l0, if_pos (by omega), if_pos (by omega), hr, List.drop_eq_getElem_cons hlt]
    by_cases hv : v = l[i]
    · exact ⟨i, by rw [if_pos hv], ⟨fun _ => by rw [hv]; exact List.mem_cons_self, fun _ => by omega⟩⟩
    · obtain ⟨r, h3, h4⟩ := index_l0 l v hl m (i + 1) k (by omega) (by omega)
      refine ⟨r, by rw [if_neg hv, W_eq (by omega) (by omega)]; exact h3, ?_⟩
      rw [h4, List.mem_cons]
      exact ⟨Or.inr, fun h => h.resolve_left hv⟩
theorem contains_ok (l : List Int) (v : Int) (hl : l.length < 9000000000000000000) {k : Nat} (hk : l.length < k) : slices_Contains_int_int.f k l v = some (decide (v ∈ l)) := by
  obtain ⟨r, h1, h2⟩ := index_l0 l v hl l.length 0 k (by omega) hk
  have h1' : slices_Index_int_int.f k l v = some r := h1
  rw [slices_Contains_int_int.f, h1']
  simp only [Option.bind_some, Option.some.injEq, decide_eq_decide]
  simpa using h2
theorem without_l1 (no z : List Int) (hz : z.length < 9000000000000000000) (hno : no.length < 9000000000000000000) : ∀ (m i j k : Nat) (a : List Int), j + m = z.length → i ≤ j → a.length = z.length → a.drop j = z.drop j → m + no.length < k →
    ∃ (i' : Nat) (a' : List Int), subset_without.l1 k no z i j a = some ((i' : Int), a') ∧ i' ≤ z.length ∧ a'.length = z.length ∧ a'.take i' = a.take i ++ (z.drop j).filter (fun x => !decide (x ∈ no))
  | 0, i, j, k + 1, a, h1, h2, h3, h4, h5 => by
    refine ⟨i, a, by rw [subset_without.l1, if_neg (by omega)], by omega, h3, ?_⟩
    rw [List.drop_of_length_le (by omega)]; simp
  | m + 1, i, j, k + 1, a, h1, h2, h3, h4, h5 => by
    have hlt : j < a.length := by omega
    have hltz : j < z.length := by omega
    have hr : rd e_i64 a (j : Int) = a[j] := rd_nat _ _ j hlt
    have haz : a[j] = z[j] := by
      have e1 := List.drop_eq_getElem_cons hlt
      have e2 := List.drop_eq_getElem_cons hltz
      rw [h4, e2] at e1
      exact (List.cons.inj e1).1.symm
    have hdr : a.drop (j + 1) = z.drop (j + 1) := by
      have e1 := List.drop_eq_getElem_cons hlt
      have e2 := List.drop_eq_getElem_cons hltz
      rw [h4, e2] at e1
      exact (List.cons.inj e1).2.symm
    rw [subset_without.l1, if_pos (by omega), if_pos (by omega), hr, contains_ok no a[j] hno (by omega)]
    simp only [Option.bind_some]
    rw [List.drop_eq_getElem_cons hltz, ← haz]
    by_cases hm : a[j] ∈ no
    · simp only [hm, decide_true, if_true, Option.bind_some]
      rw [W_eq (by omega) (by omega)]
      obtain ⟨i', a', q1, q2, q3, q4⟩ := without_l1 no z hz hno m i (j + 1) k a (by omega) (by omega) h3 hdr (by omega)
      refine ⟨i', a', q1, q2, q3, ?_⟩
      rw [q4, List.filter_cons_of_neg (by simp [hm])]
    · simp only [hm, decide_false, Bool.false_eq_true, if_false]
      rw [if_pos (by omega), if_pos (by omega)]
      simp only [Option.bind_some, Int.toNat_natCast]
      rw [W_eq (by omega) (by omega), W_eq (by omega) (by omega)]
      obtain ⟨i', a', q1, q2, q3, q4⟩ := without_l1 no z hz hno m (i + 1) (j + 1) k (a.set i a[j]) (by omega) (by omega) (by simpa using h3) (by rw [List.drop_set_of_lt (by omega)]; exact hdr) (by omega)
      refine ⟨i', a', q1, q2, q3, ?_⟩
      rw [q4, List.filter_cons_of_pos (by simp [hm]), List.take_succ_eq_append_getElem (by simp; omega), List.take_set_of_le (Nat.le_refl _)]
      simp
theorem without_ok (l no : List Int) (hl : l.length < 17592186044416) (hno : no.length < 17592186044416) {k : Nat} (hk : l.length + no.length + 10 < k) :
    subset_without.f k l no = some (Lib.compact ((l.filter fun x => !decide (x ∈ no)).mergeSort fun a b => decide (a ≤ b))) := by
  have hend : ∀ (z : List Int), z.length < 17592186044416 → ((slices_Sort_int_int.f z).bind fun z55t => ((slices_Compact_int_int.f z55t).bind fun z57t => (some z57t))) = some (Lib.compact (z.mergeSort fun a b => decide (a ≤ b))) := by
    intro z hz
    rw [slices_Sort_int_int.f, if_pos (by omega)]
    simp only [Option.bind_some]
    rw [slices_Compact_int_int.f, if_pos (by rw [List.length_mergeSort]; omega)]
    rfl
  have hl0 : ∀ (m i k : Nat), i + m = l.length → m + no.length + 1 < k → (l.take i).filter (fun x => !decide (x ∈ no)) = l.take i →
      subset_without.l0 k no l i = some (Lib.compact ((l.filter fun x => !decide (x ∈ no)).mergeSort fun a b => decide (a ≤ b))) := by
    intro m
    induction m with
    | zero =>
      intro i k h1 h2 h3
      obtain ⟨k, rfl⟩ : ∃ j, k = j + 1 := ⟨k - 1, by omega⟩
      rw [subset_without.l0, if_neg (by omega), hend l hl]
      rw [List.take_of_length_le (by omega)] at h3
      rw [h3]
    | succ m ih =>
      intro i k h1 h2 h3
      obtain ⟨k, rfl⟩ : ∃ j, k = j + 1 := ⟨k - 1, by omega⟩
      have hlt : i < l.length := by omega
      have hr : rd e_i64 l (i : Int) = l[i] := rd_nat _ _ i hlt
      rw [subset_without.l0, if_pos (by omega), if_pos (by omega), hr, contains_ok no l[i] (by omega) (by omega)]
      simp only [Option.bind_some]
      by_cases hm : l[i] ∈ no
      · simp only [hm, decide_true, if_true]
        rw [if_neg (by omega), W_eq (by omega) (by omega)]
        obtain ⟨i', a', q1, q2, q3, q4⟩ := without_l1 no l (by omega) (by omega) m i (i + 1) k l (by omega) (by omega) rfl rfl (by omega)
        have q1' : subset_without.l1 k no l i ((i : Int) + 1) l = some ((i' : Int), a') := by rw [← q1]; congr 1
        rw [q1']
        simp only [Option.bind_some, Int.toNat_natCast]
        rw [if_pos (by omega), if_pos (by omega), if_pos q2]
        have e1 : (a'.take i' ++ List.replicate (a'.drop i').length e_i64.z).take i' = a'.take i' := by
          rw [List.take_append_of_le_length (by rw [List.length_take]; omega), List.take_take, Nat.min_self]
        have hfl : a'.take i' = l.filter (fun x => !decide (x ∈ no)) := by
          rw [q4, ← h3]
          conv => rhs; rw [← List.take_append_drop i l, List.filter_append, List.drop_eq_getElem_cons hlt, List.filter_cons_of_neg (by simp [hm])]
        have hlen : (a'.take i').length = i' := by rw [List.length_take]; omega
        rw [e1, slices_Sort_int_int.f, if_pos (by omega)]
        simp only [Option.bind_some]
        rw [List.take_of_length_le (by rw [List.length_mergeSort]; omega), slices_Compact_int_int.f, if_pos (by rw [List.length_mergeSort]; omega), hfl]
        rfl
      · simp only [hm, decide_false, Bool.false_eq_true, if_false]
        rw [W_eq (by omega) (by omega)]
        have := ih (i + 1) k (by omega) (by omega) (by
          rw [List.take_succ_eq_append_getElem hlt, List.filter_append, h3, List.filter_cons_of_pos (by simp [hm])]; rfl)
        rw [show ((i : Int) + 1) = ((i + 1 : Nat) : Int) by omega]; exact this
  rw [subset_without.f, slices_Clone_int_int.f, if_pos hl]
  simp only [Option.bind_some]
  exact hl0 l.length 0 k (by omega) (by omega) (by simp)
theorem compact_mem (zs : List Int) (x : Int) : x ∈ Lib.compact zs ↔ x ∈ zs := by
  unfold Lib.compact Lib.compactUpTo
  rw [List.mem_map]
  constructor
  · rintro ⟨j, hj, rfl⟩
    have := List.mem_range.1 (List.mem_filter.1 hj).1
    have hs : j < zs.toArray.size := by simpa using this
    rw [getElem!_pos zs.toArray j hs]; simp
  · intro hx
    obtain ⟨j0, h1, h2⟩ := List.getElem_of_mem hx
    obtain ⟨j, hj, hmin⟩ := least (fun j => ∃ h : j < zs.length, zs[j] = x) j0 ⟨h1, h2⟩
    obtain ⟨hlt, rfl⟩ := hj
    refine ⟨j, List.mem_filter.2 ⟨List.mem_range.2 hlt, ?_⟩, by rw [getElem!_pos zs.toArray j (by simpa using hlt)]; simp⟩
    unfold Lib.keeps
    cases j with
    | zero => simp
    | succ j =>
      have hne : ¬ zs[j] = zs[j + 1] := fun e => by have := hmin j ⟨by omega, e⟩; omega
      simp [getElem!_pos zs.toArray (j + 1) (by simpa using hlt), getElem!_pos zs.toArray j (by simp; omega)]
      first | exact fun e => hne e.symm | exact fun e => hne e | simp [hne, Ne.symm hne]
theorem compact_lt (zs : List Int) (hs : zs.Pairwise (· ≤ ·)) : (Lib.compact zs).Pairwise (· < ·) := by
  unfold Lib.compact Lib.compactUpTo
  rw [List.pairwise_map]
  refine (List.Pairwise.filter _ (List.pairwise_lt_range (n := zs.length))).imp_of_mem ?_
  intro i j hi hj hij
  obtain ⟨hi1, _⟩ := List.mem_filter.1 hi
  obtain ⟨hj1, hk⟩ := List.mem_filter.1 hj
  have hi2 := List.mem_range.1 hi1
  have hj2 := List.mem_range.1 hj1
  have hle : ∀ (a b : Nat) (ha : a < zs.length) (hb : b < zs.length), a ≤ b → zs[a] ≤ zs[b] := fun a b ha hb hab => by
    rcases Nat.lt_or_ge a b with h | h
    · exact List.pairwise_iff_getElem.1 hs a b ha hb h
    · have : a = b := by omega
      subst this; exact Int.le_refl _
  rw [getElem!_pos zs.toArray i (by simpa using hi2), getElem!_pos zs.toArray j (by simpa using hj2)]
  simp only [List.getElem_toArray]
  have h1 := hle i (j - 1) hi2 (by omega) (by omega)
  have h2 := hle (j - 1) j (by omega) hj2 (by omega)
  have hne : ¬ zs[j] = zs[j - 1] := by
    unfold Lib.keeps at hk
    rw [getElem!_pos zs.toArray j (by simpa using hj2), getElem!_pos zs.toArray (j - 1) (by simp; omega)] at hk
    simp at hk
    rcases hk with h | h
    · omega
    · first | exact h | exact fun e => h e.symm
  omega
/-- what a list has that another one hasn't: each once, rising -/
def less (l no : List Int) : List Int := Lib.compact ((l.filter fun x => !decide (x ∈ no)).mergeSort fun a b => decide (a ≤ b))
theorem less_mem (l no : List Int) (x : Int) : x ∈ less l no ↔ x ∈ l ∧ x ∉ no := by
  rw [less, compact_mem, List.mem_mergeSort, List.mem_filter]; simp
theorem less_lt (l no : List Int) : (less l no).Pairwise (· < ·) :=
  compact_lt _ ((List.pairwise_mergeSort (le := fun a b : Int => decide (a ≤ b)) (fun a b c h1 h2 => by simp at *; omega) (fun a b => by simp; omega) _).imp fun h => by simpa using h)
theorem change_ok (old ids : List Int) (h1 : old.length < 17592186044416) (h2 : ids.length < 17592186044416) {k : Nat} (hk : old.length + ids.length + 10 < k) : subset_Change.f k old ids = some (less ids old, less old ids) := by
  rw [subset_Change.f, without_ok ids old h2 h1 (by omega)]
  simp only [Option.bind_some]
  rw [without_ok old ids h1 h2 (by omega)]
  rfl
end Go.Proofs.Ythlogangnppghaa.M
