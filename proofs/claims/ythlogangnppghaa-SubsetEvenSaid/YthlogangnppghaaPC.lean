/- How many clients each backend has: over whole rounds, at most one a round. -/
import Derived.Test.YthlogangnppghaaPB
import Derived.Test.YthlogangnppghaaF3
set_option linter.unusedVariables false
set_option linter.unusedSimpArgs false
namespace Go.Proofs.Ythlogangnppghaa.M
open Go Go.Proofs.Ythlogangnppghaa.Sl

theorem sum_set : ∀ (l : List Int) (i : Nat) (h : i < l.length) (x : Int), (l.set i x).sum = l.sum + (x - l[i])
  | y :: l, 0, _, x => by simp; omega
  | y :: l, i + 1, h, x => by
    have := sum_set l i (by simpa using h) x
    simp [this]; omega
theorem countP_lt (ids : List Int) (hs : ids.Pairwise (· < ·)) : ∀ (j : Nat) (h : j < ids.length), ids.countP (· < ids[j]) = j := by
  induction ids with
  | nil => intro j h; simp at h
  | cons y l ih =>
    obtain ⟨h1, h2⟩ := List.pairwise_cons.1 hs
    intro j h
    cases j with
    | zero =>
      simp only [List.getElem_cons_zero]
      rw [List.countP_eq_zero]
      intro x hx
      rcases List.mem_cons.1 hx with rfl | hx
      · simp
      · have := h1 x hx; simp; omega
    | succ j =>
      simp only [List.getElem_cons_succ]
      have hj : j < l.length := by simpa using h
      rw [List.countP_cons_of_pos (by simpa using h1 _ (List.getElem_mem hj)), ih h2 j hj]
theorem inj (ids : List Int) (hs : ids.Pairwise (· < ·)) {i j : Nat} (hi : i < ids.length) (hj : j < ids.length) (h : ids[i] = ids[j]) : i = j := by
  have h1 := countP_lt ids hs i hi
  have h2 := countP_lt ids hs j hj
  simp only [h] at h1; omega
theorem search_ok (ids : List Int) (hn : ids.length ≤ 32) (hs : ids.Pairwise (· < ·)) {j : Nat} (h : j < ids.length) : slices_BinarySearch_int_int.f ids ids[j] = some ((j : Int), true) := by
  rw [slices_BinarySearch_int_int.f, if_pos ⟨by omega, hs.imp fun h => by omega⟩, countP_lt ids hs j h]
  have : ids.contains ids[j] = true := by rw [List.contains_iff_mem]; exact List.getElem_mem h
  rw [this]
/-- one client's hand, counted -/
theorem counts_l1 (ids : List Int) (hn : ids.length ≤ 32) (hs : ids.Pairwise (· < ·)) (l : List Int) (hl : l.length ≤ 1024) (hm : ∀ x ∈ l, x ∈ ids) : ∀ (m i : Nat) (out : List Int), i + m = l.length → out.length = ids.length →
    (∀ (j : Nat) (h : j < out.length), 0 ≤ out[j] ∧ out[j] ≤ 1000000 + i) →
    ∃ out', (∀ k, m < k → subset_Counts.l1 k ids l i out = some out') ∧ out'.length = ids.length ∧ out'.sum = out.sum + m ∧ ∀ (j : Nat) (h : j < out'.length) (h2 : j < out.length) (h3 : j < ids.length), out'[j] = out[j] + (l.drop i).count ids[j]
  | 0, i, out, h1, h2, h3 => by
    refine ⟨out, fun k hk => ?_, h2, by simp, fun j h h' h'' => ?_⟩
    · cases k with
      | zero => omega
      | succ k => rw [subset_Counts.l1, if_neg (by omega)]
    · rw [List.drop_of_length_le (by omega)]; simp
  | m + 1, i, out, h1, h2, h3 => by
    have hlt : i < l.length := by omega
    have hr : rd e_i64 l (i : Int) = l[i] := rd_nat _ _ i hlt
    obtain ⟨p, hp, hpe⟩ := List.getElem_of_mem (hm l[i] (List.getElem_mem hlt))
    have hpo : p < out.length := by omega
    have hro : rd e_i64 out (p : Int) = out[p] := rd_nat _ _ p hpo
    have hb := h3 p hpo
    obtain ⟨out', q1, q2, q3, q4⟩ := counts_l1 ids hn hs l hl hm m (i + 1) (out.set p (out[p] + 1)) (by omega) (by simpa using h2) (fun j h => by
      rw [List.getElem_set]
      split
      · omega
      · have := h3 j (by simpa using h); omega)
    refine ⟨out', fun k hk => ?_, q2, ?_, fun j h h' h'' => ?_⟩
    · cases k with
      | zero => omega
      | succ k =>
        rw [subset_Counts.l1, if_pos (by omega), if_pos (by omega), hr, ← hpe, search_ok ids hn hs hp]
        simp only [Option.bind_some, Int.toNat_natCast]
        rw [if_pos (by omega), if_pos (by omega), hro, W_eq (x := (i : Int) + 1) (by omega) (by omega), W_eq (by omega) (by omega)]
        exact q1 k (by omega)
    · rw [q3, sum_set out p hpo]; omega
    · rw [q4 j h (by simpa using h') h'', List.drop_eq_getElem_cons hlt, List.getElem_set, ← hpe]
      rw [List.count_cons]
      by_cases hj : p = j
      · subst hj; simp; omega
      · have : ¬ ids[p] = ids[j] := fun e => hj (inj ids hs hp h'' e)
        simp [hj, this]
theorem count_map (ids : List Int) (hs : ids.Pairwise (· < ·)) {j : Nat} (hj : j < ids.length) : ∀ (b : List Int), (∀ x ∈ b, 0 ≤ x ∧ x < (ids.length : Int)) → (b.map (rd e_i64 ids)).count ids[j] = b.count (j : Int)
  | [], _ => rfl
  | x :: b, h => by
    obtain ⟨h1, h2⟩ := h x (by simp)
    have ih := count_map ids hs hj b (fun y hy => h y (by simp [hy]))
    rw [List.map_cons, List.count_cons, List.count_cons, ih, rd_int e_i64 ids h1 (by omega)]
    congr 1
    by_cases hx : x = j
    · subst hx; simp
    · have : ¬ ids[x.toNat] = ids[j] := fun e => hx (by have := inj ids hs (by omega) hj e; omega)
      simp [hx, this]
theorem block_count (o : List Int) (a s : Nat) (x : Int) : (o.take ((a + 1) * s)).count x = (o.take (a * s)).count x + (block o a s).count x := by
  have : (o.take ((a + 1) * s)).take (a * s) = o.take (a * s) := by
    rw [List.take_take, Nat.min_eq_left]; exact Nat.mul_le_mul_right _ (by omega)
  rw [block]
  conv => lhs; rw [← List.take_append_drop (a * s) (o.take ((a + 1) * s))]
  rw [List.count_append, this]
theorem ord_count {n : Nat} (hn : n ≤ 1024) (seed r : Int) (k : Nat) (j : Nat) : ((ord n seed r).take k).count (j : Int) ≤ 1 := by
  have h1 : ((ord n seed r).take k).count (j : Int) ≤ (ord n seed r).count (j : Int) := (List.take_sublist _ _).count_le _
  have h2 := (ord_perm hn seed r).count_eq (j : Int)
  have h3 : ((List.range n).map Int.ofNat).count (j : Int) ≤ 1 := by
    have : ((List.range n).map Int.ofNat).Nodup := by
      rw [List.nodup_iff_pairwise_ne, List.pairwise_map]
      exact (List.nodup_range (n := n)).imp fun h e => h (Int.ofNat.inj e)
    exact List.nodup_iff_count.1 this _
  omega
/-- the clients one behind the other -/
theorem counts_l0 (ids : List Int) (s C : Nat) (seed : Int) (hn : ids.length ≤ 32) (hs1 : 1 ≤ s) (hsn : s < ids.length) (hs : ids.Pairwise (· < ·)) (hck : ∀ k, 32 < k → subset_dealer_check.f k ⟨ids, s, seed⟩ = some 0) (hC : C ≤ 1000) : ∀ (m c : Nat) (out : List Int), c + m = C → out.length = ids.length →
    (∀ (j : Nat) (h : j < out.length), 0 ≤ out[j] ∧ out[j] ≤ (c / (ids.length / s) : Nat) + ((ord ids.length seed (c / (ids.length / s) : Nat)).take ((c % (ids.length / s)) * s)).count (j : Int)) → out.sum = c * s →
    ∃ out', (∀ k, 60 + m < k → subset_Counts.l0 k ids C s seed c out = some out') ∧ out'.length = ids.length ∧ out'.sum = C * s ∧ ∀ (j : Nat) (h : j < out'.length), 0 ≤ out'[j] ∧ out'[j] ≤ (C / (ids.length / s) : Nat) + ((ord ids.length seed (C / (ids.length / s) : Nat)).take ((C % (ids.length / s)) * s)).count (j : Int)
  | 0, c, out, h1, h2, h3, h4 => by
    obtain rfl : c = C := by omega
    refine ⟨out, fun k hk => ?_, h2, h4, h3⟩
    cases k with
    | zero => omega
    | succ k => rw [subset_Counts.l0, if_neg (by omega)]
  | m + 1, c, out, h1, h2, h3, h4 => by
    have hd : 1 ≤ ids.length / s := (Nat.one_le_div_iff (by omega)).2 (by omega)
    have hdn : ids.length / s ≤ ids.length := Nat.div_le_self _ _
    obtain ⟨l, hof, hperm⟩ := of_ok ids s seed hn hs1 hsn hck (c := c) (by omega)
    have hat : c % (ids.length / s) < ids.length / s := Nat.mod_lt _ (by omega)
    have hm1 : (c % (ids.length / s) + 1) * s ≤ ids.length := by
      have : (c % (ids.length / s) + 1) * s ≤ (ids.length / s) * s := Nat.mul_le_mul_right _ hat
      exact Nat.le_trans this (Nat.div_mul_le_self _ _)
    have hm' : c % (ids.length / s) * s + s = (c % (ids.length / s) + 1) * s := by rw [Nat.add_mul, Nat.one_mul]
    have hcd : c / (ids.length / s) ≤ c := Nat.div_le_self _ _
    have hpo := ord_perm (n := ids.length) (by omega) seed (c / (ids.length / s) : Nat)
    have hol : (ord ids.length seed (c / (ids.length / s) : Nat)).length = ids.length := by rw [hpo.length_eq]; simp
    have hbl : (block (ord ids.length seed (c / (ids.length / s) : Nat)) (c % (ids.length / s)) s).length = s := by
      rw [block, List.length_drop, List.length_take, hol]; omega
    have hbm : ∀ x ∈ block (ord ids.length seed (c / (ids.length / s) : Nat)) (c % (ids.length / s)) s, 0 ≤ x ∧ x < (ids.length : Int) := fun x hx => by
      have h2 := hpo.mem_iff.1 (List.mem_of_mem_take (List.mem_of_mem_drop hx))
      obtain ⟨y, hy, rfl⟩ := List.mem_map.1 h2
      have := List.mem_range.1 hy
      exact ⟨by simp, by simpa using this⟩
    have hll : l.length = s := by rw [hperm.length_eq, List.length_map, hbl]
    have hlm : ∀ x ∈ l, x ∈ ids := fun x hx => by
      obtain ⟨y, hy, rfl⟩ := List.mem_map.1 (hperm.mem_iff.1 hx)
      exact rd_mem e_i64 ids (hbm y hy).1 (hbm y hy).2
    have hbound : ∀ (j : Nat) (h : j < out.length), 0 ≤ out[j] ∧ out[j] ≤ 1000000 + (0 : Nat) := fun j h => by
      have q1 := h3 j h
      have q2 := ord_count (n := ids.length) (by omega) seed (c / (ids.length / s) : Nat) ((c % (ids.length / s)) * s) j
      generalize c / (ids.length / s) = q at hcd q1 q2
      omega
    obtain ⟨out1, p1, p2, p3, p4⟩ := counts_l1 ids hn hs l (by omega) hlm s 0 out (by omega) h2 hbound
    have hval : ∀ (j : Nat) (h : j < out1.length) (h' : j < out.length), out1[j] = out[j] + ((block (ord ids.length seed (c / (ids.length / s) : Nat)) (c % (ids.length / s)) s).count (j : Int) : Nat) := fun j h h' => by
      rw [p4 j h h' (by omega), List.drop_zero, hperm.count_eq, count_map ids hs (by omega) _ hbm]
    obtain ⟨out', q1, q2, q3, q4⟩ := counts_l0 ids s C seed hn hs1 hsn hs hck hC m (c + 1) out1 (by omega) p2 (fun j h => by
      have h' : j < out.length := by omega
      have e1 := hval j h h'
      have e2 := h3 j h'
      have e3 := block_count (ord ids.length seed (c / (ids.length / s) : Nat)) (c % (ids.length / s)) s (j : Int)
      have e4 := ord_count (n := ids.length) (by omega) seed (c / (ids.length / s) : Nat) ((c % (ids.length / s) + 1) * s) j
      rcases Nat.lt_or_ge (c % (ids.length / s) + 1) (ids.length / s) with hlt | hge
      · have d1 : (c + 1) / (ids.length / s) = c / (ids.length / s) := by
          have := Nat.div_add_mod c (ids.length / s)
          refine Nat.div_eq_of_lt_le ?_ ?_
          · rw [Nat.mul_comm]; omega
          · rw [Nat.add_mul, Nat.mul_comm]; omega
        have d2 : (c + 1) % (ids.length / s) = c % (ids.length / s) + 1 := by
          have a1 := Nat.div_add_mod c (ids.length / s)
          have a2 := Nat.div_add_mod (c + 1) (ids.length / s)
          rw [d1] at a2; omega
        rw [d1, d2]
        generalize c / (ids.length / s) = q at *
        omega
      · have d0 : c % (ids.length / s) + 1 = ids.length / s := by omega
        have d1 : (c + 1) / (ids.length / s) = c / (ids.length / s) + 1 := by
          have := Nat.div_add_mod c (ids.length / s)
          refine Nat.div_eq_of_lt_le ?_ ?_
          · rw [Nat.add_mul, Nat.mul_comm]; omega
          · rw [Nat.add_mul, Nat.add_mul, Nat.mul_comm]; omega
        have d2 : (c + 1) % (ids.length / s) = 0 := by
          have a1 := Nat.div_add_mod c (ids.length / s)
          have a2 := Nat.div_add_mod (c + 1) (ids.length / s)
          rw [d1, Nat.mul_add] at a2; omega
        rw [d1, d2]
        simp only [Nat.zero_mul, List.take_zero, List.count_nil]
        generalize c / (ids.length / s) = q at *
        omega) (by rw [p3, h4]; rw [show ((c + 1 : Nat) : Int) = (c : Int) + 1 by omega, Int.add_mul]; omega)
    refine ⟨out', fun k hk => ?_, q2, q3, q4⟩
    cases k with
    | zero => omega
    | succ k =>
      rw [subset_Counts.l0, if_pos (by omega), hof k (by omega)]
      have p1' := p1 k (by omega)
      simp only [Option.bind_some]
      have p1'' : subset_Counts.l1 k ids l 0 out = some out1 := p1'
      rw [p1'']
      simp only [Option.bind_some]
      rw [W_eq (by omega) (by omega)]
      exact q1 k (by omega)
end Go.Proofs.Ythlogangnppghaa.M
