/- Slices that are made: literals, append, make; cuts of slices. -/
import Derived.Test.YthlogangnppghaaSlD
set_option linter.unusedVariables false
set_option linter.unusedSimpArgs false
namespace Go.Proofs.Ythlogangnppghaa.Sl
open Go

variable {r : Option Nat} {P : Program} {n : Nat} {D : List Deferred} {L : List (Nat × Value)} {a : Act} {w w0 w' : World} {ops : Array Oper} {Q : Exit → Act → World → Prop} {rest : List Oper}
  {o : Oper} {d : Nat} {v : Value} {cs : List Hp} {pre post : List Hp} {k : Nat} {ty : TypeId} {ps : String} {af : Array Edge} {α : Type} {e : En α} {E : TypeId} {A B : Option Addr} {m c c2 : Nat} {l l2 : List α}

theorem own_new {b : Nat} {cur : Array Value} (hl : l.length = m) (hc : m ≤ c) (hm : c ≤ maxLen) (hs : cur.size = c * e.sz) (ht : cur.toList.take (m * e.sz) = l.flatMap e.enc) :
    ∀ h, (fun h : Heap => h = one b (.cells cur E (0, 0))) h → own e E (some ⟨b, 0, none⟩) m c l h := fun h q => ⟨hl, .inr ⟨b, cur, rfl, hc, hm, hs, ht, q⟩⟩

/-! ### literals -/
theorem setAll (off : Nat) : ∀ (vs : List Value) (j : Nat) (cur : Array Value), off + j + vs.length ≤ cur.size →
    ((vs.zipIdx j).foldl (fun (cs : Array Value) (p : Value × Nat) => cs.setIfInBounds (off + p.2) p.1) cur).toList = cur.toList.take (off + j) ++ vs ++ cur.toList.drop (off + j + vs.length)
  | [], j, cur, _ => by simp
  | v :: vs, j, cur, h => by
    simp only [List.length_cons] at h
    rw [List.zipIdx_cons, List.foldl_cons, setAll off vs (j + 1) _ (by simp; omega)]
    simp only [Array.toList_setIfInBounds]
    have h1 : off + j < cur.toList.length := by rw [Array.length_toList]; omega
    have e1 : (cur.toList.set (off + j) v).take (off + (j + 1)) = cur.toList.take (off + j) ++ [v] := by
      rw [show off + (j + 1) = (off + j) + 1 from rfl, List.take_succ_eq_append_getElem (by simpa using h1), List.take_set_of_le (Nat.le_refl _)]
      simp
    have e2 : (cur.toList.set (off + j) v).drop (off + (j + 1) + vs.length) = cur.toList.drop (off + j + (vs.length + 1)) := by
      rw [List.drop_set_of_lt (by omega)]; congr 1; omega
    rw [e1, e2]; simp
def idx (k : Nat) : List Value → List (Nat × Value)
  | [] => []
  | v :: r => (k, v) :: idx (k + 1) r
theorem fill_row (e : En α) : ∀ (vs : List Value) (xs : List α) (k : Nat) (cur : Array Value), vs.map (·.cells.toList) = xs.map e.enc → cur.size = (k + xs.length) * e.sz →
    ∃ out, Instr.fill (fun i => some (i * e.sz, e.sz)) cur (idx k vs) = some out ∧ out.toList = cur.toList.take (k * e.sz) ++ xs.flatMap e.enc
  | [], [], k, cur, _, hs => ⟨cur, rfl, by simp at hs ⊢; rw [List.take_of_length_le (by rw [Array.length_toList]; omega)]⟩
  | [], _ :: _, _, _, h, _ => by simp at h
  | _ :: _, [], _, _, h, _ => by simp at h
  | v :: vs, x :: xs, k, cur, h, hs => by
    simp only [List.map_cons, List.cons.injEq] at h
    have hv : v.cells.size = e.sz := by rw [← Array.length_toList, h.1, e.len]
    have hle : k * e.sz + e.sz ≤ cur.size := by
      rw [hs]; have : (k + 1) * e.sz ≤ (k + (x :: xs).length) * e.sz := Nat.mul_le_mul_right _ (by simp)
      rwa [Nat.add_mul, Nat.one_mul] at this
    have hf : (v.cells.zipIdx.foldl (fun (cs : Array Value) (p : Value × Nat) => cs.setIfInBounds (k * e.sz + p.2) p.1) cur).toList = cur.toList.take (k * e.sz) ++ e.enc x ++ cur.toList.drop (k * e.sz + e.sz) := by
      rw [← Array.foldl_toList, Array.toList_zipIdx, h.1, setAll (k * e.sz) (e.enc x) 0 cur (by rw [e.len]; omega), e.len]; simp
    obtain ⟨out, h1, h2⟩ := fill_row e vs xs (k + 1) (v.cells.zipIdx.foldl (fun (cs : Array Value) (p : Value × Nat) => cs.setIfInBounds (k * e.sz + p.2) p.1) cur) h.2
      (by rw [← Array.length_toList, hf]; simp only [List.length_append, List.length_take, List.length_drop, Array.length_toList, e.len]; simp at hs; rw [Nat.min_eq_left (by omega)]
          have : k + (xs.length + 1) = k + 1 + xs.length := by omega
          rw [this] at hs; omega)
    refine ⟨out, ?_, ?_⟩
    · simp only [idx, Instr.fill]
      rw [if_neg (by simp [hv]; omega)]
      exact h1
    · rw [h2, hf]
      have : (k + 1) * e.sz = (cur.toList.take (k * e.sz) ++ e.enc x).length := by
        rw [List.length_append, List.length_take, Array.length_toList, e.len, Nat.add_mul]; rw [Nat.min_eq_left (by omega)]; omega
      rw [this, List.take_left' rfl]; simp
theorem r_lit {T : TypeId} {parts : List (Nat × Operand)} {y : Nat} {g : Bool} {z : List Value} {vs : List Value} (S : Sl n D L a) (H : HS w0 cs w) (ht : slE P T = some E) (hE : tyI P E = some (g, e.sz, y, z)) (hz : z.length = e.sz)
    (he : evparts L parts = some (idx 0 vs)) (hv : vs.map (·.cells.toList) = l.map e.enc) (hl : l.length = m) (hm : Nat.ble (m * e.sz) 16777216 = true) (hd : Nat.blt d n = true)
    (kk : ∀ b a' w', Sl n D ((d, .slice (some ⟨b, 0, none⟩) m m) :: L) a' → HS w0 (own e E (some ⟨b, 0, none⟩) m m l :: cs) w' → WL r P ops Q rest a' w') :
    WL r P ops Q (⟨some d, .buildSlice T m parts.toArray, ty, ps, af, none⟩ :: rest) a w := by
  have hm' := Nat.le_of_ble_eq_true hm
  have hu := slE_open ht
  obtain ⟨d0, i, zv, q1, q2, q3, q4, q5, q6, q7⟩ := tyI_open hE
  have hz0 : (zeroValue E).run P w = .ok zv w := by simp [zeroValue, typeInfo, program, Sem.run_bind, Sem.run, Result.andThen, q3, q6]
  obtain ⟨Z, hZ⟩ : ∃ Z : Array Value, Z = if m * e.sz = 0 then #[] else zv.cells := ⟨_, rfl⟩
  obtain ⟨out, h1, h2⟩ := fill_row e vs l 0 ((Array.range (m * e.sz)).map (Z[· % Z.size]!)) hv (by simp [hl])
  have hout : out.toList = l.flatMap e.enc := by rw [h2]; simp
  have hosz : out.size = m * e.sz := by rw [← Array.length_toList, hout, flat_len, hl]
  have hparts : (parts.toArray.map fun (i, x) => (i, a.eval x)).toList = idx 0 vs := by rw [← S.evp he]; simp
  refine op_ok S rfl (by intro c h; cases h) rfl (blt_lt hd) (v := .slice (some ⟨w.heap.size, 0, none⟩) m m) (w' := w.alloc (.cells out E)) ?_ fun a' S' => kk _ a' _ S' ?_
  · have hsz : (sizeOf E).run P w = .ok e.sz w := by simp [sizeOf, typeInfo, program, Sem.run_bind, Sem.run, Result.andThen, q3, q4]
    simp only [execOp, Instr.buildSlice, Sem.run_bind, run_underlying hu, Result.andThen_ok, hsz]
    rw [if_neg (by omega)]
    by_cases hme : m * e.sz = 0
    · rw [if_pos hme] at hZ ⊢
      simp only [Sem.run_bind, Sem.run_pure, Result.andThen_ok]
      rw [hparts, ← hZ]
      simp only [h1, Sem.run_bind, newRow, newObj, Sem.run_pure]
      simp [Sem.run, Result.andThen]
    · rw [if_neg hme] at hZ ⊢
      simp only [Sem.run_bind, Sem.run_pure, Result.andThen_ok, hz0]
      rw [hparts, ← hZ]
      simp only [h1, Sem.run_bind, newRow, newObj, Sem.run_pure]
      simp [Sem.run, Result.andThen]
  · refine (H.alloc (.cells out E)).map fun q => q.head_mono ?_
    have hml : m ≤ maxLen := by
      have : m * 1 ≤ m * e.sz := Nat.mul_le_mul_left _ e.pos
      unfold maxLen; omega
    exact own_new hl (Nat.le_refl _) hml hosz (by rw [← hosz, hout]; rw [List.take_of_length_le]; rw [← hout, Array.length_toList]; exact Nat.le_refl _)

/-! ### append -/
theorem run_app (P : Program) (w : World) {T E : TypeId} (ty : TypeId) {g : Bool} {y : Nat} {z : List Value} (ht : slE P T = some E) (hE : tyI P E = some (g, e.sz, y, z)) (hz : z.length = e.sz)
    (H : HS w0 (pre ++ own e E A m c l :: post) w) (R : Rd e (hpOf w) B k c2 l2) (hlim : (m + k) * y ≤ 140737488355328) (hml : m + k ≤ maxLen) :
    ∃ A' c' w', (Builtin.append_ #[T, T] ty #[.slice A m c, .slice B k c2]).run P w = .ok (.slice A' (m + k) c') w' ∧ HS w0 (pre ++ own e E A' (m + k) c' (l ++ l2) :: post) w' := by
  obtain ⟨d0, i, zv, q1, q2, q3, q4, q5, q6, q7⟩ := tyI_open hE
  have hu := slE_open ht
  have hzs : zv.cells.size = e.sz := by rw [← Array.length_toList, q7, hz]
  have hlm := own_len pre H
  by_cases hk : k = 0
  · -- nothing is appended
    subst hk
    have hl2 : l2 = [] := List.eq_nil_of_length_eq_zero R.1
    subst hl2
    have hle := own_le pre H
    refine ⟨A, c, w, ?_, by simpa using H⟩
    have hfc : (Builtin.firstCells e.sz 0 (.slice B 0 c2)).run P w = .ok #[] w := by cases B <;> simp [Builtin.firstCells, loadCells, loadCellsFrom, Sem.run]
    have hA : (match A with | some a => storeCells (a.add (m * e.sz)) ([] : List Value) | none => pure ()).run P w = .ok () w := by cases A <;> simp [storeCells, Sem.run]
    simp [Builtin.append_, Sem.run_bind, run_underlying hu, Sem.run, Result.andThen, sizeOf, typeInfo, program, q3, q4, Builtin.lenOf, hle.1, hfc]
    cases A <;> simp [storeCells, Sem.run]
  · obtain ⟨b, q, hB, hrd⟩ := R.2.2.2 (by omega)
    subst hB
    have hnews : ∀ j u, (l2.flatMap e.enc)[j]? = some u → w.cell? ((⟨b, q, none⟩ : Addr).add j) = some u := fun j u hj => by
      have hjl : j < k * e.sz := by have := (List.getElem?_eq_some_iff.1 hj).1; rwa [flat_len, R.1] at this
      have hd : j / e.sz < k := Nat.div_lt_of_lt_mul (by rwa [Nat.mul_comm] at hjl)
      have hmd : j % e.sz < e.sz := Nat.mod_lt _ e.pos
      have hj2 : j = j / e.sz * e.sz + j % e.sz := by rw [Nat.mul_comm]; exact (Nat.div_add_mod j e.sz).symm
      rw [hj2, flat_get e l2 _ _ (by rw [R.1]; exact hd) hmd] at hj
      rw [Addr.add_mid, cell_hcell]
      have := hrd _ _ _ hd hj
      rwa [Nat.add_assoc, ← hj2] at this
    have hl2l : (l2.flatMap e.enc).length = k * i.size := by rw [flat_len, R.1, q4]
    have h1 : ∀ u ∈ l2.flatMap e.enc, u.oneCell' = true := fun u hu => by
      obtain ⟨x, _, hx⟩ := List.mem_flatMap.1 hu
      exact (List.all_eq_true.1 (e.one x)) u hx
    obtain ⟨h1', h2', dd, hh, ha, -⟩ := SL.pull pre H.sl
    have key : ∀ (old : Nat) (xs : List Value), xs = l.flatMap e.enc → old < m + k →
        HS w0 (pre ++ own e E (some ⟨w.heap.size, 0, none⟩) (m + k) (grownCap w (m + k) old E) (l ++ l2) :: post) (w.drew.alloc (.cells (xs.toArray ++ (l2.flatMap e.enc).toArray ++ Builtin.zeroCells zv.cells (grownCap w (m + k) old E - (m + k))) E)) := by
      intro old xs hxs ho
      have hge := grownCap_ge w (m + k) old E
      have hcm : grownCap w (m + k) old E ≤ maxLen := grownCap_le_maxLen w (m + k) old E hml
      have H1 := (H.map (fun q => SL.dropAt pre q)).drew
      have H2 := H1.alloc (.cells (xs.toArray ++ (l2.flatMap e.enc).toArray ++ Builtin.zeroCells zv.cells (grownCap w (m + k) old E - (m + k))) E)
      refine H2.map fun q => SL.push pre (q.head_mono ?_)
      refine own_new (by simp [hlm, R.1]) hge hcm ?_ ?_
      · simp only [Array.size_append, List.size_toArray, size_zeroCells, hzs, hxs, flat_len, hlm, R.1, ← Nat.add_mul]
        congr 1; omega
      · simp only [Array.toList_append, List.flatMap_append, hxs]
        have : (m + k) * e.sz = (l.flatMap e.enc ++ l2.flatMap e.enc).length := by rw [List.length_append, flat_len, flat_len, hlm, R.1, Nat.add_mul]
        rw [this, List.take_left' rfl]
    rcases ha.2 with ⟨hA, rfl, rfl⟩ | ⟨gg, cur, rfl, p1, p2, p3, p4, p5⟩
    · have hl0 : l = [] := List.eq_nil_of_length_eq_zero hlm
      subst hl0
      rcases A with _ | A0
      · have hr := run_append_nil (P := P) w T ty E i zv hu q3 q6 ⟨b, q, none⟩ k c2 (l2.flatMap e.enc) hl2l hnews (by omega) (by unfold maxLen at hml; omega) (by rw [q5]; simp only [Nat.zero_add] at hlim; omega)
        have hK := key 0 [] (by simp) (by omega)
        simp only [Nat.zero_add, List.nil_append] at hK ⊢
        exact ⟨_, _, _, hr, by simpa using hK⟩
      · have hr := run_append_grow (P := P) w T ty E i zv hu q3 q6 A0 0 0 [] (by simp) (by simp) ⟨b, q, none⟩ k c2 (l2.flatMap e.enc) hl2l hnews (by omega) (by unfold maxLen at hml; omega)
          (growslice_fits (by omega) (by rw [q5]; exact hlim))
        exact ⟨_, _, _, hr, key 0 [] (by simp) (by omega)⟩
    · have hgg : w.heap[gg]? = some (.cells cur E (0, 0)) := by
        have : hpOf w gg = some (.cells cur E (0, 0)) := by rw [hh]; exact un_some (by rw [p5]; simp [one])
        exact this
      by_cases hroom : m + k ≤ c
      · have hfit : m * i.size + (l2.flatMap e.enc).length ≤ cur.size := by rw [hl2l, p3, q4, ← Nat.add_mul]; exact Nat.mul_le_mul_right _ hroom
        have hr := run_append_room (P := P) w T ty E i hu q3 gg m c cur hgg ⟨b, q, none⟩ k c2 (l2.flatMap e.enc) hl2l hnews h1 hroom hfit
        refine ⟨_, _, _, hr, HS.setRow H hgg fun h qq => ?_⟩
        rcases qq.2 with ⟨_, h, h'⟩ | ⟨g2, cur2, hA, _, _, _, _, q9⟩
        · omega
        · cases hA
          refine ⟨by rw [q9]; simp [one], by simp [hlm, R.1], .inr ⟨gg, (cur.toList.take (m * i.size) ++ l2.flatMap e.enc ++ cur.toList.drop (m * i.size + (l2.flatMap e.enc).length)).toArray, rfl, hroom, p2, ?_, ?_, ?_⟩⟩
          · simp only [List.size_toArray, List.length_append, List.length_take, List.length_drop, Array.length_toList, p3] at hfit ⊢
            omega
          · simp only [q4, p4, List.flatMap_append]
            have : (m + k) * e.sz = (l.flatMap e.enc ++ l2.flatMap e.enc).length := by rw [List.length_append, flat_len, flat_len, hlm, R.1, Nat.add_mul]
            rw [this, List.take_left' rfl]
          · rw [q9]; funext s; simp only [upd, one]; split <;> rfl
      · have holds : ∀ j u, (l.flatMap e.enc)[j]? = some u → w.cell? ((⟨gg, 0, none⟩ : Addr).add j) = some u := fun j u hj => by
          rw [Addr.add_mid, Nat.zero_add, cell_of_row w gg j cur E (0, 0) hgg]
          rw [← p4, List.getElem?_take] at hj
          split at hj
          · simpa using hj
          · cases hj
        have hr := run_append_grow (P := P) w T ty E i zv hu q3 q6 ⟨gg, 0, none⟩ m c (l.flatMap e.enc) (by rw [flat_len, hlm, q4]) holds ⟨b, q, none⟩ k c2 (l2.flatMap e.enc) hl2l hnews (by omega) (by unfold maxLen at hml; omega)
          (growslice_fits (by omega) (by rw [q5]; exact hlim))
        exact ⟨_, _, _, hr, key c _ rfl (by omega)⟩
theorem r_append (pre : List Hp) {T : TypeId} {x u : Operand} {y k : Nat} {g : Bool} {z : List Value} (S : Sl n D L a) (H : HS w0 (pre ++ own e E A m c l :: post) w) (R : Rd e (hpOf w) B k c2 l2)
    (hx : evl L x = some (.slice A m c)) (hu : evl L u = some (.slice B k c2)) (ht : slE P T = some E) (hE : tyI P E = some (g, e.sz, y, z)) (hz : z.length = e.sz) (hlim : l.length + l2.length < 140737488355328 / y) (hy : Nat.blt 0 y = true) (hd : Nat.blt d n = true)
    (kk : ∀ A' c' a' w', Sl n D ((d, .slice A' (m + k) c') :: L) a' → HS w0 (pre ++ own e E A' (m + k) c' (l ++ l2) :: post) w' → WL r P ops Q rest a' w') :
    WL r P ops Q (⟨some d, .call { callee := .builtin .append, args := #[x, u], argTypes := #[T, T] }, ty, ps, af, none⟩ :: rest) a w := by
  have hy' := blt_lt hy
  have hl := own_len pre H
  rw [hl, R.1] at hlim
  have h1 : (m + k) * y ≤ 140737488355328 := by
    have := Nat.mul_le_mul_right y (Nat.le_of_lt hlim)
    exact Nat.le_trans this (Nat.div_mul_le_self _ _)
  have h2 : m + k ≤ maxLen := by
    have : (m + k) * 1 ≤ (m + k) * y := Nat.mul_le_mul_left _ hy'
    unfold maxLen; omega
  obtain ⟨A', c', w', hr, hH⟩ := run_app (e := e) P w ty ht hE hz H R h1 h2
  refine op_ok S rfl (by intro c h; cases h) rfl (blt_lt hd) (w' := w') ?_ fun a' S' => kk A' c' a' w' S' hH
  simp [execOp, resolve, invoke, builtin, S.ev hx, S.ev hu, Sem.run_bind, hr, Sem.run, Result.andThen]

/-! ### make -/
theorem made_flat (e : En α) {zv : Array Value} (hz : zv.toList = e.enc e.z) (k : Nat) : (madeCells zv (k * e.sz)).toList = (List.replicate k e.z).flatMap e.enc := by
  have hzs : zv.size = e.sz := by rw [← Array.length_toList, hz, e.len]
  apply List.ext_getElem?
  intro j
  by_cases hj : j < k * e.sz
  · have hd : j / e.sz < k := Nat.div_lt_of_lt_mul (by rwa [Nat.mul_comm] at hj)
    have hmd : j % e.sz < e.sz := Nat.mod_lt _ e.pos
    have hj2 : j = j / e.sz * e.sz + j % e.sz := by rw [Nat.mul_comm]; exact (Nat.div_add_mod j e.sz).symm
    conv => rhs; rw [hj2]
    rw [flat_get e _ _ _ (by simpa using hd) hmd]
    have : (List.replicate k e.z).getD (j / e.sz) e.z = e.z := by rw [List.getD_eq_getElem?_getD, List.getElem?_replicate]; split <;> rfl
    rw [this, ← hz]
    simp [madeCells, hj, hzs]
    rw [getElem!_pos zv _ (by rw [hzs]; exact hmd)]
    simp [hzs, hmd]
  · rw [List.getElem?_eq_none, List.getElem?_eq_none]
    · rw [flat_len]; simp; omega
    · rw [Array.length_toList, size_madeCells]; omega
theorem r_make {T : TypeId} {x u : Operand} {y : Nat} {g : Bool} {z : List Value} {k : Int} (S : Sl n D L a) (H : HS w0 cs w) (hx : evl L x = some (.int .i64 k)) (hu : evl L u = some (.int .i64 k)) (ht : slE P T = some E) (hE : tyI P E = some (g, e.sz, y, z))
    (hz : z = e.enc e.z) (h0 : 0 ≤ k) (hlim : k.toNat < 140737488355328 / y) (hy : Nat.blt 0 y = true) (hd : Nat.blt d n = true)
    (kk : ∀ b a' w', Sl n D ((d, .slice (some ⟨b, 0, none⟩) k.toNat k.toNat) :: L) a' → HS w0 (own e E (some ⟨b, 0, none⟩) k.toNat k.toNat (List.replicate k.toNat e.z) :: cs) w' → WL r P ops Q rest a' w') :
    WL r P ops Q (⟨some d, .makeSlice T x u, ty, ps, af, none⟩ :: rest) a w := by
  obtain ⟨d0, i, zv, q1, q2, q3, q4, q5, q6, q7⟩ := tyI_open hE
  have hu' := slE_open ht
  have hy' := blt_lt hy
  have h1 : k.toNat * y ≤ 140737488355328 := Nat.le_trans (Nat.mul_le_mul_right y (Nat.le_of_lt hlim)) (Nat.div_mul_le_self _ _)
  have h2 : k.toNat ≤ maxLen := by
    have : k.toNat * 1 ≤ k.toNat * y := Nat.mul_le_mul_left _ hy'
    unfold maxLen; omega
  have hb : (i.bytes : Int) * k ≤ 281474976710656 := by
    have h3 : ((y * k.toNat : Nat) : Int) ≤ 281474976710656 := by rw [Nat.mul_comm]; omega
    rw [Int.natCast_mul, Int.toNat_of_nonneg h0] at h3; rwa [q5]
  have hr := run_make (P := P) w T E i zv hu' q3 q6 .i64 .i64 k k h0 (Int.le_refl _) hb (by unfold maxLen at h2; omega)
  refine op_ok S rfl (by intro c h; cases h) rfl (blt_lt hd) (w' := w.alloc (.cells (madeCells zv.cells (k.toNat * i.size)) E)) (v := .slice (some ⟨w.heap.size, 0, none⟩) k.toNat k.toNat) ?_ fun a' S' => kk _ a' _ S' ?_
  · simp [execOp, S.ev hx, S.ev hu, Sem.run_bind, hr, Sem.run, Result.andThen]
  · have hm := made_flat e (zv := zv.cells) (by rw [q7, hz]) k.toNat
    refine (H.alloc _).map fun q => q.head_mono (own_new (by simp) (Nat.le_refl _) h2 (by rw [size_madeCells, q4]) ?_)
    rw [q4, hm, List.take_of_length_le]
    rw [flat_len]; simp

/-! ### cuts -/
def cutA (A : Option Addr) (c sz lo : Nat) : Option Addr := if c = lo then A else A.map (·.add (lo * sz))
theorem r_cut {T : TypeId} {x : Operand} {lo hi : Option Operand} {y : Nat} {g : Bool} {sz : Nat} {z : List Value} (S : Sl n D L a) (hx : evl L x = some (.slice A m c)) (ht : slE P T = some E) (hE : tyI P E = some (g, sz, y, z))
    (p q : Int) (hlo : (match lo with | some u => evl L u | none => some (.int .i64 0)) = some (.int .i64 p)) (hhi : (match hi with | some u => evl L u | none => some (.int .i64 m)) = some (.int .i64 q))
    (h0 : 0 ≤ p) (h1 : p ≤ q) (h2 : q ≤ c) (hmc : m ≤ c) (hd : Nat.blt d n = true)
    (kk : ∀ a', Sl n D ((d, .slice (cutA A c sz p.toNat) (q.toNat - p.toNat) (c - p.toNat)) :: L) a' → WL r P ops Q rest a' w) :
    WL r P ops Q (⟨some d, .slice T x lo hi none, ty, ps, af, none⟩ :: rest) a w := by
  have hu := slE_open ht
  obtain ⟨d0, i, zv, q1, q2, q3, q4, q5, q6, q7⟩ := tyI_open hE
  refine op_ok S rfl (by intro c h; cases h) rfl (blt_lt hd) (w' := w) ?_ kk
  have e1 : (Instr.sliceBounds true m c (lo.map a.eval) (hi.map a.eval) none).run P w = .ok (p.toNat, q.toNat, c) w := by
    cases lo with
    | none =>
      simp only [Option.some.injEq, Value.int.injEq, true_and] at hlo; subst hlo
      cases hi with
      | none => simp only [Option.some.injEq, Value.int.injEq, true_and] at hhi; subst hhi; simp [Instr.sliceBounds, Sem.run_bind, Sem.run, Result.andThen]
      | some u =>
        have := S.ev hhi
        simp [Instr.sliceBounds, Instr.sliceBound, asIntOf, this, Sem.run_bind, Sem.run, Result.andThen, h1, h2]
    | some v =>
      have e2 := S.ev hlo
      cases hi with
      | none =>
        simp only [Option.some.injEq, Value.int.injEq, true_and] at hhi; subst hhi
        simp [Instr.sliceBounds, Instr.sliceBound, asIntOf, e2, Sem.run_bind, Sem.run, Result.andThen, h0, h1]
      | some u =>
        have e3 := S.ev hhi
        have h3 : 0 ≤ q := by omega
        have h4 : p ≤ max q 0 := by omega
        simp [Instr.sliceBounds, Instr.sliceBound, asIntOf, e2, e3, Sem.run_bind, Sem.run, Result.andThen, h0, h1, h2, h3, h4]
  simp only [execOp, Option.map_none, Instr.sliceAt, S.ev hx, Sem.run_bind, run_underlying hu, Result.andThen_ok, Instr.slice, e1, sizeOf, typeInfo, program]
  simp [Sem.run, Result.andThen, Sem.run_bind, q3, q4, cutA]
theorem Rd.cut {X : Heap} (R : Rd e X A m c l) (lo hi : Nat) (h1 : lo ≤ hi) (h2 : hi ≤ m) : Rd e X (cutA A c e.sz lo) (hi - lo) (c - lo) ((l.take hi).drop lo) := by
  obtain ⟨r1, r2, r3, r4⟩ := R
  refine ⟨by simp; omega, by omega, by omega, fun hpos => ?_⟩
  obtain ⟨b, o, hA, f⟩ := r4 (by omega)
  refine ⟨b, o + lo * e.sz, by simp only [cutA]; rw [if_neg (by omega), hA, Option.map_some, Addr.add_mid], fun i j v hi' hv => ?_⟩
  have := f (lo + i) j v (by omega) (by
    rw [← hv]; congr 2
    simp only [List.getD_eq_getElem?_getD, List.getElem?_drop, List.getElem?_take]
    rw [if_pos (by omega)])
  rwa [Nat.add_mul, ← Nat.add_assoc] at this
theorem rd_nil (e : En α) (X : Heap) : Rd e X none 0 0 [] := ⟨rfl, Nat.le_refl _, Nat.zero_le _, fun h => absurd h (by omega)⟩
/-- a cut, its elements told -/
theorem r_cutR {T : TypeId} {x : Operand} {lo hi : Option Operand} {y : Nat} {g : Bool} {z : List Value} (S : Sl n D L a) (hx : evl L x = some (.slice A m c)) (ht : slE P T = some E) (hE : tyI P E = some (g, e.sz, y, z))
    (R : Rd e (hpOf w) A m c l) (p q : Int) (hlo : (match lo with | some u => evl L u | none => some (.int .i64 0)) = some (.int .i64 p)) (hhi : (match hi with | some u => evl L u | none => some (.int .i64 m)) = some (.int .i64 q))
    (h0 : 0 ≤ p) (h1 : p ≤ q) (h2 : q ≤ m) (hd : Nat.blt d n = true) (l' : List α) (hl : (l.take q.toNat).drop p.toNat = l')
    (kk : ∀ A' c' a', (∀ X, Rd e X A m c l → Rd e X A' l'.length c' l') → Sl n D ((d, .slice A' l'.length c') :: L) a' → WL r P ops Q rest a' w) :
    WL r P ops Q (⟨some d, .slice T x lo hi none, ty, ps, af, none⟩ :: rest) a w := by
  subst hl
  have hmc := R.2.1
  have hlen : ((l.take q.toNat).drop p.toNat).length = q.toNat - p.toNat := by rw [List.length_drop, List.length_take, R.1]; omega
  refine r_cut S hx ht hE p q hlo hhi h0 h1 (by omega) hmc hd fun a' S' => kk (cutA A c e.sz p.toNat) (c - p.toNat) a' (fun X RX => ?_) (by rw [hlen]; exact S')
  have := RX.cut p.toNat q.toNat (by omega) (by omega)
  rwa [← hlen] at this
/-- a row of one's own, cut at its end -/
theorem r_cutOwn (pre : List Hp) {T : TypeId} {x : Operand} {hi : Operand} {y : Nat} {g : Bool} {z : List Value} (S : Sl n D L a) (H : HS w0 (pre ++ own e E A m c l :: post) w) (hx : evl L x = some (.slice A m c)) (ht : slE P T = some E) (hE : tyI P E = some (g, e.sz, y, z))
    (q : Int) (hhi : evl L hi = some (.int .i64 q)) (h0 : 0 ≤ q) (h2 : q ≤ m) (hd : Nat.blt d n = true)
    (kk : ∀ a', Sl n D ((d, .slice A q.toNat c) :: L) a' → HS w0 (pre ++ own e E A q.toNat c (l.take q.toNat) :: post) w → WL r P ops Q rest a' w) :
    WL r P ops Q (⟨some d, .slice T x none (some hi) none, ty, ps, af, none⟩ :: rest) a w := by
  have hle := own_le pre H
  refine r_cut S hx ht hE 0 q rfl hhi (Int.le_refl _) h0 (by omega) hle.1 hd fun a' S' => kk a' ?_ (H.map fun s => SL.mono1 s fun h qq => ?_)
  · have : cutA A c e.sz 0 = A := by
      simp only [cutA]
      split
      · rfl
      · rename_i hc0
        have hA : ∃ g o, A = some ⟨g, o, none⟩ := SL.pure H.sl fun _ q => by
          rcases q.2 with ⟨_, _, h⟩ | ⟨g, cur, h, _⟩
          · exact absurd h hc0
          · exact ⟨g, 0, h⟩
        obtain ⟨g, o', rfl⟩ := hA
        · rw [Nat.zero_mul, Option.map_some, Addr.add_mid, Nat.add_zero]
    simpa [this] using S'
  · obtain ⟨h1, h3⟩ := qq
    refine ⟨by rw [List.length_take, h1]; omega, ?_⟩
    rcases h3 with ⟨hA, rfl, rfl⟩ | ⟨gg, cur, hA, p1, p2, p3, p4, p5⟩
    · exact .inl ⟨hA, by omega, rfl⟩
    · refine .inr ⟨gg, cur, hA, by omega, p2, p3, ?_, p5⟩
      rw [flat_take, ← p4, List.take_take, Nat.min_eq_left]
      exact Nat.mul_le_mul_right _ (by omega)
end Go.Proofs.Ythlogangnppghaa.Sl
