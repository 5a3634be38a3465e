/- Cuts behind a place in a row of one's own; clear. -/
import Derived.Test.YthlogangnppghaaSlH
set_option linter.unusedVariables false
set_option linter.unusedSimpArgs false
namespace Go.Proofs.Ythlogangnppghaa.Sl
open Go

variable {r : Option Nat} {P : Program} {n : Nat} {D : List Deferred} {L : List (Nat × Value)} {a : Act} {w w0 w' : World} {ops : Array Oper} {Q : Exit → Act → World → Prop} {rest : List Oper}
  {o : Oper} {d : Nat} {v : Value} {cs : List Hp} {pre post : List Hp} {k : Nat} {ty : TypeId} {ps : String} {af : Array Edge} {α : Type} {e : En α} {E : TypeId} {A B : Option Addr} {m c c2 : Nat} {l l2 : List α}

theorem r_cutO {T : TypeId} {x : Operand} {lo hi : Option Operand} {y : Nat} {g : Bool} {z : List Value} (S : Sl n D L a) (hx : evl L x = some (.slice A m c)) (ht : slE P T = some E) (hE : tyI P E = some (g, e.sz, y, z))
    (R : Rd e (hpOf w) A m c l) (p q : Int) (hlo : (match lo with | some u => evl L u | none => some (.int .i64 0)) = some (.int .i64 p)) (hhi : (match hi with | some u => evl L u | none => some (.int .i64 m)) = some (.int .i64 q))
    (h0 : 0 ≤ p) (h1 : p ≤ q) (h2 : q ≤ m) (hd : Nat.blt d n = true) (l' : List α) (hl : (l.take q.toNat).drop p.toNat = l')
    (kk : ∀ A' c' a', (∀ X, Rd e X A m c l → Rd e X A' l'.length c' l') → (∀ g, A = some ⟨g, 0, none⟩ → 0 < l'.length → A' = some ⟨g, p.toNat * e.sz, none⟩) → Sl n D ((d, .slice A' l'.length c') :: L) a' → WL r P ops Q rest a' w) :
    WL r P ops Q (⟨some d, .slice T x lo hi none, ty, ps, af, none⟩ :: rest) a w := by
  subst hl
  have hmc := R.2.1
  have hlen : ((l.take q.toNat).drop p.toNat).length = q.toNat - p.toNat := by rw [List.length_drop, List.length_take, R.1]; omega
  refine r_cut S hx ht hE p q hlo hhi h0 h1 (by omega) hmc hd fun a' S' => kk (cutA A c e.sz p.toNat) (c - p.toNat) a' (fun X RX => ?_) (fun g hg hpos => ?_) (by rw [hlen]; exact S')
  · have := RX.cut p.toNat q.toNat (by omega) (by omega)
    rwa [← hlen] at this
  · rw [cutA, if_neg (by omega), hg, Option.map_some, Addr.add_mid, Nat.zero_add]
theorem zero_flat (e : En α) {zv : Array Value} (hz : zv.toList = e.enc e.z) (k : Nat) : (Builtin.zeroCells zv k).toList = (List.replicate k e.z).flatMap e.enc := by
  have hzs : zv.size = e.sz := by rw [← Array.length_toList, hz, e.len]
  apply List.ext_getElem?
  intro j
  by_cases hj : j < k * e.sz
  · have hd : j / e.sz < k := Nat.div_lt_of_lt_mul (by rwa [Nat.mul_comm] at hj)
    have hmd : j % e.sz < e.sz := Nat.mod_lt _ e.pos
    have hj2 : j = j / e.sz * e.sz + j % e.sz := by rw [Nat.mul_comm]; exact (Nat.div_add_mod j e.sz).symm
    conv => rhs; rw [hj2]
    rw [flat_get e _ _ _ (by simpa using hd) hmd]
    have : (List.replicate k e.z).getD (j / e.sz) e.z = e.z := by rw [List.getD_eq_getElem?_getD, List.getElem?_replicate]; split <;> rfl
    rw [this, ← hz]
    simp [Builtin.zeroCells, hj, hzs]
    rw [getElem!_pos zv _ (by rw [hzs]; exact hmd)]
    simp [hzs, hmd]
  · rw [List.getElem?_eq_none, List.getElem?_eq_none]
    · rw [flat_len]; simp; omega
    · rw [Array.length_toList, size_zeroCells, hzs]; omega
theorem flat_drop (e : En α) (l : List α) (k : Nat) : (l.drop k).flatMap e.enc = (l.flatMap e.enc).drop (k * e.sz) := by
  induction l generalizing k with
  | nil => simp
  | cons x l ih =>
    cases k with
    | zero => simp
    | succ k =>
      have h1 : (k + 1) * e.sz = (e.enc x).length + k * e.sz := by rw [e.len, Nat.add_mul]; omega
      rw [List.drop_succ_cons, List.flatMap_cons, h1, List.drop_length_add_append, ih]
theorem op_val0 {o : Oper} (S : Sl n D L a) (hg : o.guard = none) (hnd : ∀ c, o.op ≠ .defer c) (hd : o.dst = none)
    (hr : (execOp a.eval o).run P w = .ok (.value v) w') (k : WL r P ops Q rest a w') : WL r P ops Q (o :: rest) a w := by
  refine wpListIn_plain hg fun K hK => ⟨fun _ _ => trivial, ?_⟩
  rw [Oper.semAt_eq _ _ _ hnd, hr, Oper.uponIn_value, hd]
  exact hK _ _ k
/-- cells are laid over a part of a row of one's own -/
theorem own_lay (P : Program) (pre : List Hp) (H : HS w0 (pre ++ own e E A m c l :: post) w) {lo : Nat} {xs : List α} (hlo : lo + xs.length ≤ m) (hpos : 0 < xs.length) {A' : Option Addr}
    (hB : ∀ g, A = some ⟨g, 0, none⟩ → A' = some ⟨g, lo * e.sz, none⟩) :
    ∃ ad w', A' = some ad ∧ (storeCells ad (xs.flatMap e.enc)).run P w = .ok () w' ∧ HS w0 (pre ++ own e E A m c (l.take lo ++ xs ++ l.drop (lo + xs.length)) :: post) w' := by
  obtain ⟨h1', h2', dd, hh, ha, -⟩ := SL.pull pre H.sl
  rcases ha.2 with ⟨_, h, _⟩ | ⟨g, cur, hA, q1, q2, q3, q4, q5⟩
  · omega
  have hg : w.heap[g]? = some (.cells cur E (0, 0)) := by
    have : hpOf w g = some (.cells cur E (0, 0)) := by rw [hh]; exact un_some (by rw [q5]; simp [one])
    exact this
  have hl := ha.1
  have hA' := hB g hA
  have h1 : (lo + xs.length) * e.sz ≤ m * e.sz := Nat.mul_le_mul_right _ hlo
  have h2 : m * e.sz ≤ c * e.sz := Nat.mul_le_mul_right _ q1
  rw [Nat.add_mul] at h1
  have hone : ∀ v ∈ xs.flatMap e.enc, v.oneCell' = true := fun v hv => by
    obtain ⟨x, _, hx⟩ := List.mem_flatMap.1 hv
    exact (List.all_eq_true.1 (e.one x)) v hx
  have hs := run_storeCells_at P g (lo * e.sz) E (xs.flatMap e.enc) 0 cur w hg (by rw [flat_len]; omega) hone
  simp only [Nat.add_zero] at hs
  refine ⟨_, _, hA', hs, ?_⟩
  refine HS.setRow H hg fun h q => ?_
  refine ⟨?_, ?_, .inr ⟨g, (cur.toList.take (lo * e.sz) ++ xs.flatMap e.enc ++ cur.toList.drop (lo * e.sz + (xs.flatMap e.enc).length)).toArray, hA, q1, q2, ?_, ?_, ?_⟩⟩
  · rcases q.2 with ⟨_, h, _⟩ | ⟨g', cur', hA2, _, _, _, _, q5'⟩
    · omega
    · rw [hA] at hA2; cases hA2; rw [q5']; simp [one]
  · simp; omega
  · have hcl : cur.toList.length = c * e.sz := by rw [Array.length_toList, q3]
    simp only [List.size_toArray, List.length_append, List.length_take, List.length_drop, flat_len, hcl]; omega
  · have hcl : cur.toList.length = c * e.sz := by rw [Array.length_toList, q3]
    show ((cur.toList.take (lo * e.sz) ++ xs.flatMap e.enc ++ cur.toList.drop (lo * e.sz + (xs.flatMap e.enc).length)).toArray.toList).take (m * e.sz) = _
    rw [List.toList_toArray, take_mid _ _ _ _ (by rw [flat_len]; omega) (by omega), q4, List.flatMap_append, List.flatMap_append, flat_take, flat_drop, flat_len, Nat.add_mul]
  · rcases q.2 with ⟨_, h, _⟩ | ⟨g', cur', hA2, _, _, _, _, q5'⟩
    · omega
    · rw [hA] at hA2; cases hA2; rw [q5']; funext s; simp only [upd, one]; split <;> rfl
theorem r_clear (pre : List Hp) {T : TypeId} {x : Operand} {y : Nat} {g : Bool} {z : List Value} {A' : Option Addr} {c' lo : Nat} (S : Sl n D L a) (H : HS w0 (pre ++ own e E A m c l :: post) w) (hlo : lo ≤ m)
    (hB : ∀ g, A = some ⟨g, 0, none⟩ → 0 < (l.drop lo).length → A' = some ⟨g, lo * e.sz, none⟩) (hx : evl L x = some (.slice A' (l.drop lo).length c')) (ht : slE P T = some E) (hE : tyI P E = some (g, e.sz, y, z)) (hz : z = e.enc e.z)
    (kk : ∀ w', HS w0 (pre ++ own e E A m c (l.take lo ++ List.replicate (l.drop lo).length e.z) :: post) w' → WL r P ops Q rest a w') :
    WL r P ops Q (⟨none, .call { callee := .builtin .clear, args := #[x], argTypes := #[T] }, ty, ps, af, none⟩ :: rest) a w := by
  have hlm := own_len pre H
  have hu := slE_open ht
  obtain ⟨d0, i, zv, q1, q2, q3, q4, q5, q6, q7⟩ := tyI_open hE
  rcases Nat.eq_zero_or_pos (l.drop lo).length with h0 | hpos
  · refine op_val0 S rfl (by intro c h; cases h) rfl (v := .tuple #[]) (w' := w) ?_ (kk w ?_)
    · rw [h0] at hx
      simp [execOp, resolve, invoke, builtin, Builtin.clear_, S.ev hx, Sem.run_bind, run_underlying hu, Sem.run, Result.andThen]
      cases A' <;> simp [Sem.run]
    · rw [h0]
      have : l.drop lo = [] := List.eq_nil_of_length_eq_zero h0
      have e2 : l.take lo = l := by have := List.take_append_drop lo l; rw [‹l.drop lo = []›, List.append_nil] at this; exact this
      rw [e2]; simpa using H
  · obtain ⟨ad, w', hA, hs, hH⟩ := own_lay (e := e) P pre H (lo := lo) (xs := List.replicate (l.drop lo).length e.z) (by simp; omega) (by simpa using hpos) (fun g hg => hB g hg hpos)
    subst hA
    have hzf := zero_flat e (zv := zv.cells) (by rw [q7, hz]) (l.drop lo).length
    refine op_val0 S rfl (by intro c h; cases h) rfl (v := .tuple #[]) (w' := w') ?_ (kk w' ?_)
    · obtain ⟨k, hk⟩ : ∃ k, (l.drop lo).length = k + 1 := ⟨(l.drop lo).length - 1, by omega⟩
      have hzv : (zeroValue E).run P w = .ok zv w := by simp [zeroValue, typeInfo, program, Sem.run_bind, Sem.run, Result.andThen, q3, q6]
      rw [← hzf] at hs
      rw [hk] at hx hs
      simp [execOp, resolve, invoke, builtin, Builtin.clear_, S.ev hx, Sem.run_bind, run_underlying hu, Sem.run, Result.andThen, hzv, hs]
    · rw [List.length_replicate] at hH
      have : l.drop (lo + (l.drop lo).length) = [] := List.drop_of_length_le (by rw [List.length_drop]; omega)
      rwa [this, List.append_nil] at hH
end Go.Proofs.Ythlogangnppghaa.Sl
