/- Slices: rows of the call's own, rows that are read; a rule for each operation on them. -/
import Derived.Test.YthlogangnppghaaSlC
set_option linter.unusedVariables false
set_option linter.unusedSimpArgs false
namespace Go.Proofs.Ythlogangnppghaa.Sl
open Go

/-- how an element is laid in memory: so many cells, each one cell -/
structure En (α : Type) where
  sz : Nat
  enc : α → List Value
  z : α
  len : ∀ x, (enc x).length = sz
  one : ∀ x, (enc x).all (·.oneCell') = true
  pos : 0 < sz
def rd {α : Type} (e : En α) (l : List α) (i : Int) : α := l.getD i.toNat e.z

theorem flat_len {α : Type} (e : En α) (l : List α) : (l.flatMap e.enc).length = l.length * e.sz := by
  induction l with
  | nil => simp
  | cons x l ih => rw [List.flatMap_cons, List.length_append, e.len, ih, List.length_cons, Nat.add_mul, Nat.one_mul, Nat.add_comm]
theorem flat_get {α : Type} (e : En α) : ∀ (l : List α) (i j : Nat), i < l.length → j < e.sz → (l.flatMap e.enc)[i * e.sz + j]? = (e.enc (l.getD i e.z))[j]?
  | [], i, j, h, _ => by simp at h
  | x :: l, 0, j, _, hj => by
    rw [List.flatMap_cons, Nat.zero_mul, Nat.zero_add, List.getElem?_append_left (by rw [e.len]; exact hj)]; rfl
  | x :: l, i + 1, j, h, hj => by
    rw [List.flatMap_cons, List.getElem?_append_right (by rw [e.len, Nat.add_mul]; omega), e.len]
    have : (i + 1) * e.sz + j - e.sz = i * e.sz + j := by rw [Nat.add_mul]; omega
    rw [this, flat_get e l i j (by simpa using h) hj]; rfl
theorem flat_set {α : Type} (e : En α) : ∀ (l : List α) (i : Nat) (x : α), i < l.length → (l.set i x).flatMap e.enc = (l.flatMap e.enc).take (i * e.sz) ++ e.enc x ++ (l.flatMap e.enc).drop (i * e.sz + e.sz)
  | [], i, x, h => by simp at h
  | y :: l, 0, x, _ => by
    simp only [List.set_cons_zero, List.flatMap_cons, Nat.zero_mul, Nat.zero_add, List.take_zero, List.nil_append]
    rw [List.drop_left' (e.len y)]
  | y :: l, i + 1, x, h => by
    have h1 : (i + 1) * e.sz = (e.enc y).length + i * e.sz := by rw [e.len, Nat.add_mul]; omega
    rw [List.set_cons_succ, List.flatMap_cons, List.flatMap_cons, h1, List.take_length_add_append, Nat.add_assoc, List.drop_length_add_append, flat_set e l i x (by simpa using h)]
    simp
theorem flat_take {α : Type} (e : En α) (l : List α) (k : Nat) : (l.take k).flatMap e.enc = (l.flatMap e.enc).take (k * e.sz) := by
  induction l generalizing k with
  | nil => simp
  | cons x l ih =>
    cases k with
    | zero => simp
    | succ k =>
      have h1 : (k + 1) * e.sz = (e.enc x).length + k * e.sz := by rw [e.len, Nat.add_mul]; omega
      rw [List.take_succ_cons, List.flatMap_cons, List.flatMap_cons, h1, List.take_length_add_append, ih]

/-- a row of the call's own -/
def own {α : Type} (e : En α) (E : TypeId) (A : Option Addr) (n c : Nat) (l : List α) : Hp := fun h =>
  l.length = n ∧ ((True ∧ n = 0 ∧ c = 0) ∨ ∃ g cur, A = some ⟨g, 0, none⟩ ∧ n ≤ c ∧ c ≤ maxLen ∧ cur.size = c * e.sz ∧ cur.toList.take (n * e.sz) = l.flatMap e.enc ∧ h = one g (.cells cur E (0, 0)))
/-- a row that is read -/
def Rd {α : Type} (e : En α) (X : Heap) (A : Option Addr) (n c : Nat) (l : List α) : Prop :=
  l.length = n ∧ n ≤ c ∧ c ≤ maxLen ∧ (0 < n → ∃ b o, A = some ⟨b, o, none⟩ ∧ ∀ i j v, i < n → (e.enc (l.getD i e.z))[j]? = some v → hcell X b (o + i * e.sz + j) = some v)

variable {r : Option Nat} {P : Program} {n : Nat} {D : List Deferred} {L : List (Nat × Value)} {a : Act} {w w0 w' : World} {ops : Array Oper} {Q : Exit → Act → World → Prop} {rest : List Oper}
  {o : Oper} {d : Nat} {v : Value} {cs : List Hp} {post : List Hp} {ty : TypeId} {ps : String} {af : Array Edge} {α : Type} {e : En α} {E : TypeId} {A : Option Addr} {m c : Nat} {l : List α}

theorem own_len (pre : List Hp) (H : HS w0 (pre ++ own e E A m c l :: post) w) : l.length = m := SL.pure H.sl fun _ q => q.1
theorem own_le (pre : List Hp) (H : HS w0 (pre ++ own e E A m c l :: post) w) : m ≤ c ∧ c ≤ maxLen := SL.pure H.sl fun _ q => by
  rcases q.2 with ⟨_, h1, h2⟩ | ⟨g, cur, _, h1, h2, _⟩
  · subst h1; subst h2; exact ⟨Nat.le_refl _, Nat.zero_le _⟩
  · exact ⟨h1, h2⟩
theorem own_at (pre : List Hp) (H : HS w0 (pre ++ own e E A m c l :: post) w) (hm : 0 < m) : ∃ g, A = some ⟨g, 0, none⟩ := SL.pure H.sl fun _ q => by
  rcases q.2 with ⟨_, h1, _⟩ | ⟨g, cur, h, _⟩
  · omega
  · exact ⟨g, h⟩
theorem own_nil : SL cs (hpOf w) → SL (own e E none 0 0 [] :: cs) (hpOf w) := fun H =>
  ⟨fun _ => none, hpOf w, fun _ => .inl rfl, by funext b; simp [un], ⟨rfl, .inl ⟨trivial, rfl, rfl⟩⟩, H⟩
theorem own_z (A : Option Addr) : SL cs (hpOf w) → SL (own e E A 0 0 [] :: cs) (hpOf w) := fun H =>
  ⟨fun _ => none, hpOf w, fun _ => .inl rfl, by funext b; simp [un], ⟨rfl, .inl ⟨trivial, rfl, rfl⟩⟩, H⟩
theorem HS.own_nil (e : En α) (E : TypeId) (H : HS w0 cs w) : HS w0 (own e E none 0 0 [] :: cs) w := ⟨Sl.own_nil H.sl, H.os, H.tape, H.out, H.size⟩
theorem own_chunk_rd {h : Heap} (q : own e E A m c l h) : Rd e h A m c l := by
  refine ⟨q.1, ?_⟩
  rcases q.2 with ⟨_, h1, h2⟩ | ⟨g, cur, hA, h1, h2, h3, h4, rfl⟩
  · subst h1; subst h2; exact ⟨Nat.le_refl _, Nat.zero_le _, fun h => absurd h (by omega)⟩
  · refine ⟨h1, h2, fun _ => ⟨g, 0, hA, fun i j v hi hv => ?_⟩⟩
    have hj : j < e.sz := by have := (List.getElem?_eq_some_iff.1 hv).1; rwa [e.len] at this
    have := flat_get e l i j (by rw [q.1]; exact hi) hj
    rw [hv, ← h4, List.getElem?_take] at this
    split at this
    · simp only [hcell, one, if_pos]; rw [Nat.zero_add]; simpa using this
    · cases this
theorem Rd.mono {X Y : Heap} (R : Rd e X A m c l) (f : ∀ b o v, hcell X b o = some v → hcell Y b o = some v) : Rd e Y A m c l :=
  ⟨R.1, R.2.1, R.2.2.1, fun h => let ⟨b, o, h1, h2⟩ := R.2.2.2 h; ⟨b, o, h1, fun i j v hi hv => f _ _ _ (h2 i j v hi hv)⟩⟩
theorem SL.rd {pre : List Hp} {c' : Hp} {h : Heap} (H : SL (pre ++ c' :: post) h) (f : ∀ h, c' h → Rd e h A m c l) : Rd e h A m c l := by
  obtain ⟨h1, h2, d, rfl, ha, -⟩ := SL.pull pre H
  refine (f _ ha).mono fun b o v q => ?_
  unfold Sl.hcell at q ⊢
  cases e1 : h1 b with
  | none => rw [e1] at q; cases q
  | some x => rw [un_some e1]; rwa [e1] at q
/-- a row of one's own is read -/
theorem own_rd (pre : List Hp) (H : HS w0 (pre ++ own e E A m c l :: post) w) : Rd e (hpOf w) A m c l := SL.rd H.sl fun _ q => own_chunk_rd q
theorem isH_rd (pre : List Hp) {X : Heap} (H : HS w0 (pre ++ isH X :: post) w) (R : Rd e X A m c l) : Rd e (hpOf w) A m c l := SL.rd H.sl fun h q => by rw [show h = X from q]; exact R
theorem sl_own_rd (pre : List Hp) {X : Heap} (H : SL (pre ++ own e E A m c l :: post) X) : Rd e X A m c l := SL.rd H fun _ q => own_chunk_rd q
theorem sl_isH_rd (pre : List Hp) {X Y : Heap} (H : SL (pre ++ isH X :: post) Y) (R : Rd e X A m c l) : Rd e Y A m c l := SL.rd H fun h q => by rw [show h = X from q]; exact R
theorem Rd.at {X : Heap} (R : Rd e X A m c l) (hm : 0 < m) : ∃ b o, A = some ⟨b, o, none⟩ := let ⟨b, o, h, _⟩ := R.2.2.2 hm; ⟨b, o, h⟩
theorem Rd.range {b q : Nat} (R : Rd e (hpOf w) (some ⟨b, q, none⟩) m c l) {i : Int} (h0 : 0 ≤ i) (h1 : i < m) (j k : Nat) : w.rangeAt b (q + i.toNat * e.sz + j) (((e.enc (rd e l i)).drop j).take k) := fun s u hu => by
  obtain ⟨b', o', h, f⟩ := R.2.2.2 (by omega)
  cases h
  rw [cell_hcell, Nat.add_assoc]
  refine f i.toNat (j + s) u (by omega) ?_
  rw [List.getElem?_take] at hu
  split at hu
  · rw [List.getElem?_drop] at hu; exact hu
  · cases hu
theorem Rd.cell {b q : Nat} (R : Rd e (hpOf w) (some ⟨b, q, none⟩) m c l) {i : Int} (h0 : 0 ≤ i) (h1 : i < m) {j : Nat} {v : Value} (hv : (e.enc (rd e l i))[j]? = some v) : w.cell? ⟨b, q + i.toNat * e.sz + j, none⟩ = some v := by
  obtain ⟨b', o', h, f⟩ := R.2.2.2 (by omega)
  cases h
  rw [cell_hcell]
  exact f i.toNat j v (by omega) hv

/-- the address of an element -/
theorem r_index {T : TypeId} {x y : Operand} {b q sz yy : Nat} {z : List Value} {g : Bool} {i : Int} {k : IntKind} (S : Sl n D L a) (hx : evl L x = some (.slice (some ⟨b, q, none⟩) m c)) (hy : evl L y = some (.int k i)) (ht : slE P T = some E)
    (hE : tyI P E = some (g, sz, yy, z)) (h0 : 0 ≤ i) (h1 : i < m) (hd : Nat.blt d n = true)
    (kk : ∀ a', Sl n D ((d, .pointer (some ⟨b, q + i.toNat * sz + 0, none⟩)) :: L) a' → WL r P ops Q rest a' w) :
    WL r P ops Q (⟨some d, .indexAddr T x y, ty, ps, af, none⟩ :: rest) a w := by
  refine op_ok S rfl (by intro c h; cases h) rfl (blt_lt hd) (w' := w) ?_ kk
  obtain ⟨d0, ii, zv, q1, q2, q3, q4, q5, q6, q7⟩ := tyI_open hE
  have hu := slE_open ht
  simp [execOp, Instr.indexAt, S.ev hx, S.ev hy, asIntOf, Sem.run_bind, run_underlying hu, Sem.run, Result.andThen, h0, h1, sizeOf, typeInfo, program, q3, q4, Addr.add_mid]
/-- a load out of an element of a row that is read -/
theorem r_elA {T : TypeId} {x : Operand} {b q j k y : Nat} {z vs : List Value} {i : Int} (S : Sl n D L a) (R : Rd e (hpOf w) (some ⟨b, q, none⟩) m c l) (h0 : 0 ≤ i) (h1 : i < m) (hx : evl L x = some (.pointer (some ⟨b, q + i.toNat * e.sz + j, none⟩)))
    (ht : tyI P T = some (true, k, y, z)) (hv : ((e.enc (rd e l i)).drop j).take k = vs) (hl : vs.length = k) (hd : Nat.blt d n = true) (kk : ∀ a', Sl n D ((d, .agg vs.toArray) :: L) a' → WL r P ops Q rest a' w) :
    WL r P ops Q (⟨some d, .load T x, ty, ps, af, none⟩ :: rest) a w :=
  r_loadA S hx ht (by rw [← hv]; exact R.range h0 h1 j k) hl hd kk
theorem r_elS {T : TypeId} {x : Operand} {b q j y : Nat} {z : List Value} {i : Int} (S : Sl n D L a) (R : Rd e (hpOf w) (some ⟨b, q, none⟩) m c l) (h0 : 0 ≤ i) (h1 : i < m) (hx : evl L x = some (.pointer (some ⟨b, q + i.toNat * e.sz + j, none⟩)))
    (ht : tyI P T = some (false, 1, y, z)) (v : Value) (hv : (e.enc (rd e l i))[j]? = some v) (hd : Nat.blt d n = true) (kk : ∀ a', Sl n D ((d, v) :: L) a' → WL r P ops Q rest a' w) :
    WL r P ops Q (⟨some d, .load T x, ty, ps, af, none⟩ :: rest) a w :=
  r_loadS S hx ht v (R.cell h0 h1 hv) hd kk

theorem take_mid {β : Type} (cur : List β) (n o : Nat) (vs : List β) (h : o + vs.length ≤ n) (hn : n ≤ cur.length) :
    (cur.take o ++ vs ++ cur.drop (o + vs.length)).take n = (cur.take n).take o ++ vs ++ (cur.take n).drop (o + vs.length) := by
  rw [List.take_append, List.take_append]
  simp only [List.length_append, List.length_take]
  rw [Nat.min_eq_left (by omega : o ≤ cur.length)]
  rw [List.take_take, List.take_take, Nat.min_eq_right (by omega : o ≤ n), Nat.min_eq_left (by omega : o ≤ n), List.take_of_length_le (by omega : vs.length ≤ n - o), List.drop_take]
/-- a store into an element of a row of one's own -/
theorem r_elst (pre : List Hp) {T : TypeId} {x u : Operand} {b j k y : Nat} {z : List Value} {g : Bool} {i : Int} (S : Sl n D L a) (H : HS w0 (pre ++ own e E (some ⟨b, 0, none⟩) m c l :: post) w) (h0 : 0 ≤ i) (h1 : i < m)
    (hx : evl L x = some (.pointer (some ⟨b, 0 + i.toNat * e.sz + j, none⟩))) (hu : evl L u = some v) (ht : tyI P T = some (g, k, y, z)) (vs : List Value) (hvs : v.cells.toList = vs) (hl : vs.length = k) (ho : vs.all (·.oneCell') = true)
    (hj : Nat.ble (j + k) e.sz = true) (x' : α) (he : (e.enc (rd e l i)).take j ++ vs ++ (e.enc (rd e l i)).drop (j + k) = e.enc x')
    (kk : ∀ w', HS w0 (pre ++ own e E (some ⟨b, 0, none⟩) m c (l.set i.toNat x') :: post) w' → WL r P ops Q rest a w') :
    WL r P ops Q (⟨none, .store T x u, ty, ps, af, none⟩ :: rest) a w := by
  have hj' := Nat.le_of_ble_eq_true hj
  obtain ⟨cur, hg, hlen, hmc, hcm, hsz, htk⟩ : ∃ cur : Array Value, w.heap[b]? = some (.cells cur E (0, 0)) ∧ l.length = m ∧ m ≤ c ∧ c ≤ maxLen ∧ cur.size = c * e.sz ∧ cur.toList.take (m * e.sz) = l.flatMap e.enc := by
    obtain ⟨h1', h2', dd, hh, ha, -⟩ := SL.pull pre H.sl
    rcases ha.2 with ⟨_, h, _⟩ | ⟨gg, cur, hA, q1, q2, q3, q4, q5⟩
    · omega
    · cases hA
      refine ⟨cur, ?_, ha.1, q1, q2, q3, q4⟩
      have : hpOf w b = some (.cells cur E (0, 0)) := by rw [hh]; exact un_some (by rw [q5]; simp [one])
      exact this
  have him : i.toNat * e.sz + e.sz ≤ m * e.sz := by
    have : (i.toNat + 1) * e.sz ≤ m * e.sz := Nat.mul_le_mul_right _ (by omega)
    rwa [Nat.add_mul, Nat.one_mul] at this
  have hmc' : m * e.sz ≤ c * e.sz := Nat.mul_le_mul_right _ hmc
  have hr := run_store_bx (P := P) (o := 0 + i.toNat * e.sz + j) ht hg v vs hvs hl ho (by omega)
  obtain ⟨NEW, hN⟩ : ∃ q, q = (cur.toList.take (0 + i.toNat * e.sz + j) ++ vs ++ cur.toList.drop (0 + i.toNat * e.sz + j + vs.length)).toArray := ⟨_, rfl⟩
  rw [← hN] at hr
  refine op_skip S rfl (by intro c h; cases h) rfl (w' := w.setRow b NEW) ?_ (kk _ ?_)
  · simp only [execOp, S.ev hx, S.ev hu, Sem.run_bind, hr, Result.andThen, Sem.run]
    rfl
  · refine HS.setRow H hg fun h q => ?_
    subst hN
    refine ⟨?_, by simpa using hlen, .inr ⟨b, (cur.toList.take (0 + i.toNat * e.sz + j) ++ vs ++ cur.toList.drop (0 + i.toNat * e.sz + j + vs.length)).toArray, rfl, hmc, hcm, ?_, ?_, ?_⟩⟩
    · rcases q.2 with ⟨_, h, _⟩ | ⟨gg, cur', hA, _, _, _, _, q5⟩
      · omega
      · cases hA; rw [q5]; simp [one]
    · simp only [List.size_toArray, List.length_append, List.length_take, List.length_drop, Array.length_toList, hsz]
      omega
    · have hcl : cur.toList.length = c * e.sz := by rw [Array.length_toList, hsz]
      rw [take_mid _ _ _ _ (by omega) (by omega), htk, flat_set e l i.toNat x' (by omega), ← he]
      have hfl : (l.flatMap e.enc).length = m * e.sz := by rw [flat_len, hlen]
      have hrow : e.enc (rd e l i) = ((l.flatMap e.enc).drop (i.toNat * e.sz)).take e.sz := by
        apply List.ext_getElem?
        intro s
        rw [List.getElem?_take]
        split
        · rename_i hs; rw [List.getElem?_drop, flat_get e l i.toNat s (by omega) hs]; rfl
        · rename_i hs; rw [List.getElem?_eq_none]; rw [e.len]; omega
      rw [hrow, Nat.zero_add, hl]
      generalize l.flatMap e.enc = F at hfl
      have e1 : F.take (i.toNat * e.sz + j) = F.take (i.toNat * e.sz) ++ ((F.drop (i.toNat * e.sz)).take e.sz).take j := by
        rw [List.take_take, Nat.min_eq_left (by omega), ← List.take_add]
      have e2 : F.drop (i.toNat * e.sz + j + k) = ((F.drop (i.toNat * e.sz)).take e.sz).drop (j + k) ++ F.drop (i.toNat * e.sz + e.sz) := by
        have q : F.drop (i.toNat * e.sz) = (F.drop (i.toNat * e.sz)).take e.sz ++ F.drop (i.toNat * e.sz + e.sz) := by
          rw [← List.drop_drop]; exact (List.take_append_drop _ _).symm
        calc F.drop (i.toNat * e.sz + j + k) = (F.drop (i.toNat * e.sz)).drop (j + k) := by rw [List.drop_drop]; congr 1; omega
          _ = _ := by
            conv => lhs; rw [q]
            rw [List.drop_append_of_le_length (by rw [List.length_take, List.length_drop]; omega)]
      rw [e1, e2]; simp
    · rcases q.2 with ⟨_, h, _⟩ | ⟨gg, cur', hA, _, _, _, _, q5⟩
      · omega
      · cases hA; rw [q5]; funext s; simp only [upd, one]; split <;> rfl

/-! ### lengths -/
theorem r_len {T : TypeId} {x : Operand} (S : Sl n D L a) (hx : evl L x = some (.slice A m c)) (ht : slE P T = some E) (hd : Nat.blt d n = true)
    (kk : ∀ a', Sl n D ((d, .int .i64 m) :: L) a' → WL r P ops Q rest a' w) :
    WL r P ops Q (⟨some d, .call { callee := .builtin .len, args := #[x], argTypes := #[T] }, ty, ps, af, none⟩ :: rest) a w := by
  refine op_ok S rfl (by intro c h; cases h) rfl (blt_lt hd) (w' := w) ?_ kk
  have hu := slE_open ht
  simp [execOp, resolve, invoke, builtin, Builtin.len_, S.ev hx, Sem.run_bind, run_underlying hu, Sem.run, Result.andThen, goInt]
theorem r_cap {T : TypeId} {x : Operand} (S : Sl n D L a) (hx : evl L x = some (.slice A m c)) (ht : slE P T = some E) (hd : Nat.blt d n = true)
    (kk : ∀ a', Sl n D ((d, .int .i64 c) :: L) a' → WL r P ops Q rest a' w) :
    WL r P ops Q (⟨some d, .call { callee := .builtin .cap, args := #[x], argTypes := #[T] }, ty, ps, af, none⟩ :: rest) a w := by
  refine op_ok S rfl (by intro c h; cases h) rfl (blt_lt hd) (w' := w) ?_ kk
  have hu := slE_open ht
  simp [execOp, resolve, invoke, builtin, Builtin.cap_, S.ev hx, Sem.run_bind, run_underlying hu, Sem.run, Result.andThen, goInt]
def mx (x y : Int) : Int := if y > x then y else x
def mn (x y : Int) : Int := if y < x then y else x
def mxs (op : Bool) : Int → List Int → Int
  | x, [] => x
  | x, y :: r => mxs op (cond op (mx x y) (mn x y)) r
theorem r_max {xs : List Operand} {ts : Array TypeId} {k : IntKind} {p : Int} {qs : List Int} (S : Sl n D L a) (hx : evls L xs = some (.int k p :: qs.map (.int k ·))) (hd : Nat.blt d n = true)
    (kk : ∀ a', Sl n D ((d, .int k (mxs true p qs)) :: L) a' → WL r P ops Q rest a' w) :
    WL r P ops Q (⟨some d, .call { callee := .builtin .max, args := xs.toArray, argTypes := ts }, ty, ps, af, none⟩ :: rest) a w := by
  refine op_ok S rfl (by intro c h; cases h) rfl (blt_lt hd) (w' := w) ?_ kk
  have e1 := S.evs hx
  have hf : ∀ (qs : List Int) (p : Int), ((qs.map (Value.int k ·)).foldlM (m := Sem) Builtin.max2 (.int k p)).run P w = .ok (.int k (mxs true p qs)) w := by
    intro qs
    induction qs with
    | nil => intro p; simp [mxs, Sem.run]
    | cons q qs ih => intro p; simp [mxs, Builtin.max2, Sem.run, Sem.run_bind, Result.andThen]; rw [ih]; rfl
  simp [execOp, resolve, invoke, builtin, Builtin.max_, e1, Sem.run_bind, Sem.run, Result.andThen, hf]
theorem r_min {xs : List Operand} {ts : Array TypeId} {k : IntKind} {p : Int} {qs : List Int} (S : Sl n D L a) (hx : evls L xs = some (.int k p :: qs.map (.int k ·))) (hd : Nat.blt d n = true)
    (kk : ∀ a', Sl n D ((d, .int k (mxs false p qs)) :: L) a' → WL r P ops Q rest a' w) :
    WL r P ops Q (⟨some d, .call { callee := .builtin .min, args := xs.toArray, argTypes := ts }, ty, ps, af, none⟩ :: rest) a w := by
  refine op_ok S rfl (by intro c h; cases h) rfl (blt_lt hd) (w' := w) ?_ kk
  have e1 := S.evs hx
  have hf : ∀ (qs : List Int) (p : Int), ((qs.map (Value.int k ·)).foldlM (m := Sem) Builtin.min2 (.int k p)).run P w = .ok (.int k (mxs false p qs)) w := by
    intro qs
    induction qs with
    | nil => intro p; simp [mxs, Sem.run]
    | cons q qs ih => intro p; simp [mxs, Builtin.min2, Sem.run, Sem.run_bind, Result.andThen]; rw [ih]; rfl
  simp [execOp, resolve, invoke, builtin, Builtin.min_, e1, Sem.run_bind, Sem.run, Result.andThen, hf]
end Go.Proofs.Ythlogangnppghaa.Sl
