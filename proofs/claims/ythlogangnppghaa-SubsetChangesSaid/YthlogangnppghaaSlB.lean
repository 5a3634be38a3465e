/- The slots of a frame as a list of what is known, and a rule for each plain operation and each form of code. -/
import Derived.Test.YthlogangnppghaaSlA
set_option linter.unusedVariables false
set_option linter.unusedSimpArgs false
namespace Go.Proofs.Ythlogangnppghaa.Sl
open Go

abbrev Fr (r : Option Nat) : Fence := { fn := fun _ => True, depth := none, alive := false, round := r }
abbrev W (r : Option Nat) (P : Program) (c : Code) (Q : Exit → Act → World → Prop) (a : Act) (w : World) : Prop := c.wpIn (Fr r) 0 P Q a w
abbrev WL (r : Option Nat) (P : Program) (ops : Array Oper) (Q : Exit → Act → World → Prop) (l : List Oper) (a : Act) (w : World) : Prop := wpListIn (Fr r) 0 P ops Q l a w

def lk (t : Nat) : List (Nat × Value) → Option Value
  | [] => none
  | (s, v) :: r => cond (Nat.beq s t) (some v) (lk t r)
def evl (L : List (Nat × Value)) : Operand → Option Value
  | .tmp t => lk t L
  | .const v => some v
  | .global g => some (.pointer (some ⟨g, 0, none⟩))
  | .func f => some (.func (.func f) #[] #[])
def evls (L : List (Nat × Value)) : List Operand → Option (List Value)
  | [] => some []
  | x :: r => match evl L x, evls L r with
    | some v, some vs => some (v :: vs)
    | _, _ => none
structure Sl (n : Nat) (D : List Deferred) (L : List (Nat × Value)) (a : Act) : Prop where
  sz : a.tmps.size = n
  df : a.defers = D
  sl : ∀ t v, lk t L = some v → a.tmps.getD t undef = v

variable {r : Option Nat} {P : Program} {n : Nat} {D : List Deferred} {L : List (Nat × Value)} {a : Act} {w w' : World} {ops : Array Oper} {Q : Exit → Act → World → Prop} {rest : List Oper}
  {o : Oper} {d : Nat} {v : Value}

theorem Sl.ev (S : Sl n D L a) {x : Operand} (h : evl L x = some v) : a.eval x = v := by
  cases x with
  | tmp t => exact S.sl t v h
  | const u => simpa [evl, Act.eval] using h
  | global g => simpa [evl, Act.eval] using h
  | func f => simpa [evl, Act.eval] using h
theorem Sl.evs (S : Sl n D L a) : ∀ {xs : List Operand} {vs : List Value}, evls L xs = some vs → xs.map a.eval = vs := by
  intro xs
  induction xs with
  | nil => intro vs h; simpa [evls] using h.symm
  | cons x xs ih =>
    intro vs h
    simp only [evls] at h
    split at h
    · rename_i v' vs' h1 h2; cases h; simp [S.ev h1, ih h2]
    · cases h
theorem Sl.put (S : Sl n D L a) (hd : d < n) (v : Value) : Sl n D ((d, v) :: L) (a.put (some d) v) := by
  refine ⟨by simp [Act.put, S.sz], S.df, fun t u h => ?_⟩
  simp only [lk] at h
  simp only [Act.put]
  cases e : Nat.beq d t with
  | true =>
    rw [e] at h; cases h
    have := Nat.eq_of_beq_eq_true e; subst this
    simp [Array.getD, S.sz, hd]
  | false =>
    rw [e] at h
    have hne : d ≠ t := Nat.ne_of_beq_eq_false e
    have := S.sl t u h
    simp only [Array.getD_eq_getD_getElem?, Array.getElem?_setIfInBounds_ne hne] at this ⊢
    exact this
/-- what is known is forgotten in part -/
def subL (L : List (Nat × Value)) : List (Nat × Value) → Prop
  | [] => True
  | (t, v) :: r => lk t L = some v ∧ subL L r
theorem Sl.sub (S : Sl n D L a) : ∀ {L' : List (Nat × Value)}, subL L L' → Sl n D L' a := by
  intro L' h
  refine ⟨S.sz, S.df, fun t v ht => S.sl t v ?_⟩
  induction L' with
  | nil => cases ht
  | cons p r ih =>
    obtain ⟨s, u⟩ := p
    simp only [lk] at ht
    cases e : Nat.beq s t with
    | true => rw [e] at ht; cases ht; have := Nat.eq_of_beq_eq_true e; subst this; exact h.1
    | false => rw [e] at ht; exact ih h.2 ht
theorem Sl.start (fn : Func) (args : List Value) (L : List (Nat × Value)) (hs : args.length ≤ fn.ntmps)
    (hL : ∀ t v, lk t L = some v → args[t]? = some v) :
    Sl fn.ntmps [] L { tmps := args.toArray ++ Array.replicate (fn.ntmps - args.toArray.size) undef, defers := [] } := by
  refine ⟨by simp; omega, rfl, fun t v h => ?_⟩
  have := hL t v h
  have hlt : t < args.length := (List.getElem?_eq_some_iff.1 this).1
  simp only [Array.getD_eq_getD_getElem?]
  rw [Array.getElem?_append_left (by simpa using hlt)]
  simp [this]

theorem blt_lt {a b : Nat} (h : Nat.blt a b = true) : a < b := Nat.le_of_ble_eq_true h
/-! ### operations -/
theorem op_ok (S : Sl n D L a) (hg : o.guard = none) (hnd : ∀ c, o.op ≠ .defer c) (hd : o.dst = some d) (hdn : d < n)
    (hr : (execOp a.eval o).run P w = .ok (.value v) w') (k : ∀ a', Sl n D ((d, v) :: L) a' → WL r P ops Q rest a' w') : WL r P ops Q (o :: rest) a w := by
  refine wpListIn_plain hg fun K hK => ⟨fun _ _ => trivial, ?_⟩
  rw [Oper.semAt_eq _ _ _ hnd, hr, Oper.uponIn_value, hd]
  exact hK _ _ (k _ (S.put hdn v))
theorem op_skip (S : Sl n D L a) (hg : o.guard = none) (hnd : ∀ c, o.op ≠ .defer c) (hd : o.dst = none)
    (hr : (execOp a.eval o).run P w = .ok .skip w') (k : WL r P ops Q rest a w') : WL r P ops Q (o :: rest) a w := by
  refine wpListIn_plain hg fun K hK => ⟨fun _ _ => trivial, ?_⟩
  rw [Oper.semAt_eq _ _ _ hnd, hr, Oper.uponIn_skip, hd]
  exact hK _ _ k

/-- the integer operations that always go through -/
def ibin : BinOp → IntKind → Int → Int → Option Value
  | .add, k, x, y => some (.int k (k.wrap (x + y)))
  | .sub, k, x, y => some (.int k (k.wrap (x - y)))
  | .mul, k, x, y => some (.int k (k.wrap (x * y)))
  | .eql, _, x, y => some (.bool (decide (x = y)))
  | .neq, _, x, y => some (.bool (!decide (x = y)))
  | .lss, _, x, y => some (.bool (decide (x < y)))
  | .leq, _, x, y => some (.bool (decide (x ≤ y)))
  | .gtr, _, x, y => some (.bool (decide (y < x)))
  | .geq, _, x, y => some (.bool (decide (y ≤ x)))
  | .and, k, x, y => some (.int k (k.wrap (BitVec.ofInt k.bits x &&& BitVec.ofInt k.bits y).toNat))
  | .or, k, x, y => some (.int k (k.wrap (BitVec.ofInt k.bits x ||| BitVec.ofInt k.bits y).toNat))
  | .xor, k, x, y => some (.int k (k.wrap (BitVec.ofInt k.bits x ^^^ BitVec.ofInt k.bits y).toNat))
  | .andNot, k, x, y => some (.int k (k.wrap (BitVec.ofInt k.bits x &&& ~~~ BitVec.ofInt k.bits y).toNat))
  | _, _, _, _ => none
/-- plain operations: what they leave, out of the slots alone -/
def pev (L : List (Nat × Value)) : Op → Option Value
  | .move x => evl L x
  | .assign x => evl L x
  | .binOp op _ x y _ => match evl L x, evl L y with
    | some (.int k a), some (.int k' b) => cond (decide (k = k')) (ibin op k a b) none
    | _, _ => none
  | .unOp .not _ x => match evl L x with
    | some (.bool b) => some (.bool (!b))
    | _ => none
  | .unOp .neg _ x => match evl L x with
    | some (.int k b) => some (.int k (k.wrap (0 - b)))
    | _ => none
  | .extract x i => match evl L x with
    | some (.tuple vs) => vs.toList[i]?
    | _ => none
  | .nilCheck x => match evl L x with
    | some (.pointer (some p)) => some (.pointer (some p))
    | _ => none
  | .makeFunc fn first captured => match evls L first.toList, evls L captured.toList with
    | some f, some c => some (.func fn f.toArray c.toArray)
    | _, _ => none
  | _ => none

theorem eqGuard_int (op : BinOp) (T : TypeId) (x y : Operand) (k k' : IntKind) (p q : Int) : (eqGuard op T x y (.int k p) (.int k' q)).run P w = .ok () w := by
  unfold eqGuard; cases op <;> rfl
theorem ibin_ok {op : BinOp} {k : IntKind} {x y : Int} (h : ibin op k x y = some v) (T : TypeId) : (binOp op T (.int k x) (.int k y)).run P w = .ok v w := by
  unfold ibin at h
  cases op <;> simp only [Option.some.injEq, reduceCtorEq] at h <;> subst h <;>
    simp [binOp, Op.intArith, Op.intCmp, Op.intBits, bne, BEq.beq, Sem.run]
theorem pev_ok (S : Sl n D L a) {op : Op} (h : pev L op = some v) (d : Option Nat) (ty : TypeId) (ps : String) (af : Array Edge) :
    (execOp a.eval ⟨d, op, ty, ps, af, none⟩).run P w = .ok (.value v) w ∧ ∀ c, op ≠ .defer c := by
  refine ⟨?_, by cases op <;> simp_all [pev]⟩
  cases op <;> simp only [pev] at h <;> try (cases h; done)
  case move x => simp [execOp, S.ev h, Sem.run]
  case assign x => simp [execOp, S.ev h, Sem.run]
  case binOp op T x y T' =>
    split at h
    · rename_i k p k' q h1 h2
      cases hk : decide (k = k') with
      | false => rw [hk] at h; cases h
      | true =>
        have := of_decide_eq_true hk; subst this
        rw [hk] at h
        simp [execOp, S.ev h1, S.ev h2, Sem.run_bind, eqGuard_int, ibin_ok (P := P) (w := w) h T, Result.andThen, Sem.run]
    · cases h
  case unOp u T x =>
    cases u <;> simp only [] at h <;> try (cases h; done)
    · split at h
      · rename_i k b h1; cases h; simp [execOp, S.ev h1, Op.unary, Op.intArith, Sem.run, Sem.run_bind, Result.andThen]
      · cases h
    · split at h
      · rename_i b h1; cases h; simp [execOp, S.ev h1, Op.unary, Sem.run, Sem.run_bind, Result.andThen]
      · cases h
  case extract x i =>
    split at h
    · rename_i vs h1
      have h2 : vs[i]? = some v := by simpa using h
      simp [execOp, S.ev h1, Instr.extract, h2, Sem.run, Sem.run_bind, Result.andThen]
    · cases h
  case nilCheck x =>
    split at h
    · rename_i p h1; cases h; simp [execOp, S.ev h1, Sem.run]
    · cases h
  case makeFunc fn first captured =>
    split at h
    · rename_i f c h1 h2; cases h
      have e1 := S.evs h1; have e2 := S.evs h2
      have q1 : first.map a.eval = f.toArray := by rw [← e1, ← Array.toList_map, Array.toArray_toList]
      have q2 : captured.map a.eval = c.toArray := by rw [← e2, ← Array.toList_map, Array.toArray_toList]
      simp [execOp, Instr.makeFunc, q1, q2, Sem.run, Sem.run_bind, Result.andThen]
    · cases h
/-- one plain operation -/
theorem r_pure {op : Op} {ty : TypeId} {ps : String} {af : Array Edge} (S : Sl n D L a) (v : Value) (h : pev L op = some v) (hd : Nat.blt d n = true)
    (k : ∀ a', Sl n D ((d, v) :: L) a' → WL r P ops Q rest a' w) : WL r P ops Q (⟨some d, op, ty, ps, af, none⟩ :: rest) a w :=
  op_ok S rfl (pev_ok (P := P) (w := w) S h (some d) ty ps af).2 rfl (blt_lt hd) (pev_ok S h (some d) ty ps af).1 k

/-- many at once -/
def pevs (n : Nat) (L : List (Nat × Value)) : List Oper → Option (List (Nat × Value))
  | [] => some L
  | ⟨some d, op, _, _, _, none⟩ :: r => match pev L op with
    | some v => cond (Nat.blt d n) (pevs n ((d, v) :: L) r) none
    | none => none
  | _ => none
theorem r_pures : ∀ (l : List Oper) {L L' : List (Nat × Value)} {a : Act}, Sl n D L a → pevs n L l = some L' →
    (∀ a', Sl n D L' a' → WL r P ops Q rest a' w) → WL r P ops Q (l ++ rest) a w
  | [], L, L', a, S, h, k => by simp only [pevs, Option.some.injEq] at h; subst h; exact k _ S
  | ⟨none, _, _, _, _, _⟩ :: _, _, _, _, _, h, _ => by simp [pevs] at h
  | ⟨some d, _, _, _, _, some _⟩ :: _, _, _, _, _, h, _ => by simp [pevs] at h
  | ⟨some d, op, ty, ps, af, none⟩ :: l, L, L', a, S, h, k => by
    simp only [pevs] at h
    split at h
    · rename_i v hv
      cases hb : Nat.blt d n with
      | false => rw [hb] at h; cases h
      | true => rw [hb] at h; exact r_pure S v hv hb fun a' S' => r_pures l S' h k
    · cases h

/-- an operation that is skipped, by its guard -/
theorem r_off {dst : Option Nat} {op : Op} {ty : TypeId} {ps : String} {af : Array Edge} {j : Nat} {b b' : Bool} {t : Nat} (S : Sl n D L a)
    (hj : (ops[j]?).bind (·.dst) = some t) (ht : lk t L = some (.bool b')) (htn : Nat.blt t n = true) (hb : b' = !b) (k : ∀ a', Sl n D (match dst with | some d => (d, undef) :: L | none => L) a' → WL r P ops Q rest a' w)
    (hd : (match dst with | some d => Nat.blt d n | none => true) = true) :
    WL r P ops Q (⟨dst, op, ty, ps, af, some (j, b)⟩ :: rest) a w := by
  have e : yielded ops a.tmps j = some b' := by
    have h1 := S.sl t _ ht
    have h2 : t < a.tmps.size := by rw [S.sz]; exact blt_lt htn
    simp only [yielded, hj, Option.bind_some]
    rw [Array.getElem?_eq_getElem h2]
    simp only [Array.getD, h2, dite_true] at h1
    have h3 : a.tmps[t] = .bool b' := h1
    rw [h3]
  have hw : Region.wanted ⟨dst, op, ty, ps, af, some (j, b)⟩ (yielded ops a.tmps) = false := by
    simp only [Region.wanted, e, hb]; cases b <;> rfl
  unfold WL wpListIn
  rw [if_neg (by rw [hw]; simp)]
  refine ⟨fun _ _ => trivial, ?_⟩
  cases dst with
  | none => exact k _ S
  | some d => exact k _ (S.put (blt_lt hd) undef)
theorem r_on {dst : Option Nat} {op : Op} {ty : TypeId} {ps : String} {af : Array Edge} {j : Nat} {b b' : Bool} {t : Nat} (S : Sl n D L a)
    (hj : (ops[j]?).bind (·.dst) = some t) (ht : lk t L = some (.bool b')) (htn : Nat.blt t n = true) (hb : b' = b) (k : WL r P ops Q (⟨dst, op, ty, ps, af, none⟩ :: rest) a w) :
    WL r P ops Q (⟨dst, op, ty, ps, af, some (j, b)⟩ :: rest) a w := by
  have e : yielded ops a.tmps j = some b' := by
    have h1 := S.sl t _ ht
    have h2 : t < a.tmps.size := by rw [S.sz]; exact blt_lt htn
    simp only [yielded, hj, Option.bind_some]
    rw [Array.getElem?_eq_getElem h2]
    simp only [Array.getD, h2, dite_true] at h1
    have h3 : a.tmps[t] = .bool b' := h1
    rw [h3]
  have hw : Region.wanted ⟨dst, op, ty, ps, af, some (j, b)⟩ (yielded ops a.tmps) = true := by
    simp only [Region.wanted, e, hb]; cases b <;> rfl
  unfold WL wpListIn at k ⊢
  rw [if_pos hw]
  rw [if_pos (by simp [Region.wanted])] at k
  exact k
theorem r_pick {c x y : Operand} {ty : TypeId} {ps : String} {af : Array Edge} {b b0 : Bool} (S : Sl n D L a) (hc : evl L c = some (.bool b)) (hb : b = b0) (v : Value)
    (h : evl L (cond b0 x y) = some v) (hd : Nat.blt d n = true) (k : ∀ a', Sl n D ((d, v) :: L) a' → WL r P ops Q rest a' w) :
    WL r P ops Q (⟨some d, .pick c x y, ty, ps, af, none⟩ :: rest) a w := by
  subst hb
  refine op_ok S rfl (by intro c h; cases h) rfl (blt_lt hd) (v := v) (w' := w) ?_ k
  cases b <;> simp [execOp, S.ev hc, asBool, Sem.run, Sem.run_bind, Result.andThen, S.ev h] at h ⊢ <;> exact S.ev h
/-- integer division by what isn't zero -/
theorem r_quo {x y : Operand} {T T' ty : TypeId} {ps : String} {af : Array Edge} {k : IntKind} {p q : Int} (S : Sl n D L a) (hx : evl L x = some (.int k p)) (hy : evl L y = some (.int k q)) (hq : q ≠ 0)
    (hd : Nat.blt d n = true) (kk : ∀ a', Sl n D ((d, .int k (k.wrap (p.tdiv q))) :: L) a' → WL r P ops Q rest a' w) :
    WL r P ops Q (⟨some d, .binOp .quo T x y T', ty, ps, af, none⟩ :: rest) a w := by
  refine op_ok S rfl (by intro c h; cases h) rfl (blt_lt hd) (w' := w) ?_ kk
  simp [execOp, S.ev hx, S.ev hy, Sem.run_bind, eqGuard_int, binOp, Op.intDiv, hq, Result.andThen, Sem.run]
theorem r_rem {x y : Operand} {T T' ty : TypeId} {ps : String} {af : Array Edge} {k : IntKind} {p q : Int} (S : Sl n D L a) (hx : evl L x = some (.int k p)) (hy : evl L y = some (.int k q)) (hq : q ≠ 0)
    (hd : Nat.blt d n = true) (kk : ∀ a', Sl n D ((d, .int k (p.tmod q)) :: L) a' → WL r P ops Q rest a' w) :
    WL r P ops Q (⟨some d, .binOp .rem T x y T', ty, ps, af, none⟩ :: rest) a w := by
  refine op_ok S rfl (by intro c h; cases h) rfl (blt_lt hd) (w' := w) ?_ kk
  simp [execOp, S.ev hx, S.ev hy, Sem.run_bind, eqGuard_int, binOp, Op.intDiv, hq, Result.andThen, Sem.run]
theorem r_shl {x y : Operand} {T T' ty : TypeId} {ps : String} {af : Array Edge} {k yk : IntKind} {p q : Int} (S : Sl n D L a) (hx : evl L x = some (.int k p)) (hy : evl L y = some (.int yk q)) (hq : ¬ q < 0)
    (hd : Nat.blt d n = true) (kk : ∀ a', Sl n D ((d, .int k (k.wrap (p * 2 ^ min q.toNat k.bits))) :: L) a' → WL r P ops Q rest a' w) :
    WL r P ops Q (⟨some d, .binOp .shl T x y T', ty, ps, af, none⟩ :: rest) a w := by
  refine op_ok S rfl (by intro c h; cases h) rfl (blt_lt hd) (w' := w) ?_ kk
  simp [execOp, S.ev hx, S.ev hy, Sem.run_bind, eqGuard_int, binOp, Op.shift, hq, Result.andThen, Sem.run]
theorem r_shr {x y : Operand} {T T' ty : TypeId} {ps : String} {af : Array Edge} {k yk : IntKind} {p q : Int} (S : Sl n D L a) (hx : evl L x = some (.int k p)) (hy : evl L y = some (.int yk q)) (hq : ¬ q < 0)
    (hd : Nat.blt d n = true) (kk : ∀ a', Sl n D ((d, .int k (p.fdiv (2 ^ min q.toNat k.bits))) :: L) a' → WL r P ops Q rest a' w) :
    WL r P ops Q (⟨some d, .binOp .shr T x y T', ty, ps, af, none⟩ :: rest) a w := by
  refine op_ok S rfl (by intro c h; cases h) rfl (blt_lt hd) (w' := w) ?_ kk
  simp [execOp, S.ev hx, S.ev hy, Sem.run_bind, eqGuard_int, binOp, Op.shift, hq, Result.andThen, Sem.run]
/-- a conversion between kinds of whole numbers -/
theorem r_conv {T T' ty : TypeId} {x : Operand} {ps : String} {af : Array Edge} {d0 : TypeDesc} {k k' : IntKind} {p : Int} (S : Sl n D L a) (hx : evl L x = some (.int k p))
    (h0 : P.underlying T = some d0) (h1 : P.underlying T' = some (.int k')) (hd : Nat.blt d n = true)
    (kk : ∀ a', Sl n D ((d, .int k' (k'.wrap p)) :: L) a' → WL r P ops Q rest a' w) :
    WL r P ops Q (⟨some d, .convert T T' x, ty, ps, af, none⟩ :: rest) a w := by
  refine op_ok S rfl (by intro c h; cases h) rfl (blt_lt hd) (w' := w) ?_ kk
  simp [execOp, S.ev hx, convert, Sem.run_bind, run_underlying h0, run_underlying h1, Conv.intToInt, Result.andThen, Sem.run]
theorem wl_nil (h : Q .normal a w) : WL r P ops Q [] a w := wpListIn_nil h
theorem w_region {id : Nat} {l : List Oper} (h : WL r P l.toArray Q l a w) : W r P (.region id l.toArray false) Q a w := wpIn_region_lit h

/-! ### code -/
theorem w_seq {x y : Code} (h : W r P x (Exit.then (W r P y Q) Q) a w) : W r P (.seq x y) Q a w := wpIn_seq h
/-- what stands between two pieces is told once -/
theorem w_cut {x y : Code} (I : Act → World → Prop) (h1 : W r P x (Exit.then I (fun _ _ _ => False)) a w) (h2 : ∀ a w, I a w → W r P y Q a w) : W r P (.seq x y) Q a w :=
  w_seq (wpIn_mono h1 fun e a w q => by cases e <;> first | exact h2 _ _ q | exact q.elim)
theorem w_true {c : Operand} {x y : Code} {b : Bool} (S : Sl n D L a) (hc : evl L c = some (.bool b)) (hb : b = true) (h : W r P x Q a w) : W r P (.cond c x y) Q a w :=
  wpIn_cond_true (by rw [S.ev hc, hb]) h
theorem w_false {c : Operand} {x y : Code} {b : Bool} (S : Sl n D L a) (hc : evl L c = some (.bool b)) (hb : b = false) (h : W r P y Q a w) : W r P (.cond c x y) Q a w :=
  wpIn_cond_false (by rw [S.ev hc, hb]) h
theorem w_block {id : Nat} {c : Code} (h : W r P c (Exit.inBlock id Q) a w) : W r P (.block id c) Q a w := wpIn_block h
theorem w_skip (h : Q .normal a w) : W r P .skip Q a w := wpIn_skip h
theorem w_exit {id : Nat} (h : Q (.exit id) a w) : W r P (.exit id) Q a w := wpIn_exit h
theorem w_ret (h : Q .ret a w) : W r P .ret Q a w := wpIn_ret h
theorem least (p : Nat → Prop) : ∀ k, p k → ∃ m, p m ∧ ∀ j, p j → m ≤ j := by
  intro k
  induction k using Nat.strongRecOn with
  | _ k ih =>
    intro h
    by_cases q : ∃ j, j < k ∧ p j
    · obtain ⟨j, hj, hp⟩ := q; exact ih j hj hp
    · exact ⟨k, h, fun j hj => Nat.le_of_not_lt fun hlt => q ⟨j, hlt, hj⟩⟩
/-- a loop: with each round the number of rounds that are left falls -/
theorem w_loop {c : Code} (I : Nat → Act → World → Prop) (k : Nat) (h0 : I k a w)
    (round : ∀ k a w, I k a w → ∃ k', k = k' + 1 ∧ W r P c (Exit.then (I k') Q) a w) : W r P (.loop c) Q a w := by
  have hm : ∀ a w, ∃ m, (∃ k, I k a w) → I m a w ∧ ∀ j, I j a w → m ≤ j := fun a w => by
    by_cases h : ∃ k, I k a w
    · obtain ⟨k, hk⟩ := h; obtain ⟨m, h1, h2⟩ := least (fun k => I k a w) k hk; exact ⟨m, fun _ => ⟨h1, h2⟩⟩
    · exact ⟨0, fun q => absurd q h⟩
  let μ : Act → World → Nat := fun a w => Classical.choose (hm a w)
  have hμ : ∀ a w, (∃ k, I k a w) → I (μ a w) a w ∧ ∀ j, I j a w → μ a w ≤ j := fun a w => Classical.choose_spec (hm a w)
  refine wpIn_loop (fun a w => ∃ k, I k a w) μ ⟨k, h0⟩ ?_
  intro a w hI
  obtain ⟨k', e, hw⟩ := round _ a w (hμ a w hI).1
  refine wpIn_mono hw fun x a' w' q => ?_
  cases x with
  | normal => exact ⟨⟨k', q⟩, by have := (hμ a' w' ⟨k', q⟩).2 k' q; omega⟩
  | _ => exact q

/-- what stands between two pieces is told once; other ends go on as they are -/
theorem w_cutX {x y : Code} (I : Act → World → Prop) (h1 : W r P x (Exit.then I Q) a w) (h2 : ∀ a w, I a w → W r P y Q a w) : W r P (.seq x y) Q a w :=
  w_seq (wpIn_mono h1 fun e a w q => by cases e <;> first | exact h2 _ _ q | exact q)
/-- the same at an end that isn't a 'seq' -/
theorem w_cutE {x : Code} {K : Act → World → Prop} (I : Act → World → Prop) (h1 : W r P x (Exit.then I (Exit.then K Q)) a w) (h2 : ∀ a w, I a w → K a w) : W r P x (Exit.then K Q) a w :=
  wpIn_mono h1 fun e a w q => by cases e <;> first | exact h2 _ _ q | exact q

def zipL (k : Nat) : List Value → List (Nat × Value)
  | [] => []
  | v :: r => (k, v) :: zipL (k + 1) r
theorem zipL_lk : ∀ (vs : List Value) (k t : Nat) (v : Value), lk t (zipL k vs) = some v → k ≤ t ∧ vs[t - k]? = some v
  | [], k, t, v, h => by cases h
  | u :: vs, k, t, v, h => by
    simp only [zipL, lk] at h
    cases e : Nat.beq k t with
    | true => rw [e] at h; cases h; have := Nat.eq_of_beq_eq_true e; subst this; exact ⟨Nat.le_refl _, by simp⟩
    | false =>
      rw [e] at h
      have := zipL_lk vs (k + 1) t v h
      refine ⟨by omega, ?_⟩
      have e2 : t - k = (t - (k + 1)) + 1 := by omega
      rw [e2, List.getElem?_cons_succ]; exact this.2
/-! ### calls -/
theorem calls_enter {f : FuncId} {fn : Func} {c : Code} {args : List Value} {R : Ending → World → Prop} (hf : P.funcs[f]? = some fn) (hb : fn.body = some c) (L : List (Nat × Value))
    (hs : args.length ≤ fn.ntmps) (hL : ∀ t v, lk t L = some v → args[t]? = some v)
    (h : ∀ a, Sl fn.ntmps [] L a → W none P c (bodyPost P fn R) a w) : Calls P f args.toArray w R :=
  callsIn_wide.1 (callsIn_of_wp (F := Fence.wide) (n := 0) hf hb trivial (h _ (Sl.start fn args L hs hL)))
theorem callFunc_enter {f : FuncId} {fn : Func} {c : Code} (hf : P.funcs[f]? = some fn) (hb : fn.body = some c) (hn : (fn.name == "runtime.NumGoroutine") = false) (args : Array Value) :
    (callFunc f args).run P w = .ok (.enter f args) w := by
  have hn' : ¬ (fn.name = "runtime.NumGoroutine") := by simpa using hn
  simp [callFunc, program, Sem.run_bind, Sem.run, Result.andThen, hf, hb, hn']
theorem calls_in {f : FuncId} {fn : Func} {c : Code} {args : List Value} {R : Ending → World → Prop} (hf : P.funcs[f]? = some fn) (hb : fn.body = some c) (hs : Nat.ble args.length fn.ntmps = true)
    (h : ∀ a, Sl fn.ntmps [] (zipL 0 args) a → W none P c (bodyPost P fn R) a w) : Calls P f args.toArray w R :=
  calls_enter hf hb (zipL 0 args) (Nat.le_of_ble_eq_true hs) (fun t v q => by have := zipL_lk args 0 t v q; simpa using this.2) h
def Goes (P : Program) (f : FuncId) : Prop := ∃ fn c, P.funcs[f]? = some fn ∧ fn.body = some c ∧ (fn.name == "runtime.NumGoroutine") = false
theorem r_call {f : Nat} {xs : List Operand} {ts : Array TypeId} {ty : TypeId} {ps : String} {af : Array Edge} {vs : List Value} {fo : Operand} {caps : List Value} (S : Sl n D L a)
    (hfo : evl L fo = some (.func (.func f) #[] caps.toArray)) (hxs : evls L xs = some vs) (hg : Goes P f) (hd : Nat.blt d n = true)
    (h : Calls P f (vs ++ caps).toArray w fun e w' => ∃ v, e = .returned v ∧ ∀ a', Sl n D ((d, v) :: L) a' → WL r P ops Q rest a' w') :
    WL r P ops Q (⟨some d, .call { callee := .value fo, args := xs.toArray, argTypes := ts }, ty, ps, af, none⟩ :: rest) a w := by
  obtain ⟨fn, c, hf, hb, hnn⟩ := hg
  refine wpListIn_plain rfl fun K hK => ⟨fun _ _ => trivial, ?_⟩
  rw [Oper.semAt_eq _ _ _ (by intro c h; cases h)]
  have e1 : xs.toArray.map a.eval = vs.toArray := by rw [← S.evs hxs]; simp
  have e2 := S.ev hfo
  have hr : (execOp a.eval ⟨some d, .call { callee := .value fo, args := xs.toArray, argTypes := ts }, ty, ps, af, none⟩).run P w = .ok (.enter f (vs ++ caps).toArray) w := by
    simp only [execOp, resolve, e1, e2, Deferred.ofValue, Sem.run_bind, Result.andThen]
    simp [Sem.run, invoke, callFunc_enter (P := P) (w := w) hf hb hnn, Sem.run_bind, Result.andThen]
  rw [hr, Oper.uponIn_enter]
  refine ⟨(fun h => by cases h), ?_⟩
  refine CallsIn.mono (callsIn_wide.2 h) ?_
  rintro e w' ⟨v, rfl, hk⟩
  exact hK _ _ (hk _ (S.put (blt_lt hd) v))
/-- a function returns what stands in a slot -/
theorem ret1 {fn : Func} {R : Ending → World → Prop} {t : Nat} (S : Sl n [] L a) (hr : fn.results = #[.tmp t]) (ht : lk t L = some v) (h : R (.returned v) w) : bodyPost P fn R .ret a w :=
  bodyPost_ret (v := v) (by rw [results_tmp hr, S.sl t v ht]) S.df h
theorem ret2 {fn : Func} {R : Ending → World → Prop} {t u : Nat} {v' : Value} (S : Sl n [] L a) (hr : fn.results = #[.tmp t, .tmp u]) (ht : lk t L = some v) (hu : lk u L = some v') (h : R (.returned (.tuple #[v, v'])) w) : bodyPost P fn R .ret a w :=
  bodyPost_ret (v := .tuple #[v, v']) (by rw [results_tmp2 hr, S.sl t v ht, S.sl u v' hu]) S.df h
theorem ret3 {fn : Func} {R : Ending → World → Prop} {t u s : Nat} {v' v'' : Value} (S : Sl n [] L a) (hr : fn.results = #[.tmp t, .tmp u, .tmp s]) (ht : lk t L = some v) (hu : lk u L = some v') (hs : lk s L = some v'') (h : R (.returned (.tuple #[v, v', v''])) w) : bodyPost P fn R .ret a w :=
  bodyPost_ret (v := .tuple #[v, v', v'']) (by have h1 := S.sl t v ht; have h2 := S.sl u v' hu; have h3 := S.sl s v'' hs; simp only [Array.getD_eq_getD_getElem?] at h1 h2 h3; simp [results, hr, h1, h2, h3, Sem.run, Sem.run_bind]) S.df h
theorem ret0 {fn : Func} {R : Ending → World → Prop} (S : Sl n [] L a) (hr : fn.results = #[]) (h : R (.returned (.tuple #[])) w) : bodyPost P fn R .ret a w :=
  bodyPost_ret (v := .tuple #[]) (by rw [results_none hr]) S.df h
theorem end0 {fn : Func} {R : Ending → World → Prop} (S : Sl n [] L a) (hr : fn.results = #[]) (h : R (.returned (.tuple #[])) w) : bodyPost P fn R .normal a w :=
  bodyPost_end (v := .tuple #[]) (by rw [results_none hr]) S.df h
end Go.Proofs.Ythlogangnppghaa.Sl
