/- The law RingShares of the seat Ytmdpjijafejgpaa: whatever the input, the call ends, answers true, and what came in reads as it did. This text is part 1 of 4, joined out of the session's texts. -/
import Derived.Deep.MidRow
import Derived.RangeFuncIn
import Derived.RangeFuncLeaves
import Derived.TacticsIn
import Derived.OrdersIn
import Derived.Laws.AppendOwn
import Derived.Laws.AppendOwnNone
import Derived.Laws.OwnMore
import Derived.Laws.MakeOwn
import Derived.Below
import Derived.Laws.StructEq
import Derived.Laws.Cover3
import Derived.Laws.Bits64
import Derived.Laws.BitsLemmas
import Derived.Deep.Slices
import Derived.SizedLaws
import Derived.RangeFuncRecord
import Derived.Test.YtmdpjijafejgpaaProg
/- A small separation logic over the machine's memory: heaps, chunks, what a list of chunks says of a world. Used by the walks of this seat. -/
set_option linter.unusedVariables false
set_option linter.unusedSimpArgs false
namespace Go.Proofs.Ytmdpjijafejgpaa.Sl
open Go

abbrev Heap := Nat → Option Obj
abbrev Hp := Heap → Prop
def hpOf (w : World) : Heap := fun b => w.heap[b]?
def dj (h k : Heap) : Prop := ∀ b, h b = none ∨ k b = none
def un (h k : Heap) : Heap := fun b => match h b with | some o => some o | none => k b
def one (b : Nat) (o : Obj) : Heap := fun k => if k = b then some o else none
def upd (h : Heap) (b : Nat) (o : Obj) : Heap := fun k => if k = b then some o else h k
def SL : List Hp → Hp
  | [] => fun _ => True
  | c :: cs => fun h => ∃ h1 h2, dj h1 h2 ∧ h = un h1 h2 ∧ c h1 ∧ SL cs h2
def isH (X : Heap) : Hp := fun h => h = X

theorem un_some {h k : Heap} {b : Nat} {o : Obj} (e : h b = some o) : un h k b = some o := by simp [un, e]
theorem un_right {h k : Heap} {b : Nat} (e : h b = none) : un h k b = k b := by simp [un, e]
theorem dj_symm {h k : Heap} (d : dj h k) : dj k h := fun b => (d b).symm
theorem un_comm {h k : Heap} (d : dj h k) : un h k = un k h := by
  funext b
  rcases d b with e | e <;> cases h1 : h b <;> cases k1 : k b <;> simp_all [un]
theorem un_assoc (a b c : Heap) : un (un a b) c = un a (un b c) := by
  funext x; simp only [un]; cases a x <;> simp
theorem dj_un {a b c : Heap} : dj a (un b c) ↔ dj a b ∧ dj a c := by
  constructor
  · intro d
    refine ⟨fun x => ?_, fun x => ?_⟩ <;> rcases d x with e | e <;> simp_all [un] <;> cases h : b x <;> simp_all
  · rintro ⟨d1, d2⟩ x
    rcases d1 x with e | e
    · exact .inl e
    · rcases d2 x with e2 | e2
      · exact .inl e2
      · exact .inr (by simp [un, e, e2])
theorem un_dj {a b c : Heap} : dj (un b c) a ↔ dj b a ∧ dj c a := by
  constructor
  · intro d; have := dj_un.1 (dj_symm d); exact ⟨dj_symm this.1, dj_symm this.2⟩
  · rintro ⟨d1, d2⟩; exact dj_symm (dj_un.2 ⟨dj_symm d1, dj_symm d2⟩)

theorem SL.swap {a b : Hp} {cs : List Hp} {h : Heap} (H : SL (a :: b :: cs) h) : SL (b :: a :: cs) h := by
  obtain ⟨h1, h2, d, rfl, ha, k1, k2, d', rfl, hb, hc⟩ := H
  obtain ⟨d1, d2⟩ := dj_un.1 d
  refine ⟨k1, un h1 k2, dj_un.2 ⟨dj_symm d1, d'⟩, ?_, hb, h1, k2, d2, rfl, ha, hc⟩
  rw [← un_assoc, un_comm d1, un_assoc]
theorem SL.tail_mono {a : Hp} {cs cs' : List Hp} {h : Heap} (H : SL (a :: cs) h) (f : ∀ h, SL cs h → SL cs' h) : SL (a :: cs') h := by
  obtain ⟨h1, h2, d, e, ha, hc⟩ := H
  exact ⟨h1, h2, d, e, ha, f _ hc⟩
theorem SL.pull : ∀ (pre : List Hp) {c : Hp} {post : List Hp} {h : Heap}, SL (pre ++ c :: post) h → SL (c :: (pre ++ post)) h
  | [], _, _, _, H => H
  | _ :: pre, _, _, _, H => SL.swap (H.tail_mono fun _ k => SL.pull pre k)
theorem SL.push : ∀ (pre : List Hp) {c : Hp} {post : List Hp} {h : Heap}, SL (c :: (pre ++ post)) h → SL (pre ++ c :: post) h
  | [], _, _, _, H => H
  | _ :: pre, _, _, _, H => (SL.swap H).tail_mono fun _ k => SL.push pre k
theorem SL.head_mono {c c' : Hp} {cs : List Hp} {h : Heap} (H : SL (c :: cs) h) (f : ∀ h, c h → c' h) : SL (c' :: cs) h := by
  obtain ⟨h1, h2, d, e, ha, hc⟩ := H
  exact ⟨h1, h2, d, e, f _ ha, hc⟩
theorem SL.drop {c : Hp} {cs : List Hp} : ∀ {h : Heap}, SL (c :: cs) h → SL cs h := by
  intro h H
  cases cs with
  | nil => trivial
  | cons a cs =>
    obtain ⟨h1, h2, d, rfl, ha, k1, k2, d', rfl, hb, hc⟩ := H
    obtain ⟨d1, d2⟩ := dj_un.1 d
    -- what is left over goes to the end
    clear ha
    have : ∀ (cs : List Hp) (x y : Heap), dj x y → SL cs y → SL cs (un x y) := by
      intro cs
      induction cs with
      | nil => intros; trivial
      | cons a cs ih =>
        rintro x y d ⟨y1, y2, e, rfl, p, q⟩
        obtain ⟨d1, d2⟩ := dj_un.1 d
        exact ⟨y1, un x y2, dj_un.2 ⟨dj_symm d1, e⟩, by rw [← un_assoc, un_comm d1, un_assoc], p, ih _ _ d2 q⟩
    exact this (a :: cs) _ _ d ⟨k1, k2, d', rfl, hb, hc⟩
theorem SL.dropAt (pre : List Hp) {c : Hp} {post : List Hp} {h : Heap} (H : SL (pre ++ c :: post) h) : SL (pre ++ post) h := (SL.pull pre H).drop
/-- what is not said of is left over -/
theorem SL.weak : ∀ (cs : List Hp) {x y : Heap}, dj x y → SL cs y → SL cs (un x y) := by
  intro cs x y d H
  exact SL.drop (c := fun h => h = x) ⟨x, y, d, rfl, rfl, H⟩

/-- a cell of a heap -/
def hcell (h : Heap) (b o : Nat) : Option Value := match h b with | some (.cells c _ _) => c[o]? | _ => none
theorem cell_hcell (w : World) (b o : Nat) : w.cell? ⟨b, o, none⟩ = hcell (hpOf w) b o := by
  simp only [World.cell?, hcell, hpOf]; cases w.heap[b]? with
  | none => rfl
  | some x => cases x <;> simp
theorem SL.block {pre : List Hp} {c : Hp} {post : List Hp} {h : Heap} (H : SL (pre ++ c :: post) h) {b : Nat} {o : Obj} (f : ∀ h, c h → h b = some o) : h b = some o := by
  obtain ⟨h1, h2, d, rfl, ha, -⟩ := SL.pull pre H
  exact un_some (f _ ha)
theorem SL.hcell {pre : List Hp} {c : Hp} {post : List Hp} {h : Heap} (H : SL (pre ++ c :: post) h) {b o : Nat} {v : Value} (f : ∀ h, c h → hcell h b o = some v) : hcell h b o = some v := by
  obtain ⟨h1, h2, d, rfl, ha, -⟩ := SL.pull pre H
  have := f _ ha
  unfold Sl.hcell at this ⊢
  cases e : h1 b with
  | none => rw [e] at this; cases this
  | some x => rw [un_some e]; rwa [e] at this
/-- one chunk's knowledge -/
theorem SL.pure {pre : List Hp} {c : Hp} {post : List Hp} {h : Heap} (H : SL (pre ++ c :: post) h) {p : Prop} (f : ∀ h, c h → p) : p := by
  obtain ⟨h1, h2, d, rfl, ha, -⟩ := SL.pull pre H
  exact f _ ha
theorem SL.mono1 {pre : List Hp} {c c' : Hp} {post : List Hp} {h : Heap} (H : SL (pre ++ c :: post) h) (f : ∀ h, c h → c' h) : SL (pre ++ c' :: post) h :=
  SL.push pre ((SL.pull pre H).head_mono f)

/-- a block of one chunk is turned -/
theorem SL.upd {pre : List Hp} {c c' : Hp} {post : List Hp} {h : Heap} (H : SL (pre ++ c :: post) h) (b : Nat) (o : Obj)
    (f : ∀ h, c h → h b ≠ none ∧ c' (upd h b o)) : SL (pre ++ c' :: post) (Sl.upd h b o) := by
  obtain ⟨h1, h2, d, rfl, ha, hr⟩ := SL.pull pre H
  obtain ⟨hb, hc⟩ := f _ ha
  have hb2 : h2 b = none := (d b).resolve_left hb
  refine SL.push pre ⟨Sl.upd h1 b o, h2, fun x => ?_, ?_, hc, hr⟩
  · by_cases e : x = b
    · subst e; exact .inr hb2
    · rcases d x with q | q
      · exact .inl (by simp [Sl.upd, e, q])
      · exact .inr q
  · funext x
    by_cases e : x = b
    · subst e; simp [Sl.upd, un]
    · simp [Sl.upd, un, e]
/-- a chunk takes other blocks: those that it had in w, and new ones -/
theorem SL.turn {pre : List Hp} {c c' : Hp} {post : List Hp} {w w' : World} (H : SL (pre ++ c :: post) (hpOf w)) (row : Option Nat)
    (hrow : ∀ k, row = some k → ∀ h, c h → h k ≠ none)
    (hkeep : ∀ k, k < w.heap.size → some k ≠ row → w'.heap[k]? = w.heap[k]?)
    (f : ∀ h1, c h1 → (∀ k o, h1 k = some o → some k ≠ row → w'.heap[k]? = some o) → ∃ h1', c' h1' ∧ (∀ k o, h1' k = some o → w'.heap[k]? = some o ∧ (h1 k ≠ none ∨ w.heap.size ≤ k))) :
    SL (pre ++ c' :: post) (hpOf w') := by
  obtain ⟨h1, h2, d, e, ha, hr⟩ := SL.pull pre H
  have lt : ∀ k o, hpOf w k = some o → k < w.heap.size := fun k o h => (Array.getElem?_eq_some_iff.1 h).1
  have e1 : ∀ k o, h1 k = some o → hpOf w k = some o := fun k o h => by rw [e]; exact un_some h
  have e2 : ∀ k o, h2 k = some o → hpOf w k = some o := fun k o h => by
    rw [e, un_right]; exact h
    exact (d k).resolve_right (by simp [h])
  obtain ⟨h1', hc', hin⟩ := f h1 ha (fun k o h hne => by rw [hkeep k (lt k o (e1 k o h)) hne]; exact e1 k o h)
  have e2' : ∀ k o, h2 k = some o → w'.heap[k]? = some o := fun k o h => by
    rw [hkeep k (lt k o (e2 k o h)) (fun hk => ?_)]
    · exact e2 k o h
    · exact hrow k hk.symm h1 ha ((d k).resolve_right (by simp [h]))
  have dd : dj h1' h2 := fun k => by
    cases q : h1' k with
    | none => exact .inl rfl
    | some o =>
      refine .inr ?_
      rcases (hin k o q).2 with z | z
      · exact (d k).resolve_left z
      · cases q2 : h2 k with
        | none => rfl
        | some o2 => have := lt k o2 (e2 k o2 q2); omega
  -- the rest of the heap
  have rest : hpOf w' = un (fun k => if h1' k = none ∧ h2 k = none then w'.heap[k]? else none) (un h1' h2) := by
    funext k
    simp only [hpOf, un]
    cases q : h1' k with
    | some o => simp [(hin k o q).1]
    | none =>
      cases q2 : h2 k with
      | some o => simp [e2' k o q2]
      | none => simp; cases w'.heap[k]? <;> rfl
  rw [rest]
  refine SL.push pre (SL.weak _ (fun k => ?_) ⟨h1', h2, dd, rfl, hc', hr⟩)
  by_cases q : h1' k = none ∧ h2 k = none
  · exact .inr (by simp [un, q.1, q.2])
  · exact .inl (by simp [q])

/-- for a call: what the callee isn't handed is its frame -/
theorem SL.frame (pre : List Hp) {post : List Hp} : ∀ {h : Heap}, SL (pre ++ post) h → ∃ X, SL (pre ++ [isH X]) h ∧ SL post X := by
  induction pre with
  | nil => intro h H; exact ⟨h, ⟨h, fun _ => none, fun _ => .inr rfl, by funext b; simp only [un]; cases h b <;> rfl, rfl, trivial⟩, H⟩
  | cons c pre ih =>
    rintro h ⟨h1, h2, d, e, ha, hr⟩
    obtain ⟨X, hX, hp⟩ := ih hr
    exact ⟨X, ⟨h1, h2, d, e, ha, hX⟩, hp⟩
theorem SL.unframe (pre : List Hp) {post : List Hp} {X : Heap} (hp : SL post X) : ∀ {h : Heap}, SL (pre ++ [isH X]) h → SL (pre ++ post) h := by
  induction pre with
  | nil =>
    rintro h ⟨h1, h2, d, rfl, e, -⟩
    cases e
    rw [un_comm d]; exact SL.weak _ (dj_symm d) hp
  | cons c pre ih => rintro h ⟨h1, h2, d, e, ha, hr⟩; exact ⟨h1, h2, d, e, ha, ih hr⟩

theorem SL.keep : ∀ (pre : List Hp) {post : List Hp} {h : Heap}, SL (pre ++ post) h → SL pre h
  | [], _, _, _ => trivial
  | _ :: pre, _, _, H => H.tail_mono fun _ k => SL.keep pre k
/-- what is said of a world -/
structure HS (w0 : World) (cs : List Hp) (w : World) : Prop where
  sl : SL cs (hpOf w)
  os : w.os = w0.os
  tape : w.tape = w0.tape
  out : w.output = w0.output
  size : w0.heap.size ≤ w.heap.size
  dr : w0.drawn ≤ w.drawn
theorem HS.of {w0 w w' : World} {cs cs' : List Hp} (H : HS w0 cs w) (k : HS w cs' w') : HS w0 cs' w' :=
  ⟨k.sl, k.os.trans H.os, k.tape.trans H.tape, k.out.trans H.out, Nat.le_trans H.size k.size, Nat.le_trans H.dr k.dr⟩
theorem HS.map {w0 w : World} {cs cs' : List Hp} (H : HS w0 cs w) (f : SL cs (hpOf w) → SL cs' (hpOf w)) : HS w0 cs' w := ⟨f H.sl, H.os, H.tape, H.out, H.size, H.dr⟩
theorem HS.pull {w0 w : World} (pre : List Hp) {c : Hp} {post : List Hp} (H : HS w0 (pre ++ c :: post) w) : HS w0 (c :: (pre ++ post)) w := H.map (SL.pull pre)
theorem HS.keep {w0 w : World} (pre : List Hp) {post : List Hp} (H : HS w0 (pre ++ post) w) : HS w0 pre w := H.map (SL.keep pre)
theorem call_frame {w0 w : World} (pre : List Hp) {post : List Hp} (H : HS w0 (pre ++ post) w) : ∃ X, HS w (pre ++ [isH X]) w ∧ SL post X ∧ ∀ pre' w', HS w (pre' ++ [isH X]) w' → HS w0 (pre' ++ post) w' := by
  obtain ⟨X, h1, h2⟩ := SL.frame pre H.sl
  exact ⟨X, ⟨h1, rfl, rfl, rfl, Nat.le_refl _, Nat.le_refl _⟩, h2, fun pre' w' k => (HS.of H k).map (SL.unframe pre' h2)⟩
theorem HS.start (w : World) : HS w [isH (hpOf w)] w :=
  ⟨⟨hpOf w, fun _ => none, fun _ => .inr rfl, by funext b; simp only [un]; cases hpOf w b <;> rfl, rfl, trivial⟩, rfl, rfl, rfl, Nat.le_refl _, Nat.le_refl _⟩
theorem HS.drew {w0 w : World} {cs : List Hp} (H : HS w0 cs w) : HS w0 cs { w with drawn := w.drawn + 1 } := ⟨H.sl, H.os, H.tape, H.out, H.size, Nat.le_succ_of_le H.dr⟩
theorem HS.below {w0 w : World} {pre post : List Hp} (H : HS w0 (pre ++ isH (hpOf w0) :: post) w) : RowKit.Below w0.heap.size w0 w := by
  refine ⟨H.os, H.tape, H.out, H.size, fun k hk => ?_⟩
  obtain ⟨o, ho⟩ : ∃ o, w0.heap[k]? = some o := ⟨_, Array.getElem?_eq_getElem hk⟩
  rw [ho]
  exact SL.block (b := k) (o := o) H.sl (fun h e => by rw [show h = hpOf w0 from e]; exact ho)

/-- a whole block of cells -/
def bx (b : Nat) (T : TypeId) (cs : List Value) : Hp := fun h => h = one b (.cells cs.toArray T (0, 0))
theorem bx_hcell {b : Nat} {T : TypeId} {cs : List Value} (o : Nat) {v : Value} (e : cs[o]? = some v) : ∀ h, bx b T cs h → hcell h b o = some v := by
  rintro h rfl
  simpa [hcell, one] using e
theorem hpOf_alloc (w : World) (o : Obj) : hpOf (w.alloc o) = upd (hpOf w) w.heap.size o := by
  funext k
  simp only [hpOf, upd, World.alloc]
  rw [Array.getElem?_push]
theorem SL.alloc {cs : List Hp} {w : World} (H : SL cs (hpOf w)) (o : Obj) : SL ((fun h => h = one w.heap.size o) :: cs) (hpOf (w.alloc o)) := by
  refine ⟨_, hpOf w, fun k => ?_, ?_, rfl, H⟩
  · by_cases e : k = w.heap.size
    · exact .inr (by simp [hpOf, e])
    · exact .inl (by simp [one, e])
  · rw [hpOf_alloc]; funext k
    by_cases e : k = w.heap.size <;> simp [Sl.upd, un, one, e]
theorem HS.alloc {w0 w : World} {cs : List Hp} (H : HS w0 cs w) (o : Obj) : HS w0 ((fun h => h = one w.heap.size o) :: cs) (w.alloc o) :=
  ⟨H.sl.alloc o, H.os, H.tape, H.out, by have := H.size; show w0.heap.size ≤ (w.heap.push o).size; rw [Array.size_push]; omega, H.dr⟩
theorem HS.box {w0 w : World} {cs : List Hp} (H : HS w0 cs w) (T : TypeId) (vs : Array Value) : HS w0 (bx w.heap.size T vs.toList :: cs) (w.alloc (.cells vs T)) := by
  have e : bx w.heap.size T vs.toList = fun h => h = one w.heap.size (.cells vs T) := by unfold bx; rw [Array.toArray_toList]
  rw [e]
  exact H.alloc (.cells vs T)
end Go.Proofs.Ytmdpjijafejgpaa.Sl

/- The slots of a frame as a list of what is known, and a rule for each plain operation and each form of code. -/
set_option linter.unusedVariables false
set_option linter.unusedSimpArgs false
namespace Go.Proofs.Ytmdpjijafejgpaa.Sl
open Go

abbrev Fr (r : Option Nat) : Fence := { fn := fun _ => True, depth := none, alive := false, round := r }
abbrev W (r : Option Nat) (P : Program) (c : Code) (Q : Exit → Act → World → Prop) (a : Act) (w : World) : Prop := c.wpIn (Fr r) 0 P Q a w
abbrev WL (r : Option Nat) (P : Program) (ops : Array Oper) (Q : Exit → Act → World → Prop) (l : List Oper) (a : Act) (w : World) : Prop := wpListIn (Fr r) 0 P ops Q l a w

def lk (t : Nat) : List (Nat × Value) → Option Value
  | [] => none
  | (s, v) :: r => cond (Nat.beq s t) (some v) (lk t r)
def evl (L : List (Nat × Value)) : Operand → Option Value
  | .tmp t => lk t L
  | .const v => some v
  | .global g => some (.pointer (some ⟨g, 0, none⟩))
  | .func f => some (.func (.func f) #[] #[])
def evls (L : List (Nat × Value)) : List Operand → Option (List Value)
  | [] => some []
  | x :: r => match evl L x, evls L r with
    | some v, some vs => some (v :: vs)
    | _, _ => none
structure Sl (n : Nat) (D : List Deferred) (L : List (Nat × Value)) (a : Act) : Prop where
  sz : a.tmps.size = n
  df : a.defers = D
  sl : ∀ t v, lk t L = some v → a.tmps.getD t undef = v

variable {r : Option Nat} {P : Program} {n : Nat} {D : List Deferred} {L : List (Nat × Value)} {a : Act} {w w' : World} {ops : Array Oper} {Q : Exit → Act → World → Prop} {rest : List Oper}
  {o : Oper} {d : Nat} {v : Value}

theorem Sl.ev (S : Sl n D L a) {x : Operand} (h : evl L x = some v) : a.eval x = v := by
  cases x with
  | tmp t => exact S.sl t v h
  | const u => simpa [evl, Act.eval] using h
  | global g => simpa [evl, Act.eval] using h
  | func f => simpa [evl, Act.eval] using h
theorem Sl.evs (S : Sl n D L a) : ∀ {xs : List Operand} {vs : List Value}, evls L xs = some vs → xs.map a.eval = vs := by
  intro xs
  induction xs with
  | nil => intro vs h; simpa [evls] using h.symm
  | cons x xs ih =>
    intro vs h
    simp only [evls] at h
    split at h
    · rename_i v' vs' h1 h2; cases h; simp [S.ev h1, ih h2]
    · cases h
theorem Sl.put (S : Sl n D L a) (hd : d < n) (v : Value) : Sl n D ((d, v) :: L) (a.put (some d) v) := by
  refine ⟨by simp [Act.put, S.sz], S.df, fun t u h => ?_⟩
  simp only [lk] at h
  simp only [Act.put]
  cases e : Nat.beq d t with
  | true =>
    rw [e] at h; cases h
    have := Nat.eq_of_beq_eq_true e; subst this
    simp [Array.getD, S.sz, hd]
  | false =>
    rw [e] at h
    have hne : d ≠ t := Nat.ne_of_beq_eq_false e
    have := S.sl t u h
    simp only [Array.getD_eq_getD_getElem?, Array.getElem?_setIfInBounds_ne hne] at this ⊢
    exact this
/-- what is known is forgotten in part -/
def subL (L : List (Nat × Value)) : List (Nat × Value) → Prop
  | [] => True
  | (t, v) :: r => lk t L = some v ∧ subL L r
theorem Sl.sub (S : Sl n D L a) : ∀ {L' : List (Nat × Value)}, subL L L' → Sl n D L' a := by
  intro L' h
  refine ⟨S.sz, S.df, fun t v ht => S.sl t v ?_⟩
  induction L' with
  | nil => cases ht
  | cons p r ih =>
    obtain ⟨s, u⟩ := p
    simp only [lk] at ht
    cases e : Nat.beq s t with
    | true => rw [e] at ht; cases ht; have := Nat.eq_of_beq_eq_true e; subst this; exact h.1
    | false => rw [e] at ht; exact ih h.2 ht
theorem Sl.start (fn : Func) (args : List Value) (L : List (Nat × Value)) (hs : args.length ≤ fn.ntmps)
    (hL : ∀ t v, lk t L = some v → args[t]? = some v) :
    Sl fn.ntmps [] L { tmps := args.toArray ++ Array.replicate (fn.ntmps - args.toArray.size) undef, defers := [] } := by
  refine ⟨by simp; omega, rfl, fun t v h => ?_⟩
  have := hL t v h
  have hlt : t < args.length := (List.getElem?_eq_some_iff.1 this).1
  simp only [Array.getD_eq_getD_getElem?]
  rw [Array.getElem?_append_left (by simpa using hlt)]
  simp [this]

theorem blt_lt {a b : Nat} (h : Nat.blt a b = true) : a < b := Nat.le_of_ble_eq_true h
/-! ### operations -/
theorem op_ok (S : Sl n D L a) (hg : o.guard = none) (hnd : ∀ c, o.op ≠ .defer c) (hd : o.dst = some d) (hdn : d < n)
    (hr : (execOp a.eval o).run P w = .ok (.value v) w') (k : ∀ a', Sl n D ((d, v) :: L) a' → WL r P ops Q rest a' w') : WL r P ops Q (o :: rest) a w := by
  refine wpListIn_plain hg fun K hK => ⟨fun _ _ => trivial, ?_⟩
  rw [Oper.semAt_eq _ _ _ hnd, hr, Oper.uponIn_value, hd]
  exact hK _ _ (k _ (S.put hdn v))
theorem op_skip (S : Sl n D L a) (hg : o.guard = none) (hnd : ∀ c, o.op ≠ .defer c) (hd : o.dst = none)
    (hr : (execOp a.eval o).run P w = .ok .skip w') (k : WL r P ops Q rest a w') : WL r P ops Q (o :: rest) a w := by
  refine wpListIn_plain hg fun K hK => ⟨fun _ _ => trivial, ?_⟩
  rw [Oper.semAt_eq _ _ _ hnd, hr, Oper.uponIn_skip, hd]
  exact hK _ _ k

/-- the integer operations that always go through -/
def ibin : BinOp → IntKind → Int → Int → Option Value
  | .add, k, x, y => some (.int k (k.wrap (x + y)))
  | .sub, k, x, y => some (.int k (k.wrap (x - y)))
  | .mul, k, x, y => some (.int k (k.wrap (x * y)))
  | .eql, _, x, y => some (.bool (decide (x = y)))
  | .neq, _, x, y => some (.bool (!decide (x = y)))
  | .lss, _, x, y => some (.bool (decide (x < y)))
  | .leq, _, x, y => some (.bool (decide (x ≤ y)))
  | .gtr, _, x, y => some (.bool (decide (y < x)))
  | .geq, _, x, y => some (.bool (decide (y ≤ x)))
  | .and, k, x, y => some (.int k (k.wrap (BitVec.ofInt k.bits x &&& BitVec.ofInt k.bits y).toNat))
  | .or, k, x, y => some (.int k (k.wrap (BitVec.ofInt k.bits x ||| BitVec.ofInt k.bits y).toNat))
  | .xor, k, x, y => some (.int k (k.wrap (BitVec.ofInt k.bits x ^^^ BitVec.ofInt k.bits y).toNat))
  | .andNot, k, x, y => some (.int k (k.wrap (BitVec.ofInt k.bits x &&& ~~~ BitVec.ofInt k.bits y).toNat))
  | _, _, _, _ => none
/-- plain operations: what they leave, out of the slots alone -/
def pev (L : List (Nat × Value)) : Op → Option Value
  | .move x => evl L x
  | .assign x => evl L x
  | .binOp op _ x y _ => match evl L x, evl L y with
    | some (.int k a), some (.int k' b) => cond (decide (k = k')) (ibin op k a b) none
    | _, _ => none
  | .unOp .not _ x => match evl L x with
    | some (.bool b) => some (.bool (!b))
    | _ => none
  | .unOp .neg _ x => match evl L x with
    | some (.int k b) => some (.int k (k.wrap (0 - b)))
    | _ => none
  | .extract x i => match evl L x with
    | some (.tuple vs) => vs.toList[i]?
    | _ => none
  | .nilCheck x => match evl L x with
    | some (.pointer (some p)) => some (.pointer (some p))
    | _ => none
  | .makeFunc fn first captured => match evls L first.toList, evls L captured.toList with
    | some f, some c => some (.func fn f.toArray c.toArray)
    | _, _ => none
  | _ => none

theorem eqGuard_int (op : BinOp) (T : TypeId) (x y : Operand) (k k' : IntKind) (p q : Int) : (eqGuard op T x y (.int k p) (.int k' q)).run P w = .ok () w := by
  unfold eqGuard; cases op <;> rfl
theorem ibin_ok {op : BinOp} {k : IntKind} {x y : Int} (h : ibin op k x y = some v) (T : TypeId) : (binOp op T (.int k x) (.int k y)).run P w = .ok v w := by
  unfold ibin at h
  cases op <;> simp only [Option.some.injEq, reduceCtorEq] at h <;> subst h <;>
    simp [binOp, Op.intArith, Op.intCmp, Op.intBits, bne, BEq.beq, Sem.run]
theorem pev_ok (S : Sl n D L a) {op : Op} (h : pev L op = some v) (d : Option Nat) (ty : TypeId) (ps : String) (af : Array Edge) :
    (execOp a.eval ⟨d, op, ty, ps, af, none⟩).run P w = .ok (.value v) w ∧ ∀ c, op ≠ .defer c := by
  refine ⟨?_, by cases op <;> simp_all [pev]⟩
  cases op <;> simp only [pev] at h <;> try (cases h; done)
  case move x => simp [execOp, S.ev h, Sem.run]
  case assign x => simp [execOp, S.ev h, Sem.run]
  case binOp op T x y T' =>
    split at h
    · rename_i k p k' q h1 h2
      cases hk : decide (k = k') with
      | false => rw [hk] at h; cases h
      | true =>
        have := of_decide_eq_true hk; subst this
        rw [hk] at h
        simp [execOp, S.ev h1, S.ev h2, Sem.run_bind, eqGuard_int, ibin_ok (P := P) (w := w) h T, Result.andThen, Sem.run]
    · cases h
  case unOp u T x =>
    cases u <;> simp only [] at h <;> try (cases h; done)
    · split at h
      · rename_i k b h1; cases h; simp [execOp, S.ev h1, Op.unary, Op.intArith, Sem.run, Sem.run_bind, Result.andThen]
      · cases h
    · split at h
      · rename_i b h1; cases h; simp [execOp, S.ev h1, Op.unary, Sem.run, Sem.run_bind, Result.andThen]
      · cases h
  case extract x i =>
    split at h
    · rename_i vs h1
      have h2 : vs[i]? = some v := by simpa using h
      simp [execOp, S.ev h1, Instr.extract, h2, Sem.run, Sem.run_bind, Result.andThen]
    · cases h
  case nilCheck x =>
    split at h
    · rename_i p h1; cases h; simp [execOp, S.ev h1, Sem.run]
    · cases h
  case makeFunc fn first captured =>
    split at h
    · rename_i f c h1 h2; cases h
      have e1 := S.evs h1; have e2 := S.evs h2
      have q1 : first.map a.eval = f.toArray := by rw [← e1, ← Array.toList_map, Array.toArray_toList]
      have q2 : captured.map a.eval = c.toArray := by rw [← e2, ← Array.toList_map, Array.toArray_toList]
      simp [execOp, Instr.makeFunc, q1, q2, Sem.run, Sem.run_bind, Result.andThen]
    · cases h
/-- one plain operation -/
theorem r_pure {op : Op} {ty : TypeId} {ps : String} {af : Array Edge} (S : Sl n D L a) (v : Value) (h : pev L op = some v) (hd : Nat.blt d n = true)
    (k : ∀ a', Sl n D ((d, v) :: L) a' → WL r P ops Q rest a' w) : WL r P ops Q (⟨some d, op, ty, ps, af, none⟩ :: rest) a w :=
  op_ok S rfl (pev_ok (P := P) (w := w) S h (some d) ty ps af).2 rfl (blt_lt hd) (pev_ok S h (some d) ty ps af).1 k

/-- many at once -/
def pevs (n : Nat) (L : List (Nat × Value)) : List Oper → Option (List (Nat × Value))
  | [] => some L
  | ⟨some d, op, _, _, _, none⟩ :: r => match pev L op with
    | some v => cond (Nat.blt d n) (pevs n ((d, v) :: L) r) none
    | none => none
  | _ => none
theorem r_pures : ∀ (l : List Oper) {L L' : List (Nat × Value)} {a : Act}, Sl n D L a → pevs n L l = some L' →
    (∀ a', Sl n D L' a' → WL r P ops Q rest a' w) → WL r P ops Q (l ++ rest) a w
  | [], L, L', a, S, h, k => by simp only [pevs, Option.some.injEq] at h; subst h; exact k _ S
  | ⟨none, _, _, _, _, _⟩ :: _, _, _, _, _, h, _ => by simp [pevs] at h
  | ⟨some d, _, _, _, _, some _⟩ :: _, _, _, _, _, h, _ => by simp [pevs] at h
  | ⟨some d, op, ty, ps, af, none⟩ :: l, L, L', a, S, h, k => by
    simp only [pevs] at h
    split at h
    · rename_i v hv
      cases hb : Nat.blt d n with
      | false => rw [hb] at h; cases h
      | true => rw [hb] at h; exact r_pure S v hv hb fun a' S' => r_pures l S' h k
    · cases h

/-- an operation that is skipped, by its guard -/
theorem r_off {dst : Option Nat} {op : Op} {ty : TypeId} {ps : String} {af : Array Edge} {j : Nat} {b b' : Bool} {t : Nat} (S : Sl n D L a)
    (hj : (ops[j]?).bind (·.dst) = some t) (ht : lk t L = some (.bool b')) (htn : Nat.blt t n = true) (hb : b' = !b) (k : ∀ a', Sl n D (match dst with | some d => (d, undef) :: L | none => L) a' → WL r P ops Q rest a' w)
    (hd : (match dst with | some d => Nat.blt d n | none => true) = true) :
    WL r P ops Q (⟨dst, op, ty, ps, af, some (j, b)⟩ :: rest) a w := by
  have e : yielded ops a.tmps j = some b' := by
    have h1 := S.sl t _ ht
    have h2 : t < a.tmps.size := by rw [S.sz]; exact blt_lt htn
    simp only [yielded, hj, Option.bind_some]
    rw [Array.getElem?_eq_getElem h2]
    simp only [Array.getD, h2, dite_true] at h1
    have h3 : a.tmps[t] = .bool b' := h1
    rw [h3]
  have hw : Region.wanted ⟨dst, op, ty, ps, af, some (j, b)⟩ (yielded ops a.tmps) = false := by
    simp only [Region.wanted, e, hb]; cases b <;> rfl
  unfold WL wpListIn
  rw [if_neg (by rw [hw]; simp)]
  refine ⟨fun _ _ => trivial, ?_⟩
  cases dst with
  | none => exact k _ S
  | some d => exact k _ (S.put (blt_lt hd) undef)
theorem r_on {dst : Option Nat} {op : Op} {ty : TypeId} {ps : String} {af : Array Edge} {j : Nat} {b b' : Bool} {t : Nat} (S : Sl n D L a)
    (hj : (ops[j]?).bind (·.dst) = some t) (ht : lk t L = some (.bool b')) (htn : Nat.blt t n = true) (hb : b' = b) (k : WL r P ops Q (⟨dst, op, ty, ps, af, none⟩ :: rest) a w) :
    WL r P ops Q (⟨dst, op, ty, ps, af, some (j, b)⟩ :: rest) a w := by
  have e : yielded ops a.tmps j = some b' := by
    have h1 := S.sl t _ ht
    have h2 : t < a.tmps.size := by rw [S.sz]; exact blt_lt htn
    simp only [yielded, hj, Option.bind_some]
    rw [Array.getElem?_eq_getElem h2]
    simp only [Array.getD, h2, dite_true] at h1
    have h3 : a.tmps[t] = .bool b' := h1
    rw [h3]
  have hw : Region.wanted ⟨dst, op, ty, ps, af, some (j, b)⟩ (yielded ops a.tmps) = true := by
    simp only [Region.wanted, e, hb]; cases b <;> rfl
  unfold WL wpListIn at k ⊢
  rw [if_pos hw]
  rw [if_pos (by simp [Region.wanted])] at k
  exact k
theorem r_pick {c x y : Operand} {ty : TypeId} {ps : String} {af : Array Edge} {b b0 : Bool} (S : Sl n D L a) (hc : evl L c = some (.bool b)) (hb : b = b0) (v : Value)
    (h : evl L (cond b0 x y) = some v) (hd : Nat.blt d n = true) (k : ∀ a', Sl n D ((d, v) :: L) a' → WL r P ops Q rest a' w) :
    WL r P ops Q (⟨some d, .pick c x y, ty, ps, af, none⟩ :: rest) a w := by
  subst hb
  refine op_ok S rfl (by intro c h; cases h) rfl (blt_lt hd) (v := v) (w' := w) ?_ k
  cases b <;> simp [execOp, S.ev hc, asBool, Sem.run, Sem.run_bind, Result.andThen, S.ev h] at h ⊢ <;> exact S.ev h
/-- integer division by what isn't zero -/
theorem r_quo {x y : Operand} {T T' ty : TypeId} {ps : String} {af : Array Edge} {k : IntKind} {p q : Int} (S : Sl n D L a) (hx : evl L x = some (.int k p)) (hy : evl L y = some (.int k q)) (hq : q ≠ 0)
    (hd : Nat.blt d n = true) (kk : ∀ a', Sl n D ((d, .int k (k.wrap (p.tdiv q))) :: L) a' → WL r P ops Q rest a' w) :
    WL r P ops Q (⟨some d, .binOp .quo T x y T', ty, ps, af, none⟩ :: rest) a w := by
  refine op_ok S rfl (by intro c h; cases h) rfl (blt_lt hd) (w' := w) ?_ kk
  simp [execOp, S.ev hx, S.ev hy, Sem.run_bind, eqGuard_int, binOp, Op.intDiv, hq, Result.andThen, Sem.run]
theorem r_rem {x y : Operand} {T T' ty : TypeId} {ps : String} {af : Array Edge} {k : IntKind} {p q : Int} (S : Sl n D L a) (hx : evl L x = some (.int k p)) (hy : evl L y = some (.int k q)) (hq : q ≠ 0)
    (hd : Nat.blt d n = true) (kk : ∀ a', Sl n D ((d, .int k (p.tmod q)) :: L) a' → WL r P ops Q rest a' w) :
    WL r P ops Q (⟨some d, .binOp .rem T x y T', ty, ps, af, none⟩ :: rest) a w := by
  refine op_ok S rfl (by intro c h; cases h) rfl (blt_lt hd) (w' := w) ?_ kk
  simp [execOp, S.ev hx, S.ev hy, Sem.run_bind, eqGuard_int, binOp, Op.intDiv, hq, Result.andThen, Sem.run]
theorem r_shl {x y : Operand} {T T' ty : TypeId} {ps : String} {af : Array Edge} {k yk : IntKind} {p q : Int} (S : Sl n D L a) (hx : evl L x = some (.int k p)) (hy : evl L y = some (.int yk q)) (hq : ¬ q < 0)
    (hd : Nat.blt d n = true) (kk : ∀ a', Sl n D ((d, .int k (k.wrap (p * 2 ^ min q.toNat k.bits))) :: L) a' → WL r P ops Q rest a' w) :
    WL r P ops Q (⟨some d, .binOp .shl T x y T', ty, ps, af, none⟩ :: rest) a w := by
  refine op_ok S rfl (by intro c h; cases h) rfl (blt_lt hd) (w' := w) ?_ kk
  simp [execOp, S.ev hx, S.ev hy, Sem.run_bind, eqGuard_int, binOp, Op.shift, hq, Result.andThen, Sem.run]
theorem r_shr {x y : Operand} {T T' ty : TypeId} {ps : String} {af : Array Edge} {k yk : IntKind} {p q : Int} (S : Sl n D L a) (hx : evl L x = some (.int k p)) (hy : evl L y = some (.int yk q)) (hq : ¬ q < 0)
    (hd : Nat.blt d n = true) (kk : ∀ a', Sl n D ((d, .int k (p.fdiv (2 ^ min q.toNat k.bits))) :: L) a' → WL r P ops Q rest a' w) :
    WL r P ops Q (⟨some d, .binOp .shr T x y T', ty, ps, af, none⟩ :: rest) a w := by
  refine op_ok S rfl (by intro c h; cases h) rfl (blt_lt hd) (w' := w) ?_ kk
  simp [execOp, S.ev hx, S.ev hy, Sem.run_bind, eqGuard_int, binOp, Op.shift, hq, Result.andThen, Sem.run]
/-- a conversion between kinds of whole numbers -/
theorem r_conv {T T' ty : TypeId} {x : Operand} {ps : String} {af : Array Edge} {d0 : TypeDesc} {k k' : IntKind} {p : Int} (S : Sl n D L a) (hx : evl L x = some (.int k p))
    (h0 : P.underlying T = some d0) (h1 : P.underlying T' = some (.int k')) (hd : Nat.blt d n = true)
    (kk : ∀ a', Sl n D ((d, .int k' (k'.wrap p)) :: L) a' → WL r P ops Q rest a' w) :
    WL r P ops Q (⟨some d, .convert T T' x, ty, ps, af, none⟩ :: rest) a w := by
  refine op_ok S rfl (by intro c h; cases h) rfl (blt_lt hd) (w' := w) ?_ kk
  simp [execOp, S.ev hx, convert, Sem.run_bind, run_underlying h0, run_underlying h1, Conv.intToInt, Result.andThen, Sem.run]
theorem wl_nil (h : Q .normal a w) : WL r P ops Q [] a w := wpListIn_nil h
theorem w_region {id : Nat} {l : List Oper} (h : WL r P l.toArray Q l a w) : W r P (.region id l.toArray false) Q a w := wpIn_region_lit h

/-! ### code -/
theorem w_seq {x y : Code} (h : W r P x (Exit.then (W r P y Q) Q) a w) : W r P (.seq x y) Q a w := wpIn_seq h
/-- what stands between two pieces is told once -/
theorem w_cut {x y : Code} (I : Act → World → Prop) (h1 : W r P x (Exit.then I (fun _ _ _ => False)) a w) (h2 : ∀ a w, I a w → W r P y Q a w) : W r P (.seq x y) Q a w :=
  w_seq (wpIn_mono h1 fun e a w q => by cases e <;> first | exact h2 _ _ q | exact q.elim)
theorem w_true {c : Operand} {x y : Code} {b : Bool} (S : Sl n D L a) (hc : evl L c = some (.bool b)) (hb : b = true) (h : W r P x Q a w) : W r P (.cond c x y) Q a w :=
  wpIn_cond_true (by rw [S.ev hc, hb]) h
theorem w_false {c : Operand} {x y : Code} {b : Bool} (S : Sl n D L a) (hc : evl L c = some (.bool b)) (hb : b = false) (h : W r P y Q a w) : W r P (.cond c x y) Q a w :=
  wpIn_cond_false (by rw [S.ev hc, hb]) h
theorem w_block {id : Nat} {c : Code} (h : W r P c (Exit.inBlock id Q) a w) : W r P (.block id c) Q a w := wpIn_block h
theorem w_skip (h : Q .normal a w) : W r P .skip Q a w := wpIn_skip h
theorem w_exit {id : Nat} (h : Q (.exit id) a w) : W r P (.exit id) Q a w := wpIn_exit h
theorem w_ret (h : Q .ret a w) : W r P .ret Q a w := wpIn_ret h
theorem least (p : Nat → Prop) : ∀ k, p k → ∃ m, p m ∧ ∀ j, p j → m ≤ j := by
  intro k
  induction k using Nat.strongRecOn with
  | _ k ih =>
    intro h
    by_cases q : ∃ j, j < k ∧ p j
    · obtain ⟨j, hj, hp⟩ := q; exact ih j hj hp
    · exact ⟨k, h, fun j hj => Nat.le_of_not_lt fun hlt => q ⟨j, hlt, hj⟩⟩
/-- a loop: with each round the number of rounds that are left falls -/
theorem w_loop {c : Code} (I : Nat → Act → World → Prop) (k : Nat) (h0 : I k a w)
    (round : ∀ k a w, I k a w → ∃ k', k = k' + 1 ∧ W r P c (Exit.then (I k') Q) a w) : W r P (.loop c) Q a w := by
  have hm : ∀ a w, ∃ m, (∃ k, I k a w) → I m a w ∧ ∀ j, I j a w → m ≤ j := fun a w => by
    by_cases h : ∃ k, I k a w
    · obtain ⟨k, hk⟩ := h; obtain ⟨m, h1, h2⟩ := least (fun k => I k a w) k hk; exact ⟨m, fun _ => ⟨h1, h2⟩⟩
    · exact ⟨0, fun q => absurd q h⟩
  let μ : Act → World → Nat := fun a w => Classical.choose (hm a w)
  have hμ : ∀ a w, (∃ k, I k a w) → I (μ a w) a w ∧ ∀ j, I j a w → μ a w ≤ j := fun a w => Classical.choose_spec (hm a w)
  refine wpIn_loop (fun a w => ∃ k, I k a w) μ ⟨k, h0⟩ ?_
  intro a w hI
  obtain ⟨k', e, hw⟩ := round _ a w (hμ a w hI).1
  refine wpIn_mono hw fun x a' w' q => ?_
  cases x with
  | normal => exact ⟨⟨k', q⟩, by have := (hμ a' w' ⟨k', q⟩).2 k' q; omega⟩
  | _ => exact q

/-- what stands between two pieces is told once; other ends go on as they are -/
theorem w_cutX {x y : Code} (I : Act → World → Prop) (h1 : W r P x (Exit.then I Q) a w) (h2 : ∀ a w, I a w → W r P y Q a w) : W r P (.seq x y) Q a w :=
  w_seq (wpIn_mono h1 fun e a w q => by cases e <;> first | exact h2 _ _ q | exact q)
/-- the same at an end that isn't a 'seq' -/
theorem w_cutE {x : Code} {K : Act → World → Prop} (I : Act → World → Prop) (h1 : W r P x (Exit.then I (Exit.then K Q)) a w) (h2 : ∀ a w, I a w → K a w) : W r P x (Exit.then K Q) a w :=
  wpIn_mono h1 fun e a w q => by cases e <;> first | exact h2 _ _ q | exact q

def zipL (k : Nat) : List Value → List (Nat × Value)
  | [] => []
  | v :: r => (k, v) :: zipL (k + 1) r
theorem zipL_lk : ∀ (vs : List Value) (k t : Nat) (v : Value), lk t (zipL k vs) = some v → k ≤ t ∧ vs[t - k]? = some v
  | [], k, t, v, h => by cases h
  | u :: vs, k, t, v, h => by
    simp only [zipL, lk] at h
    cases e : Nat.beq k t with
    | true => rw [e] at h; cases h; have := Nat.eq_of_beq_eq_true e; subst this; exact ⟨Nat.le_refl _, by simp⟩
    | false =>
      rw [e] at h
      have := zipL_lk vs (k + 1) t v h
      refine ⟨by omega, ?_⟩
      have e2 : t - k = (t - (k + 1)) + 1 := by omega
      rw [e2, List.getElem?_cons_succ]; exact this.2
/-! ### calls -/
theorem calls_enter {f : FuncId} {fn : Func} {c : Code} {args : List Value} {R : Ending → World → Prop} (hf : P.funcs[f]? = some fn) (hb : fn.body = some c) (L : List (Nat × Value))
    (hs : args.length ≤ fn.ntmps) (hL : ∀ t v, lk t L = some v → args[t]? = some v)
    (h : ∀ a, Sl fn.ntmps [] L a → W none P c (bodyPost P fn R) a w) : Calls P f args.toArray w R :=
  callsIn_wide.1 (callsIn_of_wp (F := Fence.wide) (n := 0) hf hb trivial (h _ (Sl.start fn args L hs hL)))
theorem callFunc_enter {f : FuncId} {fn : Func} {c : Code} (hf : P.funcs[f]? = some fn) (hb : fn.body = some c) (hn : (fn.name == "runtime.NumGoroutine") = false) (args : Array Value) :
    (callFunc f args).run P w = .ok (.enter f args) w := by
  have hn' : ¬ (fn.name = "runtime.NumGoroutine") := by simpa using hn
  simp [callFunc, program, Sem.run_bind, Sem.run, Result.andThen, hf, hb, hn']
theorem calls_in {f : FuncId} {fn : Func} {c : Code} {args : List Value} {R : Ending → World → Prop} (hf : P.funcs[f]? = some fn) (hb : fn.body = some c) (hs : Nat.ble args.length fn.ntmps = true)
    (h : ∀ a, Sl fn.ntmps [] (zipL 0 args) a → W none P c (bodyPost P fn R) a w) : Calls P f args.toArray w R :=
  calls_enter hf hb (zipL 0 args) (Nat.le_of_ble_eq_true hs) (fun t v q => by have := zipL_lk args 0 t v q; simpa using this.2) h
def Goes (P : Program) (f : FuncId) : Prop := ∃ fn c, P.funcs[f]? = some fn ∧ fn.body = some c ∧ (fn.name == "runtime.NumGoroutine") = false
theorem r_call {f : Nat} {xs : List Operand} {ts : Array TypeId} {ty : TypeId} {ps : String} {af : Array Edge} {vs : List Value} {fo : Operand} {caps : List Value} (S : Sl n D L a)
    (hfo : evl L fo = some (.func (.func f) #[] caps.toArray)) (hxs : evls L xs = some vs) (hg : Goes P f) (hd : Nat.blt d n = true)
    (h : Calls P f (vs ++ caps).toArray w fun e w' => ∃ v, e = .returned v ∧ ∀ a', Sl n D ((d, v) :: L) a' → WL r P ops Q rest a' w') :
    WL r P ops Q (⟨some d, .call { callee := .value fo, args := xs.toArray, argTypes := ts }, ty, ps, af, none⟩ :: rest) a w := by
  obtain ⟨fn, c, hf, hb, hnn⟩ := hg
  refine wpListIn_plain rfl fun K hK => ⟨fun _ _ => trivial, ?_⟩
  rw [Oper.semAt_eq _ _ _ (by intro c h; cases h)]
  have e1 : xs.toArray.map a.eval = vs.toArray := by rw [← S.evs hxs]; simp
  have e2 := S.ev hfo
  have hr : (execOp a.eval ⟨some d, .call { callee := .value fo, args := xs.toArray, argTypes := ts }, ty, ps, af, none⟩).run P w = .ok (.enter f (vs ++ caps).toArray) w := by
    simp only [execOp, resolve, e1, e2, Deferred.ofValue, Sem.run_bind, Result.andThen]
    simp [Sem.run, invoke, callFunc_enter (P := P) (w := w) hf hb hnn, Sem.run_bind, Result.andThen]
  rw [hr, Oper.uponIn_enter]
  refine ⟨(fun h => by cases h), ?_⟩
  refine CallsIn.mono (callsIn_wide.2 h) ?_
  rintro e w' ⟨v, rfl, hk⟩
  exact hK _ _ (hk _ (S.put (blt_lt hd) v))
/-- a function returns what stands in a slot -/
theorem ret1 {fn : Func} {R : Ending → World → Prop} {t : Nat} (S : Sl n [] L a) (hr : fn.results = #[.tmp t]) (ht : lk t L = some v) (h : R (.returned v) w) : bodyPost P fn R .ret a w :=
  bodyPost_ret (v := v) (by rw [results_tmp hr, S.sl t v ht]) S.df h
theorem ret2 {fn : Func} {R : Ending → World → Prop} {t u : Nat} {v' : Value} (S : Sl n [] L a) (hr : fn.results = #[.tmp t, .tmp u]) (ht : lk t L = some v) (hu : lk u L = some v') (h : R (.returned (.tuple #[v, v'])) w) : bodyPost P fn R .ret a w :=
  bodyPost_ret (v := .tuple #[v, v']) (by rw [results_tmp2 hr, S.sl t v ht, S.sl u v' hu]) S.df h
theorem ret3 {fn : Func} {R : Ending → World → Prop} {t u s : Nat} {v' v'' : Value} (S : Sl n [] L a) (hr : fn.results = #[.tmp t, .tmp u, .tmp s]) (ht : lk t L = some v) (hu : lk u L = some v') (hs : lk s L = some v'') (h : R (.returned (.tuple #[v, v', v''])) w) : bodyPost P fn R .ret a w :=
  bodyPost_ret (v := .tuple #[v, v', v'']) (by have h1 := S.sl t v ht; have h2 := S.sl u v' hu; have h3 := S.sl s v'' hs; simp only [Array.getD_eq_getD_getElem?] at h1 h2 h3; simp [results, hr, h1, h2, h3, Sem.run, Sem.run_bind]) S.df h
theorem ret0 {fn : Func} {R : Ending → World → Prop} (S : Sl n [] L a) (hr : fn.results = #[]) (h : R (.returned (.tuple #[])) w) : bodyPost P fn R .ret a w :=
  bodyPost_ret (v := .tuple #[]) (by rw [results_none hr]) S.df h
theorem end0 {fn : Func} {R : Ending → World → Prop} (S : Sl n [] L a) (hr : fn.results = #[]) (h : R (.returned (.tuple #[])) w) : bodyPost P fn R .normal a w :=
  bodyPost_end (v := .tuple #[]) (by rw [results_none hr]) S.df h
end Go.Proofs.Ytmdpjijafejgpaa.Sl

/- Memory: variables in blocks of their own, rows of the call's own, rows that are read. A rule for each operation. -/
set_option linter.unusedVariables false
set_option linter.unusedSimpArgs false
namespace Go.Proofs.Ytmdpjijafejgpaa.Sl
open Go

/-- of a type: is it a struct or an array; its cells; its bytes; its zero value's cells -/
def tyI (P : Program) (T : TypeId) : Option (Bool × Nat × Nat × List Value) :=
  match P.underlying T, P.info? T with
  | some d, some i => match i.zero with
    | some z => some (d.isRow, i.size, i.bytes, z.cells.toList)
    | none => none
  | _, _ => none
def slE (P : Program) (T : TypeId) : Option TypeId := match P.underlying T with
  | some (.slice e) => some e
  | _ => none
def fieldOff (P : Program) (T f : Nat) : Option Nat := match P.underlying T with
  | some (.struct fs) => match fs[f]? with
    | some g => match P.info? g.type with
      | some i => cond (Nat.beq i.size 0) none (some g.offset)
      | none => none
    | none => none
  | _ => none
def fieldPart (P : Program) (T f : Nat) : Option (Bool × Nat × Nat) := match P.underlying T with
  | some (.struct fs) => match fs[f]? with
    | some g => match tyI P g.type with
      | some (b, m, _, _) => some (b, g.offset, m)
      | none => none
    | none => none
  | _ => none
def places (P : Program) (T : Nat) : Option (List (Nat × Nat)) := match P.underlying T with
  | some (.struct fs) => fs.toList.mapM fun g => (P.info? g.type).map fun i => (g.offset, i.size)
  | _ => none

theorem tyI_open {P : Program} {T : TypeId} {b : Bool} {m y : Nat} {z : List Value} (h : tyI P T = some (b, m, y, z)) :
    ∃ d i zv, P.underlying T = some d ∧ d.isRow = b ∧ P.info? T = some i ∧ i.size = m ∧ i.bytes = y ∧ i.zero = some zv ∧ zv.cells.toList = z := by
  unfold tyI at h
  split at h
  · rename_i d i h1 h2
    split at h
    · rename_i zv h3
      simp only [Option.some.injEq, Prod.mk.injEq] at h
      exact ⟨d, i, zv, h1, h.1, h2, h.2.1, h.2.2.1, h3, h.2.2.2⟩
    · cases h
  · cases h
theorem slE_open {P : Program} {T e : TypeId} (h : slE P T = some e) : P.underlying T = some (.slice e) := by
  unfold slE at h; split at h
  · rename_i h1; cases h; exact h1
  · cases h

variable {r : Option Nat} {P : Program} {n : Nat} {D : List Deferred} {L : List (Nat × Value)} {a : Act} {w w0 w' : World} {ops : Array Oper} {Q : Exit → Act → World → Prop} {rest : List Oper}
  {o : Oper} {d : Nat} {v : Value} {cs : List Hp} {pre post : List Hp} {ty : TypeId} {ps : String} {af : Array Edge} {α : Type}

theorem run_load (w : World) (b o : Nat) (T : TypeId) {g : Bool} {m y : Nat} {z : List Value} (ht : tyI P T = some (g, m, y, z)) (vs : List Value) (hl : vs.length = m) (hc : w.rangeAt b o vs) :
    (Instr.loadAt T (.pointer (some ⟨b, o, none⟩))).run P w = match g with | true => .ok (.agg vs.toArray) w | false => match vs with | v :: _ => .ok v w | [] => (Instr.loadAt T (.pointer (some ⟨b, o, none⟩))).run P w := by
  obtain ⟨d, i, zv, h1, h2, h3, h4, h5, h6, h7⟩ := tyI_open ht
  cases g with
  | true => exact run_loadAt_mid w b o T vs d hc h1 h2 (by rw [h3]; simp [h4, hl])
  | false =>
    cases vs with
    | nil => rfl
    | cons v vs =>
      have hagg : (isAgg T).run P w = .ok false w := by
        unfold isAgg
        rw [Sem.run_bind, run_underlying h1 w]
        cases d <;> simp_all [TypeDesc.isRow, Sem.run, Result.andThen]
      have hv := hc 0 v rfl
      simp only [Nat.add_zero] at hv
      simp [Instr.loadAt, Instr.sureAddr, loadVar, Sem.run_bind, hagg, Result.andThen, load, Sem.run, hv]
/-- a load of a struct, a load of one cell -/
theorem r_loadA {T : TypeId} {x : Operand} {b o m y : Nat} {z vs : List Value} (S : Sl n D L a) (hx : evl L x = some (.pointer (some ⟨b, o, none⟩))) (ht : tyI P T = some (true, m, y, z))
    (hc : w.rangeAt b o vs) (hl : vs.length = m) (hd : Nat.blt d n = true) (k : ∀ a', Sl n D ((d, .agg vs.toArray) :: L) a' → WL r P ops Q rest a' w) :
    WL r P ops Q (⟨some d, .load T x, ty, ps, af, none⟩ :: rest) a w := by
  refine op_ok S rfl (by intro c h; cases h) rfl (blt_lt hd) (w' := w) ?_ k
  simp only [execOp, S.ev hx, Sem.run_bind, run_load w b o T ht vs hl hc, Result.andThen, Sem.run]; rfl
theorem r_loadS {T : TypeId} {x : Operand} {b o y : Nat} {z : List Value} (S : Sl n D L a) (hx : evl L x = some (.pointer (some ⟨b, o, none⟩))) (ht : tyI P T = some (false, 1, y, z)) (v : Value)
    (hc : w.cell? ⟨b, o, none⟩ = some v) (hd : Nat.blt d n = true) (k : ∀ a', Sl n D ((d, v) :: L) a' → WL r P ops Q rest a' w) :
    WL r P ops Q (⟨some d, .load T x, ty, ps, af, none⟩ :: rest) a w := by
  refine op_ok S rfl (by intro c h; cases h) rfl (blt_lt hd) (w' := w) ?_ k
  have hr : w.rangeAt b o [v] := fun j u hu => by
    cases j with
    | zero => simp at hu; subst hu; exact hc
    | succ j => simp at hu
  simp only [execOp, S.ev hx, Sem.run_bind, run_load w b o T ht [v] rfl hr, Result.andThen, Sem.run]; rfl

/-! ### variables in blocks of their own -/
theorem bx_range (pre : List Hp) {b : Nat} {T0 : TypeId} {bs : List Value} (H : HS w0 (pre ++ bx b T0 bs :: post) w) (o m : Nat) : w.rangeAt b o ((bs.drop o).take m) := fun j u hu => by
  rw [cell_hcell]
  refine SL.hcell H.sl (bx_hcell (o + j) ?_)
  rw [List.getElem?_take] at hu
  split at hu
  · rw [List.getElem?_drop] at hu; exact hu
  · cases hu
theorem bx_cell (pre : List Hp) {b : Nat} {T0 : TypeId} {bs : List Value} (H : HS w0 (pre ++ bx b T0 bs :: post) w) {o : Nat} {v : Value} (h : bs[o]? = some v) : w.cell? ⟨b, o, none⟩ = some v := by
  rw [cell_hcell]; exact SL.hcell H.sl (bx_hcell o h)
/-- a load out of a variable -/
theorem r_ldA (pre : List Hp) {b : Nat} {T0 T : TypeId} {bs : List Value} {x : Operand} {o m y : Nat} {z : List Value} (S : Sl n D L a) (H : HS w0 (pre ++ bx b T0 bs :: post) w) (hx : evl L x = some (.pointer (some ⟨b, o, none⟩)))
    (ht : tyI P T = some (true, m, y, z)) (vs : List Value) (hv : (bs.drop o).take m = vs) (hl : vs.length = m) (hd : Nat.blt d n = true) (k : ∀ a', Sl n D ((d, .agg vs.toArray) :: L) a' → WL r P ops Q rest a' w) :
    WL r P ops Q (⟨some d, .load T x, ty, ps, af, none⟩ :: rest) a w :=
  r_loadA S hx ht (by rw [← hv]; exact bx_range pre H o m) hl hd k
theorem r_ldS (pre : List Hp) {b : Nat} {T0 T : TypeId} {bs : List Value} {x : Operand} {o y : Nat} {z : List Value} (S : Sl n D L a) (H : HS w0 (pre ++ bx b T0 bs :: post) w) (hx : evl L x = some (.pointer (some ⟨b, o, none⟩)))
    (ht : tyI P T = some (false, 1, y, z)) (v : Value) (hv : bs[o]? = some v) (hd : Nat.blt d n = true) (k : ∀ a', Sl n D ((d, v) :: L) a' → WL r P ops Q rest a' w) :
    WL r P ops Q (⟨some d, .load T x, ty, ps, af, none⟩ :: rest) a w :=
  r_loadS S hx ht v (bx_cell pre H hv) hd k

theorem hpOf_setRow (w : World) (g : Nat) (old new : Array Value) (T : TypeId) (fr : Nat × Nat) (h : w.heap[g]? = some (.cells old T fr)) : hpOf (w.setRow g new) = upd (hpOf w) g (.cells new T fr) := by
  funext k
  simp only [hpOf, upd]
  by_cases e : k = g
  · subst e; rw [if_pos rfl]; exact setRow_heap w k old new T fr h
  · rw [if_neg e]; exact setRow_other w g k new e
theorem run_store_bx {w : World} {b o : Nat} {T T0 : TypeId} {g : Bool} {m y : Nat} {z : List Value} (ht : tyI P T = some (g, m, y, z)) {cur : Array Value} (hg : w.heap[b]? = some (.cells cur T0 (0, 0))) (v : Value)
    (vs : List Value) (hvs : v.cells.toList = vs) (hl : vs.length = m) (h1 : vs.all (·.oneCell') = true) (ho : o + m ≤ cur.size) :
    (Instr.storeAt T (.pointer (some ⟨b, o, none⟩)) v).run P w = .ok () (w.setRow b (cur.toList.take o ++ vs ++ cur.toList.drop (o + vs.length)).toArray) := by
  obtain ⟨d, i, zv, g1, g2, g3, g4, g5, g6, g7⟩ := tyI_open ht
  have hs := run_storeCells_at P b o T0 vs 0 cur w hg (by omega) (by simpa using h1)
  simp only [Nat.add_zero] at hs
  have hsz : v.cells.size = i.size := by rw [← Array.length_toList, hvs, hl, g4]
  simp [Instr.storeAt, Instr.sureAddr, storeVar, sizeOf, typeInfo, program, Sem.run_bind, Sem.run, Result.andThen, g3, hsz, hvs, hs]
theorem HS.setRow {b : Nat} {T0 : TypeId} {c c' : Hp} {cur new : Array Value} (H : HS w0 (pre ++ c :: post) w) (hg : w.heap[b]? = some (.cells cur T0 (0, 0)))
    (f : ∀ h, c h → h b ≠ none ∧ c' (upd h b (.cells new T0 (0, 0)))) : HS w0 (pre ++ c' :: post) (w.setRow b new) :=
  ⟨by rw [hpOf_setRow w b cur new T0 (0, 0) hg]; exact SL.upd H.sl b _ f, H.os, H.tape, H.out, by have := H.size; simpa [World.setRow] using this, by have := H.dr; simpa [World.setRow] using this⟩
/-- a store into a variable -/
theorem r_st (pre : List Hp) {b : Nat} {T0 T : TypeId} {bs : List Value} {x u : Operand} {o m y : Nat} {z : List Value} {g : Bool} (S : Sl n D L a) (H : HS w0 (pre ++ bx b T0 bs :: post) w) (hx : evl L x = some (.pointer (some ⟨b, o, none⟩)))
    (hu : evl L u = some v) (ht : tyI P T = some (g, m, y, z)) (vs : List Value) (hvs : v.cells.toList = vs) (hl : vs.length = m) (h1 : vs.all (·.oneCell') = true) (ho : Nat.ble (o + m) bs.length = true)
    (bs' : List Value) (hb : bs.take o ++ vs ++ bs.drop (o + m) = bs')
    (k : ∀ w', HS w0 (pre ++ bx b T0 bs' :: post) w' → WL r P ops Q rest a w') :
    WL r P ops Q (⟨none, .store T x u, ty, ps, af, none⟩ :: rest) a w := by
  have hg : w.heap[b]? = some (.cells bs.toArray T0 (0, 0)) := SL.block H.sl (fun h e => by rw [show h = _ from e]; simp [one])
  have hr := run_store_bx (P := P) (o := o) ht hg v vs hvs hl h1 (by simpa using Nat.le_of_ble_eq_true ho)
  refine op_skip S rfl (by intro c h; cases h) rfl (w' := w.setRow b bs'.toArray) ?_ (k _ ?_)
  · have e : (bs.toArray.toList.take o ++ vs ++ bs.toArray.toList.drop (o + vs.length)) = bs' := by rw [← hb, hl]
    rw [e] at hr
    simp only [execOp, S.ev hx, S.ev hu, Sem.run_bind, hr, Result.andThen, Sem.run]
    rfl
  · refine HS.setRow H hg fun h e => ?_
    rw [show h = _ from e]
    refine ⟨by simp [one], ?_⟩
    show _ = _
    funext q; simp only [upd, one]; split <;> rfl

/-- a new variable -/
theorem r_alloc {T : TypeId} {m y : Nat} {g : Bool} {z : List Value} (S : Sl n D L a) (H : HS w0 cs w) (ht : tyI P T = some (g, m, y, z)) (hd : Nat.blt d n = true)
    (k : ∀ b a' w', Sl n D ((d, .pointer (some ⟨b, 0, none⟩)) :: L) a' → HS w0 (bx b T z :: cs) w' → WL r P ops Q rest a' w') :
    WL r P ops Q (⟨some d, .alloc T, ty, ps, af, none⟩ :: rest) a w := by
  obtain ⟨d0, i, zv, g1, g2, g3, g4, g5, g6, g7⟩ := tyI_open ht
  refine op_ok S rfl (by intro c h; cases h) rfl (blt_lt hd) (v := .pointer (some ⟨w.heap.size, 0, none⟩)) (w' := w.alloc (.cells zv.cells T)) ?_ fun a' S' => k _ a' _ S' (by have := H.box T zv.cells; rwa [g7] at this)
  simp [execOp, Instr.alloc, zeroValue, typeInfo, program, Sem.run_bind, Sem.run, Result.andThen, g3, g6, newVar, newRow, newObj]
theorem r_box {T : TypeId} {x : Operand} {vs : List Value} (S : Sl n D L a) (H : HS w0 cs w) (hx : evl L x = some v) (hvs : v.cells.toList = vs) (hd : Nat.blt d n = true)
    (k : ∀ b a' w', Sl n D ((d, .pointer (some ⟨b, 0, none⟩)) :: L) a' → HS w0 (bx b T vs :: cs) w' → WL r P ops Q rest a' w') :
    WL r P ops Q (⟨some d, .box T x, ty, ps, af, none⟩ :: rest) a w := by
  refine op_ok S rfl (by intro c h; cases h) rfl (blt_lt hd) (v := .pointer (some ⟨w.heap.size, 0, none⟩)) (w' := w.alloc (.cells v.cells T)) ?_ fun a' S' => k _ a' _ S' (by have := H.box T v.cells; rwa [hvs] at this)
  simp [execOp, Instr.box, S.ev hx, Sem.run_bind, Sem.run, Result.andThen, newVar, newRow, newObj]
/-- addresses of fields; parts of values; values that are built -/
theorem r_fieldAddr {T f : Nat} {x : Operand} {b o off : Nat} (S : Sl n D L a) (hx : evl L x = some (.pointer (some ⟨b, o, none⟩))) (hf : fieldOff P T f = some off) (o' : Nat) (ho : o + off = o') (hd : Nat.blt d n = true)
    (k : ∀ a', Sl n D ((d, .pointer (some ⟨b, o', none⟩)) :: L) a' → WL r P ops Q rest a' w) :
    WL r P ops Q (⟨some d, .fieldAddr T x f, ty, ps, af, none⟩ :: rest) a w := by
  refine op_ok S rfl (by intro c h; cases h) rfl (blt_lt hd) (w' := w) ?_ k
  unfold fieldOff at hf
  split at hf
  · rename_i fs h1
    split at hf
    · rename_i g h2
      split at hf
      · rename_i i h3
        cases h4 : Nat.beq i.size 0 with
        | true => rw [h4] at hf; cases hf
        | false =>
          rw [h4] at hf
          have hoff : g.offset = off := by simpa using hf
          have hne : ¬ i.size = 0 := Nat.ne_of_beq_eq_false h4
          have hadd : (⟨b, o, none⟩ : Addr).add g.offset = ⟨b, o', none⟩ := by rw [Addr.add_mid, hoff, ho]
          simp [execOp, Instr.fieldAt, Sem.run_bind, run_underlying h1, h2, S.ev hx, Instr.sureAddr, fieldPlace, sizeOf, typeInfo, program, Sem.run, Result.andThen, h3, hne, hadd]
      · cases hf
    · cases hf
  · cases hf
theorem r_field {T f : Nat} {x : Operand} {off m : Nat} {g : Bool} {bs : List Value} (S : Sl n D L a) (hx : evl L x = some (.agg bs.toArray)) (hf : fieldPart P T f = some (g, off, m)) (v : Value)
    (hv : (match g with | true => some (.agg ((bs.drop off).take m).toArray) | false => bs[off]?) = some v) (hb : Nat.ble (off + m) bs.length = true) (hd : Nat.blt d n = true)
    (k : ∀ a', Sl n D ((d, v) :: L) a' → WL r P ops Q rest a' w) :
    WL r P ops Q (⟨some d, .field T x f, ty, ps, af, none⟩ :: rest) a w := by
  refine op_ok S rfl (by intro c h; cases h) rfl (blt_lt hd) (w' := w) ?_ k
  unfold fieldPart at hf
  split at hf
  · rename_i fs h1
    split at hf
    · rename_i gg h2
      split at hf
      · rename_i g' m' y' z' h3
        simp only [Option.some.injEq, Prod.mk.injEq] at hf
        obtain ⟨rfl, rfl, rfl⟩ := hf
        obtain ⟨d0, i, zv, q1, q2, q3, q4, q5, q6, q7⟩ := tyI_open h3
        have hagg : (isAgg gg.type).run P w = .ok g' w := by
          unfold isAgg
          rw [Sem.run_bind, run_underlying q1 w]
          cases d0 <;> simp_all [TypeDesc.isRow, Sem.run, Result.andThen] <;> rw [← q2]
        cases g' with
        | true =>
          simp only [Option.some.injEq] at hv; subst hv
          simp [execOp, Instr.field, Sem.run_bind, run_underlying h1, h2, S.ev hx, asAgg, part, hagg, sizeOf, typeInfo, program, Sem.run, Result.andThen, q3, q4]
        | false =>
          simp only [] at hv
          simp [execOp, Instr.field, Sem.run_bind, run_underlying h1, h2, S.ev hx, asAgg, part, hagg, Sem.run, Result.andThen, hv]
      · cases hf
    · cases hf
  · cases hf
def evparts (L : List (Nat × Value)) : List (Nat × Operand) → Option (List (Nat × Value))
  | [] => some []
  | (i, x) :: r => match evl L x, evparts L r with
    | some v, some vs => some ((i, v) :: vs)
    | _, _ => none
theorem Sl.evp (S : Sl n D L a) : ∀ {xs : List (Nat × Operand)} {vs : List (Nat × Value)}, evparts L xs = some vs → xs.map (fun (i, x) => (i, a.eval x)) = vs := by
  intro xs
  induction xs with
  | nil => intro vs h; simpa [evparts] using h.symm
  | cons x xs ih =>
    intro vs h
    obtain ⟨i, x⟩ := x
    simp only [evparts] at h
    split at h
    · rename_i v' vs' h1 h2; cases h; simp [S.ev h1]; simpa using ih h2
    · cases h
theorem r_build {T : TypeId} {parts : List (Nat × Operand)} {m y : Nat} {g : Bool} {z : List Value} {pl : List (Nat × Nat)} {pv : List (Nat × Value)} (S : Sl n D L a) (ht : tyI P T = some (g, m, y, z)) (hp : places P T = some pl)
    (he : evparts L parts = some pv) (vs : List Value) (hf : Instr.fill (fun i => pl[i]?) z.toArray pv = some vs.toArray) (hd : Nat.blt d n = true)
    (k : ∀ a', Sl n D ((d, .agg vs.toArray) :: L) a' → WL r P ops Q rest a' w) :
    WL r P ops Q (⟨some d, .build T parts.toArray, ty, ps, af, none⟩ :: rest) a w := by
  refine op_ok S rfl (by intro c h; cases h) rfl (blt_lt hd) (w' := w) ?_ k
  obtain ⟨d0, i, zv, q1, q2, q3, q4, q5, q6, q7⟩ := tyI_open ht
  have hz : zv.cells = z.toArray := by rw [← q7, Array.toArray_toList]
  unfold places at hp
  split at hp
  · rename_i fs h1
    have hm : ∀ (l : List Field) (pl : List (Nat × Nat)), l.mapM (fun g => (P.info? g.type).map fun i => (g.offset, i.size)) = some pl →
        (l.mapM (m := Sem) fun f => do pure (f.offset, ← sizeOf f.type)).run P w = .ok pl w := by
      intro l
      induction l with
      | nil => intro pl h; simp at h; subst h; simp [Sem.run]
      | cons g l ih =>
        intro pl h
        simp only [List.mapM_cons, Option.pure_def, Option.bind_eq_bind, Option.bind_eq_some_iff, Option.some.injEq] at h
        obtain ⟨p, h2, pl', h3, rfl⟩ := h
        obtain ⟨i, h4, rfl⟩ := Option.map_eq_some_iff.1 h2
        have hs : (sizeOf g.type).run P w = .ok i.size w := by simp [sizeOf, typeInfo, program, Sem.run_bind, Sem.run, Result.andThen, h4]
        simp only [List.mapM_cons, Sem.run_bind, hs, Sem.run_pure, Result.andThen_ok, ih pl' h3]
    have hm2 := hm _ _ hp
    have hparts : (parts.toArray.map fun (i, x) => (i, a.eval x)).toList = pv := by rw [← S.evp he]; simp
    have hmA : (fs.mapM (m := Sem) fun f => do pure (f.offset, ← sizeOf f.type)).run P w = .ok pl.toArray w := by
      rw [← Array.toArray_toList (xs := fs), List.mapM_toArray]
      generalize hgg : (fs.toList.mapM (m := Sem) fun f => do pure (f.offset, ← sizeOf f.type)) = gg at hm2 ⊢
      simp [Sem.run_bind, hm2, Sem.run, Result.andThen]
    have hfill : Instr.fill (fun i => pl[i]?) zv.cells pv = some vs.toArray := by rw [hz]; exact hf
    have hz0 : (zeroValue T).run P w = .ok zv w := by simp [zeroValue, typeInfo, program, Sem.run_bind, Sem.run, Result.andThen, q3, q6]
    simp only [execOp, Instr.build, Sem.run_bind, hz0, Result.andThen_ok, run_underlying h1, hmA]
    rw [hparts]
    simp [hfill, Sem.run, Result.andThen]
  · cases hp
end Go.Proofs.Ytmdpjijafejgpaa.Sl

/- Slices: rows of the call's own, rows that are read; a rule for each operation on them. -/
set_option linter.unusedVariables false
set_option linter.unusedSimpArgs false
namespace Go.Proofs.Ytmdpjijafejgpaa.Sl
open Go

/-- how an element is laid in memory: so many cells, each one cell -/
structure En (α : Type) where
  sz : Nat
  enc : α → List Value
  z : α
  len : ∀ x, (enc x).length = sz
  one : ∀ x, (enc x).all (·.oneCell') = true
  pos : 0 < sz
def rd {α : Type} (e : En α) (l : List α) (i : Int) : α := l.getD i.toNat e.z

theorem flat_len {α : Type} (e : En α) (l : List α) : (l.flatMap e.enc).length = l.length * e.sz := by
  induction l with
  | nil => simp
  | cons x l ih => rw [List.flatMap_cons, List.length_append, e.len, ih, List.length_cons, Nat.add_mul, Nat.one_mul, Nat.add_comm]
theorem flat_get {α : Type} (e : En α) : ∀ (l : List α) (i j : Nat), i < l.length → j < e.sz → (l.flatMap e.enc)[i * e.sz + j]? = (e.enc (l.getD i e.z))[j]?
  | [], i, j, h, _ => by simp at h
  | x :: l, 0, j, _, hj => by
    rw [List.flatMap_cons, Nat.zero_mul, Nat.zero_add, List.getElem?_append_left (by rw [e.len]; exact hj)]; rfl
  | x :: l, i + 1, j, h, hj => by
    rw [List.flatMap_cons, List.getElem?_append_right (by rw [e.len, Nat.add_mul]; omega), e.len]
    have : (i + 1) * e.sz + j - e.sz = i * e.sz + j := by rw [Nat.add_mul]; omega
    rw [this, flat_get e l i j (by simpa using h) hj]; rfl
theorem flat_set {α : Type} (e : En α) : ∀ (l : List α) (i : Nat) (x : α), i < l.length → (l.set i x).flatMap e.enc = (l.flatMap e.enc).take (i * e.sz) ++ e.enc x ++ (l.flatMap e.enc).drop (i * e.sz + e.sz)
  | [], i, x, h => by simp at h
  | y :: l, 0, x, _ => by
    simp only [List.set_cons_zero, List.flatMap_cons, Nat.zero_mul, Nat.zero_add, List.take_zero, List.nil_append]
    rw [List.drop_left' (e.len y)]
  | y :: l, i + 1, x, h => by
    have h1 : (i + 1) * e.sz = (e.enc y).length + i * e.sz := by rw [e.len, Nat.add_mul]; omega
    rw [List.set_cons_succ, List.flatMap_cons, List.flatMap_cons, h1, List.take_length_add_append, Nat.add_assoc, List.drop_length_add_append, flat_set e l i x (by simpa using h)]
    simp
theorem flat_take {α : Type} (e : En α) (l : List α) (k : Nat) : (l.take k).flatMap e.enc = (l.flatMap e.enc).take (k * e.sz) := by
  induction l generalizing k with
  | nil => simp
  | cons x l ih =>
    cases k with
    | zero => simp
    | succ k =>
      have h1 : (k + 1) * e.sz = (e.enc x).length + k * e.sz := by rw [e.len, Nat.add_mul]; omega
      rw [List.take_succ_cons, List.flatMap_cons, List.flatMap_cons, h1, List.take_length_add_append, ih]

/-- a row of the call's own -/
def own {α : Type} (e : En α) (E : TypeId) (A : Option Addr) (n c : Nat) (l : List α) : Hp := fun h =>
  l.length = n ∧ ((True ∧ n = 0 ∧ c = 0) ∨ ∃ g cur, A = some ⟨g, 0, none⟩ ∧ n ≤ c ∧ c ≤ maxLen ∧ cur.size = c * e.sz ∧ cur.toList.take (n * e.sz) = l.flatMap e.enc ∧ h = one g (.cells cur E (0, 0)))
/-- a row that is read -/
def Rd {α : Type} (e : En α) (X : Heap) (A : Option Addr) (n c : Nat) (l : List α) : Prop :=
  l.length = n ∧ n ≤ c ∧ c ≤ maxLen ∧ (0 < n → ∃ b o, A = some ⟨b, o, none⟩ ∧ ∀ i j v, i < n → (e.enc (l.getD i e.z))[j]? = some v → hcell X b (o + i * e.sz + j) = some v)

variable {r : Option Nat} {P : Program} {n : Nat} {D : List Deferred} {L : List (Nat × Value)} {a : Act} {w w0 w' : World} {ops : Array Oper} {Q : Exit → Act → World → Prop} {rest : List Oper}
  {o : Oper} {d : Nat} {v : Value} {cs : List Hp} {post : List Hp} {ty : TypeId} {ps : String} {af : Array Edge} {α : Type} {e : En α} {E : TypeId} {A : Option Addr} {m c : Nat} {l : List α}

theorem own_len (pre : List Hp) (H : HS w0 (pre ++ own e E A m c l :: post) w) : l.length = m := SL.pure H.sl fun _ q => q.1
theorem own_le (pre : List Hp) (H : HS w0 (pre ++ own e E A m c l :: post) w) : m ≤ c ∧ c ≤ maxLen := SL.pure H.sl fun _ q => by
  rcases q.2 with ⟨_, h1, h2⟩ | ⟨g, cur, _, h1, h2, _⟩
  · subst h1; subst h2; exact ⟨Nat.le_refl _, Nat.zero_le _⟩
  · exact ⟨h1, h2⟩
theorem own_at (pre : List Hp) (H : HS w0 (pre ++ own e E A m c l :: post) w) (hm : 0 < m) : ∃ g, A = some ⟨g, 0, none⟩ := SL.pure H.sl fun _ q => by
  rcases q.2 with ⟨_, h1, _⟩ | ⟨g, cur, h, _⟩
  · omega
  · exact ⟨g, h⟩
theorem own_nil : SL cs (hpOf w) → SL (own e E none 0 0 [] :: cs) (hpOf w) := fun H =>
  ⟨fun _ => none, hpOf w, fun _ => .inl rfl, by funext b; simp [un], ⟨rfl, .inl ⟨trivial, rfl, rfl⟩⟩, H⟩
theorem own_z (A : Option Addr) : SL cs (hpOf w) → SL (own e E A 0 0 [] :: cs) (hpOf w) := fun H =>
  ⟨fun _ => none, hpOf w, fun _ => .inl rfl, by funext b; simp [un], ⟨rfl, .inl ⟨trivial, rfl, rfl⟩⟩, H⟩
theorem HS.own_nil (e : En α) (E : TypeId) (H : HS w0 cs w) : HS w0 (own e E none 0 0 [] :: cs) w := ⟨Sl.own_nil H.sl, H.os, H.tape, H.out, H.size, H.dr⟩
theorem own_chunk_rd {h : Heap} (q : own e E A m c l h) : Rd e h A m c l := by
  refine ⟨q.1, ?_⟩
  rcases q.2 with ⟨_, h1, h2⟩ | ⟨g, cur, hA, h1, h2, h3, h4, rfl⟩
  · subst h1; subst h2; exact ⟨Nat.le_refl _, Nat.zero_le _, fun h => absurd h (by omega)⟩
  · refine ⟨h1, h2, fun _ => ⟨g, 0, hA, fun i j v hi hv => ?_⟩⟩
    have hj : j < e.sz := by have := (List.getElem?_eq_some_iff.1 hv).1; rwa [e.len] at this
    have := flat_get e l i j (by rw [q.1]; exact hi) hj
    rw [hv, ← h4, List.getElem?_take] at this
    split at this
    · simp only [hcell, one, if_pos]; rw [Nat.zero_add]; simpa using this
    · cases this
theorem Rd.mono {X Y : Heap} (R : Rd e X A m c l) (f : ∀ b o v, hcell X b o = some v → hcell Y b o = some v) : Rd e Y A m c l :=
  ⟨R.1, R.2.1, R.2.2.1, fun h => let ⟨b, o, h1, h2⟩ := R.2.2.2 h; ⟨b, o, h1, fun i j v hi hv => f _ _ _ (h2 i j v hi hv)⟩⟩
theorem SL.rd {pre : List Hp} {c' : Hp} {h : Heap} (H : SL (pre ++ c' :: post) h) (f : ∀ h, c' h → Rd e h A m c l) : Rd e h A m c l := by
  obtain ⟨h1, h2, d, rfl, ha, -⟩ := SL.pull pre H
  refine (f _ ha).mono fun b o v q => ?_
  unfold Sl.hcell at q ⊢
  cases e1 : h1 b with
  | none => rw [e1] at q; cases q
  | some x => rw [un_some e1]; rwa [e1] at q
/-- a row of one's own is read -/
theorem own_rd (pre : List Hp) (H : HS w0 (pre ++ own e E A m c l :: post) w) : Rd e (hpOf w) A m c l := SL.rd H.sl fun _ q => own_chunk_rd q
theorem isH_rd (pre : List Hp) {X : Heap} (H : HS w0 (pre ++ isH X :: post) w) (R : Rd e X A m c l) : Rd e (hpOf w) A m c l := SL.rd H.sl fun h q => by rw [show h = X from q]; exact R
theorem sl_own_rd (pre : List Hp) {X : Heap} (H : SL (pre ++ own e E A m c l :: post) X) : Rd e X A m c l := SL.rd H fun _ q => own_chunk_rd q
theorem sl_isH_rd (pre : List Hp) {X Y : Heap} (H : SL (pre ++ isH X :: post) Y) (R : Rd e X A m c l) : Rd e Y A m c l := SL.rd H fun h q => by rw [show h = X from q]; exact R
theorem Rd.at {X : Heap} (R : Rd e X A m c l) (hm : 0 < m) : ∃ b o, A = some ⟨b, o, none⟩ := let ⟨b, o, h, _⟩ := R.2.2.2 hm; ⟨b, o, h⟩
theorem Rd.range {b q : Nat} (R : Rd e (hpOf w) (some ⟨b, q, none⟩) m c l) {i : Int} (h0 : 0 ≤ i) (h1 : i < m) (j k : Nat) : w.rangeAt b (q + i.toNat * e.sz + j) (((e.enc (rd e l i)).drop j).take k) := fun s u hu => by
  obtain ⟨b', o', h, f⟩ := R.2.2.2 (by omega)
  cases h
  rw [cell_hcell, Nat.add_assoc]
  refine f i.toNat (j + s) u (by omega) ?_
  rw [List.getElem?_take] at hu
  split at hu
  · rw [List.getElem?_drop] at hu; exact hu
  · cases hu
theorem Rd.cell {b q : Nat} (R : Rd e (hpOf w) (some ⟨b, q, none⟩) m c l) {i : Int} (h0 : 0 ≤ i) (h1 : i < m) {j : Nat} {v : Value} (hv : (e.enc (rd e l i))[j]? = some v) : w.cell? ⟨b, q + i.toNat * e.sz + j, none⟩ = some v := by
  obtain ⟨b', o', h, f⟩ := R.2.2.2 (by omega)
  cases h
  rw [cell_hcell]
  exact f i.toNat j v (by omega) hv

/-- the address of an element -/
theorem r_index {T : TypeId} {x y : Operand} {b q sz yy : Nat} {z : List Value} {g : Bool} {i : Int} {k : IntKind} (S : Sl n D L a) (hx : evl L x = some (.slice (some ⟨b, q, none⟩) m c)) (hy : evl L y = some (.int k i)) (ht : slE P T = some E)
    (hE : tyI P E = some (g, sz, yy, z)) (h0 : 0 ≤ i) (h1 : i < m) (hd : Nat.blt d n = true)
    (kk : ∀ a', Sl n D ((d, .pointer (some ⟨b, q + i.toNat * sz + 0, none⟩)) :: L) a' → WL r P ops Q rest a' w) :
    WL r P ops Q (⟨some d, .indexAddr T x y, ty, ps, af, none⟩ :: rest) a w := by
  refine op_ok S rfl (by intro c h; cases h) rfl (blt_lt hd) (w' := w) ?_ kk
  obtain ⟨d0, ii, zv, q1, q2, q3, q4, q5, q6, q7⟩ := tyI_open hE
  have hu := slE_open ht
  simp [execOp, Instr.indexAt, S.ev hx, S.ev hy, asIntOf, Sem.run_bind, run_underlying hu, Sem.run, Result.andThen, h0, h1, sizeOf, typeInfo, program, q3, q4, Addr.add_mid]
/-- a load out of an element of a row that is read -/
theorem r_elA {T : TypeId} {x : Operand} {b q j k y : Nat} {z vs : List Value} {i : Int} (S : Sl n D L a) (R : Rd e (hpOf w) (some ⟨b, q, none⟩) m c l) (h0 : 0 ≤ i) (h1 : i < m) (hx : evl L x = some (.pointer (some ⟨b, q + i.toNat * e.sz + j, none⟩)))
    (ht : tyI P T = some (true, k, y, z)) (hv : ((e.enc (rd e l i)).drop j).take k = vs) (hl : vs.length = k) (hd : Nat.blt d n = true) (kk : ∀ a', Sl n D ((d, .agg vs.toArray) :: L) a' → WL r P ops Q rest a' w) :
    WL r P ops Q (⟨some d, .load T x, ty, ps, af, none⟩ :: rest) a w :=
  r_loadA S hx ht (by rw [← hv]; exact R.range h0 h1 j k) hl hd kk
theorem r_elS {T : TypeId} {x : Operand} {b q j y : Nat} {z : List Value} {i : Int} (S : Sl n D L a) (R : Rd e (hpOf w) (some ⟨b, q, none⟩) m c l) (h0 : 0 ≤ i) (h1 : i < m) (hx : evl L x = some (.pointer (some ⟨b, q + i.toNat * e.sz + j, none⟩)))
    (ht : tyI P T = some (false, 1, y, z)) (v : Value) (hv : (e.enc (rd e l i))[j]? = some v) (hd : Nat.blt d n = true) (kk : ∀ a', Sl n D ((d, v) :: L) a' → WL r P ops Q rest a' w) :
    WL r P ops Q (⟨some d, .load T x, ty, ps, af, none⟩ :: rest) a w :=
  r_loadS S hx ht v (R.cell h0 h1 hv) hd kk

theorem take_mid {β : Type} (cur : List β) (n o : Nat) (vs : List β) (h : o + vs.length ≤ n) (hn : n ≤ cur.length) :
    (cur.take o ++ vs ++ cur.drop (o + vs.length)).take n = (cur.take n).take o ++ vs ++ (cur.take n).drop (o + vs.length) := by
  rw [List.take_append, List.take_append]
  simp only [List.length_append, List.length_take]
  rw [Nat.min_eq_left (by omega : o ≤ cur.length)]
  rw [List.take_take, List.take_take, Nat.min_eq_right (by omega : o ≤ n), Nat.min_eq_left (by omega : o ≤ n), List.take_of_length_le (by omega : vs.length ≤ n - o), List.drop_take]
/-- a store into an element of a row of one's own -/
theorem r_elst (pre : List Hp) {T : TypeId} {x u : Operand} {b j k y : Nat} {z : List Value} {g : Bool} {i : Int} (S : Sl n D L a) (H : HS w0 (pre ++ own e E (some ⟨b, 0, none⟩) m c l :: post) w) (h0 : 0 ≤ i) (h1 : i < m)
    (hx : evl L x = some (.pointer (some ⟨b, 0 + i.toNat * e.sz + j, none⟩))) (hu : evl L u = some v) (ht : tyI P T = some (g, k, y, z)) (vs : List Value) (hvs : v.cells.toList = vs) (hl : vs.length = k) (ho : vs.all (·.oneCell') = true)
    (hj : Nat.ble (j + k) e.sz = true) (x' : α) (he : (e.enc (rd e l i)).take j ++ vs ++ (e.enc (rd e l i)).drop (j + k) = e.enc x')
    (kk : ∀ w', HS w0 (pre ++ own e E (some ⟨b, 0, none⟩) m c (l.set i.toNat x') :: post) w' → WL r P ops Q rest a w') :
    WL r P ops Q (⟨none, .store T x u, ty, ps, af, none⟩ :: rest) a w := by
  have hj' := Nat.le_of_ble_eq_true hj
  obtain ⟨cur, hg, hlen, hmc, hcm, hsz, htk⟩ : ∃ cur : Array Value, w.heap[b]? = some (.cells cur E (0, 0)) ∧ l.length = m ∧ m ≤ c ∧ c ≤ maxLen ∧ cur.size = c * e.sz ∧ cur.toList.take (m * e.sz) = l.flatMap e.enc := by
    obtain ⟨h1', h2', dd, hh, ha, -⟩ := SL.pull pre H.sl
    rcases ha.2 with ⟨_, h, _⟩ | ⟨gg, cur, hA, q1, q2, q3, q4, q5⟩
    · omega
    · cases hA
      refine ⟨cur, ?_, ha.1, q1, q2, q3, q4⟩
      have : hpOf w b = some (.cells cur E (0, 0)) := by rw [hh]; exact un_some (by rw [q5]; simp [one])
      exact this
  have him : i.toNat * e.sz + e.sz ≤ m * e.sz := by
    have : (i.toNat + 1) * e.sz ≤ m * e.sz := Nat.mul_le_mul_right _ (by omega)
    rwa [Nat.add_mul, Nat.one_mul] at this
  have hmc' : m * e.sz ≤ c * e.sz := Nat.mul_le_mul_right _ hmc
  have hr := run_store_bx (P := P) (o := 0 + i.toNat * e.sz + j) ht hg v vs hvs hl ho (by omega)
  obtain ⟨NEW, hN⟩ : ∃ q, q = (cur.toList.take (0 + i.toNat * e.sz + j) ++ vs ++ cur.toList.drop (0 + i.toNat * e.sz + j + vs.length)).toArray := ⟨_, rfl⟩
  rw [← hN] at hr
  refine op_skip S rfl (by intro c h; cases h) rfl (w' := w.setRow b NEW) ?_ (kk _ ?_)
  · simp only [execOp, S.ev hx, S.ev hu, Sem.run_bind, hr, Result.andThen, Sem.run]
    rfl
  · refine HS.setRow H hg fun h q => ?_
    subst hN
    refine ⟨?_, by simpa using hlen, .inr ⟨b, (cur.toList.take (0 + i.toNat * e.sz + j) ++ vs ++ cur.toList.drop (0 + i.toNat * e.sz + j + vs.length)).toArray, rfl, hmc, hcm, ?_, ?_, ?_⟩⟩
    · rcases q.2 with ⟨_, h, _⟩ | ⟨gg, cur', hA, _, _, _, _, q5⟩
      · omega
      · cases hA; rw [q5]; simp [one]
    · simp only [List.size_toArray, List.length_append, List.length_take, List.length_drop, Array.length_toList, hsz]
      omega
    · have hcl : cur.toList.length = c * e.sz := by rw [Array.length_toList, hsz]
      rw [take_mid _ _ _ _ (by omega) (by omega), htk, flat_set e l i.toNat x' (by omega), ← he]
      have hfl : (l.flatMap e.enc).length = m * e.sz := by rw [flat_len, hlen]
      have hrow : e.enc (rd e l i) = ((l.flatMap e.enc).drop (i.toNat * e.sz)).take e.sz := by
        apply List.ext_getElem?
        intro s
        rw [List.getElem?_take]
        split
        · rename_i hs; rw [List.getElem?_drop, flat_get e l i.toNat s (by omega) hs]; rfl
        · rename_i hs; rw [List.getElem?_eq_none]; rw [e.len]; omega
      rw [hrow, Nat.zero_add, hl]
      generalize l.flatMap e.enc = F at hfl
      have e1 : F.take (i.toNat * e.sz + j) = F.take (i.toNat * e.sz) ++ ((F.drop (i.toNat * e.sz)).take e.sz).take j := by
        rw [List.take_take, Nat.min_eq_left (by omega), ← List.take_add]
      have e2 : F.drop (i.toNat * e.sz + j + k) = ((F.drop (i.toNat * e.sz)).take e.sz).drop (j + k) ++ F.drop (i.toNat * e.sz + e.sz) := by
        have q : F.drop (i.toNat * e.sz) = (F.drop (i.toNat * e.sz)).take e.sz ++ F.drop (i.toNat * e.sz + e.sz) := by
          rw [← List.drop_drop]; exact (List.take_append_drop _ _).symm
        calc F.drop (i.toNat * e.sz + j + k) = (F.drop (i.toNat * e.sz)).drop (j + k) := by rw [List.drop_drop]; congr 1; omega
          _ = _ := by
            conv => lhs; rw [q]
            rw [List.drop_append_of_le_length (by rw [List.length_take, List.length_drop]; omega)]
      rw [e1, e2]; simp
    · rcases q.2 with ⟨_, h, _⟩ | ⟨gg, cur', hA, _, _, _, _, q5⟩
      · omega
      · cases hA; rw [q5]; funext s; simp only [upd, one]; split <;> rfl

/-! ### lengths -/
theorem r_len {T : TypeId} {x : Operand} (S : Sl n D L a) (hx : evl L x = some (.slice A m c)) (ht : slE P T = some E) (hd : Nat.blt d n = true)
    (kk : ∀ a', Sl n D ((d, .int .i64 m) :: L) a' → WL r P ops Q rest a' w) :
    WL r P ops Q (⟨some d, .call { callee := .builtin .len, args := #[x], argTypes := #[T] }, ty, ps, af, none⟩ :: rest) a w := by
  refine op_ok S rfl (by intro c h; cases h) rfl (blt_lt hd) (w' := w) ?_ kk
  have hu := slE_open ht
  simp [execOp, resolve, invoke, builtin, Builtin.len_, S.ev hx, Sem.run_bind, run_underlying hu, Sem.run, Result.andThen, goInt]
theorem r_cap {T : TypeId} {x : Operand} (S : Sl n D L a) (hx : evl L x = some (.slice A m c)) (ht : slE P T = some E) (hd : Nat.blt d n = true)
    (kk : ∀ a', Sl n D ((d, .int .i64 c) :: L) a' → WL r P ops Q rest a' w) :
    WL r P ops Q (⟨some d, .call { callee := .builtin .cap, args := #[x], argTypes := #[T] }, ty, ps, af, none⟩ :: rest) a w := by
  refine op_ok S rfl (by intro c h; cases h) rfl (blt_lt hd) (w' := w) ?_ kk
  have hu := slE_open ht
  simp [execOp, resolve, invoke, builtin, Builtin.cap_, S.ev hx, Sem.run_bind, run_underlying hu, Sem.run, Result.andThen, goInt]
def mx (x y : Int) : Int := if y > x then y else x
def mn (x y : Int) : Int := if y < x then y else x
def mxs (op : Bool) : Int → List Int → Int
  | x, [] => x
  | x, y :: r => mxs op (cond op (mx x y) (mn x y)) r
theorem r_max {xs : List Operand} {ts : Array TypeId} {k : IntKind} {p : Int} {qs : List Int} (S : Sl n D L a) (hx : evls L xs = some (.int k p :: qs.map (.int k ·))) (hd : Nat.blt d n = true)
    (kk : ∀ a', Sl n D ((d, .int k (mxs true p qs)) :: L) a' → WL r P ops Q rest a' w) :
    WL r P ops Q (⟨some d, .call { callee := .builtin .max, args := xs.toArray, argTypes := ts }, ty, ps, af, none⟩ :: rest) a w := by
  refine op_ok S rfl (by intro c h; cases h) rfl (blt_lt hd) (w' := w) ?_ kk
  have e1 := S.evs hx
  have hf : ∀ (qs : List Int) (p : Int), ((qs.map (Value.int k ·)).foldlM (m := Sem) Builtin.max2 (.int k p)).run P w = .ok (.int k (mxs true p qs)) w := by
    intro qs
    induction qs with
    | nil => intro p; simp [mxs, Sem.run]
    | cons q qs ih => intro p; simp [mxs, Builtin.max2, Sem.run, Sem.run_bind, Result.andThen]; rw [ih]; rfl
  simp [execOp, resolve, invoke, builtin, Builtin.max_, e1, Sem.run_bind, Sem.run, Result.andThen, hf]
theorem r_min {xs : List Operand} {ts : Array TypeId} {k : IntKind} {p : Int} {qs : List Int} (S : Sl n D L a) (hx : evls L xs = some (.int k p :: qs.map (.int k ·))) (hd : Nat.blt d n = true)
    (kk : ∀ a', Sl n D ((d, .int k (mxs false p qs)) :: L) a' → WL r P ops Q rest a' w) :
    WL r P ops Q (⟨some d, .call { callee := .builtin .min, args := xs.toArray, argTypes := ts }, ty, ps, af, none⟩ :: rest) a w := by
  refine op_ok S rfl (by intro c h; cases h) rfl (blt_lt hd) (w' := w) ?_ kk
  have e1 := S.evs hx
  have hf : ∀ (qs : List Int) (p : Int), ((qs.map (Value.int k ·)).foldlM (m := Sem) Builtin.min2 (.int k p)).run P w = .ok (.int k (mxs false p qs)) w := by
    intro qs
    induction qs with
    | nil => intro p; simp [mxs, Sem.run]
    | cons q qs ih => intro p; simp [mxs, Builtin.min2, Sem.run, Sem.run_bind, Result.andThen]; rw [ih]; rfl
  simp [execOp, resolve, invoke, builtin, Builtin.min_, e1, Sem.run_bind, Sem.run, Result.andThen, hf]
end Go.Proofs.Ytmdpjijafejgpaa.Sl

/- Slices that are made: literals, append, make; cuts of slices. -/
set_option linter.unusedVariables false
set_option linter.unusedSimpArgs false
namespace Go.Proofs.Ytmdpjijafejgpaa.Sl
open Go

variable {r : Option Nat} {P : Program} {n : Nat} {D : List Deferred} {L : List (Nat × Value)} {a : Act} {w w0 w' : World} {ops : Array Oper} {Q : Exit → Act → World → Prop} {rest : List Oper}
  {o : Oper} {d : Nat} {v : Value} {cs : List Hp} {pre post : List Hp} {k : Nat} {ty : TypeId} {ps : String} {af : Array Edge} {α : Type} {e : En α} {E : TypeId} {A B : Option Addr} {m c c2 : Nat} {l l2 : List α}

theorem own_new {b : Nat} {cur : Array Value} (hl : l.length = m) (hc : m ≤ c) (hm : c ≤ maxLen) (hs : cur.size = c * e.sz) (ht : cur.toList.take (m * e.sz) = l.flatMap e.enc) :
    ∀ h, (fun h : Heap => h = one b (.cells cur E (0, 0))) h → own e E (some ⟨b, 0, none⟩) m c l h := fun h q => ⟨hl, .inr ⟨b, cur, rfl, hc, hm, hs, ht, q⟩⟩

/-! ### literals -/
theorem setAll (off : Nat) : ∀ (vs : List Value) (j : Nat) (cur : Array Value), off + j + vs.length ≤ cur.size →
    ((vs.zipIdx j).foldl (fun (cs : Array Value) (p : Value × Nat) => cs.setIfInBounds (off + p.2) p.1) cur).toList = cur.toList.take (off + j) ++ vs ++ cur.toList.drop (off + j + vs.length)
  | [], j, cur, _ => by simp
  | v :: vs, j, cur, h => by
    simp only [List.length_cons] at h
    rw [List.zipIdx_cons, List.foldl_cons, setAll off vs (j + 1) _ (by simp; omega)]
    simp only [Array.toList_setIfInBounds]
    have h1 : off + j < cur.toList.length := by rw [Array.length_toList]; omega
    have e1 : (cur.toList.set (off + j) v).take (off + (j + 1)) = cur.toList.take (off + j) ++ [v] := by
      rw [show off + (j + 1) = (off + j) + 1 from rfl, List.take_succ_eq_append_getElem (by simpa using h1), List.take_set_of_le (Nat.le_refl _)]
      simp
    have e2 : (cur.toList.set (off + j) v).drop (off + (j + 1) + vs.length) = cur.toList.drop (off + j + (vs.length + 1)) := by
      rw [List.drop_set_of_lt (by omega)]; congr 1; omega
    rw [e1, e2]; simp
def idx (k : Nat) : List Value → List (Nat × Value)
  | [] => []
  | v :: r => (k, v) :: idx (k + 1) r
theorem fill_row (e : En α) : ∀ (vs : List Value) (xs : List α) (k : Nat) (cur : Array Value), vs.map (·.cells.toList) = xs.map e.enc → cur.size = (k + xs.length) * e.sz →
    ∃ out, Instr.fill (fun i => some (i * e.sz, e.sz)) cur (idx k vs) = some out ∧ out.toList = cur.toList.take (k * e.sz) ++ xs.flatMap e.enc
  | [], [], k, cur, _, hs => ⟨cur, rfl, by simp at hs ⊢; rw [List.take_of_length_le (by rw [Array.length_toList]; omega)]⟩
  | [], _ :: _, _, _, h, _ => by simp at h
  | _ :: _, [], _, _, h, _ => by simp at h
  | v :: vs, x :: xs, k, cur, h, hs => by
    simp only [List.map_cons, List.cons.injEq] at h
    have hv : v.cells.size = e.sz := by rw [← Array.length_toList, h.1, e.len]
    have hle : k * e.sz + e.sz ≤ cur.size := by
      rw [hs]; have : (k + 1) * e.sz ≤ (k + (x :: xs).length) * e.sz := Nat.mul_le_mul_right _ (by simp)
      rwa [Nat.add_mul, Nat.one_mul] at this
    have hf : (v.cells.zipIdx.foldl (fun (cs : Array Value) (p : Value × Nat) => cs.setIfInBounds (k * e.sz + p.2) p.1) cur).toList = cur.toList.take (k * e.sz) ++ e.enc x ++ cur.toList.drop (k * e.sz + e.sz) := by
      rw [← Array.foldl_toList, Array.toList_zipIdx, h.1, setAll (k * e.sz) (e.enc x) 0 cur (by rw [e.len]; omega), e.len]; simp
    obtain ⟨out, h1, h2⟩ := fill_row e vs xs (k + 1) (v.cells.zipIdx.foldl (fun (cs : Array Value) (p : Value × Nat) => cs.setIfInBounds (k * e.sz + p.2) p.1) cur) h.2
      (by rw [← Array.length_toList, hf]; simp only [List.length_append, List.length_take, List.length_drop, Array.length_toList, e.len]; simp at hs; rw [Nat.min_eq_left (by omega)]
          have : k + (xs.length + 1) = k + 1 + xs.length := by omega
          rw [this] at hs; omega)
    refine ⟨out, ?_, ?_⟩
    · simp only [idx, Instr.fill]
      rw [if_neg (by simp [hv]; omega)]
      exact h1
    · rw [h2, hf]
      have : (k + 1) * e.sz = (cur.toList.take (k * e.sz) ++ e.enc x).length := by
        rw [List.length_append, List.length_take, Array.length_toList, e.len, Nat.add_mul]; rw [Nat.min_eq_left (by omega)]; omega
      rw [this, List.take_left' rfl]; simp
theorem r_lit {T : TypeId} {parts : List (Nat × Operand)} {y : Nat} {g : Bool} {z : List Value} {vs : List Value} (S : Sl n D L a) (H : HS w0 cs w) (ht : slE P T = some E) (hE : tyI P E = some (g, e.sz, y, z)) (hz : z.length = e.sz)
    (he : evparts L parts = some (idx 0 vs)) (hv : vs.map (·.cells.toList) = l.map e.enc) (hl : l.length = m) (hm : Nat.ble (m * e.sz) 16777216 = true) (hd : Nat.blt d n = true)
    (kk : ∀ b a' w', Sl n D ((d, .slice (some ⟨b, 0, none⟩) m m) :: L) a' → HS w0 (own e E (some ⟨b, 0, none⟩) m m l :: cs) w' → WL r P ops Q rest a' w') :
    WL r P ops Q (⟨some d, .buildSlice T m parts.toArray, ty, ps, af, none⟩ :: rest) a w := by
  have hm' := Nat.le_of_ble_eq_true hm
  have hu := slE_open ht
  obtain ⟨d0, i, zv, q1, q2, q3, q4, q5, q6, q7⟩ := tyI_open hE
  have hz0 : (zeroValue E).run P w = .ok zv w := by simp [zeroValue, typeInfo, program, Sem.run_bind, Sem.run, Result.andThen, q3, q6]
  obtain ⟨Z, hZ⟩ : ∃ Z : Array Value, Z = if m * e.sz = 0 then #[] else zv.cells := ⟨_, rfl⟩
  obtain ⟨out, h1, h2⟩ := fill_row e vs l 0 ((Array.range (m * e.sz)).map (Z[· % Z.size]!)) hv (by simp [hl])
  have hout : out.toList = l.flatMap e.enc := by rw [h2]; simp
  have hosz : out.size = m * e.sz := by rw [← Array.length_toList, hout, flat_len, hl]
  have hparts : (parts.toArray.map fun (i, x) => (i, a.eval x)).toList = idx 0 vs := by rw [← S.evp he]; simp
  refine op_ok S rfl (by intro c h; cases h) rfl (blt_lt hd) (v := .slice (some ⟨w.heap.size, 0, none⟩) m m) (w' := w.alloc (.cells out E)) ?_ fun a' S' => kk _ a' _ S' ?_
  · have hsz : (sizeOf E).run P w = .ok e.sz w := by simp [sizeOf, typeInfo, program, Sem.run_bind, Sem.run, Result.andThen, q3, q4]
    simp only [execOp, Instr.buildSlice, Sem.run_bind, run_underlying hu, Result.andThen_ok, hsz]
    rw [if_neg (by omega)]
    by_cases hme : m * e.sz = 0
    · rw [if_pos hme] at hZ ⊢
      simp only [Sem.run_bind, Sem.run_pure, Result.andThen_ok]
      rw [hparts, ← hZ]
      simp only [h1, Sem.run_bind, newRow, newObj, Sem.run_pure]
      simp [Sem.run, Result.andThen]
    · rw [if_neg hme] at hZ ⊢
      simp only [Sem.run_bind, Sem.run_pure, Result.andThen_ok, hz0]
      rw [hparts, ← hZ]
      simp only [h1, Sem.run_bind, newRow, newObj, Sem.run_pure]
      simp [Sem.run, Result.andThen]
  · refine (H.alloc (.cells out E)).map fun q => q.head_mono ?_
    have hml : m ≤ maxLen := by
      have : m * 1 ≤ m * e.sz := Nat.mul_le_mul_left _ e.pos
      unfold maxLen; omega
    exact own_new hl (Nat.le_refl _) hml hosz (by rw [← hosz, hout]; rw [List.take_of_length_le]; rw [← hout, Array.length_toList]; exact Nat.le_refl _)

/-! ### append -/
theorem run_app (P : Program) (w : World) {T E : TypeId} (ty : TypeId) {g : Bool} {y : Nat} {z : List Value} (ht : slE P T = some E) (hE : tyI P E = some (g, e.sz, y, z)) (hz : z.length = e.sz)
    (H : HS w0 (pre ++ own e E A m c l :: post) w) (R : Rd e (hpOf w) B k c2 l2) (hlim : (m + k) * y ≤ 140737488355328) (hml : m + k ≤ maxLen) :
    ∃ A' c' w', (Builtin.append_ #[T, T] ty #[.slice A m c, .slice B k c2]).run P w = .ok (.slice A' (m + k) c') w' ∧ HS w0 (pre ++ own e E A' (m + k) c' (l ++ l2) :: post) w' := by
  obtain ⟨d0, i, zv, q1, q2, q3, q4, q5, q6, q7⟩ := tyI_open hE
  have hu := slE_open ht
  have hzs : zv.cells.size = e.sz := by rw [← Array.length_toList, q7, hz]
  have hlm := own_len pre H
  by_cases hk : k = 0
  · -- nothing is appended
    subst hk
    have hl2 : l2 = [] := List.eq_nil_of_length_eq_zero R.1
    subst hl2
    have hle := own_le pre H
    refine ⟨A, c, w, ?_, by simpa using H⟩
    have hfc : (Builtin.firstCells e.sz 0 (.slice B 0 c2)).run P w = .ok #[] w := by cases B <;> simp [Builtin.firstCells, loadCells, loadCellsFrom, Sem.run]
    have hA : (match A with | some a => storeCells (a.add (m * e.sz)) ([] : List Value) | none => pure ()).run P w = .ok () w := by cases A <;> simp [storeCells, Sem.run]
    simp [Builtin.append_, Sem.run_bind, run_underlying hu, Sem.run, Result.andThen, sizeOf, typeInfo, program, q3, q4, Builtin.lenOf, hle.1, hfc]
    cases A <;> simp [storeCells, Sem.run]
  · obtain ⟨b, q, hB, hrd⟩ := R.2.2.2 (by omega)
    subst hB
    have hnews : ∀ j u, (l2.flatMap e.enc)[j]? = some u → w.cell? ((⟨b, q, none⟩ : Addr).add j) = some u := fun j u hj => by
      have hjl : j < k * e.sz := by have := (List.getElem?_eq_some_iff.1 hj).1; rwa [flat_len, R.1] at this
      have hd : j / e.sz < k := Nat.div_lt_of_lt_mul (by rwa [Nat.mul_comm] at hjl)
      have hmd : j % e.sz < e.sz := Nat.mod_lt _ e.pos
      have hj2 : j = j / e.sz * e.sz + j % e.sz := by rw [Nat.mul_comm]; exact (Nat.div_add_mod j e.sz).symm
      rw [hj2, flat_get e l2 _ _ (by rw [R.1]; exact hd) hmd] at hj
      rw [Addr.add_mid, cell_hcell]
      have := hrd _ _ _ hd hj
      rwa [Nat.add_assoc, ← hj2] at this
    have hl2l : (l2.flatMap e.enc).length = k * i.size := by rw [flat_len, R.1, q4]
    have h1 : ∀ u ∈ l2.flatMap e.enc, u.oneCell' = true := fun u hu => by
      obtain ⟨x, _, hx⟩ := List.mem_flatMap.1 hu
      exact (List.all_eq_true.1 (e.one x)) u hx
    obtain ⟨h1', h2', dd, hh, ha, -⟩ := SL.pull pre H.sl
    have key : ∀ (old : Nat) (xs : List Value), xs = l.flatMap e.enc → old < m + k →
        HS w0 (pre ++ own e E (some ⟨w.heap.size, 0, none⟩) (m + k) (grownCap w (m + k) old E) (l ++ l2) :: post) (w.drew.alloc (.cells (xs.toArray ++ (l2.flatMap e.enc).toArray ++ Builtin.zeroCells zv.cells (grownCap w (m + k) old E - (m + k))) E)) := by
      intro old xs hxs ho
      have hge := grownCap_ge w (m + k) old E
      have hcm : grownCap w (m + k) old E ≤ maxLen := grownCap_le_maxLen w (m + k) old E hml
      have H1 := (H.map (fun q => SL.dropAt pre q)).drew
      have H2 := H1.alloc (.cells (xs.toArray ++ (l2.flatMap e.enc).toArray ++ Builtin.zeroCells zv.cells (grownCap w (m + k) old E - (m + k))) E)
      refine H2.map fun q => SL.push pre (q.head_mono ?_)
      refine own_new (by simp [hlm, R.1]) hge hcm ?_ ?_
      · simp only [Array.size_append, List.size_toArray, size_zeroCells, hzs, hxs, flat_len, hlm, R.1, ← Nat.add_mul]
        congr 1; omega
      · simp only [Array.toList_append, List.flatMap_append, hxs]
        have : (m + k) * e.sz = (l.flatMap e.enc ++ l2.flatMap e.enc).length := by rw [List.length_append, flat_len, flat_len, hlm, R.1, Nat.add_mul]
        rw [this, List.take_left' rfl]
    rcases ha.2 with ⟨hA, rfl, rfl⟩ | ⟨gg, cur, rfl, p1, p2, p3, p4, p5⟩
    · have hl0 : l = [] := List.eq_nil_of_length_eq_zero hlm
      subst hl0
      rcases A with _ | A0
      · have hr := run_append_nil (P := P) w T ty E i zv hu q3 q6 ⟨b, q, none⟩ k c2 (l2.flatMap e.enc) hl2l hnews (by omega) (by unfold maxLen at hml; omega) (by rw [q5]; simp only [Nat.zero_add] at hlim; omega)
        have hK := key 0 [] (by simp) (by omega)
        simp only [Nat.zero_add, List.nil_append] at hK ⊢
        exact ⟨_, _, _, hr, by simpa using hK⟩
      · have hr := run_append_grow (P := P) w T ty E i zv hu q3 q6 A0 0 0 [] (by simp) (by simp) ⟨b, q, none⟩ k c2 (l2.flatMap e.enc) hl2l hnews (by omega) (by unfold maxLen at hml; omega)
          (growslice_fits (by omega) (by rw [q5]; exact hlim))
        exact ⟨_, _, _, hr, key 0 [] (by simp) (by omega)⟩
    · have hgg : w.heap[gg]? = some (.cells cur E (0, 0)) := by
        have : hpOf w gg = some (.cells cur E (0, 0)) := by rw [hh]; exact un_some (by rw [p5]; simp [one])
        exact this
      by_cases hroom : m + k ≤ c
      · have hfit : m * i.size + (l2.flatMap e.enc).length ≤ cur.size := by rw [hl2l, p3, q4, ← Nat.add_mul]; exact Nat.mul_le_mul_right _ hroom
        have hr := run_append_room (P := P) w T ty E i hu q3 gg m c cur hgg ⟨b, q, none⟩ k c2 (l2.flatMap e.enc) hl2l hnews h1 hroom hfit
        refine ⟨_, _, _, hr, HS.setRow H hgg fun h qq => ?_⟩
        rcases qq.2 with ⟨_, h, h'⟩ | ⟨g2, cur2, hA, _, _, _, _, q9⟩
        · omega
        · cases hA
          refine ⟨by rw [q9]; simp [one], by simp [hlm, R.1], .inr ⟨gg, (cur.toList.take (m * i.size) ++ l2.flatMap e.enc ++ cur.toList.drop (m * i.size + (l2.flatMap e.enc).length)).toArray, rfl, hroom, p2, ?_, ?_, ?_⟩⟩
          · simp only [List.size_toArray, List.length_append, List.length_take, List.length_drop, Array.length_toList, p3] at hfit ⊢
            omega
          · simp only [q4, p4, List.flatMap_append]
            have : (m + k) * e.sz = (l.flatMap e.enc ++ l2.flatMap e.enc).length := by rw [List.length_append, flat_len, flat_len, hlm, R.1, Nat.add_mul]
            rw [this, List.take_left' rfl]
          · rw [q9]; funext s; simp only [upd, one]; split <;> rfl
      · have holds : ∀ j u, (l.flatMap e.enc)[j]? = some u → w.cell? ((⟨gg, 0, none⟩ : Addr).add j) = some u := fun j u hj => by
          rw [Addr.add_mid, Nat.zero_add, cell_of_row w gg j cur E (0, 0) hgg]
          rw [← p4, List.getElem?_take] at hj
          split at hj
          · simpa using hj
          · cases hj
        have hr := run_append_grow (P := P) w T ty E i zv hu q3 q6 ⟨gg, 0, none⟩ m c (l.flatMap e.enc) (by rw [flat_len, hlm, q4]) holds ⟨b, q, none⟩ k c2 (l2.flatMap e.enc) hl2l hnews (by omega) (by unfold maxLen at hml; omega)
          (growslice_fits (by omega) (by rw [q5]; exact hlim))
        exact ⟨_, _, _, hr, key c _ rfl (by omega)⟩
theorem r_append (pre : List Hp) {T : TypeId} {x u : Operand} {y k : Nat} {g : Bool} {z : List Value} (S : Sl n D L a) (H : HS w0 (pre ++ own e E A m c l :: post) w) (R : Rd e (hpOf w) B k c2 l2)
    (hx : evl L x = some (.slice A m c)) (hu : evl L u = some (.slice B k c2)) (ht : slE P T = some E) (hE : tyI P E = some (g, e.sz, y, z)) (hz : z.length = e.sz) (hlim : l.length + l2.length < 140737488355328 / y) (hy : Nat.blt 0 y = true) (hd : Nat.blt d n = true)
    (kk : ∀ A' c' a' w', Sl n D ((d, .slice A' (m + k) c') :: L) a' → HS w0 (pre ++ own e E A' (m + k) c' (l ++ l2) :: post) w' → WL r P ops Q rest a' w') :
    WL r P ops Q (⟨some d, .call { callee := .builtin .append, args := #[x, u], argTypes := #[T, T] }, ty, ps, af, none⟩ :: rest) a w := by
  have hy' := blt_lt hy
  have hl := own_len pre H
  rw [hl, R.1] at hlim
  have h1 : (m + k) * y ≤ 140737488355328 := by
    have := Nat.mul_le_mul_right y (Nat.le_of_lt hlim)
    exact Nat.le_trans this (Nat.div_mul_le_self _ _)
  have h2 : m + k ≤ maxLen := by
    have : (m + k) * 1 ≤ (m + k) * y := Nat.mul_le_mul_left _ hy'
    unfold maxLen; omega
  obtain ⟨A', c', w', hr, hH⟩ := run_app (e := e) P w ty ht hE hz H R h1 h2
  refine op_ok S rfl (by intro c h; cases h) rfl (blt_lt hd) (w' := w') ?_ fun a' S' => kk A' c' a' w' S' hH
  simp [execOp, resolve, invoke, builtin, S.ev hx, S.ev hu, Sem.run_bind, hr, Sem.run, Result.andThen]

/-! ### make -/
theorem made_flat (e : En α) {zv : Array Value} (hz : zv.toList = e.enc e.z) (k : Nat) : (madeCells zv (k * e.sz)).toList = (List.replicate k e.z).flatMap e.enc := by
  have hzs : zv.size = e.sz := by rw [← Array.length_toList, hz, e.len]
  apply List.ext_getElem?
  intro j
  by_cases hj : j < k * e.sz
  · have hd : j / e.sz < k := Nat.div_lt_of_lt_mul (by rwa [Nat.mul_comm] at hj)
    have hmd : j % e.sz < e.sz := Nat.mod_lt _ e.pos
    have hj2 : j = j / e.sz * e.sz + j % e.sz := by rw [Nat.mul_comm]; exact (Nat.div_add_mod j e.sz).symm
    conv => rhs; rw [hj2]
    rw [flat_get e _ _ _ (by simpa using hd) hmd]
    have : (List.replicate k e.z).getD (j / e.sz) e.z = e.z := by rw [List.getD_eq_getElem?_getD, List.getElem?_replicate]; split <;> rfl
    rw [this, ← hz]
    simp [madeCells, hj, hzs]
    rw [getElem!_pos zv _ (by rw [hzs]; exact hmd)]
    simp [hzs, hmd]
  · rw [List.getElem?_eq_none, List.getElem?_eq_none]
    · rw [flat_len]; simp; omega
    · rw [Array.length_toList, size_madeCells]; omega
theorem r_make {T : TypeId} {x u : Operand} {y : Nat} {g : Bool} {z : List Value} {k : Int} (S : Sl n D L a) (H : HS w0 cs w) (hx : evl L x = some (.int .i64 k)) (hu : evl L u = some (.int .i64 k)) (ht : slE P T = some E) (hE : tyI P E = some (g, e.sz, y, z))
    (hz : z = e.enc e.z) (h0 : 0 ≤ k) (hlim : k.toNat < 140737488355328 / y) (hy : Nat.blt 0 y = true) (hd : Nat.blt d n = true)
    (kk : ∀ b a' w', Sl n D ((d, .slice (some ⟨b, 0, none⟩) k.toNat k.toNat) :: L) a' → HS w0 (own e E (some ⟨b, 0, none⟩) k.toNat k.toNat (List.replicate k.toNat e.z) :: cs) w' → WL r P ops Q rest a' w') :
    WL r P ops Q (⟨some d, .makeSlice T x u, ty, ps, af, none⟩ :: rest) a w := by
  obtain ⟨d0, i, zv, q1, q2, q3, q4, q5, q6, q7⟩ := tyI_open hE
  have hu' := slE_open ht
  have hy' := blt_lt hy
  have h1 : k.toNat * y ≤ 140737488355328 := Nat.le_trans (Nat.mul_le_mul_right y (Nat.le_of_lt hlim)) (Nat.div_mul_le_self _ _)
  have h2 : k.toNat ≤ maxLen := by
    have : k.toNat * 1 ≤ k.toNat * y := Nat.mul_le_mul_left _ hy'
    unfold maxLen; omega
  have hb : (i.bytes : Int) * k ≤ 281474976710656 := by
    have h3 : ((y * k.toNat : Nat) : Int) ≤ 281474976710656 := by rw [Nat.mul_comm]; omega
    rw [Int.natCast_mul, Int.toNat_of_nonneg h0] at h3; rwa [q5]
  have hr := run_make (P := P) w T E i zv hu' q3 q6 .i64 .i64 k k h0 (Int.le_refl _) hb (by unfold maxLen at h2; omega)
  refine op_ok S rfl (by intro c h; cases h) rfl (blt_lt hd) (w' := w.alloc (.cells (madeCells zv.cells (k.toNat * i.size)) E)) (v := .slice (some ⟨w.heap.size, 0, none⟩) k.toNat k.toNat) ?_ fun a' S' => kk _ a' _ S' ?_
  · simp [execOp, S.ev hx, S.ev hu, Sem.run_bind, hr, Sem.run, Result.andThen]
  · have hm := made_flat e (zv := zv.cells) (by rw [q7, hz]) k.toNat
    refine (H.alloc _).map fun q => q.head_mono (own_new (by simp) (Nat.le_refl _) h2 (by rw [size_madeCells, q4]) ?_)
    rw [q4, hm, List.take_of_length_le]
    rw [flat_len]; simp

/-! ### cuts -/
def cutA (A : Option Addr) (c sz lo : Nat) : Option Addr := if c = lo then A else A.map (·.add (lo * sz))
theorem y_cut {T : TypeId} {x : Operand} {lo hi : Option Operand} {y : Nat} {g : Bool} {sz : Nat} {z : List Value} (S : Sl n D L a) (hx : evl L x = some (.slice A m c)) (ht : slE P T = some E) (hE : tyI P E = some (g, sz, y, z))
    (p q : Int) (hlo : (match lo with | some u => evl L u | none => some (.int .i64 0)) = some (.int .i64 p)) (hhi : (match hi with | some u => evl L u | none => some (.int .i64 m)) = some (.int .i64 q))
    (h0 : 0 ≤ p) (h1 : p ≤ q) (h2 : q ≤ c) (hmc : m ≤ c) (dst : Option Nat) (gu : Option (Nat × Bool)) (w : World) :
    (execOp a.eval ⟨dst, .slice T x lo hi none, ty, ps, af, gu⟩).run P w = .ok (.value (.slice (cutA A c sz p.toNat) (q.toNat - p.toNat) (c - p.toNat))) w := by
  have hu := slE_open ht
  obtain ⟨d0, i, zv, q1, q2, q3, q4, q5, q6, q7⟩ := tyI_open hE
  have e1 : (Instr.sliceBounds true m c (lo.map a.eval) (hi.map a.eval) none).run P w = .ok (p.toNat, q.toNat, c) w := by
    cases lo with
    | none =>
      simp only [Option.some.injEq, Value.int.injEq, true_and] at hlo; subst hlo
      cases hi with
      | none => simp only [Option.some.injEq, Value.int.injEq, true_and] at hhi; subst hhi; simp [Instr.sliceBounds, Sem.run_bind, Sem.run, Result.andThen]
      | some u =>
        have := S.ev hhi
        simp [Instr.sliceBounds, Instr.sliceBound, asIntOf, this, Sem.run_bind, Sem.run, Result.andThen, h1, h2]
    | some v =>
      have e2 := S.ev hlo
      cases hi with
      | none =>
        simp only [Option.some.injEq, Value.int.injEq, true_and] at hhi; subst hhi
        simp [Instr.sliceBounds, Instr.sliceBound, asIntOf, e2, Sem.run_bind, Sem.run, Result.andThen, h0, h1]
      | some u =>
        have e3 := S.ev hhi
        have h3 : 0 ≤ q := by omega
        have h4 : p ≤ max q 0 := by omega
        simp [Instr.sliceBounds, Instr.sliceBound, asIntOf, e2, e3, Sem.run_bind, Sem.run, Result.andThen, h0, h1, h2, h3, h4]
  simp only [execOp, Option.map_none, Instr.sliceAt, S.ev hx, Sem.run_bind, run_underlying hu, Result.andThen_ok, Instr.slice, e1, sizeOf, typeInfo, program]
  simp [Sem.run, Result.andThen, Sem.run_bind, q3, q4, cutA]
theorem Rd.cut {X : Heap} (R : Rd e X A m c l) (lo hi : Nat) (h1 : lo ≤ hi) (h2 : hi ≤ m) : Rd e X (cutA A c e.sz lo) (hi - lo) (c - lo) ((l.take hi).drop lo) := by
  obtain ⟨r1, r2, r3, r4⟩ := R
  refine ⟨by simp; omega, by omega, by omega, fun hpos => ?_⟩
  obtain ⟨b, o, hA, f⟩ := r4 (by omega)
  refine ⟨b, o + lo * e.sz, by simp only [cutA]; rw [if_neg (by omega), hA, Option.map_some, Addr.add_mid], fun i j v hi' hv => ?_⟩
  have := f (lo + i) j v (by omega) (by
    rw [← hv]; congr 2
    simp only [List.getD_eq_getElem?_getD, List.getElem?_drop, List.getElem?_take]
    rw [if_pos (by omega)])
  rwa [Nat.add_mul, ← Nat.add_assoc] at this
theorem rd_nil (e : En α) (X : Heap) : Rd e X none 0 0 [] := ⟨rfl, Nat.le_refl _, Nat.zero_le _, fun h => absurd h (by omega)⟩
theorem r_cut {T : TypeId} {x : Operand} {lo hi : Option Operand} {y : Nat} {g : Bool} {sz : Nat} {z : List Value} (S : Sl n D L a) (hx : evl L x = some (.slice A m c)) (ht : slE P T = some E) (hE : tyI P E = some (g, sz, y, z))
    (p q : Int) (hlo : (match lo with | some u => evl L u | none => some (.int .i64 0)) = some (.int .i64 p)) (hhi : (match hi with | some u => evl L u | none => some (.int .i64 m)) = some (.int .i64 q))
    (h0 : 0 ≤ p) (h1 : p ≤ q) (h2 : q ≤ c) (hmc : m ≤ c) (hd : Nat.blt d n = true)
    (kk : ∀ a', Sl n D ((d, .slice (cutA A c sz p.toNat) (q.toNat - p.toNat) (c - p.toNat)) :: L) a' → WL r P ops Q rest a' w) :
    WL r P ops Q (⟨some d, .slice T x lo hi none, ty, ps, af, none⟩ :: rest) a w :=
  op_ok S rfl (by intro c h; cases h) rfl (blt_lt hd) (y_cut S hx ht hE p q hlo hhi h0 h1 h2 hmc _ _ w) kk
/-- a cut, its elements told -/
theorem r_cutR {T : TypeId} {x : Operand} {lo hi : Option Operand} {y : Nat} {g : Bool} {z : List Value} (S : Sl n D L a) (hx : evl L x = some (.slice A m c)) (ht : slE P T = some E) (hE : tyI P E = some (g, e.sz, y, z))
    (R : Rd e (hpOf w) A m c l) (p q : Int) (hlo : (match lo with | some u => evl L u | none => some (.int .i64 0)) = some (.int .i64 p)) (hhi : (match hi with | some u => evl L u | none => some (.int .i64 m)) = some (.int .i64 q))
    (h0 : 0 ≤ p) (h1 : p ≤ q) (h2 : q ≤ m) (hd : Nat.blt d n = true) (l' : List α) (hl : (l.take q.toNat).drop p.toNat = l')
    (kk : ∀ A' c' a', (∀ X, Rd e X A m c l → Rd e X A' l'.length c' l') → Sl n D ((d, .slice A' l'.length c') :: L) a' → WL r P ops Q rest a' w) :
    WL r P ops Q (⟨some d, .slice T x lo hi none, ty, ps, af, none⟩ :: rest) a w := by
  subst hl
  have hmc := R.2.1
  have hlen : ((l.take q.toNat).drop p.toNat).length = q.toNat - p.toNat := by rw [List.length_drop, List.length_take, R.1]; omega
  refine r_cut S hx ht hE p q hlo hhi h0 h1 (by omega) hmc hd fun a' S' => kk (cutA A c e.sz p.toNat) (c - p.toNat) a' (fun X RX => ?_) (by rw [hlen]; exact S')
  have := RX.cut p.toNat q.toNat (by omega) (by omega)
  rwa [← hlen] at this
/-- a row of one's own, cut at its end -/
theorem r_cutOwn (pre : List Hp) {T : TypeId} {x : Operand} {hi : Operand} {y : Nat} {g : Bool} {z : List Value} (S : Sl n D L a) (H : HS w0 (pre ++ own e E A m c l :: post) w) (hx : evl L x = some (.slice A m c)) (ht : slE P T = some E) (hE : tyI P E = some (g, e.sz, y, z))
    (q : Int) (hhi : evl L hi = some (.int .i64 q)) (h0 : 0 ≤ q) (h2 : q ≤ m) (hd : Nat.blt d n = true)
    (kk : ∀ a', Sl n D ((d, .slice A q.toNat c) :: L) a' → HS w0 (pre ++ own e E A q.toNat c (l.take q.toNat) :: post) w → WL r P ops Q rest a' w) :
    WL r P ops Q (⟨some d, .slice T x none (some hi) none, ty, ps, af, none⟩ :: rest) a w := by
  have hle := own_le pre H
  refine r_cut S hx ht hE 0 q rfl hhi (Int.le_refl _) h0 (by omega) hle.1 hd fun a' S' => kk a' ?_ (H.map fun s => SL.mono1 s fun h qq => ?_)
  · have : cutA A c e.sz 0 = A := by
      simp only [cutA]
      split
      · rfl
      · rename_i hc0
        have hA : ∃ g o, A = some ⟨g, o, none⟩ := SL.pure H.sl fun _ q => by
          rcases q.2 with ⟨_, _, h⟩ | ⟨g, cur, h, _⟩
          · exact absurd h hc0
          · exact ⟨g, 0, h⟩
        obtain ⟨g, o', rfl⟩ := hA
        · rw [Nat.zero_mul, Option.map_some, Addr.add_mid, Nat.add_zero]
    simpa [this] using S'
  · obtain ⟨h1, h3⟩ := qq
    refine ⟨by rw [List.length_take, h1]; omega, ?_⟩
    rcases h3 with ⟨hA, rfl, rfl⟩ | ⟨gg, cur, hA, p1, p2, p3, p4, p5⟩
    · exact .inl ⟨hA, by omega, rfl⟩
    · refine .inr ⟨gg, cur, hA, by omega, p2, p3, ?_, p5⟩
      rw [flat_take, ← p4, List.take_take, Nat.min_eq_left]
      exact Nat.mul_le_mul_right _ (by omega)
end Go.Proofs.Ytmdpjijafejgpaa.Sl

/- Regions whose order is drawn: a plan of steps; what only reads is taken ahead. -/
set_option linter.unusedVariables false
set_option linter.unusedSimpArgs false
namespace Go.Proofs.Ytmdpjijafejgpaa.Sl
open Go

variable {r : Option Nat} {P : Program} {n : Nat} {D : List Deferred} {L : List (Nat × Value)} {a : Act} {w w0 w' : World} {ops : Array Oper} {Q : Exit → Act → World → Prop} {md : Region.Mode}

def noDefer (ops : Array Oper) : Bool := ops.all fun o => match o.op with | .defer _ => false | _ => true
def NP (Q : Exit → Act → World → Prop) : Exit → Act → World → Prop
  | .panic _, _, _ => False
  | e, a, w => Q e a w
/-- the op yields v wherever S holds, or it isn't wanted -/
def Yg (P : Program) (ops : Array Oper) (S : World → Prop) (o : Oper) (v : Value) (a : Act) : Prop :=
  (Region.wanted o (yielded ops a.tmps) = true ∧ ∀ w, S w → (execOp a.eval o).run P w = .ok (.value v) w) ∨ (Region.wanted o (yielded ops a.tmps) = false ∧ v = undef)

theorem Yg.op {S : World → Prop} {i : Nat} {o : Oper} {v : Value} (hi : ops[i]? = some o) (hnd : ∀ c, o.op ≠ .defer c) (hy : Yg P ops S o v a) (hS : S w) {K : Act → World → Prop} (h : K (a.put o.dst v) w) :
    wpOpIn (Fr r) 0 P ops Q i K a w := by
  unfold wpOpIn
  simp only [hi]
  rcases hy with ⟨h1, h2⟩ | ⟨h1, rfl⟩
  · simp only [h1, if_true, Oper.wpIn]
    rw [Oper.semAt_eq _ _ _ hnd, h2 w hS]
    exact ⟨fun _ _ => trivial, h⟩
  · simp only [h1, Bool.false_eq_true, if_false]
    exact ⟨fun _ _ => trivial, h⟩
theorem Yg.same {S : World → Prop} {o : Oper} {v : Value} {a a' : Act} (hy : Yg P ops S o v a) (hw : Region.wanted o (yielded ops a'.tmps) = Region.wanted o (yielded ops a.tmps)) (he : execOp a'.eval o = execOp a.eval o) : Yg P ops S o v a' := by
  unfold Yg; rw [hw, he]; exact hy
theorem op_put {S : World → Prop} {j : Nat} {oi oj : Oper} {v : Value} (hj : ops[j]? = some oj) (hap : oi.apart ops oj = true)
    (hsi : ∀ cs b, oi.op ≠ .select cs b) (hsj : ∀ cs b, oj.op ≠ .select cs b) (hdj : ∀ c, oj.op ≠ .defer c)
    {K : Act → World → Prop} (hy : Yg P ops S oi v a) (h : wpOpIn (Fr r) 0 P ops (NP Q) j K (a.put oi.dst v) w) :
    wpOpIn (Fr r) 0 P ops (NP Q) j (fun a' w' => Yg P ops S oi v a' ∧ K (a'.put oi.dst v) w') a w := by
  obtain ⟨h1, h2, h3⟩ := Oper.apart_spec hap
  have keep : ∀ (a : Act), Yg P ops S oi v a → ∀ u, Yg P ops S oi v (a.put oj.dst u) := fun a hy u => hy.same (wanted_put oi a oj.dst u h3) (execOp_put oi hsi a oj.dst u h3)
  unfold wpOpIn at *
  simp only [hj] at *
  rw [wanted_put oj a oi.dst v h1] at h
  split
  · rename_i hw
    simp only [hw, if_true] at h
    unfold Oper.wpIn at *
    refine ⟨fun _ _ => trivial, ?_⟩
    have h := h.2
    rw [Oper.semAt_eq _ _ _ hdj, execOp_put oj hsj a oi.dst v h1] at h
    rw [Oper.semAt_eq _ _ _ hdj]
    generalize (execOp a.eval oj).run P w = q at *
    cases q with
    | ok x w' =>
      cases x <;> simp only [Oper.uponIn] at h ⊢
      case value u => exact ⟨keep a hy u, by rw [← Act.put_comm a v u h2]; exact h⟩
      case skip => exact ⟨keep a hy _, by rw [← Act.put_comm a v undef h2]; exact h⟩
      case defer d =>
        refine ⟨?_, ?_⟩
        · exact Yg.same (a := ({ a with defers := d :: a.defers } : Act)) (hy.same rfl rfl) (wanted_put oi _ oj.dst undef h3) (execOp_put oi hsi _ oj.dst undef h3)
        · rw [← Act.put_comm _ v undef h2, ← Act.put_defers]; exact h
      case enter f args =>
        refine ⟨h.1, CallsIn.mono h.2 fun e w'' he => ?_⟩
        cases e with
        | returned u => exact ⟨keep a hy u, by rw [← Act.put_comm a v u h2]; exact he⟩
        | panicked c => exact he
        | outgrown => exact he
      case row row args => exact ⟨h.1, RowsIn.mono h.2 fun u w'' he => ⟨keep a hy u, by rw [← Act.put_comm a v u h2]; exact he⟩⟩
      case round l f tmps assign body =>
        refine ⟨h.1, RoundIn.mono h.2 fun e w'' he => ?_⟩
        cases e with
        | returned u => exact ⟨keep a hy u, by rw [← Act.put_comm a v u h2]; exact he⟩
        | panicked c => exact he
        | outgrown => exact he
    | halt x w' =>
      cases x <;> simp only [Oper.uponIn] at h ⊢
      case panic u => exact h
  · rename_i hw
    simp only [hw] at h
    exact ⟨fun _ _ => trivial, keep a hy _, by rw [← Act.put_comm a v undef h2]; exact h.2⟩


/-- whatever order; T holds at each place up to an operation in 'cl' -/
def anyT (r : Option Nat) (P : Program) (md : Region.Mode) (ops : Array Oper) (Q : Exit → Act → World → Prop) (cl : Nat → Bool) : Nat → (World → Prop) → Array Bool → Act → World → Prop
  | 0, T, listed, a, w => T w ∧ Region.ready md ops listed = [] ∧ Q .normal a w
  | f + 1, T, listed, a, w => T w ∧ (Region.ready md ops listed = [] → Q .normal a w) ∧
    ∀ i ∈ Region.ready md ops listed, wpOpIn (Fr r) 0 P ops Q i (fun a' w' => anyT r P md ops Q cl f (fun w => cl i = true ∨ T w) (listed.setIfInBounds i true) a' w') a w
theorem anyT_any {cl : Nat → Bool} : ∀ (f : Nat) {T : World → Prop} (listed : Array Bool) (a : Act) (w : World), anyT r P md ops Q cl f T listed a w → wpAnyIn (Fr r) 0 P md ops Q f listed a w
  | 0, _, _, _, _, h => h.2
  | f + 1, _, _, _, _, h => ⟨h.2.1, fun i hi => wpOpIn_mono (fun a' w' q => anyT_any f _ a' w' q) (h.2.2 i hi)⟩
theorem anyT_mono {cl : Nat → Bool} : ∀ (f : Nat) {T T' : World → Prop} {listed : Array Bool} {a : Act} {w : World}, (∀ w, T w → T' w) → anyT r P md ops Q cl f T listed a w → anyT r P md ops Q cl f T' listed a w
  | 0, _, _, _, _, _, f, h => ⟨f _ h.1, h.2⟩
  | k + 1, _, _, _, _, _, f, h => ⟨f _ h.1, h.2.1, fun i hi => wpOpIn_mono (fun a' w' q => anyT_mono k (fun w => Or.imp id (f w)) q) (h.2.2 i hi)⟩

theorem takeT {Ti : World → Prop} {cl : Nat → Bool} {i : Nat} {oi : Oper} {v : Value} (hi : ops[i]? = some oi) (hs : Region.noSelect ops = true) (hd : noDefer ops = true) :
    ∀ (f : Nat) {T : World → Prop} (listed : Array Bool) (a : Act) (w : World),
      (∀ j oj, ops[j]? = some oj → j ≠ i → listed.getD j true = false → (∀ e ∈ oj.after, Region.binds md e = true → e.on ≠ i) → oi.apart ops oj = true) →
      ((∀ w, Ti w) ∨ ∀ j oj, ops[j]? = some oj → cl j = true → listed.getD j true = false → ∃ e ∈ oj.after, Region.binds md e = true ∧ e.on = i) →
      i ∈ Region.ready md ops listed → Yg P ops Ti oi v a → Ti w → T w →
      anyT r P md ops (NP Q) cl f (fun w => T w ∧ Ti w) (listed.setIfInBounds i true) (a.put oi.dst v) w → anyT r P md ops (NP Q) cl (f + 1) T listed a w := by
  have nd : ∀ (j : Nat) (o : Oper), ops[j]? = some o → ∀ c, o.op ≠ .defer c := fun j o hj c hc => by
    have := Array.all_eq_true_iff_forall_mem.1 hd o (Array.mem_of_getElem? hj)
    simp [hc] at this
  intro f
  induction f with
  | zero =>
    intro T listed a w _ _ hr hy hTi hT H
    refine ⟨hT, fun h => (by rw [h] at hr; cases hr), fun j hj => ?_⟩
    by_cases hji : j = i
    · subst hji; exact hy.op hi (nd _ _ hi) hTi ⟨.inr hT, H.2⟩
    · have := ready_mono hj hji
      rw [H.2.1] at this
      cases this
  | succ f ih =>
    intro T listed a w hfree hcl hr hy hTi hT H
    refine ⟨hT, fun h => (by rw [h] at hr; cases hr), fun j hj => ?_⟩
    by_cases hji : j = i
    · subst hji; exact hy.op hi (nd _ _ hi) hTi (anyT_mono _ (fun w q => .inr q.1) H)
    · have h1 := H.2.2 j (ready_mono hj hji)
      obtain ⟨hjun, oj, hoj, hall⟩ := mem_ready.1 hj
      have hnot : ∀ e ∈ oj.after, Region.binds md e = true → e.on ≠ i := fun e he hb heq => by
        have h1 := hall e he hb
        have h0 := (mem_ready.1 hr).1
        rw [heq] at h1
        rcases Nat.lt_or_ge i listed.size with h' | h'
        · simp [h'] at h0 h1; rw [h0] at h1; cases h1
        · simp [Array.getElem?_eq_none h'] at h1
      have h2 := op_put hoj (hfree j oj hoj hji hjun hnot) (fun cs b => Region.noSelect_spec hs i oi cs b hi) (fun cs b => Region.noSelect_spec hs j oj cs b hoj) (nd _ _ hoj) hy h1
      have un : ∀ k, k ≠ i → (listed.setIfInBounds j true).getD k true = false → listed.getD k true = false := fun k hki hun => by
        by_cases hjk : j = k
        · subst hjk; exact hjun
        · rw [getD_set_ne true hjk] at hun; exact hun
      have hfree' : ∀ k ok, ops[k]? = some ok → k ≠ i → (listed.setIfInBounds j true).getD k true = false →
          (∀ e ∈ ok.after, Region.binds md e = true → e.on ≠ i) → oi.apart ops ok = true := fun k ok hk hki hun hno => hfree k ok hk hki (un k hki hun) hno
      have iun : listed.getD i true = false := (mem_ready.1 hr).1
      have hcl' : (∀ w, Ti w) ∨ ∀ k ok, ops[k]? = some ok → cl k = true → (listed.setIfInBounds j true).getD k true = false → ∃ e ∈ ok.after, Region.binds md e = true ∧ e.on = i := by
        rcases hcl with h | h
        · exact .inl h
        · refine .inr fun k ok hk hc hun => h k ok hk hc ?_
          by_cases hki : k = i
          · subst hki; exact iun
          · exact un k hki hun
      have imp : ∀ w, (cl j = true ∨ (T w ∧ Ti w)) → ((cl j = true ∨ T w) ∧ Ti w) := fun w q => by
        rcases hcl with h | h
        · exact ⟨q.imp id (·.1), h w⟩
        · rcases q with q | q
          · obtain ⟨e, he, hb, hon⟩ := h j oj hoj q hjun; exact absurd hon (hnot e he hb)
          · exact ⟨.inr q.1, q.2⟩
      refine wpOpIn_mono (fun a' w' h3 => ?_) h2
      obtain ⟨h3, h4⟩ := h3
      have h5 := anyT_mono _ imp h4
      have h6 : (cl j = true ∨ T w') ∧ Ti w' := by cases f <;> exact h5.1
      refine ih (listed.setIfInBounds j true) a' w' hfree' hcl' (ready_mono hr (Ne.symm hji)) h3 h6.2 h6.1 ?_
      rw [Array.setIfInBounds_comm _ _ hji]
      exact h5

/-! ### plans -/
inductive Pl
  | done
  | pu (i : Nat) (r : Pl)
  | rd (i : Nat) (r : Pl)
  | ef (i : Nat) (r : Pl)
  | ds (i : Nat) (r : Pl)
  | fk (i : Nat) (a : Pl) (j : Nat) (b : Pl)
def Pl.len : Pl → Nat
  | .done => 0
  | .pu _ r => r.len + 1
  | .rd _ r => r.len + 1
  | .ef _ r => r.len + 1
  | .ds _ r => r.len + 1
  | .fk _ a _ _ => a.len + 1
def lkO : List Oper → Nat → Oper
  | [], _ => default
  | o :: _, 0 => o
  | _ :: l, k + 1 => lkO l k
theorem lkO_get : ∀ (l : List Oper) (i : Nat) (o : Oper), l[i]? = some o → lkO l i = o
  | [], _, _, h => by simp at h
  | x :: l, 0, o, h => by simpa [lkO] using h
  | x :: l, i + 1, o, h => lkO_get l i o (by simpa using h)
def waitsAll (md : Region.Mode) (ops : Array Oper) (cl : Nat → Bool) (listed : Array Bool) (i : Nat) : Bool := (List.range ops.size).all fun j => !cl j || listed.getD j true || match ops[j]? with
  | some oj => oj.after.any fun e => Region.binds md e && e.on == i
  | none => true
def okS (md : Region.Mode) (ops : Array Oper) (cl : Nat → Bool) : Pl → Array Bool → Bool
  | .done, listed => (Region.ready md ops listed).isEmpty
  | .pu i l, listed => (Region.ready md ops listed).contains i && Region.free md ops listed i && okS md ops cl l (listed.setIfInBounds i true)
  | .rd i l, listed => (Region.ready md ops listed).contains i && Region.free md ops listed i && waitsAll md ops cl listed i && okS md ops cl l (listed.setIfInBounds i true)
  | .ef i l, listed => (match Region.ready md ops listed with | [j] => j == i | _ => false) && !cl i && okS md ops cl l (listed.setIfInBounds i true)
  | .ds i l, listed => (match Region.ready md ops listed with | [j] => j == i | _ => false) && cl i && okS md ops cl l (listed.setIfInBounds i true)
  | .fk i a j b, listed => (match Region.ready md ops listed with | [x, y] => x == i && y == j | _ => false) && !cl i && !cl j && Nat.beq a.len b.len && okS md ops cl a (listed.setIfInBounds i true) && okS md ops cl b (listed.setIfInBounds j true)
def cls : Pl → Nat → Bool
  | .done, _ => false
  | .ds j l, i => Nat.beq j i || cls l i
  | .pu _ l, i => cls l i
  | .rd _ l, i => cls l i
  | .ef _ l, i => cls l i
  | .fk _ a _ b, i => cls a i || cls b i
def stepsW (r : Option Nat) (P : Program) (ol : List Oper) (Q : Exit → Act → World → Prop) : (World → Prop) → Pl → Act → World → Prop
  | T, .done, a, w => Q .normal a w
  | T, .pu i l, a, w => ∃ v, Yg P ol.toArray (fun _ => True) (lkO ol i) v a ∧ stepsW r P ol Q T l (a.put (lkO ol i).dst v) w
  | T, .rd i l, a, w => ∃ v, ∃ Ti : World → Prop, Ti w ∧ Yg P ol.toArray Ti (lkO ol i) v a ∧ stepsW r P ol Q (fun w => T w ∧ Ti w) l (a.put (lkO ol i).dst v) w
  | T, .ef i l, a, w => WL r P ol.toArray (Exit.then (fun a' w' => T w' ∧ stepsW r P ol Q T l a' w') (NP Q)) [lkO ol i] a w
  | T, .ds i l, a, w => WL r P ol.toArray (Exit.then (fun a' w' => stepsW r P ol Q (fun _ => True) l a' w') (NP Q)) [lkO ol i] a w
  | T, .fk i l j l', a, w => WL r P ol.toArray (Exit.then (fun a' w' => T w' ∧ stepsW r P ol Q T l a' w') (NP Q)) [lkO ol i] a w ∧ WL r P ol.toArray (Exit.then (fun a' w' => T w' ∧ stepsW r P ol Q T l' a' w') (NP Q)) [lkO ol j] a w
theorem wl_one {K : Act → World → Prop} {i : Nat} {o : Oper} (hi : ops[i]? = some o) (h : WL r P ops (Exit.then K (NP Q)) [o] a w) : wpOpIn (Fr r) 0 P ops (NP Q) i K a w := by
  unfold WL wpListIn at h
  unfold wpOpIn
  simp only [hi]
  split
  · rename_i hw
    rw [if_pos hw] at h
    unfold Oper.wpIn at h ⊢
    refine ⟨h.1, ?_⟩
    have h := h.2
    generalize (o.semAt (Fr r).round a.eval).run P w = q at *
    cases q with
    | ok x w' =>
      cases x <;> simp only [Oper.uponIn] at h ⊢
      case value u => exact h
      case skip => exact h
      case defer d => exact h
      case enter f args =>
        refine ⟨h.1, CallsIn.mono h.2 fun e w'' he => ?_⟩
        cases e with
        | returned u => exact he
        | panicked c => exact he
        | outgrown => exact he
      case row row args => exact ⟨h.1, RowsIn.mono h.2 fun u w'' he => he⟩
      case round l f tmps assign body =>
        refine ⟨h.1, RoundIn.mono h.2 fun e w'' he => ?_⟩
        cases e with
        | returned u => exact he
        | panicked c => exact he
        | outgrown => exact he
    | halt x w' =>
      cases x <;> simp only [Oper.uponIn] at h ⊢
      case panic u => exact h
  · rename_i hw
    rw [if_neg hw] at h
    exact h
theorem one_ready {listed : Array Bool} {i j : Nat} (h : (match Region.ready md ops listed with | [j] => j == i | _ => false) = true) (hj : j ∈ Region.ready md ops listed) : j = i ∧ ∃ o, ops[i]? = some o := by
  cases hr : Region.ready md ops listed with
  | nil => rw [hr] at h; simp at h
  | cons k q =>
    rw [hr] at h
    cases q with
    | cons => simp at h
    | nil =>
      have : k = i := by simpa using h
      subst this
      rw [hr] at hj
      have : j = k := by simpa using hj
      subst this
      have hm : j ∈ Region.ready md ops listed := by rw [hr]; simp
      obtain ⟨_, o, ho, _⟩ := mem_ready.1 hm
      exact ⟨rfl, o, ho⟩
theorem steps_ok {ol : List Oper} {cl : Nat → Bool} (hs : Region.noSelect ol.toArray = true) (hd : noDefer ol.toArray = true) : ∀ (l : Pl) (T : World → Prop) (listed : Array Bool) (a : Act) (w : World), okS md ol.toArray cl l listed = true → T w →
    stepsW r P ol Q T l a w → anyT r P md ol.toArray (NP Q) cl l.len T listed a w
  | .done, T, listed, a, w, hB, hT, h => ⟨hT, by simpa [okS] using hB, h⟩
  | .pu i l, T, listed, a, w, hB, hT, h => by
    obtain ⟨v, hy, h⟩ := h
    simp only [okS, Bool.and_eq_true] at hB
    obtain ⟨⟨h1, h2⟩, h3⟩ := hB
    have hr : i ∈ Region.ready md ol.toArray listed := by simpa using h1
    obtain ⟨_, o, ho, _⟩ := mem_ready.1 hr
    have he : lkO ol i = o := lkO_get ol i o (by simpa using ho)
    rw [he] at hy h
    exact takeT (Ti := fun _ => True) ho hs hd l.len listed a w (Region.free_spec ho h2) (.inl fun _ => trivial) hr hy trivial hT (anyT_mono _ (fun w q => ⟨q, trivial⟩) (steps_ok hs hd l T _ _ _ h3 hT h))
  | .rd i l, T, listed, a, w, hB, hT, h => by
    obtain ⟨v, Ti, hTi, hy, h⟩ := h
    simp only [okS, Bool.and_eq_true] at hB
    obtain ⟨⟨⟨h1, h2⟩, h4⟩, h3⟩ := hB
    have hr : i ∈ Region.ready md ol.toArray listed := by simpa using h1
    obtain ⟨_, o, ho, _⟩ := mem_ready.1 hr
    have he : lkO ol i = o := lkO_get ol i o (by simpa using ho)
    rw [he] at hy h
    refine takeT (Ti := Ti) ho hs hd l.len listed a w (Region.free_spec ho h2) (.inr fun j oj hj hc hun => ?_) hr hy hTi hT (steps_ok hs hd l _ _ _ _ h3 ⟨hT, hTi⟩ h)
    simp only [waitsAll, List.all_eq_true, List.mem_range] at h4
    have := h4 j (Array.getElem?_eq_some_iff.1 hj).1
    simp only [hj, hc, hun, Bool.not_true, Bool.false_or, Array.any_eq_true, Bool.and_eq_true, beq_iff_eq] at this
    obtain ⟨k, hk, hb, hon⟩ := this
    exact ⟨oj.after[k], Array.getElem_mem hk, hb, hon⟩
  | .ef i l, T, listed, a, w, hB, hT, h => by
    simp only [okS, Bool.and_eq_true] at hB
    obtain ⟨⟨h1, h2⟩, h3⟩ := hB
    refine ⟨hT, fun q => (by rw [q] at h1; simp at h1), fun j hj => ?_⟩
    obtain ⟨rfl, o, ho⟩ := one_ready h1 hj
    have he : lkO ol j = o := lkO_get ol j o (by simpa using ho)
    unfold stepsW at h
    rw [he] at h
    refine wpOpIn_mono (fun a' w' q => anyT_mono _ (fun w q => .inr q) (steps_ok hs hd l T _ _ _ h3 q.1 q.2)) (wl_one ho h)
  | .ds i l, T, listed, a, w, hB, hT, h => by
    simp only [okS, Bool.and_eq_true] at hB
    obtain ⟨⟨h1, h2⟩, h3⟩ := hB
    refine ⟨hT, fun q => (by rw [q] at h1; simp at h1), fun j hj => ?_⟩
    obtain ⟨rfl, o, ho⟩ := one_ready h1 hj
    have he : lkO ol j = o := lkO_get ol j o (by simpa using ho)
    unfold stepsW at h
    rw [he] at h
    refine wpOpIn_mono (fun a' w' q => anyT_mono _ (fun w q => .inl h2) (steps_ok hs hd l (fun _ => True) _ _ _ h3 trivial q)) (wl_one ho h)
  | .fk i p j q, T, listed, a, w, hB, hT, h => by
    simp only [okS, Bool.and_eq_true] at hB
    obtain ⟨⟨⟨⟨⟨h1, h2⟩, h3⟩, h4⟩, h5⟩, h6⟩ := hB
    obtain ⟨ha, hb⟩ := h
    have hlen := Nat.eq_of_beq_eq_true h4
    obtain ⟨x, y, hxy, hx, hy⟩ : ∃ x y, Region.ready md ol.toArray listed = [x, y] ∧ x = i ∧ y = j := by
      cases hr : Region.ready md ol.toArray listed with
      | nil => rw [hr] at h1; simp at h1
      | cons x l1 =>
        cases l1 with
        | nil => rw [hr] at h1; simp at h1
        | cons y l2 =>
          cases l2 with
          | cons => rw [hr] at h1; simp at h1
          | nil => rw [hr] at h1; simp at h1; exact ⟨x, y, rfl, h1.1, h1.2⟩
    subst hx; subst hy
    have hop : ∀ z, z ∈ Region.ready md ol.toArray listed → ∃ o, ol.toArray[z]? = some o := fun z hz => by
      obtain ⟨_, o, ho, _⟩ := mem_ready.1 hz
      exact ⟨o, ho⟩
    refine ⟨hT, fun e => (by rw [hxy] at e; cases e), fun z hz => ?_⟩
    have hz' := hz
    rw [hxy] at hz'
    rcases List.mem_cons.1 hz' with rfl | hz'
    · obtain ⟨o, ho⟩ := hop z hz
      have he : lkO ol z = o := lkO_get ol z o (by simpa using ho)
      rw [he] at ha
      exact wpOpIn_mono (fun a' w' e => anyT_mono _ (fun w e => .inr e) (steps_ok hs hd p T _ _ _ h5 e.1 e.2)) (wl_one ho ha)
    · have : z = y := by simpa using hz'
      subst this
      obtain ⟨o, ho⟩ := hop z hz
      have he : lkO ol z = o := lkO_get ol z o (by simpa using ho)
      rw [he] at hb
      have hfin := wpOpIn_mono (fun a' w' e => anyT_mono (T' := fun w => cl z = true ∨ T w) _ (fun w e => .inr e) (steps_ok (cl := cl) hs hd q T _ _ _ h6 e.1 e.2)) (wl_one ho hb)
      show wpOpIn (Fr r) 0 P ol.toArray (NP Q) z (fun a' w' => anyT r P md ol.toArray (NP Q) cl p.len (fun w => cl z = true ∨ T w) (listed.setIfInBounds z true) a' w') a w
      rw [hlen]
      exact hfin
theorem NP.imp : ∀ (e : Exit) (a : Act) (w : World), NP Q e a w → Q e a w := fun e a w h => by
  cases e <;> first | exact h | exact h.elim
theorem w_draw {id : Nat} {ol : List Oper} (hm : P.follows .mixedOrders = true) (l : Pl) (h0 : (Region.noSelect ol.toArray && noDefer ol.toArray && okS .any ol.toArray (cls l) l (Array.replicate ol.toArray.size false)) = true)
    (hn : Nat.beq l.len ol.length = true) (h : stepsW r P ol Q (fun _ => True) l a { w with drawn := w.drawn + 1 }) : W r P (.region id ol.toArray true) Q a w := by
  simp only [Bool.and_eq_true] at h0
  obtain ⟨⟨h1, h2⟩, h3⟩ := h0
  have hn' := Nat.eq_of_beq_eq_true hn
  refine wpIn_mono (Q := NP Q) (wpIn_region_any hm (anyT_any (T := fun _ => True) (cl := cls l) _ _ _ _ ?_)) NP.imp
  have := steps_ok (md := .any) (cl := cls l) h1 h2 l (fun _ => True) _ a _ h3 trivial h
  rw [hn'] at this
  simpa using this
variable {ol : List Oper} {T : World → Prop} {l : Pl} {v : Value} {i d : Nat} {o : Oper}
theorem g_none (ht : o.guard = none) : Region.wanted o (yielded ops a.tmps) = true := by unfold Region.wanted; rw [ht]
theorem g_val {dst : Option Nat} {op : Op} {ty : TypeId} {ps : String} {af : Array Edge} {j : Nat} {b b' : Bool} {t : Nat} (S : Sl n D L a) (hj : (lkO ol j).dst = some t) (hjl : Nat.blt j ol.length = true) (ht : lk t L = some (.bool b')) (htn : Nat.blt t n = true) :
    Region.wanted ⟨dst, op, ty, ps, af, some (j, b)⟩ (yielded ol.toArray a.tmps) = (b' == b) := by
  have hlt := blt_lt hjl
  have hj' : (ol.toArray[j]?).bind (·.dst) = some t := by
    have h1 : ol[j]? = some ol[j] := List.getElem?_eq_getElem hlt
    rw [List.getElem?_toArray, h1, Option.bind_some, ← lkO_get ol j _ h1, hj]
  have e : yielded ol.toArray a.tmps j = some b' := by
    have h1 := S.sl t _ ht
    have h2 : t < a.tmps.size := by rw [S.sz]; exact blt_lt htn
    simp only [yielded, hj', Option.bind_some]
    rw [Array.getElem?_eq_getElem h2]
    simp only [Array.getD, h2, dite_true] at h1
    have h3 : a.tmps[t] = .bool b' := h1
    rw [h3]
  simp only [Region.wanted, e]; cases b <;> cases b' <;> rfl
theorem g_on {dst : Option Nat} {op : Op} {ty : TypeId} {ps : String} {af : Array Edge} {j : Nat} {b b' : Bool} {t : Nat} (S : Sl n D L a) (hj : (lkO ol j).dst = some t) (hjl : Nat.blt j ol.length = true) (ht : lk t L = some (.bool b')) (htn : Nat.blt t n = true) (hb : b' = b) :
    Region.wanted ⟨dst, op, ty, ps, af, some (j, b)⟩ (yielded ol.toArray a.tmps) = true := by rw [g_val S hj hjl ht htn, hb]; simp
theorem g_off {dst : Option Nat} {op : Op} {ty : TypeId} {ps : String} {af : Array Edge} {j : Nat} {b b' : Bool} {t : Nat} (S : Sl n D L a) (hj : (lkO ol j).dst = some t) (hjl : Nat.blt j ol.length = true) (ht : lk t L = some (.bool b')) (htn : Nat.blt t n = true) (hb : b' = !b) :
    Region.wanted ⟨dst, op, ty, ps, af, some (j, b)⟩ (yielded ol.toArray a.tmps) = false := by rw [g_val S hj hjl ht htn, hb]; cases b <;> rfl
theorem g_offU {dst : Option Nat} {op : Op} {ty : TypeId} {ps : String} {af : Array Edge} {j : Nat} {b : Bool} {t : Nat} (S : Sl n D L a) (hj : (lkO ol j).dst = some t) (hjl : Nat.blt j ol.length = true) (ht : lk t L = some undef) (htn : Nat.blt t n = true) :
    Region.wanted ⟨dst, op, ty, ps, af, some (j, b)⟩ (yielded ol.toArray a.tmps) = false := by
  have hlt := blt_lt hjl
  have hj' : (ol.toArray[j]?).bind (·.dst) = some t := by
    have h1 : ol[j]? = some ol[j] := List.getElem?_eq_getElem hlt
    rw [List.getElem?_toArray, h1, Option.bind_some, ← lkO_get ol j _ h1, hj]
  have e : yielded ol.toArray a.tmps j = none := by
    have h1 := S.sl t _ ht
    have h2 : t < a.tmps.size := by rw [S.sz]; exact blt_lt htn
    simp only [yielded, hj', Option.bind_some]
    rw [Array.getElem?_eq_getElem h2]
    simp only [Array.getD, h2, dite_true] at h1
    have h3 : a.tmps[t] = undef := h1
    rw [h3]; rfl
  simp only [Region.wanted, e]; rfl
theorem r_offU {ops : Array Oper} {Q : Exit → Act → World → Prop} {rest : List Oper} {dst : Option Nat} {op : Op} {ty : TypeId} {ps : String} {af : Array Edge} {j : Nat} {b : Bool} {t : Nat} (S : Sl n D L a)
    (hj : (ops[j]?).bind (·.dst) = some t) (ht : lk t L = some undef) (htn : Nat.blt t n = true) (k : ∀ a', Sl n D (match dst with | some d => (d, undef) :: L | none => L) a' → WL r P ops Q rest a' w)
    (hd : (match dst with | some d => Nat.blt d n | none => true) = true) :
    WL r P ops Q (⟨dst, op, ty, ps, af, some (j, b)⟩ :: rest) a w := by
  have e : yielded ops a.tmps j = none := by
    have h1 := S.sl t _ ht
    have h2 : t < a.tmps.size := by rw [S.sz]; exact blt_lt htn
    simp only [yielded, hj, Option.bind_some]
    rw [Array.getElem?_eq_getElem h2]
    simp only [Array.getD, h2, dite_true] at h1
    have h3 : a.tmps[t] = undef := h1
    rw [h3]; rfl
  have hw : Region.wanted ⟨dst, op, ty, ps, af, some (j, b)⟩ (yielded ops a.tmps) = false := by
    simp only [Region.wanted, e]; rfl
  unfold WL wpListIn
  rw [if_neg (by rw [hw]; simp)]
  refine ⟨fun _ _ => trivial, ?_⟩
  cases dst with
  | none => exact k _ S
  | some d => exact k _ (S.put (blt_lt hd) undef)
theorem st_nil (h : Q .normal a w) : stepsW r P ol Q T .done a w := h
theorem st_pu (A : Sl n D L a) (hi : lkO ol i = o) (hw : Region.wanted o (yielded ol.toArray a.tmps) = true) (hdst : o.dst = some d) (hd : Nat.blt d n = true)
    (hy : ∀ w, (execOp a.eval o).run P w = .ok (.value v) w) (k : ∀ a', Sl n D ((d, v) :: L) a' → stepsW r P ol Q T l a' w) : stepsW r P ol Q T (.pu i l) a w := by
  subst hi
  exact ⟨v, .inl ⟨hw, fun w _ => hy w⟩, by rw [hdst]; exact k _ (A.put (blt_lt hd) v)⟩
theorem st_puOff (A : Sl n D L a) (hi : lkO ol i = o) (hw : Region.wanted o (yielded ol.toArray a.tmps) = false) (hdst : o.dst = some d) (hd : Nat.blt d n = true)
    (k : ∀ a', Sl n D ((d, undef) :: L) a' → stepsW r P ol Q T l a' w) : stepsW r P ol Q T (.pu i l) a w := by
  subst hi
  exact ⟨undef, .inr ⟨hw, rfl⟩, by rw [hdst]; exact k _ (A.put (blt_lt hd) undef)⟩
theorem st_rd (A : Sl n D L a) (hi : lkO ol i = o) (hw : Region.wanted o (yielded ol.toArray a.tmps) = true) (hdst : o.dst = some d) (hd : Nat.blt d n = true)
    (hy : (execOp a.eval o).run P w = .ok (.value v) w) (k : ∀ a', Sl n D ((d, v) :: L) a' → stepsW r P ol Q (fun w => T w ∧ (execOp a.eval o).run P w = .ok (.value v) w) l a' w) : stepsW r P ol Q T (.rd i l) a w := by
  subst hi
  exact ⟨v, _, hy, .inl ⟨hw, fun w q => q⟩, by rw [hdst]; exact k _ (A.put (blt_lt hd) v)⟩
theorem st_rdOff (A : Sl n D L a) (hi : lkO ol i = o) (hw : Region.wanted o (yielded ol.toArray a.tmps) = false) (hdst : o.dst = some d) (hd : Nat.blt d n = true)
    (k : ∀ a', Sl n D ((d, undef) :: L) a' → stepsW r P ol Q (fun w => T w ∧ True) l a' w) : stepsW r P ol Q T (.rd i l) a w := by
  subst hi
  exact ⟨undef, fun _ => True, trivial, .inr ⟨hw, rfl⟩, by rw [hdst]; exact k _ (A.put (blt_lt hd) undef)⟩
theorem st_ef (hi : lkO ol i = o) (h : WL r P ol.toArray (Exit.then (fun a' w' => T w' ∧ stepsW r P ol Q T l a' w') (NP Q)) [o] a w) : stepsW r P ol Q T (.ef i l) a w := by subst hi; exact h
theorem st_fk {i j : Nat} {o o' : Oper} {l l' : Pl} (hi : lkO ol i = o) (hj : lkO ol j = o') (h : WL r P ol.toArray (Exit.then (fun a' w' => T w' ∧ stepsW r P ol Q T l a' w') (NP Q)) [o] a w) (h' : WL r P ol.toArray (Exit.then (fun a' w' => T w' ∧ stepsW r P ol Q T l' a' w') (NP Q)) [o'] a w) : stepsW r P ol Q T (.fk i l j l') a w := by subst hi; subst hj; exact ⟨h, h'⟩
theorem st_ds (hi : lkO ol i = o) (h : WL r P ol.toArray (Exit.then (fun a' w' => stepsW r P ol Q (fun _ => True) l a' w') (NP Q)) [o] a w) : stepsW r P ol Q T (.ds i l) a w := by subst hi; exact h
/-- plain ones, many at once -/
def pevsI (n : Nat) (ol : List Oper) : List (Nat × Value) → List Nat → Option (List (Nat × Value))
  | L, [] => some L
  | L, i :: r => match lkO ol i with
    | ⟨some d, op, _, _, _, none⟩ => match pev L op with
      | some v => cond (Nat.blt d n) (pevsI n ol ((d, v) :: L) r) none
      | none => none
    | _ => none
def pus : List Nat → Pl → Pl
  | [], l => l
  | i :: is, l => .pu i (pus is l)
theorem st_pures : ∀ (is : List Nat) {L L' : List (Nat × Value)} {a : Act}, Sl n D L a → pevsI n ol L is = some L' →
    (∀ a', Sl n D L' a' → stepsW r P ol Q T l a' w) → stepsW r P ol Q T (pus is l) a w
  | [], L, L', a, S, h, k => by simp only [pevsI, Option.some.injEq] at h; subst h; exact k _ S
  | i :: is, L, L', a, S, h, k => by
    simp only [pevsI] at h
    split at h
    · rename_i d op ty ps af hi
      split at h
      · rename_i v hv
        cases hb : Nat.blt d n with
        | false => rw [hb] at h; cases h
        | true =>
          rw [hb] at h
          exact st_pu S hi (g_none rfl) rfl hb (fun w => (pev_ok S hv (some d) ty ps af).1) fun a' S' => st_pures is S' h k
      · cases h
    · cases h
end Go.Proofs.Ytmdpjijafejgpaa.Sl

/- What surrounds a piece of code; operations told as what they run to; an append in the lists' own lengths. -/
set_option linter.unusedVariables false
set_option linter.unusedSimpArgs false
namespace Go.Proofs.Ytmdpjijafejgpaa.Sl
open Go

variable {r : Option Nat} {P : Program} {n : Nat} {D : List Deferred} {L : List (Nat × Value)} {a : Act} {w w0 w' : World} {ops : Array Oper} {Q : Exit → Act → World → Prop} {rest : List Oper}
  {o : Oper} {d : Nat} {v : Value} {cs : List Hp} {pre post : List Hp} {k : Nat} {ty : TypeId} {ps : String} {af : Array Edge} {α : Type} {e : En α} {E : TypeId} {A B : Option Addr} {m c c2 : Nat} {l l2 : List α}
  {dst : Option Nat} {gu : Option (Nat × Bool)} {I K : Act → World → Prop} {id : Nat}

/-! ### ends of code -/
theorem nr_then (h : I a w) : Exit.then I Q .normal a w := h
theorem nr_in (h : Q .normal a w) : Exit.inBlock id Q .normal a w := h
theorem ex_then {i : Nat} (h : Q (.exit i) a w) : Exit.then I Q (.exit i) a w := h
theorem ex_in (h : Q .normal a w) : Exit.inBlock id Q (.exit id) a w := by simp only [Exit.inBlock, if_true]; exact h
theorem ex_out {i : Nat} (hne : Nat.beq i id = false) (h : Q (.exit i) a w) : Exit.inBlock id Q (.exit i) a w := by have := Nat.ne_of_beq_eq_false hne; simp only [Exit.inBlock, this, if_false]; exact h
theorem ret_then (h : Q .ret a w) : Exit.then I Q .ret a w := h
theorem ret_in (h : Q .ret a w) : Exit.inBlock id Q .ret a w := h
theorem w_cutT {x : Code} (I : Act → World → Prop) (h1 : W r P x (Exit.then I Q) a w) (h2 : ∀ a w, I a w → Q .normal a w) : W r P x Q a w :=
  wpIn_mono h1 fun e a w q => by cases e <;> first | exact h2 _ _ q | exact q

/-! ### bits -/
def bt_and (k : IntKind) (x y : Int) : Int := k.wrap (BitVec.ofInt k.bits x &&& BitVec.ofInt k.bits y).toNat
def bt_or (k : IntKind) (x y : Int) : Int := k.wrap (BitVec.ofInt k.bits x ||| BitVec.ofInt k.bits y).toNat
def bt_xor (k : IntKind) (x y : Int) : Int := k.wrap (BitVec.ofInt k.bits x ^^^ BitVec.ofInt k.bits y).toNat
def bt_andNot (k : IntKind) (x y : Int) : Int := k.wrap (BitVec.ofInt k.bits x &&& ~~~ BitVec.ofInt k.bits y).toNat
def sh_shl (k : IntKind) (p q : Int) : Int := k.wrap (p * 2 ^ min q.toNat k.bits)
def sh_shr (k : IntKind) (p q : Int) : Int := p.fdiv (2 ^ min q.toNat k.bits)

/-! ### append -/
theorem r_app (pre : List Hp) {T : TypeId} {x u : Operand} {y : Nat} {g : Bool} {z : List Value} (S : Sl n D L a) (H : HS w0 (pre ++ own e E A m c l :: post) w) (R : Rd e (hpOf w) B k c2 l2)
    (hx : evl L x = some (.slice A m c)) (hu : evl L u = some (.slice B k c2)) (ht : slE P T = some E) (hE : tyI P E = some (g, e.sz, y, z)) (hz : z.length = e.sz) (hlim : l.length + l2.length < 140737488355328 / y) (hy : Nat.blt 0 y = true) (hd : Nat.blt d n = true)
    (kk : ∀ A' c' a' w', Sl n D ((d, .slice A' (l ++ l2).length c') :: L) a' → HS w0 (pre ++ own e E A' (l ++ l2).length c' (l ++ l2) :: post) w' → WL r P ops Q rest a' w') :
    WL r P ops Q (⟨some d, .call { callee := .builtin .append, args := #[x, u], argTypes := #[T, T] }, ty, ps, af, none⟩ :: rest) a w := by
  refine r_append pre S H R hx hu ht hE hz hlim hy hd ?_
  have e1 : (l ++ l2).length = m + k := by rw [List.length_append, own_len pre H, R.1]
  rw [e1] at kk
  exact kk
/-! ### runs -/
theorem y_of {op : Op} (S : Sl n D L a) (v : Value) (h : pev L op = some v) : (execOp a.eval ⟨dst, op, ty, ps, af, gu⟩).run P w = .ok (.value v) w := (pev_ok (P := P) (w := w) (op := op) S h dst ty ps af).1
theorem y_pick {cnd x y : Operand} {b b0 : Bool} (S : Sl n D L a) (hc : evl L cnd = some (.bool b)) (hb : b = b0) (v : Value)
    (h : evl L (cond b0 x y) = some v) : (execOp a.eval ⟨dst, .pick cnd x y, ty, ps, af, gu⟩).run P w = .ok (.value v) w := by
  subst hb
  cases b <;> simp [execOp, S.ev hc, asBool, Sem.run, Sem.run_bind, Result.andThen, S.ev h] at h ⊢ <;> exact S.ev h
theorem y_quo {x y : Operand} {T T' : TypeId} {k : IntKind} {p q : Int} (S : Sl n D L a) (hx : evl L x = some (.int k p)) (hy : evl L y = some (.int k q)) (hq : q ≠ 0) :
    (execOp a.eval ⟨dst, .binOp .quo T x y T', ty, ps, af, gu⟩).run P w = .ok (.value (.int k (k.wrap (p.tdiv q)))) w := by
  simp [execOp, S.ev hx, S.ev hy, Sem.run_bind, eqGuard_int, binOp, Op.intDiv, hq, Result.andThen, Sem.run]
theorem y_rem {x y : Operand} {T T' : TypeId} {k : IntKind} {p q : Int} (S : Sl n D L a) (hx : evl L x = some (.int k p)) (hy : evl L y = some (.int k q)) (hq : q ≠ 0) :
    (execOp a.eval ⟨dst, .binOp .rem T x y T', ty, ps, af, gu⟩).run P w = .ok (.value (.int k (p.tmod q))) w := by
  simp [execOp, S.ev hx, S.ev hy, Sem.run_bind, eqGuard_int, binOp, Op.intDiv, hq, Result.andThen, Sem.run]
theorem y_shl {x y : Operand} {T T' : TypeId} {k yk : IntKind} {p q : Int} (S : Sl n D L a) (hx : evl L x = some (.int k p)) (hy : evl L y = some (.int yk q)) (hq : ¬ q < 0) :
    (execOp a.eval ⟨dst, .binOp .shl T x y T', ty, ps, af, gu⟩).run P w = .ok (.value (.int k (sh_shl k p q))) w := by
  simp [execOp, S.ev hx, S.ev hy, Sem.run_bind, eqGuard_int, binOp, Op.shift, hq, Result.andThen, Sem.run, sh_shl]
theorem y_shr {x y : Operand} {T T' : TypeId} {k yk : IntKind} {p q : Int} (S : Sl n D L a) (hx : evl L x = some (.int k p)) (hy : evl L y = some (.int yk q)) (hq : ¬ q < 0) :
    (execOp a.eval ⟨dst, .binOp .shr T x y T', ty, ps, af, gu⟩).run P w = .ok (.value (.int k (sh_shr k p q))) w := by
  simp [execOp, S.ev hx, S.ev hy, Sem.run_bind, eqGuard_int, binOp, Op.shift, hq, Result.andThen, Sem.run, sh_shr]
theorem y_conv {T T' : TypeId} {x : Operand} {d0 : TypeDesc} {k k' : IntKind} {p : Int} (S : Sl n D L a) (hx : evl L x = some (.int k p))
    (h0 : P.underlying T = some d0) (h1 : P.underlying T' = some (.int k')) : (execOp a.eval ⟨dst, .convert T T' x, ty, ps, af, gu⟩).run P w = .ok (.value (.int k' (k'.wrap p))) w := by
  simp [execOp, S.ev hx, convert, Sem.run_bind, run_underlying h0, run_underlying h1, Conv.intToInt, Result.andThen, Sem.run]
theorem y_beq {x y : Operand} {T T' : TypeId} {p q : Bool} (S : Sl n D L a) (hx : evl L x = some (.bool p)) (hy : evl L y = some (.bool q)) (h0 : P.underlying T = some .bool) :
    (execOp a.eval ⟨dst, .binOp .eql T x y T', ty, ps, af, gu⟩).run P w = .ok (.value (.bool (decide (p = q)))) w := by
  simp [execOp, S.ev hx, S.ev hy, Sem.run_bind, eqGuard, binOp, Result.andThen, Sem.run, run_equal_bool _ _ _ _ h0]
  cases p <;> cases q <;> rfl
theorem y_bne {x y : Operand} {T T' : TypeId} {p q : Bool} (S : Sl n D L a) (hx : evl L x = some (.bool p)) (hy : evl L y = some (.bool q)) (h0 : P.underlying T = some .bool) :
    (execOp a.eval ⟨dst, .binOp .neq T x y T', ty, ps, af, gu⟩).run P w = .ok (.value (.bool (!decide (p = q)))) w := by
  simp [execOp, S.ev hx, S.ev hy, Sem.run_bind, eqGuard, binOp, Result.andThen, Sem.run, run_equal_bool _ _ _ _ h0]
  cases p <;> cases q <;> rfl
theorem y_loadA {T : TypeId} {x : Operand} {b o m y : Nat} {z vs : List Value} (S : Sl n D L a) (hx : evl L x = some (.pointer (some ⟨b, o, none⟩))) (ht : tyI P T = some (true, m, y, z))
    (hc : w.rangeAt b o vs) (hl : vs.length = m) : (execOp a.eval ⟨dst, .load T x, ty, ps, af, gu⟩).run P w = .ok (.value (.agg vs.toArray)) w := by
  simp only [execOp, S.ev hx, Sem.run_bind, run_load w b o T ht vs hl hc, Result.andThen, Sem.run]; rfl
theorem y_loadS {T : TypeId} {x : Operand} {b o y : Nat} {z : List Value} (S : Sl n D L a) (hx : evl L x = some (.pointer (some ⟨b, o, none⟩))) (ht : tyI P T = some (false, 1, y, z)) (v : Value)
    (hc : w.cell? ⟨b, o, none⟩ = some v) : (execOp a.eval ⟨dst, .load T x, ty, ps, af, gu⟩).run P w = .ok (.value v) w := by
  have hr : w.rangeAt b o [v] := fun j u hu => by
    cases j with
    | zero => simp at hu; subst hu; exact hc
    | succ j => simp at hu
  simp only [execOp, S.ev hx, Sem.run_bind, run_load w b o T ht [v] rfl hr, Result.andThen, Sem.run]; rfl
theorem y_ldA (pre : List Hp) {b : Nat} {T0 T : TypeId} {bs : List Value} {x : Operand} {o m y : Nat} {z : List Value} (S : Sl n D L a) (H : HS w0 (pre ++ bx b T0 bs :: post) w) (hx : evl L x = some (.pointer (some ⟨b, o, none⟩)))
    (ht : tyI P T = some (true, m, y, z)) (vs : List Value) (hv : (bs.drop o).take m = vs) (hl : vs.length = m) : (execOp a.eval ⟨dst, .load T x, ty, ps, af, gu⟩).run P w = .ok (.value (.agg vs.toArray)) w :=
  y_loadA S hx ht (by rw [← hv]; exact bx_range pre H o m) hl
theorem y_ldS (pre : List Hp) {b : Nat} {T0 T : TypeId} {bs : List Value} {x : Operand} {o y : Nat} {z : List Value} (S : Sl n D L a) (H : HS w0 (pre ++ bx b T0 bs :: post) w) (hx : evl L x = some (.pointer (some ⟨b, o, none⟩)))
    (ht : tyI P T = some (false, 1, y, z)) (v : Value) (hv : bs[o]? = some v) : (execOp a.eval ⟨dst, .load T x, ty, ps, af, gu⟩).run P w = .ok (.value v) w :=
  y_loadS S hx ht v (bx_cell pre H hv)
theorem y_elA {T : TypeId} {x : Operand} {b q j k y : Nat} {z vs : List Value} {i : Int} (S : Sl n D L a) (R : Rd e (hpOf w) (some ⟨b, q, none⟩) m c l) (h0 : 0 ≤ i) (h1 : i < m) (hx : evl L x = some (.pointer (some ⟨b, q + i.toNat * e.sz + j, none⟩)))
    (ht : tyI P T = some (true, k, y, z)) (hv : ((e.enc (rd e l i)).drop j).take k = vs) (hl : vs.length = k) : (execOp a.eval ⟨dst, .load T x, ty, ps, af, gu⟩).run P w = .ok (.value (.agg vs.toArray)) w :=
  y_loadA S hx ht (by rw [← hv]; exact R.range h0 h1 j k) hl
theorem y_elS {T : TypeId} {x : Operand} {b q j y : Nat} {z : List Value} {i : Int} (S : Sl n D L a) (R : Rd e (hpOf w) (some ⟨b, q, none⟩) m c l) (h0 : 0 ≤ i) (h1 : i < m) (hx : evl L x = some (.pointer (some ⟨b, q + i.toNat * e.sz + j, none⟩)))
    (ht : tyI P T = some (false, 1, y, z)) (v : Value) (hv : (e.enc (rd e l i))[j]? = some v) : (execOp a.eval ⟨dst, .load T x, ty, ps, af, gu⟩).run P w = .ok (.value v) w :=
  y_loadS S hx ht v (R.cell h0 h1 hv)
theorem y_fieldAddr {T f : Nat} {x : Operand} {b o off : Nat} (S : Sl n D L a) (hx : evl L x = some (.pointer (some ⟨b, o, none⟩))) (hf : fieldOff P T f = some off) (o' : Nat) (ho : o + off = o') :
    (execOp a.eval ⟨dst, .fieldAddr T x f, ty, ps, af, gu⟩).run P w = .ok (.value (.pointer (some ⟨b, o', none⟩))) w := by
  unfold fieldOff at hf
  split at hf
  · rename_i fs h1
    split at hf
    · rename_i g h2
      split at hf
      · rename_i i h3
        cases h4 : Nat.beq i.size 0 with
        | true => rw [h4] at hf; cases hf
        | false =>
          rw [h4] at hf
          have hoff : g.offset = off := by simpa using hf
          have hne : ¬ i.size = 0 := Nat.ne_of_beq_eq_false h4
          have hadd : (⟨b, o, none⟩ : Addr).add g.offset = ⟨b, o', none⟩ := by rw [Addr.add_mid, hoff, ho]
          simp [execOp, Instr.fieldAt, Sem.run_bind, run_underlying h1, h2, S.ev hx, Instr.sureAddr, fieldPlace, sizeOf, typeInfo, program, Sem.run, Result.andThen, h3, hne, hadd]
      · cases hf
    · cases hf
  · cases hf
theorem y_field {T f : Nat} {x : Operand} {off m : Nat} {g : Bool} {bs : List Value} (S : Sl n D L a) (hx : evl L x = some (.agg bs.toArray)) (hf : fieldPart P T f = some (g, off, m)) (v : Value)
    (hv : (match g with | true => some (.agg ((bs.drop off).take m).toArray) | false => bs[off]?) = some v) (hb : Nat.ble (off + m) bs.length = true) :
    (execOp a.eval ⟨dst, .field T x f, ty, ps, af, gu⟩).run P w = .ok (.value v) w := by
  unfold fieldPart at hf
  split at hf
  · rename_i fs h1
    split at hf
    · rename_i gg h2
      split at hf
      · rename_i g' m' y' z' h3
        simp only [Option.some.injEq, Prod.mk.injEq] at hf
        obtain ⟨rfl, rfl, rfl⟩ := hf
        obtain ⟨d0, i, zv, q1, q2, q3, q4, q5, q6, q7⟩ := tyI_open h3
        have hagg : (isAgg gg.type).run P w = .ok g' w := by
          unfold isAgg
          rw [Sem.run_bind, run_underlying q1 w]
          cases d0 <;> simp_all [TypeDesc.isRow, Sem.run, Result.andThen] <;> rw [← q2]
        cases g' with
        | true =>
          simp only [Option.some.injEq] at hv; subst hv
          simp [execOp, Instr.field, Sem.run_bind, run_underlying h1, h2, S.ev hx, asAgg, part, hagg, sizeOf, typeInfo, program, Sem.run, Result.andThen, q3, q4]
        | false =>
          simp only [] at hv
          simp [execOp, Instr.field, Sem.run_bind, run_underlying h1, h2, S.ev hx, asAgg, part, hagg, Sem.run, Result.andThen, hv]
      · cases hf
    · cases hf
  · cases hf
theorem y_build {T : TypeId} {parts : List (Nat × Operand)} {m y : Nat} {g : Bool} {z : List Value} {pl : List (Nat × Nat)} {pv : List (Nat × Value)} (S : Sl n D L a) (ht : tyI P T = some (g, m, y, z)) (hp : places P T = some pl)
    (he : evparts L parts = some pv) (vs : List Value) (hf : Instr.fill (fun i => pl[i]?) z.toArray pv = some vs.toArray) :
    (execOp a.eval ⟨dst, .build T parts.toArray, ty, ps, af, gu⟩).run P w = .ok (.value (.agg vs.toArray)) w := by
  obtain ⟨d0, i, zv, q1, q2, q3, q4, q5, q6, q7⟩ := tyI_open ht
  have hz : zv.cells = z.toArray := by rw [← q7, Array.toArray_toList]
  unfold places at hp
  split at hp
  · rename_i fs h1
    have hm : ∀ (l : List Field) (pl : List (Nat × Nat)), l.mapM (fun g => (P.info? g.type).map fun i => (g.offset, i.size)) = some pl →
        (l.mapM (m := Sem) fun f => do pure (f.offset, ← sizeOf f.type)).run P w = .ok pl w := by
      intro l
      induction l with
      | nil => intro pl h; simp at h; subst h; simp [Sem.run]
      | cons g l ih =>
        intro pl h
        simp only [List.mapM_cons, Option.pure_def, Option.bind_eq_bind, Option.bind_eq_some_iff, Option.some.injEq] at h
        obtain ⟨p, h2, pl', h3, rfl⟩ := h
        obtain ⟨i, h4, rfl⟩ := Option.map_eq_some_iff.1 h2
        have hs : (sizeOf g.type).run P w = .ok i.size w := by simp [sizeOf, typeInfo, program, Sem.run_bind, Sem.run, Result.andThen, h4]
        simp only [List.mapM_cons, Sem.run_bind, hs, Sem.run_pure, Result.andThen_ok, ih pl' h3]
    have hm2 := hm _ _ hp
    have hparts : (parts.toArray.map fun (i, x) => (i, a.eval x)).toList = pv := by rw [← S.evp he]; simp
    have hmA : (fs.mapM (m := Sem) fun f => do pure (f.offset, ← sizeOf f.type)).run P w = .ok pl.toArray w := by
      rw [← Array.toArray_toList (xs := fs), List.mapM_toArray]
      generalize hgg : (fs.toList.mapM (m := Sem) fun f => do pure (f.offset, ← sizeOf f.type)) = gg at hm2 ⊢
      simp [Sem.run_bind, hm2, Sem.run, Result.andThen]
    have hfill : Instr.fill (fun i => pl[i]?) zv.cells pv = some vs.toArray := by rw [hz]; exact hf
    have hz0 : (zeroValue T).run P w = .ok zv w := by simp [zeroValue, typeInfo, program, Sem.run_bind, Sem.run, Result.andThen, q3, q6]
    simp only [execOp, Instr.build, Sem.run_bind, hz0, Result.andThen_ok, run_underlying h1, hmA]
    rw [hparts]
    simp [hfill, Sem.run, Result.andThen]
  · cases hp

theorem y_index {T : TypeId} {x y : Operand} {b q sz yy : Nat} {z : List Value} {g : Bool} {i : Int} {k : IntKind} (S : Sl n D L a) (hx : evl L x = some (.slice (some ⟨b, q, none⟩) m c)) (hy : evl L y = some (.int k i)) (ht : slE P T = some E)
    (hE : tyI P E = some (g, sz, yy, z)) (h0 : 0 ≤ i) (h1 : i < m) : (execOp a.eval ⟨dst, .indexAddr T x y, ty, ps, af, gu⟩).run P w = .ok (.value (.pointer (some ⟨b, q + i.toNat * sz + 0, none⟩))) w := by
  obtain ⟨d0, ii, zv, q1, q2, q3, q4, q5, q6, q7⟩ := tyI_open hE
  have hu := slE_open ht
  simp [execOp, Instr.indexAt, S.ev hx, S.ev hy, asIntOf, Sem.run_bind, run_underlying hu, Sem.run, Result.andThen, h0, h1, sizeOf, typeInfo, program, q3, q4, Addr.add_mid]
theorem y_len {T : TypeId} {x : Operand} (S : Sl n D L a) (hx : evl L x = some (.slice A m c)) (ht : slE P T = some E) :
    (execOp a.eval ⟨dst, .call { callee := .builtin .len, args := #[x], argTypes := #[T] }, ty, ps, af, gu⟩).run P w = .ok (.value (.int .i64 m)) w := by
  have hu := slE_open ht
  simp [execOp, resolve, invoke, builtin, Builtin.len_, S.ev hx, Sem.run_bind, run_underlying hu, Sem.run, Result.andThen, goInt]
theorem y_cap {T : TypeId} {x : Operand} (S : Sl n D L a) (hx : evl L x = some (.slice A m c)) (ht : slE P T = some E) :
    (execOp a.eval ⟨dst, .call { callee := .builtin .cap, args := #[x], argTypes := #[T] }, ty, ps, af, gu⟩).run P w = .ok (.value (.int .i64 c)) w := by
  have hu := slE_open ht
  simp [execOp, resolve, invoke, builtin, Builtin.cap_, S.ev hx, Sem.run_bind, run_underlying hu, Sem.run, Result.andThen, goInt]
theorem fold_mx (P : Program) (w : World) (k : IntKind) : ∀ (qs : List Int) (p : Int), ((qs.map (Value.int k ·)).foldlM (m := Sem) Builtin.max2 (.int k p)).run P w = .ok (.int k (mxs true p qs)) w := by
  intro qs
  induction qs with
  | nil => intro p; simp [mxs, Sem.run]
  | cons q qs ih => intro p; simp [mxs, Builtin.max2, Sem.run, Sem.run_bind, Result.andThen]; rw [ih]; rfl
theorem fold_mn (P : Program) (w : World) (k : IntKind) : ∀ (qs : List Int) (p : Int), ((qs.map (Value.int k ·)).foldlM (m := Sem) Builtin.min2 (.int k p)).run P w = .ok (.int k (mxs false p qs)) w := by
  intro qs
  induction qs with
  | nil => intro p; simp [mxs, Sem.run]
  | cons q qs ih => intro p; simp [mxs, Builtin.min2, Sem.run, Sem.run_bind, Result.andThen]; rw [ih]; rfl
theorem y_max {xs : List Operand} {ts : Array TypeId} {k : IntKind} {p : Int} {qs : List Int} (S : Sl n D L a) (hx : evls L xs = some (.int k p :: qs.map (.int k ·))) :
    (execOp a.eval ⟨dst, .call { callee := .builtin .max, args := xs.toArray, argTypes := ts }, ty, ps, af, gu⟩).run P w = .ok (.value (.int k (mxs true p qs))) w := by
  have e1 := S.evs hx
  simp [execOp, resolve, invoke, builtin, Builtin.max_, e1, Sem.run_bind, Sem.run, Result.andThen, fold_mx]
theorem y_min {xs : List Operand} {ts : Array TypeId} {k : IntKind} {p : Int} {qs : List Int} (S : Sl n D L a) (hx : evls L xs = some (.int k p :: qs.map (.int k ·))) :
    (execOp a.eval ⟨dst, .call { callee := .builtin .min, args := xs.toArray, argTypes := ts }, ty, ps, af, gu⟩).run P w = .ok (.value (.int k (mxs false p qs))) w := by
  have e1 := S.evs hx
  simp [execOp, resolve, invoke, builtin, Builtin.min_, e1, Sem.run_bind, Sem.run, Result.andThen, fold_mn]
theorem r_shl' {x y : Operand} {T T' : TypeId} {k yk : IntKind} {p q : Int} (S : Sl n D L a) (hx : evl L x = some (.int k p)) (hy : evl L y = some (.int yk q)) (hq : ¬ q < 0)
    (hd : Nat.blt d n = true) (kk : ∀ a', Sl n D ((d, .int k (sh_shl k p q)) :: L) a' → WL r P ops Q rest a' w) :
    WL r P ops Q (⟨some d, .binOp .shl T x y T', ty, ps, af, none⟩ :: rest) a w := op_ok S rfl (by intro c h; cases h) rfl (blt_lt hd) (y_shl S hx hy hq) kk
theorem r_shr' {x y : Operand} {T T' : TypeId} {k yk : IntKind} {p q : Int} (S : Sl n D L a) (hx : evl L x = some (.int k p)) (hy : evl L y = some (.int yk q)) (hq : ¬ q < 0)
    (hd : Nat.blt d n = true) (kk : ∀ a', Sl n D ((d, .int k (sh_shr k p q)) :: L) a' → WL r P ops Q rest a' w) :
    WL r P ops Q (⟨some d, .binOp .shr T x y T', ty, ps, af, none⟩ :: rest) a w := op_ok S rfl (by intro c h; cases h) rfl (blt_lt hd) (y_shr S hx hy hq) kk
theorem r_beq {x y : Operand} {T T' : TypeId} {p q : Bool} (S : Sl n D L a) (hx : evl L x = some (.bool p)) (hy : evl L y = some (.bool q)) (h0 : P.underlying T = some .bool) (hd : Nat.blt d n = true)
    (kk : ∀ a', Sl n D ((d, .bool (decide (p = q))) :: L) a' → WL r P ops Q rest a' w) : WL r P ops Q (⟨some d, .binOp .eql T x y T', ty, ps, af, none⟩ :: rest) a w := op_ok S rfl (by intro c h; cases h) rfl (blt_lt hd) (y_beq S hx hy h0) kk
theorem r_bne {x y : Operand} {T T' : TypeId} {p q : Bool} (S : Sl n D L a) (hx : evl L x = some (.bool p)) (hy : evl L y = some (.bool q)) (h0 : P.underlying T = some .bool) (hd : Nat.blt d n = true)
    (kk : ∀ a', Sl n D ((d, .bool (!decide (p = q))) :: L) a' → WL r P ops Q rest a' w) : WL r P ops Q (⟨some d, .binOp .neq T x y T', ty, ps, af, none⟩ :: rest) a w := op_ok S rfl (by intro c h; cases h) rfl (blt_lt hd) (y_bne S hx hy h0) kk
end Go.Proofs.Ytmdpjijafejgpaa.Sl

/- Views of rows of one's own: cuts that share; rows that shrink; cuts of no length. -/
set_option linter.unusedVariables false
set_option linter.unusedSimpArgs false
namespace Go.Proofs.Ytmdpjijafejgpaa.Sl
open Go

variable {r : Option Nat} {P : Program} {n : Nat} {D : List Deferred} {L : List (Nat × Value)} {a : Act} {w w0 w' : World} {ops : Array Oper} {Q : Exit → Act → World → Prop} {rest : List Oper}
  {o : Oper} {d : Nat} {v : Value} {cs : List Hp} {pre post : List Hp} {k : Nat} {ty : TypeId} {ps : String} {af : Array Edge} {α : Type} {e : En α} {E : TypeId} {A B : Option Addr} {m c c2 : Nat} {l l2 : List α}
  {dst : Option Nat} {gu : Option (Nat × Bool)}

/-- the front of a row of one's own, read -/
theorem own_rdV (pre : List Hp) (H : HS w0 (pre ++ own e E A m c l :: post) w) {q : Nat} (hq : q ≤ m) : Rd e (hpOf w) A q c (l.take q) := by
  obtain ⟨r1, r2, r3, r4⟩ := own_rd pre H
  refine ⟨by rw [List.length_take, r1]; omega, by omega, r3, fun hpos => ?_⟩
  obtain ⟨b, o, hA, f⟩ := r4 (by omega)
  refine ⟨b, o, hA, fun i j v hi hv => f i j v (by omega) ?_⟩
  rw [← hv]; congr 2
  simp only [List.getD_eq_getElem?_getD, List.getElem?_take]
  rw [if_pos hi]
theorem sl_own_rdV (pre : List Hp) {X : Heap} (H : SL (pre ++ own e E A m c l :: post) X) {q : Nat} (hq : q ≤ m) : Rd e X A q c (l.take q) := by
  obtain ⟨r1, r2, r3, r4⟩ := sl_own_rd pre H
  refine ⟨by rw [List.length_take, r1]; omega, by omega, r3, fun hpos => ?_⟩
  obtain ⟨b, o, hA, f⟩ := r4 (by omega)
  refine ⟨b, o, hA, fun i j v hi hv => f i j v (by omega) ?_⟩
  rw [← hv]; congr 2
  simp only [List.getD_eq_getElem?_getD, List.getElem?_take]
  rw [if_pos hi]
/-- a row of one's own gives its end up -/
theorem HS.shrink (pre : List Hp) (H : HS w0 (pre ++ own e E A m c l :: post) w) {q : Nat} (hq : q ≤ m) : HS w0 (pre ++ own e E A q c (l.take q) :: post) w :=
  H.map fun s => SL.mono1 s fun h qq => by
    obtain ⟨h1, h3⟩ := qq
    refine ⟨by rw [List.length_take, h1]; omega, ?_⟩
    rcases h3 with ⟨hA, rfl, rfl⟩ | ⟨gg, cur, hA, p1, p2, p3, p4, p5⟩
    · exact .inl ⟨hA, by omega, rfl⟩
    · refine .inr ⟨gg, cur, hA, by omega, p2, p3, ?_, p5⟩
      rw [flat_take, ← p4, List.take_take, Nat.min_eq_left]
      exact Nat.mul_le_mul_right _ hq
theorem y_cutV (pre : List Hp) {T : TypeId} {x : Operand} {hi : Operand} {y k : Nat} {g : Bool} {z : List Value} (S : Sl n D L a) (H : HS w0 (pre ++ own e E A m c l :: post) w) (hx : evl L x = some (.slice A k c)) (ht : slE P T = some E) (hE : tyI P E = some (g, e.sz, y, z))
    (q : Int) (hhi : evl L hi = some (.int .i64 q)) (h0 : 0 ≤ q) (h2 : q ≤ m) {w1 : World} :
    (execOp a.eval ⟨dst, .slice T x none (some hi) none, ty, ps, af, gu⟩).run P w1 = .ok (.value (.slice A q.toNat c)) w1 := by
  have hle := own_le pre H
  have hu := slE_open ht
  obtain ⟨d0, i, zv, q1, q2, q3, q4, q5, q6, q7⟩ := tyI_open hE
  have e1 : (Instr.sliceBounds true k c none (some (a.eval hi)) none).run P w1 = .ok (0, q.toNat, c) w1 := by
    have := S.ev hhi
    have hqc : q ≤ c := by omega
    simp [Instr.sliceBounds, Instr.sliceBound, asIntOf, this, Sem.run_bind, Sem.run, Result.andThen, h0, hqc]
  have hA : cutA A c e.sz 0 = A := by
    simp only [cutA]
    split
    · rfl
    · rename_i hc0
      have hA : ∃ g o, A = some ⟨g, o, none⟩ := SL.pure H.sl fun _ q => by
        rcases q.2 with ⟨_, _, h⟩ | ⟨g, cur, h, _⟩
        · exact absurd h hc0
        · exact ⟨g, 0, h⟩
      obtain ⟨g, o', rfl⟩ := hA
      · rw [Nat.zero_mul, Option.map_some, Addr.add_mid, Nat.add_zero]
  rw [show Value.slice A q.toNat c = .slice (cutA A c e.sz 0) (q.toNat - 0) (c - 0) by rw [hA]; rfl]
  simp only [execOp, Option.map_none, Option.map_some, Instr.sliceAt, S.ev hx, Sem.run_bind, run_underlying hu, Result.andThen_ok, Instr.slice, e1, sizeOf, typeInfo, program]
  simp [Sem.run, Result.andThen, Sem.run_bind, q3, q4, cutA]
theorem r_cutV (pre : List Hp) {T : TypeId} {x : Operand} {hi : Operand} {y k : Nat} {g : Bool} {z : List Value} (S : Sl n D L a) (H : HS w0 (pre ++ own e E A m c l :: post) w) (hx : evl L x = some (.slice A k c)) (ht : slE P T = some E) (hE : tyI P E = some (g, e.sz, y, z))
    (q : Int) (hhi : evl L hi = some (.int .i64 q)) (h0 : 0 ≤ q) (h2 : q ≤ m) (hd : Nat.blt d n = true)
    (kk : ∀ a', Sl n D ((d, .slice A q.toNat c) :: L) a' → WL r P ops Q rest a' w) :
    WL r P ops Q (⟨some d, .slice T x none (some hi) none, ty, ps, af, none⟩ :: rest) a w :=
  op_ok S rfl (by intro c h; cases h) rfl (blt_lt hd) (y_cutV pre S H hx ht hE q hhi h0 h2) kk
/-- s[:0:0] -/
theorem r_cut0 {T : TypeId} {x : Operand} {y k : Nat} {g : Bool} {z : List Value} (e : En α) (S : Sl n D L a) (H : HS w0 cs w) (hx : evl L x = some (.slice A k c)) (ht : slE P T = some E) (hE : tyI P E = some (g, e.sz, y, z)) (hd : Nat.blt d n = true)
    (kk : ∀ A' a', Sl n D ((d, .slice A' 0 0) :: L) a' → HS w0 (own e E A' 0 0 [] :: cs) w → WL r P ops Q rest a' w) :
    WL r P ops Q (⟨some d, .slice T x none (some (.const (.int .i64 0))) (some (.const (.int .i64 0))), ty, ps, af, none⟩ :: rest) a w := by
  have hu := slE_open ht
  obtain ⟨d0, i, zv, q1, q2, q3, q4, q5, q6, q7⟩ := tyI_open hE
  have hA' : ∃ A', (execOp a.eval ⟨some d, .slice T x none (some (.const (.int .i64 0))) (some (.const (.int .i64 0))), ty, ps, af, none⟩).run P w = .ok (.value (.slice A' 0 0)) w := by
    refine ⟨A, ?_⟩
    have e1 : (Instr.sliceBounds true k c none (some (a.eval (.const (.int .i64 0)))) (some (a.eval (.const (.int .i64 0))))).run P w = .ok (0, 0, 0) w := by
      simp [Instr.sliceBounds, Instr.sliceBound, asIntOf, Act.eval, Sem.run_bind, Sem.run, Result.andThen]
    simp only [execOp, Option.map_none, Option.map_some, Instr.sliceAt, S.ev hx, Sem.run_bind, run_underlying hu, Result.andThen_ok, Instr.slice, e1, sizeOf, typeInfo, program]
    simp [Sem.run, Result.andThen, Sem.run_bind, q3, q4]
  obtain ⟨A', hr⟩ := hA'
  exact op_ok S rfl (by intro c h; cases h) rfl (blt_lt hd) hr fun a' S' => kk A' a' S' ⟨own_z A' H.sl, H.os, H.tape, H.out, H.size, H.dr⟩
theorem y_snil {T T' : TypeId} {x y : Operand} (S : Sl n D L a) (hx : evl L x = some (.slice A m c)) (hy : evl L y = some (.slice none 0 0)) (ht : slE P T = some E) :
    (execOp a.eval ⟨dst, .binOp .eql T x y T', ty, ps, af, gu⟩).run P w = .ok (.value (.bool A.isNone)) w := by
  simp [execOp, S.ev hx, S.ev hy, Sem.run_bind, eqGuard, binOp, Result.andThen, Sem.run, run_equal_slice_nil _ T E A m c (slE_open ht)]
theorem r_snil {T T' : TypeId} {x y : Operand} (S : Sl n D L a) (hx : evl L x = some (.slice A m c)) (hy : evl L y = some (.slice none 0 0)) (ht : slE P T = some E) (hd : Nat.blt d n = true)
    (kk : ∀ a', Sl n D ((d, .bool A.isNone) :: L) a' → WL r P ops Q rest a' w) : WL r P ops Q (⟨some d, .binOp .eql T x y T', ty, ps, af, none⟩ :: rest) a w := op_ok S rfl (by intro c h; cases h) rfl (blt_lt hd) (y_snil S hx hy ht) kk
end Go.Proofs.Ytmdpjijafejgpaa.Sl

/- Rows of one's own behind the library's functions that turn them: what a turned block says. -/
set_option linter.unusedVariables false
set_option linter.unusedSimpArgs false
namespace Go.Proofs.Ytmdpjijafejgpaa.Sl
open Go

variable {P : Program} {w w0 w' : World} {cs : List Hp} {pre post : List Hp} {α : Type} {e : En α} {E : TypeId} {A B : Option Addr} {m c : Nat} {l l2 : List α}

theorem own_blk (pre : List Hp) (H : HS w0 (pre ++ own e E A m c l :: post) w) (hm : 0 < m) : ∃ g cur, A = some ⟨g, 0, none⟩ ∧ w.heap[g]? = some (.cells cur E (0, 0)) ∧ m ≤ c ∧ c ≤ maxLen ∧ cur.size = c * e.sz ∧ cur.toList.take (m * e.sz) = l.flatMap e.enc ∧ l.length = m := by
  obtain ⟨h1', h2', dd, hh, ha, -⟩ := SL.pull pre H.sl
  rcases ha.2 with ⟨_, h, _⟩ | ⟨gg, cur, hA, q1, q2, q3, q4, q5⟩
  · omega
  · refine ⟨gg, cur, hA, ?_, q1, q2, q3, q4, ha.1⟩
    have : hpOf w gg = some (.cells cur E (0, 0)) := by rw [hh]; exact un_some (by rw [q5]; simp [one])
    exact this
theorem HS.rowed (pre : List Hp) {g : Nat} (H : HS w0 (pre ++ own e E (some ⟨g, 0, none⟩) m c l :: post) w) (hm : 0 < m) (hg : w.grownBy w' (some g)) (hdr : w.drawn ≤ w'.drawn) {new : Array Value}
    (hb : w'.heap[g]? = some (.cells new E (0, 0))) (hs : new.size = c * e.sz) {l' : List α} (ht : new.toList.take (m * e.sz) = l'.flatMap e.enc) (hl' : l'.length = m) : HS w0 (pre ++ own e E (some ⟨g, 0, none⟩) m c l' :: post) w' := by
  obtain ⟨g1, g2, g3, g4, g5⟩ := hg
  refine ⟨SL.turn H.sl (some g) ?_ (fun k hk hne => g5 k hk (fun e => hne (by rw [e]))) ?_, g1.trans H.os, g2.trans H.tape, g3.trans H.out, Nat.le_trans H.size g4, Nat.le_trans H.dr hdr⟩
  · rintro k hk h q
    cases hk
    rcases q.2 with ⟨_, h, _⟩ | ⟨gg, cur, hA, _, _, _, _, q5⟩
    · omega
    · cases hA; rw [q5]; simp [one]
  · rintro h1 q -
    rcases q.2 with ⟨_, h, _⟩ | ⟨gg, cur, hA, q1, q2, q3, q4, q5⟩
    · omega
    · cases hA
      refine ⟨one g (.cells new E (0, 0)), ⟨hl', .inr ⟨g, new, rfl, q1, q2, hs, ht, rfl⟩⟩, fun k o hk => ?_⟩
      simp only [one] at hk
      split at hk
      · rename_i hkg; subst hkg; cases hk; exact ⟨hb, .inl (by rw [q5]; simp [one])⟩
      · cases hk
theorem HS.drewN (H : HS w0 cs w) (n : Nat) : HS w0 cs { w with drawn := w.drawn + n } := ⟨H.sl, H.os, H.tape, H.out, H.size, Nat.le_trans H.dr (Nat.le_add_right _ _)⟩

end Go.Proofs.Ytmdpjijafejgpaa.Sl

/- Words for the plain laws: whole numbers within their kinds, elements, swaps. -/
set_option linter.unusedVariables false
set_option linter.unusedSimpArgs false
namespace Go.Proofs.Ytmdpjijafejgpaa.Sl
open Go

theorem W_eq {x : Int} (h1 : -9223372036854775808 ≤ x) (h2 : x ≤ 9223372036854775807) : IntKind.i64.wrap x = x := by
  rw [IntKind.wrap_i64]; omega
theorem U_lo (x : Int) : 0 ≤ IntKind.u64.wrap x := by rw [IntKind.wrap_u64]; omega
theorem U_hi (x : Int) : IntKind.u64.wrap x < 18446744073709551616 := by rw [IntKind.wrap_u64]; omega
theorem U_eq {x : Int} (h1 : 0 ≤ x) (h2 : x < 18446744073709551616) : IntKind.u64.wrap x = x := by rw [IntKind.wrap_u64]; omega
theorem wf_i64 {x : Int} (h : (Lit.int .i64 x).wf = true) : -9223372036854775808 ≤ x ∧ x ≤ 9223372036854775807 := by
  simp only [Lit.wf, Bool.and_eq_true, decide_eq_true_eq, IntKind.min, IntKind.max, IntKind.signed, IntKind.bits] at h
  simp at h; omega
theorem wf_u64 {x : Int} (h : (Lit.int .u64 x).wf = true) : 0 ≤ x ∧ x < 18446744073709551616 := by
  simp only [Lit.wf, Bool.and_eq_true, decide_eq_true_eq, IntKind.min, IntKind.max, IntKind.signed, IntKind.bits] at h
  simp at h; omega
theorem rd_nat {α : Type} (e : En α) (l : List α) (i : Nat) (h : i < l.length) : rd e l (i : Int) = l[i] := by
  simp [rd, List.getD, List.getElem?_eq_getElem h]
theorem rd_int {α : Type} (e : En α) (l : List α) {i : Int} (h0 : 0 ≤ i) (h : i.toNat < l.length) : rd e l i = l[i.toNat] := by
  simp [rd, List.getD, List.getElem?_eq_getElem h]
theorem rd_mem {α : Type} (e : En α) (l : List α) {i : Int} (h0 : 0 ≤ i) (h : i < (l.length : Int)) : rd e l i ∈ l := by
  rw [rd_int e l h0 (by omega)]; exact List.getElem_mem _
theorem swap_perm {e : En Int} (l : List Int) {i j : Int} (hi0 : 0 ≤ i) (hi : i < (l.length : Int)) (hj0 : 0 ≤ j) (hj : j < (l.length : Int)) :
    ((l.set i.toNat (rd e l j)).set j.toNat (rd e l i)).Perm l := by
  rw [rd_int e l hi0 (by omega), rd_int e l hj0 (by omega)]
  exact List.set_set_perm (by omega) (by omega)
end Go.Proofs.Ytmdpjijafejgpaa.Sl

/- What comes in, read: values of structs, rows of structs: their cells, and what the row's weights say of their lengths. -/
set_option linter.unusedVariables false
set_option linter.unusedSimpArgs false
namespace Go.Proofs.Ytmdpjijafejgpaa.Sl
open Go Go.Deep

/-- the kind of one cell -/
inductive LK
  | int (k : IntKind)
  | bool
  | str
  | row (t : TypeId)

def goF (P : Program) (f : TypeId → Option (List LK)) : List Field → Nat → Option (List LK)
  | [], _ => some []
  | g :: r, off => match f g.type, goF P f r (off + P.cellsOf g.type) with
    | some ks, some r' => cond (Nat.beq g.offset off && Nat.beq (P.cellsOf g.type) ks.length) (some (ks ++ r')) none
    | _, _ => none
/-- a type's cells -/
def leafKs (P : Program) : Nat → TypeId → Option (List LK)
  | 0, _ => none
  | n + 1, t => match P.underlying t with
    | some .bool => some [.bool]
    | some (.int k) => some [.int k]
    | some .string => some [.str]
    | some (.slice _) => some [.row t]
    | some (.struct fs) => match goF P (leafKs P n) fs.toList 0 with
      | some ks => cond (Nat.beq ks.length (P.cellsOf t)) (some ks) none
      | none => none
    | _ => none

section
variable {H : Type} {enc : TypeId × Value → H} {P : Program} {w : World}

/-- cells that are of these kinds, as they are read -/
def Mt (enc : TypeId × Value → H) (P : Program) (w : World) : List LK → List Value → Prop
  | [], [] => True
  | .int k :: ks, .int k' n :: vs => k' = k ∧ (Lit.int k n).wf = true ∧ Mt enc P w ks vs
  | .bool :: ks, .bool _ :: vs => Mt enc P w ks vs
  | .str :: ks, .string s :: vs => s.size ≤ reachBytes ∧ Mt enc P w ks vs
  | .row t :: ks, v :: vs => (∃ n d p, DataW.trod enc P w 0 (fun _ => true) true n t [v] = some (d, p) ∧ (d.weights P t).all (· ≤ reachBytes) = true) ∧ Mt enc P w ks vs
  | _, _ => False
theorem Mt.int {k : IntKind} {ks : List LK} {cs : List Value} (h : Mt enc P w (.int k :: ks) cs) : ∃ n vs, cs = .int k n :: vs ∧ (Lit.int k n).wf = true ∧ Mt enc P w ks vs := by
  cases cs with
  | nil => exact h.elim
  | cons v vs => cases v <;> simp only [Mt] at h <;> first | exact h.elim | (obtain ⟨rfl, h1, h2⟩ := h; exact ⟨_, _, rfl, h1, h2⟩)
theorem Mt.bool {ks : List LK} {cs : List Value} (h : Mt enc P w (.bool :: ks) cs) : ∃ b vs, cs = .bool b :: vs ∧ Mt enc P w ks vs := by
  cases cs with
  | nil => exact h.elim
  | cons v vs => cases v <;> simp only [Mt] at h <;> first | exact h.elim | exact ⟨_, _, rfl, h⟩
theorem Mt.str {ks : List LK} {cs : List Value} (h : Mt enc P w (.str :: ks) cs) : ∃ s vs, cs = .string s :: vs ∧ s.size ≤ reachBytes ∧ Mt enc P w ks vs := by
  cases cs with
  | nil => exact h.elim
  | cons v vs => cases v <;> simp only [Mt] at h <;> first | exact h.elim | exact ⟨_, _, rfl, h.1, h.2⟩
theorem Mt.row {t : TypeId} {ks : List LK} {cs : List Value} (h : Mt enc P w (.row t :: ks) cs) :
    ∃ v vs, cs = v :: vs ∧ (∃ n d p, DataW.trod enc P w 0 (fun _ => true) true n t [v] = some (d, p) ∧ (d.weights P t).all (· ≤ reachBytes) = true) ∧ Mt enc P w ks vs := by
  cases cs with
  | nil => exact h.elim
  | cons v vs => simp only [Mt] at h; exact ⟨_, _, rfl, h.1, h.2⟩
theorem Mt.nil {cs : List Value} (h : Mt enc P w [] cs) : cs = [] := by
  cases cs with
  | nil => rfl
  | cons v vs => exact h.elim
theorem Mt.append : ∀ {a : List LK} {x : List Value} {b : List LK} {y : List Value}, Mt enc P w a x → Mt enc P w b y → Mt enc P w (a ++ b) (x ++ y) := by
  intro a
  induction a with
  | nil => intro x b y h1 h2; rw [h1.nil]; exact h2
  | cons k a ih =>
    intro x b y h1 h2
    cases k with
    | int k => obtain ⟨n, vs, rfl, h3, h4⟩ := h1.int; exact ⟨rfl, h3, ih h4 h2⟩
    | bool => obtain ⟨n, vs, rfl, h4⟩ := h1.bool; exact ih h4 h2
    | str => obtain ⟨n, vs, rfl, h3, h4⟩ := h1.str; exact ⟨h3, ih h4 h2⟩
    | row t => obtain ⟨v, vs, rfl, h3, h4⟩ := h1.row; exact ⟨h3, ih h4 h2⟩
theorem Mt.len : ∀ {ks : List LK} {cs : List Value}, Mt enc P w ks cs → cs.length = ks.length := by
  intro ks
  induction ks with
  | nil => intro cs h; rw [h.nil]; rfl
  | cons k ks ih =>
    intro cs h
    cases k with
    | int k => obtain ⟨n, vs, rfl, h3, h4⟩ := h.int; simp [ih h4]
    | bool => obtain ⟨n, vs, rfl, h4⟩ := h.bool; simp [ih h4]
    | str => obtain ⟨n, vs, rfl, h3, h4⟩ := h.str; simp [ih h4]
    | row t => obtain ⟨v, vs, rfl, h3, h4⟩ := h.row; simp [ih h4]

theorem all_app {l1 l2 : List Nat} {b : Nat} (h : (l1 ++ l2).all (· ≤ b) = true) : l1.all (· ≤ b) = true ∧ l2.all (· ≤ b) = true := by
  rw [List.all_append, Bool.and_eq_true] at h; exact h
theorem mt_fields {n : Nat} {f : TypeId → Option (List LK)} (ih : ∀ t ks cs d p, f t = some ks → DataW.trod enc P w 0 (fun _ => true) true n t cs = some (d, p) → (d.weights P t).all (· ≤ reachBytes) = true → Mt enc P w ks cs) (cs : List Value) :
    ∀ (fs : List Field) (off : Nat) (ks : List LK) (xs : List (DataW H × List MemPlace)), goF P f fs off = some ks → cs.length = off + ks.length →
      (fs.mapM fun g => DataW.trod enc P w 0 (fun _ => true) true n g.type ((cs.drop g.offset).take (P.cellsOf g.type))) = some xs → (DataW.weightsEach P (fs.map (·.type)) (xs.map (·.1))).all (· ≤ reachBytes) = true → Mt enc P w ks (cs.drop off) := by
  intro fs
  induction fs with
  | nil =>
    intro off ks xs h1 h2 h3 h4
    simp only [goF, Option.some.injEq] at h1
    subst h1
    rw [List.drop_of_length_le (by simp at h2; omega)]; trivial
  | cons g fs ihf =>
    intro off ks xs h1 h2 h3 h4
    simp only [goF] at h1
    split at h1
    · rename_i kg kr e1 e2
      cases hc : (Nat.beq g.offset off && Nat.beq (P.cellsOf g.type) kg.length) with
      | false => rw [hc] at h1; cases h1
      | true =>
        rw [hc] at h1
        simp only [cond_true, Option.some.injEq] at h1
        subst h1
        simp only [Bool.and_eq_true] at hc
        have ho := Nat.eq_of_beq_eq_true hc.1
        have hl := Nat.eq_of_beq_eq_true hc.2
        simp only [List.mapM_cons, Option.pure_def, Option.bind_eq_bind, Option.bind_eq_some_iff, Option.some.injEq] at h3
        obtain ⟨x, h5, xr, h6, rfl⟩ := h3
        simp only [List.map_cons, DataW.weightsEach] at h4
        obtain ⟨h7, h8⟩ := all_app h4
        rw [ho] at h5
        have m1 := ih g.type kg _ x.1 x.2 e1 h5 h7
        have m2 := ihf (off + P.cellsOf g.type) kr xr e2 (by rw [h2, hl, List.length_append]; omega) h6 h8
        have : cs.drop off = (cs.drop off).take (P.cellsOf g.type) ++ cs.drop (off + P.cellsOf g.type) := by
          rw [← List.drop_drop, List.take_append_drop]
        rw [this]
        exact m1.append m2
    · cases h1
theorem mt_of_trod : ∀ (m n : Nat) (t : TypeId) (ks : List LK) (cs : List Value) (d : DataW H) (p : List MemPlace), leafKs P m t = some ks → DataW.trod enc P w 0 (fun _ => true) true n t cs = some (d, p) →
    (d.weights P t).all (· ≤ reachBytes) = true → Mt enc P w ks cs := by
  intro m
  induction m with
  | zero => intro n t ks cs d p h; cases h
  | succ m ih =>
    intro n t ks cs d p h ht hw
    cases n with
    | zero => simp [DataW.trod] at ht
    | succ n =>
      simp only [leafKs] at h
      cases hu : P.underlying t with
      | none => rw [hu] at h; cases h
      | some D =>
        rw [hu] at h
        cases D <;> simp only [] at h <;> try (cases h; done)
        case bool =>
          cases h
          cases cs with
          | nil => simp [DataW.trod, hu] at ht
          | cons v vs =>
            cases vs with
            | cons v2 r => cases v <;> simp [DataW.trod, hu] at ht
            | nil => cases v <;> first | trivial | (simp [DataW.trod, hu] at ht; done)
        case int k =>
          cases h
          cases cs with
          | nil => simp [DataW.trod, hu] at ht
          | cons v vs =>
            cases vs with
            | cons v2 r => cases v <;> simp [DataW.trod, hu] at ht
            | nil =>
              cases v <;> first | (simp [DataW.trod, hu] at ht; done) | skip
              simp only [DataW.trod, hu] at ht
              split at ht
              · rename_i hh; exact ⟨hh.1, hh.2, trivial⟩
              · cases ht
        case string =>
          cases h
          cases cs with
          | nil => simp [DataW.trod, hu] at ht
          | cons v vs =>
            cases vs with
            | cons v2 r => cases v <;> simp [DataW.trod, hu] at ht
            | nil =>
              cases v <;> first | (simp [DataW.trod, hu] at ht; done) | skip
              simp only [DataW.trod, hu] at ht
              split at ht
              · simp only [Option.some.injEq, Prod.mk.injEq] at ht
                obtain ⟨rfl, rfl⟩ := ht
                simp [DataW.weights] at hw
                exact ⟨hw, trivial⟩
              · cases ht
        case slice E =>
          cases h
          cases cs with
          | nil => simp [DataW.trod, hu] at ht
          | cons v vs =>
            cases vs with
            | cons v2 r => cases v <;> simp [DataW.trod, hu] at ht
            | nil => exact ⟨⟨n + 1, d, p, ht, hw⟩, trivial⟩
        case struct fs =>
          split at h
          · rename_i ks' e1
            cases hc : Nat.beq ks'.length (P.cellsOf t) with
            | false => rw [hc] at h; cases h
            | true =>
              rw [hc] at h
              simp only [cond_true, Option.some.injEq] at h
              subst h
              have hl := Nat.eq_of_beq_eq_true hc
              have ht2 : (if cs.length = P.cellsOf t then (fs.toList.mapM fun f => DataW.trod enc P w 0 (fun _ => true) true n f.type ((cs.drop f.offset).take (P.cellsOf f.type))).map fun xs => (DataW.agg (xs.map (·.1)), xs.flatMap (·.2)) else none) = some (d, p) := by
                rw [← ht]; conv => rhs; unfold DataW.trod
                rw [hu]
              split at ht2
              · rename_i hlen
                obtain ⟨xs, h3, h4⟩ := Option.map_eq_some_iff.1 ht2
                simp only [Prod.mk.injEq] at h4
                obtain ⟨rfl, rfl⟩ := h4
                simp only [DataW.weights, hu] at hw
                have := mt_fields (P := P) (f := leafKs P m) (n := n) (fun t ks cs d p h1 h2 h3 => ih n t ks cs d p h1 h2 h3) cs fs.toList 0 ks' xs e1 (by rw [hlen, hl]; omega) h3 hw
                simpa using this
              · cases ht2
          · cases h

theorem reach_eq : reachBytes = 140737488351232 := by decide
/-- a row of elements that hold no rows -/
theorem row_of {α : Type} {e : En α} {t E : TypeId} {ks : List LK} {v : Value} {n : Nat} {d : DataW H} {p : List MemPlace} (ht : P.underlying t = some (.slice E)) (hE : leafKs P 12 E = some ks) (hc : P.cellsOf E = e.sz)
    (hdec : ∀ cs, Mt enc P w ks cs → ∃ x, cs = e.enc x) (h : DataW.trod enc P w 0 (fun _ => true) true n t [v] = some (d, p)) (hw : (d.weights P t).all (· ≤ reachBytes) = true) :
    ∃ A len cap l, v = .slice A len cap ∧ Rd e (hpOf w) A len cap l ∧ (∀ x ∈ l, Mt enc P w ks (e.enc x)) ∧ l.length * P.bytesOf E ≤ 140737488351232 := by
  rcases open_slice ht h with ⟨h1, hx⟩ | ⟨a, len, cap, m, n', D, Pl, hv, hb, hl, hm, hmm, hx, hel⟩
  · cases h1; exact ⟨_, _, _, [], rfl, rd_nil e _, fun x hx => (by cases hx), by simp⟩
  · cases hv
    simp only [if_true] at hmm
    subst hmm
    simp only [Prod.mk.injEq] at hx
    obtain ⟨rfl, rfl⟩ := hx
    simp only [DataW.weights, ht, List.all_cons, Bool.and_eq_true, decide_eq_true_eq] at hw
    obtain ⟨hw1, hw2⟩ := hw
    obtain ⟨hw2, -⟩ := all_app hw2
    simp only [List.length_map, List.length_range] at hw1
    have hwe : ∀ i, i < len → ((D i).weights P E).all (· ≤ reachBytes) = true := fun i hi => by
      have : ∀ (l : List (DataW H)) (x : DataW H), x ∈ l → (DataW.weightsAll P E l).all (· ≤ reachBytes) = true → (x.weights P E).all (· ≤ reachBytes) = true := by
        intro l
        induction l with
        | nil => intro x hx; cases hx
        | cons y l ih =>
          intro x hx hh
          simp only [DataW.weightsAll] at hh
          obtain ⟨h1, h2⟩ := all_app hh
          rcases List.mem_cons.1 hx with rfl | hx
          · exact h1
          · exact ih x hx h2
      exact this _ _ (List.mem_map.2 ⟨i, List.mem_range.2 hi, rfl⟩) hw2
    have hone : ∀ i, i < len → ∃ x, w.cells? 0 (a.add (i * e.sz)) e.sz = some (e.enc x) ∧ Mt enc P w ks (e.enc x) := fun i hi => by
      obtain ⟨cs', h1, h2⟩ := hel i (by omega)
      rw [hc] at h1
      have hmt := mt_of_trod 12 _ _ _ _ _ _ hE h2 (hwe i hi)
      obtain ⟨x, rfl⟩ := hdec _ hmt
      exact ⟨x, h1, hmt⟩
    letI : Inhabited α := ⟨e.z⟩
    obtain ⟨f, hf⟩ := choose_lt hone
    refine ⟨some a, len, m, (List.range len).map f, rfl, ⟨by simp, hl, hm, fun hpos => ?_⟩, fun x hx => ?_, ?_⟩
    · have h0 := (World.cells?_some (hf 0 hpos).1).2.2 0 e.pos
      have hspot : a.spot = none := by
        have h2 : ∃ v, (e.enc (f 0))[0]? = some v := ⟨_, List.getElem?_eq_getElem (by rw [e.len]; exact e.pos)⟩
        obtain ⟨v, h2⟩ := h2
        rw [h2] at h0
        have := World.cell?_spot h0
        simpa [Addr.add] using this
      obtain ⟨b, o, spot⟩ := a
      simp only at hspot
      subst hspot
      refine ⟨b, o, rfl, fun i j v hi hv => ?_⟩
      have hv' : (e.enc (f i))[j]? = some v := by
        have : ((List.range len).map f).getD i e.z = f i := by simp [List.getD, hi]
        rwa [this] at hv
      have hj : j < e.sz := by have := (List.getElem?_eq_some_iff.1 hv').1; rwa [e.len] at this
      have hc' := (World.cells?_some (hf i hi).1).2.2 j hj
      rw [add_add, Addr.add_mid, hv', cell_hcell] at hc'
      rw [Nat.add_assoc]
      exact hc'
    · obtain ⟨i, hi, rfl⟩ := List.mem_map.1 hx
      exact (hf i (List.mem_range.1 hi)).2
    · rw [List.length_map, List.length_range]
      rw [reach_eq] at hw1
      exact Nat.le_trans (Nat.mul_le_mul_right _ (Nat.le_add_right _ _)) hw1
/-- a parameter's own weights -/
theorem own_weights {ts : List TypeId} {ds : List (DataW H)} (h : (DataW.weightsEach P ts ds).all (· ≤ reachBytes) = true) {j : Nat} {t : TypeId} {d : DataW H} (ht : ts[j]? = some t) (hd : ds[j]? = some d) : (d.weights P t).all (· ≤ reachBytes) = true :=
  List.all_eq_true.2 fun n hn => List.all_eq_true.1 h n (DataW.weights_mem_each ht hd n hn)
theorem okWide_agg {t : TypeId} {fs : Array Field} {w : World} {r : Reach} {base : Nat} {v : Value} (ht : P.underlying t = some (.struct fs)) (h : Value.okWide P w r base t v) : ∃ cs, v = .agg cs := by
  simp only [Value.okWide, ht] at h
  obtain ⟨cs, h1, -⟩ := h
  exact ⟨cs, h1⟩
end
end Go.Proofs.Ytmdpjijafejgpaa.Sl

/- Cuts behind a place in a row of one's own; clear. -/
set_option linter.unusedVariables false
set_option linter.unusedSimpArgs false
namespace Go.Proofs.Ytmdpjijafejgpaa.Sl
open Go

variable {r : Option Nat} {P : Program} {n : Nat} {D : List Deferred} {L : List (Nat × Value)} {a : Act} {w w0 w' : World} {ops : Array Oper} {Q : Exit → Act → World → Prop} {rest : List Oper}
  {o : Oper} {d : Nat} {v : Value} {cs : List Hp} {pre post : List Hp} {k : Nat} {ty : TypeId} {ps : String} {af : Array Edge} {α : Type} {e : En α} {E : TypeId} {A B : Option Addr} {m c c2 : Nat} {l l2 : List α}

theorem r_cutO {T : TypeId} {x : Operand} {lo hi : Option Operand} {y : Nat} {g : Bool} {z : List Value} (S : Sl n D L a) (hx : evl L x = some (.slice A m c)) (ht : slE P T = some E) (hE : tyI P E = some (g, e.sz, y, z))
    (R : Rd e (hpOf w) A m c l) (p q : Int) (hlo : (match lo with | some u => evl L u | none => some (.int .i64 0)) = some (.int .i64 p)) (hhi : (match hi with | some u => evl L u | none => some (.int .i64 m)) = some (.int .i64 q))
    (h0 : 0 ≤ p) (h1 : p ≤ q) (h2 : q ≤ m) (hd : Nat.blt d n = true) (l' : List α) (hl : (l.take q.toNat).drop p.toNat = l')
    (kk : ∀ A' c' a', (∀ X, Rd e X A m c l → Rd e X A' l'.length c' l') → (∀ g, A = some ⟨g, 0, none⟩ → 0 < l'.length → A' = some ⟨g, p.toNat * e.sz, none⟩) → Sl n D ((d, .slice A' l'.length c') :: L) a' → WL r P ops Q rest a' w) :
    WL r P ops Q (⟨some d, .slice T x lo hi none, ty, ps, af, none⟩ :: rest) a w := by
  subst hl
  have hmc := R.2.1
  have hlen : ((l.take q.toNat).drop p.toNat).length = q.toNat - p.toNat := by rw [List.length_drop, List.length_take, R.1]; omega
  refine r_cut S hx ht hE p q hlo hhi h0 h1 (by omega) hmc hd fun a' S' => kk (cutA A c e.sz p.toNat) (c - p.toNat) a' (fun X RX => ?_) (fun g hg hpos => ?_) (by rw [hlen]; exact S')
  · have := RX.cut p.toNat q.toNat (by omega) (by omega)
    rwa [← hlen] at this
  · rw [cutA, if_neg (by omega), hg, Option.map_some, Addr.add_mid, Nat.zero_add]
theorem zero_flat (e : En α) {zv : Array Value} (hz : zv.toList = e.enc e.z) (k : Nat) : (Builtin.zeroCells zv k).toList = (List.replicate k e.z).flatMap e.enc := by
  have hzs : zv.size = e.sz := by rw [← Array.length_toList, hz, e.len]
  apply List.ext_getElem?
  intro j
  by_cases hj : j < k * e.sz
  · have hd : j / e.sz < k := Nat.div_lt_of_lt_mul (by rwa [Nat.mul_comm] at hj)
    have hmd : j % e.sz < e.sz := Nat.mod_lt _ e.pos
    have hj2 : j = j / e.sz * e.sz + j % e.sz := by rw [Nat.mul_comm]; exact (Nat.div_add_mod j e.sz).symm
    conv => rhs; rw [hj2]
    rw [flat_get e _ _ _ (by simpa using hd) hmd]
    have : (List.replicate k e.z).getD (j / e.sz) e.z = e.z := by rw [List.getD_eq_getElem?_getD, List.getElem?_replicate]; split <;> rfl
    rw [this, ← hz]
    simp [Builtin.zeroCells, hj, hzs]
    rw [getElem!_pos zv _ (by rw [hzs]; exact hmd)]
    simp [hzs, hmd]
  · rw [List.getElem?_eq_none, List.getElem?_eq_none]
    · rw [flat_len]; simp; omega
    · rw [Array.length_toList, size_zeroCells, hzs]; omega
theorem flat_drop (e : En α) (l : List α) (k : Nat) : (l.drop k).flatMap e.enc = (l.flatMap e.enc).drop (k * e.sz) := by
  induction l generalizing k with
  | nil => simp
  | cons x l ih =>
    cases k with
    | zero => simp
    | succ k =>
      have h1 : (k + 1) * e.sz = (e.enc x).length + k * e.sz := by rw [e.len, Nat.add_mul]; omega
      rw [List.drop_succ_cons, List.flatMap_cons, h1, List.drop_length_add_append, ih]
theorem op_val0 {o : Oper} (S : Sl n D L a) (hg : o.guard = none) (hnd : ∀ c, o.op ≠ .defer c) (hd : o.dst = none)
    (hr : (execOp a.eval o).run P w = .ok (.value v) w') (k : WL r P ops Q rest a w') : WL r P ops Q (o :: rest) a w := by
  refine wpListIn_plain hg fun K hK => ⟨fun _ _ => trivial, ?_⟩
  rw [Oper.semAt_eq _ _ _ hnd, hr, Oper.uponIn_value, hd]
  exact hK _ _ k
/-- cells are laid over a part of a row of one's own -/
theorem own_lay (P : Program) (pre : List Hp) (H : HS w0 (pre ++ own e E A m c l :: post) w) {lo : Nat} {xs : List α} (hlo : lo + xs.length ≤ m) (hpos : 0 < xs.length) {A' : Option Addr}
    (hB : ∀ g, A = some ⟨g, 0, none⟩ → A' = some ⟨g, lo * e.sz, none⟩) :
    ∃ ad w', A' = some ad ∧ (storeCells ad (xs.flatMap e.enc)).run P w = .ok () w' ∧ HS w0 (pre ++ own e E A m c (l.take lo ++ xs ++ l.drop (lo + xs.length)) :: post) w' := by
  obtain ⟨h1', h2', dd, hh, ha, -⟩ := SL.pull pre H.sl
  rcases ha.2 with ⟨_, h, _⟩ | ⟨g, cur, hA, q1, q2, q3, q4, q5⟩
  · omega
  have hg : w.heap[g]? = some (.cells cur E (0, 0)) := by
    have : hpOf w g = some (.cells cur E (0, 0)) := by rw [hh]; exact un_some (by rw [q5]; simp [one])
    exact this
  have hl := ha.1
  have hA' := hB g hA
  have h1 : (lo + xs.length) * e.sz ≤ m * e.sz := Nat.mul_le_mul_right _ hlo
  have h2 : m * e.sz ≤ c * e.sz := Nat.mul_le_mul_right _ q1
  rw [Nat.add_mul] at h1
  have hone : ∀ v ∈ xs.flatMap e.enc, v.oneCell' = true := fun v hv => by
    obtain ⟨x, _, hx⟩ := List.mem_flatMap.1 hv
    exact (List.all_eq_true.1 (e.one x)) v hx
  have hs := run_storeCells_at P g (lo * e.sz) E (xs.flatMap e.enc) 0 cur w hg (by rw [flat_len]; omega) hone
  simp only [Nat.add_zero] at hs
  refine ⟨_, _, hA', hs, ?_⟩
  refine HS.setRow H hg fun h q => ?_
  refine ⟨?_, ?_, .inr ⟨g, (cur.toList.take (lo * e.sz) ++ xs.flatMap e.enc ++ cur.toList.drop (lo * e.sz + (xs.flatMap e.enc).length)).toArray, hA, q1, q2, ?_, ?_, ?_⟩⟩
  · rcases q.2 with ⟨_, h, _⟩ | ⟨g', cur', hA2, _, _, _, _, q5'⟩
    · omega
    · rw [hA] at hA2; cases hA2; rw [q5']; simp [one]
  · simp; omega
  · have hcl : cur.toList.length = c * e.sz := by rw [Array.length_toList, q3]
    simp only [List.size_toArray, List.length_append, List.length_take, List.length_drop, flat_len, hcl]; omega
  · have hcl : cur.toList.length = c * e.sz := by rw [Array.length_toList, q3]
    show ((cur.toList.take (lo * e.sz) ++ xs.flatMap e.enc ++ cur.toList.drop (lo * e.sz + (xs.flatMap e.enc).length)).toArray.toList).take (m * e.sz) = _
    rw [List.toList_toArray, take_mid _ _ _ _ (by rw [flat_len]; omega) (by omega), q4, List.flatMap_append, List.flatMap_append, flat_take, flat_drop, flat_len, Nat.add_mul]
  · rcases q.2 with ⟨_, h, _⟩ | ⟨g', cur', hA2, _, _, _, _, q5'⟩
    · omega
    · rw [hA] at hA2; cases hA2; rw [q5']; funext s; simp only [upd, one]; split <;> rfl
theorem r_clear (pre : List Hp) {T : TypeId} {x : Operand} {y : Nat} {g : Bool} {z : List Value} {A' : Option Addr} {c' lo : Nat} (S : Sl n D L a) (H : HS w0 (pre ++ own e E A m c l :: post) w) (hlo : lo ≤ m)
    (hB : ∀ g, A = some ⟨g, 0, none⟩ → 0 < (l.drop lo).length → A' = some ⟨g, lo * e.sz, none⟩) (hx : evl L x = some (.slice A' (l.drop lo).length c')) (ht : slE P T = some E) (hE : tyI P E = some (g, e.sz, y, z)) (hz : z = e.enc e.z)
    (kk : ∀ w', HS w0 (pre ++ own e E A m c (l.take lo ++ List.replicate (l.drop lo).length e.z) :: post) w' → WL r P ops Q rest a w') :
    WL r P ops Q (⟨none, .call { callee := .builtin .clear, args := #[x], argTypes := #[T] }, ty, ps, af, none⟩ :: rest) a w := by
  have hlm := own_len pre H
  have hu := slE_open ht
  obtain ⟨d0, i, zv, q1, q2, q3, q4, q5, q6, q7⟩ := tyI_open hE
  rcases Nat.eq_zero_or_pos (l.drop lo).length with h0 | hpos
  · refine op_val0 S rfl (by intro c h; cases h) rfl (v := .tuple #[]) (w' := w) ?_ (kk w ?_)
    · rw [h0] at hx
      simp [execOp, resolve, invoke, builtin, Builtin.clear_, S.ev hx, Sem.run_bind, run_underlying hu, Sem.run, Result.andThen]
      cases A' <;> simp [Sem.run]
    · rw [h0]
      have : l.drop lo = [] := List.eq_nil_of_length_eq_zero h0
      have e2 : l.take lo = l := by have := List.take_append_drop lo l; rw [‹l.drop lo = []›, List.append_nil] at this; exact this
      rw [e2]; simpa using H
  · obtain ⟨ad, w', hA, hs, hH⟩ := own_lay (e := e) P pre H (lo := lo) (xs := List.replicate (l.drop lo).length e.z) (by simp; omega) (by simpa using hpos) (fun g hg => hB g hg hpos)
    subst hA
    have hzf := zero_flat e (zv := zv.cells) (by rw [q7, hz]) (l.drop lo).length
    refine op_val0 S rfl (by intro c h; cases h) rfl (v := .tuple #[]) (w' := w') ?_ (kk w' ?_)
    · obtain ⟨k, hk⟩ : ∃ k, (l.drop lo).length = k + 1 := ⟨(l.drop lo).length - 1, by omega⟩
      have hzv : (zeroValue E).run P w = .ok zv w := by simp [zeroValue, typeInfo, program, Sem.run_bind, Sem.run, Result.andThen, q3, q6]
      rw [← hzf] at hs
      rw [hk] at hx hs
      simp [execOp, resolve, invoke, builtin, Builtin.clear_, S.ev hx, Sem.run_bind, run_underlying hu, Sem.run, Result.andThen, hzv, hs]
    · rw [List.length_replicate] at hH
      have : l.drop (lo + (l.drop lo).length) = [] := List.drop_of_length_le (by rw [List.length_drop]; omega)
      rwa [this, List.append_nil] at hH
end Go.Proofs.Ytmdpjijafejgpaa.Sl

/- '==' of structs; results that stand in cells. -/
set_option linter.unusedVariables false
set_option linter.unusedSimpArgs false
namespace Go.Proofs.Ytmdpjijafejgpaa.Sl
open Go

variable {r : Option Nat} {P : Program} {n : Nat} {D : List Deferred} {L : List (Nat × Value)} {a : Act} {w w0 w' : World} {ops : Array Oper} {Q : Exit → Act → World → Prop} {rest : List Oper}
  {o : Oper} {d : Nat} {v : Value} {cs : List Hp} {pre post : List Hp} {k : Nat} {ty : TypeId} {ps : String} {af : Array Edge} {α : Type} {e : En α} {E : TypeId} {A B : Option Addr} {m c c2 : Nat} {l l2 : List α}
  {dst : Option Nat} {gu : Option (Nat × Bool)}

def partV (P : Program) (T off : Nat) (xs : Array Value) : Option Value := match tyI P T with
  | some (true, m, _, _) => some (.agg ((xs.toList.drop off).take m).toArray)
  | some (false, _, _, _) => xs[off]?
  | none => none
def eqFs (P : Program) (eq : TypeId → Value → Value → Option Bool) : List Field → Array Value → Array Value → Option Bool
  | [], _, _ => some true
  | f :: fs, xs, ys => cond (decide (f.name = "_")) (eqFs P eq fs xs ys) (match partV P f.type f.offset xs, partV P f.type f.offset ys with
    | some a, some b => match eq f.type a b, eqFs P eq fs xs ys with
      | some r, some s => some (r && s)
      | _, _ => none
    | _, _ => none)
def eqV (P : Program) : Nat → TypeId → Value → Value → Option Bool
  | 0, _, _, _ => none
  | d + 1, t, x, y => match P.underlying t, x, y with
    | some (.int _), .int k a, .int k' b => cond (decide (k = k')) (some (a == b)) none
    | some .bool, .bool a, .bool b => some (a == b)
    | some .string, .string a, .string b => some (a.toList == b.toList)
    | some (.struct fs), .agg xs, .agg ys => cond (P.stoodInHeld t) none (eqFs P (eqV P d) fs.toList xs ys)
    | _, _, _ => none
theorem part_run {T off : Nat} {xs : Array Value} {v : Value} (h : partV P T off xs = some v) (w : World) : (part T xs off).run P w = .ok v w := by
  unfold partV at h
  split at h
  · rename_i m y z ht
    obtain ⟨d0, i, zv, q1, q2, q3, q4, q5, q6, q7⟩ := tyI_open ht
    have hagg : (isAgg T).run P w = .ok true w := by
      unfold isAgg
      rw [Sem.run_bind, run_underlying q1 w]
      cases d0 <;> simp_all [TypeDesc.isRow, Sem.run, Result.andThen]
    simp only [Option.some.injEq] at h
    subst h
    obtain ⟨xs⟩ := xs
    simp [part, hagg, sizeOf, typeInfo, program, Sem.run, Sem.run_bind, Result.andThen, q3, q4]
  · rename_i m y z ht
    obtain ⟨d0, i, zv, q1, q2, q3, q4, q5, q6, q7⟩ := tyI_open ht
    have hagg : (isAgg T).run P w = .ok false w := by
      unfold isAgg
      rw [Sem.run_bind, run_underlying q1 w]
      cases d0 <;> simp_all [TypeDesc.isRow, Sem.run, Result.andThen]
    simp [part, hagg, Sem.run, Sem.run_bind, Result.andThen, h]
  · cases h
theorem eqFs_run {eq : TypeId → Value → Value → Option Bool} {d : Nat} (h : ∀ t x y b, eq t x y = some b → ∀ w, (Op.equalIn d t x y).run P w = .ok b w) : ∀ (fs : List Field) (xs ys : Array Value) (b : Bool) (w : World), eqFs P eq fs xs ys = some b → (Op.eqFields d xs ys fs).run P w = .ok b w
  | [], xs, ys, b, w, hb => by simp only [eqFs, Option.some.injEq] at hb; subst hb; rfl
  | f :: fs, xs, ys, b, w, hb => by
    simp only [eqFs] at hb
    by_cases hn : f.name = "_"
    · rw [decide_eq_true hn] at hb
      simp only [Op.eqFields, hn, ne_eq, not_true_eq_false, if_false]
      exact eqFs_run h fs xs ys b w hb
    · rw [decide_eq_false hn, cond_false] at hb
      split at hb
      · rename_i u v hu hv
        split at hb
        · rename_i r s hr hs
          simp only [Option.some.injEq] at hb
          subst hb
          simp only [Op.eqFields, ne_eq, hn, not_false_eq_true, if_true, Sem.run_bind, part_run hu, part_run hv, Result.andThen_ok, h _ _ _ _ hr]
          cases r with
          | false => simp [Sem.run]
          | true => simpa using eqFs_run h fs xs ys s w hs
        · cases hb
      · cases hb
theorem eqV_run : ∀ (d : Nat) (t : TypeId) (x y : Value) (b : Bool), eqV P d t x y = some b → ∀ (n : Nat) (w : World), (Op.equalIn (d + n) t x y).run P w = .ok b w
  | 0, _, _, _, _, h => by cases h
  | d + 1, t, x, y, b, h => by
    intro n w
    simp only [eqV] at h
    rw [Nat.add_right_comm]
    split at h
    · rename_i k0 k p k' q hu
      cases hk : decide (k = k') with
      | false => rw [hk] at h; cases h
      | true =>
        have := of_decide_eq_true hk; subst this
        rw [hk] at h; simp only [cond_true, Option.some.injEq] at h
        subst h
        exact run_equalIn_int w (d + n) t k k0 p q hu
    · rename_i p q hu
      simp only [Option.some.injEq] at h; subst h
      exact run_equalIn_bool w (d + n) t p q hu
    · rename_i p q hu
      simp only [Option.some.injEq] at h; subst h
      exact run_equalIn_string w (d + n) t p q hu
    · rename_i fs xs ys hu
      cases hh : P.stoodInHeld t with
      | true => rw [hh] at h; cases h
      | false =>
        rw [hh, cond_false] at h
        have hf : P.fieldsOf t = fs := by unfold Program.fieldsOf; rw [hu]
        rw [run_equalIn_struct w (d + n) t xs ys (by rw [hu, hf]) hh, hf]
        exact eqFs_run (fun t x y b hb w => eqV_run d t x y b hb n w) fs.toList xs ys b w h
    · cases h
theorem y_seq {T T' : TypeId} {x y : Operand} {us vs : List Value} {b : Bool} (S : Sl n D L a) (hx : evl L x = some (.agg us.toArray)) (hy : evl L y = some (.agg vs.toArray)) (hs : P.eqGuardType P.depth T = false ∧ eqV P 10 T (.agg us.toArray) (.agg vs.toArray) = some b) :
    (execOp a.eval ⟨dst, .binOp .eql T x y T', ty, ps, af, gu⟩).run P w = .ok (.value (.bool b)) w := by
  have h1 := eqV_run 10 T _ _ b hs.2 9990 w
  simp [execOp, S.ev hx, S.ev hy, Sem.run_bind, run_eqGuard_agg _ _ _ _ _ _ _ hs.1, run_eql_struct, h1, Result.andThen, Sem.run]
theorem y_sne {T T' : TypeId} {x y : Operand} {us vs : List Value} {b : Bool} (S : Sl n D L a) (hx : evl L x = some (.agg us.toArray)) (hy : evl L y = some (.agg vs.toArray)) (hs : P.eqGuardType P.depth T = false ∧ eqV P 10 T (.agg us.toArray) (.agg vs.toArray) = some b) :
    (execOp a.eval ⟨dst, .binOp .neq T x y T', ty, ps, af, gu⟩).run P w = .ok (.value (.bool (!b))) w := by
  have h1 := eqV_run 10 T _ _ b hs.2 9990 w
  simp [execOp, S.ev hx, S.ev hy, Sem.run_bind, run_eqGuard_agg _ _ _ _ _ _ _ hs.1, run_neq_struct, h1, Result.andThen, Sem.run]
theorem r_seq {T T' : TypeId} {x y : Operand} {us vs : List Value} {b : Bool} (S : Sl n D L a) (hx : evl L x = some (.agg us.toArray)) (hy : evl L y = some (.agg vs.toArray)) (hs : P.eqGuardType P.depth T = false ∧ eqV P 10 T (.agg us.toArray) (.agg vs.toArray) = some b) (hd : Nat.blt d n = true)
    (kk : ∀ a', Sl n D ((d, .bool b) :: L) a' → WL r P ops Q rest a' w) : WL r P ops Q (⟨some d, .binOp .eql T x y T', ty, ps, af, none⟩ :: rest) a w := op_ok S rfl (by intro c h; cases h) rfl (blt_lt hd) (y_seq S hx hy hs) kk
theorem r_sne {T T' : TypeId} {x y : Operand} {us vs : List Value} {b : Bool} (S : Sl n D L a) (hx : evl L x = some (.agg us.toArray)) (hy : evl L y = some (.agg vs.toArray)) (hs : P.eqGuardType P.depth T = false ∧ eqV P 10 T (.agg us.toArray) (.agg vs.toArray) = some b) (hd : Nat.blt d n = true)
    (kk : ∀ a', Sl n D ((d, .bool (!b)) :: L) a' → WL r P ops Q rest a' w) : WL r P ops Q (⟨some d, .binOp .neq T x y T', ty, ps, af, none⟩ :: rest) a w := op_ok S rfl (by intro c h; cases h) rfl (blt_lt hd) (y_sne S hx hy hs) kk
/-! ### results, some of them in cells -/
def vAgg (g : Bool) (vs : List Value) (v : Value) : Prop := cond g (v = .agg vs.toArray) (vs = [v])
def RV (P : Program) (L : List (Nat × Value)) (w : World) : ResultVar → Value → Prop
  | .tmp t, v => lk t L = some v
  | .cell t T, v => ∃ b o g m y z, lk t L = some (.pointer (some ⟨b, o, none⟩)) ∧ tyI P T = some (g, m, y, z) ∧ ∃ vs, w.rangeAt b o vs ∧ vs.length = m ∧ vAgg g vs v
def RVs (P : Program) (L : List (Nat × Value)) (w : World) : List ResultVar → List Value → Prop
  | [], [] => True
  | x :: xs, v :: vs => RV P L w x v ∧ RVs P L w xs vs
  | _, _ => False
theorem rv_cell (pre : List Hp) {b : Nat} {T0 T t : Nat} {bs : List Value} {m y : Nat} {z : List Value} {g : Bool} (H : HS w0 (pre ++ bx b T0 bs :: post) w) (ht : lk t L = some (.pointer (some ⟨b, 0, none⟩))) (hT : tyI P T = some (g, m, y, z)) (hl : bs.length = m)
    (hv : vAgg g bs v) : RV P L w (.cell t T) v :=
  ⟨b, 0, g, m, y, z, ht, hT, bs, by have := bx_range pre H 0 bs.length; rwa [List.drop_zero, List.take_length] at this, hl, hv⟩
def resV (tmps : Array Value) : ResultVar → Sem Value
  | .tmp t => pure (tmps.getD t undef)
  | .cell s t => do loadVar t (← asAddr (tmps.getD s undef))
def pack (vs : Array Value) : Value := if h : vs.size = 1 then vs[0] else .tuple vs
theorem results_eq (fn : Func) (tmps : Array Value) : results fn tmps = (do let vs ← fn.results.mapM (resV tmps); pure (pack vs)) := by
  unfold results
  congr 1
theorem rv_run (S : Sl n D L a) {x : ResultVar} (h : RV P L w x v) : (resV a.tmps x).run P w = .ok v w := by
  cases x with
  | tmp t => have h' : lk t L = some v := h; show Sem.run P (pure _) w = _; rw [S.sl t v h']; rfl
  | cell t T =>
    obtain ⟨b, o, g, m, y, z, h1, h2, vs, h3, h4, h5⟩ := h
    have hr := run_load (P := P) w b o T h2 vs h4 h3
    have e1 : (Instr.loadAt T (.pointer (some ⟨b, o, none⟩))).run P w = (loadVar T ⟨b, o, none⟩).run P w := by simp [Instr.loadAt, Instr.sureAddr, Sem.run_bind, Sem.run, Result.andThen]
    have e2 := S.sl t _ h1
    show Sem.run P (do loadVar T (← asAddr (a.tmps.getD t undef))) w = _
    rw [e2]
    simp only [asAddr, Sem.run_bind, Sem.run_pure, Result.andThen_ok]
    rw [← e1]
    cases g with
    | true => have h5' : v = .agg vs.toArray := h5; subst h5'; exact hr
    | false => have h5' : vs = [v] := h5; subst h5'; exact hr
theorem rvs_run (S : Sl n D L a) : ∀ (rs : List ResultVar) (vs : List Value), RVs P L w rs vs → (rs.mapM (resV a.tmps)).run P w = .ok vs w
  | [], [], _ => by simp [Sem.run]
  | [], _ :: _, h => h.elim
  | _ :: _, [], h => h.elim
  | x :: rs, v :: vs, h => by
    have h1 := rv_run S h.1
    simp only [List.mapM_cons, Sem.run_bind, h1, Result.andThen_ok, rvs_run S rs vs h.2, Sem.run_pure]
theorem retL {fn : Func} {R : Ending → World → Prop} (rs : List ResultVar) (vs : List Value) (S : Sl n [] L a) (hr : fn.results = rs.toArray) (hv : RVs P L w rs vs) (u : Value) (hu : pack vs.toArray = u) (h : R (.returned u) w) : bodyPost P fn R .ret a w := by
  refine bodyPost_ret (v := u) ?_ S.df h
  have hk := rvs_run S rs vs hv
  rw [results_eq, hr, List.mapM_toArray]
  generalize rs.mapM (resV a.tmps) = gg at hk ⊢
  simp [Sem.run_bind, hk, Sem.run, Result.andThen, hu]
end Go.Proofs.Ytmdpjijafejgpaa.Sl

/- Maps of the call's own, their keys whole numbers. -/
set_option linter.unusedVariables false
set_option linter.unusedSimpArgs false
namespace Go.Proofs.Ytmdpjijafejgpaa.Sl
open Go

variable {r : Option Nat} {P : Program} {n : Nat} {D : List Deferred} {L : List (Nat × Value)} {a : Act} {w w0 w' : World} {ops : Array Oper} {Q : Exit → Act → World → Prop} {rest : List Oper}
  {o : Oper} {d : Nat} {v : Value} {cs : List Hp} {pre post : List Hp} {k : Nat} {ty : TypeId} {ps : String} {af : Array Edge} {α β : Type} {dst : Option Nat} {gu : Option (Nat × Bool)} {kk : IntKind} {ec : β → Value} {b : Nat} {m : List (Int × β)}

def mfind : List (Int × β) → Int → Nat → Option (Nat × β)
  | [], _, _ => none
  | (x, y) :: r, p, i => if p = x then some (i, y) else mfind r p (i + 1)
def mput : List (Int × β) → Int → β → List (Int × β)
  | [], p, v => [(p, v)]
  | (x, y) :: r, p, v => if p = x then (x, v) :: r else (x, y) :: mput r p v
def mget (m : List (Int × β)) (p : Int) (z : β) : β := match mfind m p 0 with | some (_, y) => y | none => z
def mhas (m : List (Int × β)) (p : Int) : Bool := (mfind m p 0).isSome
def ent (kk : IntKind) (ec : β → Value) (es : List MapEntry) (m : List (Int × β)) : Prop := es.map (fun e => (e.key, e.val)) = m.map (fun p => (Value.int kk p.1, ec p.2))
/-- a map of the call's own -/
def mp (kk : IntKind) (ec : β → Value) (b : Nat) (m : List (Int × β)) : Hp := fun h => ∃ es clock, h = one b (.map es clock) ∧ ent kk ec es.toList m
theorem findNow_ok {q : IntKind} (p : Int) : ∀ (es : List MapEntry) (m : List (Int × β)) (i : Nat), ent kk ec es m → Instr.findNow (.int q) (.int kk p) es i = some ((mfind m p i).map fun x => (x.1, ec x.2))
  | [], [], i, _ => rfl
  | [], _ :: _, i, h => by simp [ent] at h
  | _ :: _, [], i, h => by simp [ent] at h
  | e :: es, (x, y) :: m, i, h => by
    simp only [ent, List.map_cons, List.cons.injEq, Prod.mk.injEq] at h
    obtain ⟨⟨h1, h2⟩, h3⟩ := h
    simp only [Instr.findNow, h1, Instr.sameNow, if_true, mfind]
    by_cases hp : p = x
    · subst hp; simp [h2]
    · have : (p == x) = false := by simpa using hp
      simp only [this, hp, if_false]
      exact findNow_ok p es m (i + 1) h3
theorem mfind_lt (p : Int) : ∀ (m : List (Int × β)) (i j : Nat) (y : β), mfind m p i = some (j, y) → i ≤ j ∧ j < i + m.length
  | [], _, _, _, h => by cases h
  | (x, z) :: m, i, j, y, h => by
    simp only [mfind] at h
    split at h
    · cases h; simp
    · have := mfind_lt p m (i + 1) j y h
      simp; omega
theorem ent_put {p : Int} {u : β} (key : Value) (hk : key = .int kk p) : ∀ (es : List MapEntry) (m : List (Int × β)) (i : Nat) (j : Nat) (y : β), ent kk ec es m → mfind m p i = some (j, y) → ent kk ec (es.modify (j - i) fun e => { e with key := key, val := ec u }) (mput m p u)
  | [], [], _, _, _, _, h => by cases h
  | [], _ :: _, i, _, _, h, _ => by simp [ent] at h
  | _ :: _, [], i, _, _, h, _ => by simp [ent] at h
  | e :: es, (x, z) :: m, i, j, y, h, hf => by
    have h0 := h
    simp only [ent, List.map_cons, List.cons.injEq, Prod.mk.injEq] at h
    obtain ⟨⟨h1, h2⟩, h3⟩ := h
    simp only [mfind] at hf
    by_cases hp : p = x
    · rw [if_pos hp] at hf
      cases hf
      subst hp
      simp [ent, mput, hk, h3]
    · rw [if_neg hp] at hf
      have hl := mfind_lt p m (i + 1) j y hf
      have ih := ent_put (u := u) key hk es m (i + 1) j y h3 hf
      rw [show j - i = (j - (i + 1)) + 1 by omega, List.modify_succ_cons]
      simp only [mput, hp, if_false, ent, List.map_cons, h1, h2]
      unfold ent at ih
      rw [ih]
theorem ent_push {p : Int} {u : β} {cl : Nat} : ∀ (es : List MapEntry) (m : List (Int × β)) (i : Nat), ent kk ec es m → mfind m p i = none → ent kk ec (es ++ [{ key := .int kk p, val := ec u, born := cl }]) (mput m p u)
  | [], [], _, _, _ => by simp [ent, mput]
  | [], _ :: _, i, h, _ => by simp [ent] at h
  | _ :: _, [], i, h, _ => by simp [ent] at h
  | e :: es, (x, z) :: m, i, h, hf => by
    simp only [ent, List.map_cons, List.cons.injEq, Prod.mk.injEq] at h
    obtain ⟨⟨h1, h2⟩, h3⟩ := h
    simp only [mfind] at hf
    by_cases hp : p = x
    · rw [if_pos hp] at hf; cases hf
    · rw [if_neg hp] at hf
      have ih := ent_push (u := u) (cl := cl) es m (i + 1) h3 hf
      simp only [mput, hp, if_false, ent, List.map_cons, List.cons_append, h1, h2]
      unfold ent at ih
      rw [ih]
/-- of a map type: its keys' type, its elements' -/
def mpE (P : Program) (T : TypeId) : Option (TypeId × TypeId) := match P.underlying T with
  | some (.map k e) => some (k, e)
  | _ => none
theorem mpE_open {T K E : TypeId} (h : mpE P T = some (K, E)) : P.underlying T = some (.map K E) := by
  unfold mpE at h; split at h
  · rename_i h1; cases h; exact h1
  · cases h
theorem mp_obj (pre : List Hp) (H : HS w0 (pre ++ mp kk ec b m :: post) w) : ∃ es clock, w.heap[b]? = some (.map es clock) ∧ ent kk ec es.toList m := by
  obtain ⟨h1', h2', dd, hh, ⟨es, clock, ha, hb⟩, -⟩ := SL.pull pre H.sl
  refine ⟨es, clock, ?_, hb⟩
  have : hpOf w b = some (.map es clock) := by rw [hh]; exact un_some (by rw [ha]; simp [one])
  exact this
theorem r_makeMap {T : TypeId} (S : Sl n D L a) (H : HS w0 cs w) (kk : IntKind) (ec : β → Value) (hd : Nat.blt d n = true)
    (k : ∀ b a' w', Sl n D ((d, .map (some b)) :: L) a' → HS w0 (mp kk ec b [] :: cs) w' → WL r P ops Q rest a' w') :
    WL r P ops Q (⟨some d, .makeMap T none, ty, ps, af, none⟩ :: rest) a w := by
  refine op_ok S rfl (by intro c h; cases h) rfl (blt_lt hd) (v := .map (some w.heap.size)) (w' := w.alloc (.map #[] 0)) ?_ fun a' S' => k _ a' _ S' ?_
  · simp [execOp, Instr.makeMap, Sem.run_bind, Sem.run, Result.andThen, newObj]
  · exact (H.alloc (.map #[] 0)).map fun q => q.head_mono fun h e => ⟨#[], 0, e, by simp [ent]⟩
theorem check_int {K : TypeId} {q : IntKind} (hK : P.underlying K = some (.int q)) (e : Bool) (p : Int) (w : World) : (Instr.checkKey e 10000 K (.int kk p)).run P w = .ok () w := by
  have h : ∀ n, (Instr.checkKey e (n + 1) K (.int kk p)).run P w = .ok () w := fun n => by simp [Instr.checkKey, Sem.run_bind, run_underlying hK, Result.andThen, Sem.run]
  exact h 9999
theorem find_int {K : TypeId} {q : IntKind} (hK : P.underlying K = some (.int q)) {es : Array MapEntry} (he : ent kk ec es.toList m) (p : Int) (w : World) : (Instr.findKey K (.int kk p) es.toList).run P w = .ok ((mfind m p 0).map fun x => (x.1, ec x.2)) w := by
  simp [Instr.findKey, Sem.run_bind, run_underlying hK, Result.andThen, Sem.run, findNow_ok p _ m 0 he]
theorem y_lookup (pre : List Hp) {T K E : TypeId} {q : IntKind} {x y : Operand} {p : Int} {y0 : Nat} {z : β} (S : Sl n D L a) (H : HS w0 (pre ++ mp kk ec b m :: post) w) (hx : evl L x = some (.map (some b))) (hy : evl L y = some (.int kk p)) (ht : mpE P T = some (K, E)) (hK : P.underlying K = some (.int q))
    (hz : ∀ w, (zeroValue E).run P w = .ok (ec z) w) : (execOp a.eval ⟨dst, .lookup T x y false, ty, ps, af, gu⟩).run P w = .ok (.value (ec (mget m p z))) w := by
  obtain ⟨es, clock, ho, he⟩ := mp_obj pre H
  have hg : (getObj b).run P w = .ok (.map es clock) w := by simp [getObj, Sem.run, Sem.run_bind, Result.andThen, ho]
  simp only [execOp, Instr.lookup, S.ev hx, S.ev hy, Sem.run_bind, run_underlying (mpE_open ht), Result.andThen_ok, hg, Sem.run_pure, check_int hK, find_int hK he]
  unfold mget
  cases mfind m p 0 with
  | none => simp [Sem.run_bind, hz, Result.andThen, Sem.run]
  | some x => simp [Sem.run, Result.andThen]
theorem HS.setObj {c c' : Hp} {ob ob' : Obj} (pre : List Hp) (H : HS w0 (pre ++ c :: post) w) (hb : w.heap[b]? = some ob) (f : ∀ h, c h → h b ≠ none ∧ c' (upd h b ob')) : HS w0 (pre ++ c' :: post) { w with heap := w.heap.setIfInBounds b ob' } := by
  have hlt := (Array.getElem?_eq_some_iff.1 hb).1
  refine ⟨?_, H.os, H.tape, H.out, by simpa using H.size, H.dr⟩
  have : hpOf { w with heap := w.heap.setIfInBounds b ob' } = upd (hpOf w) b ob' := by
    funext k
    simp only [hpOf, upd]
    by_cases e : k = b
    · subst e; simp [hlt]
    · rw [if_neg e, Array.getElem?_setIfInBounds_ne (Ne.symm e)]
  rw [this]
  exact SL.upd H.sl b _ f
theorem r_lookup (pre : List Hp) {T K E : TypeId} {q : IntKind} {x y : Operand} {p : Int} {z : β} (S : Sl n D L a) (H : HS w0 (pre ++ mp kk ec b m :: post) w) (hx : evl L x = some (.map (some b))) (hy : evl L y = some (.int kk p)) (ht : mpE P T = some (K, E)) (hK : P.underlying K = some (.int q))
    (hz : ∀ w, (zeroValue E).run P w = .ok (ec z) w) (hd : Nat.blt d n = true) (k : ∀ a', Sl n D ((d, ec (mget m p z)) :: L) a' → WL r P ops Q rest a' w) : WL r P ops Q (⟨some d, .lookup T x y false, ty, ps, af, none⟩ :: rest) a w :=
  op_ok S rfl (by intro c h; cases h) rfl (blt_lt hd) (y_lookup (y0 := 0) pre S H hx hy ht hK hz) k
def zvI (P : Program) (T : TypeId) : Option Value := (P.info? T).bind (·.zero)
theorem zv_run {T : TypeId} {v : Value} (h : zvI P T = some v) (w : World) : (zeroValue T).run P w = .ok v w := by
  unfold zvI at h
  obtain ⟨i, h1, h2⟩ := Option.bind_eq_some_iff.mp h
  simp [zeroValue, typeInfo, program, Sem.run_bind, Sem.run, Result.andThen, h1, h2]
abbrev m_bool : Bool → Value := Value.bool
abbrev m_i64 : Int → Value := Value.int .i64
theorem keyStays (p : Int) (w : World) : (Instr.keyThatStays (.int kk p) (.int kk p)).run P w = .ok (.int kk p) w := by
  have h : ∀ n, Instr.sameBits (n + 1) (.int kk p) (.int kk p) = true := fun n => by simp [Instr.sameBits]
  simp [Instr.keyThatStays, h 9999, Sem.run]
theorem mfind_key (p : Int) : ∀ (es : List MapEntry) (m : List (Int × β)) (i j : Nat) (y : β), ent kk ec es m → mfind m p i = some (j, y) → ((es[j - i]?).map (·.key)) = some (.int kk p)
  | [], [], _, _, _, _, h => by cases h
  | [], _ :: _, i, _, _, h, _ => by simp [ent] at h
  | _ :: _, [], i, _, _, h, _ => by simp [ent] at h
  | e :: es, (x, z) :: m, i, j, y, h, hf => by
    simp only [ent, List.map_cons, List.cons.injEq, Prod.mk.injEq] at h
    obtain ⟨⟨h1, h2⟩, h3⟩ := h
    simp only [mfind] at hf
    by_cases hp : p = x
    · rw [if_pos hp] at hf
      cases hf; subst hp; simp [h1]
    · rw [if_neg hp] at hf
      have hl := mfind_lt p m (i + 1) j y hf
      have ih := mfind_key p es m (i + 1) j y h3 hf
      rw [show j - i = (j - (i + 1)) + 1 by omega, List.getElem?_cons_succ]; exact ih
/-- a call of a function value that bears arguments ahead -/
theorem r_callB {f : Nat} {xs : List Operand} {ts : Array TypeId} {vs : List Value} {fo : Operand} {first caps : List Value} (S : Sl n D L a)
    (hfo : evl L fo = some (.func (.func f) first.toArray caps.toArray)) (hxs : evls L xs = some vs) (hg : Goes P f) (hd : Nat.blt d n = true)
    (h : Calls P f (first ++ vs ++ caps).toArray w fun e w' => ∃ v, e = .returned v ∧ ∀ a', Sl n D ((d, v) :: L) a' → WL r P ops Q rest a' w') :
    WL r P ops Q (⟨some d, .call { callee := .value fo, args := xs.toArray, argTypes := ts }, ty, ps, af, none⟩ :: rest) a w := by
  obtain ⟨fn, c, hf, hb, hnn⟩ := hg
  refine wpListIn_plain rfl fun K hK => ⟨fun _ _ => trivial, ?_⟩
  rw [Oper.semAt_eq _ _ _ (by intro c h; cases h)]
  have e1 : xs.toArray.map a.eval = vs.toArray := by rw [← S.evs hxs]; simp
  have e2 := S.ev hfo
  have hr : (execOp a.eval ⟨some d, .call { callee := .value fo, args := xs.toArray, argTypes := ts }, ty, ps, af, none⟩).run P w = .ok (.enter f (first ++ vs ++ caps).toArray) w := by
    simp only [execOp, resolve, e1, e2, Deferred.ofValue, Sem.run_bind, Result.andThen]
    simp [Sem.run, invoke, callFunc_enter (P := P) (w := w) hf hb hnn, Sem.run_bind, Result.andThen]
  rw [hr, Oper.uponIn_enter]
  refine ⟨(fun h => by cases h), ?_⟩
  refine CallsIn.mono (callsIn_wide.2 h) ?_
  rintro e w' ⟨v, rfl, hk⟩
  exact hK _ _ (hk _ (S.put (blt_lt hd) v))
/-- 'm[k] = v' -/
theorem r_mapUpdate (pre : List Hp) {T K E : TypeId} {q : IntKind} {x y u : Operand} {p : Int} (S : Sl n D L a) (H : HS w0 (pre ++ mp kk ec b m :: post) w) (hx : evl L x = some (.map (some b))) (hy : evl L y = some (.int kk p)) (t : β) (hu : evl L u = some (ec t)) (ht : mpE P T = some (K, E)) (hK : P.underlying K = some (.int q))
    (k : ∀ w', HS w0 (pre ++ mp kk ec b (mput m p t) :: post) w' → WL r P ops Q rest a w') : WL r P ops Q (⟨none, .mapUpdate T x y u, ty, ps, af, none⟩ :: rest) a w := by
  obtain ⟨es, clock, ho, he⟩ := mp_obj pre H
  have hg : (getObj b).run P w = .ok (.map es clock) w := by simp [getObj, Sem.run, Sem.run_bind, Result.andThen, ho]
  have done : ∀ es' clock', ent kk ec es'.toList (mput m p t) → HS w0 (pre ++ mp kk ec b (mput m p t) :: post) { w with heap := w.heap.setIfInBounds b (.map es' clock') } := fun es' clock' h' => HS.setObj pre H ho fun h q => by
    obtain ⟨es0, cl0, rfl, _⟩ := q
    refine ⟨by simp [one], es', clock', ?_, h'⟩
    funext s; simp only [upd, one]; split <;> rfl
  cases hf : mfind m p 0 with
  | none =>
    refine op_skip S rfl (by intro c h; cases h) rfl (w' := { w with heap := w.heap.setIfInBounds b (.map (es.push { key := .int kk p, val := ec t, born := clock }) (clock + 1)) }) ?_ (k _ (done _ _ ?_))
    · simp only [execOp, Instr.mapUpdate, S.ev hx, S.ev hy, S.ev hu, Sem.run_bind, run_underlying (mpE_open ht), Result.andThen_ok, hg, check_int hK, find_int hK he, hf]
      simp [setObj, Sem.run, Result.andThen, ho]
    · have := ent_push (u := t) (cl := clock) (p := p) es.toList m 0 he hf
      simpa using this
  | some jy =>
    obtain ⟨j, y0⟩ := jy
    have hkey := mfind_key p es.toList m 0 j y0 he hf
    have hlt := mfind_lt p m 0 j y0 hf
    have hes : es.size = m.length := by have := congrArg List.length he; simpa using this
    refine op_skip S rfl (by intro c h; cases h) rfl (w' := { w with heap := w.heap.setIfInBounds b (.map (es.modify j fun e => { e with key := .int kk p, val := ec t }) clock) }) ?_ (k _ (done _ _ ?_))
    · have hk2 : ((es[j]?).map (·.key)).getD (.int kk p) = .int kk p := by
        have : (es[j]?).map (·.key) = some (.int kk p) := by simpa using hkey
        rw [this]; rfl
      simp only [execOp, Instr.mapUpdate, S.ev hx, S.ev hy, S.ev hu, Sem.run_bind, run_underlying (mpE_open ht), Result.andThen_ok, hg, check_int hK, find_int hK he, hf, Option.map_some, hk2, keyStays]
      simp [setObj, Sem.run, Result.andThen, ho]
    · have := ent_put (u := t) (.int kk p) rfl es.toList m 0 j y0 he hf
      simpa using this
end Go.Proofs.Ytmdpjijafejgpaa.Sl

/- A range over a function: the loop's record and the block for its deferred calls as chunks; the statement, a call of yield, a round's ends, and a function that leaves with marks. -/
set_option linter.unusedVariables false
set_option linter.unusedSimpArgs false
namespace Go.Proofs.Ytmdpjijafejgpaa.Sl
open Go

variable {r : Option Nat} {P : Program} {n m : Nat} {D DA : List Deferred} {L LA : List (Nat × Value)} {a A : Act} {w w0 w' : World} {ops : Array Oper} {Q : Exit → Act → World → Prop} {rest : List Oper}
  {o : Oper} {d : Nat} {v : Value} {cs pre post : List Hp} {ty : TypeId} {ps : String} {af : Array Edge} {l dd fn : Nat} {T : Array Value} {qs : Array Tmp} {asg bd : Code} {R : Ending → World → Prop} {rc : LoopState → Option Code → Loop}

/-- a loop's record -/
def lpx (l : Nat) (rc : LoopState → Option Code → Loop) (st : LoopState) (pe : Option Code) : Hp := fun h => h = one l (.loop (rc st pe))
def IsRc (rc : LoopState → Option Code → Loop) (fn : FuncId) (T : Array Value) (qs : Array Tmp) (asg bd : Code) (dd : Nat) : Prop :=
  rc = fun st pe => { state := st, pending := pe, fn, tmps := T, params := qs, assign := asg, body := bd, defers := dd }
/-- the block for a loop's deferred calls: none -/
def dfc (dd : Nat) : Hp := fun h => h = one dd (.deferred (some []))
abbrev mk (dd : Nat) : Deferred := { target := .collected dd, args := #[] }

theorem one_blk (pre : List Hp) {b : Nat} {ob : Obj} {c : Hp} (hc : ∀ h, c h → h = one b ob) (H : HS w0 (pre ++ c :: post) w) : w.heap[b]? = some ob := by
  obtain ⟨h1', h2', dd, hh, ha, -⟩ := SL.pull pre H.sl
  have : hpOf w b = some ob := by rw [hh]; exact un_some (by rw [hc _ ha]; simp [one])
  exact this
theorem lpx_blk (pre : List Hp) {st : LoopState} {pe : Option Code} (H : HS w0 (pre ++ lpx l rc st pe :: post) w) : w.heap[l]? = some (.loop (rc st pe)) := one_blk pre (fun h e => e) H
theorem HS.putOne (pre : List Hp) {b : Nat} {ob ob' : Obj} {c : Hp} (hc : ∀ h, c h → h = one b ob) (H : HS w0 (pre ++ c :: post) w) : HS w0 (pre ++ (fun h => h = one b ob') :: post) (w.putObj b ob') := by
  refine HS.setObj pre H (one_blk pre hc H) fun h q => ?_
  rw [hc _ q]
  refine ⟨by simp [one], ?_⟩
  funext k; simp only [upd, one]; split <;> rfl
theorem HS.putLp (pre : List Hp) {st st' : LoopState} {pe pe' : Option Code} (H : HS w0 (pre ++ lpx l rc st pe :: post) w) :
    HS w0 (pre ++ lpx l rc st' pe' :: post) (w.putObj l (.loop (rc st' pe'))) := HS.putOne pre (fun h e => e) H

/-- the statement -/
theorem w_range {g : Operand} {f : Nat} {caps : List Value} (S : Sl n D L a) (H : HS w0 cs w) (hg : evl L g = some (.func (.func f) #[] caps.toArray)) (hG : Goes P f)
    (k : ∀ l dd fn rc w', IsRc rc fn a.tmps qs asg bd dd → HS w0 (lpx l rc .ready none :: dfc dd :: cs) w' → Calls P f ([Value.func (.yield l) #[] #[]] ++ caps).toArray w' fun e w2 => ∃ v, e = .returned v ∧ ∃ jump w3, (Instr.endLoop l).run P w2 = .ok jump w3 ∧
      (match jump with
       | none => ∀ a', Sl n (mk dd :: D) L a' → Q .normal a' w3
       | some c => ∀ a', Sl n (mk dd :: D) L a' → W none P c Q a' w3)) :
    W none P (.rangeFunc g qs asg bd) Q a w := by
  obtain ⟨fn1, c, hf, hb, hnn⟩ := hG
  refine wpIn_rangeFunc fun fn _ => ?_
  obtain ⟨rc, hrc⟩ : ∃ rc : LoopState → Option Code → Loop, rc = fun st pe => { state := st, pending := pe, fn, tmps := a.tmps, params := qs, assign := asg, body := bd, defers := w.heap.size } := ⟨_, rfl⟩
  obtain ⟨W1, hW1⟩ : ∃ W1, (w.alloc (.deferred (some []))).alloc (.loop (rc .ready none)) = W1 := ⟨_, rfl⟩
  have H2 : HS w0 (lpx (w.heap.size + 1) rc .ready none :: dfc w.heap.size :: cs) W1 := by
    have h1 := (H.alloc (.deferred (some []))).alloc (.loop (rc .ready none))
    rw [show (w.alloc (.deferred (some []))).heap.size = w.heap.size + 1 from World.size_alloc _ _, hW1] at h1
    exact h1
  refine ⟨w.heap.size + 1, [mk w.heap.size], W1, { target := .fn (.func f) caps.toArray, args := #[.func (.yield (w.heap.size + 1)) #[] #[]] }, W1, f,
    ([Value.func (.yield (w.heap.size + 1)) #[] #[]] ++ caps).toArray, W1, ?_, ?_, fun _ _ => trivial, ?_, (fun h => by cases h), ?_⟩
  · rw [← hW1, hrc]; exact run_enterLoop_outer _ _ _ _ _
  · simp only [resolve, S.ev hg]
    simp [go_sem]
  · have e := callFunc_enter (P := P) (w := W1) hf hb hnn ([Value.func (.yield (w.heap.size + 1)) #[] #[]] ++ caps).toArray
    simp [invoke, Sem.run_bind, Result.andThen, Sem.run] at e ⊢
    exact e
  · refine CallsIn.mono (callsIn_wide.2 (k _ _ _ rc _ hrc H2)) ?_
    rintro e w2 ⟨v, rfl, jump, w3, h1, h2⟩
    have S' : Sl n (mk w.heap.size :: D) L { a with defers := mk w.heap.size :: a.defers } := ⟨S.sz, by simp [S.df], S.sl⟩
    refine ⟨jump, w3, h1, ?_⟩
    cases jump with
    | none => exact h2 _ S'
    | some c => exact h2 _ S'

def putPs : List (Nat × Value) → List (Nat × Value) → List (Nat × Value)
  | [], L => L
  | (t, v) :: q, L => putPs q ((t, v) :: L)
theorem Sl.puts : ∀ (q : List (Nat × Value)) {L : List (Nat × Value)} {T : Array Value}, Sl n [] L { tmps := T, defers := [] } → (q.all fun p => Nat.blt p.1 n) = true →
    Sl n [] (putPs q L) { tmps := q.foldl (fun t (p, v) => t.setIfInBounds p v) T, defers := [] }
  | [], _, _, S, _ => S
  | (t, v) :: q, L, T, S, h => by
    simp only [List.all_cons, Bool.and_eq_true] at h
    exact Sl.puts q (S.put (blt_lt h.1) v) h.2

/-- a call of yield: a round -/
theorem r_yield (pre : List Hp) {fo : Operand} {xs : List Operand} {ts : Array TypeId} {vs : List Value} (S : Sl n D L a) (SA : Sl m DA LA A) (hrc : IsRc rc fn A.tmps qs asg bd dd) (H : HS w0 (pre ++ lpx l rc .ready none :: post) w)
    (hfo : evl L fo = some (.func (.yield l) #[] #[])) (hxs : evls L xs = some vs) (hl : vs.length = qs.size) (hq : ((qs.toList.zip vs).all fun p => Nat.blt p.1 m) = true) (hd : Nat.blt d n = true)
    (k : ∀ a1, Sl m [] (putPs (qs.toList.zip vs) LA) a1 → W (some l) P asg (Exit.then (fun a2 w2 => ∃ w3, (Instr.beginRound l).run P w2 = .ok () w3 ∧
      W (some l) P bd (roundPost P l fun e w' => ∃ v, e = .returned v ∧ ∀ a', Sl n D ((d, v) :: L) a' → WL r P ops Q rest a' w') a2 w3) (fun _ _ _ => False)) a1 w) :
    WL r P ops Q (⟨some d, .call { callee := .value fo, args := xs.toArray, argTypes := ts }, ty, ps, af, none⟩ :: rest) a w := by
  refine wpListIn_plain rfl fun K hK => ⟨fun _ _ => trivial, ?_⟩
  rw [Oper.semAt_eq _ _ _ (by intro c h; cases h)]
  have e1 : xs.toArray.map a.eval = vs.toArray := by rw [← S.evs hxs]; simp
  have e2 := S.ev hfo
  have hb := lpx_blk pre H
  rw [show rc = _ from hrc] at hb
  have hy := run_yield (P := P) (args := vs.toArray) hb (by simp [hl])
  have hr : (execOp a.eval ⟨some d, .call { callee := .value fo, args := xs.toArray, argTypes := ts }, ty, ps, af, none⟩).run P w = .ok (.round l fn ((qs.zip vs.toArray).foldl (fun t (p, v) => t.setIfInBounds p v) A.tmps) asg bd) w := by
    simp only [execOp, resolve, e1, e2, Deferred.ofValue, Sem.run_bind, Result.andThen]
    simp only [Sem.run, invoke]
    simpa using hy
  rw [hr, Oper.uponIn_round]
  refine ⟨(fun h => by cases h), ?_⟩
  have hz : (qs.zip vs.toArray).foldl (fun t (p, v) => t.setIfInBounds p v) A.tmps = (qs.toList.zip vs).foldl (fun t (p, v) => t.setIfInBounds p v) A.tmps := by
    rw [← Array.foldl_toList]; simp
  rw [hz]
  have SA0 : Sl m [] LA { tmps := A.tmps, defers := [] } := ⟨SA.sz, rfl, SA.sl⟩
  refine RoundIn.mono (roundIn_of_wpIn (F := Fr r) trivial (k _ (Sl.puts _ SA0 hq))) ?_
  rintro e w' ⟨v, rfl, hk⟩
  exact hK _ _ (hk _ (S.put (blt_lt hd) v))
/-- .. whose answer is not looked at -/
theorem rd_begin (hrc : IsRc rc fn T qs asg bd dd) (pre : List Hp) {K : World → Prop} (H : HS w0 (pre ++ lpx l rc .ready none :: post) w) (k : ∀ w', HS w0 (pre ++ lpx l rc .busy none :: post) w' → K w') :
    ∃ w3, (Instr.beginRound l).run P w = .ok () w3 ∧ K w3 := by subst hrc; exact ⟨_, run_beginRound (lpx_blk pre H) rfl, k _ (HS.putLp pre H)⟩
theorem rd_end (hrc : IsRc rc fn T qs asg bd dd) (pre : List Hp) (H : HS w0 (pre ++ lpx l rc .busy none :: post) w) (k : ∀ w', HS w0 (pre ++ lpx l rc .ready none :: post) w' → R (.returned (.bool true)) w') :
    roundPost P l R .normal a w := by subst hrc; exact ⟨_, _, run_endRound none (lpx_blk pre H), k _ (HS.putLp pre H)⟩
theorem rd_ret (hrc : IsRc rc fn T qs asg bd dd) (pre : List Hp) (H : HS w0 (pre ++ lpx l rc .busy none :: post) w) (k : ∀ w', HS w0 (pre ++ lpx l rc .done (some .ret) :: post) w' → R (.returned (.bool false)) w') :
    roundPost P l R .ret a w := by subst hrc; exact ⟨_, _, run_endRound (some .ret) (lpx_blk pre H), k _ (HS.putLp pre H)⟩
theorem rd_exit (hrc : IsRc rc fn T qs asg bd dd) (pre : List Hp) {i : Nat} (H : HS w0 (pre ++ lpx l rc .busy none :: post) w) (k : ∀ w', HS w0 (pre ++ lpx l rc .done (some (.exit i)) :: post) w' → R (.returned (.bool false)) w') :
    roundPost P l R (.exit i) a w := by subst hrc; exact ⟨_, _, run_endRound (some (.exit i)) (lpx_blk pre H), k _ (HS.putLp pre H)⟩
/-- behind the function that was ranged over -/
theorem lp_end (hrc : IsRc rc fn T qs asg bd dd) (pre : List Hp) {st : LoopState} {pe : Option Code} {K : Option Code → World → Prop} (H : HS w0 (pre ++ lpx l rc st pe :: post) w) (hs : st ≠ .busy) (k : ∀ w', HS w0 (pre ++ post) w' → K pe w') :
    ∃ jump w3, (Instr.endLoop l).run P w = .ok jump w3 ∧ K jump w3 :=
  by subst hrc; exact ⟨_, _, run_endLoop (lpx_blk pre H) hs, k _ ((HS.putLp (st' := .exhausted) (pe' := pe) pre H).map fun h => SL.dropAt pre h)⟩

/-! ### cuts, where the order is drawn -/
theorem st_cutR {α : Type} {e : En α} {E : TypeId} {B : Option Addr} {q0 c : Nat} {ls ls' : List α} {ol : List Oper} {i : Nat} {lp : Pl} {Tw : World → Prop} {gu : Option (Nat × Bool)} {Tt : TypeId} {x : Operand} {lo hi : Option Operand} {y : Nat} {g : Bool} {z : List Value} (S : Sl n D L a)
    (hi' : lkO ol i = ⟨some d, .slice Tt x lo hi none, ty, ps, af, gu⟩) (hw : Region.wanted ⟨some d, .slice Tt x lo hi none, ty, ps, af, gu⟩ (yielded ol.toArray a.tmps) = true) (hx : evl L x = some (.slice B q0 c)) (ht : slE P Tt = some E) (hE : tyI P E = some (g, e.sz, y, z))
    (R : Rd e (hpOf w) B q0 c ls) (p q : Int) (hlo : (match lo with | some u => evl L u | none => some (.int .i64 0)) = some (.int .i64 p)) (hhi : (match hi with | some u => evl L u | none => some (.int .i64 q0)) = some (.int .i64 q))
    (h0 : 0 ≤ p) (h1 : p ≤ q) (h2 : q ≤ q0) (hd : Nat.blt d n = true) (hl : (ls.take q.toNat).drop p.toNat = ls')
    (kk : ∀ A' c' a', (∀ X, Rd e X B q0 c ls → Rd e X A' ls'.length c' ls') → Sl n D ((d, .slice A' ls'.length c') :: L) a' → stepsW r P ol Q Tw lp a' w) : stepsW r P ol Q Tw (.pu i lp) a w := by
  subst hl
  have hmc := R.2.1
  have hlen : ((ls.take q.toNat).drop p.toNat).length = q.toNat - p.toNat := by rw [List.length_drop, List.length_take, R.1]; omega
  refine st_pu S hi' hw rfl hd (fun w => y_cut S hx ht hE p q hlo hhi h0 h1 (by omega) hmc _ _ w) fun a' S' => kk (cutA B c e.sz p.toNat) (c - p.toNat) a' (fun X RX => ?_) (by rw [hlen]; exact S')
  have := RX.cut p.toNat q.toNat (by omega) (by omega)
  rwa [← hlen] at this
/-! ### functions that leave with marks -/
def bodyPostL (P : Program) (fn : Func) (R : Ending → World → Prop) : Exit → Act → World → Prop := bodyPostM (Fr none) 0 P fn R
theorem calls_inM {f : FuncId} {fn : Func} {c : Code} {args : List Value} {R : Ending → World → Prop} (hf : P.funcs[f]? = some fn) (hb : fn.body = some c) (hs : Nat.ble args.length fn.ntmps = true)
    (h : ∀ a, Sl fn.ntmps [] (zipL 0 args) a → W none P c (bodyPostL P fn R) a w) : Calls P f args.toArray w R :=
  callsIn_wide.1 (callsIn_of_wp_marks (F := Fence.wide) (n := 0) hf hb trivial (h _ (Sl.start fn args (zipL 0 args) (Nat.le_of_ble_eq_true hs) (fun t v q => by have := zipL_lk args 0 t v q; simpa using this.2))))
theorem pop_ret {fn : Func} {R : Ending → World → Prop} (pre : List Hp) (S : Sl n (mk dd :: D) L a) (H : HS w0 (pre ++ dfc dd :: post) w) (k : ∀ a' w', Sl n D L a' → HS w0 (pre ++ post) w' → bodyPostL P fn R .ret a' w') : bodyPostL P fn R .ret a w := by
  have hb : w.heap[dd]? = some (.deferred (some [])) := one_blk pre (fun h e => e) H
  have H2 : HS w0 (pre ++ (fun h => h = one dd (.deferred none)) :: post) (w.putObj dd (.deferred none)) := HS.putOne pre (fun h e => e) H
  have h2 := k { a with defers := D } _ ⟨S.sz, rfl, S.sl⟩ (H2.map fun h => SL.dropAt pre h)
  show LeavesInM (Fr none) 0 P fn a.tmps R a.defers .returning w
  rw [S.df]
  exact ⟨(by simp), .inl ⟨dd, _, rfl, run_takeDeferred hb, h2⟩⟩
theorem pop_end {fn : Func} {R : Ending → World → Prop} (pre : List Hp) (S : Sl n (mk dd :: D) L a) (H : HS w0 (pre ++ dfc dd :: post) w) (k : ∀ a' w', Sl n D L a' → HS w0 (pre ++ post) w' → bodyPostL P fn R .normal a' w') : bodyPostL P fn R .normal a w :=
  pop_ret pre S H k
theorem leave_ret {fn : Func} {R : Ending → World → Prop} (S : Sl n [] L a) (h : bodyPost P fn R .ret a w) : bodyPostL P fn R .ret a w := by
  show LeavesInM (Fr none) 0 P fn a.tmps R a.defers .returning w
  rw [S.df]
  exact h.2
theorem leave_end {fn : Func} {R : Ending → World → Prop} (S : Sl n [] L a) (h : bodyPost P fn R .normal a w) : bodyPostL P fn R .normal a w := by
  show LeavesInM (Fr none) 0 P fn a.tmps R a.defers .returning w
  rw [S.df]
  exact h.2
end Go.Proofs.Ytmdpjijafejgpaa.Sl

/- The types and closed facts of this seat's translation, printed by a program of the session's own. -/
set_option linter.unusedVariables false
namespace Go.Proofs.Ytmdpjijafejgpaa.M
open Go Go.Proofs.Ytmdpjijafejgpaa.Sl
structure api_Backend where
  ID : Int
  Weight : Int
  deriving DecidableEq
def api_Backend.zero : api_Backend := ⟨0, 0⟩
structure api_Point where
  Hash : Int
  ID : Int
  deriving DecidableEq
def api_Point.zero : api_Point := ⟨0, 0⟩
structure ring_round where
  r : List api_Point
  from_ : Int
  deriving DecidableEq
def ring_round.zero : ring_round := ⟨[], 0⟩
def e_api_Backend : En api_Backend := ⟨2, fun x => [.int .i64 x.ID, .int .i64 x.Weight], api_Backend.zero, fun _ => rfl, fun _ => rfl, by decide⟩
def e_api_Point : En api_Point := ⟨2, fun x => [.int .u64 x.Hash, .int .i64 x.ID], api_Point.zero, fun _ => rfl, fun _ => rfl, by decide⟩
def e_i64 : En Int := ⟨1, fun x => [.int .i64 x], 0, fun _ => rfl, fun _ => rfl, by decide⟩
theorem TryM.mixed : Try.prog.follows .mixedOrders = true := by kernel_rfl
theorem ti36 : tyI Try.prog 36 = some (true, 2, 16, [.int .i64 0, .int .i64 0]) := by kernel_rfl
theorem pl36 : places Try.prog 36 = some [(0, 1), (1, 1)] := by kernel_rfl
theorem sl22 : slE Try.prog 22 = some 36 := by kernel_rfl
theorem goes36 : Goes Try.prog 36 := ⟨_, _, Try.func36, rfl, by decide⟩
theorem goes53 : Goes Try.prog 53 := ⟨_, _, Try.func53, rfl, by decide⟩
theorem fo36x0 : fieldOff Try.prog 36 0 = some 0 := by kernel_rfl
theorem ti3 : tyI Try.prog 3 = some (false, 1, 8, [.int .i64 0]) := by kernel_rfl
theorem fo36x1 : fieldOff Try.prog 36 1 = some 1 := by kernel_rfl
theorem goes35 : Goes Try.prog 35 := ⟨_, _, Try.func35, rfl, by decide⟩
theorem goes20 : Goes Try.prog 20 := ⟨_, _, Try.func20, rfl, by decide⟩
theorem sl32 : slE Try.prog 32 = some 3 := by kernel_rfl
theorem und3 : Try.prog.underlying 3 = some (.int .i64) := by kernel_rfl
theorem und23 : Try.prog.underlying 23 = some (.int .u64) := by kernel_rfl
theorem goes56 : Goes Try.prog 56 := ⟨_, _, Try.func56, rfl, by decide⟩
theorem goes41 : Goes Try.prog 41 := ⟨_, _, Try.func41, rfl, by decide⟩
theorem goes25 : Goes Try.prog 25 := ⟨_, _, Try.func25, rfl, by decide⟩
theorem ti39 : tyI Try.prog 39 = some (true, 2, 16, [.int .u64 0, .int .i64 0]) := by kernel_rfl
theorem pl39 : places Try.prog 39 = some [(0, 1), (1, 1)] := by kernel_rfl
theorem sl25 : slE Try.prog 25 = some 39 := by kernel_rfl
theorem fo39x0 : fieldOff Try.prog 39 0 = some 0 := by kernel_rfl
theorem fo39x1 : fieldOff Try.prog 39 1 = some 1 := by kernel_rfl
theorem ti23 : tyI Try.prog 23 = some (false, 1, 8, [.int .u64 0]) := by kernel_rfl
theorem goes67 : Goes Try.prog 67 := ⟨_, _, Try.func67, rfl, by decide⟩
theorem goes45 : Goes Try.prog 45 := ⟨_, _, Try.func45, rfl, by decide⟩
theorem goes68 : Goes Try.prog 68 := ⟨_, _, Try.func68, rfl, by decide⟩
theorem goes46 : Goes Try.prog 46 := ⟨_, _, Try.func46, rfl, by decide⟩
theorem goes44 : Goes Try.prog 44 := ⟨_, _, Try.func44, rfl, by decide⟩
theorem goes26 : Goes Try.prog 26 := ⟨_, _, Try.func26, rfl, by decide⟩
theorem goes27 : Goes Try.prog 27 := ⟨_, _, Try.func27, rfl, by decide⟩
theorem goes8 : Goes Try.prog 8 := ⟨_, _, Try.func8, rfl, by decide⟩
theorem goes37 : Goes Try.prog 37 := ⟨_, _, Try.func37, rfl, by decide⟩
theorem goes38 : Goes Try.prog 38 := ⟨_, _, Try.func38, rfl, by decide⟩
theorem goes54 : Goes Try.prog 54 := ⟨_, _, Try.func54, rfl, by decide⟩
theorem goes39 : Goes Try.prog 39 := ⟨_, _, Try.func39, rfl, by decide⟩
theorem goes22 : Goes Try.prog 22 := ⟨_, _, Try.func22, rfl, by decide⟩
theorem goes28 : Goes Try.prog 28 := ⟨_, _, Try.func28, rfl, by decide⟩
theorem goes29 : Goes Try.prog 29 := ⟨_, _, Try.func29, rfl, by decide⟩
theorem ti63 : tyI Try.prog 63 = some (true, 2, 32, [.slice none 0 0, .int .i64 0]) := by kernel_rfl
theorem goes47 : Goes Try.prog 47 := ⟨_, _, Try.func47, rfl, by decide⟩
theorem und81 : Try.prog.underlying 81 = some (.int .u64) := by kernel_rfl
theorem goes48 : Goes Try.prog 48 := ⟨_, _, Try.func48, rfl, by decide⟩
theorem pl63 : places Try.prog 63 = some [(0, 1), (1, 1)] := by kernel_rfl
theorem fo63x0 : fieldOff Try.prog 63 0 = some 0 := by kernel_rfl
theorem fo63x1 : fieldOff Try.prog 63 1 = some 1 := by kernel_rfl
theorem ti25 : tyI Try.prog 25 = some (false, 1, 24, [.slice none 0 0]) := by kernel_rfl
theorem goes30 : Goes Try.prog 30 := ⟨_, _, Try.func30, rfl, by decide⟩
theorem goes10 : Goes Try.prog 10 := ⟨_, _, Try.func10, rfl, by decide⟩
theorem goes9 : Goes Try.prog 9 := ⟨_, _, Try.func9, rfl, by decide⟩
theorem goes7 : Goes Try.prog 7 := ⟨_, _, Try.func7, rfl, by decide⟩
theorem ti32 : tyI Try.prog 32 = some (false, 1, 24, [.slice none 0 0]) := by kernel_rfl
theorem ti66 : tyI Try.prog 66 = some (false, 1, 8, [.map none]) := by kernel_rfl
theorem goes31 : Goes Try.prog 31 := ⟨_, _, Try.func31, rfl, by decide⟩
theorem goes49 : Goes Try.prog 49 := ⟨_, _, Try.func49, rfl, by decide⟩
theorem mp66 : mpE Try.prog 66 = some (3, 4) := by kernel_rfl
theorem zv4 : zvI Try.prog 4 = some (.bool false) := by kernel_rfl
theorem goes11 : Goes Try.prog 11 := ⟨_, _, Try.func11, rfl, by decide⟩
theorem goes12 : Goes Try.prog 12 := ⟨_, _, Try.func12, rfl, by decide⟩
theorem goes21 : Goes Try.prog 21 := ⟨_, _, Try.func21, rfl, by decide⟩
theorem goes55 : Goes Try.prog 55 := ⟨_, _, Try.func55, rfl, by decide⟩
theorem goes40 : Goes Try.prog 40 := ⟨_, _, Try.func40, rfl, by decide⟩
theorem goes24 : Goes Try.prog 24 := ⟨_, _, Try.func24, rfl, by decide⟩
theorem goes32 : Goes Try.prog 32 := ⟨_, _, Try.func32, rfl, by decide⟩
theorem goes13 : Goes Try.prog 13 := ⟨_, _, Try.func13, rfl, by decide⟩
theorem goes23 : Goes Try.prog 23 := ⟨_, _, Try.func23, rfl, by decide⟩
theorem goes15 : Goes Try.prog 15 := ⟨_, _, Try.func15, rfl, by decide⟩
theorem goes14 : Goes Try.prog 14 := ⟨_, _, Try.func14, rfl, by decide⟩
theorem goes33 : Goes Try.prog 33 := ⟨_, _, Try.func33, rfl, by decide⟩
theorem goes34 : Goes Try.prog 34 := ⟨_, _, Try.func34, rfl, by decide⟩
theorem goes16 : Goes Try.prog 16 := ⟨_, _, Try.func16, rfl, by decide⟩
theorem goes17 : Goes Try.prog 17 := ⟨_, _, Try.func17, rfl, by decide⟩
theorem goes18 : Goes Try.prog 18 := ⟨_, _, Try.func18, rfl, by decide⟩
theorem goes19 : Goes Try.prog 19 := ⟨_, _, Try.func19, rfl, by decide⟩
set_option maxRecDepth 100000 in
theorem seq39 (p q : api_Point) : Try.prog.eqGuardType Try.prog.depth 39 = false ∧ eqV Try.prog 10 39 (.agg ([.int .u64 p.Hash, .int .i64 p.ID]).toArray) (.agg ([.int .u64 q.Hash, .int .i64 q.ID]).toArray) = some (decide (p = q)) := by
  refine ⟨by kernel_rfl, ?_⟩
  have h : eqV Try.prog 10 39 (.agg ([.int .u64 p.Hash, .int .i64 p.ID]).toArray) (.agg ([.int .u64 q.Hash, .int .i64 q.ID]).toArray) = some (((p.Hash == q.Hash) && ((p.ID == q.ID) && true))) := by kernel_rfl
  rw [h]
  congr 1
  rw [Bool.eq_iff_iff]; cases p; cases q; simp [api_Point.mk.injEq]
end Go.Proofs.Ytmdpjijafejgpaa.M

/- waybill/ring.Check$1: a plain function, and that the machine's call comes to it: printed by a program of the session's own. -/
set_option linter.unusedVariables false
set_option linter.unusedSimpArgs false
namespace Go.Proofs.Ytmdpjijafejgpaa.M
open Go Go.Proofs.Ytmdpjijafejgpaa.Sl
/-! ### waybill/ring.Check$1: function 35 -/
def ring_Check_1.f (x_b : api_Backend) : Option (Bool) := ((if x_b.ID < 0 then (some true) else (if 2147483647 < x_b.ID then (some true) else (if x_b.Weight < 1 then (some true) else (some (decide (16 < x_b.Weight)))))) : Option (Bool)).bind fun z2x => (some z2x)
set_option maxRecDepth 100000 in
set_option maxHeartbeats 4000000 in
theorem ring_Check_1.calls (x_b : api_Backend) (W0 : World) (X : Heap)  (Hq : HS W0 [isH X] W0) (r : Bool) (H : ring_Check_1.f x_b = some r) :
    Calls Try.prog 35 #[.agg #[.int .i64 x_b.ID, .int .i64 x_b.Weight]] W0 (fun e w => e = .returned (.bool r) ∧ HS W0 [isH X] w) := by
  rw [ring_Check_1.f] at H
  refine calls_in Try.func35 rfl rfl ?_
  intro a0 S0
  refine w_seq ?_
  refine w_region ?_
  refine r_box (vs := [.int .i64 x_b.ID, .int .i64 x_b.Weight]) S0 Hq rfl rfl rfl ?_
  clear S0 Hq; intro z1b a0 w S0 Hq
  refine r_pures [_] S0 rfl ?_
  clear S0; intro a0 S0
  refine wl_nil ?_
  refine nr_then ?_
  refine w_seq ?_
  obtain ⟨z2x, H, HU1⟩ := Option.bind_eq_some_iff.mp H
  refine w_cutT (fun a w => Sl 21 [] [(2, .bool z2x)] a ∧ HS W0 [isH X] w) ?_ ?_
  · skip
    refine w_region ?_
    refine r_fieldAddr S0 rfl fo36x0 (0) rfl rfl ?_
    clear S0; intro a0 S0
    refine r_ldS [] S0 Hq rfl ti3 _ rfl rfl ?_
    clear S0; intro a0 S0
    refine r_pures [_, _] S0 rfl ?_
    clear S0; intro a0 S0
    by_cases z3h : x_b.ID < 0
    · replace H := (if_pos z3h).symm.trans H
      refine r_off S0 rfl rfl rfl (decide_eq_true z3h) ?_ rfl
      clear S0; intro a0 S0
      refine r_off S0 rfl rfl rfl (decide_eq_true z3h) ?_ rfl
      clear S0; intro a0 S0
      refine r_off S0 rfl rfl rfl (decide_eq_true z3h) ?_ rfl
      clear S0; intro a0 S0
      refine r_pick S0 rfl (decide_eq_true z3h) _ rfl rfl ?_
      clear S0; intro a0 S0
      refine r_pures [_] S0 rfl ?_
      clear S0; intro a0 S0
      refine r_off S0 rfl rfl rfl rfl ?_ rfl
      clear S0; intro a0 S0
      refine r_off S0 rfl rfl rfl rfl ?_ rfl
      clear S0; intro a0 S0
      refine r_off S0 rfl rfl rfl rfl ?_ rfl
      clear S0; intro a0 S0
      refine r_pick S0 rfl rfl _ rfl rfl ?_
      clear S0; intro a0 S0
      refine r_pures [_] S0 rfl ?_
      clear S0; intro a0 S0
      refine r_off S0 rfl rfl rfl rfl ?_ rfl
      clear S0; intro a0 S0
      refine r_off S0 rfl rfl rfl rfl ?_ rfl
      clear S0; intro a0 S0
      refine r_off S0 rfl rfl rfl rfl ?_ rfl
      clear S0; intro a0 S0
      refine r_pick S0 rfl rfl _ rfl rfl ?_
      clear S0; intro a0 S0
      refine r_pures [_] S0 rfl ?_
      clear S0; intro a0 S0
      refine wl_nil ?_
      refine nr_then ?_
      replace Hq := HS.pull [_] Hq
      dsimp only [List.cons_append, List.nil_append] at Hq
      replace Hq := HS.keep [_] Hq
      obtain rfl := Option.some.inj H
      exact ⟨S0.sub ⟨rfl, trivial⟩, Hq⟩
    · replace H := (if_neg z3h).symm.trans H
      refine r_on S0 rfl rfl rfl (decide_eq_false z3h) ?_
      refine r_fieldAddr S0 rfl fo36x0 (0) rfl rfl ?_
      clear S0; intro a0 S0
      refine r_on S0 rfl rfl rfl (decide_eq_false z3h) ?_
      refine r_ldS [] S0 Hq rfl ti3 _ rfl rfl ?_
      clear S0; intro a0 S0
      refine r_on S0 rfl rfl rfl (decide_eq_false z3h) ?_
      refine r_pures [_] S0 rfl ?_
      clear S0; intro a0 S0
      refine r_pick S0 rfl (decide_eq_false z3h) _ rfl rfl ?_
      clear S0; intro a0 S0
      refine r_pures [_] S0 rfl ?_
      clear S0; intro a0 S0
      by_cases z4h : 2147483647 < x_b.ID
      · replace H := (if_pos z4h).symm.trans H
        refine r_off S0 rfl rfl rfl (decide_eq_true z4h) ?_ rfl
        clear S0; intro a0 S0
        refine r_off S0 rfl rfl rfl (decide_eq_true z4h) ?_ rfl
        clear S0; intro a0 S0
        refine r_off S0 rfl rfl rfl (decide_eq_true z4h) ?_ rfl
        clear S0; intro a0 S0
        refine r_pick S0 rfl (decide_eq_true z4h) _ rfl rfl ?_
        clear S0; intro a0 S0
        refine r_pures [_] S0 rfl ?_
        clear S0; intro a0 S0
        refine r_off S0 rfl rfl rfl rfl ?_ rfl
        clear S0; intro a0 S0
        refine r_off S0 rfl rfl rfl rfl ?_ rfl
        clear S0; intro a0 S0
        refine r_off S0 rfl rfl rfl rfl ?_ rfl
        clear S0; intro a0 S0
        refine r_pick S0 rfl rfl _ rfl rfl ?_
        clear S0; intro a0 S0
        refine r_pures [_] S0 rfl ?_
        clear S0; intro a0 S0
        refine wl_nil ?_
        refine nr_then ?_
        replace Hq := HS.pull [_] Hq
        dsimp only [List.cons_append, List.nil_append] at Hq
        replace Hq := HS.keep [_] Hq
        obtain rfl := Option.some.inj H
        exact ⟨S0.sub ⟨rfl, trivial⟩, Hq⟩
      · replace H := (if_neg z4h).symm.trans H
        refine r_on S0 rfl rfl rfl (decide_eq_false z4h) ?_
        refine r_fieldAddr S0 rfl fo36x1 (1) rfl rfl ?_
        clear S0; intro a0 S0
        refine r_on S0 rfl rfl rfl (decide_eq_false z4h) ?_
        refine r_ldS [] S0 Hq rfl ti3 _ rfl rfl ?_
        clear S0; intro a0 S0
        refine r_on S0 rfl rfl rfl (decide_eq_false z4h) ?_
        refine r_pures [_] S0 rfl ?_
        clear S0; intro a0 S0
        refine r_pick S0 rfl (decide_eq_false z4h) _ rfl rfl ?_
        clear S0; intro a0 S0
        refine r_pures [_] S0 rfl ?_
        clear S0; intro a0 S0
        by_cases z5h : x_b.Weight < 1
        · replace H := (if_pos z5h).symm.trans H
          refine r_off S0 rfl rfl rfl (decide_eq_true z5h) ?_ rfl
          clear S0; intro a0 S0
          refine r_off S0 rfl rfl rfl (decide_eq_true z5h) ?_ rfl
          clear S0; intro a0 S0
          refine r_off S0 rfl rfl rfl (decide_eq_true z5h) ?_ rfl
          clear S0; intro a0 S0
          refine r_pick S0 rfl (decide_eq_true z5h) _ rfl rfl ?_
          clear S0; intro a0 S0
          refine r_pures [_] S0 rfl ?_
          clear S0; intro a0 S0
          refine wl_nil ?_
          refine nr_then ?_
          replace Hq := HS.pull [_] Hq
          dsimp only [List.cons_append, List.nil_append] at Hq
          replace Hq := HS.keep [_] Hq
          obtain rfl := Option.some.inj H
          exact ⟨S0.sub ⟨rfl, trivial⟩, Hq⟩
        · replace H := (if_neg z5h).symm.trans H
          refine r_on S0 rfl rfl rfl (decide_eq_false z5h) ?_
          refine r_fieldAddr S0 rfl fo36x1 (1) rfl rfl ?_
          clear S0; intro a0 S0
          refine r_on S0 rfl rfl rfl (decide_eq_false z5h) ?_
          refine r_ldS [] S0 Hq rfl ti3 _ rfl rfl ?_
          clear S0; intro a0 S0
          refine r_on S0 rfl rfl rfl (decide_eq_false z5h) ?_
          refine r_pures [_] S0 rfl ?_
          clear S0; intro a0 S0
          refine r_pick S0 rfl (decide_eq_false z5h) _ rfl rfl ?_
          clear S0; intro a0 S0
          refine r_pures [_] S0 rfl ?_
          clear S0; intro a0 S0
          refine wl_nil ?_
          refine nr_then ?_
          replace Hq := HS.pull [_] Hq
          dsimp only [List.cons_append, List.nil_append] at Hq
          replace Hq := HS.keep [_] Hq
          obtain rfl := Option.some.inj H
          exact ⟨S0.sub ⟨rfl, trivial⟩, Hq⟩
  · clear S0; rintro a w ⟨S0, Hq⟩
    have H := HU1; clear HU1
    refine nr_then ?_
    refine w_ret ?_
    obtain rfl := Option.some.inj H
    refine ret1 S0 rfl rfl ?_
    exact ⟨rfl, Hq⟩

end Go.Proofs.Ytmdpjijafejgpaa.M

/- waybill/ring.Check: a plain function, and that the machine's call comes to it: printed by a program of the session's own. -/
set_option linter.unusedVariables false
set_option linter.unusedSimpArgs false
namespace Go.Proofs.Ytmdpjijafejgpaa.M
open Go Go.Proofs.Ytmdpjijafejgpaa.Sl
/-! ### waybill/ring.Check: function 20 -/
def ring_Check.l1 : Nat → (List api_Backend) → Int → Option (Sum (Int) (Unit))
  | 0, _, _ => none
  | k + 1, x_l, z10x => if z10x < (x_l.length : Int) then (((if 0 < z10x then (if 0 ≤ z10x then (if 0 ≤ (IntKind.i64.wrap (z10x - 1)) then (if (IntKind.i64.wrap (z10x - 1)) < (x_l.length : Int) then (some (decide (((rd e_api_Backend x_l z10x).ID) ≤ ((rd e_api_Backend x_l (IntKind.i64.wrap (z10x - 1))).ID)))) else (none)) else (none)) else (none)) else (some false)) : Option (Bool)).bind fun z12x => (if z12x = true then (some (Sum.inl 6)) else (ring_Check.l1 k x_l (IntKind.i64.wrap (z10x + 1))))) else (some (Sum.inr (())))
def ring_Check.l0 : Nat → (List api_Backend) → Int → Option (Int)
  | 0, _, _ => none
  | k + 1, x_l, z2x => if z2x < (x_l.length : Int) then (if 0 ≤ z2x then ((ring_Check_1.f (rd e_api_Backend x_l z2x)).bind fun z8t => (if z8t = true then (some 4) else (ring_Check.l0 k x_l (IntKind.i64.wrap (z2x + 1))))) else (none)) else ((((ring_Check.l1 k x_l 0)) : Option (Sum (Int) (Unit))).bind fun v_ => (match v_ with | (Sum.inl q_) => some q_ | (Sum.inr (_)) => some 0))
def ring_Check.f (k : Nat) (x_l : List api_Backend) : Option (Int) := if 32 < (x_l.length : Int) then (some 3) else ((ring_Check.l0 k x_l 0))
set_option maxRecDepth 100000 in
set_option maxHeartbeats 4000000 in
theorem ring_Check.calls (k : Nat) (A0 : Option Addr) (n0 c0 : Nat) (x_l : List api_Backend) (W0 : World) (X : Heap) (HR0 : Rd e_api_Backend X A0 n0 c0 x_l) (Hq : HS W0 [isH X] W0) (r : Int) (H : ring_Check.f k x_l = some r) :
    Calls Try.prog 20 #[.slice A0 n0 c0] W0 (fun e w => e = .returned (.int .i64 r) ∧ HS W0 [isH X] w) := by
  obtain rfl := HR0.1
  rw [ring_Check.f] at H
  refine calls_in Try.func20 rfl rfl ?_
  intro a0 S0
  refine w_seq ?_
  refine w_region ?_
  refine r_pures [_] S0 rfl ?_
  clear S0; intro a0 S0
  refine wl_nil ?_
  refine nr_then ?_
  refine w_seq ?_
  refine w_region ?_
  refine r_pures [_] S0 rfl ?_
  clear S0; intro a0 S0
  refine wl_nil ?_
  refine nr_then ?_
  refine w_seq ?_
  refine w_block ?_
  refine w_seq ?_
  refine w_region ?_
  refine r_pures [_] S0 rfl ?_
  clear S0; intro a0 S0
  refine r_len S0 rfl sl22 rfl ?_
  clear S0; intro a0 S0
  refine r_pures [_, _] S0 rfl ?_
  clear S0; intro a0 S0
  refine wl_nil ?_
  refine nr_then ?_
  by_cases z1h : 32 < (x_l.length : Int)
  · replace H := (if_pos z1h).symm.trans H
    refine w_true S0 rfl (decide_eq_true z1h) ?_
    refine w_seq ?_
    refine w_region ?_
    refine r_pures [_] S0 rfl ?_
    clear S0; intro a0 S0
    refine wl_nil ?_
    refine nr_then ?_
    refine w_ret ?_
    refine ret_in ?_
    refine ret_then ?_
    obtain rfl := Option.some.inj H
    refine ret1 S0 rfl rfl ?_
    exact ⟨rfl, Hq⟩
  · replace H := (if_neg z1h).symm.trans H
    refine w_false S0 rfl (decide_eq_false z1h) ?_
    refine w_seq ?_
    refine w_region ?_
    refine r_pures [_, _] S0 rfl ?_
    clear S0; intro a0 S0
    refine r_call S0 rfl rfl goes36 rfl ?_
    refine calls_in Try.func36 rfl rfl ?_
    intro a1 S1
    refine w_seq ?_
    refine w_region ?_
    refine r_pures [_] S1 rfl ?_
    clear S1; intro a1 S1
    refine wl_nil ?_
    refine nr_then ?_
    refine w_seq ?_
    refine w_region ?_
    refine r_pures [_, _] S1 rfl ?_
    clear S1; intro a1 S1
    refine r_call S1 rfl rfl goes53 rfl ?_
    refine calls_in Try.func53 rfl rfl ?_
    intro a2 S2
    refine w_seq ?_
    refine w_region ?_
    refine r_pures [_] S2 rfl ?_
    clear S2; intro a2 S2
    refine wl_nil ?_
    refine nr_then ?_
    refine w_seq ?_
    refine w_seq ?_
    refine w_region ?_
    refine r_pures [_] S2 rfl ?_
    clear S2; intro a2 S2
    refine r_len S2 rfl sl22 rfl ?_
    clear S2; intro a2 S2
    refine r_pures [_] S2 rfl ?_
    clear S2; intro a2 S2
    refine wl_nil ?_
    refine nr_then ?_
    refine w_block ?_
    refine w_loop (fun kq a w => ∃ z2x, ring_Check.l0 kq x_l z2x = some r ∧ Sl 19 [] [(0, .slice A0 x_l.length c0), (1, .func (.func 35) #[] #[]), (7, .int .i64 (x_l.length : Int)), (8, .int .i64 z2x)] a ∧ HS W0 [isH X] w) _ ⟨0, H, S2.sub ⟨rfl, rfl, rfl, rfl, trivial⟩, Hq⟩ ?_
    clear H Hq S2
    rintro k0 a w ⟨z2x, H, S2, Hq⟩
    cases k0 with
    | zero => simp [ring_Check.l0] at H
    | succ k0 =>
      refine ⟨k0, rfl, ?_⟩
      rw [ring_Check.l0] at H
      refine w_seq ?_
      refine w_region ?_
      refine r_pures [_] S2 rfl ?_
      clear S2; intro a2 S2
      refine wl_nil ?_
      refine nr_then ?_
      refine w_seq ?_
      by_cases z3h : z2x < (x_l.length : Int)
      · replace H := (if_pos z3h).symm.trans H
        refine w_true S2 rfl (decide_eq_true z3h) ?_
        refine w_skip ?_
        refine nr_then ?_
        refine w_seq ?_
        refine w_block ?_
        refine w_seq ?_
        refine w_region ?_
        refine r_pures [_, _] S2 rfl ?_
        clear S2; intro a2 S2
        refine wl_nil ?_
        refine nr_then ?_
        refine w_seq ?_
        refine w_region ?_
        refine r_pures [_, _, _] S2 rfl ?_
        clear S2; intro a2 S2
        by_cases z4h : 0 ≤ z2x
        · replace H := (if_pos z4h).symm.trans H
          obtain ⟨z5b, z6o, rfl⟩ := (isH_rd [] Hq HR0).at (by omega)
          refine r_index S2 rfl rfl sl22 ti36 z4h z3h rfl ?_
          clear S2; intro a2 S2
          refine r_elA (vs := [.int .i64 ((rd e_api_Backend x_l z2x).ID), .int .i64 ((rd e_api_Backend x_l z2x).Weight)]) S2 (isH_rd [] Hq HR0) z4h z3h rfl ti36 rfl rfl rfl ?_
          clear S2; intro a2 S2
          obtain ⟨Xz7, HXz7, HPz7, HBz7⟩ := call_frame [] Hq
          dsimp only [List.cons_append, List.nil_append] at HXz7 HBz7
          obtain ⟨z8t, Hc, H⟩ := Option.bind_eq_some_iff.mp H
          refine r_call S2 rfl rfl goes35 rfl ?_
          refine (ring_Check_1.calls (rd e_api_Backend x_l z2x) _ _  HXz7 z8t Hc).mono ?_
          rintro e w ⟨rfl, Hq'⟩
          have Hq : HS W0 [isH X] w := HBz7 [] _ Hq'
          clear HXz7 HPz7 HBz7 Hq'
          refine ⟨.bool z8t, rfl, ?_⟩; clear S2; intro a2 S2
          refine wl_nil ?_
          refine nr_then ?_
          by_cases z9h : z8t = true
          · replace H := (if_pos z9h).symm.trans H
            refine w_true S2 rfl z9h ?_
            refine w_seq ?_
            refine w_region ?_
            refine r_pures [_, _] S2 rfl ?_
            clear S2; intro a2 S2
            refine wl_nil ?_
            refine nr_then ?_
            refine w_ret ?_
            refine ret_in ?_
            refine ret_then ?_
            refine ret_then ?_
            refine ret_in ?_
            refine ret_then ?_
            refine ret1 S2 rfl rfl ?_
            clear S2
            refine ⟨_, rfl, ?_⟩; clear S1; intro a1 S1
            refine r_pures [_, _] S1 rfl ?_
            clear S1; intro a1 S1
            refine wl_nil ?_
            refine nr_then ?_
            refine w_ret ?_
            refine ret1 S1 rfl rfl ?_
            clear S1
            refine ⟨_, rfl, ?_⟩; clear S0; intro a0 S0
            refine r_pures [_] S0 rfl ?_
            clear S0; intro a0 S0
            refine wl_nil ?_
            refine nr_then ?_
            refine w_true S0 rfl (decide_eq_true z4h) ?_
            refine w_seq ?_
            refine w_region ?_
            refine r_pures [_] S0 rfl ?_
            clear S0; intro a0 S0
            refine wl_nil ?_
            refine nr_then ?_
            refine w_ret ?_
            refine ret_in ?_
            refine ret_then ?_
            obtain rfl := Option.some.inj H
            refine ret1 S0 rfl rfl ?_
            exact ⟨rfl, Hq⟩
          · replace H := (if_neg z9h).symm.trans H
            refine w_false S2 rfl (Bool.eq_false_iff.mpr z9h) ?_
            refine w_skip ?_
            refine nr_in ?_
            refine nr_then ?_
            refine w_region ?_
            refine r_pures [_, _] S2 rfl ?_
            clear S2; intro a2 S2
            refine wl_nil ?_
            refine nr_then ?_
            exact ⟨(IntKind.i64.wrap (z2x + 1)), H, S2.sub ⟨rfl, rfl, rfl, rfl, trivial⟩, Hq⟩
        · replace H := (if_neg z4h).symm.trans H
          exact nomatch H
      · replace H := (if_neg z3h).symm.trans H
        refine w_false S2 rfl (decide_eq_false z3h) ?_
        refine w_exit ?_
        refine ex_then ?_
        refine ex_then ?_
        refine ex_in ?_
        refine nr_then ?_
        refine w_seq ?_
        refine w_region ?_
        refine r_pures [_] S2 rfl ?_
        clear S2; intro a2 S2
        refine wl_nil ?_
        refine nr_then ?_
        refine w_ret ?_
        refine ret1 S2 rfl rfl ?_
        clear S2
        refine ⟨_, rfl, ?_⟩; clear S1; intro a1 S1
        refine r_pures [_, _] S1 rfl ?_
        clear S1; intro a1 S1
        refine wl_nil ?_
        refine nr_then ?_
        refine w_ret ?_
        refine ret1 S1 rfl rfl ?_
        clear S1
        refine ⟨_, rfl, ?_⟩; clear S0; intro a0 S0
        refine r_pures [_] S0 rfl ?_
        clear S0; intro a0 S0
        refine wl_nil ?_
        refine nr_then ?_
        refine w_false S0 rfl (by decide) ?_
        refine w_skip ?_
        refine nr_in ?_
        refine nr_then ?_
        refine w_seq ?_
        refine w_seq ?_
        refine w_region ?_
        refine r_pures [_] S0 rfl ?_
        clear S0; intro a0 S0
        refine r_len S0 rfl sl22 rfl ?_
        clear S0; intro a0 S0
        refine r_pures [_] S0 rfl ?_
        clear S0; intro a0 S0
        refine wl_nil ?_
        refine nr_then ?_
        obtain ⟨v1, H, HU1⟩ := Option.bind_eq_some_iff.mp H
        refine w_cutT (fun a w => v1 = (Sum.inr (())) ∧ Sl 35 [] [] a ∧ HS W0 [isH X] w) ?_ ?_
        · skip
          refine w_block ?_
          refine w_loop (fun kq a w => ∃ z10x, ring_Check.l1 kq x_l z10x = some v1 ∧ Sl 35 [] [(0, .slice A0 x_l.length c0), (14, .int .i64 (x_l.length : Int)), (15, .int .i64 z10x)] a ∧ HS W0 [isH X] w) _ ⟨0, H, S0.sub ⟨rfl, rfl, rfl, trivial⟩, Hq⟩ ?_
          clear H Hq S0
          rintro k1 a w ⟨z10x, H, S0, Hq⟩
          cases k1 with
          | zero => simp [ring_Check.l1] at H
          | succ k1 =>
            refine ⟨k1, rfl, ?_⟩
            rw [ring_Check.l1] at H
            refine w_seq ?_
            refine w_region ?_
            refine r_pures [_] S0 rfl ?_
            clear S0; intro a0 S0
            refine wl_nil ?_
            refine nr_then ?_
            refine w_seq ?_
            by_cases z11h : z10x < (x_l.length : Int)
            · replace H := (if_pos z11h).symm.trans H
              refine w_true S0 rfl (decide_eq_true z11h) ?_
              refine w_skip ?_
              refine nr_then ?_
              refine w_seq ?_
              refine w_block ?_
              refine w_seq ?_
              refine w_region ?_
              refine r_pures [_, _] S0 rfl ?_
              clear S0; intro a0 S0
              refine wl_nil ?_
              refine nr_then ?_
              refine w_seq ?_
              obtain ⟨z12x, H, HU2⟩ := Option.bind_eq_some_iff.mp H
              refine w_cutT (fun a w => Sl 35 [] [(0, .slice A0 x_l.length c0), (14, .int .i64 (x_l.length : Int)), (15, .int .i64 z10x), (33, .bool z12x)] a ∧ HS W0 [isH X] w) ?_ ?_
              · skip
                refine w_draw TryM.mixed (.pu 0 (.pu 1 (.pu 2 (.pu 3 (.pu 4 (.pu 5 (.pu 6 (.pu 8 (.pu 9 (.pu 10 (.pu 11 (.pu 12 (.rd 7 (.rd 13 (.pu 14 (.pu 15 .done)))))))))))))))) (by kernel_rfl) rfl ?_
                replace Hq := Hq.drew
                refine st_pures [0, 1, 2] S0 rfl ?_
                intro az13q Sz13q
                by_cases z14h : 0 < z10x
                · replace H := (if_pos z14h).symm.trans H
                  refine st_pu Sz13q rfl (g_on Sz13q rfl rfl rfl rfl (decide_eq_true z14h)) rfl rfl (fun _ => y_of Sz13q _ rfl) ?_
                  intro az15q Sz15q
                  refine st_pu Sz15q rfl (g_on Sz15q rfl rfl rfl rfl (decide_eq_true z14h)) rfl rfl (fun _ => y_of Sz15q _ rfl) ?_
                  intro az16q Sz16q
                  by_cases z17h : 0 ≤ z10x
                  · replace H := (if_pos z17h).symm.trans H
                    obtain ⟨z18b, z19o, rfl⟩ := (isH_rd [] Hq HR0).at (by omega)
                    refine st_pu Sz16q rfl (g_on Sz16q rfl rfl rfl rfl (decide_eq_true z14h)) rfl rfl (fun _ => y_index Sz16q rfl rfl sl22 ti36 z17h z11h) ?_
                    intro az20q Sz20q
                    refine st_pu Sz20q rfl (g_on Sz20q rfl rfl rfl rfl (decide_eq_true z14h)) rfl rfl (fun _ => y_fieldAddr Sz20q rfl fo36x0 (z19o + Int.toNat z10x * 2 + 0) rfl) ?_
                    intro az21q Sz21q
                    refine st_pu Sz21q rfl (g_on Sz21q rfl rfl rfl rfl (decide_eq_true z14h)) rfl rfl (fun _ => y_of Sz21q _ rfl) ?_
                    intro az22q Sz22q
                    refine st_pu Sz22q rfl (g_on Sz22q rfl rfl rfl rfl (decide_eq_true z14h)) rfl rfl (fun _ => y_of Sz22q _ rfl) ?_
                    intro az23q Sz23q
                    refine st_pu Sz23q rfl (g_on Sz23q rfl rfl rfl rfl (decide_eq_true z14h)) rfl rfl (fun _ => y_of Sz23q _ rfl) ?_
                    intro az24q Sz24q
                    by_cases z25h : 0 ≤ (IntKind.i64.wrap (z10x - 1))
                    · replace H := (if_pos z25h).symm.trans H
                      by_cases z26h : (IntKind.i64.wrap (z10x - 1)) < (x_l.length : Int)
                      · replace H := (if_pos z26h).symm.trans H
                        refine st_pu Sz24q rfl (g_on Sz24q rfl rfl rfl rfl (decide_eq_true z14h)) rfl rfl (fun _ => y_index Sz24q rfl rfl sl22 ti36 z25h z26h) ?_
                        intro az27q Sz27q
                        refine st_pu Sz27q rfl (g_on Sz27q rfl rfl rfl rfl (decide_eq_true z14h)) rfl rfl (fun _ => y_fieldAddr Sz27q rfl fo36x0 (z19o + Int.toNat (IntKind.i64.wrap (z10x - 1)) * 2 + 0) rfl) ?_
                        intro az28q Sz28q
                        refine st_rd Sz28q rfl (g_on Sz28q rfl rfl rfl rfl (decide_eq_true z14h)) rfl rfl (y_elS Sz28q (isH_rd [] Hq HR0) z17h z11h rfl ti3 _ rfl) ?_
                        intro az29q Sz29q
                        refine st_rd Sz29q rfl (g_on Sz29q rfl rfl rfl rfl (decide_eq_true z14h)) rfl rfl (y_elS Sz29q (isH_rd [] Hq HR0) z25h z26h rfl ti3 _ rfl) ?_
                        intro az30q Sz30q
                        refine st_pu Sz30q rfl (g_on Sz30q rfl rfl rfl rfl (decide_eq_true z14h)) rfl rfl (fun _ => y_of Sz30q _ rfl) ?_
                        intro az31q Sz31q
                        refine st_pu Sz31q rfl (g_none rfl) rfl rfl (fun _ => y_pick Sz31q rfl (decide_eq_true z14h) _ rfl) ?_
                        intro az32q Sz32q
                        refine st_nil ?_
                        replace S0 := Sz32q
                        refine nr_then ?_
                        obtain rfl := Option.some.inj H
                        exact ⟨S0.sub ⟨rfl, rfl, rfl, rfl, trivial⟩, Hq⟩
                      · replace H := (if_neg z26h).symm.trans H
                        exact nomatch H
                    · replace H := (if_neg z25h).symm.trans H
                      exact nomatch H
                  · replace H := (if_neg z17h).symm.trans H
                    exact nomatch H
                · replace H := (if_neg z14h).symm.trans H
                  refine st_puOff Sz13q rfl (g_off Sz13q rfl rfl rfl rfl (decide_eq_false z14h)) rfl rfl ?_
                  intro az33q Sz33q
                  refine st_puOff Sz33q rfl (g_off Sz33q rfl rfl rfl rfl (decide_eq_false z14h)) rfl rfl ?_
                  intro az34q Sz34q
                  refine st_puOff Sz34q rfl (g_off Sz34q rfl rfl rfl rfl (decide_eq_false z14h)) rfl rfl ?_
                  intro az35q Sz35q
                  refine st_puOff Sz35q rfl (g_off Sz35q rfl rfl rfl rfl (decide_eq_false z14h)) rfl rfl ?_
                  intro az36q Sz36q
                  refine st_puOff Sz36q rfl (g_off Sz36q rfl rfl rfl rfl (decide_eq_false z14h)) rfl rfl ?_
                  intro az37q Sz37q
                  refine st_puOff Sz37q rfl (g_off Sz37q rfl rfl rfl rfl (decide_eq_false z14h)) rfl rfl ?_
                  intro az38q Sz38q
                  refine st_puOff Sz38q rfl (g_off Sz38q rfl rfl rfl rfl (decide_eq_false z14h)) rfl rfl ?_
                  intro az39q Sz39q
                  refine st_puOff Sz39q rfl (g_off Sz39q rfl rfl rfl rfl (decide_eq_false z14h)) rfl rfl ?_
                  intro az40q Sz40q
                  refine st_puOff Sz40q rfl (g_off Sz40q rfl rfl rfl rfl (decide_eq_false z14h)) rfl rfl ?_
                  intro az41q Sz41q
                  refine st_rdOff Sz41q rfl (g_off Sz41q rfl rfl rfl rfl (decide_eq_false z14h)) rfl rfl ?_
                  intro az42q Sz42q
                  refine st_rdOff Sz42q rfl (g_off Sz42q rfl rfl rfl rfl (decide_eq_false z14h)) rfl rfl ?_
                  intro az43q Sz43q
                  refine st_puOff Sz43q rfl (g_off Sz43q rfl rfl rfl rfl (decide_eq_false z14h)) rfl rfl ?_
                  intro az44q Sz44q
                  refine st_pu Sz44q rfl (g_none rfl) rfl rfl (fun _ => y_pick Sz44q rfl (decide_eq_false z14h) _ rfl) ?_
                  intro az45q Sz45q
                  refine st_nil ?_
                  replace S0 := Sz45q
                  refine nr_then ?_
                  obtain rfl := Option.some.inj H
                  exact ⟨S0.sub ⟨rfl, rfl, rfl, rfl, trivial⟩, Hq⟩
              · clear S0; rintro a w ⟨S0, Hq⟩
                have H := HU2; clear HU2
                refine nr_then ?_
                by_cases z46h : z12x = true
                · replace H := (if_pos z46h).symm.trans H
                  refine w_true S0 rfl z46h ?_
                  refine w_seq ?_
                  refine w_region ?_
                  refine r_pures [_] S0 rfl ?_
                  clear S0; intro a0 S0
                  refine wl_nil ?_
                  refine nr_then ?_
                  refine w_ret ?_
                  refine ret_in ?_
                  refine ret_then ?_
                  refine ret_then ?_
                  refine ret_in ?_
                  refine ret_then ?_
                  obtain rfl := Option.some.inj H
                  have H := HU1; clear HU1; dsimp only at H
                  refine ret_then ?_
                  obtain rfl := Option.some.inj H
                  refine ret1 S0 rfl rfl ?_
                  exact ⟨rfl, Hq⟩
                · replace H := (if_neg z46h).symm.trans H
                  refine w_false S0 rfl (Bool.eq_false_iff.mpr z46h) ?_
                  refine w_skip ?_
                  refine nr_in ?_
                  refine nr_then ?_
                  refine w_region ?_
                  refine r_pures [_, _] S0 rfl ?_
                  clear S0; intro a0 S0
                  refine wl_nil ?_
                  refine nr_then ?_
                  exact ⟨(IntKind.i64.wrap (z10x + 1)), H, S0.sub ⟨rfl, rfl, rfl, trivial⟩, Hq⟩
            · replace H := (if_neg z11h).symm.trans H
              refine w_false S0 rfl (decide_eq_false z11h) ?_
              refine w_exit ?_
              refine ex_then ?_
              refine ex_then ?_
              refine ex_in ?_
              refine nr_then ?_
              obtain rfl := Option.some.inj H
              exact ⟨rfl, S0.sub trivial, Hq⟩
        · clear S0; rintro a w ⟨rfl, S0, Hq⟩
          have H := HU1; clear HU1; dsimp only at H
          refine nr_then ?_
          refine w_seq ?_
          refine w_region ?_
          refine r_pures [_] S0 rfl ?_
          clear S0; intro a0 S0
          refine wl_nil ?_
          refine nr_then ?_
          refine w_ret ?_
          obtain rfl := Option.some.inj H
          refine ret1 S0 rfl rfl ?_
          exact ⟨rfl, Hq⟩

end Go.Proofs.Ytmdpjijafejgpaa.M

/- waybill/hash.fold: a plain function, and that the machine's call comes to it: printed by a program of the session's own. -/
set_option linter.unusedVariables false
set_option linter.unusedSimpArgs false
namespace Go.Proofs.Ytmdpjijafejgpaa.M
open Go Go.Proofs.Ytmdpjijafejgpaa.Sl
/-! ### waybill/hash.fold: function 56 -/
def hash_fold.f (x_x : Int) : Option (Int) := some (bt_xor .u64 x_x (sh_shr .u64 x_x 33))
set_option maxRecDepth 100000 in
set_option maxHeartbeats 4000000 in
theorem hash_fold.calls (x_x : Int) (W0 : World) (X : Heap)  (Hq : HS W0 [isH X] W0) (r : Int) (H : hash_fold.f x_x = some r) :
    Calls Try.prog 56 #[.int .u64 x_x] W0 (fun e w => e = .returned (.int .u64 r) ∧ HS W0 [isH X] w) := by
  rw [hash_fold.f] at H
  refine calls_in Try.func56 rfl rfl ?_
  intro a0 S0
  refine w_seq ?_
  refine w_region ?_
  refine r_pures [_] S0 rfl ?_
  clear S0; intro a0 S0
  refine wl_nil ?_
  refine nr_then ?_
  refine w_seq ?_
  refine w_region ?_
  refine r_pures [_, _] S0 rfl ?_
  clear S0; intro a0 S0
  refine r_shr' S0 rfl rfl (by decide) rfl ?_
  clear S0; intro a0 S0
  refine r_pures [_, _] S0 rfl ?_
  clear S0; intro a0 S0
  refine wl_nil ?_
  refine nr_then ?_
  refine w_ret ?_
  obtain rfl := Option.some.inj H
  refine ret1 S0 rfl rfl ?_
  exact ⟨rfl, Hq⟩

end Go.Proofs.Ytmdpjijafejgpaa.M

/- waybill/hash.Mix: a plain function, and that the machine's call comes to it: printed by a program of the session's own. -/
set_option linter.unusedVariables false
set_option linter.unusedSimpArgs false
namespace Go.Proofs.Ytmdpjijafejgpaa.M
open Go Go.Proofs.Ytmdpjijafejgpaa.Sl
/-! ### waybill/hash.Mix: function 41 -/
def hash_Mix.f (x_x : Int) : Option (Int) := (hash_fold.f x_x).bind fun z2t => ((hash_fold.f (IntKind.u64.wrap (z2t * 18397679294719823053))).bind fun z4t => ((hash_fold.f (IntKind.u64.wrap (z4t * 14181476777654086739))).bind fun z6t => (some z6t)))
set_option maxRecDepth 100000 in
set_option maxHeartbeats 4000000 in
theorem hash_Mix.calls (x_x : Int) (W0 : World) (X : Heap)  (Hq : HS W0 [isH X] W0) (r : Int) (H : hash_Mix.f x_x = some r) :
    Calls Try.prog 41 #[.int .u64 x_x] W0 (fun e w => e = .returned (.int .u64 r) ∧ HS W0 [isH X] w) := by
  rw [hash_Mix.f] at H
  refine calls_in Try.func41 rfl rfl ?_
  intro a0 S0
  refine w_seq ?_
  refine w_region ?_
  refine r_pures [_] S0 rfl ?_
  clear S0; intro a0 S0
  refine wl_nil ?_
  refine nr_then ?_
  refine w_seq ?_
  refine w_region ?_
  refine r_pures [_] S0 rfl ?_
  clear S0; intro a0 S0
  obtain ⟨Xz1, HXz1, HPz1, HBz1⟩ := call_frame [] Hq
  dsimp only [List.cons_append, List.nil_append] at HXz1 HBz1
  obtain ⟨z2t, Hc, H⟩ := Option.bind_eq_some_iff.mp H
  refine r_call S0 rfl rfl goes56 rfl ?_
  refine (hash_fold.calls x_x _ _  HXz1 z2t Hc).mono ?_
  rintro e w ⟨rfl, Hq'⟩
  have Hq : HS W0 [isH X] w := HBz1 [] _ Hq'
  clear HXz1 HPz1 HBz1 Hq'
  refine ⟨.int .u64 z2t, rfl, ?_⟩; clear S0; intro a0 S0
  refine r_pures [_] S0 rfl ?_
  clear S0; intro a0 S0
  obtain ⟨Xz3, HXz3, HPz3, HBz3⟩ := call_frame [] Hq
  dsimp only [List.cons_append, List.nil_append] at HXz3 HBz3
  obtain ⟨z4t, Hc, H⟩ := Option.bind_eq_some_iff.mp H
  refine r_call S0 rfl rfl goes56 rfl ?_
  refine (hash_fold.calls (IntKind.u64.wrap (z2t * 18397679294719823053)) _ _  HXz3 z4t Hc).mono ?_
  rintro e w ⟨rfl, Hq'⟩
  have Hq : HS W0 [isH X] w := HBz3 [] _ Hq'
  clear HXz3 HPz3 HBz3 Hq'
  refine ⟨.int .u64 z4t, rfl, ?_⟩; clear S0; intro a0 S0
  refine r_pures [_] S0 rfl ?_
  clear S0; intro a0 S0
  obtain ⟨Xz5, HXz5, HPz5, HBz5⟩ := call_frame [] Hq
  dsimp only [List.cons_append, List.nil_append] at HXz5 HBz5
  obtain ⟨z6t, Hc, H⟩ := Option.bind_eq_some_iff.mp H
  refine r_call S0 rfl rfl goes56 rfl ?_
  refine (hash_fold.calls (IntKind.u64.wrap (z4t * 14181476777654086739)) _ _  HXz5 z6t Hc).mono ?_
  rintro e w ⟨rfl, Hq'⟩
  have Hq : HS W0 [isH X] w := HBz5 [] _ Hq'
  clear HXz5 HPz5 HBz5 Hq'
  refine ⟨.int .u64 z6t, rfl, ?_⟩; clear S0; intro a0 S0
  refine r_pures [_] S0 rfl ?_
  clear S0; intro a0 S0
  refine wl_nil ?_
  refine nr_then ?_
  refine w_ret ?_
  obtain rfl := Option.some.inj H
  refine ret1 S0 rfl rfl ?_
  exact ⟨rfl, Hq⟩

end Go.Proofs.Ytmdpjijafejgpaa.M

/- waybill/hash.Ints: a plain function, and that the machine's call comes to it: printed by a program of the session's own. -/
set_option linter.unusedVariables false
set_option linter.unusedSimpArgs false
namespace Go.Proofs.Ytmdpjijafejgpaa.M
open Go Go.Proofs.Ytmdpjijafejgpaa.Sl
/-! ### waybill/hash.Ints: function 25 -/
def hash_Ints.l0 : Nat → (List Int) → Int → Int → Option (Int)
  | 0, _, _, _ => none
  | k + 1, x_l, z2x, z3x => if z3x < (x_l.length : Int) then (if 0 ≤ z3x then ((hash_Mix.f (IntKind.u64.wrap (z2x + (IntKind.u64.wrap (rd e_i64 x_l z3x))))).bind fun z9t => (hash_Ints.l0 k x_l z9t (IntKind.i64.wrap (z3x + 1)))) else (none)) else (some z2x)
def hash_Ints.f (k : Nat) (x_seed : Int) (x_l : List Int) : Option (Int) := (((hash_Ints.l0 k x_l x_seed 0)) : Option (Int)).bind fun z1x => (some z1x)
set_option maxRecDepth 100000 in
set_option maxHeartbeats 4000000 in
theorem hash_Ints.calls (k : Nat) (x_seed : Int) (A1 : Option Addr) (n1 c1 : Nat) (x_l : List Int) (W0 : World) (X : Heap) (HR1 : Rd e_i64 X A1 n1 c1 x_l) (Hq : HS W0 [isH X] W0) (r : Int) (H : hash_Ints.f k x_seed x_l = some r) :
    Calls Try.prog 25 #[.int .u64 x_seed, .slice A1 n1 c1] W0 (fun e w => e = .returned (.int .u64 r) ∧ HS W0 [isH X] w) := by
  obtain rfl := HR1.1
  rw [hash_Ints.f] at H
  refine calls_in Try.func25 rfl rfl ?_
  intro a0 S0
  refine w_seq ?_
  refine w_region ?_
  refine r_pures [_] S0 rfl ?_
  clear S0; intro a0 S0
  refine wl_nil ?_
  refine nr_then ?_
  refine w_seq ?_
  refine w_seq ?_
  refine w_region ?_
  refine r_pures [_] S0 rfl ?_
  clear S0; intro a0 S0
  refine r_len S0 rfl sl32 rfl ?_
  clear S0; intro a0 S0
  refine r_pures [_] S0 rfl ?_
  clear S0; intro a0 S0
  refine wl_nil ?_
  refine nr_then ?_
  obtain ⟨z1x, H, HU1⟩ := Option.bind_eq_some_iff.mp H
  refine w_cutT (fun a w => Sl 20 [] [(0, .int .u64 z1x)] a ∧ HS W0 [isH X] w) ?_ ?_
  · skip
    refine w_block ?_
    refine w_loop (fun kq a w => ∃ z2x z3x, hash_Ints.l0 kq x_l z2x z3x = some z1x ∧ Sl 20 [] [(0, .int .u64 z2x), (7, .slice A1 x_l.length c1), (8, .int .i64 (x_l.length : Int)), (9, .int .i64 z3x)] a ∧ HS W0 [isH X] w) _ ⟨x_seed, 0, H, S0.sub ⟨rfl, rfl, rfl, rfl, trivial⟩, Hq⟩ ?_
    clear H Hq S0
    rintro k0 a w ⟨z2x, z3x, H, S0, Hq⟩
    cases k0 with
    | zero => simp [hash_Ints.l0] at H
    | succ k0 =>
      refine ⟨k0, rfl, ?_⟩
      rw [hash_Ints.l0] at H
      refine w_seq ?_
      refine w_region ?_
      refine r_pures [_] S0 rfl ?_
      clear S0; intro a0 S0
      refine wl_nil ?_
      refine nr_then ?_
      refine w_seq ?_
      by_cases z4h : z3x < (x_l.length : Int)
      · replace H := (if_pos z4h).symm.trans H
        refine w_true S0 rfl (decide_eq_true z4h) ?_
        refine w_skip ?_
        refine nr_then ?_
        refine w_seq ?_
        refine w_block ?_
        refine w_seq ?_
        refine w_region ?_
        by_cases z5h : 0 ≤ z3x
        · replace H := (if_pos z5h).symm.trans H
          obtain ⟨z6b, z7o, rfl⟩ := (isH_rd [] Hq HR1).at (by omega)
          refine r_index S0 rfl rfl sl32 ti3 z5h z4h rfl ?_
          clear S0; intro a0 S0
          refine r_elS S0 (isH_rd [] Hq HR1) z5h z4h rfl ti3 _ rfl rfl ?_
          clear S0; intro a0 S0
          refine r_pures [_] S0 rfl ?_
          clear S0; intro a0 S0
          refine wl_nil ?_
          refine nr_then ?_
          refine w_region ?_
          refine r_pures [_, _] S0 rfl ?_
          clear S0; intro a0 S0
          refine r_conv S0 rfl und3 und23 rfl ?_
          clear S0; intro a0 S0
          refine r_pures [_] S0 rfl ?_
          clear S0; intro a0 S0
          obtain ⟨Xz8, HXz8, HPz8, HBz8⟩ := call_frame [] Hq
          dsimp only [List.cons_append, List.nil_append] at HXz8 HBz8
          obtain ⟨z9t, Hc, H⟩ := Option.bind_eq_some_iff.mp H
          refine r_call S0 rfl rfl goes41 rfl ?_
          refine (hash_Mix.calls (IntKind.u64.wrap (z2x + (IntKind.u64.wrap (rd e_i64 x_l z3x)))) _ _  HXz8 z9t Hc).mono ?_
          rintro e w ⟨rfl, Hq'⟩
          have Hq : HS W0 [isH X] w := HBz8 [] _ Hq'
          clear HXz8 HPz8 HBz8 Hq'
          refine ⟨.int .u64 z9t, rfl, ?_⟩; clear S0; intro a0 S0
          refine r_pures [_] S0 rfl ?_
          clear S0; intro a0 S0
          refine wl_nil ?_
          refine nr_in ?_
          refine nr_then ?_
          refine w_region ?_
          refine r_pures [_, _] S0 rfl ?_
          clear S0; intro a0 S0
          refine wl_nil ?_
          refine nr_then ?_
          exact ⟨z9t, (IntKind.i64.wrap (z3x + 1)), H, S0.sub ⟨rfl, rfl, rfl, rfl, trivial⟩, Hq⟩
        · replace H := (if_neg z5h).symm.trans H
          exact nomatch H
      · replace H := (if_neg z4h).symm.trans H
        refine w_false S0 rfl (decide_eq_false z4h) ?_
        refine w_exit ?_
        refine ex_then ?_
        refine ex_then ?_
        refine ex_in ?_
        refine nr_then ?_
        obtain rfl := Option.some.inj H
        exact ⟨S0.sub ⟨rfl, trivial⟩, Hq⟩
  · clear S0; rintro a w ⟨S0, Hq⟩
    have H := HU1; clear HU1
    refine nr_then ?_
    refine w_seq ?_
    refine w_region ?_
    refine r_pures [_, _] S0 rfl ?_
    clear S0; intro a0 S0
    refine wl_nil ?_
    refine nr_then ?_
    refine w_ret ?_
    obtain rfl := Option.some.inj H
    refine ret1 S0 rfl rfl ?_
    exact ⟨rfl, Hq⟩

end Go.Proofs.Ytmdpjijafejgpaa.M

