/- A small separation logic over the machine's memory: heaps, chunks, what a list of chunks says of a world. Used by the walks of this seat. -/
import Derived.Deep.MidRow
import Derived.RangeFuncIn
import Derived.RangeFuncLeaves
import Derived.TacticsIn
import Derived.OrdersIn
import Derived.Laws.AppendOwn
import Derived.Laws.AppendOwnNone
import Derived.Laws.OwnMore
import Derived.Laws.MakeOwn
import Derived.Below
set_option linter.unusedVariables false
set_option linter.unusedSimpArgs false
namespace Go.Proofs.Ythlogangnppghaa.Sl
open Go

abbrev Heap := Nat → Option Obj
abbrev Hp := Heap → Prop
def hpOf (w : World) : Heap := fun b => w.heap[b]?
def dj (h k : Heap) : Prop := ∀ b, h b = none ∨ k b = none
def un (h k : Heap) : Heap := fun b => match h b with | some o => some o | none => k b
def one (b : Nat) (o : Obj) : Heap := fun k => if k = b then some o else none
def upd (h : Heap) (b : Nat) (o : Obj) : Heap := fun k => if k = b then some o else h k
def SL : List Hp → Hp
  | [] => fun _ => True
  | c :: cs => fun h => ∃ h1 h2, dj h1 h2 ∧ h = un h1 h2 ∧ c h1 ∧ SL cs h2
def isH (X : Heap) : Hp := fun h => h = X

theorem un_some {h k : Heap} {b : Nat} {o : Obj} (e : h b = some o) : un h k b = some o := by simp [un, e]
theorem un_right {h k : Heap} {b : Nat} (e : h b = none) : un h k b = k b := by simp [un, e]
theorem dj_symm {h k : Heap} (d : dj h k) : dj k h := fun b => (d b).symm
theorem un_comm {h k : Heap} (d : dj h k) : un h k = un k h := by
  funext b
  rcases d b with e | e <;> cases h1 : h b <;> cases k1 : k b <;> simp_all [un]
theorem un_assoc (a b c : Heap) : un (un a b) c = un a (un b c) := by
  funext x; simp only [un]; cases a x <;> simp
theorem dj_un {a b c : Heap} : dj a (un b c) ↔ dj a b ∧ dj a c := by
  constructor
  · intro d
    refine ⟨fun x => ?_, fun x => ?_⟩ <;> rcases d x with e | e <;> simp_all [un] <;> cases h : b x <;> simp_all
  · rintro ⟨d1, d2⟩ x
    rcases d1 x with e | e
    · exact .inl e
    · rcases d2 x with e2 | e2
      · exact .inl e2
      · exact .inr (by simp [un, e, e2])
theorem un_dj {a b c : Heap} : dj (un b c) a ↔ dj b a ∧ dj c a := by
  constructor
  · intro d; have := dj_un.1 (dj_symm d); exact ⟨dj_symm this.1, dj_symm this.2⟩
  · rintro ⟨d1, d2⟩; exact dj_symm (dj_un.2 ⟨dj_symm d1, dj_symm d2⟩)

theorem SL.swap {a b : Hp} {cs : List Hp} {h : Heap} (H : SL (a :: b :: cs) h) : SL (b :: a :: cs) h := by
  obtain ⟨h1, h2, d, rfl, ha, k1, k2, d', rfl, hb, hc⟩ := H
  obtain ⟨d1, d2⟩ := dj_un.1 d
  refine ⟨k1, un h1 k2, dj_un.2 ⟨dj_symm d1, d'⟩, ?_, hb, h1, k2, d2, rfl, ha, hc⟩
  rw [← un_assoc, un_comm d1, un_assoc]
theorem SL.tail_mono {a : Hp} {cs cs' : List Hp} {h : Heap} (H : SL (a :: cs) h) (f : ∀ h, SL cs h → SL cs' h) : SL (a :: cs') h := by
  obtain ⟨h1, h2, d, e, ha, hc⟩ := H
  exact ⟨h1, h2, d, e, ha, f _ hc⟩
theorem SL.pull : ∀ (pre : List Hp) {c : Hp} {post : List Hp} {h : Heap}, SL (pre ++ c :: post) h → SL (c :: (pre ++ post)) h
  | [], _, _, _, H => H
  | _ :: pre, _, _, _, H => SL.swap (H.tail_mono fun _ k => SL.pull pre k)
theorem SL.push : ∀ (pre : List Hp) {c : Hp} {post : List Hp} {h : Heap}, SL (c :: (pre ++ post)) h → SL (pre ++ c :: post) h
  | [], _, _, _, H => H
  | _ :: pre, _, _, _, H => (SL.swap H).tail_mono fun _ k => SL.push pre k
theorem SL.head_mono {c c' : Hp} {cs : List Hp} {h : Heap} (H : SL (c :: cs) h) (f : ∀ h, c h → c' h) : SL (c' :: cs) h := by
  obtain ⟨h1, h2, d, e, ha, hc⟩ := H
  exact ⟨h1, h2, d, e, f _ ha, hc⟩
theorem SL.drop {c : Hp} {cs : List Hp} : ∀ {h : Heap}, SL (c :: cs) h → SL cs h := by
  intro h H
  cases cs with
  | nil => trivial
  | cons a cs =>
    obtain ⟨h1, h2, d, rfl, ha, k1, k2, d', rfl, hb, hc⟩ := H
    obtain ⟨d1, d2⟩ := dj_un.1 d
    -- what is left over goes to the end
    clear ha
    have : ∀ (cs : List Hp) (x y : Heap), dj x y → SL cs y → SL cs (un x y) := by
      intro cs
      induction cs with
      | nil => intros; trivial
      | cons a cs ih =>
        rintro x y d ⟨y1, y2, e, rfl, p, q⟩
        obtain ⟨d1, d2⟩ := dj_un.1 d
        exact ⟨y1, un x y2, dj_un.2 ⟨dj_symm d1, e⟩, by rw [← un_assoc, un_comm d1, un_assoc], p, ih _ _ d2 q⟩
    exact this (a :: cs) _ _ d ⟨k1, k2, d', rfl, hb, hc⟩
theorem SL.dropAt (pre : List Hp) {c : Hp} {post : List Hp} {h : Heap} (H : SL (pre ++ c :: post) h) : SL (pre ++ post) h := (SL.pull pre H).drop
/-- what is not said of is left over -/
theorem SL.weak : ∀ (cs : List Hp) {x y : Heap}, dj x y → SL cs y → SL cs (un x y) := by
  intro cs x y d H
  exact SL.drop (c := fun h => h = x) ⟨x, y, d, rfl, rfl, H⟩

/-- a cell of a heap -/
def hcell (h : Heap) (b o : Nat) : Option Value := match h b with | some (.cells c _ _) => c[o]? | _ => none
theorem cell_hcell (w : World) (b o : Nat) : w.cell? ⟨b, o, none⟩ = hcell (hpOf w) b o := by
  simp only [World.cell?, hcell, hpOf]; cases w.heap[b]? with
  | none => rfl
  | some x => cases x <;> simp
theorem SL.block {pre : List Hp} {c : Hp} {post : List Hp} {h : Heap} (H : SL (pre ++ c :: post) h) {b : Nat} {o : Obj} (f : ∀ h, c h → h b = some o) : h b = some o := by
  obtain ⟨h1, h2, d, rfl, ha, -⟩ := SL.pull pre H
  exact un_some (f _ ha)
theorem SL.hcell {pre : List Hp} {c : Hp} {post : List Hp} {h : Heap} (H : SL (pre ++ c :: post) h) {b o : Nat} {v : Value} (f : ∀ h, c h → hcell h b o = some v) : hcell h b o = some v := by
  obtain ⟨h1, h2, d, rfl, ha, -⟩ := SL.pull pre H
  have := f _ ha
  unfold Sl.hcell at this ⊢
  cases e : h1 b with
  | none => rw [e] at this; cases this
  | some x => rw [un_some e]; rwa [e] at this
/-- one chunk's knowledge -/
theorem SL.pure {pre : List Hp} {c : Hp} {post : List Hp} {h : Heap} (H : SL (pre ++ c :: post) h) {p : Prop} (f : ∀ h, c h → p) : p := by
  obtain ⟨h1, h2, d, rfl, ha, -⟩ := SL.pull pre H
  exact f _ ha
theorem SL.mono1 {pre : List Hp} {c c' : Hp} {post : List Hp} {h : Heap} (H : SL (pre ++ c :: post) h) (f : ∀ h, c h → c' h) : SL (pre ++ c' :: post) h :=
  SL.push pre ((SL.pull pre H).head_mono f)

/-- a block of one chunk is turned -/
theorem SL.upd {pre : List Hp} {c c' : Hp} {post : List Hp} {h : Heap} (H : SL (pre ++ c :: post) h) (b : Nat) (o : Obj)
    (f : ∀ h, c h → h b ≠ none ∧ c' (upd h b o)) : SL (pre ++ c' :: post) (Sl.upd h b o) := by
  obtain ⟨h1, h2, d, rfl, ha, hr⟩ := SL.pull pre H
  obtain ⟨hb, hc⟩ := f _ ha
  have hb2 : h2 b = none := (d b).resolve_left hb
  refine SL.push pre ⟨Sl.upd h1 b o, h2, fun x => ?_, ?_, hc, hr⟩
  · by_cases e : x = b
    · subst e; exact .inr hb2
    · rcases d x with q | q
      · exact .inl (by simp [Sl.upd, e, q])
      · exact .inr q
  · funext x
    by_cases e : x = b
    · subst e; simp [Sl.upd, un]
    · simp [Sl.upd, un, e]
/-- a chunk takes other blocks: those that it had in w, and new ones -/
theorem SL.turn {pre : List Hp} {c c' : Hp} {post : List Hp} {w w' : World} (H : SL (pre ++ c :: post) (hpOf w)) (row : Option Nat)
    (hrow : ∀ k, row = some k → ∀ h, c h → h k ≠ none)
    (hkeep : ∀ k, k < w.heap.size → some k ≠ row → w'.heap[k]? = w.heap[k]?)
    (f : ∀ h1, c h1 → (∀ k o, h1 k = some o → some k ≠ row → w'.heap[k]? = some o) → ∃ h1', c' h1' ∧ (∀ k o, h1' k = some o → w'.heap[k]? = some o ∧ (h1 k ≠ none ∨ w.heap.size ≤ k))) :
    SL (pre ++ c' :: post) (hpOf w') := by
  obtain ⟨h1, h2, d, e, ha, hr⟩ := SL.pull pre H
  have lt : ∀ k o, hpOf w k = some o → k < w.heap.size := fun k o h => (Array.getElem?_eq_some_iff.1 h).1
  have e1 : ∀ k o, h1 k = some o → hpOf w k = some o := fun k o h => by rw [e]; exact un_some h
  have e2 : ∀ k o, h2 k = some o → hpOf w k = some o := fun k o h => by
    rw [e, un_right]; exact h
    exact (d k).resolve_right (by simp [h])
  obtain ⟨h1', hc', hin⟩ := f h1 ha (fun k o h hne => by rw [hkeep k (lt k o (e1 k o h)) hne]; exact e1 k o h)
  have e2' : ∀ k o, h2 k = some o → w'.heap[k]? = some o := fun k o h => by
    rw [hkeep k (lt k o (e2 k o h)) (fun hk => ?_)]
    · exact e2 k o h
    · exact hrow k hk.symm h1 ha ((d k).resolve_right (by simp [h]))
  have dd : dj h1' h2 := fun k => by
    cases q : h1' k with
    | none => exact .inl rfl
    | some o =>
      refine .inr ?_
      rcases (hin k o q).2 with z | z
      · exact (d k).resolve_left z
      · cases q2 : h2 k with
        | none => rfl
        | some o2 => have := lt k o2 (e2 k o2 q2); omega
  -- the rest of the heap
  have rest : hpOf w' = un (fun k => if h1' k = none ∧ h2 k = none then w'.heap[k]? else none) (un h1' h2) := by
    funext k
    simp only [hpOf, un]
    cases q : h1' k with
    | some o => simp [(hin k o q).1]
    | none =>
      cases q2 : h2 k with
      | some o => simp [e2' k o q2]
      | none => simp; cases w'.heap[k]? <;> rfl
  rw [rest]
  refine SL.push pre (SL.weak _ (fun k => ?_) ⟨h1', h2, dd, rfl, hc', hr⟩)
  by_cases q : h1' k = none ∧ h2 k = none
  · exact .inr (by simp [un, q.1, q.2])
  · exact .inl (by simp [q])

/-- for a call: what the callee isn't handed is its frame -/
theorem SL.frame (pre : List Hp) {post : List Hp} : ∀ {h : Heap}, SL (pre ++ post) h → ∃ X, SL (pre ++ [isH X]) h ∧ SL post X := by
  induction pre with
  | nil => intro h H; exact ⟨h, ⟨h, fun _ => none, fun _ => .inr rfl, by funext b; simp only [un]; cases h b <;> rfl, rfl, trivial⟩, H⟩
  | cons c pre ih =>
    rintro h ⟨h1, h2, d, e, ha, hr⟩
    obtain ⟨X, hX, hp⟩ := ih hr
    exact ⟨X, ⟨h1, h2, d, e, ha, hX⟩, hp⟩
theorem SL.unframe (pre : List Hp) {post : List Hp} {X : Heap} (hp : SL post X) : ∀ {h : Heap}, SL (pre ++ [isH X]) h → SL (pre ++ post) h := by
  induction pre with
  | nil =>
    rintro h ⟨h1, h2, d, rfl, e, -⟩
    cases e
    rw [un_comm d]; exact SL.weak _ (dj_symm d) hp
  | cons c pre ih => rintro h ⟨h1, h2, d, e, ha, hr⟩; exact ⟨h1, h2, d, e, ha, ih hr⟩

theorem SL.keep : ∀ (pre : List Hp) {post : List Hp} {h : Heap}, SL (pre ++ post) h → SL pre h
  | [], _, _, _ => trivial
  | _ :: pre, _, _, H => H.tail_mono fun _ k => SL.keep pre k
/-- what is said of a world -/
structure HS (w0 : World) (cs : List Hp) (w : World) : Prop where
  sl : SL cs (hpOf w)
  os : w.os = w0.os
  tape : w.tape = w0.tape
  out : w.output = w0.output
  size : w0.heap.size ≤ w.heap.size
theorem HS.of {w0 w w' : World} {cs cs' : List Hp} (H : HS w0 cs w) (k : HS w cs' w') : HS w0 cs' w' :=
  ⟨k.sl, k.os.trans H.os, k.tape.trans H.tape, k.out.trans H.out, Nat.le_trans H.size k.size⟩
theorem HS.map {w0 w : World} {cs cs' : List Hp} (H : HS w0 cs w) (f : SL cs (hpOf w) → SL cs' (hpOf w)) : HS w0 cs' w := ⟨f H.sl, H.os, H.tape, H.out, H.size⟩
theorem HS.pull {w0 w : World} (pre : List Hp) {c : Hp} {post : List Hp} (H : HS w0 (pre ++ c :: post) w) : HS w0 (c :: (pre ++ post)) w := H.map (SL.pull pre)
theorem HS.keep {w0 w : World} (pre : List Hp) {post : List Hp} (H : HS w0 (pre ++ post) w) : HS w0 pre w := H.map (SL.keep pre)
theorem call_frame {w0 w : World} (pre : List Hp) {post : List Hp} (H : HS w0 (pre ++ post) w) : ∃ X, HS w (pre ++ [isH X]) w ∧ SL post X ∧ ∀ pre' w', HS w (pre' ++ [isH X]) w' → HS w0 (pre' ++ post) w' := by
  obtain ⟨X, h1, h2⟩ := SL.frame pre H.sl
  exact ⟨X, ⟨h1, rfl, rfl, rfl, Nat.le_refl _⟩, h2, fun pre' w' k => (HS.of H k).map (SL.unframe pre' h2)⟩
theorem HS.start (w : World) : HS w [isH (hpOf w)] w :=
  ⟨⟨hpOf w, fun _ => none, fun _ => .inr rfl, by funext b; simp only [un]; cases hpOf w b <;> rfl, rfl, trivial⟩, rfl, rfl, rfl, Nat.le_refl _⟩
theorem HS.drew {w0 w : World} {cs : List Hp} (H : HS w0 cs w) : HS w0 cs { w with drawn := w.drawn + 1 } := ⟨H.sl, H.os, H.tape, H.out, H.size⟩
theorem HS.below {w0 w : World} {pre post : List Hp} (H : HS w0 (pre ++ isH (hpOf w0) :: post) w) : RowKit.Below w0.heap.size w0 w := by
  refine ⟨H.os, H.tape, H.out, H.size, fun k hk => ?_⟩
  obtain ⟨o, ho⟩ : ∃ o, w0.heap[k]? = some o := ⟨_, Array.getElem?_eq_getElem hk⟩
  rw [ho]
  exact SL.block (b := k) (o := o) H.sl (fun h e => by rw [show h = hpOf w0 from e]; exact ho)

/-- a whole block of cells -/
def bx (b : Nat) (T : TypeId) (cs : List Value) : Hp := fun h => h = one b (.cells cs.toArray T (0, 0))
theorem bx_hcell {b : Nat} {T : TypeId} {cs : List Value} (o : Nat) {v : Value} (e : cs[o]? = some v) : ∀ h, bx b T cs h → hcell h b o = some v := by
  rintro h rfl
  simpa [hcell, one] using e
theorem hpOf_alloc (w : World) (o : Obj) : hpOf (w.alloc o) = upd (hpOf w) w.heap.size o := by
  funext k
  simp only [hpOf, upd, World.alloc]
  rw [Array.getElem?_push]
theorem SL.alloc {cs : List Hp} {w : World} (H : SL cs (hpOf w)) (o : Obj) : SL ((fun h => h = one w.heap.size o) :: cs) (hpOf (w.alloc o)) := by
  refine ⟨_, hpOf w, fun k => ?_, ?_, rfl, H⟩
  · by_cases e : k = w.heap.size
    · exact .inr (by simp [hpOf, e])
    · exact .inl (by simp [one, e])
  · rw [hpOf_alloc]; funext k
    by_cases e : k = w.heap.size <;> simp [Sl.upd, un, one, e]
theorem HS.alloc {w0 w : World} {cs : List Hp} (H : HS w0 cs w) (o : Obj) : HS w0 ((fun h => h = one w.heap.size o) :: cs) (w.alloc o) :=
  ⟨H.sl.alloc o, H.os, H.tape, H.out, by have := H.size; show w0.heap.size ≤ (w.heap.push o).size; rw [Array.size_push]; omega⟩
theorem HS.box {w0 w : World} {cs : List Hp} (H : HS w0 cs w) (T : TypeId) (vs : Array Value) : HS w0 (bx w.heap.size T vs.toList :: cs) (w.alloc (.cells vs T)) := by
  have e : bx w.heap.size T vs.toList = fun h => h = one w.heap.size (.cells vs T) := by unfold bx; rw [Array.toArray_toList]
  rw [e]
  exact H.alloc (.cells vs T)
end Go.Proofs.Ythlogangnppghaa.Sl
