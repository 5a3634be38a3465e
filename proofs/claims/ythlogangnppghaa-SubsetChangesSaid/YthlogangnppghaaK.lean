/- The types and closed facts of this seat's translation, printed by a program of the session's own. -/
import Derived.Test.YthlogangnppghaaProg
import Derived.Test.YthlogangnppghaaSlJ
set_option linter.unusedVariables false
namespace Go.Proofs.Ythlogangnppghaa.M
open Go Go.Proofs.Ythlogangnppghaa.Sl
structure subset_dealer where
  ids : List Int
  size : Int
  seed : Int
def subset_dealer.zero : subset_dealer := ⟨[], 0, 0⟩
structure subset_place where
  round : Int
  at_ : Int
def subset_place.zero : subset_place := ⟨0, 0⟩
def e_i64 : En Int := ⟨1, fun x => [.int .i64 x], 0, fun _ => rfl, fun _ => rfl, by decide⟩
theorem TryM.mixed : Try.prog.follows .mixedOrders = true := by kernel_rfl
theorem sl22 : slE Try.prog 22 = some 3 := by kernel_rfl
theorem ti3 : tyI Try.prog 3 = some (false, 1, 8, [.int .i64 0]) := by kernel_rfl
theorem ti45 : tyI Try.prog 45 = some (true, 3, 40, [.slice none 0 0, .int .i64 0, .int .u64 0]) := by kernel_rfl
theorem pl45 : places Try.prog 45 = some [(0, 1), (1, 1), (2, 1)] := by kernel_rfl
theorem fo45x0 : fieldOff Try.prog 45 0 = some 0 := by kernel_rfl
theorem ti22 : tyI Try.prog 22 = some (false, 1, 24, [.slice none 0 0]) := by kernel_rfl
theorem goes27 : Goes Try.prog 27 := ⟨_, _, Try.func27, rfl, by decide⟩
theorem fo45x1 : fieldOff Try.prog 45 1 = some 1 := by kernel_rfl
theorem goes14 : Goes Try.prog 14 := ⟨_, _, Try.func14, rfl, by decide⟩
theorem ti57 : tyI Try.prog 57 = some (true, 2, 16, [.int .i64 0, .int .i64 0]) := by kernel_rfl
theorem pl57 : places Try.prog 57 = some [(0, 1), (1, 1)] := by kernel_rfl
theorem goes32 : Goes Try.prog 32 := ⟨_, _, Try.func32, rfl, by decide⟩
theorem fo45x2 : fieldOff Try.prog 45 2 = some 2 := by kernel_rfl
theorem fo57x0 : fieldOff Try.prog 57 0 = some 0 := by kernel_rfl
theorem ti23 : tyI Try.prog 23 = some (false, 1, 8, [.int .u64 0]) := by kernel_rfl
theorem und3 : Try.prog.underlying 3 = some (.int .i64) := by kernel_rfl
theorem und23 : Try.prog.underlying 23 = some (.int .u64) := by kernel_rfl
theorem goes63 : Goes Try.prog 63 := ⟨_, _, Try.func63, rfl, by decide⟩
theorem goes50 : Goes Try.prog 50 := ⟨_, _, Try.func50, rfl, by decide⟩
theorem goes40 : Goes Try.prog 40 := ⟨_, _, Try.func40, rfl, by decide⟩
theorem ti78 : tyI Try.prog 78 = some (false, 1, 8, [.int .u64 0]) := by kernel_rfl
theorem goes61 : Goes Try.prog 61 := ⟨_, _, Try.func61, rfl, by decide⟩
theorem goes69 : Goes Try.prog 69 := ⟨_, _, Try.func69, rfl, by decide⟩
theorem goes62 : Goes Try.prog 62 := ⟨_, _, Try.func62, rfl, by decide⟩
theorem goes49 : Goes Try.prog 49 := ⟨_, _, Try.func49, rfl, by decide⟩
theorem goes39 : Goes Try.prog 39 := ⟨_, _, Try.func39, rfl, by decide⟩
theorem fo57x1 : fieldOff Try.prog 57 1 = some 1 := by kernel_rfl
theorem goes35 : Goes Try.prog 35 := ⟨_, _, Try.func35, rfl, by decide⟩
theorem goes28 : Goes Try.prog 28 := ⟨_, _, Try.func28, rfl, by decide⟩
theorem goes19 : Goes Try.prog 19 := ⟨_, _, Try.func19, rfl, by decide⟩
theorem goes12 : Goes Try.prog 12 := ⟨_, _, Try.func12, rfl, by decide⟩
theorem goes8 : Goes Try.prog 8 := ⟨_, _, Try.func8, rfl, by decide⟩
theorem goes18 : Goes Try.prog 18 := ⟨_, _, Try.func18, rfl, by decide⟩
theorem goes6 : Goes Try.prog 6 := ⟨_, _, Try.func6, rfl, by decide⟩
theorem goes20 : Goes Try.prog 20 := ⟨_, _, Try.func20, rfl, by decide⟩
theorem goes7 : Goes Try.prog 7 := ⟨_, _, Try.func7, rfl, by decide⟩
theorem goes31 : Goes Try.prog 31 := ⟨_, _, Try.func31, rfl, by decide⟩
theorem goes42 : Goes Try.prog 42 := ⟨_, _, Try.func42, rfl, by decide⟩
theorem goes33 : Goes Try.prog 33 := ⟨_, _, Try.func33, rfl, by decide⟩
theorem goes43 : Goes Try.prog 43 := ⟨_, _, Try.func43, rfl, by decide⟩
theorem goes34 : Goes Try.prog 34 := ⟨_, _, Try.func34, rfl, by decide⟩
theorem goes36 : Goes Try.prog 36 := ⟨_, _, Try.func36, rfl, by decide⟩
theorem goes21 : Goes Try.prog 21 := ⟨_, _, Try.func21, rfl, by decide⟩
theorem goes9 : Goes Try.prog 9 := ⟨_, _, Try.func9, rfl, by decide⟩
theorem goes10 : Goes Try.prog 10 := ⟨_, _, Try.func10, rfl, by decide⟩
theorem und4 : Try.prog.underlying 4 = some (.bool) := by kernel_rfl
theorem goes11 : Goes Try.prog 11 := ⟨_, _, Try.func11, rfl, by decide⟩
theorem goes22 : Goes Try.prog 22 := ⟨_, _, Try.func22, rfl, by decide⟩
theorem goes15 : Goes Try.prog 15 := ⟨_, _, Try.func15, rfl, by decide⟩
theorem goes48 : Goes Try.prog 48 := ⟨_, _, Try.func48, rfl, by decide⟩
theorem goes38 : Goes Try.prog 38 := ⟨_, _, Try.func38, rfl, by decide⟩
theorem goes24 : Goes Try.prog 24 := ⟨_, _, Try.func24, rfl, by decide⟩
theorem goes46 : Goes Try.prog 46 := ⟨_, _, Try.func46, rfl, by decide⟩
theorem goes47 : Goes Try.prog 47 := ⟨_, _, Try.func47, rfl, by decide⟩
theorem goes37 : Goes Try.prog 37 := ⟨_, _, Try.func37, rfl, by decide⟩
theorem goes23 : Goes Try.prog 23 := ⟨_, _, Try.func23, rfl, by decide⟩
theorem goes25 : Goes Try.prog 25 := ⟨_, _, Try.func25, rfl, by decide⟩
theorem goes13 : Goes Try.prog 13 := ⟨_, _, Try.func13, rfl, by decide⟩
theorem goes26 : Goes Try.prog 26 := ⟨_, _, Try.func26, rfl, by decide⟩
theorem goes16 : Goes Try.prog 16 := ⟨_, _, Try.func16, rfl, by decide⟩
theorem goes17 : Goes Try.prog 17 := ⟨_, _, Try.func17, rfl, by decide⟩
end Go.Proofs.Ythlogangnppghaa.M
