/-
  The closed facts of a row, one by one.
  Conditions: none.
-/
import Derived.Test.YtinchlfaepjfiaaDoorRows
import Derived.Test.YtinchlfaepjfiaaDoorChecked
import Derived.WalkKit
import Derived.ProofKit
import Derived.OpenShut
namespace Go.Proofs.YtinchlfaepjfiaaDoor.walPlays
open Go.ChangeShapes Go.WideShapes Go.ChangeAt Go.RowKit Go.Proofs.YtinchlfaepjfiaaDoor
set_option maxRecDepth 100000
set_option maxHeartbeats 8000000
theorem j1 : OpenClaim.wf (OpenSpec.ofChange Rows.walPlaysSpec) Rows.walPlaysRow = true := by kernel_rfl
theorem j2 : laidOutB Tryd.pinned.checked.prog = true := by kernel_rfl
theorem j3 : mapsRowed Tryd.pinned.checked.prog = true := by kernel_rfl
theorem j4 : (Tryd.f3.params.all fun x => Tryd.pinned.checked.prog.readableRec x) = true := by kernel_rfl
theorem j5 : namedTie Tryd.pinned.checked.prog Rows.walPlaysRow.named Rows.walPlaysSpec.vars = true := by kernel_rfl
theorem j6 : (Rows.walPlaysRow.stops == []) = true := by kernel_rfl
theorem j7 : (Tryd.pinned.checked.prog.stops == []) = true := by kernel_rfl
theorem j8 : (Rows.walPlaysRow.knobs == []) = true := by kernel_rfl
theorem j9 : (Tryd.pinned.checked.prog.stopKnobs == []) = true := by kernel_rfl
theorem j10 : (Rows.walPlaysRow.inPlace == Tryd.pinned.checked.prog.inPlace 3) = true := by kernel_rfl
theorem j11 : (Rows.walPlaysRow.unfollowed == Tryd.pinned.checked.prog.unfollowed 3) = true := by kernel_rfl
theorem j12 : (Rows.walPlaysRow.recurses == Tryd.pinned.checked.prog.recurses 3) = true := by kernel_rfl
theorem j13 : (Rows.walPlaysRow.named == Tryd.pinned.checked.prog.varsNamed 3) = true := by kernel_rfl
theorem j14 : (Rows.walPlaysRow.maps == (Tryd.f3.params.toList ++ Rows.walPlaysSpec.plain.varTypes Tryd.pinned.checked.prog).any fun x => Tryd.pinned.checked.prog.mapsRec x) = true := by kernel_rfl
theorem j15 : (Rows.walPlaysRow.ifaces == (Tryd.f3.params.toList ++ Rows.walPlaysSpec.plain.varTypes Tryd.pinned.checked.prog).any fun x => Tryd.pinned.checked.prog.ifacesRec x) = true := by kernel_rfl
theorem j16 : (Rows.walPlaysRow.mapsOut == Tryd.pinned.checked.prog.mapsAmong Tryd.f3.resultTypes.toList) = true := by kernel_rfl
theorem j17 : (Rows.walPlaysRow.loops == (Tryd.f3.params.toList ++ Rows.walPlaysSpec.plain.varTypes Tryd.pinned.checked.prog).any fun x => Tryd.pinned.checked.prog.loopsFrom x) = true := by kernel_rfl
theorem j18 : (Rows.walPlaysRow.wideKeys == (Tryd.f3.params.toList ++ Rows.walPlaysSpec.plain.varTypes Tryd.pinned.checked.prog ++ Tryd.f3.resultTypes.toList).any fun x => Tryd.pinned.checked.prog.wideKeysFrom x) = true := by kernel_rfl
theorem j19 : (Rows.walPlaysSpec.vars.all fun x => Tryd.pinned.checked.prog.varReadable x) = true := by kernel_rfl
theorem j20 : (Tryd.f3.resultTypes.all fun t => Tryd.pinned.checked.prog.readableRec t && decide (t < Tryd.pinned.checked.prog.types.size)) = true := by kernel_rfl
theorem j21 : (Rows.walPlaysRow.ifacesOut == Tryd.f3.resultTypes.toList.any fun x => Tryd.pinned.checked.prog.ifacesRec x) = true := by kernel_rfl
theorem j22 : (Rows.walPlaysRow.loopsOut == Tryd.f3.resultTypes.toList.any fun x => Tryd.pinned.checked.prog.loopsFrom x) = true := by kernel_rfl
theorem j23 : (Rows.walPlaysRow.plainKeys == Tryd.pinned.checked.prog.plainKeys) = true := by kernel_rfl
theorem j24 : Rows.walPlaysRow.shortTexts.isNone = true := by kernel_rfl
theorem j25 : Tryd.pinned.checked.prog.stopsHeard = true := by kernel_rfl
theorem j26 : Tryd.pinned.checked.prog.mayEnter = true := by kernel_rfl
theorem j27 : (Rows.walPlaysRow.lifted == Tryd.pinned.checked.prog.liftsFinal) = true := by kernel_rfl
theorem j28 : (Tryd.pinned.checked.prog.make == some Rows.walPlaysRow.make) = true := by kernel_rfl
theorem j29 : (Rows.walPlaysRow.kinds == (if Rows.walPlaysRow.domain.isEmpty then [] else Tryd.f3.params.toList.map fun t => match Tryd.pinned.checked.prog.underlying t with | some (.int k) => some k | _ => none)) = true := by kernel_rfl
theorem j30 : (Rows.walPlaysRow.pinned == Rows.walPlaysRow.pinnedBy) = true := by kernel_rfl
theorem j31 : (Rows.walPlaysRow.veiled == (Tryd.f3.params.toList ++ Rows.walPlaysSpec.plain.varTypes Tryd.pinned.checked.prog ++ Tryd.f3.resultTypes.toList).any fun x => Tryd.pinned.checked.prog.veiledRec x) = true := by kernel_rfl
theorem j32 : Rows.walPlaysRow.veiledFits Tryd.pinned.checked.prog Tryd.f3.params.toList (Tryd.f3.params.toList ++ Rows.walPlaysSpec.plain.varTypes Tryd.pinned.checked.prog ++ Tryd.f3.resultTypes.toList) = true := by kernel_rfl
theorem closed : joinedFacts Tryd.pinned.checked.prog 3 Tryd.f3 Rows.walPlaysSpec Rows.walPlaysRow = true := by
  unfold joinedFacts
  simp only [Bool.and_eq_true]
  exact ⟨⟨⟨⟨⟨⟨⟨⟨⟨⟨⟨⟨⟨⟨⟨⟨⟨⟨⟨⟨⟨⟨⟨⟨⟨⟨⟨⟨⟨⟨⟨j1, j2⟩, j3⟩, j4⟩, j5⟩, j6⟩, j7⟩, j8⟩, j9⟩, j10⟩, j11⟩, j12⟩, j13⟩, j14⟩, j15⟩, j16⟩, j17⟩, j18⟩, j19⟩, j20⟩, j21⟩, j22⟩, j23⟩, j24⟩, j25⟩, j26⟩, j27⟩, j28⟩, j29⟩, j30⟩, j31⟩, j32⟩
end Go.Proofs.YtinchlfaepjfiaaDoor.walPlays
