/-
  The closed facts of a row, one by one.
  Conditions: none.
-/
import Derived.Test.YtjbajaofdgalfaaRows
import Derived.Test.YtjbajaofdgalfaaChecked
import Derived.WalkKit
import Derived.ProofKit
import Derived.OpenShut
namespace Go.Proofs.Ytjbajaofdgalfaa.stampPlays
open Go.ChangeShapes Go.WideShapes Go.ChangeAt Go.RowKit Go.Proofs.Ytjbajaofdgalfaa
set_option maxRecDepth 100000
set_option maxHeartbeats 8000000
theorem j1 : OpenClaim.wf (OpenSpec.ofChange Rows.stampPlaysSpec) Rows.stampPlaysRow = true := by kernel_rfl
theorem j2 : laidOutB Try.pinned.checked.prog = true := by kernel_rfl
theorem j3 : mapsRowed Try.pinned.checked.prog = true := by kernel_rfl
theorem j4 : (Try.f7.params.all fun x => Try.pinned.checked.prog.readableRec x) = true := by kernel_rfl
theorem j5 : namedTie Try.pinned.checked.prog Rows.stampPlaysRow.named Rows.stampPlaysSpec.vars = true := by kernel_rfl
theorem j6 : (Rows.stampPlaysRow.stops == []) = true := by kernel_rfl
theorem j7 : (Try.pinned.checked.prog.stops == []) = true := by kernel_rfl
theorem j8 : (Rows.stampPlaysRow.knobs == []) = true := by kernel_rfl
theorem j9 : (Try.pinned.checked.prog.stopKnobs == []) = true := by kernel_rfl
theorem j10 : (Rows.stampPlaysRow.inPlace == Try.pinned.checked.prog.inPlace 7) = true := by kernel_rfl
theorem j11 : (Rows.stampPlaysRow.unfollowed == Try.pinned.checked.prog.unfollowed 7) = true := by kernel_rfl
theorem j12 : (Rows.stampPlaysRow.recurses == Try.pinned.checked.prog.recurses 7) = true := by kernel_rfl
theorem j13 : (Rows.stampPlaysRow.named == Try.pinned.checked.prog.varsNamed 7) = true := by kernel_rfl
theorem j14 : (Rows.stampPlaysRow.maps == (Try.f7.params.toList ++ Rows.stampPlaysSpec.plain.varTypes Try.pinned.checked.prog).any fun x => Try.pinned.checked.prog.mapsRec x) = true := by kernel_rfl
theorem j15 : (Rows.stampPlaysRow.ifaces == (Try.f7.params.toList ++ Rows.stampPlaysSpec.plain.varTypes Try.pinned.checked.prog).any fun x => Try.pinned.checked.prog.ifacesRec x) = true := by kernel_rfl
theorem j16 : (Rows.stampPlaysRow.mapsOut == Try.pinned.checked.prog.mapsAmong Try.f7.resultTypes.toList) = true := by kernel_rfl
theorem j17 : (Rows.stampPlaysRow.loops == (Try.f7.params.toList ++ Rows.stampPlaysSpec.plain.varTypes Try.pinned.checked.prog).any fun x => Try.pinned.checked.prog.loopsFrom x) = true := by kernel_rfl
theorem j18 : (Rows.stampPlaysRow.wideKeys == (Try.f7.params.toList ++ Rows.stampPlaysSpec.plain.varTypes Try.pinned.checked.prog ++ Try.f7.resultTypes.toList).any fun x => Try.pinned.checked.prog.wideKeysFrom x) = true := by kernel_rfl
theorem j19 : (Rows.stampPlaysSpec.vars.all fun x => Try.pinned.checked.prog.varReadable x) = true := by kernel_rfl
theorem j20 : (Try.f7.resultTypes.all fun t => Try.pinned.checked.prog.readableRec t && decide (t < Try.pinned.checked.prog.types.size)) = true := by kernel_rfl
theorem j21 : (Rows.stampPlaysRow.ifacesOut == Try.f7.resultTypes.toList.any fun x => Try.pinned.checked.prog.ifacesRec x) = true := by kernel_rfl
theorem j22 : (Rows.stampPlaysRow.loopsOut == Try.f7.resultTypes.toList.any fun x => Try.pinned.checked.prog.loopsFrom x) = true := by kernel_rfl
theorem j23 : (Rows.stampPlaysRow.plainKeys == Try.pinned.checked.prog.plainKeys) = true := by kernel_rfl
theorem j24 : Rows.stampPlaysRow.shortTexts.isNone = true := by kernel_rfl
theorem j25 : Try.pinned.checked.prog.stopsHeard = true := by kernel_rfl
theorem j26 : Try.pinned.checked.prog.mayEnter = true := by kernel_rfl
theorem j27 : (Rows.stampPlaysRow.lifted == Try.pinned.checked.prog.liftsFinal) = true := by kernel_rfl
theorem j28 : (Try.pinned.checked.prog.make == some Rows.stampPlaysRow.make) = true := by kernel_rfl
theorem j29 : (Rows.stampPlaysRow.kinds == (if Rows.stampPlaysRow.domain.isEmpty then [] else Try.f7.params.toList.map fun t => match Try.pinned.checked.prog.underlying t with | some (.int k) => some k | _ => none)) = true := by kernel_rfl
theorem j30 : (Rows.stampPlaysRow.pinned == Rows.stampPlaysRow.pinnedBy) = true := by kernel_rfl
theorem j31 : (Rows.stampPlaysRow.veiled == (Try.f7.params.toList ++ Rows.stampPlaysSpec.plain.varTypes Try.pinned.checked.prog ++ Try.f7.resultTypes.toList).any fun x => Try.pinned.checked.prog.veiledRec x) = true := by kernel_rfl
theorem j32 : Rows.stampPlaysRow.veiledFits Try.pinned.checked.prog Try.f7.params.toList (Try.f7.params.toList ++ Rows.stampPlaysSpec.plain.varTypes Try.pinned.checked.prog ++ Try.f7.resultTypes.toList) = true := by kernel_rfl
theorem closed : joinedFacts Try.pinned.checked.prog 7 Try.f7 Rows.stampPlaysSpec Rows.stampPlaysRow = true := by
  unfold joinedFacts
  simp only [Bool.and_eq_true]
  exact ⟨⟨⟨⟨⟨⟨⟨⟨⟨⟨⟨⟨⟨⟨⟨⟨⟨⟨⟨⟨⟨⟨⟨⟨⟨⟨⟨⟨⟨⟨⟨j1, j2⟩, j3⟩, j4⟩, j5⟩, j6⟩, j7⟩, j8⟩, j9⟩, j10⟩, j11⟩, j12⟩, j13⟩, j14⟩, j15⟩, j16⟩, j17⟩, j18⟩, j19⟩, j20⟩, j21⟩, j22⟩, j23⟩, j24⟩, j25⟩, j26⟩, j27⟩, j28⟩, j29⟩, j30⟩, j31⟩, j32⟩
end Go.Proofs.Ytjbajaofdgalfaa.stampPlays
