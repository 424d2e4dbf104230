/-
  Package stamp: whatever operations are handed in, a play answers what the document says.
  Conditions: none.
-/
import Derived.Test.YtjbajaofdgalfaaRows
import Derived.Test.YtjbajaofdgalfaaStW
import Derived.Test.YtjbajaofdgalfaaStN
import Derived.Test.YtjbajaofdgalfaaStampJ
import Derived.WalkKit
import Derived.ProofKit
import Derived.OpenShut
namespace Go.Proofs.Ytjbajaofdgalfaa.stampPlays
open Go.ChangeShapes Go.WideShapes Go.ChangeAt Go.RowKit Go.S Go.Proofs.Ytjbajaofdgalfaa
set_option linter.unusedVariables false

theorem own : ownKnob Try.prog.godebug = none := by kernel_rfl
set_option maxRecDepth 100000 in
theorem laidOut : laidOutB Try.prog = true := by kernel_rfl

set_option maxRecDepth 100000 in
theorem run {w : World} {cs : List Value} (h : Rd Try.prog w 57 cs) : ∃ (v : Value) (l : List TOp), cs = [v] ∧ At w v 3 (l.map TOp.row) := by
  obtain ⟨v, rows, rfl, hat, hr⟩ := h.slice (k := 3) Try.underlying57 (by kernel_rfl)
  obtain ⟨l, rfl, hq⟩ := exists_map (f := TOp.row) (Q := fun _ => True) (fun r hrm => by
    have hR := hr r hrm
    obtain ⟨r0, r1, r2, rfl⟩ := len3 ((hR.struct Try.underlying61).1.trans (by kernel_rfl))
    have h0 := hR.fld Try.underlying61 0 3 0 1 rfl (by kernel_rfl)
    have h1 := hR.fld Try.underlying61 1 3 1 1 rfl (by kernel_rfl)
    have h2 := hR.fld Try.underlying61 2 3 2 1 rfl (by kernel_rfl)
    obtain ⟨a, ha, _⟩ := h0.int (by kernel_rfl)
    obtain ⟨b, hb, _⟩ := h1.int (by kernel_rfl)
    obtain ⟨c, hc, _⟩ := h2.int (by kernel_rfl)
    have e0 : r0 = .int .i64 a := (List.cons.inj ha).1
    have e1 : r1 = .int .i64 b := (List.cons.inj hb).1
    have e2 : r2 = .int .i64 c := (List.cons.inj hc).1
    exact ⟨⟨a, b, c⟩, by rw [e0, e1, e2]; rfl, trivial⟩)
  exact ⟨v, l, rfl, hat⟩

set_option maxRecDepth 100000 in
theorem lifted (os : Os) (started : os.Started) (H : Type) (enc : TypeId × Value → H) :
    ReturnsInHanded {} Try.checked os 7 .any (Rows.stampPlaysSpec.pre6 enc Try.prog Try.f7 Rows.stampPlaysRow.domain false) (Rows.stampPlaysSpec.post enc Try.prog Try.f7 false true false false) := by
  refine returnsInHanded_of_change (C := Try.checked) own started (by kernel_rfl) Try.func7
    (ChangeSpec.witness6 (enc := enc) (C := Try.checked) false ⟨#[], #[.slice none 0 0, .bool false], []⟩ 8 (by kernel_rfl) (by kernel_rfl) (by kernel_rfl) (by kernel_rfl)) ?_
  intro W base args ds gs before hval0 hW hcnd _
  have hW' := hW
  obtain ⟨p, q, hA0, hV, rfl, hfz, hnd⟩ := hW
  have hA : DataW.TrodAll enc Try.prog W 0 (fun _ => true) true Try.f7.params.toList args.toList ds p := hA0
  rw [Try.params7] at hA
  obtain ⟨v0, vs0, d0, ds0, p0, q0, hargs, rfl, rfl, h0, r0⟩ := trodAll_cons hA
  obtain ⟨v1, vs1, d1, ds1, p1, q1, rfl, rfl, rfl, h1, r1⟩ := trodAll_cons r0
  obtain ⟨rfl, rfl, rfl⟩ := trodAll_nil r1
  obtain rfl : args = #[v0, v1] := by cases args; simp_all
  obtain ⟨rfl, rfl⟩ := trodVars_none hV
  obtain ⟨a, n, c, rfl⟩ := okWide_slice Try.underlying57 (hval0 0 57 v0 rfl rfl)
  obtain ⟨k, rfl, _⟩ := open_bool Try.underlying4 (hval0 1 4 v1 rfl rfl) h1
  obtain ⟨v, l, hv, hT⟩ := run (Rd.of h0)
  obtain rfl : .slice a n c = v := (List.cons.inj hv).1
  clear hA0 hval0
  refine Calls.mono (w7_quirlaw_StampPlays l k (.slice a n c) W true (stamp_true l k) hT) ?_
  rintro e W' ⟨u, m, rfl, ⟨rfl, rfl⟩, hc⟩
  exact ⟨_, rfl, law_post laidOut (by kernel_rfl) rfl (by kernel_rfl) rfl ⟨rfl, rfl, rfl⟩ hW' hc.below⟩

theorem over : Rows.stampPlaysRow.holds Try.pinned (OpenSpec.ofChange Rows.stampPlaysSpec) :=
  OpenClaim.holds_of_wide 7 Try.f7 rfl rfl rfl rfl rfl rfl rfl ⟨rfl, rfl, rfl, rfl, rfl⟩ rfl rfl rfl rfl rfl (by kernel_rfl) Try.func7 closed
    (of_decide_eq_true (by kernel_rfl)) (by unfold Func.isWrapper; first | (rw [if_pos (by decide +kernel)]; kernel_rfl) | (rw [if_neg (by decide +kernel)]; exact ⟨rfl, rfl⟩))
    (fun os started H enc _ => lifted os started H enc)

theorem proved : Rows.StampPlaysSaid :=
  over
#print axioms proved
end Go.Proofs.Ytjbajaofdgalfaa.stampPlays
