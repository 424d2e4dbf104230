/-
  Package pact: whatever is handed in, its calls answer what the document's answers are.
  Conditions: none.
-/
import Derived.Test.YtfmgjigdebofaaaRows
import Derived.Test.YtfmgjigdebofaaaPcW
import Derived.Test.YtfmgjigdebofaaaPcL
import Derived.WalkKit
import Derived.ProofKit
import Derived.OpenShut
namespace Go.Proofs.Ytfmgjigdebofaaa.pactSays
open Go.ChangeShapes Go.WideShapes Go.ChangeAt Go.RowKit Go.S Go.Proofs.Ytfmgjigdebofaaa
set_option linter.unusedVariables false

theorem own : ownKnob Try.prog.godebug = none := by kernel_rfl
set_option maxRecDepth 100000 in
theorem laidOut : laidOutB Try.prog = true := by kernel_rfl

set_option maxRecDepth 100000 in
theorem pact {w : World} {cs : List Value} (h : Rd Try.prog w 111 cs) : ∃ (x : TPact) (u1 u2 : Value), cs = [.int .i64 x.Lead, u1, u2] ∧ At w u1 1 (x.Votes.map I) ∧ At w u2 1 (x.Parts.map I) := by
  obtain ⟨r0, r1, r2, rfl⟩ := len3 ((h.struct Try.underlying111).1.trans (by kernel_rfl))
  have h0 := h.fld Try.underlying111 0 3 0 1 rfl (by kernel_rfl)
  have h1 := h.fld Try.underlying111 1 24 1 1 rfl (by kernel_rfl)
  have h2 := h.fld Try.underlying111 2 24 2 1 rfl (by kernel_rfl)
  obtain ⟨a, ha, _⟩ := h0.int (by kernel_rfl)
  obtain ⟨b, lb, hb, hba, _⟩ := h1.ints Try.underlying24 (by kernel_rfl) (by kernel_rfl)
  obtain ⟨c, lc, hc, hca, _⟩ := h2.ints Try.underlying24 (by kernel_rfl) (by kernel_rfl)
  have e0 : r0 = .int .i64 a := (List.cons.inj ha).1
  have e1 : r1 = b := (List.cons.inj hb).1
  have e2 : r2 = c := (List.cons.inj hc).1
  exact ⟨⟨a, lb, lc⟩, b, c, by rw [e0, e1, e2], hba, hca⟩
set_option maxRecDepth 100000 in
theorem beat {w : World} {cs : List Value} (h : Rd Try.prog w 113 cs) : ∃ x : TBeat, cs = x.row := by
  obtain ⟨r0, r1, r2, rfl⟩ := len3 ((h.struct Try.underlying113).1.trans (by kernel_rfl))
  have h0 := h.fld Try.underlying113 0 3 0 1 rfl (by kernel_rfl)
  have h1 := h.fld Try.underlying113 1 3 1 1 rfl (by kernel_rfl)
  have h2 := h.fld Try.underlying113 2 3 2 1 rfl (by kernel_rfl)
  obtain ⟨a, ha, _⟩ := h0.int (by kernel_rfl)
  obtain ⟨b, hb, _⟩ := h1.int (by kernel_rfl)
  obtain ⟨c, hc, _⟩ := h2.int (by kernel_rfl)
  have e0 : r0 = .int .i64 a := (List.cons.inj ha).1
  have e1 : r1 = .int .i64 b := (List.cons.inj hb).1
  have e2 : r2 = .int .i64 c := (List.cons.inj hc).1
  exact ⟨⟨a, b, c⟩, by rw [e0, e1, e2]; rfl⟩

set_option maxRecDepth 100000 in
theorem lifted (os : Os) (started : os.Started) (H : Type) (enc : TypeId × Value → H) :
    ReturnsInHanded {} Try.checked os 12 .any (Rows.pactSaysSpec.pre6 enc Try.prog Try.f12 Rows.pactSaysRow.domain false) (Rows.pactSaysSpec.post enc Try.prog Try.f12 false true false false) := by
  refine returnsInHanded_of_change (C := Try.checked) own started (by kernel_rfl) Try.func12
    (ChangeSpec.witness6 (enc := enc) (C := Try.checked) false ⟨#[], #[.int .i64 0, .agg #[.int .i64 0, .slice none 0 0, .slice none 0 0], .agg #[.int .i64 0, .int .i64 0, .int .i64 0]], []⟩ 8 (by kernel_rfl) (by kernel_rfl) (by kernel_rfl) (by kernel_rfl)) ?_
  intro W base args ds gs before hval0 hW hcnd _
  have hW' := hW
  obtain ⟨p, q, hA0, hV, rfl, hfz, hnd⟩ := hW
  have hA : DataW.TrodAll enc Try.prog W 0 (fun _ => true) true Try.f12.params.toList args.toList ds p := hA0
  rw [Try.params12] at hA
  obtain ⟨v0, vs0, d0, ds0, p0, q0, hargs, rfl, rfl, h0, r0⟩ := trodAll_cons hA
  obtain ⟨v1, vs1, d1, ds1, p1, q1, rfl, rfl, rfl, h1, r1⟩ := trodAll_cons r0
  obtain ⟨v2, vs2, d2, ds2, p2, q2, rfl, rfl, rfl, h2, r2⟩ := trodAll_cons r1
  obtain ⟨rfl, rfl, rfl⟩ := trodAll_nil r2
  obtain rfl : args = #[v0, v1, v2] := by cases args; simp_all
  obtain ⟨rfl, rfl⟩ := trodVars_none hV
  obtain ⟨a0, rfl, rfl, rfl, w0⟩ := open_int Try.underlying3 (hval0 0 3 v0 rfl rfl) h0
  obtain ⟨c1, rfl, _⟩ := okWide_struct Try.underlying111 (hval0 1 111 v1 rfl rfl)
  obtain ⟨c2, rfl, _⟩ := okWide_struct Try.underlying113 (hval0 2 113 v2 rfl rfl)
  obtain ⟨x, u1, u2, hx, hx1, hx2⟩ := pact (Rd.of h1)
  obtain ⟨b, hb⟩ := beat (Rd.of h2)
  have ex : c1 = #[.int .i64 x.Lead, u1, u2] := Array.ext' hx
  have eb : c2 = #[.int .i64 b.Kind, .int .i64 b.Who, .int .i64 b.By] := Array.ext' hb
  subst ex; subst eb
  clear hA0 hval0
  refine Calls.mono (w12_quirlaw_PactSays a0 x b u1 u2 W true (pact_true a0 x b) hx1 hx2) ?_
  rintro e W' ⟨u, m, rfl, ⟨rfl, rfl⟩, hc⟩
  exact ⟨_, rfl, law_post laidOut (by kernel_rfl) rfl (by kernel_rfl) rfl ⟨rfl, rfl, rfl⟩ hW' hc.below⟩

theorem over : Rows.pactSaysRow.holds Try.pinned (OpenSpec.ofChange Rows.pactSaysSpec) :=
  OpenClaim.holds_of_wide 12 Try.f12 rfl rfl rfl rfl rfl rfl rfl ⟨rfl, rfl, rfl, rfl, rfl⟩ rfl rfl rfl rfl rfl (by kernel_rfl) Try.func12 (by kernel_rfl)
    (of_decide_eq_true (by kernel_rfl)) (by unfold Func.isWrapper; first | (rw [if_pos (by decide +kernel)]; kernel_rfl) | (rw [if_neg (by decide +kernel)]; exact ⟨rfl, rfl⟩))
    (fun os started H enc _ => lifted os started H enc)

theorem proved : Rows.PactSaysSaid :=
  over
#print axioms proved
end Go.Proofs.Ytfmgjigdebofaaa.pactSays
