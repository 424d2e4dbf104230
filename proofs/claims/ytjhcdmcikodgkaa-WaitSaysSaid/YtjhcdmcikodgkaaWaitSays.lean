/-
  Package wait: whatever is handed in, its calls answer what the document's answers are.
  Conditions: none.
-/
import Derived.Test.YtjhcdmcikodgkaaRows
import Derived.Test.YtjhcdmcikodgkaaWaW
import Derived.Test.YtjhcdmcikodgkaaWaB
import Derived.WalkKit
import Derived.ProofKit
import Derived.OpenShut
namespace Go.Proofs.Ytjhcdmcikodgkaa.waitSays
open Go.ChangeShapes Go.WideShapes Go.ChangeAt Go.RowKit Go.S Go.Proofs.Ytjhcdmcikodgkaa
set_option linter.unusedVariables false

theorem own : ownKnob Try.prog.godebug = none := by kernel_rfl
set_option maxRecDepth 100000 in
theorem laidOut : laidOutB Try.prog = true := by kernel_rfl

set_option maxRecDepth 100000 in
theorem edges {w : World} {cs : List Value} (h : Rd Try.prog w 22 cs) : ∃ (v : Value) (l : List TEdge), cs = [v] ∧ At w v 2 (l.map TEdge.row) := by
  obtain ⟨v, rows, rfl, hat, hr⟩ := h.slice (k := 2) Try.underlying22 (by kernel_rfl)
  obtain ⟨l, rfl, hq⟩ := exists_map (f := TEdge.row) (Q := fun _ => True) (fun r hrm => by
    have hR := hr r hrm
    obtain ⟨r0, r1, rfl⟩ := len2 ((hR.struct Try.underlying46).1.trans (by kernel_rfl))
    have h0 := hR.fld Try.underlying46 0 3 0 1 rfl (by kernel_rfl)
    have h1 := hR.fld Try.underlying46 1 3 1 1 rfl (by kernel_rfl)
    obtain ⟨a, ha, _⟩ := h0.int (by kernel_rfl)
    obtain ⟨b, hb, _⟩ := h1.int (by kernel_rfl)
    have e0 : r0 = .int .i64 a := (List.cons.inj ha).1
    have e1 : r1 = .int .i64 b := (List.cons.inj hb).1
    exact ⟨⟨a, b⟩, by rw [e0, e1]; rfl, trivial⟩)
  exact ⟨v, l, rfl, hat⟩

set_option maxRecDepth 100000 in
theorem lifted (os : Os) (started : os.Started) (H : Type) (enc : TypeId × Value → H) :
    ReturnsInHanded {} Try.checked os 4 .any (Rows.waitSaysSpec.pre6 enc Try.prog Try.f4 Rows.waitSaysRow.domain false) (Rows.waitSaysSpec.post enc Try.prog Try.f4 false true false false) := by
  refine returnsInHanded_of_change (C := Try.checked) own started (by kernel_rfl) Try.func4
    (ChangeSpec.witness6 (enc := enc) (C := Try.checked) false ⟨#[], #[.int .i64 0, .slice none 0 0, .int .i64 0, .int .i64 0, .int .i64 0], []⟩ 8 (by kernel_rfl) (by kernel_rfl) (by kernel_rfl) (by kernel_rfl)) ?_
  intro W base args ds gs before hval0 hW hcnd _
  have hW' := hW
  obtain ⟨p, q, hA0, hV, rfl, hfz, hnd⟩ := hW
  have hA : DataW.TrodAll enc Try.prog W 0 (fun _ => true) true Try.f4.params.toList args.toList ds p := hA0
  rw [Try.params4] at hA
  obtain ⟨v0, vs0, d0, ds0, p0, q0, hargs, rfl, rfl, h0, r0⟩ := trodAll_cons hA
  obtain ⟨v1, vs1, d1, ds1, p1, q1, rfl, rfl, rfl, h1, r1⟩ := trodAll_cons r0
  obtain ⟨v2, vs2, d2, ds2, p2, q2, rfl, rfl, rfl, h2, r2⟩ := trodAll_cons r1
  obtain ⟨v3, vs3, d3, ds3, p3, q3, rfl, rfl, rfl, h3, r3⟩ := trodAll_cons r2
  obtain ⟨v4, vs4, d4, ds4, p4, q4, rfl, rfl, rfl, h4, r4⟩ := trodAll_cons r3
  obtain ⟨rfl, rfl, rfl⟩ := trodAll_nil r4
  obtain rfl : args = #[v0, v1, v2, v3, v4] := by cases args; simp_all
  obtain ⟨rfl, rfl⟩ := trodVars_none hV
  obtain ⟨a0, rfl, rfl, rfl, w0⟩ := open_int Try.underlying3 (hval0 0 3 v0 rfl rfl) h0
  obtain ⟨a, n, c, rfl⟩ := okWide_slice Try.underlying22 (hval0 1 22 v1 rfl rfl)
  obtain ⟨a2, rfl, rfl, rfl, w2⟩ := open_int Try.underlying3 (hval0 2 3 v2 rfl rfl) h2
  obtain ⟨a3, rfl, rfl, rfl, w3⟩ := open_int Try.underlying3 (hval0 3 3 v3 rfl rfl) h3
  obtain ⟨a4, rfl, rfl, rfl, w4⟩ := open_int Try.underlying3 (hval0 4 3 v4 rfl rfl) h4
  obtain ⟨v, l, hv, hT⟩ := edges (Rd.of h1)
  obtain rfl : .slice a n c = v := (List.cons.inj hv).1
  clear hA0 hval0
  refine Calls.mono (w4_quirlaw_WaitSays a0 l a2 a3 a4 (.slice a n c) W true (wait_true a0 l a2 a3 a4) hT) ?_
  rintro e W' ⟨u, m, rfl, ⟨rfl, rfl⟩, hc⟩
  exact ⟨_, rfl, law_post laidOut (by kernel_rfl) rfl (by kernel_rfl) rfl ⟨rfl, rfl, rfl⟩ hW' hc.below⟩

theorem over : Rows.waitSaysRow.holds Try.pinned (OpenSpec.ofChange Rows.waitSaysSpec) :=
  OpenClaim.holds_of_wide 4 Try.f4 rfl rfl rfl rfl rfl rfl rfl ⟨rfl, rfl, rfl, rfl, rfl⟩ rfl rfl rfl rfl rfl (by kernel_rfl) Try.func4 (by kernel_rfl)
    (of_decide_eq_true (by kernel_rfl)) (by unfold Func.isWrapper; first | (rw [if_pos (by decide +kernel)]; kernel_rfl) | (rw [if_neg (by decide +kernel)]; exact ⟨rfl, rfl⟩))
    (fun os started H enc _ => lifted os started H enc)

theorem proved : Rows.WaitSaysSaid :=
  over
#print axioms proved
end Go.Proofs.Ytjhcdmcikodgkaa.waitSays
