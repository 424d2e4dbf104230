/-
  Package pool: whatever is handed in, its calls answer what the document's answers are.
  Conditions: none.
-/
import Derived.Test.YtfmgjigdebofaaaRows
import Derived.Test.YtfmgjigdebofaaaPoW
import Derived.Test.YtfmgjigdebofaaaPoP
import Derived.WalkKit
import Derived.ProofKit
import Derived.OpenShut
namespace Go.Proofs.Ytfmgjigdebofaaa.poolSays
open Go.ChangeShapes Go.WideShapes Go.ChangeAt Go.RowKit Go.S Go.Proofs.Ytfmgjigdebofaaa
set_option linter.unusedVariables false

theorem own : ownKnob Try.prog.godebug = none := by kernel_rfl
set_option maxRecDepth 100000 in
theorem laidOut : laidOutB Try.prog = true := by kernel_rfl

set_option maxRecDepth 100000 in
theorem numbers {w : World} {cs : List Value} (h : Rd Try.prog w 24 cs) : ∃ (v : Value) (l : List Int), cs = [v] ∧ At w v 1 (l.map I) := by
  obtain ⟨v, rows, rfl, hat, hr⟩ := h.slice (k := 1) Try.underlying24 (by kernel_rfl)
  obtain ⟨l, rfl, hq⟩ := exists_map (f := I) (Q := fun _ => True) (fun r hrm => by
    obtain ⟨a, ha, _⟩ := (hr r hrm).int (by kernel_rfl)
    exact ⟨a, ha, trivial⟩)
  exact ⟨v, l, rfl, hat⟩

set_option maxRecDepth 100000 in
theorem lifted (os : Os) (started : os.Started) (H : Type) (enc : TypeId × Value → H) :
    ReturnsInHanded {} Try.checked os 11 .any (Rows.poolSaysSpec.pre6 enc Try.prog Try.f11 Rows.poolSaysRow.domain false) (Rows.poolSaysSpec.post enc Try.prog Try.f11 false true false false) := by
  refine returnsInHanded_of_change (C := Try.checked) own started (by kernel_rfl) Try.func11
    (ChangeSpec.witness6 (enc := enc) (C := Try.checked) false ⟨#[], #[.int .i64 0, .slice none 0 0], []⟩ 8 (by kernel_rfl) (by kernel_rfl) (by kernel_rfl) (by kernel_rfl)) ?_
  intro W base args ds gs before hval0 hW hcnd _
  have hW' := hW
  obtain ⟨p, q, hA0, hV, rfl, hfz, hnd⟩ := hW
  have hA : DataW.TrodAll enc Try.prog W 0 (fun _ => true) true Try.f11.params.toList args.toList ds p := hA0
  rw [Try.params11] at hA
  obtain ⟨v0, vs0, d0, ds0, p0, q0, hargs, rfl, rfl, h0, r0⟩ := trodAll_cons hA
  obtain ⟨v1, vs1, d1, ds1, p1, q1, rfl, rfl, rfl, h1, r1⟩ := trodAll_cons r0
  obtain ⟨rfl, rfl, rfl⟩ := trodAll_nil r1
  obtain rfl : args = #[v0, v1] := by cases args; simp_all
  obtain ⟨rfl, rfl⟩ := trodVars_none hV
  obtain ⟨s, rfl, hs⟩ := okWide_int Try.underlying3 (hval0 0 3 v0 rfl rfl)
  obtain ⟨a, n, c, rfl⟩ := okWide_slice Try.underlying24 (hval0 1 24 v1 rfl rfl)
  obtain ⟨v, l, hv, hT⟩ := numbers (Rd.of h1)
  obtain rfl : .slice a n c = v := (List.cons.inj hv).1
  clear hA0 hval0
  refine Calls.mono (w11_quirlaw_PoolSays s l (.slice a n c) W true (pool_true s l) hT) ?_
  rintro e W' ⟨u, m, rfl, ⟨rfl, rfl⟩, hc⟩
  exact ⟨_, rfl, law_post laidOut (by kernel_rfl) rfl (by kernel_rfl) rfl ⟨rfl, rfl, rfl⟩ hW' hc.below⟩

theorem over : Rows.poolSaysRow.holds Try.pinned (OpenSpec.ofChange Rows.poolSaysSpec) :=
  OpenClaim.holds_of_wide 11 Try.f11 rfl rfl rfl rfl rfl rfl rfl ⟨rfl, rfl, rfl, rfl, rfl⟩ rfl rfl rfl rfl rfl (by kernel_rfl) Try.func11 (by kernel_rfl)
    (of_decide_eq_true (by kernel_rfl)) (by unfold Func.isWrapper; first | (rw [if_pos (by decide +kernel)]; kernel_rfl) | (rw [if_neg (by decide +kernel)]; exact ⟨rfl, rfl⟩))
    (fun os started H enc _ => lifted os started H enc)

theorem proved : Rows.PoolSaysSaid :=
  over
#print axioms proved
end Go.Proofs.Ytfmgjigdebofaaa.poolSays
