/-
  Package hope: the law.
  Conditions: none.
-/
import Derived.Test.YtfmgjigdebofaaaRows
import Derived.Test.YtfmgjigdebofaaaR
import Derived.Test.YtfmgjigdebofaaaHope
import Derived.WalkKit
import Derived.ProofKit
import Derived.OpenShut
namespace Go.Proofs.Ytfmgjigdebofaaa.hopeSays
open Go.ChangeShapes Go.WideShapes Go.ChangeAt Go.RowKit Go.S Go.Proofs.Ytfmgjigdebofaaa.HopeP
set_option linter.unusedVariables false

theorem own : ownKnob Try.prog.godebug = none := by kernel_rfl
set_option maxRecDepth 100000 in
theorem laidOut : laidOutB Try.prog = true := by kernel_rfl

set_option maxRecDepth 100000 in
theorem tries {w : World} {cs : List Value} (h : Rd Try.prog w 52 cs) : ∃ v l, cs = [v] ∧ Tries w v l := by
  obtain ⟨v, rows, rfl, hat, hr⟩ := h.slice (k := 4) Try.underlying52 (by kernel_rfl)
  obtain ⟨l, rfl, hq⟩ := exists_map (f := TryV.row) (Q := fun x => At w x.rv 1 (ints x.rs) ∧ At w x.wv 1 (ints x.ws)) (fun r hrm => by
    have hR := hr r hrm
    obtain ⟨r0, r1, r2, r3, rfl⟩ := len4 ((hR.struct Try.underlying158).1.trans (by kernel_rfl))
    have h0 := hR.fld Try.underlying158 0 3 0 1 rfl (by kernel_rfl)
    have h1 := hR.fld Try.underlying158 1 3 1 1 rfl (by kernel_rfl)
    have h2 := hR.fld Try.underlying158 2 24 2 1 rfl (by kernel_rfl)
    have h3 := hR.fld Try.underlying158 3 24 3 1 rfl (by kernel_rfl)
    obtain ⟨a, ha, _⟩ := h0.int (by kernel_rfl)
    obtain ⟨b, hb, _⟩ := h1.int (by kernel_rfl)
    obtain ⟨c, lc, hc, hca, _⟩ := h2.ints Try.underlying24 (by kernel_rfl) (by kernel_rfl)
    obtain ⟨d, ld, hd, hda, _⟩ := h3.ints Try.underlying24 (by kernel_rfl) (by kernel_rfl)
    refine ⟨⟨a, b, c, d, lc, ld⟩, ?_, hca, hda⟩
    have e0 : r0 = .int .i64 a := (List.cons.inj ha).1
    have e1 : r1 = .int .i64 b := (List.cons.inj hb).1
    have e2 : r2 = c := (List.cons.inj hc).1
    have e3 : r3 = d := (List.cons.inj hd).1
    rw [e0, e1, e2, e3]; rfl)
  exact ⟨v, l, rfl, hat, hq⟩

set_option maxRecDepth 100000 in
theorem lifted (os : Os) (started : os.Started) (H : Type) (enc : TypeId × Value → H) :
    ReturnsInHanded {} Try.checked os 7 .any (Rows.hopeSaysSpec.pre6 enc Try.prog Try.f7 Rows.hopeSaysRow.domain false) (Rows.hopeSaysSpec.post enc Try.prog Try.f7 false true false false) := by
  refine returnsInHanded_of_change (C := Try.checked) own started (by kernel_rfl) Try.func7
    (ChangeSpec.witness6 (enc := enc) (C := Try.checked) false ⟨#[], #[.slice none 0 0], []⟩ 8 (by kernel_rfl) (by kernel_rfl) (by kernel_rfl) (by kernel_rfl)) ?_
  intro W base args ds gs before hval0 hW hcnd _
  have hW' := hW
  obtain ⟨p, q, hA0, hV, rfl, hfz, hnd⟩ := hW
  have hA : DataW.TrodAll enc Try.prog W 0 (fun _ => true) true Try.f7.params.toList args.toList ds p := hA0
  rw [Try.params7] at hA
  obtain ⟨v0, vs0, d0, ds0, p0, q0, hargs, rfl, rfl, h0, r0⟩ := trodAll_cons hA
  obtain ⟨rfl, rfl, rfl⟩ := trodAll_nil r0
  obtain rfl : args = #[v0] := by cases args; simp_all
  obtain ⟨rfl, rfl⟩ := trodVars_none hV
  obtain ⟨a, n, c, rfl⟩ := okWide_slice Try.underlying52 (hval0 0 52 v0 rfl rfl)
  obtain ⟨v, l, hv, hT⟩ := tries (Rd.of h0)
  obtain rfl : .slice a n c = v := (List.cons.inj hv).1
  clear hA0 hval0
  refine Calls.mono (Hope.law l _ W hT) ?_
  rintro e W' ⟨u, m, rfl, rfl, hc⟩
  exact ⟨_, rfl, law_post laidOut (by kernel_rfl) rfl (by kernel_rfl) rfl ⟨rfl, rfl, rfl⟩ hW' hc.below⟩

theorem over : Rows.hopeSaysRow.holds Try.pinned (OpenSpec.ofChange Rows.hopeSaysSpec) :=
  OpenClaim.holds_of_wide 7 Try.f7 rfl rfl rfl rfl rfl rfl rfl ⟨rfl, rfl, rfl, rfl, rfl⟩ rfl rfl rfl rfl rfl (by kernel_rfl) Try.func7 (by kernel_rfl)
    (of_decide_eq_true (by kernel_rfl)) (by unfold Func.isWrapper; first | (rw [if_pos (by decide +kernel)]; kernel_rfl) | (rw [if_neg (by decide +kernel)]; exact ⟨rfl, rfl⟩))
    (fun os started H enc _ => lifted os started H enc)

theorem proved : Rows.HopeSaysSaid :=
  over
#print axioms proved
end Go.Proofs.Ytfmgjigdebofaaa.hopeSays
