/-
  Package leaf: whatever is handed in, its calls answer what the document's answers are.
  Conditions: none.
-/
import Derived.Test.YtfmgjigdebofaaaRows
import Derived.Test.YtfmgjigdebofaaaLfW
import Derived.Test.YtfmgjigdebofaaaLfS
import Derived.Test.YtfmgjigdebofaaaZ
import Derived.WalkKit
import Derived.ProofKit
import Derived.OpenShut
import Derived.SizedLaws
import Derived.ChangeMaps5
namespace Go.Proofs.Ytfmgjigdebofaaa.leafSays
open Go.ChangeShapes Go.WideShapes Go.ChangeAt Go.RowKit Go.S Go.Proofs.Ytfmgjigdebofaaa
set_option linter.unusedVariables false

theorem own : ownKnob Try.prog.godebug = none := by kernel_rfl
set_option maxRecDepth 100000 in
theorem laidOut : laidOutB Try.prog = true := by kernel_rfl

set_option maxRecDepth 100000 in
theorem leaf {w : World} {cs : List Value} (h : Rz Try.prog w 127 cs) : ∃ (l : List TSlot) (u : Value), cs = [u] ∧ At w u 2 (l.map TSlot.row) ∧ Sz l := by
  obtain ⟨r0, rfl⟩ := len1 ((h.rd.struct Try.underlying127).1.trans (by kernel_rfl))
  have h0 := h.fld Try.underlying127 0 125 0 1 rfl (by kernel_rfl)
  obtain ⟨v, rows, hv, hat, hr, _⟩ := h0.slice (k := 2) Try.underlying125 (by kernel_rfl)
  obtain rfl : r0 = v := (List.cons.inj hv).1
  obtain ⟨l, rfl, hq⟩ := exists_map (f := TSlot.row) (Q := fun x => x.Text.length ≤ 140737488355328) (fun r hrm => by
    have hR := hr r hrm
    obtain ⟨r0, r1, rfl⟩ := len2 ((hR.rd.struct Try.underlying143).1.trans (by kernel_rfl))
    have h0 := hR.fld Try.underlying143 0 4 0 1 rfl (by kernel_rfl)
    have h1 := hR.fld Try.underlying143 1 9 1 1 rfl (by kernel_rfl)
    obtain ⟨a, ha⟩ := h0.rd.bool (by kernel_rfl)
    obtain ⟨b, hb, hl⟩ := h1.str (by kernel_rfl)
    have e0 : r0 = .bool a := (List.cons.inj ha).1
    have e1 : r1 = st b := (List.cons.inj hb).1
    exact ⟨⟨a, b⟩, by rw [e0, e1]; rfl, Nat.le_trans hl (by decide)⟩)
  exact ⟨l, r0, rfl, hat, hq⟩

set_option maxRecDepth 100000 in
theorem lifted (os : Os) (started : os.Started) (H : Type) (enc : TypeId × Value → H) :
    ReturnsInHanded {} Try.checked os 13 .any (Rows.leafSaysSpec.pre6 enc Try.prog Try.f13 Rows.leafSaysRow.domain false) (Rows.leafSaysSpec.post enc Try.prog Try.f13 false true false false) := by
  refine returnsInHanded_of_change_sized (C := Try.checked) own started (by kernel_rfl) Try.func13
    (ChangeSpec.witness6 (enc := enc) (C := Try.checked) false ⟨#[], #[.agg #[.slice none 0 0], .string ⟨#[]⟩, .int .i64 0, .string ⟨#[]⟩], []⟩ 8 (by kernel_rfl) (by kernel_rfl) (by kernel_rfl) (by kernel_rfl)) ?_
  intro W base args ds gs before hval0 hW _ hz _
  have hW' := hW
  obtain ⟨p, q, hA0, hV, rfl, _, _⟩ := hW
  have hA : DataW.TrodAll enc Try.prog W 0 (fun _ => true) true Try.f13.params.toList args.toList ds p := hA0
  rw [Try.params13] at hA
  obtain ⟨v0, vs0, d0, ds0, p0, q0, hargs, rfl, rfl, h0, r0⟩ := trodAll_cons hA
  obtain ⟨v1, vs1, d1, ds1, p1, q1, rfl, rfl, rfl, h1, r1⟩ := trodAll_cons r0
  obtain ⟨v2, vs2, d2, ds2, p2, q2, rfl, rfl, rfl, h2, r2⟩ := trodAll_cons r1
  obtain ⟨v3, vs3, d3, ds3, p3, q3, rfl, rfl, rfl, h3, r3⟩ := trodAll_cons r2
  obtain ⟨rfl, rfl, rfl⟩ := trodAll_nil r3
  obtain rfl : args = #[v0, v1, v2, v3] := by cases args; simp_all
  obtain ⟨rfl, rfl⟩ := trodVars_none hV
  obtain ⟨c0, rfl, _⟩ := okWide_struct Try.underlying127 (hval0 0 127 v0 rfl rfl)
  obtain ⟨l, u, hx, hat, hS⟩ := leaf (Rz.of h0 hz 0 rfl rfl)
  obtain ⟨t, rfl, rfl, rfl, _⟩ := Go.ChangeMaps.open_string Try.underlying9 (hval0 1 9 v1 rfl rfl) h1
  obtain ⟨k, rfl, rfl, rfl, w2⟩ := open_int Try.underlying3 (hval0 2 3 v2 rfl rfl) h2
  obtain ⟨s, rfl, rfl, rfl, _⟩ := Go.ChangeMaps.open_string Try.underlying9 (hval0 3 9 v3 rfl rfl) h3
  have hs := sized_string (j := 3) hz rfl rfl
  have ex : c0 = #[u] := Array.ext' hx
  subst ex
  clear hA0 hval0
  have hl : s.data.toList.length ≤ 4611686018427387904 := Nat.le_trans hs (by decide)
  refine Calls.mono (w13_quirlaw_LeafSays ⟨l⟩ t.data.toList k s.data.toList u W true (leaf_true l hS t.data.toList k s.data.toList hl) hat) ?_
  rintro e W' ⟨u, m, rfl, ⟨rfl, rfl⟩, hc⟩
  exact ⟨_, rfl, law_post laidOut (by kernel_rfl) rfl (by kernel_rfl) rfl ⟨rfl, rfl, rfl⟩ hW' hc.below⟩

theorem over : Rows.leafSaysRow.holds Try.pinned (OpenSpec.ofChange Rows.leafSaysSpec) :=
  OpenClaim.holds_of_wide 13 Try.f13 rfl rfl rfl rfl rfl rfl rfl ⟨rfl, rfl, rfl, rfl, rfl⟩ rfl rfl rfl rfl rfl (by kernel_rfl) Try.func13 (by kernel_rfl)
    (of_decide_eq_true (by kernel_rfl)) (by unfold Func.isWrapper; first | (rw [if_pos (by decide +kernel)]; kernel_rfl) | (rw [if_neg (by decide +kernel)]; exact ⟨rfl, rfl⟩))
    (fun os started H enc _ => lifted os started H enc)

theorem proved : Rows.LeafSaysSaid :=
  over
#print axioms proved
end Go.Proofs.Ytfmgjigdebofaaa.leafSays
