/-
  Package tree: whatever is done to a tree, all calls answer what the document says.
  Conditions: none.
-/
import Derived.Test.YtdebhhjbgbkbjaaRows
import Derived.Test.YtdebhhjbgbkbjaaTrW
import Derived.Test.YtdebhhjbgbkbjaaTrM3
import Derived.Test.YtdebhhjbgbkbjaaZ
import Derived.WalkKit
import Derived.ProofKit
import Derived.OpenShut
import Derived.SizedLaws
namespace Go.Proofs.Ytdebhhjbgbkbjaa.treePlays
open Go.ChangeShapes Go.WideShapes Go.ChangeAt Go.RowKit Go.S Go.Proofs.Ytdebhhjbgbkbjaa
set_option linter.unusedVariables false

theorem own : ownKnob Try.prog.godebug = none := by kernel_rfl
set_option maxRecDepth 100000 in
theorem laidOut : laidOutB Try.prog = true := by kernel_rfl

set_option maxRecDepth 100000 in
theorem readDeeds {w : World} {cs : List Value} (h : Rz Try.prog w 22 cs) : ∃ (v : Value) (l : List TKeyDeed), cs = [v] ∧ At w v 3 (l.map TKeyDeed.row) ∧ l.length ≤ 4611686018427387903 := by
  obtain ⟨v, rows, rfl, hat, hr, hl⟩ := h.slice (k := 3) Try.underlying22 (by kernel_rfl)
  obtain ⟨l, rfl, _⟩ := exists_map (f := TKeyDeed.row) (Q := fun _ => True) (rows := rows) (fun r hrm => by
    have hR := hr r hrm
    obtain ⟨r0, r1, r2, rfl⟩ := len3 ((hR.rd.struct Try.underlying28).1.trans (by kernel_rfl))
    have h0 := hR.fld Try.underlying28 0 3 0 1 rfl (by kernel_rfl)
    have h1 := hR.fld Try.underlying28 1 3 1 1 rfl (by kernel_rfl)
    have h2 := hR.fld Try.underlying28 2 9 2 1 rfl (by kernel_rfl)
    obtain ⟨a, ha, _⟩ := h0.rd.int (by kernel_rfl)
    obtain ⟨b, hb, _⟩ := h1.rd.int (by kernel_rfl)
    obtain ⟨c, hc, _⟩ := h2.str (by kernel_rfl)
    have e0 : r0 = .int .i64 a := (List.cons.inj ha).1
    have e1 : r1 = .int .i64 b := (List.cons.inj hb).1
    have e2 : r2 = st c := (List.cons.inj hc).1
    exact ⟨⟨a, b, c⟩, by rw [e0, e1, e2]; rfl, trivial⟩)
  refine ⟨v, l, rfl, hat, ?_⟩
  rw [List.length_map, show Try.prog.bytesOf 28 = 32 by kernel_rfl] at hl
  have : reachBytes = 140737488351232 := rfl
  omega

set_option maxRecDepth 100000 in
theorem lifted (os : Os) (started : os.Started) (H : Type) (enc : TypeId × Value → H) :
    ReturnsInHanded {} Try.checked os 3 .any (Rows.treePlaysSpec.pre6 enc Try.prog Try.f3 Rows.treePlaysRow.domain false) (Rows.treePlaysSpec.post enc Try.prog Try.f3 false true false false) := by
  refine returnsInHanded_of_change_sized (C := Try.checked) own started (by kernel_rfl) Try.func3
    (ChangeSpec.witness6 (enc := enc) (C := Try.checked) false ⟨#[], #[.slice none 0 0, .int .i64 0], []⟩ 8 (by kernel_rfl) (by kernel_rfl) (by kernel_rfl) (by kernel_rfl)) ?_
  intro W base args ds gs before hval0 hW _ hz _
  have hW' := hW
  obtain ⟨p, q, hA0, hV, rfl, _, _⟩ := hW
  have hA : DataW.TrodAll enc Try.prog W 0 (fun _ => true) true Try.f3.params.toList args.toList ds p := hA0
  rw [Try.params3] at hA
  obtain ⟨v0, vs0, d0, ds0, p0, q0, hargs, rfl, rfl, h0, r0⟩ := trodAll_cons hA
  obtain ⟨v1, vs1, d1, ds1, p1, q1, rfl, rfl, rfl, h1, r1⟩ := trodAll_cons r0
  obtain ⟨rfl, rfl, rfl⟩ := trodAll_nil r1
  obtain rfl : args = #[v0, v1] := by cases args; simp_all
  obtain ⟨rfl, rfl⟩ := trodVars_none hV
  obtain ⟨a, m, c, rfl⟩ := okWide_slice Try.underlying22 (hval0 0 22 v0 rfl rfl)
  obtain ⟨n, rfl, rfl, rfl, _⟩ := open_int Try.underlying3 (hval0 1 3 v1 rfl rfl) h1
  obtain ⟨v, l, hv, hT, hl⟩ := readDeeds (Rz.of h0 hz 0 rfl rfl)
  obtain rfl : .slice a m c = v := (List.cons.inj hv).1
  clear hA0 hval0
  have hcall : Calls Try.prog 3 [.slice a m c, .int .i64 n].toArray W _ :=
    w3_quirlaw_TreePlays l n (.slice a m c) { W with drawn := 0 } rfl true (law hl) (hT.z 0) W.drawn
  refine Calls.mono hcall ?_
  rintro e W' ⟨u, m, rfl, ⟨rfl, rfl⟩, hc⟩
  exact ⟨_, rfl, law_post laidOut (by kernel_rfl) rfl (by kernel_rfl) rfl ⟨rfl, rfl, rfl⟩ hW' ⟨hc.os, hc.tape, hc.output, hc.size, fun k hk => hc.old k hk (by simp)⟩⟩

theorem over : Rows.treePlaysRow.holds Try.pinned (OpenSpec.ofChange Rows.treePlaysSpec) :=
  OpenClaim.holds_of_wide 3 Try.f3 rfl rfl rfl rfl rfl rfl rfl ⟨rfl, rfl, rfl, rfl, rfl⟩ rfl rfl rfl rfl rfl (by kernel_rfl) Try.func3 (by kernel_rfl)
    (of_decide_eq_true (by kernel_rfl)) (by unfold Func.isWrapper; first | (rw [if_pos (by decide +kernel)]; kernel_rfl) | (rw [if_neg (by decide +kernel)]; exact ⟨rfl, rfl⟩))
    (fun os started H enc _ => lifted os started H enc)

theorem proved : Rows.TreePlaysSaid :=
  over
#print axioms proved
end Go.Proofs.Ytdebhhjbgbkbjaa.treePlays
