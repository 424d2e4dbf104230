/-
  order.Of: whatever is handed in, it answers what the document's answer is.
  Conditions: none.
-/
import Derived.Test.YtjdbjcmmdnpeaaaRows
import Derived.Test.YtjdbjcmmdnpeaaaOtW
import Derived.Test.YtjdbjcmmdnpeaaaOtG
import Derived.WalkKit
import Derived.ProofKit
import Derived.OpenShut
namespace Go.Proofs.Ytjdbjcmmdnpeaaa.orderTells
open Go.ChangeShapes Go.WideShapes Go.ChangeAt Go.RowKit Go.S Go.Proofs.Ytjdbjcmmdnpeaaa
set_option linter.unusedVariables false

theorem own : ownKnob Try.prog.godebug = none := by kernel_rfl
set_option maxRecDepth 100000 in
theorem laidOut : laidOutB Try.prog = true := by kernel_rfl

set_option maxRecDepth 100000 in
theorem run {w : World} {cs : List Value} (h : Rd Try.prog w 22 cs) : ∃ (v : Value) (l : List TOp), cs = [v] ∧ At w v 3 (l.map TOp.row) := by
  obtain ⟨v, rows, rfl, hat, hr⟩ := h.slice (k := 3) Try.underlying22 (by kernel_rfl)
  obtain ⟨l, rfl, hq⟩ := exists_map (f := TOp.row) (Q := fun _ => True) (fun r hrm => by
    have hR := hr r hrm
    obtain ⟨r0, r1, r2, rfl⟩ := len3 ((hR.struct Try.underlying37).1.trans (by kernel_rfl))
    have h0 := hR.fld Try.underlying37 0 3 0 1 rfl (by kernel_rfl)
    have h1 := hR.fld Try.underlying37 1 3 1 1 rfl (by kernel_rfl)
    have h2 := hR.fld Try.underlying37 2 3 2 1 rfl (by kernel_rfl)
    obtain ⟨a, ha, _⟩ := h0.int (by kernel_rfl)
    obtain ⟨b, hb, _⟩ := h1.int (by kernel_rfl)
    obtain ⟨c, hc, _⟩ := h2.int (by kernel_rfl)
    have e0 : r0 = .int .i64 a := (List.cons.inj ha).1
    have e1 : r1 = .int .i64 b := (List.cons.inj hb).1
    have e2 : r2 = .int .i64 c := (List.cons.inj hc).1
    exact ⟨⟨a, b, c⟩, by rw [e0, e1, e2]; rfl, trivial⟩)
  exact ⟨v, l, rfl, hat⟩

set_option maxRecDepth 100000 in
theorem dids {w : World} {cs : List Value} (h : Rd Try.prog w 23 cs) : ∃ (v : Value) (l : List TDid), cs = [v] ∧ At w v 2 (l.map TDid.row) := by
  obtain ⟨v, rows, rfl, hat, hr⟩ := h.slice (k := 2) Try.underlying23 (by kernel_rfl)
  obtain ⟨l, rfl, hq⟩ := exists_map (f := TDid.row) (Q := fun _ => True) (fun r hrm => by
    have hR := hr r hrm
    obtain ⟨r0, r1, rfl⟩ := len2 ((hR.struct Try.underlying43).1.trans (by kernel_rfl))
    have h0 := hR.fld Try.underlying43 0 4 0 1 rfl (by kernel_rfl)
    have h1 := hR.fld Try.underlying43 1 3 1 1 rfl (by kernel_rfl)
    obtain ⟨a, ha⟩ := h0.bool (by kernel_rfl)
    obtain ⟨b, hb, _⟩ := h1.int (by kernel_rfl)
    have e0 : r0 = .bool a := (List.cons.inj ha).1
    have e1 : r1 = .int .i64 b := (List.cons.inj hb).1
    exact ⟨⟨a, b⟩, by rw [e0, e1]; rfl, trivial⟩)
  exact ⟨v, l, rfl, hat⟩
theorem at_below {w w' : World} {v : Value} {k : Nat} {rows : List (List Value)} (h : At w v k rows) (hb : RowKit.Below w.heap.size w w') : At w' v k rows := by
  refine ⟨h.shape, h.len, fun i r j x h1 h2 => ?_⟩
  have hx := h.cell i r j x h1 h2
  have hblk : ((adr v).add (i * k + j)).block = (adr v).block := by unfold Addr.add; split <;> rfl
  have hlt := World.block_lt_of_cell? w _ hx
  rw [World.cell?_of_block (w := w)]
  · exact hx
  · exact hb.block _ hlt

set_option maxRecDepth 100000 in
theorem lifted (os : Os) (started : os.Started) (H : Type) (enc : TypeId × Value → H) :
    ReturnsInHanded {} Try.checked os 3 .any (Rows.orderTellsSpec.pre6 enc Try.prog Try.f3 Rows.orderTellsRow.domain false) (Rows.orderTellsSpec.post enc Try.prog Try.f3 false true false false) := by
  refine returnsInHanded_of_change (C := Try.checked) own started (by kernel_rfl) Try.func3
    (ChangeSpec.witness6 (enc := enc) (C := Try.checked) false ⟨#[], #[.slice none 0 0, .slice none 0 0], []⟩ 8 (by kernel_rfl) (by kernel_rfl) (by kernel_rfl) (by kernel_rfl)) ?_
  intro W base args ds gs before hval0 hW hcnd _
  have hW' := hW
  obtain ⟨p, q, hA0, hV, rfl, hfz, hnd⟩ := hW
  have hA : DataW.TrodAll enc Try.prog W 0 (fun _ => true) true Try.f3.params.toList args.toList ds p := hA0
  rw [Try.params3] at hA
  obtain ⟨v0, vs0, d0, ds0, p0, q0, hargs, rfl, rfl, h0, r0⟩ := trodAll_cons hA
  obtain ⟨v1, vs1, d1, ds1, p1, q1, rfl, rfl, rfl, h1, r1⟩ := trodAll_cons r0
  obtain ⟨rfl, rfl, rfl⟩ := trodAll_nil r1
  obtain rfl : args = #[v0, v1] := by cases args; simp_all
  obtain ⟨rfl, rfl⟩ := trodVars_none hV
  obtain ⟨a, n, c, rfl⟩ := okWide_slice Try.underlying22 (hval0 0 22 v0 rfl rfl)
  obtain ⟨a', n', c', rfl⟩ := okWide_slice Try.underlying23 (hval0 1 23 v1 rfl rfl)
  obtain ⟨v, l, hv, hT⟩ := run (Rd.of h0)
  obtain ⟨v', l', hv', hT'⟩ := dids (Rd.of h1)
  obtain rfl : .slice a n c = v := (List.cons.inj hv).1
  obtain rfl : .slice a' n' c' = v' := (List.cons.inj hv').1
  clear hA0 hval0
  refine Calls.mono (w3_quirlaw_OrderTells l l' (.slice a n c) (.slice a' n' c') (fun w' => RowKit.Below W.heap.size W w') W (Stb.f fun w' h => h) true (tells_true l l') (fun w' hk _ => at_below hT hk) (fun w' hk _ => at_below hT' hk)) ?_
  rintro e W' ⟨u, m, rfl, ⟨rfl, rfl⟩, hc⟩
  exact ⟨_, rfl, law_post laidOut (by kernel_rfl) rfl (by kernel_rfl) rfl ⟨rfl, rfl, rfl⟩ hW' hc.below⟩

theorem over : Rows.orderTellsRow.holds Try.pinned (OpenSpec.ofChange Rows.orderTellsSpec) :=
  OpenClaim.holds_of_wide 3 Try.f3 rfl rfl rfl rfl rfl rfl rfl ⟨rfl, rfl, rfl, rfl, rfl⟩ rfl rfl rfl rfl rfl (by kernel_rfl) Try.func3 (by kernel_rfl)
    (of_decide_eq_true (by kernel_rfl)) (by unfold Func.isWrapper; first | (rw [if_pos (by decide +kernel)]; kernel_rfl) | (rw [if_neg (by decide +kernel)]; exact ⟨rfl, rfl⟩))
    (fun os started H enc _ => lifted os started H enc)

theorem proved : Rows.OrderTellsSaid :=
  over
#print axioms proved
end Go.Proofs.Ytjdbjcmmdnpeaaa.orderTells
