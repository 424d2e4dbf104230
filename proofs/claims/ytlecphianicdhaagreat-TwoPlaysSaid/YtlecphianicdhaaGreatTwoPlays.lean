import Derived.Test.YtlecphianicdhaaGreatRows
import Derived.Test.YtlecphianicdhaaGreatTwW
import Derived.Test.YtlecphianicdhaaGreatZm
import Derived.WalkKit
import Derived.ProofKit
import Derived.OpenShut

namespace Go.Proofs.YtlecphianicdhaaGreat.twoPlays
open Go.ChangeShapes Go.WideShapes Go.ChangeAt Go.RowKit Go.S Go.Proofs.YtlecphianicdhaaGreat
set_option linter.unusedVariables false

theorem own : ownKnob Tryz.prog.godebug = none := by kernel_rfl
set_option maxRecDepth 100000 in
theorem laidOut : laidOutB Tryz.prog = true := by kernel_rfl
theorem at_below {w w' : World} {v : Value} {k : Nat} {rows : List (List Value)} (h : At w v k rows) (hb : RowKit.Below w.heap.size w w') : At w' v k rows := by
  refine ⟨h.shape, h.len, fun i r j x h1 h2 => ?_⟩
  have hx := h.cell i r j x h1 h2
  have hblk : ((adr v).add (i * k + j)).block = (adr v).block := by unfold Addr.add; split <;> rfl
  have hlt := World.block_lt_of_cell? w _ hx
  rw [World.cell?_of_block (w := w)]
  · exact hx
  · exact hb.block _ hlt

set_option maxRecDepth 100000 in
theorem opsR {w : World} {cs : List Value} (h : Rd Tryz.prog w 22 cs) : ∃ (v : Value) (l : List TOp), cs = [v] ∧ At w v 3 (l.map TOp.row) := by
  obtain ⟨v, rows, rfl, hat, hr⟩ := h.slice (k := 3) Tryz.underlying22 (by kernel_rfl)
  obtain ⟨l, rfl, hq⟩ := exists_map (f := TOp.row) (Q := fun _ => True) (fun r hrm => by
    have hR := hr r hrm
    obtain ⟨r0, r1, r2, rfl⟩ := len3 ((hR.struct Tryz.underlying40).1.trans (by kernel_rfl))
    have h0 := hR.fld Tryz.underlying40 0 3 0 1 rfl (by kernel_rfl)
    have h1 := hR.fld Tryz.underlying40 1 3 1 1 rfl (by kernel_rfl)
    have h2 := hR.fld Tryz.underlying40 2 3 2 1 rfl (by kernel_rfl)
    obtain ⟨a, ha, _⟩ := h0.int (by kernel_rfl)
    obtain ⟨b, hb, _⟩ := h1.int (by kernel_rfl)
    obtain ⟨c, hc, _⟩ := h2.int (by kernel_rfl)
    have e0 : r0 = .int .i64 a := (List.cons.inj ha).1
    have e1 : r1 = .int .i64 b := (List.cons.inj hb).1
    have e2 : r2 = .int .i64 c := (List.cons.inj hc).1
    exact ⟨⟨a, b, c⟩, by rw [e0, e1, e2]; rfl, trivial⟩)
  exact ⟨v, l, rfl, hat⟩

set_option maxRecDepth 100000 in
theorem lifted (os : Os) (started : os.Started) (H : Type) (enc : TypeId × Value → H) :
    ReturnsInHanded {} Tryz.checked os 3 .any (Rows.twoPlaysSpec.pre6 enc Tryz.prog Tryz.f3 Rows.twoPlaysRow.domain false) (Rows.twoPlaysSpec.post enc Tryz.prog Tryz.f3 false true false false) := by
  refine returnsInHanded_of_change (C := Tryz.checked) own started (by kernel_rfl) Tryz.func3
    (ChangeSpec.witness6 (enc := enc) (C := Tryz.checked) false ⟨#[], #[.slice none 0 0], []⟩ 8 (by kernel_rfl) (by kernel_rfl) (by kernel_rfl) (by kernel_rfl)) ?_
  intro W base args ds gs before hval0 hW hcnd _
  have hW' := hW
  obtain ⟨p, q, hA0, hV, rfl, hfz, hnd⟩ := hW
  have hA : DataW.TrodAll enc Tryz.prog W 0 (fun _ => true) true Tryz.f3.params.toList args.toList ds p := hA0
  rw [Tryz.params3] at hA
  obtain ⟨v0, vs0, d0, ds0, p0, q0, hargs, rfl, rfl, h0, r0⟩ := trodAll_cons hA
  obtain ⟨rfl, rfl, rfl⟩ := trodAll_nil r0
  obtain rfl : args = #[v0] := by cases args; simp_all
  obtain ⟨rfl, rfl⟩ := trodVars_none hV
  obtain ⟨a, n, c, rfl⟩ := okWide_slice Tryz.underlying22 (hval0 0 22 v0 rfl rfl)
  obtain ⟨v, l, hv, hat⟩ := opsR (Rd.of h0)
  obtain rfl : .slice a n c = v := (List.cons.inj hv).1
  clear hA0 hval0
  have hll := hat.le
  rw [List.length_map] at hll
  simp only [maxLen] at hll
  refine Calls.mono (W3 l _ (fun w' => RowKit.Below W.heap.size W w') W (Stb.f fun w' h => h) true (law l) (fun w' hk _ => at_below hat hk)) ?_
  rintro e W' ⟨u, m, rfl, ⟨rfl, rfl⟩, hc⟩
  exact ⟨_, rfl, law_post laidOut (by kernel_rfl) rfl (by kernel_rfl) rfl ⟨rfl, rfl, rfl⟩ hW' hc.below⟩

theorem over : Rows.twoPlaysRow.holds Tryz.pinned (OpenSpec.ofChange Rows.twoPlaysSpec) :=
  OpenClaim.holds_of_wide 3 Tryz.f3 rfl rfl rfl rfl rfl rfl rfl ⟨rfl, rfl, rfl, rfl, rfl⟩ rfl rfl rfl rfl rfl (by kernel_rfl) Tryz.func3 (by kernel_rfl)
    (of_decide_eq_true (by kernel_rfl)) (by unfold Func.isWrapper; first | (rw [if_pos (by decide +kernel)]; kernel_rfl) | (rw [if_neg (by decide +kernel)]; exact ⟨rfl, rfl⟩))
    (fun os started H enc _ => lifted os started H enc)

theorem proved : Rows.TwoPlaysSaid :=
  over
#print axioms proved
end Go.Proofs.YtlecphianicdhaaGreat.twoPlays
