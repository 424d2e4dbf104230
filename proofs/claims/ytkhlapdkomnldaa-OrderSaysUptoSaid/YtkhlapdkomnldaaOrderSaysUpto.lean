/-
  Package order: whatever is handed in, of bulk at most 1048576, its calls answer what the document's answers are.
  Conditions: the bulk of what is handed in is at most 1048576.
-/
import Derived.Test.YtkhlapdkomnldaaRows
import Derived.Test.YtkhlapdkomnldaaOsW
import Derived.Test.YtkhlapdkomnldaaOsF
import Derived.Test.YtkhlapdkomnldaaUb
import Derived.WalkKit
import Derived.ProofKit
import Derived.OpenShut
import Derived.JoinedCond
import Derived.ChangeMaps5
namespace Go.Proofs.Ytkhlapdkomnldaa.orderSays
open Go.ChangeShapes Go.WideShapes Go.ChangeAt Go.RowKit Go.S Go.Proofs.Ytkhlapdkomnldaa
set_option linter.unusedVariables false

theorem own : ownKnob Try.prog.godebug = none := by kernel_rfl
set_option maxRecDepth 100000 in
theorem laidOut : laidOutB Try.prog = true := by kernel_rfl

set_option maxRecDepth 100000 in
theorem gots {w : World} {cs : List Value} {N : Nat} (h : Rk Try.prog w N 99 cs) : ∃ (v : Value) (l : List TGot), cs = [v] ∧ At w v 2 (l.map TGot.row) ∧ l.length ≤ N := by
  obtain ⟨v, rows, rfl, hat, hr, hl⟩ := h.slice (k := 2) Try.underlying99 (by kernel_rfl)
  obtain ⟨l, rfl, hq⟩ := exists_map (f := TGot.row) (Q := fun _ => True) (fun r hrm => by
    have hR := (hr r hrm).rd
    obtain ⟨r0, r1, rfl⟩ := len2 ((hR.struct Try.underlying104).1.trans (by kernel_rfl))
    have h0 := hR.fld Try.underlying104 0 3 0 1 rfl (by kernel_rfl)
    have h1 := hR.fld Try.underlying104 1 3 1 1 rfl (by kernel_rfl)
    obtain ⟨a, ha, _⟩ := h0.int (by kernel_rfl)
    obtain ⟨b, hb, _⟩ := h1.int (by kernel_rfl)
    have e0 : r0 = .int .i64 a := (List.cons.inj ha).1
    have e1 : r1 = .int .i64 b := (List.cons.inj hb).1
    exact ⟨⟨a, b⟩, by rw [e0, e1]; rfl, trivial⟩)
  exact ⟨v, l, rfl, hat, by simpa using hl⟩
set_option maxRecDepth 100000 in
theorem tales {w : World} {cs : List Value} {N : Nat} (h : Rk Try.prog w N 44 cs) : ∃ (v : Value) (q : Nat → List Value) (l : List TTale), cs = [v] ∧ At w v 2 (zr TTale.rowv q l) ∧ (∀ d ∈ zs TTale.sds q l, At w d.v d.k d.rows) ∧ ∀ t ∈ l, t.Reads.length ≤ N := by
  obtain ⟨v, rows, rfl, hat, hr, _⟩ := h.slice (k := 2) Try.underlying44 (by kernel_rfl)
  obtain ⟨q, l, rfl, hq⟩ := exists_zr (row := TTale.rowv) (Q := fun x vs => At w (gv vs 0) 2 (x.Reads.map TGot.row) ∧ x.Reads.length ≤ N) (fun r hrm => by
    have hR := hr r hrm
    obtain ⟨r0, r1, rfl⟩ := len2 ((hR.rd.struct Try.underlying101).1.trans (by kernel_rfl))
    have h0 := hR.fld Try.underlying101 0 3 0 1 rfl (by kernel_rfl)
    have h1 := hR.fld Try.underlying101 1 99 1 1 rfl (by kernel_rfl)
    obtain ⟨a, ha, _⟩ := h0.rd.int (by kernel_rfl)
    obtain ⟨b, lb, hb, hba, hbl⟩ := gots h1
    have e0 : r0 = .int .i64 a := (List.cons.inj ha).1
    have e1 : r1 = b := (List.cons.inj hb).1
    exact ⟨⟨a, lb⟩, [b], by rw [e0, e1]; rfl, hba, hbl⟩)
  refine ⟨v, q, l, rfl, hat, zs_all q l fun i x hx d hd => ?_, fun t ht => ?_⟩
  · have hd' : d = ⟨gv (q i) 0, 104, 2, x.Reads.map TGot.row⟩ := by simpa [TTale.sds] using hd
    rw [hd']
    exact (hq i x hx).1
  · obtain ⟨i, hi⟩ := List.getElem?_of_mem ht
    exact (hq i t hi).2
set_option maxRecDepth 100000 in
theorem versions {w : World} {cs : List Value} {N : Nat} (h : Rk Try.prog w N 45 cs) : ∃ (v : Value) (q : Nat → List Value) (l : List (List Int)), cs = [v] ∧ At w v 1 (zr svRow q l) ∧ (∀ d ∈ zs (svSd 3 1 I) q l, At w d.v d.k d.rows) ∧ ∀ t ∈ l, t.length ≤ N := by
  obtain ⟨v, rows, rfl, hat, hr, _⟩ := h.slice (k := 1) Try.underlying45 (by kernel_rfl)
  obtain ⟨q, l, rfl, hq⟩ := exists_zr (row := svRow) (Q := fun (x : List Int) vs => At w (gv vs 0) 1 (x.map I) ∧ x.length ≤ N) (fun r hrm => by
    obtain ⟨u, rows2, rfl, hat2, hr2, hl2⟩ := (hr r hrm).slice (k := 1) Try.underlying28 (by kernel_rfl)
    obtain ⟨l2, rfl, _⟩ := exists_map (f := I) (Q := fun _ => True) (fun r hrm => by
      obtain ⟨a, ha, _⟩ := (hr2 r hrm).rd.int (k := .i64) (by kernel_rfl)
      exact ⟨a, ha, trivial⟩)
    exact ⟨l2, [u], rfl, hat2, by simpa using hl2⟩)
  refine ⟨v, q, l, rfl, hat, zs_all q l fun i x hx d hd => ?_, fun t ht => ?_⟩
  · have hd' : d = ⟨gv (q i) 0, 3, 1, x.map I⟩ := by simpa [svSd] using hd
    rw [hd']
    exact (hq i x hx).1
  · obtain ⟨i, hi⟩ := List.getElem?_of_mem ht
    exact (hq i t hi).2
set_option maxRecDepth 100000 in
theorem story {w : World} {cs : List Value} {N : Nat} (h : Rk Try.prog w N 47 cs) : ∃ (u v : Value) (q p : Nat → List Value) (s : TStory), cs = [u, v] ∧ At w u 2 (zr TTale.rowv q s.Tales) ∧ (∀ d ∈ zs TTale.sds q s.Tales, At w d.v d.k d.rows) ∧ At w v 1 (zr svRow p s.Versions) ∧ (∀ d ∈ zs (svSd 3 1 I) p s.Versions, At w d.v d.k d.rows) ∧
    (∀ t ∈ s.Tales, t.Reads.length ≤ N) ∧ ∀ l ∈ s.Versions, l.length ≤ N := by
  obtain ⟨r0, r1, rfl⟩ := len2 ((h.rd.struct Try.underlying47).1.trans (by kernel_rfl))
  have h0 := h.fld Try.underlying47 0 44 0 1 rfl (by kernel_rfl)
  have h1 := h.fld Try.underlying47 1 45 1 1 rfl (by kernel_rfl)
  obtain ⟨u, q, l, hu, g1, g2, g3⟩ := tales h0
  obtain ⟨v, p, m, hv, f1, f2, f3⟩ := versions h1
  have e0 : r0 = u := (List.cons.inj hu).1
  have e1 : r1 = v := (List.cons.inj hv).1
  exact ⟨u, v, q, p, ⟨l, m⟩, by rw [e0, e1], g1, g2, f1, f2, g3, f3⟩

set_option maxRecDepth 100000 in
theorem lifted (os : Os) (started : os.Started) (H : Type) (enc : TypeId × Value → H) (F : Stop.Interp) :
    ReturnsInHanded {} Try.checked os 4 .any ((Rows.OpenSpec.upto Rows.orderSaysSpec).pre6 enc Try.prog Try.f4 Rows.orderSaysUptoRow.domain false) (((Rows.OpenSpec.upto Rows.orderSaysSpec).at F).post enc Try.prog Try.f4 false true false false) := by
  refine returnsInHanded_of_cond (C := Try.checked) (s := Rows.OpenSpec.upto Rows.orderSaysSpec) (k := Rows.uptoSmall) rfl own started (by kernel_rfl) Try.func4
    (OpenSpec.witness (enc := enc) (C := Try.checked) (s := Rows.OpenSpec.upto Rows.orderSaysSpec) (k := Rows.uptoSmall) rfl false ⟨#[], #[.agg #[.slice none 0 0, .slice none 0 0]], []⟩ 8 (by kernel_rfl) (by kernel_rfl) (by kernel_rfl)
      (x := ([.agg [.nil, .nil]], [], [])) (by kernel_rfl) rfl (by kernel_rfl)) ?_
  intro W base args ds gs before hval0 hW _ hk _
  have hW' := hW
  obtain ⟨p, q, hA0, hV, rfl, _, _⟩ := hW
  have hA : DataW.TrodAll enc Try.prog W 0 (fun _ => true) true Try.f4.params.toList args.toList ds p := hA0
  rw [Try.params4] at hA
  obtain ⟨v0, vs0, d0, ds0, p0, q0, hargs, rfl, rfl, h0, r0⟩ := trodAll_cons hA
  obtain ⟨rfl, rfl, rfl⟩ := trodAll_nil r0
  obtain rfl : args = #[v0] := by cases args; simp_all
  obtain ⟨rfl, rfl⟩ := trodVars_none hV
  obtain ⟨c0, rfl, _⟩ := okWide_struct Try.underlying47 (hval0 0 47 v0 rfl rfl)
  have hl : Rows.uptoBulk d0 ≤ 1048576 := by
    have h := of_decide_eq_true hk
    simp only [List.append_nil, Rows.uptoBulkAll] at h
    omega
  obtain ⟨u, v, qq, pp, s, hx, g1, g2, g3, g4, g5, g6⟩ := story (Rk.of h0 hl)
  have ex : c0 = #[u, v] := Array.ext' hx
  subst ex
  clear hA0 hval0
  refine Calls.mono (w4_quirlaw_OrderSays s u qq v pp W true (order_true s ⟨g5, g6⟩) g1 g2 g3 g4) ?_
  rintro e W' ⟨u, m, rfl, ⟨rfl, rfl⟩, hc⟩
  exact ⟨_, rfl, law_post laidOut (by kernel_rfl) rfl (by kernel_rfl) rfl ⟨rfl, rfl, rfl⟩ hW' hc.below⟩

theorem over : Rows.orderSaysUptoRow.holds Try.pinned (Rows.OpenSpec.upto Rows.orderSaysSpec) :=
  OpenClaim.holds_of_cond 4 Try.f4 rfl rfl rfl rfl rfl rfl rfl ⟨rfl, rfl, rfl, rfl, rfl⟩ rfl rfl rfl rfl rfl (by kernel_rfl) Try.func4 (by kernel_rfl)
    (of_decide_eq_true (by kernel_rfl)) (by unfold Func.isWrapper; first | (rw [if_pos (by decide +kernel)]; kernel_rfl) | (rw [if_neg (by decide +kernel)]; exact ⟨rfl, rfl⟩))
    (fun os started H enc _ F => lifted os started H enc F)

theorem proved : Rows.OrderSaysUptoSaid :=
  over
#print axioms proved
end Go.Proofs.Ytkhlapdkomnldaa.orderSays
