/-
  Package redo: whatever is handed in, its calls answer what the document has.
  Conditions: none.
-/
import Derived.Test.YtfmgjigdebofaaaRows
import Derived.Test.YtfmgjigdebofaaaRdW
import Derived.Test.YtfmgjigdebofaaaRdR
import Derived.WalkKit
import Derived.ProofKit
import Derived.OpenShut
namespace Go.Proofs.Ytfmgjigdebofaaa.redoSays
open Go.ChangeShapes Go.WideShapes Go.ChangeAt Go.RowKit Go.S Go.Proofs.Ytfmgjigdebofaaa
set_option linter.unusedVariables false

theorem own : ownKnob Try.prog.godebug = none := by kernel_rfl
set_option maxRecDepth 100000 in
theorem laidOut : laidOutB Try.prog = true := by kernel_rfl

theorem rows_of {α : Type} {f : α → List Value} {k : Nat} : ∀ (n : Nat) (cs : List Value), cs.length = n * k → (∀ i, i < n → ∃ x, (cs.drop (i * k)).take k = f x) → ∃ xs : List α, xs.length = n ∧ cs = (xs.map f).flatten
  | 0, cs, h, _ => ⟨[], rfl, by
    have : cs = [] := List.eq_nil_of_length_eq_zero (by omega)
    rw [this]; rfl⟩
  | n + 1, cs, h, hx => by
    rw [Nat.succ_mul] at h
    obtain ⟨x, h0⟩ := hx 0 (by omega)
    simp only [Nat.zero_mul, List.drop_zero] at h0
    obtain ⟨xs, h1, h2⟩ := rows_of (f := f) (k := k) n (cs.drop k) (by rw [List.length_drop]; omega) (fun i hi => by
      obtain ⟨y, hy⟩ := hx (i + 1) (by omega)
      exact ⟨y, by rw [List.drop_drop, ← hy, Nat.succ_mul, Nat.add_comm k]⟩)
    refine ⟨x :: xs, by simp [h1], ?_⟩
    rw [List.map_cons, List.flatten_cons, ← h2, ← h0, List.take_append_drop]
theorem okWide_array {P : Program} {w : World} {r : Reach} {base : Nat} {t e : TypeId} {n : Nat} {v : Value} (ht : P.underlying t = some (.array n e)) (h : Value.okWide P w r base t v) : ∃ cs, v = .agg cs ∧ cs.size = P.cellsOf t := by
  simp only [Value.okWide, ht] at h
  obtain ⟨cs, h1, h2, _⟩ := h
  exact ⟨cs, h1, h2⟩
set_option maxRecDepth 100000 in
theorem recs {w : World} {cs : List Value} (h : Rd Try.prog w 85 cs) : ∃ (v : Value) (l : List TRec), cs = [v] ∧ At w v 5 (l.map TRec.row) := by
  obtain ⟨v, rows, rfl, hat, hr⟩ := h.slice (k := 5) Try.underlying85 (by kernel_rfl)
  obtain ⟨l, rfl, hq⟩ := exists_map (f := TRec.row) (Q := fun _ => True) (fun r hrm => by
    have hR := hr r hrm
    obtain ⟨r0, r1, r2, r3, r4, rfl⟩ := len5 ((hR.struct Try.underlying99).1.trans (by kernel_rfl))
    have h0 := hR.fld Try.underlying99 0 3 0 1 rfl (by kernel_rfl)
    have h1 := hR.fld Try.underlying99 1 3 1 1 rfl (by kernel_rfl)
    have h2 := hR.fld Try.underlying99 2 3 2 1 rfl (by kernel_rfl)
    have h3 := hR.fld Try.underlying99 3 3 3 1 rfl (by kernel_rfl)
    have h4 := hR.fld Try.underlying99 4 3 4 1 rfl (by kernel_rfl)
    obtain ⟨a, ha, _⟩ := h0.int (by kernel_rfl)
    obtain ⟨b, hb, _⟩ := h1.int (by kernel_rfl)
    obtain ⟨c, hc, _⟩ := h2.int (by kernel_rfl)
    obtain ⟨d, hd, _⟩ := h3.int (by kernel_rfl)
    obtain ⟨f, hf, _⟩ := h4.int (by kernel_rfl)
    have e0 : r0 = .int .i64 a := (List.cons.inj ha).1
    have e1 : r1 = .int .i64 b := (List.cons.inj hb).1
    have e2 : r2 = .int .i64 c := (List.cons.inj hc).1
    have e3 : r3 = .int .i64 d := (List.cons.inj hd).1
    have e4 : r4 = .int .i64 f := (List.cons.inj hf).1
    exact ⟨⟨a, b, c, d, f⟩, by rw [e0, e1, e2, e3, e4]; rfl, trivial⟩)
  exact ⟨v, l, rfl, hat⟩
set_option maxRecDepth 100000 in
theorem numbers {w : World} {cs : List Value} (h : Rd Try.prog w 76 cs) : ∃ l : List Int, l.length = 20 ∧ cs = (l.map I).flatten := by
  obtain ⟨hl, hx⟩ := h.array Try.underlying76
  refine rows_of (k := 1) 20 cs (hl.trans (by kernel_rfl)) fun i hi => ?_
  have h1 := hx i hi
  have hk : Try.prog.cellsOf 3 = 1 := by kernel_rfl
  rw [hk] at h1
  obtain ⟨n, hn, _⟩ := h1.int (by kernel_rfl)
  exact ⟨n, hn⟩
set_option maxRecDepth 100000 in
theorem pages {w : World} {cs : List Value} (h : Rd Try.prog w 88 cs) : ∃ l : List TPage, l.length = 20 ∧ cs = (l.map TPage.row).flatten := by
  obtain ⟨hl, hx⟩ := h.array Try.underlying88
  refine rows_of (k := 2) 20 cs (hl.trans (by kernel_rfl)) fun i hi => ?_
  have hR := hx i hi
  have hk : Try.prog.cellsOf 87 = 2 := by kernel_rfl
  rw [hk] at hR
  have hlen := (hR.struct Try.underlying87).1.trans (show Try.prog.cellsOf 87 = 2 by kernel_rfl)
  have h0 := hR.fld Try.underlying87 0 3 0 1 rfl (by kernel_rfl)
  have h1 := hR.fld Try.underlying87 1 3 1 1 rfl (by kernel_rfl)
  obtain ⟨a, ha, _⟩ := h0.int (by kernel_rfl)
  obtain ⟨b, hb, _⟩ := h1.int (by kernel_rfl)
  obtain ⟨r0, r1, hz⟩ := len2 hlen
  rw [hz] at ha hb ⊢
  have e0 : r0 = .int .i64 a := (List.cons.inj ha).1
  have e1 : r1 = .int .i64 b := (List.cons.inj hb).1
  exact ⟨⟨a, b⟩, by rw [e0, e1]; rfl⟩

set_option maxRecDepth 100000 in
theorem lifted (os : Os) (started : os.Started) (H : Type) (enc : TypeId × Value → H) :
    ReturnsInHanded {} Try.checked os 10 .any (Rows.redoSaysSpec.pre6 enc Try.prog Try.f10 Rows.redoSaysRow.domain false) (Rows.redoSaysSpec.post enc Try.prog Try.f10 false true false false) := by
  refine returnsInHanded_of_change (C := Try.checked) own started (by kernel_rfl) Try.func10
    (ChangeSpec.witness6 (enc := enc) (C := Try.checked) false ⟨#[], #[.slice none 0 0, .agg (Array.replicate 20 (.int .i64 0)), .agg (Array.replicate 40 (.int .i64 0))], []⟩ 8 (by kernel_rfl) (by kernel_rfl) (by kernel_rfl) (by kernel_rfl)) ?_
  intro W base args ds gs before hval0 hW hcnd _
  have hW' := hW
  obtain ⟨p, q, hA0, hV, rfl, hfz, hnd⟩ := hW
  have hA : DataW.TrodAll enc Try.prog W 0 (fun _ => true) true Try.f10.params.toList args.toList ds p := hA0
  rw [Try.params10] at hA
  obtain ⟨v0, vs0, d0, ds0, p0, q0, hargs, rfl, rfl, h0, r0⟩ := trodAll_cons hA
  obtain ⟨v1, vs1, d1, ds1, p1, q1, rfl, rfl, rfl, h1, r1⟩ := trodAll_cons r0
  obtain ⟨v2, vs2, d2, ds2, p2, q2, rfl, rfl, rfl, h2, r2⟩ := trodAll_cons r1
  obtain ⟨rfl, rfl, rfl⟩ := trodAll_nil r2
  obtain rfl : args = #[v0, v1, v2] := by cases args; simp_all
  obtain ⟨rfl, rfl⟩ := trodVars_none hV
  obtain ⟨a, n, c, rfl⟩ := okWide_slice Try.underlying85 (hval0 0 85 v0 rfl rfl)
  obtain ⟨c1, rfl, _⟩ := okWide_array Try.underlying76 (hval0 1 76 v1 rfl rfl)
  obtain ⟨c2, rfl, _⟩ := okWide_array Try.underlying88 (hval0 2 88 v2 rfl rfl)
  obtain ⟨v, l, hv, hT⟩ := recs (Rd.of h0)
  obtain rfl : .slice a n c = v := (List.cons.inj hv).1
  obtain ⟨x1, l1, hx1⟩ := numbers (Rd.of h1)
  obtain ⟨x2, l2, hx2⟩ := pages (Rd.of h2)
  have e1 : c1 = (x1.map I).flatten.toArray := Array.ext' hx1
  have e2 : c2 = (x2.map TPage.row).flatten.toArray := Array.ext' hx2
  subst e1; subst e2
  clear hA0 hval0
  have hcall : Calls Try.prog 10 [.slice a n c, .agg (x1.map I).flatten.toArray, .agg (x2.map TPage.row).flatten.toArray].toArray W _ :=
    w10_quirlaw_RedoSays l x1 x2 (.slice a n c) { W with drawn := 0 } rfl true (redo_true l x1 x2 l1 l2) (hT.z 0) W.drawn
  refine Calls.mono hcall ?_
  rintro e W' ⟨u, m, rfl, ⟨rfl, rfl⟩, hc⟩
  exact ⟨_, rfl, law_post laidOut (by kernel_rfl) rfl (by kernel_rfl) rfl ⟨rfl, rfl, rfl⟩ hW' ⟨hc.os, hc.tape, hc.output, hc.size, fun k hk => hc.old k hk (by simp)⟩⟩

theorem over : Rows.redoSaysRow.holds Try.pinned (OpenSpec.ofChange Rows.redoSaysSpec) :=
  OpenClaim.holds_of_wide 10 Try.f10 rfl rfl rfl rfl rfl rfl rfl ⟨rfl, rfl, rfl, rfl, rfl⟩ rfl rfl rfl rfl rfl (by kernel_rfl) Try.func10 (by kernel_rfl)
    (of_decide_eq_true (by kernel_rfl)) (by unfold Func.isWrapper; first | (rw [if_pos (by decide +kernel)]; kernel_rfl) | (rw [if_neg (by decide +kernel)]; exact ⟨rfl, rfl⟩))
    (fun os started H enc _ => lifted os started H enc)

theorem proved : Rows.RedoSaysSaid :=
  over
#print axioms proved
end Go.Proofs.Ytfmgjigdebofaaa.redoSays
