/-
  Package lock: whatever is handed in, its calls answer what the document's answers are.
  Conditions: none.
-/
import Derived.Test.YtgkdimboofglfaaRows
import Derived.Test.YtgkdimboofglfaaLkW
import Derived.Test.YtgkdimboofglfaaLkG
import Derived.Test.YtgkdimboofglfaaUb
import Derived.WalkKit
import Derived.ProofKit
import Derived.OpenShut
namespace Go.Proofs.Ytgkdimboofglfaa.lockSays
open Go.ChangeShapes Go.WideShapes Go.ChangeAt Go.RowKit Go.S Go.Proofs.Ytgkdimboofglfaa
set_option linter.unusedVariables false

theorem own : ownKnob Try.prog.godebug = none := by kernel_rfl
set_option maxRecDepth 100000 in
theorem laidOut : laidOutB Try.prog = true := by kernel_rfl
theorem at_below {w w' : World} {v : Value} {k : Nat} {rows : List (List Value)} (h : At w v k rows) (hb : RowKit.Below w.heap.size w w') : At w' v k rows := by
  refine ⟨h.shape, h.len, fun i r j x h1 h2 => ?_⟩
  have hx := h.cell i r j x h1 h2
  have hblk : ((adr v).add (i * k + j)).block = (adr v).block := by unfold Addr.add; split <;> rfl
  have hlt := World.block_lt_of_cell? w _ hx
  rw [World.cell?_of_block (w := w)]
  · exact hx
  · exact hb.block _ hlt

set_option maxRecDepth 100000 in
theorem locks {w : World} {cs : List Value} (h : Rd Try.prog w 48 cs) : ∃ (v : Value) (l : List TLock), cs = [v] ∧ At w v 2 (l.map TLock.row) := by
  obtain ⟨v, rows, rfl, hat, hr⟩ := h.slice (k := 2) Try.underlying48 (by kernel_rfl)
  obtain ⟨l, rfl, hq⟩ := exists_map (f := TLock.row) (Q := fun _ => True) (fun r hrm => by
    have hR := hr r hrm
    obtain ⟨r0, r1, rfl⟩ := len2 ((hR.struct Try.underlying55).1.trans (by kernel_rfl))
    have h0 := hR.fld Try.underlying55 0 3 0 1 rfl (by kernel_rfl)
    have h1 := hR.fld Try.underlying55 1 3 1 1 rfl (by kernel_rfl)
    obtain ⟨a, ha, _⟩ := h0.int (by kernel_rfl)
    obtain ⟨b, hb, _⟩ := h1.int (by kernel_rfl)
    have e0 : r0 = .int .i64 a := (List.cons.inj ha).1
    have e1 : r1 = .int .i64 b := (List.cons.inj hb).1
    exact ⟨⟨a, b⟩, by rw [e0, e1]; rfl, trivial⟩)
  exact ⟨v, l, rfl, hat⟩
set_option maxRecDepth 100000 in
theorem table {w : World} {cs : List Value} (h : Rd Try.prog w 23 cs) : ∃ (v : Value) (q : Nat → List Value) (l : List TLockItem), cs = [v] ∧ At w v 3 (zr TLockItem.rowv q l) ∧ (∀ d ∈ zs TLockItem.sds q l, At w d.v d.k d.rows) ∧ LnT l := by
  obtain ⟨v, rows, rfl, hat, hr⟩ := h.slice (k := 3) Try.underlying23 (by kernel_rfl)
  obtain ⟨q, l, rfl, hq⟩ := exists_zr (row := TLockItem.rowv) (Q := fun x vs => At w (gv vs 0) 2 (x.Held.map TLock.row) ∧ At w (gv vs 1) 2 (x.Queue.map TLock.row)) (fun r hrm => by
    have hR := hr r hrm
    obtain ⟨r0, r1, r2, rfl⟩ := len3 ((hR.struct Try.underlying50).1.trans (by kernel_rfl))
    have h0 := hR.fld Try.underlying50 0 3 0 1 rfl (by kernel_rfl)
    have h1 := hR.fld Try.underlying50 1 48 1 1 rfl (by kernel_rfl)
    have h2 := hR.fld Try.underlying50 2 48 2 1 rfl (by kernel_rfl)
    obtain ⟨a, ha, _⟩ := h0.int (by kernel_rfl)
    obtain ⟨b, lb, hb, hba⟩ := locks h1
    obtain ⟨c, lc, hc, hca⟩ := locks h2
    have e0 : r0 = .int .i64 a := (List.cons.inj ha).1
    have e1 : r1 = b := (List.cons.inj hb).1
    have e2 : r2 = c := (List.cons.inj hc).1
    exact ⟨⟨a, lb, lc⟩, [b, c], by rw [e0, e1, e2]; rfl, hba, hca⟩)
  refine ⟨v, q, l, rfl, hat, zs_all q l fun i x hx d hd => ?_, fun x hx => ?_⟩
  · have hd' : d = ⟨gv (q i) 0, 55, 2, x.Held.map TLock.row⟩ ∨ d = ⟨gv (q i) 1, 55, 2, x.Queue.map TLock.row⟩ := by simpa [TLockItem.sds] using hd
    rcases hd' with rfl | rfl
    · exact (hq i x hx).1
    · exact (hq i x hx).2
  · obtain ⟨i, hi⟩ := List.getElem?_of_mem hx
    obtain ⟨g1, g2⟩ := hq i x hi
    have k1 := g1.le
    have k2 := g2.le
    rw [List.length_map] at k1 k2
    simp only [maxLen] at k1 k2
    unfold Ln
    omega

set_option maxRecDepth 100000 in
theorem lifted (os : Os) (started : os.Started) (H : Type) (enc : TypeId × Value → H) :
    ReturnsInHanded {} Try.checked os 3 .any (Rows.lockSaysSpec.pre6 enc Try.prog Try.f3 Rows.lockSaysRow.domain false) (Rows.lockSaysSpec.post enc Try.prog Try.f3 false true false false) := by
  refine returnsInHanded_of_change (C := Try.checked) own started (by kernel_rfl) Try.func3
    (ChangeSpec.witness6 (enc := enc) (C := Try.checked) false ⟨#[], #[.slice none 0 0, .int .i64 0, .int .i64 0, .int .i64 0], []⟩ 8 (by kernel_rfl) (by kernel_rfl) (by kernel_rfl) (by kernel_rfl)) ?_
  intro W base args ds gs before hval0 hW hcnd _
  have hW' := hW
  obtain ⟨p, q, hA0, hV, rfl, hfz, hnd⟩ := hW
  have hA : DataW.TrodAll enc Try.prog W 0 (fun _ => true) true Try.f3.params.toList args.toList ds p := hA0
  rw [Try.params3] at hA
  obtain ⟨v0, vs0, d0, ds0, p0, q0, hargs, rfl, rfl, h0, r0⟩ := trodAll_cons hA
  obtain ⟨v1, vs1, d1, ds1, p1, q1, rfl, rfl, rfl, h1, r1⟩ := trodAll_cons r0
  obtain ⟨v2, vs2, d2, ds2, p2, q2, rfl, rfl, rfl, h2, r2⟩ := trodAll_cons r1
  obtain ⟨v3, vs3, d3, ds3, p3, q3, rfl, rfl, rfl, h3, r3⟩ := trodAll_cons r2
  obtain ⟨rfl, rfl, rfl⟩ := trodAll_nil r3
  obtain rfl : args = #[v0, v1, v2, v3] := by cases args; simp_all
  obtain ⟨rfl, rfl⟩ := trodVars_none hV
  obtain ⟨a, n, c, rfl⟩ := okWide_slice Try.underlying23 (hval0 0 23 v0 rfl rfl)
  obtain ⟨tx, rfl, _⟩ := okWide_int Try.underlying3 (hval0 1 3 v1 rfl rfl)
  obtain ⟨item, rfl, _⟩ := okWide_int Try.underlying3 (hval0 2 3 v2 rfl rfl)
  obtain ⟨mode, rfl, _⟩ := okWide_int Try.underlying3 (hval0 3 3 v3 rfl rfl)
  obtain ⟨v, qq, l, hv, hat, hd, hl⟩ := table (Rd.of h0)
  obtain rfl : .slice a n c = v := (List.cons.inj hv).1
  clear hA0 hval0
  have hll := hat.le
  rw [zr_length] at hll
  simp only [maxLen] at hll
  refine Calls.mono (w3_quirlaw_LockSays l tx item mode _ qq (fun w' => RowKit.Below W.heap.size W w') W (fun w' h => h) true (says_true (by unfold Ln; omega) hl) (fun w' hk _ => at_below hat hk) (fun d hd' w' hk _ => at_below (hd d hd') hk)) ?_
  rintro e W' ⟨u, m, rfl, ⟨rfl, rfl⟩, hc⟩
  exact ⟨_, rfl, law_post laidOut (by kernel_rfl) rfl (by kernel_rfl) rfl ⟨rfl, rfl, rfl⟩ hW' hc.below⟩

theorem over : Rows.lockSaysRow.holds Try.pinned (OpenSpec.ofChange Rows.lockSaysSpec) :=
  OpenClaim.holds_of_wide 3 Try.f3 rfl rfl rfl rfl rfl rfl rfl ⟨rfl, rfl, rfl, rfl, rfl⟩ rfl rfl rfl rfl rfl (by kernel_rfl) Try.func3 (by kernel_rfl)
    (of_decide_eq_true (by kernel_rfl)) (by unfold Func.isWrapper; first | (rw [if_pos (by decide +kernel)]; kernel_rfl) | (rw [if_neg (by decide +kernel)]; exact ⟨rfl, rfl⟩))
    (fun os started H enc _ => lifted os started H enc)

theorem proved : Rows.LockSaysSaid :=
  over
#print axioms proved
end Go.Proofs.Ytgkdimboofglfaa.lockSays
