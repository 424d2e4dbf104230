/-
  Package sect: whatever is done to a disk, all calls answer what the document says.
  Conditions: none.
-/
import Derived.Test.YtjbajaofdgalfaaRows
import Derived.Test.YtjbajaofdgalfaaScW
import Derived.Test.YtjbajaofdgalfaaScL
import Derived.Test.YtjbajaofdgalfaaZ
import Derived.Test.YtjbajaofdgalfaaSectJ
import Derived.WalkKit
import Derived.ProofKit
import Derived.OpenShut
import Derived.SizedLaws
namespace Go.Proofs.Ytjbajaofdgalfaa.sectPlays
open Go.ChangeShapes Go.WideShapes Go.ChangeAt Go.RowKit Go.S Go.Proofs.Ytjbajaofdgalfaa
set_option linter.unusedVariables false

theorem own : ownKnob Try.prog.godebug = none := by kernel_rfl
set_option maxRecDepth 100000 in
theorem laidOut : laidOutB Try.prog = true := by kernel_rfl

theorem exists_zr {α : Type} {row : α → List Value → List Value} {sds : α → List Value → List Sd} {T : Sd → Prop} {Q : α → Prop} : ∀ {rows : List (List Value)}, (∀ r ∈ rows, ∃ x vs, r = row x vs ∧ (∀ d ∈ sds x vs, T d) ∧ Q x) →
    ∃ (l : List α) (q : Nat → List Value), rows = zr row q l ∧ (∀ d ∈ zs sds q l, T d) ∧ ∀ x ∈ l, Q x
  | [], _ => ⟨[], fun _ => [], rfl, by simp [zs], by simp⟩
  | r :: rows, h => by
    obtain ⟨x, vs, hr, ht, hq⟩ := h r (by simp)
    obtain ⟨l, q, h1, h2, h3⟩ := exists_zr (fun r hr => h r (by simp [hr]) : ∀ r ∈ rows, ∃ x vs, r = row x vs ∧ (∀ d ∈ sds x vs, T d) ∧ Q x)
    refine ⟨x :: l, fun i => match i with | 0 => vs | i + 1 => q i, ?_, ?_, ?_⟩
    · rw [hr, h1]; rfl
    · intro d hd
      simp only [zs, List.mem_append] at hd
      rcases hd with hd | hd
      · exact ht d hd
      · exact h2 d hd
    · intro y hy
      rcases List.mem_cons.1 hy with rfl | hy
      · exact hq
      · exact h3 y hy
set_option maxRecDepth 100000 in
theorem deeds {w : World} {cs : List Value} (h : Rz Try.prog w 22 cs) : ∃ (v : Value) (l : List TDeed) (q : Nat → List Value), cs = [v] ∧ At w v 4 (zr TDeed.rowv q l) ∧ (∀ d ∈ zs TDeed.sds q l, At w d.v d.k d.rows) ∧ l.length ≤ 2513169434916 ∧ ∀ d ∈ l, d.N ≤ 9223372036854775807 := by
  obtain ⟨v, rows, rfl, hat, hr, hl⟩ := h.slice (k := 4) Try.underlying22 (by kernel_rfl)
  obtain ⟨l, q, rfl, h2, h3⟩ := exists_zr (row := TDeed.rowv) (sds := TDeed.sds) (T := fun d => At w d.v d.k d.rows) (Q := fun d => d.N ≤ 9223372036854775807) (rows := rows) (fun r hrm => by
    have hR := hr r hrm
    obtain ⟨r0, r1, r2, r3, rfl⟩ := len4 ((hR.rd.struct Try.underlying32).1.trans (by kernel_rfl))
    have h0 := hR.fld Try.underlying32 0 3 0 1 rfl (by kernel_rfl)
    have h1 := hR.fld Try.underlying32 1 3 1 1 rfl (by kernel_rfl)
    have h2 := hR.fld Try.underlying32 2 9 2 1 rfl (by kernel_rfl)
    have h3 := hR.fld Try.underlying32 3 30 3 1 rfl (by kernel_rfl)
    obtain ⟨a, ha, _⟩ := h0.rd.int (by kernel_rfl)
    obtain ⟨b, hb, wb⟩ := h1.rd.int (by kernel_rfl)
    obtain ⟨c, hc, _⟩ := h2.str (by kernel_rfl)
    obtain ⟨u, us, hu, hua, hur, _⟩ := h3.slice (k := 1) Try.underlying30 (by kernel_rfl)
    obtain ⟨k, rfl, _⟩ := exists_map (f := B) (Q := fun _ => True) (rows := us) (fun r hr' => by
      obtain ⟨x, hx⟩ := (hur r hr').rd.bool (by kernel_rfl)
      exact ⟨x, hx, trivial⟩)
    have e0 : r0 = .int .i64 a := (List.cons.inj ha).1
    have e1 : r1 = .int .i64 b := (List.cons.inj hb).1
    have e2 : r2 = st c := (List.cons.inj hc).1
    have e3 : r3 = u := (List.cons.inj hu).1
    refine ⟨⟨a, b, c, k⟩, [u], by rw [e0, e1, e2, e3]; rfl, ?_, ?_⟩
    · intro d hd
      simp only [TDeed.sds, List.mem_singleton] at hd
      subst hd
      exact hua
    · simp [Lit.wf, IntKind.min, IntKind.max, IntKind.signed, IntKind.bits] at wb
      show b ≤ 9223372036854775807
      omega)
  refine ⟨v, l, q, rfl, hat, h2, ?_, h3⟩
  rw [zr_length, show Try.prog.bytesOf 32 = 56 by kernel_rfl] at hl
  have : reachBytes = 140737488351232 := rfl
  omega

set_option maxRecDepth 100000 in
theorem lifted (os : Os) (started : os.Started) (H : Type) (enc : TypeId × Value → H) :
    ReturnsInHanded {} Try.checked os 3 .any (Rows.sectPlaysSpec.pre6 enc Try.prog Try.f3 Rows.sectPlaysRow.domain false) (Rows.sectPlaysSpec.post enc Try.prog Try.f3 false true false false) := by
  refine returnsInHanded_of_change_sized (C := Try.checked) own started (by kernel_rfl) Try.func3
    (ChangeSpec.witness6 (enc := enc) (C := Try.checked) false ⟨#[], #[.int .i64 0, .slice none 0 0], []⟩ 8 (by kernel_rfl) (by kernel_rfl) (by kernel_rfl) (by kernel_rfl)) ?_
  intro W base args ds gs before hval0 hW _ hz _
  have hW' := hW
  obtain ⟨p, q, hA0, hV, rfl, _, _⟩ := hW
  have hA : DataW.TrodAll enc Try.prog W 0 (fun _ => true) true Try.f3.params.toList args.toList ds p := hA0
  rw [Try.params3] at hA
  obtain ⟨v0, vs0, d0, ds0, p0, q0, hargs, rfl, rfl, h0, r0⟩ := trodAll_cons hA
  obtain ⟨v1, vs1, d1, ds1, p1, q1, rfl, rfl, rfl, h1, r1⟩ := trodAll_cons r0
  obtain ⟨rfl, rfl, rfl⟩ := trodAll_nil r1
  obtain rfl : args = #[v0, v1] := by cases args; simp_all
  obtain ⟨rfl, rfl⟩ := trodVars_none hV
  obtain ⟨n, rfl, rfl, rfl, _⟩ := open_int Try.underlying3 (hval0 0 3 v0 rfl rfl) h0
  obtain ⟨a, m, c, rfl⟩ := okWide_slice Try.underlying22 (hval0 1 22 v1 rfl rfl)
  obtain ⟨v, l, g, hv, hT, hD, hl, hN⟩ := deeds (Rz.of h1 hz 1 rfl rfl)
  obtain rfl : .slice a m c = v := (List.cons.inj hv).1
  clear hA0 hval0
  refine Calls.mono (w3_quirlaw_SectPlays n l (.slice a m c) g W true (sect_true n l hl hN) hT hD) ?_
  rintro e W' ⟨u, m, rfl, ⟨rfl, rfl⟩, hc⟩
  exact ⟨_, rfl, law_post laidOut (by kernel_rfl) rfl (by kernel_rfl) rfl ⟨rfl, rfl, rfl⟩ hW' hc.below⟩

theorem over : Rows.sectPlaysRow.holds Try.pinned (OpenSpec.ofChange Rows.sectPlaysSpec) :=
  OpenClaim.holds_of_wide 3 Try.f3 rfl rfl rfl rfl rfl rfl rfl ⟨rfl, rfl, rfl, rfl, rfl⟩ rfl rfl rfl rfl rfl (by kernel_rfl) Try.func3 closed
    (of_decide_eq_true (by kernel_rfl)) (by unfold Func.isWrapper; first | (rw [if_pos (by decide +kernel)]; kernel_rfl) | (rw [if_neg (by decide +kernel)]; exact ⟨rfl, rfl⟩))
    (fun os started H enc _ => lifted os started H enc)

theorem proved : Rows.SectPlaysSaid :=
  over
#print axioms proved
end Go.Proofs.Ytjbajaofdgalfaa.sectPlays
