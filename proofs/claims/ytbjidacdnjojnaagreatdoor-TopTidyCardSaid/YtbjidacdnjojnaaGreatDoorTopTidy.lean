import Derived.Test.YtbjidacdnjojnaaGreatDoorRows
import Derived.Test.YtbjidacdnjojnaaGreatDoorCards
import Derived.Test.YtbjidacdnjojnaaGreatDoorTie
import Derived.Test.YtbjidacdnjojnaaGreatDoorToW
import Derived.Test.YtbjidacdnjojnaaGreatDoorZm
import Derived.WalkKit
import Derived.ProofKit
import Derived.OpenShut
import Derived.SizedLaws
import Derived.LaidMore
import Derived.Lay
import Derived.SevenTiedAt
import Derived.Stop.Joined

namespace Go.Proofs.YtbjidacdnjojnaaGreatDoor.topTidy
open Go.ChangeShapes Go.WideShapes Go.ChangeAt Go.RowKit Go.S Go.Proofs.YtbjidacdnjojnaaGreatDoor
set_option linter.unusedVariables false

theorem own : ownKnob Tryz.prog.godebug = none := by kernel_rfl
set_option maxRecDepth 100000 in
theorem qhA : laidOutB Tryz.prog = true := by kernel_rfl

theorem y3 {α : Type} {row : α → List Value → List Value} {sds : α → List Value → List Sd} {T : Sd → Prop} {Q : α → Prop} : ∀ {rows : List (List Value)}, (∀ r ∈ rows, ∃ x vs, r = row x vs ∧ (∀ d ∈ sds x vs, T d) ∧ Q x) →
    ∃ (l : List α) (q : Nat → List Value), rows = zr row q l ∧ (∀ d ∈ zs sds q l, T d) ∧ ∀ x ∈ l, Q x
  | [], _ => ⟨[], fun _ => [], rfl, by simp [zs], by simp⟩
  | r :: rows, h => by
    obtain ⟨x, vs, hr, ht, hq⟩ := h r (by simp)
    obtain ⟨l, q, h1, h2, h3⟩ := y3 (fun r hr => h r (by simp [hr]) : ∀ r ∈ rows, ∃ x vs, r = row x vs ∧ (∀ d ∈ sds x vs, T d) ∧ Q x)
    refine ⟨x :: l, fun i => match i with | 0 => vs | i + 1 => q i, ?_, ?_, ?_⟩
    · rw [hr, h1]; rfl
    · intro d hd
      simp only [zs, List.mem_append] at hd
      rcases hd with hd | hd
      · exact ht d hd
      · exact h2 d hd
    · intro y hy
      rcases List.mem_cons.1 hy with rfl | hy
      · exact hq
      · exact h3 y hy
set_option maxRecDepth 100000 in
theorem qgG {w : World} {cs : List Value} (h : Rz Tryz.prog w 35 cs) : ∃ (v : Value) (l : List Bool), cs = [v] ∧ At w v 1 (l.map B) := by
  obtain ⟨v, rows, rfl, hat, hr, _⟩ := h.slice (k := 1) Tryz.underlying35 (by kernel_rfl)
  obtain ⟨k, rfl, _⟩ := jR (f := B) (Q := fun _ => True) (rows := rows) (fun r hr' => by
    obtain ⟨x, hx⟩ := (hr r hr').rd.bool (by kernel_rfl)
    exact ⟨x, hx, trivial⟩)
  exact ⟨v, k, rfl, hat⟩
set_option maxRecDepth 100000 in
theorem qhZ {w : World} {cs : List Value} (h : Rz Tryz.prog w 22 cs) : ∃ (v : Value) (l : List TDeed) (q : Nat → List Value), cs = [v] ∧ At w v 6 (zr TDeed.rowv q l) ∧ (∀ d ∈ zs TDeed.sds q l, At w d.v d.k d.rows) ∧ l.length ≤ 5000000000000 := by
  obtain ⟨v, rows, rfl, hat, hr, hl⟩ := h.slice (k := 6) Tryz.underlying22 (by kernel_rfl)
  obtain ⟨l, q, rfl, h2, _⟩ := y3 (row := TDeed.rowv) (sds := TDeed.sds) (T := fun d => At w d.v d.k d.rows) (Q := fun _ => True) (rows := rows) (fun r hrm => by
    have hR := hr r hrm
    obtain ⟨r0, r1, r2, r3, r4, r5, rfl⟩ := qkD ((hR.rd.struct Tryz.underlying37).1.trans (by kernel_rfl))
    have hw := hR.fld Tryz.underlying37 0 34 0 4 rfl (by kernel_rfl)
    have h4 := hR.fld Tryz.underlying37 1 3 4 1 rfl (by kernel_rfl)
    have h5 := hR.fld Tryz.underlying37 2 35 5 1 rfl (by kernel_rfl)
    have h0 := hw.fld Tryz.underlying34 0 3 0 1 rfl (by kernel_rfl)
    have h1 := hw.fld Tryz.underlying34 1 3 1 1 rfl (by kernel_rfl)
    have h2 := hw.fld Tryz.underlying34 2 3 2 1 rfl (by kernel_rfl)
    have h3 := hw.fld Tryz.underlying34 3 9 3 1 rfl (by kernel_rfl)
    obtain ⟨a, ha, _⟩ := h0.rd.int (by kernel_rfl)
    obtain ⟨b, hb, _⟩ := h1.rd.int (by kernel_rfl)
    obtain ⟨c, hc, _⟩ := h2.rd.int (by kernel_rfl)
    obtain ⟨t, ht, _⟩ := h3.str (by kernel_rfl)
    obtain ⟨f, hf, _⟩ := h4.rd.int (by kernel_rfl)
    obtain ⟨u, k, hu, hua⟩ := qgG h5
    have e0 : r0 = .int .i64 a := (List.cons.inj ha).1
    have e1 : r1 = .int .i64 b := (List.cons.inj hb).1
    have e2 : r2 = .int .i64 c := (List.cons.inj hc).1
    have e3 : r3 = st t := (List.cons.inj ht).1
    have e4 : r4 = .int .i64 f := (List.cons.inj hf).1
    have e5 : r5 = u := (List.cons.inj hu).1
    refine ⟨⟨⟨a, b, c, t⟩, f, k⟩, [u], by rw [e0, e1, e2, e3, e4, e5]; rfl, ?_, trivial⟩
    intro d hd
    simp only [TDeed.sds, List.mem_singleton] at hd
    subst hd
    exact hua)
  refine ⟨v, l, q, rfl, hat, h2, ?_⟩
  rw [xt, show Tryz.prog.bytesOf 37 = 72 by kernel_rfl] at hl
  have : reachBytes = 140737488351232 := rfl
  omega

set_option maxRecDepth 100000 in
theorem lifted (os : Os) (started : os.Started) (H : Type) (enc : TypeId × Value → H) :
    ReturnsInHanded {} Tryz.checked os 4 .any (fun w args => (Rows.topTidySpec.pre enc Tryz.prog Tryz.f4 Rows.topTidyRow.domain false w args ∧ laidMetH Tryz.prog Rows.topTidyRow.laid w) ∧ sizedMet enc Tryz.prog Tryz.f4 (OpenSpec.ofChange Rows.topTidySpec) false w args)
      (Rows.topTidySpec.post enc Tryz.prog Tryz.f4 false true false false) := by
  refine returnsInHanded_of_change_and (C := Tryz.checked) (X := fun w _ => laidMetH Tryz.prog Rows.topTidyRow.laid w) (fun _ _ _ hh h => h.of_heap hh) own started (by kernel_rfl) Tryz.func4
    (ChangeSpec.witness_shaped (enc := enc) (C := Tryz.checked) (os := os) (X := fun w _ => laidMetH Tryz.prog Rows.topTidyRow.laid w) false (World.laidAll Tryz.prog os Rows.topTidyRow.laid) #[.int .i64 0, .slice none 0 0, .int .i64 0, .slice none 0 0] 8 (World.laidAll_os _ _ _)
      (World.shaped_of_ZipB (by kernel_rfl) (by kernel_rfl)) (by kernel_rfl) (by kernel_rfl) (by kernel_rfl)
      (by rw [MakeChecks.laidMetH_plain _ _ _ (by kernel_rfl)]; exact laidMet_laidAll _ (by kernel_rfl) (by kernel_rfl))) ?_
  intro W base args ds gs before hval0 hW _ hz hL _
  have hW' := hW
  obtain ⟨p, q, hA0, hV, rfl, _, _⟩ := hW
  have hA : DataW.TrodAll enc Tryz.prog W 0 (fun _ => true) true Tryz.f4.params.toList args.toList ds p := hA0
  rw [Tryz.params4] at hA
  obtain ⟨v0, vs0, d0, ds0, p0, q0, hargs, rfl, rfl, h0, r0⟩ := trodAll_cons hA
  obtain ⟨v1, vs1, d1, ds1, p1, q1, rfl, rfl, rfl, h1, r1⟩ := trodAll_cons r0
  obtain ⟨v2, vs2, d2, ds2, p2, q2, rfl, rfl, rfl, h2, r2⟩ := trodAll_cons r1
  obtain ⟨v3, vs3, d3, ds3, p3, q3, rfl, rfl, rfl, h3, r3⟩ := trodAll_cons r2
  obtain ⟨rfl, rfl, rfl⟩ := trodAll_nil r3
  obtain rfl : args = #[v0, v1, v2, v3] := by cases args; simp_all
  obtain ⟨rfl, rfl⟩ := trodVars_none hV
  obtain ⟨n0, rfl, rfl, rfl, wf0⟩ := open_int Tryz.underlying3 (hval0 0 3 v0 rfl rfl) h0
  obtain ⟨a, m, c, rfl⟩ := okWide_slice Tryz.underlying22 (hval0 1 22 v1 rfl rfl)
  obtain ⟨v, l, g, hv, hT, hD, hl⟩ := qhZ (Rz.of h1 hz 1 rfl rfl)
  obtain rfl : .slice a m c = v := (List.cons.inj hv).1
  obtain ⟨n2, rfl, rfl, rfl, wf2⟩ := open_int Tryz.underlying3 (hval0 2 3 v2 rfl rfl) h2
  obtain ⟨a', m', c', rfl⟩ := okWide_slice Tryz.underlying35 (hval0 3 35 v3 rfl rfl)
  obtain ⟨v', l', hv', hT'⟩ := qgG (Rz.of h3 hz 3 rfl rfl)
  obtain rfl : .slice a' m' c' = v' := (List.cons.inj hv').1
  clear hA0 hval0
  have hfuse : n2 ≤ 9223372036854775807 := by
    simp [Lit.wf, IntKind.min, IntKind.max, IntKind.signed, IntKind.bits] at wf2
    omega
  refine Calls.mono (W4 n0 l n2 l' (.slice a m c) g (.slice a' m' c') W true (qdm n0 l n2 l' hl hfuse) hT hD hT') ?_
  rintro e W' ⟨u, m, rfl, ⟨rfl, rfl⟩, hc⟩
  exact ⟨_, rfl, qfA qhA (by kernel_rfl) rfl (by kernel_rfl) rfl ⟨rfl, rfl, rfl⟩ hW' hc.below⟩

theorem over : Rows.topTidyRow.holds Tryz.pinned (OpenSpec.ofChange Rows.topTidySpec) :=
  OpenClaim.holds_of_wide 4 Tryz.f4 rfl rfl rfl rfl rfl rfl rfl ⟨rfl, rfl, rfl, rfl, rfl⟩ rfl rfl rfl rfl rfl (by kernel_rfl) Tryz.func4 closed
    (of_decide_eq_true (by kernel_rfl)) (by unfold Func.isWrapper; first | (rw [if_pos (by decide +kernel)]; kernel_rfl) | (rw [if_neg (by decide +kernel)]; exact ⟨rfl, rfl⟩))
    (fun os started H enc _ => lifted os started H enc)

theorem proved : Rows.TopTidyCardSaid :=
  Claim7.holds_tied_plain_at .later [] [.data, .pinned] true (true, "843512326b5c4f6d652838620b47072379d04d2c502330c0e5a7ee784215328f") false over (fun _ h => by cases h) (by kernel_rfl) (fun _ h => by cases h) topTidy_row_tie rfl ⟨rfl, rfl⟩ (by kernel_rfl) rfl
    (fun f fn hf hfn => by
      obtain rfl : f = 4 := Option.some.inj ((show Tryz.prog.funcNamed "quirestock/quirtop.TopTidy" = some 4 by kernel_rfl).symm.trans hf) |>.symm
      obtain rfl : fn = Tryz.f4 := (Option.some.inj (Tryz.func4.symm.trans hfn)).symm
      exact ⟨by kernel_rfl, fun j t ht => by
        rw [Tryz.params4] at ht
        have hm : t ∈ [3, 22, 35] := by
          have := Array.mem_of_getElem? ht
          simp only [List.mem_toArray, List.mem_cons, List.not_mem_nil, or_false] at this ⊢
          first | omega | (rcases this with h | h | h | h <;> simp [h]) | (rcases this with h | h | h <;> simp [h]) | skip
        have hall : ([3, 22, 35].all fun u => !Tryz.prog.wantsStandIn u) = true := by kernel_rfl
        exact (show Tryz.prog.wantsStandIn t = false by simpa using List.all_eq_true.1 hall t hm)⟩)
    (by kernel_rfl)
#print axioms proved
end Go.Proofs.YtbjidacdnjojnaaGreatDoor.topTidy
