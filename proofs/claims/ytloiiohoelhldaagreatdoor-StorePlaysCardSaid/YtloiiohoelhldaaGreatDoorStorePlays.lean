import Derived.Test.YtloiiohoelhldaaGreatDoorRows
import Derived.Test.YtloiiohoelhldaaGreatDoorCards
import Derived.Test.YtloiiohoelhldaaGreatDoorTie
import Derived.Test.YtloiiohoelhldaaGreatDoorSpW
import Derived.Test.YtloiiohoelhldaaGreatDoorZr
import Derived.WalkKit
import Derived.ProofKit
import Derived.OpenShut
import Derived.SizedLaws
import Derived.LaidMore
import Derived.Lay
import Derived.SevenTiedAt
import Derived.Stop.Joined
set_option maxRecDepth 100000
set_option maxHeartbeats 8000000

namespace Go.Proofs.YtloiiohoelhldaaGreatDoor.storePlays
open Go.ChangeShapes Go.WideShapes Go.ChangeAt Go.RowKit Go.S Go.Proofs.YtloiiohoelhldaaGreatDoor
set_option linter.unusedVariables false

theorem own : ownKnob Tryz.prog.godebug = none := by kernel_rfl
theorem qkR : laidOutB Tryz.prog = true := by kernel_rfl

theorem qcR {α : Type} {row : α → List Value → List Value} {sds : α → List Value → List Sd} {T : Sd → Prop} {Q : α → Prop} : ∀ {rows : List (List Value)}, (∀ r ∈ rows, ∃ x vs, r = row x vs ∧ (∀ d ∈ sds x vs, T d) ∧ Q x) →
    ∃ (l : List α) (q : Nat → List Value), rows = zr row q l ∧ (∀ d ∈ zs sds q l, T d) ∧ ∀ x ∈ l, Q x
  | [], _ => ⟨[], fun _ => [], rfl, by simp [zs], by simp⟩
  | r :: rows, h => by
    obtain ⟨x, vs, hr, ht, hq⟩ := h r (by simp)
    obtain ⟨l, q, h1, h2, h3⟩ := qcR (fun r hr => h r (by simp [hr]) : ∀ r ∈ rows, ∃ x vs, r = row x vs ∧ (∀ d ∈ sds x vs, T d) ∧ Q x)
    refine ⟨x :: l, fun i => match i with | 0 => vs | i + 1 => q i, ?_, ?_, ?_⟩
    · rw [hr, h1]; rfl
    · intro d hd
      simp only [zs, List.mem_append] at hd
      rcases hd with hd | hd
      · exact ht d hd
      · exact h2 d hd
    · intro y hy
      rcases List.mem_cons.1 hy with rfl | hy
      · exact hq
      · exact h3 y hy
theorem qk7 {w : World} {cs : List Value} (h : Rz Tryz.prog w 22 cs) : ∃ (v : Value) (l : List TStoreDeed) (q : Nat → List Value), cs = [v] ∧ At w v 6 (zr TStoreDeed.rowv q l) ∧ (∀ d ∈ zs TStoreDeed.sds q l, At w d.v d.k d.rows) ∧ l.length ≤ 2513169434000 ∧ ∀ d ∈ l, d.Fuse ≤ 9223372036854775807 := by
  obtain ⟨v, rows, rfl, hat, hr, hl⟩ := h.slice (k := 6) Tryz.underlying22 (by kernel_rfl)
  obtain ⟨l, q, rfl, h2, h3⟩ := qcR (row := TStoreDeed.rowv) (sds := TStoreDeed.sds) (T := fun d => At w d.v d.k d.rows) (Q := fun d => d.Fuse ≤ 9223372036854775807) (rows := rows) (fun r hrm => by
    have hR := hr r hrm
    obtain ⟨r0, r1, r2, r3, r4, r5, rfl⟩ := qoo ((hR.rd.struct Tryz.underlying39).1.trans (by kernel_rfl))
    have hW := hR.fld Tryz.underlying39 0 36 0 4 rfl (by kernel_rfl)
    have h0 := hW.fld Tryz.underlying36 0 3 0 1 rfl (by kernel_rfl)
    have h1 := hW.fld Tryz.underlying36 1 3 1 1 rfl (by kernel_rfl)
    have h2 := hW.fld Tryz.underlying36 2 3 2 1 rfl (by kernel_rfl)
    have h3 := hW.fld Tryz.underlying36 3 9 3 1 rfl (by kernel_rfl)
    have h4 := hR.fld Tryz.underlying39 1 3 4 1 rfl (by kernel_rfl)
    have h5 := hR.fld Tryz.underlying39 2 37 5 1 rfl (by kernel_rfl)
    obtain ⟨a, ha, _⟩ := h0.rd.int (by kernel_rfl)
    obtain ⟨b, hb, _⟩ := h1.rd.int (by kernel_rfl)
    obtain ⟨c, hc, _⟩ := h2.rd.int (by kernel_rfl)
    obtain ⟨e, he, _⟩ := h3.str (by kernel_rfl)
    obtain ⟨f, hf, wf⟩ := h4.rd.int (by kernel_rfl)
    obtain ⟨u, us, hu, hua, hur, _⟩ := h5.slice (k := 1) Tryz.underlying37 (by kernel_rfl)
    obtain ⟨k, rfl, _⟩ := ws (f := B) (Q := fun _ => True) (rows := us) (fun r hr' => by
      obtain ⟨x, hx⟩ := (hur r hr').rd.bool (by kernel_rfl)
      exact ⟨x, hx, trivial⟩)
    have e0 : r0 = .int .i64 a := (List.cons.inj ha).1
    have e1 : r1 = .int .i64 b := (List.cons.inj hb).1
    have e2 : r2 = .int .i64 c := (List.cons.inj hc).1
    have e3 : r3 = st e := (List.cons.inj he).1
    have e4 : r4 = .int .i64 f := (List.cons.inj hf).1
    have e5 : r5 = u := (List.cons.inj hu).1
    refine ⟨⟨⟨a, b, c, e⟩, f, k⟩, [u], by rw [e0, e1, e2, e3, e4, e5]; rfl, ?_, ?_⟩
    · intro d hd
      simp only [TStoreDeed.sds, List.mem_singleton] at hd
      subst hd
      exact hua
    · simp [Lit.wf, IntKind.min, IntKind.max, IntKind.signed, IntKind.bits] at wf
      show f ≤ 9223372036854775807
      omega)
  refine ⟨v, l, q, rfl, hat, h2, ?_, h3⟩
  rw [jm, show Tryz.prog.bytesOf 39 = 72 by kernel_rfl] at hl
  have : reachBytes = 140737488351232 := rfl
  omega

theorem lifted (os : Os) (started : os.Started) (H : Type) (enc : TypeId × Value → H) :
    ReturnsInHanded {} Tryz.checked os 3 .any (fun w args => (Rows.storePlaysSpec.pre enc Tryz.prog Tryz.f3 Rows.storePlaysRow.domain false w args ∧ laidMetH Tryz.prog Rows.storePlaysRow.laid w) ∧ sizedMet enc Tryz.prog Tryz.f3 (OpenSpec.ofChange Rows.storePlaysSpec) false w args)
      (Rows.storePlaysSpec.post enc Tryz.prog Tryz.f3 false true false false) := by
  refine returnsInHanded_of_change_and (C := Tryz.checked) (X := fun w _ => laidMetH Tryz.prog Rows.storePlaysRow.laid w) (fun _ _ _ hh h => h.of_heap hh) own started (by kernel_rfl) Tryz.func3
    (ChangeSpec.witness_shaped (enc := enc) (C := Tryz.checked) (os := os) (X := fun w _ => laidMetH Tryz.prog Rows.storePlaysRow.laid w) false (World.laidAll Tryz.prog os Rows.storePlaysRow.laid) #[.int .i64 0, .slice none 0 0] 8 (World.laidAll_os _ _ _)
      (World.shaped_of_ZipB (by kernel_rfl) (by kernel_rfl)) (by kernel_rfl) (by kernel_rfl) (by kernel_rfl)
      (by rw [MakeChecks.laidMetH_plain _ _ _ (by kernel_rfl)]; exact laidMet_laidAll _ (by kernel_rfl) (by kernel_rfl))) ?_
  intro W base args ds gs before hval0 hW _ hz hL _
  have hW' := hW
  obtain ⟨p, q, hA0, hV, rfl, _, _⟩ := hW
  have hA : DataW.TrodAll enc Tryz.prog W 0 (fun _ => true) true Tryz.f3.params.toList args.toList ds p := hA0
  rw [Tryz.params3] at hA
  obtain ⟨v0, vs0, d0, ds0, p0, q0, hargs, rfl, rfl, h0, r0⟩ := trodAll_cons hA
  obtain ⟨v1, vs1, d1, ds1, p1, q1, rfl, rfl, rfl, h1, r1⟩ := trodAll_cons r0
  obtain ⟨rfl, rfl, rfl⟩ := trodAll_nil r1
  obtain rfl : args = #[v0, v1] := by cases args; simp_all
  obtain ⟨rfl, rfl⟩ := trodVars_none hV
  obtain ⟨n0, rfl, rfl, rfl, _⟩ := open_int Tryz.underlying3 (hval0 0 3 v0 rfl rfl) h0
  obtain ⟨a, m, c, rfl⟩ := okWide_slice Tryz.underlying22 (hval0 1 22 v1 rfl rfl)
  obtain ⟨v, l, g, hv, hT, hD, hl, hN⟩ := qk7 (Rz.of h1 hz 1 rfl rfl)
  obtain rfl : .slice a m c = v := (List.cons.inj hv).1
  clear hA0 hval0
  refine Calls.mono (W3 (qnk n0 l hN hl) hT hD) ?_
  rintro e W' ⟨u, m, rfl, ⟨rfl, rfl⟩, hc⟩
  exact ⟨_, rfl, qiR qkR (by kernel_rfl) rfl (by kernel_rfl) rfl ⟨rfl, rfl, rfl⟩ hW' hc.below⟩

theorem over : Rows.storePlaysRow.holds Tryz.pinned (OpenSpec.ofChange Rows.storePlaysSpec) :=
  OpenClaim.holds_of_wide 3 Tryz.f3 rfl rfl rfl rfl rfl rfl rfl ⟨rfl, rfl, rfl, rfl, rfl⟩ rfl rfl rfl rfl rfl (by kernel_rfl) Tryz.func3 closed
    (of_decide_eq_true (by kernel_rfl)) (by unfold Func.isWrapper; first | (rw [if_pos (by decide +kernel)]; kernel_rfl) | (rw [if_neg (by decide +kernel)]; exact ⟨rfl, rfl⟩))
    (fun os started H enc _ => lifted os started H enc)

theorem proved : Rows.StorePlaysCardSaid :=
  Claim7.holds_tied_plain_at .later [] [.data, .pinned] true (true, "70e2971b30429c82b2fee8b3f926c90f65e9b1cf272bbf553e384bbbefc5002b") false over (fun _ h => by cases h) (by kernel_rfl) (fun _ h => by cases h) storePlays_row_tie rfl ⟨rfl, rfl⟩ (by kernel_rfl) rfl
    (fun f fn hf hfn => by
      obtain rfl : f = 3 := Option.some.inj ((show Tryz.prog.funcNamed "quirestock/quirlaw.StorePlays" = some 3 by kernel_rfl).symm.trans hf) |>.symm
      obtain rfl : fn = Tryz.f3 := (Option.some.inj (Tryz.func3.symm.trans hfn)).symm
      exact ⟨by kernel_rfl, fun j t ht => by
        rw [Tryz.params3] at ht
        have hm : t ∈ [3, 22] := by
          have := Array.mem_of_getElem? ht
          simp at this ⊢
          omega
        have hall : ([3, 22].all fun u => !Tryz.prog.wantsStandIn u) = true := by kernel_rfl
        exact (show Tryz.prog.wantsStandIn t = false by simpa using List.all_eq_true.1 hall t hm)⟩)
    (by kernel_rfl)
#print axioms proved
end Go.Proofs.YtloiiohoelhldaaGreatDoor.storePlays
