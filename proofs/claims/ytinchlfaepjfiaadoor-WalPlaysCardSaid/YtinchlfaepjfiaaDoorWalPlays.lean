/-
  WalPlays: whatever is appended, whatever falls, all calls answer what the document says: the row, and the tied card.
  Conditions: none of ours (the row lists two tables of Go's library; the card ties them to the program's text).
-/
import Derived.Test.YtinchlfaepjfiaaDoorRows
import Derived.Test.YtinchlfaepjfiaaDoorCards
import Derived.Test.YtinchlfaepjfiaaDoorTie
import Derived.Test.YtinchlfaepjfiaaDoorWlW
import Derived.Test.YtinchlfaepjfiaaDoorWlH
import Derived.Test.YtinchlfaepjfiaaDoorZ
import Derived.Test.YtinchlfaepjfiaaDoorWalJ
import Derived.WalkKit
import Derived.ProofKit
import Derived.OpenShut
import Derived.SizedLaws
import Derived.LaidMore
import Derived.Lay
import Derived.SevenTiedAt
import Derived.Stop.Joined
namespace Go.Proofs.YtinchlfaepjfiaaDoor.walPlays
open Go.ChangeShapes Go.WideShapes Go.ChangeAt Go.RowKit Go.S Go.Proofs.YtinchlfaepjfiaaDoor
set_option linter.unusedVariables false

theorem own : ownKnob Tryd.prog.godebug = none := by kernel_rfl
set_option maxRecDepth 100000 in
theorem laidOut : laidOutB Tryd.prog = true := by kernel_rfl

theorem exists_zr {α : Type} {row : α → List Value → List Value} {sds : α → List Value → List Sd} {T : Sd → Prop} {Q : α → Prop} : ∀ {rows : List (List Value)}, (∀ r ∈ rows, ∃ x vs, r = row x vs ∧ (∀ d ∈ sds x vs, T d) ∧ Q x) →
    ∃ (l : List α) (q : Nat → List Value), rows = zr row q l ∧ (∀ d ∈ zs sds q l, T d) ∧ ∀ x ∈ l, Q x
  | [], _ => ⟨[], fun _ => [], rfl, by simp [zs], by simp⟩
  | r :: rows, h => by
    obtain ⟨x, vs, hr, ht, hq⟩ := h r (by simp)
    obtain ⟨l, q, h1, h2, h3⟩ := exists_zr (fun r hr => h r (by simp [hr]) : ∀ r ∈ rows, ∃ x vs, r = row x vs ∧ (∀ d ∈ sds x vs, T d) ∧ Q x)
    refine ⟨x :: l, fun i => match i with | 0 => vs | i + 1 => q i, ?_, ?_, ?_⟩
    · rw [hr, h1]; rfl
    · intro d hd
      simp only [zs, List.mem_append] at hd
      rcases hd with hd | hd
      · exact ht d hd
      · exact h2 d hd
    · intro y hy
      rcases List.mem_cons.1 hy with rfl | hy
      · exact hq
      · exact h3 y hy
set_option maxRecDepth 100000 in
theorem deedsOf {w : World} {cs : List Value} (h : Rz Tryd.prog w 22 cs) : ∃ (v : Value) (l : List TDeed) (q : Nat → List Value), cs = [v] ∧ At w v 4 (zr TDeed.rowv q l) ∧ (∀ d ∈ zs TDeed.sds q l, At w d.v d.k d.rows) ∧ l.length ≤ 2513169434916 ∧ ∀ d ∈ l, d.N ≤ 9223372036854775807 := by
  obtain ⟨v, rows, rfl, hat, hr, hl⟩ := h.slice (k := 4) Tryd.underlying22 (by kernel_rfl)
  obtain ⟨l, q, rfl, h2, h3⟩ := exists_zr (row := TDeed.rowv) (sds := TDeed.sds) (T := fun d => At w d.v d.k d.rows) (Q := fun d => d.N ≤ 9223372036854775807) (rows := rows) (fun r hrm => by
    have hR := hr r hrm
    obtain ⟨r0, r1, r2, r3, rfl⟩ := len4 ((hR.rd.struct Tryd.underlying39).1.trans (by kernel_rfl))
    have h0 := hR.fld Tryd.underlying39 0 3 0 1 rfl (by kernel_rfl)
    have h1 := hR.fld Tryd.underlying39 1 3 1 1 rfl (by kernel_rfl)
    have h2 := hR.fld Tryd.underlying39 2 9 2 1 rfl (by kernel_rfl)
    have h3 := hR.fld Tryd.underlying39 3 37 3 1 rfl (by kernel_rfl)
    obtain ⟨a, ha, _⟩ := h0.rd.int (by kernel_rfl)
    obtain ⟨b, hb, wb⟩ := h1.rd.int (by kernel_rfl)
    obtain ⟨c, hc, _⟩ := h2.str (by kernel_rfl)
    obtain ⟨u, us, hu, hua, hur, _⟩ := h3.slice (k := 1) Tryd.underlying37 (by kernel_rfl)
    obtain ⟨k, rfl, _⟩ := exists_map (f := B) (Q := fun _ => True) (rows := us) (fun r hr' => by
      obtain ⟨x, hx⟩ := (hur r hr').rd.bool (by kernel_rfl)
      exact ⟨x, hx, trivial⟩)
    have e0 : r0 = .int .i64 a := (List.cons.inj ha).1
    have e1 : r1 = .int .i64 b := (List.cons.inj hb).1
    have e2 : r2 = st c := (List.cons.inj hc).1
    have e3 : r3 = u := (List.cons.inj hu).1
    refine ⟨⟨a, b, c, k⟩, [u], by rw [e0, e1, e2, e3]; rfl, ?_, ?_⟩
    · intro d hd
      simp only [TDeed.sds, List.mem_singleton] at hd
      subst hd
      exact hua
    · simp [Lit.wf, IntKind.min, IntKind.max, IntKind.signed, IntKind.bits] at wb
      show b ≤ 9223372036854775807
      omega)
  refine ⟨v, l, q, rfl, hat, h2, ?_, h3⟩
  rw [zr_length, show Tryd.prog.bytesOf 39 = 56 by kernel_rfl] at hl
  have : reachBytes = 140737488351232 := rfl
  omega

set_option maxRecDepth 100000 in
theorem lifted (os : Os) (started : os.Started) (H : Type) (enc : TypeId × Value → H) :
    ReturnsInHanded {} Tryd.checked os 3 .any (fun w args => (Rows.walPlaysSpec.pre enc Tryd.prog Tryd.f3 Rows.walPlaysRow.domain false w args ∧ laidMetH Tryd.prog Rows.walPlaysRow.laid w) ∧ sizedMet enc Tryd.prog Tryd.f3 (OpenSpec.ofChange Rows.walPlaysSpec) false w args)
      (Rows.walPlaysSpec.post enc Tryd.prog Tryd.f3 false true false false) := by
  refine returnsInHanded_of_change_and (C := Tryd.checked) (X := fun w _ => laidMetH Tryd.prog Rows.walPlaysRow.laid w) (fun _ _ _ hh h => h.of_heap hh) own started (by kernel_rfl) Tryd.func3
    (ChangeSpec.witness_shaped (enc := enc) (C := Tryd.checked) (os := os) (X := fun w _ => laidMetH Tryd.prog Rows.walPlaysRow.laid w) false (World.laidAll Tryd.prog os Rows.walPlaysRow.laid) #[.int .i64 0, .int .i64 0, .int .i64 0, .slice none 0 0] 8 (World.laidAll_os _ _ _)
      (World.shaped_of_ZipB (by kernel_rfl) (by kernel_rfl)) (by kernel_rfl) (by kernel_rfl) (by kernel_rfl)
      (by rw [MakeChecks.laidMetH_plain _ _ _ (by kernel_rfl)]; exact laidMet_laidAll _ (by kernel_rfl) (by kernel_rfl))) ?_
  intro W base args ds gs before hval0 hW _ hz hL _
  have hW' := hW
  obtain ⟨p, q, hA0, hV, rfl, _, _⟩ := hW
  have hA : DataW.TrodAll enc Tryd.prog W 0 (fun _ => true) true Tryd.f3.params.toList args.toList ds p := hA0
  rw [Tryd.params3] at hA
  obtain ⟨v0, vs0, d0, ds0, p0, q0, hargs, rfl, rfl, h0, r0⟩ := trodAll_cons hA
  obtain ⟨v1, vs1, d1, ds1, p1, q1, rfl, rfl, rfl, h1, r1⟩ := trodAll_cons r0
  obtain ⟨v2, vs2, d2, ds2, p2, q2, rfl, rfl, rfl, h2, r2⟩ := trodAll_cons r1
  obtain ⟨v3, vs3, d3, ds3, p3, q3, rfl, rfl, rfl, h3, r3⟩ := trodAll_cons r2
  obtain ⟨rfl, rfl, rfl⟩ := trodAll_nil r3
  obtain rfl : args = #[v0, v1, v2, v3] := by cases args; simp_all
  obtain ⟨rfl, rfl⟩ := trodVars_none hV
  obtain ⟨n0, rfl, rfl, rfl, _⟩ := open_int Tryd.underlying3 (hval0 0 3 v0 rfl rfl) h0
  obtain ⟨n1, rfl, rfl, rfl, _⟩ := open_int Tryd.underlying3 (hval0 1 3 v1 rfl rfl) h1
  obtain ⟨n2, rfl, rfl, rfl, _⟩ := open_int Tryd.underlying3 (hval0 2 3 v2 rfl rfl) h2
  obtain ⟨a, m, c, rfl⟩ := okWide_slice Tryd.underlying22 (hval0 3 22 v3 rfl rfl)
  obtain ⟨v, l, g, hv, hT, hD, hl, hN⟩ := deedsOf (Rz.of h3 hz 3 rfl rfl)
  obtain rfl : .slice a m c = v := (List.cons.inj hv).1
  clear hA0 hval0
  refine Calls.mono (w3_quirlaw_WalPlays n0 n1 n2 l (.slice a m c) g W true (wal_true n0 n1 n2 l hl hN) hT hD) ?_
  rintro e W' ⟨u, m, rfl, ⟨rfl, rfl⟩, hc⟩
  exact ⟨_, rfl, law_post laidOut (by kernel_rfl) rfl (by kernel_rfl) rfl ⟨rfl, rfl, rfl⟩ hW' hc.below⟩

theorem over : Rows.walPlaysRow.holds Tryd.pinned (OpenSpec.ofChange Rows.walPlaysSpec) :=
  OpenClaim.holds_of_wide 3 Tryd.f3 rfl rfl rfl rfl rfl rfl rfl ⟨rfl, rfl, rfl, rfl, rfl⟩ rfl rfl rfl rfl rfl (by kernel_rfl) Tryd.func3 closed
    (of_decide_eq_true (by kernel_rfl)) (by unfold Func.isWrapper; first | (rw [if_pos (by decide +kernel)]; kernel_rfl) | (rw [if_neg (by decide +kernel)]; exact ⟨rfl, rfl⟩))
    (fun os started H enc _ => lifted os started H enc)

theorem proved : Rows.WalPlaysCardSaid :=
  Claim7.holds_tied_plain_at .later [] [.data, .pinned] true (true, "66ba8ad1e554fd96fd4833fd45c43aec260bfccf9eaf0400cccf36a36b42dd75") false over (fun _ h => by cases h) (by kernel_rfl) (fun _ h => by cases h) walPlays_row_tie rfl ⟨rfl, rfl⟩ (by kernel_rfl) rfl
    (fun f fn hf hfn => by
      obtain rfl : f = 3 := Option.some.inj ((show Tryd.prog.funcNamed "quirestock/quirlaw.WalPlays" = some 3 by kernel_rfl).symm.trans hf) |>.symm
      obtain rfl : fn = Tryd.f3 := (Option.some.inj (Tryd.func3.symm.trans hfn)).symm
      exact ⟨by kernel_rfl, fun j t ht => by
        rw [Tryd.params3] at ht
        have hm : t ∈ [3, 22] := by
          have := Array.mem_of_getElem? ht
          simp at this ⊢
          omega
        have hall : ([3, 22].all fun u => !Tryd.prog.wantsStandIn u) = true := by kernel_rfl
        exact (show Tryd.prog.wantsStandIn t = false by simpa using List.all_eq_true.1 hall t hm)⟩)
    (by kernel_rfl)
#print axioms proved
end Go.Proofs.YtinchlfaepjfiaaDoor.walPlays
