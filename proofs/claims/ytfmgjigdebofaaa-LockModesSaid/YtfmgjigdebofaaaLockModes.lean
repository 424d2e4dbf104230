/-
  'quirlaw.LockModes' returns true, whatever two modes are handed in.
  Conditions: none.
-/
import Derived.Test.YtfmgjigdebofaaaRows
import Derived.WalkKit
import Derived.ProofKit
import Derived.OpenShut
import Derived.Test.YtfmgjigdebofaaaEv
namespace Go.Proofs.Ytfmgjigdebofaaa.lockModes
open Go Go.ChangeShapes Go.WideShapes Go.ChangeAt Go.RowKit
set_option linter.unusedVariables false

theorem own : ownKnob Try.prog.godebug = none := by kernel_rfl

set_option maxRecDepth 100000 in
theorem run11 (w : World) : Ev.fn Try.prog 60 4 #[.int .i64 1, .int .i64 1] w = some (.bool true, w) := by kernel_rfl
set_option maxRecDepth 100000 in
theorem run12 (w : World) : Ev.fn Try.prog 60 4 #[.int .i64 1, .int .i64 2] w = some (.bool true, w) := by kernel_rfl
set_option maxRecDepth 100000 in
theorem run13 (w : World) : Ev.fn Try.prog 60 4 #[.int .i64 1, .int .i64 3] w = some (.bool true, w) := by kernel_rfl
set_option maxRecDepth 100000 in
theorem run14 (w : World) : Ev.fn Try.prog 60 4 #[.int .i64 1, .int .i64 4] w = some (.bool true, w) := by kernel_rfl
set_option maxRecDepth 100000 in
theorem run15 (w : World) : Ev.fn Try.prog 60 4 #[.int .i64 1, .int .i64 5] w = some (.bool true, w) := by kernel_rfl
set_option maxRecDepth 100000 in
theorem run21 (w : World) : Ev.fn Try.prog 60 4 #[.int .i64 2, .int .i64 1] w = some (.bool true, w) := by kernel_rfl
set_option maxRecDepth 100000 in
theorem run22 (w : World) : Ev.fn Try.prog 60 4 #[.int .i64 2, .int .i64 2] w = some (.bool true, w) := by kernel_rfl
set_option maxRecDepth 100000 in
theorem run23 (w : World) : Ev.fn Try.prog 60 4 #[.int .i64 2, .int .i64 3] w = some (.bool true, w) := by kernel_rfl
set_option maxRecDepth 100000 in
theorem run24 (w : World) : Ev.fn Try.prog 60 4 #[.int .i64 2, .int .i64 4] w = some (.bool true, w) := by kernel_rfl
set_option maxRecDepth 100000 in
theorem run25 (w : World) : Ev.fn Try.prog 60 4 #[.int .i64 2, .int .i64 5] w = some (.bool true, w) := by kernel_rfl
set_option maxRecDepth 100000 in
theorem run31 (w : World) : Ev.fn Try.prog 60 4 #[.int .i64 3, .int .i64 1] w = some (.bool true, w) := by kernel_rfl
set_option maxRecDepth 100000 in
theorem run32 (w : World) : Ev.fn Try.prog 60 4 #[.int .i64 3, .int .i64 2] w = some (.bool true, w) := by kernel_rfl
set_option maxRecDepth 100000 in
theorem run33 (w : World) : Ev.fn Try.prog 60 4 #[.int .i64 3, .int .i64 3] w = some (.bool true, w) := by kernel_rfl
set_option maxRecDepth 100000 in
theorem run34 (w : World) : Ev.fn Try.prog 60 4 #[.int .i64 3, .int .i64 4] w = some (.bool true, w) := by kernel_rfl
set_option maxRecDepth 100000 in
theorem run35 (w : World) : Ev.fn Try.prog 60 4 #[.int .i64 3, .int .i64 5] w = some (.bool true, w) := by kernel_rfl
set_option maxRecDepth 100000 in
theorem run41 (w : World) : Ev.fn Try.prog 60 4 #[.int .i64 4, .int .i64 1] w = some (.bool true, w) := by kernel_rfl
set_option maxRecDepth 100000 in
theorem run42 (w : World) : Ev.fn Try.prog 60 4 #[.int .i64 4, .int .i64 2] w = some (.bool true, w) := by kernel_rfl
set_option maxRecDepth 100000 in
theorem run43 (w : World) : Ev.fn Try.prog 60 4 #[.int .i64 4, .int .i64 3] w = some (.bool true, w) := by kernel_rfl
set_option maxRecDepth 100000 in
theorem run44 (w : World) : Ev.fn Try.prog 60 4 #[.int .i64 4, .int .i64 4] w = some (.bool true, w) := by kernel_rfl
set_option maxRecDepth 100000 in
theorem run45 (w : World) : Ev.fn Try.prog 60 4 #[.int .i64 4, .int .i64 5] w = some (.bool true, w) := by kernel_rfl
set_option maxRecDepth 100000 in
theorem run51 (w : World) : Ev.fn Try.prog 60 4 #[.int .i64 5, .int .i64 1] w = some (.bool true, w) := by kernel_rfl
set_option maxRecDepth 100000 in
theorem run52 (w : World) : Ev.fn Try.prog 60 4 #[.int .i64 5, .int .i64 2] w = some (.bool true, w) := by kernel_rfl
set_option maxRecDepth 100000 in
theorem run53 (w : World) : Ev.fn Try.prog 60 4 #[.int .i64 5, .int .i64 3] w = some (.bool true, w) := by kernel_rfl
set_option maxRecDepth 100000 in
theorem run54 (w : World) : Ev.fn Try.prog 60 4 #[.int .i64 5, .int .i64 4] w = some (.bool true, w) := by kernel_rfl
set_option maxRecDepth 100000 in
theorem run55 (w : World) : Ev.fn Try.prog 60 4 #[.int .i64 5, .int .i64 5] w = some (.bool true, w) := by kernel_rfl
theorem isMode_no (a : Int) (w : World) (h : a < 1 ∨ 5 < a) :
    Calls Try.prog 99 #[.int .i64 a] w fun e w' => e = .returned (.bool false) ∧ w = w' := by
  rcases h with h | h
  · go_enter Try.func99, Try.ntmps99
    go_wp2
    go_ret; exact ⟨rfl, rfl⟩
  · have h1 : 1 ≤ a := by omega
    have h2 : decide (a ≤ 5) = false := by simp; omega
    go_enter Try.func99, Try.ntmps99
    go_wp2
    go_ret; exact ⟨rfl, rfl⟩
theorem isMode_yes (a : Int) (w : World) (h1 : 1 ≤ a) (h2 : a ≤ 5) :
    Calls Try.prog 99 #[.int .i64 a] w fun e w' => e = .returned (.bool true) ∧ w = w' := by
  have h3 : decide (a ≤ 5) = true := by simp; omega
  go_enter Try.func99, Try.ntmps99
  go_wp2
  go_ret; exact ⟨rfl, rfl⟩
theorem fits_bad (a b : Int) (w : World) (h : (a < 1 ∨ 5 < a) ∨ (1 ≤ a ∧ a ≤ 5 ∧ (b < 1 ∨ 5 < b))) :
    Calls Try.prog 15 #[.int .i64 a, .int .i64 b] w fun e w' => e = .returned (.tuple #[.bool false, .int .i64 1]) ∧ w = w' := by
  rcases h with h | ⟨h1, h2, h⟩
  · go_enter Try.func15, Try.ntmps15
    go_wp2_with (go_at_call 99; refine (isMode_no _ _ h).mono ?_; rintro e w' ⟨rfl, rfl⟩)
    go_ret2; exact ⟨rfl, rfl⟩
  · go_enter Try.func15, Try.ntmps15
    go_wp2_with fail
    refine (isMode_yes _ _ h1 h2).mono ?_; rintro e w' ⟨rfl, rfl⟩
    go_wp2_with fail
    refine (isMode_no _ _ h).mono ?_; rintro e w' ⟨rfl, rfl⟩
    go_wp2_with fail
    go_ret2; exact ⟨rfl, rfl⟩
theorem join_bad (a b : Int) (w : World) (h : (a < 1 ∨ 5 < a) ∨ (1 ≤ a ∧ a ≤ 5 ∧ (b < 1 ∨ 5 < b))) :
    Calls Try.prog 16 #[.int .i64 a, .int .i64 b] w fun e w' => e = .returned (.tuple #[.int .i64 0, .int .i64 1]) ∧ w = w' := by
  rcases h with h | ⟨h1, h2, h⟩
  · go_enter Try.func16, Try.ntmps16
    go_wp2_with (go_at_call 99; refine (isMode_no _ _ h).mono ?_; rintro e w' ⟨rfl, rfl⟩)
    go_ret2; exact ⟨rfl, rfl⟩
  · go_enter Try.func16, Try.ntmps16
    go_wp2_with fail
    refine (isMode_yes _ _ h1 h2).mono ?_; rintro e w' ⟨rfl, rfl⟩
    go_wp2_with fail
    refine (isMode_no _ _ h).mono ?_; rintro e w' ⟨rfl, rfl⟩
    go_wp2_with fail
    go_ret2; exact ⟨rfl, rfl⟩
theorem bad (a b : Int) (w : World) (h : (a < 1 ∨ 5 < a) ∨ (1 ≤ a ∧ a ≤ 5 ∧ (b < 1 ∨ 5 < b))) :
    Calls Try.prog 4 #[.int .i64 a, .int .i64 b] w fun e w' => e = .returned (.bool true) ∧ Grown w w' := by
  by_cases hab : a ≤ b
  · by_cases hm : a < 1
    · go_enter Try.func4, Try.ntmps4
      go_wp2_with fail
      refine (fits_bad _ _ _ h).mono ?_; rintro e w' ⟨rfl, rfl⟩
      go_wp2_with fail
      refine (join_bad _ _ _ h).mono ?_; rintro e w' ⟨rfl, rfl⟩
      go_wp2_with fail
      all_goals (first | (go_ret; exact ⟨rfl, Grown.refl _⟩) | (exfalso; omega))
    · have h5 : 5 < b := by omega
      have h5' : decide (5 < b) = true := by simpa using h5
      go_enter Try.func4, Try.ntmps4
      go_wp2_with fail
      refine (fits_bad _ _ _ h).mono ?_; rintro e w' ⟨rfl, rfl⟩
      go_wp2_with fail
      refine (join_bad _ _ _ h).mono ?_; rintro e w' ⟨rfl, rfl⟩
      go_wp2_with fail
      all_goals (first | (go_ret; exact ⟨rfl, Grown.refl _⟩) | (exfalso; omega))
  · have hab' : b < a := by omega
    have hab2 : b ≤ a := by omega
    by_cases hm : b < 1
    · go_enter Try.func4, Try.ntmps4
      go_wp2_with fail
      refine (fits_bad _ _ _ h).mono ?_; rintro e w' ⟨rfl, rfl⟩
      go_wp2_with fail
      refine (join_bad _ _ _ h).mono ?_; rintro e w' ⟨rfl, rfl⟩
      go_wp2_with fail
      all_goals (first | (go_ret; exact ⟨rfl, Grown.refl _⟩) | (exfalso; omega))
    · have h5 : 5 < a := by omega
      have h5' : decide (5 < a) = true := by simpa using h5
      go_enter Try.func4, Try.ntmps4
      go_wp2_with fail
      refine (fits_bad _ _ _ h).mono ?_; rintro e w' ⟨rfl, rfl⟩
      go_wp2_with fail
      refine (join_bad _ _ _ h).mono ?_; rintro e w' ⟨rfl, rfl⟩
      go_wp2_with fail
      all_goals (first | (go_ret; exact ⟨rfl, Grown.refl _⟩) | (exfalso; omega))
theorem walk (a b : Int) (_ : (Lit.int .i64 a).wf = true) (_ : (Lit.int .i64 b).wf = true) (w : World) :
    Calls Try.prog 4 #[.int .i64 a, .int .i64 b] w fun e w' => e = .returned (.bool true) ∧ Grown w w' := by
  by_cases h : (a < 1 ∨ 5 < a) ∨ (1 ≤ a ∧ a ≤ 5 ∧ (b < 1 ∨ 5 < b))
  · exact bad a b w h
  · have ha : a = 1 ∨ a = 2 ∨ a = 3 ∨ a = 4 ∨ a = 5 := by omega
    have hb : b = 1 ∨ b = 2 ∨ b = 3 ∨ b = 4 ∨ b = 5 := by omega
    rcases ha with rfl | rfl | rfl | rfl | rfl
    · rcases hb with rfl | rfl | rfl | rfl | rfl
      · exact (Ev.calls 60 (run11 w)).mono fun e w' ⟨he, hw⟩ => ⟨he, hw ▸ Grown.refl _⟩
      · exact (Ev.calls 60 (run12 w)).mono fun e w' ⟨he, hw⟩ => ⟨he, hw ▸ Grown.refl _⟩
      · exact (Ev.calls 60 (run13 w)).mono fun e w' ⟨he, hw⟩ => ⟨he, hw ▸ Grown.refl _⟩
      · exact (Ev.calls 60 (run14 w)).mono fun e w' ⟨he, hw⟩ => ⟨he, hw ▸ Grown.refl _⟩
      · exact (Ev.calls 60 (run15 w)).mono fun e w' ⟨he, hw⟩ => ⟨he, hw ▸ Grown.refl _⟩
    · rcases hb with rfl | rfl | rfl | rfl | rfl
      · exact (Ev.calls 60 (run21 w)).mono fun e w' ⟨he, hw⟩ => ⟨he, hw ▸ Grown.refl _⟩
      · exact (Ev.calls 60 (run22 w)).mono fun e w' ⟨he, hw⟩ => ⟨he, hw ▸ Grown.refl _⟩
      · exact (Ev.calls 60 (run23 w)).mono fun e w' ⟨he, hw⟩ => ⟨he, hw ▸ Grown.refl _⟩
      · exact (Ev.calls 60 (run24 w)).mono fun e w' ⟨he, hw⟩ => ⟨he, hw ▸ Grown.refl _⟩
      · exact (Ev.calls 60 (run25 w)).mono fun e w' ⟨he, hw⟩ => ⟨he, hw ▸ Grown.refl _⟩
    · rcases hb with rfl | rfl | rfl | rfl | rfl
      · exact (Ev.calls 60 (run31 w)).mono fun e w' ⟨he, hw⟩ => ⟨he, hw ▸ Grown.refl _⟩
      · exact (Ev.calls 60 (run32 w)).mono fun e w' ⟨he, hw⟩ => ⟨he, hw ▸ Grown.refl _⟩
      · exact (Ev.calls 60 (run33 w)).mono fun e w' ⟨he, hw⟩ => ⟨he, hw ▸ Grown.refl _⟩
      · exact (Ev.calls 60 (run34 w)).mono fun e w' ⟨he, hw⟩ => ⟨he, hw ▸ Grown.refl _⟩
      · exact (Ev.calls 60 (run35 w)).mono fun e w' ⟨he, hw⟩ => ⟨he, hw ▸ Grown.refl _⟩
    · rcases hb with rfl | rfl | rfl | rfl | rfl
      · exact (Ev.calls 60 (run41 w)).mono fun e w' ⟨he, hw⟩ => ⟨he, hw ▸ Grown.refl _⟩
      · exact (Ev.calls 60 (run42 w)).mono fun e w' ⟨he, hw⟩ => ⟨he, hw ▸ Grown.refl _⟩
      · exact (Ev.calls 60 (run43 w)).mono fun e w' ⟨he, hw⟩ => ⟨he, hw ▸ Grown.refl _⟩
      · exact (Ev.calls 60 (run44 w)).mono fun e w' ⟨he, hw⟩ => ⟨he, hw ▸ Grown.refl _⟩
      · exact (Ev.calls 60 (run45 w)).mono fun e w' ⟨he, hw⟩ => ⟨he, hw ▸ Grown.refl _⟩
    · rcases hb with rfl | rfl | rfl | rfl | rfl
      · exact (Ev.calls 60 (run51 w)).mono fun e w' ⟨he, hw⟩ => ⟨he, hw ▸ Grown.refl _⟩
      · exact (Ev.calls 60 (run52 w)).mono fun e w' ⟨he, hw⟩ => ⟨he, hw ▸ Grown.refl _⟩
      · exact (Ev.calls 60 (run53 w)).mono fun e w' ⟨he, hw⟩ => ⟨he, hw ▸ Grown.refl _⟩
      · exact (Ev.calls 60 (run54 w)).mono fun e w' ⟨he, hw⟩ => ⟨he, hw ▸ Grown.refl _⟩
      · exact (Ev.calls 60 (run55 w)).mono fun e w' ⟨he, hw⟩ => ⟨he, hw ▸ Grown.refl _⟩

set_option maxRecDepth 100000 in
theorem lifted (os : Os) (started : os.Started) (H : Type) (enc : TypeId × Value → H) :
    ReturnsInHanded {} Try.checked os 4 .any (Rows.lockModesSpec.pre6 enc Try.prog Try.f4 Rows.lockModesRow.domain false) (Rows.lockModesSpec.post enc Try.prog Try.f4 false true false false) := by
  refine returnsInHanded_of_change (C := Try.checked) own started (by kernel_rfl) Try.func4
    (ChangeSpec.witness6 (enc := enc) (C := Try.checked) false ⟨#[], #[.int .i64 0, .int .i64 0], []⟩ 8 (by kernel_rfl) (by kernel_rfl) (by kernel_rfl) (by kernel_rfl)) ?_
  intro W base args ds gs before hval0 hW hcnd _
  have hval : ∀ (j : Nat) t v, Try.f4.params[j]? = some t → args[j]? = some v → Value.okWide Try.prog W .any base t v := hval0
  have hW' := hW
  obtain ⟨p, q, hA0, hV, rfl, hfz, hnd⟩ := hW
  have hA : DataW.TrodAll enc Try.prog W 0 (fun _ => true) true Try.f4.params.toList args.toList ds p := hA0
  rw [Try.params4] at hA hval
  obtain ⟨v0, vs0, d0, ds0, p0, q0, hargs, rfl, rfl, h0, r0⟩ := trodAll_cons hA
  obtain ⟨v1, vs1, d1, ds1, p1, q1, rfl, rfl, rfl, h1, r1⟩ := trodAll_cons r0
  obtain ⟨rfl, rfl, rfl⟩ := trodAll_nil r1
  obtain rfl : args = #[v0, v1] := by cases args; simp_all
  obtain ⟨rfl, rfl⟩ := trodVars_none hV
  obtain ⟨a0, rfl, rfl, rfl, w0⟩ := open_int Try.underlying3 (hval 0 3 v0 rfl rfl) h0
  obtain ⟨a1, rfl, rfl, rfl, w1⟩ := open_int Try.underlying3 (hval 1 3 v1 rfl rfl) h1
  clear hA0 hval0
  simp only [List.append_nil] at hW'
  refine (walk a0 a1 w0 w1 W).mono fun e W' ⟨he, hg⟩ => ?_
  subst he
  exact ⟨_, rfl, post_of_same (pa := []) (pv := []) hW' (fun _ _ _ => (trodAll_cons_mk (shut_bool Try.underlying4 _) trodAll_mk0)) (fun sp _ => (trodAll_cons_mk (shut_int Try.underlying3 w0) (trodAll_cons_mk (shut_int Try.underlying3 w1) trodAll_mk0))) (fun _ _ => rfl) rfl
    (hg.frame _) hg.2.1 (ok_one (by kernel_rfl) rfl (okWide_bool_mk Try.underlying4 _))⟩

theorem over : Rows.lockModesRow.holds Try.pinned (OpenSpec.ofChange Rows.lockModesSpec) :=
  OpenClaim.holds_of_wide 4 Try.f4 rfl rfl rfl rfl rfl rfl rfl ⟨rfl, rfl, rfl, rfl, rfl⟩ rfl rfl rfl rfl rfl (by kernel_rfl) Try.func4 (by kernel_rfl)
    (of_decide_eq_true (by kernel_rfl)) (by unfold Func.isWrapper; first | (rw [if_pos (by decide +kernel)]; kernel_rfl) | (rw [if_neg (by decide +kernel)]; exact ⟨rfl, rfl⟩))
    (fun os started H enc _ => lifted os started H enc)

theorem proved : Rows.LockModesSaid :=
  over
#print axioms proved
end Go.Proofs.Ytfmgjigdebofaaa.lockModes
