/-
  The order in which pairs of operations are laid.
  Conditions: none.
-/
import Derived.Test.YtglbgeamiobldaaRlM
import Derived.Test.YtglbgeamiobldaaSo
import Derived.Test.YtglbgeamiobldaaJ
namespace Go.Proofs.Ytglbgeamiobldaa
open Go.S Go.Sort Go.Proofs Go.Shelf
set_option linter.unusedVariables false
set_option linter.unusedSimpArgs false
def cmpI (a b : Int) : Int := if a < b then -1 else if b < a then 1 else 0
theorem compare_eq (a b : Int) : m40_cmp_Compare_int a b = some (cmpI a b) := by
  have hn : ∀ x : Int, m54_cmp_isNaN_int x = some false := fun x => by rw [m54_cmp_isNaN_int]; simp
  rw [m40_cmp_Compare_int, hn, bind1_some, if_neg ff, m40_cmp_Compare_int_K1, if_neg ff, hn, bind1_some, if_neg ff]
  unfold cmpI
  by_cases c1 : a < b
  · rw [if_pos c1, if_pos c1]
  · rw [if_neg c1, if_neg c1]
    by_cases c2 : b < a
    · rw [if_pos c2, if_pos c2]
    · rw [if_neg c2, if_neg c2]
def lexI : List Int → List Int → Int
  | a :: s, b :: t => if cmpI a b ≠ 0 then cmpI a b else lexI s t
  | _, _ => 0
theorem lexL (s t : List Int) (hl : s.length = t.length) (hb : s.length ≤ 1000000) : ∀ (r i : Nat), i + r = s.length → ∀ m, r < m → m31_slices_Compare_int_L1 s t m (i : Int) = some (lexI (s.drop i) (t.drop i)) := by
  intro r
  induction r with
  | zero =>
    intro i hi m hm
    obtain ⟨m, rfl⟩ := dec m hm
    rw [m31_slices_Compare_int_L1, m31_slices_Compare_int_L1B, if_neg (by omega), m31_slices_Compare_int_K1, if_neg (by omega), List.drop_eq_nil_of_le (by omega)]
    rfl
  | succ r ih =>
    intro i hi m hm
    obtain ⟨m, rfl⟩ := dec m (by omega)
    have h1 : i < s.length := by omega
    have h2 : i < t.length := by omega
    rw [m31_slices_Compare_int_L1, m31_slices_Compare_int_L1B, if_pos (by omega), idx_ok h1, bind1_some, if_neg (by omega), m31_slices_Compare_int_K2, idx_ok h2, bind1_some, compare_eq, bind1_some, drop_cons h1, drop_cons h2, lexI]
    by_cases c : cmpI s[i] t[i] ≠ 0
    · rw [if_pos c, if_pos c]
    · rw [if_neg c, if_neg c, isucc i (by omega), bind1_some, ih (i + 1) (by omega) m (by omega)]
def rowP (x : Tpair) : List Int := [x.a_, x.i_, x.b_, x.k_]
def cfP (x y : Tpair) : Int := lexI (rowP x) (rowP y)
theorem m30_eq (x y : Tpair) : m30_run_pairs_1 x y = some (cfP x y) := by
  have h := lexL (rowP x) (rowP y) rfl (by show 4 ≤ 1000000; omega) 4 0 rfl big (lt_big (by omega))
  rw [show ((0 : Nat) : Int) = 0 from rfl, List.drop_zero, List.drop_zero] at h
  rw [m30_run_pairs_1, m31_slices_Compare_int]
  unfold rowP at h
  rw [h, bind1_some]
  rfl
theorem def30 (x y : Tpair) : m30_run_pairs_1 x y = some ((m30_run_pairs_1 x y).getD 0) := by rw [m30_eq]; rfl
theorem cf30 : (fun x y => (m30_run_pairs_1 x y).getD 0) = cfP := by funext x y; rw [m30_eq]; rfl
/-- Ahead of it. -/
def ahd (x y : Tpair) : Prop := x.a_ < y.a_ ∨ (x.a_ = y.a_ ∧ (x.i_ < y.i_ ∨ (x.i_ = y.i_ ∧ (x.b_ < y.b_ ∨ (x.b_ = y.b_ ∧ x.k_ < y.k_)))))
instance (x y : Tpair) : Decidable (ahd x y) := by unfold ahd; infer_instance
theorem cmpI_neg {a b : Int} : cmpI a b < 0 ↔ a < b := by unfold cmpI; split <;> (try split) <;> omega
theorem cmpI_zero {a b : Int} : cmpI a b = 0 ↔ a = b := by unfold cmpI; split <;> (try split) <;> omega
theorem lex_neg {a b : Int} {s t : List Int} : lexI (a :: s) (b :: t) < 0 ↔ a < b ∨ (a = b ∧ lexI s t < 0) := by
  rw [lexI]
  by_cases c : cmpI a b = 0
  · rw [if_neg (by simp [c])]
    have e := cmpI_zero.1 c
    constructor
    · exact fun h => .inr ⟨e, h⟩
    · rintro (h | h)
      · omega
      · exact h.2
  · rw [if_pos c, cmpI_neg]
    have e : a ≠ b := fun h => c (cmpI_zero.2 h)
    constructor
    · exact .inl
    · rintro (h | h)
      · exact h
      · exact absurd h.1 e
theorem lt30 (x y : Tpair) : ltOf cfP x y = decide (ahd x y) := by
  unfold ltOf
  rw [decide_eq_decide]
  unfold cfP rowP ahd
  rw [lex_neg, lex_neg, lex_neg, lex_neg]
  have : ¬ lexI [] [] < 0 := by simp [lexI]
  constructor
  · rintro (h | ⟨h1, h | ⟨h2, h | ⟨h3, h | ⟨_, h⟩⟩⟩⟩)
    · exact .inl h
    · exact .inr ⟨h1, .inl h⟩
    · exact .inr ⟨h1, .inr ⟨h2, .inl h⟩⟩
    · exact .inr ⟨h1, .inr ⟨h2, .inr ⟨h3, h⟩⟩⟩
    · exact absurd h this
  · rintro (h | ⟨h1, h | ⟨h2, h | ⟨h3, h⟩⟩⟩)
    · exact .inl h
    · exact .inr ⟨h1, .inl h⟩
    · exact .inr ⟨h1, .inr ⟨h2, .inl h⟩⟩
    · exact .inr ⟨h1, .inr ⟨h2, .inr ⟨h3, .inl h⟩⟩⟩
theorem swo30 : SWO (ltOf fun x y => (m30_run_pairs_1 x y).getD 0) := by
  rw [cf30]
  refine ⟨fun x => ?_, fun x y z h1 h2 => ?_, fun x y z h1 h2 => ?_⟩
  · rw [lt30]; unfold ahd; simp
  · rw [lt30] at *; simp only [decide_eq_true_eq] at *; unfold ahd at *; omega
  · rw [lt30] at *; simp only [decide_eq_false_iff_not] at *; unfold ahd at *; omega
theorem tot30 : ∀ x y, (ltOf fun x y => (m30_run_pairs_1 x y).getD 0) x y = false → (ltOf fun x y => (m30_run_pairs_1 x y).getD 0) y x = false → x = y := by
  rw [cf30]
  intro x y h1 h2
  rw [lt30] at *
  simp only [decide_eq_false_iff_not] at *
  unfold ahd at *
  cases x; cases y
  simp only at *
  congr <;> omega
theorem wSort29 : SortFC Try.prog 29 Tpair.row 4 := {
  some' := fun cf hO hT g cb blk off cap d w eg hcmp hH hblk hsz =>
    AnyQ.slices_SortFunc_total Try.lsf29 4 Try.isAgg37 Try.sizeOf37 Tpair.row (fun _ => rfl) (fun x v hv => by
      simp only [Tpair.row, List.mem_cons, List.not_mem_nil, or_false] at hv
      rcases hv with rfl | rfl | rfl | rfl <;> rfl) cf hO g cb blk off cap d w eg hcmp hH hblk hsz hT
  none' := fun p cap fv w => AnyF.slices_SortFunc_none { Try.lsf29 with } p cap fv w }
end Go.Proofs.Ytglbgeamiobldaa
