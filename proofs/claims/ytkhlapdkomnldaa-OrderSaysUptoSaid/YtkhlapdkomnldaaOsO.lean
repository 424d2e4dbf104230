/-
  The order in which edges of a story are laid.
  Conditions: none.
-/
import Derived.Test.YtkhlapdkomnldaaOsM
import Derived.Test.YtkhlapdkomnldaaSo
import Derived.Test.YtkhlapdkomnldaaJ
namespace Go.Proofs.Ytkhlapdkomnldaa
open Go.S Go.Sort Go.Proofs Go.Shelf
set_option linter.unusedVariables false
set_option linter.unusedSimpArgs false
def cmpI (a b : Int) : Int := if a < b then -1 else if b < a then 1 else 0
def corI (a b c : Int) : Int := if a ≠ 0 then a else if b ≠ 0 then b else c
theorem compare_eq (a b : Int) : m61_cmp_Compare_int a b = some (cmpI a b) := by
  have hn : ∀ x : Int, m117_cmp_isNaN_int x = some false := fun x => by rw [m117_cmp_isNaN_int]; simp
  rw [m61_cmp_Compare_int, hn, bind1_some, if_neg ff, m61_cmp_Compare_int_K1, if_neg ff, hn, bind1_some, if_neg ff]
  unfold cmpI
  by_cases c1 : a < b
  · rw [if_pos c1, if_pos c1]
  · rw [if_neg c1, if_neg c1]
    by_cases c2 : b < a
    · rw [if_pos c2, if_pos c2]
    · rw [if_neg c2, if_neg c2]
theorem or_eq (a b c : Int) : m60_cmp_Or_int [a, b, c] = some (corI a b c) := by
  have hb : big = 3 + 1 + 1180591620717411303420 := rfl
  have i0 : idx [a, b, c] 0 = some a := rfl
  have i1 : idx [a, b, c] 1 = some b := rfl
  have i2 : idx [a, b, c] 2 = some c := rfl
  have e1 : i64 ((0 : Int) + 1) = some 1 := rfl
  have e2 : i64 ((1 : Int) + 1) = some 2 := rfl
  have e3 : i64 ((2 : Int) + 1) = some 3 := rfl
  have hl : (([a, b, c] : List Int).length : Int) = 3 := rfl
  obtain ⟨n, hn⟩ : ∃ n, big = n + 4 := ⟨1180591620717411303420, rfl⟩
  rw [m60_cmp_Or_int, hn, m60_cmp_Or_int_L1, m60_cmp_Or_int_L1B, hl, if_pos (by omega), i0, bind1_some]
  unfold corI
  by_cases c1 : a ≠ 0
  · rw [if_pos c1, if_pos c1]
  · rw [if_neg c1, if_neg c1, e1, bind1_some, m60_cmp_Or_int_L1, m60_cmp_Or_int_L1B, hl, if_pos (by omega), i1, bind1_some]
    by_cases c2 : b ≠ 0
    · rw [if_pos c2, if_pos c2]
    · rw [if_neg c2, if_neg c2, e2, bind1_some, m60_cmp_Or_int_L1, m60_cmp_Or_int_L1B, hl, if_pos (by omega), i2, bind1_some]
      by_cases c3 : c ≠ 0
      · rw [if_pos c3]
      · rw [if_neg c3, e3, bind1_some, m60_cmp_Or_int_L1, m60_cmp_Or_int_L1B, hl, if_neg (by omega), m60_cmp_Or_int_K1]
        have : c = 0 := by simpa using c3
        rw [this]
def cfDep (x y : TDep) : Int := corI (cmpI x.From y.From) (cmpI x.To y.To) (cmpI x.Kind y.Kind)
theorem m59_eq (x y : TDep) : m59_order_Deps_2 x y = some (cfDep x y) := by
  rw [m59_order_Deps_2, compare_eq, bind1_some, compare_eq, bind1_some, compare_eq, bind1_some, or_eq, bind1_some]
  rfl
theorem def59 (x y : TDep) : m59_order_Deps_2 x y = some ((m59_order_Deps_2 x y).getD 0) := by rw [m59_eq]; rfl
theorem cf59 : (fun x y => (m59_order_Deps_2 x y).getD 0) = cfDep := by funext x y; rw [m59_eq]; rfl
/-- Ahead of it. -/
def ahd (x y : TDep) : Prop := x.From < y.From ∨ (x.From = y.From ∧ (x.To < y.To ∨ (x.To = y.To ∧ x.Kind < y.Kind)))
instance (x y : TDep) : Decidable (ahd x y) := by unfold ahd; infer_instance
theorem lt59 (x y : TDep) : ltOf cfDep x y = decide (ahd x y) := by
  unfold ltOf
  rw [decide_eq_decide]
  unfold cfDep corI cmpI ahd
  split <;> split <;> first | omega | skip
  all_goals (repeat' split) <;> omega
theorem swo59 : SWO (ltOf fun x y => (m59_order_Deps_2 x y).getD 0) := by
  rw [cf59]
  refine ⟨fun x => ?_, fun x y z h1 h2 => ?_, fun x y z h1 h2 => ?_⟩
  · rw [lt59]; unfold ahd; simp
  · rw [lt59] at *; simp only [decide_eq_true_eq] at *; unfold ahd at *; omega
  · rw [lt59] at *; simp only [decide_eq_false_iff_not] at *; unfold ahd at *; omega
theorem tot59 : ∀ x y, (ltOf fun x y => (m59_order_Deps_2 x y).getD 0) x y = false → (ltOf fun x y => (m59_order_Deps_2 x y).getD 0) y x = false → x = y := by
  rw [cf59]
  intro x y h1 h2
  rw [lt59] at *
  simp only [decide_eq_false_iff_not] at *
  unfold ahd at *
  cases x; cases y
  simp only at *
  congr <;> omega
theorem wSort58 : SortFC Try.prog 58 TDep.row 3 := {
  some' := fun cf hO hT g cb blk off cap d w eg hcmp hH hblk hsz =>
    AnyQ.slices_SortFunc_total Try.lsf58 3 Try.isAgg60 Try.sizeOf60 TDep.row (fun _ => rfl) (fun x v hv => by
      simp only [TDep.row, List.mem_cons, List.not_mem_nil, or_false] at hv
      rcases hv with rfl | rfl | rfl <;> rfl) cf hO g cb blk off cap d w eg hcmp hH hblk hsz hT
  none' := fun p cap fv w => AnyF.slices_SortFunc_none { Try.lsf58 with } p cap fv w }
end Go.Proofs.Ytkhlapdkomnldaa
