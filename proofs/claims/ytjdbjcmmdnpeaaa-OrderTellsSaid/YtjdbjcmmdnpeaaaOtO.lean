/-
  Package order: the order of tales; what slices.SortFunc and slices.Insert do to them.
  Conditions: none.
-/
import Derived.Test.YtjdbjcmmdnpeaaaOtM
import Derived.Test.YtjdbjcmmdnpeaaaOtI
import Derived.Test.YtjdbjcmmdnpeaaaSo
namespace Go.Proofs.Ytjdbjcmmdnpeaaa
open Go.S Go.Sort Go.Proofs Go.Shelf
set_option linter.unusedVariables false
set_option linter.unusedSimpArgs false
def cmpI (a b : Int) : Int := if a < b then -1 else if b < a then 1 else 0
theorem compare_eq (a b : Int) : m10_cmp_Compare_int a b = some (cmpI a b) := by
  have hn : ∀ x : Int, m23_cmp_isNaN_int x = some false := fun x => by rw [m23_cmp_isNaN_int]; simp
  rw [m10_cmp_Compare_int, hn, bind1_some, if_neg ff, m10_cmp_Compare_int_K1, if_neg ff, hn, bind1_some, if_neg ff]
  unfold cmpI
  by_cases c1 : a < b
  · rw [if_pos c1, if_pos c1]
  · rw [if_neg c1, if_neg c1]
    by_cases c2 : b < a
    · rw [if_pos c2, if_pos c2]
    · rw [if_neg c2, if_neg c2]
def cfT (x y : TTale) : Int := cmpI x.Tx y.Tx
theorem m9_eq (x y : TTale) : m9_order_Of_1 x y = some (cfT x y) := by
  rw [m9_order_Of_1, compare_eq, bind1_some]
  rfl
theorem def9 (x y : TTale) : m9_order_Of_1 x y = some ((m9_order_Of_1 x y).getD 0) := by rw [m9_eq]; rfl
theorem cf9 : (fun x y => (m9_order_Of_1 x y).getD 0) = cfT := by funext x y; rw [m9_eq]; rfl
theorem lt9 (x y : TTale) : ltOf cfT x y = decide (x.Tx < y.Tx) := by
  unfold ltOf
  rw [decide_eq_decide]
  unfold cfT cmpI
  split
  · omega
  · split <;> omega
theorem swo9' : SWO (ltOf cfT) := by
  refine ⟨fun x => ?_, fun x y z h1 h2 => ?_, fun x y z h1 h2 => ?_⟩
  · rw [lt9]; simp
  · rw [lt9] at *; simp only [decide_eq_true_eq] at *; omega
  · rw [lt9] at *; simp only [decide_eq_false_iff_not] at *; omega
theorem swo9 : SWO (ltOf fun x y => (m9_order_Of_1 x y).getD 0) := by rw [cf9]; exact swo9'
theorem wSortA8 : SortAC Try.prog 8 2 := {
  some' := fun enc hk hone cf hO g cb blk off cap d w eg hcmp hH hblk hsz =>
    AnyQ.slices_SortFunc Try.lsf8 2 Try.isAgg41 Try.sizeOf41 enc hk hone cf hO g cb blk off cap d w eg hcmp hH hblk hsz
  none' := fun p cap fv w => AnyF.slices_SortFunc_none { Try.lsf8 with } p cap fv w }
theorem wInsR13 : InsR Try.prog 13 41 2 (Rw.r (k := 2)) := {
  fin := fun l x g cap a v w b h1 h2 h3 h4 h5 => rows13.insEnd (fun z => z.len) (fun z => z.one) l x g cap a v w b h1 h2 h3 h4 h5
  mid := fun l x g cap a v w b h1 h2 h3 h4 h5 h6 => by
    by_cases hr : l.length + 1 ≤ cap
    · exact rows13.insRoom (fun z => z.len) (fun z => z.one) l x g cap a v w b h1 h2 h3 hr h5 h6
    · exact rows13.insGrow (fun z => z.len) (fun z => z.one) l x g cap a v w b h1 h2 h3 h4 (by omega) h5 h6 }
end Go.Proofs.Ytjdbjcmmdnpeaaa
