/-
  Package buddy: the order of blocks; what slices.SortFunc, slices.Delete, slices.Insert do to them.
  Conditions: none.
-/
import Derived.Test.YtanpiecpmmcaeaaBuM
import Derived.Test.YtanpiecpmmcaeaaBuI
import Derived.Test.YtanpiecpmmcaeaaSo
import Derived.Test.YtanpiecpmmcaeaaJ
namespace Go.Proofs.Ytanpiecpmmcaeaa
open Go.S Go.Sort Go.Proofs Go.Shelf
set_option linter.unusedVariables false
set_option linter.unusedSimpArgs false
def cmpI (a b : Int) : Int := if a < b then -1 else if b < a then 1 else 0
theorem compare_eq (a b : Int) : m20_cmp_Compare_int a b = some (cmpI a b) := by
  have hn : ∀ x : Int, m30_cmp_isNaN_int x = some false := fun x => by rw [m30_cmp_isNaN_int]; simp
  rw [m20_cmp_Compare_int, hn, bind1_some, if_neg ff, m20_cmp_Compare_int_K1, if_neg ff, hn, bind1_some, if_neg ff]
  unfold cmpI
  by_cases c1 : a < b
  · rw [if_pos c1, if_pos c1]
  · rw [if_neg c1, if_neg c1]
    by_cases c2 : b < a
    · rw [if_pos c2, if_pos c2]
    · rw [if_neg c2, if_neg c2]
def cfB (x y : TBlock) : Int := cmpI x.At y.At
theorem m19_eq (x y : TBlock) : m19_buddy_Take_1 x y = some (cfB x y) := by
  rw [m19_buddy_Take_1, compare_eq, bind1_some]
  rfl
theorem def19 (x y : TBlock) : m19_buddy_Take_1 x y = some ((m19_buddy_Take_1 x y).getD 0) := by rw [m19_eq]; rfl
theorem cf19 : (fun x y => (m19_buddy_Take_1 x y).getD 0) = cfB := by funext x y; rw [m19_eq]; rfl
theorem lt19 (x y : TBlock) : ltOf cfB x y = decide (x.At < y.At) := by
  unfold ltOf
  rw [decide_eq_decide]
  unfold cfB cmpI
  split
  · omega
  · split <;> omega
theorem swo19 : SWO (ltOf fun x y => (m19_buddy_Take_1 x y).getD 0) := by
  rw [cf19]
  refine ⟨fun x => ?_, fun x y z h1 h2 => ?_, fun x y z h1 h2 => ?_⟩
  · rw [lt19]; simp
  · rw [lt19] at *; simp only [decide_eq_true_eq] at *; omega
  · rw [lt19] at *; simp only [decide_eq_false_iff_not] at *; omega
theorem oneB (x : TBlock) : ∀ v ∈ x.row, v.oneCell' = true := by
  intro v hv
  simp only [TBlock.row, List.mem_cons, List.not_mem_nil, or_false] at hv
  rcases hv with rfl | rfl <;> rfl
theorem wSort18 : SortGC Try.prog 18 TBlock.row 2 := {
  some' := fun cf hO g cb blk off cap d w eg hcmp hH hblk hsz hD =>
    (AnyQ.slices_SortFunc Try.lsf18 2 Try.isAgg37 Try.sizeOf37 TBlock.row (fun _ => rfl) oneB cf hO g cb blk off cap d w eg hcmp hH hblk hsz).mono fun _ _ ⟨he, d', n, os, hp, hs, hw⟩ =>
      ⟨he, n, os, by rw [hw, ← sorted_dist hO d d' hp hs hD]⟩
  none' := fun p cap fv w => AnyF.slices_SortFunc_none { Try.lsf18 with } p cap fv w }
theorem wDelR22 : DelR Try.prog 22 37 2 TBlock.row := fun l g cap a b w h1 h2 h3 h4 h5 => rowsIn.delWalk (fun _ => rfl) oneB l g cap a b w h1 h2 h3 h4 h5
theorem wInsR15 : InsR Try.prog 15 37 2 TBlock.row := {
  fin := fun l x g cap a v w b h1 h2 h3 h4 h5 => rowsIn.insEnd (fun _ => rfl) oneB l x g cap a v w b h1 h2 h3 h4 h5
  mid := fun l x g cap a v w b h1 h2 h3 h4 h5 h6 => by
    by_cases hr : l.length + 1 ≤ cap
    · exact rowsIn.insRoom (fun _ => rfl) oneB l x g cap a v w b h1 h2 h3 hr h5 h6
    · exact rowsIn.insGrow (fun _ => rfl) oneB l x g cap a v w b h1 h2 h3 h4 (by omega) h5 h6 }
end Go.Proofs.Ytanpiecpmmcaeaa
