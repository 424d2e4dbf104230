/-
  The order in which parts of a graph are laid.
  Conditions: none.
-/
import Derived.Test.YtjhcdmcikodgkaaGrM
import Derived.Test.YtjhcdmcikodgkaaSo
import Derived.Test.YtjhcdmcikodgkaaSl
namespace Go.Proofs.Ytjhcdmcikodgkaa
open Go.S Go.Sort Go.Proofs Go.Shelf
set_option linter.unusedVariables false
set_option linter.unusedSimpArgs false
theorem hcmp24 (x y : List Int) (hx : okH x) (hy : okH y) : m24_graph_Parts_1 x y = some (cfH x y) := by
  obtain ⟨hx0, hx1, hx2⟩ := hx
  obtain ⟨hy0, hy1, hy2⟩ := hy
  cases x with
  | nil => exact absurd rfl hx0
  | cons a x =>
    cases y with
    | nil => exact absurd rfl hy0
    | cons b y =>
      simp only [hd0, List.headD_cons] at *
      have h1 : idx (a :: x) 0 = some a := by simp [idx]
      have h2 : idx (b :: y) 0 = some b := by simp [idx]
      have h3 : i64 (a - b) = some (a - b) := by
        unfold i64
        rw [if_pos]
        omega
      rw [m24_graph_Parts_1, h1, bind1_some, h2, bind1_some, h3, bind1_some]
      rfl
theorem wSortL23 : SortLC Try.prog 23 :=
  ⟨fun enc h1 cf hO hT g cb blk off cap d w eg hc hH hb hs => Try.slices_SortFunc_total enc h1 cf hO g cb blk off cap d w eg hc hH hb hs hT, fun p cap fv w => Try.slices_SortFunc_none (α := Nat) p cap fv w⟩
end Go.Proofs.Ytjhcdmcikodgkaa
