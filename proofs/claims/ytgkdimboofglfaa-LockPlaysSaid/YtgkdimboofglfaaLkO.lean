/-
  Package lock: what slices.Insert does to rows of locks and of a table.
  Conditions: none.
-/
import Derived.Test.YtgkdimboofglfaaLkM
import Derived.Test.YtgkdimboofglfaaLkI
import Derived.Test.YtgkdimboofglfaaLkJ
namespace Go.Proofs.Ytgkdimboofglfaa
open Go.S
set_option linter.unusedVariables false
theorem oneL (x : TLock) : ∀ v ∈ x.row, v.oneCell' = true := by
  intro v hv
  simp only [TLock.row, List.mem_cons, List.not_mem_nil, or_false] at hv
  rcases hv with rfl | rfl <;> rfl
theorem wInsR29 : InsR Try.prog 29 55 2 TLock.row := {
  fin := fun l x g cap a v w b h1 h2 h3 h4 h5 => rows29.insEnd (fun _ => rfl) oneL l x g cap a v w b h1 h2 h3 h4 h5
  mid := fun l x g cap a v w b h1 h2 h3 h4 h5 h6 => by
    by_cases hr : l.length + 1 ≤ cap
    · exact rows29.insRoom (fun _ => rfl) oneL l x g cap a v w b h1 h2 h3 hr h5 h6
    · exact rows29.insGrow (fun _ => rfl) oneL l x g cap a v w b h1 h2 h3 h4 (by omega) h5 h6 }
theorem wInsR24 : InsR Try.prog 24 50 3 (Rw.r (k := 3)) := {
  fin := fun l x g cap a v w b h1 h2 h3 h4 h5 => rows24.insEnd (fun z => z.len) (fun z => z.one) l x g cap a v w b h1 h2 h3 h4 h5
  mid := fun l x g cap a v w b h1 h2 h3 h4 h5 h6 => by
    by_cases hr : l.length + 1 ≤ cap
    · exact rows24.insRoom (fun z => z.len) (fun z => z.one) l x g cap a v w b h1 h2 h3 hr h5 h6
    · exact rows24.insGrow (fun z => z.len) (fun z => z.one) l x g cap a v w b h1 h2 h3 h4 (by omega) h5 h6 }
end Go.Proofs.Ytgkdimboofglfaa
