/-
  Package tree: what slices.Insert and slices.Delete do to keys, texts and pointers.
  Conditions: none.
-/
import Derived.Test.YtdebhhjbgbkbjaaTrM
import Derived.Test.YtdebhhjbgbkbjaaTrI
namespace Go.Proofs.Ytdebhhjbgbkbjaa
open Go.S
set_option linter.unusedVariables false
theorem oneI (x : Int) : ∀ v ∈ I x, v.oneCell' = true := by
  intro v hv
  simp only [I, List.mem_cons, List.not_mem_nil, or_false] at hv
  rcases hv with rfl; rfl
theorem oneSR (x : List UInt8) : ∀ v ∈ SR x, v.oneCell' = true := by
  intro v hv
  simp only [SR, List.mem_cons, List.not_mem_nil, or_false] at hv
  rcases hv with rfl; rfl
theorem onePR {g : Nat → Nat} (x : Int) : ∀ v ∈ PR g x, v.oneCell' = true := by
  intro v hv
  simp only [PR, List.mem_cons, List.not_mem_nil, or_false] at hv
  rcases hv with rfl; exact VP_one _ _
theorem wInsR10 : InsR Try.prog 10 3 1 I := {
  fin := fun l x g cap a v w b h1 h2 h3 h4 h5 => rows10.insEnd (fun _ => rfl) oneI l x g cap a v w b h1 h2 h3 h4 h5
  mid := fun l x g cap a v w b h1 h2 h3 h4 h5 h6 => by
    by_cases hr : l.length + 1 ≤ cap
    · exact rows10.insRoom (fun _ => rfl) oneI l x g cap a v w b h1 h2 h3 hr h5 h6
    · exact rows10.insGrow (fun _ => rfl) oneI l x g cap a v w b h1 h2 h3 h4 (by omega) h5 h6 }
theorem wDelR8 : DelR Try.prog 8 3 1 I := fun l g cap a b w h1 h2 h3 h4 h5 => rows10.delWalk (fun _ => rfl) oneI l g cap a b w h1 h2 h3 h4 h5
theorem wInsR28 : InsR Try.prog 28 9 1 SR := {
  fin := fun l x g cap a v w b h1 h2 h3 h4 h5 => rows28.insEnd (fun _ => rfl) oneSR l x g cap a v w b h1 h2 h3 h4 h5
  mid := fun l x g cap a v w b h1 h2 h3 h4 h5 h6 => by
    by_cases hr : l.length + 1 ≤ cap
    · exact rows28.insRoom (fun _ => rfl) oneSR l x g cap a v w b h1 h2 h3 hr h5 h6
    · exact rows28.insGrow (fun _ => rfl) oneSR l x g cap a v w b h1 h2 h3 h4 (by omega) h5 h6 }
theorem wDelR25 : DelR Try.prog 25 9 1 SR := fun l g cap a b w h1 h2 h3 h4 h5 => rows28.delWalk (fun _ => rfl) oneSR l g cap a b w h1 h2 h3 h4 h5
theorem wInsR30 {gP : Nat → Nat} : InsR Try.prog 30 42 1 (PR gP) := {
  fin := fun l x g cap a v w b h1 h2 h3 h4 h5 => rows30.insEnd (fun _ => rfl) onePR l x g cap a v w b h1 h2 h3 h4 h5
  mid := fun l x g cap a v w b h1 h2 h3 h4 h5 h6 => by
    by_cases hr : l.length + 1 ≤ cap
    · exact rows30.insRoom (fun _ => rfl) onePR l x g cap a v w b h1 h2 h3 hr h5 h6
    · exact rows30.insGrow (fun _ => rfl) onePR l x g cap a v w b h1 h2 h3 h4 (by omega) h5 h6 }
theorem wDelR45 {gP : Nat → Nat} : DelR Try.prog 45 42 1 (PR gP) := fun l g cap a b w h1 h2 h3 h4 h5 => rows30.delWalk (fun _ => rfl) onePR l g cap a b w h1 h2 h3 h4 h5
end Go.Proofs.Ytdebhhjbgbkbjaa
