/-
  No cell of these rows narrows 'for every input' (looked for: loops, veiled, ifaces, maps, wideKeys, modest, calm, conditions, laid).
  DERIVED. THE GIVEN ROWS OF THIS SEAT. 12 by the template 'for every input the law returns true; each argument reads behind the call as it read before'; 0 by the template 'total and deterministic' (their statements: YtjbajaofdgalfaaTotals.lean).
  GIVEN WITH THE SEED: the statements are not yours to turn. If you find one false, say at which input.
  Laid BY PROGRAM, IN A SANDBOX (cutbox-rows.mjs): the forced cells as the released guide's own fill.sh prints them over the translation fdf8091ab494de3c… (all of the seat's roots in one cut). By AI agents, Wed Nov 11 2026. No macro, syntax, notation, axiom, sorry.
-/
import Derived.Test.YtjbajaofdgalfaaChecked
import GoSem.Claim
import GoSem.ClaimJoined
import GoSem.ClaimMapViews
import Derived.JoinedTies
import Derived.KernelRfl
namespace Go.Proofs.Ytjbajaofdgalfaa
/- THE CELL 'sum', in the pinned program and in every row, IS THE sha256 OF THE DUMP (.gsa) THAT YtjbajaofdgalfaaProg.lean LOADS. Nothing in Lean hashes anything: it is a label: what it is worth is what the hold of that sum in a sandbox is worth. -/
noncomputable def Try.pinned : Pinned := { name := "ytjbajaofdgalfaa", sum := "fdf8091ab494de3cbb66499228397a84d177abc67a0e8ca3fcecd03299946d54", checked := Try.checked }
namespace Rows
def none {H : Type} : Left H := { results := [], args := [] }

/-- 'quirlaw.SectPlays': WHATEVER THE INPUT: true; the input reads as it did. -/
def sectPlaysSpec : ChangeSpec := { name := "sectPlays", fn := fun _ => fun
  | [d1, d2] => { results := [.lit (.bool true)], args := [d1, d2] }
  | _ => none }
def sectPlaysRow : OpenClaim := { program := "ytjbajaofdgalfaa", sum := "fdf8091ab494de3cbb66499228397a84d177abc67a0e8ca3fcecd03299946d54", func := "quirestock/quirlaw.SectPlays", spec := "sectPlays", inPlace := ["internal/abi.NoEscape", "internal/bytealg.MakeNoZero"], plainKeys := false, apart := false }
def SectPlaysSaid : Prop := sectPlaysRow.holds Try.pinned (OpenSpec.ofChange sectPlaysSpec)

/-- ITS FALSE NEIGHBOUR: 'it returns false'. Refute it at one input. -/
def sectPlaysWrong : ChangeSpec := { name := "sectPlays", fn := fun _ => fun
  | [d1, d2] => { results := [.lit (.bool false)], args := [d1, d2] }
  | _ => none }
def SectPlaysWrongFalsely : Prop := sectPlaysRow.holds Try.pinned (OpenSpec.ofChange sectPlaysWrong)

/-- 'quirlaw.TreePlays': WHATEVER THE INPUT: true; the input reads as it did. -/
def treePlaysSpec : ChangeSpec := { name := "treePlays", fn := fun _ => fun
  | [d1, d2] => { results := [.lit (.bool true)], args := [d1, d2] }
  | _ => none }
def treePlaysRow : OpenClaim := { program := "ytjbajaofdgalfaa", sum := "fdf8091ab494de3cbb66499228397a84d177abc67a0e8ca3fcecd03299946d54", func := "quirestock/quirlaw.TreePlays", spec := "treePlays", inPlace := ["slices.overlaps[int]", "slices.overlaps[string]", "slices.overlaps[*quirestock/tree.node]"], unfollowed := true, recurses := true, plainKeys := false, apart := false }
def TreePlaysSaid : Prop := treePlaysRow.holds Try.pinned (OpenSpec.ofChange treePlaysSpec)

/-- ITS FALSE NEIGHBOUR: 'it returns false'. Refute it at one input. -/
def treePlaysWrong : ChangeSpec := { name := "treePlays", fn := fun _ => fun
  | [d1, d2] => { results := [.lit (.bool false)], args := [d1, d2] }
  | _ => none }
def TreePlaysWrongFalsely : Prop := treePlaysRow.holds Try.pinned (OpenSpec.ofChange treePlaysWrong)

/-- 'quirlaw.LockPlays': WHATEVER THE INPUT: true; the input reads as it did. -/
def lockPlaysSpec : ChangeSpec := { name := "lockPlays", fn := fun _ => fun
  | [d] => { results := [.lit (.bool true)], args := [d] }
  | _ => none }
def lockPlaysRow : OpenClaim := { program := "ytjbajaofdgalfaa", sum := "fdf8091ab494de3cbb66499228397a84d177abc67a0e8ca3fcecd03299946d54", func := "quirestock/quirlaw.LockPlays", spec := "lockPlays", inPlace := ["slices.overlaps[quirestock/api.LockItem]", "slices.overlaps[quirestock/api.Lock]"], unfollowed := true, recurses := true, plainKeys := false, apart := false }
def LockPlaysSaid : Prop := lockPlaysRow.holds Try.pinned (OpenSpec.ofChange lockPlaysSpec)

/-- ITS FALSE NEIGHBOUR: 'it returns false'. Refute it at one input. -/
def lockPlaysWrong : ChangeSpec := { name := "lockPlays", fn := fun _ => fun
  | [d] => { results := [.lit (.bool false)], args := [d] }
  | _ => none }
def LockPlaysWrongFalsely : Prop := lockPlaysRow.holds Try.pinned (OpenSpec.ofChange lockPlaysWrong)

/-- 'quirlaw.LockSays': WHATEVER THE INPUT: true; the input reads as it did. -/
def lockSaysSpec : ChangeSpec := { name := "lockSays", fn := fun _ => fun
  | [d1, d2, d3, d4] => { results := [.lit (.bool true)], args := [d1, d2, d3, d4] }
  | _ => none }
def lockSaysRow : OpenClaim := { program := "ytjbajaofdgalfaa", sum := "fdf8091ab494de3cbb66499228397a84d177abc67a0e8ca3fcecd03299946d54", func := "quirestock/quirlaw.LockSays", spec := "lockSays", inPlace := ["slices.overlaps[quirestock/api.LockItem]", "slices.overlaps[quirestock/api.Lock]"], unfollowed := true, recurses := true, plainKeys := false, apart := false }
def LockSaysSaid : Prop := lockSaysRow.holds Try.pinned (OpenSpec.ofChange lockSaysSpec)

/-- ITS FALSE NEIGHBOUR: 'it returns false'. Refute it at one input. -/
def lockSaysWrong : ChangeSpec := { name := "lockSays", fn := fun _ => fun
  | [d1, d2, d3, d4] => { results := [.lit (.bool false)], args := [d1, d2, d3, d4] }
  | _ => none }
def LockSaysWrongFalsely : Prop := lockSaysRow.holds Try.pinned (OpenSpec.ofChange lockSaysWrong)

/-- 'quirlaw.StampPlays': WHATEVER THE INPUT: true; the input reads as it did. -/
def stampPlaysSpec : ChangeSpec := { name := "stampPlays", fn := fun _ => fun
  | [d1, d2] => { results := [.lit (.bool true)], args := [d1, d2] }
  | _ => none }
def stampPlaysRow : OpenClaim := { program := "ytjbajaofdgalfaa", sum := "fdf8091ab494de3cbb66499228397a84d177abc67a0e8ca3fcecd03299946d54", func := "quirestock/quirlaw.StampPlays", spec := "stampPlays", unfollowed := true, recurses := true, plainKeys := false, apart := false }
def StampPlaysSaid : Prop := stampPlaysRow.holds Try.pinned (OpenSpec.ofChange stampPlaysSpec)

/-- ITS FALSE NEIGHBOUR: 'it returns false'. Refute it at one input. -/
def stampPlaysWrong : ChangeSpec := { name := "stampPlays", fn := fun _ => fun
  | [d1, d2] => { results := [.lit (.bool false)], args := [d1, d2] }
  | _ => none }
def StampPlaysWrongFalsely : Prop := stampPlaysRow.holds Try.pinned (OpenSpec.ofChange stampPlaysWrong)

/-- 'quirlaw.RunSays': WHATEVER THE INPUT: true; the input reads as it did. -/
def runSaysSpec : ChangeSpec := { name := "runSays", fn := fun _ => fun
  | [d] => { results := [.lit (.bool true)], args := [d] }
  | _ => none }
def runSaysRow : OpenClaim := { program := "ytjbajaofdgalfaa", sum := "fdf8091ab494de3cbb66499228397a84d177abc67a0e8ca3fcecd03299946d54", func := "quirestock/quirlaw.RunSays", spec := "runSays", unfollowed := true, recurses := true, plainKeys := false, apart := false }
def RunSaysSaid : Prop := runSaysRow.holds Try.pinned (OpenSpec.ofChange runSaysSpec)

/-- ITS FALSE NEIGHBOUR: 'it returns false'. Refute it at one input. -/
def runSaysWrong : ChangeSpec := { name := "runSays", fn := fun _ => fun
  | [d] => { results := [.lit (.bool false)], args := [d] }
  | _ => none }
def RunSaysWrongFalsely : Prop := runSaysRow.holds Try.pinned (OpenSpec.ofChange runSaysWrong)

/-- 'quirlaw.OrderTells': WHATEVER THE INPUT: true; the input reads as it did. -/
def orderTellsSpec : ChangeSpec := { name := "orderTells", fn := fun _ => fun
  | [d1, d2] => { results := [.lit (.bool true)], args := [d1, d2] }
  | _ => none }
def orderTellsRow : OpenClaim := { program := "ytjbajaofdgalfaa", sum := "fdf8091ab494de3cbb66499228397a84d177abc67a0e8ca3fcecd03299946d54", func := "quirestock/quirlaw.OrderTells", spec := "orderTells", inPlace := ["slices.overlaps[quirestock/api.Tale]"], unfollowed := true, recurses := true, plainKeys := false, apart := false }
def OrderTellsSaid : Prop := orderTellsRow.holds Try.pinned (OpenSpec.ofChange orderTellsSpec)

/-- ITS FALSE NEIGHBOUR: 'it returns false'. Refute it at one input. -/
def orderTellsWrong : ChangeSpec := { name := "orderTells", fn := fun _ => fun
  | [d1, d2] => { results := [.lit (.bool false)], args := [d1, d2] }
  | _ => none }
def OrderTellsWrongFalsely : Prop := orderTellsRow.holds Try.pinned (OpenSpec.ofChange orderTellsWrong)

/-- 'quirlaw.RunLikes': WHATEVER THE INPUT: true; the input reads as it did. -/
def runLikesSpec : ChangeSpec := { name := "runLikes", fn := fun _ => fun
  | [d1, d2] => { results := [.lit (.bool true)], args := [d1, d2] }
  | _ => none }
def runLikesRow : OpenClaim := { program := "ytjbajaofdgalfaa", sum := "fdf8091ab494de3cbb66499228397a84d177abc67a0e8ca3fcecd03299946d54", func := "quirestock/quirlaw.RunLikes", spec := "runLikes", unfollowed := true, recurses := true, plainKeys := false, apart := false }
def RunLikesSaid : Prop := runLikesRow.holds Try.pinned (OpenSpec.ofChange runLikesSpec)

/-- ITS FALSE NEIGHBOUR: 'it returns false'. Refute it at one input. -/
def runLikesWrong : ChangeSpec := { name := "runLikes", fn := fun _ => fun
  | [d1, d2] => { results := [.lit (.bool false)], args := [d1, d2] }
  | _ => none }
def RunLikesWrongFalsely : Prop := runLikesRow.holds Try.pinned (OpenSpec.ofChange runLikesWrong)

/-- 'quirlaw.BuddySays': WHATEVER THE INPUT: true; the input reads as it did. -/
def buddySaysSpec : ChangeSpec := { name := "buddySays", fn := fun _ => fun
  | [d1, d2, d3] => { results := [.lit (.bool true)], args := [d1, d2, d3] }
  | _ => none }
def buddySaysRow : OpenClaim := { program := "ytjbajaofdgalfaa", sum := "fdf8091ab494de3cbb66499228397a84d177abc67a0e8ca3fcecd03299946d54", func := "quirestock/quirlaw.BuddySays", spec := "buddySays", inPlace := ["slices.overlaps[quirestock/api.Block]"], unfollowed := true, recurses := true, plainKeys := false, apart := false }
def BuddySaysSaid : Prop := buddySaysRow.holds Try.pinned (OpenSpec.ofChange buddySaysSpec)

/-- ITS FALSE NEIGHBOUR: 'it returns false'. Refute it at one input. -/
def buddySaysWrong : ChangeSpec := { name := "buddySays", fn := fun _ => fun
  | [d1, d2, d3] => { results := [.lit (.bool false)], args := [d1, d2, d3] }
  | _ => none }
def BuddySaysWrongFalsely : Prop := buddySaysRow.holds Try.pinned (OpenSpec.ofChange buddySaysWrong)

/-- 'quirlaw.GraphSays': WHATEVER THE INPUT: true; the input reads as it did. -/
def graphSaysSpec : ChangeSpec := { name := "graphSays", fn := fun _ => fun
  | [d1, d2, d3] => { results := [.lit (.bool true)], args := [d1, d2, d3] }
  | _ => none }
def graphSaysRow : OpenClaim := { program := "ytjbajaofdgalfaa", sum := "fdf8091ab494de3cbb66499228397a84d177abc67a0e8ca3fcecd03299946d54", func := "quirestock/quirlaw.GraphSays", spec := "graphSays", unfollowed := true, recurses := true, plainKeys := false, apart := false }
def GraphSaysSaid : Prop := graphSaysRow.holds Try.pinned (OpenSpec.ofChange graphSaysSpec)

/-- ITS FALSE NEIGHBOUR: 'it returns false'. Refute it at one input. -/
def graphSaysWrong : ChangeSpec := { name := "graphSays", fn := fun _ => fun
  | [d1, d2, d3] => { results := [.lit (.bool false)], args := [d1, d2, d3] }
  | _ => none }
def GraphSaysWrongFalsely : Prop := graphSaysRow.holds Try.pinned (OpenSpec.ofChange graphSaysWrong)

/-- 'quirlaw.WaitSays': WHATEVER THE INPUT: true; the input reads as it did. -/
def waitSaysSpec : ChangeSpec := { name := "waitSays", fn := fun _ => fun
  | [d1, d2, d3, d4, d5] => { results := [.lit (.bool true)], args := [d1, d2, d3, d4, d5] }
  | _ => none }
def waitSaysRow : OpenClaim := { program := "ytjbajaofdgalfaa", sum := "fdf8091ab494de3cbb66499228397a84d177abc67a0e8ca3fcecd03299946d54", func := "quirestock/quirlaw.WaitSays", spec := "waitSays", unfollowed := true, recurses := true, plainKeys := false, apart := false }
def WaitSaysSaid : Prop := waitSaysRow.holds Try.pinned (OpenSpec.ofChange waitSaysSpec)

/-- ITS FALSE NEIGHBOUR: 'it returns false'. Refute it at one input. -/
def waitSaysWrong : ChangeSpec := { name := "waitSays", fn := fun _ => fun
  | [d1, d2, d3, d4, d5] => { results := [.lit (.bool false)], args := [d1, d2, d3, d4, d5] }
  | _ => none }
def WaitSaysWrongFalsely : Prop := waitSaysRow.holds Try.pinned (OpenSpec.ofChange waitSaysWrong)

/-- 'quirlaw.OrderSays': WHATEVER THE INPUT: true; the input reads as it did. -/
def orderSaysSpec : ChangeSpec := { name := "orderSays", fn := fun _ => fun
  | [d] => { results := [.lit (.bool true)], args := [d] }
  | _ => none }
def orderSaysRow : OpenClaim := { program := "ytjbajaofdgalfaa", sum := "fdf8091ab494de3cbb66499228397a84d177abc67a0e8ca3fcecd03299946d54", func := "quirestock/quirlaw.OrderSays", spec := "orderSays", unfollowed := true, recurses := true, plainKeys := false, apart := false }
def OrderSaysSaid : Prop := orderSaysRow.holds Try.pinned (OpenSpec.ofChange orderSaysSpec)

/-- ITS FALSE NEIGHBOUR: 'it returns false'. Refute it at one input. -/
def orderSaysWrong : ChangeSpec := { name := "orderSays", fn := fun _ => fun
  | [d] => { results := [.lit (.bool false)], args := [d] }
  | _ => none }
def OrderSaysWrongFalsely : Prop := orderSaysRow.holds Try.pinned (OpenSpec.ofChange orderSaysWrong)

/- THE SECOND FORM. 'bulk': how many values and letters a reading holds, each counted each time it is reached (what is shared counts as often as it is met; a slice's spare places count too). A statement '..UptoSaid' is the law's where the arguments, and the package variables that the reading takes, are together of bulk at most 1048576: NARROWER than '..Said'. Prove '..Said' where nothing that the law and all that it calls make is longer than what came in: it says more and counts as full. Else prove '..UptoSaid'. A law counts once. -/
mutual
def uptoBulk {H : Type} : DataW H → Nat
  | .lit (.string bytes) => bytes.length + 1
  | .lit _ => 1
  | .nil => 1
  | .ptr d => uptoBulk d + 1
  | .slice elems spare => uptoBulkAll elems + uptoBulkAll spare + 1
  | .agg parts => uptoBulkAll parts + 1
  | .iface _ d => uptoBulk d + 1
  | .map entries => uptoBulkEntries entries + 1
  | .held _ => 1
def uptoBulkAll {H : Type} : List (DataW H) → Nat
  | [] => 0
  | d :: r => uptoBulk d + uptoBulkAll r
def uptoBulkEntries {H : Type} : List (Lit × DataW H) → Nat
  | [] => 0
  | x :: r => uptoBulkEntry x + uptoBulkEntries r
def uptoBulkEntry {H : Type} : Lit × DataW H → Nat
  | (.string bytes, d) => bytes.length + uptoBulk d + 1
  | (_, d) => uptoBulk d + 1
 end
def uptoSmall : (H : Type) → List (DataW H) → Bool := fun _ ds => decide (uptoBulkAll ds ≤ 1048576)
def OpenSpec.upto (s : _root_.Go.ChangeSpec) : _root_.Go.OpenSpec := { _root_.Go.OpenSpec.ofChange s with cond := some uptoSmall }

/-- 'quirlaw.SectPlays', WHERE WHAT IT READS IS OF BULK AT MOST 1048576: true; the input reads as it did. -/
def sectPlaysUptoRow : OpenClaim := { program := "ytjbajaofdgalfaa", sum := "fdf8091ab494de3cbb66499228397a84d177abc67a0e8ca3fcecd03299946d54", func := "quirestock/quirlaw.SectPlays", spec := "sectPlays", inPlace := ["internal/abi.NoEscape", "internal/bytealg.MakeNoZero"], plainKeys := false, apart := false, narrowed := true }
def SectPlaysUptoSaid : Prop := sectPlaysUptoRow.holds Try.pinned (OpenSpec.upto sectPlaysSpec)

/-- 'quirlaw.TreePlays', WHERE WHAT IT READS IS OF BULK AT MOST 1048576: true; the input reads as it did. -/
def treePlaysUptoRow : OpenClaim := { program := "ytjbajaofdgalfaa", sum := "fdf8091ab494de3cbb66499228397a84d177abc67a0e8ca3fcecd03299946d54", func := "quirestock/quirlaw.TreePlays", spec := "treePlays", inPlace := ["slices.overlaps[int]", "slices.overlaps[string]", "slices.overlaps[*quirestock/tree.node]"], unfollowed := true, recurses := true, plainKeys := false, apart := false, narrowed := true }
def TreePlaysUptoSaid : Prop := treePlaysUptoRow.holds Try.pinned (OpenSpec.upto treePlaysSpec)

/-- 'quirlaw.LockPlays', WHERE WHAT IT READS IS OF BULK AT MOST 1048576: true; the input reads as it did. -/
def lockPlaysUptoRow : OpenClaim := { program := "ytjbajaofdgalfaa", sum := "fdf8091ab494de3cbb66499228397a84d177abc67a0e8ca3fcecd03299946d54", func := "quirestock/quirlaw.LockPlays", spec := "lockPlays", inPlace := ["slices.overlaps[quirestock/api.LockItem]", "slices.overlaps[quirestock/api.Lock]"], unfollowed := true, recurses := true, plainKeys := false, apart := false, narrowed := true }
def LockPlaysUptoSaid : Prop := lockPlaysUptoRow.holds Try.pinned (OpenSpec.upto lockPlaysSpec)

/-- 'quirlaw.LockSays', WHERE WHAT IT READS IS OF BULK AT MOST 1048576: true; the input reads as it did. -/
def lockSaysUptoRow : OpenClaim := { program := "ytjbajaofdgalfaa", sum := "fdf8091ab494de3cbb66499228397a84d177abc67a0e8ca3fcecd03299946d54", func := "quirestock/quirlaw.LockSays", spec := "lockSays", inPlace := ["slices.overlaps[quirestock/api.LockItem]", "slices.overlaps[quirestock/api.Lock]"], unfollowed := true, recurses := true, plainKeys := false, apart := false, narrowed := true }
def LockSaysUptoSaid : Prop := lockSaysUptoRow.holds Try.pinned (OpenSpec.upto lockSaysSpec)

/-- 'quirlaw.StampPlays', WHERE WHAT IT READS IS OF BULK AT MOST 1048576: true; the input reads as it did. -/
def stampPlaysUptoRow : OpenClaim := { program := "ytjbajaofdgalfaa", sum := "fdf8091ab494de3cbb66499228397a84d177abc67a0e8ca3fcecd03299946d54", func := "quirestock/quirlaw.StampPlays", spec := "stampPlays", unfollowed := true, recurses := true, plainKeys := false, apart := false, narrowed := true }
def StampPlaysUptoSaid : Prop := stampPlaysUptoRow.holds Try.pinned (OpenSpec.upto stampPlaysSpec)

/-- 'quirlaw.RunSays', WHERE WHAT IT READS IS OF BULK AT MOST 1048576: true; the input reads as it did. -/
def runSaysUptoRow : OpenClaim := { program := "ytjbajaofdgalfaa", sum := "fdf8091ab494de3cbb66499228397a84d177abc67a0e8ca3fcecd03299946d54", func := "quirestock/quirlaw.RunSays", spec := "runSays", unfollowed := true, recurses := true, plainKeys := false, apart := false, narrowed := true }
def RunSaysUptoSaid : Prop := runSaysUptoRow.holds Try.pinned (OpenSpec.upto runSaysSpec)

/-- 'quirlaw.OrderTells', WHERE WHAT IT READS IS OF BULK AT MOST 1048576: true; the input reads as it did. -/
def orderTellsUptoRow : OpenClaim := { program := "ytjbajaofdgalfaa", sum := "fdf8091ab494de3cbb66499228397a84d177abc67a0e8ca3fcecd03299946d54", func := "quirestock/quirlaw.OrderTells", spec := "orderTells", inPlace := ["slices.overlaps[quirestock/api.Tale]"], unfollowed := true, recurses := true, plainKeys := false, apart := false, narrowed := true }
def OrderTellsUptoSaid : Prop := orderTellsUptoRow.holds Try.pinned (OpenSpec.upto orderTellsSpec)

/-- 'quirlaw.RunLikes', WHERE WHAT IT READS IS OF BULK AT MOST 1048576: true; the input reads as it did. -/
def runLikesUptoRow : OpenClaim := { program := "ytjbajaofdgalfaa", sum := "fdf8091ab494de3cbb66499228397a84d177abc67a0e8ca3fcecd03299946d54", func := "quirestock/quirlaw.RunLikes", spec := "runLikes", unfollowed := true, recurses := true, plainKeys := false, apart := false, narrowed := true }
def RunLikesUptoSaid : Prop := runLikesUptoRow.holds Try.pinned (OpenSpec.upto runLikesSpec)

/-- 'quirlaw.BuddySays', WHERE WHAT IT READS IS OF BULK AT MOST 1048576: true; the input reads as it did. -/
def buddySaysUptoRow : OpenClaim := { program := "ytjbajaofdgalfaa", sum := "fdf8091ab494de3cbb66499228397a84d177abc67a0e8ca3fcecd03299946d54", func := "quirestock/quirlaw.BuddySays", spec := "buddySays", inPlace := ["slices.overlaps[quirestock/api.Block]"], unfollowed := true, recurses := true, plainKeys := false, apart := false, narrowed := true }
def BuddySaysUptoSaid : Prop := buddySaysUptoRow.holds Try.pinned (OpenSpec.upto buddySaysSpec)

/-- 'quirlaw.GraphSays', WHERE WHAT IT READS IS OF BULK AT MOST 1048576: true; the input reads as it did. -/
def graphSaysUptoRow : OpenClaim := { program := "ytjbajaofdgalfaa", sum := "fdf8091ab494de3cbb66499228397a84d177abc67a0e8ca3fcecd03299946d54", func := "quirestock/quirlaw.GraphSays", spec := "graphSays", unfollowed := true, recurses := true, plainKeys := false, apart := false, narrowed := true }
def GraphSaysUptoSaid : Prop := graphSaysUptoRow.holds Try.pinned (OpenSpec.upto graphSaysSpec)

/-- 'quirlaw.WaitSays', WHERE WHAT IT READS IS OF BULK AT MOST 1048576: true; the input reads as it did. -/
def waitSaysUptoRow : OpenClaim := { program := "ytjbajaofdgalfaa", sum := "fdf8091ab494de3cbb66499228397a84d177abc67a0e8ca3fcecd03299946d54", func := "quirestock/quirlaw.WaitSays", spec := "waitSays", unfollowed := true, recurses := true, plainKeys := false, apart := false, narrowed := true }
def WaitSaysUptoSaid : Prop := waitSaysUptoRow.holds Try.pinned (OpenSpec.upto waitSaysSpec)

/-- 'quirlaw.OrderSays', WHERE WHAT IT READS IS OF BULK AT MOST 1048576: true; the input reads as it did. -/
def orderSaysUptoRow : OpenClaim := { program := "ytjbajaofdgalfaa", sum := "fdf8091ab494de3cbb66499228397a84d177abc67a0e8ca3fcecd03299946d54", func := "quirestock/quirlaw.OrderSays", spec := "orderSays", unfollowed := true, recurses := true, plainKeys := false, apart := false, narrowed := true }
def OrderSaysUptoSaid : Prop := orderSaysUptoRow.holds Try.pinned (OpenSpec.upto orderSaysSpec)

end Rows
end Go.Proofs.Ytjbajaofdgalfaa
