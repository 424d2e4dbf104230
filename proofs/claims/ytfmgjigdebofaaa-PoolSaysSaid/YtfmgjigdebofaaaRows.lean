/-
  No cell of these rows narrows 'for every input' (looked for: loops, veiled, ifaces, maps, wideKeys, modest, calm, conditions, laid).
  DERIVED. THE GIVEN ROWS OF THIS SEAT. 12 by the template 'for every input the law returns true; each argument reads behind the call as it read before'; 0 by the template 'total and deterministic' (their statements: YtfmgjigdebofaaaTotals.lean).
  GIVEN WITH THE SEED: the statements are not yours to turn. If you find one false, say at which input.
  Laid BY PROGRAM, IN A SANDBOX (cutbox-rows.mjs): the forced cells as the released guide's own fill.sh prints them over the translation 6757fb41b46e629a… (all of the seat's roots in one cut). By AI agents, Wed Nov 11 2026. No macro, syntax, notation, axiom, sorry.
-/
import Derived.Test.YtfmgjigdebofaaaChecked
import GoSem.Claim
import GoSem.ClaimJoined
import GoSem.ClaimMapViews
import Derived.JoinedTies
import Derived.KernelRfl
namespace Go.Proofs.Ytfmgjigdebofaaa
/- THE CELL 'sum', in the pinned program and in every row, IS THE sha256 OF THE DUMP (.gsa) THAT YtfmgjigdebofaaaProg.lean LOADS. Nothing in Lean hashes anything: it is a label: what it is worth is what the hold of that sum in a sandbox is worth. -/
noncomputable def Try.pinned : Pinned := { name := "ytfmgjigdebofaaa", sum := "6757fb41b46e629a57329fe852b9e90fe4666f26ff33b5b589a9cdd697dfc9bb", checked := Try.checked }
namespace Rows
def none {H : Type} : Left H := { results := [], args := [] }

/-- 'quirlaw.Names': WHATEVER THE INPUT: true; the input reads as it did. -/
def namesSpec : ChangeSpec := { name := "names", fn := fun _ => fun
  | [] => { results := [.lit (.bool true)], args := [] }
  | _ => none }
def namesRow : OpenClaim := { program := "ytfmgjigdebofaaa", sum := "6757fb41b46e629a57329fe852b9e90fe4666f26ff33b5b589a9cdd697dfc9bb", func := "quirestock/quirlaw.Names", spec := "names", apart := false }
def NamesSaid : Prop := namesRow.holds Try.pinned (OpenSpec.ofChange namesSpec)

/-- ITS FALSE NEIGHBOUR: 'it returns false'. Refute it at one input. -/
def namesWrong : ChangeSpec := { name := "names", fn := fun _ => fun
  | [] => { results := [.lit (.bool false)], args := [] }
  | _ => none }
def NamesWrongFalsely : Prop := namesRow.holds Try.pinned (OpenSpec.ofChange namesWrong)

/-- 'quirlaw.LockModes': WHATEVER THE INPUT: true; the input reads as it did. -/
def lockModesSpec : ChangeSpec := { name := "lockModes", fn := fun _ => fun
  | [d1, d2] => { results := [.lit (.bool true)], args := [d1, d2] }
  | _ => none }
def lockModesRow : OpenClaim := { program := "ytfmgjigdebofaaa", sum := "6757fb41b46e629a57329fe852b9e90fe4666f26ff33b5b589a9cdd697dfc9bb", func := "quirestock/quirlaw.LockModes", spec := "lockModes", apart := false }
def LockModesSaid : Prop := lockModesRow.holds Try.pinned (OpenSpec.ofChange lockModesSpec)

/-- ITS FALSE NEIGHBOUR: 'it returns false'. Refute it at one input. -/
def lockModesWrong : ChangeSpec := { name := "lockModes", fn := fun _ => fun
  | [d1, d2] => { results := [.lit (.bool false)], args := [d1, d2] }
  | _ => none }
def LockModesWrongFalsely : Prop := lockModesRow.holds Try.pinned (OpenSpec.ofChange lockModesWrong)

/-- 'quirlaw.FoldSays': WHATEVER THE INPUT: true; the input reads as it did. -/
def foldSaysSpec : ChangeSpec := { name := "foldSays", fn := fun _ => fun
  | [d1, d2, d3, d4] => { results := [.lit (.bool true)], args := [d1, d2, d3, d4] }
  | _ => none }
def foldSaysRow : OpenClaim := { program := "ytfmgjigdebofaaa", sum := "6757fb41b46e629a57329fe852b9e90fe4666f26ff33b5b589a9cdd697dfc9bb", func := "quirestock/quirlaw.FoldSays", spec := "foldSays", apart := false }
def FoldSaysSaid : Prop := foldSaysRow.holds Try.pinned (OpenSpec.ofChange foldSaysSpec)

/-- ITS FALSE NEIGHBOUR: 'it returns false'. Refute it at one input. -/
def foldSaysWrong : ChangeSpec := { name := "foldSays", fn := fun _ => fun
  | [d1, d2, d3, d4] => { results := [.lit (.bool false)], args := [d1, d2, d3, d4] }
  | _ => none }
def FoldSaysWrongFalsely : Prop := foldSaysRow.holds Try.pinned (OpenSpec.ofChange foldSaysWrong)

/-- 'quirlaw.CodeSays': WHATEVER THE INPUT: true; the input reads as it did. -/
def codeSaysSpec : ChangeSpec := { name := "codeSays", fn := fun _ => fun
  | [d1, d2, d3] => { results := [.lit (.bool true)], args := [d1, d2, d3] }
  | _ => none }
def codeSaysRow : OpenClaim := { program := "ytfmgjigdebofaaa", sum := "6757fb41b46e629a57329fe852b9e90fe4666f26ff33b5b589a9cdd697dfc9bb", func := "quirestock/quirlaw.CodeSays", spec := "codeSays", recurses := true, apart := false }
def CodeSaysSaid : Prop := codeSaysRow.holds Try.pinned (OpenSpec.ofChange codeSaysSpec)

/-- ITS FALSE NEIGHBOUR: 'it returns false'. Refute it at one input. -/
def codeSaysWrong : ChangeSpec := { name := "codeSays", fn := fun _ => fun
  | [d1, d2, d3] => { results := [.lit (.bool false)], args := [d1, d2, d3] }
  | _ => none }
def CodeSaysWrongFalsely : Prop := codeSaysRow.holds Try.pinned (OpenSpec.ofChange codeSaysWrong)

/-- 'quirlaw.HopeSays': WHATEVER THE INPUT: true; the input reads as it did. -/
def hopeSaysSpec : ChangeSpec := { name := "hopeSays", fn := fun _ => fun
  | [d] => { results := [.lit (.bool true)], args := [d] }
  | _ => none }
def hopeSaysRow : OpenClaim := { program := "ytfmgjigdebofaaa", sum := "6757fb41b46e629a57329fe852b9e90fe4666f26ff33b5b589a9cdd697dfc9bb", func := "quirestock/quirlaw.HopeSays", spec := "hopeSays", unfollowed := true, recurses := true, apart := false }
def HopeSaysSaid : Prop := hopeSaysRow.holds Try.pinned (OpenSpec.ofChange hopeSaysSpec)

/-- ITS FALSE NEIGHBOUR: 'it returns false'. Refute it at one input. -/
def hopeSaysWrong : ChangeSpec := { name := "hopeSays", fn := fun _ => fun
  | [d] => { results := [.lit (.bool false)], args := [d] }
  | _ => none }
def HopeSaysWrongFalsely : Prop := hopeSaysRow.holds Try.pinned (OpenSpec.ofChange hopeSaysWrong)

/-- 'quirlaw.VacSays': WHATEVER THE INPUT: true; the input reads as it did. -/
def vacSaysSpec : ChangeSpec := { name := "vacSays", fn := fun _ => fun
  | [d1, d2, d3, d4] => { results := [.lit (.bool true)], args := [d1, d2, d3, d4] }
  | _ => none }
def vacSaysRow : OpenClaim := { program := "ytfmgjigdebofaaa", sum := "6757fb41b46e629a57329fe852b9e90fe4666f26ff33b5b589a9cdd697dfc9bb", func := "quirestock/quirlaw.VacSays", spec := "vacSays", unfollowed := true, recurses := true, apart := false }
def VacSaysSaid : Prop := vacSaysRow.holds Try.pinned (OpenSpec.ofChange vacSaysSpec)

/-- ITS FALSE NEIGHBOUR: 'it returns false'. Refute it at one input. -/
def vacSaysWrong : ChangeSpec := { name := "vacSays", fn := fun _ => fun
  | [d1, d2, d3, d4] => { results := [.lit (.bool false)], args := [d1, d2, d3, d4] }
  | _ => none }
def VacSaysWrongFalsely : Prop := vacSaysRow.holds Try.pinned (OpenSpec.ofChange vacSaysWrong)

/-- 'quirlaw.SeeSays': WHATEVER THE INPUT: true; the input reads as it did. -/
def seeSaysSpec : ChangeSpec := { name := "seeSays", fn := fun _ => fun
  | [d] => { results := [.lit (.bool true)], args := [d] }
  | _ => none }
def seeSaysRow : OpenClaim := { program := "ytfmgjigdebofaaa", sum := "6757fb41b46e629a57329fe852b9e90fe4666f26ff33b5b589a9cdd697dfc9bb", func := "quirestock/quirlaw.SeeSays", spec := "seeSays", unfollowed := true, recurses := true, apart := false }
def SeeSaysSaid : Prop := seeSaysRow.holds Try.pinned (OpenSpec.ofChange seeSaysSpec)

/-- ITS FALSE NEIGHBOUR: 'it returns false'. Refute it at one input. -/
def seeSaysWrong : ChangeSpec := { name := "seeSays", fn := fun _ => fun
  | [d] => { results := [.lit (.bool false)], args := [d] }
  | _ => none }
def SeeSaysWrongFalsely : Prop := seeSaysRow.holds Try.pinned (OpenSpec.ofChange seeSaysWrong)

/-- 'quirlaw.RedoSays': WHATEVER THE INPUT: true; the input reads as it did. -/
def redoSaysSpec : ChangeSpec := { name := "redoSays", fn := fun _ => fun
  | [d1, d2, d3] => { results := [.lit (.bool true)], args := [d1, d2, d3] }
  | _ => none }
def redoSaysRow : OpenClaim := { program := "ytfmgjigdebofaaa", sum := "6757fb41b46e629a57329fe852b9e90fe4666f26ff33b5b589a9cdd697dfc9bb", func := "quirestock/quirlaw.RedoSays", spec := "redoSays", unfollowed := true, recurses := true, apart := false }
def RedoSaysSaid : Prop := redoSaysRow.holds Try.pinned (OpenSpec.ofChange redoSaysSpec)

/-- ITS FALSE NEIGHBOUR: 'it returns false'. Refute it at one input. -/
def redoSaysWrong : ChangeSpec := { name := "redoSays", fn := fun _ => fun
  | [d1, d2, d3] => { results := [.lit (.bool false)], args := [d1, d2, d3] }
  | _ => none }
def RedoSaysWrongFalsely : Prop := redoSaysRow.holds Try.pinned (OpenSpec.ofChange redoSaysWrong)

/-- 'quirlaw.PoolSays': WHATEVER THE INPUT: true; the input reads as it did. -/
def poolSaysSpec : ChangeSpec := { name := "poolSays", fn := fun _ => fun
  | [d1, d2] => { results := [.lit (.bool true)], args := [d1, d2] }
  | _ => none }
def poolSaysRow : OpenClaim := { program := "ytfmgjigdebofaaa", sum := "6757fb41b46e629a57329fe852b9e90fe4666f26ff33b5b589a9cdd697dfc9bb", func := "quirestock/quirlaw.PoolSays", spec := "poolSays", unfollowed := true, recurses := true, apart := false }
def PoolSaysSaid : Prop := poolSaysRow.holds Try.pinned (OpenSpec.ofChange poolSaysSpec)

/-- ITS FALSE NEIGHBOUR: 'it returns false'. Refute it at one input. -/
def poolSaysWrong : ChangeSpec := { name := "poolSays", fn := fun _ => fun
  | [d1, d2] => { results := [.lit (.bool false)], args := [d1, d2] }
  | _ => none }
def PoolSaysWrongFalsely : Prop := poolSaysRow.holds Try.pinned (OpenSpec.ofChange poolSaysWrong)

/-- 'quirlaw.PactSays': WHATEVER THE INPUT: true; the input reads as it did. -/
def pactSaysSpec : ChangeSpec := { name := "pactSays", fn := fun _ => fun
  | [d1, d2, d3] => { results := [.lit (.bool true)], args := [d1, d2, d3] }
  | _ => none }
def pactSaysRow : OpenClaim := { program := "ytfmgjigdebofaaa", sum := "6757fb41b46e629a57329fe852b9e90fe4666f26ff33b5b589a9cdd697dfc9bb", func := "quirestock/quirlaw.PactSays", spec := "pactSays", unfollowed := true, recurses := true, apart := false }
def PactSaysSaid : Prop := pactSaysRow.holds Try.pinned (OpenSpec.ofChange pactSaysSpec)

/-- ITS FALSE NEIGHBOUR: 'it returns false'. Refute it at one input. -/
def pactSaysWrong : ChangeSpec := { name := "pactSays", fn := fun _ => fun
  | [d1, d2, d3] => { results := [.lit (.bool false)], args := [d1, d2, d3] }
  | _ => none }
def PactSaysWrongFalsely : Prop := pactSaysRow.holds Try.pinned (OpenSpec.ofChange pactSaysWrong)

/-- 'quirlaw.LeafSays': WHATEVER THE INPUT: true; the input reads as it did. -/
def leafSaysSpec : ChangeSpec := { name := "leafSays", fn := fun _ => fun
  | [d1, d2, d3, d4] => { results := [.lit (.bool true)], args := [d1, d2, d3, d4] }
  | _ => none }
def leafSaysRow : OpenClaim := { program := "ytfmgjigdebofaaa", sum := "6757fb41b46e629a57329fe852b9e90fe4666f26ff33b5b589a9cdd697dfc9bb", func := "quirestock/quirlaw.LeafSays", spec := "leafSays", unfollowed := true, recurses := true, apart := false }
def LeafSaysSaid : Prop := leafSaysRow.holds Try.pinned (OpenSpec.ofChange leafSaysSpec)

/-- ITS FALSE NEIGHBOUR: 'it returns false'. Refute it at one input. -/
def leafSaysWrong : ChangeSpec := { name := "leafSays", fn := fun _ => fun
  | [d1, d2, d3, d4] => { results := [.lit (.bool false)], args := [d1, d2, d3, d4] }
  | _ => none }
def LeafSaysWrongFalsely : Prop := leafSaysRow.holds Try.pinned (OpenSpec.ofChange leafSaysWrong)

/-- 'quirlaw.SnapPlays': WHATEVER THE INPUT: true; the input reads as it did. -/
def snapPlaysSpec : ChangeSpec := { name := "snapPlays", fn := fun _ => fun
  | [d] => { results := [.lit (.bool true)], args := [d] }
  | _ => none }
def snapPlaysRow : OpenClaim := { program := "ytfmgjigdebofaaa", sum := "6757fb41b46e629a57329fe852b9e90fe4666f26ff33b5b589a9cdd697dfc9bb", func := "quirestock/quirlaw.SnapPlays", spec := "snapPlays", unfollowed := true, recurses := true, apart := false }
def SnapPlaysSaid : Prop := snapPlaysRow.holds Try.pinned (OpenSpec.ofChange snapPlaysSpec)

/-- ITS FALSE NEIGHBOUR: 'it returns false'. Refute it at one input. -/
def snapPlaysWrong : ChangeSpec := { name := "snapPlays", fn := fun _ => fun
  | [d] => { results := [.lit (.bool false)], args := [d] }
  | _ => none }
def SnapPlaysWrongFalsely : Prop := snapPlaysRow.holds Try.pinned (OpenSpec.ofChange snapPlaysWrong)

/- THE SECOND FORM. 'bulk': how many values and letters a reading holds, each counted each time it is reached (what is shared counts as often as it is met; a slice's spare places count too). A statement '..UptoSaid' is the law's where the arguments, and the package variables that the reading takes, are together of bulk at most 1048576: NARROWER than '..Said'. Prove '..Said' where nothing that the law and all that it calls make is longer than what came in: it says more and counts as full. Else prove '..UptoSaid'. A law counts once. -/
mutual
def uptoBulk {H : Type} : DataW H → Nat
  | .lit (.string bytes) => bytes.length + 1
  | .lit _ => 1
  | .nil => 1
  | .ptr d => uptoBulk d + 1
  | .slice elems spare => uptoBulkAll elems + uptoBulkAll spare + 1
  | .agg parts => uptoBulkAll parts + 1
  | .iface _ d => uptoBulk d + 1
  | .map entries => uptoBulkEntries entries + 1
  | .held _ => 1
def uptoBulkAll {H : Type} : List (DataW H) → Nat
  | [] => 0
  | d :: r => uptoBulk d + uptoBulkAll r
def uptoBulkEntries {H : Type} : List (Lit × DataW H) → Nat
  | [] => 0
  | x :: r => uptoBulkEntry x + uptoBulkEntries r
def uptoBulkEntry {H : Type} : Lit × DataW H → Nat
  | (.string bytes, d) => bytes.length + uptoBulk d + 1
  | (_, d) => uptoBulk d + 1
 end
def uptoSmall : (H : Type) → List (DataW H) → Bool := fun _ ds => decide (uptoBulkAll ds ≤ 1048576)
def OpenSpec.upto (s : _root_.Go.ChangeSpec) : _root_.Go.OpenSpec := { _root_.Go.OpenSpec.ofChange s with cond := some uptoSmall }

/-- 'quirlaw.Names', WHERE WHAT IT READS IS OF BULK AT MOST 1048576: true; the input reads as it did. -/
def namesUptoRow : OpenClaim := { program := "ytfmgjigdebofaaa", sum := "6757fb41b46e629a57329fe852b9e90fe4666f26ff33b5b589a9cdd697dfc9bb", func := "quirestock/quirlaw.Names", spec := "names", apart := false, narrowed := true }
def NamesUptoSaid : Prop := namesUptoRow.holds Try.pinned (OpenSpec.upto namesSpec)

/-- 'quirlaw.LockModes', WHERE WHAT IT READS IS OF BULK AT MOST 1048576: true; the input reads as it did. -/
def lockModesUptoRow : OpenClaim := { program := "ytfmgjigdebofaaa", sum := "6757fb41b46e629a57329fe852b9e90fe4666f26ff33b5b589a9cdd697dfc9bb", func := "quirestock/quirlaw.LockModes", spec := "lockModes", apart := false, narrowed := true }
def LockModesUptoSaid : Prop := lockModesUptoRow.holds Try.pinned (OpenSpec.upto lockModesSpec)

/-- 'quirlaw.FoldSays', WHERE WHAT IT READS IS OF BULK AT MOST 1048576: true; the input reads as it did. -/
def foldSaysUptoRow : OpenClaim := { program := "ytfmgjigdebofaaa", sum := "6757fb41b46e629a57329fe852b9e90fe4666f26ff33b5b589a9cdd697dfc9bb", func := "quirestock/quirlaw.FoldSays", spec := "foldSays", apart := false, narrowed := true }
def FoldSaysUptoSaid : Prop := foldSaysUptoRow.holds Try.pinned (OpenSpec.upto foldSaysSpec)

/-- 'quirlaw.CodeSays', WHERE WHAT IT READS IS OF BULK AT MOST 1048576: true; the input reads as it did. -/
def codeSaysUptoRow : OpenClaim := { program := "ytfmgjigdebofaaa", sum := "6757fb41b46e629a57329fe852b9e90fe4666f26ff33b5b589a9cdd697dfc9bb", func := "quirestock/quirlaw.CodeSays", spec := "codeSays", recurses := true, apart := false, narrowed := true }
def CodeSaysUptoSaid : Prop := codeSaysUptoRow.holds Try.pinned (OpenSpec.upto codeSaysSpec)

/-- 'quirlaw.HopeSays', WHERE WHAT IT READS IS OF BULK AT MOST 1048576: true; the input reads as it did. -/
def hopeSaysUptoRow : OpenClaim := { program := "ytfmgjigdebofaaa", sum := "6757fb41b46e629a57329fe852b9e90fe4666f26ff33b5b589a9cdd697dfc9bb", func := "quirestock/quirlaw.HopeSays", spec := "hopeSays", unfollowed := true, recurses := true, apart := false, narrowed := true }
def HopeSaysUptoSaid : Prop := hopeSaysUptoRow.holds Try.pinned (OpenSpec.upto hopeSaysSpec)

/-- 'quirlaw.VacSays', WHERE WHAT IT READS IS OF BULK AT MOST 1048576: true; the input reads as it did. -/
def vacSaysUptoRow : OpenClaim := { program := "ytfmgjigdebofaaa", sum := "6757fb41b46e629a57329fe852b9e90fe4666f26ff33b5b589a9cdd697dfc9bb", func := "quirestock/quirlaw.VacSays", spec := "vacSays", unfollowed := true, recurses := true, apart := false, narrowed := true }
def VacSaysUptoSaid : Prop := vacSaysUptoRow.holds Try.pinned (OpenSpec.upto vacSaysSpec)

/-- 'quirlaw.SeeSays', WHERE WHAT IT READS IS OF BULK AT MOST 1048576: true; the input reads as it did. -/
def seeSaysUptoRow : OpenClaim := { program := "ytfmgjigdebofaaa", sum := "6757fb41b46e629a57329fe852b9e90fe4666f26ff33b5b589a9cdd697dfc9bb", func := "quirestock/quirlaw.SeeSays", spec := "seeSays", unfollowed := true, recurses := true, apart := false, narrowed := true }
def SeeSaysUptoSaid : Prop := seeSaysUptoRow.holds Try.pinned (OpenSpec.upto seeSaysSpec)

/-- 'quirlaw.RedoSays', WHERE WHAT IT READS IS OF BULK AT MOST 1048576: true; the input reads as it did. -/
def redoSaysUptoRow : OpenClaim := { program := "ytfmgjigdebofaaa", sum := "6757fb41b46e629a57329fe852b9e90fe4666f26ff33b5b589a9cdd697dfc9bb", func := "quirestock/quirlaw.RedoSays", spec := "redoSays", unfollowed := true, recurses := true, apart := false, narrowed := true }
def RedoSaysUptoSaid : Prop := redoSaysUptoRow.holds Try.pinned (OpenSpec.upto redoSaysSpec)

/-- 'quirlaw.PoolSays', WHERE WHAT IT READS IS OF BULK AT MOST 1048576: true; the input reads as it did. -/
def poolSaysUptoRow : OpenClaim := { program := "ytfmgjigdebofaaa", sum := "6757fb41b46e629a57329fe852b9e90fe4666f26ff33b5b589a9cdd697dfc9bb", func := "quirestock/quirlaw.PoolSays", spec := "poolSays", unfollowed := true, recurses := true, apart := false, narrowed := true }
def PoolSaysUptoSaid : Prop := poolSaysUptoRow.holds Try.pinned (OpenSpec.upto poolSaysSpec)

/-- 'quirlaw.PactSays', WHERE WHAT IT READS IS OF BULK AT MOST 1048576: true; the input reads as it did. -/
def pactSaysUptoRow : OpenClaim := { program := "ytfmgjigdebofaaa", sum := "6757fb41b46e629a57329fe852b9e90fe4666f26ff33b5b589a9cdd697dfc9bb", func := "quirestock/quirlaw.PactSays", spec := "pactSays", unfollowed := true, recurses := true, apart := false, narrowed := true }
def PactSaysUptoSaid : Prop := pactSaysUptoRow.holds Try.pinned (OpenSpec.upto pactSaysSpec)

/-- 'quirlaw.LeafSays', WHERE WHAT IT READS IS OF BULK AT MOST 1048576: true; the input reads as it did. -/
def leafSaysUptoRow : OpenClaim := { program := "ytfmgjigdebofaaa", sum := "6757fb41b46e629a57329fe852b9e90fe4666f26ff33b5b589a9cdd697dfc9bb", func := "quirestock/quirlaw.LeafSays", spec := "leafSays", unfollowed := true, recurses := true, apart := false, narrowed := true }
def LeafSaysUptoSaid : Prop := leafSaysUptoRow.holds Try.pinned (OpenSpec.upto leafSaysSpec)

/-- 'quirlaw.SnapPlays', WHERE WHAT IT READS IS OF BULK AT MOST 1048576: true; the input reads as it did. -/
def snapPlaysUptoRow : OpenClaim := { program := "ytfmgjigdebofaaa", sum := "6757fb41b46e629a57329fe852b9e90fe4666f26ff33b5b589a9cdd697dfc9bb", func := "quirestock/quirlaw.SnapPlays", spec := "snapPlays", unfollowed := true, recurses := true, apart := false, narrowed := true }
def SnapPlaysUptoSaid : Prop := snapPlaysUptoRow.holds Try.pinned (OpenSpec.upto snapPlaysSpec)

end Rows
end Go.Proofs.Ytfmgjigdebofaaa
