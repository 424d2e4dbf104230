/-
  Models, printed by a program of mine.
  Conditions: none.
-/
import Derived.Test.YtfmgjigdebofaaaT
namespace Go.Proofs.Ytfmgjigdebofaaa
open Go.S
set_option linter.unusedVariables false
structure TPact where
  Lead : Int
  Votes : (List Int)
  Parts : (List Int)
  deriving DecidableEq
structure TBeat where
  Kind : Int
  Who : Int
  By : Int
  deriving DecidableEq
def TBeat.row (x : TBeat) : List Value := [.int .i64 x.Kind, .int .i64 x.Who, .int .i64 x.By]
def m72_pact_New_K2 (gl2 : (List Int)) (gl4 : (List Int)) : Option (TPact × Int) :=
  some ((⟨0, gl2, gl4⟩ : TPact), 0)
def m72_pact_New_K1 (a0 : Int) : Option (TPact × Int) :=
  bind1 (mk a0 0) fun y8 => bind1 (mk a0 0) fun y10 => m72_pact_New_K2 y8 y10
def m72_pact_New (a0 : Int) : Option (TPact × Int) :=
  if a0 < 1 then some ((⟨0, [], []⟩ : TPact), 1) else if 8 < a0 then some ((⟨0, [], []⟩ : TPact), 1) else m72_pact_New_K1 a0
def m128_quirref_PactErr_1 (a0 : Int) : Option Bool :=
  some (decide (a0 ≠ 1))
def m73_quirref_PactErr_K5 (gx2 : Int) (gb5 : Bool) : Option Int :=
  if gb5 = true then if gx2 = 0 then some 4 else some 0 else some 0
def m73_quirref_PactErr_K4 (a0 : TPact) (gx1 : Int) (gx2 : Int) (gb4 : Bool) : Option Int :=
  if gb4 = true then some 4 else if a0.Lead = 0 then if 0 < gx1 then m73_quirref_PactErr_K5 gx2 true else m73_quirref_PactErr_K5 gx2 false else m73_quirref_PactErr_K5 gx2 false
def m73_quirref_PactErr_K7 (gx2 : Int) (gb7 : Bool) : Option Int :=
  if gb7 = true then if gx2 = 0 then some 4 else some 0 else some 0
def m73_quirref_PactErr_K6 (a0 : TPact) (gx1 : Int) (gx2 : Int) (gb6 : Bool) : Option Int :=
  if gb6 = true then some 4 else if a0.Lead = 0 then if 0 < gx1 then m73_quirref_PactErr_K7 gx2 true else m73_quirref_PactErr_K7 gx2 false else m73_quirref_PactErr_K7 gx2 false
def m73_quirref_PactErr_K3 (a0 : TPact) (gx1 : Int) (gx2 : Int) (gb3 : Bool) : Option Int :=
  if gb3 = true then if a0.Lead = 1 then if 0 < gx1 then m73_quirref_PactErr_K6 a0 gx1 gx2 true else m73_quirref_PactErr_K6 a0 gx1 gx2 false else m73_quirref_PactErr_K6 a0 gx1 gx2 false else if a0.Lead = 1 then if 0 < gx1 then m73_quirref_PactErr_K4 a0 gx1 gx2 true else m73_quirref_PactErr_K4 a0 gx1 gx2 true else m73_quirref_PactErr_K4 a0 gx1 gx2 false
def m73_quirref_PactErr_K8 (a0 : TPact) (gx1 : Int) (gx2 : Int) (gb8 : Bool) : Option Int :=
  if gb8 = true then m73_quirref_PactErr_K3 a0 gx1 gx2 false else m73_quirref_PactErr_K3 a0 gx1 gx2 true
def m73_quirref_PactErr_K9 (a0 : TPact) (gx1 : Int) (gx2 : Int) (gx9 : Int) : Option Int :=
  m73_quirref_PactErr_K8 a0 gx1 gx2 (decide (0 ≤ gx9))
def m73_quirref_PactErr_K10 (a0 : TPact) (gx1 : Int) (gx2 : Int) : Option Int :=
  m73_quirref_PactErr_K9 a0 gx1 gx2 (-1)
def m73_quirref_PactErr_K11 (x13 : Int) (a0 : TPact) (gx1 : Int) (gx2 : Int) (gx10 : Int) (go1 : Int → Option Int) : Option Int :=
  if (decide (x13 ≠ 1)) = true then m73_quirref_PactErr_K9 a0 gx1 gx2 gx10 else bind1 (i64 (gx10 + 1)) fun x14 => go1 x14
def m73_quirref_PactErr_L1B (go1 : Int → Option Int) (a0 : TPact) (gx1 : Int) (gx2 : Int) (gx10 : Int) : Option Int :=
  if gx10 < (a0.Votes.length : Int) then bind1 (idx a0.Votes gx10) fun x13 => m73_quirref_PactErr_K11 x13 a0 gx1 gx2 gx10 go1 else m73_quirref_PactErr_K10 a0 gx1 gx2
def m73_quirref_PactErr_L1 (a0 : TPact) (gx1 : Int) (gx2 : Int) : Nat → Int → Option Int
  | 0, _ => none
  | n + 1, gx10 => m73_quirref_PactErr_L1B (m73_quirref_PactErr_L1 a0 gx1 gx2 n) a0 gx1 gx2 gx10
def m73_quirref_PactErr_K2 (a0 : TPact) (gx1 : Int) (gx2 : Int) : Option Int :=
  m73_quirref_PactErr_L1 a0 gx1 gx2 big 0
def m73_quirref_PactErr_K12 (gx13 : Int) (go2 : Int → Int → Int → Option Int) (gx14 : Int) (gx15 : Int) : Option Int :=
  bind1 (i64 (gx13 + 1)) fun x16 => go2 gx14 gx15 x16
def m73_quirref_PactErr_K14 (x17 : Int) (gx11 : Int) (x18 : Int) (gx12 : Int) (gx13 : Int) (go2 : Int → Int → Int → Option Int) : Option Int :=
  if x17 = 3 then bind1 (i64 (gx11 + 1)) fun x20 => if x18 ≠ 1 then bind1 (i64 (gx12 + 1)) fun x22 => m73_quirref_PactErr_K12 gx13 go2 x20 x22 else m73_quirref_PactErr_K12 gx13 go2 x20 gx12 else m73_quirref_PactErr_K12 gx13 go2 gx11 gx12
def m73_quirref_PactErr_K17 (x17 : Int) (gx11 : Int) (x18 : Int) (gx12 : Int) (gx13 : Int) (go2 : Int → Int → Int → Option Int) (gb18 : Bool) : Option Int :=
  if gb18 = true then some 4 else m73_quirref_PactErr_K14 x17 gx11 x18 gx12 gx13 go2
def m73_quirref_PactErr_K16 (x17 : Int) (a0 : TPact) (gx11 : Int) (x18 : Int) (gx12 : Int) (gx13 : Int) (go2 : Int → Int → Int → Option Int) (gb17 : Bool) : Option Int :=
  if gb17 = true then some 4 else if x17 = 2 then if a0.Lead ≠ 1 then m73_quirref_PactErr_K17 x17 gx11 x18 gx12 gx13 go2 true else m73_quirref_PactErr_K17 x17 gx11 x18 gx12 gx13 go2 false else m73_quirref_PactErr_K17 x17 gx11 x18 gx12 gx13 go2 false
def m73_quirref_PactErr_K15 (x18 : Int) (x17 : Int) (a0 : TPact) (gx11 : Int) (gx12 : Int) (gx13 : Int) (go2 : Int → Int → Int → Option Int) (gb16 : Bool) : Option Int :=
  if gb16 = true then some 4 else if x18 = 1 then if x17 = 0 then m73_quirref_PactErr_K16 x17 a0 gx11 x18 gx12 gx13 go2 true else m73_quirref_PactErr_K16 x17 a0 gx11 x18 gx12 gx13 go2 false else m73_quirref_PactErr_K16 x17 a0 gx11 x18 gx12 gx13 go2 false
def m73_quirref_PactErr_K13 (x18 : Int) (x17 : Int) (a0 : TPact) (gx11 : Int) (gx12 : Int) (gx13 : Int) (go2 : Int → Int → Int → Option Int) : Option Int :=
  if x18 = 2 then if x17 ≠ 3 then m73_quirref_PactErr_K15 x18 x17 a0 gx11 gx12 gx13 go2 true else m73_quirref_PactErr_K15 x18 x17 a0 gx11 gx12 gx13 go2 false else m73_quirref_PactErr_K15 x18 x17 a0 gx11 gx12 gx13 go2 false
def m73_quirref_PactErr_K18 (x18 : Int) (x17 : Int) (a0 : TPact) (gx11 : Int) (gx12 : Int) (gx13 : Int) (go2 : Int → Int → Int → Option Int) (gb19 : Bool) : Option Int :=
  if gb19 = true then some 1 else if x18 < 0 then some 1 else if 2 < x18 then some 1 else m73_quirref_PactErr_K13 x18 x17 a0 gx11 gx12 gx13 go2
def m73_quirref_PactErr_L2B (go2 : Int → Int → Int → Option Int) (a0 : TPact) (gx11 : Int) (gx12 : Int) (gx13 : Int) : Option Int :=
  if gx13 < (a0.Parts.length : Int) then bind1 (idx a0.Parts gx13) fun x17 => bind1 (idx a0.Votes gx13) fun x18 => if x17 < 0 then m73_quirref_PactErr_K18 x18 x17 a0 gx11 gx12 gx13 go2 true else if 3 < x17 then m73_quirref_PactErr_K18 x18 x17 a0 gx11 gx12 gx13 go2 true else m73_quirref_PactErr_K18 x18 x17 a0 gx11 gx12 gx13 go2 false else m73_quirref_PactErr_K2 a0 gx11 gx12
def m73_quirref_PactErr_L2 (a0 : TPact) : Nat → Int → Int → Int → Option Int
  | 0, _, _, _ => none
  | n + 1, gx11, gx12, gx13 => m73_quirref_PactErr_L2B (m73_quirref_PactErr_L2 a0 n) a0 gx11 gx12 gx13
def m73_quirref_PactErr_K1 (a0 : TPact) : Option Int :=
  m73_quirref_PactErr_L2 a0 big 0 0 0
def m73_quirref_PactErr_K20 (a0 : TPact) (gb21 : Bool) : Option Int :=
  if gb21 = true then some 1 else if 2 < a0.Lead then some 1 else m73_quirref_PactErr_K1 a0
def m73_quirref_PactErr_K19 (a0 : TPact) (gb20 : Bool) : Option Int :=
  if gb20 = true then some 1 else if (a0.Votes.length : Int) ≠ (a0.Parts.length : Int) then m73_quirref_PactErr_K20 a0 true else if a0.Lead < 0 then m73_quirref_PactErr_K20 a0 true else m73_quirref_PactErr_K20 a0 false
def m73_quirref_PactErr (a0 : TPact) : Option Int :=
  if (a0.Parts.length : Int) < 1 then m73_quirref_PactErr_K19 a0 true else if 8 < (a0.Parts.length : Int) then m73_quirref_PactErr_K19 a0 true else m73_quirref_PactErr_K19 a0 false
def m77_pact_Check_K4 (gb2 : Bool) (gb5 : Bool) : Option Int :=
  if gb5 = true then if gb2 = true then some 0 else some 4 else some 0
def m77_pact_Check_K3 (a0 : TPact) (gb3 : Bool) (gb2 : Bool) (gb4 : Bool) : Option Int :=
  if gb4 = true then some 4 else if a0.Lead = 0 then if gb3 = true then m77_pact_Check_K4 gb2 true else m77_pact_Check_K4 gb2 false else m77_pact_Check_K4 gb2 false
def m77_pact_Check_K2 (a0 : TPact) (gb1 : Bool) (gb2 : Bool) (gb3 : Bool) : Option Int :=
  if a0.Lead = 1 then if gb1 = true then if gb3 = true then m77_pact_Check_K3 a0 gb3 gb2 true else m77_pact_Check_K3 a0 gb3 gb2 false else m77_pact_Check_K3 a0 gb3 gb2 true else m77_pact_Check_K3 a0 gb3 gb2 false
def m77_pact_Check_K9 (gx9 : Int) (go1 : Bool → Bool → Bool → Int → Option Int) (gb12 : Bool) : Option Int :=
  if gb12 = true then bind1 (i64 (gx9 + 1)) fun x12 => go1 false true false x12 else bind1 (i64 (gx9 + 1)) fun x11 => go1 false false false x11
def m77_pact_Check_K10 (gx9 : Int) (go1 : Bool → Bool → Bool → Int → Option Int) (gb13 : Bool) : Option Int :=
  if gb13 = true then bind1 (i64 (gx9 + 1)) fun x17 => go1 false true true x17 else bind1 (i64 (gx9 + 1)) fun x16 => go1 false false true x16
def m77_pact_Check_K8 (gb7 : Bool) (gx9 : Int) (go1 : Bool → Bool → Bool → Int → Option Int) (x9 : Int) (x10 : Int) (gb11 : Bool) : Option Int :=
  if gb11 = true then if gb7 = true then m77_pact_Check_K10 gx9 go1 true else if x9 = 3 then if x10 ≠ 1 then m77_pact_Check_K10 gx9 go1 true else m77_pact_Check_K10 gx9 go1 false else m77_pact_Check_K10 gx9 go1 false else if gb7 = true then m77_pact_Check_K9 gx9 go1 true else if x9 = 3 then if x10 ≠ 1 then m77_pact_Check_K9 gx9 go1 true else m77_pact_Check_K9 gx9 go1 false else m77_pact_Check_K9 gx9 go1 false
def m77_pact_Check_K11 (gb7 : Bool) (gx9 : Int) (go1 : Bool → Bool → Bool → Int → Option Int) (x9 : Int) (x10 : Int) (gb14 : Bool) : Option Int :=
  if gb14 = true then m77_pact_Check_K8 gb7 gx9 go1 x9 x10 true else m77_pact_Check_K8 gb7 gx9 go1 x9 x10 false
def m77_pact_Check_K13 (gx9 : Int) (go1 : Bool → Bool → Bool → Int → Option Int) (gb16 : Bool) : Option Int :=
  if gb16 = true then bind1 (i64 (gx9 + 1)) fun x24 => go1 true true false x24 else bind1 (i64 (gx9 + 1)) fun x23 => go1 true false false x23
def m77_pact_Check_K14 (gx9 : Int) (go1 : Bool → Bool → Bool → Int → Option Int) (gb17 : Bool) : Option Int :=
  if gb17 = true then bind1 (i64 (gx9 + 1)) fun x29 => go1 true true true x29 else bind1 (i64 (gx9 + 1)) fun x28 => go1 true false true x28
def m77_pact_Check_K12 (gb7 : Bool) (gx9 : Int) (go1 : Bool → Bool → Bool → Int → Option Int) (x9 : Int) (x10 : Int) (gb15 : Bool) : Option Int :=
  if gb15 = true then if gb7 = true then m77_pact_Check_K14 gx9 go1 true else if x9 = 3 then if x10 ≠ 1 then m77_pact_Check_K14 gx9 go1 true else m77_pact_Check_K14 gx9 go1 false else m77_pact_Check_K14 gx9 go1 false else if gb7 = true then m77_pact_Check_K13 gx9 go1 true else if x9 = 3 then if x10 ≠ 1 then m77_pact_Check_K13 gx9 go1 true else m77_pact_Check_K13 gx9 go1 false else m77_pact_Check_K13 gx9 go1 false
def m77_pact_Check_K15 (gb7 : Bool) (gx9 : Int) (go1 : Bool → Bool → Bool → Int → Option Int) (x9 : Int) (x10 : Int) (gb18 : Bool) : Option Int :=
  if gb18 = true then m77_pact_Check_K12 gb7 gx9 go1 x9 x10 true else m77_pact_Check_K12 gb7 gx9 go1 x9 x10 false
def m77_pact_Check_K7 (gb8 : Bool) (gb7 : Bool) (gx9 : Int) (go1 : Bool → Bool → Bool → Int → Option Int) (x9 : Int) (x10 : Int) (gb10 : Bool) : Option Int :=
  if gb10 = true then if gb8 = true then m77_pact_Check_K15 gb7 gx9 go1 x9 x10 true else if x9 = 3 then m77_pact_Check_K15 gb7 gx9 go1 x9 x10 true else m77_pact_Check_K15 gb7 gx9 go1 x9 x10 false else if gb8 = true then m77_pact_Check_K11 gb7 gx9 go1 x9 x10 true else if x9 = 3 then m77_pact_Check_K11 gb7 gx9 go1 x9 x10 true else m77_pact_Check_K11 gb7 gx9 go1 x9 x10 false
def m77_pact_Check_K16 (gb8 : Bool) (gb7 : Bool) (gx9 : Int) (go1 : Bool → Bool → Bool → Int → Option Int) (x9 : Int) (x10 : Int) (gb19 : Bool) : Option Int :=
  if gb19 = true then m77_pact_Check_K7 gb8 gb7 gx9 go1 x9 x10 true else m77_pact_Check_K7 gb8 gb7 gx9 go1 x9 x10 false
def m77_pact_Check_K6 (gb6 : Bool) (x10 : Int) (gb8 : Bool) (gb7 : Bool) (gx9 : Int) (go1 : Bool → Bool → Bool → Int → Option Int) (x9 : Int) : Option Int :=
  if gb6 = true then if x10 = 1 then m77_pact_Check_K16 gb8 gb7 gx9 go1 x9 x10 true else m77_pact_Check_K16 gb8 gb7 gx9 go1 x9 x10 false else m77_pact_Check_K16 gb8 gb7 gx9 go1 x9 x10 false
def m77_pact_Check_K19 (gb6 : Bool) (x10 : Int) (gb8 : Bool) (gb7 : Bool) (gx9 : Int) (go1 : Bool → Bool → Bool → Int → Option Int) (x9 : Int) (gb22 : Bool) : Option Int :=
  if gb22 = true then some 4 else m77_pact_Check_K6 gb6 x10 gb8 gb7 gx9 go1 x9
def m77_pact_Check_K18 (x9 : Int) (a0 : TPact) (gb6 : Bool) (x10 : Int) (gb8 : Bool) (gb7 : Bool) (gx9 : Int) (go1 : Bool → Bool → Bool → Int → Option Int) (gb21 : Bool) : Option Int :=
  if gb21 = true then some 4 else if x9 = 2 then if a0.Lead ≠ 1 then m77_pact_Check_K19 gb6 x10 gb8 gb7 gx9 go1 x9 true else m77_pact_Check_K19 gb6 x10 gb8 gb7 gx9 go1 x9 false else m77_pact_Check_K19 gb6 x10 gb8 gb7 gx9 go1 x9 false
def m77_pact_Check_K17 (x10 : Int) (x9 : Int) (a0 : TPact) (gb6 : Bool) (gb8 : Bool) (gb7 : Bool) (gx9 : Int) (go1 : Bool → Bool → Bool → Int → Option Int) (gb20 : Bool) : Option Int :=
  if gb20 = true then some 4 else if x10 = 1 then if x9 = 0 then m77_pact_Check_K18 x9 a0 gb6 x10 gb8 gb7 gx9 go1 true else m77_pact_Check_K18 x9 a0 gb6 x10 gb8 gb7 gx9 go1 false else m77_pact_Check_K18 x9 a0 gb6 x10 gb8 gb7 gx9 go1 false
def m77_pact_Check_K5 (x10 : Int) (x9 : Int) (a0 : TPact) (gb6 : Bool) (gb8 : Bool) (gb7 : Bool) (gx9 : Int) (go1 : Bool → Bool → Bool → Int → Option Int) : Option Int :=
  if x10 = 2 then if x9 ≠ 3 then m77_pact_Check_K17 x10 x9 a0 gb6 gb8 gb7 gx9 go1 true else m77_pact_Check_K17 x10 x9 a0 gb6 gb8 gb7 gx9 go1 false else m77_pact_Check_K17 x10 x9 a0 gb6 gb8 gb7 gx9 go1 false
def m77_pact_Check_K20 (x10 : Int) (x9 : Int) (a0 : TPact) (gb6 : Bool) (gb8 : Bool) (gb7 : Bool) (gx9 : Int) (go1 : Bool → Bool → Bool → Int → Option Int) (gb23 : Bool) : Option Int :=
  if gb23 = true then some 1 else if x10 < 0 then some 1 else if 2 < x10 then some 1 else m77_pact_Check_K5 x10 x9 a0 gb6 gb8 gb7 gx9 go1
def m77_pact_Check_L1B (go1 : Bool → Bool → Bool → Int → Option Int) (a0 : TPact) (gb6 : Bool) (gb7 : Bool) (gb8 : Bool) (gx9 : Int) : Option Int :=
  if gx9 < (a0.Parts.length : Int) then bind1 (idx a0.Parts gx9) fun x9 => bind1 (idx a0.Votes gx9) fun x10 => if x9 < 0 then m77_pact_Check_K20 x10 x9 a0 gb6 gb8 gb7 gx9 go1 true else if 3 < x9 then m77_pact_Check_K20 x10 x9 a0 gb6 gb8 gb7 gx9 go1 true else m77_pact_Check_K20 x10 x9 a0 gb6 gb8 gb7 gx9 go1 false else m77_pact_Check_K2 a0 gb6 gb7 gb8
def m77_pact_Check_L1 (a0 : TPact) : Nat → Bool → Bool → Bool → Int → Option Int
  | 0, _, _, _, _ => none
  | n + 1, gb6, gb7, gb8, gx9 => m77_pact_Check_L1B (m77_pact_Check_L1 a0 n) a0 gb6 gb7 gb8 gx9
def m77_pact_Check_K1 (a0 : TPact) : Option Int :=
  m77_pact_Check_L1 a0 big true false false 0
def m77_pact_Check_K22 (a0 : TPact) (gb25 : Bool) : Option Int :=
  if gb25 = true then some 1 else if 2 < a0.Lead then some 1 else m77_pact_Check_K1 a0
def m77_pact_Check_K21 (a0 : TPact) (gb24 : Bool) : Option Int :=
  if gb24 = true then some 1 else if (a0.Votes.length : Int) ≠ (a0.Parts.length : Int) then m77_pact_Check_K22 a0 true else if a0.Lead < 0 then m77_pact_Check_K22 a0 true else m77_pact_Check_K22 a0 false
def m77_pact_Check (a0 : TPact) : Option Int :=
  if (a0.Parts.length : Int) < 1 then m77_pact_Check_K21 a0 true else if 8 < (a0.Parts.length : Int) then m77_pact_Check_K21 a0 true else m77_pact_Check_K21 a0 false
def m104_slices_Clone_int (a0 : (List Int)) : Option (List Int) :=
  bind1 (app [] a0) fun l3 => some l3
def m121_slices_Index_int_K1 : Option Int :=
  some (-1)
def m121_slices_Index_int_L1B (go1 : Int → Option Int) (a0 : (List Int)) (a1 : Int) (gx1 : Int) : Option Int :=
  if gx1 < (a0.length : Int) then bind1 (idx a0 gx1) fun x2 => if a1 = x2 then some gx1 else bind1 (i64 (gx1 + 1)) fun x4 => go1 x4 else m121_slices_Index_int_K1
def m121_slices_Index_int_L1 (a0 : (List Int)) (a1 : Int) : Nat → Int → Option Int
  | 0, _ => none
  | n + 1, gx1 => m121_slices_Index_int_L1B (m121_slices_Index_int_L1 a0 a1 n) a0 a1 gx1
def m121_slices_Index_int (a0 : (List Int)) (a1 : Int) : Option Int :=
  m121_slices_Index_int_L1 a0 a1 big 0
def m134_slices_Contains_int (a0 : (List Int)) (a1 : Int) : Option Bool :=
  bind1 (m121_slices_Index_int a0 a1) fun x1 => some (decide (0 ≤ x1))
def m74_pact_Step_K5 (gx7 : Int) (gl8 : (List Int)) (gl9 : (List Int)) : Option (TPact × Int) :=
  some ((⟨gx7, gl8, gl9⟩ : TPact), 0)
def m74_pact_Step_K9 (a0 : TPact) (gl3 : (List Int)) (gl13 : (List Int)) : Option (TPact × Int) :=
  m74_pact_Step_K5 a0.Lead gl3 gl13
def m74_pact_Step_K12 (gl5 : (List Int)) (a1 : TBeat) (a0 : TPact) (gl3 : (List Int)) (gb15 : Bool) : Option (TPact × Int) :=
  if gb15 = true then bind1 (idx gl5 a1.By) fun x13 => bind1 (idx gl5 a1.Who) fun x14 => bind1 (upd gl5 a1.Who x13) fun l15 => m74_pact_Step_K9 a0 gl3 l15 else m74_pact_Step_K9 a0 gl3 gl5
def m74_pact_Step_K11 (gl5 : (List Int)) (a1 : TBeat) (a0 : TPact) (gl3 : (List Int)) (x9 : Int) (gb14 : Bool) : Option (TPact × Int) :=
  if gb14 = true then bind1 (idx gl5 a1.By) fun x28 => bind1 (upd gl5 a1.By 3) fun l29 => bind1 (idx l29 a1.Who) fun x30 => bind1 (upd l29 a1.Who 3) fun l31 => m74_pact_Step_K9 a0 gl3 l31 else if x9 = 2 then m74_pact_Step_K12 gl5 a1 a0 gl3 true else if x9 = 3 then m74_pact_Step_K12 gl5 a1 a0 gl3 true else m74_pact_Step_K12 gl5 a1 a0 gl3 false
def m74_pact_Step_K10 (gl5 : (List Int)) (a1 : TBeat) (a0 : TPact) (gl3 : (List Int)) : Option (TPact × Int) :=
  bind1 (idx gl5 a1.By) fun x9 => if x9 = 0 then m74_pact_Step_K11 gl5 a1 a0 gl3 x9 true else m74_pact_Step_K11 gl5 a1 a0 gl3 x9 false
def m74_pact_Step_K13 (a0 : TPact) (gl3 : (List Int)) (gl16 : (List Int)) : Option (TPact × Int) :=
  m74_pact_Step_K5 a0.Lead gl3 gl16
def m74_pact_Step_K14 (a0 : TPact) (gl5 : (List Int)) (a1 : TBeat) (gl3 : (List Int)) (gb17 : Bool) : Option (TPact × Int) :=
  if gb17 = true then if a0.Lead = 1 then bind1 (idx gl5 a1.Who) fun x41 => bind1 (upd gl5 a1.Who 2) fun l42 => m74_pact_Step_K13 a0 gl3 l42 else if a0.Lead = 2 then bind1 (idx gl5 a1.Who) fun x44 => bind1 (upd gl5 a1.Who 3) fun l45 => m74_pact_Step_K13 a0 gl3 l45 else m74_pact_Step_K13 a0 gl3 gl5 else m74_pact_Step_K13 a0 gl3 gl5
def m74_pact_Step_K15 (a0 : TPact) (gl5 : (List Int)) (a1 : TBeat) (gl3 : (List Int)) (gb18 : Bool) : Option (TPact × Int) :=
  if gb18 = true then m74_pact_Step_K14 a0 gl5 a1 gl3 true else m74_pact_Step_K14 a0 gl5 a1 gl3 false
def m74_pact_Step_K8 (gl5 : (List Int)) (a1 : TBeat) (a0 : TPact) (gl3 : (List Int)) (gb12 : Bool) : Option (TPact × Int) :=
  if gb12 = true then bind1 (idx gl5 a1.Who) fun x46 => if x46 = 0 then m74_pact_Step_K15 a0 gl5 a1 gl3 true else bind1 (idx gl5 a1.Who) fun x48 => if x48 = 1 then m74_pact_Step_K15 a0 gl5 a1 gl3 true else m74_pact_Step_K15 a0 gl5 a1 gl3 false else if a1.Kind = 7 then bind1 (idx gl5 a1.Who) fun x37 => if x37 ≠ 1 then m74_pact_Step_K9 a0 gl3 gl5 else if a1.Who = a1.By then m74_pact_Step_K9 a0 gl3 gl5 else m74_pact_Step_K10 gl5 a1 a0 gl3 else m74_pact_Step_K5 a0.Lead gl3 gl5
def m74_pact_Step_K16 (gl3 : (List Int)) (gl5 : (List Int)) (gx19 : Int) : Option (TPact × Int) :=
  m74_pact_Step_K5 gx19 gl3 gl5
def m74_pact_Step_K7 (a0 : TPact) (gl3 : (List Int)) (gl5 : (List Int)) (a1 : TBeat) (gb11 : Bool) : Option (TPact × Int) :=
  if gb11 = true then if a0.Lead ≠ 0 then m74_pact_Step_K16 gl3 gl5 a0.Lead else bind1 (m134_slices_Contains_int gl3 2) fun b52 => if b52 = true then m74_pact_Step_K16 gl3 gl5 2 else bind1 (m134_slices_Contains_int gl3 0) fun b54 => if b54 = true then m74_pact_Step_K16 gl3 gl5 a0.Lead else m74_pact_Step_K16 gl3 gl5 1 else if a1.Kind = 5 then if a0.Lead = 0 then m74_pact_Step_K5 2 gl3 gl5 else m74_pact_Step_K5 a0.Lead gl3 gl5 else if a1.Kind = 6 then m74_pact_Step_K8 gl5 a1 a0 gl3 true else m74_pact_Step_K8 gl5 a1 a0 gl3 false
def m74_pact_Step_K17 (a0 : TPact) (gl5 : (List Int)) (gl20 : (List Int)) : Option (TPact × Int) :=
  m74_pact_Step_K5 a0.Lead gl20 gl5
def m74_pact_Step_K18 (gl3 : (List Int)) (a1 : TBeat) (a0 : TPact) (gl5 : (List Int)) (gb21 : Bool) : Option (TPact × Int) :=
  if gb21 = true then bind1 (idx gl3 a1.Who) fun x62 => bind1 (upd gl3 a1.Who 2) fun l63 => m74_pact_Step_K17 a0 gl5 l63 else m74_pact_Step_K17 a0 gl5 gl3
def m74_pact_Step_K6 (a0 : TPact) (gl5 : (List Int)) (gl3 : (List Int)) (a1 : TBeat) (gb10 : Bool) : Option (TPact × Int) :=
  if gb10 = true then if a0.Lead ≠ 0 then m74_pact_Step_K17 a0 gl5 gl3 else bind1 (idx gl5 a1.Who) fun x58 => if x58 = 1 then bind1 (idx gl3 a1.Who) fun x60 => bind1 (upd gl3 a1.Who 1) fun l61 => m74_pact_Step_K17 a0 gl5 l61 else bind1 (idx gl5 a1.Who) fun x64 => if x64 = 3 then bind1 (idx gl3 a1.Who) fun x66 => if x66 = 0 then m74_pact_Step_K18 gl3 a1 a0 gl5 true else m74_pact_Step_K18 gl3 a1 a0 gl5 false else m74_pact_Step_K18 gl3 a1 a0 gl5 false else if a1.Kind = 4 then m74_pact_Step_K7 a0 gl3 gl5 a1 true else m74_pact_Step_K7 a0 gl3 gl5 a1 false
def m74_pact_Step_K19 (gx22 : Int) (gl23 : (List Int)) (gl24 : (List Int)) : Option (TPact × Int) :=
  some ((⟨gx22, gl23, gl24⟩ : TPact), 0)
def m74_pact_Step_K23 (a0 : TPact) (gl3 : (List Int)) (gl28 : (List Int)) : Option (TPact × Int) :=
  m74_pact_Step_K19 a0.Lead gl3 gl28
def m74_pact_Step_K26 (gl5 : (List Int)) (a1 : TBeat) (a0 : TPact) (gl3 : (List Int)) (gb30 : Bool) : Option (TPact × Int) :=
  if gb30 = true then bind1 (idx gl5 a1.By) fun x82 => bind1 (idx gl5 a1.Who) fun x83 => bind1 (upd gl5 a1.Who x82) fun l84 => m74_pact_Step_K23 a0 gl3 l84 else m74_pact_Step_K23 a0 gl3 gl5
def m74_pact_Step_K25 (gl5 : (List Int)) (a1 : TBeat) (a0 : TPact) (gl3 : (List Int)) (x78 : Int) (gb29 : Bool) : Option (TPact × Int) :=
  if gb29 = true then bind1 (idx gl5 a1.By) fun x97 => bind1 (upd gl5 a1.By 3) fun l98 => bind1 (idx l98 a1.Who) fun x99 => bind1 (upd l98 a1.Who 3) fun l100 => m74_pact_Step_K23 a0 gl3 l100 else if x78 = 2 then m74_pact_Step_K26 gl5 a1 a0 gl3 true else if x78 = 3 then m74_pact_Step_K26 gl5 a1 a0 gl3 true else m74_pact_Step_K26 gl5 a1 a0 gl3 false
def m74_pact_Step_K24 (gl5 : (List Int)) (a1 : TBeat) (a0 : TPact) (gl3 : (List Int)) : Option (TPact × Int) :=
  bind1 (idx gl5 a1.By) fun x78 => if x78 = 0 then m74_pact_Step_K25 gl5 a1 a0 gl3 x78 true else m74_pact_Step_K25 gl5 a1 a0 gl3 x78 false
def m74_pact_Step_K27 (a0 : TPact) (gl3 : (List Int)) (gl31 : (List Int)) : Option (TPact × Int) :=
  m74_pact_Step_K19 a0.Lead gl3 gl31
def m74_pact_Step_K28 (a0 : TPact) (gl5 : (List Int)) (a1 : TBeat) (gl3 : (List Int)) (gb32 : Bool) : Option (TPact × Int) :=
  if gb32 = true then if a0.Lead = 1 then bind1 (idx gl5 a1.Who) fun x110 => bind1 (upd gl5 a1.Who 2) fun l111 => m74_pact_Step_K27 a0 gl3 l111 else if a0.Lead = 2 then bind1 (idx gl5 a1.Who) fun x113 => bind1 (upd gl5 a1.Who 3) fun l114 => m74_pact_Step_K27 a0 gl3 l114 else m74_pact_Step_K27 a0 gl3 gl5 else m74_pact_Step_K27 a0 gl3 gl5
def m74_pact_Step_K29 (a0 : TPact) (gl5 : (List Int)) (a1 : TBeat) (gl3 : (List Int)) (gb33 : Bool) : Option (TPact × Int) :=
  if gb33 = true then m74_pact_Step_K28 a0 gl5 a1 gl3 true else m74_pact_Step_K28 a0 gl5 a1 gl3 false
def m74_pact_Step_K22 (gl5 : (List Int)) (a1 : TBeat) (a0 : TPact) (gl3 : (List Int)) (gb27 : Bool) : Option (TPact × Int) :=
  if gb27 = true then bind1 (idx gl5 a1.Who) fun x115 => if x115 = 0 then m74_pact_Step_K29 a0 gl5 a1 gl3 true else bind1 (idx gl5 a1.Who) fun x117 => if x117 = 1 then m74_pact_Step_K29 a0 gl5 a1 gl3 true else m74_pact_Step_K29 a0 gl5 a1 gl3 false else if a1.Kind = 7 then bind1 (idx gl5 a1.Who) fun x106 => if x106 ≠ 1 then m74_pact_Step_K23 a0 gl3 gl5 else if a1.Who = a1.By then m74_pact_Step_K23 a0 gl3 gl5 else m74_pact_Step_K24 gl5 a1 a0 gl3 else m74_pact_Step_K19 a0.Lead gl3 gl5
def m74_pact_Step_K30 (gl3 : (List Int)) (gl5 : (List Int)) (gx34 : Int) : Option (TPact × Int) :=
  m74_pact_Step_K19 gx34 gl3 gl5
def m74_pact_Step_K21 (a0 : TPact) (gl3 : (List Int)) (gl5 : (List Int)) (a1 : TBeat) (gb26 : Bool) : Option (TPact × Int) :=
  if gb26 = true then if a0.Lead ≠ 0 then m74_pact_Step_K30 gl3 gl5 a0.Lead else bind1 (m134_slices_Contains_int gl3 2) fun b121 => if b121 = true then m74_pact_Step_K30 gl3 gl5 2 else bind1 (m134_slices_Contains_int gl3 0) fun b123 => if b123 = true then m74_pact_Step_K30 gl3 gl5 a0.Lead else m74_pact_Step_K30 gl3 gl5 1 else if a1.Kind = 5 then if a0.Lead = 0 then m74_pact_Step_K19 2 gl3 gl5 else m74_pact_Step_K19 a0.Lead gl3 gl5 else if a1.Kind = 6 then m74_pact_Step_K22 gl5 a1 a0 gl3 true else m74_pact_Step_K22 gl5 a1 a0 gl3 false
def m74_pact_Step_K31 (a0 : TPact) (gl5 : (List Int)) (gl35 : (List Int)) : Option (TPact × Int) :=
  m74_pact_Step_K19 a0.Lead gl35 gl5
def m74_pact_Step_K32 (gl3 : (List Int)) (a1 : TBeat) (a0 : TPact) (gl5 : (List Int)) (gb36 : Bool) : Option (TPact × Int) :=
  if gb36 = true then bind1 (idx gl3 a1.Who) fun x131 => bind1 (upd gl3 a1.Who 2) fun l132 => m74_pact_Step_K31 a0 gl5 l132 else m74_pact_Step_K31 a0 gl5 gl3
def m74_pact_Step_K20 (a0 : TPact) (gl5 : (List Int)) (gl3 : (List Int)) (a1 : TBeat) (gb25 : Bool) : Option (TPact × Int) :=
  if gb25 = true then if a0.Lead ≠ 0 then m74_pact_Step_K31 a0 gl5 gl3 else bind1 (idx gl5 a1.Who) fun x127 => if x127 = 1 then bind1 (idx gl3 a1.Who) fun x129 => bind1 (upd gl3 a1.Who 1) fun l130 => m74_pact_Step_K31 a0 gl5 l130 else bind1 (idx gl5 a1.Who) fun x133 => if x133 = 3 then bind1 (idx gl3 a1.Who) fun x135 => if x135 = 0 then m74_pact_Step_K32 gl3 a1 a0 gl5 true else m74_pact_Step_K32 gl3 a1 a0 gl5 false else m74_pact_Step_K32 gl3 a1 a0 gl5 false else if a1.Kind = 4 then m74_pact_Step_K21 a0 gl3 gl5 a1 true else m74_pact_Step_K21 a0 gl3 gl5 a1 false
def m74_pact_Step_K4 (a1 : TBeat) (gl5 : (List Int)) (a0 : TPact) (gl3 : (List Int)) (gb6 : Bool) : Option (TPact × Int) :=
  if gb6 = true then if a1.Kind = 1 then bind1 (idx gl5 a1.Who) fun x70 => bind1 (upd gl5 a1.Who 1) fun l71 => m74_pact_Step_K19 a0.Lead gl3 l71 else if a1.Kind = 2 then bind1 (idx gl5 a1.Who) fun x73 => bind1 (upd gl5 a1.Who 3) fun l74 => m74_pact_Step_K19 a0.Lead gl3 l74 else if a1.Kind = 3 then m74_pact_Step_K20 a0 gl5 gl3 a1 true else m74_pact_Step_K20 a0 gl5 gl3 a1 false else if a1.Kind = 1 then m74_pact_Step_K5 a0.Lead gl3 gl5 else if a1.Kind = 2 then m74_pact_Step_K5 a0.Lead gl3 gl5 else if a1.Kind = 3 then m74_pact_Step_K6 a0 gl5 gl3 a1 true else m74_pact_Step_K6 a0 gl5 gl3 a1 false
def m74_pact_Step_K3 (a1 : TBeat) (a0 : TPact) (gl3 : (List Int)) (gl5 : (List Int)) : Option (TPact × Int) :=
  bind1 (idx gl5 a1.Who) fun x138 => if x138 = 0 then m74_pact_Step_K4 a1 gl5 a0 gl3 true else m74_pact_Step_K4 a1 gl5 a0 gl3 false
def m74_pact_Step_K2 (a0 : TPact) (a1 : TBeat) : Option (TPact × Int) :=
  bind1 (m104_slices_Clone_int a0.Votes) fun l147 => bind1 (m104_slices_Clone_int a0.Parts) fun l150 => m74_pact_Step_K3 a1 a0 l147 l150
def m74_pact_Step_K34 (a1 : TBeat) (a0 : TPact) (gb38 : Bool) : Option (TPact × Int) :=
  if gb38 = true then some ((⟨0, [], []⟩ : TPact), 1) else if a1.Kind < 1 then some ((⟨0, [], []⟩ : TPact), 1) else if 7 < a1.Kind then some ((⟨0, [], []⟩ : TPact), 1) else m74_pact_Step_K2 a0 a1
def m74_pact_Step_K33 (a1 : TBeat) (a0 : TPact) (gb37 : Bool) : Option (TPact × Int) :=
  if gb37 = true then some ((⟨0, [], []⟩ : TPact), 1) else if a1.By < 0 then m74_pact_Step_K34 a1 a0 true else if (a0.Parts.length : Int) ≤ a1.By then m74_pact_Step_K34 a1 a0 true else m74_pact_Step_K34 a1 a0 false
def m74_pact_Step_K1 (a1 : TBeat) (a0 : TPact) : Option (TPact × Int) :=
  if a1.Who < 0 then m74_pact_Step_K33 a1 a0 true else if (a0.Parts.length : Int) ≤ a1.Who then m74_pact_Step_K33 a1 a0 true else m74_pact_Step_K33 a1 a0 false
def m74_pact_Step (a0 : TPact) (a1 : TBeat) : Option (TPact × Int) :=
  bind1 (m77_pact_Check a0) fun x171 => if x171 ≠ 0 then some ((⟨0, [], []⟩ : TPact), x171) else m74_pact_Step_K1 a1 a0
def m75_pact_Stuck_K2 (gl2 : (List Int)) : Option ((List Int) × Int) :=
  some (gl2, 0)
def m75_pact_Stuck_L1B (go1 : (List Int) → Int → Option ((List Int) × Int)) (a0 : TPact) (gl4 : (List Int)) (gx5 : Int) : Option ((List Int) × Int) :=
  if gx5 < (a0.Parts.length : Int) then bind1 (idx a0.Parts gx5) fun x3 => if x3 ≠ 1 then some ([], 0) else bind1 (app gl4 ([gx5])) fun l7 => bind1 (i64 (gx5 + 1)) fun x8 => go1 l7 x8 else m75_pact_Stuck_K2 gl4
def m75_pact_Stuck_L1 (a0 : TPact) : Nat → (List Int) → Int → Option ((List Int) × Int)
  | 0, _, _ => none
  | n + 1, gl4, gx5 => m75_pact_Stuck_L1B (m75_pact_Stuck_L1 a0 n) a0 gl4 gx5
def m75_pact_Stuck_K1 (a0 : TPact) : Option ((List Int) × Int) :=
  m75_pact_Stuck_L1 a0 big [] 0
def m75_pact_Stuck (a0 : TPact) : Option ((List Int) × Int) :=
  bind1 (m77_pact_Check a0) fun x9 => if x9 ≠ 0 then some ([], x9) else m75_pact_Stuck_K1 a0
def m71_slices_Equal_int_K2 : Option Bool :=
  some true
def m71_slices_Equal_int_L1B (go1 : Int → Option Bool) (a0 : (List Int)) (a1 : (List Int)) (gx1 : Int) : Option Bool :=
  if gx1 < (a0.length : Int) then bind1 (idx a0 gx1) fun x2 => bind1 (idx a1 gx1) fun x3 => if x2 ≠ x3 then some false else bind1 (i64 (gx1 + 1)) fun x5 => go1 x5 else m71_slices_Equal_int_K2
def m71_slices_Equal_int_L1 (a0 : (List Int)) (a1 : (List Int)) : Nat → Int → Option Bool
  | 0, _ => none
  | n + 1, gx1 => m71_slices_Equal_int_L1B (m71_slices_Equal_int_L1 a0 a1 n) a0 a1 gx1
def m71_slices_Equal_int_K1 (a0 : (List Int)) (a1 : (List Int)) : Option Bool :=
  m71_slices_Equal_int_L1 a0 a1 big 0
def m71_slices_Equal_int (a0 : (List Int)) (a1 : (List Int)) : Option Bool :=
  if (a0.length : Int) ≠ (a1.length : Int) then some false else m71_slices_Equal_int_K1 a0 a1
def m76_quirref_SamePact_K1 (a0 : TPact) (a1 : TPact) (gb1 : Bool) : Option Bool :=
  if gb1 = true then bind1 (m71_slices_Equal_int a0.Parts a1.Parts) fun b3 => some b3 else some false
def m76_quirref_SamePact (a0 : TPact) (a1 : TPact) : Option Bool :=
  if a0.Lead = a1.Lead then bind1 (m71_slices_Equal_int a0.Votes a1.Votes) fun b6 => if b6 = true then m76_quirref_SamePact_K1 a0 a1 true else m76_quirref_SamePact_K1 a0 a1 false else m76_quirref_SamePact_K1 a0 a1 false
def m79_quirlaw_PactSays_1 (a0 : Int) : Option Bool :=
  some (decide (a0 ≠ 1))
def m135_slices_Min_int_K2 (gx1 : Int) : Option Int :=
  some gx1
def m135_slices_Min_int_L1B (go1 : Int → Int → Option Int) (a0 : (List Int)) (gx2 : Int) (gx3 : Int) : Option Int :=
  if gx3 < (a0.length : Int) then bind1 (idx a0 gx3) fun x3 => bind1 (i64 (gx3 + 1)) fun x4 => go1 (min gx2 x3) x4 else m135_slices_Min_int_K2 gx2
def m135_slices_Min_int_L1 (a0 : (List Int)) : Nat → Int → Int → Option Int
  | 0, _, _ => none
  | n + 1, gx2, gx3 => m135_slices_Min_int_L1B (m135_slices_Min_int_L1 a0 n) a0 gx2 gx3
def m135_slices_Min_int_K1 (a0 : (List Int)) : Option Int :=
  bind1 (idx a0 0) fun x1 => m135_slices_Min_int_L1 a0 big x1 1
def m135_slices_Min_int (a0 : (List Int)) : Option Int :=
  if (a0.length : Int) < 1 then none else m135_slices_Min_int_K1 a0
def m80_quirref_PactStep_K3 (a0 : TPact) (gl2 : (List Int)) (gl6 : (List Int)) : Option TPact :=
  some (⟨a0.Lead, gl2, gl6⟩ : TPact)
def m80_quirref_PactStep_K13 (gl4 : (List Int)) (a1 : TBeat) (a0 : TPact) (gl2 : (List Int)) (gb12 : Bool) : Option TPact :=
  if gb12 = true then bind1 (upd gl4 a1.Who 3) fun l6 => bind1 (idx l6 a1.By) fun x7 => bind1 (upd l6 a1.By 3) fun l8 => m80_quirref_PactStep_K3 a0 gl2 l8 else m80_quirref_PactStep_K3 a0 gl2 gl4
def m80_quirref_PactStep_K12 (x4 : Int) (x5 : Int) (gl4 : (List Int)) (a1 : TBeat) (a0 : TPact) (gl2 : (List Int)) (gb11 : Bool) : Option TPact :=
  if gb11 = true then if x4 = 1 then if x5 = 0 then m80_quirref_PactStep_K13 gl4 a1 a0 gl2 true else m80_quirref_PactStep_K13 gl4 a1 a0 gl2 false else m80_quirref_PactStep_K13 gl4 a1 a0 gl2 false else m80_quirref_PactStep_K3 a0 gl2 gl4
def m80_quirref_PactStep_K16 (gl4 : (List Int)) (a1 : TBeat) (a0 : TPact) (gl2 : (List Int)) (gb15 : Bool) : Option TPact :=
  if gb15 = true then bind1 (upd gl4 a1.Who 3) fun l13 => bind1 (idx l13 a1.By) fun x14 => bind1 (upd l13 a1.By 3) fun l15 => m80_quirref_PactStep_K3 a0 gl2 l15 else m80_quirref_PactStep_K3 a0 gl2 gl4
def m80_quirref_PactStep_K15 (x4 : Int) (x5 : Int) (gl4 : (List Int)) (a1 : TBeat) (a0 : TPact) (gl2 : (List Int)) (gb14 : Bool) : Option TPact :=
  if gb14 = true then if x4 = 1 then if x5 = 0 then m80_quirref_PactStep_K16 gl4 a1 a0 gl2 true else m80_quirref_PactStep_K16 gl4 a1 a0 gl2 false else m80_quirref_PactStep_K16 gl4 a1 a0 gl2 false else m80_quirref_PactStep_K3 a0 gl2 gl4
def m80_quirref_PactStep_K14 (gl4 : (List Int)) (a1 : TBeat) (x5 : Int) (a0 : TPact) (gl2 : (List Int)) (x4 : Int) (gb13 : Bool) : Option TPact :=
  if gb13 = true then bind1 (upd gl4 a1.Who x5) fun l20 => m80_quirref_PactStep_K3 a0 gl2 l20 else if a1.Kind = 7 then if a1.Who ≠ a1.By then m80_quirref_PactStep_K15 x4 x5 gl4 a1 a0 gl2 true else m80_quirref_PactStep_K15 x4 x5 gl4 a1 a0 gl2 false else m80_quirref_PactStep_K15 x4 x5 gl4 a1 a0 gl2 false
def m80_quirref_PactStep_K11 (x4 : Int) (x5 : Int) (gl4 : (List Int)) (a1 : TBeat) (a0 : TPact) (gl2 : (List Int)) (gb10 : Bool) : Option TPact :=
  if gb10 = true then if x4 = 1 then if 1 < x5 then m80_quirref_PactStep_K14 gl4 a1 x5 a0 gl2 x4 true else m80_quirref_PactStep_K14 gl4 a1 x5 a0 gl2 x4 false else m80_quirref_PactStep_K14 gl4 a1 x5 a0 gl2 x4 false else if a1.Kind = 7 then if a1.Who ≠ a1.By then m80_quirref_PactStep_K12 x4 x5 gl4 a1 a0 gl2 true else m80_quirref_PactStep_K12 x4 x5 gl4 a1 a0 gl2 false else m80_quirref_PactStep_K12 x4 x5 gl4 a1 a0 gl2 false
def m80_quirref_PactStep_K10 (a0 : TPact) (gl4 : (List Int)) (a1 : TBeat) (gl2 : (List Int)) (x4 : Int) (x5 : Int) (gb9 : Bool) : Option TPact :=
  if gb9 = true then bind1 (i64 (a0.Lead + 1)) fun x25 => bind1 (upd gl4 a1.Who x25) fun l26 => m80_quirref_PactStep_K3 a0 gl2 l26 else if a1.Kind = 7 then if a1.Who ≠ a1.By then m80_quirref_PactStep_K11 x4 x5 gl4 a1 a0 gl2 true else m80_quirref_PactStep_K11 x4 x5 gl4 a1 a0 gl2 false else m80_quirref_PactStep_K11 x4 x5 gl4 a1 a0 gl2 false
def m80_quirref_PactStep_K9 (a1 : TBeat) (x4 : Int) (a0 : TPact) (gl4 : (List Int)) (gl2 : (List Int)) (x5 : Int) : Option TPact :=
  if a1.Kind = 6 then if x4 < 2 then m80_quirref_PactStep_K10 a0 gl4 a1 gl2 x4 x5 true else m80_quirref_PactStep_K10 a0 gl4 a1 gl2 x4 x5 false else m80_quirref_PactStep_K10 a0 gl4 a1 gl2 x4 x5 false
def m80_quirref_PactStep_K8 (a1 : TBeat) (x4 : Int) (a0 : TPact) (gl4 : (List Int)) (gl2 : (List Int)) (x5 : Int) : Option TPact :=
  if a1.Kind = 4 then m80_quirref_PactStep_K9 a1 x4 a0 gl4 gl2 x5 else m80_quirref_PactStep_K9 a1 x4 a0 gl4 gl2 x5
def m80_quirref_PactStep_K7 (a1 : TBeat) (x4 : Int) (a0 : TPact) (gl4 : (List Int)) (gl2 : (List Int)) (x5 : Int) : Option TPact :=
  if a1.Kind = 4 then if a1.Kind = 5 then m80_quirref_PactStep_K8 a1 x4 a0 gl4 gl2 x5 else m80_quirref_PactStep_K8 a1 x4 a0 gl4 gl2 x5 else if a1.Kind = 5 then m80_quirref_PactStep_K8 a1 x4 a0 gl4 gl2 x5 else m80_quirref_PactStep_K8 a1 x4 a0 gl4 gl2 x5
def m80_quirref_PactStep_K6 (a1 : TBeat) (x4 : Int) (a0 : TPact) (gl4 : (List Int)) (gl2 : (List Int)) (x5 : Int) : Option TPact :=
  if a1.Kind = 3 then m80_quirref_PactStep_K7 a1 x4 a0 gl4 gl2 x5 else m80_quirref_PactStep_K7 a1 x4 a0 gl4 gl2 x5
def m80_quirref_PactStep_K5 (gl4 : (List Int)) (a1 : TBeat) (a0 : TPact) (gl2 : (List Int)) (x4 : Int) (x5 : Int) (gb8 : Bool) : Option TPact :=
  if gb8 = true then bind1 (upd gl4 a1.Who 3) fun l35 => m80_quirref_PactStep_K3 a0 gl2 l35 else if a1.Kind = 3 then m80_quirref_PactStep_K6 a1 x4 a0 gl4 gl2 x5 else m80_quirref_PactStep_K6 a1 x4 a0 gl4 gl2 x5
def m80_quirref_PactStep_K4 (gl4 : (List Int)) (a1 : TBeat) (a0 : TPact) (gl2 : (List Int)) (x4 : Int) (x5 : Int) (gb7 : Bool) : Option TPact :=
  if gb7 = true then bind1 (upd gl4 a1.Who 1) fun l38 => m80_quirref_PactStep_K3 a0 gl2 l38 else if a1.Kind = 2 then if x4 = 0 then m80_quirref_PactStep_K5 gl4 a1 a0 gl2 x4 x5 true else m80_quirref_PactStep_K5 gl4 a1 a0 gl2 x4 x5 false else m80_quirref_PactStep_K5 gl4 a1 a0 gl2 x4 x5 false
def m80_quirref_PactStep_K17 (gx16 : Int) (gl17 : (List Int)) (gl18 : (List Int)) : Option TPact :=
  some (⟨gx16, gl17, gl18⟩ : TPact)
def m80_quirref_PactStep_K27 (gl4 : (List Int)) (a1 : TBeat) (a0 : TPact) (gl2 : (List Int)) (gb27 : Bool) : Option TPact :=
  if gb27 = true then bind1 (upd gl4 a1.Who 3) fun l41 => bind1 (idx l41 a1.By) fun x42 => bind1 (upd l41 a1.By 3) fun l43 => m80_quirref_PactStep_K17 a0.Lead gl2 l43 else m80_quirref_PactStep_K17 a0.Lead gl2 gl4
def m80_quirref_PactStep_K26 (x4 : Int) (x5 : Int) (gl4 : (List Int)) (a1 : TBeat) (a0 : TPact) (gl2 : (List Int)) (gb26 : Bool) : Option TPact :=
  if gb26 = true then if x4 = 1 then if x5 = 0 then m80_quirref_PactStep_K27 gl4 a1 a0 gl2 true else m80_quirref_PactStep_K27 gl4 a1 a0 gl2 false else m80_quirref_PactStep_K27 gl4 a1 a0 gl2 false else m80_quirref_PactStep_K17 a0.Lead gl2 gl4
def m80_quirref_PactStep_K30 (gl4 : (List Int)) (a1 : TBeat) (a0 : TPact) (gl2 : (List Int)) (gb30 : Bool) : Option TPact :=
  if gb30 = true then bind1 (upd gl4 a1.Who 3) fun l48 => bind1 (idx l48 a1.By) fun x49 => bind1 (upd l48 a1.By 3) fun l50 => m80_quirref_PactStep_K17 a0.Lead gl2 l50 else m80_quirref_PactStep_K17 a0.Lead gl2 gl4
def m80_quirref_PactStep_K29 (x4 : Int) (x5 : Int) (gl4 : (List Int)) (a1 : TBeat) (a0 : TPact) (gl2 : (List Int)) (gb29 : Bool) : Option TPact :=
  if gb29 = true then if x4 = 1 then if x5 = 0 then m80_quirref_PactStep_K30 gl4 a1 a0 gl2 true else m80_quirref_PactStep_K30 gl4 a1 a0 gl2 false else m80_quirref_PactStep_K30 gl4 a1 a0 gl2 false else m80_quirref_PactStep_K17 a0.Lead gl2 gl4
def m80_quirref_PactStep_K28 (gl4 : (List Int)) (a1 : TBeat) (x5 : Int) (a0 : TPact) (gl2 : (List Int)) (x4 : Int) (gb28 : Bool) : Option TPact :=
  if gb28 = true then bind1 (upd gl4 a1.Who x5) fun l55 => m80_quirref_PactStep_K17 a0.Lead gl2 l55 else if a1.Kind = 7 then if a1.Who ≠ a1.By then m80_quirref_PactStep_K29 x4 x5 gl4 a1 a0 gl2 true else m80_quirref_PactStep_K29 x4 x5 gl4 a1 a0 gl2 false else m80_quirref_PactStep_K29 x4 x5 gl4 a1 a0 gl2 false
def m80_quirref_PactStep_K25 (x4 : Int) (x5 : Int) (gl4 : (List Int)) (a1 : TBeat) (a0 : TPact) (gl2 : (List Int)) (gb25 : Bool) : Option TPact :=
  if gb25 = true then if x4 = 1 then if 1 < x5 then m80_quirref_PactStep_K28 gl4 a1 x5 a0 gl2 x4 true else m80_quirref_PactStep_K28 gl4 a1 x5 a0 gl2 x4 false else m80_quirref_PactStep_K28 gl4 a1 x5 a0 gl2 x4 false else if a1.Kind = 7 then if a1.Who ≠ a1.By then m80_quirref_PactStep_K26 x4 x5 gl4 a1 a0 gl2 true else m80_quirref_PactStep_K26 x4 x5 gl4 a1 a0 gl2 false else m80_quirref_PactStep_K26 x4 x5 gl4 a1 a0 gl2 false
def m80_quirref_PactStep_K24 (a1 : TBeat) (x4 : Int) (x5 : Int) (gl4 : (List Int)) (a0 : TPact) (gl2 : (List Int)) : Option TPact :=
  if a1.Kind = 7 then if a1.Who ≠ a1.By then m80_quirref_PactStep_K25 x4 x5 gl4 a1 a0 gl2 true else m80_quirref_PactStep_K25 x4 x5 gl4 a1 a0 gl2 false else m80_quirref_PactStep_K25 x4 x5 gl4 a1 a0 gl2 false
def m80_quirref_PactStep_K31 (a1 : TBeat) (x4 : Int) (x5 : Int) (gl4 : (List Int)) (a0 : TPact) (gl2 : (List Int)) (gb31 : Bool) : Option TPact :=
  if gb31 = true then m80_quirref_PactStep_K24 a1 x4 x5 gl4 a0 gl2 else m80_quirref_PactStep_K24 a1 x4 x5 gl4 a0 gl2
def m80_quirref_PactStep_K23 (gl2 : (List Int)) (gl4 : (List Int)) (a1 : TBeat) (x4 : Int) (x5 : Int) (a0 : TPact) (gb24 : Bool) : Option TPact :=
  if gb24 = true then m80_quirref_PactStep_K17 1 gl2 gl4 else if a1.Kind = 6 then if x4 < 2 then m80_quirref_PactStep_K31 a1 x4 x5 gl4 a0 gl2 true else m80_quirref_PactStep_K31 a1 x4 x5 gl4 a0 gl2 false else m80_quirref_PactStep_K31 a1 x4 x5 gl4 a0 gl2 false
def m80_quirref_PactStep_K22 (gl2 : (List Int)) (gl4 : (List Int)) (a1 : TBeat) (x4 : Int) (x5 : Int) (a0 : TPact) (gb23 : Bool) : Option TPact :=
  if gb23 = true then m80_quirref_PactStep_K17 2 gl2 gl4 else if a1.Kind = 4 then bind1 (m135_slices_Min_int gl2) fun x63 => if x63 = 1 then m80_quirref_PactStep_K23 gl2 gl4 a1 x4 x5 a0 true else m80_quirref_PactStep_K23 gl2 gl4 a1 x4 x5 a0 false else m80_quirref_PactStep_K23 gl2 gl4 a1 x4 x5 a0 false
def m80_quirref_PactStep_K32 (gl2 : (List Int)) (gl4 : (List Int)) (a1 : TBeat) (x4 : Int) (x5 : Int) (a0 : TPact) (gb32 : Bool) : Option TPact :=
  if gb32 = true then m80_quirref_PactStep_K22 gl2 gl4 a1 x4 x5 a0 true else if a1.Kind = 5 then m80_quirref_PactStep_K22 gl2 gl4 a1 x4 x5 a0 true else m80_quirref_PactStep_K22 gl2 gl4 a1 x4 x5 a0 false
def m80_quirref_PactStep_K38 (gl4 : (List Int)) (a1 : TBeat) (a0 : TPact) (gl2 : (List Int)) (gb37 : Bool) : Option TPact :=
  if gb37 = true then bind1 (upd gl4 a1.Who 3) fun l74 => bind1 (idx l74 a1.By) fun x75 => bind1 (upd l74 a1.By 3) fun l76 => m80_quirref_PactStep_K17 a0.Lead gl2 l76 else m80_quirref_PactStep_K17 a0.Lead gl2 gl4
def m80_quirref_PactStep_K37 (x4 : Int) (x5 : Int) (gl4 : (List Int)) (a1 : TBeat) (a0 : TPact) (gl2 : (List Int)) (gb36 : Bool) : Option TPact :=
  if gb36 = true then if x4 = 1 then if x5 = 0 then m80_quirref_PactStep_K38 gl4 a1 a0 gl2 true else m80_quirref_PactStep_K38 gl4 a1 a0 gl2 false else m80_quirref_PactStep_K38 gl4 a1 a0 gl2 false else m80_quirref_PactStep_K17 a0.Lead gl2 gl4
def m80_quirref_PactStep_K41 (gl4 : (List Int)) (a1 : TBeat) (a0 : TPact) (gl2 : (List Int)) (gb40 : Bool) : Option TPact :=
  if gb40 = true then bind1 (upd gl4 a1.Who 3) fun l81 => bind1 (idx l81 a1.By) fun x82 => bind1 (upd l81 a1.By 3) fun l83 => m80_quirref_PactStep_K17 a0.Lead gl2 l83 else m80_quirref_PactStep_K17 a0.Lead gl2 gl4
def m80_quirref_PactStep_K40 (x4 : Int) (x5 : Int) (gl4 : (List Int)) (a1 : TBeat) (a0 : TPact) (gl2 : (List Int)) (gb39 : Bool) : Option TPact :=
  if gb39 = true then if x4 = 1 then if x5 = 0 then m80_quirref_PactStep_K41 gl4 a1 a0 gl2 true else m80_quirref_PactStep_K41 gl4 a1 a0 gl2 false else m80_quirref_PactStep_K41 gl4 a1 a0 gl2 false else m80_quirref_PactStep_K17 a0.Lead gl2 gl4
def m80_quirref_PactStep_K39 (gl4 : (List Int)) (a1 : TBeat) (x5 : Int) (a0 : TPact) (gl2 : (List Int)) (x4 : Int) (gb38 : Bool) : Option TPact :=
  if gb38 = true then bind1 (upd gl4 a1.Who x5) fun l88 => m80_quirref_PactStep_K17 a0.Lead gl2 l88 else if a1.Kind = 7 then if a1.Who ≠ a1.By then m80_quirref_PactStep_K40 x4 x5 gl4 a1 a0 gl2 true else m80_quirref_PactStep_K40 x4 x5 gl4 a1 a0 gl2 false else m80_quirref_PactStep_K40 x4 x5 gl4 a1 a0 gl2 false
def m80_quirref_PactStep_K36 (x4 : Int) (x5 : Int) (gl4 : (List Int)) (a1 : TBeat) (a0 : TPact) (gl2 : (List Int)) (gb35 : Bool) : Option TPact :=
  if gb35 = true then if x4 = 1 then if 1 < x5 then m80_quirref_PactStep_K39 gl4 a1 x5 a0 gl2 x4 true else m80_quirref_PactStep_K39 gl4 a1 x5 a0 gl2 x4 false else m80_quirref_PactStep_K39 gl4 a1 x5 a0 gl2 x4 false else if a1.Kind = 7 then if a1.Who ≠ a1.By then m80_quirref_PactStep_K37 x4 x5 gl4 a1 a0 gl2 true else m80_quirref_PactStep_K37 x4 x5 gl4 a1 a0 gl2 false else m80_quirref_PactStep_K37 x4 x5 gl4 a1 a0 gl2 false
def m80_quirref_PactStep_K35 (a1 : TBeat) (x4 : Int) (x5 : Int) (gl4 : (List Int)) (a0 : TPact) (gl2 : (List Int)) : Option TPact :=
  if a1.Kind = 7 then if a1.Who ≠ a1.By then m80_quirref_PactStep_K36 x4 x5 gl4 a1 a0 gl2 true else m80_quirref_PactStep_K36 x4 x5 gl4 a1 a0 gl2 false else m80_quirref_PactStep_K36 x4 x5 gl4 a1 a0 gl2 false
def m80_quirref_PactStep_K42 (a1 : TBeat) (x4 : Int) (x5 : Int) (gl4 : (List Int)) (a0 : TPact) (gl2 : (List Int)) (gb41 : Bool) : Option TPact :=
  if gb41 = true then m80_quirref_PactStep_K35 a1 x4 x5 gl4 a0 gl2 else m80_quirref_PactStep_K35 a1 x4 x5 gl4 a0 gl2
def m80_quirref_PactStep_K34 (gl2 : (List Int)) (gl4 : (List Int)) (a1 : TBeat) (x4 : Int) (x5 : Int) (a0 : TPact) (gb34 : Bool) : Option TPact :=
  if gb34 = true then m80_quirref_PactStep_K17 1 gl2 gl4 else if a1.Kind = 6 then if x4 < 2 then m80_quirref_PactStep_K42 a1 x4 x5 gl4 a0 gl2 true else m80_quirref_PactStep_K42 a1 x4 x5 gl4 a0 gl2 false else m80_quirref_PactStep_K42 a1 x4 x5 gl4 a0 gl2 false
def m80_quirref_PactStep_K33 (gl2 : (List Int)) (gl4 : (List Int)) (a1 : TBeat) (x4 : Int) (x5 : Int) (a0 : TPact) (gb33 : Bool) : Option TPact :=
  if gb33 = true then m80_quirref_PactStep_K17 2 gl2 gl4 else if a1.Kind = 4 then bind1 (m135_slices_Min_int gl2) fun x96 => if x96 = 1 then m80_quirref_PactStep_K34 gl2 gl4 a1 x4 x5 a0 true else m80_quirref_PactStep_K34 gl2 gl4 a1 x4 x5 a0 false else m80_quirref_PactStep_K34 gl2 gl4 a1 x4 x5 a0 false
def m80_quirref_PactStep_K43 (gl2 : (List Int)) (gl4 : (List Int)) (a1 : TBeat) (x4 : Int) (x5 : Int) (a0 : TPact) (gb42 : Bool) : Option TPact :=
  if gb42 = true then m80_quirref_PactStep_K33 gl2 gl4 a1 x4 x5 a0 true else if a1.Kind = 5 then m80_quirref_PactStep_K33 gl2 gl4 a1 x4 x5 a0 true else m80_quirref_PactStep_K33 gl2 gl4 a1 x4 x5 a0 false
def m80_quirref_PactStep_K21 (gl2 : (List Int)) (a1 : TBeat) (a0 : TPact) (gl4 : (List Int)) (x4 : Int) (x5 : Int) (gb22 : Bool) : Option TPact :=
  if gb22 = true then bind1 (idx gl2 a1.Who) fun x70 => if x70 = 0 then bind1 (idx gl2 a1.Who) fun x72 => bind1 (upd gl2 a1.Who 2) fun l73 => m80_quirref_PactStep_K17 a0.Lead l73 gl4 else if a1.Kind = 4 then bind1 (m134_slices_Contains_int gl2 2) fun b101 => if b101 = true then m80_quirref_PactStep_K43 gl2 gl4 a1 x4 x5 a0 true else m80_quirref_PactStep_K43 gl2 gl4 a1 x4 x5 a0 false else m80_quirref_PactStep_K43 gl2 gl4 a1 x4 x5 a0 false else if a1.Kind = 4 then bind1 (m134_slices_Contains_int gl2 2) fun b68 => if b68 = true then m80_quirref_PactStep_K32 gl2 gl4 a1 x4 x5 a0 true else m80_quirref_PactStep_K32 gl2 gl4 a1 x4 x5 a0 false else m80_quirref_PactStep_K32 gl2 gl4 a1 x4 x5 a0 false
def m80_quirref_PactStep_K20 (gl2 : (List Int)) (a1 : TBeat) (a0 : TPact) (gl4 : (List Int)) (x4 : Int) (x5 : Int) (gb21 : Bool) : Option TPact :=
  if gb21 = true then bind1 (idx gl2 a1.Who) fun x105 => bind1 (upd gl2 a1.Who 1) fun l106 => m80_quirref_PactStep_K17 a0.Lead l106 gl4 else if a1.Kind = 3 then if x4 = 3 then m80_quirref_PactStep_K21 gl2 a1 a0 gl4 x4 x5 true else m80_quirref_PactStep_K21 gl2 a1 a0 gl4 x4 x5 false else m80_quirref_PactStep_K21 gl2 a1 a0 gl4 x4 x5 false
def m80_quirref_PactStep_K19 (gl4 : (List Int)) (a1 : TBeat) (a0 : TPact) (gl2 : (List Int)) (x4 : Int) (x5 : Int) (gb20 : Bool) : Option TPact :=
  if gb20 = true then bind1 (upd gl4 a1.Who 3) fun l109 => m80_quirref_PactStep_K17 a0.Lead gl2 l109 else if a1.Kind = 3 then if x4 = 1 then m80_quirref_PactStep_K20 gl2 a1 a0 gl4 x4 x5 true else m80_quirref_PactStep_K20 gl2 a1 a0 gl4 x4 x5 false else m80_quirref_PactStep_K20 gl2 a1 a0 gl4 x4 x5 false
def m80_quirref_PactStep_K18 (gl4 : (List Int)) (a1 : TBeat) (a0 : TPact) (gl2 : (List Int)) (x4 : Int) (x5 : Int) (gb19 : Bool) : Option TPact :=
  if gb19 = true then bind1 (upd gl4 a1.Who 1) fun l112 => m80_quirref_PactStep_K17 a0.Lead gl2 l112 else if a1.Kind = 2 then if x4 = 0 then m80_quirref_PactStep_K19 gl4 a1 a0 gl2 x4 x5 true else m80_quirref_PactStep_K19 gl4 a1 a0 gl2 x4 x5 false else m80_quirref_PactStep_K19 gl4 a1 a0 gl2 x4 x5 false
def m80_quirref_PactStep_K2 (a1 : TBeat) (x4 : Int) (gl4 : (List Int)) (a0 : TPact) (gl2 : (List Int)) (x5 : Int) (gb5 : Bool) : Option TPact :=
  if gb5 = true then if a1.Kind = 1 then if x4 = 0 then m80_quirref_PactStep_K18 gl4 a1 a0 gl2 x4 x5 true else m80_quirref_PactStep_K18 gl4 a1 a0 gl2 x4 x5 false else m80_quirref_PactStep_K18 gl4 a1 a0 gl2 x4 x5 false else if a1.Kind = 1 then if x4 = 0 then m80_quirref_PactStep_K4 gl4 a1 a0 gl2 x4 x5 true else m80_quirref_PactStep_K4 gl4 a1 a0 gl2 x4 x5 false else m80_quirref_PactStep_K4 gl4 a1 a0 gl2 x4 x5 false
def m80_quirref_PactStep_K1 (a1 : TBeat) (a0 : TPact) (gl2 : (List Int)) (gl4 : (List Int)) : Option TPact :=
  bind1 (idx gl4 a1.Who) fun x4 => bind1 (idx gl4 a1.By) fun x5 => if a0.Lead = 0 then m80_quirref_PactStep_K2 a1 x4 gl4 a0 gl2 x5 true else m80_quirref_PactStep_K2 a1 x4 gl4 a0 gl2 x5 false
def m80_quirref_PactStep (a0 : TPact) (a1 : TBeat) : Option TPact :=
  bind1 (m104_slices_Clone_int a0.Votes) fun l122 => bind1 (m104_slices_Clone_int a0.Parts) fun l125 => m80_quirref_PactStep_K1 a1 a0 l122 l125
def m12_quirlaw_PactSays_K7 (a1 : TPact) (a2 : TBeat) (x11 : TPact) (x14 : Int) : Option Bool :=
  bind1 (m80_quirref_PactStep a1 a2) fun x27 => bind1 (m76_quirref_SamePact x11 x27) fun b31 => if b31 = true then some (decide (x14 = 0)) else some false
def m12_quirlaw_PactSays_K8 (x11 : TPact) (x14 : Int) (a1 : TPact) (a2 : TBeat) (gb2 : Bool) : Option Bool :=
  if gb2 = true then bind1 (m76_quirref_SamePact x11 (⟨0, [], []⟩ : TPact)) fun b33 => if b33 = true then some (decide (x14 = 1)) else some false else m12_quirlaw_PactSays_K7 a1 a2 x11 x14
def m12_quirlaw_PactSays_K9 (x11 : TPact) (x14 : Int) (a1 : TPact) (a2 : TBeat) (gb3 : Bool) : Option Bool :=
  if gb3 = true then m12_quirlaw_PactSays_K8 x11 x14 a1 a2 true else if a2.Kind < 1 then m12_quirlaw_PactSays_K8 x11 x14 a1 a2 true else if 7 < a2.Kind then m12_quirlaw_PactSays_K8 x11 x14 a1 a2 true else m12_quirlaw_PactSays_K8 x11 x14 a1 a2 false
def m12_quirlaw_PactSays_K6 (a2 : TBeat) (x11 : TPact) (x14 : Int) (a1 : TPact) : Option Bool :=
  if (min a2.Who a2.By) < 0 then m12_quirlaw_PactSays_K9 x11 x14 a1 a2 true else if (a1.Parts.length : Int) ≤ (max a2.Who a2.By) then m12_quirlaw_PactSays_K9 x11 x14 a1 a2 true else m12_quirlaw_PactSays_K9 x11 x14 a1 a2 false
def m12_quirlaw_PactSays_L1B (go1 : Int → Option Bool) (l17 : (List Int)) (a2 : TBeat) (x11 : TPact) (x14 : Int) (a1 : TPact) (gx4 : Int) : Option Bool :=
  if gx4 < (l17.length : Int) then bind1 (idx l17 gx4) fun x40 => if gx4 ≠ x40 then some false else bind1 (i64 (gx4 + 1)) fun x42 => go1 x42 else m12_quirlaw_PactSays_K6 a2 x11 x14 a1
def m12_quirlaw_PactSays_L1 (l17 : (List Int)) (a2 : TBeat) (x11 : TPact) (x14 : Int) (a1 : TPact) : Nat → Int → Option Bool
  | 0, _ => none
  | n + 1, gx4 => m12_quirlaw_PactSays_L1B (m12_quirlaw_PactSays_L1 l17 a2 x11 x14 a1 n) l17 a2 x11 x14 a1 gx4
def m12_quirlaw_PactSays_K5 (l17 : (List Int)) (a2 : TBeat) (x11 : TPact) (x14 : Int) (a1 : TPact) : Option Bool :=
  m12_quirlaw_PactSays_L1 l17 a2 x11 x14 a1 big 0
def m12_quirlaw_PactSays_K10 (l17 : (List Int)) (a2 : TBeat) (x11 : TPact) (x14 : Int) (a1 : TPact) (gb5 : Bool) : Option Bool :=
  if gb5 = true then some false else m12_quirlaw_PactSays_K5 l17 a2 x11 x14 a1
def m12_quirlaw_PactSays_K13 (a1 : TPact) (a2 : TBeat) (x11 : TPact) (x14 : Int) : Option Bool :=
  bind1 (m80_quirref_PactStep a1 a2) fun x51 => bind1 (m76_quirref_SamePact x11 x51) fun b55 => if b55 = true then some (decide (x14 = 0)) else some false
def m12_quirlaw_PactSays_K14 (x11 : TPact) (x14 : Int) (a1 : TPact) (a2 : TBeat) (gb6 : Bool) : Option Bool :=
  if gb6 = true then bind1 (m76_quirref_SamePact x11 (⟨0, [], []⟩ : TPact)) fun b57 => if b57 = true then some (decide (x14 = 1)) else some false else m12_quirlaw_PactSays_K13 a1 a2 x11 x14
def m12_quirlaw_PactSays_K15 (x11 : TPact) (x14 : Int) (a1 : TPact) (a2 : TBeat) (gb7 : Bool) : Option Bool :=
  if gb7 = true then m12_quirlaw_PactSays_K14 x11 x14 a1 a2 true else if a2.Kind < 1 then m12_quirlaw_PactSays_K14 x11 x14 a1 a2 true else if 7 < a2.Kind then m12_quirlaw_PactSays_K14 x11 x14 a1 a2 true else m12_quirlaw_PactSays_K14 x11 x14 a1 a2 false
def m12_quirlaw_PactSays_K12 (a2 : TBeat) (x11 : TPact) (x14 : Int) (a1 : TPact) : Option Bool :=
  if (min a2.Who a2.By) < 0 then m12_quirlaw_PactSays_K15 x11 x14 a1 a2 true else if (a1.Parts.length : Int) ≤ (max a2.Who a2.By) then m12_quirlaw_PactSays_K15 x11 x14 a1 a2 true else m12_quirlaw_PactSays_K15 x11 x14 a1 a2 false
def m12_quirlaw_PactSays_L2B (go2 : Int → Option Bool) (l17 : (List Int)) (a2 : TBeat) (x11 : TPact) (x14 : Int) (a1 : TPact) (gx8 : Int) : Option Bool :=
  if gx8 < (l17.length : Int) then bind1 (idx l17 gx8) fun x64 => if gx8 ≠ x64 then some false else bind1 (i64 (gx8 + 1)) fun x66 => go2 x66 else m12_quirlaw_PactSays_K12 a2 x11 x14 a1
def m12_quirlaw_PactSays_L2 (l17 : (List Int)) (a2 : TBeat) (x11 : TPact) (x14 : Int) (a1 : TPact) : Nat → Int → Option Bool
  | 0, _ => none
  | n + 1, gx8 => m12_quirlaw_PactSays_L2B (m12_quirlaw_PactSays_L2 l17 a2 x11 x14 a1 n) l17 a2 x11 x14 a1 gx8
def m12_quirlaw_PactSays_K11 (l17 : (List Int)) (a2 : TBeat) (x11 : TPact) (x14 : Int) (a1 : TPact) : Option Bool :=
  m12_quirlaw_PactSays_L2 l17 a2 x11 x14 a1 big 0
def m12_quirlaw_PactSays_K16 (l17 : (List Int)) (a1 : TPact) (a2 : TBeat) (x11 : TPact) (x14 : Int) (gb9 : Bool) : Option Bool :=
  if gb9 = true then some false else if (l17.length : Int) ≠ (a1.Parts.length : Int) then some false else m12_quirlaw_PactSays_K11 l17 a2 x11 x14 a1
def m12_quirlaw_PactSays_K4 (x19 : Int) (l17 : (List Int)) (a1 : TPact) (a2 : TBeat) (x11 : TPact) (x14 : Int) (gb1 : Bool) : Option Bool :=
  if gb1 = true then if x19 ≠ 0 then m12_quirlaw_PactSays_K16 l17 a1 a2 x11 x14 true else if (!(true == (decide (0 < (l17.length : Int))))) = true then m12_quirlaw_PactSays_K16 l17 a1 a2 x11 x14 true else m12_quirlaw_PactSays_K16 l17 a1 a2 x11 x14 false else if x19 ≠ 0 then m12_quirlaw_PactSays_K10 l17 a2 x11 x14 a1 true else if (!(false == (decide (0 < (l17.length : Int))))) = true then m12_quirlaw_PactSays_K10 l17 a2 x11 x14 a1 true else m12_quirlaw_PactSays_K10 l17 a2 x11 x14 a1 false
def m12_quirlaw_PactSays_K17 (x19 : Int) (l17 : (List Int)) (a1 : TPact) (a2 : TBeat) (x11 : TPact) (x14 : Int) (gb10 : Bool) : Option Bool :=
  if gb10 = true then m12_quirlaw_PactSays_K4 x19 l17 a1 a2 x11 x14 false else m12_quirlaw_PactSays_K4 x19 l17 a1 a2 x11 x14 true
def m12_quirlaw_PactSays_K18 (x19 : Int) (l17 : (List Int)) (a1 : TPact) (a2 : TBeat) (x11 : TPact) (x14 : Int) (gx11 : Int) : Option Bool :=
  m12_quirlaw_PactSays_K17 x19 l17 a1 a2 x11 x14 (decide (0 ≤ gx11))
def m12_quirlaw_PactSays_K19 (x19 : Int) (l17 : (List Int)) (a1 : TPact) (a2 : TBeat) (x11 : TPact) (x14 : Int) : Option Bool :=
  m12_quirlaw_PactSays_K18 x19 l17 a1 a2 x11 x14 (-1)
def m12_quirlaw_PactSays_K20 (x71 : Int) (x19 : Int) (l17 : (List Int)) (a1 : TPact) (a2 : TBeat) (x11 : TPact) (x14 : Int) (gx12 : Int) (go3 : Int → Option Bool) : Option Bool :=
  if (decide (x71 ≠ 1)) = true then m12_quirlaw_PactSays_K18 x19 l17 a1 a2 x11 x14 gx12 else bind1 (i64 (gx12 + 1)) fun x72 => go3 x72
def m12_quirlaw_PactSays_L3B (go3 : Int → Option Bool) (a1 : TPact) (x19 : Int) (l17 : (List Int)) (a2 : TBeat) (x11 : TPact) (x14 : Int) (gx12 : Int) : Option Bool :=
  if gx12 < (a1.Parts.length : Int) then bind1 (idx a1.Parts gx12) fun x71 => m12_quirlaw_PactSays_K20 x71 x19 l17 a1 a2 x11 x14 gx12 go3 else m12_quirlaw_PactSays_K19 x19 l17 a1 a2 x11 x14
def m12_quirlaw_PactSays_L3 (a1 : TPact) (x19 : Int) (l17 : (List Int)) (a2 : TBeat) (x11 : TPact) (x14 : Int) : Nat → Int → Option Bool
  | 0, _ => none
  | n + 1, gx12 => m12_quirlaw_PactSays_L3B (m12_quirlaw_PactSays_L3 a1 x19 l17 a2 x11 x14 n) a1 x19 l17 a2 x11 x14 gx12
def m12_quirlaw_PactSays_K3 (a1 : TPact) (x19 : Int) (l17 : (List Int)) (a2 : TBeat) (x11 : TPact) (x14 : Int) : Option Bool :=
  m12_quirlaw_PactSays_L3 a1 x19 l17 a2 x11 x14 big 0
def m12_quirlaw_PactSays_K21 (l17 : (List Int)) (x19 : Int) (x9 : Int) (gb13 : Bool) : Option Bool :=
  if gb13 = true then if (l17.length : Int) = 0 then some (decide (x19 = x9)) else some false else some false
def m12_quirlaw_PactSays_K2 (x9 : Int) (x11 : TPact) (x14 : Int) (l17 : (List Int)) (x19 : Int) (a1 : TPact) (a2 : TBeat) : Option Bool :=
  if x9 ≠ 0 then bind1 (m76_quirref_SamePact x11 (⟨0, [], []⟩ : TPact)) fun b75 => if b75 = true then if x14 = x9 then m12_quirlaw_PactSays_K21 l17 x19 x9 true else m12_quirlaw_PactSays_K21 l17 x19 x9 false else m12_quirlaw_PactSays_K21 l17 x19 x9 false else m12_quirlaw_PactSays_K3 a1 x19 l17 a2 x11 x14
def m12_quirlaw_PactSays_K1 (a1 : TPact) (x9 : Int) (x11 : TPact) (x14 : Int) (l17 : (List Int)) (x19 : Int) (a2 : TBeat) : Option Bool :=
  bind1 (m77_pact_Check a1) fun x78 => if x78 ≠ x9 then some false else m12_quirlaw_PactSays_K2 x9 x11 x14 l17 x19 a1 a2
def m12_quirlaw_PactSays_K23 (a1 : TPact) (x9 : Int) (x11 : TPact) (x14 : Int) (l17 : (List Int)) (x19 : Int) (a2 : TBeat) (gb15 : Bool) : Option Bool :=
  if gb15 = true then some false else m12_quirlaw_PactSays_K1 a1 x9 x11 x14 l17 x19 a2
def m12_quirlaw_PactSays_K22 (x3 : TPact) (x6 : Int) (a1 : TPact) (x9 : Int) (x11 : TPact) (x14 : Int) (l17 : (List Int)) (x19 : Int) (a2 : TBeat) (a0 : Int) (gb14 : Bool) : Option Bool :=
  if gb14 = true then bind1 (m76_quirref_SamePact x3 (⟨0, [], []⟩ : TPact)) fun b111 => if b111 = true then if x6 ≠ 1 then some false else m12_quirlaw_PactSays_K1 a1 x9 x11 x14 l17 x19 a2 else some false else bind1 (mk a0 0) fun y97 => bind1 (mk a0 0) fun y99 => bind1 (m76_quirref_SamePact x3 (⟨0, y97, y99⟩ : TPact)) fun b103 => if b103 = true then if x6 ≠ 0 then m12_quirlaw_PactSays_K23 a1 x9 x11 x14 l17 x19 a2 true else m12_quirlaw_PactSays_K23 a1 x9 x11 x14 l17 x19 a2 false else m12_quirlaw_PactSays_K23 a1 x9 x11 x14 l17 x19 a2 true
def m12_quirlaw_PactSays (a0 : Int) (a1 : TPact) (a2 : TBeat) : Option Bool :=
  bind2 (m72_pact_New a0) fun x3 x6 => bind1 (m73_quirref_PactErr a1) fun x9 => bind2 (m74_pact_Step a1 a2) fun x11 x14 => bind2 (m75_pact_Stuck a1) fun l17 x19 => if a0 < 1 then m12_quirlaw_PactSays_K22 x3 x6 a1 x9 x11 x14 l17 x19 a2 a0 true else if 8 < a0 then m12_quirlaw_PactSays_K22 x3 x6 a1 x9 x11 x14 l17 x19 a2 a0 true else m12_quirlaw_PactSays_K22 x3 x6 a1 x9 x11 x14 l17 x19 a2 a0 false
end Go.Proofs.Ytfmgjigdebofaaa
