/-
  Models, printed by a program of mine.
  Conditions: none.
-/
import Derived.Test.YtfmgjigdebofaaaRk
namespace Go.Proofs.Ytfmgjigdebofaaa
open Go.S
set_option linter.unusedVariables false
structure TRec where
  Kind : Int
  Tx : Int
  Item : Int
  Old : Int
  New : Int
  deriving DecidableEq, Inhabited
def TRec.row (x : TRec) : List Value := [.int .i64 x.Kind, .int .i64 x.Tx, .int .i64 x.Item, .int .i64 x.Old, .int .i64 x.New]
structure TPage where
  Value_ : Int
  Lsn : Int
  deriving DecidableEq, Inhabited
def TPage.row (x : TPage) : List Value := [.int .i64 x.Value_, .int .i64 x.Lsn]
def m116_quirref_ended_K1 (gb1 : Bool) : Option Bool :=
  some gb1
def m116_quirref_ended_K2 (gx2 : Int) : Option Bool :=
  m116_quirref_ended_K1 (decide (0 ≤ gx2))
def m116_quirref_ended_K3 : Option Bool :=
  m116_quirref_ended_K2 (-1)
def m116_quirref_ended_K4 (gx3 : Int) (go1 : Int → Option Bool) (gb4 : Bool) : Option Bool :=
  if gb4 = true then m116_quirref_ended_K2 gx3 else bind1 (i64 (gx3 + 1)) fun x4 => go1 x4
def m116_quirref_ended_K5 (gx3 : Int) (go1 : Int → Option Bool) (gb5 : Bool) : Option Bool :=
  m116_quirref_ended_K4 gx3 go1 gb5
def m116_quirref_ended_L1B (go1 : Int → Option Bool) (a0 : (List TRec)) (a1 : Int) (gx3 : Int) : Option Bool :=
  if gx3 < (a0.length : Int) then bind1 (idx a0 gx3) fun x3 => if x3.Tx = a1 then if x3.Kind = 2 then m116_quirref_ended_K5 gx3 go1 true else m116_quirref_ended_K5 gx3 go1 (decide (x3.Kind = 3)) else m116_quirref_ended_K5 gx3 go1 false else m116_quirref_ended_K3
def m116_quirref_ended_L1 (a0 : (List TRec)) (a1 : Int) : Nat → Int → Option Bool
  | 0, _ => none
  | n + 1, gx3 => m116_quirref_ended_L1B (m116_quirref_ended_L1 a0 a1 n) a0 a1 gx3
def m116_quirref_ended (a0 : (List TRec)) (a1 : Int) : Option Bool :=
  m116_quirref_ended_L1 a0 a1 big 0
def m115_quirref_lastUpdate_K1 : Option Int :=
  some (-1)
def m115_quirref_lastUpdate_K2 (a0 : (List TRec)) (gx1 : Int) (a1 : Int) (go1 : Int → Option Int) : Option Int :=
  bind1 (idx a0 gx1) fun x2 => if x2.Kind = 1 then bind1 (idx a0 gx1) fun x4 => if x4.Item = a1 then some gx1 else bind1 (i64 (gx1 - 1)) fun x6 => go1 x6 else bind1 (i64 (gx1 - 1)) fun x7 => go1 x7
def m115_quirref_lastUpdate_L1B (go1 : Int → Option Int) (a0 : (List TRec)) (a1 : Int) (gx1 : Int) : Option Int :=
  if 0 ≤ gx1 then m115_quirref_lastUpdate_K2 a0 gx1 a1 go1 else m115_quirref_lastUpdate_K1
def m115_quirref_lastUpdate_L1 (a0 : (List TRec)) (a1 : Int) : Nat → Int → Option Int
  | 0, _ => none
  | n + 1, gx1 => m115_quirref_lastUpdate_L1B (m115_quirref_lastUpdate_L1 a0 a1 n) a0 a1 gx1
def m115_quirref_lastUpdate (a0 : (List TRec)) (a1 : Int) : Option Int :=
  bind1 (i64 ((a0.length : Int) - 1)) fun x1 => m115_quirref_lastUpdate_L1 a0 a1 big x1
def m112_quirref_recErr_K3 : Option Int :=
  some 4
def m112_quirref_recErr_K6 (x1 : TRec) (gb3 : Bool) : Option Int :=
  if gb3 = true then if x1.New = 0 then some 0 else m112_quirref_recErr_K3 else m112_quirref_recErr_K3
def m112_quirref_recErr_K5 (x1 : TRec) (gb2 : Bool) : Option Int :=
  if gb2 = true then if x1.Item = 0 then if x1.Old = 0 then m112_quirref_recErr_K6 x1 true else m112_quirref_recErr_K6 x1 false else m112_quirref_recErr_K6 x1 false else m112_quirref_recErr_K3
def m112_quirref_recErr_K9 (gb6 : Bool) : Option Int :=
  if gb6 = true then some 0 else m112_quirref_recErr_K3
def m112_quirref_recErr_K8 (a0 : (List TRec)) (x9 : Int) (x1 : TRec) (a1 : Int) (gb5 : Bool) : Option Int :=
  if gb5 = true then bind1 (idx a0 x9) fun x11 => if x11.Tx = x1.Tx then m112_quirref_recErr_K9 true else bind1 (cut a0 0 a1) fun l13 => bind1 (idx a0 x9) fun x14 => bind1 (m116_quirref_ended l13 x14.Tx) fun b15 => if b15 = true then m112_quirref_recErr_K9 true else m112_quirref_recErr_K9 false else m112_quirref_recErr_K3
def m112_quirref_recErr_K7 (x9 : Int) (a0 : (List TRec)) (x1 : TRec) (a1 : Int) (gb4 : Bool) : Option Int :=
  if gb4 = true then some 0 else if 0 ≤ x9 then bind1 (idx a0 x9) fun x18 => if x1.Old = x18.New then m112_quirref_recErr_K8 a0 x9 x1 a1 true else m112_quirref_recErr_K8 a0 x9 x1 a1 false else m112_quirref_recErr_K8 a0 x9 x1 a1 false
def m112_quirref_recErr_K4 (a0 : (List TRec)) (a1 : Int) (x1 : TRec) (gb1 : Bool) : Option Int :=
  if gb1 = true then bind1 (cut a0 0 a1) fun l8 => bind1 (m115_quirref_lastUpdate l8 x1.Item) fun x9 => if x9 < 0 then if x1.Old = 0 then m112_quirref_recErr_K7 x9 a0 x1 a1 true else m112_quirref_recErr_K7 x9 a0 x1 a1 false else m112_quirref_recErr_K7 x9 a0 x1 a1 false else if x1.Kind = 2 then m112_quirref_recErr_K5 x1 true else if x1.Kind = 3 then m112_quirref_recErr_K5 x1 true else m112_quirref_recErr_K5 x1 false
def m112_quirref_recErr_K2 (x1 : TRec) (a0 : (List TRec)) (a1 : Int) : Option Int :=
  if x1.Kind = 1 then m112_quirref_recErr_K4 a0 a1 x1 true else m112_quirref_recErr_K4 a0 a1 x1 false
def m112_quirref_recErr_K1 (a0 : (List TRec)) (a1 : Int) (x1 : TRec) : Option Int :=
  bind1 (cut a0 0 a1) fun l23 => bind1 (m116_quirref_ended l23 x1.Tx) fun b24 => if b24 = true then some 4 else m112_quirref_recErr_K2 x1 a0 a1
def m112_quirref_recErr_K10 (x1 : TRec) (a0 : (List TRec)) (a1 : Int) (gb7 : Bool) : Option Int :=
  if gb7 = true then some 1 else if x1.Item < 0 then some 1 else if 19 < x1.Item then some 1 else m112_quirref_recErr_K1 a0 a1 x1
def m112_quirref_recErr (a0 : (List TRec)) (a1 : Int) : Option Int :=
  bind1 (idx a0 a1) fun x1 => if x1.Tx < 0 then m112_quirref_recErr_K10 x1 a0 a1 true else if 11 < x1.Tx then m112_quirref_recErr_K10 x1 a0 a1 true else m112_quirref_recErr_K10 x1 a0 a1 false
def m57_quirref_LogErr_K2 : Option Int :=
  some 0
def m57_quirref_LogErr_L1B (go1 : Int → Option Int) (a0 : (List TRec)) (gx1 : Int) : Option Int :=
  if gx1 < (a0.length : Int) then bind1 (m112_quirref_recErr a0 gx1) fun x2 => if x2 ≠ 0 then some x2 else bind1 (i64 (gx1 + 1)) fun x5 => go1 x5 else m57_quirref_LogErr_K2
def m57_quirref_LogErr_L1 (a0 : (List TRec)) : Nat → Int → Option Int
  | 0, _ => none
  | n + 1, gx1 => m57_quirref_LogErr_L1B (m57_quirref_LogErr_L1 a0 n) a0 gx1
def m57_quirref_LogErr_K1 (a0 : (List TRec)) : Option Int :=
  m57_quirref_LogErr_L1 a0 big 0
def m57_quirref_LogErr (a0 : (List TRec)) : Option Int :=
  if 400 < (a0.length : Int) then some 2 else m57_quirref_LogErr_K1 a0
def m60_redo_Check_K2 : Option Int :=
  some 0
def m60_redo_Check_K3 (gx1 : Int) (go1 : Int → (List Int) → (List (Int × Int)) → (List Bool) → Option Int) (gl5 : (List Int)) (gl6 : (List (Int × Int))) (gl7 : (List Bool)) : Option Int :=
  bind1 (i64 (gx1 + 1)) fun x5 => go1 x5 gl5 gl6 gl7
def m60_redo_Check_L2B (go2 : (List (Int × Int)) → (List (Int × Int)) → Option Int) (gx1 : Int) (go1 : Int → (List Int) → (List (Int × Int)) → (List Bool) → Option Int) (gl2 : (List Int)) (l9 : (List Bool)) (x6 : TRec) (gl10 : (List (Int × Int))) (gl11 : (List (Int × Int))) : Option Int :=
  nxtM gl11 (m60_redo_Check_K3 gx1 go1 gl2 gl10 l9) fun x11 x12 l13 => bind1 (i64 (x6.Tx + 1)) fun x14 => if x12 = x14 then go2 (mdel gl10 x11) (mdel l13 x11) else go2 gl10 l13
def m60_redo_Check_L2 (gx1 : Int) (go1 : Int → (List Int) → (List (Int × Int)) → (List Bool) → Option Int) (gl2 : (List Int)) (l9 : (List Bool)) (x6 : TRec) : Nat → (List (Int × Int)) → (List (Int × Int)) → Option Int
  | 0, _, _ => none
  | n + 1, gl10, gl11 => m60_redo_Check_L2B (m60_redo_Check_L2 gx1 go1 gl2 l9 x6 n) gx1 go1 gl2 l9 x6 gl10 gl11
def m60_redo_Check_K8 (gl4 : (List Bool)) (x6 : TRec) (gx1 : Int) (go1 : Int → (List Int) → (List (Int × Int)) → (List Bool) → Option Int) (gl2 : (List Int)) (gl3 : (List (Int × Int))) : Option Int :=
  bind1 (idxA 12 gl4 x6.Tx) fun x8 => bind1 (upd gl4 x6.Tx true) fun l9 => m60_redo_Check_L2 gx1 go1 gl2 l9 x6 big gl3 gl3
def m60_redo_Check_K9 (x6 : TRec) (gl4 : (List Bool)) (gx1 : Int) (go1 : Int → (List Int) → (List (Int × Int)) → (List Bool) → Option Int) (gl2 : (List Int)) (gl3 : (List (Int × Int))) (gb12 : Bool) : Option Int :=
  if gb12 = true then some 4 else if x6.New ≠ 0 then some 4 else m60_redo_Check_K8 gl4 x6 gx1 go1 gl2 gl3
def m60_redo_Check_K7 (x6 : TRec) (gl4 : (List Bool)) (gx1 : Int) (go1 : Int → (List Int) → (List (Int × Int)) → (List Bool) → Option Int) (gl2 : (List Int)) (gl3 : (List (Int × Int))) (gb9 : Bool) : Option Int :=
  if gb9 = true then if x6.Item ≠ 0 then m60_redo_Check_K9 x6 gl4 gx1 go1 gl2 gl3 true else if x6.Old ≠ 0 then m60_redo_Check_K9 x6 gl4 gx1 go1 gl2 gl3 true else m60_redo_Check_K9 x6 gl4 gx1 go1 gl2 gl3 false else some 4
def m60_redo_Check_K10 (x6 : TRec) (gl3 : (List (Int × Int))) (gl2 : (List Int)) (gx1 : Int) (go1 : Int → (List Int) → (List (Int × Int)) → (List Bool) → Option Int) (gl4 : (List Bool)) : Option Int :=
  bind1 (i64 (x6.Tx + 1)) fun x27 => bind1 (some (mset gl3 x6.Item x27)) fun l28 => bind1 (idxA 20 gl2 x6.Item) fun x29 => bind1 (upd gl2 x6.Item x6.New) fun l30 => m60_redo_Check_K3 gx1 go1 l30 (mset gl3 x6.Item x27) gl4
def m60_redo_Check_K11 (gl2 : (List Int)) (x6 : TRec) (gl3 : (List (Int × Int))) (gx1 : Int) (go1 : Int → (List Int) → (List (Int × Int)) → (List Bool) → Option Int) (gl4 : (List Bool)) (gb13 : Bool) : Option Int :=
  if gb13 = true then some 4 else bind1 (idxA 20 gl2 x6.Item) fun x31 => if x6.Old ≠ x31 then some 4 else m60_redo_Check_K10 x6 gl3 gl2 gx1 go1 gl4
def m60_redo_Check_K6 (gl3 : (List (Int × Int))) (x6 : TRec) (gl2 : (List Int)) (gx1 : Int) (go1 : Int → (List Int) → (List (Int × Int)) → (List Bool) → Option Int) (gl4 : (List Bool)) (gb8 : Bool) : Option Int :=
  if gb8 = true then if (mget gl3 x6.Item 0) ≠ 0 then bind1 (i64 (x6.Tx + 1)) fun x34 => if (mget gl3 x6.Item 0) ≠ x34 then m60_redo_Check_K11 gl2 x6 gl3 gx1 go1 gl4 true else m60_redo_Check_K11 gl2 x6 gl3 gx1 go1 gl4 false else m60_redo_Check_K11 gl2 x6 gl3 gx1 go1 gl4 false else if x6.Kind = 2 then m60_redo_Check_K7 x6 gl4 gx1 go1 gl2 gl3 true else if x6.Kind = 3 then m60_redo_Check_K7 x6 gl4 gx1 go1 gl2 gl3 true else m60_redo_Check_K7 x6 gl4 gx1 go1 gl2 gl3 false
def m60_redo_Check_K5 (x6 : TRec) (gl3 : (List (Int × Int))) (gl2 : (List Int)) (gx1 : Int) (go1 : Int → (List Int) → (List (Int × Int)) → (List Bool) → Option Int) (gl4 : (List Bool)) : Option Int :=
  if x6.Kind = 1 then m60_redo_Check_K6 gl3 x6 gl2 gx1 go1 gl4 true else m60_redo_Check_K6 gl3 x6 gl2 gx1 go1 gl4 false
def m60_redo_Check_K4 (gl4 : (List Bool)) (x6 : TRec) (gl3 : (List (Int × Int))) (gl2 : (List Int)) (gx1 : Int) (go1 : Int → (List Int) → (List (Int × Int)) → (List Bool) → Option Int) : Option Int :=
  bind1 (idxA 12 gl4 x6.Tx) fun x37 => if x37 = true then some 4 else m60_redo_Check_K5 x6 gl3 gl2 gx1 go1 gl4
def m60_redo_Check_K12 (x6 : TRec) (gl4 : (List Bool)) (gl3 : (List (Int × Int))) (gl2 : (List Int)) (gx1 : Int) (go1 : Int → (List Int) → (List (Int × Int)) → (List Bool) → Option Int) (gb14 : Bool) : Option Int :=
  if gb14 = true then some 1 else if x6.Item < 0 then some 1 else if 20 ≤ x6.Item then some 1 else m60_redo_Check_K4 gl4 x6 gl3 gl2 gx1 go1
def m60_redo_Check_L1B (go1 : Int → (List Int) → (List (Int × Int)) → (List Bool) → Option Int) (a0 : (List TRec)) (gx1 : Int) (gl2 : (List Int)) (gl3 : (List (Int × Int))) (gl4 : (List Bool)) : Option Int :=
  if gx1 < (a0.length : Int) then bind1 (idx a0 gx1) fun x6 => if x6.Tx < 0 then m60_redo_Check_K12 x6 gl4 gl3 gl2 gx1 go1 true else if 12 ≤ x6.Tx then m60_redo_Check_K12 x6 gl4 gl3 gl2 gx1 go1 true else m60_redo_Check_K12 x6 gl4 gl3 gl2 gx1 go1 false else m60_redo_Check_K2
def m60_redo_Check_L1 (a0 : (List TRec)) : Nat → Int → (List Int) → (List (Int × Int)) → (List Bool) → Option Int
  | 0, _, _, _, _ => none
  | n + 1, gx1, gl2, gl3, gl4 => m60_redo_Check_L1B (m60_redo_Check_L1 a0 n) a0 gx1 gl2 gl3 gl4
def m60_redo_Check_K1 (a0 : (List TRec)) : Option Int :=
  m60_redo_Check_L1 a0 big 0 (List.replicate 20 (0 : Int)) [] (List.replicate 12 (false : Bool))
def m60_redo_Check (a0 : (List TRec)) : Option Int :=
  if 400 < (a0.length : Int) then some 2 else m60_redo_Check_K1 a0
def m58_redo_Pages_K2 (gl1 : (List TPage)) : Option ((List TPage) × Int) :=
  bind1 (arrN 20 gl1) fun _ => bind1 (arrN 20 (List.replicate 20 ((⟨0, 0⟩ : TPage) : TPage))) fun _ => bind1 (arrN 20 gl1) fun _ => bind1 (arrN 20 gl1) fun _ => some (gl1, 0)
def m58_redo_Pages_L1B (go1 : Int → (List TPage) → Option ((List TPage) × Int)) (a0 : (List TRec)) (a1 : (List Int)) (gx2 : Int) (gl3 : (List TPage)) : Option ((List TPage) × Int) :=
  if gx2 < (a0.length : Int) then bind1 (idx a0 gx2) fun x9 => if x9.Kind = 1 then bind1 (idxA 20 a1 x9.Item) fun x12 => if gx2 < x12 then bind1 (i64 (gx2 + 1)) fun x14 => bind1 (idxA 20 gl3 x9.Item) fun x15 => bind1 (upd gl3 x9.Item (⟨x9.New, x14⟩ : TPage)) fun l16 => bind1 (i64 (gx2 + 1)) fun x17 => go1 x17 l16 else bind1 (i64 (gx2 + 1)) fun x18 => go1 x18 gl3 else bind1 (i64 (gx2 + 1)) fun x19 => go1 x19 gl3 else m58_redo_Pages_K2 gl3
def m58_redo_Pages_L1 (a0 : (List TRec)) (a1 : (List Int)) : Nat → Int → (List TPage) → Option ((List TPage) × Int)
  | 0, _, _ => none
  | n + 1, gx2, gl3 => m58_redo_Pages_L1B (m58_redo_Pages_L1 a0 a1 n) a0 a1 gx2 gl3
def m58_redo_Pages_K1 (a0 : (List TRec)) (a1 : (List Int)) : Option ((List TPage) × Int) :=
  m58_redo_Pages_L1 a0 a1 big 0 (List.replicate 20 ((⟨0, 0⟩ : TPage) : TPage))
def m58_redo_Pages (a0 : (List TRec)) (a1 : (List Int)) : Option ((List TPage) × Int) :=
  bind1 (m60_redo_Check a0) fun x20 => if x20 ≠ 0 then bind1 (arrN 20 (List.replicate 20 ((⟨0, 0⟩ : TPage) : TPage))) fun _ => bind1 (arrN 20 (List.replicate 20 ((⟨0, 0⟩ : TPage) : TPage))) fun _ => bind1 (arrN 20 (List.replicate 20 ((⟨0, 0⟩ : TPage) : TPage))) fun _ => bind1 (arrN 20 (List.replicate 20 ((⟨0, 0⟩ : TPage) : TPage))) fun _ => some ((List.replicate 20 ((⟨0, 0⟩ : TPage) : TPage)), x20) else m58_redo_Pages_K1 a0 a1
def m113_api_Rec (a0 : (List TRec)) : Option (List TRec) :=
  bind1 (app [] a0) fun l3 => some l3
def m59_redo_Recover_K4 (gl7 : (List TPage)) (gl9 : (List TRec)) : Option ((List TRec) × (List TPage) × Int) :=
  bind1 (arrN 20 gl7) fun _ => bind1 (arrN 20 (List.replicate 20 ((⟨0, 0⟩ : TPage) : TPage))) fun _ => bind1 (arrN 20 gl7) fun _ => bind1 (arrN 20 gl7) fun _ => some (gl9, gl7, 0)
def m59_redo_Recover_L2B (go2 : Int → (List TRec) → Option ((List TRec) × (List TPage) × Int)) (gl4 : (List Bool)) (gl7 : (List TPage)) (gx10 : Int) (gl12 : (List TRec)) : Option ((List TRec) × (List TPage) × Int) :=
  if gx10 < 12 then bind1 (idxA 12 gl4 gx10) fun x34 => if x34 = true then bind1 (app gl12 ([(⟨3, gx10, 0, 0, 0⟩ : TRec)])) fun l38 => bind1 (i64 (gx10 + 1)) fun x39 => go2 x39 l38 else bind1 (i64 (gx10 + 1)) fun x40 => go2 x40 gl12 else m59_redo_Recover_K4 gl7 gl12
def m59_redo_Recover_L2 (gl4 : (List Bool)) (gl7 : (List TPage)) : Nat → Int → (List TRec) → Option ((List TRec) × (List TPage) × Int)
  | 0, _, _ => none
  | n + 1, gx10, gl12 => m59_redo_Recover_L2B (m59_redo_Recover_L2 gl4 gl7 n) gl4 gl7 gx10 gl12
def m59_redo_Recover_R1B (go1 : (List Bool) → (List TRec) → (List TPage) → Option ((List TRec) × (List TPage) × Int)) (gl1 : (List Bool)) (x9 : TRec) (gl4 : (List Bool)) (gl6 : (List TRec)) (gl7 : (List TPage)) : Option ((List TRec) × (List TPage) × Int) :=
  bind1 (idxA 12 gl1 x9.Tx) fun x13 => if x13 = true then go1 gl4 gl6 gl7 else bind1 (idxA 12 gl4 x9.Tx) fun x14 => bind1 (upd gl4 x9.Tx true) fun l15 => bind1 (idxA 20 gl7 x9.Item) fun x18 => bind1 (app gl6 ([(⟨1, x9.Tx, x9.Item, x18.Value_, x9.Old⟩ : TRec)])) fun l22 => bind1 (idxA 20 gl7 x9.Item) fun x23 => bind1 (upd gl7 x9.Item (⟨x9.Old, (l22.length : Int)⟩ : TPage)) fun l24 => go1 l15 l22 l24
def m59_redo_Recover_R1 (gl1 : (List Bool)) : (List TRec) → (List Bool) → (List TRec) → (List TPage) → Option ((List TRec) × (List TPage) × Int)
  | [], gl4, gl6, gl7 => bind1 (arrN 12 gl4) fun _ => m59_redo_Recover_L2 gl4 gl7 big 0 gl6
  | x9 :: rest, gl4, gl6, gl7 => m59_redo_Recover_R1B (m59_redo_Recover_R1 gl1 rest) gl1 x9 gl4 gl6 gl7
def m59_redo_Recover_K3 (a0 : (List TRec)) (gl1 : (List Bool)) (l3 : (List TRec)) (gl2 : (List TPage)) : Option ((List TRec) × (List TPage) × Int) :=
  bind1 (lim a0) fun _ => m59_redo_Recover_R1 gl1 (a0.reverse) (List.replicate 12 (false : Bool)) l3 gl2
def m59_redo_Recover_K2 (a0 : (List TRec)) (l3 : (List TRec)) (gl1 : (List Bool)) (gl2 : (List TPage)) : Option ((List TRec) × (List TPage) × Int) :=
  m59_redo_Recover_K3 a0 gl1 l3 gl2
def m59_redo_Recover_L3B (go3 : Int → (List Bool) → (List TPage) → Option ((List TRec) × (List TPage) × Int)) (a0 : (List TRec)) (l3 : (List TRec)) (gx13 : Int) (gl14 : (List Bool)) (gl15 : (List TPage)) : Option ((List TRec) × (List TPage) × Int) :=
  if gx13 < (a0.length : Int) then bind1 (idx a0 gx13) fun x44 => if x44.Kind ≠ 1 then bind1 (idxA 12 gl14 x44.Tx) fun x47 => bind1 (upd gl14 x44.Tx true) fun l48 => bind1 (i64 (gx13 + 1)) fun x49 => go3 x49 l48 gl15 else bind1 (i64 (gx13 + 1)) fun x50 => bind1 (idxA 20 gl15 x44.Item) fun x51 => if x51.Lsn < x50 then bind1 (i64 (gx13 + 1)) fun x53 => bind1 (idxA 20 gl15 x44.Item) fun x54 => bind1 (upd gl15 x44.Item (⟨x44.New, x53⟩ : TPage)) fun l55 => bind1 (i64 (gx13 + 1)) fun x56 => go3 x56 gl14 l55 else bind1 (i64 (gx13 + 1)) fun x57 => go3 x57 gl14 gl15 else m59_redo_Recover_K2 a0 l3 gl14 gl15
def m59_redo_Recover_L3 (a0 : (List TRec)) (l3 : (List TRec)) : Nat → Int → (List Bool) → (List TPage) → Option ((List TRec) × (List TPage) × Int)
  | 0, _, _, _ => none
  | n + 1, gx13, gl14, gl15 => m59_redo_Recover_L3B (m59_redo_Recover_L3 a0 l3 n) a0 l3 gx13 gl14 gl15
def m59_redo_Recover_K1 (a0 : (List TRec)) (a1 : (List TPage)) : Option ((List TRec) × (List TPage) × Int) :=
  bind1 (m113_api_Rec a0) fun l3 => m59_redo_Recover_L3 a0 l3 big 0 (List.replicate 12 (false : Bool)) a1
def m59_redo_Recover (a0 : (List TRec)) (a1 : (List TPage)) : Option ((List TRec) × (List TPage) × Int) :=
  bind1 (m60_redo_Check a0) fun x58 => if x58 ≠ 0 then bind1 (arrN 20 (List.replicate 20 ((⟨0, 0⟩ : TPage) : TPage))) fun _ => bind1 (arrN 20 (List.replicate 20 ((⟨0, 0⟩ : TPage) : TPage))) fun _ => bind1 (arrN 20 (List.replicate 20 ((⟨0, 0⟩ : TPage) : TPage))) fun _ => some ([], (List.replicate 20 ((⟨0, 0⟩ : TPage) : TPage)), x58) else m59_redo_Recover_K1 a0 a1
def m61_quirref_Recover_K3 (gl5 : (List TPage)) (gl7 : (List TRec)) : Option ((List TRec) × (List TPage)) :=
  bind1 (arrN 20 gl5) fun _ => bind1 (arrN 20 (List.replicate 20 ((⟨0, 0⟩ : TPage) : TPage))) fun _ => bind1 (arrN 20 gl5) fun _ => bind1 (arrN 20 gl5) fun _ => some (gl7, gl5)
def m61_quirref_Recover_L1B (go1 : (List TRec) → Int → Option ((List TRec) × (List TPage))) (gl4 : (List Bool)) (gl5 : (List TPage)) (gl9 : (List TRec)) (gx10 : Int) : Option ((List TRec) × (List TPage)) :=
  if gx10 < 12 then bind1 (idxA 12 gl4 gx10) fun x15 => if x15 = true then bind1 (app gl9 ([(⟨3, gx10, 0, 0, 0⟩ : TRec)])) fun l19 => bind1 (i64 (gx10 + 1)) fun x20 => go1 l19 x20 else bind1 (i64 (gx10 + 1)) fun x21 => go1 gl9 x21 else m61_quirref_Recover_K3 gl5 gl9
def m61_quirref_Recover_L1 (gl4 : (List Bool)) (gl5 : (List TPage)) : Nat → (List TRec) → Int → Option ((List TRec) × (List TPage))
  | 0, _, _ => none
  | n + 1, gl9, gx10 => m61_quirref_Recover_L1B (m61_quirref_Recover_L1 gl4 gl5 n) gl4 gl5 gl9 gx10
def m61_quirref_Recover_K2 (gl3 : (List TRec)) (gl4 : (List Bool)) (gl5 : (List TPage)) : Option ((List TRec) × (List TPage)) :=
  m61_quirref_Recover_L1 gl4 gl5 big gl3 0
def m61_quirref_Recover_K5 (gl15 : (List TPage)) (x23 : TRec) (gl12 : (List TRec)) (gl14 : (List Bool)) (gx13 : Int) (go2 : (List TRec) → Int → (List Bool) → (List TPage) → Option ((List TRec) × (List TPage))) : Option ((List TRec) × (List TPage)) :=
  bind1 (idxA 20 gl15 x23.Item) fun x29 => bind1 (app gl12 ([(⟨1, x23.Tx, x23.Item, x29.Value_, x23.Old⟩ : TRec)])) fun l32 => bind1 (idxA 20 gl15 x23.Item) fun x33 => bind1 (upd gl15 x23.Item (⟨x23.Old, (l32.length : Int)⟩ : TPage)) fun l34 => bind1 (idxA 12 gl14 x23.Tx) fun x35 => bind1 (upd gl14 x23.Tx true) fun l36 => bind1 (i64 (gx13 - 1)) fun x37 => go2 l32 x37 l36 l34
def m61_quirref_Recover_K4 (a0 : (List TRec)) (gx13 : Int) (go2 : (List TRec) → Int → (List Bool) → (List TPage) → Option ((List TRec) × (List TPage))) (gl12 : (List TRec)) (gl14 : (List Bool)) (gl15 : (List TPage)) : Option ((List TRec) × (List TPage)) :=
  bind1 (idx a0 gx13) fun x23 => bind1 (m116_quirref_ended a0 x23.Tx) fun b38 => if b38 = true then bind1 (i64 (gx13 - 1)) fun x42 => go2 gl12 x42 gl14 gl15 else if x23.Kind ≠ 1 then bind1 (i64 (gx13 - 1)) fun x41 => go2 gl12 x41 gl14 gl15 else m61_quirref_Recover_K5 gl15 x23 gl12 gl14 gx13 go2
def m61_quirref_Recover_L2B (go2 : (List TRec) → Int → (List Bool) → (List TPage) → Option ((List TRec) × (List TPage))) (a0 : (List TRec)) (gl12 : (List TRec)) (gx13 : Int) (gl14 : (List Bool)) (gl15 : (List TPage)) : Option ((List TRec) × (List TPage)) :=
  if 0 ≤ gx13 then m61_quirref_Recover_K4 a0 gx13 go2 gl12 gl14 gl15 else m61_quirref_Recover_K2 gl12 gl14 gl15
def m61_quirref_Recover_L2 (a0 : (List TRec)) : Nat → (List TRec) → Int → (List Bool) → (List TPage) → Option ((List TRec) × (List TPage))
  | 0, _, _, _, _ => none
  | n + 1, gl12, gx13, gl14, gl15 => m61_quirref_Recover_L2B (m61_quirref_Recover_L2 a0 n) a0 gl12 gx13 gl14 gl15
def m61_quirref_Recover_K1 (a0 : (List TRec)) (gl1 : (List TPage)) : Option ((List TRec) × (List TPage)) :=
  bind1 (m113_api_Rec a0) fun l3 => bind1 (i64 ((a0.length : Int) - 1)) fun x22 => m61_quirref_Recover_L2 a0 big l3 x22 (List.replicate 12 (false : Bool)) gl1
def m61_quirref_Recover_L3B (go3 : Int → (List TPage) → Option ((List TRec) × (List TPage))) (a0 : (List TRec)) (gx16 : Int) (gl17 : (List TPage)) : Option ((List TRec) × (List TPage)) :=
  if gx16 < 20 then bind1 (m115_quirref_lastUpdate a0 gx16) fun x45 => bind1 (i64 (x45 + 1)) fun x47 => bind1 (idxA 20 gl17 gx16) fun x48 => if x48.Lsn < x47 then if 0 ≤ x45 then bind1 (idx a0 x45) fun x51 => bind1 (i64 (x45 + 1)) fun x52 => bind1 (idxA 20 gl17 gx16) fun x53 => bind1 (upd gl17 gx16 (⟨x51.New, x52⟩ : TPage)) fun l54 => bind1 (i64 (gx16 + 1)) fun x55 => go3 x55 l54 else bind1 (i64 (gx16 + 1)) fun x56 => go3 x56 gl17 else bind1 (i64 (gx16 + 1)) fun x57 => go3 x57 gl17 else m61_quirref_Recover_K1 a0 gl17
def m61_quirref_Recover_L3 (a0 : (List TRec)) : Nat → Int → (List TPage) → Option ((List TRec) × (List TPage))
  | 0, _, _ => none
  | n + 1, gx16, gl17 => m61_quirref_Recover_L3B (m61_quirref_Recover_L3 a0 n) a0 gx16 gl17
def m61_quirref_Recover (a0 : (List TRec)) (a1 : (List TPage)) : Option ((List TRec) × (List TPage)) :=
  m61_quirref_Recover_L3 a0 big 0 a1
def m62_quirref_Pages_K1 (gl1 : (List TPage)) : Option (List TPage) :=
  bind1 (arrN 20 gl1) fun _ => bind1 (arrN 20 (List.replicate 20 ((⟨0, 0⟩ : TPage) : TPage))) fun _ => bind1 (arrN 20 gl1) fun _ => bind1 (arrN 20 gl1) fun _ => some gl1
def m62_quirref_Pages_L1B (go1 : Int → (List TPage) → Option (List TPage)) (a1 : (List Int)) (a0 : (List TRec)) (gx2 : Int) (gl3 : (List TPage)) : Option (List TPage) :=
  if gx2 < 20 then bind1 (idxA 20 a1 gx2) fun x9 => bind1 (cut a0 0 (max 0 (min x9 (a0.length : Int)))) fun l10 => bind1 (m115_quirref_lastUpdate l10 gx2) fun x11 => if 0 ≤ x11 then bind1 (idx a0 x11) fun x14 => bind1 (i64 (x11 + 1)) fun x15 => bind1 (idxA 20 gl3 gx2) fun x16 => bind1 (upd gl3 gx2 (⟨x14.New, x15⟩ : TPage)) fun l17 => bind1 (i64 (gx2 + 1)) fun x18 => go1 x18 l17 else bind1 (i64 (gx2 + 1)) fun x19 => go1 x19 gl3 else m62_quirref_Pages_K1 gl3
def m62_quirref_Pages_L1 (a1 : (List Int)) (a0 : (List TRec)) : Nat → Int → (List TPage) → Option (List TPage)
  | 0, _, _ => none
  | n + 1, gx2, gl3 => m62_quirref_Pages_L1B (m62_quirref_Pages_L1 a1 a0 n) a1 a0 gx2 gl3
def m62_quirref_Pages (a0 : (List TRec)) (a1 : (List Int)) : Option (List TPage) :=
  m62_quirref_Pages_L1 a1 a0 big 0 (List.replicate 20 ((⟨0, 0⟩ : TPage) : TPage))
def m63_api_Rec_K2 : Option Bool :=
  some true
def m63_api_Rec_L1B (go1 : Int → Option Bool) (a0 : (List TRec)) (a1 : (List TRec)) (gx1 : Int) : Option Bool :=
  if gx1 < (a0.length : Int) then bind1 (idx a0 gx1) fun x2 => bind1 (idx a1 gx1) fun x3 => if x2 ≠ x3 then some false else bind1 (i64 (gx1 + 1)) fun x5 => go1 x5 else m63_api_Rec_K2
def m63_api_Rec_L1 (a0 : (List TRec)) (a1 : (List TRec)) : Nat → Int → Option Bool
  | 0, _ => none
  | n + 1, gx1 => m63_api_Rec_L1B (m63_api_Rec_L1 a0 a1 n) a0 a1 gx1
def m63_api_Rec_K1 (a0 : (List TRec)) (a1 : (List TRec)) : Option Bool :=
  m63_api_Rec_L1 a0 a1 big 0
def m63_api_Rec (a0 : (List TRec)) (a1 : (List TRec)) : Option Bool :=
  if (a0.length : Int) ≠ (a1.length : Int) then some false else m63_api_Rec_K1 a0 a1
def m10_quirlaw_RedoSays_K2 (a2 : (List TPage)) (a0 : (List TRec)) (x6 : (List TPage)) (a1 : (List Int)) (x7 : Int) (l13 : (List TRec)) (x15 : (List TPage)) (x16 : Int) : Option Bool :=
  bind1 (arrN 20 a2) fun _ => bind2 (m61_quirref_Recover a0 a2) fun l22 x24 => bind1 (arrN 20 (List.replicate 20 ((⟨0, 0⟩ : TPage) : TPage))) fun _ => bind1 (arrN 20 x24) fun _ => bind1 (arrN 20 x6) fun _ => bind1 (arrN 20 a1) fun _ => bind1 (m62_quirref_Pages a0 a1) fun x31 => bind1 (arrN 20 x6) fun _ => bind1 (arrN 20 x31) fun _ => if x6 = x31 then if x7 = 0 then bind1 (m63_api_Rec l13 l22) fun b37 => if b37 = true then bind1 (arrN 20 x15) fun _ => bind1 (arrN 20 x24) fun _ => bind1 (arrN 20 x15) fun _ => bind1 (arrN 20 x24) fun _ => if x15 = x24 then some (decide (x16 = 0)) else some false else some false else some false else some false
def m10_quirlaw_RedoSays_K4 (x16 : Int) (x3 : Int) (gb2 : Bool) : Option Bool :=
  if gb2 = true then some (decide (x16 = x3)) else some false
def m10_quirlaw_RedoSays_K3 (l13 : (List TRec)) (x15 : (List TPage)) (x16 : Int) (x3 : Int) (gb1 : Bool) : Option Bool :=
  if gb1 = true then if (l13.length : Int) = 0 then bind1 (arrN 20 x15) fun _ => bind1 (arrN 20 x15) fun _ => bind1 (arrN 20 (List.replicate 20 ((⟨0, 0⟩ : TPage) : TPage))) fun _ => if x15 = (List.replicate 20 ((⟨0, 0⟩ : TPage) : TPage)) then m10_quirlaw_RedoSays_K4 x16 x3 true else m10_quirlaw_RedoSays_K4 x16 x3 false else m10_quirlaw_RedoSays_K4 x16 x3 false else some false
def m10_quirlaw_RedoSays_K1 (x3 : Int) (x6 : (List TPage)) (x7 : Int) (l13 : (List TRec)) (x15 : (List TPage)) (x16 : Int) (a2 : (List TPage)) (a0 : (List TRec)) (a1 : (List Int)) : Option Bool :=
  if x3 ≠ 0 then bind1 (arrN 20 x6) fun _ => bind1 (arrN 20 x6) fun _ => bind1 (arrN 20 (List.replicate 20 ((⟨0, 0⟩ : TPage) : TPage))) fun _ => if x6 = (List.replicate 20 ((⟨0, 0⟩ : TPage) : TPage)) then if x7 = x3 then m10_quirlaw_RedoSays_K3 l13 x15 x16 x3 true else m10_quirlaw_RedoSays_K3 l13 x15 x16 x3 false else m10_quirlaw_RedoSays_K3 l13 x15 x16 x3 false else m10_quirlaw_RedoSays_K2 a2 a0 x6 a1 x7 l13 x15 x16
def m10_quirlaw_RedoSays (a0 : (List TRec)) (a1 : (List Int)) (a2 : (List TPage)) : Option Bool :=
  bind1 (m57_quirref_LogErr a0) fun x3 => bind1 (arrN 20 a1) fun _ => bind2 (m58_redo_Pages a0 a1) fun x6 x7 => bind1 (arrN 20 (List.replicate 20 ((⟨0, 0⟩ : TPage) : TPage))) fun _ => bind1 (arrN 20 x6) fun _ => bind1 (arrN 20 a2) fun _ => bind3 (m59_redo_Recover a0 a2) fun l13 x15 x16 => bind1 (arrN 20 (List.replicate 20 ((⟨0, 0⟩ : TPage) : TPage))) fun _ => bind1 (arrN 20 x15) fun _ => bind1 (m60_redo_Check a0) fun x55 => if x55 ≠ x3 then some false else m10_quirlaw_RedoSays_K1 x3 x6 x7 l13 x15 x16 a2 a0 a1
end Go.Proofs.Ytfmgjigdebofaaa
