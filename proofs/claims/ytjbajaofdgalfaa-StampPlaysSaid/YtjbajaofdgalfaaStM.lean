/-
  Models, printed by a program of mine.
  Conditions: none.
-/
import Derived.Test.YtjbajaofdgalfaaX
namespace Go.Proofs.Ytjbajaofdgalfaa
open Go.S
set_option linter.unusedVariables false
structure TOp where
  Tx : Int
  Kind : Int
  Item : Int
  deriving DecidableEq
def TOp.row (x : TOp) : List Value := [.int .i64 x.Tx, .int .i64 x.Kind, .int .i64 x.Item]
structure TPlayed where
  Run : (List TOp)
  Dead : (List Int)
  Late : (List Int)
  deriving DecidableEq
def TPlayed.rowv (x : TPlayed) (vs : List Value) : List Value := [gv vs 0, gv vs 1, gv vs 2]
def TPlayed.sds (x : TPlayed) (vs : List Value) : List Sd := [⟨gv vs 0, 61, 3, x.Run.map TOp.row⟩, ⟨gv vs 1, 3, 1, x.Dead.map I⟩, ⟨gv vs 2, 3, 1, x.Late.map I⟩]
def m49_run_Check_K2 : Option Int :=
  some 0
def m49_run_Check_K3 (gx1 : Int) (go1 : Int → (List Bool) → Option Int) (gl3 : (List Bool)) : Option Int :=
  bind1 (i64 (gx1 + 1)) fun x3 => go1 x3 gl3
def m49_run_Check_K5 (gl2 : (List Bool)) (x4 : TOp) (gx1 : Int) (go1 : Int → (List Bool) → Option Int) : Option Int :=
  bind1 (idxA 12 gl2 x4.Tx) fun x6 => if x6 = true then some 4 else bind1 (idxA 12 gl2 x4.Tx) fun x8 => bind1 (upd gl2 x4.Tx (decide (3 ≤ x4.Kind))) fun l9 => m49_run_Check_K3 gx1 go1 l9
def m49_run_Check_K6 (gl2 : (List Bool)) (x4 : TOp) (gx1 : Int) (go1 : Int → (List Bool) → Option Int) (gb4 : Bool) : Option Int :=
  if gb4 = true then m49_run_Check_K5 gl2 x4 gx1 go1 else if x4.Kind = 3 then if x4.Item ≠ 0 then some 4 else m49_run_Check_K5 gl2 x4 gx1 go1 else if x4.Kind = 4 then if x4.Item ≠ 0 then some 4 else m49_run_Check_K5 gl2 x4 gx1 go1 else some 4
def m49_run_Check_K4 (x4 : TOp) (gl2 : (List Bool)) (gx1 : Int) (go1 : Int → (List Bool) → Option Int) : Option Int :=
  if x4.Kind = 1 then m49_run_Check_K6 gl2 x4 gx1 go1 true else if x4.Kind = 2 then m49_run_Check_K6 gl2 x4 gx1 go1 true else m49_run_Check_K6 gl2 x4 gx1 go1 false
def m49_run_Check_K7 (x4 : TOp) (gl2 : (List Bool)) (gx1 : Int) (go1 : Int → (List Bool) → Option Int) (gb5 : Bool) : Option Int :=
  if gb5 = true then some 1 else if x4.Item < 0 then some 1 else if 20 ≤ x4.Item then some 1 else m49_run_Check_K4 x4 gl2 gx1 go1
def m49_run_Check_L1B (go1 : Int → (List Bool) → Option Int) (a0 : (List TOp)) (gx1 : Int) (gl2 : (List Bool)) : Option Int :=
  if gx1 < (a0.length : Int) then bind1 (idx a0 gx1) fun x4 => if x4.Tx < 0 then m49_run_Check_K7 x4 gl2 gx1 go1 true else if 12 ≤ x4.Tx then m49_run_Check_K7 x4 gl2 gx1 go1 true else m49_run_Check_K7 x4 gl2 gx1 go1 false else m49_run_Check_K2
def m49_run_Check_L1 (a0 : (List TOp)) : Nat → Int → (List Bool) → Option Int
  | 0, _, _ => none
  | n + 1, gx1, gl2 => m49_run_Check_L1B (m49_run_Check_L1 a0 n) a0 gx1 gl2
def m49_run_Check_K1 (a0 : (List TOp)) : Option Int :=
  m49_run_Check_L1 a0 big 0 (List.replicate 12 (false : Bool))
def m49_run_Check (a0 : (List TOp)) : Option Int :=
  if 200 < (a0.length : Int) then some 2 else m49_run_Check_K1 a0
def m42_stamp_Play_K3 (gl3 : (List TOp)) (gl5 : (List Int)) : Option (TPlayed × Int) :=
  some ((⟨gl3, gl5, []⟩ : TPlayed), 0)
def m42_stamp_Play_L1B (go1 : Int → (List Int) → Option (TPlayed × Int)) (gl1 : (List Bool)) (gl3 : (List TOp)) (gx6 : Int) (gl8 : (List Int)) : Option (TPlayed × Int) :=
  if gx6 < 12 then bind1 (idxA 12 gl1 gx6) fun x8 => if x8 = true then bind1 (app gl8 ([gx6])) fun l12 => bind1 (i64 (gx6 + 1)) fun x13 => go1 x13 l12 else bind1 (i64 (gx6 + 1)) fun x14 => go1 x14 gl8 else m42_stamp_Play_K3 gl3 gl8
def m42_stamp_Play_L1 (gl1 : (List Bool)) (gl3 : (List TOp)) : Nat → Int → (List Int) → Option (TPlayed × Int)
  | 0, _, _ => none
  | n + 1, gx6, gl8 => m42_stamp_Play_L1B (m42_stamp_Play_L1 gl1 gl3 n) gl1 gl3 gx6 gl8
def m42_stamp_Play_K2 (gl1 : (List Bool)) (gl3 : (List TOp)) : Option (TPlayed × Int) :=
  bind1 (arrN 12 gl1) fun _ => m42_stamp_Play_L1 gl1 gl3 big 0 []
def m42_stamp_Play_K4 (gx9 : Int) (go2 : Int → (List Int) → (List Int) → (List Bool) → (List TOp) → Option (TPlayed × Int)) (gl15 : (List Int)) (gl16 : (List Int)) (gl17 : (List Bool)) (gl19 : (List TOp)) : Option (TPlayed × Int) :=
  bind1 (i64 (gx9 + 1)) fun x16 => go2 x16 gl15 gl16 gl17 gl19
def m42_stamp_Play_K6 (gl14 : (List TOp)) (x17 : TOp) (gx9 : Int) (go2 : Int → (List Int) → (List Int) → (List Bool) → (List TOp) → Option (TPlayed × Int)) (gx20 : Int) (gx21 : Int) (gl22 : (List Int)) (gl23 : (List Int)) (gl24 : (List Bool)) : Option (TPlayed × Int) :=
  bind1 (app gl14 ([(⟨x17.Tx, gx20, gx21⟩ : TOp)])) fun l22 => m42_stamp_Play_K4 gx9 go2 gl22 gl23 gl24 l22
def m42_stamp_Play_K9 (a1 : Bool) (gx9 : Int) (go2 : Int → (List Int) → (List Int) → (List Bool) → (List TOp) → Option (TPlayed × Int)) (gl10 : (List Int)) (gl11 : (List Int)) (gl12 : (List Bool)) (gl14 : (List TOp)) (x17 : TOp) (gb27 : Bool) : Option (TPlayed × Int) :=
  if gb27 = true then if a1 = true then m42_stamp_Play_K4 gx9 go2 gl10 gl11 gl12 gl14 else bind1 (idxA 12 gl12 x17.Tx) fun x27 => bind1 (upd gl12 x17.Tx true) fun l28 => m42_stamp_Play_K6 gl14 x17 gx9 go2 4 0 gl10 gl11 l28 else bind1 (idxA 12 gl12 x17.Tx) fun x24 => bind1 (upd gl12 x17.Tx true) fun l25 => m42_stamp_Play_K6 gl14 x17 gx9 go2 4 0 gl10 gl11 l25
def m42_stamp_Play_K10 (a1 : Bool) (gx9 : Int) (go2 : Int → (List Int) → (List Int) → (List Bool) → (List TOp) → Option (TPlayed × Int)) (gl10 : (List Int)) (gl11 : (List Int)) (gl12 : (List Bool)) (gl14 : (List TOp)) (x17 : TOp) (gb28 : Bool) : Option (TPlayed × Int) :=
  if gb28 = true then if a1 = true then m42_stamp_Play_K4 gx9 go2 gl10 gl11 gl12 gl14 else bind1 (idxA 12 gl12 x17.Tx) fun x39 => bind1 (upd gl12 x17.Tx true) fun l40 => m42_stamp_Play_K6 gl14 x17 gx9 go2 4 0 gl10 gl11 l40 else bind1 (idxA 12 gl12 x17.Tx) fun x36 => bind1 (upd gl12 x17.Tx true) fun l37 => m42_stamp_Play_K6 gl14 x17 gx9 go2 4 0 gl10 gl11 l37
def m42_stamp_Play_K8 (gl10 : (List Int)) (x17 : TOp) (x19 : Int) (gl14 : (List TOp)) (gx9 : Int) (go2 : Int → (List Int) → (List Int) → (List Bool) → (List TOp) → Option (TPlayed × Int)) (gl11 : (List Int)) (gl12 : (List Bool)) (a1 : Bool) (gb26 : Bool) : Option (TPlayed × Int) :=
  if gb26 = true then bind1 (idxA 20 gl10 x17.Item) fun x32 => if x32 ≤ x19 then bind1 (idxA 20 gl10 x17.Item) fun x34 => bind1 (upd gl10 x17.Item x19) fun l35 => m42_stamp_Play_K6 gl14 x17 gx9 go2 x17.Kind x17.Item l35 gl11 gl12 else if x17.Kind = 2 then bind1 (idxA 20 gl11 x17.Item) fun x42 => if x42 ≤ x19 then m42_stamp_Play_K10 a1 gx9 go2 gl10 gl11 gl12 gl14 x17 true else m42_stamp_Play_K10 a1 gx9 go2 gl10 gl11 gl12 gl14 x17 false else m42_stamp_Play_K10 a1 gx9 go2 gl10 gl11 gl12 gl14 x17 false else if x17.Kind = 2 then bind1 (idxA 20 gl11 x17.Item) fun x30 => if x30 ≤ x19 then m42_stamp_Play_K9 a1 gx9 go2 gl10 gl11 gl12 gl14 x17 true else m42_stamp_Play_K9 a1 gx9 go2 gl10 gl11 gl12 gl14 x17 false else m42_stamp_Play_K9 a1 gx9 go2 gl10 gl11 gl12 gl14 x17 false
def m42_stamp_Play_K7 (gl11 : (List Int)) (x17 : TOp) (x19 : Int) (gl14 : (List TOp)) (gx9 : Int) (go2 : Int → (List Int) → (List Int) → (List Bool) → (List TOp) → Option (TPlayed × Int)) (gl10 : (List Int)) (gl12 : (List Bool)) (a1 : Bool) (gb25 : Bool) : Option (TPlayed × Int) :=
  if gb25 = true then bind1 (idxA 20 gl11 x17.Item) fun x50 => bind1 (idxA 20 gl11 x17.Item) fun x51 => bind1 (upd gl11 x17.Item (max x50 x19)) fun l52 => m42_stamp_Play_K6 gl14 x17 gx9 go2 x17.Kind x17.Item gl10 l52 gl12 else if x17.Kind = 2 then bind1 (idxA 20 gl11 x17.Item) fun x45 => if x45 ≤ x19 then m42_stamp_Play_K8 gl10 x17 x19 gl14 gx9 go2 gl11 gl12 a1 true else m42_stamp_Play_K8 gl10 x17 x19 gl14 gx9 go2 gl11 gl12 a1 false else m42_stamp_Play_K8 gl10 x17 x19 gl14 gx9 go2 gl11 gl12 a1 false
def m42_stamp_Play_K5 (x17 : TOp) (gl14 : (List TOp)) (gx9 : Int) (go2 : Int → (List Int) → (List Int) → (List Bool) → (List TOp) → Option (TPlayed × Int)) (gl10 : (List Int)) (gl11 : (List Int)) (gl12 : (List Bool)) (a1 : Bool) : Option (TPlayed × Int) :=
  bind1 (i64 (x17.Tx + 1)) fun x19 => if 3 ≤ x17.Kind then m42_stamp_Play_K6 gl14 x17 gx9 go2 x17.Kind x17.Item gl10 gl11 gl12 else if x17.Kind = 1 then bind1 (idxA 20 gl10 x17.Item) fun x54 => if x54 ≤ x19 then m42_stamp_Play_K7 gl11 x17 x19 gl14 gx9 go2 gl10 gl12 a1 true else m42_stamp_Play_K7 gl11 x17 x19 gl14 gx9 go2 gl10 gl12 a1 false else m42_stamp_Play_K7 gl11 x17 x19 gl14 gx9 go2 gl10 gl12 a1 false
def m42_stamp_Play_L2B (go2 : Int → (List Int) → (List Int) → (List Bool) → (List TOp) → Option (TPlayed × Int)) (a0 : (List TOp)) (a1 : Bool) (gx9 : Int) (gl10 : (List Int)) (gl11 : (List Int)) (gl12 : (List Bool)) (gl14 : (List TOp)) : Option (TPlayed × Int) :=
  if gx9 < (a0.length : Int) then bind1 (idx a0 gx9) fun x17 => bind1 (idxA 12 gl12 x17.Tx) fun x56 => if x56 = true then m42_stamp_Play_K4 gx9 go2 gl10 gl11 gl12 gl14 else m42_stamp_Play_K5 x17 gl14 gx9 go2 gl10 gl11 gl12 a1 else m42_stamp_Play_K2 gl12 gl14
def m42_stamp_Play_L2 (a0 : (List TOp)) (a1 : Bool) : Nat → Int → (List Int) → (List Int) → (List Bool) → (List TOp) → Option (TPlayed × Int)
  | 0, _, _, _, _, _ => none
  | n + 1, gx9, gl10, gl11, gl12, gl14 => m42_stamp_Play_L2B (m42_stamp_Play_L2 a0 a1 n) a0 a1 gx9 gl10 gl11 gl12 gl14
def m42_stamp_Play_K1 (a0 : (List TOp)) (a1 : Bool) : Option (TPlayed × Int) :=
  m42_stamp_Play_L2 a0 a1 big 0 (List.replicate 20 (0 : Int)) (List.replicate 20 (0 : Int)) (List.replicate 12 (false : Bool)) []
def m42_stamp_Play (a0 : (List TOp)) (a1 : Bool) : Option (TPlayed × Int) :=
  bind1 (m49_run_Check a0) fun x58 => if x58 ≠ 0 then some ((⟨[], [], []⟩ : TPlayed), x58) else m42_stamp_Play_K1 a0 a1
def m43_quirref_RunErr_K2 : Option Int :=
  some 0
def m43_quirref_RunErr_K3 (gx1 : Int) (go1 : Int → Option Int) : Option Int :=
  bind1 (i64 (gx1 + 1)) fun x2 => go1 x2
def m43_quirref_RunErr_L2B (go2 : Int → Option Int) (l5 : (List TOp)) (x3 : TOp) (gx1 : Int) (go1 : Int → Option Int) (gx2 : Int) : Option Int :=
  if gx2 < (l5.length : Int) then bind1 (idx l5 gx2) fun x7 => if x7.Tx = x3.Tx then if 2 < x7.Kind then some 4 else bind1 (i64 (gx2 + 1)) fun x11 => go2 x11 else bind1 (i64 (gx2 + 1)) fun x12 => go2 x12 else m43_quirref_RunErr_K3 gx1 go1
def m43_quirref_RunErr_L2 (l5 : (List TOp)) (x3 : TOp) (gx1 : Int) (go1 : Int → Option Int) : Nat → Int → Option Int
  | 0, _ => none
  | n + 1, gx2 => m43_quirref_RunErr_L2B (m43_quirref_RunErr_L2 l5 x3 gx1 go1 n) l5 x3 gx1 go1 gx2
def m43_quirref_RunErr_K5 (a0 : (List TOp)) (gx1 : Int) (x3 : TOp) (go1 : Int → Option Int) : Option Int :=
  bind1 (cut a0 0 gx1) fun l5 => m43_quirref_RunErr_L2 l5 x3 gx1 go1 big 0
def m43_quirref_RunErr_K7 (a0 : (List TOp)) (gx1 : Int) (x3 : TOp) (go1 : Int → Option Int) (gb4 : Bool) : Option Int :=
  if gb4 = true then some 4 else m43_quirref_RunErr_K5 a0 gx1 x3 go1
def m43_quirref_RunErr_K6 (x3 : TOp) (a0 : (List TOp)) (gx1 : Int) (go1 : Int → Option Int) (gb3 : Bool) : Option Int :=
  if gb3 = true then some 4 else if 2 < x3.Kind then if x3.Item ≠ 0 then m43_quirref_RunErr_K7 a0 gx1 x3 go1 true else m43_quirref_RunErr_K7 a0 gx1 x3 go1 false else m43_quirref_RunErr_K7 a0 gx1 x3 go1 false
def m43_quirref_RunErr_K4 (x3 : TOp) (a0 : (List TOp)) (gx1 : Int) (go1 : Int → Option Int) : Option Int :=
  if x3.Kind < 1 then m43_quirref_RunErr_K6 x3 a0 gx1 go1 true else if 4 < x3.Kind then m43_quirref_RunErr_K6 x3 a0 gx1 go1 true else m43_quirref_RunErr_K6 x3 a0 gx1 go1 false
def m43_quirref_RunErr_K8 (x3 : TOp) (a0 : (List TOp)) (gx1 : Int) (go1 : Int → Option Int) (gb5 : Bool) : Option Int :=
  if gb5 = true then some 1 else if x3.Item < 0 then some 1 else if 19 < x3.Item then some 1 else m43_quirref_RunErr_K4 x3 a0 gx1 go1
def m43_quirref_RunErr_L1B (go1 : Int → Option Int) (a0 : (List TOp)) (gx1 : Int) : Option Int :=
  if gx1 < (a0.length : Int) then bind1 (idx a0 gx1) fun x3 => if x3.Tx < 0 then m43_quirref_RunErr_K8 x3 a0 gx1 go1 true else if 11 < x3.Tx then m43_quirref_RunErr_K8 x3 a0 gx1 go1 true else m43_quirref_RunErr_K8 x3 a0 gx1 go1 false else m43_quirref_RunErr_K2
def m43_quirref_RunErr_L1 (a0 : (List TOp)) : Nat → Int → Option Int
  | 0, _ => none
  | n + 1, gx1 => m43_quirref_RunErr_L1B (m43_quirref_RunErr_L1 a0 n) a0 gx1
def m43_quirref_RunErr_K1 (a0 : (List TOp)) : Option Int :=
  m43_quirref_RunErr_L1 a0 big 0
def m43_quirref_RunErr (a0 : (List TOp)) : Option Int :=
  if 200 < (a0.length : Int) then some 2 else m43_quirref_RunErr_K1 a0
def m147_api_Op_K2 : Option Bool :=
  some true
def m147_api_Op_L1B (go1 : Int → Option Bool) (a0 : (List TOp)) (a1 : (List TOp)) (gx1 : Int) : Option Bool :=
  if gx1 < (a0.length : Int) then bind1 (idx a0 gx1) fun x2 => bind1 (idx a1 gx1) fun x3 => if x2 ≠ x3 then some false else bind1 (i64 (gx1 + 1)) fun x5 => go1 x5 else m147_api_Op_K2
def m147_api_Op_L1 (a0 : (List TOp)) (a1 : (List TOp)) : Nat → Int → Option Bool
  | 0, _ => none
  | n + 1, gx1 => m147_api_Op_L1B (m147_api_Op_L1 a0 a1 n) a0 a1 gx1
def m147_api_Op_K1 (a0 : (List TOp)) (a1 : (List TOp)) : Option Bool :=
  m147_api_Op_L1 a0 a1 big 0
def m147_api_Op (a0 : (List TOp)) (a1 : (List TOp)) : Option Bool :=
  if (a0.length : Int) ≠ (a1.length : Int) then some false else m147_api_Op_K1 a0 a1
def m33_slices_Equal_int_K2 : Option Bool :=
  some true
def m33_slices_Equal_int_L1B (go1 : Int → Option Bool) (a0 : (List Int)) (a1 : (List Int)) (gx1 : Int) : Option Bool :=
  if gx1 < (a0.length : Int) then bind1 (idx a0 gx1) fun x2 => bind1 (idx a1 gx1) fun x3 => if x2 ≠ x3 then some false else bind1 (i64 (gx1 + 1)) fun x5 => go1 x5 else m33_slices_Equal_int_K2
def m33_slices_Equal_int_L1 (a0 : (List Int)) (a1 : (List Int)) : Nat → Int → Option Bool
  | 0, _ => none
  | n + 1, gx1 => m33_slices_Equal_int_L1B (m33_slices_Equal_int_L1 a0 a1 n) a0 a1 gx1
def m33_slices_Equal_int_K1 (a0 : (List Int)) (a1 : (List Int)) : Option Bool :=
  m33_slices_Equal_int_L1 a0 a1 big 0
def m33_slices_Equal_int (a0 : (List Int)) (a1 : (List Int)) : Option Bool :=
  if (a0.length : Int) ≠ (a1.length : Int) then some false else m33_slices_Equal_int_K1 a0 a1
def m44_quirref_SamePlayed_K1 (a0 : TPlayed) (a1 : TPlayed) (gb1 : Bool) : Option Bool :=
  if gb1 = true then bind1 (m33_slices_Equal_int a0.Late a1.Late) fun b3 => some b3 else some false
def m44_quirref_SamePlayed (a0 : TPlayed) (a1 : TPlayed) : Option Bool :=
  bind1 (m147_api_Op a0.Run a1.Run) fun b5 => if b5 = true then bind1 (m33_slices_Equal_int a0.Dead a1.Dead) fun b7 => if b7 = true then m44_quirref_SamePlayed_K1 a0 a1 true else m44_quirref_SamePlayed_K1 a0 a1 false else m44_quirref_SamePlayed_K1 a0 a1 false
def m196_slices_Index_int_K1 : Option Int :=
  some (-1)
def m196_slices_Index_int_L1B (go1 : Int → Option Int) (a0 : (List Int)) (a1 : Int) (gx1 : Int) : Option Int :=
  if gx1 < (a0.length : Int) then bind1 (idx a0 gx1) fun x2 => if a1 = x2 then some gx1 else bind1 (i64 (gx1 + 1)) fun x4 => go1 x4 else m196_slices_Index_int_K1
def m196_slices_Index_int_L1 (a0 : (List Int)) (a1 : Int) : Nat → Int → Option Int
  | 0, _ => none
  | n + 1, gx1 => m196_slices_Index_int_L1B (m196_slices_Index_int_L1 a0 a1 n) a0 a1 gx1
def m196_slices_Index_int (a0 : (List Int)) (a1 : Int) : Option Int :=
  m196_slices_Index_int_L1 a0 a1 big 0
def m151_slices_Contains_int (a0 : (List Int)) (a1 : Int) : Option Bool :=
  bind1 (m196_slices_Index_int a0 a1) fun x1 => some (decide (0 ≤ x1))
def m45_quirref_Stamp_K1 (gl2 : (List TOp)) (gl4 : (List Int)) : Option TPlayed :=
  bind1 (xSort gl4) fun l3 => some (⟨gl2, l3, []⟩ : TPlayed)
def m45_quirref_Stamp_K2 (gx5 : Int) (go1 : Int → (List TOp) → (List Int) → Option TPlayed) (gl11 : (List TOp)) (gl13 : (List Int)) : Option TPlayed :=
  bind1 (i64 (gx5 + 1)) fun x5 => go1 x5 gl11 gl13
def m45_quirref_Stamp_K5 (gl7 : (List TOp)) (x6 : TOp) (gx5 : Int) (go1 : Int → (List TOp) → (List Int) → Option TPlayed) (gl9 : (List Int)) : Option TPlayed :=
  bind1 (app gl7 ([x6])) fun l10 => m45_quirref_Stamp_K2 gx5 go1 l10 gl9
def m45_quirref_Stamp_K8 (gx5 : Int) (go1 : Int → (List TOp) → (List Int) → Option TPlayed) (gl7 : (List TOp)) (gl9 : (List Int)) (x6 : TOp) (gb17 : Bool) : Option TPlayed :=
  if gb17 = true then m45_quirref_Stamp_K2 gx5 go1 gl7 gl9 else m45_quirref_Stamp_K5 gl7 x6 gx5 go1 gl9
def m45_quirref_Stamp_K9 (gx5 : Int) (go1 : Int → (List TOp) → (List Int) → Option TPlayed) (gl7 : (List TOp)) (gl9 : (List Int)) (x6 : TOp) (gb18 : Bool) : Option TPlayed :=
  m45_quirref_Stamp_K8 gx5 go1 gl7 gl9 x6 gb18
def m45_quirref_Stamp_K10 (gx5 : Int) (go1 : Int → (List TOp) → (List Int) → Option TPlayed) (gl7 : (List TOp)) (gl9 : (List Int)) (x6 : TOp) (gx19 : Int) : Option TPlayed :=
  m45_quirref_Stamp_K9 gx5 go1 gl7 gl9 x6 (decide (0 ≤ gx19))
def m45_quirref_Stamp_K11 (gx5 : Int) (go1 : Int → (List TOp) → (List Int) → Option TPlayed) (gl7 : (List TOp)) (gl9 : (List Int)) (x6 : TOp) : Option TPlayed :=
  m45_quirref_Stamp_K10 gx5 go1 gl7 gl9 x6 (-1)
def m45_quirref_Stamp_K12 (gx5 : Int) (go1 : Int → (List TOp) → (List Int) → Option TPlayed) (gl7 : (List TOp)) (gl9 : (List Int)) (x6 : TOp) (gx20 : Int) (go2 : Int → Option TPlayed) (gb21 : Bool) : Option TPlayed :=
  if gb21 = true then m45_quirref_Stamp_K10 gx5 go1 gl7 gl9 x6 gx20 else bind1 (i64 (gx20 + 1)) fun x15 => go2 x15
def m45_quirref_Stamp_K13 (gx5 : Int) (go1 : Int → (List TOp) → (List Int) → Option TPlayed) (gl7 : (List TOp)) (gl9 : (List Int)) (x6 : TOp) (gx20 : Int) (go2 : Int → Option TPlayed) (x14 : TOp) (gb22 : Bool) : Option TPlayed :=
  if gb22 = true then m45_quirref_Stamp_K12 gx5 go1 gl7 gl9 x6 gx20 go2 (decide (x6.Tx < x14.Tx)) else m45_quirref_Stamp_K12 gx5 go1 gl7 gl9 x6 gx20 go2 false
def m45_quirref_Stamp_L2B (go2 : Int → Option TPlayed) (gl7 : (List TOp)) (x6 : TOp) (gx5 : Int) (go1 : Int → (List TOp) → (List Int) → Option TPlayed) (gl9 : (List Int)) (gx20 : Int) : Option TPlayed :=
  if gx20 < (gl7.length : Int) then bind1 (idx gl7 gx20) fun x14 => if x14.Kind = 2 then if x14.Item = x6.Item then m45_quirref_Stamp_K13 gx5 go1 gl7 gl9 x6 gx20 go2 x14 true else m45_quirref_Stamp_K13 gx5 go1 gl7 gl9 x6 gx20 go2 x14 false else m45_quirref_Stamp_K13 gx5 go1 gl7 gl9 x6 gx20 go2 x14 false else m45_quirref_Stamp_K11 gx5 go1 gl7 gl9 x6
def m45_quirref_Stamp_L2 (gl7 : (List TOp)) (x6 : TOp) (gx5 : Int) (go1 : Int → (List TOp) → (List Int) → Option TPlayed) (gl9 : (List Int)) : Nat → Int → Option TPlayed
  | 0, _ => none
  | n + 1, gx20 => m45_quirref_Stamp_L2B (m45_quirref_Stamp_L2 gl7 x6 gx5 go1 gl9 n) gl7 x6 gx5 go1 gl9 gx20
def m45_quirref_Stamp_K7 (gl7 : (List TOp)) (x6 : TOp) (gx5 : Int) (go1 : Int → (List TOp) → (List Int) → Option TPlayed) (gl9 : (List Int)) (gb16 : Bool) : Option TPlayed :=
  if gb16 = true then m45_quirref_Stamp_K5 gl7 x6 gx5 go1 gl9 else m45_quirref_Stamp_L2 gl7 x6 gx5 go1 gl9 big 0
def m45_quirref_Stamp_K14 (gl7 : (List TOp)) (x6 : TOp) (gx5 : Int) (go1 : Int → (List TOp) → (List Int) → Option TPlayed) (gl9 : (List Int)) (gb23 : Bool) : Option TPlayed :=
  m45_quirref_Stamp_K7 gl7 x6 gx5 go1 gl9 gb23
def m45_quirref_Stamp_K15 (gl7 : (List TOp)) (x6 : TOp) (gx5 : Int) (go1 : Int → (List TOp) → (List Int) → Option TPlayed) (gl9 : (List Int)) (gx24 : Int) : Option TPlayed :=
  m45_quirref_Stamp_K14 gl7 x6 gx5 go1 gl9 (decide (0 ≤ gx24))
def m45_quirref_Stamp_K16 (gl7 : (List TOp)) (x6 : TOp) (gx5 : Int) (go1 : Int → (List TOp) → (List Int) → Option TPlayed) (gl9 : (List Int)) : Option TPlayed :=
  m45_quirref_Stamp_K15 gl7 x6 gx5 go1 gl9 (-1)
def m45_quirref_Stamp_K17 (gl7 : (List TOp)) (x6 : TOp) (gx5 : Int) (go1 : Int → (List TOp) → (List Int) → Option TPlayed) (gl9 : (List Int)) (gx25 : Int) (go3 : Int → Option TPlayed) (gb26 : Bool) : Option TPlayed :=
  if gb26 = true then m45_quirref_Stamp_K15 gl7 x6 gx5 go1 gl9 gx25 else bind1 (i64 (gx25 + 1)) fun x23 => go3 x23
def m45_quirref_Stamp_K18 (gl7 : (List TOp)) (x6 : TOp) (gx5 : Int) (go1 : Int → (List TOp) → (List Int) → Option TPlayed) (gl9 : (List Int)) (gx25 : Int) (go3 : Int → Option TPlayed) (x22 : TOp) (gb27 : Bool) : Option TPlayed :=
  if gb27 = true then m45_quirref_Stamp_K17 gl7 x6 gx5 go1 gl9 gx25 go3 (decide (x6.Tx < x22.Tx)) else m45_quirref_Stamp_K17 gl7 x6 gx5 go1 gl9 gx25 go3 false
def m45_quirref_Stamp_L3B (go3 : Int → Option TPlayed) (gl7 : (List TOp)) (x6 : TOp) (gx5 : Int) (go1 : Int → (List TOp) → (List Int) → Option TPlayed) (gl9 : (List Int)) (gx25 : Int) : Option TPlayed :=
  if gx25 < (gl7.length : Int) then bind1 (idx gl7 gx25) fun x22 => if x22.Kind = 1 then if x22.Item = x6.Item then m45_quirref_Stamp_K18 gl7 x6 gx5 go1 gl9 gx25 go3 x22 true else m45_quirref_Stamp_K18 gl7 x6 gx5 go1 gl9 gx25 go3 x22 false else m45_quirref_Stamp_K18 gl7 x6 gx5 go1 gl9 gx25 go3 x22 false else m45_quirref_Stamp_K16 gl7 x6 gx5 go1 gl9
def m45_quirref_Stamp_L3 (gl7 : (List TOp)) (x6 : TOp) (gx5 : Int) (go1 : Int → (List TOp) → (List Int) → Option TPlayed) (gl9 : (List Int)) : Nat → Int → Option TPlayed
  | 0, _ => none
  | n + 1, gx25 => m45_quirref_Stamp_L3B (m45_quirref_Stamp_L3 gl7 x6 gx5 go1 gl9 n) gl7 x6 gx5 go1 gl9 gx25
def m45_quirref_Stamp_K6 (gl7 : (List TOp)) (x6 : TOp) (gx5 : Int) (go1 : Int → (List TOp) → (List Int) → Option TPlayed) (gl9 : (List Int)) (gb15 : Bool) : Option TPlayed :=
  if gb15 = true then m45_quirref_Stamp_L3 gl7 x6 gx5 go1 gl9 big 0 else m45_quirref_Stamp_K5 gl7 x6 gx5 go1 gl9
def m45_quirref_Stamp_K19 (gl9 : (List Int)) (x6 : TOp) (gl7 : (List TOp)) (gx5 : Int) (go1 : Int → (List TOp) → (List Int) → Option TPlayed) : Option TPlayed :=
  bind1 (app gl9 ([x6.Tx])) fun l31 => bind1 (app gl7 ([(⟨x6.Tx, 4, 0⟩ : TOp)])) fun l34 => m45_quirref_Stamp_K2 gx5 go1 l34 l31
def m45_quirref_Stamp_K22 (gx5 : Int) (go1 : Int → (List TOp) → (List Int) → Option TPlayed) (gl7 : (List TOp)) (gl9 : (List Int)) (x6 : TOp) (gb30 : Bool) : Option TPlayed :=
  if gb30 = true then m45_quirref_Stamp_K2 gx5 go1 gl7 gl9 else m45_quirref_Stamp_K19 gl9 x6 gl7 gx5 go1
def m45_quirref_Stamp_K23 (gx5 : Int) (go1 : Int → (List TOp) → (List Int) → Option TPlayed) (gl7 : (List TOp)) (gl9 : (List Int)) (x6 : TOp) (gb31 : Bool) : Option TPlayed :=
  m45_quirref_Stamp_K22 gx5 go1 gl7 gl9 x6 gb31
def m45_quirref_Stamp_K24 (gx5 : Int) (go1 : Int → (List TOp) → (List Int) → Option TPlayed) (gl7 : (List TOp)) (gl9 : (List Int)) (x6 : TOp) (gx32 : Int) : Option TPlayed :=
  m45_quirref_Stamp_K23 gx5 go1 gl7 gl9 x6 (decide (0 ≤ gx32))
def m45_quirref_Stamp_K25 (gx5 : Int) (go1 : Int → (List TOp) → (List Int) → Option TPlayed) (gl7 : (List TOp)) (gl9 : (List Int)) (x6 : TOp) : Option TPlayed :=
  m45_quirref_Stamp_K24 gx5 go1 gl7 gl9 x6 (-1)
def m45_quirref_Stamp_K26 (gx5 : Int) (go1 : Int → (List TOp) → (List Int) → Option TPlayed) (gl7 : (List TOp)) (gl9 : (List Int)) (x6 : TOp) (gx33 : Int) (go4 : Int → Option TPlayed) (gb34 : Bool) : Option TPlayed :=
  if gb34 = true then m45_quirref_Stamp_K24 gx5 go1 gl7 gl9 x6 gx33 else bind1 (i64 (gx33 + 1)) fun x39 => go4 x39
def m45_quirref_Stamp_K27 (gx5 : Int) (go1 : Int → (List TOp) → (List Int) → Option TPlayed) (gl7 : (List TOp)) (gl9 : (List Int)) (x6 : TOp) (gx33 : Int) (go4 : Int → Option TPlayed) (x38 : TOp) (gb35 : Bool) : Option TPlayed :=
  if gb35 = true then m45_quirref_Stamp_K26 gx5 go1 gl7 gl9 x6 gx33 go4 (decide (x6.Tx < x38.Tx)) else m45_quirref_Stamp_K26 gx5 go1 gl7 gl9 x6 gx33 go4 false
def m45_quirref_Stamp_L4B (go4 : Int → Option TPlayed) (gl7 : (List TOp)) (x6 : TOp) (gx5 : Int) (go1 : Int → (List TOp) → (List Int) → Option TPlayed) (gl9 : (List Int)) (gx33 : Int) : Option TPlayed :=
  if gx33 < (gl7.length : Int) then bind1 (idx gl7 gx33) fun x38 => if x38.Kind = 2 then if x38.Item = x6.Item then m45_quirref_Stamp_K27 gx5 go1 gl7 gl9 x6 gx33 go4 x38 true else m45_quirref_Stamp_K27 gx5 go1 gl7 gl9 x6 gx33 go4 x38 false else m45_quirref_Stamp_K27 gx5 go1 gl7 gl9 x6 gx33 go4 x38 false else m45_quirref_Stamp_K25 gx5 go1 gl7 gl9 x6
def m45_quirref_Stamp_L4 (gl7 : (List TOp)) (x6 : TOp) (gx5 : Int) (go1 : Int → (List TOp) → (List Int) → Option TPlayed) (gl9 : (List Int)) : Nat → Int → Option TPlayed
  | 0, _ => none
  | n + 1, gx33 => m45_quirref_Stamp_L4B (m45_quirref_Stamp_L4 gl7 x6 gx5 go1 gl9 n) gl7 x6 gx5 go1 gl9 gx33
def m45_quirref_Stamp_K21 (gl9 : (List Int)) (x6 : TOp) (gl7 : (List TOp)) (gx5 : Int) (go1 : Int → (List TOp) → (List Int) → Option TPlayed) (gb29 : Bool) : Option TPlayed :=
  if gb29 = true then m45_quirref_Stamp_K19 gl9 x6 gl7 gx5 go1 else m45_quirref_Stamp_L4 gl7 x6 gx5 go1 gl9 big 0
def m45_quirref_Stamp_K28 (gl9 : (List Int)) (x6 : TOp) (gl7 : (List TOp)) (gx5 : Int) (go1 : Int → (List TOp) → (List Int) → Option TPlayed) (gb36 : Bool) : Option TPlayed :=
  m45_quirref_Stamp_K21 gl9 x6 gl7 gx5 go1 gb36
def m45_quirref_Stamp_K29 (gl9 : (List Int)) (x6 : TOp) (gl7 : (List TOp)) (gx5 : Int) (go1 : Int → (List TOp) → (List Int) → Option TPlayed) (gx37 : Int) : Option TPlayed :=
  m45_quirref_Stamp_K28 gl9 x6 gl7 gx5 go1 (decide (0 ≤ gx37))
def m45_quirref_Stamp_K30 (gl9 : (List Int)) (x6 : TOp) (gl7 : (List TOp)) (gx5 : Int) (go1 : Int → (List TOp) → (List Int) → Option TPlayed) : Option TPlayed :=
  m45_quirref_Stamp_K29 gl9 x6 gl7 gx5 go1 (-1)
def m45_quirref_Stamp_K31 (gl9 : (List Int)) (x6 : TOp) (gl7 : (List TOp)) (gx5 : Int) (go1 : Int → (List TOp) → (List Int) → Option TPlayed) (gx38 : Int) (go5 : Int → Option TPlayed) (gb39 : Bool) : Option TPlayed :=
  if gb39 = true then m45_quirref_Stamp_K29 gl9 x6 gl7 gx5 go1 gx38 else bind1 (i64 (gx38 + 1)) fun x47 => go5 x47
def m45_quirref_Stamp_K32 (gl9 : (List Int)) (x6 : TOp) (gl7 : (List TOp)) (gx5 : Int) (go1 : Int → (List TOp) → (List Int) → Option TPlayed) (gx38 : Int) (go5 : Int → Option TPlayed) (x46 : TOp) (gb40 : Bool) : Option TPlayed :=
  if gb40 = true then m45_quirref_Stamp_K31 gl9 x6 gl7 gx5 go1 gx38 go5 (decide (x6.Tx < x46.Tx)) else m45_quirref_Stamp_K31 gl9 x6 gl7 gx5 go1 gx38 go5 false
def m45_quirref_Stamp_L5B (go5 : Int → Option TPlayed) (gl7 : (List TOp)) (x6 : TOp) (gl9 : (List Int)) (gx5 : Int) (go1 : Int → (List TOp) → (List Int) → Option TPlayed) (gx38 : Int) : Option TPlayed :=
  if gx38 < (gl7.length : Int) then bind1 (idx gl7 gx38) fun x46 => if x46.Kind = 1 then if x46.Item = x6.Item then m45_quirref_Stamp_K32 gl9 x6 gl7 gx5 go1 gx38 go5 x46 true else m45_quirref_Stamp_K32 gl9 x6 gl7 gx5 go1 gx38 go5 x46 false else m45_quirref_Stamp_K32 gl9 x6 gl7 gx5 go1 gx38 go5 x46 false else m45_quirref_Stamp_K30 gl9 x6 gl7 gx5 go1
def m45_quirref_Stamp_L5 (gl7 : (List TOp)) (x6 : TOp) (gl9 : (List Int)) (gx5 : Int) (go1 : Int → (List TOp) → (List Int) → Option TPlayed) : Nat → Int → Option TPlayed
  | 0, _ => none
  | n + 1, gx38 => m45_quirref_Stamp_L5B (m45_quirref_Stamp_L5 gl7 x6 gl9 gx5 go1 n) gl7 x6 gl9 gx5 go1 gx38
def m45_quirref_Stamp_K20 (gl7 : (List TOp)) (x6 : TOp) (gl9 : (List Int)) (gx5 : Int) (go1 : Int → (List TOp) → (List Int) → Option TPlayed) (gb28 : Bool) : Option TPlayed :=
  if gb28 = true then m45_quirref_Stamp_L5 gl7 x6 gl9 gx5 go1 big 0 else m45_quirref_Stamp_K19 gl9 x6 gl7 gx5 go1
def m45_quirref_Stamp_K4 (x6 : TOp) (a1 : Bool) (gl7 : (List TOp)) (gl9 : (List Int)) (gx5 : Int) (go1 : Int → (List TOp) → (List Int) → Option TPlayed) (gb14 : Bool) : Option TPlayed :=
  if gb14 = true then if x6.Kind = 2 then if a1 = true then m45_quirref_Stamp_K20 gl7 x6 gl9 gx5 go1 true else m45_quirref_Stamp_K20 gl7 x6 gl9 gx5 go1 false else m45_quirref_Stamp_K20 gl7 x6 gl9 gx5 go1 false else if x6.Kind = 2 then if a1 = true then m45_quirref_Stamp_K6 gl7 x6 gx5 go1 gl9 true else m45_quirref_Stamp_K6 gl7 x6 gx5 go1 gl9 false else m45_quirref_Stamp_K6 gl7 x6 gx5 go1 gl9 false
def m45_quirref_Stamp_K34 (x6 : TOp) (a1 : Bool) (gl7 : (List TOp)) (gl9 : (List Int)) (gx5 : Int) (go1 : Int → (List TOp) → (List Int) → Option TPlayed) (gb42 : Bool) : Option TPlayed :=
  if gb42 = true then m45_quirref_Stamp_K4 x6 a1 gl7 gl9 gx5 go1 true else m45_quirref_Stamp_K4 x6 a1 gl7 gl9 gx5 go1 false
def m45_quirref_Stamp_K35 (x6 : TOp) (a1 : Bool) (gl7 : (List TOp)) (gl9 : (List Int)) (gx5 : Int) (go1 : Int → (List TOp) → (List Int) → Option TPlayed) (gb43 : Bool) : Option TPlayed :=
  if gb43 = true then m45_quirref_Stamp_K34 x6 a1 gl7 gl9 gx5 go1 true else m45_quirref_Stamp_K34 x6 a1 gl7 gl9 gx5 go1 false
def m45_quirref_Stamp_K36 (x6 : TOp) (a1 : Bool) (gl7 : (List TOp)) (gl9 : (List Int)) (gx5 : Int) (go1 : Int → (List TOp) → (List Int) → Option TPlayed) (gb44 : Bool) : Option TPlayed :=
  m45_quirref_Stamp_K35 x6 a1 gl7 gl9 gx5 go1 gb44
def m45_quirref_Stamp_K37 (x6 : TOp) (a1 : Bool) (gl7 : (List TOp)) (gl9 : (List Int)) (gx5 : Int) (go1 : Int → (List TOp) → (List Int) → Option TPlayed) (gx45 : Int) : Option TPlayed :=
  m45_quirref_Stamp_K36 x6 a1 gl7 gl9 gx5 go1 (decide (0 ≤ gx45))
def m45_quirref_Stamp_K38 (x6 : TOp) (a1 : Bool) (gl7 : (List TOp)) (gl9 : (List Int)) (gx5 : Int) (go1 : Int → (List TOp) → (List Int) → Option TPlayed) : Option TPlayed :=
  m45_quirref_Stamp_K37 x6 a1 gl7 gl9 gx5 go1 (-1)
def m45_quirref_Stamp_K39 (x6 : TOp) (a1 : Bool) (gl7 : (List TOp)) (gl9 : (List Int)) (gx5 : Int) (go1 : Int → (List TOp) → (List Int) → Option TPlayed) (gx46 : Int) (go6 : Int → Option TPlayed) (gb47 : Bool) : Option TPlayed :=
  if gb47 = true then m45_quirref_Stamp_K37 x6 a1 gl7 gl9 gx5 go1 gx46 else bind1 (i64 (gx46 + 1)) fun x58 => go6 x58
def m45_quirref_Stamp_K40 (x6 : TOp) (a1 : Bool) (gl7 : (List TOp)) (gl9 : (List Int)) (gx5 : Int) (go1 : Int → (List TOp) → (List Int) → Option TPlayed) (gx46 : Int) (go6 : Int → Option TPlayed) (x57 : TOp) (gb48 : Bool) : Option TPlayed :=
  if gb48 = true then m45_quirref_Stamp_K39 x6 a1 gl7 gl9 gx5 go1 gx46 go6 (decide (x6.Tx < x57.Tx)) else m45_quirref_Stamp_K39 x6 a1 gl7 gl9 gx5 go1 gx46 go6 false
def m45_quirref_Stamp_L6B (go6 : Int → Option TPlayed) (gl7 : (List TOp)) (x6 : TOp) (a1 : Bool) (gl9 : (List Int)) (gx5 : Int) (go1 : Int → (List TOp) → (List Int) → Option TPlayed) (gx46 : Int) : Option TPlayed :=
  if gx46 < (gl7.length : Int) then bind1 (idx gl7 gx46) fun x57 => if x57.Kind = 1 then if x57.Item = x6.Item then m45_quirref_Stamp_K40 x6 a1 gl7 gl9 gx5 go1 gx46 go6 x57 true else m45_quirref_Stamp_K40 x6 a1 gl7 gl9 gx5 go1 gx46 go6 x57 false else m45_quirref_Stamp_K40 x6 a1 gl7 gl9 gx5 go1 gx46 go6 x57 false else m45_quirref_Stamp_K38 x6 a1 gl7 gl9 gx5 go1
def m45_quirref_Stamp_L6 (gl7 : (List TOp)) (x6 : TOp) (a1 : Bool) (gl9 : (List Int)) (gx5 : Int) (go1 : Int → (List TOp) → (List Int) → Option TPlayed) : Nat → Int → Option TPlayed
  | 0, _ => none
  | n + 1, gx46 => m45_quirref_Stamp_L6B (m45_quirref_Stamp_L6 gl7 x6 a1 gl9 gx5 go1 n) gl7 x6 a1 gl9 gx5 go1 gx46
def m45_quirref_Stamp_K33 (x6 : TOp) (a1 : Bool) (gl7 : (List TOp)) (gl9 : (List Int)) (gx5 : Int) (go1 : Int → (List TOp) → (List Int) → Option TPlayed) (gb41 : Bool) : Option TPlayed :=
  if gb41 = true then m45_quirref_Stamp_K4 x6 a1 gl7 gl9 gx5 go1 true else if x6.Kind = 2 then m45_quirref_Stamp_L6 gl7 x6 a1 gl9 gx5 go1 big 0 else m45_quirref_Stamp_K34 x6 a1 gl7 gl9 gx5 go1 false
def m45_quirref_Stamp_K41 (x6 : TOp) (a1 : Bool) (gl7 : (List TOp)) (gl9 : (List Int)) (gx5 : Int) (go1 : Int → (List TOp) → (List Int) → Option TPlayed) (gb49 : Bool) : Option TPlayed :=
  if gb49 = true then m45_quirref_Stamp_K33 x6 a1 gl7 gl9 gx5 go1 true else m45_quirref_Stamp_K33 x6 a1 gl7 gl9 gx5 go1 false
def m45_quirref_Stamp_K42 (x6 : TOp) (a1 : Bool) (gl7 : (List TOp)) (gl9 : (List Int)) (gx5 : Int) (go1 : Int → (List TOp) → (List Int) → Option TPlayed) (gb50 : Bool) : Option TPlayed :=
  m45_quirref_Stamp_K41 x6 a1 gl7 gl9 gx5 go1 gb50
def m45_quirref_Stamp_K43 (x6 : TOp) (a1 : Bool) (gl7 : (List TOp)) (gl9 : (List Int)) (gx5 : Int) (go1 : Int → (List TOp) → (List Int) → Option TPlayed) (gx51 : Int) : Option TPlayed :=
  m45_quirref_Stamp_K42 x6 a1 gl7 gl9 gx5 go1 (decide (0 ≤ gx51))
def m45_quirref_Stamp_K44 (x6 : TOp) (a1 : Bool) (gl7 : (List TOp)) (gl9 : (List Int)) (gx5 : Int) (go1 : Int → (List TOp) → (List Int) → Option TPlayed) : Option TPlayed :=
  m45_quirref_Stamp_K43 x6 a1 gl7 gl9 gx5 go1 (-1)
def m45_quirref_Stamp_K45 (x6 : TOp) (a1 : Bool) (gl7 : (List TOp)) (gl9 : (List Int)) (gx5 : Int) (go1 : Int → (List TOp) → (List Int) → Option TPlayed) (gx52 : Int) (go7 : Int → Option TPlayed) (gb53 : Bool) : Option TPlayed :=
  if gb53 = true then m45_quirref_Stamp_K43 x6 a1 gl7 gl9 gx5 go1 gx52 else bind1 (i64 (gx52 + 1)) fun x67 => go7 x67
def m45_quirref_Stamp_K46 (x6 : TOp) (a1 : Bool) (gl7 : (List TOp)) (gl9 : (List Int)) (gx5 : Int) (go1 : Int → (List TOp) → (List Int) → Option TPlayed) (gx52 : Int) (go7 : Int → Option TPlayed) (x66 : TOp) (gb54 : Bool) : Option TPlayed :=
  if gb54 = true then m45_quirref_Stamp_K45 x6 a1 gl7 gl9 gx5 go1 gx52 go7 (decide (x6.Tx < x66.Tx)) else m45_quirref_Stamp_K45 x6 a1 gl7 gl9 gx5 go1 gx52 go7 false
def m45_quirref_Stamp_L7B (go7 : Int → Option TPlayed) (gl7 : (List TOp)) (x6 : TOp) (a1 : Bool) (gl9 : (List Int)) (gx5 : Int) (go1 : Int → (List TOp) → (List Int) → Option TPlayed) (gx52 : Int) : Option TPlayed :=
  if gx52 < (gl7.length : Int) then bind1 (idx gl7 gx52) fun x66 => if x66.Kind = 2 then if x66.Item = x6.Item then m45_quirref_Stamp_K46 x6 a1 gl7 gl9 gx5 go1 gx52 go7 x66 true else m45_quirref_Stamp_K46 x6 a1 gl7 gl9 gx5 go1 gx52 go7 x66 false else m45_quirref_Stamp_K46 x6 a1 gl7 gl9 gx5 go1 gx52 go7 x66 false else m45_quirref_Stamp_K44 x6 a1 gl7 gl9 gx5 go1
def m45_quirref_Stamp_L7 (gl7 : (List TOp)) (x6 : TOp) (a1 : Bool) (gl9 : (List Int)) (gx5 : Int) (go1 : Int → (List TOp) → (List Int) → Option TPlayed) : Nat → Int → Option TPlayed
  | 0, _ => none
  | n + 1, gx52 => m45_quirref_Stamp_L7B (m45_quirref_Stamp_L7 gl7 x6 a1 gl9 gx5 go1 n) gl7 x6 a1 gl9 gx5 go1 gx52
def m45_quirref_Stamp_K3 (x6 : TOp) (gl7 : (List TOp)) (a1 : Bool) (gl9 : (List Int)) (gx5 : Int) (go1 : Int → (List TOp) → (List Int) → Option TPlayed) : Option TPlayed :=
  if x6.Kind ≤ 2 then m45_quirref_Stamp_L7 gl7 x6 a1 gl9 gx5 go1 big 0 else m45_quirref_Stamp_K33 x6 a1 gl7 gl9 gx5 go1 false
def m45_quirref_Stamp_L1B (go1 : Int → (List TOp) → (List Int) → Option TPlayed) (a0 : (List TOp)) (a1 : Bool) (gx5 : Int) (gl7 : (List TOp)) (gl9 : (List Int)) : Option TPlayed :=
  if gx5 < (a0.length : Int) then bind1 (idx a0 gx5) fun x6 => bind1 (m151_slices_Contains_int gl9 x6.Tx) fun b71 => if b71 = true then m45_quirref_Stamp_K2 gx5 go1 gl7 gl9 else m45_quirref_Stamp_K3 x6 gl7 a1 gl9 gx5 go1 else m45_quirref_Stamp_K1 gl7 gl9
def m45_quirref_Stamp_L1 (a0 : (List TOp)) (a1 : Bool) : Nat → Int → (List TOp) → (List Int) → Option TPlayed
  | 0, _, _, _ => none
  | n + 1, gx5, gl7, gl9 => m45_quirref_Stamp_L1B (m45_quirref_Stamp_L1 a0 a1 n) a0 a1 gx5 gl7 gl9
def m45_quirref_Stamp (a0 : (List TOp)) (a1 : Bool) : Option TPlayed :=
  m45_quirref_Stamp_L1 a0 a1 big 0 [] []
def m7_quirlaw_StampPlays_K1 (a0 : (List TOp)) (a1 : Bool) (x1 : TPlayed) (x5 : Int) : Option Bool :=
  bind1 (m45_quirref_Stamp a0 a1) fun x15 => bind1 (m44_quirref_SamePlayed x1 x15) fun b20 => if b20 = true then some (decide (x5 = 0)) else some false
def m7_quirlaw_StampPlays (a0 : (List TOp)) (a1 : Bool) : Option Bool :=
  bind2 (m42_stamp_Play a0 a1) fun x1 x5 => bind1 (m43_quirref_RunErr a0) fun x22 => if x22 ≠ 0 then bind1 (m44_quirref_SamePlayed x1 (⟨[], [], []⟩ : TPlayed)) fun b25 => if b25 = true then some (decide (x5 = x22)) else some false else m7_quirlaw_StampPlays_K1 a0 a1 x1 x5
end Go.Proofs.Ytjbajaofdgalfaa
