/-
  Models, printed by a program of mine.
  Conditions: none.
-/
import Derived.Test.YtfmgjigdebofaaaQ
namespace Go.Proofs.Ytfmgjigdebofaaa
open Go.S
set_option linter.unusedVariables false
structure TOp where
  Tx : Int
  Kind : Int
  Item : Int
  deriving DecidableEq
def TOp.row (x : TOp) : List Value := [.int .i64 x.Tx, .int .i64 x.Kind, .int .i64 x.Item]
structure TSeen where
  At : Int
  From : Int
  deriving DecidableEq
def TSeen.row (x : TSeen) : List Value := [.int .i64 x.At, .int .i64 x.From]
def m51_quirref_RunErr_K2 : Option Int :=
  some 0
def m51_quirref_RunErr_K3 (gx1 : Int) (go1 : Int → Option Int) : Option Int :=
  bind1 (i64 (gx1 + 1)) fun x2 => go1 x2
def m51_quirref_RunErr_L2B (go2 : Int → Option Int) (l5 : (List TOp)) (x3 : TOp) (gx1 : Int) (go1 : Int → Option Int) (gx2 : Int) : Option Int :=
  if gx2 < (l5.length : Int) then bind1 (idx l5 gx2) fun x7 => if x7.Tx = x3.Tx then if 2 < x7.Kind then some 4 else bind1 (i64 (gx2 + 1)) fun x11 => go2 x11 else bind1 (i64 (gx2 + 1)) fun x12 => go2 x12 else m51_quirref_RunErr_K3 gx1 go1
def m51_quirref_RunErr_L2 (l5 : (List TOp)) (x3 : TOp) (gx1 : Int) (go1 : Int → Option Int) : Nat → Int → Option Int
  | 0, _ => none
  | n + 1, gx2 => m51_quirref_RunErr_L2B (m51_quirref_RunErr_L2 l5 x3 gx1 go1 n) l5 x3 gx1 go1 gx2
def m51_quirref_RunErr_K5 (a0 : (List TOp)) (gx1 : Int) (x3 : TOp) (go1 : Int → Option Int) : Option Int :=
  bind1 (cut a0 0 gx1) fun l5 => m51_quirref_RunErr_L2 l5 x3 gx1 go1 big 0
def m51_quirref_RunErr_K7 (a0 : (List TOp)) (gx1 : Int) (x3 : TOp) (go1 : Int → Option Int) (gb4 : Bool) : Option Int :=
  if gb4 = true then some 4 else m51_quirref_RunErr_K5 a0 gx1 x3 go1
def m51_quirref_RunErr_K6 (x3 : TOp) (a0 : (List TOp)) (gx1 : Int) (go1 : Int → Option Int) (gb3 : Bool) : Option Int :=
  if gb3 = true then some 4 else if 2 < x3.Kind then if x3.Item ≠ 0 then m51_quirref_RunErr_K7 a0 gx1 x3 go1 true else m51_quirref_RunErr_K7 a0 gx1 x3 go1 false else m51_quirref_RunErr_K7 a0 gx1 x3 go1 false
def m51_quirref_RunErr_K4 (x3 : TOp) (a0 : (List TOp)) (gx1 : Int) (go1 : Int → Option Int) : Option Int :=
  if x3.Kind < 1 then m51_quirref_RunErr_K6 x3 a0 gx1 go1 true else if 4 < x3.Kind then m51_quirref_RunErr_K6 x3 a0 gx1 go1 true else m51_quirref_RunErr_K6 x3 a0 gx1 go1 false
def m51_quirref_RunErr_K8 (x3 : TOp) (a0 : (List TOp)) (gx1 : Int) (go1 : Int → Option Int) (gb5 : Bool) : Option Int :=
  if gb5 = true then some 1 else if x3.Item < 0 then some 1 else if 19 < x3.Item then some 1 else m51_quirref_RunErr_K4 x3 a0 gx1 go1
def m51_quirref_RunErr_L1B (go1 : Int → Option Int) (a0 : (List TOp)) (gx1 : Int) : Option Int :=
  if gx1 < (a0.length : Int) then bind1 (idx a0 gx1) fun x3 => if x3.Tx < 0 then m51_quirref_RunErr_K8 x3 a0 gx1 go1 true else if 11 < x3.Tx then m51_quirref_RunErr_K8 x3 a0 gx1 go1 true else m51_quirref_RunErr_K8 x3 a0 gx1 go1 false else m51_quirref_RunErr_K2
def m51_quirref_RunErr_L1 (a0 : (List TOp)) : Nat → Int → Option Int
  | 0, _ => none
  | n + 1, gx1 => m51_quirref_RunErr_L1B (m51_quirref_RunErr_L1 a0 n) a0 gx1
def m51_quirref_RunErr_K1 (a0 : (List TOp)) : Option Int :=
  m51_quirref_RunErr_L1 a0 big 0
def m51_quirref_RunErr (a0 : (List TOp)) : Option Int :=
  if 200 < (a0.length : Int) then some 2 else m51_quirref_RunErr_K1 a0
def m107_run_Check_K2 : Option Int :=
  some 0
def m107_run_Check_K3 (gx1 : Int) (go1 : Int → (List Bool) → Option Int) (gl3 : (List Bool)) : Option Int :=
  bind1 (i64 (gx1 + 1)) fun x3 => go1 x3 gl3
def m107_run_Check_K5 (gl2 : (List Bool)) (x4 : TOp) (gx1 : Int) (go1 : Int → (List Bool) → Option Int) : Option Int :=
  bind1 (idxA 12 gl2 x4.Tx) fun x6 => if x6 = true then some 4 else bind1 (idxA 12 gl2 x4.Tx) fun x8 => bind1 (upd gl2 x4.Tx (decide (3 ≤ x4.Kind))) fun l9 => m107_run_Check_K3 gx1 go1 l9
def m107_run_Check_K6 (gl2 : (List Bool)) (x4 : TOp) (gx1 : Int) (go1 : Int → (List Bool) → Option Int) (gb4 : Bool) : Option Int :=
  if gb4 = true then m107_run_Check_K5 gl2 x4 gx1 go1 else if x4.Kind = 3 then if x4.Item ≠ 0 then some 4 else m107_run_Check_K5 gl2 x4 gx1 go1 else if x4.Kind = 4 then if x4.Item ≠ 0 then some 4 else m107_run_Check_K5 gl2 x4 gx1 go1 else some 4
def m107_run_Check_K4 (x4 : TOp) (gl2 : (List Bool)) (gx1 : Int) (go1 : Int → (List Bool) → Option Int) : Option Int :=
  if x4.Kind = 1 then m107_run_Check_K6 gl2 x4 gx1 go1 true else if x4.Kind = 2 then m107_run_Check_K6 gl2 x4 gx1 go1 true else m107_run_Check_K6 gl2 x4 gx1 go1 false
def m107_run_Check_K7 (x4 : TOp) (gl2 : (List Bool)) (gx1 : Int) (go1 : Int → (List Bool) → Option Int) (gb5 : Bool) : Option Int :=
  if gb5 = true then some 1 else if x4.Item < 0 then some 1 else if 20 ≤ x4.Item then some 1 else m107_run_Check_K4 x4 gl2 gx1 go1
def m107_run_Check_L1B (go1 : Int → (List Bool) → Option Int) (a0 : (List TOp)) (gx1 : Int) (gl2 : (List Bool)) : Option Int :=
  if gx1 < (a0.length : Int) then bind1 (idx a0 gx1) fun x4 => if x4.Tx < 0 then m107_run_Check_K7 x4 gl2 gx1 go1 true else if 12 ≤ x4.Tx then m107_run_Check_K7 x4 gl2 gx1 go1 true else m107_run_Check_K7 x4 gl2 gx1 go1 false else m107_run_Check_K2
def m107_run_Check_L1 (a0 : (List TOp)) : Nat → Int → (List Bool) → Option Int
  | 0, _, _ => none
  | n + 1, gx1, gl2 => m107_run_Check_L1B (m107_run_Check_L1 a0 n) a0 gx1 gl2
def m107_run_Check_K1 (a0 : (List TOp)) : Option Int :=
  m107_run_Check_L1 a0 big 0 (List.replicate 12 (false : Bool))
def m107_run_Check (a0 : (List TOp)) : Option Int :=
  if 200 < (a0.length : Int) then some 2 else m107_run_Check_K1 a0
def m52_see_Reads_K2 (gl2 : (List TSeen)) : Option ((List TSeen) × Int) :=
  some (gl2, 0)
def m52_see_Reads_K3 (gx5 : Int) (go1 : (List TSeen) → Int → (List (List Int)) → Option ((List TSeen) × Int)) (gl9 : (List TSeen)) (gl10 : (List (List Int))) : Option ((List TSeen) × Int) :=
  bind1 (i64 (gx5 + 1)) fun x4 => go1 gl9 x4 gl10
def m52_see_Reads_K6 (gl15 : (List (List Int))) (gx14 : Int) (go2 : Int → (List (List Int)) → Option ((List TSeen) × Int)) (gl18 : (List Int)) : Option ((List TSeen) × Int) :=
  bind1 (idxA 20 gl15 gx14) fun x10 => bind1 (upd gl15 gx14 gl18) fun l11 => bind1 (i64 (gx14 + 1)) fun x13 => go2 x13 l11
def m52_see_Reads_K9 (gl15 : (List (List Int))) (gx14 : Int) (go2 : Int → (List (List Int)) → Option ((List TSeen) × Int)) (gl20 : (List Int)) (gx21 : Int) : Option ((List TSeen) × Int) :=
  bind1 (cut gl20 gx21 gl20.length) fun l14 => bind1 (clr gl20 gx21 0) fun l15 => bind1 (cut l15 0 gx21) fun l16 => m52_see_Reads_K6 gl15 gx14 go2 l16
def m52_see_Reads_K11 (gx24 : Int) (go3 : (List Int) → Int → Int → Option ((List TSeen) × Int)) (gl22 : (List Int)) (gx23 : Int) (x19 : Int) (gb25 : Bool) : Option ((List TSeen) × Int) :=
  if gb25 = true then bind1 (i64 (gx24 + 1)) fun x24 => go3 gl22 gx23 x24 else bind1 (idx gl22 gx23) fun x20 => bind1 (upd gl22 gx23 x19) fun l21 => bind1 (i64 (gx23 + 1)) fun x22 => bind1 (i64 (gx24 + 1)) fun x23 => go3 l21 x22 x23
def m52_see_Reads_K10 (gl22 : (List Int)) (gx24 : Int) (a0 : (List TOp)) (go3 : (List Int) → Int → Int → Option ((List TSeen) × Int)) (gx23 : Int) (x5 : TOp) : Option ((List TSeen) × Int) :=
  bind1 (idx gl22 gx24) fun x19 => bind1 (idx a0 x19) fun x25 => m52_see_Reads_K11 gx24 go3 gl22 gx23 x19 (decide (x25.Tx = x5.Tx))
def m52_see_Reads_L3B (go3 : (List Int) → Int → Int → Option ((List TSeen) × Int)) (a0 : (List TOp)) (x5 : TOp) (gl15 : (List (List Int))) (gx14 : Int) (go2 : Int → (List (List Int)) → Option ((List TSeen) × Int)) (gl22 : (List Int)) (gx23 : Int) (gx24 : Int) : Option ((List TSeen) × Int) :=
  if gx24 < (gl22.length : Int) then m52_see_Reads_K10 gl22 gx24 a0 go3 gx23 x5 else m52_see_Reads_K9 gl15 gx14 go2 gl22 gx23
def m52_see_Reads_L3 (a0 : (List TOp)) (x5 : TOp) (gl15 : (List (List Int))) (gx14 : Int) (go2 : Int → (List (List Int)) → Option ((List TSeen) × Int)) : Nat → (List Int) → Int → Int → Option ((List TSeen) × Int)
  | 0, _, _, _ => none
  | n + 1, gl22, gx23, gx24 => m52_see_Reads_L3B (m52_see_Reads_L3 a0 x5 gl15 gx14 go2 n) a0 x5 gl15 gx14 go2 gl22 gx23 gx24
def m52_see_Reads_K8 (gx19 : Int) (a0 : (List TOp)) (x5 : TOp) (gl15 : (List (List Int))) (gx14 : Int) (go2 : Int → (List (List Int)) → Option ((List TSeen) × Int)) (x9 : (List Int)) : Option ((List TSeen) × Int) :=
  bind1 (i64 (gx19 + 1)) fun x18 => m52_see_Reads_L3 a0 x5 gl15 gx14 go2 big x9 gx19 x18
def m52_see_Reads_K7 (gl15 : (List (List Int))) (gx14 : Int) (go2 : Int → (List (List Int)) → Option ((List TSeen) × Int)) (x9 : (List Int)) (a0 : (List TOp)) (x5 : TOp) (gx19 : Int) : Option ((List TSeen) × Int) :=
  if gx19 = (-1) then m52_see_Reads_K6 gl15 gx14 go2 x9 else m52_see_Reads_K8 gx19 a0 x5 gl15 gx14 go2 x9
def m52_see_Reads_K12 (gl15 : (List (List Int))) (gx14 : Int) (go2 : Int → (List (List Int)) → Option ((List TSeen) × Int)) (x9 : (List Int)) (a0 : (List TOp)) (x5 : TOp) : Option ((List TSeen) × Int) :=
  m52_see_Reads_K7 gl15 gx14 go2 x9 a0 x5 (-1)
def m52_see_Reads_K13 (gl15 : (List (List Int))) (gx14 : Int) (go2 : Int → (List (List Int)) → Option ((List TSeen) × Int)) (x9 : (List Int)) (a0 : (List TOp)) (x5 : TOp) (gx26 : Int) (go4 : Int → Option ((List TSeen) × Int)) (gb27 : Bool) : Option ((List TSeen) × Int) :=
  if gb27 = true then m52_see_Reads_K7 gl15 gx14 go2 x9 a0 x5 gx26 else bind1 (i64 (gx26 + 1)) fun x30 => go4 x30
def m52_see_Reads_L4B (go4 : Int → Option ((List TSeen) × Int)) (x9 : (List Int)) (a0 : (List TOp)) (gl15 : (List (List Int))) (gx14 : Int) (go2 : Int → (List (List Int)) → Option ((List TSeen) × Int)) (x5 : TOp) (gx26 : Int) : Option ((List TSeen) × Int) :=
  if gx26 < (x9.length : Int) then bind1 (idx x9 gx26) fun x29 => bind1 (idx a0 x29) fun x31 => m52_see_Reads_K13 gl15 gx14 go2 x9 a0 x5 gx26 go4 (decide (x31.Tx = x5.Tx)) else m52_see_Reads_K12 gl15 gx14 go2 x9 a0 x5
def m52_see_Reads_L4 (x9 : (List Int)) (a0 : (List TOp)) (gl15 : (List (List Int))) (gx14 : Int) (go2 : Int → (List (List Int)) → Option ((List TSeen) × Int)) (x5 : TOp) : Nat → Int → Option ((List TSeen) × Int)
  | 0, _ => none
  | n + 1, gx26 => m52_see_Reads_L4B (m52_see_Reads_L4 x9 a0 gl15 gx14 go2 x5 n) x9 a0 gl15 gx14 go2 x5 gx26
def m52_see_Reads_L2B (go2 : Int → (List (List Int)) → Option ((List TSeen) × Int)) (a0 : (List TOp)) (x5 : TOp) (gx5 : Int) (go1 : (List TSeen) → Int → (List (List Int)) → Option ((List TSeen) × Int)) (gl4 : (List TSeen)) (gx14 : Int) (gl15 : (List (List Int))) : Option ((List TSeen) × Int) :=
  if gx14 < 20 then bind1 (idxA 20 gl15 gx14) fun x9 => m52_see_Reads_L4 x9 a0 gl15 gx14 go2 x5 big 0 else m52_see_Reads_K3 gx5 go1 gl4 gl15
def m52_see_Reads_L2 (a0 : (List TOp)) (x5 : TOp) (gx5 : Int) (go1 : (List TSeen) → Int → (List (List Int)) → Option ((List TSeen) × Int)) (gl4 : (List TSeen)) : Nat → Int → (List (List Int)) → Option ((List TSeen) × Int)
  | 0, _, _ => none
  | n + 1, gx14, gl15 => m52_see_Reads_L2B (m52_see_Reads_L2 a0 x5 gx5 go1 gl4 n) a0 x5 gx5 go1 gl4 gx14 gl15
def m52_see_Reads_K5 (gl6 : (List (List Int))) (x5 : TOp) (gx5 : Int) (go1 : (List TSeen) → Int → (List (List Int)) → Option ((List TSeen) × Int)) (gl4 : (List TSeen)) (a0 : (List TOp)) (gb13 : Bool) : Option ((List TSeen) × Int) :=
  if gb13 = true then bind1 (idxA 20 gl6 x5.Item) fun x50 => bind1 (app x50 ([gx5])) fun l53 => bind1 (idxA 20 gl6 x5.Item) fun x54 => bind1 (upd gl6 x5.Item l53) fun l55 => m52_see_Reads_K3 gx5 go1 gl4 l55 else if x5.Kind = 4 then m52_see_Reads_L2 a0 x5 gx5 go1 gl4 big 0 gl6 else m52_see_Reads_K3 gx5 go1 gl4 gl6
def m52_see_Reads_K4 (gl6 : (List (List Int))) (x5 : TOp) (gl4 : (List TSeen)) (gx5 : Int) (go1 : (List TSeen) → Int → (List (List Int)) → Option ((List TSeen) × Int)) (a0 : (List TOp)) (gb12 : Bool) : Option ((List TSeen) × Int) :=
  if gb12 = true then bind1 (idxA 20 gl6 x5.Item) fun x71 => if 0 < (x71.length : Int) then bind1 (idxA 20 gl6 x5.Item) fun x73 => bind1 (i64 ((x71.length : Int) - 1)) fun x74 => bind1 (idx x73 x74) fun x75 => bind1 (app gl4 ([(⟨gx5, x75⟩ : TSeen)])) fun l78 => m52_see_Reads_K3 gx5 go1 l78 gl6 else bind1 (app gl4 ([(⟨gx5, (-1)⟩ : TSeen)])) fun l81 => m52_see_Reads_K3 gx5 go1 l81 gl6 else if x5.Kind = 2 then m52_see_Reads_K5 gl6 x5 gx5 go1 gl4 a0 true else m52_see_Reads_K5 gl6 x5 gx5 go1 gl4 a0 false
def m52_see_Reads_L1B (go1 : (List TSeen) → Int → (List (List Int)) → Option ((List TSeen) × Int)) (a0 : (List TOp)) (gl4 : (List TSeen)) (gx5 : Int) (gl6 : (List (List Int))) : Option ((List TSeen) × Int) :=
  if gx5 < (a0.length : Int) then bind1 (idx a0 gx5) fun x5 => if x5.Kind = 1 then m52_see_Reads_K4 gl6 x5 gl4 gx5 go1 a0 true else m52_see_Reads_K4 gl6 x5 gl4 gx5 go1 a0 false else m52_see_Reads_K2 gl4
def m52_see_Reads_L1 (a0 : (List TOp)) : Nat → (List TSeen) → Int → (List (List Int)) → Option ((List TSeen) × Int)
  | 0, _, _, _ => none
  | n + 1, gl4, gx5, gl6 => m52_see_Reads_L1B (m52_see_Reads_L1 a0 n) a0 gl4 gx5 gl6
def m52_see_Reads_K1 (a0 : (List TOp)) : Option ((List TSeen) × Int) :=
  m52_see_Reads_L1 a0 big [] 0 (List.replicate 20 ([] : (List Int)))
def m52_see_Reads (a0 : (List TOp)) : Option ((List TSeen) × Int) :=
  bind1 (m107_run_Check a0) fun x83 => if x83 ≠ 0 then some ([], x83) else m52_see_Reads_K1 a0
def m53_see_Last_K4 (gl3 : (List Int)) : Option ((List Int) × Int) :=
  bind1 (arrN 20 gl3) fun _ => bind1 (arrN 20 (List.replicate 20 (0 : Int))) fun _ => bind1 (arrN 20 gl3) fun _ => bind1 (arrN 20 gl3) fun _ => some (gl3, 0)
def m53_see_Last_L1B (go1 : Int → (List Int) → Option ((List Int) × Int)) (a0 : (List TOp)) (gl1 : (List Bool)) (gx4 : Int) (gl5 : (List Int)) : Option ((List Int) × Int) :=
  if gx4 < (a0.length : Int) then bind1 (idx a0 gx4) fun x9 => if x9.Kind = 2 then bind1 (idxA 12 gl1 x9.Tx) fun x12 => if x12 = true then bind1 (i64 (gx4 + 1)) fun x14 => go1 x14 gl5 else bind1 (idxA 20 gl5 x9.Item) fun x15 => bind1 (upd gl5 x9.Item gx4) fun l16 => bind1 (i64 (gx4 + 1)) fun x17 => go1 x17 l16 else bind1 (i64 (gx4 + 1)) fun x18 => go1 x18 gl5 else m53_see_Last_K4 gl5
def m53_see_Last_L1 (a0 : (List TOp)) (gl1 : (List Bool)) : Nat → Int → (List Int) → Option ((List Int) × Int)
  | 0, _, _ => none
  | n + 1, gx4, gl5 => m53_see_Last_L1B (m53_see_Last_L1 a0 gl1 n) a0 gl1 gx4 gl5
def m53_see_Last_K3 (a0 : (List TOp)) (gl1 : (List Bool)) (gl2 : (List Int)) : Option ((List Int) × Int) :=
  m53_see_Last_L1 a0 gl1 big 0 gl2
def m53_see_Last_L2B (go2 : Int → (List Int) → Option ((List Int) × Int)) (a0 : (List TOp)) (gl1 : (List Bool)) (gx6 : Int) (gl7 : (List Int)) : Option ((List Int) × Int) :=
  if gx6 < 20 then bind1 (idxA 20 gl7 gx6) fun x20 => bind1 (upd gl7 gx6 (-1)) fun l21 => bind1 (i64 (gx6 + 1)) fun x22 => go2 x22 l21 else m53_see_Last_K3 a0 gl1 gl7
def m53_see_Last_L2 (a0 : (List TOp)) (gl1 : (List Bool)) : Nat → Int → (List Int) → Option ((List Int) × Int)
  | 0, _, _ => none
  | n + 1, gx6, gl7 => m53_see_Last_L2B (m53_see_Last_L2 a0 gl1 n) a0 gl1 gx6 gl7
def m53_see_Last_K2 (a0 : (List TOp)) (gl1 : (List Bool)) : Option ((List Int) × Int) :=
  m53_see_Last_L2 a0 gl1 big 0 (List.replicate 20 (0 : Int))
def m53_see_Last_L3B (go3 : Int → (List Bool) → Option ((List Int) × Int)) (a0 : (List TOp)) (gx8 : Int) (gl9 : (List Bool)) : Option ((List Int) × Int) :=
  if gx8 < (a0.length : Int) then bind1 (idx a0 gx8) fun x24 => if x24.Kind = 4 then bind1 (idxA 12 gl9 x24.Tx) fun x27 => bind1 (upd gl9 x24.Tx true) fun l28 => bind1 (i64 (gx8 + 1)) fun x29 => go3 x29 l28 else bind1 (i64 (gx8 + 1)) fun x30 => go3 x30 gl9 else m53_see_Last_K2 a0 gl9
def m53_see_Last_L3 (a0 : (List TOp)) : Nat → Int → (List Bool) → Option ((List Int) × Int)
  | 0, _, _ => none
  | n + 1, gx8, gl9 => m53_see_Last_L3B (m53_see_Last_L3 a0 n) a0 gx8 gl9
def m53_see_Last_K1 (a0 : (List TOp)) : Option ((List Int) × Int) :=
  m53_see_Last_L3 a0 big 0 (List.replicate 12 (false : Bool))
def m53_see_Last (a0 : (List TOp)) : Option ((List Int) × Int) :=
  bind1 (m107_run_Check a0) fun x31 => if x31 ≠ 0 then bind1 (arrN 20 (List.replicate 20 (0 : Int))) fun _ => bind1 (arrN 20 (List.replicate 20 (0 : Int))) fun _ => bind1 (arrN 20 (List.replicate 20 (0 : Int))) fun _ => bind1 (arrN 20 (List.replicate 20 (0 : Int))) fun _ => some ((List.replicate 20 (0 : Int)), x31) else m53_see_Last_K1 a0
def m161_api_Op_K1 : Option Int :=
  some (-1)
def m161_api_Op_L1B (go1 : Int → Option Int) (a0 : (List TOp)) (a1 : TOp) (gx1 : Int) : Option Int :=
  if gx1 < (a0.length : Int) then bind1 (idx a0 gx1) fun x3 => if a1 = x3 then some gx1 else bind1 (i64 (gx1 + 1)) fun x5 => go1 x5 else m161_api_Op_K1
def m161_api_Op_L1 (a0 : (List TOp)) (a1 : TOp) : Nat → Int → Option Int
  | 0, _ => none
  | n + 1, gx1 => m161_api_Op_L1B (m161_api_Op_L1 a0 a1 n) a0 a1 gx1
def m161_api_Op (a0 : (List TOp)) (a1 : TOp) : Option Int :=
  m161_api_Op_L1 a0 a1 big 0
def m148_api_Op (a0 : (List TOp)) (a1 : TOp) : Option Bool :=
  bind1 (m161_api_Op a0 a1) fun x2 => some (decide (0 ≤ x2))
def m111_quirref_has (a0 : (List TOp)) (a1 : Int) (a2 : Int) : Option Bool :=
  bind1 (m148_api_Op a0 (⟨a1, a2, 0⟩ : TOp)) fun b1 => some b1
def m110_quirref_writer_K1 : Option Int :=
  some (-1)
def m110_quirref_writer_K3 (a0 : (List TOp)) (a1 : Int) (x2 : TOp) (gx1 : Int) (go1 : Int → Option Int) (gb2 : Bool) : Option Int :=
  if gb2 = true then bind1 (cut a0 0 a1) fun l5 => bind1 (m111_quirref_has l5 x2.Tx 4) fun b6 => if b6 = true then bind1 (i64 (gx1 - 1)) fun x8 => go1 x8 else some gx1 else bind1 (i64 (gx1 - 1)) fun x4 => go1 x4
def m110_quirref_writer_K2 (a0 : (List TOp)) (gx1 : Int) (a2 : Int) (a1 : Int) (go1 : Int → Option Int) : Option Int :=
  bind1 (idx a0 gx1) fun x2 => if x2.Kind = 2 then if x2.Item = a2 then m110_quirref_writer_K3 a0 a1 x2 gx1 go1 true else m110_quirref_writer_K3 a0 a1 x2 gx1 go1 false else m110_quirref_writer_K3 a0 a1 x2 gx1 go1 false
def m110_quirref_writer_L1B (go1 : Int → Option Int) (a0 : (List TOp)) (a2 : Int) (a1 : Int) (gx1 : Int) : Option Int :=
  if 0 ≤ gx1 then m110_quirref_writer_K2 a0 gx1 a2 a1 go1 else m110_quirref_writer_K1
def m110_quirref_writer_L1 (a0 : (List TOp)) (a2 : Int) (a1 : Int) : Nat → Int → Option Int
  | 0, _ => none
  | n + 1, gx1 => m110_quirref_writer_L1B (m110_quirref_writer_L1 a0 a2 a1 n) a0 a2 a1 gx1
def m110_quirref_writer (a0 : (List TOp)) (a1 : Int) (a2 : Int) : Option Int :=
  bind1 (i64 (a1 - 1)) fun x1 => m110_quirref_writer_L1 a0 a2 a1 big x1
def m55_quirref_Reads_K1 (gl2 : (List TSeen)) : Option (List TSeen) :=
  some gl2
def m55_quirref_Reads_L1B (go1 : (List TSeen) → Int → Option (List TSeen)) (a0 : (List TOp)) (gl4 : (List TSeen)) (gx5 : Int) : Option (List TSeen) :=
  if gx5 < (a0.length : Int) then bind1 (idx a0 gx5) fun x2 => if x2.Kind = 1 then bind1 (m110_quirref_writer a0 gx5 x2.Item) fun x5 => bind1 (app gl4 ([(⟨gx5, x5⟩ : TSeen)])) fun l9 => bind1 (i64 (gx5 + 1)) fun x10 => go1 l9 x10 else bind1 (i64 (gx5 + 1)) fun x11 => go1 gl4 x11 else m55_quirref_Reads_K1 gl4
def m55_quirref_Reads_L1 (a0 : (List TOp)) : Nat → (List TSeen) → Int → Option (List TSeen)
  | 0, _, _ => none
  | n + 1, gl4, gx5 => m55_quirref_Reads_L1B (m55_quirref_Reads_L1 a0 n) a0 gl4 gx5
def m55_quirref_Reads (a0 : (List TOp)) : Option (List TSeen) :=
  m55_quirref_Reads_L1 a0 big [] 0
def m54_api_Seen_K2 : Option Bool :=
  some true
def m54_api_Seen_L1B (go1 : Int → Option Bool) (a0 : (List TSeen)) (a1 : (List TSeen)) (gx1 : Int) : Option Bool :=
  if gx1 < (a0.length : Int) then bind1 (idx a0 gx1) fun x2 => bind1 (idx a1 gx1) fun x3 => if x2 ≠ x3 then some false else bind1 (i64 (gx1 + 1)) fun x5 => go1 x5 else m54_api_Seen_K2
def m54_api_Seen_L1 (a0 : (List TSeen)) (a1 : (List TSeen)) : Nat → Int → Option Bool
  | 0, _ => none
  | n + 1, gx1 => m54_api_Seen_L1B (m54_api_Seen_L1 a0 a1 n) a0 a1 gx1
def m54_api_Seen_K1 (a0 : (List TSeen)) (a1 : (List TSeen)) : Option Bool :=
  m54_api_Seen_L1 a0 a1 big 0
def m54_api_Seen (a0 : (List TSeen)) (a1 : (List TSeen)) : Option Bool :=
  if (a0.length : Int) ≠ (a1.length : Int) then some false else m54_api_Seen_K1 a0 a1
def m56_quirref_Last_K1 (gl1 : (List Int)) : Option (List Int) :=
  bind1 (arrN 20 gl1) fun _ => bind1 (arrN 20 (List.replicate 20 (0 : Int))) fun _ => bind1 (arrN 20 gl1) fun _ => bind1 (arrN 20 gl1) fun _ => some gl1
def m56_quirref_Last_K2 (gx2 : Int) (go1 : Int → (List Int) → Option (List Int)) (gl4 : (List Int)) : Option (List Int) :=
  bind1 (i64 (gx2 + 1)) fun x8 => go1 x8 gl4
def m56_quirref_Last_K3 (a0 : (List TOp)) (x12 : TOp) (gx5 : Int) (go2 : Int → (List Int) → Option (List Int)) (gl6 : (List Int)) (gx2 : Int) (gb7 : Bool) : Option (List Int) :=
  if gb7 = true then bind1 (m111_quirref_has a0 x12.Tx 4) fun b15 => if b15 = true then bind1 (i64 (gx5 + 1)) fun x20 => go2 x20 gl6 else bind1 (idxA 20 gl6 gx2) fun x17 => bind1 (upd gl6 gx2 gx5) fun l18 => bind1 (i64 (gx5 + 1)) fun x19 => go2 x19 l18 else bind1 (i64 (gx5 + 1)) fun x14 => go2 x14 gl6
def m56_quirref_Last_L2B (go2 : Int → (List Int) → Option (List Int)) (a0 : (List TOp)) (gx2 : Int) (go1 : Int → (List Int) → Option (List Int)) (gx5 : Int) (gl6 : (List Int)) : Option (List Int) :=
  if gx5 < (a0.length : Int) then bind1 (idx a0 gx5) fun x12 => if x12.Kind = 2 then if x12.Item = gx2 then m56_quirref_Last_K3 a0 x12 gx5 go2 gl6 gx2 true else m56_quirref_Last_K3 a0 x12 gx5 go2 gl6 gx2 false else m56_quirref_Last_K3 a0 x12 gx5 go2 gl6 gx2 false else m56_quirref_Last_K2 gx2 go1 gl6
def m56_quirref_Last_L2 (a0 : (List TOp)) (gx2 : Int) (go1 : Int → (List Int) → Option (List Int)) : Nat → Int → (List Int) → Option (List Int)
  | 0, _, _ => none
  | n + 1, gx5, gl6 => m56_quirref_Last_L2B (m56_quirref_Last_L2 a0 gx2 go1 n) a0 gx2 go1 gx5 gl6
def m56_quirref_Last_L1B (go1 : Int → (List Int) → Option (List Int)) (a0 : (List TOp)) (gx2 : Int) (gl3 : (List Int)) : Option (List Int) :=
  if gx2 < 20 then bind1 (idxA 20 gl3 gx2) fun x9 => bind1 (upd gl3 gx2 (-1)) fun l10 => m56_quirref_Last_L2 a0 gx2 go1 big 0 l10 else m56_quirref_Last_K1 gl3
def m56_quirref_Last_L1 (a0 : (List TOp)) : Nat → Int → (List Int) → Option (List Int)
  | 0, _, _ => none
  | n + 1, gx2, gl3 => m56_quirref_Last_L1B (m56_quirref_Last_L1 a0 n) a0 gx2 gl3
def m56_quirref_Last (a0 : (List TOp)) : Option (List Int) :=
  m56_quirref_Last_L1 a0 big 0 (List.replicate 20 (0 : Int))
def m9_quirlaw_SeeSays_K1 (a0 : (List TOp)) (l3 : (List TSeen)) (x5 : Int) (x7 : (List Int)) (x8 : Int) : Option Bool :=
  bind1 (m55_quirref_Reads a0) fun l18 => bind1 (m54_api_Seen l3 l18) fun b21 => if b21 = true then if x5 = 0 then bind1 (arrN 20 x7) fun _ => bind1 (m56_quirref_Last a0) fun x25 => bind1 (arrN 20 x7) fun _ => bind1 (arrN 20 x25) fun _ => if x7 = x25 then some (decide (x8 = 0)) else some false else some false else some false
def m9_quirlaw_SeeSays_K2 (x7 : (List Int)) (x8 : Int) (x1 : Int) (gb1 : Bool) : Option Bool :=
  if gb1 = true then bind1 (arrN 20 x7) fun _ => bind1 (arrN 20 x7) fun _ => bind1 (arrN 20 (List.replicate 20 (0 : Int))) fun _ => if x7 = (List.replicate 20 (0 : Int)) then some (decide (x8 = x1)) else some false else some false
def m9_quirlaw_SeeSays (a0 : (List TOp)) : Option Bool :=
  bind1 (m51_quirref_RunErr a0) fun x1 => bind2 (m52_see_Reads a0) fun l3 x5 => bind2 (m53_see_Last a0) fun x7 x8 => bind1 (arrN 20 (List.replicate 20 (0 : Int))) fun _ => bind1 (arrN 20 x7) fun _ => if x1 ≠ 0 then if (l3.length : Int) = 0 then if x5 = x1 then m9_quirlaw_SeeSays_K2 x7 x8 x1 true else m9_quirlaw_SeeSays_K2 x7 x8 x1 false else m9_quirlaw_SeeSays_K2 x7 x8 x1 false else m9_quirlaw_SeeSays_K1 a0 l3 x5 x7 x8
end Go.Proofs.Ytfmgjigdebofaaa
