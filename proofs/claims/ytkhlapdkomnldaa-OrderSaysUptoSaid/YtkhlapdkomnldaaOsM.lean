/-
  Models, printed by a program of mine.
  Conditions: none.
-/
import Derived.Test.YtkhlapdkomnldaaSf
namespace Go.Proofs.Ytkhlapdkomnldaa
open Go.S
set_option linter.unusedVariables false
structure TGot where
  Item : Int
  From : Int
  deriving DecidableEq, Inhabited
def TGot.row (x : TGot) : List Value := [.int .i64 x.Item, .int .i64 x.From]
structure TTale where
  Tx : Int
  Reads : (List TGot)
  deriving DecidableEq, Inhabited
def TTale.rowv (x : TTale) (vs : List Value) : List Value := [.int .i64 x.Tx, gv vs 0]
def TTale.sds (x : TTale) (vs : List Value) : List Sd := [⟨gv vs 0, 104, 2, x.Reads.map TGot.row⟩]
structure TStory where
  Tales : (List TTale)
  Versions : (List (List Int))
  deriving DecidableEq, Inhabited
def TStory.rowv (x : TStory) (vs : List Value) : List Value := [gv vs 0, gv vs 1]
structure TDep where
  From : Int
  To : Int
  Kind : Int
  deriving DecidableEq, Inhabited
def TDep.row (x : TDep) : List Value := [.int .i64 x.From, .int .i64 x.To, .int .i64 x.Kind]
structure TEdge where
  From : Int
  To : Int
  deriving DecidableEq, Inhabited
def TEdge.row (x : TEdge) : List Value := [.int .i64 x.From, .int .i64 x.To]
structure TFault where
  Writes : Bool
  Flow : Bool
  Any : Bool
  deriving DecidableEq, Inhabited
def TFault.row (x : TFault) : List Value := [.bool x.Writes, .bool x.Flow, .bool x.Any]
def m56_slices_Index_int_K1 : Option Int :=
  some (-1)
def m56_slices_Index_int_L1B (go1 : Int → Option Int) (a0 : (List Int)) (a1 : Int) (gx1 : Int) : Option Int :=
  if gx1 < (a0.length : Int) then bind1 (idx a0 gx1) fun x2 => if a1 = x2 then some gx1 else bind1 (i64 (gx1 + 1)) fun x4 => go1 x4 else m56_slices_Index_int_K1
def m56_slices_Index_int_L1 (a0 : (List Int)) (a1 : Int) : Nat → Int → Option Int
  | 0, _ => none
  | n + 1, gx1 => m56_slices_Index_int_L1B (m56_slices_Index_int_L1 a0 a1 n) a0 a1 gx1
def m56_slices_Index_int (a0 : (List Int)) (a1 : Int) : Option Int :=
  m56_slices_Index_int_L1 a0 a1 big 0
def m55_slices_Contains_int (a0 : (List Int)) (a1 : Int) : Option Bool :=
  bind1 (m56_slices_Index_int a0 a1) fun x1 => some (decide (0 ≤ x1))
def m18_quirref_StoryErr_K3 : Option Int :=
  some 0
def m18_quirref_StoryErr_K4 (gx1 : Int) (go1 : Int → Option Int) : Option Int :=
  bind1 (i64 (gx1 + 1)) fun x3 => go1 x3
def m18_quirref_StoryErr_K5 (x4 : (List Int)) (x6 : Int) (gx2 : Int) (go2 : Int → Option Int) (gb3 : Bool) : Option Int :=
  if gb3 = true then bind1 (m56_slices_Index_int x4 x6) fun x7 => if x7 ≠ gx2 then some 4 else bind1 (i64 (gx2 + 1)) fun x10 => go2 x10 else some 4
def m18_quirref_StoryErr_K6 (x4 : (List Int)) (x6 : Int) (gx2 : Int) (go2 : Int → Option Int) (gb4 : Bool) : Option Int :=
  m18_quirref_StoryErr_K5 x4 x6 gx2 go2 gb4
def m18_quirref_StoryErr_K7 (x4 : (List Int)) (x6 : Int) (gx2 : Int) (go2 : Int → Option Int) (gx5 : Int) : Option Int :=
  m18_quirref_StoryErr_K6 x4 x6 gx2 go2 (decide (0 ≤ gx5))
def m18_quirref_StoryErr_K8 (x4 : (List Int)) (x6 : Int) (gx2 : Int) (go2 : Int → Option Int) : Option Int :=
  m18_quirref_StoryErr_K7 x4 x6 gx2 go2 (-1)
def m18_quirref_StoryErr_K9 (x13 : TTale) (x6 : Int) (x4 : (List Int)) (gx2 : Int) (go2 : Int → Option Int) (gx6 : Int) (go3 : Int → Option Int) : Option Int :=
  if (decide (x13.Tx = x6)) = true then m18_quirref_StoryErr_K7 x4 x6 gx2 go2 gx6 else bind1 (i64 (gx6 + 1)) fun x14 => go3 x14
def m18_quirref_StoryErr_L3B (go3 : Int → Option Int) (a0 : TStory) (x6 : Int) (x4 : (List Int)) (gx2 : Int) (go2 : Int → Option Int) (gx6 : Int) : Option Int :=
  if gx6 < (a0.Tales.length : Int) then bind1 (idx a0.Tales gx6) fun x13 => m18_quirref_StoryErr_K9 x13 x6 x4 gx2 go2 gx6 go3 else m18_quirref_StoryErr_K8 x4 x6 gx2 go2
def m18_quirref_StoryErr_L3 (a0 : TStory) (x6 : Int) (x4 : (List Int)) (gx2 : Int) (go2 : Int → Option Int) : Nat → Int → Option Int
  | 0, _ => none
  | n + 1, gx6 => m18_quirref_StoryErr_L3B (m18_quirref_StoryErr_L3 a0 x6 x4 gx2 go2 n) a0 x6 x4 gx2 go2 gx6
def m18_quirref_StoryErr_L2B (go2 : Int → Option Int) (x4 : (List Int)) (a0 : TStory) (gx1 : Int) (go1 : Int → Option Int) (gx2 : Int) : Option Int :=
  if gx2 < (x4.length : Int) then bind1 (idx x4 gx2) fun x6 => m18_quirref_StoryErr_L3 a0 x6 x4 gx2 go2 big 0 else m18_quirref_StoryErr_K4 gx1 go1
def m18_quirref_StoryErr_L2 (x4 : (List Int)) (a0 : TStory) (gx1 : Int) (go1 : Int → Option Int) : Nat → Int → Option Int
  | 0, _ => none
  | n + 1, gx2 => m18_quirref_StoryErr_L2B (m18_quirref_StoryErr_L2 x4 a0 gx1 go1 n) x4 a0 gx1 go1 gx2
def m18_quirref_StoryErr_L1B (go1 : Int → Option Int) (a0 : TStory) (gx1 : Int) : Option Int :=
  if gx1 < (a0.Versions.length : Int) then bind1 (idx a0.Versions gx1) fun x4 => m18_quirref_StoryErr_L2 x4 a0 gx1 go1 big 0 else m18_quirref_StoryErr_K3
def m18_quirref_StoryErr_L1 (a0 : TStory) : Nat → Int → Option Int
  | 0, _ => none
  | n + 1, gx1 => m18_quirref_StoryErr_L1B (m18_quirref_StoryErr_L1 a0 n) a0 gx1
def m18_quirref_StoryErr_K2 (a0 : TStory) : Option Int :=
  m18_quirref_StoryErr_L1 a0 big 0
def m18_quirref_StoryErr_K10 (gx8 : Int) (go4 : Int → Int → Option Int) (gx9 : Int) : Option Int :=
  bind1 (i64 (gx8 + 1)) fun x17 => go4 gx9 x17
def m18_quirref_StoryErr_K13 (x21 : TGot) (a0 : TStory) (gx10 : Int) (go5 : Int → Option Int) : Option Int :=
  if x21.From ≠ (-1) then bind1 (idx a0.Versions x21.Item) fun x24 => bind1 (m55_slices_Contains_int x24 x21.From) fun b25 => if b25 = true then bind1 (i64 (gx10 + 1)) fun x27 => go5 x27 else some 4 else bind1 (i64 (gx10 + 1)) fun x28 => go5 x28
def m18_quirref_StoryErr_K14 (x21 : TGot) (x18 : TTale) (a0 : TStory) (gx10 : Int) (go5 : Int → Option Int) (gb11 : Bool) : Option Int :=
  if gb11 = true then some 4 else if x21.From = x18.Tx then some 4 else m18_quirref_StoryErr_K13 x21 a0 gx10 go5
def m18_quirref_StoryErr_L5B (go5 : Int → Option Int) (x18 : TTale) (a0 : TStory) (gx8 : Int) (go4 : Int → Int → Option Int) (gx10 : Int) : Option Int :=
  if gx10 < (x18.Reads.length : Int) then bind1 (idx x18.Reads gx10) fun x21 => if x21.Item < 0 then m18_quirref_StoryErr_K14 x21 x18 a0 gx10 go5 true else if (a0.Versions.length : Int) ≤ x21.Item then m18_quirref_StoryErr_K14 x21 x18 a0 gx10 go5 true else m18_quirref_StoryErr_K14 x21 x18 a0 gx10 go5 false else m18_quirref_StoryErr_K10 gx8 go4 x18.Tx
def m18_quirref_StoryErr_L5 (x18 : TTale) (a0 : TStory) (gx8 : Int) (go4 : Int → Int → Option Int) : Nat → Int → Option Int
  | 0, _ => none
  | n + 1, gx10 => m18_quirref_StoryErr_L5B (m18_quirref_StoryErr_L5 x18 a0 gx8 go4 n) x18 a0 gx8 go4 gx10
def m18_quirref_StoryErr_K12 (x18 : TTale) (a0 : TStory) (gx8 : Int) (go4 : Int → Int → Option Int) : Option Int :=
  m18_quirref_StoryErr_L5 x18 a0 gx8 go4 big 0
def m18_quirref_StoryErr_K11 (x18 : TTale) (gx7 : Int) (a0 : TStory) (gx8 : Int) (go4 : Int → Int → Option Int) : Option Int :=
  if x18.Tx ≤ gx7 then some 4 else m18_quirref_StoryErr_K12 x18 a0 gx8 go4
def m18_quirref_StoryErr_L4B (go4 : Int → Int → Option Int) (a0 : TStory) (gx7 : Int) (gx8 : Int) : Option Int :=
  if gx8 < (a0.Tales.length : Int) then bind1 (idx a0.Tales gx8) fun x18 => if x18.Tx < 0 then some 1 else if 11 < x18.Tx then some 1 else m18_quirref_StoryErr_K11 x18 gx7 a0 gx8 go4 else m18_quirref_StoryErr_K2 a0
def m18_quirref_StoryErr_L4 (a0 : TStory) : Nat → Int → Int → Option Int
  | 0, _, _ => none
  | n + 1, gx7, gx8 => m18_quirref_StoryErr_L4B (m18_quirref_StoryErr_L4 a0 n) a0 gx7 gx8
def m18_quirref_StoryErr_K1 (a0 : TStory) : Option Int :=
  m18_quirref_StoryErr_L4 a0 big (-1) 0
def m18_quirref_StoryErr (a0 : TStory) : Option Int :=
  if 12 < (a0.Tales.length : Int) then some 2 else if 20 < (a0.Versions.length : Int) then some 2 else m18_quirref_StoryErr_K1 a0
def m22_order_Check_K3 : Option Int :=
  some 0
def m22_order_Check_K4 (gx1 : Int) (go1 : Int → Option Int) : Option Int :=
  bind1 (i64 (gx1 + 1)) fun x3 => go1 x3
def m22_order_Check_K5 (gx2 : Int) (go2 : Int → Option Int) (gb3 : Bool) : Option Int :=
  if gb3 = true then bind1 (i64 (gx2 + 1)) fun x11 => go2 x11 else some 4
def m22_order_Check_K6 (gx2 : Int) (go2 : Int → Option Int) (gx4 : Int) : Option Int :=
  m22_order_Check_K5 gx2 go2 (decide (0 ≤ gx4))
def m22_order_Check_K7 (gx2 : Int) (go2 : Int → Option Int) : Option Int :=
  m22_order_Check_K6 gx2 go2 (-1)
def m22_order_Check_K8 (x13 : TTale) (x6 : Int) (gx2 : Int) (go2 : Int → Option Int) (gx5 : Int) (go3 : Int → Option Int) : Option Int :=
  if (decide (x13.Tx = x6)) = true then m22_order_Check_K6 gx2 go2 gx5 else bind1 (i64 (gx5 + 1)) fun x14 => go3 x14
def m22_order_Check_L3B (go3 : Int → Option Int) (a0 : TStory) (x6 : Int) (gx2 : Int) (go2 : Int → Option Int) (gx5 : Int) : Option Int :=
  if gx5 < (a0.Tales.length : Int) then bind1 (idx a0.Tales gx5) fun x13 => m22_order_Check_K8 x13 x6 gx2 go2 gx5 go3 else m22_order_Check_K7 gx2 go2
def m22_order_Check_L3 (a0 : TStory) (x6 : Int) (gx2 : Int) (go2 : Int → Option Int) : Nat → Int → Option Int
  | 0, _ => none
  | n + 1, gx5 => m22_order_Check_L3B (m22_order_Check_L3 a0 x6 gx2 go2 n) a0 x6 gx2 go2 gx5
def m22_order_Check_L2B (go2 : Int → Option Int) (x4 : (List Int)) (a0 : TStory) (gx1 : Int) (go1 : Int → Option Int) (gx2 : Int) : Option Int :=
  if gx2 < (x4.length : Int) then bind1 (idx x4 gx2) fun x6 => bind1 (cut x4 0 gx2) fun l8 => bind1 (m55_slices_Contains_int l8 x6) fun b9 => if b9 = true then some 4 else m22_order_Check_L3 a0 x6 gx2 go2 big 0 else m22_order_Check_K4 gx1 go1
def m22_order_Check_L2 (x4 : (List Int)) (a0 : TStory) (gx1 : Int) (go1 : Int → Option Int) : Nat → Int → Option Int
  | 0, _ => none
  | n + 1, gx2 => m22_order_Check_L2B (m22_order_Check_L2 x4 a0 gx1 go1 n) x4 a0 gx1 go1 gx2
def m22_order_Check_L1B (go1 : Int → Option Int) (a0 : TStory) (gx1 : Int) : Option Int :=
  if gx1 < (a0.Versions.length : Int) then bind1 (idx a0.Versions gx1) fun x4 => m22_order_Check_L2 x4 a0 gx1 go1 big 0 else m22_order_Check_K3
def m22_order_Check_L1 (a0 : TStory) : Nat → Int → Option Int
  | 0, _ => none
  | n + 1, gx1 => m22_order_Check_L1B (m22_order_Check_L1 a0 n) a0 gx1
def m22_order_Check_K2 (a0 : TStory) : Option Int :=
  m22_order_Check_L1 a0 big 0
def m22_order_Check_K9 (gx6 : Int) (go4 : Int → Option Int) : Option Int :=
  bind1 (i64 (gx6 + 1)) fun x17 => go4 x17
def m22_order_Check_K12 (x21 : TGot) (x18 : TTale) (a0 : TStory) (gx7 : Int) (go5 : Int → Option Int) (gb8 : Bool) : Option Int :=
  if gb8 = true then some 4 else if x21.From = x18.Tx then some 4 else if x21.From ≠ (-1) then bind1 (idx a0.Versions x21.Item) fun x25 => bind1 (m55_slices_Contains_int x25 x21.From) fun b26 => if b26 = true then bind1 (i64 (gx7 + 1)) fun x28 => go5 x28 else some 4 else bind1 (i64 (gx7 + 1)) fun x29 => go5 x29
def m22_order_Check_L5B (go5 : Int → Option Int) (x18 : TTale) (a0 : TStory) (gx6 : Int) (go4 : Int → Option Int) (gx7 : Int) : Option Int :=
  if gx7 < (x18.Reads.length : Int) then bind1 (idx x18.Reads gx7) fun x21 => if x21.Item < 0 then m22_order_Check_K12 x21 x18 a0 gx7 go5 true else if (a0.Versions.length : Int) ≤ x21.Item then m22_order_Check_K12 x21 x18 a0 gx7 go5 true else m22_order_Check_K12 x21 x18 a0 gx7 go5 false else m22_order_Check_K9 gx6 go4
def m22_order_Check_L5 (x18 : TTale) (a0 : TStory) (gx6 : Int) (go4 : Int → Option Int) : Nat → Int → Option Int
  | 0, _ => none
  | n + 1, gx7 => m22_order_Check_L5B (m22_order_Check_L5 x18 a0 gx6 go4 n) x18 a0 gx6 go4 gx7
def m22_order_Check_K11 (x18 : TTale) (a0 : TStory) (gx6 : Int) (go4 : Int → Option Int) : Option Int :=
  m22_order_Check_L5 x18 a0 gx6 go4 big 0
def m22_order_Check_K10 (gx6 : Int) (a0 : TStory) (x18 : TTale) (go4 : Int → Option Int) : Option Int :=
  if 0 < gx6 then bind1 (i64 (gx6 - 1)) fun x33 => bind1 (idx a0.Tales x33) fun x34 => if x18.Tx ≤ x34.Tx then some 4 else m22_order_Check_K11 x18 a0 gx6 go4 else m22_order_Check_K11 x18 a0 gx6 go4
def m22_order_Check_L4B (go4 : Int → Option Int) (a0 : TStory) (gx6 : Int) : Option Int :=
  if gx6 < (a0.Tales.length : Int) then bind1 (idx a0.Tales gx6) fun x18 => if x18.Tx < 0 then some 1 else if 12 ≤ x18.Tx then some 1 else m22_order_Check_K10 gx6 a0 x18 go4 else m22_order_Check_K2 a0
def m22_order_Check_L4 (a0 : TStory) : Nat → Int → Option Int
  | 0, _ => none
  | n + 1, gx6 => m22_order_Check_L4B (m22_order_Check_L4 a0 n) a0 gx6
def m22_order_Check_K1 (a0 : TStory) : Option Int :=
  m22_order_Check_L4 a0 big 0
def m22_order_Check (a0 : TStory) : Option Int :=
  if 12 < (a0.Tales.length : Int) then some 2 else if 20 < (a0.Versions.length : Int) then some 2 else m22_order_Check_K1 a0
def m117_cmp_isNaN_int (a0 : Int) : Option Bool :=
  some (decide (a0 ≠ a0))
def m61_cmp_Compare_int_K1 (a1 : Int) (a0 : Int) (gb1 : Bool) : Option Int :=
  if gb1 = true then bind1 (m117_cmp_isNaN_int a1) fun b5 => if b5 = true then some 0 else some (-1) else bind1 (m117_cmp_isNaN_int a1) fun b1 => if b1 = true then some 1 else if a0 < a1 then some (-1) else if a1 < a0 then some 1 else some 0
def m61_cmp_Compare_int (a0 : Int) (a1 : Int) : Option Int :=
  bind1 (m117_cmp_isNaN_int a0) fun b7 => if b7 = true then m61_cmp_Compare_int_K1 a1 a0 true else m61_cmp_Compare_int_K1 a1 a0 false
def m60_cmp_Or_int_K1 : Option Int :=
  some 0
def m60_cmp_Or_int_L1B (go1 : Int → Option Int) (a0 : (List Int)) (gx1 : Int) : Option Int :=
  if gx1 < (a0.length : Int) then bind1 (idx a0 gx1) fun x2 => if x2 ≠ 0 then some x2 else bind1 (i64 (gx1 + 1)) fun x4 => go1 x4 else m60_cmp_Or_int_K1
def m60_cmp_Or_int_L1 (a0 : (List Int)) : Nat → Int → Option Int
  | 0, _ => none
  | n + 1, gx1 => m60_cmp_Or_int_L1B (m60_cmp_Or_int_L1 a0 n) a0 gx1
def m60_cmp_Or_int (a0 : (List Int)) : Option Int :=
  m60_cmp_Or_int_L1 a0 big 0
def m59_order_Deps_2 (a0 : TDep) (a1 : TDep) : Option Int :=
  bind1 (m61_cmp_Compare_int a0.From a1.From) fun x3 => bind1 (m61_cmp_Compare_int a0.To a1.To) fun x5 => bind1 (m61_cmp_Compare_int a0.Kind a1.Kind) fun x7 => bind1 (m60_cmp_Or_int ([x3, x5, x7])) fun x10 => some x10
def m19_order_Deps_K4 (gl6 : (List TDep)) : Option ((List TDep) × Int) :=
  some (gl6, 0)
def m19_order_Deps_K6 (l3 : (List TDep)) : Option ((List TDep) × Int) :=
  m19_order_Deps_K4 l3
def m19_order_Deps_K8 (gx7 : Int) (go1 : Int → Option ((List TDep) × Int)) : Option ((List TDep) × Int) :=
  bind1 (i64 (gx7 + 1)) fun x4 => go1 x4
def m19_order_Deps_K9 (gl8 : (List TDep)) (gx9 : Int) : Option ((List TDep) × Int) :=
  bind1 (cut gl8 gx9 gl8.length) fun l10 => bind1 (clr gl8 gx9 (⟨0, 0, 0⟩ : TDep)) fun l11 => bind1 (cut l11 0 gx9) fun l12 => m19_order_Deps_K4 l12
def m19_order_Deps_K10 (gl10 : (List TDep)) (gx7 : Int) (gx12 : Int) (gx11 : Int) (go2 : (List TDep) → Int → Int → Option ((List TDep) × Int)) : Option ((List TDep) × Int) :=
  bind1 (cut gl10 gx7 gl10.length) fun l14 => bind1 (idx l14 gx12) fun x15 => bind1 (i64 (gx12 - 1)) fun x16 => bind1 (idx l14 x16) fun x17 => if x15 ≠ x17 then bind1 (idx l14 gx12) fun x19 => bind1 (idx gl10 gx11) fun x20 => bind1 (upd gl10 gx11 x19) fun l21 => bind1 (i64 (gx11 + 1)) fun x22 => bind1 (i64 (gx12 + 1)) fun x23 => go2 l21 x22 x23 else bind1 (i64 (gx12 + 1)) fun x24 => go2 gl10 gx11 x24
def m19_order_Deps_L2B (go2 : (List TDep) → Int → Int → Option ((List TDep) × Int)) (gx7 : Int) (gl10 : (List TDep)) (gx11 : Int) (gx12 : Int) : Option ((List TDep) × Int) :=
  bind1 (cut gl10 gx7 gl10.length) fun l25 => if gx12 < (l25.length : Int) then m19_order_Deps_K10 gl10 gx7 gx12 gx11 go2 else m19_order_Deps_K9 gl10 gx11
def m19_order_Deps_L2 (gx7 : Int) : Nat → (List TDep) → Int → Int → Option ((List TDep) × Int)
  | 0, _, _, _ => none
  | n + 1, gl10, gx11, gx12 => m19_order_Deps_L2B (m19_order_Deps_L2 gx7 n) gx7 gl10 gx11 gx12
def m19_order_Deps_K7 (l3 : (List TDep)) (gx7 : Int) (go1 : Int → Option ((List TDep) × Int)) : Option ((List TDep) × Int) :=
  bind1 (idx l3 gx7) fun x5 => bind1 (i64 (gx7 - 1)) fun x6 => bind1 (idx l3 x6) fun x7 => if x5 = x7 then bind1 (cut l3 gx7 l3.length) fun l9 => m19_order_Deps_L2 gx7 big l3 gx7 1 else m19_order_Deps_K8 gx7 go1
def m19_order_Deps_L1B (go1 : Int → Option ((List TDep) × Int)) (l3 : (List TDep)) (gx7 : Int) : Option ((List TDep) × Int) :=
  if gx7 < (l3.length : Int) then m19_order_Deps_K7 l3 gx7 go1 else m19_order_Deps_K6 l3
def m19_order_Deps_L1 (l3 : (List TDep)) : Nat → Int → Option ((List TDep) × Int)
  | 0, _ => none
  | n + 1, gx7 => m19_order_Deps_L1B (m19_order_Deps_L1 l3 n) l3 gx7
def m19_order_Deps_K5 (l3 : (List TDep)) : Option ((List TDep) × Int) :=
  m19_order_Deps_L1 l3 big 1
def m19_order_Deps_K3 (gl4 : (List TDep)) : Option ((List TDep) × Int) :=
  bind1 (xSortF (fun x y => (m59_order_Deps_2 x y).getD 0) gl4) fun l3 => if (l3.length : Int) < 2 then m19_order_Deps_K4 l3 else m19_order_Deps_K5 l3
def m19_order_Deps_K11 (gx13 : Int) (go3 : Int → (List TDep) → Option ((List TDep) × Int)) (gl17 : (List TDep)) : Option ((List TDep) × Int) :=
  bind1 (i64 (gx13 + 1)) fun x30 => go3 x30 gl17
def m19_order_Deps_K13 (gx18 : Int) (go4 : Int → (List TDep) → Option ((List TDep) × Int)) (gl28 : (List TDep)) : Option ((List TDep) × Int) :=
  bind1 (i64 (gx18 + 1)) fun x44 => go4 x44 gl28
def m19_order_Deps_K12 (a0 : TStory) (x34 : TGot) (x31 : TTale) (gx18 : Int) (go4 : Int → (List TDep) → Option ((List TDep) × Int)) (gl22 : (List TDep)) : Option ((List TDep) × Int) :=
  bind1 (idx a0.Versions x34.Item) fun x36 => bind1 (m56_slices_Index_int x36 x34.From) fun x37 => bind1 (i64 (x37 + 1)) fun x39 => if x39 < (x36.length : Int) then bind1 (idx x36 x39) fun x43 => if x31.Tx ≠ x43 then if 0 ≤ x31.Tx then bind1 (app gl22 ([(⟨x31.Tx, x43, 3⟩ : TDep)])) fun l49 => m19_order_Deps_K13 gx18 go4 l49 else m19_order_Deps_K13 gx18 go4 gl22 else m19_order_Deps_K13 gx18 go4 gl22 else bind1 (i64 (gx18 + 1)) fun x50 => go4 x50 gl22
def m19_order_Deps_L4B (go4 : Int → (List TDep) → Option ((List TDep) × Int)) (x31 : TTale) (a0 : TStory) (gx13 : Int) (go3 : Int → (List TDep) → Option ((List TDep) × Int)) (gx18 : Int) (gl20 : (List TDep)) : Option ((List TDep) × Int) :=
  if gx18 < (x31.Reads.length : Int) then bind1 (idx x31.Reads gx18) fun x34 => if x34.From ≠ x31.Tx then if 0 ≤ x34.From then bind1 (app gl20 ([(⟨x34.From, x31.Tx, 2⟩ : TDep)])) fun l55 => m19_order_Deps_K12 a0 x34 x31 gx18 go4 l55 else m19_order_Deps_K12 a0 x34 x31 gx18 go4 gl20 else m19_order_Deps_K12 a0 x34 x31 gx18 go4 gl20 else m19_order_Deps_K11 gx13 go3 gl20
def m19_order_Deps_L4 (x31 : TTale) (a0 : TStory) (gx13 : Int) (go3 : Int → (List TDep) → Option ((List TDep) × Int)) : Nat → Int → (List TDep) → Option ((List TDep) × Int)
  | 0, _, _ => none
  | n + 1, gx18, gl20 => m19_order_Deps_L4B (m19_order_Deps_L4 x31 a0 gx13 go3 n) x31 a0 gx13 go3 gx18 gl20
def m19_order_Deps_L3B (go3 : Int → (List TDep) → Option ((List TDep) × Int)) (a0 : TStory) (gx13 : Int) (gl15 : (List TDep)) : Option ((List TDep) × Int) :=
  if gx13 < (a0.Tales.length : Int) then bind1 (idx a0.Tales gx13) fun x31 => m19_order_Deps_L4 x31 a0 gx13 go3 big 0 gl15 else m19_order_Deps_K3 gl15
def m19_order_Deps_L3 (a0 : TStory) : Nat → Int → (List TDep) → Option ((List TDep) × Int)
  | 0, _, _ => none
  | n + 1, gx13, gl15 => m19_order_Deps_L3B (m19_order_Deps_L3 a0 n) a0 gx13 gl15
def m19_order_Deps_K2 (a0 : TStory) (gl2 : (List TDep)) : Option ((List TDep) × Int) :=
  m19_order_Deps_L3 a0 big 0 gl2
def m19_order_Deps_K14 (gx29 : Int) (go5 : Int → (List TDep) → Option ((List TDep) × Int)) (gl33 : (List TDep)) : Option ((List TDep) × Int) :=
  bind1 (i64 (gx29 + 1)) fun x57 => go5 x57 gl33
def m19_order_Deps_K16 (gx34 : Int) (go6 : Int → (List TDep) → Option ((List TDep) × Int)) (gl42 : (List TDep)) : Option ((List TDep) × Int) :=
  bind1 (i64 (gx34 + 1)) fun x68 => go6 x68 gl42
def m19_order_Deps_K15 (gx34 : Int) (x58 : (List Int)) (gl36 : (List TDep)) (go6 : Int → (List TDep) → Option ((List TDep) × Int)) : Option ((List TDep) × Int) :=
  bind1 (i64 (gx34 - 1)) fun x65 => bind1 (idx x58 x65) fun x66 => bind1 (idx x58 gx34) fun x67 => if x66 ≠ x67 then if 0 ≤ x66 then bind1 (app gl36 ([(⟨x66, x67, 1⟩ : TDep)])) fun l73 => m19_order_Deps_K16 gx34 go6 l73 else m19_order_Deps_K16 gx34 go6 gl36 else m19_order_Deps_K16 gx34 go6 gl36
def m19_order_Deps_L6B (go6 : Int → (List TDep) → Option ((List TDep) × Int)) (x58 : (List Int)) (gx29 : Int) (go5 : Int → (List TDep) → Option ((List TDep) × Int)) (gx34 : Int) (gl36 : (List TDep)) : Option ((List TDep) × Int) :=
  if gx34 < (x58.length : Int) then m19_order_Deps_K15 gx34 x58 gl36 go6 else m19_order_Deps_K14 gx29 go5 gl36
def m19_order_Deps_L6 (x58 : (List Int)) (gx29 : Int) (go5 : Int → (List TDep) → Option ((List TDep) × Int)) : Nat → Int → (List TDep) → Option ((List TDep) × Int)
  | 0, _, _ => none
  | n + 1, gx34, gl36 => m19_order_Deps_L6B (m19_order_Deps_L6 x58 gx29 go5 n) x58 gx29 go5 gx34 gl36
def m19_order_Deps_L5B (go5 : Int → (List TDep) → Option ((List TDep) × Int)) (a0 : TStory) (gx29 : Int) (gl31 : (List TDep)) : Option ((List TDep) × Int) :=
  if gx29 < (a0.Versions.length : Int) then bind1 (idx a0.Versions gx29) fun x58 => m19_order_Deps_L6 x58 gx29 go5 big 1 gl31 else m19_order_Deps_K2 a0 gl31
def m19_order_Deps_L5 (a0 : TStory) : Nat → Int → (List TDep) → Option ((List TDep) × Int)
  | 0, _, _ => none
  | n + 1, gx29, gl31 => m19_order_Deps_L5B (m19_order_Deps_L5 a0 n) a0 gx29 gl31
def m19_order_Deps_K1 (a0 : TStory) : Option ((List TDep) × Int) :=
  m19_order_Deps_L5 a0 big 0 []
def m19_order_Deps (a0 : TStory) : Option ((List TDep) × Int) :=
  bind1 (m22_order_Check a0) fun x75 => if x75 ≠ 0 then some ([], x75) else m19_order_Deps_K1 a0
def m109_graph_Check_K3 : Option Int :=
  some 0
def m109_graph_Check_K4 (x2 : TEdge) (a0 : Int) (gx1 : Int) (go1 : Int → Option Int) (gb2 : Bool) : Option Int :=
  if gb2 = true then some 4 else if x2.To < 0 then some 4 else if a0 ≤ x2.To then some 4 else bind1 (i64 (gx1 + 1)) fun x6 => go1 x6
def m109_graph_Check_L1B (go1 : Int → Option Int) (a1 : (List TEdge)) (a0 : Int) (gx1 : Int) : Option Int :=
  if gx1 < (a1.length : Int) then bind1 (idx a1 gx1) fun x2 => if x2.From < 0 then m109_graph_Check_K4 x2 a0 gx1 go1 true else if a0 ≤ x2.From then m109_graph_Check_K4 x2 a0 gx1 go1 true else m109_graph_Check_K4 x2 a0 gx1 go1 false else m109_graph_Check_K3
def m109_graph_Check_L1 (a1 : (List TEdge)) (a0 : Int) : Nat → Int → Option Int
  | 0, _ => none
  | n + 1, gx1 => m109_graph_Check_L1B (m109_graph_Check_L1 a1 a0 n) a1 a0 gx1
def m109_graph_Check_K2 (a1 : (List TEdge)) (a0 : Int) : Option Int :=
  m109_graph_Check_L1 a1 a0 big 0
def m109_graph_Check_K1 (a1 : (List TEdge)) (a0 : Int) : Option Int :=
  if 2000 < (a1.length : Int) then some 2 else m109_graph_Check_K2 a1 a0
def m109_graph_Check (a0 : Int) (a1 : (List TEdge)) : Option Int :=
  if a0 < 0 then some 1 else if 60 < a0 then some 1 else m109_graph_Check_K1 a1 a0
def m110_graph_next_K2 (gl3 : (List (List Int))) : Option (List (List Int)) :=
  some gl3
def m110_graph_next_L1B (go1 : (List (List Int)) → Int → Option (List (List Int))) (gl1 : (List (List Int))) (gl5 : (List (List Int))) (gx7 : Int) : Option (List (List Int)) :=
  if gx7 < (gl1.length : Int) then bind1 (idx gl5 gx7) fun x4 => bind1 (xSort x4) fun l5 => bind1 (upd gl5 gx7 l5) fun l6 => bind1 (idx l6 gx7) fun x7 => bind1 (xCompact x7) fun l8 => bind1 (idx l6 gx7) fun x10 => bind1 (upd l6 gx7 l8) fun l11 => bind1 (i64 (gx7 + 1)) fun x13 => go1 l11 x13 else m110_graph_next_K2 gl5
def m110_graph_next_L1 (gl1 : (List (List Int))) : Nat → (List (List Int)) → Int → Option (List (List Int))
  | 0, _, _ => none
  | n + 1, gl5, gx7 => m110_graph_next_L1B (m110_graph_next_L1 gl1 n) gl1 gl5 gx7
def m110_graph_next_K1 (gl1 : (List (List Int))) : Option (List (List Int)) :=
  m110_graph_next_L1 gl1 big gl1 0
def m110_graph_next_L2B (go2 : (List (List Int)) → Int → Option (List (List Int))) (a1 : (List TEdge)) (gl8 : (List (List Int))) (gx10 : Int) : Option (List (List Int)) :=
  if gx10 < (a1.length : Int) then bind1 (idx a1 gx10) fun x15 => bind1 (idx gl8 x15.From) fun x35 => bind1 (app x35 ([x15.To])) fun l38 => bind1 (idx gl8 x15.From) fun x39 => bind1 (upd gl8 x15.From l38) fun l40 => bind1 (i64 (gx10 + 1)) fun x42 => go2 l40 x42 else m110_graph_next_K1 gl8
def m110_graph_next_L2 (a1 : (List TEdge)) : Nat → (List (List Int)) → Int → Option (List (List Int))
  | 0, _, _ => none
  | n + 1, gl8, gx10 => m110_graph_next_L2B (m110_graph_next_L2 a1 n) a1 gl8 gx10
def m110_graph_next (a0 : Int) (a1 : (List TEdge)) : Option (List (List Int)) :=
  bind1 (mk a0 ([] : (List Int))) fun l1 => m110_graph_next_L2 a1 big l1 0
def m42_graph_Order_K3 (gl3 : (List Int)) : Option ((List Int) × Int) :=
  some (gl3, 0)
def m42_graph_Order_K6 (gl6 : (List Int)) (x7 : Int) (go1 : (List Int) → (List Int) → Option ((List Int) × Int)) (gl7 : (List Int)) : Option ((List Int) × Int) :=
  bind1 (app gl6 ([x7])) fun l13 => go1 gl7 l13
def m42_graph_Order_L2B (go2 : (List Int) → Int → Option ((List Int) × Int)) (x14 : (List Int)) (gl6 : (List Int)) (x7 : Int) (go1 : (List Int) → (List Int) → Option ((List Int) × Int)) (gl8 : (List Int)) (gx9 : Int) : Option ((List Int) × Int) :=
  if gx9 < (x14.length : Int) then bind1 (idx x14 gx9) fun x16 => bind1 (idx gl8 x16) fun x17 => bind1 (i64 (x17 - 1)) fun x18 => bind1 (idx gl8 x16) fun x19 => bind1 (upd gl8 x16 x18) fun l20 => bind1 (i64 (gx9 + 1)) fun x21 => go2 l20 x21 else m42_graph_Order_K6 gl6 x7 go1 gl8
def m42_graph_Order_L2 (x14 : (List Int)) (gl6 : (List Int)) (x7 : Int) (go1 : (List Int) → (List Int) → Option ((List Int) × Int)) : Nat → (List Int) → Int → Option ((List Int) × Int)
  | 0, _, _ => none
  | n + 1, gl8, gx9 => m42_graph_Order_L2B (m42_graph_Order_L2 x14 gl6 x7 go1 n) x14 gl6 x7 go1 gl8 gx9
def m42_graph_Order_K5 (gl4 : (List Int)) (x7 : Int) (l1 : (List (List Int))) (gl6 : (List Int)) (go1 : (List Int) → (List Int) → Option ((List Int) × Int)) : Option ((List Int) × Int) :=
  bind1 (idx gl4 x7) fun x9 => bind1 (upd gl4 x7 (-1)) fun l10 => bind1 (idx l1 x7) fun x14 => m42_graph_Order_L2 x14 gl6 x7 go1 big l10 0
def m42_graph_Order_K4 (gl4 : (List Int)) (l1 : (List (List Int))) (gl6 : (List Int)) (go1 : (List Int) → (List Int) → Option ((List Int) × Int)) : Option ((List Int) × Int) :=
  bind1 (m56_slices_Index_int gl4 0) fun x7 => if x7 < 0 then some ([], 11) else m42_graph_Order_K5 gl4 x7 l1 gl6 go1
def m42_graph_Order_L1B (go1 : (List Int) → (List Int) → Option ((List Int) × Int)) (a0 : Int) (l1 : (List (List Int))) (gl4 : (List Int)) (gl6 : (List Int)) : Option ((List Int) × Int) :=
  if (gl6.length : Int) < a0 then m42_graph_Order_K4 gl4 l1 gl6 go1 else m42_graph_Order_K3 gl6
def m42_graph_Order_L1 (a0 : Int) (l1 : (List (List Int))) : Nat → (List Int) → (List Int) → Option ((List Int) × Int)
  | 0, _, _ => none
  | n + 1, gl4, gl6 => m42_graph_Order_L1B (m42_graph_Order_L1 a0 l1 n) a0 l1 gl4 gl6
def m42_graph_Order_K2 (a0 : Int) (l1 : (List (List Int))) (gl1 : (List Int)) : Option ((List Int) × Int) :=
  m42_graph_Order_L1 a0 l1 big gl1 []
def m42_graph_Order_K7 (gx11 : Int) (go3 : (List Int) → Int → Option ((List Int) × Int)) (gl12 : (List Int)) : Option ((List Int) × Int) :=
  bind1 (i64 (gx11 + 1)) fun x25 => go3 gl12 x25
def m42_graph_Order_L4B (go4 : (List Int) → Int → Option ((List Int) × Int)) (x26 : (List Int)) (gx11 : Int) (go3 : (List Int) → Int → Option ((List Int) × Int)) (gl13 : (List Int)) (gx14 : Int) : Option ((List Int) × Int) :=
  if gx14 < (x26.length : Int) then bind1 (idx x26 gx14) fun x28 => bind1 (idx gl13 x28) fun x29 => bind1 (i64 (x29 + 1)) fun x30 => bind1 (idx gl13 x28) fun x31 => bind1 (upd gl13 x28 x30) fun l32 => bind1 (i64 (gx14 + 1)) fun x33 => go4 l32 x33 else m42_graph_Order_K7 gx11 go3 gl13
def m42_graph_Order_L4 (x26 : (List Int)) (gx11 : Int) (go3 : (List Int) → Int → Option ((List Int) × Int)) : Nat → (List Int) → Int → Option ((List Int) × Int)
  | 0, _, _ => none
  | n + 1, gl13, gx14 => m42_graph_Order_L4B (m42_graph_Order_L4 x26 gx11 go3 n) x26 gx11 go3 gl13 gx14
def m42_graph_Order_L3B (go3 : (List Int) → Int → Option ((List Int) × Int)) (l1 : (List (List Int))) (a0 : Int) (gl10 : (List Int)) (gx11 : Int) : Option ((List Int) × Int) :=
  if gx11 < (l1.length : Int) then bind1 (idx l1 gx11) fun x26 => m42_graph_Order_L4 x26 gx11 go3 big gl10 0 else m42_graph_Order_K2 a0 l1 gl10
def m42_graph_Order_L3 (l1 : (List (List Int))) (a0 : Int) : Nat → (List Int) → Int → Option ((List Int) × Int)
  | 0, _, _ => none
  | n + 1, gl10, gx11 => m42_graph_Order_L3B (m42_graph_Order_L3 l1 a0 n) l1 a0 gl10 gx11
def m42_graph_Order_K1 (a0 : Int) (a1 : (List TEdge)) : Option ((List Int) × Int) :=
  bind1 (m110_graph_next a0 a1) fun l1 => bind1 (mk a0 0) fun l5 => m42_graph_Order_L3 l1 a0 big l5 0
def m42_graph_Order (a0 : Int) (a1 : (List TEdge)) : Option ((List Int) × Int) :=
  bind1 (m109_graph_Check a0 a1) fun x34 => if x34 ≠ 0 then some ([], x34) else m42_graph_Order_K1 a0 a1
def m63_order_loop_K1 (gl2 : (List TEdge)) : Option Bool :=
  bind2 (m42_graph_Order 12 gl2) fun l1 x3 => some (decide (x3 = 11))
def m63_order_loop_L1B (go1 : (List TEdge) → Int → Option Bool) (a0 : (List TDep)) (a1 : Int) (gl4 : (List TEdge)) (gx5 : Int) : Option Bool :=
  if gx5 < (a0.length : Int) then bind1 (idx a0 gx5) fun x6 => if x6.Kind ≤ a1 then bind1 (app gl4 ([(⟨x6.From, x6.To⟩ : TEdge)])) fun l11 => bind1 (i64 (gx5 + 1)) fun x12 => go1 l11 x12 else bind1 (i64 (gx5 + 1)) fun x13 => go1 gl4 x13 else m63_order_loop_K1 gl4
def m63_order_loop_L1 (a0 : (List TDep)) (a1 : Int) : Nat → (List TEdge) → Int → Option Bool
  | 0, _, _ => none
  | n + 1, gl4, gx5 => m63_order_loop_L1B (m63_order_loop_L1 a0 a1 n) a0 a1 gl4 gx5
def m63_order_loop (a0 : (List TDep)) (a1 : Int) : Option Bool :=
  m63_order_loop_L1 a0 a1 big [] 0
def m20_order_Faults (a0 : TStory) : Option (TFault × Int) :=
  bind2 (m19_order_Deps a0) fun l3 x5 => if x5 ≠ 0 then some ((⟨false, false, false⟩ : TFault), x5) else bind1 (m63_order_loop l3 1) fun b8 => bind1 (m63_order_loop l3 2) fun b10 => bind1 (m63_order_loop l3 3) fun b12 => some ((⟨b8, b10, b12⟩ : TFault), 0)
def m21_order_Serial_K4 (gl4 : (List Int)) : Option ((List Int) × Int) :=
  some (gl4, 0)
def m21_order_Serial_K7 (gl6 : (List Int)) (gx7 : Int) : Option ((List Int) × Int) :=
  bind1 (cut gl6 gx7 gl6.length) fun l10 => bind1 (clr gl6 gx7 0) fun l11 => bind1 (cut l11 0 gx7) fun l12 => m21_order_Serial_K4 l12
def m21_order_Serial_K9 (gx10 : Int) (go1 : (List Int) → Int → Int → Option ((List Int) × Int)) (gl8 : (List Int)) (gx9 : Int) (x15 : Int) (gb11 : Bool) : Option ((List Int) × Int) :=
  if gb11 = true then bind1 (i64 (gx10 + 1)) fun x20 => go1 gl8 gx9 x20 else bind1 (idx gl8 gx9) fun x16 => bind1 (upd gl8 gx9 x15) fun l17 => bind1 (i64 (gx9 + 1)) fun x18 => bind1 (i64 (gx10 + 1)) fun x19 => go1 l17 x18 x19
def m21_order_Serial_K10 (gx10 : Int) (go1 : (List Int) → Int → Int → Option ((List Int) × Int)) (gl8 : (List Int)) (gx9 : Int) (x15 : Int) (gb12 : Bool) : Option ((List Int) × Int) :=
  m21_order_Serial_K9 gx10 go1 gl8 gx9 x15 (!gb12)
def m21_order_Serial_K11 (gx10 : Int) (go1 : (List Int) → Int → Int → Option ((List Int) × Int)) (gl8 : (List Int)) (gx9 : Int) (x15 : Int) (gx13 : Int) : Option ((List Int) × Int) :=
  m21_order_Serial_K10 gx10 go1 gl8 gx9 x15 (decide (0 ≤ gx13))
def m21_order_Serial_K12 (gx10 : Int) (go1 : (List Int) → Int → Int → Option ((List Int) × Int)) (gl8 : (List Int)) (gx9 : Int) (x15 : Int) : Option ((List Int) × Int) :=
  m21_order_Serial_K11 gx10 go1 gl8 gx9 x15 (-1)
def m21_order_Serial_K13 (x23 : TTale) (x15 : Int) (gx10 : Int) (go1 : (List Int) → Int → Int → Option ((List Int) × Int)) (gl8 : (List Int)) (gx9 : Int) (gx14 : Int) (go2 : Int → Option ((List Int) × Int)) : Option ((List Int) × Int) :=
  if (decide (x23.Tx = x15)) = true then m21_order_Serial_K11 gx10 go1 gl8 gx9 x15 gx14 else bind1 (i64 (gx14 + 1)) fun x24 => go2 x24
def m21_order_Serial_L2B (go2 : Int → Option ((List Int) × Int)) (a0 : TStory) (x15 : Int) (gx10 : Int) (go1 : (List Int) → Int → Int → Option ((List Int) × Int)) (gl8 : (List Int)) (gx9 : Int) (gx14 : Int) : Option ((List Int) × Int) :=
  if gx14 < (a0.Tales.length : Int) then bind1 (idx a0.Tales gx14) fun x23 => m21_order_Serial_K13 x23 x15 gx10 go1 gl8 gx9 gx14 go2 else m21_order_Serial_K12 gx10 go1 gl8 gx9 x15
def m21_order_Serial_L2 (a0 : TStory) (x15 : Int) (gx10 : Int) (go1 : (List Int) → Int → Int → Option ((List Int) × Int)) (gl8 : (List Int)) (gx9 : Int) : Nat → Int → Option ((List Int) × Int)
  | 0, _ => none
  | n + 1, gx14 => m21_order_Serial_L2B (m21_order_Serial_L2 a0 x15 gx10 go1 gl8 gx9 n) a0 x15 gx10 go1 gl8 gx9 gx14
def m21_order_Serial_K8 (gl8 : (List Int)) (gx10 : Int) (a0 : TStory) (go1 : (List Int) → Int → Int → Option ((List Int) × Int)) (gx9 : Int) : Option ((List Int) × Int) :=
  bind1 (idx gl8 gx10) fun x15 => m21_order_Serial_L2 a0 x15 gx10 go1 gl8 gx9 big 0
def m21_order_Serial_L1B (go1 : (List Int) → Int → Int → Option ((List Int) × Int)) (a0 : TStory) (gl8 : (List Int)) (gx9 : Int) (gx10 : Int) : Option ((List Int) × Int) :=
  if gx10 < (gl8.length : Int) then m21_order_Serial_K8 gl8 gx10 a0 go1 gx9 else m21_order_Serial_K7 gl8 gx9
def m21_order_Serial_L1 (a0 : TStory) : Nat → (List Int) → Int → Int → Option ((List Int) × Int)
  | 0, _, _, _ => none
  | n + 1, gl8, gx9, gx10 => m21_order_Serial_L1B (m21_order_Serial_L1 a0 n) a0 gl8 gx9 gx10
def m21_order_Serial_K6 (gx5 : Int) (a0 : TStory) (l6 : (List Int)) : Option ((List Int) × Int) :=
  bind1 (i64 (gx5 + 1)) fun x14 => m21_order_Serial_L1 a0 big l6 gx5 x14
def m21_order_Serial_K5 (l6 : (List Int)) (a0 : TStory) (gx5 : Int) : Option ((List Int) × Int) :=
  if gx5 = (-1) then m21_order_Serial_K4 l6 else m21_order_Serial_K6 gx5 a0 l6
def m21_order_Serial_K14 (l6 : (List Int)) (a0 : TStory) : Option ((List Int) × Int) :=
  m21_order_Serial_K5 l6 a0 (-1)
def m21_order_Serial_K15 (l6 : (List Int)) (a0 : TStory) (gx15 : Int) (go3 : Int → Option ((List Int) × Int)) (gb16 : Bool) : Option ((List Int) × Int) :=
  if gb16 = true then m21_order_Serial_K5 l6 a0 gx15 else bind1 (i64 (gx15 + 1)) fun x30 => go3 x30
def m21_order_Serial_K16 (l6 : (List Int)) (a0 : TStory) (gx15 : Int) (go3 : Int → Option ((List Int) × Int)) (gb17 : Bool) : Option ((List Int) × Int) :=
  m21_order_Serial_K15 l6 a0 gx15 go3 (!gb17)
def m21_order_Serial_K17 (l6 : (List Int)) (a0 : TStory) (gx15 : Int) (go3 : Int → Option ((List Int) × Int)) (gx18 : Int) : Option ((List Int) × Int) :=
  m21_order_Serial_K16 l6 a0 gx15 go3 (decide (0 ≤ gx18))
def m21_order_Serial_K18 (l6 : (List Int)) (a0 : TStory) (gx15 : Int) (go3 : Int → Option ((List Int) × Int)) : Option ((List Int) × Int) :=
  m21_order_Serial_K17 l6 a0 gx15 go3 (-1)
def m21_order_Serial_K19 (x33 : TTale) (x29 : Int) (l6 : (List Int)) (a0 : TStory) (gx15 : Int) (go3 : Int → Option ((List Int) × Int)) (gx19 : Int) (go4 : Int → Option ((List Int) × Int)) : Option ((List Int) × Int) :=
  if (decide (x33.Tx = x29)) = true then m21_order_Serial_K17 l6 a0 gx15 go3 gx19 else bind1 (i64 (gx19 + 1)) fun x34 => go4 x34
def m21_order_Serial_L4B (go4 : Int → Option ((List Int) × Int)) (a0 : TStory) (x29 : Int) (l6 : (List Int)) (gx15 : Int) (go3 : Int → Option ((List Int) × Int)) (gx19 : Int) : Option ((List Int) × Int) :=
  if gx19 < (a0.Tales.length : Int) then bind1 (idx a0.Tales gx19) fun x33 => m21_order_Serial_K19 x33 x29 l6 a0 gx15 go3 gx19 go4 else m21_order_Serial_K18 l6 a0 gx15 go3
def m21_order_Serial_L4 (a0 : TStory) (x29 : Int) (l6 : (List Int)) (gx15 : Int) (go3 : Int → Option ((List Int) × Int)) : Nat → Int → Option ((List Int) × Int)
  | 0, _ => none
  | n + 1, gx19 => m21_order_Serial_L4B (m21_order_Serial_L4 a0 x29 l6 gx15 go3 n) a0 x29 l6 gx15 go3 gx19
def m21_order_Serial_L3B (go3 : Int → Option ((List Int) × Int)) (l6 : (List Int)) (a0 : TStory) (gx15 : Int) : Option ((List Int) × Int) :=
  if gx15 < (l6.length : Int) then bind1 (idx l6 gx15) fun x29 => m21_order_Serial_L4 a0 x29 l6 gx15 go3 big 0 else m21_order_Serial_K14 l6 a0
def m21_order_Serial_L3 (l6 : (List Int)) (a0 : TStory) : Nat → Int → Option ((List Int) × Int)
  | 0, _ => none
  | n + 1, gx15 => m21_order_Serial_L3B (m21_order_Serial_L3 l6 a0 n) l6 a0 gx15
def m21_order_Serial_K3 (l6 : (List Int)) (a0 : TStory) : Option ((List Int) × Int) :=
  m21_order_Serial_L3 l6 a0 big 0
def m21_order_Serial_K2 (a0 : TStory) (gl2 : (List TEdge)) : Option ((List Int) × Int) :=
  bind2 (m42_graph_Order 12 gl2) fun l6 x8 => if x8 ≠ 0 then some ([], x8) else m21_order_Serial_K3 l6 a0
def m21_order_Serial_L5B (go5 : (List TEdge) → Int → Option ((List Int) × Int)) (l2 : (List TDep)) (a0 : TStory) (gl21 : (List TEdge)) (gx22 : Int) : Option ((List Int) × Int) :=
  if gx22 < (l2.length : Int) then bind1 (idx l2 gx22) fun x38 => bind1 (app gl21 ([(⟨x38.From, x38.To⟩ : TEdge)])) fun l42 => bind1 (i64 (gx22 + 1)) fun x43 => go5 l42 x43 else m21_order_Serial_K2 a0 gl21
def m21_order_Serial_L5 (l2 : (List TDep)) (a0 : TStory) : Nat → (List TEdge) → Int → Option ((List Int) × Int)
  | 0, _, _ => none
  | n + 1, gl21, gx22 => m21_order_Serial_L5B (m21_order_Serial_L5 l2 a0 n) l2 a0 gl21 gx22
def m21_order_Serial_K1 (l2 : (List TDep)) (a0 : TStory) : Option ((List Int) × Int) :=
  m21_order_Serial_L5 l2 a0 big [] 0
def m21_order_Serial (a0 : TStory) : Option ((List Int) × Int) :=
  bind2 (m19_order_Deps a0) fun l2 x4 => if x4 ≠ 0 then some ([], x4) else m21_order_Serial_K1 l2 a0
def m118_quirref_nextWriter_K1 : Option Int :=
  some (-1)
def m118_quirref_nextWriter_K3 (x2 : Int) (gx1 : Int) (go1 : Int → Option Int) (gb3 : Bool) : Option Int :=
  if gb3 = true then some x2 else bind1 (i64 (gx1 + 1)) fun x3 => go1 x3
def m118_quirref_nextWriter_K2 (x2 : Int) (gx1 : Int) (a0 : (List Int)) (a1 : Int) (go1 : Int → Option Int) (gb2 : Bool) : Option Int :=
  if gb2 = true then some x2 else if 0 < gx1 then bind1 (i64 (gx1 - 1)) fun x5 => bind1 (idx a0 x5) fun x6 => if x6 = a1 then m118_quirref_nextWriter_K3 x2 gx1 go1 true else m118_quirref_nextWriter_K3 x2 gx1 go1 false else m118_quirref_nextWriter_K3 x2 gx1 go1 false
def m118_quirref_nextWriter_L1B (go1 : Int → Option Int) (a0 : (List Int)) (a1 : Int) (gx1 : Int) : Option Int :=
  if gx1 < (a0.length : Int) then bind1 (idx a0 gx1) fun x2 => if a1 = (-1) then if gx1 = 0 then m118_quirref_nextWriter_K2 x2 gx1 a0 a1 go1 true else m118_quirref_nextWriter_K2 x2 gx1 a0 a1 go1 false else m118_quirref_nextWriter_K2 x2 gx1 a0 a1 go1 false else m118_quirref_nextWriter_K1
def m118_quirref_nextWriter_L1 (a0 : (List Int)) (a1 : Int) : Nat → Int → Option Int
  | 0, _ => none
  | n + 1, gx1 => m118_quirref_nextWriter_L1B (m118_quirref_nextWriter_L1 a0 a1 n) a0 a1 gx1
def m118_quirref_nextWriter (a0 : (List Int)) (a1 : Int) : Option Int :=
  m118_quirref_nextWriter_L1 a0 a1 big 0
def m70_quirref_hangs_K2 : Option Bool :=
  some false
def m70_quirref_hangs_K3 (gx1 : Int) (go1 : Int → Option Bool) : Option Bool :=
  bind1 (i64 (gx1 + 1)) fun x3 => go1 x3
def m70_quirref_hangs_K5 (a0 : TStory) (x7 : TGot) (a2 : Int) (gx2 : Int) (go2 : Int → Option Bool) (gb4 : Bool) : Option Bool :=
  if gb4 = true then bind1 (idx a0.Versions x7.Item) fun x10 => bind1 (m118_quirref_nextWriter x10 x7.From) fun x11 => if x11 = a2 then some true else bind1 (i64 (gx2 + 1)) fun x14 => go2 x14 else bind1 (i64 (gx2 + 1)) fun x9 => go2 x9
def m70_quirref_hangs_K4 (x7 : TGot) (a1 : Int) (a3 : Int) (x4 : TTale) (a0 : TStory) (a2 : Int) (gx2 : Int) (go2 : Int → Option Bool) (gb3 : Bool) : Option Bool :=
  if gb3 = true then if x7.From = a1 then some true else if a3 = 3 then if x4.Tx = a1 then bind1 (idx a0.Versions x7.Item) fun x20 => bind1 (m118_quirref_nextWriter x20 x7.From) fun x21 => if x21 = a2 then some true else bind1 (i64 (gx2 + 1)) fun x24 => go2 x24 else bind1 (i64 (gx2 + 1)) fun x25 => go2 x25 else bind1 (i64 (gx2 + 1)) fun x26 => go2 x26 else if a3 = 3 then if x4.Tx = a1 then m70_quirref_hangs_K5 a0 x7 a2 gx2 go2 true else m70_quirref_hangs_K5 a0 x7 a2 gx2 go2 false else m70_quirref_hangs_K5 a0 x7 a2 gx2 go2 false
def m70_quirref_hangs_L2B (go2 : Int → Option Bool) (x4 : TTale) (a3 : Int) (a2 : Int) (a1 : Int) (a0 : TStory) (gx1 : Int) (go1 : Int → Option Bool) (gx2 : Int) : Option Bool :=
  if gx2 < (x4.Reads.length : Int) then bind1 (idx x4.Reads gx2) fun x7 => if a3 = 2 then if x4.Tx = a2 then m70_quirref_hangs_K4 x7 a1 a3 x4 a0 a2 gx2 go2 true else m70_quirref_hangs_K4 x7 a1 a3 x4 a0 a2 gx2 go2 false else m70_quirref_hangs_K4 x7 a1 a3 x4 a0 a2 gx2 go2 false else m70_quirref_hangs_K3 gx1 go1
def m70_quirref_hangs_L2 (x4 : TTale) (a3 : Int) (a2 : Int) (a1 : Int) (a0 : TStory) (gx1 : Int) (go1 : Int → Option Bool) : Nat → Int → Option Bool
  | 0, _ => none
  | n + 1, gx2 => m70_quirref_hangs_L2B (m70_quirref_hangs_L2 x4 a3 a2 a1 a0 gx1 go1 n) x4 a3 a2 a1 a0 gx1 go1 gx2
def m70_quirref_hangs_L1B (go1 : Int → Option Bool) (a0 : TStory) (a3 : Int) (a2 : Int) (a1 : Int) (gx1 : Int) : Option Bool :=
  if gx1 < (a0.Tales.length : Int) then bind1 (idx a0.Tales gx1) fun x4 => m70_quirref_hangs_L2 x4 a3 a2 a1 a0 gx1 go1 big 0 else m70_quirref_hangs_K2
def m70_quirref_hangs_L1 (a0 : TStory) (a3 : Int) (a2 : Int) (a1 : Int) : Nat → Int → Option Bool
  | 0, _ => none
  | n + 1, gx1 => m70_quirref_hangs_L1B (m70_quirref_hangs_L1 a0 a3 a2 a1 n) a0 a3 a2 a1 gx1
def m70_quirref_hangs_K1 (a0 : TStory) (a3 : Int) (a2 : Int) (a1 : Int) : Option Bool :=
  m70_quirref_hangs_L1 a0 a3 a2 a1 big 0
def m70_quirref_hangs_K6 : Option Bool :=
  some false
def m70_quirref_hangs_K7 (gx5 : Int) (go3 : Int → Option Bool) : Option Bool :=
  bind1 (i64 (gx5 + 1)) fun x31 => go3 x31
def m70_quirref_hangs_K8 (x32 : (List Int)) (gx6 : Int) (a2 : Int) (go4 : Int → Option Bool) (gb7 : Bool) : Option Bool :=
  if gb7 = true then bind1 (idx x32 gx6) fun x35 => if x35 = a2 then some true else bind1 (i64 (gx6 + 1)) fun x37 => go4 x37 else bind1 (i64 (gx6 + 1)) fun x34 => go4 x34
def m70_quirref_hangs_L4B (go4 : Int → Option Bool) (x32 : (List Int)) (a1 : Int) (a2 : Int) (gx5 : Int) (go3 : Int → Option Bool) (gx6 : Int) : Option Bool :=
  if gx6 < (x32.length : Int) then if 0 < gx6 then bind1 (i64 (gx6 - 1)) fun x39 => bind1 (idx x32 x39) fun x40 => if x40 = a1 then m70_quirref_hangs_K8 x32 gx6 a2 go4 true else m70_quirref_hangs_K8 x32 gx6 a2 go4 false else m70_quirref_hangs_K8 x32 gx6 a2 go4 false else m70_quirref_hangs_K7 gx5 go3
def m70_quirref_hangs_L4 (x32 : (List Int)) (a1 : Int) (a2 : Int) (gx5 : Int) (go3 : Int → Option Bool) : Nat → Int → Option Bool
  | 0, _ => none
  | n + 1, gx6 => m70_quirref_hangs_L4B (m70_quirref_hangs_L4 x32 a1 a2 gx5 go3 n) x32 a1 a2 gx5 go3 gx6
def m70_quirref_hangs_L3B (go3 : Int → Option Bool) (a0 : TStory) (a1 : Int) (a2 : Int) (gx5 : Int) : Option Bool :=
  if gx5 < (a0.Versions.length : Int) then bind1 (idx a0.Versions gx5) fun x32 => m70_quirref_hangs_L4 x32 a1 a2 gx5 go3 big 0 else m70_quirref_hangs_K6
def m70_quirref_hangs_L3 (a0 : TStory) (a1 : Int) (a2 : Int) : Nat → Int → Option Bool
  | 0, _ => none
  | n + 1, gx5 => m70_quirref_hangs_L3B (m70_quirref_hangs_L3 a0 a1 a2 n) a0 a1 a2 gx5
def m70_quirref_hangs (a0 : TStory) (a1 : Int) (a2 : Int) (a3 : Int) : Option Bool :=
  if a3 = 1 then m70_quirref_hangs_L3 a0 a1 a2 big 0 else m70_quirref_hangs_K1 a0 a3 a2 a1
def m25_quirref_Deps_K1 (gl2 : (List TDep)) : Option (List TDep) :=
  some gl2
def m25_quirref_Deps_K2 (gx5 : Int) (go1 : (List TDep) → Int → Option (List TDep)) (gl7 : (List TDep)) : Option (List TDep) :=
  bind1 (i64 (gx5 + 1)) fun x3 => go1 gl7 x3
def m25_quirref_Deps_K3 (gx10 : Int) (go2 : (List TDep) → Int → Option (List TDep)) (gl12 : (List TDep)) : Option (List TDep) :=
  bind1 (i64 (gx10 + 1)) fun x5 => go2 gl12 x5
def m25_quirref_Deps_K4 (gx5 : Int) (gx10 : Int) (a0 : TStory) (gx15 : Int) (gl14 : (List TDep)) (go3 : (List TDep) → Int → Option (List TDep)) : Option (List TDep) :=
  if gx5 ≠ gx10 then bind1 (m70_quirref_hangs a0 gx5 gx10 gx15) fun b7 => if b7 = true then bind1 (app gl14 ([(⟨gx5, gx10, gx15⟩ : TDep)])) fun l12 => bind1 (i64 (gx15 + 1)) fun x13 => go3 l12 x13 else bind1 (i64 (gx15 + 1)) fun x9 => go3 gl14 x9 else bind1 (i64 (gx15 + 1)) fun x14 => go3 gl14 x14
def m25_quirref_Deps_L3B (go3 : (List TDep) → Int → Option (List TDep)) (gx5 : Int) (gx10 : Int) (a0 : TStory) (go2 : (List TDep) → Int → Option (List TDep)) (gl14 : (List TDep)) (gx15 : Int) : Option (List TDep) :=
  if gx15 ≤ 3 then m25_quirref_Deps_K4 gx5 gx10 a0 gx15 gl14 go3 else m25_quirref_Deps_K3 gx10 go2 gl14
def m25_quirref_Deps_L3 (gx5 : Int) (gx10 : Int) (a0 : TStory) (go2 : (List TDep) → Int → Option (List TDep)) : Nat → (List TDep) → Int → Option (List TDep)
  | 0, _, _ => none
  | n + 1, gl14, gx15 => m25_quirref_Deps_L3B (m25_quirref_Deps_L3 gx5 gx10 a0 go2 n) gx5 gx10 a0 go2 gl14 gx15
def m25_quirref_Deps_L2B (go2 : (List TDep) → Int → Option (List TDep)) (gx5 : Int) (a0 : TStory) (go1 : (List TDep) → Int → Option (List TDep)) (gl9 : (List TDep)) (gx10 : Int) : Option (List TDep) :=
  if gx10 < 12 then m25_quirref_Deps_L3 gx5 gx10 a0 go2 big gl9 1 else m25_quirref_Deps_K2 gx5 go1 gl9
def m25_quirref_Deps_L2 (gx5 : Int) (a0 : TStory) (go1 : (List TDep) → Int → Option (List TDep)) : Nat → (List TDep) → Int → Option (List TDep)
  | 0, _, _ => none
  | n + 1, gl9, gx10 => m25_quirref_Deps_L2B (m25_quirref_Deps_L2 gx5 a0 go1 n) gx5 a0 go1 gl9 gx10
def m25_quirref_Deps_L1B (go1 : (List TDep) → Int → Option (List TDep)) (a0 : TStory) (gl4 : (List TDep)) (gx5 : Int) : Option (List TDep) :=
  if gx5 < 12 then m25_quirref_Deps_L2 gx5 a0 go1 big gl4 0 else m25_quirref_Deps_K1 gl4
def m25_quirref_Deps_L1 (a0 : TStory) : Nat → (List TDep) → Int → Option (List TDep)
  | 0, _, _ => none
  | n + 1, gl4, gx5 => m25_quirref_Deps_L1B (m25_quirref_Deps_L1 a0 n) a0 gl4 gx5
def m25_quirref_Deps (a0 : TStory) : Option (List TDep) :=
  m25_quirref_Deps_L1 a0 big [] 0
def m67_quirref_edgesOf_K1 (gl2 : (List TEdge)) : Option (List TEdge) :=
  some gl2
def m67_quirref_edgesOf_L1B (go1 : (List TEdge) → Int → Option (List TEdge)) (l2 : (List TDep)) (a1 : Int) (gl4 : (List TEdge)) (gx5 : Int) : Option (List TEdge) :=
  if gx5 < (l2.length : Int) then bind1 (idx l2 gx5) fun x6 => if x6.Kind ≤ a1 then bind1 (app gl4 ([(⟨x6.From, x6.To⟩ : TEdge)])) fun l11 => bind1 (i64 (gx5 + 1)) fun x12 => go1 l11 x12 else bind1 (i64 (gx5 + 1)) fun x13 => go1 gl4 x13 else m67_quirref_edgesOf_K1 gl4
def m67_quirref_edgesOf_L1 (l2 : (List TDep)) (a1 : Int) : Nat → (List TEdge) → Int → Option (List TEdge)
  | 0, _, _ => none
  | n + 1, gl4, gx5 => m67_quirref_edgesOf_L1B (m67_quirref_edgesOf_L1 l2 a1 n) l2 a1 gl4 gx5
def m67_quirref_edgesOf (a0 : TStory) (a1 : Int) : Option (List TEdge) :=
  bind1 (m25_quirref_Deps a0) fun l2 => m67_quirref_edgesOf_L1 l2 a1 big [] 0
def m112_quirref_Closure_K3 (gl4 : (List (List Bool))) : Option (List (List Bool)) :=
  some gl4
def m112_quirref_Closure_K4 (gx6 : Int) (go1 : (List (List Bool)) → Int → Option (List (List Bool))) (gl7 : (List (List Bool))) : Option (List (List Bool)) :=
  bind1 (i64 (gx6 + 1)) fun x4 => go1 gl7 x4
def m112_quirref_Closure_K5 (gx9 : Int) (go2 : (List (List Bool)) → Int → Option (List (List Bool))) (gl10 : (List (List Bool))) : Option (List (List Bool)) :=
  bind1 (i64 (gx9 + 1)) fun x6 => go2 gl10 x6
def m112_quirref_Closure_L3B (go3 : (List (List Bool)) → Int → Option (List (List Bool))) (a0 : Int) (gx9 : Int) (gx6 : Int) (go2 : (List (List Bool)) → Int → Option (List (List Bool))) (gl11 : (List (List Bool))) (gx12 : Int) : Option (List (List Bool)) :=
  if gx12 < a0 then bind1 (idx gl11 gx9) fun x22 => bind1 (idx gl11 gx9) fun x23 => bind1 (idx x23 gx12) fun x24 => if x24 = true then bind1 (idx x22 gx12) fun x26 => bind1 (upd x22 gx12 true) fun l27 => bind1 (upd gl11 gx9 l27) fun l28 => bind1 (i64 (gx12 + 1)) fun x29 => go3 l28 x29 else bind1 (idx gl11 gx9) fun x30 => bind1 (idx x30 gx6) fun x31 => if x31 = true then bind1 (idx gl11 gx6) fun x33 => bind1 (idx x33 gx12) fun x34 => bind1 (idx x22 gx12) fun x35 => bind1 (upd x22 gx12 x34) fun l36 => bind1 (upd gl11 gx9 l36) fun l37 => bind1 (i64 (gx12 + 1)) fun x38 => go3 l37 x38 else bind1 (idx x22 gx12) fun x39 => bind1 (upd x22 gx12 false) fun l40 => bind1 (upd gl11 gx9 l40) fun l41 => bind1 (i64 (gx12 + 1)) fun x42 => go3 l41 x42 else m112_quirref_Closure_K5 gx9 go2 gl11
def m112_quirref_Closure_L3 (a0 : Int) (gx9 : Int) (gx6 : Int) (go2 : (List (List Bool)) → Int → Option (List (List Bool))) : Nat → (List (List Bool)) → Int → Option (List (List Bool))
  | 0, _, _ => none
  | n + 1, gl11, gx12 => m112_quirref_Closure_L3B (m112_quirref_Closure_L3 a0 gx9 gx6 go2 n) a0 gx9 gx6 go2 gl11 gx12
def m112_quirref_Closure_L2B (go2 : (List (List Bool)) → Int → Option (List (List Bool))) (a0 : Int) (gx6 : Int) (go1 : (List (List Bool)) → Int → Option (List (List Bool))) (gl8 : (List (List Bool))) (gx9 : Int) : Option (List (List Bool)) :=
  if gx9 < a0 then m112_quirref_Closure_L3 a0 gx9 gx6 go2 big gl8 0 else m112_quirref_Closure_K4 gx6 go1 gl8
def m112_quirref_Closure_L2 (a0 : Int) (gx6 : Int) (go1 : (List (List Bool)) → Int → Option (List (List Bool))) : Nat → (List (List Bool)) → Int → Option (List (List Bool))
  | 0, _, _ => none
  | n + 1, gl8, gx9 => m112_quirref_Closure_L2B (m112_quirref_Closure_L2 a0 gx6 go1 n) a0 gx6 go1 gl8 gx9
def m112_quirref_Closure_L1B (go1 : (List (List Bool)) → Int → Option (List (List Bool))) (a0 : Int) (gl5 : (List (List Bool))) (gx6 : Int) : Option (List (List Bool)) :=
  if gx6 < a0 then m112_quirref_Closure_L2 a0 gx6 go1 big gl5 0 else m112_quirref_Closure_K3 gl5
def m112_quirref_Closure_L1 (a0 : Int) : Nat → (List (List Bool)) → Int → Option (List (List Bool))
  | 0, _, _ => none
  | n + 1, gl5, gx6 => m112_quirref_Closure_L1B (m112_quirref_Closure_L1 a0 n) a0 gl5 gx6
def m112_quirref_Closure_K2 (a0 : Int) (gl3 : (List (List Bool))) : Option (List (List Bool)) :=
  m112_quirref_Closure_L1 a0 big gl3 0
def m112_quirref_Closure_L4B (go4 : (List (List Bool)) → Int → Option (List (List Bool))) (a1 : (List TEdge)) (a0 : Int) (gl13 : (List (List Bool))) (gx14 : Int) : Option (List (List Bool)) :=
  if gx14 < (a1.length : Int) then bind1 (idx a1 gx14) fun x44 => bind1 (idx gl13 x44.From) fun x54 => bind1 (idx x54 x44.To) fun x55 => bind1 (upd x54 x44.To true) fun l56 => bind1 (upd gl13 x44.From l56) fun l57 => bind1 (i64 (gx14 + 1)) fun x58 => go4 l57 x58 else m112_quirref_Closure_K2 a0 gl13
def m112_quirref_Closure_L4 (a1 : (List TEdge)) (a0 : Int) : Nat → (List (List Bool)) → Int → Option (List (List Bool))
  | 0, _, _ => none
  | n + 1, gl13, gx14 => m112_quirref_Closure_L4B (m112_quirref_Closure_L4 a1 a0 n) a1 a0 gl13 gx14
def m112_quirref_Closure_K1 (a1 : (List TEdge)) (a0 : Int) (gl1 : (List (List Bool))) : Option (List (List Bool)) :=
  m112_quirref_Closure_L4 a1 a0 big gl1 0
def m112_quirref_Closure_L5B (go5 : (List (List Bool)) → Int → Option (List (List Bool))) (l1 : (List (List Bool))) (a0 : Int) (a1 : (List TEdge)) (gl15 : (List (List Bool))) (gx17 : Int) : Option (List (List Bool)) :=
  if gx17 < (l1.length : Int) then bind1 (mk a0 false) fun l60 => bind1 (idx gl15 gx17) fun x62 => bind1 (upd gl15 gx17 l60) fun l63 => bind1 (i64 (gx17 + 1)) fun x65 => go5 l63 x65 else m112_quirref_Closure_K1 a1 a0 gl15
def m112_quirref_Closure_L5 (l1 : (List (List Bool))) (a0 : Int) (a1 : (List TEdge)) : Nat → (List (List Bool)) → Int → Option (List (List Bool))
  | 0, _, _ => none
  | n + 1, gl15, gx17 => m112_quirref_Closure_L5B (m112_quirref_Closure_L5 l1 a0 a1 n) l1 a0 a1 gl15 gx17
def m112_quirref_Closure (a0 : Int) (a1 : (List TEdge)) : Option (List (List Bool)) :=
  bind1 (mk a0 ([] : (List Bool))) fun l1 => m112_quirref_Closure_L5 l1 a0 a1 big l1 0
def m46_quirref_Order_K1 (gl2 : (List Int)) : Option ((List Int) × Bool) :=
  some (gl2, true)
def m46_quirref_Order_K3 (gl3 : (List Bool)) (gl5 : (List Int)) (go1 : (List Bool) → (List Int) → Option ((List Int) × Bool)) (gx6 : Int) : Option ((List Int) × Bool) :=
  if gx6 < 0 then some ([], false) else bind1 (idx gl3 gx6) fun x8 => bind1 (upd gl3 gx6 true) fun l9 => bind1 (app gl5 ([gx6])) fun l12 => go1 l9 l12
def m46_quirref_Order_K4 (gx7 : Int) (go2 : Int → Option ((List Int) × Bool)) : Option ((List Int) × Bool) :=
  bind1 (i64 (gx7 + 1)) fun x14 => go2 x14
def m46_quirref_Order_K6 (gx7 : Int) (go2 : Int → Option ((List Int) × Bool)) : Option ((List Int) × Bool) :=
  m46_quirref_Order_K4 gx7 go2
def m46_quirref_Order_L3B (go3 : Int → Option ((List Int) × Bool)) (a0 : Int) (gx7 : Int) (go2 : Int → Option ((List Int) × Bool)) (gx9 : Int) : Option ((List Int) × Bool) :=
  if gx9 < a0 then bind1 (i64 (gx9 + 1)) fun x16 => go3 x16 else m46_quirref_Order_K6 gx7 go2
def m46_quirref_Order_L3 (a0 : Int) (gx7 : Int) (go2 : Int → Option ((List Int) × Bool)) : Nat → Int → Option ((List Int) × Bool)
  | 0, _ => none
  | n + 1, gx9 => m46_quirref_Order_L3B (m46_quirref_Order_L3 a0 gx7 go2 n) a0 gx7 go2 gx9
def m46_quirref_Order_K7 (gl3 : (List Bool)) (gl5 : (List Int)) (go1 : (List Bool) → (List Int) → Option ((List Int) × Bool)) (gx7 : Int) (go2 : Int → Option ((List Int) × Bool)) (gb10 : Bool) : Option ((List Int) × Bool) :=
  if gb10 = true then m46_quirref_Order_K3 gl3 gl5 go1 gx7 else m46_quirref_Order_K4 gx7 go2
def m46_quirref_Order_K8 (gx12 : Int) (go4 : Bool → Int → Option ((List Int) × Bool)) (gb13 : Bool) : Option ((List Int) × Bool) :=
  if gb13 = true then bind1 (i64 (gx12 + 1)) fun x19 => go4 true x19 else bind1 (i64 (gx12 + 1)) fun x18 => go4 false x18
def m46_quirref_Order_L4B (go4 : Bool → Int → Option ((List Int) × Bool)) (a0 : Int) (gl3 : (List Bool)) (l1 : (List (List Bool))) (gx7 : Int) (gl5 : (List Int)) (go1 : (List Bool) → (List Int) → Option ((List Int) × Bool)) (go2 : Int → Option ((List Int) × Bool)) (gb11 : Bool) (gx12 : Int) : Option ((List Int) × Bool) :=
  if gx12 < a0 then if gb11 = true then bind1 (idx gl3 gx12) fun x21 => if x21 = true then m46_quirref_Order_K8 gx12 go4 true else bind1 (idx l1 gx12) fun x23 => bind1 (idx x23 gx7) fun x24 => if x24 = true then m46_quirref_Order_K8 gx12 go4 false else m46_quirref_Order_K8 gx12 go4 true else m46_quirref_Order_K8 gx12 go4 false else m46_quirref_Order_K7 gl3 gl5 go1 gx7 go2 gb11
def m46_quirref_Order_L4 (a0 : Int) (gl3 : (List Bool)) (l1 : (List (List Bool))) (gx7 : Int) (gl5 : (List Int)) (go1 : (List Bool) → (List Int) → Option ((List Int) × Bool)) (go2 : Int → Option ((List Int) × Bool)) : Nat → Bool → Int → Option ((List Int) × Bool)
  | 0, _, _ => none
  | n + 1, gb11, gx12 => m46_quirref_Order_L4B (m46_quirref_Order_L4 a0 gl3 l1 gx7 gl5 go1 go2 n) a0 gl3 l1 gx7 gl5 go1 go2 gb11 gx12
def m46_quirref_Order_K5 (a0 : Int) (gl3 : (List Bool)) (l1 : (List (List Bool))) (gx7 : Int) (gl5 : (List Int)) (go1 : (List Bool) → (List Int) → Option ((List Int) × Bool)) (go2 : Int → Option ((List Int) × Bool)) (gb8 : Bool) : Option ((List Int) × Bool) :=
  if gb8 = true then m46_quirref_Order_L4 a0 gl3 l1 gx7 gl5 go1 go2 big true 0 else m46_quirref_Order_L3 a0 gx7 go2 big 0
def m46_quirref_Order_L2B (go2 : Int → Option ((List Int) × Bool)) (a0 : Int) (gl3 : (List Bool)) (l1 : (List (List Bool))) (gl5 : (List Int)) (go1 : (List Bool) → (List Int) → Option ((List Int) × Bool)) (gx7 : Int) : Option ((List Int) × Bool) :=
  if gx7 < a0 then bind1 (idx gl3 gx7) fun x26 => if x26 = true then m46_quirref_Order_K5 a0 gl3 l1 gx7 gl5 go1 go2 false else m46_quirref_Order_K5 a0 gl3 l1 gx7 gl5 go1 go2 true else m46_quirref_Order_K3 gl3 gl5 go1 (-1)
def m46_quirref_Order_L2 (a0 : Int) (gl3 : (List Bool)) (l1 : (List (List Bool))) (gl5 : (List Int)) (go1 : (List Bool) → (List Int) → Option ((List Int) × Bool)) : Nat → Int → Option ((List Int) × Bool)
  | 0, _ => none
  | n + 1, gx7 => m46_quirref_Order_L2B (m46_quirref_Order_L2 a0 gl3 l1 gl5 go1 n) a0 gl3 l1 gl5 go1 gx7
def m46_quirref_Order_K2 (a0 : Int) (gl3 : (List Bool)) (l1 : (List (List Bool))) (gl5 : (List Int)) (go1 : (List Bool) → (List Int) → Option ((List Int) × Bool)) : Option ((List Int) × Bool) :=
  m46_quirref_Order_L2 a0 gl3 l1 gl5 go1 big 0
def m46_quirref_Order_L1B (go1 : (List Bool) → (List Int) → Option ((List Int) × Bool)) (a0 : Int) (l1 : (List (List Bool))) (gl3 : (List Bool)) (gl5 : (List Int)) : Option ((List Int) × Bool) :=
  if (gl5.length : Int) < a0 then m46_quirref_Order_K2 a0 gl3 l1 gl5 go1 else m46_quirref_Order_K1 gl5
def m46_quirref_Order_L1 (a0 : Int) (l1 : (List (List Bool))) : Nat → (List Bool) → (List Int) → Option ((List Int) × Bool)
  | 0, _, _ => none
  | n + 1, gl3, gl5 => m46_quirref_Order_L1B (m46_quirref_Order_L1 a0 l1 n) a0 l1 gl3 gl5
def m46_quirref_Order (a0 : Int) (a1 : (List TEdge)) : Option ((List Int) × Bool) :=
  bind1 (m112_quirref_Closure a0 a1) fun l1 => bind1 (mk a0 false) fun l5 => m46_quirref_Order_L1 a0 l1 big l5 []
def m23_quirref_StorySerial_K1 (b7 : Bool) (gl2 : (List Int)) : Option ((List Int) × Bool) :=
  some (gl2, b7)
def m23_quirref_StorySerial_K2 (b7 : Bool) (gl4 : (List Int)) : Option ((List Int) × Bool) :=
  m23_quirref_StorySerial_K1 b7 gl4
def m23_quirref_StorySerial_K3 (gl6 : (List Int)) (x10 : Int) (gx7 : Int) (go1 : (List Int) → Int → Option ((List Int) × Bool)) (gb8 : Bool) : Option ((List Int) × Bool) :=
  if gb8 = true then bind1 (app gl6 ([x10])) fun l14 => bind1 (i64 (gx7 + 1)) fun x15 => go1 l14 x15 else bind1 (i64 (gx7 + 1)) fun x11 => go1 gl6 x11
def m23_quirref_StorySerial_K4 (gl6 : (List Int)) (x10 : Int) (gx7 : Int) (go1 : (List Int) → Int → Option ((List Int) × Bool)) (gb9 : Bool) : Option ((List Int) × Bool) :=
  m23_quirref_StorySerial_K3 gl6 x10 gx7 go1 gb9
def m23_quirref_StorySerial_K5 (gl6 : (List Int)) (x10 : Int) (gx7 : Int) (go1 : (List Int) → Int → Option ((List Int) × Bool)) (gx10 : Int) : Option ((List Int) × Bool) :=
  m23_quirref_StorySerial_K4 gl6 x10 gx7 go1 (decide (0 ≤ gx10))
def m23_quirref_StorySerial_K6 (gl6 : (List Int)) (x10 : Int) (gx7 : Int) (go1 : (List Int) → Int → Option ((List Int) × Bool)) : Option ((List Int) × Bool) :=
  m23_quirref_StorySerial_K5 gl6 x10 gx7 go1 (-1)
def m23_quirref_StorySerial_K7 (x18 : TTale) (x10 : Int) (gl6 : (List Int)) (gx7 : Int) (go1 : (List Int) → Int → Option ((List Int) × Bool)) (gx11 : Int) (go2 : Int → Option ((List Int) × Bool)) : Option ((List Int) × Bool) :=
  if (decide (x18.Tx = x10)) = true then m23_quirref_StorySerial_K5 gl6 x10 gx7 go1 gx11 else bind1 (i64 (gx11 + 1)) fun x19 => go2 x19
def m23_quirref_StorySerial_L2B (go2 : Int → Option ((List Int) × Bool)) (a0 : TStory) (x10 : Int) (gl6 : (List Int)) (gx7 : Int) (go1 : (List Int) → Int → Option ((List Int) × Bool)) (gx11 : Int) : Option ((List Int) × Bool) :=
  if gx11 < (a0.Tales.length : Int) then bind1 (idx a0.Tales gx11) fun x18 => m23_quirref_StorySerial_K7 x18 x10 gl6 gx7 go1 gx11 go2 else m23_quirref_StorySerial_K6 gl6 x10 gx7 go1
def m23_quirref_StorySerial_L2 (a0 : TStory) (x10 : Int) (gl6 : (List Int)) (gx7 : Int) (go1 : (List Int) → Int → Option ((List Int) × Bool)) : Nat → Int → Option ((List Int) × Bool)
  | 0, _ => none
  | n + 1, gx11 => m23_quirref_StorySerial_L2B (m23_quirref_StorySerial_L2 a0 x10 gl6 gx7 go1 n) a0 x10 gl6 gx7 go1 gx11
def m23_quirref_StorySerial_L1B (go1 : (List Int) → Int → Option ((List Int) × Bool)) (l5 : (List Int)) (a0 : TStory) (b7 : Bool) (gl6 : (List Int)) (gx7 : Int) : Option ((List Int) × Bool) :=
  if gx7 < (l5.length : Int) then bind1 (idx l5 gx7) fun x10 => m23_quirref_StorySerial_L2 a0 x10 gl6 gx7 go1 big 0 else m23_quirref_StorySerial_K2 b7 gl6
def m23_quirref_StorySerial_L1 (l5 : (List Int)) (a0 : TStory) (b7 : Bool) : Nat → (List Int) → Int → Option ((List Int) × Bool)
  | 0, _, _ => none
  | n + 1, gl6, gx7 => m23_quirref_StorySerial_L1B (m23_quirref_StorySerial_L1 l5 a0 b7 n) l5 a0 b7 gl6 gx7
def m23_quirref_StorySerial (a0 : TStory) : Option ((List Int) × Bool) :=
  bind1 (m67_quirref_edgesOf a0 3) fun l2 => bind2 (m46_quirref_Order 12 l2) fun l5 b7 => m23_quirref_StorySerial_L1 l5 a0 b7 big [] 0
def m14_slices_Equal_int_K2 : Option Bool :=
  some true
def m14_slices_Equal_int_L1B (go1 : Int → Option Bool) (a0 : (List Int)) (a1 : (List Int)) (gx1 : Int) : Option Bool :=
  if gx1 < (a0.length : Int) then bind1 (idx a0 gx1) fun x2 => bind1 (idx a1 gx1) fun x3 => if x2 ≠ x3 then some false else bind1 (i64 (gx1 + 1)) fun x5 => go1 x5 else m14_slices_Equal_int_K2
def m14_slices_Equal_int_L1 (a0 : (List Int)) (a1 : (List Int)) : Nat → Int → Option Bool
  | 0, _ => none
  | n + 1, gx1 => m14_slices_Equal_int_L1B (m14_slices_Equal_int_L1 a0 a1 n) a0 a1 gx1
def m14_slices_Equal_int_K1 (a0 : (List Int)) (a1 : (List Int)) : Option Bool :=
  m14_slices_Equal_int_L1 a0 a1 big 0
def m14_slices_Equal_int (a0 : (List Int)) (a1 : (List Int)) : Option Bool :=
  if (a0.length : Int) ≠ (a1.length : Int) then some false else m14_slices_Equal_int_K1 a0 a1
def m24_api_Dep_K2 : Option Bool :=
  some true
def m24_api_Dep_L1B (go1 : Int → Option Bool) (a0 : (List TDep)) (a1 : (List TDep)) (gx1 : Int) : Option Bool :=
  if gx1 < (a0.length : Int) then bind1 (idx a0 gx1) fun x2 => bind1 (idx a1 gx1) fun x3 => if x2 ≠ x3 then some false else bind1 (i64 (gx1 + 1)) fun x5 => go1 x5 else m24_api_Dep_K2
def m24_api_Dep_L1 (a0 : (List TDep)) (a1 : (List TDep)) : Nat → Int → Option Bool
  | 0, _ => none
  | n + 1, gx1 => m24_api_Dep_L1B (m24_api_Dep_L1 a0 a1 n) a0 a1 gx1
def m24_api_Dep_K1 (a0 : (List TDep)) (a1 : (List TDep)) : Option Bool :=
  m24_api_Dep_L1 a0 a1 big 0
def m24_api_Dep (a0 : (List TDep)) (a1 : (List TDep)) : Option Bool :=
  if (a0.length : Int) ≠ (a1.length : Int) then some false else m24_api_Dep_K1 a0 a1
def m26_quirref_Faults_K1 (gl1 : (List Bool)) : Option TFault :=
  bind1 (idxA 3 gl1 0) fun x4 => bind1 (idxA 3 gl1 1) fun x5 => bind1 (idxA 3 gl1 2) fun x6 => some (⟨x4, x5, x6⟩ : TFault)
def m26_quirref_Faults_L1B (go1 : Int → (List Bool) → Option TFault) (a0 : TStory) (gx2 : Int) (gl3 : (List Bool)) : Option TFault :=
  if gx2 < 3 then bind1 (i64 (gx2 + 1)) fun x8 => bind1 (m67_quirref_edgesOf a0 x8) fun l9 => bind2 (m46_quirref_Order 12 l9) fun l12 b14 => bind1 (idxA 3 gl3 gx2) fun x16 => bind1 (upd gl3 gx2 (!b14)) fun l17 => bind1 (i64 (gx2 + 1)) fun x18 => go1 x18 l17 else m26_quirref_Faults_K1 gl3
def m26_quirref_Faults_L1 (a0 : TStory) : Nat → Int → (List Bool) → Option TFault
  | 0, _, _ => none
  | n + 1, gx2, gl3 => m26_quirref_Faults_L1B (m26_quirref_Faults_L1 a0 n) a0 gx2 gl3
def m26_quirref_Faults (a0 : TStory) : Option TFault :=
  m26_quirref_Faults_L1 a0 big 0 (List.replicate 3 (false : Bool))
def m4_quirlaw_OrderSays_K4 (a0 : TStory) (l4 : (List TDep)) (x6 : Int) (x8 : TFault) (x9 : Int) (gb4 : Bool) : Option Bool :=
  bind1 (m25_quirref_Deps a0) fun l21 => bind1 (m24_api_Dep l4 l21) fun b24 => if b24 = true then if x6 = 0 then bind1 (m26_quirref_Faults a0) fun x27 => if x8 = x27 then if x9 = 0 then some gb4 else some false else some false else some false else some false
def m4_quirlaw_OrderSays_K5 (a0 : TStory) (l4 : (List TDep)) (x6 : Int) (x8 : TFault) (x9 : Int) (gb5 : Bool) : Option Bool :=
  bind1 (m25_quirref_Deps a0) fun l37 => bind1 (m24_api_Dep l4 l37) fun b40 => if b40 = true then if x6 = 0 then bind1 (m26_quirref_Faults a0) fun x43 => if x8 = x43 then if x9 = 0 then some gb5 else some false else some false else some false else some false
def m4_quirlaw_OrderSays_K6 (a0 : TStory) (l4 : (List TDep)) (x6 : Int) (x8 : TFault) (x9 : Int) (gb6 : Bool) : Option Bool :=
  if gb6 = true then m4_quirlaw_OrderSays_K5 a0 l4 x6 x8 x9 true else m4_quirlaw_OrderSays_K5 a0 l4 x6 x8 x9 false
def m4_quirlaw_OrderSays_K3 (l12 : (List Int)) (x14 : Int) (a0 : TStory) (l4 : (List TDep)) (x6 : Int) (x8 : TFault) (x9 : Int) (gl2 : (List Int)) (gb3 : Bool) : Option Bool :=
  if gb3 = true then bind1 (m14_slices_Equal_int l12 gl2) fun b47 => if b47 = true then if x14 = 0 then m4_quirlaw_OrderSays_K6 a0 l4 x6 x8 x9 true else m4_quirlaw_OrderSays_K6 a0 l4 x6 x8 x9 false else m4_quirlaw_OrderSays_K6 a0 l4 x6 x8 x9 false else if (l12.length : Int) = 0 then m4_quirlaw_OrderSays_K4 a0 l4 x6 x8 x9 (decide (x14 = 11)) else m4_quirlaw_OrderSays_K4 a0 l4 x6 x8 x9 false
def m4_quirlaw_OrderSays_K2 (a0 : TStory) (l12 : (List Int)) (x14 : Int) (l4 : (List TDep)) (x6 : Int) (x8 : TFault) (x9 : Int) : Option Bool :=
  bind2 (m23_quirref_StorySerial a0) fun l50 b52 => if b52 = true then m4_quirlaw_OrderSays_K3 l12 x14 a0 l4 x6 x8 x9 l50 true else m4_quirlaw_OrderSays_K3 l12 x14 a0 l4 x6 x8 x9 l50 false
def m4_quirlaw_OrderSays_K8 (l12 : (List Int)) (x14 : Int) (x2 : Int) (gb8 : Bool) : Option Bool :=
  if gb8 = true then if (l12.length : Int) = 0 then some (decide (x14 = x2)) else some false else some false
def m4_quirlaw_OrderSays_K7 (x8 : TFault) (x9 : Int) (x2 : Int) (l12 : (List Int)) (x14 : Int) (gb7 : Bool) : Option Bool :=
  if gb7 = true then if x8 = (⟨false, false, false⟩ : TFault) then if x9 = x2 then m4_quirlaw_OrderSays_K8 l12 x14 x2 true else m4_quirlaw_OrderSays_K8 l12 x14 x2 false else m4_quirlaw_OrderSays_K8 l12 x14 x2 false else some false
def m4_quirlaw_OrderSays_K1 (x2 : Int) (l4 : (List TDep)) (x6 : Int) (x8 : TFault) (x9 : Int) (l12 : (List Int)) (x14 : Int) (a0 : TStory) : Option Bool :=
  if x2 ≠ 0 then if (l4.length : Int) = 0 then if x6 = x2 then m4_quirlaw_OrderSays_K7 x8 x9 x2 l12 x14 true else m4_quirlaw_OrderSays_K7 x8 x9 x2 l12 x14 false else m4_quirlaw_OrderSays_K7 x8 x9 x2 l12 x14 false else m4_quirlaw_OrderSays_K2 a0 l12 x14 l4 x6 x8 x9
def m4_quirlaw_OrderSays (a0 : TStory) : Option Bool :=
  bind1 (m18_quirref_StoryErr a0) fun x2 => bind2 (m19_order_Deps a0) fun l4 x6 => bind2 (m20_order_Faults a0) fun x8 x9 => bind2 (m21_order_Serial a0) fun l12 x14 => bind1 (m22_order_Check a0) fun x61 => if x61 ≠ x2 then some false else m4_quirlaw_OrderSays_K1 x2 l4 x6 x8 x9 l12 x14 a0
end Go.Proofs.Ytkhlapdkomnldaa
