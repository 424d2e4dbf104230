/-
  Models, printed by a program of mine.
  Conditions: none.
-/
import Derived.Test.YtjhcdmcikodgkaaTl
import Derived.Test.YtjhcdmcikodgkaaSl
namespace Go.Proofs.Ytjhcdmcikodgkaa
open Go.S
set_option linter.unusedVariables false
structure TEdge where
  From : Int
  To : Int
  deriving DecidableEq, Inhabited
def TEdge.row (x : TEdge) : List Value := [.int .i64 x.From, .int .i64 x.To]
def m5_quirref_GraphErr_K3 : Option Int :=
  some 0
def m5_quirref_GraphErr_L1B (go1 : Int → Option Int) (a1 : (List TEdge)) (a0 : Int) (gx1 : Int) : Option Int :=
  if gx1 < (a1.length : Int) then bind1 (idx a1 gx1) fun x2 => if (min x2.From x2.To) < 0 then some 4 else if a0 ≤ (max x2.From x2.To) then some 4 else bind1 (i64 (gx1 + 1)) fun x6 => go1 x6 else m5_quirref_GraphErr_K3
def m5_quirref_GraphErr_L1 (a1 : (List TEdge)) (a0 : Int) : Nat → Int → Option Int
  | 0, _ => none
  | n + 1, gx1 => m5_quirref_GraphErr_L1B (m5_quirref_GraphErr_L1 a1 a0 n) a1 a0 gx1
def m5_quirref_GraphErr_K2 (a1 : (List TEdge)) (a0 : Int) : Option Int :=
  m5_quirref_GraphErr_L1 a1 a0 big 0
def m5_quirref_GraphErr_K1 (a1 : (List TEdge)) (a0 : Int) : Option Int :=
  if 2000 < (a1.length : Int) then some 2 else m5_quirref_GraphErr_K2 a1 a0
def m5_quirref_GraphErr (a0 : Int) (a1 : (List TEdge)) : Option Int :=
  if a0 < 0 then some 1 else if 60 < a0 then some 1 else m5_quirref_GraphErr_K1 a1 a0
def m9_graph_Check_K3 : Option Int :=
  some 0
def m9_graph_Check_K4 (x2 : TEdge) (a0 : Int) (gx1 : Int) (go1 : Int → Option Int) (gb2 : Bool) : Option Int :=
  if gb2 = true then some 4 else if x2.To < 0 then some 4 else if a0 ≤ x2.To then some 4 else bind1 (i64 (gx1 + 1)) fun x6 => go1 x6
def m9_graph_Check_L1B (go1 : Int → Option Int) (a1 : (List TEdge)) (a0 : Int) (gx1 : Int) : Option Int :=
  if gx1 < (a1.length : Int) then bind1 (idx a1 gx1) fun x2 => if x2.From < 0 then m9_graph_Check_K4 x2 a0 gx1 go1 true else if a0 ≤ x2.From then m9_graph_Check_K4 x2 a0 gx1 go1 true else m9_graph_Check_K4 x2 a0 gx1 go1 false else m9_graph_Check_K3
def m9_graph_Check_L1 (a1 : (List TEdge)) (a0 : Int) : Nat → Int → Option Int
  | 0, _ => none
  | n + 1, gx1 => m9_graph_Check_L1B (m9_graph_Check_L1 a1 a0 n) a1 a0 gx1
def m9_graph_Check_K2 (a1 : (List TEdge)) (a0 : Int) : Option Int :=
  m9_graph_Check_L1 a1 a0 big 0
def m9_graph_Check_K1 (a1 : (List TEdge)) (a0 : Int) : Option Int :=
  if 2000 < (a1.length : Int) then some 2 else m9_graph_Check_K2 a1 a0
def m9_graph_Check (a0 : Int) (a1 : (List TEdge)) : Option Int :=
  if a0 < 0 then some 1 else if 60 < a0 then some 1 else m9_graph_Check_K1 a1 a0
def m20_graph_next_K2 (gl3 : (List (List Int))) : Option (List (List Int)) :=
  some gl3
def m20_graph_next_L1B (go1 : (List (List Int)) → Int → Option (List (List Int))) (gl1 : (List (List Int))) (gl5 : (List (List Int))) (gx7 : Int) : Option (List (List Int)) :=
  if gx7 < (gl1.length : Int) then bind1 (idx gl5 gx7) fun x4 => bind1 (xSort x4) fun l5 => bind1 (upd gl5 gx7 l5) fun l6 => bind1 (idx l6 gx7) fun x7 => bind1 (xCompact x7) fun l8 => bind1 (idx l6 gx7) fun x10 => bind1 (upd l6 gx7 l8) fun l11 => bind1 (i64 (gx7 + 1)) fun x13 => go1 l11 x13 else m20_graph_next_K2 gl5
def m20_graph_next_L1 (gl1 : (List (List Int))) : Nat → (List (List Int)) → Int → Option (List (List Int))
  | 0, _, _ => none
  | n + 1, gl5, gx7 => m20_graph_next_L1B (m20_graph_next_L1 gl1 n) gl1 gl5 gx7
def m20_graph_next_K1 (gl1 : (List (List Int))) : Option (List (List Int)) :=
  m20_graph_next_L1 gl1 big gl1 0
def m20_graph_next_L2B (go2 : (List (List Int)) → Int → Option (List (List Int))) (a1 : (List TEdge)) (gl8 : (List (List Int))) (gx10 : Int) : Option (List (List Int)) :=
  if gx10 < (a1.length : Int) then bind1 (idx a1 gx10) fun x15 => bind1 (idx gl8 x15.From) fun x35 => bind1 (app x35 ([x15.To])) fun l38 => bind1 (idx gl8 x15.From) fun x39 => bind1 (upd gl8 x15.From l38) fun l40 => bind1 (i64 (gx10 + 1)) fun x42 => go2 l40 x42 else m20_graph_next_K1 gl8
def m20_graph_next_L2 (a1 : (List TEdge)) : Nat → (List (List Int)) → Int → Option (List (List Int))
  | 0, _, _ => none
  | n + 1, gl8, gx10 => m20_graph_next_L2B (m20_graph_next_L2 a1 n) a1 gl8 gx10
def m20_graph_next (a0 : Int) (a1 : (List TEdge)) : Option (List (List Int)) :=
  bind1 (mk a0 ([] : (List Int))) fun l1 => m20_graph_next_L2 a1 big l1 0
def m21_slices_Index_int_K1 : Option Int :=
  some (-1)
def m21_slices_Index_int_L1B (go1 : Int → Option Int) (a0 : (List Int)) (a1 : Int) (gx1 : Int) : Option Int :=
  if gx1 < (a0.length : Int) then bind1 (idx a0 gx1) fun x2 => if a1 = x2 then some gx1 else bind1 (i64 (gx1 + 1)) fun x4 => go1 x4 else m21_slices_Index_int_K1
def m21_slices_Index_int_L1 (a0 : (List Int)) (a1 : Int) : Nat → Int → Option Int
  | 0, _ => none
  | n + 1, gx1 => m21_slices_Index_int_L1B (m21_slices_Index_int_L1 a0 a1 n) a0 a1 gx1
def m21_slices_Index_int (a0 : (List Int)) (a1 : Int) : Option Int :=
  m21_slices_Index_int_L1 a0 a1 big 0
def m6_graph_Order_K3 (gl3 : (List Int)) : Option ((List Int) × Int) :=
  some (gl3, 0)
def m6_graph_Order_K6 (gl6 : (List Int)) (x7 : Int) (go1 : (List Int) → (List Int) → Option ((List Int) × Int)) (gl7 : (List Int)) : Option ((List Int) × Int) :=
  bind1 (app gl6 ([x7])) fun l13 => go1 gl7 l13
def m6_graph_Order_L2B (go2 : (List Int) → Int → Option ((List Int) × Int)) (x14 : (List Int)) (gl6 : (List Int)) (x7 : Int) (go1 : (List Int) → (List Int) → Option ((List Int) × Int)) (gl8 : (List Int)) (gx9 : Int) : Option ((List Int) × Int) :=
  if gx9 < (x14.length : Int) then bind1 (idx x14 gx9) fun x16 => bind1 (idx gl8 x16) fun x17 => bind1 (i64 (x17 - 1)) fun x18 => bind1 (idx gl8 x16) fun x19 => bind1 (upd gl8 x16 x18) fun l20 => bind1 (i64 (gx9 + 1)) fun x21 => go2 l20 x21 else m6_graph_Order_K6 gl6 x7 go1 gl8
def m6_graph_Order_L2 (x14 : (List Int)) (gl6 : (List Int)) (x7 : Int) (go1 : (List Int) → (List Int) → Option ((List Int) × Int)) : Nat → (List Int) → Int → Option ((List Int) × Int)
  | 0, _, _ => none
  | n + 1, gl8, gx9 => m6_graph_Order_L2B (m6_graph_Order_L2 x14 gl6 x7 go1 n) x14 gl6 x7 go1 gl8 gx9
def m6_graph_Order_K5 (gl4 : (List Int)) (x7 : Int) (l1 : (List (List Int))) (gl6 : (List Int)) (go1 : (List Int) → (List Int) → Option ((List Int) × Int)) : Option ((List Int) × Int) :=
  bind1 (idx gl4 x7) fun x9 => bind1 (upd gl4 x7 (-1)) fun l10 => bind1 (idx l1 x7) fun x14 => m6_graph_Order_L2 x14 gl6 x7 go1 big l10 0
def m6_graph_Order_K4 (gl4 : (List Int)) (l1 : (List (List Int))) (gl6 : (List Int)) (go1 : (List Int) → (List Int) → Option ((List Int) × Int)) : Option ((List Int) × Int) :=
  bind1 (m21_slices_Index_int gl4 0) fun x7 => if x7 < 0 then some ([], 11) else m6_graph_Order_K5 gl4 x7 l1 gl6 go1
def m6_graph_Order_L1B (go1 : (List Int) → (List Int) → Option ((List Int) × Int)) (a0 : Int) (l1 : (List (List Int))) (gl4 : (List Int)) (gl6 : (List Int)) : Option ((List Int) × Int) :=
  if (gl6.length : Int) < a0 then m6_graph_Order_K4 gl4 l1 gl6 go1 else m6_graph_Order_K3 gl6
def m6_graph_Order_L1 (a0 : Int) (l1 : (List (List Int))) : Nat → (List Int) → (List Int) → Option ((List Int) × Int)
  | 0, _, _ => none
  | n + 1, gl4, gl6 => m6_graph_Order_L1B (m6_graph_Order_L1 a0 l1 n) a0 l1 gl4 gl6
def m6_graph_Order_K2 (a0 : Int) (l1 : (List (List Int))) (gl1 : (List Int)) : Option ((List Int) × Int) :=
  m6_graph_Order_L1 a0 l1 big gl1 []
def m6_graph_Order_K7 (gx11 : Int) (go3 : (List Int) → Int → Option ((List Int) × Int)) (gl12 : (List Int)) : Option ((List Int) × Int) :=
  bind1 (i64 (gx11 + 1)) fun x25 => go3 gl12 x25
def m6_graph_Order_L4B (go4 : (List Int) → Int → Option ((List Int) × Int)) (x26 : (List Int)) (gx11 : Int) (go3 : (List Int) → Int → Option ((List Int) × Int)) (gl13 : (List Int)) (gx14 : Int) : Option ((List Int) × Int) :=
  if gx14 < (x26.length : Int) then bind1 (idx x26 gx14) fun x28 => bind1 (idx gl13 x28) fun x29 => bind1 (i64 (x29 + 1)) fun x30 => bind1 (idx gl13 x28) fun x31 => bind1 (upd gl13 x28 x30) fun l32 => bind1 (i64 (gx14 + 1)) fun x33 => go4 l32 x33 else m6_graph_Order_K7 gx11 go3 gl13
def m6_graph_Order_L4 (x26 : (List Int)) (gx11 : Int) (go3 : (List Int) → Int → Option ((List Int) × Int)) : Nat → (List Int) → Int → Option ((List Int) × Int)
  | 0, _, _ => none
  | n + 1, gl13, gx14 => m6_graph_Order_L4B (m6_graph_Order_L4 x26 gx11 go3 n) x26 gx11 go3 gl13 gx14
def m6_graph_Order_L3B (go3 : (List Int) → Int → Option ((List Int) × Int)) (l1 : (List (List Int))) (a0 : Int) (gl10 : (List Int)) (gx11 : Int) : Option ((List Int) × Int) :=
  if gx11 < (l1.length : Int) then bind1 (idx l1 gx11) fun x26 => m6_graph_Order_L4 x26 gx11 go3 big gl10 0 else m6_graph_Order_K2 a0 l1 gl10
def m6_graph_Order_L3 (l1 : (List (List Int))) (a0 : Int) : Nat → (List Int) → Int → Option ((List Int) × Int)
  | 0, _, _ => none
  | n + 1, gl10, gx11 => m6_graph_Order_L3B (m6_graph_Order_L3 l1 a0 n) l1 a0 gl10 gx11
def m6_graph_Order_K1 (a0 : Int) (a1 : (List TEdge)) : Option ((List Int) × Int) :=
  bind1 (m20_graph_next a0 a1) fun l1 => bind1 (mk a0 0) fun l5 => m6_graph_Order_L3 l1 a0 big l5 0
def m6_graph_Order (a0 : Int) (a1 : (List TEdge)) : Option ((List Int) × Int) :=
  bind1 (m9_graph_Check a0 a1) fun x34 => if x34 ≠ 0 then some ([], x34) else m6_graph_Order_K1 a0 a1
def m35_slices_Contains_int (a0 : (List Int)) (a1 : Int) : Option Bool :=
  bind1 (m21_slices_Index_int a0 a1) fun x1 => some (decide (0 ≤ x1))
def m25_slices_Clone_int (a0 : (List Int)) : Option (List Int) :=
  bind1 (app [] a0) fun l3 => some l3
def m22_graph_walker_visit_K1 (a1 : Int) (gl2 : (List Int)) (gl4 : (List Int)) (gl6 : (List Int)) (gl8 : (List (List Int))) (gx10 : Int) : Option ((List Int) × (List Int) × (List Int) × (List (List Int)) × Int) :=
  bind1 (idx gl4 a1) fun x15 => bind1 (idx gl2 a1) fun x16 => if x15 = x16 then bind1 (m21_slices_Index_int gl6 a1) fun x18 => bind1 (cut gl6 x18 gl6.length) fun l20 => bind1 (m25_slices_Clone_int l20) fun l21 => bind1 (xSort l21) fun l24 => bind1 (app gl8 ([l24])) fun l27 => bind1 (cut gl6 0 x18) fun l30 => some (gl2, gl4, l30, l27, gx10) else some (gl2, gl4, gl6, gl8, gx10)
def m22_graph_walker_visit_K2 (rec : (List (List Int)) → (List Int) → (List Int) → (List Int) → (List (List Int)) → Int → Int → Option ((List Int) × (List Int) × (List Int) × (List (List Int)) × Int)) (a0_to : (List (List Int))) (gl13 : (List Int)) (gl15 : (List Int)) (gl17 : (List Int)) (gl19 : (List (List Int))) (gx21 : Int) (x34 : Int) (a1 : Int) (gx11 : Int) (go1 : Int → (List Int) → (List Int) → (List Int) → (List (List Int)) → Int → Option ((List Int) × (List Int) × (List Int) × (List (List Int)) × Int)) (gb22 : Bool) : Option ((List Int) × (List Int) × (List Int) × (List (List Int)) × Int) :=
  if gb22 = true then bind5 (rec a0_to gl13 gl15 gl17 gl19 gx21 x34) fun l47 l48 l49 l50 x51 => bind1 (idx l48 a1) fun x62 => bind1 (idx l48 x34) fun x63 => bind1 (idx l48 a1) fun x64 => bind1 (upd l48 a1 (min x62 x63)) fun l65 => bind1 (i64 (gx11 + 1)) fun x66 => go1 x66 l47 l65 l49 l50 x51 else bind1 (m35_slices_Contains_int gl17 x34) fun b35 => if b35 = true then bind1 (idx gl15 a1) fun x42 => bind1 (idx gl13 x34) fun x43 => bind1 (idx gl15 a1) fun x44 => bind1 (upd gl15 a1 (min x42 x43)) fun l45 => bind1 (i64 (gx11 + 1)) fun x46 => go1 x46 gl13 l45 gl17 gl19 gx21 else bind1 (i64 (gx11 + 1)) fun x37 => go1 x37 gl13 gl15 gl17 gl19 gx21
def m22_graph_walker_visit_L1B (go1 : Int → (List Int) → (List Int) → (List Int) → (List (List Int)) → Int → Option ((List Int) × (List Int) × (List Int) × (List (List Int)) × Int)) (x32 : (List Int)) (rec : (List (List Int)) → (List Int) → (List Int) → (List Int) → (List (List Int)) → Int → Int → Option ((List Int) × (List Int) × (List Int) × (List (List Int)) × Int)) (a0_to : (List (List Int))) (a1 : Int) (gx11 : Int) (gl13 : (List Int)) (gl15 : (List Int)) (gl17 : (List Int)) (gl19 : (List (List Int))) (gx21 : Int) : Option ((List Int) × (List Int) × (List Int) × (List (List Int)) × Int) :=
  if gx11 < (x32.length : Int) then bind1 (idx x32 gx11) fun x34 => bind1 (idx gl13 x34) fun x67 => if x67 = 0 then m22_graph_walker_visit_K2 rec a0_to gl13 gl15 gl17 gl19 gx21 x34 a1 gx11 go1 true else m22_graph_walker_visit_K2 rec a0_to gl13 gl15 gl17 gl19 gx21 x34 a1 gx11 go1 false else m22_graph_walker_visit_K1 a1 gl13 gl15 gl17 gl19 gx21
def m22_graph_walker_visit_L1 (x32 : (List Int)) (rec : (List (List Int)) → (List Int) → (List Int) → (List Int) → (List (List Int)) → Int → Int → Option ((List Int) × (List Int) × (List Int) × (List (List Int)) × Int)) (a0_to : (List (List Int))) (a1 : Int) : Nat → Int → (List Int) → (List Int) → (List Int) → (List (List Int)) → Int → Option ((List Int) × (List Int) × (List Int) × (List (List Int)) × Int)
  | 0, _, _, _, _, _, _ => none
  | n + 1, gx11, gl13, gl15, gl17, gl19, gx21 => m22_graph_walker_visit_L1B (m22_graph_walker_visit_L1 x32 rec a0_to a1 n) x32 rec a0_to a1 gx11 gl13 gl15 gl17 gl19 gx21
def m22_graph_walker_visitB (rec : (List (List Int)) → (List Int) → (List Int) → (List Int) → (List (List Int)) → Int → Int → Option ((List Int) × (List Int) × (List Int) × (List (List Int)) × Int)) (a0_to : (List (List Int))) (a0_when : (List Int)) (a0_low : (List Int)) (a0_stack : (List Int)) (a0_parts : (List (List Int))) (a0_time : Int) (a1 : Int) : Option ((List Int) × (List Int) × (List Int) × (List (List Int)) × Int) :=
  bind1 (i64 (a0_time + 1)) fun x1 => bind1 (idx a0_when a1) fun x8 => bind1 (upd a0_when a1 x1) fun l9 => bind1 (idx a0_low a1) fun x10 => bind1 (upd a0_low a1 x1) fun l11 => bind1 (app a0_stack ([a1])) fun l14 => bind1 (idx a0_to a1) fun x32 => m22_graph_walker_visit_L1 x32 rec a0_to a1 big 0 l9 l11 l14 a0_parts x1
def m22_graph_walker_visitR : Nat → (List (List Int)) → (List Int) → (List Int) → (List Int) → (List (List Int)) → Int → Int → Option ((List Int) × (List Int) × (List Int) × (List (List Int)) × Int)
  | 0, _, _, _, _, _, _, _ => none
  | n + 1, a0_to, a0_when, a0_low, a0_stack, a0_parts, a0_time, a1 => m22_graph_walker_visitB (m22_graph_walker_visitR n) a0_to a0_when a0_low a0_stack a0_parts a0_time a1
def m22_graph_walker_visit (a0_to : (List (List Int))) (a0_when : (List Int)) (a0_low : (List Int)) (a0_stack : (List Int)) (a0_parts : (List (List Int))) (a0_time : Int) (a1 : Int) : Option ((List Int) × (List Int) × (List Int) × (List (List Int)) × Int) := m22_graph_walker_visitR big a0_to a0_when a0_low a0_stack a0_parts a0_time a1
def m24_graph_Parts_1 (a0 : (List Int)) (a1 : (List Int)) : Option Int :=
  bind1 (idx a0 0) fun x1 => bind1 (idx a1 0) fun x2 => bind1 (i64 (x1 - x2)) fun x3 => some x3
def m7_graph_Parts_K3 (gl10 : (List Int)) (gl12 : (List Int)) (gl14 : (List Int)) (gl16 : (List (List Int))) (gx18 : Int) : Option ((List (List Int)) × Int) :=
  bind1 (xSortH gl16) fun l1 => some (l1, 0)
def m7_graph_Parts_L1B (go1 : Int → (List Int) → (List Int) → (List Int) → (List (List Int)) → Int → Option ((List (List Int)) × Int)) (a0 : Int) (gl3 : (List (List Int))) (gx19 : Int) (gl21 : (List Int)) (gl23 : (List Int)) (gl25 : (List Int)) (gl27 : (List (List Int))) (gx29 : Int) : Option ((List (List Int)) × Int) :=
  if gx19 < a0 then bind1 (idx gl21 gx19) fun x4 => if x4 = 0 then bind5 (m22_graph_walker_visit gl3 gl21 gl23 gl25 gl27 gx29 gx19) fun l6 l7 l8 l9 x10 => bind1 (i64 (gx19 + 1)) fun x17 => go1 x17 l6 l7 l8 l9 x10 else bind1 (i64 (gx19 + 1)) fun x18 => go1 x18 gl21 gl23 gl25 gl27 gx29 else m7_graph_Parts_K3 gl21 gl23 gl25 gl27 gx29
def m7_graph_Parts_L1 (a0 : Int) (gl3 : (List (List Int))) : Nat → Int → (List Int) → (List Int) → (List Int) → (List (List Int)) → Int → Option ((List (List Int)) × Int)
  | 0, _, _, _, _, _, _ => none
  | n + 1, gx19, gl21, gl23, gl25, gl27, gx29 => m7_graph_Parts_L1B (m7_graph_Parts_L1 a0 gl3 n) a0 gl3 gx19 gl21 gl23 gl25 gl27 gx29
def m7_graph_Parts_K2 (a0 : Int) (gl3 : (List (List Int))) (gl6 : (List Int)) (gl8 : (List Int)) : Option ((List (List Int)) × Int) :=
  m7_graph_Parts_L1 a0 gl3 big 0 gl6 gl8 [] [] 0
def m7_graph_Parts_K1 (a0 : Int) (a1 : (List TEdge)) : Option ((List (List Int)) × Int) :=
  bind1 (m20_graph_next a0 a1) fun y19 => bind1 (mk a0 0) fun y21 => bind1 (mk a0 0) fun y23 => m7_graph_Parts_K2 a0 y19 y21 y23
def m7_graph_Parts (a0 : Int) (a1 : (List TEdge)) : Option ((List (List Int)) × Int) :=
  bind1 (m9_graph_Check a0 a1) fun x51 => if x51 ≠ 0 then some ([], x51) else m7_graph_Parts_K1 a0 a1
def m8_graph_Reach_K4 (gl3 : (List Int)) : Option ((List Int) × Int) :=
  some (gl3, 0)
def m8_graph_Reach_L1B (go1 : (List Int) → Int → Option ((List Int) × Int)) (gl1 : (List Int)) (gl5 : (List Int)) (gx6 : Int) : Option ((List Int) × Int) :=
  if gx6 < (gl1.length : Int) then bind1 (idx gl1 gx6) fun x12 => if x12 = 1 then bind1 (app gl5 ([gx6])) fun l16 => bind1 (i64 (gx6 + 1)) fun x17 => go1 l16 x17 else bind1 (i64 (gx6 + 1)) fun x18 => go1 gl5 x18 else m8_graph_Reach_K4 gl5
def m8_graph_Reach_L1 (gl1 : (List Int)) : Nat → (List Int) → Int → Option ((List Int) × Int)
  | 0, _, _ => none
  | n + 1, gl5, gx6 => m8_graph_Reach_L1B (m8_graph_Reach_L1 gl1 n) gl1 gl5 gx6
def m8_graph_Reach_K3 (gl1 : (List Int)) : Option ((List Int) × Int) :=
  m8_graph_Reach_L1 gl1 big [] 0
def m8_graph_Reach_K5 (gl9 : (List Int)) (gl7 : (List Int)) (l1 : (List (List Int))) (go2 : (List Int) → (List Int) → Option ((List Int) × Int)) : Option ((List Int) × Int) :=
  bind1 (idx gl9 0) fun x19 => bind1 (cut gl9 1 gl9.length) fun l20 => bind1 (idx gl7 x19) fun x21 => if x21 = 0 then bind1 (idx gl7 x19) fun x23 => bind1 (upd gl7 x19 1) fun l24 => bind1 (idx l1 x19) fun x25 => bind1 (app l20 x25) fun l27 => go2 l24 l27 else go2 gl7 l20
def m8_graph_Reach_L2B (go2 : (List Int) → (List Int) → Option ((List Int) × Int)) (l1 : (List (List Int))) (gl7 : (List Int)) (gl9 : (List Int)) : Option ((List Int) × Int) :=
  if 0 < (gl9.length : Int) then m8_graph_Reach_K5 gl9 gl7 l1 go2 else m8_graph_Reach_K3 gl7
def m8_graph_Reach_L2 (l1 : (List (List Int))) : Nat → (List Int) → (List Int) → Option ((List Int) × Int)
  | 0, _, _ => none
  | n + 1, gl7, gl9 => m8_graph_Reach_L2B (m8_graph_Reach_L2 l1 n) l1 gl7 gl9
def m8_graph_Reach_K2 (a0 : Int) (a1 : (List TEdge)) (a2 : Int) : Option ((List Int) × Int) :=
  bind1 (m20_graph_next a0 a1) fun l1 => bind1 (mk a0 0) fun l5 => bind1 (idx l1 a2) fun x7 => bind1 (m25_slices_Clone_int x7) fun l8 => m8_graph_Reach_L2 l1 big l5 l8
def m8_graph_Reach_K1 (a2 : Int) (a0 : Int) (a1 : (List TEdge)) : Option ((List Int) × Int) :=
  if a2 < 0 then some ([], 1) else if a0 ≤ a2 then some ([], 1) else m8_graph_Reach_K2 a0 a1 a2
def m8_graph_Reach (a0 : Int) (a1 : (List TEdge)) (a2 : Int) : Option ((List Int) × Int) :=
  bind1 (m9_graph_Check a0 a1) fun x31 => if x31 ≠ 0 then some ([], x31) else m8_graph_Reach_K1 a2 a0 a1
def m14_quirref_Closure_K3 (gl4 : (List (List Bool))) : Option (List (List Bool)) :=
  some gl4
def m14_quirref_Closure_K4 (gx6 : Int) (go1 : (List (List Bool)) → Int → Option (List (List Bool))) (gl7 : (List (List Bool))) : Option (List (List Bool)) :=
  bind1 (i64 (gx6 + 1)) fun x4 => go1 gl7 x4
def m14_quirref_Closure_K5 (gx9 : Int) (go2 : (List (List Bool)) → Int → Option (List (List Bool))) (gl10 : (List (List Bool))) : Option (List (List Bool)) :=
  bind1 (i64 (gx9 + 1)) fun x6 => go2 gl10 x6
def m14_quirref_Closure_L3B (go3 : (List (List Bool)) → Int → Option (List (List Bool))) (a0 : Int) (gx9 : Int) (gx6 : Int) (go2 : (List (List Bool)) → Int → Option (List (List Bool))) (gl11 : (List (List Bool))) (gx12 : Int) : Option (List (List Bool)) :=
  if gx12 < a0 then bind1 (idx gl11 gx9) fun x22 => bind1 (idx gl11 gx9) fun x23 => bind1 (idx x23 gx12) fun x24 => if x24 = true then bind1 (idx x22 gx12) fun x26 => bind1 (upd x22 gx12 true) fun l27 => bind1 (upd gl11 gx9 l27) fun l28 => bind1 (i64 (gx12 + 1)) fun x29 => go3 l28 x29 else bind1 (idx gl11 gx9) fun x30 => bind1 (idx x30 gx6) fun x31 => if x31 = true then bind1 (idx gl11 gx6) fun x33 => bind1 (idx x33 gx12) fun x34 => bind1 (idx x22 gx12) fun x35 => bind1 (upd x22 gx12 x34) fun l36 => bind1 (upd gl11 gx9 l36) fun l37 => bind1 (i64 (gx12 + 1)) fun x38 => go3 l37 x38 else bind1 (idx x22 gx12) fun x39 => bind1 (upd x22 gx12 false) fun l40 => bind1 (upd gl11 gx9 l40) fun l41 => bind1 (i64 (gx12 + 1)) fun x42 => go3 l41 x42 else m14_quirref_Closure_K5 gx9 go2 gl11
def m14_quirref_Closure_L3 (a0 : Int) (gx9 : Int) (gx6 : Int) (go2 : (List (List Bool)) → Int → Option (List (List Bool))) : Nat → (List (List Bool)) → Int → Option (List (List Bool))
  | 0, _, _ => none
  | n + 1, gl11, gx12 => m14_quirref_Closure_L3B (m14_quirref_Closure_L3 a0 gx9 gx6 go2 n) a0 gx9 gx6 go2 gl11 gx12
def m14_quirref_Closure_L2B (go2 : (List (List Bool)) → Int → Option (List (List Bool))) (a0 : Int) (gx6 : Int) (go1 : (List (List Bool)) → Int → Option (List (List Bool))) (gl8 : (List (List Bool))) (gx9 : Int) : Option (List (List Bool)) :=
  if gx9 < a0 then m14_quirref_Closure_L3 a0 gx9 gx6 go2 big gl8 0 else m14_quirref_Closure_K4 gx6 go1 gl8
def m14_quirref_Closure_L2 (a0 : Int) (gx6 : Int) (go1 : (List (List Bool)) → Int → Option (List (List Bool))) : Nat → (List (List Bool)) → Int → Option (List (List Bool))
  | 0, _, _ => none
  | n + 1, gl8, gx9 => m14_quirref_Closure_L2B (m14_quirref_Closure_L2 a0 gx6 go1 n) a0 gx6 go1 gl8 gx9
def m14_quirref_Closure_L1B (go1 : (List (List Bool)) → Int → Option (List (List Bool))) (a0 : Int) (gl5 : (List (List Bool))) (gx6 : Int) : Option (List (List Bool)) :=
  if gx6 < a0 then m14_quirref_Closure_L2 a0 gx6 go1 big gl5 0 else m14_quirref_Closure_K3 gl5
def m14_quirref_Closure_L1 (a0 : Int) : Nat → (List (List Bool)) → Int → Option (List (List Bool))
  | 0, _, _ => none
  | n + 1, gl5, gx6 => m14_quirref_Closure_L1B (m14_quirref_Closure_L1 a0 n) a0 gl5 gx6
def m14_quirref_Closure_K2 (a0 : Int) (gl3 : (List (List Bool))) : Option (List (List Bool)) :=
  m14_quirref_Closure_L1 a0 big gl3 0
def m14_quirref_Closure_L4B (go4 : (List (List Bool)) → Int → Option (List (List Bool))) (a1 : (List TEdge)) (a0 : Int) (gl13 : (List (List Bool))) (gx14 : Int) : Option (List (List Bool)) :=
  if gx14 < (a1.length : Int) then bind1 (idx a1 gx14) fun x44 => bind1 (idx gl13 x44.From) fun x54 => bind1 (idx x54 x44.To) fun x55 => bind1 (upd x54 x44.To true) fun l56 => bind1 (upd gl13 x44.From l56) fun l57 => bind1 (i64 (gx14 + 1)) fun x58 => go4 l57 x58 else m14_quirref_Closure_K2 a0 gl13
def m14_quirref_Closure_L4 (a1 : (List TEdge)) (a0 : Int) : Nat → (List (List Bool)) → Int → Option (List (List Bool))
  | 0, _, _ => none
  | n + 1, gl13, gx14 => m14_quirref_Closure_L4B (m14_quirref_Closure_L4 a1 a0 n) a1 a0 gl13 gx14
def m14_quirref_Closure_K1 (a1 : (List TEdge)) (a0 : Int) (gl1 : (List (List Bool))) : Option (List (List Bool)) :=
  m14_quirref_Closure_L4 a1 a0 big gl1 0
def m14_quirref_Closure_L5B (go5 : (List (List Bool)) → Int → Option (List (List Bool))) (l1 : (List (List Bool))) (a0 : Int) (a1 : (List TEdge)) (gl15 : (List (List Bool))) (gx17 : Int) : Option (List (List Bool)) :=
  if gx17 < (l1.length : Int) then bind1 (mk a0 false) fun l60 => bind1 (idx gl15 gx17) fun x62 => bind1 (upd gl15 gx17 l60) fun l63 => bind1 (i64 (gx17 + 1)) fun x65 => go5 l63 x65 else m14_quirref_Closure_K1 a1 a0 gl15
def m14_quirref_Closure_L5 (l1 : (List (List Bool))) (a0 : Int) (a1 : (List TEdge)) : Nat → (List (List Bool)) → Int → Option (List (List Bool))
  | 0, _, _ => none
  | n + 1, gl15, gx17 => m14_quirref_Closure_L5B (m14_quirref_Closure_L5 l1 a0 a1 n) l1 a0 a1 gl15 gx17
def m14_quirref_Closure (a0 : Int) (a1 : (List TEdge)) : Option (List (List Bool)) :=
  bind1 (mk a0 ([] : (List Bool))) fun l1 => m14_quirref_Closure_L5 l1 a0 a1 big l1 0
def m10_quirref_Order_K1 (gl2 : (List Int)) : Option ((List Int) × Bool) :=
  some (gl2, true)
def m10_quirref_Order_K3 (gl3 : (List Bool)) (gl5 : (List Int)) (go1 : (List Bool) → (List Int) → Option ((List Int) × Bool)) (gx6 : Int) : Option ((List Int) × Bool) :=
  if gx6 < 0 then some ([], false) else bind1 (idx gl3 gx6) fun x8 => bind1 (upd gl3 gx6 true) fun l9 => bind1 (app gl5 ([gx6])) fun l12 => go1 l9 l12
def m10_quirref_Order_K4 (gx7 : Int) (go2 : Int → Option ((List Int) × Bool)) : Option ((List Int) × Bool) :=
  bind1 (i64 (gx7 + 1)) fun x14 => go2 x14
def m10_quirref_Order_K6 (gx7 : Int) (go2 : Int → Option ((List Int) × Bool)) : Option ((List Int) × Bool) :=
  m10_quirref_Order_K4 gx7 go2
def m10_quirref_Order_L3B (go3 : Int → Option ((List Int) × Bool)) (a0 : Int) (gx7 : Int) (go2 : Int → Option ((List Int) × Bool)) (gx9 : Int) : Option ((List Int) × Bool) :=
  if gx9 < a0 then bind1 (i64 (gx9 + 1)) fun x16 => go3 x16 else m10_quirref_Order_K6 gx7 go2
def m10_quirref_Order_L3 (a0 : Int) (gx7 : Int) (go2 : Int → Option ((List Int) × Bool)) : Nat → Int → Option ((List Int) × Bool)
  | 0, _ => none
  | n + 1, gx9 => m10_quirref_Order_L3B (m10_quirref_Order_L3 a0 gx7 go2 n) a0 gx7 go2 gx9
def m10_quirref_Order_K7 (gl3 : (List Bool)) (gl5 : (List Int)) (go1 : (List Bool) → (List Int) → Option ((List Int) × Bool)) (gx7 : Int) (go2 : Int → Option ((List Int) × Bool)) (gb10 : Bool) : Option ((List Int) × Bool) :=
  if gb10 = true then m10_quirref_Order_K3 gl3 gl5 go1 gx7 else m10_quirref_Order_K4 gx7 go2
def m10_quirref_Order_K8 (gx12 : Int) (go4 : Bool → Int → Option ((List Int) × Bool)) (gb13 : Bool) : Option ((List Int) × Bool) :=
  if gb13 = true then bind1 (i64 (gx12 + 1)) fun x19 => go4 true x19 else bind1 (i64 (gx12 + 1)) fun x18 => go4 false x18
def m10_quirref_Order_L4B (go4 : Bool → Int → Option ((List Int) × Bool)) (a0 : Int) (gl3 : (List Bool)) (l1 : (List (List Bool))) (gx7 : Int) (gl5 : (List Int)) (go1 : (List Bool) → (List Int) → Option ((List Int) × Bool)) (go2 : Int → Option ((List Int) × Bool)) (gb11 : Bool) (gx12 : Int) : Option ((List Int) × Bool) :=
  if gx12 < a0 then if gb11 = true then bind1 (idx gl3 gx12) fun x21 => if x21 = true then m10_quirref_Order_K8 gx12 go4 true else bind1 (idx l1 gx12) fun x23 => bind1 (idx x23 gx7) fun x24 => if x24 = true then m10_quirref_Order_K8 gx12 go4 false else m10_quirref_Order_K8 gx12 go4 true else m10_quirref_Order_K8 gx12 go4 false else m10_quirref_Order_K7 gl3 gl5 go1 gx7 go2 gb11
def m10_quirref_Order_L4 (a0 : Int) (gl3 : (List Bool)) (l1 : (List (List Bool))) (gx7 : Int) (gl5 : (List Int)) (go1 : (List Bool) → (List Int) → Option ((List Int) × Bool)) (go2 : Int → Option ((List Int) × Bool)) : Nat → Bool → Int → Option ((List Int) × Bool)
  | 0, _, _ => none
  | n + 1, gb11, gx12 => m10_quirref_Order_L4B (m10_quirref_Order_L4 a0 gl3 l1 gx7 gl5 go1 go2 n) a0 gl3 l1 gx7 gl5 go1 go2 gb11 gx12
def m10_quirref_Order_K5 (a0 : Int) (gl3 : (List Bool)) (l1 : (List (List Bool))) (gx7 : Int) (gl5 : (List Int)) (go1 : (List Bool) → (List Int) → Option ((List Int) × Bool)) (go2 : Int → Option ((List Int) × Bool)) (gb8 : Bool) : Option ((List Int) × Bool) :=
  if gb8 = true then m10_quirref_Order_L4 a0 gl3 l1 gx7 gl5 go1 go2 big true 0 else m10_quirref_Order_L3 a0 gx7 go2 big 0
def m10_quirref_Order_L2B (go2 : Int → Option ((List Int) × Bool)) (a0 : Int) (gl3 : (List Bool)) (l1 : (List (List Bool))) (gl5 : (List Int)) (go1 : (List Bool) → (List Int) → Option ((List Int) × Bool)) (gx7 : Int) : Option ((List Int) × Bool) :=
  if gx7 < a0 then bind1 (idx gl3 gx7) fun x26 => if x26 = true then m10_quirref_Order_K5 a0 gl3 l1 gx7 gl5 go1 go2 false else m10_quirref_Order_K5 a0 gl3 l1 gx7 gl5 go1 go2 true else m10_quirref_Order_K3 gl3 gl5 go1 (-1)
def m10_quirref_Order_L2 (a0 : Int) (gl3 : (List Bool)) (l1 : (List (List Bool))) (gl5 : (List Int)) (go1 : (List Bool) → (List Int) → Option ((List Int) × Bool)) : Nat → Int → Option ((List Int) × Bool)
  | 0, _ => none
  | n + 1, gx7 => m10_quirref_Order_L2B (m10_quirref_Order_L2 a0 gl3 l1 gl5 go1 n) a0 gl3 l1 gl5 go1 gx7
def m10_quirref_Order_K2 (a0 : Int) (gl3 : (List Bool)) (l1 : (List (List Bool))) (gl5 : (List Int)) (go1 : (List Bool) → (List Int) → Option ((List Int) × Bool)) : Option ((List Int) × Bool) :=
  m10_quirref_Order_L2 a0 gl3 l1 gl5 go1 big 0
def m10_quirref_Order_L1B (go1 : (List Bool) → (List Int) → Option ((List Int) × Bool)) (a0 : Int) (l1 : (List (List Bool))) (gl3 : (List Bool)) (gl5 : (List Int)) : Option ((List Int) × Bool) :=
  if (gl5.length : Int) < a0 then m10_quirref_Order_K2 a0 gl3 l1 gl5 go1 else m10_quirref_Order_K1 gl5
def m10_quirref_Order_L1 (a0 : Int) (l1 : (List (List Bool))) : Nat → (List Bool) → (List Int) → Option ((List Int) × Bool)
  | 0, _, _ => none
  | n + 1, gl3, gl5 => m10_quirref_Order_L1B (m10_quirref_Order_L1 a0 l1 n) a0 l1 gl3 gl5
def m10_quirref_Order (a0 : Int) (a1 : (List TEdge)) : Option ((List Int) × Bool) :=
  bind1 (m14_quirref_Closure a0 a1) fun l1 => bind1 (mk a0 false) fun l5 => m10_quirref_Order_L1 a0 l1 big l5 []
def m11_slices_Equal_int_K2 : Option Bool :=
  some true
def m11_slices_Equal_int_L1B (go1 : Int → Option Bool) (a0 : (List Int)) (a1 : (List Int)) (gx1 : Int) : Option Bool :=
  if gx1 < (a0.length : Int) then bind1 (idx a0 gx1) fun x2 => bind1 (idx a1 gx1) fun x3 => if x2 ≠ x3 then some false else bind1 (i64 (gx1 + 1)) fun x5 => go1 x5 else m11_slices_Equal_int_K2
def m11_slices_Equal_int_L1 (a0 : (List Int)) (a1 : (List Int)) : Nat → Int → Option Bool
  | 0, _ => none
  | n + 1, gx1 => m11_slices_Equal_int_L1B (m11_slices_Equal_int_L1 a0 a1 n) a0 a1 gx1
def m11_slices_Equal_int_K1 (a0 : (List Int)) (a1 : (List Int)) : Option Bool :=
  m11_slices_Equal_int_L1 a0 a1 big 0
def m11_slices_Equal_int (a0 : (List Int)) (a1 : (List Int)) : Option Bool :=
  if (a0.length : Int) ≠ (a1.length : Int) then some false else m11_slices_Equal_int_K1 a0 a1
def m13_quirref_Parts_K1 (gl2 : (List (List Int))) : Option (List (List Int)) :=
  some gl2
def m13_quirref_Parts_K2 (gx7 : Int) (go1 : (List (List Int)) → Int → Option (List (List Int))) (gl9 : (List (List Int))) : Option (List (List Int)) :=
  bind1 (i64 (gx7 + 1)) fun x6 => go1 gl9 x6
def m13_quirref_Parts_K3 (gx7 : Int) (gl5 : (List (List Int))) (go1 : (List (List Int)) → Int → Option (List (List Int))) (gl12 : (List Int)) : Option (List (List Int)) :=
  bind1 (idx gl12 0) fun x7 => if x7 = gx7 then bind1 (app gl5 ([gl12])) fun l11 => m13_quirref_Parts_K2 gx7 go1 l11 else m13_quirref_Parts_K2 gx7 go1 gl5
def m13_quirref_Parts_L2B (go2 : (List Int) → Int → Option (List (List Int))) (a0 : Int) (gx7 : Int) (l1 : (List (List Bool))) (gl5 : (List (List Int))) (go1 : (List (List Int)) → Int → Option (List (List Int))) (gl14 : (List Int)) (gx15 : Int) : Option (List (List Int)) :=
  if gx15 < a0 then if gx15 = gx7 then bind1 (app gl14 ([gx15])) fun l18 => bind1 (i64 (gx15 + 1)) fun x19 => go2 l18 x19 else bind1 (idx l1 gx15) fun x20 => bind1 (idx x20 gx7) fun x21 => if x21 = true then bind1 (idx l1 gx7) fun x23 => bind1 (idx x23 gx15) fun x24 => if x24 = true then bind1 (app gl14 ([gx15])) fun l28 => bind1 (i64 (gx15 + 1)) fun x29 => go2 l28 x29 else bind1 (i64 (gx15 + 1)) fun x30 => go2 gl14 x30 else bind1 (i64 (gx15 + 1)) fun x31 => go2 gl14 x31 else m13_quirref_Parts_K3 gx7 gl5 go1 gl14
def m13_quirref_Parts_L2 (a0 : Int) (gx7 : Int) (l1 : (List (List Bool))) (gl5 : (List (List Int))) (go1 : (List (List Int)) → Int → Option (List (List Int))) : Nat → (List Int) → Int → Option (List (List Int))
  | 0, _, _ => none
  | n + 1, gl14, gx15 => m13_quirref_Parts_L2B (m13_quirref_Parts_L2 a0 gx7 l1 gl5 go1 n) a0 gx7 l1 gl5 go1 gl14 gx15
def m13_quirref_Parts_L1B (go1 : (List (List Int)) → Int → Option (List (List Int))) (a0 : Int) (l1 : (List (List Bool))) (gl5 : (List (List Int))) (gx7 : Int) : Option (List (List Int)) :=
  if gx7 < a0 then m13_quirref_Parts_L2 a0 gx7 l1 gl5 go1 big [] 0 else m13_quirref_Parts_K1 gl5
def m13_quirref_Parts_L1 (a0 : Int) (l1 : (List (List Bool))) : Nat → (List (List Int)) → Int → Option (List (List Int))
  | 0, _, _ => none
  | n + 1, gl5, gx7 => m13_quirref_Parts_L1B (m13_quirref_Parts_L1 a0 l1 n) a0 l1 gl5 gx7
def m13_quirref_Parts (a0 : Int) (a1 : (List TEdge)) : Option (List (List Int)) :=
  bind1 (m14_quirref_Closure a0 a1) fun l1 => m13_quirref_Parts_L1 a0 l1 big [] 0
def m3_quirlaw_GraphSays_K7 (l12 : (List Int)) (x14 : Int) (gl5 : (List Int)) : Option Bool :=
  bind1 (m11_slices_Equal_int l12 gl5) fun b16 => if b16 = true then some (decide (x14 = 0)) else some false
def m3_quirlaw_GraphSays_L1B (go1 : (List Int) → Int → Option Bool) (x22 : (List Bool)) (l12 : (List Int)) (x14 : Int) (gl7 : (List Int)) (gx8 : Int) : Option Bool :=
  if gx8 < (x22.length : Int) then bind1 (idx x22 gx8) fun x24 => if x24 = true then bind1 (app gl7 ([gx8])) fun l28 => bind1 (i64 (gx8 + 1)) fun x29 => go1 l28 x29 else bind1 (i64 (gx8 + 1)) fun x30 => go1 gl7 x30 else m3_quirlaw_GraphSays_K7 l12 x14 gl7
def m3_quirlaw_GraphSays_L1 (x22 : (List Bool)) (l12 : (List Int)) (x14 : Int) : Nat → (List Int) → Int → Option Bool
  | 0, _, _ => none
  | n + 1, gl7, gx8 => m3_quirlaw_GraphSays_L1B (m3_quirlaw_GraphSays_L1 x22 l12 x14 n) x22 l12 x14 gl7 gx8
def m3_quirlaw_GraphSays_K6 (a0 : Int) (a1 : (List TEdge)) (a2 : Int) (l12 : (List Int)) (x14 : Int) : Option Bool :=
  bind1 (m14_quirref_Closure a0 a1) fun l18 => bind1 (idx l18 a2) fun x22 => m3_quirlaw_GraphSays_L1 x22 l12 x14 big [] 0
def m3_quirlaw_GraphSays_K8 (l12 : (List Int)) (x14 : Int) (a0 : Int) (a1 : (List TEdge)) (a2 : Int) (gb9 : Bool) : Option Bool :=
  if gb9 = true then if (l12.length : Int) = 0 then some (decide (x14 = 1)) else some false else m3_quirlaw_GraphSays_K6 a0 a1 a2 l12 x14
def m3_quirlaw_GraphSays_K5 (a2 : Int) (l12 : (List Int)) (x14 : Int) (a0 : Int) (a1 : (List TEdge)) : Option Bool :=
  if a2 < 0 then m3_quirlaw_GraphSays_K8 l12 x14 a0 a1 a2 true else if a0 ≤ a2 then m3_quirlaw_GraphSays_K8 l12 x14 a0 a1 a2 true else m3_quirlaw_GraphSays_K8 l12 x14 a0 a1 a2 false
def m3_quirlaw_GraphSays_K9 (x10 : Int) (a2 : Int) (l12 : (List Int)) (x14 : Int) (a0 : Int) (a1 : (List TEdge)) (gb10 : Bool) : Option Bool :=
  if gb10 = true then if x10 ≠ 0 then some false else m3_quirlaw_GraphSays_K5 a2 l12 x14 a0 a1 else some false
def m3_quirlaw_GraphSays_K11 (x10 : Int) (a2 : Int) (l12 : (List Int)) (x14 : Int) (a0 : Int) (a1 : (List TEdge)) : Option Bool :=
  m3_quirlaw_GraphSays_K9 x10 a2 l12 x14 a0 a1 true
def m3_quirlaw_GraphSays_K12 (gx11 : Int) (go2 : Int → Option Bool) (x10 : Int) (a2 : Int) (l12 : (List Int)) (x14 : Int) (a0 : Int) (a1 : (List TEdge)) (gb12 : Bool) : Option Bool :=
  if gb12 = true then bind1 (i64 (gx11 + 1)) fun x42 => go2 x42 else m3_quirlaw_GraphSays_K9 x10 a2 l12 x14 a0 a1 false
def m3_quirlaw_GraphSays_K14 (gx11 : Int) (go2 : Int → Option Bool) (x10 : Int) (a2 : Int) (l12 : (List Int)) (x14 : Int) (a0 : Int) (a1 : (List TEdge)) : Option Bool :=
  m3_quirlaw_GraphSays_K12 gx11 go2 x10 a2 l12 x14 a0 a1 true
def m3_quirlaw_GraphSays_L3B (go3 : Int → Option Bool) (x40 : (List Int)) (x41 : (List Int)) (gx11 : Int) (go2 : Int → Option Bool) (x10 : Int) (a2 : Int) (l12 : (List Int)) (x14 : Int) (a0 : Int) (a1 : (List TEdge)) (gx13 : Int) : Option Bool :=
  if gx13 < (x40.length : Int) then bind1 (idx x40 gx13) fun x44 => bind1 (idx x41 gx13) fun x45 => if x44 ≠ x45 then m3_quirlaw_GraphSays_K12 gx11 go2 x10 a2 l12 x14 a0 a1 false else bind1 (i64 (gx13 + 1)) fun x47 => go3 x47 else m3_quirlaw_GraphSays_K14 gx11 go2 x10 a2 l12 x14 a0 a1
def m3_quirlaw_GraphSays_L3 (x40 : (List Int)) (x41 : (List Int)) (gx11 : Int) (go2 : Int → Option Bool) (x10 : Int) (a2 : Int) (l12 : (List Int)) (x14 : Int) (a0 : Int) (a1 : (List TEdge)) : Nat → Int → Option Bool
  | 0, _ => none
  | n + 1, gx13 => m3_quirlaw_GraphSays_L3B (m3_quirlaw_GraphSays_L3 x40 x41 gx11 go2 x10 a2 l12 x14 a0 a1 n) x40 x41 gx11 go2 x10 a2 l12 x14 a0 a1 gx13
def m3_quirlaw_GraphSays_K13 (x40 : (List Int)) (x41 : (List Int)) (gx11 : Int) (go2 : Int → Option Bool) (x10 : Int) (a2 : Int) (l12 : (List Int)) (x14 : Int) (a0 : Int) (a1 : (List TEdge)) : Option Bool :=
  m3_quirlaw_GraphSays_L3 x40 x41 gx11 go2 x10 a2 l12 x14 a0 a1 big 0
def m3_quirlaw_GraphSays_L2B (go2 : Int → Option Bool) (l7 : (List (List Int))) (l34 : (List (List Int))) (x10 : Int) (a2 : Int) (l12 : (List Int)) (x14 : Int) (a0 : Int) (a1 : (List TEdge)) (gx11 : Int) : Option Bool :=
  if gx11 < (l7.length : Int) then bind1 (idx l7 gx11) fun x40 => bind1 (idx l34 gx11) fun x41 => if (x40.length : Int) ≠ (x41.length : Int) then m3_quirlaw_GraphSays_K12 gx11 go2 x10 a2 l12 x14 a0 a1 false else m3_quirlaw_GraphSays_K13 x40 x41 gx11 go2 x10 a2 l12 x14 a0 a1 else m3_quirlaw_GraphSays_K11 x10 a2 l12 x14 a0 a1
def m3_quirlaw_GraphSays_L2 (l7 : (List (List Int))) (l34 : (List (List Int))) (x10 : Int) (a2 : Int) (l12 : (List Int)) (x14 : Int) (a0 : Int) (a1 : (List TEdge)) : Nat → Int → Option Bool
  | 0, _ => none
  | n + 1, gx11 => m3_quirlaw_GraphSays_L2B (m3_quirlaw_GraphSays_L2 l7 l34 x10 a2 l12 x14 a0 a1 n) l7 l34 x10 a2 l12 x14 a0 a1 gx11
def m3_quirlaw_GraphSays_K10 (l7 : (List (List Int))) (l34 : (List (List Int))) (x10 : Int) (a2 : Int) (l12 : (List Int)) (x14 : Int) (a0 : Int) (a1 : (List TEdge)) : Option Bool :=
  m3_quirlaw_GraphSays_L2 l7 l34 x10 a2 l12 x14 a0 a1 big 0
def m3_quirlaw_GraphSays_K4 (a0 : Int) (a1 : (List TEdge)) (l7 : (List (List Int))) (x10 : Int) (a2 : Int) (l12 : (List Int)) (x14 : Int) : Option Bool :=
  bind1 (m13_quirref_Parts a0 a1) fun l34 => if (l7.length : Int) ≠ (l34.length : Int) then m3_quirlaw_GraphSays_K9 x10 a2 l12 x14 a0 a1 false else m3_quirlaw_GraphSays_K10 l7 l34 x10 a2 l12 x14 a0 a1
def m3_quirlaw_GraphSays_K18 (l12 : (List Int)) (x14 : Int) (gl15 : (List Int)) : Option Bool :=
  bind1 (m11_slices_Equal_int l12 gl15) fun b52 => if b52 = true then some (decide (x14 = 0)) else some false
def m3_quirlaw_GraphSays_L4B (go4 : (List Int) → Int → Option Bool) (x58 : (List Bool)) (l12 : (List Int)) (x14 : Int) (gl17 : (List Int)) (gx18 : Int) : Option Bool :=
  if gx18 < (x58.length : Int) then bind1 (idx x58 gx18) fun x60 => if x60 = true then bind1 (app gl17 ([gx18])) fun l64 => bind1 (i64 (gx18 + 1)) fun x65 => go4 l64 x65 else bind1 (i64 (gx18 + 1)) fun x66 => go4 gl17 x66 else m3_quirlaw_GraphSays_K18 l12 x14 gl17
def m3_quirlaw_GraphSays_L4 (x58 : (List Bool)) (l12 : (List Int)) (x14 : Int) : Nat → (List Int) → Int → Option Bool
  | 0, _, _ => none
  | n + 1, gl17, gx18 => m3_quirlaw_GraphSays_L4B (m3_quirlaw_GraphSays_L4 x58 l12 x14 n) x58 l12 x14 gl17 gx18
def m3_quirlaw_GraphSays_K17 (a0 : Int) (a1 : (List TEdge)) (a2 : Int) (l12 : (List Int)) (x14 : Int) : Option Bool :=
  bind1 (m14_quirref_Closure a0 a1) fun l54 => bind1 (idx l54 a2) fun x58 => m3_quirlaw_GraphSays_L4 x58 l12 x14 big [] 0
def m3_quirlaw_GraphSays_K19 (l12 : (List Int)) (x14 : Int) (a0 : Int) (a1 : (List TEdge)) (a2 : Int) (gb19 : Bool) : Option Bool :=
  if gb19 = true then if (l12.length : Int) = 0 then some (decide (x14 = 1)) else some false else m3_quirlaw_GraphSays_K17 a0 a1 a2 l12 x14
def m3_quirlaw_GraphSays_K16 (a2 : Int) (l12 : (List Int)) (x14 : Int) (a0 : Int) (a1 : (List TEdge)) : Option Bool :=
  if a2 < 0 then m3_quirlaw_GraphSays_K19 l12 x14 a0 a1 a2 true else if a0 ≤ a2 then m3_quirlaw_GraphSays_K19 l12 x14 a0 a1 a2 true else m3_quirlaw_GraphSays_K19 l12 x14 a0 a1 a2 false
def m3_quirlaw_GraphSays_K20 (x10 : Int) (a2 : Int) (l12 : (List Int)) (x14 : Int) (a0 : Int) (a1 : (List TEdge)) (gb20 : Bool) : Option Bool :=
  if gb20 = true then if x10 ≠ 0 then some false else m3_quirlaw_GraphSays_K16 a2 l12 x14 a0 a1 else some false
def m3_quirlaw_GraphSays_K22 (x10 : Int) (a2 : Int) (l12 : (List Int)) (x14 : Int) (a0 : Int) (a1 : (List TEdge)) : Option Bool :=
  m3_quirlaw_GraphSays_K20 x10 a2 l12 x14 a0 a1 true
def m3_quirlaw_GraphSays_K23 (gx21 : Int) (go5 : Int → Option Bool) (x10 : Int) (a2 : Int) (l12 : (List Int)) (x14 : Int) (a0 : Int) (a1 : (List TEdge)) (gb22 : Bool) : Option Bool :=
  if gb22 = true then bind1 (i64 (gx21 + 1)) fun x78 => go5 x78 else m3_quirlaw_GraphSays_K20 x10 a2 l12 x14 a0 a1 false
def m3_quirlaw_GraphSays_K25 (gx21 : Int) (go5 : Int → Option Bool) (x10 : Int) (a2 : Int) (l12 : (List Int)) (x14 : Int) (a0 : Int) (a1 : (List TEdge)) : Option Bool :=
  m3_quirlaw_GraphSays_K23 gx21 go5 x10 a2 l12 x14 a0 a1 true
def m3_quirlaw_GraphSays_L6B (go6 : Int → Option Bool) (x76 : (List Int)) (x77 : (List Int)) (gx21 : Int) (go5 : Int → Option Bool) (x10 : Int) (a2 : Int) (l12 : (List Int)) (x14 : Int) (a0 : Int) (a1 : (List TEdge)) (gx23 : Int) : Option Bool :=
  if gx23 < (x76.length : Int) then bind1 (idx x76 gx23) fun x80 => bind1 (idx x77 gx23) fun x81 => if x80 ≠ x81 then m3_quirlaw_GraphSays_K23 gx21 go5 x10 a2 l12 x14 a0 a1 false else bind1 (i64 (gx23 + 1)) fun x83 => go6 x83 else m3_quirlaw_GraphSays_K25 gx21 go5 x10 a2 l12 x14 a0 a1
def m3_quirlaw_GraphSays_L6 (x76 : (List Int)) (x77 : (List Int)) (gx21 : Int) (go5 : Int → Option Bool) (x10 : Int) (a2 : Int) (l12 : (List Int)) (x14 : Int) (a0 : Int) (a1 : (List TEdge)) : Nat → Int → Option Bool
  | 0, _ => none
  | n + 1, gx23 => m3_quirlaw_GraphSays_L6B (m3_quirlaw_GraphSays_L6 x76 x77 gx21 go5 x10 a2 l12 x14 a0 a1 n) x76 x77 gx21 go5 x10 a2 l12 x14 a0 a1 gx23
def m3_quirlaw_GraphSays_K24 (x76 : (List Int)) (x77 : (List Int)) (gx21 : Int) (go5 : Int → Option Bool) (x10 : Int) (a2 : Int) (l12 : (List Int)) (x14 : Int) (a0 : Int) (a1 : (List TEdge)) : Option Bool :=
  m3_quirlaw_GraphSays_L6 x76 x77 gx21 go5 x10 a2 l12 x14 a0 a1 big 0
def m3_quirlaw_GraphSays_L5B (go5 : Int → Option Bool) (l7 : (List (List Int))) (l70 : (List (List Int))) (x10 : Int) (a2 : Int) (l12 : (List Int)) (x14 : Int) (a0 : Int) (a1 : (List TEdge)) (gx21 : Int) : Option Bool :=
  if gx21 < (l7.length : Int) then bind1 (idx l7 gx21) fun x76 => bind1 (idx l70 gx21) fun x77 => if (x76.length : Int) ≠ (x77.length : Int) then m3_quirlaw_GraphSays_K23 gx21 go5 x10 a2 l12 x14 a0 a1 false else m3_quirlaw_GraphSays_K24 x76 x77 gx21 go5 x10 a2 l12 x14 a0 a1 else m3_quirlaw_GraphSays_K22 x10 a2 l12 x14 a0 a1
def m3_quirlaw_GraphSays_L5 (l7 : (List (List Int))) (l70 : (List (List Int))) (x10 : Int) (a2 : Int) (l12 : (List Int)) (x14 : Int) (a0 : Int) (a1 : (List TEdge)) : Nat → Int → Option Bool
  | 0, _ => none
  | n + 1, gx21 => m3_quirlaw_GraphSays_L5B (m3_quirlaw_GraphSays_L5 l7 l70 x10 a2 l12 x14 a0 a1 n) l7 l70 x10 a2 l12 x14 a0 a1 gx21
def m3_quirlaw_GraphSays_K21 (l7 : (List (List Int))) (l70 : (List (List Int))) (x10 : Int) (a2 : Int) (l12 : (List Int)) (x14 : Int) (a0 : Int) (a1 : (List TEdge)) : Option Bool :=
  m3_quirlaw_GraphSays_L5 l7 l70 x10 a2 l12 x14 a0 a1 big 0
def m3_quirlaw_GraphSays_K15 (a0 : Int) (a1 : (List TEdge)) (l7 : (List (List Int))) (x10 : Int) (a2 : Int) (l12 : (List Int)) (x14 : Int) : Option Bool :=
  bind1 (m13_quirref_Parts a0 a1) fun l70 => if (l7.length : Int) ≠ (l70.length : Int) then m3_quirlaw_GraphSays_K20 x10 a2 l12 x14 a0 a1 false else m3_quirlaw_GraphSays_K21 l7 l70 x10 a2 l12 x14 a0 a1
def m3_quirlaw_GraphSays_K3 (l3 : (List Int)) (x5 : Int) (a0 : Int) (a1 : (List TEdge)) (l7 : (List (List Int))) (x10 : Int) (a2 : Int) (l12 : (List Int)) (x14 : Int) (gl2 : (List Int)) (gb3 : Bool) : Option Bool :=
  if gb3 = true then bind1 (m11_slices_Equal_int l3 gl2) fun b86 => if b86 = true then if x5 ≠ 0 then some false else m3_quirlaw_GraphSays_K15 a0 a1 l7 x10 a2 l12 x14 else some false else if 0 < (l3.length : Int) then some false else if x5 ≠ 11 then some false else m3_quirlaw_GraphSays_K4 a0 a1 l7 x10 a2 l12 x14
def m3_quirlaw_GraphSays_K2 (a0 : Int) (a1 : (List TEdge)) (l3 : (List Int)) (x5 : Int) (l7 : (List (List Int))) (x10 : Int) (a2 : Int) (l12 : (List Int)) (x14 : Int) : Option Bool :=
  bind2 (m10_quirref_Order a0 a1) fun l89 b91 => if b91 = true then m3_quirlaw_GraphSays_K3 l3 x5 a0 a1 l7 x10 a2 l12 x14 l89 true else m3_quirlaw_GraphSays_K3 l3 x5 a0 a1 l7 x10 a2 l12 x14 l89 false
def m3_quirlaw_GraphSays_K27 (l12 : (List Int)) (x14 : Int) (x1 : Int) (gb25 : Bool) : Option Bool :=
  if gb25 = true then if (l12.length : Int) = 0 then some (decide (x14 = x1)) else some false else some false
def m3_quirlaw_GraphSays_K26 (l7 : (List (List Int))) (x10 : Int) (x1 : Int) (l12 : (List Int)) (x14 : Int) (gb24 : Bool) : Option Bool :=
  if gb24 = true then if (l7.length : Int) = 0 then if x10 = x1 then m3_quirlaw_GraphSays_K27 l12 x14 x1 true else m3_quirlaw_GraphSays_K27 l12 x14 x1 false else m3_quirlaw_GraphSays_K27 l12 x14 x1 false else some false
def m3_quirlaw_GraphSays_K1 (x1 : Int) (l3 : (List Int)) (x5 : Int) (l7 : (List (List Int))) (x10 : Int) (l12 : (List Int)) (x14 : Int) (a0 : Int) (a1 : (List TEdge)) (a2 : Int) : Option Bool :=
  if x1 ≠ 0 then if (l3.length : Int) = 0 then if x5 = x1 then m3_quirlaw_GraphSays_K26 l7 x10 x1 l12 x14 true else m3_quirlaw_GraphSays_K26 l7 x10 x1 l12 x14 false else m3_quirlaw_GraphSays_K26 l7 x10 x1 l12 x14 false else m3_quirlaw_GraphSays_K2 a0 a1 l3 x5 l7 x10 a2 l12 x14
def m3_quirlaw_GraphSays (a0 : Int) (a1 : (List TEdge)) (a2 : Int) : Option Bool :=
  bind1 (m5_quirref_GraphErr a0 a1) fun x1 => bind2 (m6_graph_Order a0 a1) fun l3 x5 => bind2 (m7_graph_Parts a0 a1) fun l7 x10 => bind2 (m8_graph_Reach a0 a1 a2) fun l12 x14 => bind1 (m9_graph_Check a0 a1) fun x100 => if x100 ≠ x1 then some false else m3_quirlaw_GraphSays_K1 x1 l3 x5 l7 x10 l12 x14 a0 a1 a2
end Go.Proofs.Ytjhcdmcikodgkaa
