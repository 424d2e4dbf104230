/-
  Models, printed by a program of mine.
  Conditions: none.
-/
import Derived.Test.YtkhlapdkomnldaaXc
namespace Go.Proofs.Ytkhlapdkomnldaa
open Go.S
set_option linter.unusedVariables false
structure TOp where
  Tx : Int
  Kind : Int
  Item : Int
  deriving DecidableEq
def TOp.row (x : TOp) : List Value := [.int .i64 x.Tx, .int .i64 x.Kind, .int .i64 x.Item]
structure TEdge where
  From : Int
  To : Int
  deriving DecidableEq
def TEdge.row (x : TEdge) : List Value := [.int .i64 x.From, .int .i64 x.To]
structure TRunKind where
  Recoverable : Bool
  Cascadeless : Bool
  Strict : Bool
  deriving DecidableEq
def TRunKind.row (x : TRunKind) : List Value := [.bool x.Recoverable, .bool x.Cascadeless, .bool x.Strict]
def m8_quirref_RunErr_K2 : Option Int :=
  some 0
def m8_quirref_RunErr_K3 (gx1 : Int) (go1 : Int → Option Int) : Option Int :=
  bind1 (i64 (gx1 + 1)) fun x2 => go1 x2
def m8_quirref_RunErr_L2B (go2 : Int → Option Int) (l5 : (List TOp)) (x3 : TOp) (gx1 : Int) (go1 : Int → Option Int) (gx2 : Int) : Option Int :=
  if gx2 < (l5.length : Int) then bind1 (idx l5 gx2) fun x7 => if x7.Tx = x3.Tx then if 2 < x7.Kind then some 4 else bind1 (i64 (gx2 + 1)) fun x11 => go2 x11 else bind1 (i64 (gx2 + 1)) fun x12 => go2 x12 else m8_quirref_RunErr_K3 gx1 go1
def m8_quirref_RunErr_L2 (l5 : (List TOp)) (x3 : TOp) (gx1 : Int) (go1 : Int → Option Int) : Nat → Int → Option Int
  | 0, _ => none
  | n + 1, gx2 => m8_quirref_RunErr_L2B (m8_quirref_RunErr_L2 l5 x3 gx1 go1 n) l5 x3 gx1 go1 gx2
def m8_quirref_RunErr_K5 (a0 : (List TOp)) (gx1 : Int) (x3 : TOp) (go1 : Int → Option Int) : Option Int :=
  bind1 (cut a0 0 gx1) fun l5 => m8_quirref_RunErr_L2 l5 x3 gx1 go1 big 0
def m8_quirref_RunErr_K7 (a0 : (List TOp)) (gx1 : Int) (x3 : TOp) (go1 : Int → Option Int) (gb4 : Bool) : Option Int :=
  if gb4 = true then some 4 else m8_quirref_RunErr_K5 a0 gx1 x3 go1
def m8_quirref_RunErr_K6 (x3 : TOp) (a0 : (List TOp)) (gx1 : Int) (go1 : Int → Option Int) (gb3 : Bool) : Option Int :=
  if gb3 = true then some 4 else if 2 < x3.Kind then if x3.Item ≠ 0 then m8_quirref_RunErr_K7 a0 gx1 x3 go1 true else m8_quirref_RunErr_K7 a0 gx1 x3 go1 false else m8_quirref_RunErr_K7 a0 gx1 x3 go1 false
def m8_quirref_RunErr_K4 (x3 : TOp) (a0 : (List TOp)) (gx1 : Int) (go1 : Int → Option Int) : Option Int :=
  if x3.Kind < 1 then m8_quirref_RunErr_K6 x3 a0 gx1 go1 true else if 4 < x3.Kind then m8_quirref_RunErr_K6 x3 a0 gx1 go1 true else m8_quirref_RunErr_K6 x3 a0 gx1 go1 false
def m8_quirref_RunErr_K8 (x3 : TOp) (a0 : (List TOp)) (gx1 : Int) (go1 : Int → Option Int) (gb5 : Bool) : Option Int :=
  if gb5 = true then some 1 else if x3.Item < 0 then some 1 else if 19 < x3.Item then some 1 else m8_quirref_RunErr_K4 x3 a0 gx1 go1
def m8_quirref_RunErr_L1B (go1 : Int → Option Int) (a0 : (List TOp)) (gx1 : Int) : Option Int :=
  if gx1 < (a0.length : Int) then bind1 (idx a0 gx1) fun x3 => if x3.Tx < 0 then m8_quirref_RunErr_K8 x3 a0 gx1 go1 true else if 11 < x3.Tx then m8_quirref_RunErr_K8 x3 a0 gx1 go1 true else m8_quirref_RunErr_K8 x3 a0 gx1 go1 false else m8_quirref_RunErr_K2
def m8_quirref_RunErr_L1 (a0 : (List TOp)) : Nat → Int → Option Int
  | 0, _ => none
  | n + 1, gx1 => m8_quirref_RunErr_L1B (m8_quirref_RunErr_L1 a0 n) a0 gx1
def m8_quirref_RunErr_K1 (a0 : (List TOp)) : Option Int :=
  m8_quirref_RunErr_L1 a0 big 0
def m8_quirref_RunErr (a0 : (List TOp)) : Option Int :=
  if 200 < (a0.length : Int) then some 2 else m8_quirref_RunErr_K1 a0
def m12_run_Check_K2 : Option Int :=
  some 0
def m12_run_Check_K3 (gx1 : Int) (go1 : Int → (List Bool) → Option Int) (gl3 : (List Bool)) : Option Int :=
  bind1 (i64 (gx1 + 1)) fun x3 => go1 x3 gl3
def m12_run_Check_K5 (gl2 : (List Bool)) (x4 : TOp) (gx1 : Int) (go1 : Int → (List Bool) → Option Int) : Option Int :=
  bind1 (idxA 12 gl2 x4.Tx) fun x6 => if x6 = true then some 4 else bind1 (idxA 12 gl2 x4.Tx) fun x8 => bind1 (upd gl2 x4.Tx (decide (3 ≤ x4.Kind))) fun l9 => m12_run_Check_K3 gx1 go1 l9
def m12_run_Check_K6 (gl2 : (List Bool)) (x4 : TOp) (gx1 : Int) (go1 : Int → (List Bool) → Option Int) (gb4 : Bool) : Option Int :=
  if gb4 = true then m12_run_Check_K5 gl2 x4 gx1 go1 else if x4.Kind = 3 then if x4.Item ≠ 0 then some 4 else m12_run_Check_K5 gl2 x4 gx1 go1 else if x4.Kind = 4 then if x4.Item ≠ 0 then some 4 else m12_run_Check_K5 gl2 x4 gx1 go1 else some 4
def m12_run_Check_K4 (x4 : TOp) (gl2 : (List Bool)) (gx1 : Int) (go1 : Int → (List Bool) → Option Int) : Option Int :=
  if x4.Kind = 1 then m12_run_Check_K6 gl2 x4 gx1 go1 true else if x4.Kind = 2 then m12_run_Check_K6 gl2 x4 gx1 go1 true else m12_run_Check_K6 gl2 x4 gx1 go1 false
def m12_run_Check_K7 (x4 : TOp) (gl2 : (List Bool)) (gx1 : Int) (go1 : Int → (List Bool) → Option Int) (gb5 : Bool) : Option Int :=
  if gb5 = true then some 1 else if x4.Item < 0 then some 1 else if 20 ≤ x4.Item then some 1 else m12_run_Check_K4 x4 gl2 gx1 go1
def m12_run_Check_L1B (go1 : Int → (List Bool) → Option Int) (a0 : (List TOp)) (gx1 : Int) (gl2 : (List Bool)) : Option Int :=
  if gx1 < (a0.length : Int) then bind1 (idx a0 gx1) fun x4 => if x4.Tx < 0 then m12_run_Check_K7 x4 gl2 gx1 go1 true else if 12 ≤ x4.Tx then m12_run_Check_K7 x4 gl2 gx1 go1 true else m12_run_Check_K7 x4 gl2 gx1 go1 false else m12_run_Check_K2
def m12_run_Check_L1 (a0 : (List TOp)) : Nat → Int → (List Bool) → Option Int
  | 0, _, _ => none
  | n + 1, gx1, gl2 => m12_run_Check_L1B (m12_run_Check_L1 a0 n) a0 gx1 gl2
def m12_run_Check_K1 (a0 : (List TOp)) : Option Int :=
  m12_run_Check_L1 a0 big 0 (List.replicate 12 (false : Bool))
def m12_run_Check (a0 : (List TOp)) : Option Int :=
  if 200 < (a0.length : Int) then some 2 else m12_run_Check_K1 a0
def m40_run_ended_K1 (gl1 : (List Bool)) : Option (List Bool) :=
  bind1 (arrN 12 gl1) fun _ => bind1 (arrN 12 (List.replicate 12 (false : Bool))) fun _ => bind1 (arrN 12 gl1) fun _ => bind1 (arrN 12 gl1) fun _ => some gl1
def m40_run_ended_L1B (go1 : Int → (List Bool) → Option (List Bool)) (a0 : (List TOp)) (a1 : Int) (gx2 : Int) (gl3 : (List Bool)) : Option (List Bool) :=
  if gx2 < (a0.length : Int) then bind1 (idx a0 gx2) fun x8 => if x8.Kind = a1 then bind1 (idxA 12 gl3 x8.Tx) fun x11 => bind1 (upd gl3 x8.Tx true) fun l12 => bind1 (i64 (gx2 + 1)) fun x13 => go1 x13 l12 else bind1 (i64 (gx2 + 1)) fun x14 => go1 x14 gl3 else m40_run_ended_K1 gl3
def m40_run_ended_L1 (a0 : (List TOp)) (a1 : Int) : Nat → Int → (List Bool) → Option (List Bool)
  | 0, _, _ => none
  | n + 1, gx2, gl3 => m40_run_ended_L1B (m40_run_ended_L1 a0 a1 n) a0 a1 gx2 gl3
def m40_run_ended (a0 : (List TOp)) (a1 : Int) : Option (List Bool) :=
  m40_run_ended_L1 a0 a1 big 0 (List.replicate 12 (false : Bool))
def m41_run_clash_K2 (a0 : TOp) (a1 : TOp) (gb2 : Bool) : Option Bool :=
  if gb2 = true then if a0.Kind = 2 then some true else some (decide (a1.Kind = 2)) else some false
def m41_run_clash_K1 (a1 : TOp) (a0 : TOp) (gb1 : Bool) : Option Bool :=
  if gb1 = true then if a1.Kind < 3 then if a0.Item = a1.Item then m41_run_clash_K2 a0 a1 true else m41_run_clash_K2 a0 a1 false else m41_run_clash_K2 a0 a1 false else some false
def m41_run_clash (a0 : TOp) (a1 : TOp) : Option Bool :=
  if a0.Tx ≠ a1.Tx then if a0.Kind < 3 then m41_run_clash_K1 a1 a0 true else m41_run_clash_K1 a1 a0 false else m41_run_clash_K1 a1 a0 false
def m9_run_Edges_K3 (gl3 : (List TEdge)) : Option ((List TEdge) × Int) :=
  some (gl3, 0)
def m9_run_Edges_K4 (gx6 : Int) (go1 : (List TEdge) → Int → Option ((List TEdge) × Int)) (gl8 : (List TEdge)) : Option ((List TEdge) × Int) :=
  bind1 (i64 (gx6 + 1)) fun x8 => go1 gl8 x8
def m9_run_Edges_L2B (go2 : (List TEdge) → Int → Option ((List TEdge) × Int)) (gx6 : Int) (gl1 : (List Bool)) (go1 : (List TEdge) → Int → Option ((List TEdge) × Int)) (gl10 : (List TEdge)) (gx11 : Int) : Option ((List TEdge) × Int) :=
  if gx11 < 12 then bind1 (rng 12 gx6) fun x10 => bind1 (idx2 12 gl1 gx6 gx11) fun x11 => if x11 = true then bind1 (app gl10 ([(⟨gx6, gx11⟩ : TEdge)])) fun l15 => bind1 (i64 (gx11 + 1)) fun x16 => go2 l15 x16 else bind1 (i64 (gx11 + 1)) fun x17 => go2 gl10 x17 else m9_run_Edges_K4 gx6 go1 gl10
def m9_run_Edges_L2 (gx6 : Int) (gl1 : (List Bool)) (go1 : (List TEdge) → Int → Option ((List TEdge) × Int)) : Nat → (List TEdge) → Int → Option ((List TEdge) × Int)
  | 0, _, _ => none
  | n + 1, gl10, gx11 => m9_run_Edges_L2B (m9_run_Edges_L2 gx6 gl1 go1 n) gx6 gl1 go1 gl10 gx11
def m9_run_Edges_L1B (go1 : (List TEdge) → Int → Option ((List TEdge) × Int)) (gl1 : (List Bool)) (gl5 : (List TEdge)) (gx6 : Int) : Option ((List TEdge) × Int) :=
  if gx6 < 12 then m9_run_Edges_L2 gx6 gl1 go1 big gl5 0 else m9_run_Edges_K3 gl5
def m9_run_Edges_L1 (gl1 : (List Bool)) : Nat → (List TEdge) → Int → Option ((List TEdge) × Int)
  | 0, _, _ => none
  | n + 1, gl5, gx6 => m9_run_Edges_L1B (m9_run_Edges_L1 gl1 n) gl1 gl5 gx6
def m9_run_Edges_K2 (gl1 : (List Bool)) : Option ((List TEdge) × Int) :=
  m9_run_Edges_L1 gl1 big [] 0
def m9_run_Edges_K5 (gx12 : Int) (go3 : Int → (List Bool) → Option ((List TEdge) × Int)) (gl14 : (List Bool)) : Option ((List TEdge) × Int) :=
  bind1 (i64 (gx12 + 1)) fun x19 => go3 x19 gl14
def m9_run_Edges_K6 (x1 : (List Bool)) (x25 : TOp) (x20 : TOp) (gl16 : (List Bool)) (gx15 : Int) (go4 : Int → (List Bool) → Option ((List TEdge) × Int)) (gb17 : Bool) : Option ((List TEdge) × Int) :=
  if gb17 = true then bind1 (idxA 12 x1 x25.Tx) fun x28 => if x28 = true then bind1 (rng 12 x20.Tx) fun x33 => bind1 (idx2 12 gl16 x20.Tx x25.Tx) fun x34 => bind1 (upd gl16 (x20.Tx * (12 : Nat) + x25.Tx) true) fun l35 => bind1 (i64 (gx15 + 1)) fun x36 => go4 x36 l35 else bind1 (i64 (gx15 + 1)) fun x37 => go4 x37 gl16 else bind1 (i64 (gx15 + 1)) fun x27 => go4 x27 gl16
def m9_run_Edges_L4B (go4 : Int → (List Bool) → Option ((List TEdge) × Int)) (l23 : (List TOp)) (x20 : TOp) (x1 : (List Bool)) (gx12 : Int) (go3 : Int → (List Bool) → Option ((List TEdge) × Int)) (gx15 : Int) (gl16 : (List Bool)) : Option ((List TEdge) × Int) :=
  if gx15 < (l23.length : Int) then bind1 (idx l23 gx15) fun x25 => bind1 (m41_run_clash x20 x25) fun b38 => if b38 = true then bind1 (idxA 12 x1 x20.Tx) fun x40 => if x40 = true then m9_run_Edges_K6 x1 x25 x20 gl16 gx15 go4 true else m9_run_Edges_K6 x1 x25 x20 gl16 gx15 go4 false else m9_run_Edges_K6 x1 x25 x20 gl16 gx15 go4 false else m9_run_Edges_K5 gx12 go3 gl16
def m9_run_Edges_L4 (l23 : (List TOp)) (x20 : TOp) (x1 : (List Bool)) (gx12 : Int) (go3 : Int → (List Bool) → Option ((List TEdge) × Int)) : Nat → Int → (List Bool) → Option ((List TEdge) × Int)
  | 0, _, _ => none
  | n + 1, gx15, gl16 => m9_run_Edges_L4B (m9_run_Edges_L4 l23 x20 x1 gx12 go3 n) l23 x20 x1 gx12 go3 gx15 gl16
def m9_run_Edges_L3B (go3 : Int → (List Bool) → Option ((List TEdge) × Int)) (a0 : (List TOp)) (x1 : (List Bool)) (gx12 : Int) (gl13 : (List Bool)) : Option ((List TEdge) × Int) :=
  if gx12 < (a0.length : Int) then bind1 (idx a0 gx12) fun x20 => bind1 (i64 (gx12 + 1)) fun x22 => bind1 (cut a0 x22 a0.length) fun l23 => m9_run_Edges_L4 l23 x20 x1 gx12 go3 big 0 gl13 else m9_run_Edges_K2 gl13
def m9_run_Edges_L3 (a0 : (List TOp)) (x1 : (List Bool)) : Nat → Int → (List Bool) → Option ((List TEdge) × Int)
  | 0, _, _ => none
  | n + 1, gx12, gl13 => m9_run_Edges_L3B (m9_run_Edges_L3 a0 x1 n) a0 x1 gx12 gl13
def m9_run_Edges_K1 (a0 : (List TOp)) : Option ((List TEdge) × Int) :=
  bind1 (m40_run_ended a0 3) fun x1 => bind1 (arrN 12 (List.replicate 12 (false : Bool))) fun _ => bind1 (arrN 12 x1) fun _ => m9_run_Edges_L3 a0 x1 big 0 (List.replicate 144 (false : Bool))
def m9_run_Edges (a0 : (List TOp)) : Option ((List TEdge) × Int) :=
  bind1 (m12_run_Check a0) fun x42 => if x42 ≠ 0 then some ([], x42) else m9_run_Edges_K1 a0
def m109_graph_Check_K3 : Option Int :=
  some 0
def m109_graph_Check_K4 (x2 : TEdge) (a0 : Int) (gx1 : Int) (go1 : Int → Option Int) (gb2 : Bool) : Option Int :=
  if gb2 = true then some 4 else if x2.To < 0 then some 4 else if a0 ≤ x2.To then some 4 else bind1 (i64 (gx1 + 1)) fun x6 => go1 x6
def m109_graph_Check_L1B (go1 : Int → Option Int) (a1 : (List TEdge)) (a0 : Int) (gx1 : Int) : Option Int :=
  if gx1 < (a1.length : Int) then bind1 (idx a1 gx1) fun x2 => if x2.From < 0 then m109_graph_Check_K4 x2 a0 gx1 go1 true else if a0 ≤ x2.From then m109_graph_Check_K4 x2 a0 gx1 go1 true else m109_graph_Check_K4 x2 a0 gx1 go1 false else m109_graph_Check_K3
def m109_graph_Check_L1 (a1 : (List TEdge)) (a0 : Int) : Nat → Int → Option Int
  | 0, _ => none
  | n + 1, gx1 => m109_graph_Check_L1B (m109_graph_Check_L1 a1 a0 n) a1 a0 gx1
def m109_graph_Check_K2 (a1 : (List TEdge)) (a0 : Int) : Option Int :=
  m109_graph_Check_L1 a1 a0 big 0
def m109_graph_Check_K1 (a1 : (List TEdge)) (a0 : Int) : Option Int :=
  if 2000 < (a1.length : Int) then some 2 else m109_graph_Check_K2 a1 a0
def m109_graph_Check (a0 : Int) (a1 : (List TEdge)) : Option Int :=
  if a0 < 0 then some 1 else if 60 < a0 then some 1 else m109_graph_Check_K1 a1 a0
def m110_graph_next_K2 (gl3 : (List (List Int))) : Option (List (List Int)) :=
  some gl3
def m110_graph_next_L1B (go1 : (List (List Int)) → Int → Option (List (List Int))) (gl1 : (List (List Int))) (gl5 : (List (List Int))) (gx7 : Int) : Option (List (List Int)) :=
  if gx7 < (gl1.length : Int) then bind1 (idx gl5 gx7) fun x4 => bind1 (xSort x4) fun l5 => bind1 (upd gl5 gx7 l5) fun l6 => bind1 (idx l6 gx7) fun x7 => bind1 (xCompact x7) fun l8 => bind1 (idx l6 gx7) fun x10 => bind1 (upd l6 gx7 l8) fun l11 => bind1 (i64 (gx7 + 1)) fun x13 => go1 l11 x13 else m110_graph_next_K2 gl5
def m110_graph_next_L1 (gl1 : (List (List Int))) : Nat → (List (List Int)) → Int → Option (List (List Int))
  | 0, _, _ => none
  | n + 1, gl5, gx7 => m110_graph_next_L1B (m110_graph_next_L1 gl1 n) gl1 gl5 gx7
def m110_graph_next_K1 (gl1 : (List (List Int))) : Option (List (List Int)) :=
  m110_graph_next_L1 gl1 big gl1 0
def m110_graph_next_L2B (go2 : (List (List Int)) → Int → Option (List (List Int))) (a1 : (List TEdge)) (gl8 : (List (List Int))) (gx10 : Int) : Option (List (List Int)) :=
  if gx10 < (a1.length : Int) then bind1 (idx a1 gx10) fun x15 => bind1 (idx gl8 x15.From) fun x35 => bind1 (app x35 ([x15.To])) fun l38 => bind1 (idx gl8 x15.From) fun x39 => bind1 (upd gl8 x15.From l38) fun l40 => bind1 (i64 (gx10 + 1)) fun x42 => go2 l40 x42 else m110_graph_next_K1 gl8
def m110_graph_next_L2 (a1 : (List TEdge)) : Nat → (List (List Int)) → Int → Option (List (List Int))
  | 0, _, _ => none
  | n + 1, gl8, gx10 => m110_graph_next_L2B (m110_graph_next_L2 a1 n) a1 gl8 gx10
def m110_graph_next (a0 : Int) (a1 : (List TEdge)) : Option (List (List Int)) :=
  bind1 (mk a0 ([] : (List Int))) fun l1 => m110_graph_next_L2 a1 big l1 0
def m56_slices_Index_int_K1 : Option Int :=
  some (-1)
def m56_slices_Index_int_L1B (go1 : Int → Option Int) (a0 : (List Int)) (a1 : Int) (gx1 : Int) : Option Int :=
  if gx1 < (a0.length : Int) then bind1 (idx a0 gx1) fun x2 => if a1 = x2 then some gx1 else bind1 (i64 (gx1 + 1)) fun x4 => go1 x4 else m56_slices_Index_int_K1
def m56_slices_Index_int_L1 (a0 : (List Int)) (a1 : Int) : Nat → Int → Option Int
  | 0, _ => none
  | n + 1, gx1 => m56_slices_Index_int_L1B (m56_slices_Index_int_L1 a0 a1 n) a0 a1 gx1
def m56_slices_Index_int (a0 : (List Int)) (a1 : Int) : Option Int :=
  m56_slices_Index_int_L1 a0 a1 big 0
def m42_graph_Order_K3 (gl3 : (List Int)) : Option ((List Int) × Int) :=
  some (gl3, 0)
def m42_graph_Order_K6 (gl6 : (List Int)) (x7 : Int) (go1 : (List Int) → (List Int) → Option ((List Int) × Int)) (gl7 : (List Int)) : Option ((List Int) × Int) :=
  bind1 (app gl6 ([x7])) fun l13 => go1 gl7 l13
def m42_graph_Order_L2B (go2 : (List Int) → Int → Option ((List Int) × Int)) (x14 : (List Int)) (gl6 : (List Int)) (x7 : Int) (go1 : (List Int) → (List Int) → Option ((List Int) × Int)) (gl8 : (List Int)) (gx9 : Int) : Option ((List Int) × Int) :=
  if gx9 < (x14.length : Int) then bind1 (idx x14 gx9) fun x16 => bind1 (idx gl8 x16) fun x17 => bind1 (i64 (x17 - 1)) fun x18 => bind1 (idx gl8 x16) fun x19 => bind1 (upd gl8 x16 x18) fun l20 => bind1 (i64 (gx9 + 1)) fun x21 => go2 l20 x21 else m42_graph_Order_K6 gl6 x7 go1 gl8
def m42_graph_Order_L2 (x14 : (List Int)) (gl6 : (List Int)) (x7 : Int) (go1 : (List Int) → (List Int) → Option ((List Int) × Int)) : Nat → (List Int) → Int → Option ((List Int) × Int)
  | 0, _, _ => none
  | n + 1, gl8, gx9 => m42_graph_Order_L2B (m42_graph_Order_L2 x14 gl6 x7 go1 n) x14 gl6 x7 go1 gl8 gx9
def m42_graph_Order_K5 (gl4 : (List Int)) (x7 : Int) (l1 : (List (List Int))) (gl6 : (List Int)) (go1 : (List Int) → (List Int) → Option ((List Int) × Int)) : Option ((List Int) × Int) :=
  bind1 (idx gl4 x7) fun x9 => bind1 (upd gl4 x7 (-1)) fun l10 => bind1 (idx l1 x7) fun x14 => m42_graph_Order_L2 x14 gl6 x7 go1 big l10 0
def m42_graph_Order_K4 (gl4 : (List Int)) (l1 : (List (List Int))) (gl6 : (List Int)) (go1 : (List Int) → (List Int) → Option ((List Int) × Int)) : Option ((List Int) × Int) :=
  bind1 (m56_slices_Index_int gl4 0) fun x7 => if x7 < 0 then some ([], 11) else m42_graph_Order_K5 gl4 x7 l1 gl6 go1
def m42_graph_Order_L1B (go1 : (List Int) → (List Int) → Option ((List Int) × Int)) (a0 : Int) (l1 : (List (List Int))) (gl4 : (List Int)) (gl6 : (List Int)) : Option ((List Int) × Int) :=
  if (gl6.length : Int) < a0 then m42_graph_Order_K4 gl4 l1 gl6 go1 else m42_graph_Order_K3 gl6
def m42_graph_Order_L1 (a0 : Int) (l1 : (List (List Int))) : Nat → (List Int) → (List Int) → Option ((List Int) × Int)
  | 0, _, _ => none
  | n + 1, gl4, gl6 => m42_graph_Order_L1B (m42_graph_Order_L1 a0 l1 n) a0 l1 gl4 gl6
def m42_graph_Order_K2 (a0 : Int) (l1 : (List (List Int))) (gl1 : (List Int)) : Option ((List Int) × Int) :=
  m42_graph_Order_L1 a0 l1 big gl1 []
def m42_graph_Order_K7 (gx11 : Int) (go3 : (List Int) → Int → Option ((List Int) × Int)) (gl12 : (List Int)) : Option ((List Int) × Int) :=
  bind1 (i64 (gx11 + 1)) fun x25 => go3 gl12 x25
def m42_graph_Order_L4B (go4 : (List Int) → Int → Option ((List Int) × Int)) (x26 : (List Int)) (gx11 : Int) (go3 : (List Int) → Int → Option ((List Int) × Int)) (gl13 : (List Int)) (gx14 : Int) : Option ((List Int) × Int) :=
  if gx14 < (x26.length : Int) then bind1 (idx x26 gx14) fun x28 => bind1 (idx gl13 x28) fun x29 => bind1 (i64 (x29 + 1)) fun x30 => bind1 (idx gl13 x28) fun x31 => bind1 (upd gl13 x28 x30) fun l32 => bind1 (i64 (gx14 + 1)) fun x33 => go4 l32 x33 else m42_graph_Order_K7 gx11 go3 gl13
def m42_graph_Order_L4 (x26 : (List Int)) (gx11 : Int) (go3 : (List Int) → Int → Option ((List Int) × Int)) : Nat → (List Int) → Int → Option ((List Int) × Int)
  | 0, _, _ => none
  | n + 1, gl13, gx14 => m42_graph_Order_L4B (m42_graph_Order_L4 x26 gx11 go3 n) x26 gx11 go3 gl13 gx14
def m42_graph_Order_L3B (go3 : (List Int) → Int → Option ((List Int) × Int)) (l1 : (List (List Int))) (a0 : Int) (gl10 : (List Int)) (gx11 : Int) : Option ((List Int) × Int) :=
  if gx11 < (l1.length : Int) then bind1 (idx l1 gx11) fun x26 => m42_graph_Order_L4 x26 gx11 go3 big gl10 0 else m42_graph_Order_K2 a0 l1 gl10
def m42_graph_Order_L3 (l1 : (List (List Int))) (a0 : Int) : Nat → (List Int) → Int → Option ((List Int) × Int)
  | 0, _, _ => none
  | n + 1, gl10, gx11 => m42_graph_Order_L3B (m42_graph_Order_L3 l1 a0 n) l1 a0 gl10 gx11
def m42_graph_Order_K1 (a0 : Int) (a1 : (List TEdge)) : Option ((List Int) × Int) :=
  bind1 (m110_graph_next a0 a1) fun l1 => bind1 (mk a0 0) fun l5 => m42_graph_Order_L3 l1 a0 big l5 0
def m42_graph_Order (a0 : Int) (a1 : (List TEdge)) : Option ((List Int) × Int) :=
  bind1 (m109_graph_Check a0 a1) fun x34 => if x34 ≠ 0 then some ([], x34) else m42_graph_Order_K1 a0 a1
def m10_run_Serial_K3 (gl2 : (List Int)) : Option ((List Int) × Int) :=
  some (gl2, 0)
def m10_run_Serial_K6 (gl4 : (List Int)) (gx5 : Int) : Option ((List Int) × Int) :=
  bind1 (cut gl4 gx5 gl4.length) fun l14 => bind1 (clr gl4 gx5 0) fun l15 => bind1 (cut l15 0 gx5) fun l16 => m10_run_Serial_K3 l16
def m10_run_Serial_K8 (gx8 : Int) (go1 : (List Int) → Int → Int → Option ((List Int) × Int)) (gl6 : (List Int)) (gx7 : Int) (x19 : Int) (gb9 : Bool) : Option ((List Int) × Int) :=
  if gb9 = true then bind1 (i64 (gx8 + 1)) fun x24 => go1 gl6 gx7 x24 else bind1 (idx gl6 gx7) fun x20 => bind1 (upd gl6 gx7 x19) fun l21 => bind1 (i64 (gx7 + 1)) fun x22 => bind1 (i64 (gx8 + 1)) fun x23 => go1 l21 x22 x23
def m10_run_Serial_K7 (gl6 : (List Int)) (gx8 : Int) (x9 : (List Bool)) (go1 : (List Int) → Int → Int → Option ((List Int) × Int)) (gx7 : Int) : Option ((List Int) × Int) :=
  bind1 (idx gl6 gx8) fun x19 => bind1 (idxA 12 x9 x19) fun x25 => m10_run_Serial_K8 gx8 go1 gl6 gx7 x19 (!x25)
def m10_run_Serial_L1B (go1 : (List Int) → Int → Int → Option ((List Int) × Int)) (x9 : (List Bool)) (gl6 : (List Int)) (gx7 : Int) (gx8 : Int) : Option ((List Int) × Int) :=
  if gx8 < (gl6.length : Int) then m10_run_Serial_K7 gl6 gx8 x9 go1 gx7 else m10_run_Serial_K6 gl6 gx7
def m10_run_Serial_L1 (x9 : (List Bool)) : Nat → (List Int) → Int → Int → Option ((List Int) × Int)
  | 0, _, _, _ => none
  | n + 1, gl6, gx7, gx8 => m10_run_Serial_L1B (m10_run_Serial_L1 x9 n) x9 gl6 gx7 gx8
def m10_run_Serial_K5 (gx3 : Int) (x9 : (List Bool)) (l5 : (List Int)) : Option ((List Int) × Int) :=
  bind1 (i64 (gx3 + 1)) fun x18 => m10_run_Serial_L1 x9 big l5 gx3 x18
def m10_run_Serial_K4 (l5 : (List Int)) (x9 : (List Bool)) (gx3 : Int) : Option ((List Int) × Int) :=
  if gx3 = (-1) then m10_run_Serial_K3 l5 else m10_run_Serial_K5 gx3 x9 l5
def m10_run_Serial_K9 (l5 : (List Int)) (x9 : (List Bool)) : Option ((List Int) × Int) :=
  m10_run_Serial_K4 l5 x9 (-1)
def m10_run_Serial_K10 (l5 : (List Int)) (x9 : (List Bool)) (gx10 : Int) (go2 : Int → Option ((List Int) × Int)) (gb11 : Bool) : Option ((List Int) × Int) :=
  if gb11 = true then m10_run_Serial_K4 l5 x9 gx10 else bind1 (i64 (gx10 + 1)) fun x30 => go2 x30
def m10_run_Serial_L2B (go2 : Int → Option ((List Int) × Int)) (l5 : (List Int)) (x9 : (List Bool)) (gx10 : Int) : Option ((List Int) × Int) :=
  if gx10 < (l5.length : Int) then bind1 (idx l5 gx10) fun x29 => bind1 (idxA 12 x9 x29) fun x31 => m10_run_Serial_K10 l5 x9 gx10 go2 (!x31) else m10_run_Serial_K9 l5 x9
def m10_run_Serial_L2 (l5 : (List Int)) (x9 : (List Bool)) : Nat → Int → Option ((List Int) × Int)
  | 0, _ => none
  | n + 1, gx10 => m10_run_Serial_L2B (m10_run_Serial_L2 l5 x9 n) l5 x9 gx10
def m10_run_Serial_K2 (a0 : (List TOp)) (l5 : (List Int)) : Option ((List Int) × Int) :=
  bind1 (m40_run_ended a0 3) fun x9 => bind1 (arrN 12 (List.replicate 12 (false : Bool))) fun _ => bind1 (arrN 12 x9) fun _ => m10_run_Serial_L2 l5 x9 big 0
def m10_run_Serial_K1 (l1 : (List TEdge)) (a0 : (List TOp)) : Option ((List Int) × Int) :=
  bind2 (m42_graph_Order 12 l1) fun l5 x7 => if x7 ≠ 0 then some ([], x7) else m10_run_Serial_K2 a0 l5
def m10_run_Serial (a0 : (List TOp)) : Option ((List Int) × Int) :=
  bind2 (m9_run_Edges a0) fun l1 x3 => if x3 ≠ 0 then some ([], x3) else m10_run_Serial_K1 l1 a0
def m11_run_Kinds_K2 (gb1 : Bool) (gb2 : Bool) (gb3 : Bool) : Option (TRunKind × Int) :=
  some ((⟨gb1, gb2, gb3⟩ : TRunKind), 0)
def m11_run_Kinds_K3 (gx4 : Int) (go1 : Int → (List (List Int)) → (List (List Int)) → (List Int) → Bool → Bool → Bool → Option (TRunKind × Int)) (gl13 : (List (List Int))) (gl15 : (List (List Int))) (gl17 : (List Int)) (gb18 : Bool) (gb19 : Bool) (gb20 : Bool) : Option (TRunKind × Int) :=
  bind1 (i64 (gx4 + 1)) fun x9 => go1 x9 gl13 gl15 gl17 gb18 gb19 gb20
def m11_run_Kinds_K6 (x10 : TOp) (gl7 : (List (List Int))) (gx4 : Int) (go1 : Int → (List (List Int)) → (List (List Int)) → (List Int) → Bool → Bool → Bool → Option (TRunKind × Int)) (gl9 : (List Int)) (gb10 : Bool) (gl23 : (List (List Int))) (gb25 : Bool) (gb26 : Bool) : Option (TRunKind × Int) :=
  if x10.Kind = 2 then bind1 (idxA 20 gl7 x10.Item) fun x31 => bind1 (app x31 ([x10.Tx])) fun l34 => bind1 (idxA 20 gl7 x10.Item) fun x35 => bind1 (upd gl7 x10.Item l34) fun l36 => m11_run_Kinds_K3 gx4 go1 gl23 l36 gl9 gb10 gb25 gb26 else m11_run_Kinds_K3 gx4 go1 gl23 gl7 gl9 gb10 gb25 gb26
def m11_run_Kinds_K9 (gl5 : (List (List Int))) (x10 : TOp) (x42 : Int) (gl7 : (List (List Int))) (gx4 : Int) (go1 : Int → (List (List Int)) → (List (List Int)) → (List Int) → Bool → Bool → Bool → Option (TRunKind × Int)) (gl9 : (List Int)) (gb10 : Bool) (gb28 : Bool) (gb29 : Bool) : Option (TRunKind × Int) :=
  bind1 (idxA 12 gl5 x10.Tx) fun x63 => bind1 (app x63 ([x42])) fun l66 => bind1 (idxA 12 gl5 x10.Tx) fun x67 => bind1 (upd gl5 x10.Tx l66) fun l68 => m11_run_Kinds_K6 x10 gl7 gx4 go1 gl9 gb10 l68 gb29 gb28
def m11_run_Kinds_K8 (x10 : TOp) (x42 : Int) (gb11 : Bool) (gl5 : (List (List Int))) (gl7 : (List (List Int))) (gx4 : Int) (go1 : Int → (List (List Int)) → (List (List Int)) → (List Int) → Bool → Bool → Bool → Option (TRunKind × Int)) (gl9 : (List Int)) (gb10 : Bool) (gb27 : Bool) (gb28 : Bool) : Option (TRunKind × Int) :=
  if x10.Kind = 1 then if x42 ≠ x10.Tx then if gb11 = true then m11_run_Kinds_K9 gl5 x10 x42 gl7 gx4 go1 gl9 gb10 gb28 (!gb27) else m11_run_Kinds_K9 gl5 x10 x42 gl7 gx4 go1 gl9 gb10 gb28 false else m11_run_Kinds_K6 x10 gl7 gx4 go1 gl9 gb10 gl5 gb11 gb28 else m11_run_Kinds_K6 x10 gl7 gx4 go1 gl9 gb10 gl5 gb11 gb28
def m11_run_Kinds_K7 (gb12 : Bool) (x10 : TOp) (x42 : Int) (gb11 : Bool) (gl5 : (List (List Int))) (gl7 : (List (List Int))) (gx4 : Int) (go1 : Int → (List (List Int)) → (List (List Int)) → (List Int) → Bool → Bool → Bool → Option (TRunKind × Int)) (gl9 : (List Int)) (gb10 : Bool) (gb27 : Bool) : Option (TRunKind × Int) :=
  if gb12 = true then m11_run_Kinds_K8 x10 x42 gb11 gl5 gl7 gx4 go1 gl9 gb10 gb27 (!gb27) else m11_run_Kinds_K8 x10 x42 gb11 gl5 gl7 gx4 go1 gl9 gb10 gb27 false
def m11_run_Kinds_K10 (gl31 : (List (List Int))) (gx30 : Int) (go2 : Int → (List (List Int)) → Option (TRunKind × Int)) (gl34 : (List Int)) : Option (TRunKind × Int) :=
  bind1 (idxA 20 gl31 gx30) fun x78 => bind1 (upd gl31 gx30 gl34) fun l79 => bind1 (i64 (gx30 + 1)) fun x81 => go2 x81 l79
def m11_run_Kinds_K13 (gl31 : (List (List Int))) (gx30 : Int) (go2 : Int → (List (List Int)) → Option (TRunKind × Int)) (gl36 : (List Int)) (gx37 : Int) : Option (TRunKind × Int) :=
  bind1 (cut gl36 gx37 gl36.length) fun l82 => bind1 (clr gl36 gx37 0) fun l83 => bind1 (cut l83 0 gx37) fun l84 => m11_run_Kinds_K10 gl31 gx30 go2 l84
def m11_run_Kinds_K15 (x87 : Int) (x10 : TOp) (gl38 : (List Int)) (gx39 : Int) (gx40 : Int) (go3 : (List Int) → Int → Int → Option (TRunKind × Int)) : Option (TRunKind × Int) :=
  if (!(decide (x87 = x10.Tx))) = true then bind1 (idx gl38 gx39) fun x89 => bind1 (upd gl38 gx39 x87) fun l90 => bind1 (i64 (gx39 + 1)) fun x91 => bind1 (i64 (gx40 + 1)) fun x92 => go3 l90 x91 x92 else bind1 (i64 (gx40 + 1)) fun x93 => go3 gl38 gx39 x93
def m11_run_Kinds_K14 (gl38 : (List Int)) (gx40 : Int) (x10 : TOp) (gx39 : Int) (go3 : (List Int) → Int → Int → Option (TRunKind × Int)) : Option (TRunKind × Int) :=
  bind1 (idx gl38 gx40) fun x87 => m11_run_Kinds_K15 x87 x10 gl38 gx39 gx40 go3
def m11_run_Kinds_L3B (go3 : (List Int) → Int → Int → Option (TRunKind × Int)) (x10 : TOp) (gl31 : (List (List Int))) (gx30 : Int) (go2 : Int → (List (List Int)) → Option (TRunKind × Int)) (gl38 : (List Int)) (gx39 : Int) (gx40 : Int) : Option (TRunKind × Int) :=
  if gx40 < (gl38.length : Int) then m11_run_Kinds_K14 gl38 gx40 x10 gx39 go3 else m11_run_Kinds_K13 gl31 gx30 go2 gl38 gx39
def m11_run_Kinds_L3 (x10 : TOp) (gl31 : (List (List Int))) (gx30 : Int) (go2 : Int → (List (List Int)) → Option (TRunKind × Int)) : Nat → (List Int) → Int → Int → Option (TRunKind × Int)
  | 0, _, _, _ => none
  | n + 1, gl38, gx39, gx40 => m11_run_Kinds_L3B (m11_run_Kinds_L3 x10 gl31 gx30 go2 n) x10 gl31 gx30 go2 gl38 gx39 gx40
def m11_run_Kinds_K12 (gx35 : Int) (x10 : TOp) (gl31 : (List (List Int))) (gx30 : Int) (go2 : Int → (List (List Int)) → Option (TRunKind × Int)) (x77 : (List Int)) : Option (TRunKind × Int) :=
  bind1 (i64 (gx35 + 1)) fun x86 => m11_run_Kinds_L3 x10 gl31 gx30 go2 big x77 gx35 x86
def m11_run_Kinds_K11 (gl31 : (List (List Int))) (gx30 : Int) (go2 : Int → (List (List Int)) → Option (TRunKind × Int)) (x77 : (List Int)) (x10 : TOp) (gx35 : Int) : Option (TRunKind × Int) :=
  if gx35 = (-1) then m11_run_Kinds_K10 gl31 gx30 go2 x77 else m11_run_Kinds_K12 gx35 x10 gl31 gx30 go2 x77
def m11_run_Kinds_K16 (gl31 : (List (List Int))) (gx30 : Int) (go2 : Int → (List (List Int)) → Option (TRunKind × Int)) (x77 : (List Int)) (x10 : TOp) : Option (TRunKind × Int) :=
  m11_run_Kinds_K11 gl31 gx30 go2 x77 x10 (-1)
def m11_run_Kinds_K17 (x97 : Int) (x10 : TOp) (gl31 : (List (List Int))) (gx30 : Int) (go2 : Int → (List (List Int)) → Option (TRunKind × Int)) (x77 : (List Int)) (gx41 : Int) (go4 : Int → Option (TRunKind × Int)) : Option (TRunKind × Int) :=
  if (decide (x97 = x10.Tx)) = true then m11_run_Kinds_K11 gl31 gx30 go2 x77 x10 gx41 else bind1 (i64 (gx41 + 1)) fun x98 => go4 x98
def m11_run_Kinds_L4B (go4 : Int → Option (TRunKind × Int)) (x77 : (List Int)) (x10 : TOp) (gl31 : (List (List Int))) (gx30 : Int) (go2 : Int → (List (List Int)) → Option (TRunKind × Int)) (gx41 : Int) : Option (TRunKind × Int) :=
  if gx41 < (x77.length : Int) then bind1 (idx x77 gx41) fun x97 => m11_run_Kinds_K17 x97 x10 gl31 gx30 go2 x77 gx41 go4 else m11_run_Kinds_K16 gl31 gx30 go2 x77 x10
def m11_run_Kinds_L4 (x77 : (List Int)) (x10 : TOp) (gl31 : (List (List Int))) (gx30 : Int) (go2 : Int → (List (List Int)) → Option (TRunKind × Int)) : Nat → Int → Option (TRunKind × Int)
  | 0, _ => none
  | n + 1, gx41 => m11_run_Kinds_L4B (m11_run_Kinds_L4 x77 x10 gl31 gx30 go2 n) x77 x10 gl31 gx30 go2 gx41
def m11_run_Kinds_L2B (go2 : Int → (List (List Int)) → Option (TRunKind × Int)) (x10 : TOp) (gx4 : Int) (go1 : Int → (List (List Int)) → (List (List Int)) → (List Int) → Bool → Bool → Bool → Option (TRunKind × Int)) (gl5 : (List (List Int))) (l75 : (List Int)) (gb10 : Bool) (gb11 : Bool) (gb12 : Bool) (gx30 : Int) (gl31 : (List (List Int))) : Option (TRunKind × Int) :=
  if gx30 < 20 then bind1 (idxA 20 gl31 gx30) fun x77 => m11_run_Kinds_L4 x77 x10 gl31 gx30 go2 big 0 else m11_run_Kinds_K3 gx4 go1 gl5 gl31 l75 gb10 gb11 gb12
def m11_run_Kinds_L2 (x10 : TOp) (gx4 : Int) (go1 : Int → (List (List Int)) → (List (List Int)) → (List Int) → Bool → Bool → Bool → Option (TRunKind × Int)) (gl5 : (List (List Int))) (l75 : (List Int)) (gb10 : Bool) (gb11 : Bool) (gb12 : Bool) : Nat → Int → (List (List Int)) → Option (TRunKind × Int)
  | 0, _, _ => none
  | n + 1, gx30, gl31 => m11_run_Kinds_L2B (m11_run_Kinds_L2 x10 gx4 go1 gl5 l75 gb10 gb11 gb12 n) x10 gx4 go1 gl5 l75 gb10 gb11 gb12 gx30 gl31
def m11_run_Kinds_K5 (gl9 : (List Int)) (x10 : TOp) (gx4 : Int) (go1 : Int → (List (List Int)) → (List (List Int)) → (List Int) → Bool → Bool → Bool → Option (TRunKind × Int)) (gl5 : (List (List Int))) (gb10 : Bool) (gb11 : Bool) (gb12 : Bool) (gl7 : (List (List Int))) (gb22 : Bool) : Option (TRunKind × Int) :=
  if gb22 = true then bind1 (idxA 12 gl9 x10.Tx) fun x74 => bind1 (upd gl9 x10.Tx 4) fun l75 => m11_run_Kinds_L2 x10 gx4 go1 gl5 l75 gb10 gb11 gb12 big 0 gl7 else bind1 (idxA 20 gl7 x10.Item) fun x38 => if 0 < (x38.length : Int) then bind1 (idxA 20 gl7 x10.Item) fun x40 => bind1 (i64 ((x38.length : Int) - 1)) fun x41 => bind1 (idx x40 x41) fun x42 => if x42 ≠ x10.Tx then bind1 (idxA 12 gl9 x42) fun x73 => m11_run_Kinds_K7 gb12 x10 x42 gb11 gl5 gl7 gx4 go1 gl9 gb10 (decide (x73 = 0)) else m11_run_Kinds_K7 gb12 x10 x42 gb11 gl5 gl7 gx4 go1 gl9 gb10 false else m11_run_Kinds_K6 x10 gl7 gx4 go1 gl9 gb10 gl5 gb11 gb12
def m11_run_Kinds_K18 (gl9 : (List Int)) (x10 : TOp) (gx4 : Int) (go1 : Int → (List (List Int)) → (List (List Int)) → (List Int) → Bool → Bool → Bool → Option (TRunKind × Int)) (gl5 : (List (List Int))) (gl7 : (List (List Int))) (gb11 : Bool) (gb12 : Bool) (gb42 : Bool) : Option (TRunKind × Int) :=
  bind1 (idxA 12 gl9 x10.Tx) fun x100 => bind1 (upd gl9 x10.Tx 3) fun l101 => m11_run_Kinds_K3 gx4 go1 gl5 gl7 l101 gb42 gb11 gb12
def m11_run_Kinds_L5B (go5 : Int → Bool → Option (TRunKind × Int)) (x102 : (List Int)) (gl9 : (List Int)) (x10 : TOp) (gx4 : Int) (go1 : Int → (List (List Int)) → (List (List Int)) → (List Int) → Bool → Bool → Bool → Option (TRunKind × Int)) (gl5 : (List (List Int))) (gl7 : (List (List Int))) (gb11 : Bool) (gb12 : Bool) (gx43 : Int) (gb44 : Bool) : Option (TRunKind × Int) :=
  if gx43 < (x102.length : Int) then bind1 (idx x102 gx43) fun x104 => if gb44 = true then bind1 (idxA 12 gl9 x104) fun x106 => bind1 (i64 (gx43 + 1)) fun x107 => go5 x107 (decide (x106 = 3)) else bind1 (i64 (gx43 + 1)) fun x108 => go5 x108 false else m11_run_Kinds_K18 gl9 x10 gx4 go1 gl5 gl7 gb11 gb12 gb44
def m11_run_Kinds_L5 (x102 : (List Int)) (gl9 : (List Int)) (x10 : TOp) (gx4 : Int) (go1 : Int → (List (List Int)) → (List (List Int)) → (List Int) → Bool → Bool → Bool → Option (TRunKind × Int)) (gl5 : (List (List Int))) (gl7 : (List (List Int))) (gb11 : Bool) (gb12 : Bool) : Nat → Int → Bool → Option (TRunKind × Int)
  | 0, _, _ => none
  | n + 1, gx43, gb44 => m11_run_Kinds_L5B (m11_run_Kinds_L5 x102 gl9 x10 gx4 go1 gl5 gl7 gb11 gb12 n) x102 gl9 x10 gx4 go1 gl5 gl7 gb11 gb12 gx43 gb44
def m11_run_Kinds_K4 (gl5 : (List (List Int))) (x10 : TOp) (gl9 : (List Int)) (gx4 : Int) (go1 : Int → (List (List Int)) → (List (List Int)) → (List Int) → Bool → Bool → Bool → Option (TRunKind × Int)) (gl7 : (List (List Int))) (gb11 : Bool) (gb12 : Bool) (gb10 : Bool) (gb21 : Bool) : Option (TRunKind × Int) :=
  if gb21 = true then bind1 (idxA 12 gl5 x10.Tx) fun x102 => m11_run_Kinds_L5 x102 gl9 x10 gx4 go1 gl5 gl7 gb11 gb12 big 0 gb10 else if x10.Kind = 4 then m11_run_Kinds_K5 gl9 x10 gx4 go1 gl5 gb10 gb11 gb12 gl7 true else m11_run_Kinds_K5 gl9 x10 gx4 go1 gl5 gb10 gb11 gb12 gl7 false
def m11_run_Kinds_L1B (go1 : Int → (List (List Int)) → (List (List Int)) → (List Int) → Bool → Bool → Bool → Option (TRunKind × Int)) (a0 : (List TOp)) (gx4 : Int) (gl5 : (List (List Int))) (gl7 : (List (List Int))) (gl9 : (List Int)) (gb10 : Bool) (gb11 : Bool) (gb12 : Bool) : Option (TRunKind × Int) :=
  if gx4 < (a0.length : Int) then bind1 (idx a0 gx4) fun x10 => if x10.Kind = 3 then m11_run_Kinds_K4 gl5 x10 gl9 gx4 go1 gl7 gb11 gb12 gb10 true else m11_run_Kinds_K4 gl5 x10 gl9 gx4 go1 gl7 gb11 gb12 gb10 false else m11_run_Kinds_K2 gb10 gb11 gb12
def m11_run_Kinds_L1 (a0 : (List TOp)) : Nat → Int → (List (List Int)) → (List (List Int)) → (List Int) → Bool → Bool → Bool → Option (TRunKind × Int)
  | 0, _, _, _, _, _, _, _ => none
  | n + 1, gx4, gl5, gl7, gl9, gb10, gb11, gb12 => m11_run_Kinds_L1B (m11_run_Kinds_L1 a0 n) a0 gx4 gl5 gl7 gl9 gb10 gb11 gb12
def m11_run_Kinds_K1 (a0 : (List TOp)) : Option (TRunKind × Int) :=
  bind1 (arrN 12 (List.replicate 12 (0 : Int))) fun _ => bind1 (arrN 12 (List.replicate 12 (0 : Int))) fun _ => m11_run_Kinds_L1 a0 big 0 (List.replicate 12 ([] : (List Int))) (List.replicate 20 ([] : (List Int))) (List.replicate 12 (0 : Int)) true true true
def m11_run_Kinds (a0 : (List TOp)) : Option (TRunKind × Int) :=
  bind1 (m12_run_Check a0) fun x110 => if x110 ≠ 0 then some ((⟨false, false, false⟩ : TRunKind), x110) else m11_run_Kinds_K1 a0
def m132_api_Op_K1 : Option Int :=
  some (-1)
def m132_api_Op_L1B (go1 : Int → Option Int) (a0 : (List TOp)) (a1 : TOp) (gx1 : Int) : Option Int :=
  if gx1 < (a0.length : Int) then bind1 (idx a0 gx1) fun x3 => if a1 = x3 then some gx1 else bind1 (i64 (gx1 + 1)) fun x5 => go1 x5 else m132_api_Op_K1
def m132_api_Op_L1 (a0 : (List TOp)) (a1 : TOp) : Nat → Int → Option Int
  | 0, _ => none
  | n + 1, gx1 => m132_api_Op_L1B (m132_api_Op_L1 a0 a1 n) a0 a1 gx1
def m132_api_Op (a0 : (List TOp)) (a1 : TOp) : Option Int :=
  m132_api_Op_L1 a0 a1 big 0
def m113_api_Op (a0 : (List TOp)) (a1 : TOp) : Option Bool :=
  bind1 (m132_api_Op a0 a1) fun x2 => some (decide (0 ≤ x2))
def m49_quirref_has (a0 : (List TOp)) (a1 : Int) (a2 : Int) : Option Bool :=
  bind1 (m113_api_Op a0 (⟨a1, a2, 0⟩ : TOp)) fun b1 => some b1
def m50_quirref_clash_K2 (a0 : TOp) (a1 : TOp) (gb2 : Bool) : Option Bool :=
  if gb2 = true then bind1 (i64 (a0.Kind + a1.Kind)) fun x3 => some (decide (2 < x3)) else some false
def m50_quirref_clash_K1 (a0 : TOp) (a1 : TOp) (gb1 : Bool) : Option Bool :=
  if gb1 = true then if a0.Kind ≤ 2 then if a1.Kind ≤ 2 then m50_quirref_clash_K2 a0 a1 true else m50_quirref_clash_K2 a0 a1 false else m50_quirref_clash_K2 a0 a1 false else some false
def m50_quirref_clash (a0 : TOp) (a1 : TOp) : Option Bool :=
  if a0.Tx ≠ a1.Tx then if a0.Item = a1.Item then m50_quirref_clash_K1 a0 a1 true else m50_quirref_clash_K1 a0 a1 false else m50_quirref_clash_K1 a0 a1 false
def m16_quirref_Edges_K1 (gl2 : (List TEdge)) : Option (List TEdge) :=
  some gl2
def m16_quirref_Edges_K2 (gx5 : Int) (go1 : (List TEdge) → Int → Option (List TEdge)) (gl7 : (List TEdge)) : Option (List TEdge) :=
  bind1 (i64 (gx5 + 1)) fun x2 => go1 gl7 x2
def m16_quirref_Edges_K3 (gx10 : Int) (go2 : (List TEdge) → Int → Option (List TEdge)) (gl12 : (List TEdge)) : Option (List TEdge) :=
  bind1 (i64 (gx10 + 1)) fun x4 => go2 gl12 x4
def m16_quirref_Edges_K5 (gl9 : (List TEdge)) (gx5 : Int) (gx10 : Int) (go2 : (List TEdge) → Int → Option (List TEdge)) (gb13 : Bool) : Option (List TEdge) :=
  if gb13 = true then bind1 (app gl9 ([(⟨gx5, gx10⟩ : TEdge)])) fun l7 => m16_quirref_Edges_K3 gx10 go2 l7 else m16_quirref_Edges_K3 gx10 go2 gl9
def m16_quirref_Edges_K6 (gx15 : Int) (go3 : Bool → Int → Option (List TEdge)) (gb16 : Bool) : Option (List TEdge) :=
  if gb16 = true then bind1 (i64 (gx15 + 1)) fun x10 => go3 true x10 else bind1 (i64 (gx15 + 1)) fun x9 => go3 false x9
def m16_quirref_Edges_K7 (gx18 : Int) (go4 : Bool → Int → Option (List TEdge)) (gb19 : Bool) : Option (List TEdge) :=
  if gb19 = true then bind1 (i64 (gx18 + 1)) fun x19 => go4 true x19 else bind1 (i64 (gx18 + 1)) fun x18 => go4 false x18
def m16_quirref_Edges_L4B (go4 : Bool → Int → Option (List TEdge)) (l14 : (List TOp)) (x11 : TOp) (gx5 : Int) (gx10 : Int) (gx15 : Int) (go3 : Bool → Int → Option (List TEdge)) (gb17 : Bool) (gx18 : Int) : Option (List TEdge) :=
  if gx18 < (l14.length : Int) then bind1 (idx l14 gx18) fun x16 => if gb17 = true then m16_quirref_Edges_K7 gx18 go4 true else if x11.Tx = gx5 then if x16.Tx = gx10 then bind1 (m50_quirref_clash x11 x16) fun b23 => if b23 = true then m16_quirref_Edges_K7 gx18 go4 true else m16_quirref_Edges_K7 gx18 go4 false else m16_quirref_Edges_K7 gx18 go4 false else m16_quirref_Edges_K7 gx18 go4 false else m16_quirref_Edges_K6 gx15 go3 gb17
def m16_quirref_Edges_L4 (l14 : (List TOp)) (x11 : TOp) (gx5 : Int) (gx10 : Int) (gx15 : Int) (go3 : Bool → Int → Option (List TEdge)) : Nat → Bool → Int → Option (List TEdge)
  | 0, _, _ => none
  | n + 1, gb17, gx18 => m16_quirref_Edges_L4B (m16_quirref_Edges_L4 l14 x11 gx5 gx10 gx15 go3 n) l14 x11 gx5 gx10 gx15 go3 gb17 gx18
def m16_quirref_Edges_L3B (go3 : Bool → Int → Option (List TEdge)) (a0 : (List TOp)) (gx5 : Int) (gx10 : Int) (gl9 : (List TEdge)) (go2 : (List TEdge) → Int → Option (List TEdge)) (gb14 : Bool) (gx15 : Int) : Option (List TEdge) :=
  if gx15 < (a0.length : Int) then bind1 (idx a0 gx15) fun x11 => bind1 (i64 (gx15 + 1)) fun x13 => bind1 (cut a0 x13 a0.length) fun l14 => m16_quirref_Edges_L4 l14 x11 gx5 gx10 gx15 go3 big gb14 0 else m16_quirref_Edges_K5 gl9 gx5 gx10 go2 gb14
def m16_quirref_Edges_L3 (a0 : (List TOp)) (gx5 : Int) (gx10 : Int) (gl9 : (List TEdge)) (go2 : (List TEdge) → Int → Option (List TEdge)) : Nat → Bool → Int → Option (List TEdge)
  | 0, _, _ => none
  | n + 1, gb14, gx15 => m16_quirref_Edges_L3B (m16_quirref_Edges_L3 a0 gx5 gx10 gl9 go2 n) a0 gx5 gx10 gl9 go2 gb14 gx15
def m16_quirref_Edges_K4 (a0 : (List TOp)) (gx5 : Int) (gx10 : Int) (gl9 : (List TEdge)) (go2 : (List TEdge) → Int → Option (List TEdge)) : Option (List TEdge) :=
  m16_quirref_Edges_L3 a0 gx5 gx10 gl9 go2 big false 0
def m16_quirref_Edges_K8 (gx10 : Int) (go2 : (List TEdge) → Int → Option (List TEdge)) (gl9 : (List TEdge)) (a0 : (List TOp)) (gx5 : Int) (gb20 : Bool) : Option (List TEdge) :=
  if gb20 = true then m16_quirref_Edges_K3 gx10 go2 gl9 else bind1 (m49_quirref_has a0 gx10 3) fun b25 => if b25 = true then m16_quirref_Edges_K4 a0 gx5 gx10 gl9 go2 else m16_quirref_Edges_K3 gx10 go2 gl9
def m16_quirref_Edges_L2B (go2 : (List TEdge) → Int → Option (List TEdge)) (gx5 : Int) (a0 : (List TOp)) (go1 : (List TEdge) → Int → Option (List TEdge)) (gl9 : (List TEdge)) (gx10 : Int) : Option (List TEdge) :=
  if gx10 < 12 then if gx5 = gx10 then m16_quirref_Edges_K8 gx10 go2 gl9 a0 gx5 true else bind1 (m49_quirref_has a0 gx5 3) fun b28 => if b28 = true then m16_quirref_Edges_K8 gx10 go2 gl9 a0 gx5 false else m16_quirref_Edges_K8 gx10 go2 gl9 a0 gx5 true else m16_quirref_Edges_K2 gx5 go1 gl9
def m16_quirref_Edges_L2 (gx5 : Int) (a0 : (List TOp)) (go1 : (List TEdge) → Int → Option (List TEdge)) : Nat → (List TEdge) → Int → Option (List TEdge)
  | 0, _, _ => none
  | n + 1, gl9, gx10 => m16_quirref_Edges_L2B (m16_quirref_Edges_L2 gx5 a0 go1 n) gx5 a0 go1 gl9 gx10
def m16_quirref_Edges_L1B (go1 : (List TEdge) → Int → Option (List TEdge)) (a0 : (List TOp)) (gl4 : (List TEdge)) (gx5 : Int) : Option (List TEdge) :=
  if gx5 < 12 then m16_quirref_Edges_L2 gx5 a0 go1 big gl4 0 else m16_quirref_Edges_K1 gl4
def m16_quirref_Edges_L1 (a0 : (List TOp)) : Nat → (List TEdge) → Int → Option (List TEdge)
  | 0, _, _ => none
  | n + 1, gl4, gx5 => m16_quirref_Edges_L1B (m16_quirref_Edges_L1 a0 n) a0 gl4 gx5
def m16_quirref_Edges (a0 : (List TOp)) : Option (List TEdge) :=
  m16_quirref_Edges_L1 a0 big [] 0
def m112_quirref_Closure_K3 (gl4 : (List (List Bool))) : Option (List (List Bool)) :=
  some gl4
def m112_quirref_Closure_K4 (gx6 : Int) (go1 : (List (List Bool)) → Int → Option (List (List Bool))) (gl7 : (List (List Bool))) : Option (List (List Bool)) :=
  bind1 (i64 (gx6 + 1)) fun x4 => go1 gl7 x4
def m112_quirref_Closure_K5 (gx9 : Int) (go2 : (List (List Bool)) → Int → Option (List (List Bool))) (gl10 : (List (List Bool))) : Option (List (List Bool)) :=
  bind1 (i64 (gx9 + 1)) fun x6 => go2 gl10 x6
def m112_quirref_Closure_L3B (go3 : (List (List Bool)) → Int → Option (List (List Bool))) (a0 : Int) (gx9 : Int) (gx6 : Int) (go2 : (List (List Bool)) → Int → Option (List (List Bool))) (gl11 : (List (List Bool))) (gx12 : Int) : Option (List (List Bool)) :=
  if gx12 < a0 then bind1 (idx gl11 gx9) fun x22 => bind1 (idx gl11 gx9) fun x23 => bind1 (idx x23 gx12) fun x24 => if x24 = true then bind1 (idx x22 gx12) fun x26 => bind1 (upd x22 gx12 true) fun l27 => bind1 (upd gl11 gx9 l27) fun l28 => bind1 (i64 (gx12 + 1)) fun x29 => go3 l28 x29 else bind1 (idx gl11 gx9) fun x30 => bind1 (idx x30 gx6) fun x31 => if x31 = true then bind1 (idx gl11 gx6) fun x33 => bind1 (idx x33 gx12) fun x34 => bind1 (idx x22 gx12) fun x35 => bind1 (upd x22 gx12 x34) fun l36 => bind1 (upd gl11 gx9 l36) fun l37 => bind1 (i64 (gx12 + 1)) fun x38 => go3 l37 x38 else bind1 (idx x22 gx12) fun x39 => bind1 (upd x22 gx12 false) fun l40 => bind1 (upd gl11 gx9 l40) fun l41 => bind1 (i64 (gx12 + 1)) fun x42 => go3 l41 x42 else m112_quirref_Closure_K5 gx9 go2 gl11
def m112_quirref_Closure_L3 (a0 : Int) (gx9 : Int) (gx6 : Int) (go2 : (List (List Bool)) → Int → Option (List (List Bool))) : Nat → (List (List Bool)) → Int → Option (List (List Bool))
  | 0, _, _ => none
  | n + 1, gl11, gx12 => m112_quirref_Closure_L3B (m112_quirref_Closure_L3 a0 gx9 gx6 go2 n) a0 gx9 gx6 go2 gl11 gx12
def m112_quirref_Closure_L2B (go2 : (List (List Bool)) → Int → Option (List (List Bool))) (a0 : Int) (gx6 : Int) (go1 : (List (List Bool)) → Int → Option (List (List Bool))) (gl8 : (List (List Bool))) (gx9 : Int) : Option (List (List Bool)) :=
  if gx9 < a0 then m112_quirref_Closure_L3 a0 gx9 gx6 go2 big gl8 0 else m112_quirref_Closure_K4 gx6 go1 gl8
def m112_quirref_Closure_L2 (a0 : Int) (gx6 : Int) (go1 : (List (List Bool)) → Int → Option (List (List Bool))) : Nat → (List (List Bool)) → Int → Option (List (List Bool))
  | 0, _, _ => none
  | n + 1, gl8, gx9 => m112_quirref_Closure_L2B (m112_quirref_Closure_L2 a0 gx6 go1 n) a0 gx6 go1 gl8 gx9
def m112_quirref_Closure_L1B (go1 : (List (List Bool)) → Int → Option (List (List Bool))) (a0 : Int) (gl5 : (List (List Bool))) (gx6 : Int) : Option (List (List Bool)) :=
  if gx6 < a0 then m112_quirref_Closure_L2 a0 gx6 go1 big gl5 0 else m112_quirref_Closure_K3 gl5
def m112_quirref_Closure_L1 (a0 : Int) : Nat → (List (List Bool)) → Int → Option (List (List Bool))
  | 0, _, _ => none
  | n + 1, gl5, gx6 => m112_quirref_Closure_L1B (m112_quirref_Closure_L1 a0 n) a0 gl5 gx6
def m112_quirref_Closure_K2 (a0 : Int) (gl3 : (List (List Bool))) : Option (List (List Bool)) :=
  m112_quirref_Closure_L1 a0 big gl3 0
def m112_quirref_Closure_L4B (go4 : (List (List Bool)) → Int → Option (List (List Bool))) (a1 : (List TEdge)) (a0 : Int) (gl13 : (List (List Bool))) (gx14 : Int) : Option (List (List Bool)) :=
  if gx14 < (a1.length : Int) then bind1 (idx a1 gx14) fun x44 => bind1 (idx gl13 x44.From) fun x54 => bind1 (idx x54 x44.To) fun x55 => bind1 (upd x54 x44.To true) fun l56 => bind1 (upd gl13 x44.From l56) fun l57 => bind1 (i64 (gx14 + 1)) fun x58 => go4 l57 x58 else m112_quirref_Closure_K2 a0 gl13
def m112_quirref_Closure_L4 (a1 : (List TEdge)) (a0 : Int) : Nat → (List (List Bool)) → Int → Option (List (List Bool))
  | 0, _, _ => none
  | n + 1, gl13, gx14 => m112_quirref_Closure_L4B (m112_quirref_Closure_L4 a1 a0 n) a1 a0 gl13 gx14
def m112_quirref_Closure_K1 (a1 : (List TEdge)) (a0 : Int) (gl1 : (List (List Bool))) : Option (List (List Bool)) :=
  m112_quirref_Closure_L4 a1 a0 big gl1 0
def m112_quirref_Closure_L5B (go5 : (List (List Bool)) → Int → Option (List (List Bool))) (l1 : (List (List Bool))) (a0 : Int) (a1 : (List TEdge)) (gl15 : (List (List Bool))) (gx17 : Int) : Option (List (List Bool)) :=
  if gx17 < (l1.length : Int) then bind1 (mk a0 false) fun l60 => bind1 (idx gl15 gx17) fun x62 => bind1 (upd gl15 gx17 l60) fun l63 => bind1 (i64 (gx17 + 1)) fun x65 => go5 l63 x65 else m112_quirref_Closure_K1 a1 a0 gl15
def m112_quirref_Closure_L5 (l1 : (List (List Bool))) (a0 : Int) (a1 : (List TEdge)) : Nat → (List (List Bool)) → Int → Option (List (List Bool))
  | 0, _, _ => none
  | n + 1, gl15, gx17 => m112_quirref_Closure_L5B (m112_quirref_Closure_L5 l1 a0 a1 n) l1 a0 a1 gl15 gx17
def m112_quirref_Closure (a0 : Int) (a1 : (List TEdge)) : Option (List (List Bool)) :=
  bind1 (mk a0 ([] : (List Bool))) fun l1 => m112_quirref_Closure_L5 l1 a0 a1 big l1 0
def m46_quirref_Order_K1 (gl2 : (List Int)) : Option ((List Int) × Bool) :=
  some (gl2, true)
def m46_quirref_Order_K3 (gl3 : (List Bool)) (gl5 : (List Int)) (go1 : (List Bool) → (List Int) → Option ((List Int) × Bool)) (gx6 : Int) : Option ((List Int) × Bool) :=
  if gx6 < 0 then some ([], false) else bind1 (idx gl3 gx6) fun x8 => bind1 (upd gl3 gx6 true) fun l9 => bind1 (app gl5 ([gx6])) fun l12 => go1 l9 l12
def m46_quirref_Order_K4 (gx7 : Int) (go2 : Int → Option ((List Int) × Bool)) : Option ((List Int) × Bool) :=
  bind1 (i64 (gx7 + 1)) fun x14 => go2 x14
def m46_quirref_Order_K6 (gx7 : Int) (go2 : Int → Option ((List Int) × Bool)) : Option ((List Int) × Bool) :=
  m46_quirref_Order_K4 gx7 go2
def m46_quirref_Order_L3B (go3 : Int → Option ((List Int) × Bool)) (a0 : Int) (gx7 : Int) (go2 : Int → Option ((List Int) × Bool)) (gx9 : Int) : Option ((List Int) × Bool) :=
  if gx9 < a0 then bind1 (i64 (gx9 + 1)) fun x16 => go3 x16 else m46_quirref_Order_K6 gx7 go2
def m46_quirref_Order_L3 (a0 : Int) (gx7 : Int) (go2 : Int → Option ((List Int) × Bool)) : Nat → Int → Option ((List Int) × Bool)
  | 0, _ => none
  | n + 1, gx9 => m46_quirref_Order_L3B (m46_quirref_Order_L3 a0 gx7 go2 n) a0 gx7 go2 gx9
def m46_quirref_Order_K7 (gl3 : (List Bool)) (gl5 : (List Int)) (go1 : (List Bool) → (List Int) → Option ((List Int) × Bool)) (gx7 : Int) (go2 : Int → Option ((List Int) × Bool)) (gb10 : Bool) : Option ((List Int) × Bool) :=
  if gb10 = true then m46_quirref_Order_K3 gl3 gl5 go1 gx7 else m46_quirref_Order_K4 gx7 go2
def m46_quirref_Order_K8 (gx12 : Int) (go4 : Bool → Int → Option ((List Int) × Bool)) (gb13 : Bool) : Option ((List Int) × Bool) :=
  if gb13 = true then bind1 (i64 (gx12 + 1)) fun x19 => go4 true x19 else bind1 (i64 (gx12 + 1)) fun x18 => go4 false x18
def m46_quirref_Order_L4B (go4 : Bool → Int → Option ((List Int) × Bool)) (a0 : Int) (gl3 : (List Bool)) (l1 : (List (List Bool))) (gx7 : Int) (gl5 : (List Int)) (go1 : (List Bool) → (List Int) → Option ((List Int) × Bool)) (go2 : Int → Option ((List Int) × Bool)) (gb11 : Bool) (gx12 : Int) : Option ((List Int) × Bool) :=
  if gx12 < a0 then if gb11 = true then bind1 (idx gl3 gx12) fun x21 => if x21 = true then m46_quirref_Order_K8 gx12 go4 true else bind1 (idx l1 gx12) fun x23 => bind1 (idx x23 gx7) fun x24 => if x24 = true then m46_quirref_Order_K8 gx12 go4 false else m46_quirref_Order_K8 gx12 go4 true else m46_quirref_Order_K8 gx12 go4 false else m46_quirref_Order_K7 gl3 gl5 go1 gx7 go2 gb11
def m46_quirref_Order_L4 (a0 : Int) (gl3 : (List Bool)) (l1 : (List (List Bool))) (gx7 : Int) (gl5 : (List Int)) (go1 : (List Bool) → (List Int) → Option ((List Int) × Bool)) (go2 : Int → Option ((List Int) × Bool)) : Nat → Bool → Int → Option ((List Int) × Bool)
  | 0, _, _ => none
  | n + 1, gb11, gx12 => m46_quirref_Order_L4B (m46_quirref_Order_L4 a0 gl3 l1 gx7 gl5 go1 go2 n) a0 gl3 l1 gx7 gl5 go1 go2 gb11 gx12
def m46_quirref_Order_K5 (a0 : Int) (gl3 : (List Bool)) (l1 : (List (List Bool))) (gx7 : Int) (gl5 : (List Int)) (go1 : (List Bool) → (List Int) → Option ((List Int) × Bool)) (go2 : Int → Option ((List Int) × Bool)) (gb8 : Bool) : Option ((List Int) × Bool) :=
  if gb8 = true then m46_quirref_Order_L4 a0 gl3 l1 gx7 gl5 go1 go2 big true 0 else m46_quirref_Order_L3 a0 gx7 go2 big 0
def m46_quirref_Order_L2B (go2 : Int → Option ((List Int) × Bool)) (a0 : Int) (gl3 : (List Bool)) (l1 : (List (List Bool))) (gl5 : (List Int)) (go1 : (List Bool) → (List Int) → Option ((List Int) × Bool)) (gx7 : Int) : Option ((List Int) × Bool) :=
  if gx7 < a0 then bind1 (idx gl3 gx7) fun x26 => if x26 = true then m46_quirref_Order_K5 a0 gl3 l1 gx7 gl5 go1 go2 false else m46_quirref_Order_K5 a0 gl3 l1 gx7 gl5 go1 go2 true else m46_quirref_Order_K3 gl3 gl5 go1 (-1)
def m46_quirref_Order_L2 (a0 : Int) (gl3 : (List Bool)) (l1 : (List (List Bool))) (gl5 : (List Int)) (go1 : (List Bool) → (List Int) → Option ((List Int) × Bool)) : Nat → Int → Option ((List Int) × Bool)
  | 0, _ => none
  | n + 1, gx7 => m46_quirref_Order_L2B (m46_quirref_Order_L2 a0 gl3 l1 gl5 go1 n) a0 gl3 l1 gl5 go1 gx7
def m46_quirref_Order_K2 (a0 : Int) (gl3 : (List Bool)) (l1 : (List (List Bool))) (gl5 : (List Int)) (go1 : (List Bool) → (List Int) → Option ((List Int) × Bool)) : Option ((List Int) × Bool) :=
  m46_quirref_Order_L2 a0 gl3 l1 gl5 go1 big 0
def m46_quirref_Order_L1B (go1 : (List Bool) → (List Int) → Option ((List Int) × Bool)) (a0 : Int) (l1 : (List (List Bool))) (gl3 : (List Bool)) (gl5 : (List Int)) : Option ((List Int) × Bool) :=
  if (gl5.length : Int) < a0 then m46_quirref_Order_K2 a0 gl3 l1 gl5 go1 else m46_quirref_Order_K1 gl5
def m46_quirref_Order_L1 (a0 : Int) (l1 : (List (List Bool))) : Nat → (List Bool) → (List Int) → Option ((List Int) × Bool)
  | 0, _, _ => none
  | n + 1, gl3, gl5 => m46_quirref_Order_L1B (m46_quirref_Order_L1 a0 l1 n) a0 l1 gl3 gl5
def m46_quirref_Order (a0 : Int) (a1 : (List TEdge)) : Option ((List Int) × Bool) :=
  bind1 (m112_quirref_Closure a0 a1) fun l1 => bind1 (mk a0 false) fun l5 => m46_quirref_Order_L1 a0 l1 big l5 []
def m13_quirref_Serial_K1 (b7 : Bool) (gl2 : (List Int)) : Option ((List Int) × Bool) :=
  some (gl2, b7)
def m13_quirref_Serial_K2 (b7 : Bool) (gl4 : (List Int)) : Option ((List Int) × Bool) :=
  m13_quirref_Serial_K1 b7 gl4
def m13_quirref_Serial_K3 (gl6 : (List Int)) (x10 : Int) (gx7 : Int) (go1 : (List Int) → Int → Option ((List Int) × Bool)) (gb8 : Bool) : Option ((List Int) × Bool) :=
  if gb8 = true then bind1 (app gl6 ([x10])) fun l14 => bind1 (i64 (gx7 + 1)) fun x15 => go1 l14 x15 else bind1 (i64 (gx7 + 1)) fun x11 => go1 gl6 x11
def m13_quirref_Serial_L1B (go1 : (List Int) → Int → Option ((List Int) × Bool)) (l5 : (List Int)) (a0 : (List TOp)) (b7 : Bool) (gl6 : (List Int)) (gx7 : Int) : Option ((List Int) × Bool) :=
  if gx7 < (l5.length : Int) then bind1 (idx l5 gx7) fun x10 => bind1 (m49_quirref_has a0 x10 3) fun b16 => m13_quirref_Serial_K3 gl6 x10 gx7 go1 b16 else m13_quirref_Serial_K2 b7 gl6
def m13_quirref_Serial_L1 (l5 : (List Int)) (a0 : (List TOp)) (b7 : Bool) : Nat → (List Int) → Int → Option ((List Int) × Bool)
  | 0, _, _ => none
  | n + 1, gl6, gx7 => m13_quirref_Serial_L1B (m13_quirref_Serial_L1 l5 a0 b7 n) l5 a0 b7 gl6 gx7
def m13_quirref_Serial (a0 : (List TOp)) : Option ((List Int) × Bool) :=
  bind1 (m16_quirref_Edges a0) fun l2 => bind2 (m46_quirref_Order 12 l2) fun l5 b7 => m13_quirref_Serial_L1 l5 a0 b7 big [] 0
def m14_slices_Equal_int_K2 : Option Bool :=
  some true
def m14_slices_Equal_int_L1B (go1 : Int → Option Bool) (a0 : (List Int)) (a1 : (List Int)) (gx1 : Int) : Option Bool :=
  if gx1 < (a0.length : Int) then bind1 (idx a0 gx1) fun x2 => bind1 (idx a1 gx1) fun x3 => if x2 ≠ x3 then some false else bind1 (i64 (gx1 + 1)) fun x5 => go1 x5 else m14_slices_Equal_int_K2
def m14_slices_Equal_int_L1 (a0 : (List Int)) (a1 : (List Int)) : Nat → Int → Option Bool
  | 0, _ => none
  | n + 1, gx1 => m14_slices_Equal_int_L1B (m14_slices_Equal_int_L1 a0 a1 n) a0 a1 gx1
def m14_slices_Equal_int_K1 (a0 : (List Int)) (a1 : (List Int)) : Option Bool :=
  m14_slices_Equal_int_L1 a0 a1 big 0
def m14_slices_Equal_int (a0 : (List Int)) (a1 : (List Int)) : Option Bool :=
  if (a0.length : Int) ≠ (a1.length : Int) then some false else m14_slices_Equal_int_K1 a0 a1
def m15_api_Edge_K2 : Option Bool :=
  some true
def m15_api_Edge_L1B (go1 : Int → Option Bool) (a0 : (List TEdge)) (a1 : (List TEdge)) (gx1 : Int) : Option Bool :=
  if gx1 < (a0.length : Int) then bind1 (idx a0 gx1) fun x2 => bind1 (idx a1 gx1) fun x3 => if x2 ≠ x3 then some false else bind1 (i64 (gx1 + 1)) fun x5 => go1 x5 else m15_api_Edge_K2
def m15_api_Edge_L1 (a0 : (List TEdge)) (a1 : (List TEdge)) : Nat → Int → Option Bool
  | 0, _ => none
  | n + 1, gx1 => m15_api_Edge_L1B (m15_api_Edge_L1 a0 a1 n) a0 a1 gx1
def m15_api_Edge_K1 (a0 : (List TEdge)) (a1 : (List TEdge)) : Option Bool :=
  m15_api_Edge_L1 a0 a1 big 0
def m15_api_Edge (a0 : (List TEdge)) (a1 : (List TEdge)) : Option Bool :=
  if (a0.length : Int) ≠ (a1.length : Int) then some false else m15_api_Edge_K1 a0 a1
def m51_quirref_writer_K1 : Option Int :=
  some (-1)
def m51_quirref_writer_K3 (a0 : (List TOp)) (a1 : Int) (x2 : TOp) (gx1 : Int) (go1 : Int → Option Int) (gb2 : Bool) : Option Int :=
  if gb2 = true then bind1 (cut a0 0 a1) fun l5 => bind1 (m49_quirref_has l5 x2.Tx 4) fun b6 => if b6 = true then bind1 (i64 (gx1 - 1)) fun x8 => go1 x8 else some gx1 else bind1 (i64 (gx1 - 1)) fun x4 => go1 x4
def m51_quirref_writer_K2 (a0 : (List TOp)) (gx1 : Int) (a2 : Int) (a1 : Int) (go1 : Int → Option Int) : Option Int :=
  bind1 (idx a0 gx1) fun x2 => if x2.Kind = 2 then if x2.Item = a2 then m51_quirref_writer_K3 a0 a1 x2 gx1 go1 true else m51_quirref_writer_K3 a0 a1 x2 gx1 go1 false else m51_quirref_writer_K3 a0 a1 x2 gx1 go1 false
def m51_quirref_writer_L1B (go1 : Int → Option Int) (a0 : (List TOp)) (a2 : Int) (a1 : Int) (gx1 : Int) : Option Int :=
  if 0 ≤ gx1 then m51_quirref_writer_K2 a0 gx1 a2 a1 go1 else m51_quirref_writer_K1
def m51_quirref_writer_L1 (a0 : (List TOp)) (a2 : Int) (a1 : Int) : Nat → Int → Option Int
  | 0, _ => none
  | n + 1, gx1 => m51_quirref_writer_L1B (m51_quirref_writer_L1 a0 a2 a1 n) a0 a2 a1 gx1
def m51_quirref_writer (a0 : (List TOp)) (a1 : Int) (a2 : Int) : Option Int :=
  bind1 (i64 (a1 - 1)) fun x1 => m51_quirref_writer_L1 a0 a2 a1 big x1
def m17_quirref_Kinds_K1 (gb1 : Bool) (gb2 : Bool) (gb3 : Bool) : Option TRunKind :=
  some (⟨gb1, gb2, gb3⟩ : TRunKind)
def m17_quirref_Kinds_K2 (gx4 : Int) (go1 : Int → Bool → Bool → Bool → Option TRunKind) (gb8 : Bool) (gb9 : Bool) (gb10 : Bool) : Option TRunKind :=
  bind1 (i64 (gx4 + 1)) fun x4 => go1 x4 gb8 gb9 gb10
def m17_quirref_Kinds_K5 (a0 : (List TOp)) (gx4 : Int) (x7 : Int) (go1 : Int → Bool → Bool → Bool → Option TRunKind) (gb11 : Bool) (gb6 : Bool) (gb7 : Bool) (x5 : TOp) : Option TRunKind :=
  bind1 (cut a0 0 gx4) fun l9 => bind1 (idx a0 x7) fun x10 => bind1 (m49_quirref_has l9 x10.Tx 3) fun b11 => if b11 = true then m17_quirref_Kinds_K2 gx4 go1 gb11 gb6 gb7 else if gb6 = true then m17_quirref_Kinds_K2 gx4 go1 gb11 (decide (x5.Kind ≠ 1)) false else m17_quirref_Kinds_K2 gx4 go1 gb11 false false
def m17_quirref_Kinds_K4 (a0 : (List TOp)) (gx4 : Int) (x5 : TOp) (go1 : Int → Bool → Bool → Bool → Option TRunKind) (gb11 : Bool) (gb6 : Bool) (gb7 : Bool) : Option TRunKind :=
  bind1 (m51_quirref_writer a0 gx4 x5.Item) fun x7 => if x7 < 0 then m17_quirref_Kinds_K2 gx4 go1 gb11 gb6 gb7 else bind1 (idx a0 x7) fun x15 => if x15.Tx = x5.Tx then m17_quirref_Kinds_K2 gx4 go1 gb11 gb6 gb7 else m17_quirref_Kinds_K5 a0 gx4 x7 go1 gb11 gb6 gb7 x5
def m17_quirref_Kinds_K3 (x5 : TOp) (gx4 : Int) (go1 : Int → Bool → Bool → Bool → Option TRunKind) (gb6 : Bool) (gb7 : Bool) (a0 : (List TOp)) (gb11 : Bool) : Option TRunKind :=
  if 2 < x5.Kind then m17_quirref_Kinds_K2 gx4 go1 gb11 gb6 gb7 else m17_quirref_Kinds_K4 a0 gx4 x5 go1 gb11 gb6 gb7
def m17_quirref_Kinds_K7 (a0 : (List TOp)) (gx4 : Int) (x23 : Int) (gx12 : Int) (go2 : Int → Bool → Option TRunKind) (gb13 : Bool) (gb14 : Bool) : Option TRunKind :=
  if gb14 = true then bind1 (cut a0 0 gx4) fun l26 => bind1 (idx a0 x23) fun x27 => bind1 (m49_quirref_has l26 x27.Tx 3) fun b28 => if b28 = true then bind1 (i64 (gx12 + 1)) fun x31 => go2 x31 gb13 else bind1 (i64 (gx12 + 1)) fun x30 => go2 x30 false else bind1 (i64 (gx12 + 1)) fun x25 => go2 x25 gb13
def m17_quirref_Kinds_K6 (a0 : (List TOp)) (gx12 : Int) (x21 : TOp) (x5 : TOp) (gx4 : Int) (go2 : Int → Bool → Option TRunKind) (gb13 : Bool) : Option TRunKind :=
  bind1 (m51_quirref_writer a0 gx12 x21.Item) fun x23 => if 0 ≤ x23 then bind1 (idx a0 x23) fun x33 => if x33.Tx ≠ x5.Tx then m17_quirref_Kinds_K7 a0 gx4 x23 gx12 go2 gb13 true else m17_quirref_Kinds_K7 a0 gx4 x23 gx12 go2 gb13 false else m17_quirref_Kinds_K7 a0 gx4 x23 gx12 go2 gb13 false
def m17_quirref_Kinds_L2B (go2 : Int → Bool → Option TRunKind) (l19 : (List TOp)) (x5 : TOp) (a0 : (List TOp)) (gx4 : Int) (go1 : Int → Bool → Bool → Bool → Option TRunKind) (gb6 : Bool) (gb7 : Bool) (gx12 : Int) (gb13 : Bool) : Option TRunKind :=
  if gx12 < (l19.length : Int) then bind1 (idx l19 gx12) fun x21 => if x21.Tx ≠ x5.Tx then bind1 (i64 (gx12 + 1)) fun x36 => go2 x36 gb13 else if x21.Kind ≠ 1 then bind1 (i64 (gx12 + 1)) fun x38 => go2 x38 gb13 else m17_quirref_Kinds_K6 a0 gx12 x21 x5 gx4 go2 gb13 else m17_quirref_Kinds_K3 x5 gx4 go1 gb6 gb7 a0 gb13
def m17_quirref_Kinds_L2 (l19 : (List TOp)) (x5 : TOp) (a0 : (List TOp)) (gx4 : Int) (go1 : Int → Bool → Bool → Bool → Option TRunKind) (gb6 : Bool) (gb7 : Bool) : Nat → Int → Bool → Option TRunKind
  | 0, _, _ => none
  | n + 1, gx12, gb13 => m17_quirref_Kinds_L2B (m17_quirref_Kinds_L2 l19 x5 a0 gx4 go1 gb6 gb7 n) l19 x5 a0 gx4 go1 gb6 gb7 gx12 gb13
def m17_quirref_Kinds_L1B (go1 : Int → Bool → Bool → Bool → Option TRunKind) (a0 : (List TOp)) (gx4 : Int) (gb5 : Bool) (gb6 : Bool) (gb7 : Bool) : Option TRunKind :=
  if gx4 < (a0.length : Int) then bind1 (idx a0 gx4) fun x5 => if x5.Kind = 3 then bind1 (cut a0 0 gx4) fun l19 => m17_quirref_Kinds_L2 l19 x5 a0 gx4 go1 gb6 gb7 big 0 gb5 else m17_quirref_Kinds_K3 x5 gx4 go1 gb6 gb7 a0 gb5 else m17_quirref_Kinds_K1 gb5 gb6 gb7
def m17_quirref_Kinds_L1 (a0 : (List TOp)) : Nat → Int → Bool → Bool → Bool → Option TRunKind
  | 0, _, _, _, _ => none
  | n + 1, gx4, gb5, gb6, gb7 => m17_quirref_Kinds_L1B (m17_quirref_Kinds_L1 a0 n) a0 gx4 gb5 gb6 gb7
def m17_quirref_Kinds (a0 : (List TOp)) : Option TRunKind :=
  m17_quirref_Kinds_L1 a0 big 0 true true true
def m3_quirlaw_RunSays_K4 (a0 : (List TOp)) (l3 : (List TEdge)) (x5 : Int) (x11 : TRunKind) (x12 : Int) (gb4 : Bool) : Option Bool :=
  if gb4 = true then bind1 (m16_quirref_Edges a0) fun l31 => bind1 (m15_api_Edge l3 l31) fun b34 => if b34 = true then if x5 = 0 then bind1 (m17_quirref_Kinds a0) fun x37 => if x11 = x37 then some (decide (x12 = 0)) else some false else some false else some false else bind1 (m16_quirref_Edges a0) fun l20 => bind1 (m15_api_Edge l3 l20) fun b23 => if b23 = true then if x5 = 0 then some false else some false else some false
def m3_quirlaw_RunSays_K5 (a0 : (List TOp)) (l3 : (List TEdge)) (x5 : Int) (x11 : TRunKind) (x12 : Int) (gb5 : Bool) : Option Bool :=
  if gb5 = true then m3_quirlaw_RunSays_K4 a0 l3 x5 x11 x12 true else m3_quirlaw_RunSays_K4 a0 l3 x5 x11 x12 false
def m3_quirlaw_RunSays_K6 (a0 : (List TOp)) (l3 : (List TEdge)) (x5 : Int) (x11 : TRunKind) (x12 : Int) (gb6 : Bool) : Option Bool :=
  if gb6 = true then bind1 (m16_quirref_Edges a0) fun l58 => bind1 (m15_api_Edge l3 l58) fun b61 => if b61 = true then if x5 = 0 then bind1 (m17_quirref_Kinds a0) fun x64 => if x11 = x64 then some (decide (x12 = 0)) else some false else some false else some false else bind1 (m16_quirref_Edges a0) fun l47 => bind1 (m15_api_Edge l3 l47) fun b50 => if b50 = true then if x5 = 0 then some false else some false else some false
def m3_quirlaw_RunSays_K7 (a0 : (List TOp)) (l3 : (List TEdge)) (x5 : Int) (x11 : TRunKind) (x12 : Int) (gb7 : Bool) : Option Bool :=
  if gb7 = true then m3_quirlaw_RunSays_K6 a0 l3 x5 x11 x12 true else m3_quirlaw_RunSays_K6 a0 l3 x5 x11 x12 false
def m3_quirlaw_RunSays_K3 (l7 : (List Int)) (x9 : Int) (a0 : (List TOp)) (l3 : (List TEdge)) (x5 : Int) (x11 : TRunKind) (x12 : Int) (gl2 : (List Int)) (gb3 : Bool) : Option Bool :=
  if gb3 = true then bind1 (m14_slices_Equal_int l7 gl2) fun b67 => if b67 = true then if x9 = 0 then m3_quirlaw_RunSays_K7 a0 l3 x5 x11 x12 true else m3_quirlaw_RunSays_K7 a0 l3 x5 x11 x12 false else m3_quirlaw_RunSays_K7 a0 l3 x5 x11 x12 false else if (l7.length : Int) = 0 then if x9 = 11 then m3_quirlaw_RunSays_K5 a0 l3 x5 x11 x12 true else m3_quirlaw_RunSays_K5 a0 l3 x5 x11 x12 false else m3_quirlaw_RunSays_K5 a0 l3 x5 x11 x12 false
def m3_quirlaw_RunSays_K2 (a0 : (List TOp)) (l7 : (List Int)) (x9 : Int) (l3 : (List TEdge)) (x5 : Int) (x11 : TRunKind) (x12 : Int) : Option Bool :=
  bind2 (m13_quirref_Serial a0) fun l70 b72 => if b72 = true then m3_quirlaw_RunSays_K3 l7 x9 a0 l3 x5 x11 x12 l70 true else m3_quirlaw_RunSays_K3 l7 x9 a0 l3 x5 x11 x12 l70 false
def m3_quirlaw_RunSays_K9 (x11 : TRunKind) (x12 : Int) (x1 : Int) (gb9 : Bool) : Option Bool :=
  if gb9 = true then if x11 = (⟨false, false, false⟩ : TRunKind) then some (decide (x12 = x1)) else some false else some false
def m3_quirlaw_RunSays_K8 (l7 : (List Int)) (x9 : Int) (x1 : Int) (x11 : TRunKind) (x12 : Int) (gb8 : Bool) : Option Bool :=
  if gb8 = true then if (l7.length : Int) = 0 then if x9 = x1 then m3_quirlaw_RunSays_K9 x11 x12 x1 true else m3_quirlaw_RunSays_K9 x11 x12 x1 false else m3_quirlaw_RunSays_K9 x11 x12 x1 false else some false
def m3_quirlaw_RunSays_K1 (x1 : Int) (l3 : (List TEdge)) (x5 : Int) (l7 : (List Int)) (x9 : Int) (x11 : TRunKind) (x12 : Int) (a0 : (List TOp)) : Option Bool :=
  if x1 ≠ 0 then if (l3.length : Int) = 0 then if x5 = x1 then m3_quirlaw_RunSays_K8 l7 x9 x1 x11 x12 true else m3_quirlaw_RunSays_K8 l7 x9 x1 x11 x12 false else m3_quirlaw_RunSays_K8 l7 x9 x1 x11 x12 false else m3_quirlaw_RunSays_K2 a0 l7 x9 l3 x5 x11 x12
def m3_quirlaw_RunSays (a0 : (List TOp)) : Option Bool :=
  bind1 (m8_quirref_RunErr a0) fun x1 => bind2 (m9_run_Edges a0) fun l3 x5 => bind2 (m10_run_Serial a0) fun l7 x9 => bind2 (m11_run_Kinds a0) fun x11 x12 => bind1 (m12_run_Check a0) fun x81 => if x81 ≠ x1 then some false else m3_quirlaw_RunSays_K1 x1 l3 x5 l7 x9 x11 x12 a0
end Go.Proofs.Ytkhlapdkomnldaa
