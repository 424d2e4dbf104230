/-
  Models, printed by a program of mine.
  Conditions: none.
-/
import Derived.Test.YtjhcdmcikodgkaaTl
import Derived.Test.YtjhcdmcikodgkaaSl
import Derived.Test.YtjhcdmcikodgkaaGrM
namespace Go.Proofs.Ytjhcdmcikodgkaa
open Go.S
set_option linter.unusedVariables false
def m26_api_Edge (a0 : (List TEdge)) : Option (List TEdge) :=
  bind1 (app [] a0) fun l3 => some l3
def m15_wait_Dead_K4 (gl4 : (List Int)) : Option ((List Int) × Int) :=
  some (gl4, 0)
def m15_wait_Dead_L1B (go1 : (List Int) → Int → Option ((List Int) × Int)) (gl2 : (List Int)) (gl6 : (List Int)) (gx7 : Int) : Option ((List Int) × Int) :=
  if gx7 < (gl2.length : Int) then bind1 (idx gl2 gx7) fun x8 => if 0 < x8 then bind1 (app gl6 ([gx7])) fun l12 => bind1 (i64 (gx7 + 1)) fun x13 => go1 l12 x13 else bind1 (i64 (gx7 + 1)) fun x14 => go1 gl6 x14 else m15_wait_Dead_K4 gl6
def m15_wait_Dead_L1 (gl2 : (List Int)) : Nat → (List Int) → Int → Option ((List Int) × Int)
  | 0, _, _ => none
  | n + 1, gl6, gx7 => m15_wait_Dead_L1B (m15_wait_Dead_L1 gl2 n) gl2 gl6 gx7
def m15_wait_Dead_K3 (gl2 : (List Int)) : Option ((List Int) × Int) :=
  m15_wait_Dead_L1 gl2 big [] 0
def m15_wait_Dead_K6 (go2 : (List TEdge) → (List Int) → Option ((List Int) × Int)) (gl12 : (List TEdge)) (gl13 : (List Int)) : Option ((List Int) × Int) :=
  go2 gl12 gl13
def m15_wait_Dead_K9 (go2 : (List TEdge) → (List Int) → Option ((List Int) × Int)) (gl16 : (List TEdge)) (gx17 : Int) (gl18 : (List Int)) : Option ((List Int) × Int) :=
  bind1 (cut gl16 gx17 gl16.length) fun l20 => bind1 (clr gl16 gx17 (⟨0, 0⟩ : TEdge)) fun l21 => bind1 (cut l21 0 gx17) fun l22 => m15_wait_Dead_K6 go2 l22 gl18
def m15_wait_Dead_K11 (x25 : TEdge) (x15 : Int) (gl19 : (List TEdge)) (gx20 : Int) (gx21 : Int) (go3 : (List TEdge) → Int → Int → (List Int) → Option ((List Int) × Int)) (gl23 : (List Int)) : Option ((List Int) × Int) :=
  if (!(decide (x25.To = x15))) = true then bind1 (idx gl19 gx20) fun x28 => bind1 (upd gl19 gx20 x25) fun l29 => bind1 (i64 (gx20 + 1)) fun x30 => bind1 (i64 (gx21 + 1)) fun x31 => go3 l29 x30 x31 gl23 else bind1 (i64 (gx21 + 1)) fun x32 => go3 gl19 gx20 x32 gl23
def m15_wait_Dead_K12 (x25 : TEdge) (x15 : Int) (gl19 : (List TEdge)) (gx20 : Int) (gx21 : Int) (go3 : (List TEdge) → Int → Int → (List Int) → Option ((List Int) × Int)) (gl24 : (List Int)) : Option ((List Int) × Int) :=
  m15_wait_Dead_K11 x25 x15 gl19 gx20 gx21 go3 gl24
def m15_wait_Dead_K10 (gl19 : (List TEdge)) (gx21 : Int) (x15 : Int) (gl22 : (List Int)) (gx20 : Int) (go3 : (List TEdge) → Int → Int → (List Int) → Option ((List Int) × Int)) : Option ((List Int) × Int) :=
  bind1 (idx gl19 gx21) fun x25 => if x25.To = x15 then bind1 (idx gl22 x25.From) fun x35 => bind1 (i64 (x35 - 1)) fun x36 => bind1 (idx gl22 x25.From) fun x37 => bind1 (upd gl22 x25.From x36) fun l38 => m15_wait_Dead_K12 x25 x15 gl19 gx20 gx21 go3 l38 else m15_wait_Dead_K12 x25 x15 gl19 gx20 gx21 go3 gl22
def m15_wait_Dead_L3B (go3 : (List TEdge) → Int → Int → (List Int) → Option ((List Int) × Int)) (x15 : Int) (go2 : (List TEdge) → (List Int) → Option ((List Int) × Int)) (gl19 : (List TEdge)) (gx20 : Int) (gx21 : Int) (gl22 : (List Int)) : Option ((List Int) × Int) :=
  if gx21 < (gl19.length : Int) then m15_wait_Dead_K10 gl19 gx21 x15 gl22 gx20 go3 else m15_wait_Dead_K9 go2 gl19 gx20 gl22
def m15_wait_Dead_L3 (x15 : Int) (go2 : (List TEdge) → (List Int) → Option ((List Int) × Int)) : Nat → (List TEdge) → Int → Int → (List Int) → Option ((List Int) × Int)
  | 0, _, _, _, _ => none
  | n + 1, gl19, gx20, gx21, gl22 => m15_wait_Dead_L3B (m15_wait_Dead_L3 x15 go2 n) x15 go2 gl19 gx20 gx21 gl22
def m15_wait_Dead_K8 (gx14 : Int) (x15 : Int) (go2 : (List TEdge) → (List Int) → Option ((List Int) × Int)) (gl9 : (List TEdge)) (gl15 : (List Int)) : Option ((List Int) × Int) :=
  bind1 (i64 (gx14 + 1)) fun x24 => m15_wait_Dead_L3 x15 go2 big gl9 gx14 x24 gl15
def m15_wait_Dead_K7 (go2 : (List TEdge) → (List Int) → Option ((List Int) × Int)) (gl9 : (List TEdge)) (x15 : Int) (gx14 : Int) (gl15 : (List Int)) : Option ((List Int) × Int) :=
  if gx14 = (-1) then m15_wait_Dead_K6 go2 gl9 gl15 else m15_wait_Dead_K8 gx14 x15 go2 gl9 gl15
def m15_wait_Dead_K13 (go2 : (List TEdge) → (List Int) → Option ((List Int) × Int)) (gl9 : (List TEdge)) (x15 : Int) (gl25 : (List Int)) : Option ((List Int) × Int) :=
  m15_wait_Dead_K7 go2 gl9 x15 (-1) gl25
def m15_wait_Dead_K14 (x42 : TEdge) (x15 : Int) (go2 : (List TEdge) → (List Int) → Option ((List Int) × Int)) (gl9 : (List TEdge)) (gx26 : Int) (go4 : Int → (List Int) → Option ((List Int) × Int)) (gl28 : (List Int)) : Option ((List Int) × Int) :=
  if (decide (x42.To = x15)) = true then m15_wait_Dead_K7 go2 gl9 x15 gx26 gl28 else bind1 (i64 (gx26 + 1)) fun x43 => go4 x43 gl28
def m15_wait_Dead_K15 (x42 : TEdge) (x15 : Int) (go2 : (List TEdge) → (List Int) → Option ((List Int) × Int)) (gl9 : (List TEdge)) (gx26 : Int) (go4 : Int → (List Int) → Option ((List Int) × Int)) (gl29 : (List Int)) : Option ((List Int) × Int) :=
  m15_wait_Dead_K14 x42 x15 go2 gl9 gx26 go4 gl29
def m15_wait_Dead_L4B (go4 : Int → (List Int) → Option ((List Int) × Int)) (gl9 : (List TEdge)) (x15 : Int) (go2 : (List TEdge) → (List Int) → Option ((List Int) × Int)) (gx26 : Int) (gl27 : (List Int)) : Option ((List Int) × Int) :=
  if gx26 < (gl9.length : Int) then bind1 (idx gl9 gx26) fun x42 => if x42.To = x15 then bind1 (idx gl27 x42.From) fun x46 => bind1 (i64 (x46 - 1)) fun x47 => bind1 (idx gl27 x42.From) fun x48 => bind1 (upd gl27 x42.From x47) fun l49 => m15_wait_Dead_K15 x42 x15 go2 gl9 gx26 go4 l49 else m15_wait_Dead_K15 x42 x15 go2 gl9 gx26 go4 gl27 else m15_wait_Dead_K13 go2 gl9 x15 gl27
def m15_wait_Dead_L4 (gl9 : (List TEdge)) (x15 : Int) (go2 : (List TEdge) → (List Int) → Option ((List Int) × Int)) : Nat → Int → (List Int) → Option ((List Int) × Int)
  | 0, _, _ => none
  | n + 1, gx26, gl27 => m15_wait_Dead_L4B (m15_wait_Dead_L4 gl9 x15 go2 n) gl9 x15 go2 gx26 gl27
def m15_wait_Dead_K5 (gl10 : (List Int)) (x15 : Int) (gl9 : (List TEdge)) (go2 : (List TEdge) → (List Int) → Option ((List Int) × Int)) : Option ((List Int) × Int) :=
  bind1 (idx gl10 x15) fun x18 => bind1 (upd gl10 x15 (-1)) fun l19 => m15_wait_Dead_L4 gl9 x15 go2 big 0 l19
def m15_wait_Dead_L2B (go2 : (List TEdge) → (List Int) → Option ((List Int) × Int)) (gl9 : (List TEdge)) (gl10 : (List Int)) : Option ((List Int) × Int) :=
  bind1 (m21_slices_Index_int gl10 0) fun x15 => if x15 < 0 then m15_wait_Dead_K3 gl10 else m15_wait_Dead_K5 gl10 x15 gl9 go2
def m15_wait_Dead_L2 : Nat → (List TEdge) → (List Int) → Option ((List Int) × Int)
  | 0, _, _ => none
  | n + 1, gl9, gl10 => m15_wait_Dead_L2B (m15_wait_Dead_L2 n) gl9 gl10
def m15_wait_Dead_K2 (a1 : (List TEdge)) (gl1 : (List Int)) : Option ((List Int) × Int) :=
  bind1 (m26_api_Edge a1) fun l4 => m15_wait_Dead_L2 big l4 gl1
def m15_wait_Dead_L5B (go5 : Int → (List Int) → Option ((List Int) × Int)) (a1 : (List TEdge)) (gx30 : Int) (gl31 : (List Int)) : Option ((List Int) × Int) :=
  if gx30 < (a1.length : Int) then bind1 (idx a1 gx30) fun x52 => bind1 (idx gl31 x52.From) fun x54 => bind1 (i64 (x54 + 1)) fun x55 => bind1 (idx gl31 x52.From) fun x56 => bind1 (upd gl31 x52.From x55) fun l57 => bind1 (i64 (gx30 + 1)) fun x58 => go5 x58 l57 else m15_wait_Dead_K2 a1 gl31
def m15_wait_Dead_L5 (a1 : (List TEdge)) : Nat → Int → (List Int) → Option ((List Int) × Int)
  | 0, _, _ => none
  | n + 1, gx30, gl31 => m15_wait_Dead_L5B (m15_wait_Dead_L5 a1 n) a1 gx30 gl31
def m15_wait_Dead_K1 (a0 : Int) (a1 : (List TEdge)) : Option ((List Int) × Int) :=
  bind1 (mk a0 0) fun l1 => m15_wait_Dead_L5 a1 big 0 l1
def m15_wait_Dead (a0 : Int) (a1 : (List TEdge)) : Option ((List Int) × Int) :=
  bind1 (m9_graph_Check a0 a1) fun x59 => if x59 ≠ 0 then some ([], x59) else m15_wait_Dead_K1 a0 a1
def m16_wait_Victims_K4 (go1 : (List TEdge) → (List Int) → Option ((List Int) × Int)) (l12 : (List Int)) (gl7 : (List TEdge)) : Option ((List Int) × Int) :=
  go1 gl7 l12
def m16_wait_Victims_K7 (go1 : (List TEdge) → (List Int) → Option ((List Int) × Int)) (l12 : (List Int)) (gl9 : (List TEdge)) (gx10 : Int) : Option ((List Int) × Int) :=
  bind1 (cut gl9 gx10 gl9.length) fun l13 => bind1 (clr gl9 gx10 (⟨0, 0⟩ : TEdge)) fun l14 => bind1 (cut l14 0 gx10) fun l15 => m16_wait_Victims_K4 go1 l12 l15
def m16_wait_Victims_K9 (gx13 : Int) (go2 : (List TEdge) → Int → Int → Option ((List Int) × Int)) (gl11 : (List TEdge)) (gx12 : Int) (x18 : TEdge) (gb14 : Bool) : Option ((List Int) × Int) :=
  if gb14 = true then bind1 (i64 (gx13 + 1)) fun x24 => go2 gl11 gx12 x24 else bind1 (idx gl11 gx12) fun x20 => bind1 (upd gl11 gx12 x18) fun l21 => bind1 (i64 (gx12 + 1)) fun x22 => bind1 (i64 (gx13 + 1)) fun x23 => go2 l21 x22 x23
def m16_wait_Victims_K8 (gl11 : (List TEdge)) (gx13 : Int) (gx5 : Int) (go2 : (List TEdge) → Int → Int → Option ((List Int) × Int)) (gx12 : Int) : Option ((List Int) × Int) :=
  bind1 (idx gl11 gx13) fun x18 => if x18.From = gx5 then m16_wait_Victims_K9 gx13 go2 gl11 gx12 x18 true else m16_wait_Victims_K9 gx13 go2 gl11 gx12 x18 (decide (x18.To = gx5))
def m16_wait_Victims_L2B (go2 : (List TEdge) → Int → Int → Option ((List Int) × Int)) (gx5 : Int) (go1 : (List TEdge) → (List Int) → Option ((List Int) × Int)) (l12 : (List Int)) (gl11 : (List TEdge)) (gx12 : Int) (gx13 : Int) : Option ((List Int) × Int) :=
  if gx13 < (gl11.length : Int) then m16_wait_Victims_K8 gl11 gx13 gx5 go2 gx12 else m16_wait_Victims_K7 go1 l12 gl11 gx12
def m16_wait_Victims_L2 (gx5 : Int) (go1 : (List TEdge) → (List Int) → Option ((List Int) × Int)) (l12 : (List Int)) : Nat → (List TEdge) → Int → Int → Option ((List Int) × Int)
  | 0, _, _, _ => none
  | n + 1, gl11, gx12, gx13 => m16_wait_Victims_L2B (m16_wait_Victims_L2 gx5 go1 l12 n) gx5 go1 l12 gl11 gx12 gx13
def m16_wait_Victims_K6 (gx8 : Int) (gx5 : Int) (go1 : (List TEdge) → (List Int) → Option ((List Int) × Int)) (l12 : (List Int)) (gl2 : (List TEdge)) : Option ((List Int) × Int) :=
  bind1 (i64 (gx8 + 1)) fun x17 => m16_wait_Victims_L2 gx5 go1 l12 big gl2 gx8 x17
def m16_wait_Victims_K5 (go1 : (List TEdge) → (List Int) → Option ((List Int) × Int)) (l12 : (List Int)) (gl2 : (List TEdge)) (gx5 : Int) (gx8 : Int) : Option ((List Int) × Int) :=
  if gx8 = (-1) then m16_wait_Victims_K4 go1 l12 gl2 else m16_wait_Victims_K6 gx8 gx5 go1 l12 gl2
def m16_wait_Victims_K10 (go1 : (List TEdge) → (List Int) → Option ((List Int) × Int)) (l12 : (List Int)) (gl2 : (List TEdge)) (gx5 : Int) : Option ((List Int) × Int) :=
  m16_wait_Victims_K5 go1 l12 gl2 gx5 (-1)
def m16_wait_Victims_K11 (go1 : (List TEdge) → (List Int) → Option ((List Int) × Int)) (l12 : (List Int)) (gl2 : (List TEdge)) (gx5 : Int) (gx15 : Int) (go3 : Int → Option ((List Int) × Int)) (gb16 : Bool) : Option ((List Int) × Int) :=
  if gb16 = true then m16_wait_Victims_K5 go1 l12 gl2 gx5 gx15 else bind1 (i64 (gx15 + 1)) fun x31 => go3 x31
def m16_wait_Victims_L3B (go3 : Int → Option ((List Int) × Int)) (gl2 : (List TEdge)) (gx5 : Int) (go1 : (List TEdge) → (List Int) → Option ((List Int) × Int)) (l12 : (List Int)) (gx15 : Int) : Option ((List Int) × Int) :=
  if gx15 < (gl2.length : Int) then bind1 (idx gl2 gx15) fun x30 => if x30.From = gx5 then m16_wait_Victims_K11 go1 l12 gl2 gx5 gx15 go3 true else m16_wait_Victims_K11 go1 l12 gl2 gx5 gx15 go3 (decide (x30.To = gx5)) else m16_wait_Victims_K10 go1 l12 gl2 gx5
def m16_wait_Victims_L3 (gl2 : (List TEdge)) (gx5 : Int) (go1 : (List TEdge) → (List Int) → Option ((List Int) × Int)) (l12 : (List Int)) : Nat → Int → Option ((List Int) × Int)
  | 0, _ => none
  | n + 1, gx15 => m16_wait_Victims_L3B (m16_wait_Victims_L3 gl2 gx5 go1 l12 n) gl2 gx5 go1 l12 gx15
def m16_wait_Victims_K3 (gl4 : (List Int)) (gx5 : Int) (gl2 : (List TEdge)) (go1 : (List TEdge) → (List Int) → Option ((List Int) × Int)) : Option ((List Int) × Int) :=
  bind1 (app gl4 ([gx5])) fun l12 => m16_wait_Victims_L3 gl2 gx5 go1 l12 big 0
def m16_wait_Victims_K2 (gl4 : (List Int)) (gl2 : (List TEdge)) (go1 : (List TEdge) → (List Int) → Option ((List Int) × Int)) (gx5 : Int) : Option ((List Int) × Int) :=
  if gx5 < 0 then bind1 (xSort gl4) fun l35 => some (l35, 0) else m16_wait_Victims_K3 gl4 gx5 gl2 go1
def m16_wait_Victims_K12 (gx17 : Int) (go4 : Int → Int → Option ((List Int) × Int)) (gx19 : Int) : Option ((List Int) × Int) :=
  bind1 (i64 (gx17 + 1)) fun x37 => go4 x37 gx19
def m16_wait_Victims_K13 (x38 : (List Int)) (gx17 : Int) (go4 : Int → Int → Option ((List Int) × Int)) (gx18 : Int) (gb20 : Bool) : Option ((List Int) × Int) :=
  if gb20 = true then if 1 < (x38.length : Int) then bind1 (i64 ((x38.length : Int) - 1)) fun x48 => bind1 (idx x38 x48) fun x49 => m16_wait_Victims_K12 gx17 go4 (max gx18 x49) else bind1 (i64 ((x38.length : Int) - 1)) fun x52 => bind1 (idx x38 x52) fun x53 => m16_wait_Victims_K12 gx17 go4 (max gx18 x53) else if 1 < (x38.length : Int) then bind1 (i64 ((x38.length : Int) - 1)) fun x43 => bind1 (idx x38 x43) fun x44 => m16_wait_Victims_K12 gx17 go4 (max gx18 x44) else m16_wait_Victims_K12 gx17 go4 gx18
def m16_wait_Victims_K14 (x38 : (List Int)) (gx17 : Int) (go4 : Int → Int → Option ((List Int) × Int)) (gx18 : Int) (gb21 : Bool) : Option ((List Int) × Int) :=
  if gb21 = true then m16_wait_Victims_K13 x38 gx17 go4 gx18 true else m16_wait_Victims_K13 x38 gx17 go4 gx18 false
def m16_wait_Victims_K15 (x38 : (List Int)) (gx17 : Int) (go4 : Int → Int → Option ((List Int) × Int)) (gx18 : Int) (gx22 : Int) : Option ((List Int) × Int) :=
  m16_wait_Victims_K14 x38 gx17 go4 gx18 (decide (0 ≤ gx22))
def m16_wait_Victims_K16 (x38 : (List Int)) (gx17 : Int) (go4 : Int → Int → Option ((List Int) × Int)) (gx18 : Int) : Option ((List Int) × Int) :=
  m16_wait_Victims_K15 x38 gx17 go4 gx18 (-1)
def m16_wait_Victims_K17 (x38 : (List Int)) (gx17 : Int) (go4 : Int → Int → Option ((List Int) × Int)) (gx18 : Int) (gx23 : Int) (go5 : Int → Option ((List Int) × Int)) (gb24 : Bool) : Option ((List Int) × Int) :=
  if gb24 = true then m16_wait_Victims_K15 x38 gx17 go4 gx18 gx23 else bind1 (i64 (gx23 + 1)) fun x56 => go5 x56
def m16_wait_Victims_L5B (go5 : Int → Option ((List Int) × Int)) (gl2 : (List TEdge)) (x38 : (List Int)) (gx17 : Int) (go4 : Int → Int → Option ((List Int) × Int)) (gx18 : Int) (gx23 : Int) : Option ((List Int) × Int) :=
  if gx23 < (gl2.length : Int) then bind1 (idx gl2 gx23) fun x55 => if x55.From = x55.To then bind1 (idx x38 0) fun x59 => m16_wait_Victims_K17 x38 gx17 go4 gx18 gx23 go5 (decide (x55.From = x59)) else m16_wait_Victims_K17 x38 gx17 go4 gx18 gx23 go5 false else m16_wait_Victims_K16 x38 gx17 go4 gx18
def m16_wait_Victims_L5 (gl2 : (List TEdge)) (x38 : (List Int)) (gx17 : Int) (go4 : Int → Int → Option ((List Int) × Int)) (gx18 : Int) : Nat → Int → Option ((List Int) × Int)
  | 0, _ => none
  | n + 1, gx23 => m16_wait_Victims_L5B (m16_wait_Victims_L5 gl2 x38 gx17 go4 gx18 n) gl2 x38 gx17 go4 gx18 gx23
def m16_wait_Victims_L4B (go4 : Int → Int → Option ((List Int) × Int)) (l5 : (List (List Int))) (gl2 : (List TEdge)) (gl4 : (List Int)) (go1 : (List TEdge) → (List Int) → Option ((List Int) × Int)) (gx17 : Int) (gx18 : Int) : Option ((List Int) × Int) :=
  if gx17 < (l5.length : Int) then bind1 (idx l5 gx17) fun x38 => m16_wait_Victims_L5 gl2 x38 gx17 go4 gx18 big 0 else m16_wait_Victims_K2 gl4 gl2 go1 gx18
def m16_wait_Victims_L4 (l5 : (List (List Int))) (gl2 : (List TEdge)) (gl4 : (List Int)) (go1 : (List TEdge) → (List Int) → Option ((List Int) × Int)) : Nat → Int → Int → Option ((List Int) × Int)
  | 0, _, _ => none
  | n + 1, gx17, gx18 => m16_wait_Victims_L4B (m16_wait_Victims_L4 l5 gl2 gl4 go1 n) l5 gl2 gl4 go1 gx17 gx18
def m16_wait_Victims_L1B (go1 : (List TEdge) → (List Int) → Option ((List Int) × Int)) (a0 : Int) (gl2 : (List TEdge)) (gl4 : (List Int)) : Option ((List Int) × Int) :=
  bind2 (m7_graph_Parts a0 gl2) fun l5 x8 => m16_wait_Victims_L4 l5 gl2 gl4 go1 big 0 (-1)
def m16_wait_Victims_L1 (a0 : Int) : Nat → (List TEdge) → (List Int) → Option ((List Int) × Int)
  | 0, _, _ => none
  | n + 1, gl2, gl4 => m16_wait_Victims_L1B (m16_wait_Victims_L1 a0 n) a0 gl2 gl4
def m16_wait_Victims_K1 (a1 : (List TEdge)) (a0 : Int) : Option ((List Int) × Int) :=
  bind1 (m26_api_Edge a1) fun l1 => m16_wait_Victims_L1 a0 big l1 []
def m16_wait_Victims (a0 : Int) (a1 : (List TEdge)) : Option ((List Int) × Int) :=
  bind1 (m9_graph_Check a0 a1) fun x60 => if x60 ≠ 0 then some ([], x60) else m16_wait_Victims_K1 a1 a0
def m17_wait_Rule_K4 : Option (Int × Int) :=
  some (3, 0)
def m17_wait_Rule_K5 (a0 : Int) (gb2 : Bool) : Option (Int × Int) :=
  if gb2 = true then some (1, 0) else if a0 = 1 then some (2, 0) else m17_wait_Rule_K4
def m17_wait_Rule_K6 : Option (Int × Int) :=
  some (3, 0)
def m17_wait_Rule_K7 (a0 : Int) (gb3 : Bool) : Option (Int × Int) :=
  if gb3 = true then some (1, 0) else if a0 = 1 then some (2, 0) else m17_wait_Rule_K6
def m17_wait_Rule_K3 (a0 : Int) (gb1 : Bool) : Option (Int × Int) :=
  if gb1 = true then if a0 = 1 then m17_wait_Rule_K7 a0 true else if a0 = 2 then m17_wait_Rule_K7 a0 false else m17_wait_Rule_K7 a0 false else if a0 = 1 then if a0 = 2 then m17_wait_Rule_K5 a0 true else m17_wait_Rule_K5 a0 false else if a0 = 2 then m17_wait_Rule_K5 a0 true else m17_wait_Rule_K5 a0 false
def m17_wait_Rule_K2 (a1 : Int) (a2 : Int) (a0 : Int) : Option (Int × Int) :=
  if a1 < a2 then m17_wait_Rule_K3 a0 true else m17_wait_Rule_K3 a0 false
def m17_wait_Rule_K1 (a1 : Int) (a2 : Int) (a0 : Int) : Option (Int × Int) :=
  if a1 = a2 then some (0, 4) else m17_wait_Rule_K2 a1 a2 a0
def m17_wait_Rule (a0 : Int) (a1 : Int) (a2 : Int) : Option (Int × Int) :=
  if a0 ≠ 1 then if a0 ≠ 2 then some (0, 1) else m17_wait_Rule_K1 a1 a2 a0 else m17_wait_Rule_K1 a1 a2 a0
def m18_quirref_Dead_K1 (gl2 : (List Int)) : Option (List Int) :=
  some gl2
def m18_quirref_Dead_K2 (gx5 : Int) (go1 : (List Int) → Int → Option (List Int)) (gl7 : (List Int)) : Option (List Int) :=
  bind1 (i64 (gx5 + 1)) fun x6 => go1 gl7 x6
def m18_quirref_Dead_K4 (gl4 : (List Int)) (gx5 : Int) (go1 : (List Int) → Int → Option (List Int)) (gb9 : Bool) : Option (List Int) :=
  if gb9 = true then bind1 (app gl4 ([gx5])) fun l9 => m18_quirref_Dead_K2 gx5 go1 l9 else m18_quirref_Dead_K2 gx5 go1 gl4
def m18_quirref_Dead_K5 (gx11 : Int) (go2 : Bool → Int → Option (List Int)) (gb12 : Bool) : Option (List Int) :=
  if gb12 = true then bind1 (i64 (gx11 + 1)) fun x12 => go2 true x12 else bind1 (i64 (gx11 + 1)) fun x11 => go2 false x11
def m18_quirref_Dead_L2B (go2 : Bool → Int → Option (List Int)) (a0 : Int) (l1 : (List (List Bool))) (gx5 : Int) (gl4 : (List Int)) (go1 : (List Int) → Int → Option (List Int)) (gb10 : Bool) (gx11 : Int) : Option (List Int) :=
  if gx11 < a0 then if gb10 = true then m18_quirref_Dead_K5 gx11 go2 true else bind1 (idx l1 gx5) fun x14 => bind1 (idx x14 gx11) fun x15 => if x15 = true then bind1 (idx l1 gx11) fun x17 => bind1 (idx x17 gx11) fun x18 => if x18 = true then m18_quirref_Dead_K5 gx11 go2 true else m18_quirref_Dead_K5 gx11 go2 false else m18_quirref_Dead_K5 gx11 go2 false else m18_quirref_Dead_K4 gl4 gx5 go1 gb10
def m18_quirref_Dead_L2 (a0 : Int) (l1 : (List (List Bool))) (gx5 : Int) (gl4 : (List Int)) (go1 : (List Int) → Int → Option (List Int)) : Nat → Bool → Int → Option (List Int)
  | 0, _, _ => none
  | n + 1, gb10, gx11 => m18_quirref_Dead_L2B (m18_quirref_Dead_L2 a0 l1 gx5 gl4 go1 n) a0 l1 gx5 gl4 go1 gb10 gx11
def m18_quirref_Dead_K6 (gl4 : (List Int)) (gx5 : Int) (go1 : (List Int) → Int → Option (List Int)) : Option (List Int) :=
  bind1 (app gl4 ([gx5])) fun l22 => m18_quirref_Dead_K2 gx5 go1 l22
def m18_quirref_Dead_L3B (go3 : Int → Option (List Int)) (a0 : Int) (gl4 : (List Int)) (gx5 : Int) (go1 : (List Int) → Int → Option (List Int)) (gx13 : Int) : Option (List Int) :=
  if gx13 < a0 then bind1 (i64 (gx13 + 1)) fun x24 => go3 x24 else m18_quirref_Dead_K6 gl4 gx5 go1
def m18_quirref_Dead_L3 (a0 : Int) (gl4 : (List Int)) (gx5 : Int) (go1 : (List Int) → Int → Option (List Int)) : Nat → Int → Option (List Int)
  | 0, _ => none
  | n + 1, gx13 => m18_quirref_Dead_L3B (m18_quirref_Dead_L3 a0 gl4 gx5 go1 n) a0 gl4 gx5 go1 gx13
def m18_quirref_Dead_K3 (a0 : Int) (gl4 : (List Int)) (gx5 : Int) (go1 : (List Int) → Int → Option (List Int)) (l1 : (List (List Bool))) (gb8 : Bool) : Option (List Int) :=
  if gb8 = true then m18_quirref_Dead_L3 a0 gl4 gx5 go1 big 0 else m18_quirref_Dead_L2 a0 l1 gx5 gl4 go1 big false 0
def m18_quirref_Dead_L1B (go1 : (List Int) → Int → Option (List Int)) (a0 : Int) (l1 : (List (List Bool))) (gl4 : (List Int)) (gx5 : Int) : Option (List Int) :=
  if gx5 < a0 then bind1 (idx l1 gx5) fun x25 => bind1 (idx x25 gx5) fun x26 => if x26 = true then m18_quirref_Dead_K3 a0 gl4 gx5 go1 l1 true else m18_quirref_Dead_K3 a0 gl4 gx5 go1 l1 false else m18_quirref_Dead_K1 gl4
def m18_quirref_Dead_L1 (a0 : Int) (l1 : (List (List Bool))) : Nat → (List Int) → Int → Option (List Int)
  | 0, _, _ => none
  | n + 1, gl4, gx5 => m18_quirref_Dead_L1B (m18_quirref_Dead_L1 a0 l1 n) a0 l1 gl4 gx5
def m18_quirref_Dead (a0 : Int) (a1 : (List TEdge)) : Option (List Int) :=
  bind1 (m14_quirref_Closure a0 a1) fun l1 => m18_quirref_Dead_L1 a0 l1 big [] 0
def m19_quirref_Victims_K3 (go1 : (List Int) → (List TEdge) → Option (List Int)) (l11 : (List Int)) (gl7 : (List TEdge)) : Option (List Int) :=
  go1 l11 gl7
def m19_quirref_Victims_K6 (go1 : (List Int) → (List TEdge) → Option (List Int)) (l11 : (List Int)) (gl9 : (List TEdge)) (gx10 : Int) : Option (List Int) :=
  bind1 (cut gl9 gx10 gl9.length) fun l12 => bind1 (clr gl9 gx10 (⟨0, 0⟩ : TEdge)) fun l13 => bind1 (cut l13 0 gx10) fun l14 => m19_quirref_Victims_K3 go1 l11 l14
def m19_quirref_Victims_K8 (gx13 : Int) (go2 : (List TEdge) → Int → Int → Option (List Int)) (gl11 : (List TEdge)) (gx12 : Int) (x17 : TEdge) (gb14 : Bool) : Option (List Int) :=
  if gb14 = true then bind1 (i64 (gx13 + 1)) fun x23 => go2 gl11 gx12 x23 else bind1 (idx gl11 gx12) fun x19 => bind1 (upd gl11 gx12 x17) fun l20 => bind1 (i64 (gx12 + 1)) fun x21 => bind1 (i64 (gx13 + 1)) fun x22 => go2 l20 x21 x22
def m19_quirref_Victims_K7 (gl11 : (List TEdge)) (gx13 : Int) (gx5 : Int) (go2 : (List TEdge) → Int → Int → Option (List Int)) (gx12 : Int) : Option (List Int) :=
  bind1 (idx gl11 gx13) fun x17 => if x17.From = gx5 then m19_quirref_Victims_K8 gx13 go2 gl11 gx12 x17 true else m19_quirref_Victims_K8 gx13 go2 gl11 gx12 x17 (decide (x17.To = gx5))
def m19_quirref_Victims_L2B (go2 : (List TEdge) → Int → Int → Option (List Int)) (gx5 : Int) (go1 : (List Int) → (List TEdge) → Option (List Int)) (l11 : (List Int)) (gl11 : (List TEdge)) (gx12 : Int) (gx13 : Int) : Option (List Int) :=
  if gx13 < (gl11.length : Int) then m19_quirref_Victims_K7 gl11 gx13 gx5 go2 gx12 else m19_quirref_Victims_K6 go1 l11 gl11 gx12
def m19_quirref_Victims_L2 (gx5 : Int) (go1 : (List Int) → (List TEdge) → Option (List Int)) (l11 : (List Int)) : Nat → (List TEdge) → Int → Int → Option (List Int)
  | 0, _, _, _ => none
  | n + 1, gl11, gx12, gx13 => m19_quirref_Victims_L2B (m19_quirref_Victims_L2 gx5 go1 l11 n) gx5 go1 l11 gl11 gx12 gx13
def m19_quirref_Victims_K5 (gx8 : Int) (gx5 : Int) (go1 : (List Int) → (List TEdge) → Option (List Int)) (l11 : (List Int)) (gl4 : (List TEdge)) : Option (List Int) :=
  bind1 (i64 (gx8 + 1)) fun x16 => m19_quirref_Victims_L2 gx5 go1 l11 big gl4 gx8 x16
def m19_quirref_Victims_K4 (go1 : (List Int) → (List TEdge) → Option (List Int)) (l11 : (List Int)) (gl4 : (List TEdge)) (gx5 : Int) (gx8 : Int) : Option (List Int) :=
  if gx8 = (-1) then m19_quirref_Victims_K3 go1 l11 gl4 else m19_quirref_Victims_K5 gx8 gx5 go1 l11 gl4
def m19_quirref_Victims_K9 (go1 : (List Int) → (List TEdge) → Option (List Int)) (l11 : (List Int)) (gl4 : (List TEdge)) (gx5 : Int) : Option (List Int) :=
  m19_quirref_Victims_K4 go1 l11 gl4 gx5 (-1)
def m19_quirref_Victims_K10 (go1 : (List Int) → (List TEdge) → Option (List Int)) (l11 : (List Int)) (gl4 : (List TEdge)) (gx5 : Int) (gx15 : Int) (go3 : Int → Option (List Int)) (gb16 : Bool) : Option (List Int) :=
  if gb16 = true then m19_quirref_Victims_K4 go1 l11 gl4 gx5 gx15 else bind1 (i64 (gx15 + 1)) fun x30 => go3 x30
def m19_quirref_Victims_L3B (go3 : Int → Option (List Int)) (gl4 : (List TEdge)) (gx5 : Int) (go1 : (List Int) → (List TEdge) → Option (List Int)) (l11 : (List Int)) (gx15 : Int) : Option (List Int) :=
  if gx15 < (gl4.length : Int) then bind1 (idx gl4 gx15) fun x29 => if x29.From = gx5 then m19_quirref_Victims_K10 go1 l11 gl4 gx5 gx15 go3 true else m19_quirref_Victims_K10 go1 l11 gl4 gx5 gx15 go3 (decide (x29.To = gx5)) else m19_quirref_Victims_K9 go1 l11 gl4 gx5
def m19_quirref_Victims_L3 (gl4 : (List TEdge)) (gx5 : Int) (go1 : (List Int) → (List TEdge) → Option (List Int)) (l11 : (List Int)) : Nat → Int → Option (List Int)
  | 0, _ => none
  | n + 1, gx15 => m19_quirref_Victims_L3B (m19_quirref_Victims_L3 gl4 gx5 go1 l11 n) gl4 gx5 go1 l11 gx15
def m19_quirref_Victims_K2 (gl2 : (List Int)) (gx5 : Int) (gl4 : (List TEdge)) (go1 : (List Int) → (List TEdge) → Option (List Int)) : Option (List Int) :=
  bind1 (app gl2 ([gx5])) fun l11 => m19_quirref_Victims_L3 gl4 gx5 go1 l11 big 0
def m19_quirref_Victims_K1 (gl2 : (List Int)) (gl4 : (List TEdge)) (go1 : (List Int) → (List TEdge) → Option (List Int)) (gx5 : Int) : Option (List Int) :=
  if gx5 < 0 then bind1 (xSort gl2) fun l34 => some l34 else m19_quirref_Victims_K2 gl2 gx5 gl4 go1
def m19_quirref_Victims_L4B (go4 : Int → Int → Option (List Int)) (a0 : Int) (l4 : (List (List Bool))) (gl2 : (List Int)) (gl4 : (List TEdge)) (go1 : (List Int) → (List TEdge) → Option (List Int)) (gx17 : Int) (gx18 : Int) : Option (List Int) :=
  if gx17 < a0 then bind1 (idx l4 gx17) fun x36 => bind1 (idx x36 gx17) fun x37 => if x37 = true then bind1 (i64 (gx17 + 1)) fun x39 => go4 x39 gx17 else bind1 (i64 (gx17 + 1)) fun x40 => go4 x40 gx18 else m19_quirref_Victims_K1 gl2 gl4 go1 gx18
def m19_quirref_Victims_L4 (a0 : Int) (l4 : (List (List Bool))) (gl2 : (List Int)) (gl4 : (List TEdge)) (go1 : (List Int) → (List TEdge) → Option (List Int)) : Nat → Int → Int → Option (List Int)
  | 0, _, _ => none
  | n + 1, gx17, gx18 => m19_quirref_Victims_L4B (m19_quirref_Victims_L4 a0 l4 gl2 gl4 go1 n) a0 l4 gl2 gl4 go1 gx17 gx18
def m19_quirref_Victims_L1B (go1 : (List Int) → (List TEdge) → Option (List Int)) (a0 : Int) (gl2 : (List Int)) (gl4 : (List TEdge)) : Option (List Int) :=
  bind1 (m14_quirref_Closure a0 gl4) fun l4 => m19_quirref_Victims_L4 a0 l4 gl2 gl4 go1 big 0 (-1)
def m19_quirref_Victims_L1 (a0 : Int) : Nat → (List Int) → (List TEdge) → Option (List Int)
  | 0, _, _ => none
  | n + 1, gl2, gl4 => m19_quirref_Victims_L1B (m19_quirref_Victims_L1 a0 n) a0 gl2 gl4
def m19_quirref_Victims (a0 : Int) (a1 : (List TEdge)) : Option (List Int) :=
  bind1 (m26_api_Edge a1) fun l1 => m19_quirref_Victims_L1 a0 big [] l1
def m4_quirlaw_WaitSays_K3 (a0 : Int) (a1 : (List TEdge)) (l7 : (List Int)) (x9 : Int) (gb1 : Bool) : Option Bool :=
  if gb1 = true then bind1 (m19_quirref_Victims a0 a1) fun l14 => bind1 (m11_slices_Equal_int l7 l14) fun b17 => if b17 = true then some (decide (x9 = 0)) else some false else some false
def m4_quirlaw_WaitSays_K2 (a0 : Int) (a1 : (List TEdge)) (l3 : (List Int)) (x5 : Int) (l7 : (List Int)) (x9 : Int) : Option Bool :=
  bind1 (m18_quirref_Dead a0 a1) fun l19 => bind1 (m11_slices_Equal_int l3 l19) fun b22 => if b22 = true then if x5 = 0 then m4_quirlaw_WaitSays_K3 a0 a1 l7 x9 true else m4_quirlaw_WaitSays_K3 a0 a1 l7 x9 false else m4_quirlaw_WaitSays_K3 a0 a1 l7 x9 false
def m4_quirlaw_WaitSays_K4 (l7 : (List Int)) (x9 : Int) (x1 : Int) (gb2 : Bool) : Option Bool :=
  if gb2 = true then if (l7.length : Int) = 0 then some (decide (x9 = x1)) else some false else some false
def m4_quirlaw_WaitSays_K1 (x1 : Int) (l3 : (List Int)) (x5 : Int) (l7 : (List Int)) (x9 : Int) (a0 : Int) (a1 : (List TEdge)) : Option Bool :=
  if x1 ≠ 0 then if (l3.length : Int) = 0 then if x5 = x1 then m4_quirlaw_WaitSays_K4 l7 x9 x1 true else m4_quirlaw_WaitSays_K4 l7 x9 x1 false else m4_quirlaw_WaitSays_K4 l7 x9 x1 false else m4_quirlaw_WaitSays_K2 a0 a1 l3 x5 l7 x9
def m4_quirlaw_WaitSays_K7 (x11 : Int) (x12 : Int) (x1 : Int) (l3 : (List Int)) (x5 : Int) (l7 : (List Int)) (x9 : Int) (a0 : Int) (a1 : (List TEdge)) (gx5 : Int) : Option Bool :=
  if x11 ≠ gx5 then some false else if x12 ≠ 0 then some false else m4_quirlaw_WaitSays_K1 x1 l3 x5 l7 x9 a0 a1
def m4_quirlaw_WaitSays_K6 (a2 : Int) (a3 : Int) (a4 : Int) (x11 : Int) (x12 : Int) (x1 : Int) (l3 : (List Int)) (x5 : Int) (l7 : (List Int)) (x9 : Int) (a0 : Int) (a1 : (List TEdge)) (gx4 : Int) : Option Bool :=
  if a2 = 2 then if a3 < a4 then m4_quirlaw_WaitSays_K7 x11 x12 x1 l3 x5 l7 x9 a0 a1 3 else m4_quirlaw_WaitSays_K7 x11 x12 x1 l3 x5 l7 x9 a0 a1 gx4 else m4_quirlaw_WaitSays_K7 x11 x12 x1 l3 x5 l7 x9 a0 a1 gx4
def m4_quirlaw_WaitSays_K5 (x11 : Int) (x12 : Int) (x1 : Int) (l3 : (List Int)) (x5 : Int) (l7 : (List Int)) (x9 : Int) (a0 : Int) (a1 : (List TEdge)) (a3 : Int) (a4 : Int) (a2 : Int) (gb3 : Bool) : Option Bool :=
  if gb3 = true then if x11 ≠ 0 then some false else if x12 ≠ 1 then some false else m4_quirlaw_WaitSays_K1 x1 l3 x5 l7 x9 a0 a1 else if a3 = a4 then if x11 ≠ 0 then some false else if x12 ≠ 4 then some false else m4_quirlaw_WaitSays_K1 x1 l3 x5 l7 x9 a0 a1 else if a2 = 1 then if a4 < a3 then m4_quirlaw_WaitSays_K6 a2 a3 a4 x11 x12 x1 l3 x5 l7 x9 a0 a1 2 else m4_quirlaw_WaitSays_K6 a2 a3 a4 x11 x12 x1 l3 x5 l7 x9 a0 a1 1 else m4_quirlaw_WaitSays_K6 a2 a3 a4 x11 x12 x1 l3 x5 l7 x9 a0 a1 1
def m4_quirlaw_WaitSays (a0 : Int) (a1 : (List TEdge)) (a2 : Int) (a3 : Int) (a4 : Int) : Option Bool :=
  bind1 (m5_quirref_GraphErr a0 a1) fun x1 => bind2 (m15_wait_Dead a0 a1) fun l3 x5 => bind2 (m16_wait_Victims a0 a1) fun l7 x9 => bind2 (m17_wait_Rule a2 a3 a4) fun x11 x12 => if a2 ≠ 1 then if a2 ≠ 2 then m4_quirlaw_WaitSays_K5 x11 x12 x1 l3 x5 l7 x9 a0 a1 a3 a4 a2 true else m4_quirlaw_WaitSays_K5 x11 x12 x1 l3 x5 l7 x9 a0 a1 a3 a4 a2 false else m4_quirlaw_WaitSays_K5 x11 x12 x1 l3 x5 l7 x9 a0 a1 a3 a4 a2 false
end Go.Proofs.Ytjhcdmcikodgkaa
