/-
  Models, printed by a program of mine.
  Conditions: none.
-/
import Derived.Test.YtglbgeamiobldaaSf
import Derived.Test.YtglbgeamiobldaaMq
namespace Go.Proofs.Ytglbgeamiobldaa
open Go.S
set_option linter.unusedVariables false
structure TOp where
  Tx : Int
  Kind : Int
  Item : Int
  deriving DecidableEq, Inhabited
def TOp.row (x : TOp) : List Value := [.int .i64 x.Tx, .int .i64 x.Kind, .int .i64 x.Item]
structure Tpair where
  a_ : Int
  i_ : Int
  b_ : Int
  k_ : Int
  deriving DecidableEq, Inhabited
def Tpair.row (x : Tpair) : List Value := [.int .i64 x.a_, .int .i64 x.i_, .int .i64 x.b_, .int .i64 x.k_]
structure Tname where
  tx_ : Int
  n_ : Int
  deriving DecidableEq, Inhabited
def Tname.row (x : Tname) : List Value := [.int .i64 x.tx_, .int .i64 x.n_]
structure TSeen where
  At : Int
  From : Int
  deriving DecidableEq, Inhabited
def TSeen.row (x : TSeen) : List Value := [.int .i64 x.At, .int .i64 x.From]
def m5_quirref_RunErr_K2 : Option Int :=
  some 0
def m5_quirref_RunErr_K3 (gx1 : Int) (go1 : Int → Option Int) : Option Int :=
  bind1 (i64 (gx1 + 1)) fun x2 => go1 x2
def m5_quirref_RunErr_L2B (go2 : Int → Option Int) (l5 : (List TOp)) (x3 : TOp) (gx1 : Int) (go1 : Int → Option Int) (gx2 : Int) : Option Int :=
  if gx2 < (l5.length : Int) then bind1 (idx l5 gx2) fun x7 => if x7.Tx = x3.Tx then if 2 < x7.Kind then some 4 else bind1 (i64 (gx2 + 1)) fun x11 => go2 x11 else bind1 (i64 (gx2 + 1)) fun x12 => go2 x12 else m5_quirref_RunErr_K3 gx1 go1
def m5_quirref_RunErr_L2 (l5 : (List TOp)) (x3 : TOp) (gx1 : Int) (go1 : Int → Option Int) : Nat → Int → Option Int
  | 0, _ => none
  | n + 1, gx2 => m5_quirref_RunErr_L2B (m5_quirref_RunErr_L2 l5 x3 gx1 go1 n) l5 x3 gx1 go1 gx2
def m5_quirref_RunErr_K5 (a0 : (List TOp)) (gx1 : Int) (x3 : TOp) (go1 : Int → Option Int) : Option Int :=
  bind1 (cut a0 0 gx1) fun l5 => m5_quirref_RunErr_L2 l5 x3 gx1 go1 big 0
def m5_quirref_RunErr_K7 (a0 : (List TOp)) (gx1 : Int) (x3 : TOp) (go1 : Int → Option Int) (gb4 : Bool) : Option Int :=
  if gb4 = true then some 4 else m5_quirref_RunErr_K5 a0 gx1 x3 go1
def m5_quirref_RunErr_K6 (x3 : TOp) (a0 : (List TOp)) (gx1 : Int) (go1 : Int → Option Int) (gb3 : Bool) : Option Int :=
  if gb3 = true then some 4 else if 2 < x3.Kind then if x3.Item ≠ 0 then m5_quirref_RunErr_K7 a0 gx1 x3 go1 true else m5_quirref_RunErr_K7 a0 gx1 x3 go1 false else m5_quirref_RunErr_K7 a0 gx1 x3 go1 false
def m5_quirref_RunErr_K4 (x3 : TOp) (a0 : (List TOp)) (gx1 : Int) (go1 : Int → Option Int) : Option Int :=
  if x3.Kind < 1 then m5_quirref_RunErr_K6 x3 a0 gx1 go1 true else if 4 < x3.Kind then m5_quirref_RunErr_K6 x3 a0 gx1 go1 true else m5_quirref_RunErr_K6 x3 a0 gx1 go1 false
def m5_quirref_RunErr_K8 (x3 : TOp) (a0 : (List TOp)) (gx1 : Int) (go1 : Int → Option Int) (gb5 : Bool) : Option Int :=
  if gb5 = true then some 1 else if x3.Item < 0 then some 1 else if 19 < x3.Item then some 1 else m5_quirref_RunErr_K4 x3 a0 gx1 go1
def m5_quirref_RunErr_L1B (go1 : Int → Option Int) (a0 : (List TOp)) (gx1 : Int) : Option Int :=
  if gx1 < (a0.length : Int) then bind1 (idx a0 gx1) fun x3 => if x3.Tx < 0 then m5_quirref_RunErr_K8 x3 a0 gx1 go1 true else if 11 < x3.Tx then m5_quirref_RunErr_K8 x3 a0 gx1 go1 true else m5_quirref_RunErr_K8 x3 a0 gx1 go1 false else m5_quirref_RunErr_K2
def m5_quirref_RunErr_L1 (a0 : (List TOp)) : Nat → Int → Option Int
  | 0, _ => none
  | n + 1, gx1 => m5_quirref_RunErr_L1B (m5_quirref_RunErr_L1 a0 n) a0 gx1
def m5_quirref_RunErr_K1 (a0 : (List TOp)) : Option Int :=
  m5_quirref_RunErr_L1 a0 big 0
def m5_quirref_RunErr (a0 : (List TOp)) : Option Int :=
  if 200 < (a0.length : Int) then some 2 else m5_quirref_RunErr_K1 a0
def m4_quirlaw_firstOf (a0 : Int) (a1 : Int) : Option Int :=
  if a0 ≠ 0 then some a0 else some a1
def m10_run_Check_K2 : Option Int :=
  some 0
def m10_run_Check_K3 (gx1 : Int) (go1 : Int → (List Bool) → Option Int) (gl3 : (List Bool)) : Option Int :=
  bind1 (i64 (gx1 + 1)) fun x3 => go1 x3 gl3
def m10_run_Check_K5 (gl2 : (List Bool)) (x4 : TOp) (gx1 : Int) (go1 : Int → (List Bool) → Option Int) : Option Int :=
  bind1 (idxA 12 gl2 x4.Tx) fun x6 => if x6 = true then some 4 else bind1 (idxA 12 gl2 x4.Tx) fun x8 => bind1 (upd gl2 x4.Tx (decide (3 ≤ x4.Kind))) fun l9 => m10_run_Check_K3 gx1 go1 l9
def m10_run_Check_K6 (gl2 : (List Bool)) (x4 : TOp) (gx1 : Int) (go1 : Int → (List Bool) → Option Int) (gb4 : Bool) : Option Int :=
  if gb4 = true then m10_run_Check_K5 gl2 x4 gx1 go1 else if x4.Kind = 3 then if x4.Item ≠ 0 then some 4 else m10_run_Check_K5 gl2 x4 gx1 go1 else if x4.Kind = 4 then if x4.Item ≠ 0 then some 4 else m10_run_Check_K5 gl2 x4 gx1 go1 else some 4
def m10_run_Check_K4 (x4 : TOp) (gl2 : (List Bool)) (gx1 : Int) (go1 : Int → (List Bool) → Option Int) : Option Int :=
  if x4.Kind = 1 then m10_run_Check_K6 gl2 x4 gx1 go1 true else if x4.Kind = 2 then m10_run_Check_K6 gl2 x4 gx1 go1 true else m10_run_Check_K6 gl2 x4 gx1 go1 false
def m10_run_Check_K7 (x4 : TOp) (gl2 : (List Bool)) (gx1 : Int) (go1 : Int → (List Bool) → Option Int) (gb5 : Bool) : Option Int :=
  if gb5 = true then some 1 else if x4.Item < 0 then some 1 else if 20 ≤ x4.Item then some 1 else m10_run_Check_K4 x4 gl2 gx1 go1
def m10_run_Check_L1B (go1 : Int → (List Bool) → Option Int) (a0 : (List TOp)) (gx1 : Int) (gl2 : (List Bool)) : Option Int :=
  if gx1 < (a0.length : Int) then bind1 (idx a0 gx1) fun x4 => if x4.Tx < 0 then m10_run_Check_K7 x4 gl2 gx1 go1 true else if 12 ≤ x4.Tx then m10_run_Check_K7 x4 gl2 gx1 go1 true else m10_run_Check_K7 x4 gl2 gx1 go1 false else m10_run_Check_K2
def m10_run_Check_L1 (a0 : (List TOp)) : Nat → Int → (List Bool) → Option Int
  | 0, _, _ => none
  | n + 1, gx1, gl2 => m10_run_Check_L1B (m10_run_Check_L1 a0 n) a0 gx1 gl2
def m10_run_Check_K1 (a0 : (List TOp)) : Option Int :=
  m10_run_Check_L1 a0 big 0 (List.replicate 12 (false : Bool))
def m10_run_Check (a0 : (List TOp)) : Option Int :=
  if 200 < (a0.length : Int) then some 2 else m10_run_Check_K1 a0
def m14_api_Op (a0 : (List TOp)) : Option (List TOp) :=
  bind1 (app [] a0) fun l3 => some l3
def m12_api_Op_K2 : Option Bool :=
  some true
def m12_api_Op_L1B (go1 : Int → Option Bool) (a0 : (List TOp)) (a1 : (List TOp)) (gx1 : Int) : Option Bool :=
  if gx1 < (a0.length : Int) then bind1 (idx a0 gx1) fun x2 => bind1 (idx a1 gx1) fun x3 => if x2 ≠ x3 then some false else bind1 (i64 (gx1 + 1)) fun x5 => go1 x5 else m12_api_Op_K2
def m12_api_Op_L1 (a0 : (List TOp)) (a1 : (List TOp)) : Nat → Int → Option Bool
  | 0, _ => none
  | n + 1, gx1 => m12_api_Op_L1B (m12_api_Op_L1 a0 a1 n) a0 a1 gx1
def m12_api_Op_K1 (a0 : (List TOp)) (a1 : (List TOp)) : Option Bool :=
  m12_api_Op_L1 a0 a1 big 0
def m12_api_Op (a0 : (List TOp)) (a1 : (List TOp)) : Option Bool :=
  if (a0.length : Int) ≠ (a1.length : Int) then some false else m12_api_Op_K1 a0 a1
def m28_run_clash_K2 (a0 : TOp) (a1 : TOp) (gb2 : Bool) : Option Bool :=
  if gb2 = true then if a0.Kind = 2 then some true else some (decide (a1.Kind = 2)) else some false
def m28_run_clash_K1 (a1 : TOp) (a0 : TOp) (gb1 : Bool) : Option Bool :=
  if gb1 = true then if a1.Kind < 3 then if a0.Item = a1.Item then m28_run_clash_K2 a0 a1 true else m28_run_clash_K2 a0 a1 false else m28_run_clash_K2 a0 a1 false else some false
def m28_run_clash (a0 : TOp) (a1 : TOp) : Option Bool :=
  if a0.Tx ≠ a1.Tx then if a0.Kind < 3 then m28_run_clash_K1 a1 a0 true else m28_run_clash_K1 a1 a0 false else m28_run_clash_K1 a1 a0 false
def m54_cmp_isNaN_int (a0 : Int) : Option Bool :=
  some (decide (a0 ≠ a0))
def m40_cmp_Compare_int_K1 (a1 : Int) (a0 : Int) (gb1 : Bool) : Option Int :=
  if gb1 = true then bind1 (m54_cmp_isNaN_int a1) fun b5 => if b5 = true then some 0 else some (-1) else bind1 (m54_cmp_isNaN_int a1) fun b1 => if b1 = true then some 1 else if a0 < a1 then some (-1) else if a1 < a0 then some 1 else some 0
def m40_cmp_Compare_int (a0 : Int) (a1 : Int) : Option Int :=
  bind1 (m54_cmp_isNaN_int a0) fun b7 => if b7 = true then m40_cmp_Compare_int_K1 a1 a0 true else m40_cmp_Compare_int_K1 a1 a0 false
def m31_slices_Compare_int_K1 (a0 : (List Int)) (a1 : (List Int)) : Option Int :=
  if (a0.length : Int) < (a1.length : Int) then some (-1) else some 0
def m31_slices_Compare_int_K2 (a1 : (List Int)) (gx1 : Int) (x3 : Int) (go1 : Int → Option Int) : Option Int :=
  bind1 (idx a1 gx1) fun x4 => bind1 (m40_cmp_Compare_int x3 x4) fun x5 => if x5 ≠ 0 then some x5 else bind1 (i64 (gx1 + 1)) fun x8 => go1 x8
def m31_slices_Compare_int_L1B (go1 : Int → Option Int) (a0 : (List Int)) (a1 : (List Int)) (gx1 : Int) : Option Int :=
  if gx1 < (a0.length : Int) then bind1 (idx a0 gx1) fun x3 => if (a1.length : Int) ≤ gx1 then some 1 else m31_slices_Compare_int_K2 a1 gx1 x3 go1 else m31_slices_Compare_int_K1 a0 a1
def m31_slices_Compare_int_L1 (a0 : (List Int)) (a1 : (List Int)) : Nat → Int → Option Int
  | 0, _ => none
  | n + 1, gx1 => m31_slices_Compare_int_L1B (m31_slices_Compare_int_L1 a0 a1 n) a0 a1 gx1
def m31_slices_Compare_int (a0 : (List Int)) (a1 : (List Int)) : Option Int :=
  m31_slices_Compare_int_L1 a0 a1 big 0
def m30_run_pairs_1 (a0 : Tpair) (a1 : Tpair) : Option Int :=
  bind1 (m31_slices_Compare_int ([a0.a_, a0.i_, a0.b_, a0.k_]) ([a1.a_, a1.i_, a1.b_, a1.k_])) fun x5 => some x5
def m16_run_pairs_K2 (gl3 : (List Tpair)) : Option (List Tpair) :=
  bind1 (xSortF (fun x y => (m30_run_pairs_1 x y).getD 0) gl3) fun l4 => some l4
def m16_run_pairs_K3 (gx6 : Int) (go1 : (List Tpair) → Int → Option (List Tpair)) (gl8 : (List Tpair)) : Option (List Tpair) :=
  bind1 (i64 (gx6 + 1)) fun x6 => go1 gl8 x6
def m16_run_pairs_K4 (a0 : (List TOp)) (gx11 : Int) (x7 : TOp) (gl1 : (List Int)) (gx6 : Int) (gl10 : (List Tpair)) (go2 : (List Tpair) → Int → Option (List Tpair)) : Option (List Tpair) :=
  bind1 (idx a0 gx11) fun x10 => bind1 (m28_run_clash x7 x10) fun b11 => if b11 = true then bind1 (idx gl1 gx6) fun x20 => bind1 (idx a0 gx11) fun x21 => bind1 (idx gl1 gx11) fun x22 => bind1 (app gl10 ([(⟨x7.Tx, x20, x21.Tx, x22⟩ : Tpair)])) fun l25 => bind1 (i64 (gx11 + 1)) fun x26 => go2 l25 x26 else bind1 (i64 (gx11 + 1)) fun x13 => go2 gl10 x13
def m16_run_pairs_L2B (go2 : (List Tpair) → Int → Option (List Tpair)) (a0 : (List TOp)) (x7 : TOp) (gl1 : (List Int)) (gx6 : Int) (go1 : (List Tpair) → Int → Option (List Tpair)) (gl10 : (List Tpair)) (gx11 : Int) : Option (List Tpair) :=
  if gx11 < (a0.length : Int) then m16_run_pairs_K4 a0 gx11 x7 gl1 gx6 gl10 go2 else m16_run_pairs_K3 gx6 go1 gl10
def m16_run_pairs_L2 (a0 : (List TOp)) (x7 : TOp) (gl1 : (List Int)) (gx6 : Int) (go1 : (List Tpair) → Int → Option (List Tpair)) : Nat → (List Tpair) → Int → Option (List Tpair)
  | 0, _, _ => none
  | n + 1, gl10, gx11 => m16_run_pairs_L2B (m16_run_pairs_L2 a0 x7 gl1 gx6 go1 n) a0 x7 gl1 gx6 go1 gl10 gx11
def m16_run_pairs_L1B (go1 : (List Tpair) → Int → Option (List Tpair)) (a0 : (List TOp)) (gl1 : (List Int)) (gl5 : (List Tpair)) (gx6 : Int) : Option (List Tpair) :=
  if gx6 < (a0.length : Int) then bind1 (idx a0 gx6) fun x7 => bind1 (i64 (gx6 + 1)) fun x9 => m16_run_pairs_L2 a0 x7 gl1 gx6 go1 big gl5 x9 else m16_run_pairs_K2 gl5
def m16_run_pairs_L1 (a0 : (List TOp)) (gl1 : (List Int)) : Nat → (List Tpair) → Int → Option (List Tpair)
  | 0, _, _ => none
  | n + 1, gl5, gx6 => m16_run_pairs_L1B (m16_run_pairs_L1 a0 gl1 n) a0 gl1 gl5 gx6
def m16_run_pairs_K1 (a0 : (List TOp)) (gl1 : (List Int)) : Option (List Tpair) :=
  m16_run_pairs_L1 a0 gl1 big [] 0
def m16_run_pairs_L3B (go3 : (List Int) → Int → (List Int) → Option (List Tpair)) (a0 : (List TOp)) (gl12 : (List Int)) (gx13 : Int) (gl14 : (List Int)) : Option (List Tpair) :=
  if gx13 < (a0.length : Int) then bind1 (idx a0 gx13) fun x29 => bind1 (idxA 12 gl14 x29.Tx) fun x31 => bind1 (idx gl12 gx13) fun x32 => bind1 (upd gl12 gx13 x31) fun l33 => bind1 (idxA 12 gl14 x29.Tx) fun x34 => bind1 (i64 (x34 + 1)) fun x35 => bind1 (idxA 12 gl14 x29.Tx) fun x36 => bind1 (upd gl14 x29.Tx x35) fun l37 => bind1 (i64 (gx13 + 1)) fun x38 => go3 l33 x38 l37 else m16_run_pairs_K1 a0 gl12
def m16_run_pairs_L3 (a0 : (List TOp)) : Nat → (List Int) → Int → (List Int) → Option (List Tpair)
  | 0, _, _, _ => none
  | n + 1, gl12, gx13, gl14 => m16_run_pairs_L3B (m16_run_pairs_L3 a0 n) a0 gl12 gx13 gl14
def m16_run_pairs (a0 : (List TOp)) : Option (List Tpair) :=
  bind1 (mk (a0.length : Int) 0) fun l2 => m16_run_pairs_L3 a0 big l2 0 (List.replicate 12 (0 : Int))
def m15_run_pair_K2 : Option Bool :=
  some true
def m15_run_pair_L1B (go1 : Int → Option Bool) (a0 : (List Tpair)) (a1 : (List Tpair)) (gx1 : Int) : Option Bool :=
  if gx1 < (a0.length : Int) then bind1 (idx a0 gx1) fun x2 => bind1 (idx a1 gx1) fun x3 => if x2 ≠ x3 then some false else bind1 (i64 (gx1 + 1)) fun x5 => go1 x5 else m15_run_pair_K2
def m15_run_pair_L1 (a0 : (List Tpair)) (a1 : (List Tpair)) : Nat → Int → Option Bool
  | 0, _ => none
  | n + 1, gx1 => m15_run_pair_L1B (m15_run_pair_L1 a0 a1 n) a0 a1 gx1
def m15_run_pair_K1 (a0 : (List Tpair)) (a1 : (List Tpair)) : Option Bool :=
  m15_run_pair_L1 a0 a1 big 0
def m15_run_pair (a0 : (List Tpair)) (a1 : (List Tpair)) : Option Bool :=
  if (a0.length : Int) ≠ (a1.length : Int) then some false else m15_run_pair_K1 a0 a1
def m6_run_Like_K3 (a0 : (List TOp)) (a1 : (List TOp)) : Option (Bool × Int) :=
  bind1 (m16_run_pairs a0) fun l1 => bind1 (m16_run_pairs a1) fun l4 => bind1 (m15_run_pair l1 l4) fun b7 => some (b7, 0)
def m6_run_Like_K5 (gl3 : (List TOp)) (gx1 : Int) (go1 : Int → Option (Bool × Int)) (gl5 : (List TOp)) : Option (Bool × Int) :=
  bind1 (m12_api_Op gl3 gl5) fun b17 => if b17 = true then bind1 (i64 (gx1 + 1)) fun x19 => go1 x19 else some (false, 0)
def m6_run_Like_K8 (gl3 : (List TOp)) (gx1 : Int) (go1 : Int → Option (Bool × Int)) (gl7 : (List TOp)) (gx8 : Int) : Option (Bool × Int) :=
  bind1 (cut gl7 gx8 gl7.length) fun l20 => bind1 (clr gl7 gx8 (⟨0, 0, 0⟩ : TOp)) fun l21 => bind1 (cut l21 0 gx8) fun l22 => m6_run_Like_K5 gl3 gx1 go1 l22
def m6_run_Like_K10 (x25 : TOp) (gx1 : Int) (gl9 : (List TOp)) (gx10 : Int) (gx11 : Int) (go2 : (List TOp) → Int → Int → Option (Bool × Int)) : Option (Bool × Int) :=
  if (!(decide (x25.Tx ≠ gx1))) = true then bind1 (idx gl9 gx10) fun x28 => bind1 (upd gl9 gx10 x25) fun l29 => bind1 (i64 (gx10 + 1)) fun x30 => bind1 (i64 (gx11 + 1)) fun x31 => go2 l29 x30 x31 else bind1 (i64 (gx11 + 1)) fun x32 => go2 gl9 gx10 x32
def m6_run_Like_K9 (gl9 : (List TOp)) (gx11 : Int) (gx1 : Int) (gx10 : Int) (go2 : (List TOp) → Int → Int → Option (Bool × Int)) : Option (Bool × Int) :=
  bind1 (idx gl9 gx11) fun x25 => m6_run_Like_K10 x25 gx1 gl9 gx10 gx11 go2
def m6_run_Like_L2B (go2 : (List TOp) → Int → Int → Option (Bool × Int)) (gx1 : Int) (gl3 : (List TOp)) (go1 : Int → Option (Bool × Int)) (gl9 : (List TOp)) (gx10 : Int) (gx11 : Int) : Option (Bool × Int) :=
  if gx11 < (gl9.length : Int) then m6_run_Like_K9 gl9 gx11 gx1 gx10 go2 else m6_run_Like_K8 gl3 gx1 go1 gl9 gx10
def m6_run_Like_L2 (gx1 : Int) (gl3 : (List TOp)) (go1 : Int → Option (Bool × Int)) : Nat → (List TOp) → Int → Int → Option (Bool × Int)
  | 0, _, _, _ => none
  | n + 1, gl9, gx10, gx11 => m6_run_Like_L2B (m6_run_Like_L2 gx1 gl3 go1 n) gx1 gl3 go1 gl9 gx10 gx11
def m6_run_Like_K7 (gx6 : Int) (gx1 : Int) (gl3 : (List TOp)) (go1 : Int → Option (Bool × Int)) (l14 : (List TOp)) : Option (Bool × Int) :=
  bind1 (i64 (gx6 + 1)) fun x24 => m6_run_Like_L2 gx1 gl3 go1 big l14 gx6 x24
def m6_run_Like_K6 (gl3 : (List TOp)) (gx1 : Int) (go1 : Int → Option (Bool × Int)) (l14 : (List TOp)) (gx6 : Int) : Option (Bool × Int) :=
  if gx6 = (-1) then m6_run_Like_K5 gl3 gx1 go1 l14 else m6_run_Like_K7 gx6 gx1 gl3 go1 l14
def m6_run_Like_K11 (gl3 : (List TOp)) (gx1 : Int) (go1 : Int → Option (Bool × Int)) (l14 : (List TOp)) : Option (Bool × Int) :=
  m6_run_Like_K6 gl3 gx1 go1 l14 (-1)
def m6_run_Like_K12 (x37 : TOp) (gx1 : Int) (gl3 : (List TOp)) (go1 : Int → Option (Bool × Int)) (l14 : (List TOp)) (gx12 : Int) (go3 : Int → Option (Bool × Int)) : Option (Bool × Int) :=
  if (decide (x37.Tx ≠ gx1)) = true then m6_run_Like_K6 gl3 gx1 go1 l14 gx12 else bind1 (i64 (gx12 + 1)) fun x38 => go3 x38
def m6_run_Like_L3B (go3 : Int → Option (Bool × Int)) (l14 : (List TOp)) (gx1 : Int) (gl3 : (List TOp)) (go1 : Int → Option (Bool × Int)) (gx12 : Int) : Option (Bool × Int) :=
  if gx12 < (l14.length : Int) then bind1 (idx l14 gx12) fun x37 => m6_run_Like_K12 x37 gx1 gl3 go1 l14 gx12 go3 else m6_run_Like_K11 gl3 gx1 go1 l14
def m6_run_Like_L3 (l14 : (List TOp)) (gx1 : Int) (gl3 : (List TOp)) (go1 : Int → Option (Bool × Int)) : Nat → Int → Option (Bool × Int)
  | 0, _ => none
  | n + 1, gx12 => m6_run_Like_L3B (m6_run_Like_L3 l14 gx1 gl3 go1 n) l14 gx1 gl3 go1 gx12
def m6_run_Like_K4 (a1 : (List TOp)) (gx1 : Int) (go1 : Int → Option (Bool × Int)) (gl3 : (List TOp)) : Option (Bool × Int) :=
  bind1 (m14_api_Op a1) fun l14 => m6_run_Like_L3 l14 gx1 gl3 go1 big 0
def m6_run_Like_K15 (a1 : (List TOp)) (gx1 : Int) (go1 : Int → Option (Bool × Int)) (gl14 : (List TOp)) (gx15 : Int) : Option (Bool × Int) :=
  bind1 (cut gl14 gx15 gl14.length) fun l40 => bind1 (clr gl14 gx15 (⟨0, 0, 0⟩ : TOp)) fun l41 => bind1 (cut l41 0 gx15) fun l42 => m6_run_Like_K4 a1 gx1 go1 l42
def m6_run_Like_K17 (x45 : TOp) (gx1 : Int) (gl16 : (List TOp)) (gx17 : Int) (gx18 : Int) (go4 : (List TOp) → Int → Int → Option (Bool × Int)) : Option (Bool × Int) :=
  if (!(decide (x45.Tx ≠ gx1))) = true then bind1 (idx gl16 gx17) fun x48 => bind1 (upd gl16 gx17 x45) fun l49 => bind1 (i64 (gx17 + 1)) fun x50 => bind1 (i64 (gx18 + 1)) fun x51 => go4 l49 x50 x51 else bind1 (i64 (gx18 + 1)) fun x52 => go4 gl16 gx17 x52
def m6_run_Like_K16 (gl16 : (List TOp)) (gx18 : Int) (gx1 : Int) (gx17 : Int) (go4 : (List TOp) → Int → Int → Option (Bool × Int)) : Option (Bool × Int) :=
  bind1 (idx gl16 gx18) fun x45 => m6_run_Like_K17 x45 gx1 gl16 gx17 gx18 go4
def m6_run_Like_L4B (go4 : (List TOp) → Int → Int → Option (Bool × Int)) (gx1 : Int) (a1 : (List TOp)) (go1 : Int → Option (Bool × Int)) (gl16 : (List TOp)) (gx17 : Int) (gx18 : Int) : Option (Bool × Int) :=
  if gx18 < (gl16.length : Int) then m6_run_Like_K16 gl16 gx18 gx1 gx17 go4 else m6_run_Like_K15 a1 gx1 go1 gl16 gx17
def m6_run_Like_L4 (gx1 : Int) (a1 : (List TOp)) (go1 : Int → Option (Bool × Int)) : Nat → (List TOp) → Int → Int → Option (Bool × Int)
  | 0, _, _, _ => none
  | n + 1, gl16, gx17, gx18 => m6_run_Like_L4B (m6_run_Like_L4 gx1 a1 go1 n) gx1 a1 go1 gl16 gx17 gx18
def m6_run_Like_K14 (gx13 : Int) (gx1 : Int) (a1 : (List TOp)) (go1 : Int → Option (Bool × Int)) (l11 : (List TOp)) : Option (Bool × Int) :=
  bind1 (i64 (gx13 + 1)) fun x44 => m6_run_Like_L4 gx1 a1 go1 big l11 gx13 x44
def m6_run_Like_K13 (a1 : (List TOp)) (gx1 : Int) (go1 : Int → Option (Bool × Int)) (l11 : (List TOp)) (gx13 : Int) : Option (Bool × Int) :=
  if gx13 = (-1) then m6_run_Like_K4 a1 gx1 go1 l11 else m6_run_Like_K14 gx13 gx1 a1 go1 l11
def m6_run_Like_K18 (a1 : (List TOp)) (gx1 : Int) (go1 : Int → Option (Bool × Int)) (l11 : (List TOp)) : Option (Bool × Int) :=
  m6_run_Like_K13 a1 gx1 go1 l11 (-1)
def m6_run_Like_K19 (x57 : TOp) (gx1 : Int) (a1 : (List TOp)) (go1 : Int → Option (Bool × Int)) (l11 : (List TOp)) (gx19 : Int) (go5 : Int → Option (Bool × Int)) : Option (Bool × Int) :=
  if (decide (x57.Tx ≠ gx1)) = true then m6_run_Like_K13 a1 gx1 go1 l11 gx19 else bind1 (i64 (gx19 + 1)) fun x58 => go5 x58
def m6_run_Like_L5B (go5 : Int → Option (Bool × Int)) (l11 : (List TOp)) (gx1 : Int) (a1 : (List TOp)) (go1 : Int → Option (Bool × Int)) (gx19 : Int) : Option (Bool × Int) :=
  if gx19 < (l11.length : Int) then bind1 (idx l11 gx19) fun x57 => m6_run_Like_K19 x57 gx1 a1 go1 l11 gx19 go5 else m6_run_Like_K18 a1 gx1 go1 l11
def m6_run_Like_L5 (l11 : (List TOp)) (gx1 : Int) (a1 : (List TOp)) (go1 : Int → Option (Bool × Int)) : Nat → Int → Option (Bool × Int)
  | 0, _ => none
  | n + 1, gx19 => m6_run_Like_L5B (m6_run_Like_L5 l11 gx1 a1 go1 n) l11 gx1 a1 go1 gx19
def m6_run_Like_L1B (go1 : Int → Option (Bool × Int)) (a0 : (List TOp)) (a1 : (List TOp)) (gx1 : Int) : Option (Bool × Int) :=
  if gx1 < 12 then bind1 (m14_api_Op a0) fun l11 => m6_run_Like_L5 l11 gx1 a1 go1 big 0 else m6_run_Like_K3 a0 a1
def m6_run_Like_L1 (a0 : (List TOp)) (a1 : (List TOp)) : Nat → Int → Option (Bool × Int)
  | 0, _ => none
  | n + 1, gx1 => m6_run_Like_L1B (m6_run_Like_L1 a0 a1 n) a0 a1 gx1
def m6_run_Like_K2 (a0 : (List TOp)) (a1 : (List TOp)) : Option (Bool × Int) :=
  m6_run_Like_L1 a0 a1 big 0
def m6_run_Like_K1 (a1 : (List TOp)) (a0 : (List TOp)) : Option (Bool × Int) :=
  bind1 (m10_run_Check a1) fun x60 => if x60 ≠ 0 then some (false, x60) else m6_run_Like_K2 a0 a1
def m6_run_Like (a0 : (List TOp)) (a1 : (List TOp)) : Option (Bool × Int) :=
  bind1 (m10_run_Check a0) fun x63 => if x63 ≠ 0 then some (false, x63) else m6_run_Like_K1 a1 a0
def m32_see_names_K1 (gl2 : (List Tname)) : Option (List Tname) :=
  some gl2
def m32_see_names_L1B (go1 : (List Tname) → Int → (List Int) → Option (List Tname)) (a0 : (List TOp)) (gl4 : (List Tname)) (gx5 : Int) (gl6 : (List Int)) : Option (List Tname) :=
  if gx5 < (a0.length : Int) then bind1 (idx a0 gx5) fun x3 => bind1 (idxA 12 gl6 x3.Tx) fun x9 => bind1 (app gl4 ([(⟨x3.Tx, x9⟩ : Tname)])) fun l12 => bind1 (idxA 12 gl6 x3.Tx) fun x13 => bind1 (i64 (x13 + 1)) fun x14 => bind1 (idxA 12 gl6 x3.Tx) fun x15 => bind1 (upd gl6 x3.Tx x14) fun l16 => bind1 (i64 (gx5 + 1)) fun x17 => go1 l12 x17 l16 else m32_see_names_K1 gl4
def m32_see_names_L1 (a0 : (List TOp)) : Nat → (List Tname) → Int → (List Int) → Option (List Tname)
  | 0, _, _, _ => none
  | n + 1, gl4, gx5, gl6 => m32_see_names_L1B (m32_see_names_L1 a0 n) a0 gl4 gx5 gl6
def m32_see_names (a0 : (List TOp)) : Option (List Tname) :=
  m32_see_names_L1 a0 big [] 0 (List.replicate 12 (0 : Int))
def m34_see_Reads_K2 (gl2 : (List TSeen)) : Option ((List TSeen) × Int) :=
  some (gl2, 0)
def m34_see_Reads_K3 (gx5 : Int) (go1 : (List TSeen) → Int → (List (List Int)) → Option ((List TSeen) × Int)) (gl9 : (List TSeen)) (gl10 : (List (List Int))) : Option ((List TSeen) × Int) :=
  bind1 (i64 (gx5 + 1)) fun x4 => go1 gl9 x4 gl10
def m34_see_Reads_K6 (gl15 : (List (List Int))) (gx14 : Int) (go2 : Int → (List (List Int)) → Option ((List TSeen) × Int)) (gl18 : (List Int)) : Option ((List TSeen) × Int) :=
  bind1 (idxA 20 gl15 gx14) fun x10 => bind1 (upd gl15 gx14 gl18) fun l11 => bind1 (i64 (gx14 + 1)) fun x13 => go2 x13 l11
def m34_see_Reads_K9 (gl15 : (List (List Int))) (gx14 : Int) (go2 : Int → (List (List Int)) → Option ((List TSeen) × Int)) (gl20 : (List Int)) (gx21 : Int) : Option ((List TSeen) × Int) :=
  bind1 (cut gl20 gx21 gl20.length) fun l14 => bind1 (clr gl20 gx21 0) fun l15 => bind1 (cut l15 0 gx21) fun l16 => m34_see_Reads_K6 gl15 gx14 go2 l16
def m34_see_Reads_K11 (gx24 : Int) (go3 : (List Int) → Int → Int → Option ((List TSeen) × Int)) (gl22 : (List Int)) (gx23 : Int) (x19 : Int) (gb25 : Bool) : Option ((List TSeen) × Int) :=
  if gb25 = true then bind1 (i64 (gx24 + 1)) fun x24 => go3 gl22 gx23 x24 else bind1 (idx gl22 gx23) fun x20 => bind1 (upd gl22 gx23 x19) fun l21 => bind1 (i64 (gx23 + 1)) fun x22 => bind1 (i64 (gx24 + 1)) fun x23 => go3 l21 x22 x23
def m34_see_Reads_K10 (gl22 : (List Int)) (gx24 : Int) (a0 : (List TOp)) (go3 : (List Int) → Int → Int → Option ((List TSeen) × Int)) (gx23 : Int) (x5 : TOp) : Option ((List TSeen) × Int) :=
  bind1 (idx gl22 gx24) fun x19 => bind1 (idx a0 x19) fun x25 => m34_see_Reads_K11 gx24 go3 gl22 gx23 x19 (decide (x25.Tx = x5.Tx))
def m34_see_Reads_L3B (go3 : (List Int) → Int → Int → Option ((List TSeen) × Int)) (a0 : (List TOp)) (x5 : TOp) (gl15 : (List (List Int))) (gx14 : Int) (go2 : Int → (List (List Int)) → Option ((List TSeen) × Int)) (gl22 : (List Int)) (gx23 : Int) (gx24 : Int) : Option ((List TSeen) × Int) :=
  if gx24 < (gl22.length : Int) then m34_see_Reads_K10 gl22 gx24 a0 go3 gx23 x5 else m34_see_Reads_K9 gl15 gx14 go2 gl22 gx23
def m34_see_Reads_L3 (a0 : (List TOp)) (x5 : TOp) (gl15 : (List (List Int))) (gx14 : Int) (go2 : Int → (List (List Int)) → Option ((List TSeen) × Int)) : Nat → (List Int) → Int → Int → Option ((List TSeen) × Int)
  | 0, _, _, _ => none
  | n + 1, gl22, gx23, gx24 => m34_see_Reads_L3B (m34_see_Reads_L3 a0 x5 gl15 gx14 go2 n) a0 x5 gl15 gx14 go2 gl22 gx23 gx24
def m34_see_Reads_K8 (gx19 : Int) (a0 : (List TOp)) (x5 : TOp) (gl15 : (List (List Int))) (gx14 : Int) (go2 : Int → (List (List Int)) → Option ((List TSeen) × Int)) (x9 : (List Int)) : Option ((List TSeen) × Int) :=
  bind1 (i64 (gx19 + 1)) fun x18 => m34_see_Reads_L3 a0 x5 gl15 gx14 go2 big x9 gx19 x18
def m34_see_Reads_K7 (gl15 : (List (List Int))) (gx14 : Int) (go2 : Int → (List (List Int)) → Option ((List TSeen) × Int)) (x9 : (List Int)) (a0 : (List TOp)) (x5 : TOp) (gx19 : Int) : Option ((List TSeen) × Int) :=
  if gx19 = (-1) then m34_see_Reads_K6 gl15 gx14 go2 x9 else m34_see_Reads_K8 gx19 a0 x5 gl15 gx14 go2 x9
def m34_see_Reads_K12 (gl15 : (List (List Int))) (gx14 : Int) (go2 : Int → (List (List Int)) → Option ((List TSeen) × Int)) (x9 : (List Int)) (a0 : (List TOp)) (x5 : TOp) : Option ((List TSeen) × Int) :=
  m34_see_Reads_K7 gl15 gx14 go2 x9 a0 x5 (-1)
def m34_see_Reads_K13 (gl15 : (List (List Int))) (gx14 : Int) (go2 : Int → (List (List Int)) → Option ((List TSeen) × Int)) (x9 : (List Int)) (a0 : (List TOp)) (x5 : TOp) (gx26 : Int) (go4 : Int → Option ((List TSeen) × Int)) (gb27 : Bool) : Option ((List TSeen) × Int) :=
  if gb27 = true then m34_see_Reads_K7 gl15 gx14 go2 x9 a0 x5 gx26 else bind1 (i64 (gx26 + 1)) fun x30 => go4 x30
def m34_see_Reads_L4B (go4 : Int → Option ((List TSeen) × Int)) (x9 : (List Int)) (a0 : (List TOp)) (gl15 : (List (List Int))) (gx14 : Int) (go2 : Int → (List (List Int)) → Option ((List TSeen) × Int)) (x5 : TOp) (gx26 : Int) : Option ((List TSeen) × Int) :=
  if gx26 < (x9.length : Int) then bind1 (idx x9 gx26) fun x29 => bind1 (idx a0 x29) fun x31 => m34_see_Reads_K13 gl15 gx14 go2 x9 a0 x5 gx26 go4 (decide (x31.Tx = x5.Tx)) else m34_see_Reads_K12 gl15 gx14 go2 x9 a0 x5
def m34_see_Reads_L4 (x9 : (List Int)) (a0 : (List TOp)) (gl15 : (List (List Int))) (gx14 : Int) (go2 : Int → (List (List Int)) → Option ((List TSeen) × Int)) (x5 : TOp) : Nat → Int → Option ((List TSeen) × Int)
  | 0, _ => none
  | n + 1, gx26 => m34_see_Reads_L4B (m34_see_Reads_L4 x9 a0 gl15 gx14 go2 x5 n) x9 a0 gl15 gx14 go2 x5 gx26
def m34_see_Reads_L2B (go2 : Int → (List (List Int)) → Option ((List TSeen) × Int)) (a0 : (List TOp)) (x5 : TOp) (gx5 : Int) (go1 : (List TSeen) → Int → (List (List Int)) → Option ((List TSeen) × Int)) (gl4 : (List TSeen)) (gx14 : Int) (gl15 : (List (List Int))) : Option ((List TSeen) × Int) :=
  if gx14 < 20 then bind1 (idxA 20 gl15 gx14) fun x9 => m34_see_Reads_L4 x9 a0 gl15 gx14 go2 x5 big 0 else m34_see_Reads_K3 gx5 go1 gl4 gl15
def m34_see_Reads_L2 (a0 : (List TOp)) (x5 : TOp) (gx5 : Int) (go1 : (List TSeen) → Int → (List (List Int)) → Option ((List TSeen) × Int)) (gl4 : (List TSeen)) : Nat → Int → (List (List Int)) → Option ((List TSeen) × Int)
  | 0, _, _ => none
  | n + 1, gx14, gl15 => m34_see_Reads_L2B (m34_see_Reads_L2 a0 x5 gx5 go1 gl4 n) a0 x5 gx5 go1 gl4 gx14 gl15
def m34_see_Reads_K5 (gl6 : (List (List Int))) (x5 : TOp) (gx5 : Int) (go1 : (List TSeen) → Int → (List (List Int)) → Option ((List TSeen) × Int)) (gl4 : (List TSeen)) (a0 : (List TOp)) (gb13 : Bool) : Option ((List TSeen) × Int) :=
  if gb13 = true then bind1 (idxA 20 gl6 x5.Item) fun x50 => bind1 (app x50 ([gx5])) fun l53 => bind1 (idxA 20 gl6 x5.Item) fun x54 => bind1 (upd gl6 x5.Item l53) fun l55 => m34_see_Reads_K3 gx5 go1 gl4 l55 else if x5.Kind = 4 then m34_see_Reads_L2 a0 x5 gx5 go1 gl4 big 0 gl6 else m34_see_Reads_K3 gx5 go1 gl4 gl6
def m34_see_Reads_K4 (gl6 : (List (List Int))) (x5 : TOp) (gl4 : (List TSeen)) (gx5 : Int) (go1 : (List TSeen) → Int → (List (List Int)) → Option ((List TSeen) × Int)) (a0 : (List TOp)) (gb12 : Bool) : Option ((List TSeen) × Int) :=
  if gb12 = true then bind1 (idxA 20 gl6 x5.Item) fun x58 => if 0 < (x58.length : Int) then bind1 (idxA 20 gl6 x5.Item) fun x60 => bind1 (i64 ((x58.length : Int) - 1)) fun x61 => bind1 (idx x60 x61) fun x62 => bind1 (app gl4 ([(⟨gx5, x62⟩ : TSeen)])) fun l65 => m34_see_Reads_K3 gx5 go1 l65 gl6 else bind1 (app gl4 ([(⟨gx5, (-1)⟩ : TSeen)])) fun l68 => m34_see_Reads_K3 gx5 go1 l68 gl6 else if x5.Kind = 2 then m34_see_Reads_K5 gl6 x5 gx5 go1 gl4 a0 true else m34_see_Reads_K5 gl6 x5 gx5 go1 gl4 a0 false
def m34_see_Reads_L1B (go1 : (List TSeen) → Int → (List (List Int)) → Option ((List TSeen) × Int)) (a0 : (List TOp)) (gl4 : (List TSeen)) (gx5 : Int) (gl6 : (List (List Int))) : Option ((List TSeen) × Int) :=
  if gx5 < (a0.length : Int) then bind1 (idx a0 gx5) fun x5 => if x5.Kind = 1 then m34_see_Reads_K4 gl6 x5 gl4 gx5 go1 a0 true else m34_see_Reads_K4 gl6 x5 gl4 gx5 go1 a0 false else m34_see_Reads_K2 gl4
def m34_see_Reads_L1 (a0 : (List TOp)) : Nat → (List TSeen) → Int → (List (List Int)) → Option ((List TSeen) × Int)
  | 0, _, _, _ => none
  | n + 1, gl4, gx5, gl6 => m34_see_Reads_L1B (m34_see_Reads_L1 a0 n) a0 gl4 gx5 gl6
def m34_see_Reads_K1 (a0 : (List TOp)) : Option ((List TSeen) × Int) :=
  m34_see_Reads_L1 a0 big [] 0 (List.replicate 20 ([] : (List Int)))
def m34_see_Reads (a0 : (List TOp)) : Option ((List TSeen) × Int) :=
  bind1 (m10_run_Check a0) fun x70 => if x70 ≠ 0 then some ([], x70) else m34_see_Reads_K1 a0
def m35_see_Last_K4 (gl3 : (List Int)) : Option ((List Int) × Int) :=
  bind1 (arrN 20 gl3) fun _ => bind1 (arrN 20 (List.replicate 20 (0 : Int))) fun _ => bind1 (arrN 20 gl3) fun _ => bind1 (arrN 20 gl3) fun _ => some (gl3, 0)
def m35_see_Last_L1B (go1 : Int → (List Int) → Option ((List Int) × Int)) (a0 : (List TOp)) (gl1 : (List Bool)) (gx4 : Int) (gl5 : (List Int)) : Option ((List Int) × Int) :=
  if gx4 < (a0.length : Int) then bind1 (idx a0 gx4) fun x9 => if x9.Kind = 2 then bind1 (idxA 12 gl1 x9.Tx) fun x12 => if x12 = true then bind1 (i64 (gx4 + 1)) fun x14 => go1 x14 gl5 else bind1 (idxA 20 gl5 x9.Item) fun x15 => bind1 (upd gl5 x9.Item gx4) fun l16 => bind1 (i64 (gx4 + 1)) fun x17 => go1 x17 l16 else bind1 (i64 (gx4 + 1)) fun x18 => go1 x18 gl5 else m35_see_Last_K4 gl5
def m35_see_Last_L1 (a0 : (List TOp)) (gl1 : (List Bool)) : Nat → Int → (List Int) → Option ((List Int) × Int)
  | 0, _, _ => none
  | n + 1, gx4, gl5 => m35_see_Last_L1B (m35_see_Last_L1 a0 gl1 n) a0 gl1 gx4 gl5
def m35_see_Last_K3 (a0 : (List TOp)) (gl1 : (List Bool)) (gl2 : (List Int)) : Option ((List Int) × Int) :=
  m35_see_Last_L1 a0 gl1 big 0 gl2
def m35_see_Last_L2B (go2 : Int → (List Int) → Option ((List Int) × Int)) (a0 : (List TOp)) (gl1 : (List Bool)) (gx6 : Int) (gl7 : (List Int)) : Option ((List Int) × Int) :=
  if gx6 < 20 then bind1 (idxA 20 gl7 gx6) fun x20 => bind1 (upd gl7 gx6 (-1)) fun l21 => bind1 (i64 (gx6 + 1)) fun x22 => go2 x22 l21 else m35_see_Last_K3 a0 gl1 gl7
def m35_see_Last_L2 (a0 : (List TOp)) (gl1 : (List Bool)) : Nat → Int → (List Int) → Option ((List Int) × Int)
  | 0, _, _ => none
  | n + 1, gx6, gl7 => m35_see_Last_L2B (m35_see_Last_L2 a0 gl1 n) a0 gl1 gx6 gl7
def m35_see_Last_K2 (a0 : (List TOp)) (gl1 : (List Bool)) : Option ((List Int) × Int) :=
  m35_see_Last_L2 a0 gl1 big 0 (List.replicate 20 (0 : Int))
def m35_see_Last_L3B (go3 : Int → (List Bool) → Option ((List Int) × Int)) (a0 : (List TOp)) (gx8 : Int) (gl9 : (List Bool)) : Option ((List Int) × Int) :=
  if gx8 < (a0.length : Int) then bind1 (idx a0 gx8) fun x24 => if x24.Kind = 4 then bind1 (idxA 12 gl9 x24.Tx) fun x27 => bind1 (upd gl9 x24.Tx true) fun l28 => bind1 (i64 (gx8 + 1)) fun x29 => go3 x29 l28 else bind1 (i64 (gx8 + 1)) fun x30 => go3 x30 gl9 else m35_see_Last_K2 a0 gl9
def m35_see_Last_L3 (a0 : (List TOp)) : Nat → Int → (List Bool) → Option ((List Int) × Int)
  | 0, _, _ => none
  | n + 1, gx8, gl9 => m35_see_Last_L3B (m35_see_Last_L3 a0 n) a0 gx8 gl9
def m35_see_Last_K1 (a0 : (List TOp)) : Option ((List Int) × Int) :=
  m35_see_Last_L3 a0 big 0 (List.replicate 12 (false : Bool))
def m35_see_Last (a0 : (List TOp)) : Option ((List Int) × Int) :=
  bind1 (m10_run_Check a0) fun x31 => if x31 ≠ 0 then bind1 (arrN 20 (List.replicate 20 (0 : Int))) fun _ => bind1 (arrN 20 (List.replicate 20 (0 : Int))) fun _ => bind1 (arrN 20 (List.replicate 20 (0 : Int))) fun _ => bind1 (arrN 20 (List.replicate 20 (0 : Int))) fun _ => some ((List.replicate 20 (0 : Int)), x31) else m35_see_Last_K1 a0
def m17_see_view_K2 (gl1 : (List (Tname × Tname))) (gl2 : (List Tname)) : Option ((List (Tname × Tname)) × (List Tname)) :=
  bind1 (arrN 20 gl2) fun _ => bind1 (arrN 20 (List.replicate 20 ((⟨0, 0⟩ : Tname) : Tname))) fun _ => bind1 (arrN 20 gl2) fun _ => bind1 (arrN 20 gl2) fun _ => some (gl1, gl2)
def m17_see_view_K3 (gl4 : (List Tname)) (gx3 : Int) (go1 : Int → (List Tname) → Option ((List (Tname × Tname)) × (List Tname))) (gx5 : Int) (gx6 : Int) : Option ((List (Tname × Tname)) × (List Tname)) :=
  bind1 (idxA 20 gl4 gx3) fun x28 => bind1 (upd gl4 gx3 (⟨gx5, gx6⟩ : Tname)) fun l29 => bind1 (i64 (gx3 + 1)) fun x30 => go1 x30 l29
def m17_see_view_L1B (go1 : Int → (List Tname) → Option ((List (Tname × Tname)) × (List Tname))) (x12 : (List Int)) (l2 : (List Tname)) (gl1 : (List (Tname × Tname))) (gx3 : Int) (gl4 : (List Tname)) : Option ((List (Tname × Tname)) × (List Tname)) :=
  if gx3 < 20 then bind1 (idxA 20 x12 gx3) fun x27 => if x27 < 0 then m17_see_view_K3 gl4 gx3 go1 (-1) (-1) else bind1 (idx l2 x27) fun x33 => m17_see_view_K3 gl4 gx3 go1 x33.tx_ x33.n_ else m17_see_view_K2 gl1 gl4
def m17_see_view_L1 (x12 : (List Int)) (l2 : (List Tname)) (gl1 : (List (Tname × Tname))) : Nat → Int → (List Tname) → Option ((List (Tname × Tname)) × (List Tname))
  | 0, _, _ => none
  | n + 1, gx3, gl4 => m17_see_view_L1B (m17_see_view_L1 x12 l2 gl1 n) x12 l2 gl1 gx3 gl4
def m17_see_view_K1 (a0 : (List TOp)) (l2 : (List Tname)) (gl1 : (List (Tname × Tname))) : Option ((List (Tname × Tname)) × (List Tname)) :=
  bind2 (m35_see_Last a0) fun x12 x13 => bind1 (arrN 20 (List.replicate 20 (0 : Int))) fun _ => bind1 (arrN 20 x12) fun _ => bind1 (arrN 20 x12) fun _ => m17_see_view_L1 x12 l2 gl1 big 0 (List.replicate 20 ((⟨0, 0⟩ : Tname) : Tname))
def m17_see_view_K4 (gl8 : (List (Tname × Tname))) (x39 : Tname) (gx7 : Int) (go2 : Int → (List (Tname × Tname)) → Option ((List (Tname × Tname)) × (List Tname))) (gx11 : Int) (gx12 : Int) : Option ((List (Tname × Tname)) × (List Tname)) :=
  bind1 (some (kset gl8 x39 (⟨gx11, gx12⟩ : Tname))) fun l40 => bind1 (i64 (gx7 + 1)) fun x41 => go2 x41 (kset gl8 x39 (⟨gx11, gx12⟩ : Tname))
def m17_see_view_L2B (go2 : Int → (List (Tname × Tname)) → Option ((List (Tname × Tname)) × (List Tname))) (l7 : (List TSeen)) (l2 : (List Tname)) (a0 : (List TOp)) (gx7 : Int) (gl8 : (List (Tname × Tname))) : Option ((List (Tname × Tname)) × (List Tname)) :=
  if gx7 < (l7.length : Int) then bind1 (idx l7 gx7) fun x35 => bind1 (idx l2 x35.At) fun x39 => if x35.From < 0 then m17_see_view_K4 gl8 x39 gx7 go2 (-1) (-1) else bind1 (idx l2 x35.From) fun x44 => m17_see_view_K4 gl8 x39 gx7 go2 x44.tx_ x44.n_ else m17_see_view_K1 a0 l2 gl8
def m17_see_view_L2 (l7 : (List TSeen)) (l2 : (List Tname)) (a0 : (List TOp)) : Nat → Int → (List (Tname × Tname)) → Option ((List (Tname × Tname)) × (List Tname))
  | 0, _, _ => none
  | n + 1, gx7, gl8 => m17_see_view_L2B (m17_see_view_L2 l7 l2 a0 n) l7 l2 a0 gx7 gl8
def m17_see_view (a0 : (List TOp)) : Option ((List (Tname × Tname)) × (List Tname)) :=
  bind1 (m32_see_names a0) fun l2 => bind2 (m34_see_Reads a0) fun l7 x9 => m17_see_view_L2 l7 l2 a0 big 0 []
def m7_see_Alike_K4 : Option (Bool × Int) :=
  some (true, 0)
def m7_see_Alike_L1B (go1 : (List (Tname × Tname)) → Option (Bool × Int)) (x8 : (List (Tname × Tname))) (gl1 : (List (Tname × Tname))) : Option (Bool × Int) :=
  nxtK gl1 (m7_see_Alike_K4) fun x16 x17 l18 => if (khas x8 x16) = true then if x17 ≠ (⟨(kget x8 x16 (⟨0, 0⟩ : Tname)).tx_, (kget x8 x16 (⟨0, 0⟩ : Tname)).n_⟩ : Tname) then some (false, 0) else go1 l18 else some (false, 0)
def m7_see_Alike_L1 (x8 : (List (Tname × Tname))) : Nat → (List (Tname × Tname)) → Option (Bool × Int)
  | 0, _ => none
  | n + 1, gl1 => m7_see_Alike_L1B (m7_see_Alike_L1 x8 n) x8 gl1
def m7_see_Alike_K3 (x8 : (List (Tname × Tname))) (x1 : (List (Tname × Tname))) : Option (Bool × Int) :=
  m7_see_Alike_L1 x8 big x1
def m7_see_Alike_K2 (a0 : (List TOp)) (a1 : (List TOp)) : Option (Bool × Int) :=
  bind2 (m17_see_view a0) fun x1 x3 => bind1 (arrN 20 (List.replicate 20 ((⟨0, 0⟩ : Tname) : Tname))) fun _ => bind1 (arrN 20 x3) fun _ => bind2 (m17_see_view a1) fun x8 x10 => bind1 (arrN 20 (List.replicate 20 ((⟨0, 0⟩ : Tname) : Tname))) fun _ => bind1 (arrN 20 x10) fun _ => bind1 (arrN 20 x3) fun _ => bind1 (arrN 20 x10) fun _ => bind1 (arrN 20 x3) fun _ => bind1 (arrN 20 x10) fun _ => if x3 ≠ x10 then some (false, 0) else if (x1.length : Int) ≠ (x8.length : Int) then some (false, 0) else m7_see_Alike_K3 x8 x1
def m7_see_Alike_K1 (a1 : (List TOp)) (a0 : (List TOp)) : Option (Bool × Int) :=
  bind1 (m10_run_Check a1) fun x31 => if x31 ≠ 0 then some (false, x31) else m7_see_Alike_K2 a0 a1
def m7_see_Alike (a0 : (List TOp)) (a1 : (List TOp)) : Option (Bool × Int) :=
  bind1 (m10_run_Check a0) fun x34 => if x34 ≠ 0 then some (false, x34) else m7_see_Alike_K1 a1 a0
def m18_quirref_Own_K1 (gl2 : (List TOp)) : Option (List TOp) :=
  some gl2
def m18_quirref_Own_L1B (go1 : (List TOp) → Int → Option (List TOp)) (a0 : (List TOp)) (a1 : Int) (gl4 : (List TOp)) (gx5 : Int) : Option (List TOp) :=
  if gx5 < (a0.length : Int) then bind1 (idx a0 gx5) fun x2 => if x2.Tx = a1 then bind1 (app gl4 ([x2])) fun l7 => bind1 (i64 (gx5 + 1)) fun x8 => go1 l7 x8 else bind1 (i64 (gx5 + 1)) fun x9 => go1 gl4 x9 else m18_quirref_Own_K1 gl4
def m18_quirref_Own_L1 (a0 : (List TOp)) (a1 : Int) : Nat → (List TOp) → Int → Option (List TOp)
  | 0, _, _ => none
  | n + 1, gl4, gx5 => m18_quirref_Own_L1B (m18_quirref_Own_L1 a0 a1 n) a0 a1 gl4 gx5
def m18_quirref_Own (a0 : (List TOp)) (a1 : Int) : Option (List TOp) :=
  m18_quirref_Own_L1 a0 a1 big [] 0
def m19_quirref_clash_K2 (a0 : TOp) (a1 : TOp) (gb2 : Bool) : Option Bool :=
  if gb2 = true then bind1 (i64 (a0.Kind + a1.Kind)) fun x3 => some (decide (2 < x3)) else some false
def m19_quirref_clash_K1 (a0 : TOp) (a1 : TOp) (gb1 : Bool) : Option Bool :=
  if gb1 = true then if a0.Kind ≤ 2 then if a1.Kind ≤ 2 then m19_quirref_clash_K2 a0 a1 true else m19_quirref_clash_K2 a0 a1 false else m19_quirref_clash_K2 a0 a1 false else some false
def m19_quirref_clash (a0 : TOp) (a1 : TOp) : Option Bool :=
  if a0.Tx ≠ a1.Tx then if a0.Item = a1.Item then m19_quirref_clash_K1 a0 a1 true else m19_quirref_clash_K1 a0 a1 false else m19_quirref_clash_K1 a0 a1 false
def m21_quirref_whichOne (a0 : (List TOp)) (a1 : Int) : Option Int :=
  bind1 (cut a0 0 a1) fun l1 => bind1 (idx a0 a1) fun x2 => bind1 (m18_quirref_Own l1 x2.Tx) fun l3 => some (l3.length : Int)
def m20_quirref_nth_K1 : Option Int :=
  some (-1)
def m20_quirref_nth_K2 (gx2 : Int) (go1 : Int → Int → Option Int) (gx3 : Int) : Option Int :=
  bind1 (i64 (gx2 + 1)) fun x2 => go1 gx3 x2
def m20_quirref_nth_L1B (go1 : Int → Int → Option Int) (a0 : (List TOp)) (a1 : Int) (gx1 : Int) (gx2 : Int) : Option Int :=
  if gx2 < (a0.length : Int) then bind1 (idx a0 gx2) fun x3 => if x3.Tx ≠ a1 then m20_quirref_nth_K2 gx2 go1 gx1 else if gx1 = 0 then some gx2 else bind1 (i64 (gx1 - 1)) fun x7 => m20_quirref_nth_K2 gx2 go1 x7 else m20_quirref_nth_K1
def m20_quirref_nth_L1 (a0 : (List TOp)) (a1 : Int) : Nat → Int → Int → Option Int
  | 0, _, _ => none
  | n + 1, gx1, gx2 => m20_quirref_nth_L1B (m20_quirref_nth_L1 a0 a1 n) a0 a1 gx1 gx2
def m20_quirref_nth (a0 : (List TOp)) (a1 : Int) (a2 : Int) : Option Int :=
  m20_quirref_nth_L1 a0 a1 big a2 0
def m8_quirref_Like_K2 : Option Bool :=
  some true
def m8_quirref_Like_K3 (gx1 : Int) (go1 : Int → Option Bool) : Option Bool :=
  bind1 (i64 (gx1 + 1)) fun x2 => go1 x2
def m8_quirref_Like_K4 (a0 : (List TOp)) (gx2 : Int) (x3 : TOp) (gx1 : Int) (a1 : (List TOp)) (go2 : Int → Option Bool) : Option Bool :=
  bind1 (idx a0 gx2) fun x6 => bind1 (m19_quirref_clash x3 x6) fun b7 => if b7 = true then bind1 (m21_quirref_whichOne a0 gx1) fun x10 => bind1 (m20_quirref_nth a1 x3.Tx x10) fun x12 => bind1 (idx a0 gx2) fun x14 => bind1 (m21_quirref_whichOne a0 gx2) fun x15 => bind1 (m20_quirref_nth a1 x14.Tx x15) fun x17 => if x17 < x12 then some false else bind1 (i64 (gx2 + 1)) fun x20 => go2 x20 else bind1 (i64 (gx2 + 1)) fun x9 => go2 x9
def m8_quirref_Like_L2B (go2 : Int → Option Bool) (a0 : (List TOp)) (x3 : TOp) (gx1 : Int) (a1 : (List TOp)) (go1 : Int → Option Bool) (gx2 : Int) : Option Bool :=
  if gx2 < (a0.length : Int) then m8_quirref_Like_K4 a0 gx2 x3 gx1 a1 go2 else m8_quirref_Like_K3 gx1 go1
def m8_quirref_Like_L2 (a0 : (List TOp)) (x3 : TOp) (gx1 : Int) (a1 : (List TOp)) (go1 : Int → Option Bool) : Nat → Int → Option Bool
  | 0, _ => none
  | n + 1, gx2 => m8_quirref_Like_L2B (m8_quirref_Like_L2 a0 x3 gx1 a1 go1 n) a0 x3 gx1 a1 go1 gx2
def m8_quirref_Like_L1B (go1 : Int → Option Bool) (a0 : (List TOp)) (a1 : (List TOp)) (gx1 : Int) : Option Bool :=
  if gx1 < (a0.length : Int) then bind1 (idx a0 gx1) fun x3 => bind1 (i64 (gx1 + 1)) fun x5 => m8_quirref_Like_L2 a0 x3 gx1 a1 go1 big x5 else m8_quirref_Like_K2
def m8_quirref_Like_L1 (a0 : (List TOp)) (a1 : (List TOp)) : Nat → Int → Option Bool
  | 0, _ => none
  | n + 1, gx1 => m8_quirref_Like_L1B (m8_quirref_Like_L1 a0 a1 n) a0 a1 gx1
def m8_quirref_Like_K1 (a0 : (List TOp)) (a1 : (List TOp)) : Option Bool :=
  m8_quirref_Like_L1 a0 a1 big 0
def m8_quirref_Like_L3B (go3 : Int → Option Bool) (a0 : (List TOp)) (a1 : (List TOp)) (gx3 : Int) : Option Bool :=
  if gx3 < 12 then bind1 (m18_quirref_Own a0 gx3) fun l23 => bind1 (m18_quirref_Own a1 gx3) fun l26 => bind1 (m12_api_Op l23 l26) fun b29 => if b29 = true then bind1 (i64 (gx3 + 1)) fun x31 => go3 x31 else some false else m8_quirref_Like_K1 a0 a1
def m8_quirref_Like_L3 (a0 : (List TOp)) (a1 : (List TOp)) : Nat → Int → Option Bool
  | 0, _ => none
  | n + 1, gx3 => m8_quirref_Like_L3B (m8_quirref_Like_L3 a0 a1 n) a0 a1 gx3
def m8_quirref_Like (a0 : (List TOp)) (a1 : (List TOp)) : Option Bool :=
  m8_quirref_Like_L3 a0 a1 big 0
def m56_api_Op_K1 : Option Int :=
  some (-1)
def m56_api_Op_L1B (go1 : Int → Option Int) (a0 : (List TOp)) (a1 : TOp) (gx1 : Int) : Option Int :=
  if gx1 < (a0.length : Int) then bind1 (idx a0 gx1) fun x3 => if a1 = x3 then some gx1 else bind1 (i64 (gx1 + 1)) fun x5 => go1 x5 else m56_api_Op_K1
def m56_api_Op_L1 (a0 : (List TOp)) (a1 : TOp) : Nat → Int → Option Int
  | 0, _ => none
  | n + 1, gx1 => m56_api_Op_L1B (m56_api_Op_L1 a0 a1 n) a0 a1 gx1
def m56_api_Op (a0 : (List TOp)) (a1 : TOp) : Option Int :=
  m56_api_Op_L1 a0 a1 big 0
def m43_api_Op (a0 : (List TOp)) (a1 : TOp) : Option Bool :=
  bind1 (m56_api_Op a0 a1) fun x2 => some (decide (0 ≤ x2))
def m37_quirref_has (a0 : (List TOp)) (a1 : Int) (a2 : Int) : Option Bool :=
  bind1 (m43_api_Op a0 (⟨a1, a2, 0⟩ : TOp)) fun b1 => some b1
def m36_quirref_writer_K1 : Option Int :=
  some (-1)
def m36_quirref_writer_K3 (a0 : (List TOp)) (a1 : Int) (x2 : TOp) (gx1 : Int) (go1 : Int → Option Int) (gb2 : Bool) : Option Int :=
  if gb2 = true then bind1 (cut a0 0 a1) fun l5 => bind1 (m37_quirref_has l5 x2.Tx 4) fun b6 => if b6 = true then bind1 (i64 (gx1 - 1)) fun x8 => go1 x8 else some gx1 else bind1 (i64 (gx1 - 1)) fun x4 => go1 x4
def m36_quirref_writer_K2 (a0 : (List TOp)) (gx1 : Int) (a2 : Int) (a1 : Int) (go1 : Int → Option Int) : Option Int :=
  bind1 (idx a0 gx1) fun x2 => if x2.Kind = 2 then if x2.Item = a2 then m36_quirref_writer_K3 a0 a1 x2 gx1 go1 true else m36_quirref_writer_K3 a0 a1 x2 gx1 go1 false else m36_quirref_writer_K3 a0 a1 x2 gx1 go1 false
def m36_quirref_writer_L1B (go1 : Int → Option Int) (a0 : (List TOp)) (a2 : Int) (a1 : Int) (gx1 : Int) : Option Int :=
  if 0 ≤ gx1 then m36_quirref_writer_K2 a0 gx1 a2 a1 go1 else m36_quirref_writer_K1
def m36_quirref_writer_L1 (a0 : (List TOp)) (a2 : Int) (a1 : Int) : Nat → Int → Option Int
  | 0, _ => none
  | n + 1, gx1 => m36_quirref_writer_L1B (m36_quirref_writer_L1 a0 a2 a1 n) a0 a2 a1 gx1
def m36_quirref_writer (a0 : (List TOp)) (a1 : Int) (a2 : Int) : Option Int :=
  bind1 (i64 (a1 - 1)) fun x1 => m36_quirref_writer_L1 a0 a2 a1 big x1
def m22_quirref_Reads_K1 (gl2 : (List TSeen)) : Option (List TSeen) :=
  some gl2
def m22_quirref_Reads_L1B (go1 : (List TSeen) → Int → Option (List TSeen)) (a0 : (List TOp)) (gl4 : (List TSeen)) (gx5 : Int) : Option (List TSeen) :=
  if gx5 < (a0.length : Int) then bind1 (idx a0 gx5) fun x2 => if x2.Kind = 1 then bind1 (m36_quirref_writer a0 gx5 x2.Item) fun x5 => bind1 (app gl4 ([(⟨gx5, x5⟩ : TSeen)])) fun l9 => bind1 (i64 (gx5 + 1)) fun x10 => go1 l9 x10 else bind1 (i64 (gx5 + 1)) fun x11 => go1 gl4 x11 else m22_quirref_Reads_K1 gl4
def m22_quirref_Reads_L1 (a0 : (List TOp)) : Nat → (List TSeen) → Int → Option (List TSeen)
  | 0, _, _ => none
  | n + 1, gl4, gx5 => m22_quirref_Reads_L1B (m22_quirref_Reads_L1 a0 n) a0 gl4 gx5
def m22_quirref_Reads (a0 : (List TOp)) : Option (List TSeen) :=
  m22_quirref_Reads_L1 a0 big [] 0
def m25_quirref_sameOp_K1 (a0 : (List TOp)) (a1 : Int) (a2 : (List TOp)) (a3 : Int) : Option Bool :=
  bind1 (idx a0 a1) fun x1 => bind1 (idx a2 a3) fun x2 => if x1.Tx = x2.Tx then bind1 (m21_quirref_whichOne a0 a1) fun x4 => bind1 (m21_quirref_whichOne a2 a3) fun x6 => some (decide (x4 = x6)) else some false
def m25_quirref_sameOp_K2 (a1 : Int) (a3 : Int) (a0 : (List TOp)) (a2 : (List TOp)) (gb1 : Bool) : Option Bool :=
  if gb1 = true then if a1 < 0 then some (decide (a3 < 0)) else some false else m25_quirref_sameOp_K1 a0 a1 a2 a3
def m25_quirref_sameOp (a0 : (List TOp)) (a1 : Int) (a2 : (List TOp)) (a3 : Int) : Option Bool :=
  if a1 < 0 then m25_quirref_sameOp_K2 a1 a3 a0 a2 true else if a3 < 0 then m25_quirref_sameOp_K2 a1 a3 a0 a2 true else m25_quirref_sameOp_K2 a1 a3 a0 a2 false
def m26_quirref_Last_K1 (gl1 : (List Int)) : Option (List Int) :=
  bind1 (arrN 20 gl1) fun _ => bind1 (arrN 20 (List.replicate 20 (0 : Int))) fun _ => bind1 (arrN 20 gl1) fun _ => bind1 (arrN 20 gl1) fun _ => some gl1
def m26_quirref_Last_K2 (gx2 : Int) (go1 : Int → (List Int) → Option (List Int)) (gl4 : (List Int)) : Option (List Int) :=
  bind1 (i64 (gx2 + 1)) fun x8 => go1 x8 gl4
def m26_quirref_Last_K3 (a0 : (List TOp)) (x12 : TOp) (gx5 : Int) (go2 : Int → (List Int) → Option (List Int)) (gl6 : (List Int)) (gx2 : Int) (gb7 : Bool) : Option (List Int) :=
  if gb7 = true then bind1 (m37_quirref_has a0 x12.Tx 4) fun b15 => if b15 = true then bind1 (i64 (gx5 + 1)) fun x20 => go2 x20 gl6 else bind1 (idxA 20 gl6 gx2) fun x17 => bind1 (upd gl6 gx2 gx5) fun l18 => bind1 (i64 (gx5 + 1)) fun x19 => go2 x19 l18 else bind1 (i64 (gx5 + 1)) fun x14 => go2 x14 gl6
def m26_quirref_Last_L2B (go2 : Int → (List Int) → Option (List Int)) (a0 : (List TOp)) (gx2 : Int) (go1 : Int → (List Int) → Option (List Int)) (gx5 : Int) (gl6 : (List Int)) : Option (List Int) :=
  if gx5 < (a0.length : Int) then bind1 (idx a0 gx5) fun x12 => if x12.Kind = 2 then if x12.Item = gx2 then m26_quirref_Last_K3 a0 x12 gx5 go2 gl6 gx2 true else m26_quirref_Last_K3 a0 x12 gx5 go2 gl6 gx2 false else m26_quirref_Last_K3 a0 x12 gx5 go2 gl6 gx2 false else m26_quirref_Last_K2 gx2 go1 gl6
def m26_quirref_Last_L2 (a0 : (List TOp)) (gx2 : Int) (go1 : Int → (List Int) → Option (List Int)) : Nat → Int → (List Int) → Option (List Int)
  | 0, _, _ => none
  | n + 1, gx5, gl6 => m26_quirref_Last_L2B (m26_quirref_Last_L2 a0 gx2 go1 n) a0 gx2 go1 gx5 gl6
def m26_quirref_Last_L1B (go1 : Int → (List Int) → Option (List Int)) (a0 : (List TOp)) (gx2 : Int) (gl3 : (List Int)) : Option (List Int) :=
  if gx2 < 20 then bind1 (idxA 20 gl3 gx2) fun x9 => bind1 (upd gl3 gx2 (-1)) fun l10 => m26_quirref_Last_L2 a0 gx2 go1 big 0 l10 else m26_quirref_Last_K1 gl3
def m26_quirref_Last_L1 (a0 : (List TOp)) : Nat → Int → (List Int) → Option (List Int)
  | 0, _, _ => none
  | n + 1, gx2, gl3 => m26_quirref_Last_L1B (m26_quirref_Last_L1 a0 n) a0 gx2 gl3
def m26_quirref_Last (a0 : (List TOp)) : Option (List Int) :=
  m26_quirref_Last_L1 a0 big 0 (List.replicate 20 (0 : Int))
def m9_quirref_Alike_K4 : Option Bool :=
  some true
def m9_quirref_Alike_L1B (go1 : Int → Option Bool) (gl2 : (List Int)) (gl4 : (List Int)) (a0 : (List TOp)) (a1 : (List TOp)) (gx5 : Int) : Option Bool :=
  if gx5 < 20 then bind1 (idxA 20 gl2 gx5) fun x10 => bind1 (idxA 20 gl4 gx5) fun x11 => bind1 (m25_quirref_sameOp a0 x10 a1 x11) fun b12 => if b12 = true then bind1 (i64 (gx5 + 1)) fun x14 => go1 x14 else some false else m9_quirref_Alike_K4
def m9_quirref_Alike_L1 (gl2 : (List Int)) (gl4 : (List Int)) (a0 : (List TOp)) (a1 : (List TOp)) : Nat → Int → Option Bool
  | 0, _ => none
  | n + 1, gx5 => m9_quirref_Alike_L1B (m9_quirref_Alike_L1 gl2 gl4 a0 a1 n) gl2 gl4 a0 a1 gx5
def m9_quirref_Alike_K3 (a0 : (List TOp)) (a1 : (List TOp)) (gl2 : (List Int)) (gl4 : (List Int)) : Option Bool :=
  m9_quirref_Alike_L1 gl2 gl4 a0 a1 big 0
def m9_quirref_Alike_K2 (a0 : (List TOp)) (a1 : (List TOp)) : Option Bool :=
  bind1 (m26_quirref_Last a0) fun x33 => bind1 (m26_quirref_Last a1) fun x35 => bind1 (arrN 20 (List.replicate 20 (0 : Int))) fun _ => bind1 (arrN 20 x33) fun _ => bind1 (arrN 20 (List.replicate 20 (0 : Int))) fun _ => bind1 (arrN 20 x35) fun _ => m9_quirref_Alike_K3 a0 a1 x33 x35
def m9_quirref_Alike_K5 (l6 : (List TSeen)) (a0 : (List TOp)) (x132 : TSeen) (a1 : (List TOp)) (gx6 : Int) (go2 : Int → Option Bool) (gx7 : Int) : Option Bool :=
  if gx7 < 0 then some false else bind1 (idx l6 gx7) fun x135 => bind1 (m25_quirref_sameOp a0 x132.From a1 x135.From) fun b136 => if b136 = true then bind1 (i64 (gx6 + 1)) fun x138 => go2 x138 else some false
def m9_quirref_Alike_K6 (l6 : (List TSeen)) (a0 : (List TOp)) (x132 : TSeen) (a1 : (List TOp)) (gx6 : Int) (go2 : Int → Option Bool) : Option Bool :=
  m9_quirref_Alike_K5 l6 a0 x132 a1 gx6 go2 (-1)
def m9_quirref_Alike_K7 (l6 : (List TSeen)) (a0 : (List TOp)) (x132 : TSeen) (a1 : (List TOp)) (gx6 : Int) (go2 : Int → Option Bool) (gx8 : Int) (go3 : Int → Option Bool) (gb9 : Bool) : Option Bool :=
  if gb9 = true then m9_quirref_Alike_K5 l6 a0 x132 a1 gx6 go2 gx8 else bind1 (i64 (gx8 + 1)) fun x141 => go3 x141
def m9_quirref_Alike_L3B (go3 : Int → Option Bool) (l6 : (List TSeen)) (a0 : (List TOp)) (x132 : TSeen) (a1 : (List TOp)) (gx6 : Int) (go2 : Int → Option Bool) (gx8 : Int) : Option Bool :=
  if gx8 < (l6.length : Int) then bind1 (idx l6 gx8) fun x140 => bind1 (m25_quirref_sameOp a0 x132.At a1 x140.At) fun b143 => m9_quirref_Alike_K7 l6 a0 x132 a1 gx6 go2 gx8 go3 b143 else m9_quirref_Alike_K6 l6 a0 x132 a1 gx6 go2
def m9_quirref_Alike_L3 (l6 : (List TSeen)) (a0 : (List TOp)) (x132 : TSeen) (a1 : (List TOp)) (gx6 : Int) (go2 : Int → Option Bool) : Nat → Int → Option Bool
  | 0, _ => none
  | n + 1, gx8 => m9_quirref_Alike_L3B (m9_quirref_Alike_L3 l6 a0 x132 a1 gx6 go2 n) l6 a0 x132 a1 gx6 go2 gx8
def m9_quirref_Alike_L2B (go2 : Int → Option Bool) (l3 : (List TSeen)) (l6 : (List TSeen)) (a0 : (List TOp)) (a1 : (List TOp)) (gx6 : Int) : Option Bool :=
  if gx6 < (l3.length : Int) then bind1 (idx l3 gx6) fun x132 => m9_quirref_Alike_L3 l6 a0 x132 a1 gx6 go2 big 0 else m9_quirref_Alike_K2 a0 a1
def m9_quirref_Alike_L2 (l3 : (List TSeen)) (l6 : (List TSeen)) (a0 : (List TOp)) (a1 : (List TOp)) : Nat → Int → Option Bool
  | 0, _ => none
  | n + 1, gx6 => m9_quirref_Alike_L2B (m9_quirref_Alike_L2 l3 l6 a0 a1 n) l3 l6 a0 a1 gx6
def m9_quirref_Alike_K1 (l3 : (List TSeen)) (l6 : (List TSeen)) (a0 : (List TOp)) (a1 : (List TOp)) : Option Bool :=
  m9_quirref_Alike_L2 l3 l6 a0 a1 big 0
def m9_quirref_Alike (a0 : (List TOp)) (a1 : (List TOp)) : Option Bool :=
  bind1 (m22_quirref_Reads a0) fun l3 => bind1 (m22_quirref_Reads a1) fun l6 => if (l3.length : Int) ≠ (l6.length : Int) then some false else m9_quirref_Alike_K1 l3 l6 a0 a1
def m3_quirlaw_RunLikes_K4 (a0 : (List TOp)) (a1 : (List TOp)) (gx4 : Int) (gb5 : Bool) : Option Bool :=
  if gb5 = true then bind1 (m9_quirref_Alike a0 a1) fun b7 => if (false == b7) = true then some (decide (gx4 = 0)) else some false else some false
def m3_quirlaw_RunLikes_K3 (a0 : (List TOp)) (a1 : (List TOp)) (gx2 : Int) (gx4 : Int) : Option Bool :=
  bind1 (m8_quirref_Like a0 a1) fun b10 => if (false == b10) = true then if gx2 = 0 then m3_quirlaw_RunLikes_K4 a0 a1 gx4 true else m3_quirlaw_RunLikes_K4 a0 a1 gx4 false else m3_quirlaw_RunLikes_K4 a0 a1 gx4 false
def m3_quirlaw_RunLikes_K6 (a0 : (List TOp)) (a1 : (List TOp)) (gx4 : Int) (gb6 : Bool) : Option Bool :=
  if gb6 = true then bind1 (m9_quirref_Alike a0 a1) fun b16 => if (true == b16) = true then some (decide (gx4 = 0)) else some false else some false
def m3_quirlaw_RunLikes_K5 (a0 : (List TOp)) (a1 : (List TOp)) (gx2 : Int) (gx4 : Int) : Option Bool :=
  bind1 (m8_quirref_Like a0 a1) fun b19 => if (false == b19) = true then if gx2 = 0 then m3_quirlaw_RunLikes_K6 a0 a1 gx4 true else m3_quirlaw_RunLikes_K6 a0 a1 gx4 false else m3_quirlaw_RunLikes_K6 a0 a1 gx4 false
def m3_quirlaw_RunLikes_K2 (x5 : Int) (gx2 : Int) (a0 : (List TOp)) (a1 : (List TOp)) (gb3 : Bool) (gx4 : Int) : Option Bool :=
  if gb3 = true then if x5 ≠ 0 then if gx2 = x5 then some false else some false else m3_quirlaw_RunLikes_K5 a0 a1 gx2 gx4 else if x5 ≠ 0 then if gx2 = x5 then some (decide (gx4 = x5)) else some false else m3_quirlaw_RunLikes_K3 a0 a1 gx2 gx4
def m3_quirlaw_RunLikes_K9 (a0 : (List TOp)) (a1 : (List TOp)) (gx8 : Int) (gb9 : Bool) : Option Bool :=
  if gb9 = true then bind1 (m9_quirref_Alike a0 a1) fun b29 => if (false == b29) = true then some (decide (gx8 = 0)) else some false else some false
def m3_quirlaw_RunLikes_K8 (a0 : (List TOp)) (a1 : (List TOp)) (gx2 : Int) (gx8 : Int) : Option Bool :=
  bind1 (m8_quirref_Like a0 a1) fun b32 => if (true == b32) = true then if gx2 = 0 then m3_quirlaw_RunLikes_K9 a0 a1 gx8 true else m3_quirlaw_RunLikes_K9 a0 a1 gx8 false else m3_quirlaw_RunLikes_K9 a0 a1 gx8 false
def m3_quirlaw_RunLikes_K11 (a0 : (List TOp)) (a1 : (List TOp)) (gx8 : Int) (gb10 : Bool) : Option Bool :=
  if gb10 = true then bind1 (m9_quirref_Alike a0 a1) fun b37 => if (true == b37) = true then some (decide (gx8 = 0)) else some false else some false
def m3_quirlaw_RunLikes_K10 (a0 : (List TOp)) (a1 : (List TOp)) (gx2 : Int) (gx8 : Int) : Option Bool :=
  bind1 (m8_quirref_Like a0 a1) fun b40 => if (true == b40) = true then if gx2 = 0 then m3_quirlaw_RunLikes_K11 a0 a1 gx8 true else m3_quirlaw_RunLikes_K11 a0 a1 gx8 false else m3_quirlaw_RunLikes_K11 a0 a1 gx8 false
def m3_quirlaw_RunLikes_K7 (x5 : Int) (a0 : (List TOp)) (a1 : (List TOp)) (gx2 : Int) (gb7 : Bool) (gx8 : Int) : Option Bool :=
  if gb7 = true then if x5 ≠ 0 then some false else m3_quirlaw_RunLikes_K10 a0 a1 gx2 gx8 else if x5 ≠ 0 then some false else m3_quirlaw_RunLikes_K8 a0 a1 gx2 gx8
def m3_quirlaw_RunLikes_K1 (a0 : (List TOp)) (a1 : (List TOp)) (x5 : Int) (gb1 : Bool) (gx2 : Int) : Option Bool :=
  if gb1 = true then bind2 (m7_see_Alike a0 a1) fun b45 x46 => if b45 = true then m3_quirlaw_RunLikes_K7 x5 a0 a1 gx2 true x46 else m3_quirlaw_RunLikes_K7 x5 a0 a1 gx2 false x46 else bind2 (m7_see_Alike a0 a1) fun b25 x26 => if b25 = true then m3_quirlaw_RunLikes_K2 x5 gx2 a0 a1 true x26 else m3_quirlaw_RunLikes_K2 x5 gx2 a0 a1 false x26
def m3_quirlaw_RunLikes (a0 : (List TOp)) (a1 : (List TOp)) : Option Bool :=
  bind1 (m5_quirref_RunErr a0) fun x1 => bind1 (m5_quirref_RunErr a1) fun x3 => bind1 (m4_quirlaw_firstOf x1 x3) fun x5 => bind2 (m6_run_Like a0 a1) fun b49 x50 => if b49 = true then m3_quirlaw_RunLikes_K1 a0 a1 x5 true x50 else m3_quirlaw_RunLikes_K1 a0 a1 x5 false x50
end Go.Proofs.Ytglbgeamiobldaa
