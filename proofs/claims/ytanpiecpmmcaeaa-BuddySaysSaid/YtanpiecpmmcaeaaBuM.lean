/-
  Models, printed by a program of mine.
  Conditions: none.
-/
import Derived.Test.YtanpiecpmmcaeaaIk
namespace Go.Proofs.Ytanpiecpmmcaeaa
open Go.S
set_option linter.unusedVariables false
structure TBlock where
  At : Int
  Order : Int
  deriving DecidableEq, Inhabited
def TBlock.row (x : TBlock) : List Value := [.int .i64 x.At, .int .i64 x.Order]
structure TBuddy where
  Order : Int
  Taken : (List TBlock)
  deriving DecidableEq, Inhabited
def TBuddy.rowv (x : TBuddy) (vs : List Value) : List Value := [.int .i64 x.Order, gv vs 0]
def TBuddy.sds (x : TBuddy) (vs : List Value) : List Sd := [⟨gv vs 0, 37, 2, x.Taken.map TBlock.row⟩]
def m4_quirref_BuddyErr_K2 : Option Int :=
  some 0
def m4_quirref_BuddyErr_K3 (gx3 : Int) (go1 : (List Int) → Int → Int → Option Int) (gl4 : (List Int)) (gx5 : Int) : Option Int :=
  bind1 (i64 (gx3 + 1)) fun x6 => go1 gl4 gx5 x6
def m4_quirref_BuddyErr_K5 (gx3 : Int) (go1 : (List Int) → Int → Int → Option Int) (x7 : TBlock) (gl6 : (List Int)) : Option Int :=
  m4_quirref_BuddyErr_K3 gx3 go1 gl6 x7.At
def m4_quirref_BuddyErr_L2B (go2 : (List Int) → Int → Option Int) (x9 : Int) (x7 : TBlock) (gx3 : Int) (go1 : (List Int) → Int → Int → Option Int) (gl7 : (List Int)) (gx8 : Int) : Option Int :=
  if gx8 < x9 then bind1 (i64 (x7.At + gx8)) fun x11 => bind1 (idx gl7 x11) fun x12 => if 0 < x12 then some 4 else bind1 (i64 (x7.At + gx8)) fun x14 => bind1 (idx gl7 x14) fun x15 => bind1 (upd gl7 x14 1) fun l16 => bind1 (i64 (gx8 + 1)) fun x17 => go2 l16 x17 else m4_quirref_BuddyErr_K5 gx3 go1 x7 gl7
def m4_quirref_BuddyErr_L2 (x9 : Int) (x7 : TBlock) (gx3 : Int) (go1 : (List Int) → Int → Int → Option Int) : Nat → (List Int) → Int → Option Int
  | 0, _, _ => none
  | n + 1, gl7, gx8 => m4_quirref_BuddyErr_L2B (m4_quirref_BuddyErr_L2 x9 x7 gx3 go1 n) x9 x7 gx3 go1 gl7 gx8
def m4_quirref_BuddyErr_K4 (x7 : TBlock) (gx3 : Int) (go1 : (List Int) → Int → Int → Option Int) (gl1 : (List Int)) : Option Int :=
  bind1 (shlW .i64 1 x7.Order) fun x9 => m4_quirref_BuddyErr_L2 x9 x7 gx3 go1 big gl1 0
def m4_quirref_BuddyErr_K7 (x7 : TBlock) (gx2 : Int) (gx3 : Int) (go1 : (List Int) → Int → Int → Option Int) (gl1 : (List Int)) (gb10 : Bool) : Option Int :=
  if gb10 = true then some 4 else bind1 (shlW .i64 1 x7.Order) fun x18 => bind1 (modW x7.At x18) fun x19 => if x19 ≠ 0 then some 4 else if x7.At ≤ gx2 then some 4 else m4_quirref_BuddyErr_K4 x7 gx3 go1 gl1
def m4_quirref_BuddyErr_K6 (x7 : TBlock) (gx2 : Int) (gx3 : Int) (go1 : (List Int) → Int → Int → Option Int) (gl1 : (List Int)) (x2 : Int) (gb9 : Bool) : Option Int :=
  if gb9 = true then some 4 else if x7.At < 0 then m4_quirref_BuddyErr_K7 x7 gx2 gx3 go1 gl1 true else if x2 ≤ x7.At then m4_quirref_BuddyErr_K7 x7 gx2 gx3 go1 gl1 true else m4_quirref_BuddyErr_K7 x7 gx2 gx3 go1 gl1 false
def m4_quirref_BuddyErr_L1B (go1 : (List Int) → Int → Int → Option Int) (a0 : TBuddy) (x2 : Int) (gl1 : (List Int)) (gx2 : Int) (gx3 : Int) : Option Int :=
  if gx3 < (a0.Taken.length : Int) then bind1 (idx a0.Taken gx3) fun x7 => if x7.Order < 0 then m4_quirref_BuddyErr_K6 x7 gx2 gx3 go1 gl1 x2 true else if a0.Order < x7.Order then m4_quirref_BuddyErr_K6 x7 gx2 gx3 go1 gl1 x2 true else m4_quirref_BuddyErr_K6 x7 gx2 gx3 go1 gl1 x2 false else m4_quirref_BuddyErr_K2
def m4_quirref_BuddyErr_L1 (a0 : TBuddy) (x2 : Int) : Nat → (List Int) → Int → Int → Option Int
  | 0, _, _, _ => none
  | n + 1, gl1, gx2, gx3 => m4_quirref_BuddyErr_L1B (m4_quirref_BuddyErr_L1 a0 x2 n) a0 x2 gl1 gx2 gx3
def m4_quirref_BuddyErr_K1 (a0 : TBuddy) : Option Int :=
  bind1 (shlW .i64 1 a0.Order) fun x2 => bind1 (mk x2 0) fun l3 => m4_quirref_BuddyErr_L1 a0 x2 big l3 (-1) 0
def m4_quirref_BuddyErr (a0 : TBuddy) : Option Int :=
  if a0.Order < 0 then some 1 else if 10 < a0.Order then some 1 else m4_quirref_BuddyErr_K1 a0
def m8_buddy_Check_K2 : Option Int :=
  some 0
def m8_buddy_Check_K4 (a0 : TBuddy) (x3 : TBlock) (gx2 : Int) (go1 : Int → Int → Option Int) (gb4 : Bool) : Option Int :=
  if gb4 = true then some 4 else bind1 (shlW .i64 1 a0.Order) fun x5 => bind1 (shlW .i64 1 x3.Order) fun x6 => bind1 (i64 (x5 - x6)) fun x7 => if x7 < x3.At then some 4 else bind1 (shlW .i64 1 x3.Order) fun x9 => bind1 (i64 (x3.At + x9)) fun x10 => bind1 (i64 (gx2 + 1)) fun x11 => go1 x10 x11
def m8_buddy_Check_K3 (x3 : TBlock) (gx1 : Int) (a0 : TBuddy) (gx2 : Int) (go1 : Int → Int → Option Int) (gb3 : Bool) : Option Int :=
  if gb3 = true then some 4 else if x3.At < gx1 then m8_buddy_Check_K4 a0 x3 gx2 go1 true else bind1 (shlW .i64 1 x3.Order) fun x13 => bind1 (modW x3.At x13) fun x14 => if x14 ≠ 0 then m8_buddy_Check_K4 a0 x3 gx2 go1 true else m8_buddy_Check_K4 a0 x3 gx2 go1 false
def m8_buddy_Check_L1B (go1 : Int → Int → Option Int) (a0 : TBuddy) (gx1 : Int) (gx2 : Int) : Option Int :=
  if gx2 < (a0.Taken.length : Int) then bind1 (idx a0.Taken gx2) fun x3 => if x3.Order < 0 then m8_buddy_Check_K3 x3 gx1 a0 gx2 go1 true else if a0.Order < x3.Order then m8_buddy_Check_K3 x3 gx1 a0 gx2 go1 true else m8_buddy_Check_K3 x3 gx1 a0 gx2 go1 false else m8_buddy_Check_K2
def m8_buddy_Check_L1 (a0 : TBuddy) : Nat → Int → Int → Option Int
  | 0, _, _ => none
  | n + 1, gx1, gx2 => m8_buddy_Check_L1B (m8_buddy_Check_L1 a0 n) a0 gx1 gx2
def m8_buddy_Check_K1 (a0 : TBuddy) : Option Int :=
  m8_buddy_Check_L1 a0 big 0 0
def m8_buddy_Check (a0 : TBuddy) : Option Int :=
  if a0.Order < 0 then some 1 else if 10 < a0.Order then some 1 else m8_buddy_Check_K1 a0
def m17_buddy_free_K2 (a2 : Int) (rec : (List TBlock) → Int → Int → Option (List TBlock)) (gl2 : (List TBlock)) (a1 : Int) : Option (List TBlock) :=
  bind1 (i64 (a2 - 1)) fun x3 => bind1 (shlW .i64 1 x3) fun x4 => bind1 (i64 (a2 - 1)) fun x5 => bind1 (rec gl2 a1 x5) fun l6 => bind1 (i64 (a1 + x4)) fun x9 => bind1 (i64 (a2 - 1)) fun x10 => bind1 (rec gl2 x9 x10) fun l11 => bind1 (app l6 l11) fun l15 => some l15
def m17_buddy_free_K1 (a1 : Int) (a2 : Int) (rec : (List TBlock) → Int → Int → Option (List TBlock)) (gl2 : (List TBlock)) : Option (List TBlock) :=
  if (gl2.length : Int) = 0 then some ([(⟨a1, a2⟩ : TBlock)]) else bind1 (idx gl2 0) fun x18 => if a2 ≤ x18.Order then some [] else m17_buddy_free_K2 a2 rec gl2 a1
def m17_buddy_free_L1B (go1 : (List TBlock) → Int → Option (List TBlock)) (a0 : (List TBlock)) (x2 : Int) (a1 : Int) (a2 : Int) (rec : (List TBlock) → Int → Int → Option (List TBlock)) (gl4 : (List TBlock)) (gx5 : Int) : Option (List TBlock) :=
  if gx5 < (a0.length : Int) then bind1 (idx a0 gx5) fun x21 => if x21.At < x2 then bind1 (shlW .i64 1 x21.Order) fun x24 => bind1 (i64 (x21.At + x24)) fun x25 => if a1 < x25 then bind1 (app gl4 ([x21])) fun l29 => bind1 (i64 (gx5 + 1)) fun x30 => go1 l29 x30 else bind1 (i64 (gx5 + 1)) fun x31 => go1 gl4 x31 else bind1 (i64 (gx5 + 1)) fun x32 => go1 gl4 x32 else m17_buddy_free_K1 a1 a2 rec gl4
def m17_buddy_free_L1 (a0 : (List TBlock)) (x2 : Int) (a1 : Int) (a2 : Int) (rec : (List TBlock) → Int → Int → Option (List TBlock)) : Nat → (List TBlock) → Int → Option (List TBlock)
  | 0, _, _ => none
  | n + 1, gl4, gx5 => m17_buddy_free_L1B (m17_buddy_free_L1 a0 x2 a1 a2 rec n) a0 x2 a1 a2 rec gl4 gx5
def m17_buddy_freeB (rec : (List TBlock) → Int → Int → Option (List TBlock)) (a0 : (List TBlock)) (a1 : Int) (a2 : Int) : Option (List TBlock) :=
  bind1 (shlW .i64 1 a2) fun x1 => bind1 (i64 (a1 + x1)) fun x2 => m17_buddy_free_L1 a0 x2 a1 a2 rec big [] 0
def m17_buddy_freeR : Nat → (List TBlock) → Int → Int → Option (List TBlock)
  | 0, _, _, _ => none
  | n + 1, a0, a1, a2 => m17_buddy_freeB (m17_buddy_freeR n) a0 a1 a2
def m17_buddy_free (a0 : (List TBlock)) (a1 : Int) (a2 : Int) : Option (List TBlock) := m17_buddy_freeR big a0 a1 a2
def m5_buddy_Free (a0 : TBuddy) : Option ((List TBlock) × Int) :=
  bind1 (m8_buddy_Check a0) fun x2 => if x2 ≠ 0 then some ([], x2) else bind1 (m17_buddy_free a0.Taken 0 a0.Order) fun l5 => some (l5, 0)
def m16_api_Block (a0 : (List TBlock)) : Option (List TBlock) :=
  bind1 (app [] a0) fun l3 => some l3
def m30_cmp_isNaN_int (a0 : Int) : Option Bool :=
  some (decide (a0 ≠ a0))
def m20_cmp_Compare_int_K1 (a1 : Int) (a0 : Int) (gb1 : Bool) : Option Int :=
  if gb1 = true then bind1 (m30_cmp_isNaN_int a1) fun b5 => if b5 = true then some 0 else some (-1) else bind1 (m30_cmp_isNaN_int a1) fun b1 => if b1 = true then some 1 else if a0 < a1 then some (-1) else if a1 < a0 then some 1 else some 0
def m20_cmp_Compare_int (a0 : Int) (a1 : Int) : Option Int :=
  bind1 (m30_cmp_isNaN_int a0) fun b7 => if b7 = true then m20_cmp_Compare_int_K1 a1 a0 true else m20_cmp_Compare_int_K1 a1 a0 false
def m19_buddy_Take_1 (a0 : TBlock) (a1 : TBlock) : Option Int :=
  bind1 (m20_cmp_Compare_int a0.At a1.At) fun x3 => some x3
def m6_buddy_Take_K5 (l3 : (List TBlock)) (gx1 : Int) (a0 : TBuddy) (gl4 : (List TBlock)) : Option (TBuddy × Int × Int) :=
  bind1 (xSortG (fun x y => (m19_buddy_Take_1 x y).getD 0) gl4) fun l7 => bind1 (idx l3 gx1) fun x9 => some ((⟨a0.Order, l7⟩ : TBuddy), x9.At, 0)
def m6_buddy_Take_K4 (l3 : (List TBlock)) (gx1 : Int) (a0 : TBuddy) (a1 : Int) : Option (TBuddy × Int × Int) :=
  bind1 (idx l3 gx1) fun x25 => bind1 (m16_api_Block a0.Taken) fun l26 => bind1 (app l26 ([(⟨x25.At, a1⟩ : TBlock)])) fun l31 => m6_buddy_Take_K5 l3 gx1 a0 l31
def m6_buddy_Take_K3 (l3 : (List TBlock)) (a0 : TBuddy) (a1 : Int) (gx1 : Int) : Option (TBuddy × Int × Int) :=
  if gx1 < 0 then some ((⟨0, []⟩ : TBuddy), 0, 8) else m6_buddy_Take_K4 l3 gx1 a0 a1
def m6_buddy_Take_L1B (go1 : Int → Int → Option (TBuddy × Int × Int)) (l3 : (List TBlock)) (a1 : Int) (a0 : TBuddy) (gx5 : Int) (gx6 : Int) : Option (TBuddy × Int × Int) :=
  if gx6 < (l3.length : Int) then bind1 (idx l3 gx6) fun x71 => if a1 ≤ x71.Order then if gx5 < 0 then bind1 (i64 (gx6 + 1)) fun x75 => go1 gx6 x75 else bind1 (idx l3 gx5) fun x76 => if x71.Order < x76.Order then bind1 (i64 (gx6 + 1)) fun x78 => go1 gx6 x78 else bind1 (i64 (gx6 + 1)) fun x79 => go1 gx5 x79 else bind1 (i64 (gx6 + 1)) fun x80 => go1 gx5 x80 else m6_buddy_Take_K3 l3 a0 a1 gx5
def m6_buddy_Take_L1 (l3 : (List TBlock)) (a1 : Int) (a0 : TBuddy) : Nat → Int → Int → Option (TBuddy × Int × Int)
  | 0, _, _ => none
  | n + 1, gx5, gx6 => m6_buddy_Take_L1B (m6_buddy_Take_L1 l3 a1 a0 n) l3 a1 a0 gx5 gx6
def m6_buddy_Take_K2 (l3 : (List TBlock)) (a1 : Int) (a0 : TBuddy) : Option (TBuddy × Int × Int) :=
  m6_buddy_Take_L1 l3 a1 a0 big (-1) 0
def m6_buddy_Take_K1 (a1 : Int) (a0 : TBuddy) (l3 : (List TBlock)) : Option (TBuddy × Int × Int) :=
  if a1 < 0 then some ((⟨0, []⟩ : TBuddy), 0, 1) else if a0.Order < a1 then some ((⟨0, []⟩ : TBuddy), 0, 1) else m6_buddy_Take_K2 l3 a1 a0
def m6_buddy_Take (a0 : TBuddy) (a1 : Int) : Option (TBuddy × Int × Int) :=
  bind2 (m5_buddy_Free a0) fun l3 x5 => if x5 ≠ 0 then some ((⟨0, []⟩ : TBuddy), 0, x5) else m6_buddy_Take_K1 a1 a0 l3
def m7_buddy_Drop_K3 (gx1 : Int) (a0 : TBuddy) : Option (TBuddy × Int) :=
  bind1 (i64 (gx1 + 1)) fun x16 => bind1 (m16_api_Block a0.Taken) fun l17 => bind1 (xDelR l17 gx1 x16) fun l20 => some ((⟨a0.Order, l20⟩ : TBuddy), 0)
def m7_buddy_Drop_K2 (a0 : TBuddy) (gx1 : Int) : Option (TBuddy × Int) :=
  if gx1 < 0 then some ((⟨0, []⟩ : TBuddy), 6) else m7_buddy_Drop_K3 gx1 a0
def m7_buddy_Drop_K4 (a0 : TBuddy) : Option (TBuddy × Int) :=
  m7_buddy_Drop_K2 a0 (-1)
def m7_buddy_Drop_K5 (x24 : TBlock) (a1 : Int) (a0 : TBuddy) (gx2 : Int) (go1 : Int → Option (TBuddy × Int)) : Option (TBuddy × Int) :=
  if (decide (x24.At = a1)) = true then m7_buddy_Drop_K2 a0 gx2 else bind1 (i64 (gx2 + 1)) fun x25 => go1 x25
def m7_buddy_Drop_L1B (go1 : Int → Option (TBuddy × Int)) (a0 : TBuddy) (a1 : Int) (gx2 : Int) : Option (TBuddy × Int) :=
  if gx2 < (a0.Taken.length : Int) then bind1 (idx a0.Taken gx2) fun x24 => m7_buddy_Drop_K5 x24 a1 a0 gx2 go1 else m7_buddy_Drop_K4 a0
def m7_buddy_Drop_L1 (a0 : TBuddy) (a1 : Int) : Nat → Int → Option (TBuddy × Int)
  | 0, _ => none
  | n + 1, gx2 => m7_buddy_Drop_L1B (m7_buddy_Drop_L1 a0 a1 n) a0 a1 gx2
def m7_buddy_Drop_K1 (a0 : TBuddy) (a1 : Int) : Option (TBuddy × Int) :=
  m7_buddy_Drop_L1 a0 a1 big 0
def m7_buddy_Drop (a0 : TBuddy) (a1 : Int) : Option (TBuddy × Int) :=
  bind1 (m8_buddy_Check a0) fun x27 => if x27 ≠ 0 then some ((⟨0, []⟩ : TBuddy), x27) else m7_buddy_Drop_K1 a0 a1
def m11_api_Block_K2 : Option Bool :=
  some true
def m11_api_Block_L1B (go1 : Int → Option Bool) (a0 : (List TBlock)) (a1 : (List TBlock)) (gx1 : Int) : Option Bool :=
  if gx1 < (a0.length : Int) then bind1 (idx a0 gx1) fun x2 => bind1 (idx a1 gx1) fun x3 => if x2 ≠ x3 then some false else bind1 (i64 (gx1 + 1)) fun x5 => go1 x5 else m11_api_Block_K2
def m11_api_Block_L1 (a0 : (List TBlock)) (a1 : (List TBlock)) : Nat → Int → Option Bool
  | 0, _ => none
  | n + 1, gx1 => m11_api_Block_L1B (m11_api_Block_L1 a0 a1 n) a0 a1 gx1
def m11_api_Block_K1 (a0 : (List TBlock)) (a1 : (List TBlock)) : Option Bool :=
  m11_api_Block_L1 a0 a1 big 0
def m11_api_Block (a0 : (List TBlock)) (a1 : (List TBlock)) : Option Bool :=
  if (a0.length : Int) ≠ (a1.length : Int) then some false else m11_api_Block_K1 a0 a1
def m9_quirref_SameBuddy (a0 : TBuddy) (a1 : TBuddy) : Option Bool :=
  if a0.Order = a1.Order then bind1 (m11_api_Block a0.Taken a1.Taken) fun b4 => some b4 else some false
def m31_slices_Index_bool_K1 : Option Int :=
  some (-1)
def m31_slices_Index_bool_L1B (go1 : Int → Option Int) (a0 : (List Bool)) (a1 : Bool) (gx1 : Int) : Option Int :=
  if gx1 < (a0.length : Int) then bind1 (idx a0 gx1) fun x2 => if (a1 == x2) = true then some gx1 else bind1 (i64 (gx1 + 1)) fun x4 => go1 x4 else m31_slices_Index_bool_K1
def m31_slices_Index_bool_L1 (a0 : (List Bool)) (a1 : Bool) : Nat → Int → Option Int
  | 0, _ => none
  | n + 1, gx1 => m31_slices_Index_bool_L1B (m31_slices_Index_bool_L1 a0 a1 n) a0 a1 gx1
def m31_slices_Index_bool (a0 : (List Bool)) (a1 : Bool) : Option Int :=
  m31_slices_Index_bool_L1 a0 a1 big 0
def m24_slices_Contains_bool (a0 : (List Bool)) (a1 : Bool) : Option Bool :=
  bind1 (m31_slices_Index_bool a0 a1) fun x1 => some (decide (0 ≤ x1))
def m10_quirref_BuddyFree_K2 (gl3 : (List TBlock)) : Option (List TBlock) :=
  some gl3
def m10_quirref_BuddyFree_K5 (gl5 : (List TBlock)) (gx6 : Int) (go1 : (List TBlock) → Int → Option (List TBlock)) (gx7 : Int) : Option (List TBlock) :=
  bind1 (app gl5 ([(⟨gx6, gx7⟩ : TBlock)])) fun l8 => bind1 (shlW .i64 1 gx7) fun x9 => bind1 (i64 (gx6 + x9)) fun x10 => go1 l8 x10
def m10_quirref_BuddyFree_K6 (gx8 : Int) (go2 : Int → Option (List TBlock)) (gl5 : (List TBlock)) (gx6 : Int) (go1 : (List TBlock) → Int → Option (List TBlock)) (gb9 : Bool) : Option (List TBlock) :=
  if gb9 = true then bind1 (i64 (gx8 + 1)) fun x12 => go2 x12 else m10_quirref_BuddyFree_K5 gl5 gx6 go1 gx8
def m10_quirref_BuddyFree_L2B (go2 : Int → Option (List TBlock)) (a0 : TBuddy) (gx6 : Int) (gl1 : (List Bool)) (gl5 : (List TBlock)) (go1 : (List TBlock) → Int → Option (List TBlock)) (gx8 : Int) : Option (List TBlock) :=
  bind1 (i64 (gx8 + 1)) fun x11 => if x11 ≤ a0.Order then bind1 (shrW .i64 gx6 x11) fun x14 => bind1 (shlW .i64 x14 x11) fun x15 => bind1 (shrW .i64 gx6 x11) fun x16 => bind1 (shlW .i64 x16 x11) fun x17 => bind1 (shlW .i64 1 x11) fun x18 => bind1 (i64 (x17 + x18)) fun x19 => bind1 (cut gl1 x15 x19) fun l20 => bind1 (m24_slices_Contains_bool l20 true) fun b21 => m10_quirref_BuddyFree_K6 gx8 go2 gl5 gx6 go1 (!b21) else m10_quirref_BuddyFree_K6 gx8 go2 gl5 gx6 go1 false
def m10_quirref_BuddyFree_L2 (a0 : TBuddy) (gx6 : Int) (gl1 : (List Bool)) (gl5 : (List TBlock)) (go1 : (List TBlock) → Int → Option (List TBlock)) : Nat → Int → Option (List TBlock)
  | 0, _ => none
  | n + 1, gx8 => m10_quirref_BuddyFree_L2B (m10_quirref_BuddyFree_L2 a0 gx6 gl1 gl5 go1 n) a0 gx6 gl1 gl5 go1 gx8
def m10_quirref_BuddyFree_K4 (a0 : TBuddy) (gx6 : Int) (gl1 : (List Bool)) (gl5 : (List TBlock)) (go1 : (List TBlock) → Int → Option (List TBlock)) : Option (List TBlock) :=
  m10_quirref_BuddyFree_L2 a0 gx6 gl1 gl5 go1 big 0
def m10_quirref_BuddyFree_K3 (gl1 : (List Bool)) (gx6 : Int) (go1 : (List TBlock) → Int → Option (List TBlock)) (gl5 : (List TBlock)) (a0 : TBuddy) : Option (List TBlock) :=
  bind1 (idx gl1 gx6) fun x23 => if x23 = true then bind1 (i64 (gx6 + 1)) fun x25 => go1 gl5 x25 else m10_quirref_BuddyFree_K4 a0 gx6 gl1 gl5 go1
def m10_quirref_BuddyFree_L1B (go1 : (List TBlock) → Int → Option (List TBlock)) (x2 : Int) (gl1 : (List Bool)) (a0 : TBuddy) (gl5 : (List TBlock)) (gx6 : Int) : Option (List TBlock) :=
  if gx6 < x2 then m10_quirref_BuddyFree_K3 gl1 gx6 go1 gl5 a0 else m10_quirref_BuddyFree_K2 gl5
def m10_quirref_BuddyFree_L1 (x2 : Int) (gl1 : (List Bool)) (a0 : TBuddy) : Nat → (List TBlock) → Int → Option (List TBlock)
  | 0, _, _ => none
  | n + 1, gl5, gx6 => m10_quirref_BuddyFree_L1B (m10_quirref_BuddyFree_L1 x2 gl1 a0 n) x2 gl1 a0 gl5 gx6
def m10_quirref_BuddyFree_K1 (x2 : Int) (a0 : TBuddy) (gl1 : (List Bool)) : Option (List TBlock) :=
  m10_quirref_BuddyFree_L1 x2 gl1 a0 big [] 0
def m10_quirref_BuddyFree_K7 (gx10 : Int) (go3 : Int → (List Bool) → Option (List TBlock)) (gl12 : (List Bool)) : Option (List TBlock) :=
  bind1 (i64 (gx10 + 1)) fun x28 => go3 x28 gl12
def m10_quirref_BuddyFree_L4B (go4 : Int → (List Bool) → Option (List TBlock)) (x31 : Int) (x29 : TBlock) (gx10 : Int) (go3 : Int → (List Bool) → Option (List TBlock)) (gx13 : Int) (gl14 : (List Bool)) : Option (List TBlock) :=
  if gx13 < x31 then bind1 (i64 (x29.At + gx13)) fun x33 => bind1 (idx gl14 x33) fun x34 => bind1 (upd gl14 x33 true) fun l35 => bind1 (i64 (gx13 + 1)) fun x36 => go4 x36 l35 else m10_quirref_BuddyFree_K7 gx10 go3 gl14
def m10_quirref_BuddyFree_L4 (x31 : Int) (x29 : TBlock) (gx10 : Int) (go3 : Int → (List Bool) → Option (List TBlock)) : Nat → Int → (List Bool) → Option (List TBlock)
  | 0, _, _ => none
  | n + 1, gx13, gl14 => m10_quirref_BuddyFree_L4B (m10_quirref_BuddyFree_L4 x31 x29 gx10 go3 n) x31 x29 gx10 go3 gx13 gl14
def m10_quirref_BuddyFree_L3B (go3 : Int → (List Bool) → Option (List TBlock)) (a0 : TBuddy) (x2 : Int) (gx10 : Int) (gl11 : (List Bool)) : Option (List TBlock) :=
  if gx10 < (a0.Taken.length : Int) then bind1 (idx a0.Taken gx10) fun x29 => bind1 (shlW .i64 1 x29.Order) fun x31 => m10_quirref_BuddyFree_L4 x31 x29 gx10 go3 big 0 gl11 else m10_quirref_BuddyFree_K1 x2 a0 gl11
def m10_quirref_BuddyFree_L3 (a0 : TBuddy) (x2 : Int) : Nat → Int → (List Bool) → Option (List TBlock)
  | 0, _, _ => none
  | n + 1, gx10, gl11 => m10_quirref_BuddyFree_L3B (m10_quirref_BuddyFree_L3 a0 x2 n) a0 x2 gx10 gl11
def m10_quirref_BuddyFree (a0 : TBuddy) : Option (List TBlock) :=
  bind1 (shlW .i64 1 a0.Order) fun x2 => bind1 (mk x2 false) fun l3 => m10_quirref_BuddyFree_L3 a0 x2 big 0 l3
def m14_api_Block_K3 (gl5 : (List TBlock)) : Option (List TBlock) :=
  some gl5
def m14_api_Block_L1B (go1 : (List TBlock) → Int → Option (List TBlock)) (a0 : (List (List TBlock))) (gl7 : (List TBlock)) (gx8 : Int) : Option (List TBlock) :=
  if gx8 < (a0.length : Int) then bind1 (idx a0 gx8) fun x2 => bind1 (app gl7 x2) fun l4 => bind1 (i64 (gx8 + 1)) fun x5 => go1 l4 x5 else m14_api_Block_K3 gl7
def m14_api_Block_L1 (a0 : (List (List TBlock))) : Nat → (List TBlock) → Int → Option (List TBlock)
  | 0, _, _ => none
  | n + 1, gl7, gx8 => m14_api_Block_L1B (m14_api_Block_L1 a0 n) a0 gl7 gx8
def m14_api_Block_K2 (a0 : (List (List TBlock))) (gl3 : (List TBlock)) : Option (List TBlock) :=
  m14_api_Block_L1 a0 big gl3 0
def m14_api_Block_K4 (gx1 : Int) (a0 : (List (List TBlock))) : Option (List TBlock) :=
  bind1 (i64 (0 - 0)) fun x6 => bind1 (i64 (gx1 - x6)) fun x7 => if 0 < x7 then bind1 (mk x7 (⟨0, 0⟩ : TBlock)) fun l9 => bind1 (cut l9 0 0) fun l11 => m14_api_Block_K2 a0 l11 else m14_api_Block_K2 a0 []
def m14_api_Block_K1 (a0 : (List (List TBlock))) (gx1 : Int) : Option (List TBlock) :=
  if gx1 < 0 then none else m14_api_Block_K4 gx1 a0
def m14_api_Block_L2B (go2 : Int → Int → Option (List TBlock)) (a0 : (List (List TBlock))) (gx9 : Int) (gx10 : Int) : Option (List TBlock) :=
  if gx10 < (a0.length : Int) then bind1 (idx a0 gx10) fun x15 => bind1 (i64 (gx9 + (x15.length : Int))) fun x16 => if x16 < 0 then none else bind1 (i64 (gx10 + 1)) fun x18 => go2 x16 x18 else m14_api_Block_K1 a0 gx9
def m14_api_Block_L2 (a0 : (List (List TBlock))) : Nat → Int → Int → Option (List TBlock)
  | 0, _, _ => none
  | n + 1, gx9, gx10 => m14_api_Block_L2B (m14_api_Block_L2 a0 n) a0 gx9 gx10
def m14_api_Block (a0 : (List (List TBlock))) : Option (List TBlock) :=
  m14_api_Block_L2 a0 big 0 0
def m3_quirlaw_BuddySays_K8 (x12 : Int) (gb2 : Bool) : Option Bool :=
  if gb2 = true then some (decide (x12 = 8)) else some false
def m3_quirlaw_BuddySays_K7 (x9 : TBuddy) (x11 : Int) (x12 : Int) : Option Bool :=
  bind1 (m9_quirref_SameBuddy x9 (⟨0, []⟩ : TBuddy)) fun b24 => if b24 = true then if x11 = 0 then m3_quirlaw_BuddySays_K8 x12 true else m3_quirlaw_BuddySays_K8 x12 false else m3_quirlaw_BuddySays_K8 x12 false
def m3_quirlaw_BuddySays_K10 (gx3 : Int) (go1 : Int → Option Bool) : Option Bool :=
  bind1 (i64 (gx3 + 1)) fun x27 => go1 x27
def m3_quirlaw_BuddySays_K11 (gx4 : Int) (go2 : Int → Option Bool) : Option Bool :=
  bind1 (i64 (gx4 + 1)) fun x29 => go2 x29
def m3_quirlaw_BuddySays_K14 (x12 : Int) (gb9 : Bool) : Option Bool :=
  if gb9 = true then some (decide (x12 = 0)) else some false
def m3_quirlaw_BuddySays_K13 (x9 : TBuddy) (a0 : TBuddy) (x11 : Int) (x30 : TBlock) (x12 : Int) (gl8 : (List TBlock)) : Option Bool :=
  bind1 (m9_quirref_SameBuddy x9 (⟨a0.Order, gl8⟩ : TBuddy)) fun b33 => if b33 = true then if x11 = x30.At then m3_quirlaw_BuddySays_K14 x12 true else m3_quirlaw_BuddySays_K14 x12 false else m3_quirlaw_BuddySays_K14 x12 false
def m3_quirlaw_BuddySays_K12 (a0 : TBuddy) (x30 : TBlock) (a1 : Int) (x9 : TBuddy) (x11 : Int) (x12 : Int) (gx5 : Int) : Option Bool :=
  bind1 (m16_api_Block a0.Taken) fun l49 => bind1 (xInsR l49 gx5 (⟨x30.At, a1⟩ : TBlock)) fun l53 => m3_quirlaw_BuddySays_K13 x9 a0 x11 x30 x12 l53
def m3_quirlaw_BuddySays_L3B (go3 : Int → Option Bool) (a0 : TBuddy) (x30 : TBlock) (a1 : Int) (x9 : TBuddy) (x11 : Int) (x12 : Int) (gx10 : Int) : Option Bool :=
  if gx10 < (a0.Taken.length : Int) then bind1 (idx a0.Taken gx10) fun x93 => if x93.At < x30.At then bind1 (i64 (gx10 + 1)) fun x95 => go3 x95 else m3_quirlaw_BuddySays_K12 a0 x30 a1 x9 x11 x12 gx10 else m3_quirlaw_BuddySays_K12 a0 x30 a1 x9 x11 x12 gx10
def m3_quirlaw_BuddySays_L3 (a0 : TBuddy) (x30 : TBlock) (a1 : Int) (x9 : TBuddy) (x11 : Int) (x12 : Int) : Nat → Int → Option Bool
  | 0, _ => none
  | n + 1, gx10 => m3_quirlaw_BuddySays_L3B (m3_quirlaw_BuddySays_L3 a0 x30 a1 x9 x11 x12 n) a0 x30 a1 x9 x11 x12 gx10
def m3_quirlaw_BuddySays_L2B (go2 : Int → Option Bool) (l21 : (List TBlock)) (gx3 : Int) (a0 : TBuddy) (a1 : Int) (x9 : TBuddy) (x11 : Int) (x12 : Int) (go1 : Int → Option Bool) (gx4 : Int) : Option Bool :=
  if gx4 < (l21.length : Int) then bind1 (idx l21 gx4) fun x30 => if x30.Order = gx3 then m3_quirlaw_BuddySays_L3 a0 x30 a1 x9 x11 x12 big 0 else m3_quirlaw_BuddySays_K11 gx4 go2 else m3_quirlaw_BuddySays_K10 gx3 go1
def m3_quirlaw_BuddySays_L2 (l21 : (List TBlock)) (gx3 : Int) (a0 : TBuddy) (a1 : Int) (x9 : TBuddy) (x11 : Int) (x12 : Int) (go1 : Int → Option Bool) : Nat → Int → Option Bool
  | 0, _ => none
  | n + 1, gx4 => m3_quirlaw_BuddySays_L2B (m3_quirlaw_BuddySays_L2 l21 gx3 a0 a1 x9 x11 x12 go1 n) l21 gx3 a0 a1 x9 x11 x12 go1 gx4
def m3_quirlaw_BuddySays_K9 (l21 : (List TBlock)) (gx3 : Int) (a0 : TBuddy) (a1 : Int) (x9 : TBuddy) (x11 : Int) (x12 : Int) (go1 : Int → Option Bool) : Option Bool :=
  m3_quirlaw_BuddySays_L2 l21 gx3 a0 a1 x9 x11 x12 go1 big 0
def m3_quirlaw_BuddySays_L1B (go1 : Int → Option Bool) (a0 : TBuddy) (l21 : (List TBlock)) (a1 : Int) (x9 : TBuddy) (x11 : Int) (x12 : Int) (gx3 : Int) : Option Bool :=
  if gx3 ≤ a0.Order then m3_quirlaw_BuddySays_K9 l21 gx3 a0 a1 x9 x11 x12 go1 else m3_quirlaw_BuddySays_K7 x9 x11 x12
def m3_quirlaw_BuddySays_L1 (a0 : TBuddy) (l21 : (List TBlock)) (a1 : Int) (x9 : TBuddy) (x11 : Int) (x12 : Int) : Nat → Int → Option Bool
  | 0, _ => none
  | n + 1, gx3 => m3_quirlaw_BuddySays_L1B (m3_quirlaw_BuddySays_L1 a0 l21 a1 x9 x11 x12 n) a0 l21 a1 x9 x11 x12 gx3
def m3_quirlaw_BuddySays_K6 (a0 : TBuddy) (l21 : (List TBlock)) (a1 : Int) (x9 : TBuddy) (x11 : Int) (x12 : Int) : Option Bool :=
  m3_quirlaw_BuddySays_L1 a0 l21 a1 x9 x11 x12 big a1
def m3_quirlaw_BuddySays_K16 (x12 : Int) (gb12 : Bool) : Option Bool :=
  if gb12 = true then some (decide (x12 = 1)) else some false
def m3_quirlaw_BuddySays_K15 (x9 : TBuddy) (x11 : Int) (x12 : Int) (a0 : TBuddy) (l21 : (List TBlock)) (a1 : Int) (gb11 : Bool) : Option Bool :=
  if gb11 = true then bind1 (m9_quirref_SameBuddy x9 (⟨0, []⟩ : TBuddy)) fun b97 => if b97 = true then if x11 = 0 then m3_quirlaw_BuddySays_K16 x12 true else m3_quirlaw_BuddySays_K16 x12 false else m3_quirlaw_BuddySays_K16 x12 false else m3_quirlaw_BuddySays_K6 a0 l21 a1 x9 x11 x12
def m3_quirlaw_BuddySays_K5 (a1 : Int) (x9 : TBuddy) (x11 : Int) (x12 : Int) (a0 : TBuddy) (l21 : (List TBlock)) : Option Bool :=
  if a1 < 0 then m3_quirlaw_BuddySays_K15 x9 x11 x12 a0 l21 a1 true else if a0.Order < a1 then m3_quirlaw_BuddySays_K15 x9 x11 x12 a0 l21 a1 true else m3_quirlaw_BuddySays_K15 x9 x11 x12 a0 l21 a1 false
def m3_quirlaw_BuddySays_K17 (x15 : TBuddy) (x17 : Int) (a1 : Int) (x9 : TBuddy) (x11 : Int) (x12 : Int) (a0 : TBuddy) (l21 : (List TBlock)) (gx1 : Int) (gb13 : Bool) : Option Bool :=
  if gb13 = true then bind1 (m9_quirref_SameBuddy x15 (⟨0, []⟩ : TBuddy)) fun b130 => if b130 = true then if x17 ≠ 6 then some false else m3_quirlaw_BuddySays_K5 a1 x9 x11 x12 a0 l21 else some false else bind1 (cut a0.Taken 0 gx1) fun l120 => bind1 (i64 (gx1 + 1)) fun x121 => bind1 (cut a0.Taken x121 a0.Taken.length) fun l122 => bind1 (m14_api_Block ([l120, l122])) fun l124 => bind1 (m9_quirref_SameBuddy x15 (⟨a0.Order, l124⟩ : TBuddy)) fun b127 => if b127 = true then if x17 ≠ 0 then some false else m3_quirlaw_BuddySays_K5 a1 x9 x11 x12 a0 l21 else some false
def m3_quirlaw_BuddySays_K4 (x15 : TBuddy) (x17 : Int) (a1 : Int) (x9 : TBuddy) (x11 : Int) (x12 : Int) (a0 : TBuddy) (l21 : (List TBlock)) (gx1 : Int) : Option Bool :=
  if gx1 < 0 then m3_quirlaw_BuddySays_K17 x15 x17 a1 x9 x11 x12 a0 l21 gx1 true else m3_quirlaw_BuddySays_K17 x15 x17 a1 x9 x11 x12 a0 l21 gx1 false
def m3_quirlaw_BuddySays_K18 (x15 : TBuddy) (x17 : Int) (a1 : Int) (x9 : TBuddy) (x11 : Int) (x12 : Int) (a0 : TBuddy) (l21 : (List TBlock)) : Option Bool :=
  m3_quirlaw_BuddySays_K4 x15 x17 a1 x9 x11 x12 a0 l21 (-1)
def m3_quirlaw_BuddySays_K19 (x135 : TBlock) (a2 : Int) (x15 : TBuddy) (x17 : Int) (a1 : Int) (x9 : TBuddy) (x11 : Int) (x12 : Int) (a0 : TBuddy) (l21 : (List TBlock)) (gx14 : Int) (go4 : Int → Option Bool) : Option Bool :=
  if (decide (x135.At = a2)) = true then m3_quirlaw_BuddySays_K4 x15 x17 a1 x9 x11 x12 a0 l21 gx14 else bind1 (i64 (gx14 + 1)) fun x136 => go4 x136
def m3_quirlaw_BuddySays_L4B (go4 : Int → Option Bool) (a0 : TBuddy) (a2 : Int) (x15 : TBuddy) (x17 : Int) (a1 : Int) (x9 : TBuddy) (x11 : Int) (x12 : Int) (l21 : (List TBlock)) (gx14 : Int) : Option Bool :=
  if gx14 < (a0.Taken.length : Int) then bind1 (idx a0.Taken gx14) fun x135 => m3_quirlaw_BuddySays_K19 x135 a2 x15 x17 a1 x9 x11 x12 a0 l21 gx14 go4 else m3_quirlaw_BuddySays_K18 x15 x17 a1 x9 x11 x12 a0 l21
def m3_quirlaw_BuddySays_L4 (a0 : TBuddy) (a2 : Int) (x15 : TBuddy) (x17 : Int) (a1 : Int) (x9 : TBuddy) (x11 : Int) (x12 : Int) (l21 : (List TBlock)) : Nat → Int → Option Bool
  | 0, _ => none
  | n + 1, gx14 => m3_quirlaw_BuddySays_L4B (m3_quirlaw_BuddySays_L4 a0 a2 x15 x17 a1 x9 x11 x12 l21 n) a0 a2 x15 x17 a1 x9 x11 x12 l21 gx14
def m3_quirlaw_BuddySays_K3 (a0 : TBuddy) (a2 : Int) (x15 : TBuddy) (x17 : Int) (a1 : Int) (x9 : TBuddy) (x11 : Int) (x12 : Int) (l21 : (List TBlock)) : Option Bool :=
  m3_quirlaw_BuddySays_L4 a0 a2 x15 x17 a1 x9 x11 x12 l21 big 0
def m3_quirlaw_BuddySays_K2 (a0 : TBuddy) (l5 : (List TBlock)) (x7 : Int) (a2 : Int) (x15 : TBuddy) (x17 : Int) (a1 : Int) (x9 : TBuddy) (x11 : Int) (x12 : Int) : Option Bool :=
  bind1 (m10_quirref_BuddyFree a0) fun l21 => bind1 (m11_api_Block l5 l21) fun b138 => if b138 = true then if x7 ≠ 0 then some false else m3_quirlaw_BuddySays_K3 a0 a2 x15 x17 a1 x9 x11 x12 l21 else some false
def m3_quirlaw_BuddySays_K22 (x17 : Int) (x3 : Int) (gb17 : Bool) : Option Bool :=
  if gb17 = true then some (decide (x17 = x3)) else some false
def m3_quirlaw_BuddySays_K21 (x12 : Int) (x3 : Int) (x15 : TBuddy) (x17 : Int) (gb16 : Bool) : Option Bool :=
  if gb16 = true then if x12 = x3 then bind1 (m9_quirref_SameBuddy x15 (⟨0, []⟩ : TBuddy)) fun b143 => if b143 = true then m3_quirlaw_BuddySays_K22 x17 x3 true else m3_quirlaw_BuddySays_K22 x17 x3 false else m3_quirlaw_BuddySays_K22 x17 x3 false else some false
def m3_quirlaw_BuddySays_K20 (x9 : TBuddy) (x11 : Int) (x12 : Int) (x3 : Int) (x15 : TBuddy) (x17 : Int) (gb15 : Bool) : Option Bool :=
  if gb15 = true then bind1 (m9_quirref_SameBuddy x9 (⟨0, []⟩ : TBuddy)) fun b145 => if b145 = true then if x11 = 0 then m3_quirlaw_BuddySays_K21 x12 x3 x15 x17 true else m3_quirlaw_BuddySays_K21 x12 x3 x15 x17 false else m3_quirlaw_BuddySays_K21 x12 x3 x15 x17 false else some false
def m3_quirlaw_BuddySays_K1 (x3 : Int) (l5 : (List TBlock)) (x7 : Int) (x9 : TBuddy) (x11 : Int) (x12 : Int) (x15 : TBuddy) (x17 : Int) (a0 : TBuddy) (a2 : Int) (a1 : Int) : Option Bool :=
  if x3 ≠ 0 then if (l5.length : Int) = 0 then if x7 = x3 then m3_quirlaw_BuddySays_K20 x9 x11 x12 x3 x15 x17 true else m3_quirlaw_BuddySays_K20 x9 x11 x12 x3 x15 x17 false else m3_quirlaw_BuddySays_K20 x9 x11 x12 x3 x15 x17 false else m3_quirlaw_BuddySays_K2 a0 l5 x7 a2 x15 x17 a1 x9 x11 x12
def m3_quirlaw_BuddySays (a0 : TBuddy) (a1 : Int) (a2 : Int) : Option Bool :=
  bind1 (m4_quirref_BuddyErr a0) fun x3 => bind2 (m5_buddy_Free a0) fun l5 x7 => bind3 (m6_buddy_Take a0 a1) fun x9 x11 x12 => bind2 (m7_buddy_Drop a0 a2) fun x15 x17 => bind1 (m8_buddy_Check a0) fun x150 => if x150 ≠ x3 then some false else m3_quirlaw_BuddySays_K1 x3 l5 x7 x9 x11 x12 x15 x17 a0 a2 a1
end Go.Proofs.Ytanpiecpmmcaeaa
