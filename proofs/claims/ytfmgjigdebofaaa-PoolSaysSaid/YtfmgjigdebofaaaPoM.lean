/-
  Models, printed by a program of mine.
  Conditions: none.
-/
import Derived.Test.YtfmgjigdebofaaaPt
namespace Go.Proofs.Ytfmgjigdebofaaa
open Go.S
set_option linter.unusedVariables false
structure TframeOf where
  page_ : Int
  mark_ : Bool
  deriving DecidableEq, Inhabited
def TframeOf.row (x : TframeOf) : List Value := [.int .i64 x.page_, .bool x.mark_]
def m64_pool_Check (a0 : Int) (a1 : (List Int)) : Option Int :=
  if a0 < 1 then some 1 else if 50 < a0 then some 1 else if 2000 < (a1.length : Int) then some 2 else some 0
def m121_slices_Index_int_K1 : Option Int :=
  some (-1)
def m121_slices_Index_int_L1B (go1 : Int → Option Int) (a0 : (List Int)) (a1 : Int) (gx1 : Int) : Option Int :=
  if gx1 < (a0.length : Int) then bind1 (idx a0 gx1) fun x2 => if a1 = x2 then some gx1 else bind1 (i64 (gx1 + 1)) fun x4 => go1 x4 else m121_slices_Index_int_K1
def m121_slices_Index_int_L1 (a0 : (List Int)) (a1 : Int) : Nat → Int → Option Int
  | 0, _ => none
  | n + 1, gx1 => m121_slices_Index_int_L1B (m121_slices_Index_int_L1 a0 a1 n) a0 a1 gx1
def m121_slices_Index_int (a0 : (List Int)) (a1 : Int) : Option Int :=
  m121_slices_Index_int_L1 a0 a1 big 0
def m118_pool_oldest (a0 : (List Int)) (a1 : Int) : Option Int :=
  some 0
def m65_pool_Fifo_K2 (gl2 : (List Bool)) (gl4 : (List Int)) : Option ((List Bool) × (List Int) × Int) :=
  some (gl2, gl4, 0)
def m65_pool_Fifo_K3 (gl6 : (List Bool)) (gl8 : (List Int)) : Option ((List Bool) × (List Int) × Int) :=
  m65_pool_Fifo_K2 gl6 gl8
def m65_pool_Fifo_K4 (gx13 : Int) (go1 : (List Bool) → (List Int) → Int → Option ((List Bool) × (List Int) × Int)) (gl15 : (List Bool)) (gl17 : (List Int)) : Option ((List Bool) × (List Int) × Int) :=
  bind1 (i64 (gx13 + 1)) fun x2 => go1 gl15 gl17 x2
def m65_pool_Fifo_K6 (gl12 : (List Int)) (x3 : Int) (gx13 : Int) (go1 : (List Bool) → (List Int) → Int → Option ((List Bool) × (List Int) × Int)) (l8 : (List Bool)) : Option ((List Bool) × (List Int) × Int) :=
  bind1 (i64 (0 + 1)) fun x10 => bind1 (xDel gl12 0 x10) fun l11 => bind1 (app l11 ([x3])) fun l15 => m65_pool_Fifo_K4 gx13 go1 l8 l15
def m65_pool_Fifo_K5 (gl12 : (List Int)) (a0 : Int) (x3 : Int) (gx13 : Int) (go1 : (List Bool) → (List Int) → Int → Option ((List Bool) × (List Int) × Int)) (l8 : (List Bool)) : Option ((List Bool) × (List Int) × Int) :=
  if (gl12.length : Int) = a0 then m65_pool_Fifo_K6 gl12 x3 gx13 go1 l8 else bind1 (app gl12 ([x3])) fun l18 => m65_pool_Fifo_K4 gx13 go1 l8 l18
def m65_pool_Fifo_K7 (gx13 : Int) (go1 : (List Bool) → (List Int) → Int → Option ((List Bool) × (List Int) × Int)) (l8 : (List Bool)) (gl12 : (List Int)) : Option ((List Bool) × (List Int) × Int) :=
  m65_pool_Fifo_K4 gx13 go1 l8 gl12
def m65_pool_Fifo_L1B (go1 : (List Bool) → (List Int) → Int → Option ((List Bool) × (List Int) × Int)) (a1 : (List Int)) (a0 : Int) (gl10 : (List Bool)) (gl12 : (List Int)) (gx13 : Int) : Option ((List Bool) × (List Int) × Int) :=
  if gx13 < (a1.length : Int) then bind1 (idx a1 gx13) fun x3 => bind1 (m121_slices_Index_int gl12 x3) fun x4 => bind1 (app gl10 ([decide (0 ≤ x4)])) fun l8 => if 0 ≤ x4 then m65_pool_Fifo_K7 gx13 go1 l8 gl12 else m65_pool_Fifo_K5 gl12 a0 x3 gx13 go1 l8 else m65_pool_Fifo_K3 gl10 gl12
def m65_pool_Fifo_L1 (a1 : (List Int)) (a0 : Int) : Nat → (List Bool) → (List Int) → Int → Option ((List Bool) × (List Int) × Int)
  | 0, _, _, _ => none
  | n + 1, gl10, gl12, gx13 => m65_pool_Fifo_L1B (m65_pool_Fifo_L1 a1 a0 n) a1 a0 gl10 gl12 gx13
def m65_pool_Fifo_K1 (a1 : (List Int)) (a0 : Int) : Option ((List Bool) × (List Int) × Int) :=
  m65_pool_Fifo_L1 a1 a0 big [] [] 0
def m65_pool_Fifo (a0 : Int) (a1 : (List Int)) : Option ((List Bool) × (List Int) × Int) :=
  bind1 (m64_pool_Check a0 a1) fun x20 => if x20 ≠ 0 then some ([], [], x20) else m65_pool_Fifo_K1 a1 a0
def m66_pool_Lru_K2 (gl2 : (List Bool)) (gl4 : (List Int)) : Option ((List Bool) × (List Int) × Int) :=
  some (gl2, gl4, 0)
def m66_pool_Lru_K3 (gl6 : (List Bool)) (gl8 : (List Int)) : Option ((List Bool) × (List Int) × Int) :=
  m66_pool_Lru_K2 gl6 gl8
def m66_pool_Lru_K4 (gx13 : Int) (go1 : (List Bool) → (List Int) → Int → Option ((List Bool) × (List Int) × Int)) (gl15 : (List Bool)) (gl17 : (List Int)) : Option ((List Bool) × (List Int) × Int) :=
  bind1 (i64 (gx13 + 1)) fun x2 => go1 gl15 gl17 x2
def m66_pool_Lru_K6 (gl12 : (List Int)) (x3 : Int) (gx13 : Int) (go1 : (List Bool) → (List Int) → Int → Option ((List Bool) × (List Int) × Int)) (l8 : (List Bool)) : Option ((List Bool) × (List Int) × Int) :=
  bind1 (i64 (0 + 1)) fun x10 => bind1 (xDel gl12 0 x10) fun l11 => bind1 (app l11 ([x3])) fun l15 => m66_pool_Lru_K4 gx13 go1 l8 l15
def m66_pool_Lru_K5 (gl12 : (List Int)) (a0 : Int) (x3 : Int) (gx13 : Int) (go1 : (List Bool) → (List Int) → Int → Option ((List Bool) × (List Int) × Int)) (l8 : (List Bool)) : Option ((List Bool) × (List Int) × Int) :=
  if (gl12.length : Int) = a0 then m66_pool_Lru_K6 gl12 x3 gx13 go1 l8 else bind1 (app gl12 ([x3])) fun l18 => m66_pool_Lru_K4 gx13 go1 l8 l18
def m66_pool_Lru_K7 (gx13 : Int) (go1 : (List Bool) → (List Int) → Int → Option ((List Bool) × (List Int) × Int)) (l8 : (List Bool)) (gl19 : (List Int)) : Option ((List Bool) × (List Int) × Int) :=
  m66_pool_Lru_K4 gx13 go1 l8 gl19
def m66_pool_Lru_L1B (go1 : (List Bool) → (List Int) → Int → Option ((List Bool) × (List Int) × Int)) (a1 : (List Int)) (a0 : Int) (gl10 : (List Bool)) (gl12 : (List Int)) (gx13 : Int) : Option ((List Bool) × (List Int) × Int) :=
  if gx13 < (a1.length : Int) then bind1 (idx a1 gx13) fun x3 => bind1 (m121_slices_Index_int gl12 x3) fun x4 => bind1 (app gl10 ([decide (0 ≤ x4)])) fun l8 => if 0 ≤ x4 then bind1 (m121_slices_Index_int gl12 x3) fun x20 => bind1 (i64 (x20 + 1)) fun x22 => bind1 (xDel gl12 x20 x22) fun l23 => bind1 (app l23 ([x3])) fun l27 => m66_pool_Lru_K7 gx13 go1 l8 l27 else m66_pool_Lru_K5 gl12 a0 x3 gx13 go1 l8 else m66_pool_Lru_K3 gl10 gl12
def m66_pool_Lru_L1 (a1 : (List Int)) (a0 : Int) : Nat → (List Bool) → (List Int) → Int → Option ((List Bool) × (List Int) × Int)
  | 0, _, _, _ => none
  | n + 1, gl10, gl12, gx13 => m66_pool_Lru_L1B (m66_pool_Lru_L1 a1 a0 n) a1 a0 gl10 gl12 gx13
def m66_pool_Lru_K1 (a1 : (List Int)) (a0 : Int) : Option ((List Bool) × (List Int) × Int) :=
  m66_pool_Lru_L1 a1 a0 big [] [] 0
def m66_pool_Lru (a0 : Int) (a1 : (List Int)) : Option ((List Bool) × (List Int) × Int) :=
  bind1 (m64_pool_Check a0 a1) fun x28 => if x28 ≠ 0 then some ([], [], x28) else m66_pool_Lru_K1 a1 a0
def m67_pool_Best_K2 (gl2 : (List Bool)) (gl4 : (List Int)) : Option ((List Bool) × (List Int) × Int) :=
  some (gl2, gl4, 0)
def m67_pool_Best_K3 (gl6 : (List Bool)) (gl8 : (List Int)) : Option ((List Bool) × (List Int) × Int) :=
  m67_pool_Best_K2 gl6 gl8
def m67_pool_Best_K5 (gl12 : (List Int)) (x4 : Int) (gx13 : Int) (go1 : (List Bool) → (List Int) → Int → Option ((List Bool) × (List Int) × Int)) (l9 : (List Bool)) (gx14 : Int) : Option ((List Bool) × (List Int) × Int) :=
  bind1 (i64 (gx14 + 1)) fun x11 => bind1 (xDel gl12 gx14 x11) fun l12 => bind1 (app l12 ([x4])) fun l16 => bind1 (i64 (gx13 + 1)) fun x17 => go1 l9 l16 x17
def m67_pool_Best_K6 (gl12 : (List Int)) (x4 : Int) (gx13 : Int) (go1 : (List Bool) → (List Int) → Int → Option ((List Bool) × (List Int) × Int)) (l9 : (List Bool)) (gx15 : Int) : Option ((List Bool) × (List Int) × Int) :=
  m67_pool_Best_K5 gl12 x4 gx13 go1 l9 gx15
def m67_pool_Best_K8 (gx19 : Int) (gx18 : Int) (go2 : Int → Int → Option ((List Bool) × (List Int) × Int)) (gx17 : Int) (gx20 : Int) : Option ((List Bool) × (List Int) × Int) :=
  if gx20 < gx19 then bind1 (i64 (gx18 + 1)) fun x22 => go2 gx18 x22 else bind1 (i64 (gx18 + 1)) fun x23 => go2 gx17 x23
def m67_pool_Best_K7 (a1 : (List Int)) (gx13 : Int) (x20 : Int) (gx18 : Int) (go2 : Int → Int → Option ((List Bool) × (List Int) × Int)) (gx17 : Int) (gx19 : Int) : Option ((List Bool) × (List Int) × Int) :=
  bind1 (cut a1 gx13 a1.length) fun l24 => bind1 (m121_slices_Index_int l24 x20) fun x25 => if 0 ≤ x25 then bind1 (i64 (gx13 + x25)) fun x28 => m67_pool_Best_K8 gx19 gx18 go2 gx17 x28 else m67_pool_Best_K8 gx19 gx18 go2 gx17 (a1.length : Int)
def m67_pool_Best_L2B (go2 : Int → Int → Option ((List Bool) × (List Int) × Int)) (gl12 : (List Int)) (a1 : (List Int)) (gx13 : Int) (x4 : Int) (go1 : (List Bool) → (List Int) → Int → Option ((List Bool) × (List Int) × Int)) (l9 : (List Bool)) (gx17 : Int) (gx18 : Int) : Option ((List Bool) × (List Int) × Int) :=
  if gx18 < (gl12.length : Int) then bind1 (idx gl12 gx18) fun x19 => bind1 (idx gl12 gx17) fun x20 => bind1 (cut a1 gx13 a1.length) fun l29 => bind1 (m121_slices_Index_int l29 x19) fun x30 => if 0 ≤ x30 then bind1 (i64 (gx13 + x30)) fun x33 => m67_pool_Best_K7 a1 gx13 x20 gx18 go2 gx17 x33 else m67_pool_Best_K7 a1 gx13 x20 gx18 go2 gx17 (a1.length : Int) else m67_pool_Best_K6 gl12 x4 gx13 go1 l9 gx17
def m67_pool_Best_L2 (gl12 : (List Int)) (a1 : (List Int)) (gx13 : Int) (x4 : Int) (go1 : (List Bool) → (List Int) → Int → Option ((List Bool) × (List Int) × Int)) (l9 : (List Bool)) : Nat → Int → Int → Option ((List Bool) × (List Int) × Int)
  | 0, _, _ => none
  | n + 1, gx17, gx18 => m67_pool_Best_L2B (m67_pool_Best_L2 gl12 a1 gx13 x4 go1 l9 n) gl12 a1 gx13 x4 go1 l9 gx17 gx18
def m67_pool_Best_K4 (gl12 : (List Int)) (a0 : Int) (a1 : (List Int)) (gx13 : Int) (x4 : Int) (go1 : (List Bool) → (List Int) → Int → Option ((List Bool) × (List Int) × Int)) (l9 : (List Bool)) : Option ((List Bool) × (List Int) × Int) :=
  if (gl12.length : Int) = a0 then m67_pool_Best_L2 gl12 a1 gx13 x4 go1 l9 big 0 0 else bind1 (app gl12 ([x4])) fun l36 => bind1 (i64 (gx13 + 1)) fun x37 => go1 l9 l36 x37
def m67_pool_Best_K9 (gx13 : Int) (go1 : (List Bool) → (List Int) → Int → Option ((List Bool) × (List Int) × Int)) (l9 : (List Bool)) (gl12 : (List Int)) : Option ((List Bool) × (List Int) × Int) :=
  bind1 (i64 (gx13 + 1)) fun x39 => go1 l9 gl12 x39
def m67_pool_Best_L1B (go1 : (List Bool) → (List Int) → Int → Option ((List Bool) × (List Int) × Int)) (a1 : (List Int)) (a0 : Int) (gl10 : (List Bool)) (gl12 : (List Int)) (gx13 : Int) : Option ((List Bool) × (List Int) × Int) :=
  if gx13 < (a1.length : Int) then bind1 (idx a1 gx13) fun x4 => bind1 (m121_slices_Index_int gl12 x4) fun x5 => bind1 (app gl10 ([decide (0 ≤ x5)])) fun l9 => if 0 ≤ x5 then m67_pool_Best_K9 gx13 go1 l9 gl12 else m67_pool_Best_K4 gl12 a0 a1 gx13 x4 go1 l9 else m67_pool_Best_K3 gl10 gl12
def m67_pool_Best_L1 (a1 : (List Int)) (a0 : Int) : Nat → (List Bool) → (List Int) → Int → Option ((List Bool) × (List Int) × Int)
  | 0, _, _, _ => none
  | n + 1, gl10, gl12, gx13 => m67_pool_Best_L1B (m67_pool_Best_L1 a1 a0 n) a1 a0 gl10 gl12 gx13
def m67_pool_Best_K1 (a1 : (List Int)) (a0 : Int) : Option ((List Bool) × (List Int) × Int) :=
  m67_pool_Best_L1 a1 a0 big [] [] 0
def m67_pool_Best (a0 : Int) (a1 : (List Int)) : Option ((List Bool) × (List Int) × Int) :=
  bind1 (m64_pool_Check a0 a1) fun x40 => if x40 ≠ 0 then some ([], [], x40) else m67_pool_Best_K1 a1 a0
def m68_pool_Clock_K2 (gl2 : (List Bool)) (gl4 : (List Int)) : Option ((List Bool) × (List Int) × Int) :=
  some (gl2, gl4, 0)
def m68_pool_Clock_K3 (gx19 : Int) (go1 : (List Bool) → (List Int) → (List Bool) → Int → Int → Option ((List Bool) × (List Int) × Int)) (gl21 : (List Bool)) (gl23 : (List Int)) (gl25 : (List Bool)) (gx26 : Int) : Option ((List Bool) × (List Int) × Int) :=
  bind1 (i64 (gx19 + 1)) fun x2 => go1 gl21 gl23 gl25 gx26 x2
def m68_pool_Clock_K5 (gl15 : (List Int)) (x3 : Int) (a0 : Int) (gx19 : Int) (go1 : (List Bool) → (List Int) → (List Bool) → Int → Int → Option ((List Bool) × (List Int) × Int)) (l8 : (List Bool)) (gl27 : (List Bool)) (gx28 : Int) : Option ((List Bool) × (List Int) × Int) :=
  bind1 (idx gl15 gx28) fun x9 => bind1 (upd gl15 gx28 x3) fun l10 => bind1 (idx gl27 gx28) fun x11 => bind1 (upd gl27 gx28 true) fun l12 => bind1 (i64 (gx28 + 1)) fun x13 => bind1 (modW x13 a0) fun x14 => m68_pool_Clock_K3 gx19 go1 l8 l10 l12 x14
def m68_pool_Clock_L2B (go2 : (List Bool) → Int → Option ((List Bool) × (List Int) × Int)) (a0 : Int) (gl15 : (List Int)) (x3 : Int) (gx19 : Int) (go1 : (List Bool) → (List Int) → (List Bool) → Int → Int → Option ((List Bool) × (List Int) × Int)) (l8 : (List Bool)) (gl29 : (List Bool)) (gx30 : Int) : Option ((List Bool) × (List Int) × Int) :=
  bind1 (idx gl29 gx30) fun x15 => if x15 = true then bind1 (idx gl29 gx30) fun x17 => bind1 (upd gl29 gx30 false) fun l18 => bind1 (i64 (gx30 + 1)) fun x19 => bind1 (modW x19 a0) fun x20 => go2 l18 x20 else m68_pool_Clock_K5 gl15 x3 a0 gx19 go1 l8 gl29 gx30
def m68_pool_Clock_L2 (a0 : Int) (gl15 : (List Int)) (x3 : Int) (gx19 : Int) (go1 : (List Bool) → (List Int) → (List Bool) → Int → Int → Option ((List Bool) × (List Int) × Int)) (l8 : (List Bool)) : Nat → (List Bool) → Int → Option ((List Bool) × (List Int) × Int)
  | 0, _, _ => none
  | n + 1, gl29, gx30 => m68_pool_Clock_L2B (m68_pool_Clock_L2 a0 gl15 x3 gx19 go1 l8 n) a0 gl15 x3 gx19 go1 l8 gl29 gx30
def m68_pool_Clock_K4 (a0 : Int) (gl15 : (List Int)) (x3 : Int) (gx19 : Int) (go1 : (List Bool) → (List Int) → (List Bool) → Int → Int → Option ((List Bool) × (List Int) × Int)) (l8 : (List Bool)) (gl17 : (List Bool)) (gx18 : Int) : Option ((List Bool) × (List Int) × Int) :=
  m68_pool_Clock_L2 a0 gl15 x3 gx19 go1 l8 big gl17 gx18
def m68_pool_Clock_L1B (go1 : (List Bool) → (List Int) → (List Bool) → Int → Int → Option ((List Bool) × (List Int) × Int)) (a1 : (List Int)) (a0 : Int) (gl13 : (List Bool)) (gl15 : (List Int)) (gl17 : (List Bool)) (gx18 : Int) (gx19 : Int) : Option ((List Bool) × (List Int) × Int) :=
  if gx19 < (a1.length : Int) then bind1 (idx a1 gx19) fun x3 => bind1 (m121_slices_Index_int gl15 x3) fun x4 => bind1 (app gl13 ([decide (0 ≤ x4)])) fun l8 => if 0 ≤ x4 then bind1 (idx gl17 x4) fun x22 => bind1 (upd gl17 x4 true) fun l23 => m68_pool_Clock_K3 gx19 go1 l8 gl15 l23 gx18 else if (gl15.length : Int) < a0 then bind1 (app gl15 ([x3])) fun l27 => bind1 (app gl17 ([true])) fun l30 => m68_pool_Clock_K3 gx19 go1 l8 l27 l30 gx18 else m68_pool_Clock_K4 a0 gl15 x3 gx19 go1 l8 gl17 gx18 else m68_pool_Clock_K2 gl13 gl15
def m68_pool_Clock_L1 (a1 : (List Int)) (a0 : Int) : Nat → (List Bool) → (List Int) → (List Bool) → Int → Int → Option ((List Bool) × (List Int) × Int)
  | 0, _, _, _, _, _ => none
  | n + 1, gl13, gl15, gl17, gx18, gx19 => m68_pool_Clock_L1B (m68_pool_Clock_L1 a1 a0 n) a1 a0 gl13 gl15 gl17 gx18 gx19
def m68_pool_Clock_K1 (a1 : (List Int)) (a0 : Int) : Option ((List Bool) × (List Int) × Int) :=
  m68_pool_Clock_L1 a1 a0 big [] [] [] 0 0
def m68_pool_Clock (a0 : Int) (a1 : (List Int)) : Option ((List Bool) × (List Int) × Int) :=
  bind1 (m64_pool_Check a0 a1) fun x31 => if x31 ≠ 0 then some ([], [], x31) else m68_pool_Clock_K1 a1 a0
def m69_quirref_Clock_K2 (gl5 : (List Bool)) (gl7 : (List Int)) : Option ((List Bool) × (List Int)) :=
  some (gl5, gl7)
def m69_quirref_Clock_L1B (go1 : (List Int) → Int → Option ((List Bool) × (List Int))) (gl2 : (List TframeOf)) (gl5 : (List Bool)) (gl9 : (List Int)) (gx10 : Int) : Option ((List Bool) × (List Int)) :=
  if gx10 < (gl2.length : Int) then bind1 (idx gl2 gx10) fun x2 => bind1 (app gl9 ([x2.page_])) fun l5 => bind1 (i64 (gx10 + 1)) fun x6 => go1 l5 x6 else m69_quirref_Clock_K2 gl5 gl9
def m69_quirref_Clock_L1 (gl2 : (List TframeOf)) (gl5 : (List Bool)) : Nat → (List Int) → Int → Option ((List Bool) × (List Int))
  | 0, _, _ => none
  | n + 1, gl9, gx10 => m69_quirref_Clock_L1B (m69_quirref_Clock_L1 gl2 gl5 n) gl2 gl5 gl9 gx10
def m69_quirref_Clock_K1 (gl2 : (List TframeOf)) (gl5 : (List Bool)) : Option ((List Bool) × (List Int)) :=
  m69_quirref_Clock_L1 gl2 gl5 big [] 0
def m69_quirref_Clock_K3 (gx23 : Int) (go2 : (List TframeOf) → (List Bool) → Int → Int → Option ((List Bool) × (List Int))) (gl25 : (List TframeOf)) (gl28 : (List Bool)) (gx29 : Int) : Option ((List Bool) × (List Int)) :=
  bind1 (i64 (gx23 + 1)) fun x8 => go2 gl25 gl28 gx29 x8
def m69_quirref_Clock_K7 (a0 : Int) (x9 : Int) (gx23 : Int) (go2 : (List TframeOf) → (List Bool) → Int → Int → Option ((List Bool) × (List Int))) (l13 : (List Bool)) (gl31 : (List TframeOf)) (gx32 : Int) : Option ((List Bool) × (List Int)) :=
  bind1 (modW gx32 a0) fun x20 => bind1 (idx gl31 x20) fun x21 => bind1 (upd gl31 x20 (⟨x9, true⟩ : TframeOf)) fun l22 => bind1 (i64 (gx32 + 1)) fun x23 => m69_quirref_Clock_K3 gx23 go2 l22 l13 x23
def m69_quirref_Clock_L3B (go3 : (List TframeOf) → Int → Option ((List Bool) × (List Int))) (a0 : Int) (x9 : Int) (gx23 : Int) (go2 : (List TframeOf) → (List Bool) → Int → Int → Option ((List Bool) × (List Int))) (l13 : (List Bool)) (gl33 : (List TframeOf)) (gx34 : Int) : Option ((List Bool) × (List Int)) :=
  bind1 (modW gx34 a0) fun x24 => bind1 (idx gl33 x24) fun x25 => if x25.mark_ = true then bind1 (modW gx34 a0) fun x27 => bind1 (idx gl33 x27) fun x28 => bind1 (upd gl33 x27 (⟨x28.page_, false⟩ : TframeOf)) fun l29 => bind1 (i64 (gx34 + 1)) fun x30 => go3 l29 x30 else m69_quirref_Clock_K7 a0 x9 gx23 go2 l13 gl33 gx34
def m69_quirref_Clock_L3 (a0 : Int) (x9 : Int) (gx23 : Int) (go2 : (List TframeOf) → (List Bool) → Int → Int → Option ((List Bool) × (List Int))) (l13 : (List Bool)) : Nat → (List TframeOf) → Int → Option ((List Bool) × (List Int))
  | 0, _, _ => none
  | n + 1, gl33, gx34 => m69_quirref_Clock_L3B (m69_quirref_Clock_L3 a0 x9 gx23 go2 l13 n) a0 x9 gx23 go2 l13 gl33 gx34
def m69_quirref_Clock_K6 (a0 : Int) (x9 : Int) (gx23 : Int) (go2 : (List TframeOf) → (List Bool) → Int → Int → Option ((List Bool) × (List Int))) (l13 : (List Bool)) (gl18 : (List TframeOf)) (gx22 : Int) : Option ((List Bool) × (List Int)) :=
  m69_quirref_Clock_L3 a0 x9 gx23 go2 l13 big gl18 gx22
def m69_quirref_Clock_K5 (gl18 : (List TframeOf)) (a0 : Int) (x9 : Int) (gx23 : Int) (go2 : (List TframeOf) → (List Bool) → Int → Int → Option ((List Bool) × (List Int))) (l13 : (List Bool)) (gx22 : Int) : Option ((List Bool) × (List Int)) :=
  if (gl18.length : Int) < a0 then bind1 (app gl18 [(⟨x9, true⟩ : TframeOf)]) fun l36 => m69_quirref_Clock_K3 gx23 go2 l36 l13 gx22 else m69_quirref_Clock_K6 a0 x9 gx23 go2 l13 gl18 gx22
def m69_quirref_Clock_K4 (gl21 : (List Bool)) (gl18 : (List TframeOf)) (gx23 : Int) (go2 : (List TframeOf) → (List Bool) → Int → Int → Option ((List Bool) × (List Int))) (gx22 : Int) (a0 : Int) (x9 : Int) (gx30 : Int) : Option ((List Bool) × (List Int)) :=
  bind1 (app gl21 ([decide (0 ≤ gx30)])) fun l13 => if 0 ≤ gx30 then bind1 (idx gl18 gx30) fun x38 => bind1 (upd gl18 gx30 (⟨x38.page_, true⟩ : TframeOf)) fun l39 => m69_quirref_Clock_K3 gx23 go2 l39 l13 gx22 else m69_quirref_Clock_K5 gl18 a0 x9 gx23 go2 l13 gx22
def m69_quirref_Clock_K8 (gl21 : (List Bool)) (gl18 : (List TframeOf)) (gx23 : Int) (go2 : (List TframeOf) → (List Bool) → Int → Int → Option ((List Bool) × (List Int))) (gx22 : Int) (a0 : Int) (x9 : Int) : Option ((List Bool) × (List Int)) :=
  m69_quirref_Clock_K4 gl21 gl18 gx23 go2 gx22 a0 x9 (-1)
def m69_quirref_Clock_K9 (x41 : TframeOf) (x9 : Int) (gl21 : (List Bool)) (gl18 : (List TframeOf)) (gx23 : Int) (go2 : (List TframeOf) → (List Bool) → Int → Int → Option ((List Bool) × (List Int))) (gx22 : Int) (a0 : Int) (gx35 : Int) (go4 : Int → Option ((List Bool) × (List Int))) : Option ((List Bool) × (List Int)) :=
  if (decide (x41.page_ = x9)) = true then m69_quirref_Clock_K4 gl21 gl18 gx23 go2 gx22 a0 x9 gx35 else bind1 (i64 (gx35 + 1)) fun x42 => go4 x42
def m69_quirref_Clock_L4B (go4 : Int → Option ((List Bool) × (List Int))) (gl18 : (List TframeOf)) (x9 : Int) (gl21 : (List Bool)) (gx23 : Int) (go2 : (List TframeOf) → (List Bool) → Int → Int → Option ((List Bool) × (List Int))) (gx22 : Int) (a0 : Int) (gx35 : Int) : Option ((List Bool) × (List Int)) :=
  if gx35 < (gl18.length : Int) then bind1 (idx gl18 gx35) fun x41 => m69_quirref_Clock_K9 x41 x9 gl21 gl18 gx23 go2 gx22 a0 gx35 go4 else m69_quirref_Clock_K8 gl21 gl18 gx23 go2 gx22 a0 x9
def m69_quirref_Clock_L4 (gl18 : (List TframeOf)) (x9 : Int) (gl21 : (List Bool)) (gx23 : Int) (go2 : (List TframeOf) → (List Bool) → Int → Int → Option ((List Bool) × (List Int))) (gx22 : Int) (a0 : Int) : Nat → Int → Option ((List Bool) × (List Int))
  | 0, _ => none
  | n + 1, gx35 => m69_quirref_Clock_L4B (m69_quirref_Clock_L4 gl18 x9 gl21 gx23 go2 gx22 a0 n) gl18 x9 gl21 gx23 go2 gx22 a0 gx35
def m69_quirref_Clock_L2B (go2 : (List TframeOf) → (List Bool) → Int → Int → Option ((List Bool) × (List Int))) (a1 : (List Int)) (a0 : Int) (gl18 : (List TframeOf)) (gl21 : (List Bool)) (gx22 : Int) (gx23 : Int) : Option ((List Bool) × (List Int)) :=
  if gx23 < (a1.length : Int) then bind1 (idx a1 gx23) fun x9 => m69_quirref_Clock_L4 gl18 x9 gl21 gx23 go2 gx22 a0 big 0 else m69_quirref_Clock_K1 gl18 gl21
def m69_quirref_Clock_L2 (a1 : (List Int)) (a0 : Int) : Nat → (List TframeOf) → (List Bool) → Int → Int → Option ((List Bool) × (List Int))
  | 0, _, _, _, _ => none
  | n + 1, gl18, gl21, gx22, gx23 => m69_quirref_Clock_L2B (m69_quirref_Clock_L2 a1 a0 n) a1 a0 gl18 gl21 gx22 gx23
def m69_quirref_Clock (a0 : Int) (a1 : (List Int)) : Option ((List Bool) × (List Int)) :=
  m69_quirref_Clock_L2 a1 a0 big [] [] 0 0
def m70_quirref_Pool_K2 (gl2 : (List Bool)) (gl5 : (List Int)) : Option ((List Bool) × (List Int)) :=
  some (gl2, gl5)
def m70_quirref_Pool_K3 (gx8 : Int) (go1 : (List Int) → Int → Option ((List Bool) × (List Int))) (gl10 : (List Int)) : Option ((List Bool) × (List Int)) :=
  bind1 (i64 (gx8 + 1)) fun x3 => go1 gl10 x3
def m70_quirref_Pool_L2B (go2 : (List Int) → (List (Int × Int)) → Option ((List Bool) × (List Int))) (gx8 : Int) (go1 : (List Int) → Int → Option ((List Bool) × (List Int))) (gl12 : (List Int)) (gl13 : (List (Int × Int))) : Option ((List Bool) × (List Int)) :=
  nxtM gl13 (m70_quirref_Pool_K3 gx8 go1 gl12) fun x5 x6 l7 => if x6 = gx8 then bind1 (app gl12 ([x5])) fun l11 => go2 l11 l7 else go2 gl12 l7
def m70_quirref_Pool_L2 (gx8 : Int) (go1 : (List Int) → Int → Option ((List Bool) × (List Int))) : Nat → (List Int) → (List (Int × Int)) → Option ((List Bool) × (List Int))
  | 0, _, _ => none
  | n + 1, gl12, gl13 => m70_quirref_Pool_L2B (m70_quirref_Pool_L2 gx8 go1 n) gx8 go1 gl12 gl13
def m70_quirref_Pool_L1B (go1 : (List Int) → Int → Option ((List Bool) × (List Int))) (a2 : (List Int)) (gl3 : (List (Int × Int))) (gl2 : (List Bool)) (gl7 : (List Int)) (gx8 : Int) : Option ((List Bool) × (List Int)) :=
  if gx8 < (a2.length : Int) then m70_quirref_Pool_L2 gx8 go1 big gl7 gl3 else m70_quirref_Pool_K2 gl2 gl7
def m70_quirref_Pool_L1 (a2 : (List Int)) (gl3 : (List (Int × Int))) (gl2 : (List Bool)) : Nat → (List Int) → Int → Option ((List Bool) × (List Int))
  | 0, _, _ => none
  | n + 1, gl7, gx8 => m70_quirref_Pool_L1B (m70_quirref_Pool_L1 a2 gl3 gl2 n) a2 gl3 gl2 gl7 gx8
def m70_quirref_Pool_K1 (a2 : (List Int)) (gl2 : (List Bool)) (gl3 : (List (Int × Int))) : Option ((List Bool) × (List Int)) :=
  m70_quirref_Pool_L1 a2 gl3 gl2 big [] 0
def m70_quirref_Pool_K4 (gx16 : Int) (go3 : (List Bool) → Int → (List (Int × Int)) → Option ((List Bool) × (List Int))) (gl19 : (List Bool)) (gl20 : (List (Int × Int))) : Option ((List Bool) × (List Int)) :=
  bind1 (i64 (gx16 + 1)) fun x13 => go3 gl19 x13 gl20
def m70_quirref_Pool_K6 (gl17 : (List (Int × Int))) (x14 : Int) (gx16 : Int) (go3 : (List Bool) → Int → (List (Int × Int)) → Option ((List Bool) × (List Int))) (l17 : (List Bool)) (gx22 : Int) : Option ((List Bool) × (List Int)) :=
  bind1 (some (mset (mdel gl17 gx22) x14 gx16)) fun l19 => m70_quirref_Pool_K4 gx16 go3 l17 (mset (mdel gl17 gx22) x14 gx16)
def m70_quirref_Pool_K7 (gl17 : (List (Int × Int))) (x14 : Int) (gx16 : Int) (go3 : (List Bool) → Int → (List (Int × Int)) → Option ((List Bool) × (List Int))) (l17 : (List Bool)) (gx23 : Int) : Option ((List Bool) × (List Int)) :=
  m70_quirref_Pool_K6 gl17 x14 gx16 go3 l17 gx23
def m70_quirref_Pool_K10 (gl28 : (List Int)) (gl27 : (List Int)) (go4 : Int → Bool → (List (Int × Int)) → (List Int) → Option ((List Bool) × (List Int))) (x24 : Int) (l26 : (List (Int × Int))) (gx24 : Int) (gb25 : Bool) (gb30 : Bool) : Option ((List Bool) × (List Int)) :=
  if gb30 = true then bind1 (arrN 2 gl28) fun _ => bind1 (arrN 2 gl27) fun _ => bind1 (arrN 2 gl28) fun _ => go4 x24 false l26 gl28 else go4 gx24 gb25 l26 gl27
def m70_quirref_Pool_K9 (gl28 : (List Int)) (gl27 : (List Int)) (go4 : Int → Bool → (List (Int × Int)) → (List Int) → Option ((List Bool) × (List Int))) (x24 : Int) (l26 : (List (Int × Int))) (gx24 : Int) (gb25 : Bool) (gb29 : Bool) : Option ((List Bool) × (List Int)) :=
  if gb29 = true then bind1 (arrN 2 gl28) fun _ => bind1 (arrN 2 gl27) fun _ => bind1 (arrN 2 gl28) fun _ => go4 x24 false l26 gl28 else bind1 (idxA 2 gl28 0) fun x36 => bind1 (idxA 2 gl27 0) fun x37 => if x36 = x37 then bind1 (idxA 2 gl28 1) fun x39 => bind1 (idxA 2 gl27 1) fun x40 => if x39 < x40 then m70_quirref_Pool_K10 gl28 gl27 go4 x24 l26 gx24 gb25 true else m70_quirref_Pool_K10 gl28 gl27 go4 x24 l26 gx24 gb25 false else m70_quirref_Pool_K10 gl28 gl27 go4 x24 l26 gx24 gb25 false
def m70_quirref_Pool_K8 (gb25 : Bool) (gl27 : (List Int)) (go4 : Int → Bool → (List (Int × Int)) → (List Int) → Option ((List Bool) × (List Int))) (x24 : Int) (l26 : (List (Int × Int))) (gx24 : Int) (gl28 : (List Int)) : Option ((List Bool) × (List Int)) :=
  if gb25 = true then m70_quirref_Pool_K9 gl28 gl27 go4 x24 l26 gx24 gb25 true else bind1 (idxA 2 gl28 0) fun x49 => bind1 (idxA 2 gl27 0) fun x50 => if x49 < x50 then m70_quirref_Pool_K9 gl28 gl27 go4 x24 l26 gx24 gb25 true else m70_quirref_Pool_K9 gl28 gl27 go4 x24 l26 gx24 gb25 false
def m70_quirref_Pool_L4B (go4 : Int → Bool → (List (Int × Int)) → (List Int) → Option ((List Bool) × (List Int))) (gl17 : (List (Int × Int))) (x14 : Int) (gx16 : Int) (go3 : (List Bool) → Int → (List (Int × Int)) → Option ((List Bool) × (List Int))) (l17 : (List Bool)) (a0 : Int) (a2 : (List Int)) (gx24 : Int) (gb25 : Bool) (gl26 : (List (Int × Int))) (gl27 : (List Int)) : Option ((List Bool) × (List Int)) :=
  nxtM gl26 (m70_quirref_Pool_K7 gl17 x14 gx16 go3 l17 gx24) fun x24 x25 l26 => bind1 (arrN 2 (List.replicate 2 (0 : Int))) fun _ => bind1 (arrN 2 ([0, x25] : List Int)) fun _ => if a0 = 2 then bind1 (i64 (gx16 - (a2.length : Int))) fun x53 => bind1 (idxA 2 ([0, x25] : List Int) 0) fun x54 => bind1 (upd ([0, x25] : List Int) 0 x53) fun l55 => bind1 (cut a2 gx16 a2.length) fun l56 => bind1 (m121_slices_Index_int l56 x24) fun x57 => if 0 ≤ x57 then bind1 (idxA 2 l55 0) fun x60 => bind1 (upd l55 0 (IntKind.wrap .i64 (-x57))) fun l61 => m70_quirref_Pool_K8 gb25 gl27 go4 x24 l26 gx24 l61 else m70_quirref_Pool_K8 gb25 gl27 go4 x24 l26 gx24 l55 else m70_quirref_Pool_K8 gb25 gl27 go4 x24 l26 gx24 ([0, x25] : List Int)
def m70_quirref_Pool_L4 (gl17 : (List (Int × Int))) (x14 : Int) (gx16 : Int) (go3 : (List Bool) → Int → (List (Int × Int)) → Option ((List Bool) × (List Int))) (l17 : (List Bool)) (a0 : Int) (a2 : (List Int)) : Nat → Int → Bool → (List (Int × Int)) → (List Int) → Option ((List Bool) × (List Int))
  | 0, _, _, _, _ => none
  | n + 1, gx24, gb25, gl26, gl27 => m70_quirref_Pool_L4B (m70_quirref_Pool_L4 gl17 x14 gx16 go3 l17 a0 a2 n) gl17 x14 gx16 go3 l17 a0 a2 gx24 gb25 gl26 gl27
def m70_quirref_Pool_K5 (gl15 : (List Bool)) (a0 : Int) (gl17 : (List (Int × Int))) (x14 : Int) (gx16 : Int) (go3 : (List Bool) → Int → (List (Int × Int)) → Option ((List Bool) × (List Int))) (a1 : Int) (a2 : (List Int)) (gb21 : Bool) : Option ((List Bool) × (List Int)) :=
  if gb21 = true then bind1 (app gl15 ([true])) fun l65 => if a0 = 1 then bind1 (some (mset gl17 x14 gx16)) fun l67 => m70_quirref_Pool_K4 gx16 go3 l65 (mset gl17 x14 gx16) else m70_quirref_Pool_K4 gx16 go3 l65 gl17 else bind1 (app gl15 ([false])) fun l17 => if (gl17.length : Int) = a1 then bind1 (arrN 2 (List.replicate 2 (0 : Int))) fun _ => bind1 (arrN 2 (List.replicate 2 (0 : Int))) fun _ => m70_quirref_Pool_L4 gl17 x14 gx16 go3 l17 a0 a2 big (-1) true gl17 (List.replicate 2 (0 : Int)) else bind1 (some (mset gl17 x14 gx16)) fun l62 => m70_quirref_Pool_K4 gx16 go3 l17 (mset gl17 x14 gx16)
def m70_quirref_Pool_L3B (go3 : (List Bool) → Int → (List (Int × Int)) → Option ((List Bool) × (List Int))) (a2 : (List Int)) (a0 : Int) (a1 : Int) (gl15 : (List Bool)) (gx16 : Int) (gl17 : (List (Int × Int))) : Option ((List Bool) × (List Int)) :=
  if gx16 < (a2.length : Int) then bind1 (idx a2 gx16) fun x14 => if (mhas gl17 x14) = true then m70_quirref_Pool_K5 gl15 a0 gl17 x14 gx16 go3 a1 a2 true else m70_quirref_Pool_K5 gl15 a0 gl17 x14 gx16 go3 a1 a2 false else m70_quirref_Pool_K1 a2 gl15 gl17
def m70_quirref_Pool_L3 (a2 : (List Int)) (a0 : Int) (a1 : Int) : Nat → (List Bool) → Int → (List (Int × Int)) → Option ((List Bool) × (List Int))
  | 0, _, _, _ => none
  | n + 1, gl15, gx16, gl17 => m70_quirref_Pool_L3B (m70_quirref_Pool_L3 a2 a0 a1 n) a2 a0 a1 gl15 gx16 gl17
def m70_quirref_Pool (a0 : Int) (a1 : Int) (a2 : (List Int)) : Option ((List Bool) × (List Int)) :=
  m70_quirref_Pool_L3 a2 a0 a1 big [] 0 []
def m42_slices_Equal_bool_K2 : Option Bool :=
  some true
def m42_slices_Equal_bool_L1B (go1 : Int → Option Bool) (a0 : (List Bool)) (a1 : (List Bool)) (gx1 : Int) : Option Bool :=
  if gx1 < (a0.length : Int) then bind1 (idx a0 gx1) fun x2 => bind1 (idx a1 gx1) fun x3 => if (!(x2 == x3)) = true then some false else bind1 (i64 (gx1 + 1)) fun x5 => go1 x5 else m42_slices_Equal_bool_K2
def m42_slices_Equal_bool_L1 (a0 : (List Bool)) (a1 : (List Bool)) : Nat → Int → Option Bool
  | 0, _ => none
  | n + 1, gx1 => m42_slices_Equal_bool_L1B (m42_slices_Equal_bool_L1 a0 a1 n) a0 a1 gx1
def m42_slices_Equal_bool_K1 (a0 : (List Bool)) (a1 : (List Bool)) : Option Bool :=
  m42_slices_Equal_bool_L1 a0 a1 big 0
def m42_slices_Equal_bool (a0 : (List Bool)) (a1 : (List Bool)) : Option Bool :=
  if (a0.length : Int) ≠ (a1.length : Int) then some false else m42_slices_Equal_bool_K1 a0 a1
def m71_slices_Equal_int_K2 : Option Bool :=
  some true
def m71_slices_Equal_int_L1B (go1 : Int → Option Bool) (a0 : (List Int)) (a1 : (List Int)) (gx1 : Int) : Option Bool :=
  if gx1 < (a0.length : Int) then bind1 (idx a0 gx1) fun x2 => bind1 (idx a1 gx1) fun x3 => if x2 ≠ x3 then some false else bind1 (i64 (gx1 + 1)) fun x5 => go1 x5 else m71_slices_Equal_int_K2
def m71_slices_Equal_int_L1 (a0 : (List Int)) (a1 : (List Int)) : Nat → Int → Option Bool
  | 0, _ => none
  | n + 1, gx1 => m71_slices_Equal_int_L1B (m71_slices_Equal_int_L1 a0 a1 n) a0 a1 gx1
def m71_slices_Equal_int_K1 (a0 : (List Int)) (a1 : (List Int)) : Option Bool :=
  m71_slices_Equal_int_L1 a0 a1 big 0
def m71_slices_Equal_int (a0 : (List Int)) (a1 : (List Int)) : Option Bool :=
  if (a0.length : Int) ≠ (a1.length : Int) then some false else m71_slices_Equal_int_K1 a0 a1
def m11_quirlaw_PoolSays_fx (x : Int) (a0 : Int) (a1 : (List Int)) : Option ((List Bool) × (List Int) × Int) :=
  if x = 65 then m65_pool_Fifo a0 a1 else if x = 66 then m66_pool_Lru a0 a1 else if x = 67 then m67_pool_Best a0 a1 else if x = 68 then m68_pool_Clock a0 a1 else none
def m11_quirlaw_PoolSays_K3 : Option Bool :=
  some true
def m11_quirlaw_PoolSays_K6 (x14 : Int) (go1 : (List (Int × Int)) → Option Bool) (l9 : (List (Int × Int))) (gb7 : Bool) : Option Bool :=
  if gb7 = true then some false else if x14 ≠ 0 then some false else go1 l9
def m11_quirlaw_PoolSays_K5 (l10 : (List Bool)) (l12 : (List Int)) (x14 : Int) (go1 : (List (Int × Int)) → Option Bool) (l9 : (List (Int × Int))) (gl4 : (List Bool)) (gl6 : (List Int)) : Option Bool :=
  bind1 (m42_slices_Equal_bool l10 gl4) fun b22 => if b22 = true then bind1 (m71_slices_Equal_int l12 gl6) fun b24 => if b24 = true then m11_quirlaw_PoolSays_K6 x14 go1 l9 false else m11_quirlaw_PoolSays_K6 x14 go1 l9 true else m11_quirlaw_PoolSays_K6 x14 go1 l9 true
def m11_quirlaw_PoolSays_K4 (a0 : Int) (a1 : (List Int)) (x7 : Int) (l10 : (List Bool)) (l12 : (List Int)) (x14 : Int) (go1 : (List (Int × Int)) → Option Bool) (l9 : (List (Int × Int))) : Option Bool :=
  bind2 (m69_quirref_Clock a0 a1) fun l16 l18 => if x7 < 3 then bind2 (m70_quirref_Pool x7 a0 a1) fun l27 l29 => m11_quirlaw_PoolSays_K5 l10 l12 x14 go1 l9 l27 l29 else m11_quirlaw_PoolSays_K5 l10 l12 x14 go1 l9 l16 l18
def m11_quirlaw_PoolSays_L1B (go1 : (List (Int × Int)) → Option Bool) (a0 : Int) (a1 : (List Int)) (gx1 : Int) (gl2 : (List (Int × Int))) : Option Bool :=
  nxtM gl2 (m11_quirlaw_PoolSays_K3) fun x7 x8 l9 => bind3 (m11_quirlaw_PoolSays_fx x8 a0 a1) fun l10 l12 x14 => if gx1 ≠ 0 then bind1 (i64 ((l10.length : Int) + (l12.length : Int))) fun x33 => if 0 < x33 then some false else if x14 ≠ gx1 then some false else go1 l9 else m11_quirlaw_PoolSays_K4 a0 a1 x7 l10 l12 x14 go1 l9
def m11_quirlaw_PoolSays_L1 (a0 : Int) (a1 : (List Int)) (gx1 : Int) : Nat → (List (Int × Int)) → Option Bool
  | 0, _ => none
  | n + 1, gl2 => m11_quirlaw_PoolSays_L1B (m11_quirlaw_PoolSays_L1 a0 a1 gx1 n) a0 a1 gx1 gl2
def m11_quirlaw_PoolSays_K2 (a0 : Int) (a1 : (List Int)) (gx1 : Int) : Option Bool :=
  bind1 (some (mset [] 0 (65 : Int))) fun l2 => bind1 (some (mset (mset [] 0 (65 : Int)) 1 (66 : Int))) fun l3 => bind1 (some (mset (mset (mset [] 0 (65 : Int)) 1 (66 : Int)) 2 (67 : Int))) fun l4 => bind1 (some (mset (mset (mset (mset [] 0 (65 : Int)) 1 (66 : Int)) 2 (67 : Int)) 3 (68 : Int))) fun l5 => m11_quirlaw_PoolSays_L1 a0 a1 gx1 big (mset (mset (mset (mset [] 0 (65 : Int)) 1 (66 : Int)) 2 (67 : Int)) 3 (68 : Int))
def m11_quirlaw_PoolSays_K1 (a0 : Int) (a1 : (List Int)) (gx1 : Int) : Option Bool :=
  bind1 (m64_pool_Check a0 a1) fun x36 => if x36 ≠ gx1 then some false else m11_quirlaw_PoolSays_K2 a0 a1 gx1
def m11_quirlaw_PoolSays (a0 : Int) (a1 : (List Int)) : Option Bool :=
  if a0 < 1 then m11_quirlaw_PoolSays_K1 a0 a1 1 else if 50 < a0 then m11_quirlaw_PoolSays_K1 a0 a1 1 else if 2000 < (a1.length : Int) then m11_quirlaw_PoolSays_K1 a0 a1 2 else m11_quirlaw_PoolSays_K1 a0 a1 0
end Go.Proofs.Ytfmgjigdebofaaa
