/-
  Models, printed by a program of mine.
  Conditions: none.
-/
import Derived.Test.YtgkdimboofglfaaFz
namespace Go.Proofs.Ytgkdimboofglfaa
open Go.S
set_option linter.unusedVariables false
structure TLock where
  Tx : Int
  Mode : Int
  deriving DecidableEq, Inhabited
def TLock.row (x : TLock) : List Value := [.int .i64 x.Tx, .int .i64 x.Mode]
structure TLockItem where
  Item : Int
  Held : (List TLock)
  Queue : (List TLock)
  deriving DecidableEq, Inhabited
def TLockItem.rowv (x : TLockItem) (vs : List Value) : List Value := [.int .i64 x.Item, gv vs 0, gv vs 1]
def TLockItem.sds (x : TLockItem) (vs : List Value) : List Sd := [⟨gv vs 0, 55, 2, x.Held.map TLock.row⟩, ⟨gv vs 1, 55, 2, x.Queue.map TLock.row⟩]
structure TEdge where
  From : Int
  To : Int
  deriving DecidableEq, Inhabited
def TEdge.row (x : TEdge) : List Value := [.int .i64 x.From, .int .i64 x.To]
structure TOp where
  Tx : Int
  Kind : Int
  Item : Int
  deriving DecidableEq, Inhabited
def TOp.row (x : TOp) : List Value := [.int .i64 x.Tx, .int .i64 x.Kind, .int .i64 x.Item]
def m37_quirref_holds_K1 : Option Int :=
  some 0
def m37_quirref_holds_L1B (go1 : Int → Option Int) (a0 : (List TLock)) (a1 : Int) (gx1 : Int) : Option Int :=
  if gx1 < (a0.length : Int) then bind1 (idx a0 gx1) fun x2 => if x2.Tx = a1 then some x2.Mode else bind1 (i64 (gx1 + 1)) fun x5 => go1 x5 else m37_quirref_holds_K1
def m37_quirref_holds_L1 (a0 : (List TLock)) (a1 : Int) : Nat → Int → Option Int
  | 0, _ => none
  | n + 1, gx1 => m37_quirref_holds_L1B (m37_quirref_holds_L1 a0 a1 n) a0 a1 gx1
def m37_quirref_holds (a0 : (List TLock)) (a1 : Int) : Option Int :=
  m37_quirref_holds_L1 a0 a1 big 0
def m38_quirref_Fits (a0 : Int) (a1 : Int) : Option Bool :=
  if (min a0 a1) = 1 then some (decide ((max a0 a1) ≠ 5)) else if (min a0 a1) = 2 then some (decide ((max a0 a1) = 2)) else if (min a0 a1) = 3 then some (decide ((max a0 a1) = 3)) else some false
def m54_quirref_Join_K1 (gx1 : Int) : Option Int :=
  some gx1
def m54_quirref_Join_K3 (gx4 : Int) (go1 : Int → Int → Option Int) (gx5 : Int) : Option Int :=
  bind1 (i64 (gx4 - 1)) fun x1 => go1 gx5 x1
def m54_quirref_Join_K4 (gx4 : Int) (go1 : Int → Int → Option Int) (gx3 : Int) (gb6 : Bool) : Option Int :=
  if gb6 = true then m54_quirref_Join_K3 gx4 go1 gx4 else m54_quirref_Join_K3 gx4 go1 gx3
def m54_quirref_Join_K6 (gx8 : Int) (go2 : Bool → Int → Option Int) (gb9 : Bool) : Option Int :=
  if gb9 = true then bind1 (i64 (gx8 + 1)) fun x3 => go2 true x3 else bind1 (i64 (gx8 + 1)) fun x2 => go2 false x2
def m54_quirref_Join_K5 (gb7 : Bool) (gx4 : Int) (gx8 : Int) (a0 : Int) (a1 : Int) (go2 : Bool → Int → Option Int) : Option Int :=
  if gb7 = true then bind1 (m38_quirref_Fits gx4 gx8) fun b5 => if b5 = true then bind1 (m38_quirref_Fits a0 gx8) fun b7 => if b7 = true then bind1 (m38_quirref_Fits a1 gx8) fun b9 => if b9 = true then m54_quirref_Join_K6 gx8 go2 true else m54_quirref_Join_K6 gx8 go2 false else m54_quirref_Join_K6 gx8 go2 false else m54_quirref_Join_K6 gx8 go2 true else m54_quirref_Join_K6 gx8 go2 false
def m54_quirref_Join_L2B (go2 : Bool → Int → Option Int) (gx4 : Int) (a0 : Int) (a1 : Int) (go1 : Int → Int → Option Int) (gx3 : Int) (gb7 : Bool) (gx8 : Int) : Option Int :=
  if gx8 ≤ 5 then m54_quirref_Join_K5 gb7 gx4 gx8 a0 a1 go2 else m54_quirref_Join_K4 gx4 go1 gx3 gb7
def m54_quirref_Join_L2 (gx4 : Int) (a0 : Int) (a1 : Int) (go1 : Int → Int → Option Int) (gx3 : Int) : Nat → Bool → Int → Option Int
  | 0, _, _ => none
  | n + 1, gb7, gx8 => m54_quirref_Join_L2B (m54_quirref_Join_L2 gx4 a0 a1 go1 gx3 n) gx4 a0 a1 go1 gx3 gb7 gx8
def m54_quirref_Join_K2 (gx4 : Int) (a0 : Int) (a1 : Int) (go1 : Int → Int → Option Int) (gx3 : Int) : Option Int :=
  m54_quirref_Join_L2 gx4 a0 a1 go1 gx3 big true 1
def m54_quirref_Join_L1B (go1 : Int → Int → Option Int) (a0 : Int) (a1 : Int) (gx3 : Int) (gx4 : Int) : Option Int :=
  if 1 ≤ gx4 then m54_quirref_Join_K2 gx4 a0 a1 go1 gx3 else m54_quirref_Join_K1 gx3
def m54_quirref_Join_L1 (a0 : Int) (a1 : Int) : Nat → Int → Int → Option Int
  | 0, _, _ => none
  | n + 1, gx3, gx4 => m54_quirref_Join_L1B (m54_quirref_Join_L1 a0 a1 n) a0 a1 gx3 gx4
def m54_quirref_Join (a0 : Int) (a1 : Int) : Option Int :=
  m54_quirref_Join_L1 a0 a1 big 5 5
def m39_quirref_wish (a0 : TLockItem) (a1 : TLock) : Option Int :=
  bind1 (m37_quirref_holds a0.Held a1.Tx) fun x3 => if 0 < x3 then bind1 (m54_quirref_Join x3 a1.Mode) fun x6 => some x6 else some a1.Mode
def m41_quirref_can_K1 : Option Bool :=
  some true
def m41_quirref_can_L1B (go1 : Int → Option Bool) (a0 : TLockItem) (a1 : TLock) (gx1 : Int) : Option Bool :=
  if gx1 < (a0.Held.length : Int) then bind1 (idx a0.Held gx1) fun x4 => if x4.Tx ≠ a1.Tx then bind1 (m39_quirref_wish a0 a1) fun x7 => bind1 (m38_quirref_Fits x7 x4.Mode) fun b9 => if b9 = true then bind1 (i64 (gx1 + 1)) fun x11 => go1 x11 else some false else bind1 (i64 (gx1 + 1)) fun x12 => go1 x12 else m41_quirref_can_K1
def m41_quirref_can_L1 (a0 : TLockItem) (a1 : TLock) : Nat → Int → Option Bool
  | 0, _ => none
  | n + 1, gx1 => m41_quirref_can_L1B (m41_quirref_can_L1 a0 a1 n) a0 a1 gx1
def m41_quirref_can (a0 : TLockItem) (a1 : TLock) : Option Bool :=
  m41_quirref_can_L1 a0 a1 big 0
def m17_quirref_lineErr_K2 (a0 : TLockItem) : Option Bool :=
  if 0 < (a0.Queue.length : Int) then bind1 (idx a0.Queue 0) fun x3 => bind1 (m41_quirref_can a0 x3) fun b4 => some b4 else some false
def m17_quirref_lineErr_K3 (gx1 : Int) (go1 : Int → Option Bool) : Option Bool :=
  bind1 (i64 (gx1 + 1)) fun x7 => go1 x7
def m17_quirref_lineErr_L2B (go2 : Int → Option Bool) (l10 : (List TLock)) (x8 : TLock) (gx1 : Int) (go1 : Int → Option Bool) (gx2 : Int) : Option Bool :=
  if gx2 < (l10.length : Int) then bind1 (idx l10 gx2) fun x12 => bind1 (m38_quirref_Fits x8.Mode x12.Mode) fun b14 => if b14 = true then bind1 (i64 (gx2 + 1)) fun x16 => go2 x16 else some true else m17_quirref_lineErr_K3 gx1 go1
def m17_quirref_lineErr_L2 (l10 : (List TLock)) (x8 : TLock) (gx1 : Int) (go1 : Int → Option Bool) : Nat → Int → Option Bool
  | 0, _ => none
  | n + 1, gx2 => m17_quirref_lineErr_L2B (m17_quirref_lineErr_L2 l10 x8 gx1 go1 n) l10 x8 gx1 go1 gx2
def m17_quirref_lineErr_L1B (go1 : Int → Option Bool) (a0 : TLockItem) (gx1 : Int) : Option Bool :=
  if gx1 < (a0.Held.length : Int) then bind1 (idx a0.Held gx1) fun x8 => bind1 (cut a0.Held 0 gx1) fun l10 => m17_quirref_lineErr_L2 l10 x8 gx1 go1 big 0 else m17_quirref_lineErr_K2 a0
def m17_quirref_lineErr_L1 (a0 : TLockItem) : Nat → Int → Option Bool
  | 0, _ => none
  | n + 1, gx1 => m17_quirref_lineErr_L1B (m17_quirref_lineErr_L1 a0 n) a0 gx1
def m17_quirref_lineErr_K1 (a0 : TLockItem) : Option Bool :=
  m17_quirref_lineErr_L1 a0 big 0
def m17_quirref_lineErr_K4 (gx7 : Int) (go3 : Int → Option Bool) : Option Bool :=
  bind1 (i64 (gx7 + 1)) fun x20 => go3 x20
def m17_quirref_lineErr_K6 (x21 : (List TLock)) (gx14 : Int) (x23 : TLock) (go4 : Int → Option Bool) (gb20 : Bool) : Option Bool :=
  if gb20 = true then some true else bind1 (cut x21 0 gx14) fun l25 => bind1 (m37_quirref_holds l25 x23.Tx) fun x26 => if 0 < x26 then some true else bind1 (i64 (gx14 + 1)) fun x29 => go4 x29
def m17_quirref_lineErr_K5 (x23 : TLock) (x21 : (List TLock)) (gx14 : Int) (go4 : Int → Option Bool) (gb17 : Bool) : Option Bool :=
  if gb17 = true then some true else if x23.Mode < 1 then m17_quirref_lineErr_K6 x21 gx14 x23 go4 true else if 5 < x23.Mode then m17_quirref_lineErr_K6 x21 gx14 x23 go4 true else m17_quirref_lineErr_K6 x21 gx14 x23 go4 false
def m17_quirref_lineErr_L4B (go4 : Int → Option Bool) (x21 : (List TLock)) (gx7 : Int) (go3 : Int → Option Bool) (gx14 : Int) : Option Bool :=
  if gx14 < (x21.length : Int) then bind1 (idx x21 gx14) fun x23 => if x23.Tx < 0 then m17_quirref_lineErr_K5 x23 x21 gx14 go4 true else if 11 < x23.Tx then m17_quirref_lineErr_K5 x23 x21 gx14 go4 true else m17_quirref_lineErr_K5 x23 x21 gx14 go4 false else m17_quirref_lineErr_K4 gx7 go3
def m17_quirref_lineErr_L4 (x21 : (List TLock)) (gx7 : Int) (go3 : Int → Option Bool) : Nat → Int → Option Bool
  | 0, _ => none
  | n + 1, gx14 => m17_quirref_lineErr_L4B (m17_quirref_lineErr_L4 x21 gx7 go3 n) x21 gx7 go3 gx14
def m17_quirref_lineErr_L3B (go3 : Int → Option Bool) (a0 : TLockItem) (gx7 : Int) : Option Bool :=
  if gx7 < (([a0.Held, a0.Queue]).length : Int) then bind1 (idx ([a0.Held, a0.Queue]) gx7) fun x21 => m17_quirref_lineErr_L4 x21 gx7 go3 big 0 else m17_quirref_lineErr_K1 a0
def m17_quirref_lineErr_L3 (a0 : TLockItem) : Nat → Int → Option Bool
  | 0, _ => none
  | n + 1, gx7 => m17_quirref_lineErr_L3B (m17_quirref_lineErr_L3 a0 n) a0 gx7
def m17_quirref_lineErr (a0 : TLockItem) : Option Bool :=
  m17_quirref_lineErr_L3 a0 big 0
def m5_quirref_LocksErr_K2 : Option Int :=
  some 0
def m5_quirref_LocksErr_K4 (x2 : TLockItem) (gx1 : Int) (go1 : Int → Option Int) (gb2 : Bool) : Option Int :=
  if gb2 = true then some 4 else if (x2.Held.length : Int) = 0 then some 4 else bind1 (m17_quirref_lineErr x2) fun b5 => if b5 = true then some 4 else bind1 (i64 (gx1 + 1)) fun x7 => go1 x7
def m5_quirref_LocksErr_K3 (gx1 : Int) (a0 : (List TLockItem)) (x2 : TLockItem) (go1 : Int → Option Int) : Option Int :=
  if 0 < gx1 then bind1 (i64 (gx1 - 1)) fun x9 => bind1 (idx a0 x9) fun x10 => if x2.Item ≤ x10.Item then m5_quirref_LocksErr_K4 x2 gx1 go1 true else m5_quirref_LocksErr_K4 x2 gx1 go1 false else m5_quirref_LocksErr_K4 x2 gx1 go1 false
def m5_quirref_LocksErr_L1B (go1 : Int → Option Int) (a0 : (List TLockItem)) (gx1 : Int) : Option Int :=
  if gx1 < (a0.length : Int) then bind1 (idx a0 gx1) fun x2 => if x2.Item < 0 then some 1 else if 19 < x2.Item then some 1 else m5_quirref_LocksErr_K3 gx1 a0 x2 go1 else m5_quirref_LocksErr_K2
def m5_quirref_LocksErr_L1 (a0 : (List TLockItem)) : Nat → Int → Option Int
  | 0, _ => none
  | n + 1, gx1 => m5_quirref_LocksErr_L1B (m5_quirref_LocksErr_L1 a0 n) a0 gx1
def m5_quirref_LocksErr_K1 (a0 : (List TLockItem)) : Option Int :=
  m5_quirref_LocksErr_L1 a0 big 0
def m5_quirref_LocksErr (a0 : (List TLockItem)) : Option Int :=
  if 20 < (a0.length : Int) then some 2 else m5_quirref_LocksErr_K1 a0
def m18_lock_isMode (a0 : Int) : Option Bool :=
  if 1 ≤ a0 then some (decide (a0 ≤ 5)) else some false
def m33_lock_fits (a0 : Int) : Option Int :=
  if a0 = 1 then some 30 else if a0 = 2 then some 6 else if a0 = 3 then some 10 else if a0 = 4 then some 2 else some 0
def m53_lock_Join_K1 (a0 : Int) (a1 : Int) : Option (Int × Int) :=
  if (min a0 a1) = 2 then if (max a0 a1) = 3 then some (4, 0) else some ((max a0 a1), 0) else some ((max a0 a1), 0)
def m53_lock_Join (a0 : Int) (a1 : Int) : Option (Int × Int) :=
  bind1 (m18_lock_isMode a0) fun b3 => if b3 = true then bind1 (m18_lock_isMode a1) fun b5 => if b5 = true then m53_lock_Join_K1 a0 a1 else some (0, 1) else some (0, 1)
def m32_lock_wish_K1 (a1 : TLock) : Option Int :=
  some a1.Mode
def m32_lock_wish_L1B (go1 : Int → Option Int) (a0 : TLockItem) (a1 : TLock) (gx1 : Int) : Option Int :=
  if gx1 < (a0.Held.length : Int) then bind1 (idx a0.Held gx1) fun x4 => if x4.Tx = a1.Tx then bind2 (m53_lock_Join x4.Mode a1.Mode) fun x7 x8 => some x7 else bind1 (i64 (gx1 + 1)) fun x10 => go1 x10 else m32_lock_wish_K1 a1
def m32_lock_wish_L1 (a0 : TLockItem) (a1 : TLock) : Nat → Int → Option Int
  | 0, _ => none
  | n + 1, gx1 => m32_lock_wish_L1B (m32_lock_wish_L1 a0 a1 n) a0 a1 gx1
def m32_lock_wish (a0 : TLockItem) (a1 : TLock) : Option Int :=
  m32_lock_wish_L1 a0 a1 big 0
def m26_lock_can_K1 (gb1 : Bool) : Option Bool :=
  some (!gb1)
def m26_lock_can_K2 (gx2 : Int) : Option Bool :=
  m26_lock_can_K1 (decide (0 ≤ gx2))
def m26_lock_can_K3 : Option Bool :=
  m26_lock_can_K2 (-1)
def m26_lock_can_K4 (gx3 : Int) (go1 : Int → Option Bool) (gb4 : Bool) : Option Bool :=
  if gb4 = true then m26_lock_can_K2 gx3 else bind1 (i64 (gx3 + 1)) fun x8 => go1 x8
def m26_lock_can_L1B (go1 : Int → Option Bool) (a0 : TLockItem) (a1 : TLock) (x3 : Int) (gx3 : Int) : Option Bool :=
  if gx3 < (a0.Held.length : Int) then bind1 (idx a0.Held gx3) fun x7 => if x7.Tx ≠ a1.Tx then bind1 (m33_lock_fits x3) fun x11 => bind1 (shrW .i64 x11 x7.Mode) fun x13 => m26_lock_can_K4 gx3 go1 (decide ((Go.bits .and .i64 x13 1) = 0)) else m26_lock_can_K4 gx3 go1 false else m26_lock_can_K3
def m26_lock_can_L1 (a0 : TLockItem) (a1 : TLock) (x3 : Int) : Nat → Int → Option Bool
  | 0, _ => none
  | n + 1, gx3 => m26_lock_can_L1B (m26_lock_can_L1 a0 a1 x3 n) a0 a1 x3 gx3
def m26_lock_can (a0 : TLockItem) (a1 : TLock) : Option Bool :=
  bind1 (m32_lock_wish a0 a1) fun x3 => m26_lock_can_L1 a0 a1 x3 big 0
def m34_lock_line_K3 (a0 : TLockItem) : Option Int :=
  if 0 < (a0.Queue.length : Int) then bind1 (idx a0.Queue 0) fun x5 => bind1 (m26_lock_can a0 x5) fun b6 => if b6 = true then some 4 else some 0 else some 0
def m34_lock_line_K4 (x9 : TLock) (gl2 : (List Int)) (gx1 : Int) (go1 : Int → (List Int) → Option Int) (gb3 : Bool) : Option Int :=
  if gb3 = true then some 4 else bind1 (m18_lock_isMode x9.Mode) fun b11 => if b11 = true then bind1 (idxA 12 gl2 x9.Tx) fun x13 => if 0 < x13 then some 4 else bind1 (idxA 12 gl2 x9.Tx) fun x15 => bind1 (upd gl2 x9.Tx x9.Mode) fun l16 => bind1 (i64 (gx1 + 1)) fun x17 => go1 x17 l16 else some 4
def m34_lock_line_L1B (go1 : Int → (List Int) → Option Int) (a0 : TLockItem) (gx1 : Int) (gl2 : (List Int)) : Option Int :=
  if gx1 < (a0.Queue.length : Int) then bind1 (idx a0.Queue gx1) fun x9 => if x9.Tx < 0 then m34_lock_line_K4 x9 gl2 gx1 go1 true else if 12 ≤ x9.Tx then m34_lock_line_K4 x9 gl2 gx1 go1 true else m34_lock_line_K4 x9 gl2 gx1 go1 false else m34_lock_line_K3 a0
def m34_lock_line_L1 (a0 : TLockItem) : Nat → Int → (List Int) → Option Int
  | 0, _, _ => none
  | n + 1, gx1, gl2 => m34_lock_line_L1B (m34_lock_line_L1 a0 n) a0 gx1 gl2
def m34_lock_line_K2 (a0 : TLockItem) : Option Int :=
  m34_lock_line_L1 a0 big 0 (List.replicate 12 (0 : Int))
def m34_lock_line_K5 (gx4 : Int) (go2 : Int → Option Int) : Option Int :=
  bind1 (i64 (gx4 + 1)) fun x21 => go2 x21
def m34_lock_line_L3B (go3 : Int → Option Int) (l25 : (List TLock)) (x22 : TLock) (gx4 : Int) (go2 : Int → Option Int) (gx5 : Int) : Option Int :=
  if gx5 < (l25.length : Int) then bind1 (idx l25 gx5) fun x27 => bind1 (m33_lock_fits x22.Mode) fun x29 => bind1 (shrW .i64 x29 x27.Mode) fun x31 => if (Go.bits .and .i64 x31 1) = 0 then some 4 else bind1 (i64 (gx5 + 1)) fun x33 => go3 x33 else m34_lock_line_K5 gx4 go2
def m34_lock_line_L3 (l25 : (List TLock)) (x22 : TLock) (gx4 : Int) (go2 : Int → Option Int) : Nat → Int → Option Int
  | 0, _ => none
  | n + 1, gx5 => m34_lock_line_L3B (m34_lock_line_L3 l25 x22 gx4 go2 n) l25 x22 gx4 go2 gx5
def m34_lock_line_L2B (go2 : Int → Option Int) (a0 : TLockItem) (gx4 : Int) : Option Int :=
  if gx4 < (a0.Held.length : Int) then bind1 (idx a0.Held gx4) fun x22 => bind1 (i64 (gx4 + 1)) fun x24 => bind1 (cut a0.Held x24 a0.Held.length) fun l25 => m34_lock_line_L3 l25 x22 gx4 go2 big 0 else m34_lock_line_K2 a0
def m34_lock_line_L2 (a0 : TLockItem) : Nat → Int → Option Int
  | 0, _ => none
  | n + 1, gx4 => m34_lock_line_L2B (m34_lock_line_L2 a0 n) a0 gx4
def m34_lock_line_K1 (a0 : TLockItem) : Option Int :=
  m34_lock_line_L2 a0 big 0
def m34_lock_line_K6 (x35 : TLock) (gl7 : (List Int)) (gx6 : Int) (go4 : Int → (List Int) → Option Int) (gb8 : Bool) : Option Int :=
  if gb8 = true then some 4 else bind1 (m18_lock_isMode x35.Mode) fun b37 => if b37 = true then bind1 (idxA 12 gl7 x35.Tx) fun x39 => if 0 < x39 then some 4 else bind1 (idxA 12 gl7 x35.Tx) fun x41 => bind1 (upd gl7 x35.Tx x35.Mode) fun l42 => bind1 (i64 (gx6 + 1)) fun x43 => go4 x43 l42 else some 4
def m34_lock_line_L4B (go4 : Int → (List Int) → Option Int) (a0 : TLockItem) (gx6 : Int) (gl7 : (List Int)) : Option Int :=
  if gx6 < (a0.Held.length : Int) then bind1 (idx a0.Held gx6) fun x35 => if x35.Tx < 0 then m34_lock_line_K6 x35 gl7 gx6 go4 true else if 12 ≤ x35.Tx then m34_lock_line_K6 x35 gl7 gx6 go4 true else m34_lock_line_K6 x35 gl7 gx6 go4 false else m34_lock_line_K1 a0
def m34_lock_line_L4 (a0 : TLockItem) : Nat → Int → (List Int) → Option Int
  | 0, _, _ => none
  | n + 1, gx6, gl7 => m34_lock_line_L4B (m34_lock_line_L4 a0 n) a0 gx6 gl7
def m34_lock_line (a0 : TLockItem) : Option Int :=
  m34_lock_line_L4 a0 big 0 (List.replicate 12 (0 : Int))
def m9_lock_Check_K2 : Option Int :=
  some 0
def m9_lock_Check_K4 (x2 : TLockItem) (gx1 : Int) (go1 : Int → Option Int) (gb2 : Bool) : Option Int :=
  if gb2 = true then some 4 else if (x2.Held.length : Int) = 0 then some 4 else bind1 (m34_lock_line x2) fun x5 => if x5 ≠ 0 then some x5 else bind1 (i64 (gx1 + 1)) fun x8 => go1 x8
def m9_lock_Check_K3 (gx1 : Int) (a0 : (List TLockItem)) (x2 : TLockItem) (go1 : Int → Option Int) : Option Int :=
  if 0 < gx1 then bind1 (i64 (gx1 - 1)) fun x10 => bind1 (idx a0 x10) fun x11 => if x2.Item ≤ x11.Item then m9_lock_Check_K4 x2 gx1 go1 true else m9_lock_Check_K4 x2 gx1 go1 false else m9_lock_Check_K4 x2 gx1 go1 false
def m9_lock_Check_L1B (go1 : Int → Option Int) (a0 : (List TLockItem)) (gx1 : Int) : Option Int :=
  if gx1 < (a0.length : Int) then bind1 (idx a0 gx1) fun x2 => if x2.Item < 0 then some 1 else if 20 ≤ x2.Item then some 1 else m9_lock_Check_K3 gx1 a0 x2 go1 else m9_lock_Check_K2
def m9_lock_Check_L1 (a0 : (List TLockItem)) : Nat → Int → Option Int
  | 0, _ => none
  | n + 1, gx1 => m9_lock_Check_L1B (m9_lock_Check_L1 a0 n) a0 gx1
def m9_lock_Check_K1 (a0 : (List TLockItem)) : Option Int :=
  m9_lock_Check_L1 a0 big 0
def m9_lock_Check (a0 : (List TLockItem)) : Option Int :=
  if 20 < (a0.length : Int) then some 2 else m9_lock_Check_K1 a0
def m47_api_Lock (a0 : (List TLock)) : Option (List TLock) :=
  bind1 (app [] a0) fun l3 => some l3
def m21_lock_copied_K1 (gl2 : (List TLockItem)) : Option (List TLockItem) :=
  some gl2
def m21_lock_copied_L1B (go1 : (List TLockItem) → Int → Option (List TLockItem)) (a0 : (List TLockItem)) (gl5 : (List TLockItem)) (gx7 : Int) : Option (List TLockItem) :=
  if gx7 < (a0.length : Int) then bind1 (idx a0 gx7) fun x2 => bind1 (m47_api_Lock x2.Held) fun l53 => bind1 (m47_api_Lock x2.Queue) fun l56 => bind1 (app gl5 ([(⟨x2.Item, l53, l56⟩ : TLockItem)])) fun l61 => bind1 (i64 (gx7 + 1)) fun x64 => go1 l61 x64 else m21_lock_copied_K1 gl5
def m21_lock_copied_L1 (a0 : (List TLockItem)) : Nat → (List TLockItem) → Int → Option (List TLockItem)
  | 0, _, _ => none
  | n + 1, gl5, gx7 => m21_lock_copied_L1B (m21_lock_copied_L1 a0 n) a0 gl5 gx7
def m21_lock_copied (a0 : (List TLockItem)) : Option (List TLockItem) :=
  m21_lock_copied_L1 a0 big [] 0
def m23_lock_Ask_2 (a0 : TLockItem) (a1 : Int) : Option Int :=
  bind1 (i64 (a0.Item - a1)) fun x2 => some x2
def m6_lock_Ask_K7 (l42 : (List TLockItem)) : Option ((List TLockItem) × Bool × Int) :=
  some (l42, false, 0)
def m6_lock_Ask_K6 (x24 : TLockItem) (a1 : Int) (a3 : Int) (l2 : (List TLockItem)) (gx1 : Int) : Option ((List TLockItem) × Bool × Int) :=
  bind1 (app x24.Queue ([(⟨a1, a3⟩ : TLock)])) fun l41 => bind1 (upd l2 gx1 (⟨x24.Item, x24.Held, l41⟩ : TLockItem)) fun l42 => m6_lock_Ask_K7 l42
def m6_lock_Ask_K8 (gl4 : (List TLockItem)) : Option ((List TLockItem) × Bool × Int) :=
  some (gl4, true, 0)
def m6_lock_Ask_K9 (x24 : TLockItem) (a1 : Int) (x60 : Int) (l2 : (List TLockItem)) (gx1 : Int) : Option ((List TLockItem) × Bool × Int) :=
  bind1 (app x24.Held ([(⟨a1, x60⟩ : TLock)])) fun l77 => bind1 (upd l2 gx1 (⟨x24.Item, l77, x24.Queue⟩ : TLockItem)) fun l78 => m6_lock_Ask_K8 l78
def m6_lock_Ask_L1B (go1 : Int → Option ((List TLockItem) × Bool × Int)) (x24 : TLockItem) (a1 : Int) (x60 : Int) (l2 : (List TLockItem)) (gx1 : Int) (gx6 : Int) : Option ((List TLockItem) × Bool × Int) :=
  if gx6 < (x24.Held.length : Int) then bind1 (idx x24.Held gx6) fun x81 => if x81.Tx = a1 then bind1 (idx x24.Held gx6) fun x83 => bind1 (upd x24.Held gx6 (⟨x83.Tx, x60⟩ : TLock)) fun l84 => bind1 (upd l2 gx1 (⟨x24.Item, l84, x24.Queue⟩ : TLockItem)) fun l85 => m6_lock_Ask_K8 l85 else bind1 (i64 (gx6 + 1)) fun x86 => go1 x86 else m6_lock_Ask_K9 x24 a1 x60 l2 gx1
def m6_lock_Ask_L1 (x24 : TLockItem) (a1 : Int) (x60 : Int) (l2 : (List TLockItem)) (gx1 : Int) : Nat → Int → Option ((List TLockItem) × Bool × Int)
  | 0, _ => none
  | n + 1, gx6 => m6_lock_Ask_L1B (m6_lock_Ask_L1 x24 a1 x60 l2 gx1 n) x24 a1 x60 l2 gx1 gx6
def m6_lock_Ask_K11 (gl7 : (List TLockItem)) : Option ((List TLockItem) × Bool × Int) :=
  some (gl7, false, 0)
def m6_lock_Ask_K12 (l103 : (List TLockItem)) (gx1 : Int) (a1 : Int) (a3 : Int) (gx9 : Int) : Option ((List TLockItem) × Bool × Int) :=
  bind1 (idx l103 gx1) fun x134 => bind1 (i64 ((x134.Queue.length : Int) - 1)) fun x135 => bind1 (cut x134.Queue 0 x135) fun l136 => bind1 (xInsR l136 gx9 (⟨a1, a3⟩ : TLock)) fun l138 => bind1 (upd l103 gx1 (⟨x134.Item, x134.Held, l138⟩ : TLockItem)) fun l140 => m6_lock_Ask_K11 l140
def m6_lock_Ask_K13 (gx10 : Int) (go2 : Int → Option ((List TLockItem) × Bool × Int)) (l103 : (List TLockItem)) (gx1 : Int) (a1 : Int) (a3 : Int) (gb11 : Bool) : Option ((List TLockItem) × Bool × Int) :=
  if gb11 = true then bind1 (i64 (gx10 + 1)) fun x152 => go2 x152 else m6_lock_Ask_K12 l103 gx1 a1 a3 gx10
def m6_lock_Ask_K14 (gx10 : Int) (go2 : Int → Option ((List TLockItem) × Bool × Int)) (l103 : (List TLockItem)) (gx1 : Int) (a1 : Int) (a3 : Int) (gx12 : Int) : Option ((List TLockItem) × Bool × Int) :=
  m6_lock_Ask_K13 gx10 go2 l103 gx1 a1 a3 (decide (0 ≤ gx12))
def m6_lock_Ask_K15 (gx10 : Int) (go2 : Int → Option ((List TLockItem) × Bool × Int)) (l103 : (List TLockItem)) (gx1 : Int) (a1 : Int) (a3 : Int) : Option ((List TLockItem) × Bool × Int) :=
  m6_lock_Ask_K14 gx10 go2 l103 gx1 a1 a3 (-1)
def m6_lock_Ask_K16 (gx10 : Int) (go2 : Int → Option ((List TLockItem) × Bool × Int)) (l103 : (List TLockItem)) (gx1 : Int) (a1 : Int) (a3 : Int) (gx13 : Int) (go3 : Int → Option ((List TLockItem) × Bool × Int)) (gb14 : Bool) : Option ((List TLockItem) × Bool × Int) :=
  if gb14 = true then m6_lock_Ask_K14 gx10 go2 l103 gx1 a1 a3 gx13 else bind1 (i64 (gx13 + 1)) fun x155 => go3 x155
def m6_lock_Ask_L3B (go3 : Int → Option ((List TLockItem) × Bool × Int)) (x149 : TLockItem) (gx10 : Int) (go2 : Int → Option ((List TLockItem) × Bool × Int)) (l103 : (List TLockItem)) (gx1 : Int) (a1 : Int) (a3 : Int) (gx13 : Int) : Option ((List TLockItem) × Bool × Int) :=
  if gx13 < (x149.Held.length : Int) then bind1 (idx x149.Held gx13) fun x154 => bind1 (idx x149.Queue gx10) fun x157 => m6_lock_Ask_K16 gx10 go2 l103 gx1 a1 a3 gx13 go3 (decide (x154.Tx = x157.Tx)) else m6_lock_Ask_K15 gx10 go2 l103 gx1 a1 a3
def m6_lock_Ask_L3 (x149 : TLockItem) (gx10 : Int) (go2 : Int → Option ((List TLockItem) × Bool × Int)) (l103 : (List TLockItem)) (gx1 : Int) (a1 : Int) (a3 : Int) : Nat → Int → Option ((List TLockItem) × Bool × Int)
  | 0, _ => none
  | n + 1, gx13 => m6_lock_Ask_L3B (m6_lock_Ask_L3 x149 gx10 go2 l103 gx1 a1 a3 n) x149 gx10 go2 l103 gx1 a1 a3 gx13
def m6_lock_Ask_L2B (go2 : Int → Option ((List TLockItem) × Bool × Int)) (l103 : (List TLockItem)) (gx1 : Int) (a1 : Int) (a3 : Int) (gx10 : Int) : Option ((List TLockItem) × Bool × Int) :=
  bind1 (idx l103 gx1) fun x149 => bind1 (i64 ((x149.Queue.length : Int) - 1)) fun x150 => if gx10 < x150 then m6_lock_Ask_L3 x149 gx10 go2 l103 gx1 a1 a3 big 0 else m6_lock_Ask_K12 l103 gx1 a1 a3 gx10
def m6_lock_Ask_L2 (l103 : (List TLockItem)) (gx1 : Int) (a1 : Int) (a3 : Int) : Nat → Int → Option ((List TLockItem) × Bool × Int)
  | 0, _ => none
  | n + 1, gx10 => m6_lock_Ask_L2B (m6_lock_Ask_L2 l103 gx1 a1 a3 n) l103 gx1 a1 a3 gx10
def m6_lock_Ask_K10 (x24 : TLockItem) (a1 : Int) (a3 : Int) (l2 : (List TLockItem)) (gx1 : Int) : Option ((List TLockItem) × Bool × Int) :=
  bind1 (app x24.Queue ([(⟨a1, a3⟩ : TLock)])) fun l102 => bind1 (upd l2 gx1 (⟨x24.Item, x24.Held, l102⟩ : TLockItem)) fun l103 => m6_lock_Ask_L2 l103 gx1 a1 a3 big 0
def m6_lock_Ask_K17 (gl15 : (List TLockItem)) : Option ((List TLockItem) × Bool × Int) :=
  some (gl15, true, 0)
def m6_lock_Ask_K18 (x24 : TLockItem) (a1 : Int) (x167 : Int) (l2 : (List TLockItem)) (gx1 : Int) : Option ((List TLockItem) × Bool × Int) :=
  bind1 (app x24.Held ([(⟨a1, x167⟩ : TLock)])) fun l184 => bind1 (upd l2 gx1 (⟨x24.Item, l184, x24.Queue⟩ : TLockItem)) fun l185 => m6_lock_Ask_K17 l185
def m6_lock_Ask_L4B (go4 : Int → Option ((List TLockItem) × Bool × Int)) (x24 : TLockItem) (a1 : Int) (x167 : Int) (l2 : (List TLockItem)) (gx1 : Int) (gx17 : Int) : Option ((List TLockItem) × Bool × Int) :=
  if gx17 < (x24.Held.length : Int) then bind1 (idx x24.Held gx17) fun x188 => if x188.Tx = a1 then bind1 (idx x24.Held gx17) fun x190 => bind1 (upd x24.Held gx17 (⟨x190.Tx, x167⟩ : TLock)) fun l191 => bind1 (upd l2 gx1 (⟨x24.Item, l191, x24.Queue⟩ : TLockItem)) fun l192 => m6_lock_Ask_K17 l192 else bind1 (i64 (gx17 + 1)) fun x193 => go4 x193 else m6_lock_Ask_K18 x24 a1 x167 l2 gx1
def m6_lock_Ask_L4 (x24 : TLockItem) (a1 : Int) (x167 : Int) (l2 : (List TLockItem)) (gx1 : Int) : Nat → Int → Option ((List TLockItem) × Bool × Int)
  | 0, _ => none
  | n + 1, gx17 => m6_lock_Ask_L4B (m6_lock_Ask_L4 x24 a1 x167 l2 gx1 n) x24 a1 x167 l2 gx1 gx17
def m6_lock_Ask_K5 (x24 : TLockItem) (a1 : Int) (a3 : Int) (l2 : (List TLockItem)) (gx1 : Int) (gb3 : Bool) : Option ((List TLockItem) × Bool × Int) :=
  if gb3 = true then bind1 (m26_lock_can x24 (⟨a1, a3⟩ : TLock)) fun b158 => if b158 = true then bind1 (m32_lock_wish x24 (⟨a1, a3⟩ : TLock)) fun x167 => m6_lock_Ask_L4 x24 a1 x167 l2 gx1 big 0 else m6_lock_Ask_K10 x24 a1 a3 l2 gx1 else bind1 (m26_lock_can x24 (⟨a1, a3⟩ : TLock)) fun b50 => if b50 = true then if (x24.Queue.length : Int) = 0 then bind1 (m32_lock_wish x24 (⟨a1, a3⟩ : TLock)) fun x60 => m6_lock_Ask_L1 x24 a1 x60 l2 gx1 big 0 else m6_lock_Ask_K6 x24 a1 a3 l2 gx1 else m6_lock_Ask_K6 x24 a1 a3 l2 gx1
def m6_lock_Ask_K19 (x24 : TLockItem) (a1 : Int) (a3 : Int) (l2 : (List TLockItem)) (gx1 : Int) (gb18 : Bool) : Option ((List TLockItem) × Bool × Int) :=
  if gb18 = true then m6_lock_Ask_K5 x24 a1 a3 l2 gx1 true else m6_lock_Ask_K5 x24 a1 a3 l2 gx1 false
def m6_lock_Ask_K20 (x24 : TLockItem) (a1 : Int) (a3 : Int) (l2 : (List TLockItem)) (gx1 : Int) (gx19 : Int) : Option ((List TLockItem) × Bool × Int) :=
  m6_lock_Ask_K19 x24 a1 a3 l2 gx1 (decide (0 ≤ gx19))
def m6_lock_Ask_K21 (x24 : TLockItem) (a1 : Int) (a3 : Int) (l2 : (List TLockItem)) (gx1 : Int) : Option ((List TLockItem) × Bool × Int) :=
  m6_lock_Ask_K20 x24 a1 a3 l2 gx1 (-1)
def m6_lock_Ask_K22 (x195 : TLock) (a1 : Int) (x24 : TLockItem) (a3 : Int) (l2 : (List TLockItem)) (gx1 : Int) (gx20 : Int) (go5 : Int → Option ((List TLockItem) × Bool × Int)) : Option ((List TLockItem) × Bool × Int) :=
  if (decide (x195.Tx = a1)) = true then m6_lock_Ask_K20 x24 a1 a3 l2 gx1 gx20 else bind1 (i64 (gx20 + 1)) fun x196 => go5 x196
def m6_lock_Ask_L5B (go5 : Int → Option ((List TLockItem) × Bool × Int)) (x24 : TLockItem) (a1 : Int) (a3 : Int) (l2 : (List TLockItem)) (gx1 : Int) (gx20 : Int) : Option ((List TLockItem) × Bool × Int) :=
  if gx20 < (x24.Held.length : Int) then bind1 (idx x24.Held gx20) fun x195 => m6_lock_Ask_K22 x195 a1 x24 a3 l2 gx1 gx20 go5 else m6_lock_Ask_K21 x24 a1 a3 l2 gx1
def m6_lock_Ask_L5 (x24 : TLockItem) (a1 : Int) (a3 : Int) (l2 : (List TLockItem)) (gx1 : Int) : Nat → Int → Option ((List TLockItem) × Bool × Int)
  | 0, _ => none
  | n + 1, gx20 => m6_lock_Ask_L5B (m6_lock_Ask_L5 x24 a1 a3 l2 gx1 n) x24 a1 a3 l2 gx1 gx20
def m6_lock_Ask_K4 (l2 : (List TLockItem)) (a1 : Int) (a3 : Int) (a2 : Int) (gx1 : Int) (gb2 : Bool) : Option ((List TLockItem) × Bool × Int) :=
  if gb2 = true then bind1 (idx l2 gx1) fun x24 => m6_lock_Ask_L5 x24 a1 a3 l2 gx1 big 0 else bind1 (xInsR l2 gx1 (⟨a2, [(⟨a1, a3⟩ : TLock)], []⟩ : TLockItem)) fun l17 => some (l17, true, 0)
def m6_lock_Ask_K23 (l2 : (List TLockItem)) (a1 : Int) (a3 : Int) (a2 : Int) (gx21 : Int) (gb22 : Bool) : Option ((List TLockItem) × Bool × Int) :=
  if gb22 = true then m6_lock_Ask_K4 l2 a1 a3 a2 gx21 true else m6_lock_Ask_K4 l2 a1 a3 a2 gx21 false
def m6_lock_Ask_K25 (l2 : (List TLockItem)) (a1 : Int) (a3 : Int) (a2 : Int) (gx23 : Int) (gx24 : Int) : Option ((List TLockItem) × Bool × Int) :=
  m6_lock_Ask_K23 l2 a1 a3 a2 gx23 (decide (gx24 = 0))
def m6_lock_Ask_K24 (l2 : (List TLockItem)) (a2 : Int) (a1 : Int) (a3 : Int) (gx23 : Int) : Option ((List TLockItem) × Bool × Int) :=
  if gx23 < (l2.length : Int) then bind1 (idx l2 gx23) fun x200 => bind1 (i64 (x200.Item - a2)) fun x202 => m6_lock_Ask_K25 l2 a1 a3 a2 gx23 x202 else m6_lock_Ask_K23 l2 a1 a3 a2 gx23 false
def m6_lock_Ask_K27 (x204 : Int) (go6 : Int → Int → Option ((List TLockItem) × Bool × Int)) (gx26 : Int) (gx25 : Int) (gx27 : Int) : Option ((List TLockItem) × Bool × Int) :=
  if gx27 < 0 then bind1 (i64 ((IntKind.wrap .i64 x204) + 1)) fun x207 => go6 x207 gx26 else go6 gx25 (IntKind.wrap .i64 x204)
def m6_lock_Ask_K26 (gx25 : Int) (gx26 : Int) (l2 : (List TLockItem)) (a2 : Int) (go6 : Int → Int → Option ((List TLockItem) × Bool × Int)) : Option ((List TLockItem) × Bool × Int) :=
  bind1 (i64 (gx25 + gx26)) fun x203 => bind1 (shrW .u64 (IntKind.wrap .u64 x203) 1) fun x204 => bind1 (idx l2 (IntKind.wrap .i64 x204)) fun x205 => bind1 (i64 (x205.Item - a2)) fun x209 => m6_lock_Ask_K27 x204 go6 gx26 gx25 x209
def m6_lock_Ask_L6B (go6 : Int → Int → Option ((List TLockItem) × Bool × Int)) (l2 : (List TLockItem)) (a2 : Int) (a1 : Int) (a3 : Int) (gx25 : Int) (gx26 : Int) : Option ((List TLockItem) × Bool × Int) :=
  if gx25 < gx26 then m6_lock_Ask_K26 gx25 gx26 l2 a2 go6 else m6_lock_Ask_K24 l2 a2 a1 a3 gx25
def m6_lock_Ask_L6 (l2 : (List TLockItem)) (a2 : Int) (a1 : Int) (a3 : Int) : Nat → Int → Int → Option ((List TLockItem) × Bool × Int)
  | 0, _, _ => none
  | n + 1, gx25, gx26 => m6_lock_Ask_L6B (m6_lock_Ask_L6 l2 a2 a1 a3 n) l2 a2 a1 a3 gx25 gx26
def m6_lock_Ask_K3 (a0 : (List TLockItem)) (a2 : Int) (a1 : Int) (a3 : Int) : Option ((List TLockItem) × Bool × Int) :=
  bind1 (m21_lock_copied a0) fun l2 => m6_lock_Ask_L6 l2 a2 a1 a3 big 0 (l2.length : Int)
def m6_lock_Ask_K28 (gx28 : Int) (go7 : Int → Option ((List TLockItem) × Bool × Int)) (gb29 : Bool) : Option ((List TLockItem) × Bool × Int) :=
  if gb29 = true then some ([], false, 10) else bind1 (i64 (gx28 + 1)) fun x214 => go7 x214
def m6_lock_Ask_K29 (gx28 : Int) (go7 : Int → Option ((List TLockItem) × Bool × Int)) (gx30 : Int) : Option ((List TLockItem) × Bool × Int) :=
  m6_lock_Ask_K28 gx28 go7 (decide (0 ≤ gx30))
def m6_lock_Ask_K30 (gx28 : Int) (go7 : Int → Option ((List TLockItem) × Bool × Int)) : Option ((List TLockItem) × Bool × Int) :=
  m6_lock_Ask_K29 gx28 go7 (-1)
def m6_lock_Ask_K31 (x216 : TLock) (a1 : Int) (gx28 : Int) (go7 : Int → Option ((List TLockItem) × Bool × Int)) (gx31 : Int) (go8 : Int → Option ((List TLockItem) × Bool × Int)) : Option ((List TLockItem) × Bool × Int) :=
  if (decide (x216.Tx = a1)) = true then m6_lock_Ask_K29 gx28 go7 gx31 else bind1 (i64 (gx31 + 1)) fun x217 => go8 x217
def m6_lock_Ask_L8B (go8 : Int → Option ((List TLockItem) × Bool × Int)) (x212 : TLockItem) (a1 : Int) (gx28 : Int) (go7 : Int → Option ((List TLockItem) × Bool × Int)) (gx31 : Int) : Option ((List TLockItem) × Bool × Int) :=
  if gx31 < (x212.Queue.length : Int) then bind1 (idx x212.Queue gx31) fun x216 => m6_lock_Ask_K31 x216 a1 gx28 go7 gx31 go8 else m6_lock_Ask_K30 gx28 go7
def m6_lock_Ask_L8 (x212 : TLockItem) (a1 : Int) (gx28 : Int) (go7 : Int → Option ((List TLockItem) × Bool × Int)) : Nat → Int → Option ((List TLockItem) × Bool × Int)
  | 0, _ => none
  | n + 1, gx31 => m6_lock_Ask_L8B (m6_lock_Ask_L8 x212 a1 gx28 go7 n) x212 a1 gx28 go7 gx31
def m6_lock_Ask_L7B (go7 : Int → Option ((List TLockItem) × Bool × Int)) (a0 : (List TLockItem)) (a1 : Int) (a2 : Int) (a3 : Int) (gx28 : Int) : Option ((List TLockItem) × Bool × Int) :=
  if gx28 < (a0.length : Int) then bind1 (idx a0 gx28) fun x212 => m6_lock_Ask_L8 x212 a1 gx28 go7 big 0 else m6_lock_Ask_K3 a0 a2 a1 a3
def m6_lock_Ask_L7 (a0 : (List TLockItem)) (a1 : Int) (a2 : Int) (a3 : Int) : Nat → Int → Option ((List TLockItem) × Bool × Int)
  | 0, _ => none
  | n + 1, gx28 => m6_lock_Ask_L7B (m6_lock_Ask_L7 a0 a1 a2 a3 n) a0 a1 a2 a3 gx28
def m6_lock_Ask_K2 (a0 : (List TLockItem)) (a1 : Int) (a2 : Int) (a3 : Int) : Option ((List TLockItem) × Bool × Int) :=
  m6_lock_Ask_L7 a0 a1 a2 a3 big 0
def m6_lock_Ask_K33 (a3 : Int) (a0 : (List TLockItem)) (a1 : Int) (a2 : Int) (gb33 : Bool) : Option ((List TLockItem) × Bool × Int) :=
  if gb33 = true then some ([], false, 1) else bind1 (m18_lock_isMode a3) fun b219 => if b219 = true then m6_lock_Ask_K2 a0 a1 a2 a3 else some ([], false, 1)
def m6_lock_Ask_K32 (a2 : Int) (a3 : Int) (a0 : (List TLockItem)) (a1 : Int) (gb32 : Bool) : Option ((List TLockItem) × Bool × Int) :=
  if gb32 = true then some ([], false, 1) else if a2 < 0 then m6_lock_Ask_K33 a3 a0 a1 a2 true else if 20 ≤ a2 then m6_lock_Ask_K33 a3 a0 a1 a2 true else m6_lock_Ask_K33 a3 a0 a1 a2 false
def m6_lock_Ask_K1 (a1 : Int) (a2 : Int) (a3 : Int) (a0 : (List TLockItem)) : Option ((List TLockItem) × Bool × Int) :=
  if a1 < 0 then m6_lock_Ask_K32 a2 a3 a0 a1 true else if 12 ≤ a1 then m6_lock_Ask_K32 a2 a3 a0 a1 true else m6_lock_Ask_K32 a2 a3 a0 a1 false
def m6_lock_Ask (a0 : (List TLockItem)) (a1 : Int) (a2 : Int) (a3 : Int) : Option ((List TLockItem) × Bool × Int) :=
  bind1 (m9_lock_Check a0) fun x225 => if x225 ≠ 0 then some ([], false, x225) else m6_lock_Ask_K1 a1 a2 a3 a0
def m7_lock_Drop_K3 (gl3 : (List TLockItem)) (gl8 : (List Int)) : Option ((List TLockItem) × (List Int) × Int) :=
  some (gl3, gl8, 0)
def m7_lock_Drop_K4 (gx17 : Int) (go1 : (List TLockItem) → (List Int) → Int → Option ((List TLockItem) × (List Int) × Int)) (gl20 : (List TLockItem)) (gl25 : (List Int)) : Option ((List TLockItem) × (List Int) × Int) :=
  bind1 (i64 (gx17 + 1)) fun x13 => go1 gl20 gl25 x13
def m7_lock_Drop_K6 (gl11 : (List TLockItem)) (x14 : TLockItem) (gx17 : Int) (go1 : (List TLockItem) → (List Int) → Int → Option ((List TLockItem) × (List Int) × Int)) (gl36 : (List Int)) (gl38 : (List TLock)) (gl40 : (List TLock)) : Option ((List TLockItem) × (List Int) × Int) :=
  if 0 < (gl38.length : Int) then bind1 (app gl11 ([(⟨x14.Item, gl38, gl40⟩ : TLockItem)])) fun l23 => m7_lock_Drop_K4 gx17 go1 l23 gl36 else m7_lock_Drop_K4 gx17 go1 gl11 gl36
def m7_lock_Drop_K8 (gl63 : (List TLock)) (gl59 : (List Int)) (go2 : (List Int) → (List TLock) → (List TLock) → Option ((List TLockItem) × (List Int) × Int)) (gl71 : (List TLock)) : Option ((List TLockItem) × (List Int) × Int) :=
  bind1 (idx gl63 0) fun x28 => bind1 (app gl59 ([x28.Tx])) fun l31 => bind1 (cut gl63 1 gl63.length) fun l32 => go2 l31 gl71 l32
def m7_lock_Drop_K9 (gl61 : (List TLock)) (x27 : TLock) (x34 : Int) (gl63 : (List TLock)) (gl59 : (List Int)) (go2 : (List Int) → (List TLock) → (List TLock) → Option ((List TLockItem) × (List Int) × Int)) : Option ((List TLockItem) × (List Int) × Int) :=
  bind1 (app gl61 ([(⟨x27.Tx, x34⟩ : TLock)])) fun l44 => m7_lock_Drop_K8 gl63 gl59 go2 l44
def m7_lock_Drop_L3B (go3 : Int → Option ((List TLockItem) × (List Int) × Int)) (gl61 : (List TLock)) (x27 : TLock) (x34 : Int) (gl63 : (List TLock)) (gl59 : (List Int)) (go2 : (List Int) → (List TLock) → (List TLock) → Option ((List TLockItem) × (List Int) × Int)) (gx76 : Int) : Option ((List TLockItem) × (List Int) × Int) :=
  if gx76 < (gl61.length : Int) then bind1 (idx gl61 gx76) fun x46 => if x46.Tx = x27.Tx then bind1 (idx gl61 gx76) fun x48 => bind1 (upd gl61 gx76 (⟨x48.Tx, x34⟩ : TLock)) fun l49 => m7_lock_Drop_K8 gl63 gl59 go2 l49 else bind1 (i64 (gx76 + 1)) fun x50 => go3 x50 else m7_lock_Drop_K9 gl61 x27 x34 gl63 gl59 go2
def m7_lock_Drop_L3 (gl61 : (List TLock)) (x27 : TLock) (x34 : Int) (gl63 : (List TLock)) (gl59 : (List Int)) (go2 : (List Int) → (List TLock) → (List TLock) → Option ((List TLockItem) × (List Int) × Int)) : Nat → Int → Option ((List TLockItem) × (List Int) × Int)
  | 0, _ => none
  | n + 1, gx76 => m7_lock_Drop_L3B (m7_lock_Drop_L3 gl61 x27 x34 gl63 gl59 go2 n) gl61 x27 x34 gl63 gl59 go2 gx76
def m7_lock_Drop_K7 (gl63 : (List TLock)) (x14 : TLockItem) (gl61 : (List TLock)) (gl59 : (List Int)) (go2 : (List Int) → (List TLock) → (List TLock) → Option ((List TLockItem) × (List Int) × Int)) : Option ((List TLockItem) × (List Int) × Int) :=
  bind1 (idx gl63 0) fun x27 => bind1 (m32_lock_wish (⟨x14.Item, gl61, gl63⟩ : TLockItem) x27) fun x34 => m7_lock_Drop_L3 gl61 x27 x34 gl63 gl59 go2 big 0
def m7_lock_Drop_L2B (go2 : (List Int) → (List TLock) → (List TLock) → Option ((List TLockItem) × (List Int) × Int)) (x14 : TLockItem) (gl11 : (List TLockItem)) (gx17 : Int) (go1 : (List TLockItem) → (List Int) → Int → Option ((List TLockItem) × (List Int) × Int)) (gl59 : (List Int)) (gl61 : (List TLock)) (gl63 : (List TLock)) : Option ((List TLockItem) × (List Int) × Int) :=
  if 0 < (gl63.length : Int) then bind1 (idx gl63 0) fun x52 => bind1 (m26_lock_can (⟨x14.Item, gl61, gl63⟩ : TLockItem) x52) fun b53 => if b53 = true then m7_lock_Drop_K7 gl63 x14 gl61 gl59 go2 else m7_lock_Drop_K6 gl11 x14 gx17 go1 gl59 gl61 gl63 else m7_lock_Drop_K6 gl11 x14 gx17 go1 gl59 gl61 gl63
def m7_lock_Drop_L2 (x14 : TLockItem) (gl11 : (List TLockItem)) (gx17 : Int) (go1 : (List TLockItem) → (List Int) → Int → Option ((List TLockItem) × (List Int) × Int)) : Nat → (List Int) → (List TLock) → (List TLock) → Option ((List TLockItem) × (List Int) × Int)
  | 0, _, _, _ => none
  | n + 1, gl59, gl61, gl63 => m7_lock_Drop_L2B (m7_lock_Drop_L2 x14 gl11 gx17 go1 n) x14 gl11 gx17 go1 gl59 gl61 gl63
def m7_lock_Drop_K5 (x14 : TLockItem) (gl11 : (List TLockItem)) (gx17 : Int) (go1 : (List TLockItem) → (List Int) → Int → Option ((List TLockItem) × (List Int) × Int)) (gl16 : (List Int)) (gl29 : (List TLock)) (gl31 : (List TLock)) : Option ((List TLockItem) × (List Int) × Int) :=
  m7_lock_Drop_L2 x14 gl11 gx17 go1 big gl16 gl29 gl31
def m7_lock_Drop_K11 (x14 : TLockItem) (gl11 : (List TLockItem)) (gx17 : Int) (go1 : (List TLockItem) → (List Int) → Int → Option ((List TLockItem) × (List Int) × Int)) (gl16 : (List Int)) (gl106 : (List TLock)) (gl110 : (List TLock)) : Option ((List TLockItem) × (List Int) × Int) :=
  m7_lock_Drop_K5 x14 gl11 gx17 go1 gl16 gl106 gl110
def m7_lock_Drop_K14 (x14 : TLockItem) (gl11 : (List TLockItem)) (gx17 : Int) (go1 : (List TLockItem) → (List Int) → Int → Option ((List TLockItem) × (List Int) × Int)) (gl16 : (List Int)) (gl106 : (List TLock)) (gl116 : (List TLock)) (gx117 : Int) : Option ((List TLockItem) × (List Int) × Int) :=
  bind1 (cut gl116 gx117 gl116.length) fun l58 => bind1 (clr gl116 gx117 (⟨0, 0⟩ : TLock)) fun l59 => bind1 (cut l59 0 gx117) fun l60 => m7_lock_Drop_K11 x14 gl11 gx17 go1 gl16 gl106 l60
def m7_lock_Drop_K16 (x63 : TLock) (a1 : Int) (gl122 : (List TLock)) (gx123 : Int) (gx124 : Int) (go4 : (List TLock) → Int → Int → Option ((List TLockItem) × (List Int) × Int)) : Option ((List TLockItem) × (List Int) × Int) :=
  if (!(decide (x63.Tx = a1))) = true then bind1 (idx gl122 gx123) fun x66 => bind1 (upd gl122 gx123 x63) fun l67 => bind1 (i64 (gx123 + 1)) fun x68 => bind1 (i64 (gx124 + 1)) fun x69 => go4 l67 x68 x69 else bind1 (i64 (gx124 + 1)) fun x70 => go4 gl122 gx123 x70
def m7_lock_Drop_K15 (gl122 : (List TLock)) (gx124 : Int) (a1 : Int) (gx123 : Int) (go4 : (List TLock) → Int → Int → Option ((List TLockItem) × (List Int) × Int)) : Option ((List TLockItem) × (List Int) × Int) :=
  bind1 (idx gl122 gx124) fun x63 => m7_lock_Drop_K16 x63 a1 gl122 gx123 gx124 go4
def m7_lock_Drop_L4B (go4 : (List TLock) → Int → Int → Option ((List TLockItem) × (List Int) × Int)) (a1 : Int) (x14 : TLockItem) (gl11 : (List TLockItem)) (gx17 : Int) (go1 : (List TLockItem) → (List Int) → Int → Option ((List TLockItem) × (List Int) × Int)) (gl16 : (List Int)) (gl106 : (List TLock)) (gl122 : (List TLock)) (gx123 : Int) (gx124 : Int) : Option ((List TLockItem) × (List Int) × Int) :=
  if gx124 < (gl122.length : Int) then m7_lock_Drop_K15 gl122 gx124 a1 gx123 go4 else m7_lock_Drop_K14 x14 gl11 gx17 go1 gl16 gl106 gl122 gx123
def m7_lock_Drop_L4 (a1 : Int) (x14 : TLockItem) (gl11 : (List TLockItem)) (gx17 : Int) (go1 : (List TLockItem) → (List Int) → Int → Option ((List TLockItem) × (List Int) × Int)) (gl16 : (List Int)) (gl106 : (List TLock)) : Nat → (List TLock) → Int → Int → Option ((List TLockItem) × (List Int) × Int)
  | 0, _, _, _ => none
  | n + 1, gl122, gx123, gx124 => m7_lock_Drop_L4B (m7_lock_Drop_L4 a1 x14 gl11 gx17 go1 gl16 gl106 n) a1 x14 gl11 gx17 go1 gl16 gl106 gl122 gx123 gx124
def m7_lock_Drop_K13 (gx111 : Int) (a1 : Int) (x14 : TLockItem) (gl11 : (List TLockItem)) (gx17 : Int) (go1 : (List TLockItem) → (List Int) → Int → Option ((List TLockItem) × (List Int) × Int)) (gl16 : (List Int)) (gl106 : (List TLock)) : Option ((List TLockItem) × (List Int) × Int) :=
  bind1 (i64 (gx111 + 1)) fun x62 => m7_lock_Drop_L4 a1 x14 gl11 gx17 go1 gl16 gl106 big x14.Queue gx111 x62
def m7_lock_Drop_K12 (x14 : TLockItem) (gl11 : (List TLockItem)) (gx17 : Int) (go1 : (List TLockItem) → (List Int) → Int → Option ((List TLockItem) × (List Int) × Int)) (gl16 : (List Int)) (gl106 : (List TLock)) (a1 : Int) (gx111 : Int) : Option ((List TLockItem) × (List Int) × Int) :=
  if gx111 = (-1) then m7_lock_Drop_K11 x14 gl11 gx17 go1 gl16 gl106 x14.Queue else m7_lock_Drop_K13 gx111 a1 x14 gl11 gx17 go1 gl16 gl106
def m7_lock_Drop_K17 (x14 : TLockItem) (gl11 : (List TLockItem)) (gx17 : Int) (go1 : (List TLockItem) → (List Int) → Int → Option ((List TLockItem) × (List Int) × Int)) (gl16 : (List Int)) (gl106 : (List TLock)) (a1 : Int) : Option ((List TLockItem) × (List Int) × Int) :=
  m7_lock_Drop_K12 x14 gl11 gx17 go1 gl16 gl106 a1 (-1)
def m7_lock_Drop_K18 (x75 : TLock) (a1 : Int) (x14 : TLockItem) (gl11 : (List TLockItem)) (gx17 : Int) (go1 : (List TLockItem) → (List Int) → Int → Option ((List TLockItem) × (List Int) × Int)) (gl16 : (List Int)) (gl106 : (List TLock)) (gx135 : Int) (go5 : Int → Option ((List TLockItem) × (List Int) × Int)) : Option ((List TLockItem) × (List Int) × Int) :=
  if (decide (x75.Tx = a1)) = true then m7_lock_Drop_K12 x14 gl11 gx17 go1 gl16 gl106 a1 gx135 else bind1 (i64 (gx135 + 1)) fun x76 => go5 x76
def m7_lock_Drop_L5B (go5 : Int → Option ((List TLockItem) × (List Int) × Int)) (x14 : TLockItem) (a1 : Int) (gl11 : (List TLockItem)) (gx17 : Int) (go1 : (List TLockItem) → (List Int) → Int → Option ((List TLockItem) × (List Int) × Int)) (gl16 : (List Int)) (gl106 : (List TLock)) (gx135 : Int) : Option ((List TLockItem) × (List Int) × Int) :=
  if gx135 < (x14.Queue.length : Int) then bind1 (idx x14.Queue gx135) fun x75 => m7_lock_Drop_K18 x75 a1 x14 gl11 gx17 go1 gl16 gl106 gx135 go5 else m7_lock_Drop_K17 x14 gl11 gx17 go1 gl16 gl106 a1
def m7_lock_Drop_L5 (x14 : TLockItem) (a1 : Int) (gl11 : (List TLockItem)) (gx17 : Int) (go1 : (List TLockItem) → (List Int) → Int → Option ((List TLockItem) × (List Int) × Int)) (gl16 : (List Int)) (gl106 : (List TLock)) : Nat → Int → Option ((List TLockItem) × (List Int) × Int)
  | 0, _ => none
  | n + 1, gx135 => m7_lock_Drop_L5B (m7_lock_Drop_L5 x14 a1 gl11 gx17 go1 gl16 gl106 n) x14 a1 gl11 gx17 go1 gl16 gl106 gx135
def m7_lock_Drop_K10 (x14 : TLockItem) (a1 : Int) (gl11 : (List TLockItem)) (gx17 : Int) (go1 : (List TLockItem) → (List Int) → Int → Option ((List TLockItem) × (List Int) × Int)) (gl16 : (List Int)) (gl106 : (List TLock)) : Option ((List TLockItem) × (List Int) × Int) :=
  m7_lock_Drop_L5 x14 a1 gl11 gx17 go1 gl16 gl106 big 0
def m7_lock_Drop_K21 (x14 : TLockItem) (a1 : Int) (gl11 : (List TLockItem)) (gx17 : Int) (go1 : (List TLockItem) → (List Int) → Int → Option ((List TLockItem) × (List Int) × Int)) (gl16 : (List Int)) (gl145 : (List TLock)) (gx146 : Int) : Option ((List TLockItem) × (List Int) × Int) :=
  bind1 (cut gl145 gx146 gl145.length) fun l78 => bind1 (clr gl145 gx146 (⟨0, 0⟩ : TLock)) fun l79 => bind1 (cut l79 0 gx146) fun l80 => m7_lock_Drop_K10 x14 a1 gl11 gx17 go1 gl16 l80
def m7_lock_Drop_K23 (x83 : TLock) (a1 : Int) (gl151 : (List TLock)) (gx152 : Int) (gx153 : Int) (go6 : (List TLock) → Int → Int → Option ((List TLockItem) × (List Int) × Int)) : Option ((List TLockItem) × (List Int) × Int) :=
  if (!(decide (x83.Tx = a1))) = true then bind1 (idx gl151 gx152) fun x86 => bind1 (upd gl151 gx152 x83) fun l87 => bind1 (i64 (gx152 + 1)) fun x88 => bind1 (i64 (gx153 + 1)) fun x89 => go6 l87 x88 x89 else bind1 (i64 (gx153 + 1)) fun x90 => go6 gl151 gx152 x90
def m7_lock_Drop_K22 (gl151 : (List TLock)) (gx153 : Int) (a1 : Int) (gx152 : Int) (go6 : (List TLock) → Int → Int → Option ((List TLockItem) × (List Int) × Int)) : Option ((List TLockItem) × (List Int) × Int) :=
  bind1 (idx gl151 gx153) fun x83 => m7_lock_Drop_K23 x83 a1 gl151 gx152 gx153 go6
def m7_lock_Drop_L6B (go6 : (List TLock) → Int → Int → Option ((List TLockItem) × (List Int) × Int)) (a1 : Int) (x14 : TLockItem) (gl11 : (List TLockItem)) (gx17 : Int) (go1 : (List TLockItem) → (List Int) → Int → Option ((List TLockItem) × (List Int) × Int)) (gl16 : (List Int)) (gl151 : (List TLock)) (gx152 : Int) (gx153 : Int) : Option ((List TLockItem) × (List Int) × Int) :=
  if gx153 < (gl151.length : Int) then m7_lock_Drop_K22 gl151 gx153 a1 gx152 go6 else m7_lock_Drop_K21 x14 a1 gl11 gx17 go1 gl16 gl151 gx152
def m7_lock_Drop_L6 (a1 : Int) (x14 : TLockItem) (gl11 : (List TLockItem)) (gx17 : Int) (go1 : (List TLockItem) → (List Int) → Int → Option ((List TLockItem) × (List Int) × Int)) (gl16 : (List Int)) : Nat → (List TLock) → Int → Int → Option ((List TLockItem) × (List Int) × Int)
  | 0, _, _, _ => none
  | n + 1, gl151, gx152, gx153 => m7_lock_Drop_L6B (m7_lock_Drop_L6 a1 x14 gl11 gx17 go1 gl16 n) a1 x14 gl11 gx17 go1 gl16 gl151 gx152 gx153
def m7_lock_Drop_K20 (gx140 : Int) (a1 : Int) (x14 : TLockItem) (gl11 : (List TLockItem)) (gx17 : Int) (go1 : (List TLockItem) → (List Int) → Int → Option ((List TLockItem) × (List Int) × Int)) (gl16 : (List Int)) : Option ((List TLockItem) × (List Int) × Int) :=
  bind1 (i64 (gx140 + 1)) fun x82 => m7_lock_Drop_L6 a1 x14 gl11 gx17 go1 gl16 big x14.Held gx140 x82
def m7_lock_Drop_K19 (x14 : TLockItem) (a1 : Int) (gl11 : (List TLockItem)) (gx17 : Int) (go1 : (List TLockItem) → (List Int) → Int → Option ((List TLockItem) × (List Int) × Int)) (gl16 : (List Int)) (gx140 : Int) : Option ((List TLockItem) × (List Int) × Int) :=
  if gx140 = (-1) then m7_lock_Drop_K10 x14 a1 gl11 gx17 go1 gl16 x14.Held else m7_lock_Drop_K20 gx140 a1 x14 gl11 gx17 go1 gl16
def m7_lock_Drop_K24 (x14 : TLockItem) (a1 : Int) (gl11 : (List TLockItem)) (gx17 : Int) (go1 : (List TLockItem) → (List Int) → Int → Option ((List TLockItem) × (List Int) × Int)) (gl16 : (List Int)) : Option ((List TLockItem) × (List Int) × Int) :=
  m7_lock_Drop_K19 x14 a1 gl11 gx17 go1 gl16 (-1)
def m7_lock_Drop_K25 (x95 : TLock) (a1 : Int) (x14 : TLockItem) (gl11 : (List TLockItem)) (gx17 : Int) (go1 : (List TLockItem) → (List Int) → Int → Option ((List TLockItem) × (List Int) × Int)) (gl16 : (List Int)) (gx164 : Int) (go7 : Int → Option ((List TLockItem) × (List Int) × Int)) : Option ((List TLockItem) × (List Int) × Int) :=
  if (decide (x95.Tx = a1)) = true then m7_lock_Drop_K19 x14 a1 gl11 gx17 go1 gl16 gx164 else bind1 (i64 (gx164 + 1)) fun x96 => go7 x96
def m7_lock_Drop_L7B (go7 : Int → Option ((List TLockItem) × (List Int) × Int)) (x14 : TLockItem) (a1 : Int) (gl11 : (List TLockItem)) (gx17 : Int) (go1 : (List TLockItem) → (List Int) → Int → Option ((List TLockItem) × (List Int) × Int)) (gl16 : (List Int)) (gx164 : Int) : Option ((List TLockItem) × (List Int) × Int) :=
  if gx164 < (x14.Held.length : Int) then bind1 (idx x14.Held gx164) fun x95 => m7_lock_Drop_K25 x95 a1 x14 gl11 gx17 go1 gl16 gx164 go7 else m7_lock_Drop_K24 x14 a1 gl11 gx17 go1 gl16
def m7_lock_Drop_L7 (x14 : TLockItem) (a1 : Int) (gl11 : (List TLockItem)) (gx17 : Int) (go1 : (List TLockItem) → (List Int) → Int → Option ((List TLockItem) × (List Int) × Int)) (gl16 : (List Int)) : Nat → Int → Option ((List TLockItem) × (List Int) × Int)
  | 0, _ => none
  | n + 1, gx164 => m7_lock_Drop_L7B (m7_lock_Drop_L7 x14 a1 gl11 gx17 go1 gl16 n) x14 a1 gl11 gx17 go1 gl16 gx164
def m7_lock_Drop_L1B (go1 : (List TLockItem) → (List Int) → Int → Option ((List TLockItem) × (List Int) × Int)) (l8 : (List TLockItem)) (a1 : Int) (gl11 : (List TLockItem)) (gl16 : (List Int)) (gx17 : Int) : Option ((List TLockItem) × (List Int) × Int) :=
  if gx17 < (l8.length : Int) then bind1 (idx l8 gx17) fun x14 => m7_lock_Drop_L7 x14 a1 gl11 gx17 go1 gl16 big 0 else m7_lock_Drop_K3 gl11 gl16
def m7_lock_Drop_L1 (l8 : (List TLockItem)) (a1 : Int) : Nat → (List TLockItem) → (List Int) → Int → Option ((List TLockItem) × (List Int) × Int)
  | 0, _, _, _ => none
  | n + 1, gl11, gl16, gx17 => m7_lock_Drop_L1B (m7_lock_Drop_L1 l8 a1 n) l8 a1 gl11 gl16 gx17
def m7_lock_Drop_K2 (a0 : (List TLockItem)) (a1 : Int) : Option ((List TLockItem) × (List Int) × Int) :=
  bind1 (m21_lock_copied a0) fun l8 => m7_lock_Drop_L1 l8 a1 big [] [] 0
def m7_lock_Drop_K1 (a1 : Int) (a0 : (List TLockItem)) : Option ((List TLockItem) × (List Int) × Int) :=
  if a1 < 0 then some ([], [], 1) else if 12 ≤ a1 then some ([], [], 1) else m7_lock_Drop_K2 a0 a1
def m7_lock_Drop (a0 : (List TLockItem)) (a1 : Int) : Option ((List TLockItem) × (List Int) × Int) :=
  bind1 (m9_lock_Check a0) fun x180 => if x180 ≠ 0 then some ([], [], x180) else m7_lock_Drop_K1 a1 a0
def m8_lock_Waits_K3 (gl3 : (List TEdge)) : Option ((List TEdge) × Int) :=
  some (gl3, 0)
def m8_lock_Waits_K4 (gx6 : Int) (go1 : (List TEdge) → Int → Option ((List TEdge) × Int)) (gl8 : (List TEdge)) : Option ((List TEdge) × Int) :=
  bind1 (i64 (gx6 + 1)) fun x3 => go1 gl8 x3
def m8_lock_Waits_L2B (go2 : (List TEdge) → Int → Option ((List TEdge) × Int)) (gx6 : Int) (gl1 : (List Bool)) (go1 : (List TEdge) → Int → Option ((List TEdge) × Int)) (gl10 : (List TEdge)) (gx11 : Int) : Option ((List TEdge) × Int) :=
  if gx11 < 12 then bind1 (rng 12 gx6) fun x5 => bind1 (idx2 12 gl1 gx6 gx11) fun x6 => if x6 = true then bind1 (app gl10 ([(⟨gx6, gx11⟩ : TEdge)])) fun l10 => bind1 (i64 (gx11 + 1)) fun x11 => go2 l10 x11 else bind1 (i64 (gx11 + 1)) fun x12 => go2 gl10 x12 else m8_lock_Waits_K4 gx6 go1 gl10
def m8_lock_Waits_L2 (gx6 : Int) (gl1 : (List Bool)) (go1 : (List TEdge) → Int → Option ((List TEdge) × Int)) : Nat → (List TEdge) → Int → Option ((List TEdge) × Int)
  | 0, _, _ => none
  | n + 1, gl10, gx11 => m8_lock_Waits_L2B (m8_lock_Waits_L2 gx6 gl1 go1 n) gx6 gl1 go1 gl10 gx11
def m8_lock_Waits_L1B (go1 : (List TEdge) → Int → Option ((List TEdge) × Int)) (gl1 : (List Bool)) (gl5 : (List TEdge)) (gx6 : Int) : Option ((List TEdge) × Int) :=
  if gx6 < 12 then m8_lock_Waits_L2 gx6 gl1 go1 big gl5 0 else m8_lock_Waits_K3 gl5
def m8_lock_Waits_L1 (gl1 : (List Bool)) : Nat → (List TEdge) → Int → Option ((List TEdge) × Int)
  | 0, _, _ => none
  | n + 1, gl5, gx6 => m8_lock_Waits_L1B (m8_lock_Waits_L1 gl1 n) gl1 gl5 gx6
def m8_lock_Waits_K2 (gl1 : (List Bool)) : Option ((List TEdge) × Int) :=
  m8_lock_Waits_L1 gl1 big [] 0
def m8_lock_Waits_K5 (gx12 : Int) (go3 : Int → (List Bool) → Option ((List TEdge) × Int)) (gl14 : (List Bool)) : Option ((List TEdge) × Int) :=
  bind1 (i64 (gx12 + 1)) fun x14 => go3 x14 gl14
def m8_lock_Waits_K6 (gx15 : Int) (go4 : Int → (List Bool) → Option ((List TEdge) × Int)) (gl17 : (List Bool)) : Option ((List TEdge) × Int) :=
  bind1 (i64 (gx15 + 1)) fun x18 => go4 x18 gl17
def m8_lock_Waits_L5B (go5 : Int → (List Bool) → Option ((List TEdge) × Int)) (l23 : (List TLock)) (x19 : TLock) (gx15 : Int) (go4 : Int → (List Bool) → Option ((List TEdge) × Int)) (gx19 : Int) (gl20 : (List Bool)) : Option ((List TEdge) × Int) :=
  if gx19 < (l23.length : Int) then bind1 (idx l23 gx19) fun x25 => bind1 (rng 12 x19.Tx) fun x30 => bind1 (rng 12 x25.Tx) fun x31 => bind1 (idx gl20 (x19.Tx * (12 : Nat) + x25.Tx)) fun x32 => bind1 (upd gl20 (x19.Tx * (12 : Nat) + x25.Tx) true) fun l33 => bind1 (i64 (gx19 + 1)) fun x34 => go5 x34 l33 else m8_lock_Waits_K6 gx15 go4 gl20
def m8_lock_Waits_L5 (l23 : (List TLock)) (x19 : TLock) (gx15 : Int) (go4 : Int → (List Bool) → Option ((List TEdge) × Int)) : Nat → Int → (List Bool) → Option ((List TEdge) × Int)
  | 0, _, _ => none
  | n + 1, gx19, gl20 => m8_lock_Waits_L5B (m8_lock_Waits_L5 l23 x19 gx15 go4 n) l23 x19 gx15 go4 gx19 gl20
def m8_lock_Waits_K7 (x15 : TLockItem) (gx15 : Int) (x19 : TLock) (go4 : Int → (List Bool) → Option ((List TEdge) × Int)) (gl18 : (List Bool)) : Option ((List TEdge) × Int) :=
  bind1 (cut x15.Queue 0 gx15) fun l23 => m8_lock_Waits_L5 l23 x19 gx15 go4 big 0 gl18
def m8_lock_Waits_L6B (go6 : Int → (List Bool) → Option ((List TEdge) × Int)) (x15 : TLockItem) (x19 : TLock) (x21 : Int) (gx15 : Int) (go4 : Int → (List Bool) → Option ((List TEdge) × Int)) (gx21 : Int) (gl22 : (List Bool)) : Option ((List TEdge) × Int) :=
  if gx21 < (x15.Held.length : Int) then bind1 (idx x15.Held gx21) fun x36 => bind1 (rng 12 x19.Tx) fun x44 => bind1 (rng 12 x36.Tx) fun x45 => bind1 (idx gl22 (x19.Tx * (12 : Nat) + x36.Tx)) fun x46 => if x46 = true then bind1 (rng 12 x19.Tx) fun x48 => bind1 (rng 12 x36.Tx) fun x49 => bind1 (idx gl22 (x19.Tx * (12 : Nat) + x36.Tx)) fun x50 => bind1 (upd gl22 (x19.Tx * (12 : Nat) + x36.Tx) true) fun l51 => bind1 (i64 (gx21 + 1)) fun x52 => go6 x52 l51 else if x36.Tx ≠ x19.Tx then bind1 (rng 12 x19.Tx) fun x54 => bind1 (m33_lock_fits x21) fun x55 => bind1 (shrW .i64 x55 x36.Mode) fun x57 => bind1 (rng 12 x36.Tx) fun x58 => bind1 (idx gl22 (x19.Tx * (12 : Nat) + x36.Tx)) fun x59 => bind1 (upd gl22 (x19.Tx * (12 : Nat) + x36.Tx) (decide ((Go.bits .and .i64 x57 1) = 0))) fun l60 => bind1 (i64 (gx21 + 1)) fun x61 => go6 x61 l60 else bind1 (rng 12 x19.Tx) fun x62 => bind1 (rng 12 x36.Tx) fun x63 => bind1 (idx gl22 (x19.Tx * (12 : Nat) + x36.Tx)) fun x64 => bind1 (upd gl22 (x19.Tx * (12 : Nat) + x36.Tx) false) fun l65 => bind1 (i64 (gx21 + 1)) fun x66 => go6 x66 l65 else m8_lock_Waits_K7 x15 gx15 x19 go4 gl22
def m8_lock_Waits_L6 (x15 : TLockItem) (x19 : TLock) (x21 : Int) (gx15 : Int) (go4 : Int → (List Bool) → Option ((List TEdge) × Int)) : Nat → Int → (List Bool) → Option ((List TEdge) × Int)
  | 0, _, _ => none
  | n + 1, gx21, gl22 => m8_lock_Waits_L6B (m8_lock_Waits_L6 x15 x19 x21 gx15 go4 n) x15 x19 x21 gx15 go4 gx21 gl22
def m8_lock_Waits_L4B (go4 : Int → (List Bool) → Option ((List TEdge) × Int)) (x15 : TLockItem) (gx12 : Int) (go3 : Int → (List Bool) → Option ((List TEdge) × Int)) (gx15 : Int) (gl16 : (List Bool)) : Option ((List TEdge) × Int) :=
  if gx15 < (x15.Queue.length : Int) then bind1 (idx x15.Queue gx15) fun x19 => bind1 (m32_lock_wish x15 x19) fun x21 => m8_lock_Waits_L6 x15 x19 x21 gx15 go4 big 0 gl16 else m8_lock_Waits_K5 gx12 go3 gl16
def m8_lock_Waits_L4 (x15 : TLockItem) (gx12 : Int) (go3 : Int → (List Bool) → Option ((List TEdge) × Int)) : Nat → Int → (List Bool) → Option ((List TEdge) × Int)
  | 0, _, _ => none
  | n + 1, gx15, gl16 => m8_lock_Waits_L4B (m8_lock_Waits_L4 x15 gx12 go3 n) x15 gx12 go3 gx15 gl16
def m8_lock_Waits_L3B (go3 : Int → (List Bool) → Option ((List TEdge) × Int)) (a0 : (List TLockItem)) (gx12 : Int) (gl13 : (List Bool)) : Option ((List TEdge) × Int) :=
  if gx12 < (a0.length : Int) then bind1 (idx a0 gx12) fun x15 => m8_lock_Waits_L4 x15 gx12 go3 big 0 gl13 else m8_lock_Waits_K2 gl13
def m8_lock_Waits_L3 (a0 : (List TLockItem)) : Nat → Int → (List Bool) → Option ((List TEdge) × Int)
  | 0, _, _ => none
  | n + 1, gx12, gl13 => m8_lock_Waits_L3B (m8_lock_Waits_L3 a0 n) a0 gx12 gl13
def m8_lock_Waits_K1 (a0 : (List TLockItem)) : Option ((List TEdge) × Int) :=
  m8_lock_Waits_L3 a0 big 0 (List.replicate 144 (false : Bool))
def m8_lock_Waits (a0 : (List TLockItem)) : Option ((List TEdge) × Int) :=
  bind1 (m9_lock_Check a0) fun x67 => if x67 ≠ 0 then some ([], x67) else m8_lock_Waits_K1 a0
def m11_quirref_WaitEdges_K1 (gl2 : (List TEdge)) : Option (List TEdge) :=
  some gl2
def m11_quirref_WaitEdges_K2 (gx5 : Int) (go1 : (List TEdge) → Int → Option (List TEdge)) (gl7 : (List TEdge)) : Option (List TEdge) :=
  bind1 (i64 (gx5 + 1)) fun x2 => go1 gl7 x2
def m11_quirref_WaitEdges_K3 (gx10 : Int) (go2 : (List TEdge) → Int → Option (List TEdge)) (gl12 : (List TEdge)) : Option (List TEdge) :=
  bind1 (i64 (gx10 + 1)) fun x5 => go2 gl12 x5
def m11_quirref_WaitEdges_K4 (gl9 : (List TEdge)) (gx5 : Int) (gx10 : Int) (go2 : (List TEdge) → Int → Option (List TEdge)) (gb13 : Bool) : Option (List TEdge) :=
  if gb13 = true then bind1 (app gl9 ([(⟨gx5, gx10⟩ : TEdge)])) fun l8 => m11_quirref_WaitEdges_K3 gx10 go2 l8 else m11_quirref_WaitEdges_K3 gx10 go2 gl9
def m11_quirref_WaitEdges_K8 (gx15 : Int) (go3 : Bool → Int → Option (List TEdge)) (gb18 : Bool) : Option (List TEdge) :=
  if gb18 = true then bind1 (i64 (gx15 + 1)) fun x15 => go3 true x15 else bind1 (i64 (gx15 + 1)) fun x14 => go3 false x14
def m11_quirref_WaitEdges_K7 (gx15 : Int) (go3 : Bool → Int → Option (List TEdge)) (x12 : Int) (x10 : TLockItem) (gx16 : Int) (gb17 : Bool) : Option (List TEdge) :=
  if gb17 = true then bind1 (i64 (gx15 + 1)) fun x22 => go3 true x22 else if 0 < x12 then bind1 (idx x10.Queue gx16) fun x17 => bind1 (m39_quirref_wish x10 x17) fun x18 => bind1 (m38_quirref_Fits x18 x12) fun b20 => if b20 = true then m11_quirref_WaitEdges_K8 gx15 go3 false else m11_quirref_WaitEdges_K8 gx15 go3 true else m11_quirref_WaitEdges_K8 gx15 go3 false
def m11_quirref_WaitEdges_K6 (x10 : TLockItem) (gx10 : Int) (gb14 : Bool) (gx15 : Int) (go3 : Bool → Int → Option (List TEdge)) (gx16 : Int) : Option (List TEdge) :=
  bind1 (m37_quirref_holds x10.Held gx10) fun x12 => if gb14 = true then m11_quirref_WaitEdges_K7 gx15 go3 x12 x10 gx16 true else bind1 (cut x10.Queue 0 gx16) fun l24 => bind1 (m37_quirref_holds l24 gx10) fun x25 => if 0 < x25 then m11_quirref_WaitEdges_K7 gx15 go3 x12 x10 gx16 true else m11_quirref_WaitEdges_K7 gx15 go3 x12 x10 gx16 false
def m11_quirref_WaitEdges_K5 (gx15 : Int) (go3 : Bool → Int → Option (List TEdge)) (gb14 : Bool) (gx5 : Int) (gx10 : Int) (x10 : TLockItem) (gx16 : Int) : Option (List TEdge) :=
  if gx16 < 0 then bind1 (i64 (gx15 + 1)) fun x29 => go3 gb14 x29 else if gx5 = gx10 then bind1 (i64 (gx15 + 1)) fun x31 => go3 gb14 x31 else m11_quirref_WaitEdges_K6 x10 gx10 gb14 gx15 go3 gx16
def m11_quirref_WaitEdges_K9 (gx15 : Int) (go3 : Bool → Int → Option (List TEdge)) (gb14 : Bool) (gx5 : Int) (gx10 : Int) (x10 : TLockItem) : Option (List TEdge) :=
  m11_quirref_WaitEdges_K5 gx15 go3 gb14 gx5 gx10 x10 (-1)
def m11_quirref_WaitEdges_K10 (x33 : TLock) (gx5 : Int) (gx15 : Int) (go3 : Bool → Int → Option (List TEdge)) (gb14 : Bool) (gx10 : Int) (x10 : TLockItem) (gx19 : Int) (go4 : Int → Option (List TEdge)) : Option (List TEdge) :=
  if (decide (x33.Tx = gx5)) = true then m11_quirref_WaitEdges_K5 gx15 go3 gb14 gx5 gx10 x10 gx19 else bind1 (i64 (gx19 + 1)) fun x34 => go4 x34
def m11_quirref_WaitEdges_L4B (go4 : Int → Option (List TEdge)) (x10 : TLockItem) (gx5 : Int) (gx15 : Int) (go3 : Bool → Int → Option (List TEdge)) (gb14 : Bool) (gx10 : Int) (gx19 : Int) : Option (List TEdge) :=
  if gx19 < (x10.Queue.length : Int) then bind1 (idx x10.Queue gx19) fun x33 => m11_quirref_WaitEdges_K10 x33 gx5 gx15 go3 gb14 gx10 x10 gx19 go4 else m11_quirref_WaitEdges_K9 gx15 go3 gb14 gx5 gx10 x10
def m11_quirref_WaitEdges_L4 (x10 : TLockItem) (gx5 : Int) (gx15 : Int) (go3 : Bool → Int → Option (List TEdge)) (gb14 : Bool) (gx10 : Int) : Nat → Int → Option (List TEdge)
  | 0, _ => none
  | n + 1, gx19 => m11_quirref_WaitEdges_L4B (m11_quirref_WaitEdges_L4 x10 gx5 gx15 go3 gb14 gx10 n) x10 gx5 gx15 go3 gb14 gx10 gx19
def m11_quirref_WaitEdges_L3B (go3 : Bool → Int → Option (List TEdge)) (a0 : (List TLockItem)) (gx5 : Int) (gx10 : Int) (gl9 : (List TEdge)) (go2 : (List TEdge) → Int → Option (List TEdge)) (gb14 : Bool) (gx15 : Int) : Option (List TEdge) :=
  if gx15 < (a0.length : Int) then bind1 (idx a0 gx15) fun x10 => m11_quirref_WaitEdges_L4 x10 gx5 gx15 go3 gb14 gx10 big 0 else m11_quirref_WaitEdges_K4 gl9 gx5 gx10 go2 gb14
def m11_quirref_WaitEdges_L3 (a0 : (List TLockItem)) (gx5 : Int) (gx10 : Int) (gl9 : (List TEdge)) (go2 : (List TEdge) → Int → Option (List TEdge)) : Nat → Bool → Int → Option (List TEdge)
  | 0, _, _ => none
  | n + 1, gb14, gx15 => m11_quirref_WaitEdges_L3B (m11_quirref_WaitEdges_L3 a0 gx5 gx10 gl9 go2 n) a0 gx5 gx10 gl9 go2 gb14 gx15
def m11_quirref_WaitEdges_L2B (go2 : (List TEdge) → Int → Option (List TEdge)) (a0 : (List TLockItem)) (gx5 : Int) (go1 : (List TEdge) → Int → Option (List TEdge)) (gl9 : (List TEdge)) (gx10 : Int) : Option (List TEdge) :=
  if gx10 < 12 then m11_quirref_WaitEdges_L3 a0 gx5 gx10 gl9 go2 big false 0 else m11_quirref_WaitEdges_K2 gx5 go1 gl9
def m11_quirref_WaitEdges_L2 (a0 : (List TLockItem)) (gx5 : Int) (go1 : (List TEdge) → Int → Option (List TEdge)) : Nat → (List TEdge) → Int → Option (List TEdge)
  | 0, _, _ => none
  | n + 1, gl9, gx10 => m11_quirref_WaitEdges_L2B (m11_quirref_WaitEdges_L2 a0 gx5 go1 n) a0 gx5 go1 gl9 gx10
def m11_quirref_WaitEdges_L1B (go1 : (List TEdge) → Int → Option (List TEdge)) (a0 : (List TLockItem)) (gl4 : (List TEdge)) (gx5 : Int) : Option (List TEdge) :=
  if gx5 < 12 then m11_quirref_WaitEdges_L2 a0 gx5 go1 big gl4 0 else m11_quirref_WaitEdges_K1 gl4
def m11_quirref_WaitEdges_L1 (a0 : (List TLockItem)) : Nat → (List TEdge) → Int → Option (List TEdge)
  | 0, _, _ => none
  | n + 1, gl4, gx5 => m11_quirref_WaitEdges_L1B (m11_quirref_WaitEdges_L1 a0 n) a0 gl4 gx5
def m11_quirref_WaitEdges (a0 : (List TLockItem)) : Option (List TEdge) :=
  m11_quirref_WaitEdges_L1 a0 big [] 0
def m10_api_Edge_K2 : Option Bool :=
  some true
def m10_api_Edge_L1B (go1 : Int → Option Bool) (a0 : (List TEdge)) (a1 : (List TEdge)) (gx1 : Int) : Option Bool :=
  if gx1 < (a0.length : Int) then bind1 (idx a0 gx1) fun x2 => bind1 (idx a1 gx1) fun x3 => if x2 ≠ x3 then some false else bind1 (i64 (gx1 + 1)) fun x5 => go1 x5 else m10_api_Edge_K2
def m10_api_Edge_L1 (a0 : (List TEdge)) (a1 : (List TEdge)) : Nat → Int → Option Bool
  | 0, _ => none
  | n + 1, gx1 => m10_api_Edge_L1B (m10_api_Edge_L1 a0 a1 n) a0 a1 gx1
def m10_api_Edge_K1 (a0 : (List TEdge)) (a1 : (List TEdge)) : Option Bool :=
  m10_api_Edge_L1 a0 a1 big 0
def m10_api_Edge (a0 : (List TEdge)) (a1 : (List TEdge)) : Option Bool :=
  if (a0.length : Int) ≠ (a1.length : Int) then some false else m10_api_Edge_K1 a0 a1
def m42_quirref_given_K1 (a0 : TLockItem) (a1 : TLock) (x4 : Int) (gl2 : (List TLock)) : Option TLockItem :=
  bind1 (m37_quirref_holds a0.Held a1.Tx) fun x7 => if x7 = 0 then bind1 (app gl2 ([(⟨a1.Tx, x4⟩ : TLock)])) fun l12 => some (⟨a0.Item, l12, a0.Queue⟩ : TLockItem) else some (⟨a0.Item, gl2, a0.Queue⟩ : TLockItem)
def m42_quirref_given_K2 (gl5 : (List TLock)) (x20 : TLock) (gx3 : Int) (go1 : Int → (List TLock) → Option TLockItem) (gx6 : Int) : Option TLockItem :=
  bind1 (app gl5 ([(⟨x20.Tx, gx6⟩ : TLock)])) fun l24 => bind1 (i64 (gx3 + 1)) fun x25 => go1 x25 l24
def m42_quirref_given_L1B (go1 : Int → (List TLock) → Option TLockItem) (a0 : TLockItem) (a1 : TLock) (x4 : Int) (gx3 : Int) (gl5 : (List TLock)) : Option TLockItem :=
  if gx3 < (a0.Held.length : Int) then bind1 (idx a0.Held gx3) fun x20 => if x20.Tx = a1.Tx then m42_quirref_given_K2 gl5 x20 gx3 go1 x4 else m42_quirref_given_K2 gl5 x20 gx3 go1 x20.Mode else m42_quirref_given_K1 a0 a1 x4 gl5
def m42_quirref_given_L1 (a0 : TLockItem) (a1 : TLock) (x4 : Int) : Nat → Int → (List TLock) → Option TLockItem
  | 0, _, _ => none
  | n + 1, gx3, gl5 => m42_quirref_given_L1B (m42_quirref_given_L1 a0 a1 x4 n) a0 a1 x4 gx3 gl5
def m42_quirref_given (a0 : TLockItem) (a1 : TLock) : Option TLockItem :=
  bind1 (m39_quirref_wish a0 a1) fun x4 => m42_quirref_given_L1 a0 a1 x4 big 0 []
def m12_quirref_DropLocks_K1 (gl3 : (List TLockItem)) (gl8 : (List Int)) : Option ((List TLockItem) × (List Int)) :=
  some (gl3, gl8)
def m12_quirref_DropLocks_K2 (gx17 : Int) (go1 : (List TLockItem) → (List Int) → Int → Option ((List TLockItem) × (List Int))) (gl20 : (List TLockItem)) (gl25 : (List Int)) : Option ((List TLockItem) × (List Int)) :=
  bind1 (i64 (gx17 + 1)) fun x9 => go1 gl20 gl25 x9
def m12_quirref_DropLocks_K5 (gl11 : (List TLockItem)) (gx17 : Int) (go1 : (List TLockItem) → (List Int) → Int → Option ((List TLockItem) × (List Int))) (gl50 : (List Int)) (gx51 : Int) (gl53 : (List TLock)) (gl57 : (List TLock)) : Option ((List TLockItem) × (List Int)) :=
  if 0 < (gl53.length : Int) then bind1 (app gl11 ([(⟨gx51, gl53, gl57⟩ : TLockItem)])) fun l16 => m12_quirref_DropLocks_K2 gx17 go1 l16 gl50 else m12_quirref_DropLocks_K2 gx17 go1 gl11 gl50
def m12_quirref_DropLocks_K6 (gl73 : (List TLock)) (gl66 : (List Int)) (gx67 : Int) (gl69 : (List TLock)) (go2 : (List Int) → Int → (List TLock) → (List TLock) → Option ((List TLockItem) × (List Int))) : Option ((List TLockItem) × (List Int)) :=
  bind1 (idx gl73 0) fun x20 => bind1 (app gl66 ([x20.Tx])) fun l23 => bind1 (idx gl73 0) fun x60 => bind1 (m42_quirref_given (⟨gx67, gl69, gl73⟩ : TLockItem) x60) fun x61 => bind1 (cut x61.Queue 1 x61.Queue.length) fun l72 => go2 l23 x61.Item x61.Held l72
def m12_quirref_DropLocks_L2B (go2 : (List Int) → Int → (List TLock) → (List TLock) → Option ((List TLockItem) × (List Int))) (gl11 : (List TLockItem)) (gx17 : Int) (go1 : (List TLockItem) → (List Int) → Int → Option ((List TLockItem) × (List Int))) (gl66 : (List Int)) (gx67 : Int) (gl69 : (List TLock)) (gl73 : (List TLock)) : Option ((List TLockItem) × (List Int)) :=
  if 0 < (gl73.length : Int) then bind1 (idx gl73 0) fun x74 => bind1 (m41_quirref_can (⟨gx67, gl69, gl73⟩ : TLockItem) x74) fun b75 => if b75 = true then m12_quirref_DropLocks_K6 gl73 gl66 gx67 gl69 go2 else m12_quirref_DropLocks_K5 gl11 gx17 go1 gl66 gx67 gl69 gl73 else m12_quirref_DropLocks_K5 gl11 gx17 go1 gl66 gx67 gl69 gl73
def m12_quirref_DropLocks_L2 (gl11 : (List TLockItem)) (gx17 : Int) (go1 : (List TLockItem) → (List Int) → Int → Option ((List TLockItem) × (List Int))) : Nat → (List Int) → Int → (List TLock) → (List TLock) → Option ((List TLockItem) × (List Int))
  | 0, _, _, _, _ => none
  | n + 1, gl66, gx67, gl69, gl73 => m12_quirref_DropLocks_L2B (m12_quirref_DropLocks_L2 gl11 gx17 go1 n) gl11 gx17 go1 gl66 gx67 gl69 gl73
def m12_quirref_DropLocks_K4 (gl11 : (List TLockItem)) (gx17 : Int) (go1 : (List TLockItem) → (List Int) → Int → Option ((List TLockItem) × (List Int))) (gl16 : (List Int)) (x10 : TLockItem) (gl41 : (List TLock)) (gl45 : (List TLock)) : Option ((List TLockItem) × (List Int)) :=
  m12_quirref_DropLocks_L2 gl11 gx17 go1 big gl16 x10.Item gl41 gl45
def m12_quirref_DropLocks_K7 (gl11 : (List TLockItem)) (gx17 : Int) (go1 : (List TLockItem) → (List Int) → Int → Option ((List TLockItem) × (List Int))) (gl16 : (List Int)) (x10 : TLockItem) (gl41 : (List TLock)) (gl79 : (List TLock)) : Option ((List TLockItem) × (List Int)) :=
  m12_quirref_DropLocks_K4 gl11 gx17 go1 gl16 x10 gl41 gl79
def m12_quirref_DropLocks_L3B (go3 : (List TLock) → Int → Option ((List TLockItem) × (List Int))) (x10 : TLockItem) (a1 : Int) (gl11 : (List TLockItem)) (gx17 : Int) (go1 : (List TLockItem) → (List Int) → Int → Option ((List TLockItem) × (List Int))) (gl16 : (List Int)) (gl41 : (List TLock)) (gl85 : (List TLock)) (gx86 : Int) : Option ((List TLockItem) × (List Int)) :=
  if gx86 < (x10.Queue.length : Int) then bind1 (idx x10.Queue gx86) fun x84 => if x84.Tx ≠ a1 then bind1 (app gl85 ([x84])) fun l89 => bind1 (i64 (gx86 + 1)) fun x90 => go3 l89 x90 else bind1 (i64 (gx86 + 1)) fun x91 => go3 gl85 x91 else m12_quirref_DropLocks_K7 gl11 gx17 go1 gl16 x10 gl41 gl85
def m12_quirref_DropLocks_L3 (x10 : TLockItem) (a1 : Int) (gl11 : (List TLockItem)) (gx17 : Int) (go1 : (List TLockItem) → (List Int) → Int → Option ((List TLockItem) × (List Int))) (gl16 : (List Int)) (gl41 : (List TLock)) : Nat → (List TLock) → Int → Option ((List TLockItem) × (List Int))
  | 0, _, _ => none
  | n + 1, gl85, gx86 => m12_quirref_DropLocks_L3B (m12_quirref_DropLocks_L3 x10 a1 gl11 gx17 go1 gl16 gl41 n) x10 a1 gl11 gx17 go1 gl16 gl41 gl85 gx86
def m12_quirref_DropLocks_K3 (x10 : TLockItem) (a1 : Int) (gl11 : (List TLockItem)) (gx17 : Int) (go1 : (List TLockItem) → (List Int) → Int → Option ((List TLockItem) × (List Int))) (gl16 : (List Int)) (gl41 : (List TLock)) : Option ((List TLockItem) × (List Int)) :=
  m12_quirref_DropLocks_L3 x10 a1 gl11 gx17 go1 gl16 gl41 big [] 0
def m12_quirref_DropLocks_K8 (x10 : TLockItem) (a1 : Int) (gl11 : (List TLockItem)) (gx17 : Int) (go1 : (List TLockItem) → (List Int) → Int → Option ((List TLockItem) × (List Int))) (gl16 : (List Int)) (gl90 : (List TLock)) : Option ((List TLockItem) × (List Int)) :=
  m12_quirref_DropLocks_K3 x10 a1 gl11 gx17 go1 gl16 gl90
def m12_quirref_DropLocks_L4B (go4 : (List TLock) → Int → Option ((List TLockItem) × (List Int))) (x10 : TLockItem) (a1 : Int) (gl11 : (List TLockItem)) (gx17 : Int) (go1 : (List TLockItem) → (List Int) → Int → Option ((List TLockItem) × (List Int))) (gl16 : (List Int)) (gl96 : (List TLock)) (gx97 : Int) : Option ((List TLockItem) × (List Int)) :=
  if gx97 < (x10.Held.length : Int) then bind1 (idx x10.Held gx97) fun x93 => if x93.Tx ≠ a1 then bind1 (app gl96 ([x93])) fun l98 => bind1 (i64 (gx97 + 1)) fun x99 => go4 l98 x99 else bind1 (i64 (gx97 + 1)) fun x100 => go4 gl96 x100 else m12_quirref_DropLocks_K8 x10 a1 gl11 gx17 go1 gl16 gl96
def m12_quirref_DropLocks_L4 (x10 : TLockItem) (a1 : Int) (gl11 : (List TLockItem)) (gx17 : Int) (go1 : (List TLockItem) → (List Int) → Int → Option ((List TLockItem) × (List Int))) (gl16 : (List Int)) : Nat → (List TLock) → Int → Option ((List TLockItem) × (List Int))
  | 0, _, _ => none
  | n + 1, gl96, gx97 => m12_quirref_DropLocks_L4B (m12_quirref_DropLocks_L4 x10 a1 gl11 gx17 go1 gl16 n) x10 a1 gl11 gx17 go1 gl16 gl96 gx97
def m12_quirref_DropLocks_L1B (go1 : (List TLockItem) → (List Int) → Int → Option ((List TLockItem) × (List Int))) (a0 : (List TLockItem)) (a1 : Int) (gl11 : (List TLockItem)) (gl16 : (List Int)) (gx17 : Int) : Option ((List TLockItem) × (List Int)) :=
  if gx17 < (a0.length : Int) then bind1 (idx a0 gx17) fun x10 => m12_quirref_DropLocks_L4 x10 a1 gl11 gx17 go1 gl16 big [] 0 else m12_quirref_DropLocks_K1 gl11 gl16
def m12_quirref_DropLocks_L1 (a0 : (List TLockItem)) (a1 : Int) : Nat → (List TLockItem) → (List Int) → Int → Option ((List TLockItem) × (List Int))
  | 0, _, _, _ => none
  | n + 1, gl11, gl16, gx17 => m12_quirref_DropLocks_L1B (m12_quirref_DropLocks_L1 a0 a1 n) a0 a1 gl11 gl16 gx17
def m12_quirref_DropLocks (a0 : (List TLockItem)) (a1 : Int) : Option ((List TLockItem) × (List Int)) :=
  m12_quirref_DropLocks_L1 a0 a1 big [] [] 0
def m45_api_Lock_K2 : Option Bool :=
  some true
def m45_api_Lock_L1B (go1 : Int → Option Bool) (a0 : (List TLock)) (a1 : (List TLock)) (gx1 : Int) : Option Bool :=
  if gx1 < (a0.length : Int) then bind1 (idx a0 gx1) fun x2 => bind1 (idx a1 gx1) fun x3 => if x2 ≠ x3 then some false else bind1 (i64 (gx1 + 1)) fun x5 => go1 x5 else m45_api_Lock_K2
def m45_api_Lock_L1 (a0 : (List TLock)) (a1 : (List TLock)) : Nat → Int → Option Bool
  | 0, _ => none
  | n + 1, gx1 => m45_api_Lock_L1B (m45_api_Lock_L1 a0 a1 n) a0 a1 gx1
def m45_api_Lock_K1 (a0 : (List TLock)) (a1 : (List TLock)) : Option Bool :=
  m45_api_Lock_L1 a0 a1 big 0
def m45_api_Lock (a0 : (List TLock)) (a1 : (List TLock)) : Option Bool :=
  if (a0.length : Int) ≠ (a1.length : Int) then some false else m45_api_Lock_K1 a0 a1
def m44_quirref_SameLocks_1_K1 (a0 : TLockItem) (a1 : TLockItem) (gb1 : Bool) : Option Bool :=
  if gb1 = true then bind1 (m45_api_Lock a0.Queue a1.Queue) fun b3 => some b3 else some false
def m44_quirref_SameLocks_1 (a0 : TLockItem) (a1 : TLockItem) : Option Bool :=
  if a0.Item = a1.Item then bind1 (m45_api_Lock a0.Held a1.Held) fun b6 => if b6 = true then m44_quirref_SameLocks_1_K1 a0 a1 true else m44_quirref_SameLocks_1_K1 a0 a1 false else m44_quirref_SameLocks_1_K1 a0 a1 false
def m13_quirref_SameLocks_K1 (gb1 : Bool) : Option Bool :=
  some gb1
def m13_quirref_SameLocks_K3 : Option Bool :=
  m13_quirref_SameLocks_K1 true
def m13_quirref_SameLocks_K4 (gx2 : Int) (go1 : Int → Option Bool) (gb3 : Bool) : Option Bool :=
  if gb3 = true then bind1 (i64 (gx2 + 1)) fun x6 => go1 x6 else m13_quirref_SameLocks_K1 false
def m13_quirref_SameLocks_K5 (x2 : TLockItem) (x4 : TLockItem) (gx2 : Int) (go1 : Int → Option Bool) (gb4 : Bool) : Option Bool :=
  if gb4 = true then bind1 (m45_api_Lock x2.Queue x4.Queue) fun b9 => m13_quirref_SameLocks_K4 gx2 go1 b9 else m13_quirref_SameLocks_K4 gx2 go1 false
def m13_quirref_SameLocks_L1B (go1 : Int → Option Bool) (a0 : (List TLockItem)) (a1 : (List TLockItem)) (gx2 : Int) : Option Bool :=
  if gx2 < (a0.length : Int) then bind1 (idx a0 gx2) fun x2 => bind1 (idx a1 gx2) fun x4 => if x2.Item = x4.Item then bind1 (m45_api_Lock x2.Held x4.Held) fun b12 => if b12 = true then m13_quirref_SameLocks_K5 x2 x4 gx2 go1 true else m13_quirref_SameLocks_K5 x2 x4 gx2 go1 false else m13_quirref_SameLocks_K5 x2 x4 gx2 go1 false else m13_quirref_SameLocks_K3
def m13_quirref_SameLocks_L1 (a0 : (List TLockItem)) (a1 : (List TLockItem)) : Nat → Int → Option Bool
  | 0, _ => none
  | n + 1, gx2 => m13_quirref_SameLocks_L1B (m13_quirref_SameLocks_L1 a0 a1 n) a0 a1 gx2
def m13_quirref_SameLocks_K2 (a0 : (List TLockItem)) (a1 : (List TLockItem)) : Option Bool :=
  m13_quirref_SameLocks_L1 a0 a1 big 0
def m13_quirref_SameLocks (a0 : (List TLockItem)) (a1 : (List TLockItem)) : Option Bool :=
  if (a0.length : Int) ≠ (a1.length : Int) then m13_quirref_SameLocks_K1 false else m13_quirref_SameLocks_K2 a0 a1
def m14_slices_Equal_int_K2 : Option Bool :=
  some true
def m14_slices_Equal_int_L1B (go1 : Int → Option Bool) (a0 : (List Int)) (a1 : (List Int)) (gx1 : Int) : Option Bool :=
  if gx1 < (a0.length : Int) then bind1 (idx a0 gx1) fun x2 => bind1 (idx a1 gx1) fun x3 => if x2 ≠ x3 then some false else bind1 (i64 (gx1 + 1)) fun x5 => go1 x5 else m14_slices_Equal_int_K2
def m14_slices_Equal_int_L1 (a0 : (List Int)) (a1 : (List Int)) : Nat → Int → Option Bool
  | 0, _ => none
  | n + 1, gx1 => m14_slices_Equal_int_L1B (m14_slices_Equal_int_L1 a0 a1 n) a0 a1 gx1
def m14_slices_Equal_int_K1 (a0 : (List Int)) (a1 : (List Int)) : Option Bool :=
  m14_slices_Equal_int_L1 a0 a1 big 0
def m14_slices_Equal_int (a0 : (List Int)) (a1 : (List Int)) : Option Bool :=
  if (a0.length : Int) ≠ (a1.length : Int) then some false else m14_slices_Equal_int_K1 a0 a1
def m46_quirref_asked_K4 (a0 : TLockItem) (gl3 : (List TLock)) : Option (TLockItem × Bool) :=
  some ((⟨a0.Item, a0.Held, gl3⟩ : TLockItem), false)
def m46_quirref_asked_K3 (a0 : TLockItem) (a1 : TLock) : Option (TLockItem × Bool) :=
  bind1 (m47_api_Lock a0.Queue) fun l19 => bind1 (xInsR l19 (a0.Queue.length : Int) a1) fun l23 => m46_quirref_asked_K4 a0 l23
def m46_quirref_asked_K2 (a0 : TLockItem) (a1 : TLock) : Option (TLockItem × Bool) :=
  m46_quirref_asked_K3 a0 a1
def m46_quirref_asked_K7 (a0 : TLockItem) (gl6 : (List TLock)) : Option (TLockItem × Bool) :=
  some ((⟨a0.Item, a0.Held, gl6⟩ : TLockItem), false)
def m46_quirref_asked_K6 (a0 : TLockItem) (a1 : TLock) (gx4 : Int) : Option (TLockItem × Bool) :=
  bind1 (m47_api_Lock a0.Queue) fun l60 => bind1 (xInsR l60 gx4 a1) fun l64 => m46_quirref_asked_K7 a0 l64
def m46_quirref_asked_L1B (go1 : Int → Option (TLockItem × Bool)) (a0 : TLockItem) (a1 : TLock) (gx7 : Int) : Option (TLockItem × Bool) :=
  if gx7 < (a0.Queue.length : Int) then bind1 (idx a0.Queue gx7) fun x73 => bind1 (m37_quirref_holds a0.Held x73.Tx) fun x74 => if 0 < x74 then bind1 (i64 (gx7 + 1)) fun x77 => go1 x77 else m46_quirref_asked_K6 a0 a1 gx7 else m46_quirref_asked_K6 a0 a1 gx7
def m46_quirref_asked_L1 (a0 : TLockItem) (a1 : TLock) : Nat → Int → Option (TLockItem × Bool)
  | 0, _ => none
  | n + 1, gx7 => m46_quirref_asked_L1B (m46_quirref_asked_L1 a0 a1 n) a0 a1 gx7
def m46_quirref_asked_K5 (a0 : TLockItem) (a1 : TLock) : Option (TLockItem × Bool) :=
  m46_quirref_asked_L1 a0 a1 big 0
def m46_quirref_asked_K1 (a0 : TLockItem) (a1 : TLock) (gb1 : Bool) : Option (TLockItem × Bool) :=
  if gb1 = true then bind1 (m41_quirref_can a0 a1) fun b78 => if b78 = true then bind1 (m42_quirref_given a0 a1) fun x80 => some (x80, true) else m46_quirref_asked_K5 a0 a1 else bind1 (m41_quirref_can a0 a1) fun b31 => if b31 = true then if (a0.Queue.length : Int) = 0 then bind1 (m42_quirref_given a0 a1) fun x34 => some (x34, true) else m46_quirref_asked_K2 a0 a1 else m46_quirref_asked_K2 a0 a1
def m46_quirref_asked (a0 : TLockItem) (a1 : TLock) : Option (TLockItem × Bool) :=
  bind1 (m37_quirref_holds a0.Held a1.Tx) fun x91 => if 0 < x91 then m46_quirref_asked_K1 a0 a1 true else m46_quirref_asked_K1 a0 a1 false
def m15_quirref_AskLock_K2 (a2 : Int) (a1 : Int) (a3 : Int) (gl3 : (List TLockItem)) (gb7 : Bool) (gb8 : Bool) : Option ((List TLockItem) × Bool × Int) :=
  if gb7 = true then some (gl3, gb8, 0) else bind1 (app gl3 ([(⟨a2, [(⟨a1, a3⟩ : TLock)], []⟩ : TLockItem)])) fun l9 => some (l9, true, 0)
def m15_quirref_AskLock_K3 (gx17 : Int) (go1 : (List TLockItem) → Bool → Bool → Int → Option ((List TLockItem) × Bool × Int)) (gl20 : (List TLockItem)) (gb24 : Bool) (gb25 : Bool) (gx26 : Int) (gl28 : (List TLock)) (gl32 : (List TLock)) : Option ((List TLockItem) × Bool × Int) :=
  if gb24 = true then bind1 (app gl20 ([(⟨gx26, gl28, gl32⟩ : TLockItem)])) fun l33 => bind1 (i64 (gx17 + 1)) fun x37 => go1 l33 true gb25 x37 else bind1 (app gl20 ([(⟨gx26, gl28, gl32⟩ : TLockItem)])) fun l25 => bind1 (i64 (gx17 + 1)) fun x29 => go1 l25 false gb25 x29
def m15_quirref_AskLock_L1B (go1 : (List TLockItem) → Bool → Bool → Int → Option ((List TLockItem) × Bool × Int)) (a0 : (List TLockItem)) (a2 : Int) (a1 : Int) (a3 : Int) (gl11 : (List TLockItem)) (gb15 : Bool) (gb16 : Bool) (gx17 : Int) : Option ((List TLockItem) × Bool × Int) :=
  if gx17 < (a0.length : Int) then bind1 (idx a0 gx17) fun x20 => if gb15 = true then m15_quirref_AskLock_K3 gx17 go1 gl11 gb15 gb16 x20.Item x20.Held x20.Queue else if a2 ≤ x20.Item then if a2 < x20.Item then bind1 (app gl11 ([(⟨a2, [(⟨a1, a3⟩ : TLock)], []⟩ : TLockItem)])) fun l48 => m15_quirref_AskLock_K3 gx17 go1 l48 true true x20.Item x20.Held x20.Queue else bind2 (m46_quirref_asked x20 (⟨a1, a3⟩ : TLock)) fun x52 b57 => m15_quirref_AskLock_K3 gx17 go1 gl11 true b57 x52.Item x52.Held x52.Queue else m15_quirref_AskLock_K3 gx17 go1 gl11 gb15 gb16 x20.Item x20.Held x20.Queue else m15_quirref_AskLock_K2 a2 a1 a3 gl11 gb15 gb16
def m15_quirref_AskLock_L1 (a0 : (List TLockItem)) (a2 : Int) (a1 : Int) (a3 : Int) : Nat → (List TLockItem) → Bool → Bool → Int → Option ((List TLockItem) × Bool × Int)
  | 0, _, _, _, _ => none
  | n + 1, gl11, gb15, gb16, gx17 => m15_quirref_AskLock_L1B (m15_quirref_AskLock_L1 a0 a2 a1 a3 n) a0 a2 a1 a3 gl11 gb15 gb16 gx17
def m15_quirref_AskLock_K1 (a0 : (List TLockItem)) (a2 : Int) (a1 : Int) (a3 : Int) : Option ((List TLockItem) × Bool × Int) :=
  m15_quirref_AskLock_L1 a0 a2 a1 a3 big [] false false 0
def m15_quirref_AskLock_L2B (go2 : Int → Option ((List TLockItem) × Bool × Int)) (a0 : (List TLockItem)) (a1 : Int) (a2 : Int) (a3 : Int) (gx35 : Int) : Option ((List TLockItem) × Bool × Int) :=
  if gx35 < (a0.length : Int) then bind1 (idx a0 gx35) fun x65 => bind1 (m37_quirref_holds x65.Queue a1) fun x67 => if 0 < x67 then some ([], false, 10) else bind1 (i64 (gx35 + 1)) fun x70 => go2 x70 else m15_quirref_AskLock_K1 a0 a2 a1 a3
def m15_quirref_AskLock_L2 (a0 : (List TLockItem)) (a1 : Int) (a2 : Int) (a3 : Int) : Nat → Int → Option ((List TLockItem) × Bool × Int)
  | 0, _ => none
  | n + 1, gx35 => m15_quirref_AskLock_L2B (m15_quirref_AskLock_L2 a0 a1 a2 a3 n) a0 a1 a2 a3 gx35
def m15_quirref_AskLock (a0 : (List TLockItem)) (a1 : Int) (a2 : Int) (a3 : Int) : Option ((List TLockItem) × Bool × Int) :=
  m15_quirref_AskLock_L2 a0 a1 a2 a3 big 0
def m3_quirlaw_LockSays_K8 (gx10 : Int) (x42 : Int) (gb11 : Bool) : Option Bool :=
  if gb11 = true then some (decide (gx10 = x42)) else some false
def m3_quirlaw_LockSays_K7 (a0 : (List TLockItem)) (a1 : Int) (a2 : Int) (a3 : Int) (gl3 : (List TLockItem)) (gx10 : Int) : Option Bool :=
  bind3 (m15_quirref_AskLock a0 a1 a2 a3) fun l36 b41 x42 => bind1 (m13_quirref_SameLocks gl3 l36) fun b49 => if b49 = true then if (false == b41) = true then m3_quirlaw_LockSays_K8 gx10 x42 true else m3_quirlaw_LockSays_K8 gx10 x42 false else m3_quirlaw_LockSays_K8 gx10 x42 false
def m3_quirlaw_LockSays_K9 (gl3 : (List TLockItem)) (gx10 : Int) (a0 : (List TLockItem)) (a1 : Int) (a2 : Int) (a3 : Int) (gb12 : Bool) : Option Bool :=
  if gb12 = true then if (gl3.length : Int) = 0 then some (decide (gx10 = 1)) else some false else m3_quirlaw_LockSays_K7 a0 a1 a2 a3 gl3 gx10
def m3_quirlaw_LockSays_K10 (gl3 : (List TLockItem)) (gx10 : Int) (a0 : (List TLockItem)) (a1 : Int) (a2 : Int) (a3 : Int) (gb13 : Bool) : Option Bool :=
  if gb13 = true then m3_quirlaw_LockSays_K9 gl3 gx10 a0 a1 a2 a3 true else if a3 < 1 then m3_quirlaw_LockSays_K9 gl3 gx10 a0 a1 a2 a3 true else if 5 < a3 then m3_quirlaw_LockSays_K9 gl3 gx10 a0 a1 a2 a3 true else m3_quirlaw_LockSays_K9 gl3 gx10 a0 a1 a2 a3 false
def m3_quirlaw_LockSays_K6 (a2 : Int) (gl3 : (List TLockItem)) (gx10 : Int) (a0 : (List TLockItem)) (a1 : Int) (a3 : Int) : Option Bool :=
  if a2 < 0 then m3_quirlaw_LockSays_K10 gl3 gx10 a0 a1 a2 a3 true else if 19 < a2 then m3_quirlaw_LockSays_K10 gl3 gx10 a0 a1 a2 a3 true else m3_quirlaw_LockSays_K10 gl3 gx10 a0 a1 a2 a3 false
def m3_quirlaw_LockSays_K11 (x11 : Int) (a2 : Int) (gl3 : (List TLockItem)) (gx10 : Int) (a0 : (List TLockItem)) (a1 : Int) (a3 : Int) (gb14 : Bool) : Option Bool :=
  if gb14 = true then some false else if x11 ≠ 0 then some false else m3_quirlaw_LockSays_K6 a2 gl3 gx10 a0 a1 a3
def m3_quirlaw_LockSays_K5 (a0 : (List TLockItem)) (a1 : Int) (l3 : (List TLockItem)) (l8 : (List Int)) (x11 : Int) (a2 : Int) (gl3 : (List TLockItem)) (gx10 : Int) (a3 : Int) : Option Bool :=
  bind2 (m12_quirref_DropLocks a0 a1) fun l22 l27 => bind1 (m13_quirref_SameLocks l3 l22) fun b58 => if b58 = true then bind1 (m14_slices_Equal_int l8 l27) fun b60 => if b60 = true then m3_quirlaw_LockSays_K11 x11 a2 gl3 gx10 a0 a1 a3 false else m3_quirlaw_LockSays_K11 x11 a2 gl3 gx10 a0 a1 a3 true else m3_quirlaw_LockSays_K11 x11 a2 gl3 gx10 a0 a1 a3 true
def m3_quirlaw_LockSays_K14 (x11 : Int) (gb17 : Bool) : Option Bool :=
  if gb17 = true then some (decide (x11 = 1)) else some false
def m3_quirlaw_LockSays_K13 (l3 : (List TLockItem)) (l8 : (List Int)) (x11 : Int) (gb16 : Bool) : Option Bool :=
  if gb16 = true then if (l3.length : Int) = 0 then if (l8.length : Int) = 0 then m3_quirlaw_LockSays_K14 x11 true else m3_quirlaw_LockSays_K14 x11 false else m3_quirlaw_LockSays_K14 x11 false else some false
def m3_quirlaw_LockSays_K12 (gl3 : (List TLockItem)) (gx10 : Int) (l3 : (List TLockItem)) (l8 : (List Int)) (x11 : Int) (a0 : (List TLockItem)) (a1 : Int) (a2 : Int) (a3 : Int) (gb15 : Bool) : Option Bool :=
  if gb15 = true then if (gl3.length : Int) = 0 then if gx10 = 1 then m3_quirlaw_LockSays_K13 l3 l8 x11 true else m3_quirlaw_LockSays_K13 l3 l8 x11 false else m3_quirlaw_LockSays_K13 l3 l8 x11 false else m3_quirlaw_LockSays_K5 a0 a1 l3 l8 x11 a2 gl3 gx10 a3
def m3_quirlaw_LockSays_K4 (a1 : Int) (gl3 : (List TLockItem)) (gx10 : Int) (l3 : (List TLockItem)) (l8 : (List Int)) (x11 : Int) (a0 : (List TLockItem)) (a2 : Int) (a3 : Int) : Option Bool :=
  if a1 < 0 then m3_quirlaw_LockSays_K12 gl3 gx10 l3 l8 x11 a0 a1 a2 a3 true else if 11 < a1 then m3_quirlaw_LockSays_K12 gl3 gx10 l3 l8 x11 a0 a1 a2 a3 true else m3_quirlaw_LockSays_K12 gl3 gx10 l3 l8 x11 a0 a1 a2 a3 false
def m3_quirlaw_LockSays_K3 (a0 : (List TLockItem)) (l18 : (List TEdge)) (x20 : Int) (a1 : Int) (gl3 : (List TLockItem)) (gx10 : Int) (l3 : (List TLockItem)) (l8 : (List Int)) (x11 : Int) (a2 : Int) (a3 : Int) : Option Bool :=
  bind1 (m11_quirref_WaitEdges a0) fun l68 => bind1 (m10_api_Edge l18 l68) fun b71 => if b71 = true then if x20 ≠ 0 then some false else m3_quirlaw_LockSays_K4 a1 gl3 gx10 l3 l8 x11 a0 a2 a3 else some false
def m3_quirlaw_LockSays_K17 (x20 : Int) (x1 : Int) (gb20 : Bool) : Option Bool :=
  if gb20 = true then some (decide (x20 = x1)) else some false
def m3_quirlaw_LockSays_K16 (x11 : Int) (x1 : Int) (l18 : (List TEdge)) (x20 : Int) (gb19 : Bool) : Option Bool :=
  if gb19 = true then if x11 = x1 then if (l18.length : Int) = 0 then m3_quirlaw_LockSays_K17 x20 x1 true else m3_quirlaw_LockSays_K17 x20 x1 false else m3_quirlaw_LockSays_K17 x20 x1 false else some false
def m3_quirlaw_LockSays_K15 (l3 : (List TLockItem)) (l8 : (List Int)) (x11 : Int) (x1 : Int) (l18 : (List TEdge)) (x20 : Int) (gb18 : Bool) : Option Bool :=
  if gb18 = true then if (l3.length : Int) = 0 then if (l8.length : Int) = 0 then m3_quirlaw_LockSays_K16 x11 x1 l18 x20 true else m3_quirlaw_LockSays_K16 x11 x1 l18 x20 false else m3_quirlaw_LockSays_K16 x11 x1 l18 x20 false else some false
def m3_quirlaw_LockSays_K2 (x1 : Int) (gl3 : (List TLockItem)) (gx10 : Int) (l3 : (List TLockItem)) (l8 : (List Int)) (x11 : Int) (l18 : (List TEdge)) (x20 : Int) (a0 : (List TLockItem)) (a1 : Int) (a2 : Int) (a3 : Int) : Option Bool :=
  if x1 ≠ 0 then if (gl3.length : Int) = 0 then if gx10 = x1 then m3_quirlaw_LockSays_K15 l3 l8 x11 x1 l18 x20 true else m3_quirlaw_LockSays_K15 l3 l8 x11 x1 l18 x20 false else m3_quirlaw_LockSays_K15 l3 l8 x11 x1 l18 x20 false else m3_quirlaw_LockSays_K3 a0 l18 x20 a1 gl3 gx10 l3 l8 x11 a2 a3
def m3_quirlaw_LockSays_K24 (gx10 : Int) (x123 : Int) (gb21 : Bool) : Option Bool :=
  if gb21 = true then some (decide (gx10 = x123)) else some false
def m3_quirlaw_LockSays_K23 (a0 : (List TLockItem)) (a1 : Int) (a2 : Int) (a3 : Int) (gl3 : (List TLockItem)) (gx10 : Int) : Option Bool :=
  bind3 (m15_quirref_AskLock a0 a1 a2 a3) fun l117 b122 x123 => bind1 (m13_quirref_SameLocks gl3 l117) fun b130 => if b130 = true then if (true == b122) = true then m3_quirlaw_LockSays_K24 gx10 x123 true else m3_quirlaw_LockSays_K24 gx10 x123 false else m3_quirlaw_LockSays_K24 gx10 x123 false
def m3_quirlaw_LockSays_K25 (gl3 : (List TLockItem)) (a0 : (List TLockItem)) (a1 : Int) (a2 : Int) (a3 : Int) (gx10 : Int) (gb22 : Bool) : Option Bool :=
  if gb22 = true then if (gl3.length : Int) = 0 then some false else some false else m3_quirlaw_LockSays_K23 a0 a1 a2 a3 gl3 gx10
def m3_quirlaw_LockSays_K26 (gl3 : (List TLockItem)) (a0 : (List TLockItem)) (a1 : Int) (a2 : Int) (a3 : Int) (gx10 : Int) (gb23 : Bool) : Option Bool :=
  if gb23 = true then m3_quirlaw_LockSays_K25 gl3 a0 a1 a2 a3 gx10 true else if a3 < 1 then m3_quirlaw_LockSays_K25 gl3 a0 a1 a2 a3 gx10 true else if 5 < a3 then m3_quirlaw_LockSays_K25 gl3 a0 a1 a2 a3 gx10 true else m3_quirlaw_LockSays_K25 gl3 a0 a1 a2 a3 gx10 false
def m3_quirlaw_LockSays_K22 (a2 : Int) (gl3 : (List TLockItem)) (a0 : (List TLockItem)) (a1 : Int) (a3 : Int) (gx10 : Int) : Option Bool :=
  if a2 < 0 then m3_quirlaw_LockSays_K26 gl3 a0 a1 a2 a3 gx10 true else if 19 < a2 then m3_quirlaw_LockSays_K26 gl3 a0 a1 a2 a3 gx10 true else m3_quirlaw_LockSays_K26 gl3 a0 a1 a2 a3 gx10 false
def m3_quirlaw_LockSays_K27 (x92 : Int) (a2 : Int) (gl3 : (List TLockItem)) (a0 : (List TLockItem)) (a1 : Int) (a3 : Int) (gx10 : Int) (gb24 : Bool) : Option Bool :=
  if gb24 = true then some false else if x92 ≠ 0 then some false else m3_quirlaw_LockSays_K22 a2 gl3 a0 a1 a3 gx10
def m3_quirlaw_LockSays_K21 (a0 : (List TLockItem)) (a1 : Int) (l84 : (List TLockItem)) (l89 : (List Int)) (x92 : Int) (a2 : Int) (gl3 : (List TLockItem)) (a3 : Int) (gx10 : Int) : Option Bool :=
  bind2 (m12_quirref_DropLocks a0 a1) fun l103 l108 => bind1 (m13_quirref_SameLocks l84 l103) fun b139 => if b139 = true then bind1 (m14_slices_Equal_int l89 l108) fun b141 => if b141 = true then m3_quirlaw_LockSays_K27 x92 a2 gl3 a0 a1 a3 gx10 false else m3_quirlaw_LockSays_K27 x92 a2 gl3 a0 a1 a3 gx10 true else m3_quirlaw_LockSays_K27 x92 a2 gl3 a0 a1 a3 gx10 true
def m3_quirlaw_LockSays_K28 (gl3 : (List TLockItem)) (a0 : (List TLockItem)) (a1 : Int) (l84 : (List TLockItem)) (l89 : (List Int)) (x92 : Int) (a2 : Int) (a3 : Int) (gx10 : Int) (gb25 : Bool) : Option Bool :=
  if gb25 = true then if (gl3.length : Int) = 0 then some false else some false else m3_quirlaw_LockSays_K21 a0 a1 l84 l89 x92 a2 gl3 a3 gx10
def m3_quirlaw_LockSays_K20 (a1 : Int) (gl3 : (List TLockItem)) (a0 : (List TLockItem)) (l84 : (List TLockItem)) (l89 : (List Int)) (x92 : Int) (a2 : Int) (a3 : Int) (gx10 : Int) : Option Bool :=
  if a1 < 0 then m3_quirlaw_LockSays_K28 gl3 a0 a1 l84 l89 x92 a2 a3 gx10 true else if 11 < a1 then m3_quirlaw_LockSays_K28 gl3 a0 a1 l84 l89 x92 a2 a3 gx10 true else m3_quirlaw_LockSays_K28 gl3 a0 a1 l84 l89 x92 a2 a3 gx10 false
def m3_quirlaw_LockSays_K19 (a0 : (List TLockItem)) (l99 : (List TEdge)) (x101 : Int) (a1 : Int) (gl3 : (List TLockItem)) (l84 : (List TLockItem)) (l89 : (List Int)) (x92 : Int) (a2 : Int) (a3 : Int) (gx10 : Int) : Option Bool :=
  bind1 (m11_quirref_WaitEdges a0) fun l146 => bind1 (m10_api_Edge l99 l146) fun b149 => if b149 = true then if x101 ≠ 0 then some false else m3_quirlaw_LockSays_K20 a1 gl3 a0 l84 l89 x92 a2 a3 gx10 else some false
def m3_quirlaw_LockSays_K18 (x1 : Int) (gl3 : (List TLockItem)) (a0 : (List TLockItem)) (l99 : (List TEdge)) (x101 : Int) (a1 : Int) (l84 : (List TLockItem)) (l89 : (List Int)) (x92 : Int) (a2 : Int) (a3 : Int) (gx10 : Int) : Option Bool :=
  if x1 ≠ 0 then if (gl3.length : Int) = 0 then some false else some false else m3_quirlaw_LockSays_K19 a0 l99 x101 a1 gl3 l84 l89 x92 a2 a3 gx10
def m3_quirlaw_LockSays_K1 (a0 : (List TLockItem)) (a1 : Int) (x1 : Int) (a2 : Int) (a3 : Int) (gl3 : (List TLockItem)) (gb9 : Bool) (gx10 : Int) : Option Bool :=
  if gb9 = true then bind3 (m7_lock_Drop a0 a1) fun l84 l89 x92 => bind2 (m8_lock_Waits a0) fun l99 x101 => bind1 (m9_lock_Check a0) fun x154 => if x154 ≠ x1 then some false else m3_quirlaw_LockSays_K18 x1 gl3 a0 l99 x101 a1 l84 l89 x92 a2 a3 gx10 else bind3 (m7_lock_Drop a0 a1) fun l3 l8 x11 => bind2 (m8_lock_Waits a0) fun l18 x20 => bind1 (m9_lock_Check a0) fun x81 => if x81 ≠ x1 then some false else m3_quirlaw_LockSays_K2 x1 gl3 gx10 l3 l8 x11 l18 x20 a0 a1 a2 a3
def m3_quirlaw_LockSays (a0 : (List TLockItem)) (a1 : Int) (a2 : Int) (a3 : Int) : Option Bool :=
  bind1 (m5_quirref_LocksErr a0) fun x1 => bind3 (m6_lock_Ask a0 a1 a2 a3) fun l157 b162 x163 => if b162 = true then m3_quirlaw_LockSays_K1 a0 a1 x1 a2 a3 l157 true x163 else m3_quirlaw_LockSays_K1 a0 a1 x1 a2 a3 l157 false x163
end Go.Proofs.Ytgkdimboofglfaa
