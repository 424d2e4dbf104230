/-
  Models, printed by a program of mine.
  Conditions: none.
-/
import Derived.Test.YtfmgjigdebofaaaT
namespace Go.Proofs.Ytfmgjigdebofaaa
open Go.S
set_option linter.unusedVariables false
def m24_fold_Sum_K1 (gx1 : Int) (gx2 : Int) : Option Int :=
  bind1 (shlW .u32 gx2 16) fun x1 => some (Go.bits .or .u32 x1 gx1)
def m24_fold_Sum_L1B (go1 : Int → Int → Int → Option Int) (a0 : (List UInt8)) (gx3 : Int) (gx4 : Int) (gx5 : Int) : Option Int :=
  if gx5 < (a0.length : Int) then bind1 (idxS a0 gx5) fun x3 => bind1 (modW (IntKind.wrap .u32 (gx3 + (IntKind.wrap .u32 x3))) 65521) fun x4 => bind1 (modW (IntKind.wrap .u32 (gx4 + x4)) 65521) fun x5 => bind1 (i64 (gx5 + 1)) fun x6 => go1 x4 x5 x6 else m24_fold_Sum_K1 gx3 gx4
def m24_fold_Sum_L1 (a0 : (List UInt8)) : Nat → Int → Int → Int → Option Int
  | 0, _, _, _ => none
  | n + 1, gx3, gx4, gx5 => m24_fold_Sum_L1B (m24_fold_Sum_L1 a0 n) a0 gx3 gx4 gx5
def m24_fold_Sum (a0 : (List UInt8)) : Option Int :=
  m24_fold_Sum_L1 a0 big 1 0 0
def m19_fold_Put_K1 (a0 : (List UInt8)) : Option ((List UInt8) × Int) :=
  bind1 (m24_fold_Sum a0) fun x1 => bind1 (shrW .u32 x1 24) fun x3 => bind1 (shrW .u32 x1 16) fun x4 => bind1 (shrW .u32 x1 8) fun x5 => bind1 (catS a0 (bytesOf ([IntKind.wrap .u8 x3, IntKind.wrap .u8 x4, IntKind.wrap .u8 x5, IntKind.wrap .u8 x1]))) fun s7 => some (s7, 0)
def m19_fold_Put (a0 : (List UInt8)) : Option ((List UInt8) × Int) :=
  if 4096 < (a0.length : Int) then some ([], 2) else m19_fold_Put_K1 a0
def m25_quirref_Fold_K1 (gx1 : Int) (gx2 : Int) : Option Int :=
  bind1 (modW gx2 65521) fun x1 => bind1 (modW gx1 65521) fun x2 => some (IntKind.wrap .u32 (IntKind.wrap .u64 ((IntKind.wrap .u64 (x1 * 65536)) + x2)))
def m25_quirref_Fold_L1B (go1 : Int → Int → Int → Option Int) (a0 : (List UInt8)) (gx3 : Int) (gx4 : Int) (gx5 : Int) : Option Int :=
  if gx5 < (a0.length : Int) then bind1 (idxS a0 gx5) fun x4 => bind1 (idxS a0 gx5) fun x5 => bind1 (i64 ((a0.length : Int) - gx5)) fun x6 => bind1 (i64 (gx5 + 1)) fun x7 => go1 (IntKind.wrap .u64 (gx3 + (IntKind.wrap .u64 x4))) (IntKind.wrap .u64 (gx4 + (IntKind.wrap .u64 ((IntKind.wrap .u64 x5) * (IntKind.wrap .u64 x6))))) x7 else m25_quirref_Fold_K1 gx3 gx4
def m25_quirref_Fold_L1 (a0 : (List UInt8)) : Nat → Int → Int → Int → Option Int
  | 0, _, _, _ => none
  | n + 1, gx3, gx4, gx5 => m25_quirref_Fold_L1B (m25_quirref_Fold_L1 a0 n) a0 gx3 gx4 gx5
def m25_quirref_Fold (a0 : (List UInt8)) : Option Int :=
  m25_quirref_Fold_L1 a0 big 1 (IntKind.wrap .u64 (a0.length : Int)) 0
def m20_quirref_FoldPut_K1 (a0 : (List UInt8)) : Option ((List UInt8) × Int) :=
  bind1 (m25_quirref_Fold a0) fun x1 => bind1 (divW .u32 x1 16777216) fun x3 => bind1 (divW .u32 x1 65536) fun x4 => bind1 (modW x4 256) fun x5 => bind1 (divW .u32 x1 256) fun x6 => bind1 (modW x6 256) fun x7 => bind1 (modW x1 256) fun x8 => bind1 (catS a0 (bytesOf ([IntKind.wrap .u8 x3, IntKind.wrap .u8 x5, IntKind.wrap .u8 x7, IntKind.wrap .u8 x8]))) fun s10 => some (s10, 0)
def m20_quirref_FoldPut (a0 : (List UInt8)) : Option ((List UInt8) × Int) :=
  if 4096 < (a0.length : Int) then some ([], 2) else m20_quirref_FoldPut_K1 a0
def m21_fold_Get_K2 (a0 : (List UInt8)) (x1 : Int) : Option ((List UInt8) × Int) :=
  bind1 (cut a0 0 x1) fun s2 => bind2 (m19_fold_Put s2) fun s3 x4 => if s3 ≠ a0 then some ([], 5) else bind1 (cut a0 0 x1) fun s7 => some (s7, 0)
def m21_fold_Get_K1 (x1 : Int) (a0 : (List UInt8)) : Option ((List UInt8) × Int) :=
  if 4096 < x1 then some ([], 2) else m21_fold_Get_K2 a0 x1
def m21_fold_Get (a0 : (List UInt8)) : Option ((List UInt8) × Int) :=
  bind1 (i64 ((a0.length : Int) - 4)) fun x1 => if x1 < 0 then some ([], 3) else m21_fold_Get_K1 x1 a0
def m22_quirref_FoldGet_K1 (a0 : (List UInt8)) : Option ((List UInt8) × Int) :=
  bind1 (i64 ((a0.length : Int) - 4)) fun x1 => bind1 (cut a0 0 x1) fun s2 => bind2 (m20_quirref_FoldPut s2) fun s3 x4 => if s3 ≠ a0 then some ([], 5) else bind1 (i64 ((a0.length : Int) - 4)) fun x7 => bind1 (cut a0 0 x7) fun s8 => some (s8, 0)
def m22_quirref_FoldGet (a0 : (List UInt8)) : Option ((List UInt8) × Int) :=
  if (a0.length : Int) < 4 then some ([], 3) else if 4100 < (a0.length : Int) then some ([], 2) else m22_quirref_FoldGet_K1 a0
def m23_fold_Join_K1 (a0 : Int) (a1 : Int) (a2 : Int) : Option (Int × Int) :=
  bind1 (modW (IntKind.wrap .u32 ((IntKind.wrap .u32 ((Go.bits .and .u32 a0 65535) + 65521)) - 1)) 65521) fun x1 => bind1 (modW (IntKind.wrap .u32 (x1 + (Go.bits .and .u32 a1 65535))) 65521) fun x2 => bind1 (shrW .u32 a0 16) fun x3 => bind1 (shrW .u32 a1 16) fun x4 => bind1 (modW (IntKind.wrap .u64 ((IntKind.wrap .u64 ((IntKind.wrap .u64 x3) + (IntKind.wrap .u64 x4))) + (IntKind.wrap .u64 ((IntKind.wrap .u64 x1) * (IntKind.wrap .u64 a2))))) 65521) fun x5 => bind1 (shlW .u32 (IntKind.wrap .u32 x5) 16) fun x6 => some (Go.bits .or .u32 x6 x2, 0)
def m23_fold_Join_K3 (a1 : Int) (a0 : Int) (a2 : Int) (gb2 : Bool) : Option (Int × Int) :=
  if gb2 = true then some (0, 1) else if 65521 ≤ (Go.bits .and .u32 a1 65535) then some (0, 1) else bind1 (shrW .u32 a1 16) fun x8 => if 65521 ≤ x8 then some (0, 1) else m23_fold_Join_K1 a0 a1 a2
def m23_fold_Join_K2 (a0 : Int) (a1 : Int) (a2 : Int) (gb1 : Bool) : Option (Int × Int) :=
  if gb1 = true then some (0, 1) else if 65521 ≤ (Go.bits .and .u32 a0 65535) then m23_fold_Join_K3 a1 a0 a2 true else bind1 (shrW .u32 a0 16) fun x11 => if 65521 ≤ x11 then m23_fold_Join_K3 a1 a0 a2 true else m23_fold_Join_K3 a1 a0 a2 false
def m23_fold_Join (a0 : Int) (a1 : Int) (a2 : Int) : Option (Int × Int) :=
  if a2 < 0 then m23_fold_Join_K2 a0 a1 a2 true else if 4096 < a2 then m23_fold_Join_K2 a0 a1 a2 true else m23_fold_Join_K2 a0 a1 a2 false
def m26_quirref_Rest (a0 : Int) (a1 : Int) : Option Int :=
  if a1 ≤ 0 then some 0 else bind1 (modW a0 a1) fun x2 => bind1 (i64 (x2 + a1)) fun x3 => bind1 (modW x3 a1) fun x4 => some x4
def m5_quirlaw_FoldSays_K2 (a1 : Int) (a2 : Int) (a3 : Int) (x13 : Int) (x14 : Int) : Option Bool :=
  bind1 (modW a1 65536) fun x16 => bind1 (i64 ((IntKind.wrap .i64 x16) - 1)) fun x17 => bind1 (modW a2 65536) fun x18 => bind1 (i64 (x17 + (IntKind.wrap .i64 x18))) fun x19 => bind1 (m26_quirref_Rest x19 65521) fun x20 => bind1 (divW .u32 a1 65536) fun x22 => bind1 (divW .u32 a2 65536) fun x23 => bind1 (i64 ((IntKind.wrap .i64 x22) + (IntKind.wrap .i64 x23))) fun x24 => bind1 (m26_quirref_Rest x17 65521) fun x25 => bind1 (i64 (x25 * a3)) fun x27 => bind1 (i64 (x24 + x27)) fun x28 => bind1 (m26_quirref_Rest x28 65521) fun x29 => bind1 (i64 (x29 * 65536)) fun x31 => bind1 (i64 (x31 + x20)) fun x32 => if (IntKind.wrap .i64 x13) = x32 then some (decide (x14 = 0)) else some false
def m5_quirlaw_FoldSays_K3 (x13 : Int) (x14 : Int) (a1 : Int) (a2 : Int) (a3 : Int) (gb1 : Bool) : Option Bool :=
  if gb1 = true then if x13 = 0 then some (decide (x14 = 1)) else some false else m5_quirlaw_FoldSays_K2 a1 a2 a3 x13 x14
def m5_quirlaw_FoldSays_K4 (x13 : Int) (x14 : Int) (a1 : Int) (a2 : Int) (a3 : Int) (gb2 : Bool) : Option Bool :=
  if gb2 = true then m5_quirlaw_FoldSays_K3 x13 x14 a1 a2 a3 true else bind1 (divW .u32 a1 65536) fun x35 => bind1 (modW a1 65536) fun x36 => bind1 (divW .u32 a2 65536) fun x37 => bind1 (modW a2 65536) fun x38 => if 65520 < (max (max (max x35 x36) x37) x38) then m5_quirlaw_FoldSays_K3 x13 x14 a1 a2 a3 true else m5_quirlaw_FoldSays_K3 x13 x14 a1 a2 a3 false
def m5_quirlaw_FoldSays_K1 (a3 : Int) (x13 : Int) (x14 : Int) (a1 : Int) (a2 : Int) : Option Bool :=
  if a3 < 0 then m5_quirlaw_FoldSays_K4 x13 x14 a1 a2 a3 true else if 4096 < a3 then m5_quirlaw_FoldSays_K4 x13 x14 a1 a2 a3 true else m5_quirlaw_FoldSays_K4 x13 x14 a1 a2 a3 false
def m5_quirlaw_FoldSays_K6 (x8 : Int) (x11 : Int) (a3 : Int) (x13 : Int) (x14 : Int) (a1 : Int) (a2 : Int) (gb4 : Bool) : Option Bool :=
  if gb4 = true then some false else if x8 ≠ x11 then some false else m5_quirlaw_FoldSays_K1 a3 x13 x14 a1 a2
def m5_quirlaw_FoldSays_K5 (x2 : Int) (x5 : Int) (x8 : Int) (x11 : Int) (a3 : Int) (x13 : Int) (x14 : Int) (a1 : Int) (a2 : Int) (s7 : (List UInt8)) (s10 : (List UInt8)) (gb3 : Bool) : Option Bool :=
  if gb3 = true then some false else if x2 ≠ x5 then m5_quirlaw_FoldSays_K6 x8 x11 a3 x13 x14 a1 a2 true else if s7 ≠ s10 then m5_quirlaw_FoldSays_K6 x8 x11 a3 x13 x14 a1 a2 true else m5_quirlaw_FoldSays_K6 x8 x11 a3 x13 x14 a1 a2 false
def m5_quirlaw_FoldSays (a0 : (List UInt8)) (a1 : Int) (a2 : Int) (a3 : Int) : Option Bool :=
  bind2 (m19_fold_Put a0) fun s1 x2 => bind2 (m20_quirref_FoldPut a0) fun s4 x5 => bind2 (m21_fold_Get a0) fun s7 x8 => bind2 (m22_quirref_FoldGet a0) fun s10 x11 => bind2 (m23_fold_Join a1 a2 a3) fun x13 x14 => bind1 (m24_fold_Sum a0) fun x45 => bind1 (m25_quirref_Fold a0) fun x47 => if x45 ≠ x47 then m5_quirlaw_FoldSays_K5 x2 x5 x8 x11 a3 x13 x14 a1 a2 s7 s10 true else if s1 ≠ s4 then m5_quirlaw_FoldSays_K5 x2 x5 x8 x11 a3 x13 x14 a1 a2 s7 s10 true else m5_quirlaw_FoldSays_K5 x2 x5 x8 x11 a3 x13 x14 a1 a2 s7 s10 false
end Go.Proofs.Ytfmgjigdebofaaa
