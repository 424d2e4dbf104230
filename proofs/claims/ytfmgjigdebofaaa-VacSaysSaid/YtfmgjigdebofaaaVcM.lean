/-
  Models, printed by a program of mine.
  Conditions: none.
-/
import Derived.Test.YtfmgjigdebofaaaH
namespace Go.Proofs.Ytfmgjigdebofaaa
open Go.S
set_option linter.unusedVariables false
structure TVersion where
  At : Int
  Text : (List UInt8)
  deriving DecidableEq
def TVersion.row (x : TVersion) : List Value := [.int .i64 x.At, st x.Text]
def m44_quirref_VacErr_K4 : Option Int :=
  some 0
def m44_quirref_VacErr_L1B (go1 : Int → Option Int) (a1 : (List Int)) (a2 : Int) (gx1 : Int) : Option Int :=
  if gx1 < (a1.length : Int) then bind1 (idx a1 gx1) fun x2 => if x2 < 0 then some 1 else if a2 < x2 then some 1 else bind1 (i64 (gx1 + 1)) fun x5 => go1 x5 else m44_quirref_VacErr_K4
def m44_quirref_VacErr_L1 (a1 : (List Int)) (a2 : Int) : Nat → Int → Option Int
  | 0, _ => none
  | n + 1, gx1 => m44_quirref_VacErr_L1B (m44_quirref_VacErr_L1 a1 a2 n) a1 a2 gx1
def m44_quirref_VacErr_K3 (a1 : (List Int)) (a2 : Int) : Option Int :=
  m44_quirref_VacErr_L1 a1 a2 big 0
def m44_quirref_VacErr_K5 (a2 : Int) (x7 : TVersion) (gx2 : Int) (go2 : Int → Option Int) (gb3 : Bool) : Option Int :=
  if gb3 = true then some 4 else if a2 < x7.At then some 4 else bind1 (i64 (gx2 + 1)) fun x10 => go2 x10
def m44_quirref_VacErr_L2B (go2 : Int → Option Int) (a0 : (List TVersion)) (a2 : Int) (a1 : (List Int)) (gx2 : Int) : Option Int :=
  if gx2 < (a0.length : Int) then bind1 (idx a0 gx2) fun x7 => if x7.At < 1 then m44_quirref_VacErr_K5 a2 x7 gx2 go2 true else if 0 < gx2 then bind1 (i64 (gx2 - 1)) fun x13 => bind1 (idx a0 x13) fun x14 => if x7.At ≤ x14.At then m44_quirref_VacErr_K5 a2 x7 gx2 go2 true else m44_quirref_VacErr_K5 a2 x7 gx2 go2 false else m44_quirref_VacErr_K5 a2 x7 gx2 go2 false else m44_quirref_VacErr_K3 a1 a2
def m44_quirref_VacErr_L2 (a0 : (List TVersion)) (a2 : Int) (a1 : (List Int)) : Nat → Int → Option Int
  | 0, _ => none
  | n + 1, gx2 => m44_quirref_VacErr_L2B (m44_quirref_VacErr_L2 a0 a2 a1 n) a0 a2 a1 gx2
def m44_quirref_VacErr_K2 (a0 : (List TVersion)) (a2 : Int) (a1 : (List Int)) : Option Int :=
  m44_quirref_VacErr_L2 a0 a2 a1 big 0
def m44_quirref_VacErr_K1 (a2 : Int) (a0 : (List TVersion)) (a1 : (List Int)) : Option Int :=
  if a2 < 0 then some 1 else m44_quirref_VacErr_K2 a0 a2 a1
def m44_quirref_VacErr (a0 : (List TVersion)) (a1 : (List Int)) (a2 : Int) : Option Int :=
  if 100 < (a0.length : Int) then some 2 else if 12 < (a1.length : Int) then some 2 else m44_quirref_VacErr_K1 a2 a0 a1
def m48_vac_Check_K4 : Option Int :=
  some 0
def m48_vac_Check_L1B (go1 : Int → Option Int) (a1 : (List Int)) (a2 : Int) (gx1 : Int) : Option Int :=
  if gx1 < (a1.length : Int) then bind1 (idx a1 gx1) fun x2 => if x2 < 0 then some 1 else if a2 < x2 then some 1 else bind1 (i64 (gx1 + 1)) fun x5 => go1 x5 else m48_vac_Check_K4
def m48_vac_Check_L1 (a1 : (List Int)) (a2 : Int) : Nat → Int → Option Int
  | 0, _ => none
  | n + 1, gx1 => m48_vac_Check_L1B (m48_vac_Check_L1 a1 a2 n) a1 a2 gx1
def m48_vac_Check_K3 (a1 : (List Int)) (a2 : Int) : Option Int :=
  m48_vac_Check_L1 a1 a2 big 0
def m48_vac_Check_L2B (go2 : Int → Int → Option Int) (a0 : (List TVersion)) (a2 : Int) (a1 : (List Int)) (gx2 : Int) (gx3 : Int) : Option Int :=
  if gx3 < (a0.length : Int) then bind1 (idx a0 gx3) fun x7 => if x7.At ≤ gx2 then some 4 else if a2 < x7.At then some 4 else bind1 (i64 (gx3 + 1)) fun x11 => go2 x7.At x11 else m48_vac_Check_K3 a1 a2
def m48_vac_Check_L2 (a0 : (List TVersion)) (a2 : Int) (a1 : (List Int)) : Nat → Int → Int → Option Int
  | 0, _, _ => none
  | n + 1, gx2, gx3 => m48_vac_Check_L2B (m48_vac_Check_L2 a0 a2 a1 n) a0 a2 a1 gx2 gx3
def m48_vac_Check_K2 (a0 : (List TVersion)) (a2 : Int) (a1 : (List Int)) : Option Int :=
  m48_vac_Check_L2 a0 a2 a1 big 0 0
def m48_vac_Check_K1 (a2 : Int) (a0 : (List TVersion)) (a1 : (List Int)) : Option Int :=
  if a2 < 0 then some 1 else m48_vac_Check_K2 a0 a2 a1
def m48_vac_Check (a0 : (List TVersion)) (a1 : (List Int)) (a2 : Int) : Option Int :=
  if 100 < (a0.length : Int) then some 2 else if 12 < (a1.length : Int) then some 2 else m48_vac_Check_K1 a2 a0 a1
def m104_slices_Clone_int (a0 : (List Int)) : Option (List Int) :=
  bind1 (app [] a0) fun l3 => some l3
def m147_vac_at_1 (a0 : TVersion) (a1 : Int) : Option Int :=
  if a0.At ≤ a1 then some (-1) else some 1
def m105_vac_at_K1 (gx1 : Int) (gb2 : Bool) : Option Int :=
  bind1 (i64 (gx1 - 1)) fun x1 => some x1
def m105_vac_at_K3 (gx3 : Int) (gx4 : Int) : Option Int :=
  m105_vac_at_K1 gx3 (decide (gx4 = 0))
def m105_vac_at_K2 (a0 : (List TVersion)) (a1 : Int) (gx3 : Int) : Option Int :=
  if gx3 < (a0.length : Int) then bind1 (idx a0 gx3) fun x3 => if x3.At ≤ a1 then m105_vac_at_K3 gx3 (-1) else m105_vac_at_K3 gx3 1 else m105_vac_at_K1 gx3 false
def m105_vac_at_K5 (x7 : Int) (go1 : Int → Int → Option Int) (gx6 : Int) (gx5 : Int) (gx7 : Int) : Option Int :=
  if gx7 < 0 then bind1 (i64 ((IntKind.wrap .i64 x7) + 1)) fun x10 => go1 x10 gx6 else go1 gx5 (IntKind.wrap .i64 x7)
def m105_vac_at_K4 (gx5 : Int) (gx6 : Int) (a0 : (List TVersion)) (a1 : Int) (go1 : Int → Int → Option Int) : Option Int :=
  bind1 (i64 (gx5 + gx6)) fun x6 => bind1 (shrW .u64 (IntKind.wrap .u64 x6) 1) fun x7 => bind1 (idx a0 (IntKind.wrap .i64 x7)) fun x8 => if x8.At ≤ a1 then m105_vac_at_K5 x7 go1 gx6 gx5 (-1) else m105_vac_at_K5 x7 go1 gx6 gx5 1
def m105_vac_at_L1B (go1 : Int → Int → Option Int) (a0 : (List TVersion)) (a1 : Int) (gx5 : Int) (gx6 : Int) : Option Int :=
  if gx5 < gx6 then m105_vac_at_K4 gx5 gx6 a0 a1 go1 else m105_vac_at_K2 a0 a1 gx5
def m105_vac_at_L1 (a0 : (List TVersion)) (a1 : Int) : Nat → Int → Int → Option Int
  | 0, _, _ => none
  | n + 1, gx5, gx6 => m105_vac_at_L1B (m105_vac_at_L1 a0 a1 n) a0 a1 gx5 gx6
def m105_vac_at (a0 : (List TVersion)) (a1 : Int) : Option Int :=
  m105_vac_at_L1 a0 a1 big 0 (a0.length : Int)
def m45_vac_Keep_K3 (gl3 : (List TVersion)) : Option ((List TVersion) × Int) :=
  some (gl3, 0)
def m45_vac_Keep_L1B (go1 : (List TVersion) → Int → Option ((List TVersion) × Int)) (a0 : (List TVersion)) (gl1 : (List (Int × Int))) (gl5 : (List TVersion)) (gx6 : Int) : Option ((List TVersion) × Int) :=
  if gx6 < (a0.length : Int) then bind1 (idx a0 gx6) fun x3 => if 0 < (mget gl1 gx6) then bind1 (app gl5 ([x3])) fun l8 => bind1 (i64 (gx6 + 1)) fun x9 => go1 l8 x9 else bind1 (i64 (gx6 + 1)) fun x10 => go1 gl5 x10 else m45_vac_Keep_K3 gl5
def m45_vac_Keep_L1 (a0 : (List TVersion)) (gl1 : (List (Int × Int))) : Nat → (List TVersion) → Int → Option ((List TVersion) × Int)
  | 0, _, _ => none
  | n + 1, gl5, gx6 => m45_vac_Keep_L1B (m45_vac_Keep_L1 a0 gl1 n) a0 gl1 gl5 gx6
def m45_vac_Keep_K2 (a0 : (List TVersion)) (gl1 : (List (Int × Int))) : Option ((List TVersion) × Int) :=
  m45_vac_Keep_L1 a0 gl1 big [] 0
def m45_vac_Keep_L2B (go2 : Int → (List (Int × Int)) → Option ((List TVersion) × Int)) (l16 : (List Int)) (a0 : (List TVersion)) (gx7 : Int) (gl8 : (List (Int × Int))) : Option ((List TVersion) × Int) :=
  if gx7 < (l16.length : Int) then bind1 (idx l16 gx7) fun x18 => bind1 (m105_vac_at a0 x18) fun x19 => bind1 (i64 ((mget gl8 x19) + 1)) fun x21 => bind1 (some (mset gl8 x19 x21)) fun l22 => bind1 (i64 (gx7 + 1)) fun x23 => go2 x23 (mset gl8 x19 x21) else m45_vac_Keep_K2 a0 gl8
def m45_vac_Keep_L2 (l16 : (List Int)) (a0 : (List TVersion)) : Nat → Int → (List (Int × Int)) → Option ((List TVersion) × Int)
  | 0, _, _ => none
  | n + 1, gx7, gl8 => m45_vac_Keep_L2B (m45_vac_Keep_L2 l16 a0 n) l16 a0 gx7 gl8
def m45_vac_Keep_K1 (a1 : (List Int)) (a2 : Int) (a0 : (List TVersion)) : Option ((List TVersion) × Int) :=
  bind1 (m104_slices_Clone_int a1) fun l11 => bind1 (app l11 ([a2])) fun l16 => m45_vac_Keep_L2 l16 a0 big 0 []
def m45_vac_Keep (a0 : (List TVersion)) (a1 : (List Int)) (a2 : Int) : Option ((List TVersion) × Int) :=
  bind1 (m48_vac_Check a0 a1 a2) fun x24 => if x24 ≠ 0 then some ([], x24) else m45_vac_Keep_K1 a1 a2 a0
def m46_vac_Read_K1 (a0 : (List TVersion)) (gx1 : Int) : Option ((List UInt8) × Bool) :=
  if gx1 < 0 then some ([], false) else bind1 (idx a0 gx1) fun x2 => some (x2.Text, true)
def m46_vac_Read_L1B (go1 : Int → Int → Option ((List UInt8) × Bool)) (a0 : (List TVersion)) (a1 : Int) (gx2 : Int) (gx3 : Int) : Option ((List UInt8) × Bool) :=
  if gx3 < (a0.length : Int) then bind1 (idx a0 gx3) fun x4 => if x4.At ≤ a1 then bind1 (i64 (gx3 + 1)) fun x7 => go1 gx3 x7 else bind1 (i64 (gx3 + 1)) fun x8 => go1 gx2 x8 else m46_vac_Read_K1 a0 gx2
def m46_vac_Read_L1 (a0 : (List TVersion)) (a1 : Int) : Nat → Int → Int → Option ((List UInt8) × Bool)
  | 0, _, _ => none
  | n + 1, gx2, gx3 => m46_vac_Read_L1B (m46_vac_Read_L1 a0 a1 n) a0 a1 gx2 gx3
def m46_vac_Read (a0 : (List TVersion)) (a1 : Int) : Option ((List UInt8) × Bool) :=
  m46_vac_Read_L1 a0 a1 big (-1) 0
def m47_quirref_Read_K1 : Option ((List UInt8) × Bool) :=
  some ([], false)
def m47_quirref_Read_K2 (a0 : (List TVersion)) (gx1 : Int) (a1 : Int) (go1 : Int → Option ((List UInt8) × Bool)) : Option ((List UInt8) × Bool) :=
  bind1 (idx a0 gx1) fun x2 => if x2.At ≤ a1 then bind1 (idx a0 gx1) fun x4 => some (x4.Text, true) else bind1 (i64 (gx1 - 1)) fun x5 => go1 x5
def m47_quirref_Read_L1B (go1 : Int → Option ((List UInt8) × Bool)) (a0 : (List TVersion)) (a1 : Int) (gx1 : Int) : Option ((List UInt8) × Bool) :=
  if 0 ≤ gx1 then m47_quirref_Read_K2 a0 gx1 a1 go1 else m47_quirref_Read_K1
def m47_quirref_Read_L1 (a0 : (List TVersion)) (a1 : Int) : Nat → Int → Option ((List UInt8) × Bool)
  | 0, _ => none
  | n + 1, gx1 => m47_quirref_Read_L1B (m47_quirref_Read_L1 a0 a1 n) a0 a1 gx1
def m47_quirref_Read (a0 : (List TVersion)) (a1 : Int) : Option ((List UInt8) × Bool) :=
  bind1 (i64 ((a0.length : Int) - 1)) fun x1 => m47_quirref_Read_L1 a0 a1 big x1
def m50_quirref_Keep_K1 (gl2 : (List TVersion)) : Option (List TVersion) :=
  some gl2
def m50_quirref_Keep_K3 (gl4 : (List TVersion)) (x3 : TVersion) (gx5 : Int) (go1 : (List TVersion) → Int → Option (List TVersion)) (gb7 : Bool) : Option (List TVersion) :=
  if gb7 = true then bind1 (app gl4 ([x3])) fun l9 => bind1 (i64 (gx5 + 1)) fun x10 => go1 l9 x10 else bind1 (i64 (gx5 + 1)) fun x6 => go1 gl4 x6
def m50_quirref_Keep_K4 (gl4 : (List TVersion)) (x3 : TVersion) (gx5 : Int) (go1 : (List TVersion) → Int → Option (List TVersion)) (gx8 : Int) : Option (List TVersion) :=
  m50_quirref_Keep_K3 gl4 x3 gx5 go1 (decide (0 ≤ gx8))
def m50_quirref_Keep_K5 (gl4 : (List TVersion)) (x3 : TVersion) (gx5 : Int) (go1 : (List TVersion) → Int → Option (List TVersion)) : Option (List TVersion) :=
  m50_quirref_Keep_K4 gl4 x3 gx5 go1 (-1)
def m50_quirref_Keep_K6 (gl4 : (List TVersion)) (x3 : TVersion) (gx5 : Int) (go1 : (List TVersion) → Int → Option (List TVersion)) (gx9 : Int) (go2 : Int → Option (List TVersion)) (gb10 : Bool) : Option (List TVersion) :=
  if gb10 = true then m50_quirref_Keep_K4 gl4 x3 gx5 go1 gx9 else bind1 (i64 (gx9 + 1)) fun x13 => go2 x13
def m50_quirref_Keep_K7 (gl4 : (List TVersion)) (x3 : TVersion) (gx5 : Int) (go1 : (List TVersion) → Int → Option (List TVersion)) (gx9 : Int) (go2 : Int → Option (List TVersion)) (gb11 : Bool) : Option (List TVersion) :=
  m50_quirref_Keep_K6 gl4 x3 gx5 go1 gx9 go2 gb11
def m50_quirref_Keep_L2B (go2 : Int → Option (List TVersion)) (a1 : (List Int)) (x3 : TVersion) (gx5 : Int) (a0 : (List TVersion)) (gl4 : (List TVersion)) (go1 : (List TVersion) → Int → Option (List TVersion)) (gx9 : Int) : Option (List TVersion) :=
  if gx9 < (a1.length : Int) then bind1 (idx a1 gx9) fun x12 => if x3.At ≤ x12 then bind1 (i64 (gx5 + 1)) fun x15 => if x15 = (a0.length : Int) then m50_quirref_Keep_K7 gl4 x3 gx5 go1 gx9 go2 true else bind1 (i64 (gx5 + 1)) fun x17 => bind1 (idx a0 x17) fun x18 => m50_quirref_Keep_K7 gl4 x3 gx5 go1 gx9 go2 (decide (x12 < x18.At)) else m50_quirref_Keep_K7 gl4 x3 gx5 go1 gx9 go2 false else m50_quirref_Keep_K5 gl4 x3 gx5 go1
def m50_quirref_Keep_L2 (a1 : (List Int)) (x3 : TVersion) (gx5 : Int) (a0 : (List TVersion)) (gl4 : (List TVersion)) (go1 : (List TVersion) → Int → Option (List TVersion)) : Nat → Int → Option (List TVersion)
  | 0, _ => none
  | n + 1, gx9 => m50_quirref_Keep_L2B (m50_quirref_Keep_L2 a1 x3 gx5 a0 gl4 go1 n) a1 x3 gx5 a0 gl4 go1 gx9
def m50_quirref_Keep_K2 (gl4 : (List TVersion)) (x3 : TVersion) (gx5 : Int) (go1 : (List TVersion) → Int → Option (List TVersion)) (a1 : (List Int)) (a0 : (List TVersion)) (gb6 : Bool) : Option (List TVersion) :=
  if gb6 = true then bind1 (app gl4 ([x3])) fun l21 => bind1 (i64 (gx5 + 1)) fun x22 => go1 l21 x22 else m50_quirref_Keep_L2 a1 x3 gx5 a0 gl4 go1 big 0
def m50_quirref_Keep_K8 (gl4 : (List TVersion)) (x3 : TVersion) (gx5 : Int) (go1 : (List TVersion) → Int → Option (List TVersion)) (a1 : (List Int)) (a0 : (List TVersion)) (gb12 : Bool) : Option (List TVersion) :=
  m50_quirref_Keep_K2 gl4 x3 gx5 go1 a1 a0 gb12
def m50_quirref_Keep_L1B (go1 : (List TVersion) → Int → Option (List TVersion)) (a0 : (List TVersion)) (a2 : Int) (a1 : (List Int)) (gl4 : (List TVersion)) (gx5 : Int) : Option (List TVersion) :=
  if gx5 < (a0.length : Int) then bind1 (idx a0 gx5) fun x3 => if x3.At ≤ a2 then bind1 (i64 (gx5 + 1)) fun x24 => if x24 = (a0.length : Int) then m50_quirref_Keep_K8 gl4 x3 gx5 go1 a1 a0 true else bind1 (i64 (gx5 + 1)) fun x26 => bind1 (idx a0 x26) fun x27 => m50_quirref_Keep_K8 gl4 x3 gx5 go1 a1 a0 (decide (a2 < x27.At)) else m50_quirref_Keep_K8 gl4 x3 gx5 go1 a1 a0 false else m50_quirref_Keep_K1 gl4
def m50_quirref_Keep_L1 (a0 : (List TVersion)) (a2 : Int) (a1 : (List Int)) : Nat → (List TVersion) → Int → Option (List TVersion)
  | 0, _, _ => none
  | n + 1, gl4, gx5 => m50_quirref_Keep_L1B (m50_quirref_Keep_L1 a0 a2 a1 n) a0 a2 a1 gl4 gx5
def m50_quirref_Keep (a0 : (List TVersion)) (a1 : (List Int)) (a2 : Int) : Option (List TVersion) :=
  m50_quirref_Keep_L1 a0 a2 a1 big [] 0
def m49_api_Version_K2 : Option Bool :=
  some true
def m49_api_Version_L1B (go1 : Int → Option Bool) (a0 : (List TVersion)) (a1 : (List TVersion)) (gx1 : Int) : Option Bool :=
  if gx1 < (a0.length : Int) then bind1 (idx a0 gx1) fun x2 => bind1 (idx a1 gx1) fun x3 => if x2 ≠ x3 then some false else bind1 (i64 (gx1 + 1)) fun x5 => go1 x5 else m49_api_Version_K2
def m49_api_Version_L1 (a0 : (List TVersion)) (a1 : (List TVersion)) : Nat → Int → Option Bool
  | 0, _ => none
  | n + 1, gx1 => m49_api_Version_L1B (m49_api_Version_L1 a0 a1 n) a0 a1 gx1
def m49_api_Version_K1 (a0 : (List TVersion)) (a1 : (List TVersion)) : Option Bool :=
  m49_api_Version_L1 a0 a1 big 0
def m49_api_Version (a0 : (List TVersion)) (a1 : (List TVersion)) : Option Bool :=
  if (a0.length : Int) ≠ (a1.length : Int) then some false else m49_api_Version_K1 a0 a1
def m8_quirlaw_VacSays_K2 (a0 : (List TVersion)) (a1 : (List Int)) (a2 : Int) (l3 : (List TVersion)) (x5 : Int) : Option Bool :=
  bind1 (m50_quirref_Keep a0 a1 a2) fun l13 => bind1 (m49_api_Version l3 l13) fun b16 => if b16 = true then some (decide (x5 = 0)) else some false
def m8_quirlaw_VacSays_K1 (x1 : Int) (l3 : (List TVersion)) (x5 : Int) (a0 : (List TVersion)) (a1 : (List Int)) (a2 : Int) : Option Bool :=
  if x1 ≠ 0 then if (l3.length : Int) = 0 then some (decide (x5 = x1)) else some false else m8_quirlaw_VacSays_K2 a0 a1 a2 l3 x5
def m8_quirlaw_VacSays_K3 (b8 : Bool) (b11 : Bool) (x1 : Int) (l3 : (List TVersion)) (x5 : Int) (a0 : (List TVersion)) (a1 : (List Int)) (a2 : Int) (gb1 : Bool) : Option Bool :=
  if gb1 = true then some false else if (!(b8 == b11)) = true then some false else m8_quirlaw_VacSays_K1 x1 l3 x5 a0 a1 a2
def m8_quirlaw_VacSays (a0 : (List TVersion)) (a1 : (List Int)) (a2 : Int) (a3 : Int) : Option Bool :=
  bind1 (m44_quirref_VacErr a0 a1 a2) fun x1 => bind2 (m45_vac_Keep a0 a1 a2) fun l3 x5 => bind2 (m46_vac_Read a0 a3) fun s7 b8 => bind2 (m47_quirref_Read a0 a3) fun s10 b11 => bind1 (m48_vac_Check a0 a1 a2) fun x21 => if x21 ≠ x1 then m8_quirlaw_VacSays_K3 b8 b11 x1 l3 x5 a0 a1 a2 true else if s7 ≠ s10 then m8_quirlaw_VacSays_K3 b8 b11 x1 l3 x5 a0 a1 a2 true else m8_quirlaw_VacSays_K3 b8 b11 x1 l3 x5 a0 a1 a2 false
end Go.Proofs.Ytfmgjigdebofaaa
