/-
  Models, printed by a program of mine.
  Conditions: none.
-/
import Derived.Test.YtfmgjigdebofaaaH
namespace Go.Proofs.Ytfmgjigdebofaaa
open Go.S
set_option linter.unusedVariables false
structure TSlot where
  Used : Bool
  Text : (List UInt8)
  deriving DecidableEq
def TSlot.row (x : TSlot) : List Value := [.bool x.Used, st x.Text]
structure TLeaf where
  Slots : (List TSlot)
  deriving DecidableEq
def m36_quirref_Nat_K2 (gs1 : (List UInt8)) : Option (List UInt8) :=
  some gs1
def m36_quirref_Nat_K1 (a0 : Int) (rec : Int → Option (List UInt8)) : Option (List UInt8) :=
  bind1 (modW a0 128) fun x1 => bind1 (divW .u64 a0 128) fun x2 => bind1 (rec x2) fun s4 => bind1 (catS (bytesOf ([IntKind.wrap .u8 (IntKind.wrap .u64 (x1 + 128))])) s4) fun s6 => m36_quirref_Nat_K2 s6
def m36_quirref_NatB (rec : Int → Option (List UInt8)) (a0 : Int) : Option (List UInt8) :=
  if a0 < 128 then some (bytesOf ([IntKind.wrap .u8 a0])) else m36_quirref_Nat_K1 a0 rec
def m36_quirref_NatR : Nat → Int → Option (List UInt8)
  | 0, _ => none
  | n + 1, a0 => m36_quirref_NatB (m36_quirref_NatR n) a0
def m36_quirref_Nat (a0 : Int) : Option (List UInt8) := m36_quirref_NatR big a0
def m91_quirref_LeafText_K1 (gs1 : (List UInt8)) : Option (List UInt8) :=
  some gs1
def m91_quirref_LeafText_L1B (go1 : (List UInt8) → Int → Option (List UInt8)) (a0 : TLeaf) (gs2 : (List UInt8)) (gx3 : Int) : Option (List UInt8) :=
  if gx3 < (a0.Slots.length : Int) then bind1 (idx a0.Slots gx3) fun x5 => if x5.Used = true then bind1 (m36_quirref_Nat (IntKind.wrap .u64 ((IntKind.wrap .u64 (x5.Text.length : Int)) + 1))) fun s8 => bind1 (catS s8 x5.Text) fun s10 => bind1 (catS gs2 s10) fun s11 => bind1 (i64 (gx3 + 1)) fun x12 => go1 s11 x12 else bind1 (catS gs2 ([0])) fun s13 => bind1 (i64 (gx3 + 1)) fun x14 => go1 s13 x14 else m91_quirref_LeafText_K1 gs2
def m91_quirref_LeafText_L1 (a0 : TLeaf) : Nat → (List UInt8) → Int → Option (List UInt8)
  | 0, _, _ => none
  | n + 1, gs2, gx3 => m91_quirref_LeafText_L1B (m91_quirref_LeafText_L1 a0 n) a0 gs2 gx3
def m91_quirref_LeafText (a0 : TLeaf) : Option (List UInt8) :=
  bind1 (m36_quirref_Nat (IntKind.wrap .u64 (a0.Slots.length : Int))) fun s2 => m91_quirref_LeafText_L1 a0 big s2 0
def m81_quirref_LeafErr_K2 (a0 : TLeaf) : Option Int :=
  bind1 (m91_quirref_LeafText a0) fun s2 => if 512 < (s2.length : Int) then some 8 else some 0
def m81_quirref_LeafErr_L1B (go1 : Int → Option Int) (a0 : TLeaf) (gx1 : Int) : Option Int :=
  if gx1 < (a0.Slots.length : Int) then bind1 (idx a0.Slots gx1) fun x6 => if x6.Used = true then bind1 (i64 (gx1 + 1)) fun x9 => go1 x9 else if x6.Text ≠ [] then some 4 else bind1 (i64 ((a0.Slots.length : Int) - 1)) fun x11 => if gx1 = x11 then some 4 else bind1 (i64 (gx1 + 1)) fun x13 => go1 x13 else m81_quirref_LeafErr_K2 a0
def m81_quirref_LeafErr_L1 (a0 : TLeaf) : Nat → Int → Option Int
  | 0, _ => none
  | n + 1, gx1 => m81_quirref_LeafErr_L1B (m81_quirref_LeafErr_L1 a0 n) a0 gx1
def m81_quirref_LeafErr_K1 (a0 : TLeaf) : Option Int :=
  m81_quirref_LeafErr_L1 a0 big 0
def m81_quirref_LeafErr (a0 : TLeaf) : Option Int :=
  if 40 < (a0.Slots.length : Int) then some 2 else m81_quirref_LeafErr_K1 a0
def m35_code_PutNat_K1 (gx1 : Int) (gl3 : (List Int)) : Option (List UInt8) :=
  bind1 (app gl3 ([IntKind.wrap .u8 gx1])) fun l3 => some (bytesOf l3)
def m35_code_PutNat_L1B (go1 : Int → (List Int) → Option (List UInt8)) (gx4 : Int) (gl6 : (List Int)) : Option (List UInt8) :=
  if 128 ≤ gx4 then bind1 (app gl6 ([Go.bits .or .u8 (IntKind.wrap .u8 gx4) 128])) fun l7 => bind1 (shrW .u64 gx4 7) fun x8 => go1 x8 l7 else m35_code_PutNat_K1 gx4 gl6
def m35_code_PutNat_L1 : Nat → Int → (List Int) → Option (List UInt8)
  | 0, _, _ => none
  | n + 1, gx4, gl6 => m35_code_PutNat_L1B (m35_code_PutNat_L1 n) gx4 gl6
def m35_code_PutNat (a0 : Int) : Option (List UInt8) :=
  m35_code_PutNat_L1 big a0 []
def m152_leaf_slotSize (a0 : TSlot) : Option Int :=
  if a0.Used = true then bind1 (i64 ((a0.Text.length : Int) + 1)) fun x3 => bind1 (m35_code_PutNat (IntKind.wrap .u64 x3)) fun s4 => bind1 (i64 ((s4.length : Int) + (a0.Text.length : Int))) fun x6 => some x6 else some 1
def m136_leaf_size_K1 (gx1 : Int) : Option Int :=
  some gx1
def m136_leaf_size_L1B (go1 : Int → Int → Option Int) (a0 : TLeaf) (gx2 : Int) (gx3 : Int) : Option Int :=
  if gx3 < (a0.Slots.length : Int) then bind1 (idx a0.Slots gx3) fun x5 => bind1 (m152_leaf_slotSize x5) fun x7 => bind1 (i64 (gx2 + x7)) fun x9 => bind1 (i64 (gx3 + 1)) fun x10 => go1 x9 x10 else m136_leaf_size_K1 gx2
def m136_leaf_size_L1 (a0 : TLeaf) : Nat → Int → Int → Option Int
  | 0, _, _ => none
  | n + 1, gx2, gx3 => m136_leaf_size_L1B (m136_leaf_size_L1 a0 n) a0 gx2 gx3
def m136_leaf_size (a0 : TLeaf) : Option Int :=
  bind1 (m35_code_PutNat (IntKind.wrap .u64 (a0.Slots.length : Int))) fun s2 => m136_leaf_size_L1 a0 big (s2.length : Int) 0
def m90_leaf_Check_K3 (a0 : TLeaf) : Option Int :=
  bind1 (m136_leaf_size a0) fun x2 => if 512 < x2 then some 8 else some 0
def m90_leaf_Check_K2 (a0 : TLeaf) : Option Int :=
  if 0 < (a0.Slots.length : Int) then bind1 (i64 ((a0.Slots.length : Int) - 1)) fun x6 => bind1 (idx a0.Slots x6) fun x7 => if x7.Used = true then m90_leaf_Check_K3 a0 else some 4 else m90_leaf_Check_K3 a0
def m90_leaf_Check_L1B (go1 : Int → Option Int) (a0 : TLeaf) (gx1 : Int) : Option Int :=
  if gx1 < (a0.Slots.length : Int) then bind1 (idx a0.Slots gx1) fun x10 => if x10.Used = true then bind1 (i64 (gx1 + 1)) fun x13 => go1 x13 else if x10.Text ≠ [] then some 4 else bind1 (i64 (gx1 + 1)) fun x15 => go1 x15 else m90_leaf_Check_K2 a0
def m90_leaf_Check_L1 (a0 : TLeaf) : Nat → Int → Option Int
  | 0, _ => none
  | n + 1, gx1 => m90_leaf_Check_L1B (m90_leaf_Check_L1 a0 n) a0 gx1
def m90_leaf_Check_K1 (a0 : TLeaf) : Option Int :=
  m90_leaf_Check_L1 a0 big 0
def m90_leaf_Check (a0 : TLeaf) : Option Int :=
  if 40 < (a0.Slots.length : Int) then some 2 else m90_leaf_Check_K1 a0
def m82_leaf_Free (a0 : TLeaf) : Option (Int × Int) :=
  bind1 (m90_leaf_Check a0) fun x2 => if x2 ≠ 0 then some (0, x2) else bind1 (m136_leaf_size a0) fun x5 => bind1 (i64 (512 - x5)) fun x7 => some (x7, 0)
def m137_leaf_copied (a0 : TLeaf) : Option TLeaf :=
  bind1 (app [] a0.Slots) fun l5 => some (⟨l5⟩ : TLeaf)
def m83_leaf_Put_K4 (gx1 : Int) (a1 : (List UInt8)) (gl3 : (List TSlot)) : Option (TLeaf × Int × Int) :=
  bind1 (idx gl3 gx1) fun x7 => bind1 (upd gl3 gx1 (⟨true, a1⟩ : TSlot)) fun l8 => if 40 < (l8.length : Int) then some ((⟨[]⟩ : TLeaf), 0, 8) else bind1 (m136_leaf_size (⟨l8⟩ : TLeaf)) fun x10 => if 512 < x10 then some ((⟨[]⟩ : TLeaf), 0, 8) else some ((⟨l8⟩ : TLeaf), gx1, 0)
def m83_leaf_Put_K3 (x3 : TLeaf) (a1 : (List UInt8)) (gx1 : Int) : Option (TLeaf × Int × Int) :=
  if gx1 = (x3.Slots.length : Int) then bind1 (app x3.Slots ([(⟨false, []⟩ : TSlot)])) fun l16 => m83_leaf_Put_K4 gx1 a1 l16 else m83_leaf_Put_K4 gx1 a1 x3.Slots
def m83_leaf_Put_L1B (go1 : Int → Option (TLeaf × Int × Int)) (x3 : TLeaf) (a1 : (List UInt8)) (gx4 : Int) : Option (TLeaf × Int × Int) :=
  if gx4 < (x3.Slots.length : Int) then bind1 (idx x3.Slots gx4) fun x18 => if x18.Used = true then bind1 (i64 (gx4 + 1)) fun x20 => go1 x20 else m83_leaf_Put_K3 x3 a1 gx4 else m83_leaf_Put_K3 x3 a1 gx4
def m83_leaf_Put_L1 (x3 : TLeaf) (a1 : (List UInt8)) : Nat → Int → Option (TLeaf × Int × Int)
  | 0, _ => none
  | n + 1, gx4 => m83_leaf_Put_L1B (m83_leaf_Put_L1 x3 a1 n) x3 a1 gx4
def m83_leaf_Put_K2 (a0 : TLeaf) (a1 : (List UInt8)) : Option (TLeaf × Int × Int) :=
  bind1 (m137_leaf_copied a0) fun x3 => m83_leaf_Put_L1 x3 a1 big 0
def m83_leaf_Put_K1 (a1 : (List UInt8)) (a0 : TLeaf) : Option (TLeaf × Int × Int) :=
  if 512 < (a1.length : Int) then some ((⟨[]⟩ : TLeaf), 0, 8) else m83_leaf_Put_K2 a0 a1
def m83_leaf_Put (a0 : TLeaf) (a1 : (List UInt8)) : Option (TLeaf × Int × Int) :=
  bind1 (m90_leaf_Check a0) fun x22 => if x22 ≠ 0 then some ((⟨[]⟩ : TLeaf), 0, x22) else m83_leaf_Put_K1 a1 a0
def m84_leaf_Get_K2 (a0 : TLeaf) (a1 : Int) (gb1 : Bool) : Option ((List UInt8) × Int) :=
  if gb1 = true then some ([], 6) else bind1 (idx a0.Slots a1) fun x2 => if x2.Used = true then bind1 (idx a0.Slots a1) fun x4 => some (x4.Text, 0) else some ([], 6)
def m84_leaf_Get_K1 (a1 : Int) (a0 : TLeaf) : Option ((List UInt8) × Int) :=
  if a1 < 0 then m84_leaf_Get_K2 a0 a1 true else if (a0.Slots.length : Int) ≤ a1 then m84_leaf_Get_K2 a0 a1 true else m84_leaf_Get_K2 a0 a1 false
def m84_leaf_Get (a0 : TLeaf) (a1 : Int) : Option ((List UInt8) × Int) :=
  bind1 (m90_leaf_Check a0) fun x7 => if x7 ≠ 0 then some ([], x7) else m84_leaf_Get_K1 a1 a0
def m85_leaf_Drop_K2 (l8 : (List TSlot)) (gx1 : Int) : Option (TLeaf × Int) :=
  bind1 (cut l8 0 gx1) fun l9 => some ((⟨l9⟩ : TLeaf), 0)
def m85_leaf_Drop_L1B (go1 : Int → Option (TLeaf × Int)) (l8 : (List TSlot)) (gx2 : Int) : Option (TLeaf × Int) :=
  if 0 < gx2 then bind1 (i64 (gx2 - 1)) fun x12 => bind1 (idx l8 x12) fun x13 => if x13.Used = true then m85_leaf_Drop_K2 l8 gx2 else bind1 (i64 (gx2 - 1)) fun x15 => go1 x15 else m85_leaf_Drop_K2 l8 gx2
def m85_leaf_Drop_L1 (l8 : (List TSlot)) : Nat → Int → Option (TLeaf × Int)
  | 0, _ => none
  | n + 1, gx2 => m85_leaf_Drop_L1B (m85_leaf_Drop_L1 l8 n) l8 gx2
def m85_leaf_Drop_K1 (a0 : TLeaf) (a1 : Int) : Option (TLeaf × Int) :=
  bind1 (m137_leaf_copied a0) fun x3 => bind1 (idx x3.Slots a1) fun x7 => bind1 (upd x3.Slots a1 (⟨false, []⟩ : TSlot)) fun l8 => m85_leaf_Drop_L1 l8 big (l8.length : Int)
def m85_leaf_Drop (a0 : TLeaf) (a1 : Int) : Option (TLeaf × Int) :=
  bind2 (m84_leaf_Get a0 a1) fun s16 x17 => if x17 ≠ 0 then some ((⟨[]⟩ : TLeaf), x17) else m85_leaf_Drop_K1 a0 a1
def m86_leaf_Text_K2 (gs1 : (List UInt8)) : Option ((List UInt8) × Int) :=
  some (gs1, 0)
def m86_leaf_Text_L1B (go1 : (List UInt8) → Int → Option ((List UInt8) × Int)) (a0 : TLeaf) (gs2 : (List UInt8)) (gx3 : Int) : Option ((List UInt8) × Int) :=
  if gx3 < (a0.Slots.length : Int) then bind1 (idx a0.Slots gx3) fun x5 => if x5.Used = true then bind1 (i64 ((x5.Text.length : Int) + 1)) fun x8 => bind1 (m35_code_PutNat (IntKind.wrap .u64 x8)) fun s9 => bind1 (catS s9 x5.Text) fun s11 => bind1 (catS gs2 s11) fun s12 => bind1 (i64 (gx3 + 1)) fun x13 => go1 s12 x13 else bind1 (m35_code_PutNat 0) fun s14 => bind1 (catS gs2 s14) fun s16 => bind1 (i64 (gx3 + 1)) fun x17 => go1 s16 x17 else m86_leaf_Text_K2 gs2
def m86_leaf_Text_L1 (a0 : TLeaf) : Nat → (List UInt8) → Int → Option ((List UInt8) × Int)
  | 0, _, _ => none
  | n + 1, gs2, gx3 => m86_leaf_Text_L1B (m86_leaf_Text_L1 a0 n) a0 gs2 gx3
def m86_leaf_Text_K1 (a0 : TLeaf) : Option ((List UInt8) × Int) :=
  bind1 (m35_code_PutNat (IntKind.wrap .u64 (a0.Slots.length : Int))) fun s2 => m86_leaf_Text_L1 a0 big s2 0
def m86_leaf_Text (a0 : TLeaf) : Option ((List UInt8) × Int) :=
  bind1 (m90_leaf_Check a0) fun x18 => if x18 ≠ 0 then some ([], x18) else m86_leaf_Text_K1 a0
def m27_code_GetNat_K1 : Option (Int × Int × Int) :=
  some (0, 0, 3)
def m27_code_GetNat_K3 (gx2 : Int) (gx1 : Int) (x4 : Int) : Option (Int × Int × Int) :=
  bind1 (i64 (gx2 + 1)) fun x6 => some (Go.bits .or .u64 gx1 x4, x6, 0)
def m27_code_GetNat_K2 (gx2 : Int) (x2 : Int) (gx1 : Int) (go1 : Int → Int → Option (Int × Int × Int)) : Option (Int × Int × Int) :=
  bind1 (i64 (7 * gx2)) fun x3 => bind1 (shlW .u64 (IntKind.wrap .u64 (Go.bits .and .u8 x2 127)) x3) fun x4 => if x2 < 128 then if x2 = 0 then if 0 < gx2 then some (0, 0, 4) else m27_code_GetNat_K3 gx2 gx1 x4 else m27_code_GetNat_K3 gx2 gx1 x4 else bind1 (i64 (gx2 + 1)) fun x9 => go1 (Go.bits .or .u64 gx1 x4) x9
def m27_code_GetNat_L1B (go1 : Int → Int → Option (Int × Int × Int)) (a0 : (List UInt8)) (gx1 : Int) (gx2 : Int) : Option (Int × Int × Int) :=
  if gx2 < (a0.length : Int) then bind1 (idxS a0 gx2) fun x2 => if gx2 = 9 then if 1 < x2 then some (0, 0, 2) else m27_code_GetNat_K2 gx2 x2 gx1 go1 else m27_code_GetNat_K2 gx2 x2 gx1 go1 else m27_code_GetNat_K1
def m27_code_GetNat_L1 (a0 : (List UInt8)) : Nat → Int → Int → Option (Int × Int × Int)
  | 0, _, _ => none
  | n + 1, gx1, gx2 => m27_code_GetNat_L1B (m27_code_GetNat_L1 a0 n) a0 gx1 gx2
def m27_code_GetNat (a0 : (List UInt8)) : Option (Int × Int × Int) :=
  m27_code_GetNat_L1 a0 big 0 0
def m87_leaf_Read_K2 (gs1 : (List UInt8)) (gl3 : (List TSlot)) : Option (TLeaf × Int) :=
  if gs1 ≠ [] then some ((⟨[]⟩ : TLeaf), 4) else bind1 (m90_leaf_Check (⟨gl3⟩ : TLeaf)) fun x9 => if x9 ≠ 0 then some ((⟨[]⟩ : TLeaf), 4) else some ((⟨gl3⟩ : TLeaf), 0)
def m87_leaf_Read_K3 (go1 : (List UInt8) → Int → (List TSlot) → Option (TLeaf × Int)) (gx5 : Int) (gs8 : (List UInt8)) (gl10 : (List TSlot)) : Option (TLeaf × Int) :=
  go1 gs8 (IntKind.wrap .u64 (gx5 + 1)) gl10
def m87_leaf_Read_K4 (gs4 : (List UInt8)) (x14 : Int) (x13 : Int) (gl7 : (List TSlot)) (go1 : (List UInt8) → Int → (List TSlot) → Option (TLeaf × Int)) (gx5 : Int) : Option (TLeaf × Int) :=
  bind1 (cut gs4 x14 gs4.length) fun s17 => if decide (0 < x13) = true then bind1 (cut s17 0 (IntKind.wrap .u64 (x13 - 1))) fun s22 => bind1 (cut s17 (IntKind.wrap .u64 (x13 - 1)) s17.length) fun s23 => bind1 (app gl7 ([(⟨decide (0 < x13), s22⟩ : TSlot)])) fun l26 => m87_leaf_Read_K3 go1 gx5 s23 l26 else bind1 (app gl7 ([(⟨decide (0 < x13), []⟩ : TSlot)])) fun l29 => m87_leaf_Read_K3 go1 gx5 s17 l29
def m87_leaf_Read_K6 (gs4 : (List UInt8)) (x14 : Int) (x13 : Int) (gl7 : (List TSlot)) (go1 : (List UInt8) → Int → (List TSlot) → Option (TLeaf × Int)) (gx5 : Int) (gb12 : Bool) : Option (TLeaf × Int) :=
  if gb12 = true then some ((⟨[]⟩ : TLeaf), 4) else m87_leaf_Read_K4 gs4 x14 x13 gl7 go1 gx5
def m87_leaf_Read_K5 (x13 : Int) (gs4 : (List UInt8)) (x14 : Int) (gl7 : (List TSlot)) (go1 : (List UInt8) → Int → (List TSlot) → Option (TLeaf × Int)) (gx5 : Int) (gb11 : Bool) : Option (TLeaf × Int) :=
  if gb11 = true then some ((⟨[]⟩ : TLeaf), 4) else if 0 < x13 then bind1 (i64 ((gs4.length : Int) - x14)) fun x31 => if (IntKind.wrap .u64 x31) < (IntKind.wrap .u64 (x13 - 1)) then m87_leaf_Read_K6 gs4 x14 x13 gl7 go1 gx5 true else m87_leaf_Read_K6 gs4 x14 x13 gl7 go1 gx5 false else m87_leaf_Read_K6 gs4 x14 x13 gl7 go1 gx5 false
def m87_leaf_Read_L1B (go1 : (List UInt8) → Int → (List TSlot) → Option (TLeaf × Int)) (x2 : Int) (gs4 : (List UInt8)) (gx5 : Int) (gl7 : (List TSlot)) : Option (TLeaf × Int) :=
  if gx5 < x2 then bind3 (m27_code_GetNat gs4) fun x13 x14 x15 => if x15 ≠ 0 then m87_leaf_Read_K5 x13 gs4 x14 gl7 go1 gx5 true else if 513 < x13 then m87_leaf_Read_K5 x13 gs4 x14 gl7 go1 gx5 true else m87_leaf_Read_K5 x13 gs4 x14 gl7 go1 gx5 false else m87_leaf_Read_K2 gs4 gl7
def m87_leaf_Read_L1 (x2 : Int) : Nat → (List UInt8) → Int → (List TSlot) → Option (TLeaf × Int)
  | 0, _, _, _ => none
  | n + 1, gs4, gx5, gl7 => m87_leaf_Read_L1B (m87_leaf_Read_L1 x2 n) x2 gs4 gx5 gl7
def m87_leaf_Read_K1 (a0 : (List UInt8)) (x3 : Int) (x2 : Int) : Option (TLeaf × Int) :=
  bind1 (cut a0 x3 a0.length) fun s6 => m87_leaf_Read_L1 x2 big s6 0 []
def m87_leaf_Read (a0 : (List UInt8)) : Option (TLeaf × Int) :=
  bind3 (m27_code_GetNat a0) fun x2 x3 x4 => if x4 ≠ 0 then some ((⟨[]⟩ : TLeaf), 4) else if 40 < x2 then some ((⟨[]⟩ : TLeaf), 4) else m87_leaf_Read_K1 a0 x3 x2
def m28_quirref_GetNat_K1 : Option (Int × Int × Int) :=
  some (0, 0, 3)
def m28_quirref_GetNat_K2 (gx1 : Int) (go1 : Int → Option (Int × Int × Int)) : Option (Int × Int × Int) :=
  bind1 (i64 (gx1 + 1)) fun x2 => go1 x2
def m28_quirref_GetNat_K6 (gx1 : Int) (gx2 : Int) : Option (Int × Int × Int) :=
  bind1 (i64 (gx1 + 1)) fun x3 => some (gx2, x3, 0)
def m28_quirref_GetNat_L2B (go2 : Int → Int → Option (Int × Int × Int)) (a0 : (List UInt8)) (gx1 : Int) (gx3 : Int) (gx4 : Int) : Option (Int × Int × Int) :=
  if 0 ≤ gx4 then bind1 (idxS a0 gx4) fun x5 => bind1 (modW x5 128) fun x6 => bind1 (i64 (gx4 - 1)) fun x7 => go2 (IntKind.wrap .u64 ((IntKind.wrap .u64 (gx3 * 128)) + (IntKind.wrap .u64 x6))) x7 else m28_quirref_GetNat_K6 gx1 gx3
def m28_quirref_GetNat_L2 (a0 : (List UInt8)) (gx1 : Int) : Nat → Int → Int → Option (Int × Int × Int)
  | 0, _, _ => none
  | n + 1, gx3, gx4 => m28_quirref_GetNat_L2B (m28_quirref_GetNat_L2 a0 gx1 n) a0 gx1 gx3 gx4
def m28_quirref_GetNat_K5 (a0 : (List UInt8)) (gx1 : Int) : Option (Int × Int × Int) :=
  m28_quirref_GetNat_L2 a0 gx1 big 0 gx1
def m28_quirref_GetNat_K4 (a0 : (List UInt8)) (gx1 : Int) : Option (Int × Int × Int) :=
  bind1 (idxS a0 gx1) fun x8 => if x8 = 0 then if 0 < gx1 then some (0, 0, 4) else m28_quirref_GetNat_K5 a0 gx1 else m28_quirref_GetNat_K5 a0 gx1
def m28_quirref_GetNat_K3 (a0 : (List UInt8)) (gx1 : Int) (go1 : Int → Option (Int × Int × Int)) : Option (Int × Int × Int) :=
  bind1 (idxS a0 gx1) fun x11 => if 128 ≤ x11 then m28_quirref_GetNat_K2 gx1 go1 else m28_quirref_GetNat_K4 a0 gx1
def m28_quirref_GetNat_L1B (go1 : Int → Option (Int × Int × Int)) (a0 : (List UInt8)) (gx1 : Int) : Option (Int × Int × Int) :=
  if gx1 < (a0.length : Int) then if gx1 = 9 then bind1 (idxS a0 gx1) fun x14 => if 1 < x14 then some (0, 0, 2) else m28_quirref_GetNat_K3 a0 gx1 go1 else m28_quirref_GetNat_K3 a0 gx1 go1 else m28_quirref_GetNat_K1
def m28_quirref_GetNat_L1 (a0 : (List UInt8)) : Nat → Int → Option (Int × Int × Int)
  | 0, _ => none
  | n + 1, gx1 => m28_quirref_GetNat_L1B (m28_quirref_GetNat_L1 a0 n) a0 gx1
def m28_quirref_GetNat (a0 : (List UInt8)) : Option (Int × Int × Int) :=
  m28_quirref_GetNat_L1 a0 big 0
def m88_quirref_LeafRead_K2 (a0 : (List UInt8)) (gl2 : (List TSlot)) : Option (TLeaf × Bool) :=
  bind1 (m81_quirref_LeafErr (⟨gl2⟩ : TLeaf)) fun x7 => if x7 ≠ 0 then some ((⟨[]⟩ : TLeaf), false) else bind1 (m91_quirref_LeafText (⟨gl2⟩ : TLeaf)) fun s10 => if s10 ≠ a0 then some ((⟨[]⟩ : TLeaf), false) else some ((⟨gl2⟩ : TLeaf), true)
def m88_quirref_LeafRead_K4 (gl6 : (List TSlot)) (x15 : Int) (go1 : Int → Int → (List TSlot) → Option (TLeaf × Bool)) (gx4 : Int) (gx7 : Int) (gs8 : (List UInt8)) : Option (TLeaf × Bool) :=
  bind1 (app gl6 ([(⟨decide (x15 ≠ 0), gs8⟩ : TSlot)])) fun l23 => go1 gx7 (IntKind.wrap .u64 (gx4 + 1)) l23
def m88_quirref_LeafRead_K5 (x19 : Int) (x15 : Int) (a0 : (List UInt8)) (gl6 : (List TSlot)) (go1 : Int → Int → (List TSlot) → Option (TLeaf × Bool)) (gx4 : Int) : Option (TLeaf × Bool) :=
  bind1 (i64 (x19 + (IntKind.wrap .i64 x15))) fun x25 => bind1 (i64 (x25 - 1)) fun x26 => bind1 (cut a0 x19 x26) fun s27 => bind1 (i64 ((IntKind.wrap .i64 x15) - 1)) fun x28 => bind1 (i64 (x19 + x28)) fun x29 => m88_quirref_LeafRead_K4 gl6 x15 go1 gx4 x29 s27
def m88_quirref_LeafRead_K3 (gx3 : Int) (x16 : Int) (x15 : Int) (a0 : (List UInt8)) (gl6 : (List TSlot)) (go1 : Int → Int → (List TSlot) → Option (TLeaf × Bool)) (gx4 : Int) : Option (TLeaf × Bool) :=
  bind1 (i64 (gx3 + x16)) fun x19 => if 1 < x15 then bind1 (i64 ((a0.length : Int) - x19)) fun x30 => bind1 (i64 ((IntKind.wrap .i64 x15) - 1)) fun x31 => if x30 < x31 then some ((⟨[]⟩ : TLeaf), false) else m88_quirref_LeafRead_K5 x19 x15 a0 gl6 go1 gx4 else m88_quirref_LeafRead_K4 gl6 x15 go1 gx4 x19 []
def m88_quirref_LeafRead_L1B (go1 : Int → Int → (List TSlot) → Option (TLeaf × Bool)) (x2 : Int) (a0 : (List UInt8)) (gx3 : Int) (gx4 : Int) (gl6 : (List TSlot)) : Option (TLeaf × Bool) :=
  if gx4 < x2 then bind1 (cut a0 gx3 a0.length) fun s14 => bind3 (m28_quirref_GetNat s14) fun x15 x16 x17 => if x17 ≠ 0 then some ((⟨[]⟩ : TLeaf), false) else if 1000 < x15 then some ((⟨[]⟩ : TLeaf), false) else m88_quirref_LeafRead_K3 gx3 x16 x15 a0 gl6 go1 gx4 else m88_quirref_LeafRead_K2 a0 gl6
def m88_quirref_LeafRead_L1 (x2 : Int) (a0 : (List UInt8)) : Nat → Int → Int → (List TSlot) → Option (TLeaf × Bool)
  | 0, _, _, _ => none
  | n + 1, gx3, gx4, gl6 => m88_quirref_LeafRead_L1B (m88_quirref_LeafRead_L1 x2 a0 n) x2 a0 gx3 gx4 gl6
def m88_quirref_LeafRead_K1 (x2 : Int) (a0 : (List UInt8)) (x3 : Int) : Option (TLeaf × Bool) :=
  m88_quirref_LeafRead_L1 x2 a0 big x3 0 []
def m88_quirref_LeafRead (a0 : (List UInt8)) : Option (TLeaf × Bool) :=
  bind3 (m28_quirref_GetNat a0) fun x2 x3 x4 => if x4 ≠ 0 then some ((⟨[]⟩ : TLeaf), false) else if 40 < x2 then some ((⟨[]⟩ : TLeaf), false) else m88_quirref_LeafRead_K1 x2 a0 x3
def m138_api_Slot_K2 : Option Bool :=
  some true
def m138_api_Slot_L1B (go1 : Int → Option Bool) (a0 : (List TSlot)) (a1 : (List TSlot)) (gx1 : Int) : Option Bool :=
  if gx1 < (a0.length : Int) then bind1 (idx a0 gx1) fun x2 => bind1 (idx a1 gx1) fun x3 => if x2 ≠ x3 then some false else bind1 (i64 (gx1 + 1)) fun x5 => go1 x5 else m138_api_Slot_K2
def m138_api_Slot_L1 (a0 : (List TSlot)) (a1 : (List TSlot)) : Nat → Int → Option Bool
  | 0, _ => none
  | n + 1, gx1 => m138_api_Slot_L1B (m138_api_Slot_L1 a0 a1 n) a0 a1 gx1
def m138_api_Slot_K1 (a0 : (List TSlot)) (a1 : (List TSlot)) : Option Bool :=
  m138_api_Slot_L1 a0 a1 big 0
def m138_api_Slot (a0 : (List TSlot)) (a1 : (List TSlot)) : Option Bool :=
  if (a0.length : Int) ≠ (a1.length : Int) then some false else m138_api_Slot_K1 a0 a1
def m89_quirref_SameLeaf (a0 : TLeaf) (a1 : TLeaf) : Option Bool :=
  bind1 (m138_api_Slot a0.Slots a1.Slots) fun b3 => some b3
def m93_quirlaw_LeafSays_1 (a0 : TSlot) : Option Bool :=
  some (!a0.Used)
def m94_api_Slot (a0 : (List TSlot)) : Option (List TSlot) :=
  bind1 (app [] a0) fun l3 => some l3
def m13_quirlaw_LeafSays_K10 (x16 : TLeaf) (gl10 : (List TSlot)) (x18 : Int) (gb11 : Bool) : Option Bool :=
  if gb11 = true then bind1 (m89_quirref_SameLeaf x16 (⟨gl10⟩ : TLeaf)) fun b41 => if b41 = true then some (decide (x18 = 0)) else some false else some false
def m13_quirlaw_LeafSays_K9 (a0 : TLeaf) (a2 : Int) (s13 : (List UInt8)) (x14 : Int) (x16 : TLeaf) (x18 : Int) (gl10 : (List TSlot)) : Option Bool :=
  bind1 (idx a0.Slots a2) fun x43 => if s13 = x43.Text then if x14 = 0 then m13_quirlaw_LeafSays_K10 x16 gl10 x18 true else m13_quirlaw_LeafSays_K10 x16 gl10 x18 false else m13_quirlaw_LeafSays_K10 x16 gl10 x18 false
def m13_quirlaw_LeafSays_L1B (go1 : Int → (List TSlot) → Option Bool) (a0 : TLeaf) (a2 : Int) (s13 : (List UInt8)) (x14 : Int) (x16 : TLeaf) (x18 : Int) (gx12 : Int) (gl14 : (List TSlot)) : Option Bool :=
  if 0 < gx12 then bind1 (i64 (gx12 - 1)) fun x47 => bind1 (idx gl14 x47) fun x48 => if x48.Used = true then m13_quirlaw_LeafSays_K9 a0 a2 s13 x14 x16 x18 gl14 else bind1 (i64 (gx12 - 1)) fun x50 => bind1 (cut gl14 0 x50) fun l51 => bind1 (i64 (gx12 - 1)) fun x53 => go1 x53 l51 else m13_quirlaw_LeafSays_K9 a0 a2 s13 x14 x16 x18 gl14
def m13_quirlaw_LeafSays_L1 (a0 : TLeaf) (a2 : Int) (s13 : (List UInt8)) (x14 : Int) (x16 : TLeaf) (x18 : Int) : Nat → Int → (List TSlot) → Option Bool
  | 0, _, _ => none
  | n + 1, gx12, gl14 => m13_quirlaw_LeafSays_L1B (m13_quirlaw_LeafSays_L1 a0 a2 s13 x14 x16 x18 n) a0 a2 s13 x14 x16 x18 gx12 gl14
def m13_quirlaw_LeafSays_K8 (a0 : TLeaf) (a2 : Int) (s13 : (List UInt8)) (x14 : Int) (x16 : TLeaf) (x18 : Int) : Option Bool :=
  bind1 (m94_api_Slot a0.Slots) fun l36 => bind1 (idx l36 a2) fun x39 => bind1 (upd l36 a2 (⟨false, []⟩ : TSlot)) fun l40 => m13_quirlaw_LeafSays_L1 a0 a2 s13 x14 x16 x18 big (l40.length : Int) l40
def m13_quirlaw_LeafSays_K12 (x16 : TLeaf) (x18 : Int) (gb16 : Bool) : Option Bool :=
  if gb16 = true then bind1 (m89_quirref_SameLeaf x16 (⟨[]⟩ : TLeaf)) fun b54 => if b54 = true then some (decide (x18 = 6)) else some false else some false
def m13_quirlaw_LeafSays_K11 (s13 : (List UInt8)) (x14 : Int) (x16 : TLeaf) (x18 : Int) (a0 : TLeaf) (a2 : Int) (gb15 : Bool) : Option Bool :=
  if gb15 = true then if s13 = [] then if x14 = 6 then m13_quirlaw_LeafSays_K12 x16 x18 true else m13_quirlaw_LeafSays_K12 x16 x18 false else m13_quirlaw_LeafSays_K12 x16 x18 false else m13_quirlaw_LeafSays_K8 a0 a2 s13 x14 x16 x18
def m13_quirlaw_LeafSays_K13 (s13 : (List UInt8)) (x14 : Int) (x16 : TLeaf) (x18 : Int) (a0 : TLeaf) (a2 : Int) (gb17 : Bool) : Option Bool :=
  if gb17 = true then m13_quirlaw_LeafSays_K11 s13 x14 x16 x18 a0 a2 true else bind1 (idx a0.Slots a2) fun x58 => if x58.Used = true then m13_quirlaw_LeafSays_K11 s13 x14 x16 x18 a0 a2 false else m13_quirlaw_LeafSays_K11 s13 x14 x16 x18 a0 a2 true
def m13_quirlaw_LeafSays_K7 (a2 : Int) (s13 : (List UInt8)) (x14 : Int) (x16 : TLeaf) (x18 : Int) (a0 : TLeaf) : Option Bool :=
  if a2 < 0 then m13_quirlaw_LeafSays_K13 s13 x14 x16 x18 a0 a2 true else if (a0.Slots.length : Int) ≤ a2 then m13_quirlaw_LeafSays_K13 s13 x14 x16 x18 a0 a2 true else m13_quirlaw_LeafSays_K13 s13 x14 x16 x18 a0 a2 false
def m13_quirlaw_LeafSays_K15 (x10 : Int) (a2 : Int) (s13 : (List UInt8)) (x14 : Int) (x16 : TLeaf) (x18 : Int) (a0 : TLeaf) (gb19 : Bool) : Option Bool :=
  if gb19 = true then some false else if x10 ≠ 0 then some false else m13_quirlaw_LeafSays_K7 a2 s13 x14 x16 x18 a0
def m13_quirlaw_LeafSays_K16 (x10 : Int) (a2 : Int) (s13 : (List UInt8)) (x14 : Int) (x16 : TLeaf) (x18 : Int) (a0 : TLeaf) (gb20 : Bool) : Option Bool :=
  if gb20 = true then some false else if x10 ≠ 8 then some false else m13_quirlaw_LeafSays_K7 a2 s13 x14 x16 x18 a0
def m13_quirlaw_LeafSays_K14 (x7 : TLeaf) (x9 : Int) (x10 : Int) (a2 : Int) (s13 : (List UInt8)) (x14 : Int) (x16 : TLeaf) (x18 : Int) (a0 : TLeaf) (l35 : (List TSlot)) (gx6 : Int) (gb18 : Bool) : Option Bool :=
  if gb18 = true then bind1 (m89_quirref_SameLeaf x7 (⟨[]⟩ : TLeaf)) fun b67 => if b67 = true then if x9 ≠ 0 then m13_quirlaw_LeafSays_K16 x10 a2 s13 x14 x16 x18 a0 true else m13_quirlaw_LeafSays_K16 x10 a2 s13 x14 x16 x18 a0 false else m13_quirlaw_LeafSays_K16 x10 a2 s13 x14 x16 x18 a0 true else bind1 (m89_quirref_SameLeaf x7 (⟨l35⟩ : TLeaf)) fun b63 => if b63 = true then if x9 ≠ gx6 then m13_quirlaw_LeafSays_K15 x10 a2 s13 x14 x16 x18 a0 true else m13_quirlaw_LeafSays_K15 x10 a2 s13 x14 x16 x18 a0 false else m13_quirlaw_LeafSays_K15 x10 a2 s13 x14 x16 x18 a0 true
def m13_quirlaw_LeafSays_K6 (a1 : (List UInt8)) (x7 : TLeaf) (x9 : Int) (x10 : Int) (a2 : Int) (s13 : (List UInt8)) (x14 : Int) (x16 : TLeaf) (x18 : Int) (a0 : TLeaf) (gx6 : Int) (gl8 : (List TSlot)) : Option Bool :=
  bind1 (idx gl8 gx6) fun x34 => bind1 (upd gl8 gx6 (⟨true, a1⟩ : TSlot)) fun l35 => if 4096 < (a1.length : Int) then m13_quirlaw_LeafSays_K14 x7 x9 x10 a2 s13 x14 x16 x18 a0 l35 gx6 true else bind1 (m81_quirref_LeafErr (⟨l35⟩ : TLeaf)) fun x71 => if x71 ≠ 0 then m13_quirlaw_LeafSays_K14 x7 x9 x10 a2 s13 x14 x16 x18 a0 l35 gx6 true else m13_quirlaw_LeafSays_K14 x7 x9 x10 a2 s13 x14 x16 x18 a0 l35 gx6 false
def m13_quirlaw_LeafSays_K5 (a0 : TLeaf) (a1 : (List UInt8)) (x7 : TLeaf) (x9 : Int) (x10 : Int) (a2 : Int) (s13 : (List UInt8)) (x14 : Int) (x16 : TLeaf) (x18 : Int) (gx5 : Int) : Option Bool :=
  bind1 (m94_api_Slot a0.Slots) fun l30 => if gx5 < 0 then bind1 (app l30 ([(⟨false, []⟩ : TSlot)])) fun l77 => m13_quirlaw_LeafSays_K6 a1 x7 x9 x10 a2 s13 x14 x16 x18 a0 (a0.Slots.length : Int) l77 else m13_quirlaw_LeafSays_K6 a1 x7 x9 x10 a2 s13 x14 x16 x18 a0 gx5 l30
def m13_quirlaw_LeafSays_K17 (a0 : TLeaf) (a1 : (List UInt8)) (x7 : TLeaf) (x9 : Int) (x10 : Int) (a2 : Int) (s13 : (List UInt8)) (x14 : Int) (x16 : TLeaf) (x18 : Int) : Option Bool :=
  m13_quirlaw_LeafSays_K5 a0 a1 x7 x9 x10 a2 s13 x14 x16 x18 (-1)
def m13_quirlaw_LeafSays_K18 (x79 : TSlot) (a0 : TLeaf) (a1 : (List UInt8)) (x7 : TLeaf) (x9 : Int) (x10 : Int) (a2 : Int) (s13 : (List UInt8)) (x14 : Int) (x16 : TLeaf) (x18 : Int) (gx21 : Int) (go2 : Int → Option Bool) : Option Bool :=
  if (!x79.Used) = true then m13_quirlaw_LeafSays_K5 a0 a1 x7 x9 x10 a2 s13 x14 x16 x18 gx21 else bind1 (i64 (gx21 + 1)) fun x80 => go2 x80
def m13_quirlaw_LeafSays_L2B (go2 : Int → Option Bool) (a0 : TLeaf) (a1 : (List UInt8)) (x7 : TLeaf) (x9 : Int) (x10 : Int) (a2 : Int) (s13 : (List UInt8)) (x14 : Int) (x16 : TLeaf) (x18 : Int) (gx21 : Int) : Option Bool :=
  if gx21 < (a0.Slots.length : Int) then bind1 (idx a0.Slots gx21) fun x79 => m13_quirlaw_LeafSays_K18 x79 a0 a1 x7 x9 x10 a2 s13 x14 x16 x18 gx21 go2 else m13_quirlaw_LeafSays_K17 a0 a1 x7 x9 x10 a2 s13 x14 x16 x18
def m13_quirlaw_LeafSays_L2 (a0 : TLeaf) (a1 : (List UInt8)) (x7 : TLeaf) (x9 : Int) (x10 : Int) (a2 : Int) (s13 : (List UInt8)) (x14 : Int) (x16 : TLeaf) (x18 : Int) : Nat → Int → Option Bool
  | 0, _ => none
  | n + 1, gx21 => m13_quirlaw_LeafSays_L2B (m13_quirlaw_LeafSays_L2 a0 a1 x7 x9 x10 a2 s13 x14 x16 x18 n) a0 a1 x7 x9 x10 a2 s13 x14 x16 x18 gx21
def m13_quirlaw_LeafSays_K4 (a0 : TLeaf) (a1 : (List UInt8)) (x7 : TLeaf) (x9 : Int) (x10 : Int) (a2 : Int) (s13 : (List UInt8)) (x14 : Int) (x16 : TLeaf) (x18 : Int) : Option Bool :=
  m13_quirlaw_LeafSays_L2 a0 a1 x7 x9 x10 a2 s13 x14 x16 x18 big 0
def m13_quirlaw_LeafSays_K19 (a0 : TLeaf) (s21 : (List UInt8)) (x22 : Int) (a1 : (List UInt8)) (x7 : TLeaf) (x9 : Int) (x10 : Int) (a2 : Int) (s13 : (List UInt8)) (x14 : Int) (x16 : TLeaf) (x18 : Int) (gb22 : Bool) : Option Bool :=
  if gb22 = true then some false else bind1 (m91_quirref_LeafText a0) fun s82 => if s21 ≠ s82 then some false else if x22 ≠ 0 then some false else m13_quirlaw_LeafSays_K4 a0 a1 x7 x9 x10 a2 s13 x14 x16 x18
def m13_quirlaw_LeafSays_K3 (a0 : TLeaf) (x4 : Int) (s21 : (List UInt8)) (x22 : Int) (a1 : (List UInt8)) (x7 : TLeaf) (x9 : Int) (x10 : Int) (a2 : Int) (s13 : (List UInt8)) (x14 : Int) (x16 : TLeaf) (x18 : Int) (x5 : Int) : Option Bool :=
  bind1 (m91_quirref_LeafText a0) fun s86 => bind1 (i64 (512 - (s86.length : Int))) fun x88 => if x4 ≠ x88 then m13_quirlaw_LeafSays_K19 a0 s21 x22 a1 x7 x9 x10 a2 s13 x14 x16 x18 true else if x5 ≠ 0 then m13_quirlaw_LeafSays_K19 a0 s21 x22 a1 x7 x9 x10 a2 s13 x14 x16 x18 true else m13_quirlaw_LeafSays_K19 a0 s21 x22 a1 x7 x9 x10 a2 s13 x14 x16 x18 false
def m13_quirlaw_LeafSays_K24 (x22 : Int) (x2 : Int) (gb27 : Bool) : Option Bool :=
  if gb27 = true then some (decide (x22 = x2)) else some false
def m13_quirlaw_LeafSays_K23 (x18 : Int) (x2 : Int) (s21 : (List UInt8)) (x22 : Int) (gb26 : Bool) : Option Bool :=
  if gb26 = true then if x18 = x2 then if s21 = [] then m13_quirlaw_LeafSays_K24 x22 x2 true else m13_quirlaw_LeafSays_K24 x22 x2 false else m13_quirlaw_LeafSays_K24 x22 x2 false else some false
def m13_quirlaw_LeafSays_K22 (x14 : Int) (x2 : Int) (x16 : TLeaf) (x18 : Int) (s21 : (List UInt8)) (x22 : Int) (gb25 : Bool) : Option Bool :=
  if gb25 = true then if x14 = x2 then bind1 (m89_quirref_SameLeaf x16 (⟨[]⟩ : TLeaf)) fun b95 => if b95 = true then m13_quirlaw_LeafSays_K23 x18 x2 s21 x22 true else m13_quirlaw_LeafSays_K23 x18 x2 s21 x22 false else m13_quirlaw_LeafSays_K23 x18 x2 s21 x22 false else some false
def m13_quirlaw_LeafSays_K21 (x10 : Int) (x2 : Int) (s13 : (List UInt8)) (x14 : Int) (x16 : TLeaf) (x18 : Int) (s21 : (List UInt8)) (x22 : Int) (gb24 : Bool) : Option Bool :=
  if gb24 = true then if x10 = x2 then if s13 = [] then m13_quirlaw_LeafSays_K22 x14 x2 x16 x18 s21 x22 true else m13_quirlaw_LeafSays_K22 x14 x2 x16 x18 s21 x22 false else m13_quirlaw_LeafSays_K22 x14 x2 x16 x18 s21 x22 false else some false
def m13_quirlaw_LeafSays_K20 (x7 : TLeaf) (x9 : Int) (x10 : Int) (x2 : Int) (s13 : (List UInt8)) (x14 : Int) (x16 : TLeaf) (x18 : Int) (s21 : (List UInt8)) (x22 : Int) (gb23 : Bool) : Option Bool :=
  if gb23 = true then bind1 (m89_quirref_SameLeaf x7 (⟨[]⟩ : TLeaf)) fun b99 => if b99 = true then if x9 = 0 then m13_quirlaw_LeafSays_K21 x10 x2 s13 x14 x16 x18 s21 x22 true else m13_quirlaw_LeafSays_K21 x10 x2 s13 x14 x16 x18 s21 x22 false else m13_quirlaw_LeafSays_K21 x10 x2 s13 x14 x16 x18 s21 x22 false else some false
def m13_quirlaw_LeafSays_K2 (x2 : Int) (x4 : Int) (x5 : Int) (x7 : TLeaf) (x9 : Int) (x10 : Int) (s13 : (List UInt8)) (x14 : Int) (x16 : TLeaf) (x18 : Int) (s21 : (List UInt8)) (x22 : Int) (a0 : TLeaf) (a1 : (List UInt8)) (a2 : Int) : Option Bool :=
  if x2 ≠ 0 then if x4 = 0 then if x5 = x2 then m13_quirlaw_LeafSays_K20 x7 x9 x10 x2 s13 x14 x16 x18 s21 x22 true else m13_quirlaw_LeafSays_K20 x7 x9 x10 x2 s13 x14 x16 x18 s21 x22 false else m13_quirlaw_LeafSays_K20 x7 x9 x10 x2 s13 x14 x16 x18 s21 x22 false else m13_quirlaw_LeafSays_K3 a0 x4 s21 x22 a1 x7 x9 x10 a2 s13 x14 x16 x18 x5
def m13_quirlaw_LeafSays_K25 (x26 : Int) (a0 : TLeaf) (x2 : Int) (x4 : Int) (x5 : Int) (x7 : TLeaf) (x9 : Int) (x10 : Int) (s13 : (List UInt8)) (x14 : Int) (x16 : TLeaf) (x18 : Int) (s21 : (List UInt8)) (x22 : Int) (a1 : (List UInt8)) (a2 : Int) (gb28 : Bool) : Option Bool :=
  if gb28 = true then some false else if x26 ≠ 4 then some false else bind1 (m90_leaf_Check a0) fun x105 => if x105 ≠ x2 then some false else m13_quirlaw_LeafSays_K2 x2 x4 x5 x7 x9 x10 s13 x14 x16 x18 s21 x22 a0 a1 a2
def m13_quirlaw_LeafSays_K34 (x16 : TLeaf) (gl34 : (List TSlot)) (x18 : Int) (gb35 : Bool) : Option Bool :=
  if gb35 = true then bind1 (m89_quirref_SameLeaf x16 (⟨gl34⟩ : TLeaf)) fun b123 => if b123 = true then some (decide (x18 = 0)) else some false else some false
def m13_quirlaw_LeafSays_K33 (a0 : TLeaf) (a2 : Int) (s13 : (List UInt8)) (x14 : Int) (x16 : TLeaf) (x18 : Int) (gl34 : (List TSlot)) : Option Bool :=
  bind1 (idx a0.Slots a2) fun x125 => if s13 = x125.Text then if x14 = 0 then m13_quirlaw_LeafSays_K34 x16 gl34 x18 true else m13_quirlaw_LeafSays_K34 x16 gl34 x18 false else m13_quirlaw_LeafSays_K34 x16 gl34 x18 false
def m13_quirlaw_LeafSays_L3B (go3 : Int → (List TSlot) → Option Bool) (a0 : TLeaf) (a2 : Int) (s13 : (List UInt8)) (x14 : Int) (x16 : TLeaf) (x18 : Int) (gx36 : Int) (gl38 : (List TSlot)) : Option Bool :=
  if 0 < gx36 then bind1 (i64 (gx36 - 1)) fun x129 => bind1 (idx gl38 x129) fun x130 => if x130.Used = true then m13_quirlaw_LeafSays_K33 a0 a2 s13 x14 x16 x18 gl38 else bind1 (i64 (gx36 - 1)) fun x132 => bind1 (cut gl38 0 x132) fun l133 => bind1 (i64 (gx36 - 1)) fun x135 => go3 x135 l133 else m13_quirlaw_LeafSays_K33 a0 a2 s13 x14 x16 x18 gl38
def m13_quirlaw_LeafSays_L3 (a0 : TLeaf) (a2 : Int) (s13 : (List UInt8)) (x14 : Int) (x16 : TLeaf) (x18 : Int) : Nat → Int → (List TSlot) → Option Bool
  | 0, _, _ => none
  | n + 1, gx36, gl38 => m13_quirlaw_LeafSays_L3B (m13_quirlaw_LeafSays_L3 a0 a2 s13 x14 x16 x18 n) a0 a2 s13 x14 x16 x18 gx36 gl38
def m13_quirlaw_LeafSays_K32 (a0 : TLeaf) (a2 : Int) (s13 : (List UInt8)) (x14 : Int) (x16 : TLeaf) (x18 : Int) : Option Bool :=
  bind1 (m94_api_Slot a0.Slots) fun l118 => bind1 (idx l118 a2) fun x121 => bind1 (upd l118 a2 (⟨false, []⟩ : TSlot)) fun l122 => m13_quirlaw_LeafSays_L3 a0 a2 s13 x14 x16 x18 big (l122.length : Int) l122
def m13_quirlaw_LeafSays_K36 (x16 : TLeaf) (x18 : Int) (gb40 : Bool) : Option Bool :=
  if gb40 = true then bind1 (m89_quirref_SameLeaf x16 (⟨[]⟩ : TLeaf)) fun b136 => if b136 = true then some (decide (x18 = 6)) else some false else some false
def m13_quirlaw_LeafSays_K35 (s13 : (List UInt8)) (x14 : Int) (x16 : TLeaf) (x18 : Int) (a0 : TLeaf) (a2 : Int) (gb39 : Bool) : Option Bool :=
  if gb39 = true then if s13 = [] then if x14 = 6 then m13_quirlaw_LeafSays_K36 x16 x18 true else m13_quirlaw_LeafSays_K36 x16 x18 false else m13_quirlaw_LeafSays_K36 x16 x18 false else m13_quirlaw_LeafSays_K32 a0 a2 s13 x14 x16 x18
def m13_quirlaw_LeafSays_K37 (s13 : (List UInt8)) (x14 : Int) (x16 : TLeaf) (x18 : Int) (a0 : TLeaf) (a2 : Int) (gb41 : Bool) : Option Bool :=
  if gb41 = true then m13_quirlaw_LeafSays_K35 s13 x14 x16 x18 a0 a2 true else bind1 (idx a0.Slots a2) fun x140 => if x140.Used = true then m13_quirlaw_LeafSays_K35 s13 x14 x16 x18 a0 a2 false else m13_quirlaw_LeafSays_K35 s13 x14 x16 x18 a0 a2 true
def m13_quirlaw_LeafSays_K31 (a2 : Int) (s13 : (List UInt8)) (x14 : Int) (x16 : TLeaf) (x18 : Int) (a0 : TLeaf) : Option Bool :=
  if a2 < 0 then m13_quirlaw_LeafSays_K37 s13 x14 x16 x18 a0 a2 true else if (a0.Slots.length : Int) ≤ a2 then m13_quirlaw_LeafSays_K37 s13 x14 x16 x18 a0 a2 true else m13_quirlaw_LeafSays_K37 s13 x14 x16 x18 a0 a2 false
def m13_quirlaw_LeafSays_K39 (x10 : Int) (a2 : Int) (s13 : (List UInt8)) (x14 : Int) (x16 : TLeaf) (x18 : Int) (a0 : TLeaf) (gb43 : Bool) : Option Bool :=
  if gb43 = true then some false else if x10 ≠ 0 then some false else m13_quirlaw_LeafSays_K31 a2 s13 x14 x16 x18 a0
def m13_quirlaw_LeafSays_K40 (x10 : Int) (a2 : Int) (s13 : (List UInt8)) (x14 : Int) (x16 : TLeaf) (x18 : Int) (a0 : TLeaf) (gb44 : Bool) : Option Bool :=
  if gb44 = true then some false else if x10 ≠ 8 then some false else m13_quirlaw_LeafSays_K31 a2 s13 x14 x16 x18 a0
def m13_quirlaw_LeafSays_K38 (x7 : TLeaf) (x9 : Int) (x10 : Int) (a2 : Int) (s13 : (List UInt8)) (x14 : Int) (x16 : TLeaf) (x18 : Int) (a0 : TLeaf) (l117 : (List TSlot)) (gx30 : Int) (gb42 : Bool) : Option Bool :=
  if gb42 = true then bind1 (m89_quirref_SameLeaf x7 (⟨[]⟩ : TLeaf)) fun b149 => if b149 = true then if x9 ≠ 0 then m13_quirlaw_LeafSays_K40 x10 a2 s13 x14 x16 x18 a0 true else m13_quirlaw_LeafSays_K40 x10 a2 s13 x14 x16 x18 a0 false else m13_quirlaw_LeafSays_K40 x10 a2 s13 x14 x16 x18 a0 true else bind1 (m89_quirref_SameLeaf x7 (⟨l117⟩ : TLeaf)) fun b145 => if b145 = true then if x9 ≠ gx30 then m13_quirlaw_LeafSays_K39 x10 a2 s13 x14 x16 x18 a0 true else m13_quirlaw_LeafSays_K39 x10 a2 s13 x14 x16 x18 a0 false else m13_quirlaw_LeafSays_K39 x10 a2 s13 x14 x16 x18 a0 true
def m13_quirlaw_LeafSays_K30 (a1 : (List UInt8)) (x7 : TLeaf) (x9 : Int) (x10 : Int) (a2 : Int) (s13 : (List UInt8)) (x14 : Int) (x16 : TLeaf) (x18 : Int) (a0 : TLeaf) (gx30 : Int) (gl32 : (List TSlot)) : Option Bool :=
  bind1 (idx gl32 gx30) fun x116 => bind1 (upd gl32 gx30 (⟨true, a1⟩ : TSlot)) fun l117 => if 4096 < (a1.length : Int) then m13_quirlaw_LeafSays_K38 x7 x9 x10 a2 s13 x14 x16 x18 a0 l117 gx30 true else bind1 (m81_quirref_LeafErr (⟨l117⟩ : TLeaf)) fun x153 => if x153 ≠ 0 then m13_quirlaw_LeafSays_K38 x7 x9 x10 a2 s13 x14 x16 x18 a0 l117 gx30 true else m13_quirlaw_LeafSays_K38 x7 x9 x10 a2 s13 x14 x16 x18 a0 l117 gx30 false
def m13_quirlaw_LeafSays_K29 (a0 : TLeaf) (a1 : (List UInt8)) (x7 : TLeaf) (x9 : Int) (x10 : Int) (a2 : Int) (s13 : (List UInt8)) (x14 : Int) (x16 : TLeaf) (x18 : Int) (gx29 : Int) : Option Bool :=
  bind1 (m94_api_Slot a0.Slots) fun l112 => if gx29 < 0 then bind1 (app l112 ([(⟨false, []⟩ : TSlot)])) fun l159 => m13_quirlaw_LeafSays_K30 a1 x7 x9 x10 a2 s13 x14 x16 x18 a0 (a0.Slots.length : Int) l159 else m13_quirlaw_LeafSays_K30 a1 x7 x9 x10 a2 s13 x14 x16 x18 a0 gx29 l112
def m13_quirlaw_LeafSays_K41 (a0 : TLeaf) (a1 : (List UInt8)) (x7 : TLeaf) (x9 : Int) (x10 : Int) (a2 : Int) (s13 : (List UInt8)) (x14 : Int) (x16 : TLeaf) (x18 : Int) : Option Bool :=
  m13_quirlaw_LeafSays_K29 a0 a1 x7 x9 x10 a2 s13 x14 x16 x18 (-1)
def m13_quirlaw_LeafSays_K42 (x161 : TSlot) (a0 : TLeaf) (a1 : (List UInt8)) (x7 : TLeaf) (x9 : Int) (x10 : Int) (a2 : Int) (s13 : (List UInt8)) (x14 : Int) (x16 : TLeaf) (x18 : Int) (gx45 : Int) (go4 : Int → Option Bool) : Option Bool :=
  if (!x161.Used) = true then m13_quirlaw_LeafSays_K29 a0 a1 x7 x9 x10 a2 s13 x14 x16 x18 gx45 else bind1 (i64 (gx45 + 1)) fun x162 => go4 x162
def m13_quirlaw_LeafSays_L4B (go4 : Int → Option Bool) (a0 : TLeaf) (a1 : (List UInt8)) (x7 : TLeaf) (x9 : Int) (x10 : Int) (a2 : Int) (s13 : (List UInt8)) (x14 : Int) (x16 : TLeaf) (x18 : Int) (gx45 : Int) : Option Bool :=
  if gx45 < (a0.Slots.length : Int) then bind1 (idx a0.Slots gx45) fun x161 => m13_quirlaw_LeafSays_K42 x161 a0 a1 x7 x9 x10 a2 s13 x14 x16 x18 gx45 go4 else m13_quirlaw_LeafSays_K41 a0 a1 x7 x9 x10 a2 s13 x14 x16 x18
def m13_quirlaw_LeafSays_L4 (a0 : TLeaf) (a1 : (List UInt8)) (x7 : TLeaf) (x9 : Int) (x10 : Int) (a2 : Int) (s13 : (List UInt8)) (x14 : Int) (x16 : TLeaf) (x18 : Int) : Nat → Int → Option Bool
  | 0, _ => none
  | n + 1, gx45 => m13_quirlaw_LeafSays_L4B (m13_quirlaw_LeafSays_L4 a0 a1 x7 x9 x10 a2 s13 x14 x16 x18 n) a0 a1 x7 x9 x10 a2 s13 x14 x16 x18 gx45
def m13_quirlaw_LeafSays_K28 (a0 : TLeaf) (a1 : (List UInt8)) (x7 : TLeaf) (x9 : Int) (x10 : Int) (a2 : Int) (s13 : (List UInt8)) (x14 : Int) (x16 : TLeaf) (x18 : Int) : Option Bool :=
  m13_quirlaw_LeafSays_L4 a0 a1 x7 x9 x10 a2 s13 x14 x16 x18 big 0
def m13_quirlaw_LeafSays_K43 (a0 : TLeaf) (s21 : (List UInt8)) (x22 : Int) (a1 : (List UInt8)) (x7 : TLeaf) (x9 : Int) (x10 : Int) (a2 : Int) (s13 : (List UInt8)) (x14 : Int) (x16 : TLeaf) (x18 : Int) (gb46 : Bool) : Option Bool :=
  if gb46 = true then some false else bind1 (m91_quirref_LeafText a0) fun s164 => if s21 ≠ s164 then some false else if x22 ≠ 0 then some false else m13_quirlaw_LeafSays_K28 a0 a1 x7 x9 x10 a2 s13 x14 x16 x18
def m13_quirlaw_LeafSays_K27 (a0 : TLeaf) (x4 : Int) (s21 : (List UInt8)) (x22 : Int) (a1 : (List UInt8)) (x7 : TLeaf) (x9 : Int) (x10 : Int) (a2 : Int) (s13 : (List UInt8)) (x14 : Int) (x16 : TLeaf) (x18 : Int) (x5 : Int) : Option Bool :=
  bind1 (m91_quirref_LeafText a0) fun s168 => bind1 (i64 (512 - (s168.length : Int))) fun x170 => if x4 ≠ x170 then m13_quirlaw_LeafSays_K43 a0 s21 x22 a1 x7 x9 x10 a2 s13 x14 x16 x18 true else if x5 ≠ 0 then m13_quirlaw_LeafSays_K43 a0 s21 x22 a1 x7 x9 x10 a2 s13 x14 x16 x18 true else m13_quirlaw_LeafSays_K43 a0 s21 x22 a1 x7 x9 x10 a2 s13 x14 x16 x18 false
def m13_quirlaw_LeafSays_K48 (x22 : Int) (x2 : Int) (gb51 : Bool) : Option Bool :=
  if gb51 = true then some (decide (x22 = x2)) else some false
def m13_quirlaw_LeafSays_K47 (x18 : Int) (x2 : Int) (s21 : (List UInt8)) (x22 : Int) (gb50 : Bool) : Option Bool :=
  if gb50 = true then if x18 = x2 then if s21 = [] then m13_quirlaw_LeafSays_K48 x22 x2 true else m13_quirlaw_LeafSays_K48 x22 x2 false else m13_quirlaw_LeafSays_K48 x22 x2 false else some false
def m13_quirlaw_LeafSays_K46 (x14 : Int) (x2 : Int) (x16 : TLeaf) (x18 : Int) (s21 : (List UInt8)) (x22 : Int) (gb49 : Bool) : Option Bool :=
  if gb49 = true then if x14 = x2 then bind1 (m89_quirref_SameLeaf x16 (⟨[]⟩ : TLeaf)) fun b177 => if b177 = true then m13_quirlaw_LeafSays_K47 x18 x2 s21 x22 true else m13_quirlaw_LeafSays_K47 x18 x2 s21 x22 false else m13_quirlaw_LeafSays_K47 x18 x2 s21 x22 false else some false
def m13_quirlaw_LeafSays_K45 (x10 : Int) (x2 : Int) (s13 : (List UInt8)) (x14 : Int) (x16 : TLeaf) (x18 : Int) (s21 : (List UInt8)) (x22 : Int) (gb48 : Bool) : Option Bool :=
  if gb48 = true then if x10 = x2 then if s13 = [] then m13_quirlaw_LeafSays_K46 x14 x2 x16 x18 s21 x22 true else m13_quirlaw_LeafSays_K46 x14 x2 x16 x18 s21 x22 false else m13_quirlaw_LeafSays_K46 x14 x2 x16 x18 s21 x22 false else some false
def m13_quirlaw_LeafSays_K44 (x7 : TLeaf) (x9 : Int) (x10 : Int) (x2 : Int) (s13 : (List UInt8)) (x14 : Int) (x16 : TLeaf) (x18 : Int) (s21 : (List UInt8)) (x22 : Int) (gb47 : Bool) : Option Bool :=
  if gb47 = true then bind1 (m89_quirref_SameLeaf x7 (⟨[]⟩ : TLeaf)) fun b181 => if b181 = true then if x9 = 0 then m13_quirlaw_LeafSays_K45 x10 x2 s13 x14 x16 x18 s21 x22 true else m13_quirlaw_LeafSays_K45 x10 x2 s13 x14 x16 x18 s21 x22 false else m13_quirlaw_LeafSays_K45 x10 x2 s13 x14 x16 x18 s21 x22 false else some false
def m13_quirlaw_LeafSays_K26 (x2 : Int) (x4 : Int) (x5 : Int) (x7 : TLeaf) (x9 : Int) (x10 : Int) (s13 : (List UInt8)) (x14 : Int) (x16 : TLeaf) (x18 : Int) (s21 : (List UInt8)) (x22 : Int) (a0 : TLeaf) (a1 : (List UInt8)) (a2 : Int) : Option Bool :=
  if x2 ≠ 0 then if x4 = 0 then if x5 = x2 then m13_quirlaw_LeafSays_K44 x7 x9 x10 x2 s13 x14 x16 x18 s21 x22 true else m13_quirlaw_LeafSays_K44 x7 x9 x10 x2 s13 x14 x16 x18 s21 x22 false else m13_quirlaw_LeafSays_K44 x7 x9 x10 x2 s13 x14 x16 x18 s21 x22 false else m13_quirlaw_LeafSays_K27 a0 x4 s21 x22 a1 x7 x9 x10 a2 s13 x14 x16 x18 x5
def m13_quirlaw_LeafSays_K49 (a0 : TLeaf) (x2 : Int) (x4 : Int) (x5 : Int) (x7 : TLeaf) (x9 : Int) (x10 : Int) (s13 : (List UInt8)) (x14 : Int) (x16 : TLeaf) (x18 : Int) (s21 : (List UInt8)) (x22 : Int) (a1 : (List UInt8)) (a2 : Int) (gb52 : Bool) : Option Bool :=
  if gb52 = true then some false else bind1 (m90_leaf_Check a0) fun x186 => if x186 ≠ x2 then some false else m13_quirlaw_LeafSays_K26 x2 x4 x5 x7 x9 x10 s13 x14 x16 x18 s21 x22 a0 a1 a2
def m13_quirlaw_LeafSays_K1 (x24 : TLeaf) (x26 : Int) (a0 : TLeaf) (x2 : Int) (x4 : Int) (x5 : Int) (x7 : TLeaf) (x9 : Int) (x10 : Int) (s13 : (List UInt8)) (x14 : Int) (x16 : TLeaf) (x18 : Int) (s21 : (List UInt8)) (x22 : Int) (a1 : (List UInt8)) (a2 : Int) (gl3 : (List TSlot)) (gb4 : Bool) : Option Bool :=
  if gb4 = true then bind1 (m89_quirref_SameLeaf x24 (⟨gl3⟩ : TLeaf)) fun b189 => if b189 = true then if (!((decide (x26 = 0)) == true)) = true then m13_quirlaw_LeafSays_K49 a0 x2 x4 x5 x7 x9 x10 s13 x14 x16 x18 s21 x22 a1 a2 true else m13_quirlaw_LeafSays_K49 a0 x2 x4 x5 x7 x9 x10 s13 x14 x16 x18 s21 x22 a1 a2 false else m13_quirlaw_LeafSays_K49 a0 x2 x4 x5 x7 x9 x10 s13 x14 x16 x18 s21 x22 a1 a2 true else bind1 (m89_quirref_SameLeaf x24 (⟨gl3⟩ : TLeaf)) fun b108 => if b108 = true then if (!((decide (x26 = 0)) == false)) = true then m13_quirlaw_LeafSays_K25 x26 a0 x2 x4 x5 x7 x9 x10 s13 x14 x16 x18 s21 x22 a1 a2 true else m13_quirlaw_LeafSays_K25 x26 a0 x2 x4 x5 x7 x9 x10 s13 x14 x16 x18 s21 x22 a1 a2 false else m13_quirlaw_LeafSays_K25 x26 a0 x2 x4 x5 x7 x9 x10 s13 x14 x16 x18 s21 x22 a1 a2 true
def m13_quirlaw_LeafSays (a0 : TLeaf) (a1 : (List UInt8)) (a2 : Int) (a3 : (List UInt8)) : Option Bool :=
  bind1 (m81_quirref_LeafErr a0) fun x2 => bind2 (m82_leaf_Free a0) fun x4 x5 => bind3 (m83_leaf_Put a0 a1) fun x7 x9 x10 => bind2 (m84_leaf_Get a0 a2) fun s13 x14 => bind2 (m85_leaf_Drop a0 a2) fun x16 x18 => bind2 (m86_leaf_Text a0) fun s21 x22 => bind2 (m87_leaf_Read a3) fun x24 x26 => bind2 (m88_quirref_LeafRead a3) fun x192 b194 => if b194 = true then m13_quirlaw_LeafSays_K1 x24 x26 a0 x2 x4 x5 x7 x9 x10 s13 x14 x16 x18 s21 x22 a1 a2 x192.Slots true else m13_quirlaw_LeafSays_K1 x24 x26 a0 x2 x4 x5 x7 x9 x10 s13 x14 x16 x18 s21 x22 a1 a2 x192.Slots false
end Go.Proofs.Ytfmgjigdebofaaa
