/-
  Models, printed by a program of mine.
  Conditions: none.
-/
import Derived.Test.YtfmgjigdebofaaaI
namespace Go.Proofs.Ytfmgjigdebofaaa
open Go.S
set_option linter.unusedVariables false
def m27_code_GetNat_K1 : Option (Int × Int × Int) :=
  some (0, 0, 3)
def m27_code_GetNat_K3 (x1552 : Int) (x1551 : Int) (x2283 : Int) : Option (Int × Int × Int) :=
  bind1 (i64 (x1552 + 1)) fun x2317 => some (Go.bits .or .u64 x1551 x2283, x2317, 0)
def m27_code_GetNat_K2 (x1552 : Int) (x2135 : Int) (x1551 : Int) (go1 : Int → Int → Option (Int × Int × Int)) : Option (Int × Int × Int) :=
  bind1 (i64 (7 * x1552)) fun x2282 => bind1 (shlW .u64 (IntKind.wrap .u64 (Go.bits .and .u8 x2135 127)) x2282) fun x2283 => if x2135 < 128 then if x2135 = 0 then if 0 < x1552 then some (0, 0, 4) else m27_code_GetNat_K3 x1552 x1551 x2283 else m27_code_GetNat_K3 x1552 x1551 x2283 else bind1 (i64 (x1552 + 1)) fun x2322 => go1 (Go.bits .or .u64 x1551 x2283) x2322
def m27_code_GetNat_L1B (go1 : Int → Int → Option (Int × Int × Int)) (a0 : (List UInt8)) (x1551 : Int) (x1552 : Int) : Option (Int × Int × Int) :=
  if x1552 < (a0.length : Int) then bind1 (idxS a0 x1552) fun x2135 => if x1552 = 9 then if 1 < x2135 then some (0, 0, 2) else m27_code_GetNat_K2 x1552 x2135 x1551 go1 else m27_code_GetNat_K2 x1552 x2135 x1551 go1 else m27_code_GetNat_K1
def m27_code_GetNat_L1 (a0 : (List UInt8)) : Nat → Int → Int → Option (Int × Int × Int)
  | 0, _, _ => none
  | n + 1, x1551, x1552 => m27_code_GetNat_L1B (m27_code_GetNat_L1 a0 n) a0 x1551 x1552
def m27_code_GetNat (a0 : (List UInt8)) : Option (Int × Int × Int) :=
  m27_code_GetNat_L1 a0 big 0 0
def m29_code_GetInt_K2 (x6 : Int) (x29 : Int) : Option (Int × Int × Int) :=
  some (IntKind.wrap .i64 x29, x6, 0)
def m29_code_GetInt_K1 (x5 : Int) (x6 : Int) : Option (Int × Int × Int) :=
  bind1 (shrW .u64 x5 1) fun x26 => if (Go.bits .and .u64 x5 1) = 1 then m29_code_GetInt_K2 x6 (comW .u64 x26) else m29_code_GetInt_K2 x6 x26
def m29_code_GetInt (a0 : (List UInt8)) : Option (Int × Int × Int) :=
  bind3 (m27_code_GetNat a0) fun x5 x6 x7 => if x7 ≠ 0 then some (0, 0, x7) else m29_code_GetInt_K1 x5 x6
def m31_code_GetText_K1 (x6 : Int) (x5 : Int) (a0 : (List UInt8)) : Option ((List UInt8) × Int × Int) :=
  bind1 (i64 (x6 + (IntKind.wrap .i64 x5))) fun x82 => bind1 (cut a0 x6 x82) fun s83 => bind1 (i64 (x6 + (IntKind.wrap .i64 x5))) fun x84 => some (s83, x84, 0)
def m31_code_GetText (a0 : (List UInt8)) : Option ((List UInt8) × Int × Int) :=
  bind3 (m27_code_GetNat a0) fun x5 x6 x7 => if x7 ≠ 0 then some ([], 0, x7) else if 4096 < x5 then some ([], 0, 2) else bind1 (i64 ((a0.length : Int) - x6)) fun x105 => if (IntKind.wrap .u64 x105) < x5 then some ([], 0, 3) else m31_code_GetText_K1 x6 x5 a0
def m35_code_PutNat_K1 (x100 : Int) (l102 : (List Int)) : Option (List UInt8) :=
  bind1 (app l102 ([IntKind.wrap .u8 x100])) fun l108 => some (bytesOf l108)
def m35_code_PutNat_L1B (go1 : Int → (List Int) → Option (List UInt8)) (x141 : Int) (l143 : (List Int)) : Option (List UInt8) :=
  if 128 ≤ x141 then bind1 (app l143 ([Go.bits .or .u8 (IntKind.wrap .u8 x141) 128])) fun l206 => bind1 (shrW .u64 x141 7) fun x207 => go1 x207 l206 else m35_code_PutNat_K1 x141 l143
def m35_code_PutNat_L1 : Nat → Int → (List Int) → Option (List UInt8)
  | 0, _, _ => none
  | n + 1, x141, l143 => m35_code_PutNat_L1B (m35_code_PutNat_L1 n) x141 l143
def m35_code_PutNat (a0 : Int) : Option (List UInt8) :=
  m35_code_PutNat_L1 big a0 []
def m37_code_PutInt (a0 : Int) : Option (List UInt8) :=
  bind1 (shlW .u64 (IntKind.wrap .u64 a0) 1) fun x2 => if a0 < 0 then bind1 (m35_code_PutNat (comW .u64 x2)) fun s33 => some s33 else bind1 (m35_code_PutNat x2) fun s37 => some s37
def m33_code_PutText (a0 : (List UInt8)) : Option ((List UInt8) × Int) :=
  if 4096 < (a0.length : Int) then some ([], 2) else bind1 (m35_code_PutNat (IntKind.wrap .u64 (a0.length : Int))) fun s26 => bind1 (catS s26 a0) fun s28 => some (s28, 0)
def m28_quirref_GetNat_K1 : Option (Int × Int × Int) :=
  some (0, 0, 3)
def m28_quirref_GetNat_K2 (x8514 : Int) (go1 : Int → Option (Int × Int × Int)) : Option (Int × Int × Int) :=
  bind1 (i64 (x8514 + 1)) fun x11707 => go1 x11707
def m28_quirref_GetNat_K6 (x8514 : Int) (x12678 : Int) : Option (Int × Int × Int) :=
  bind1 (i64 (x8514 + 1)) fun x12680 => some (x12678, x12680, 0)
def m28_quirref_GetNat_L2B (go2 : Int → Int → Option (Int × Int × Int)) (a0 : (List UInt8)) (x8514 : Int) (x12705 : Int) (x12706 : Int) : Option (Int × Int × Int) :=
  if 0 ≤ x12706 then bind1 (idxS a0 x12706) fun x12752 => bind1 (modW x12752 128) fun x12753 => bind1 (i64 (x12706 - 1)) fun x12754 => go2 (IntKind.wrap .u64 ((IntKind.wrap .u64 (x12705 * 128)) + (IntKind.wrap .u64 x12753))) x12754 else m28_quirref_GetNat_K6 x8514 x12705
def m28_quirref_GetNat_L2 (a0 : (List UInt8)) (x8514 : Int) : Nat → Int → Int → Option (Int × Int × Int)
  | 0, _, _ => none
  | n + 1, x12705, x12706 => m28_quirref_GetNat_L2B (m28_quirref_GetNat_L2 a0 x8514 n) a0 x8514 x12705 x12706
def m28_quirref_GetNat_K5 (a0 : (List UInt8)) (x8514 : Int) : Option (Int × Int × Int) :=
  m28_quirref_GetNat_L2 a0 x8514 big 0 x8514
def m28_quirref_GetNat_K4 (a0 : (List UInt8)) (x8514 : Int) : Option (Int × Int × Int) :=
  bind1 (idxS a0 x8514) fun x12758 => if x12758 = 0 then if 0 < x8514 then some (0, 0, 4) else m28_quirref_GetNat_K5 a0 x8514 else m28_quirref_GetNat_K5 a0 x8514
def m28_quirref_GetNat_K3 (a0 : (List UInt8)) (x8514 : Int) (go1 : Int → Option (Int × Int × Int)) : Option (Int × Int × Int) :=
  bind1 (idxS a0 x8514) fun x12763 => if 128 ≤ x12763 then m28_quirref_GetNat_K2 x8514 go1 else m28_quirref_GetNat_K4 a0 x8514
def m28_quirref_GetNat_L1B (go1 : Int → Option (Int × Int × Int)) (a0 : (List UInt8)) (x8514 : Int) : Option (Int × Int × Int) :=
  if x8514 < (a0.length : Int) then if x8514 = 9 then bind1 (idxS a0 x8514) fun x12769 => if 1 < x12769 then some (0, 0, 2) else m28_quirref_GetNat_K3 a0 x8514 go1 else m28_quirref_GetNat_K3 a0 x8514 go1 else m28_quirref_GetNat_K1
def m28_quirref_GetNat_L1 (a0 : (List UInt8)) : Nat → Int → Option (Int × Int × Int)
  | 0, _ => none
  | n + 1, x8514 => m28_quirref_GetNat_L1B (m28_quirref_GetNat_L1 a0 n) a0 x8514
def m28_quirref_GetNat (a0 : (List UInt8)) : Option (Int × Int × Int) :=
  m28_quirref_GetNat_L1 a0 big 0
def m30_quirref_GetInt_K1 (x5 : Int) (x6 : Int) : Option (Int × Int × Int) :=
  bind1 (modW x5 2) fun x99 => if x99 = 1 then bind1 (divW .u64 x5 2) fun x103 => bind1 (i64 ((IntKind.wrap .i64 (-(IntKind.wrap .i64 x103))) - 1)) fun x104 => some (x104, x6, 0) else bind1 (divW .u64 x5 2) fun x106 => some (IntKind.wrap .i64 x106, x6, 0)
def m30_quirref_GetInt (a0 : (List UInt8)) : Option (Int × Int × Int) :=
  bind3 (m28_quirref_GetNat a0) fun x5 x6 x7 => if x7 ≠ 0 then some (0, 0, x7) else m30_quirref_GetInt_K1 x5 x6
def m32_quirref_GetText_K3 (x6 : Int) (x5 : Int) (a0 : (List UInt8)) : Option ((List UInt8) × Int × Int) :=
  bind1 (i64 (x6 + (IntKind.wrap .i64 x5))) fun x208 => bind1 (cut a0 x6 x208) fun s209 => bind1 (i64 (x6 + (IntKind.wrap .i64 x5))) fun x210 => some (s209, x210, 0)
def m32_quirref_GetText_K2 (a0 : (List UInt8)) (x6 : Int) (x5 : Int) : Option ((List UInt8) × Int × Int) :=
  bind1 (i64 ((a0.length : Int) - x6)) fun x213 => if x213 < (IntKind.wrap .i64 x5) then some ([], 0, 3) else m32_quirref_GetText_K3 x6 x5 a0
def m32_quirref_GetText_K1 (x5 : Int) (a0 : (List UInt8)) (x6 : Int) : Option ((List UInt8) × Int × Int) :=
  if 4096 < x5 then some ([], 0, 2) else m32_quirref_GetText_K2 a0 x6 x5
def m32_quirref_GetText (a0 : (List UInt8)) : Option ((List UInt8) × Int × Int) :=
  bind3 (m28_quirref_GetNat a0) fun x5 x6 x7 => if x7 ≠ 0 then some ([], 0, x7) else m32_quirref_GetText_K1 x5 a0 x6
def m36_quirref_Nat_K2 (s59 : (List UInt8)) : Option (List UInt8) :=
  some s59
def m36_quirref_Nat_K1 (a0 : Int) (rec : Int → Option (List UInt8)) : Option (List UInt8) :=
  bind1 (modW a0 128) fun x60 => bind1 (divW .u64 a0 128) fun x61 => bind1 (rec x61) fun s63 => bind1 (catS (bytesOf ([IntKind.wrap .u8 (IntKind.wrap .u64 (x60 + 128))])) s63) fun s65 => m36_quirref_Nat_K2 s65
def m36_quirref_NatB (rec : Int → Option (List UInt8)) (a0 : Int) : Option (List UInt8) :=
  if a0 < 128 then some (bytesOf ([IntKind.wrap .u8 a0])) else m36_quirref_Nat_K1 a0 rec
def m36_quirref_NatR : Nat → Int → Option (List UInt8)
  | 0, _ => none
  | n + 1, a0 => m36_quirref_NatB (m36_quirref_NatR n) a0
def m36_quirref_Nat (a0 : Int) : Option (List UInt8) := m36_quirref_NatR big a0
def m38_quirref_Int (a0 : Int) : Option (List UInt8) :=
  if a0 < 0 then bind1 (i64 (a0 + 1)) fun x38 => bind1 (m36_quirref_Nat (IntKind.wrap .u64 ((IntKind.wrap .u64 ((IntKind.wrap .u64 (IntKind.wrap .i64 (-x38))) * 2)) + 1))) fun s39 => some s39 else bind1 (m36_quirref_Nat (IntKind.wrap .u64 ((IntKind.wrap .u64 a0) * 2))) fun s43 => some s43
def m34_quirref_Text (a0 : (List UInt8)) : Option (List UInt8) :=
  bind1 (m36_quirref_Nat (IntKind.wrap .u64 (a0.length : Int))) fun s4 => bind1 (catS s4 a0) fun s6 => some s6
def m6_quirlaw_CodeSays_K2 (a0 : Int) (a1 : Int) (x5 : Int) (x13 : Int) (x6 : Int) (x14 : Int) (x7 : Int) (x15 : Int) (x21 : Int) (x29 : Int) (x22 : Int) (x30 : Int) (x23 : Int) (x31 : Int) (s37 : (List UInt8)) (s45 : (List UInt8)) (x38 : Int) (x46 : Int) (x39 : Int) (x47 : Int) (b535 : Bool) : Option Bool :=
  bind1 (m35_code_PutNat a0) fun s555 => bind1 (m36_quirref_Nat a0) fun s557 => if s555 = s557 then bind1 (m37_code_PutInt a1) fun s560 => bind1 (m38_quirref_Int a1) fun s562 => if s560 = s562 then if b535 = true then if x5 = x13 then if x6 = x14 then if x7 = x15 then if x21 = x29 then if x22 = x30 then if x23 = x31 then if s37 = s45 then if x38 = x46 then some (decide (x39 = x47)) else some false else some false else some false else some false else some false else some false else some false else some false else some false else some false else some false
def m6_quirlaw_CodeSays_K1 (a2 : (List UInt8)) (s52 : (List UInt8)) (x53 : Int) (a0 : Int) (a1 : Int) (x5 : Int) (x13 : Int) (x6 : Int) (x14 : Int) (x7 : Int) (x15 : Int) (x21 : Int) (x29 : Int) (x22 : Int) (x30 : Int) (x23 : Int) (x31 : Int) (s37 : (List UInt8)) (s45 : (List UInt8)) (x38 : Int) (x46 : Int) (x39 : Int) (x47 : Int) (b414 : Bool) : Option Bool :=
  if 4096 < (a2.length : Int) then if s52 = [] then if x53 = 2 then m6_quirlaw_CodeSays_K2 a0 a1 x5 x13 x6 x14 x7 x15 x21 x29 x22 x30 x23 x31 s37 s45 x38 x46 x39 x47 true else m6_quirlaw_CodeSays_K2 a0 a1 x5 x13 x6 x14 x7 x15 x21 x29 x22 x30 x23 x31 s37 s45 x38 x46 x39 x47 false else m6_quirlaw_CodeSays_K2 a0 a1 x5 x13 x6 x14 x7 x15 x21 x29 x22 x30 x23 x31 s37 s45 x38 x46 x39 x47 false else m6_quirlaw_CodeSays_K2 a0 a1 x5 x13 x6 x14 x7 x15 x21 x29 x22 x30 x23 x31 s37 s45 x38 x46 x39 x47 b414
def m6_quirlaw_CodeSays (a0 : Int) (a1 : Int) (a2 : (List UInt8)) : Option Bool :=
  bind3 (m27_code_GetNat a2) fun x5 x6 x7 => bind3 (m28_quirref_GetNat a2) fun x13 x14 x15 => bind3 (m29_code_GetInt a2) fun x21 x22 x23 => bind3 (m30_quirref_GetInt a2) fun x29 x30 x31 => bind3 (m31_code_GetText a2) fun s37 x38 x39 => bind3 (m32_quirref_GetText a2) fun s45 x46 x47 => bind2 (m33_code_PutText a2) fun s52 x53 => bind1 (m34_quirref_Text a2) fun s580 => if s52 = s580 then if x53 = 0 then m6_quirlaw_CodeSays_K1 a2 s52 x53 a0 a1 x5 x13 x6 x14 x7 x15 x21 x29 x22 x30 x23 x31 s37 s45 x38 x46 x39 x47 true else m6_quirlaw_CodeSays_K1 a2 s52 x53 a0 a1 x5 x13 x6 x14 x7 x15 x21 x29 x22 x30 x23 x31 s37 s45 x38 x46 x39 x47 false else m6_quirlaw_CodeSays_K1 a2 s52 x53 a0 a1 x5 x13 x6 x14 x7 x15 x21 x29 x22 x30 x23 x31 s37 s45 x38 x46 x39 x47 false
end Go.Proofs.Ytfmgjigdebofaaa
