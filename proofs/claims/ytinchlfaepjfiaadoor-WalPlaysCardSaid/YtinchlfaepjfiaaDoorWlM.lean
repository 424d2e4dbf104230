/-
  Models, printed by a program of mine.
  Conditions: none.
-/
import Derived.Test.YtinchlfaepjfiaaDoorGx
namespace Go.Proofs.YtinchlfaepjfiaaDoor
open Go.S
set_option linter.unusedVariables false
structure Twrite where
  at_ : Int
  text_ : (List UInt8)
  deriving DecidableEq, Inhabited
def Twrite.row (x : Twrite) : List Value := [.int .i64 x.at_, st x.text_]
structure TDisk where
  safe_ : (List (List UInt8))
  seen_ : (List (List UInt8))
  late_ : (List Twrite)
  left_ : Int
  deriving DecidableEq, Inhabited
def TDisk.rowv (x : TDisk) (vs : List Value) : List Value := [gv vs 0, gv vs 1, gv vs 2, .int .i64 x.left_]
def TDisk.sds (x : TDisk) (vs : List Value) : List Sd := [⟨gv vs 0, 9, 1, x.safe_.map SR⟩, ⟨gv vs 1, 9, 1, x.seen_.map SR⟩, ⟨gv vs 2, 75, 2, x.late_.map Twrite.row⟩]
structure Trecord where
  epoch_ : Int
  text_ : (List UInt8)
  size_ : Int
  deriving DecidableEq, Inhabited
def Trecord.row (x : Trecord) : List Value := [.int .i64 x.epoch_, st x.text_, .int .i64 x.size_]
structure TLog where
  d_ : TDisk
  from_ : Int
  size_ : Int
  epoch_ : Int
  at_ : Int
  seq_ : Int
  fell_ : Bool
  deriving DecidableEq, Inhabited
structure TDisk48 where
  Seen : (List (List UInt8))
  Safe : (List (List UInt8))
  late_ : (List Int)
  texts_ : (List (List UInt8))
  left_ : Int
  deriving DecidableEq, Inhabited
def TDisk48.rowv (x : TDisk48) (vs : List Value) : List Value := [gv vs 0, gv vs 1, gv vs 2, gv vs 3, .int .i64 x.left_]
def TDisk48.sds (x : TDisk48) (vs : List Value) : List Sd := [⟨gv vs 0, 9, 1, x.Seen.map SR⟩, ⟨gv vs 1, 9, 1, x.Safe.map SR⟩, ⟨gv vs 2, 3, 1, x.late_.map I⟩, ⟨gv vs 3, 9, 1, x.texts_.map SR⟩]
structure TLog68 where
  d_ : TDisk48
  from_ : Int
  size_ : Int
  epoch_ : Int
  at_ : Int
  seq_ : Int
  fell_ : Bool
  deriving DecidableEq, Inhabited
structure TDeed where
  Kind : Int
  N : Int
  Text : (List UInt8)
  Keep : (List Bool)
  deriving DecidableEq, Inhabited
def TDeed.rowv (x : TDeed) (vs : List Value) : List Value := [.int .i64 x.Kind, .int .i64 x.N, st x.Text, gv vs 0]
def TDeed.sds (x : TDeed) (vs : List Value) : List Sd := [⟨gv vs 0, 4, 1, x.Keep.map B⟩]
def m23_quirref_blank (a0 : Int) : Option (List UInt8) :=
  bind1 (xRepeat ([0]) a0) fun s1 => some s1
def m21_sect_Disk_Read_K1 (a0_left : Int) (a0_seen : (List (List UInt8))) (a1 : Int) : Option ((List UInt8) × Int) :=
  if a0_left = 0 then some ([], 13) else bind1 (idx a0_seen a1) fun x2 => some (x2, 0)
def m21_sect_Disk_Read (a0_safe : (List (List UInt8))) (a0_seen : (List (List UInt8))) (a0_late : (List Twrite)) (a0_left : Int) (a1 : Int) : Option ((List UInt8) × Int) :=
  if a1 < 0 then some ([], 1) else if (a0_safe.length : Int) ≤ a1 then some ([], 1) else m21_sect_Disk_Read_K1 a0_left a0_seen a1
def m72_strings_trimRightByte_K1 (gs1 : (List UInt8)) : Option (List UInt8) :=
  some gs1
def m72_strings_trimRightByte_L1B (go1 : (List UInt8) → Option (List UInt8)) (a1 : Int) (gs2 : (List UInt8)) : Option (List UInt8) :=
  if 0 < (gs2.length : Int) then bind1 (i64 ((gs2.length : Int) - 1)) fun x2 => bind1 (idxS gs2 x2) fun x3 => if x3 = a1 then bind1 (i64 ((gs2.length : Int) - 1)) fun x5 => bind1 (cut gs2 0 x5) fun s6 => go1 s6 else m72_strings_trimRightByte_K1 gs2 else m72_strings_trimRightByte_K1 gs2
def m72_strings_trimRightByte_L1 (a1 : Int) : Nat → (List UInt8) → Option (List UInt8)
  | 0, _ => none
  | n + 1, gs2 => m72_strings_trimRightByte_L1B (m72_strings_trimRightByte_L1 a1 n) a1 gs2
def m72_strings_trimRightByte (a0 : (List UInt8)) (a1 : Int) : Option (List UInt8) :=
  m72_strings_trimRightByte_L1 a1 big a0
def m71_strings_trimLeftByte_K1 (gs1 : (List UInt8)) : Option (List UInt8) :=
  some gs1
def m71_strings_trimLeftByte_L1B (go1 : (List UInt8) → Option (List UInt8)) (a1 : Int) (gs2 : (List UInt8)) : Option (List UInt8) :=
  if 0 < (gs2.length : Int) then bind1 (idxS gs2 0) fun x2 => if x2 = a1 then bind1 (cut gs2 1 gs2.length) fun s4 => go1 s4 else m71_strings_trimLeftByte_K1 gs2 else m71_strings_trimLeftByte_K1 gs2
def m71_strings_trimLeftByte_L1 (a1 : Int) : Nat → (List UInt8) → Option (List UInt8)
  | 0, _ => none
  | n + 1, gs2 => m71_strings_trimLeftByte_L1B (m71_strings_trimLeftByte_L1 a1 n) a1 gs2
def m71_strings_trimLeftByte (a0 : (List UInt8)) (a1 : Int) : Option (List UInt8) :=
  m71_strings_trimLeftByte_L1 a1 big a0
def m73_strings_makeASCIISet_K1 (gl1 : (List Bool)) : Option ((List Bool) × Bool) :=
  bind1 (arrN 256 gl1) fun _ => bind1 (arrN 256 gl1) fun _ => bind1 (arrN 256 gl1) fun _ => bind1 (arrN 256 gl1) fun _ => some (gl1, true)
def m73_strings_makeASCIISet_K2 (a0 : (List UInt8)) (gx2 : Int) (gl3 : (List Bool)) (go1 : Int → (List Bool) → Option ((List Bool) × Bool)) : Option ((List Bool) × Bool) :=
  bind1 (idxS a0 gx2) fun x6 => if 128 ≤ x6 then bind1 (arrN 256 gl3) fun _ => bind1 (arrN 256 gl3) fun _ => bind1 (arrN 256 gl3) fun _ => bind1 (arrN 256 gl3) fun _ => some (gl3, false) else bind1 (idxA 256 gl3 x6) fun x12 => bind1 (upd gl3 x6 true) fun l13 => bind1 (i64 (gx2 + 1)) fun x14 => go1 x14 l13
def m73_strings_makeASCIISet_L1B (go1 : Int → (List Bool) → Option ((List Bool) × Bool)) (a0 : (List UInt8)) (gx2 : Int) (gl3 : (List Bool)) : Option ((List Bool) × Bool) :=
  if gx2 < (a0.length : Int) then m73_strings_makeASCIISet_K2 a0 gx2 gl3 go1 else m73_strings_makeASCIISet_K1 gl3
def m73_strings_makeASCIISet_L1 (a0 : (List UInt8)) : Nat → Int → (List Bool) → Option ((List Bool) × Bool)
  | 0, _, _ => none
  | n + 1, gx2, gl3 => m73_strings_makeASCIISet_L1B (m73_strings_makeASCIISet_L1 a0 n) a0 gx2 gl3
def m73_strings_makeASCIISet (a0 : (List UInt8)) : Option ((List Bool) × Bool) :=
  m73_strings_makeASCIISet_L1 a0 big 0 (List.replicate 256 (false : Bool))
def m92_utf8_RuneStart (a0 : Int) : Option Bool :=
  some (decide ((Go.bits .and .u8 a0 192) ≠ 128))
def m94_utf8_ValidRune_K2 (gb2 : Bool) : Option Bool :=
  if gb2 = true then some true else some false
def m94_utf8_ValidRune_K1 (a0 : Int) (gb1 : Bool) : Option Bool :=
  if gb1 = true then some true else if 57343 < a0 then if a0 ≤ 1114111 then m94_utf8_ValidRune_K2 true else m94_utf8_ValidRune_K2 false else m94_utf8_ValidRune_K2 false
def m94_utf8_ValidRune (a0 : Int) : Option Bool :=
  if 0 ≤ a0 then if a0 < 55296 then m94_utf8_ValidRune_K1 a0 true else m94_utf8_ValidRune_K1 a0 false else m94_utf8_ValidRune_K1 a0 false
def m95_bytealg_Cutover (a0 : Int) : Option Int :=
  bind1 (i64 (a0 + 16)) fun x1 => bind1 (divW .i64 x1 8) fun x2 => some x2
def m49_strings_Trim_K1 (a1 : (List UInt8)) (a0 : (List UInt8)) : Option (List UInt8) :=
  if (a1.length : Int) = 1 then bind1 (idxS a1 0) fun x2 => if x2 < 128 then bind1 (idxS a1 0) fun x4 => bind1 (m72_strings_trimRightByte a0 x4) fun s5 => bind1 (idxS a1 0) fun x7 => bind1 (m71_strings_trimLeftByte s5 x7) fun s8 => some s8 else none else none
def m49_strings_Trim (a0 : (List UInt8)) (a1 : (List UInt8)) : Option (List UInt8) :=
  if a0 = [] then some a0 else if a1 = [] then some a0 else m49_strings_Trim_K1 a1 a0
def m53_code_GetNat_K1 : Option (Int × Int × Int) :=
  some (0, 0, 3)
def m53_code_GetNat_K3 (gx2 : Int) (gx1 : Int) (x4 : Int) : Option (Int × Int × Int) :=
  bind1 (i64 (gx2 + 1)) fun x6 => some (Go.bits .or .u64 gx1 x4, x6, 0)
def m53_code_GetNat_K2 (gx2 : Int) (x2 : Int) (gx1 : Int) (go1 : Int → Int → Option (Int × Int × Int)) : Option (Int × Int × Int) :=
  bind1 (i64 (7 * gx2)) fun x3 => bind1 (shlW .u64 (IntKind.wrap .u64 (Go.bits .and .u8 x2 127)) x3) fun x4 => if x2 < 128 then if x2 = 0 then if 0 < gx2 then some (0, 0, 4) else m53_code_GetNat_K3 gx2 gx1 x4 else m53_code_GetNat_K3 gx2 gx1 x4 else bind1 (i64 (gx2 + 1)) fun x9 => go1 (Go.bits .or .u64 gx1 x4) x9
def m53_code_GetNat_L1B (go1 : Int → Int → Option (Int × Int × Int)) (a0 : (List UInt8)) (gx1 : Int) (gx2 : Int) : Option (Int × Int × Int) :=
  if gx2 < (a0.length : Int) then bind1 (idxS a0 gx2) fun x2 => if gx2 = 9 then if 1 < x2 then some (0, 0, 2) else m53_code_GetNat_K2 gx2 x2 gx1 go1 else m53_code_GetNat_K2 gx2 x2 gx1 go1 else m53_code_GetNat_K1
def m53_code_GetNat_L1 (a0 : (List UInt8)) : Nat → Int → Int → Option (Int × Int × Int)
  | 0, _, _ => none
  | n + 1, gx1, gx2 => m53_code_GetNat_L1B (m53_code_GetNat_L1 a0 n) a0 gx1 gx2
def m53_code_GetNat (a0 : (List UInt8)) : Option (Int × Int × Int) :=
  m53_code_GetNat_L1 a0 big 0 0
def m50_code_GetInt_K2 (x2 : Int) (gx1 : Int) : Option (Int × Int × Int) :=
  some (IntKind.wrap .i64 gx1, x2, 0)
def m50_code_GetInt_K1 (x1 : Int) (x2 : Int) : Option (Int × Int × Int) :=
  bind1 (shrW .u64 x1 1) fun x5 => if (Go.bits .and .u64 x1 1) = 1 then m50_code_GetInt_K2 x2 (comW .u64 x5) else m50_code_GetInt_K2 x2 x5
def m50_code_GetInt (a0 : (List UInt8)) : Option (Int × Int × Int) :=
  bind3 (m53_code_GetNat a0) fun x1 x2 x3 => if x3 ≠ 0 then some (0, 0, x3) else m50_code_GetInt_K1 x1 x2
def m80_code_PutNat_K1 (gx1 : Int) (gl3 : (List Int)) : Option (List UInt8) :=
  bind1 (app gl3 ([IntKind.wrap .u8 gx1])) fun l3 => some (bytesOf l3)
def m80_code_PutNat_L1B (go1 : Int → (List Int) → Option (List UInt8)) (gx4 : Int) (gl6 : (List Int)) : Option (List UInt8) :=
  if 128 ≤ gx4 then bind1 (app gl6 ([Go.bits .or .u8 (IntKind.wrap .u8 gx4) 128])) fun l7 => bind1 (shrW .u64 gx4 7) fun x8 => go1 x8 l7 else m80_code_PutNat_K1 gx4 gl6
def m80_code_PutNat_L1 : Nat → Int → (List Int) → Option (List UInt8)
  | 0, _, _ => none
  | n + 1, gx4, gl6 => m80_code_PutNat_L1B (m80_code_PutNat_L1 n) gx4 gl6
def m80_code_PutNat (a0 : Int) : Option (List UInt8) :=
  m80_code_PutNat_L1 big a0 []
def m78_code_PutInt (a0 : Int) : Option (List UInt8) :=
  bind1 (shlW .u64 (IntKind.wrap .u64 a0) 1) fun x1 => if a0 < 0 then bind1 (m80_code_PutNat (comW .u64 x1)) fun s3 => some s3 else bind1 (m80_code_PutNat x1) fun s5 => some s5
def m81_fold_Sum_K1 (gx1 : Int) (gx2 : Int) : Option Int :=
  bind1 (shlW .u32 gx2 16) fun x1 => some (Go.bits .or .u32 x1 gx1)
def m81_fold_Sum_L1B (go1 : Int → Int → Int → Option Int) (a0 : (List UInt8)) (gx3 : Int) (gx4 : Int) (gx5 : Int) : Option Int :=
  if gx5 < (a0.length : Int) then bind1 (idxS a0 gx5) fun x3 => bind1 (modW (IntKind.wrap .u32 (gx3 + (IntKind.wrap .u32 x3))) 65521) fun x4 => bind1 (modW (IntKind.wrap .u32 (gx4 + x4)) 65521) fun x5 => bind1 (i64 (gx5 + 1)) fun x6 => go1 x4 x5 x6 else m81_fold_Sum_K1 gx3 gx4
def m81_fold_Sum_L1 (a0 : (List UInt8)) : Nat → Int → Int → Int → Option Int
  | 0, _, _, _ => none
  | n + 1, gx3, gx4, gx5 => m81_fold_Sum_L1B (m81_fold_Sum_L1 a0 n) a0 gx3 gx4 gx5
def m81_fold_Sum (a0 : (List UInt8)) : Option Int :=
  m81_fold_Sum_L1 a0 big 1 0 0
def m62_fold_Put_K1 (a0 : (List UInt8)) : Option ((List UInt8) × Int) :=
  bind1 (m81_fold_Sum a0) fun x1 => bind1 (shrW .u32 x1 24) fun x3 => bind1 (shrW .u32 x1 16) fun x4 => bind1 (shrW .u32 x1 8) fun x5 => bind1 (catS a0 (bytesOf ([IntKind.wrap .u8 x3, IntKind.wrap .u8 x4, IntKind.wrap .u8 x5, IntKind.wrap .u8 x1]))) fun s7 => some (s7, 0)
def m62_fold_Put (a0 : (List UInt8)) : Option ((List UInt8) × Int) :=
  if 4096 < (a0.length : Int) then some ([], 2) else m62_fold_Put_K1 a0
def m51_wal_anchorText (a0 : Int) : Option (List UInt8) :=
  bind1 (m78_code_PutInt a0) fun s1 => bind2 (m62_fold_Put s1) fun s3 x4 => bind1 (catS ([3]) s3) fun s6 => some s6
def m25_wal_epochOf_K2 (x2 : Int) (s6 : (List UInt8)) (a0 : (List UInt8)) (gb1 : Bool) : Option (Int × Int) :=
  if gb1 = true then some (0, 4) else if 1000000 < x2 then some (0, 4) else bind1 (i64 (64 - (s6.length : Int))) fun x9 => bind1 (xRepeat ([0]) x9) fun s10 => bind1 (catS s6 s10) fun s12 => if s12 ≠ a0 then some (0, 4) else some (x2, 0)
def m25_wal_epochOf_K1 (a0 : (List UInt8)) : Option (Int × Int) :=
  bind1 (cut a0 1 a0.length) fun s1 => bind3 (m50_code_GetInt s1) fun x2 x3 x4 => bind1 (m51_wal_anchorText x2) fun s6 => if x4 ≠ 0 then m25_wal_epochOf_K2 x2 s6 a0 true else if x2 < 0 then m25_wal_epochOf_K2 x2 s6 a0 true else m25_wal_epochOf_K2 x2 s6 a0 false
def m25_wal_epochOf (a0 : (List UInt8)) : Option (Int × Int) :=
  bind1 (m49_strings_Trim a0 ([0])) fun s16 => if s16 = [] then some (0, 0) else m25_wal_epochOf_K1 a0
def m52_wal_headed_K2 (x3 : Int) (a0 : (List UInt8)) (x2 : Int) (a1 : Int) : Option (Int × (List UInt8) × Bool) :=
  bind1 (i64 (1 + x3)) fun x6 => bind1 (cut a0 x6 a0.length) fun s7 => bind3 (m50_code_GetInt s7) fun x8 x9 x10 => bind1 (i64 (1 + x3)) fun x12 => bind1 (i64 (x12 + x9)) fun x13 => bind1 (cut a0 x13 a0.length) fun s14 => if x10 = 0 then some (x2, s14, decide (x8 = a1)) else some (x2, s14, false)
def m52_wal_headed_K1 (a0 : (List UInt8)) (a1 : Int) : Option (Int × (List UInt8) × Bool) :=
  bind1 (cut a0 1 a0.length) fun s1 => bind3 (m50_code_GetInt s1) fun x2 x3 x4 => if x4 ≠ 0 then some (0, [], false) else m52_wal_headed_K2 x3 a0 x2 a1
def m52_wal_headed (a0 : (List UInt8)) (a1 : Int) : Option (Int × (List UInt8) × Bool) :=
  bind1 (cut a0 0 1) fun s17 => if s17 ≠ ([1]) then some (0, [], false) else m52_wal_headed_K1 a0 a1
def m54_wal_head (a0 : (List UInt8)) (a1 : Int) (a2 : Int) : Option (List UInt8) :=
  bind1 (m78_code_PutInt a1) fun s1 => bind1 (catS a0 s1) fun s3 => bind1 (m78_code_PutInt a2) fun s4 => bind1 (catS s3 s4) fun s6 => some s6
def m68_stringslite_HasPrefix (a0 : (List UInt8)) (a1 : (List UInt8)) : Option Bool :=
  if (a1.length : Int) ≤ (a0.length : Int) then bind1 (cut a0 0 (a1.length : Int)) fun s2 => some (decide (s2 = a1)) else some false
def m44_strings_HasPrefix (a0 : (List UInt8)) (a1 : (List UInt8)) : Option Bool :=
  bind1 (m68_stringslite_HasPrefix a0 a1) fun b1 => some b1
def m55_fold_Get_K2 (a0 : (List UInt8)) (x1 : Int) : Option ((List UInt8) × Int) :=
  bind1 (cut a0 0 x1) fun s2 => bind2 (m62_fold_Put s2) fun s3 x4 => if s3 ≠ a0 then some ([], 5) else bind1 (cut a0 0 x1) fun s7 => some (s7, 0)
def m55_fold_Get_K1 (x1 : Int) (a0 : (List UInt8)) : Option ((List UInt8) × Int) :=
  if 4096 < x1 then some ([], 2) else m55_fold_Get_K2 a0 x1
def m55_fold_Get (a0 : (List UInt8)) : Option ((List UInt8) × Int) :=
  bind1 (i64 ((a0.length : Int) - 4)) fun x1 => if x1 < 0 then some ([], 3) else m55_fold_Get_K1 x1 a0
def m26_wal_Log_read_K4 (x16 : Int) (x12 : Int) (x6 : Int) (gs1 : (List UInt8)) (gx2 : Int) : Option (Trecord × Bool) :=
  bind1 (cut gs1 0 x16) fun s17 => bind2 (m55_fold_Get s17) fun s18 x19 => if x19 ≠ 0 then some ((⟨0, [], 0⟩ : Trecord), false) else bind1 (cut s18 x12 s18.length) fun s22 => some ((⟨x6, s22, gx2⟩ : Trecord), true)
def m26_wal_Log_read_K6 (a0_from : Int) (a1 : Int) (gx4 : Int) (a0_d_safe : (List (List UInt8))) (a0_d_seen : (List (List UInt8))) (a0_d_late : (List Twrite)) (a0_d_left : Int) (s23 : (List UInt8)) (gs3 : (List UInt8)) (go1 : (List UInt8) → Int → Option (Trecord × Bool)) : Option (Trecord × Bool) :=
  bind1 (i64 (a0_from + a1)) fun x25 => bind1 (i64 (x25 + gx4)) fun x26 => bind2 (m21_sect_Disk_Read a0_d_safe a0_d_seen a0_d_late a0_d_left x26) fun s27 x28 => if x28 ≠ 0 then some ((⟨0, [], 0⟩ : Trecord), false) else bind1 (m44_strings_HasPrefix s27 s23) fun b31 => if b31 = true then bind1 (cut s27 (s23.length : Int) s27.length) fun s33 => bind1 (catS gs3 s33) fun s34 => bind1 (i64 (gx4 + 1)) fun x35 => go1 s34 x35 else some ((⟨0, [], 0⟩ : Trecord), false)
def m26_wal_Log_read_K5 (a1 : Int) (gx4 : Int) (a0_size : Int) (a0_from : Int) (a0_d_safe : (List (List UInt8))) (a0_d_seen : (List (List UInt8))) (a0_d_late : (List Twrite)) (a0_d_left : Int) (s23 : (List UInt8)) (gs3 : (List UInt8)) (go1 : (List UInt8) → Int → Option (Trecord × Bool)) : Option (Trecord × Bool) :=
  bind1 (i64 (a1 + gx4)) fun x36 => if a0_size ≤ x36 then some ((⟨0, [], 0⟩ : Trecord), false) else m26_wal_Log_read_K6 a0_from a1 gx4 a0_d_safe a0_d_seen a0_d_late a0_d_left s23 gs3 go1
def m26_wal_Log_read_L1B (go1 : (List UInt8) → Int → Option (Trecord × Bool)) (x16 : Int) (a1 : Int) (a0_size : Int) (a0_from : Int) (a0_d_safe : (List (List UInt8))) (a0_d_seen : (List (List UInt8))) (a0_d_late : (List Twrite)) (a0_d_left : Int) (s23 : (List UInt8)) (x12 : Int) (x6 : Int) (gs3 : (List UInt8)) (gx4 : Int) : Option (Trecord × Bool) :=
  if (gs3.length : Int) < x16 then m26_wal_Log_read_K5 a1 gx4 a0_size a0_from a0_d_safe a0_d_seen a0_d_late a0_d_left s23 gs3 go1 else m26_wal_Log_read_K4 x16 x12 x6 gs3 gx4
def m26_wal_Log_read_L1 (x16 : Int) (a1 : Int) (a0_size : Int) (a0_from : Int) (a0_d_safe : (List (List UInt8))) (a0_d_seen : (List (List UInt8))) (a0_d_late : (List Twrite)) (a0_d_left : Int) (s23 : (List UInt8)) (x12 : Int) (x6 : Int) : Nat → (List UInt8) → Int → Option (Trecord × Bool)
  | 0, _, _ => none
  | n + 1, gs3, gx4 => m26_wal_Log_read_L1B (m26_wal_Log_read_L1 x16 a1 a0_size a0_from a0_d_safe a0_d_seen a0_d_late a0_d_left s23 x12 x6 n) x16 a1 a0_size a0_from a0_d_safe a0_d_seen a0_d_late a0_d_left s23 x12 x6 gs3 gx4
def m26_wal_Log_read_K3 (x12 : Int) (x11 : Int) (x6 : Int) (a2 : Int) (a1 : Int) (a0_size : Int) (a0_from : Int) (a0_d_safe : (List (List UInt8))) (a0_d_seen : (List (List UInt8))) (a0_d_late : (List Twrite)) (a0_d_left : Int) (s7 : (List UInt8)) : Option (Trecord × Bool) :=
  bind1 (i64 (x12 + (IntKind.wrap .i64 x11))) fun x15 => bind1 (i64 (x15 + 4)) fun x16 => bind1 (m54_wal_head ([2]) x6 a2) fun s23 => m26_wal_Log_read_L1 x16 a1 a0_size a0_from a0_d_safe a0_d_seen a0_d_late a0_d_left s23 x12 x6 big s7 1
def m26_wal_Log_read_K2 (s3 : (List UInt8)) (a2 : Int) (a1 : Int) (a0_size : Int) (a0_from : Int) (a0_d_safe : (List (List UInt8))) (a0_d_seen : (List (List UInt8))) (a0_d_late : (List Twrite)) (a0_d_left : Int) : Option (Trecord × Bool) :=
  bind3 (m52_wal_headed s3 a2) fun x6 s7 b8 => if b8 = true then bind3 (m53_code_GetNat s7) fun x11 x12 x13 => if x13 ≠ 0 then some ((⟨0, [], 0⟩ : Trecord), false) else if 300 < x11 then some ((⟨0, [], 0⟩ : Trecord), false) else m26_wal_Log_read_K3 x12 x11 x6 a2 a1 a0_size a0_from a0_d_safe a0_d_seen a0_d_late a0_d_left s7 else some ((⟨0, [], 0⟩ : Trecord), false)
def m26_wal_Log_read_K1 (a0_from : Int) (a1 : Int) (a0_d_safe : (List (List UInt8))) (a0_d_seen : (List (List UInt8))) (a0_d_late : (List Twrite)) (a0_d_left : Int) (a2 : Int) (a0_size : Int) : Option (Trecord × Bool) :=
  bind1 (i64 (a0_from + a1)) fun x2 => bind2 (m21_sect_Disk_Read a0_d_safe a0_d_seen a0_d_late a0_d_left x2) fun s3 x4 => if x4 ≠ 0 then some ((⟨0, [], 0⟩ : Trecord), false) else m26_wal_Log_read_K2 s3 a2 a1 a0_size a0_from a0_d_safe a0_d_seen a0_d_late a0_d_left
def m26_wal_Log_read (a0_d_safe : (List (List UInt8))) (a0_d_seen : (List (List UInt8))) (a0_d_late : (List Twrite)) (a0_d_left : Int) (a0_from : Int) (a0_size : Int) (a0_epoch : Int) (a0_at : Int) (a0_seq : Int) (a0_fell : Bool) (a1 : Int) (a2 : Int) : Option (Trecord × Bool) :=
  if a0_size ≤ a1 then some ((⟨0, [], 0⟩ : Trecord), false) else m26_wal_Log_read_K1 a0_from a1 a0_d_safe a0_d_seen a0_d_late a0_d_left a2 a0_size
def m33_sect_Disk_Write_K3 (a2 : (List UInt8)) (a0_seen : (List (List UInt8))) (a1 : Int) (a0_late : (List Twrite)) (gx1 : Int) : Option ((List (List UInt8)) × (List Twrite) × Int × Int) :=
  bind1 (i64 (64 - (a2.length : Int))) fun x1 => bind1 (xRepeat ([0]) x1) fun s2 => bind1 (catS a2 s2) fun s4 => bind1 (idx a0_seen a1) fun x5 => bind1 (upd a0_seen a1 s4) fun l6 => bind1 (app a0_late ([(⟨a1, s4⟩ : Twrite)])) fun l9 => some (l6, l9, gx1, 0)
def m33_sect_Disk_Write_K4 (a0_seen : (List (List UInt8))) (a0_late : (List Twrite)) (a2 : (List UInt8)) (a1 : Int) (gx2 : Int) (gx3 : Int) : Option ((List (List UInt8)) × (List Twrite) × Int × Int) :=
  if gx2 ≠ 0 then some (a0_seen, a0_late, gx3, gx2) else m33_sect_Disk_Write_K3 a2 a0_seen a1 a0_late gx3
def m33_sect_Disk_Write_K5 (a0_left : Int) (a0_seen : (List (List UInt8))) (a0_late : (List Twrite)) (a2 : (List UInt8)) (a1 : Int) : Option ((List (List UInt8)) × (List Twrite) × Int × Int) :=
  if 0 < a0_left then bind1 (i64 (a0_left - 1)) fun x12 => m33_sect_Disk_Write_K4 a0_seen a0_late a2 a1 0 x12 else m33_sect_Disk_Write_K4 a0_seen a0_late a2 a1 0 a0_left
def m33_sect_Disk_Write_K2 (a0_left : Int) (a0_seen : (List (List UInt8))) (a0_late : (List Twrite)) (a2 : (List UInt8)) (a1 : Int) : Option ((List (List UInt8)) × (List Twrite) × Int × Int) :=
  if a0_left = 0 then m33_sect_Disk_Write_K4 a0_seen a0_late a2 a1 13 a0_left else m33_sect_Disk_Write_K5 a0_left a0_seen a0_late a2 a1
def m33_sect_Disk_Write_K1 (a2 : (List UInt8)) (a0_seen : (List (List UInt8))) (a0_late : (List Twrite)) (a0_left : Int) (a1 : Int) : Option ((List (List UInt8)) × (List Twrite) × Int × Int) :=
  if 64 < (a2.length : Int) then some (a0_seen, a0_late, a0_left, 2) else m33_sect_Disk_Write_K2 a0_left a0_seen a0_late a2 a1
def m33_sect_Disk_Write (a0_safe : (List (List UInt8))) (a0_seen : (List (List UInt8))) (a0_late : (List Twrite)) (a0_left : Int) (a1 : Int) (a2 : (List UInt8)) : Option ((List (List UInt8)) × (List Twrite) × Int × Int) :=
  if a1 < 0 then some (a0_seen, a0_late, a0_left, 1) else if (a0_safe.length : Int) ≤ a1 then some (a0_seen, a0_late, a0_left, 1) else m33_sect_Disk_Write_K1 a2 a0_seen a0_late a0_left a1
def m38_sect_Disk_Flush_K1 (a0_safe : (List (List UInt8))) (a0_seen : (List (List UInt8))) (gx1 : Int) : Option ((List (List UInt8)) × (List (List UInt8)) × (List Twrite) × Int × Int) :=
  some ((cpy a0_safe a0_seen), a0_seen, [], gx1, 0)
def m38_sect_Disk_Flush_K2 (a0_safe : (List (List UInt8))) (a0_seen : (List (List UInt8))) (a0_late : (List Twrite)) (gx2 : Int) (gx3 : Int) : Option ((List (List UInt8)) × (List (List UInt8)) × (List Twrite) × Int × Int) :=
  if gx2 ≠ 0 then some (a0_safe, a0_seen, a0_late, gx3, gx2) else m38_sect_Disk_Flush_K1 a0_safe a0_seen gx3
def m38_sect_Disk_Flush_K3 (a0_left : Int) (a0_safe : (List (List UInt8))) (a0_seen : (List (List UInt8))) (a0_late : (List Twrite)) : Option ((List (List UInt8)) × (List (List UInt8)) × (List Twrite) × Int × Int) :=
  if 0 < a0_left then bind1 (i64 (a0_left - 1)) fun x3 => m38_sect_Disk_Flush_K2 a0_safe a0_seen a0_late 0 x3 else m38_sect_Disk_Flush_K2 a0_safe a0_seen a0_late 0 a0_left
def m38_sect_Disk_Flush (a0_safe : (List (List UInt8))) (a0_seen : (List (List UInt8))) (a0_late : (List Twrite)) (a0_left : Int) : Option ((List (List UInt8)) × (List (List UInt8)) × (List Twrite) × Int × Int) :=
  if a0_left = 0 then m38_sect_Disk_Flush_K2 a0_safe a0_seen a0_late 13 a0_left else m38_sect_Disk_Flush_K3 a0_left a0_safe a0_seen a0_late
def m27_wal_Log_raise_K3 (l1 : (List (List UInt8))) (l2 : (List (List UInt8))) (l3 : (List Twrite)) (x4 : Int) (a0_epoch : Int) (x5 : Int) (gb6 : Bool) : Option ((List (List UInt8)) × (List (List UInt8)) × (List Twrite) × Int × Int × Bool × Int) :=
  some (l1, l2, l3, x4, a0_epoch, gb6, x5)
def m27_wal_Log_raise_K2 (a0_d_safe : (List (List UInt8))) (a0_fell : Bool) (a0_epoch : Int) (gl2 : (List (List UInt8))) (gl4 : (List Twrite)) (gx5 : Int) : Option ((List (List UInt8)) × (List (List UInt8)) × (List Twrite) × Int × Int × Bool × Int) :=
  bind5 (m38_sect_Disk_Flush a0_d_safe gl2 gl4 gx5) fun l1 l2 l3 x4 x5 => if x5 ≠ 0 then if a0_fell = true then m27_wal_Log_raise_K3 l1 l2 l3 x4 a0_epoch x5 true else m27_wal_Log_raise_K3 l1 l2 l3 x4 a0_epoch x5 (decide (x5 ≠ 0)) else bind1 (i64 (a0_epoch + 1)) fun x12 => some (l1, l2, l3, x4, x12, a0_fell, 0)
def m27_wal_Log_raise_K4 (a0_d_safe : (List (List UInt8))) (l46 : (List (List UInt8))) (l47 : (List Twrite)) (x48 : Int) (a0_epoch : Int) (x49 : Int) (gb7 : Bool) : Option ((List (List UInt8)) × (List (List UInt8)) × (List Twrite) × Int × Int × Bool × Int) :=
  some (a0_d_safe, l46, l47, x48, a0_epoch, gb7, x49)
def m27_wal_Log_raise_K1 (a0_epoch : Int) (a0_d_safe : (List (List UInt8))) (a0_d_seen : (List (List UInt8))) (a0_d_late : (List Twrite)) (a0_d_left : Int) (a0_from : Int) (a0_fell : Bool) : Option ((List (List UInt8)) × (List (List UInt8)) × (List Twrite) × Int × Int × Bool × Int) :=
  bind1 (i64 (a0_epoch + 1)) fun x43 => bind1 (m51_wal_anchorText x43) fun s44 => bind4 (m33_sect_Disk_Write a0_d_safe a0_d_seen a0_d_late a0_d_left a0_from s44) fun l46 l47 x48 x49 => if x49 ≠ 0 then if a0_fell = true then m27_wal_Log_raise_K4 a0_d_safe l46 l47 x48 a0_epoch x49 true else m27_wal_Log_raise_K4 a0_d_safe l46 l47 x48 a0_epoch x49 (decide (x49 ≠ 0)) else m27_wal_Log_raise_K2 a0_d_safe a0_fell a0_epoch l46 l47 x48
def m27_wal_Log_raise (a0_d_safe : (List (List UInt8))) (a0_d_seen : (List (List UInt8))) (a0_d_late : (List Twrite)) (a0_d_left : Int) (a0_from : Int) (a0_size : Int) (a0_epoch : Int) (a0_at : Int) (a0_seq : Int) (a0_fell : Bool) : Option ((List (List UInt8)) × (List (List UInt8)) × (List Twrite) × Int × Int × Bool × Int) :=
  if 1000000 ≤ a0_epoch then some (a0_d_safe, a0_d_seen, a0_d_late, a0_d_left, a0_epoch, a0_fell, 8) else m27_wal_Log_raise_K1 a0_epoch a0_d_safe a0_d_seen a0_d_late a0_d_left a0_from a0_fell
def m6_wal_Open_K4 (a0_safe : (List (List UInt8))) (a0_seen : (List (List UInt8))) (a0_late : (List Twrite)) (a0_left : Int) (a1 : Int) (a2 : Int) (gx1 : Int) (gl3 : (List (List UInt8))) (gx4 : Int) (gx5 : Int) : Option (((List (List UInt8)) × (List (List UInt8)) × (List Twrite) × Int × (List (List UInt8)) × Int) ⊕ ((List (List UInt8)) × (List (List UInt8)) × (List Twrite) × Int × (List (List UInt8)) × Int × Int × Int × Int × Int × Int × Bool)) :=
  bind7 (m27_wal_Log_raise a0_safe a0_seen a0_late a0_left a1 a2 gx1 gx4 gx5 false) fun l5 l6 l7 x8 x9 b10 x11 => if x11 ≠ 0 then some (.inl (l5, l6, l7, x8, [], x11)) else some (.inr (l5, l6, l7, x8, gl3, 0, a1, a2, x9, gx4, gx5, b10))
def m6_wal_Open_K5 (gx10 : Int) (go1 : (List (List UInt8)) → Int → Int → Int → Option (((List (List UInt8)) × (List (List UInt8)) × (List Twrite) × Int × (List (List UInt8)) × Int) ⊕ ((List (List UInt8)) × (List (List UInt8)) × (List Twrite) × Int × (List (List UInt8)) × Int × Int × Int × Int × Int × Int × Bool))) (gl12 : (List (List UInt8))) (gx13 : Int) (gx14 : Int) : Option (((List (List UInt8)) × (List (List UInt8)) × (List Twrite) × Int × (List (List UInt8)) × Int) ⊕ ((List (List UInt8)) × (List (List UInt8)) × (List Twrite) × Int × (List (List UInt8)) × Int × Int × Int × Int × Int × Int × Bool)) :=
  bind1 (i64 (gx10 + 1)) fun x17 => go1 gl12 gx13 gx14 x17
def m6_wal_Open_K7 (gx9 : Int) (gx18 : Int) (gl7 : (List (List UInt8))) (gs17 : (List UInt8)) (gx10 : Int) (go1 : (List (List UInt8)) → Int → Int → Int → Option (((List (List UInt8)) × (List (List UInt8)) × (List Twrite) × Int × (List (List UInt8)) × Int) ⊕ ((List (List UInt8)) × (List (List UInt8)) × (List Twrite) × Int × (List (List UInt8)) × Int × Int × Int × Int × Int × Int × Bool))) (gx16 : Int) : Option (((List (List UInt8)) × (List (List UInt8)) × (List Twrite) × Int × (List (List UInt8)) × Int) ⊕ ((List (List UInt8)) × (List (List UInt8)) × (List Twrite) × Int × (List (List UInt8)) × Int × Int × Int × Int × Int × Int × Bool)) :=
  bind1 (i64 (gx9 + gx18)) fun x19 => bind1 (app gl7 ([gs17])) fun l22 => m6_wal_Open_K5 gx10 go1 l22 gx16 x19
def m6_wal_Open_K6 (gx8 : Int) (a0_safe : (List (List UInt8))) (a0_seen : (List (List UInt8))) (a0_late : (List Twrite)) (a0_left : Int) (a1 : Int) (a2 : Int) (gx1 : Int) (gl7 : (List (List UInt8))) (gx9 : Int) (gx10 : Int) (go1 : (List (List UInt8)) → Int → Int → Int → Option (((List (List UInt8)) × (List (List UInt8)) × (List Twrite) × Int × (List (List UInt8)) × Int) ⊕ ((List (List UInt8)) × (List (List UInt8)) × (List Twrite) × Int × (List (List UInt8)) × Int × Int × Int × Int × Int × Int × Bool))) (gx16 : Int) (gs17 : (List UInt8)) (gx18 : Int) (gb19 : Bool) : Option (((List (List UInt8)) × (List (List UInt8)) × (List Twrite) × Int × (List (List UInt8)) × Int) ⊕ ((List (List UInt8)) × (List (List UInt8)) × (List Twrite) × Int × (List (List UInt8)) × Int × Int × Int × Int × Int × Int × Bool)) :=
  if gb19 = true then if gx16 < gx8 then m6_wal_Open_K4 a0_safe a0_seen a0_late a0_left a1 a2 gx1 gl7 gx9 gx10 else if gx1 < gx16 then m6_wal_Open_K4 a0_safe a0_seen a0_late a0_left a1 a2 gx1 gl7 gx9 gx10 else m6_wal_Open_K7 gx9 gx18 gl7 gs17 gx10 go1 gx16 else m6_wal_Open_K4 a0_safe a0_seen a0_late a0_left a1 a2 gx1 gl7 gx9 gx10
def m6_wal_Open_L1B (go1 : (List (List UInt8)) → Int → Int → Int → Option (((List (List UInt8)) × (List (List UInt8)) × (List Twrite) × Int × (List (List UInt8)) × Int) ⊕ ((List (List UInt8)) × (List (List UInt8)) × (List Twrite) × Int × (List (List UInt8)) × Int × Int × Int × Int × Int × Int × Bool))) (a0_safe : (List (List UInt8))) (a0_seen : (List (List UInt8))) (a0_late : (List Twrite)) (a0_left : Int) (a1 : Int) (a2 : Int) (gx1 : Int) (gl7 : (List (List UInt8))) (gx8 : Int) (gx9 : Int) (gx10 : Int) : Option (((List (List UInt8)) × (List (List UInt8)) × (List Twrite) × Int × (List (List UInt8)) × Int) ⊕ ((List (List UInt8)) × (List (List UInt8)) × (List Twrite) × Int × (List (List UInt8)) × Int × Int × Int × Int × Int × Int × Bool)) :=
  bind2 (m26_wal_Log_read a0_safe a0_seen a0_late a0_left a1 a2 gx1 gx9 gx10 false gx9 gx10) fun x30 b31 => if b31 = true then m6_wal_Open_K6 gx8 a0_safe a0_seen a0_late a0_left a1 a2 gx1 gl7 gx9 gx10 go1 x30.epoch_ x30.text_ x30.size_ true else m6_wal_Open_K6 gx8 a0_safe a0_seen a0_late a0_left a1 a2 gx1 gl7 gx9 gx10 go1 x30.epoch_ x30.text_ x30.size_ false
def m6_wal_Open_L1 (a0_safe : (List (List UInt8))) (a0_seen : (List (List UInt8))) (a0_late : (List Twrite)) (a0_left : Int) (a1 : Int) (a2 : Int) (gx1 : Int) : Nat → (List (List UInt8)) → Int → Int → Int → Option (((List (List UInt8)) × (List (List UInt8)) × (List Twrite) × Int × (List (List UInt8)) × Int) ⊕ ((List (List UInt8)) × (List (List UInt8)) × (List Twrite) × Int × (List (List UInt8)) × Int × Int × Int × Int × Int × Int × Bool))
  | 0, _, _, _, _ => none
  | n + 1, gl7, gx8, gx9, gx10 => m6_wal_Open_L1B (m6_wal_Open_L1 a0_safe a0_seen a0_late a0_left a1 a2 gx1 n) a0_safe a0_seen a0_late a0_left a1 a2 gx1 gl7 gx8 gx9 gx10
def m6_wal_Open_K3 (a0_safe : (List (List UInt8))) (a0_seen : (List (List UInt8))) (a0_late : (List Twrite)) (a0_left : Int) (a1 : Int) (a2 : Int) (gx1 : Int) : Option (((List (List UInt8)) × (List (List UInt8)) × (List Twrite) × Int × (List (List UInt8)) × Int) ⊕ ((List (List UInt8)) × (List (List UInt8)) × (List Twrite) × Int × (List (List UInt8)) × Int × Int × Int × Int × Int × Int × Bool)) :=
  m6_wal_Open_L1 a0_safe a0_seen a0_late a0_left a1 a2 gx1 big [] 0 1 0
def m6_wal_Open_K2 (s2 : (List UInt8)) (a0_safe : (List (List UInt8))) (a0_seen : (List (List UInt8))) (a0_late : (List Twrite)) (a0_left : Int) (a1 : Int) (a2 : Int) : Option (((List (List UInt8)) × (List (List UInt8)) × (List Twrite) × Int × (List (List UInt8)) × Int) ⊕ ((List (List UInt8)) × (List (List UInt8)) × (List Twrite) × Int × (List (List UInt8)) × Int × Int × Int × Int × Int × Int × Bool)) :=
  bind2 (m25_wal_epochOf s2) fun x41 x42 => if x42 ≠ 0 then some (.inl (a0_safe, a0_seen, a0_late, a0_left, [], x42)) else m6_wal_Open_K3 a0_safe a0_seen a0_late a0_left a1 a2 x41
def m6_wal_Open_K1 (a0_safe : (List (List UInt8))) (a0_seen : (List (List UInt8))) (a0_late : (List Twrite)) (a0_left : Int) (a1 : Int) (a2 : Int) : Option (((List (List UInt8)) × (List (List UInt8)) × (List Twrite) × Int × (List (List UInt8)) × Int) ⊕ ((List (List UInt8)) × (List (List UInt8)) × (List Twrite) × Int × (List (List UInt8)) × Int × Int × Int × Int × Int × Int × Bool)) :=
  bind2 (m21_sect_Disk_Read a0_safe a0_seen a0_late a0_left a1) fun s2 x3 => if x3 ≠ 0 then some (.inl (a0_safe, a0_seen, a0_late, a0_left, [], x3)) else m6_wal_Open_K2 s2 a0_safe a0_seen a0_late a0_left a1 a2
def m6_wal_Open_K10 (a0_safe : (List (List UInt8))) (a1 : Int) (a2 : Int) (a0_seen : (List (List UInt8))) (a0_late : (List Twrite)) (a0_left : Int) : Option (((List (List UInt8)) × (List (List UInt8)) × (List Twrite) × Int × (List (List UInt8)) × Int) ⊕ ((List (List UInt8)) × (List (List UInt8)) × (List Twrite) × Int × (List (List UInt8)) × Int × Int × Int × Int × Int × Int × Bool)) :=
  bind1 (i64 ((a0_safe.length : Int) - a1)) fun x47 => if x47 < a2 then some (.inl (a0_safe, a0_seen, a0_late, a0_left, [], 1)) else m6_wal_Open_K1 a0_safe a0_seen a0_late a0_left a1 a2
def m6_wal_Open_K9 (a0_safe : (List (List UInt8))) (a1 : Int) (a0_seen : (List (List UInt8))) (a0_late : (List Twrite)) (a0_left : Int) (a2 : Int) : Option (((List (List UInt8)) × (List (List UInt8)) × (List Twrite) × Int × (List (List UInt8)) × Int) ⊕ ((List (List UInt8)) × (List (List UInt8)) × (List Twrite) × Int × (List (List UInt8)) × Int × Int × Int × Int × Int × Int × Bool)) :=
  if (a0_safe.length : Int) < a1 then some (.inl (a0_safe, a0_seen, a0_late, a0_left, [], 1)) else m6_wal_Open_K10 a0_safe a1 a2 a0_seen a0_late a0_left
def m6_wal_Open_K8 (a0_safe : (List (List UInt8))) (a0_seen : (List (List UInt8))) (a0_late : (List Twrite)) (a0_left : Int) (a1 : Int) (a2 : Int) (gb20 : Bool) : Option (((List (List UInt8)) × (List (List UInt8)) × (List Twrite) × Int × (List (List UInt8)) × Int) ⊕ ((List (List UInt8)) × (List (List UInt8)) × (List Twrite) × Int × (List (List UInt8)) × Int × Int × Int × Int × Int × Int × Bool)) :=
  if gb20 = true then some (.inl (a0_safe, a0_seen, a0_late, a0_left, [], 1)) else m6_wal_Open_K9 a0_safe a1 a0_seen a0_late a0_left a2
def m6_wal_Open (a0_safe : (List (List UInt8))) (a0_seen : (List (List UInt8))) (a0_late : (List Twrite)) (a0_left : Int) (a1 : Int) (a2 : Int) : Option (((List (List UInt8)) × (List (List UInt8)) × (List Twrite) × Int × (List (List UInt8)) × Int) ⊕ ((List (List UInt8)) × (List (List UInt8)) × (List Twrite) × Int × (List (List UInt8)) × Int × Int × Int × Int × Int × Int × Bool)) :=
  if a1 < 0 then m6_wal_Open_K8 a0_safe a0_seen a0_late a0_left a1 a2 true else if a2 < 2 then m6_wal_Open_K8 a0_safe a0_seen a0_late a0_left a1 a2 true else m6_wal_Open_K8 a0_safe a0_seen a0_late a0_left a1 a2 false
def m58_quirref_GetNat_K1 : Option (Int × Int × Int) :=
  some (0, 0, 3)
def m58_quirref_GetNat_K2 (gx1 : Int) (go1 : Int → Option (Int × Int × Int)) : Option (Int × Int × Int) :=
  bind1 (i64 (gx1 + 1)) fun x2 => go1 x2
def m58_quirref_GetNat_K6 (gx1 : Int) (gx2 : Int) : Option (Int × Int × Int) :=
  bind1 (i64 (gx1 + 1)) fun x3 => some (gx2, x3, 0)
def m58_quirref_GetNat_L2B (go2 : Int → Int → Option (Int × Int × Int)) (a0 : (List UInt8)) (gx1 : Int) (gx3 : Int) (gx4 : Int) : Option (Int × Int × Int) :=
  if 0 ≤ gx4 then bind1 (idxS a0 gx4) fun x5 => bind1 (modW x5 128) fun x6 => bind1 (i64 (gx4 - 1)) fun x7 => go2 (IntKind.wrap .u64 ((IntKind.wrap .u64 (gx3 * 128)) + (IntKind.wrap .u64 x6))) x7 else m58_quirref_GetNat_K6 gx1 gx3
def m58_quirref_GetNat_L2 (a0 : (List UInt8)) (gx1 : Int) : Nat → Int → Int → Option (Int × Int × Int)
  | 0, _, _ => none
  | n + 1, gx3, gx4 => m58_quirref_GetNat_L2B (m58_quirref_GetNat_L2 a0 gx1 n) a0 gx1 gx3 gx4
def m58_quirref_GetNat_K5 (a0 : (List UInt8)) (gx1 : Int) : Option (Int × Int × Int) :=
  m58_quirref_GetNat_L2 a0 gx1 big 0 gx1
def m58_quirref_GetNat_K4 (a0 : (List UInt8)) (gx1 : Int) : Option (Int × Int × Int) :=
  bind1 (idxS a0 gx1) fun x8 => if x8 = 0 then if 0 < gx1 then some (0, 0, 4) else m58_quirref_GetNat_K5 a0 gx1 else m58_quirref_GetNat_K5 a0 gx1
def m58_quirref_GetNat_K3 (a0 : (List UInt8)) (gx1 : Int) (go1 : Int → Option (Int × Int × Int)) : Option (Int × Int × Int) :=
  bind1 (idxS a0 gx1) fun x11 => if 128 ≤ x11 then m58_quirref_GetNat_K2 gx1 go1 else m58_quirref_GetNat_K4 a0 gx1
def m58_quirref_GetNat_L1B (go1 : Int → Option (Int × Int × Int)) (a0 : (List UInt8)) (gx1 : Int) : Option (Int × Int × Int) :=
  if gx1 < (a0.length : Int) then if gx1 = 9 then bind1 (idxS a0 gx1) fun x14 => if 1 < x14 then some (0, 0, 2) else m58_quirref_GetNat_K3 a0 gx1 go1 else m58_quirref_GetNat_K3 a0 gx1 go1 else m58_quirref_GetNat_K1
def m58_quirref_GetNat_L1 (a0 : (List UInt8)) : Nat → Int → Option (Int × Int × Int)
  | 0, _ => none
  | n + 1, gx1 => m58_quirref_GetNat_L1B (m58_quirref_GetNat_L1 a0 n) a0 gx1
def m58_quirref_GetNat (a0 : (List UInt8)) : Option (Int × Int × Int) :=
  m58_quirref_GetNat_L1 a0 big 0
def m56_quirref_GetInt_K1 (x1 : Int) (x2 : Int) : Option (Int × Int × Int) :=
  bind1 (modW x1 2) fun x5 => if x5 = 1 then bind1 (divW .u64 x1 2) fun x7 => bind1 (i64 ((IntKind.wrap .i64 (-(IntKind.wrap .i64 x7))) - 1)) fun x8 => some (x8, x2, 0) else bind1 (divW .u64 x1 2) fun x9 => some (IntKind.wrap .i64 x9, x2, 0)
def m56_quirref_GetInt (a0 : (List UInt8)) : Option (Int × Int × Int) :=
  bind3 (m58_quirref_GetNat a0) fun x1 x2 x3 => if x3 ≠ 0 then some (0, 0, x3) else m56_quirref_GetInt_K1 x1 x2
def m83_quirref_Nat_K2 (gs1 : (List UInt8)) : Option (List UInt8) :=
  some gs1
def m83_quirref_Nat_K1 (a0 : Int) (rec : Int → Option (List UInt8)) : Option (List UInt8) :=
  bind1 (modW a0 128) fun x1 => bind1 (divW .u64 a0 128) fun x2 => bind1 (rec x2) fun s4 => bind1 (catS (bytesOf ([IntKind.wrap .u8 (IntKind.wrap .u64 (x1 + 128))])) s4) fun s6 => m83_quirref_Nat_K2 s6
def m83_quirref_NatB (rec : Int → Option (List UInt8)) (a0 : Int) : Option (List UInt8) :=
  if a0 < 128 then some (bytesOf ([IntKind.wrap .u8 a0])) else m83_quirref_Nat_K1 a0 rec
def m83_quirref_NatR : Nat → Int → Option (List UInt8)
  | 0, _ => none
  | n + 1, a0 => m83_quirref_NatB (m83_quirref_NatR n) a0
def m83_quirref_Nat (a0 : Int) : Option (List UInt8) := m83_quirref_NatR big a0
def m79_quirref_Int (a0 : Int) : Option (List UInt8) :=
  if a0 < 0 then bind1 (i64 (a0 + 1)) fun x2 => bind1 (m83_quirref_Nat (IntKind.wrap .u64 ((IntKind.wrap .u64 ((IntKind.wrap .u64 (IntKind.wrap .i64 (-x2))) * 2)) + 1))) fun s3 => some s3 else bind1 (m83_quirref_Nat (IntKind.wrap .u64 ((IntKind.wrap .u64 a0) * 2))) fun s5 => some s5
def m82_quirref_Fold_K1 (gx1 : Int) (gx2 : Int) : Option Int :=
  bind1 (modW gx2 65521) fun x1 => bind1 (modW gx1 65521) fun x2 => some (IntKind.wrap .u32 (IntKind.wrap .u64 ((IntKind.wrap .u64 (x1 * 65536)) + x2)))
def m82_quirref_Fold_L1B (go1 : Int → Int → Int → Option Int) (a0 : (List UInt8)) (gx3 : Int) (gx4 : Int) (gx5 : Int) : Option Int :=
  if gx5 < (a0.length : Int) then bind1 (idxS a0 gx5) fun x4 => bind1 (idxS a0 gx5) fun x5 => bind1 (i64 ((a0.length : Int) - gx5)) fun x6 => bind1 (i64 (gx5 + 1)) fun x7 => go1 (IntKind.wrap .u64 (gx3 + (IntKind.wrap .u64 x4))) (IntKind.wrap .u64 (gx4 + (IntKind.wrap .u64 ((IntKind.wrap .u64 x5) * (IntKind.wrap .u64 x6))))) x7 else m82_quirref_Fold_K1 gx3 gx4
def m82_quirref_Fold_L1 (a0 : (List UInt8)) : Nat → Int → Int → Int → Option Int
  | 0, _, _, _ => none
  | n + 1, gx3, gx4, gx5 => m82_quirref_Fold_L1B (m82_quirref_Fold_L1 a0 n) a0 gx3 gx4 gx5
def m82_quirref_Fold (a0 : (List UInt8)) : Option Int :=
  m82_quirref_Fold_L1 a0 big 1 (IntKind.wrap .u64 (a0.length : Int)) 0
def m64_quirref_FoldPut_K1 (a0 : (List UInt8)) : Option ((List UInt8) × Int) :=
  bind1 (m82_quirref_Fold a0) fun x1 => bind1 (divW .u32 x1 16777216) fun x3 => bind1 (divW .u32 x1 65536) fun x4 => bind1 (modW x4 256) fun x5 => bind1 (divW .u32 x1 256) fun x6 => bind1 (modW x6 256) fun x7 => bind1 (modW x1 256) fun x8 => bind1 (catS a0 (bytesOf ([IntKind.wrap .u8 x3, IntKind.wrap .u8 x5, IntKind.wrap .u8 x7, IntKind.wrap .u8 x8]))) fun s10 => some (s10, 0)
def m64_quirref_FoldPut (a0 : (List UInt8)) : Option ((List UInt8) × Int) :=
  if 4096 < (a0.length : Int) then some ([], 2) else m64_quirref_FoldPut_K1 a0
def m57_quirref_anchorSector (a0 : Int) : Option (List UInt8) :=
  bind1 (m79_quirref_Int a0) fun s1 => bind2 (m64_quirref_FoldPut s1) fun s3 x4 => bind1 (catS ([3]) s3) fun s6 => bind1 (i64 (63 - (s3.length : Int))) fun x7 => bind1 (m23_quirref_blank x7) fun s8 => bind1 (catS s6 s8) fun s10 => some s10
def m29_quirref_anchored_K2 (x2 : Int) (a0 : (List UInt8)) (gb1 : Bool) : Option Int :=
  if gb1 = true then if x2 ≤ 1000000 then bind1 (m57_quirref_anchorSector x2) fun s7 => if s7 = a0 then some x2 else some (-1) else some (-1) else some (-1)
def m29_quirref_anchored_K1 (a0 : (List UInt8)) : Option Int :=
  bind1 (cut a0 1 a0.length) fun s1 => bind3 (m56_quirref_GetInt s1) fun x2 x3 x4 => if x4 = 0 then if 0 ≤ x2 then m29_quirref_anchored_K2 x2 a0 true else m29_quirref_anchored_K2 x2 a0 false else m29_quirref_anchored_K2 x2 a0 false
def m29_quirref_anchored (a0 : (List UInt8)) : Option Int :=
  bind1 (m23_quirref_blank 64) fun s12 => if a0 = s12 then some 0 else m29_quirref_anchored_K1 a0
def m59_quirref_headOf_K1 (gs1 : (List UInt8)) : Option (List UInt8) :=
  some gs1
def m59_quirref_headOf (a0 : Int) (a1 : Int) (a2 : Int) : Option (List UInt8) :=
  bind1 (m79_quirref_Int a1) fun s2 => bind1 (m79_quirref_Int a2) fun y4 => bind1 (catS (bytesOf ([a0])) s2) fun s6 => bind1 (catS s6 y4) fun s7 => m59_quirref_headOf_K1 s7
def m60_quirref_FoldGet_K1 (a0 : (List UInt8)) : Option ((List UInt8) × Int) :=
  bind1 (i64 ((a0.length : Int) - 4)) fun x1 => bind1 (cut a0 0 x1) fun s2 => bind2 (m64_quirref_FoldPut s2) fun s3 x4 => if s3 ≠ a0 then some ([], 5) else bind1 (i64 ((a0.length : Int) - 4)) fun x7 => bind1 (cut a0 0 x7) fun s8 => some (s8, 0)
def m60_quirref_FoldGet (a0 : (List UInt8)) : Option ((List UInt8) × Int) :=
  if (a0.length : Int) < 4 then some ([], 3) else if 4100 < (a0.length : Int) then some ([], 2) else m60_quirref_FoldGet_K1 a0
def m30_quirref_recordAt_K4 (x19 : Int) (x18 : Int) (x3 : Int) (gx1 : Int) (gs2 : (List UInt8)) : Option (Int × (List UInt8) × Int) :=
  bind1 (i64 (x19 + (IntKind.wrap .i64 x18))) fun x22 => bind1 (i64 (x22 + 4)) fun x23 => bind1 (cut gs2 0 x23) fun s24 => bind2 (m60_quirref_FoldGet s24) fun s25 x26 => if x26 ≠ 0 then some (0, [], 0) else bind1 (cut s25 x19 s25.length) fun s29 => some (x3, s29, gx1)
def m30_quirref_recordAt_K5 (x3 : Int) (a1 : Int) (gx3 : Int) (a0 : (List (List UInt8))) (gs4 : (List UInt8)) (go1 : Int → (List UInt8) → Option (Int × (List UInt8) × Int)) : Option (Int × (List UInt8) × Int) :=
  bind1 (m59_quirref_headOf 2 x3 a1) fun s30 => if gx3 = (a0.length : Int) then some (0, [], 0) else bind1 (idx a0 gx3) fun x33 => bind1 (cut x33 0 (s30.length : Int)) fun s34 => if s34 ≠ s30 then some (0, [], 0) else bind1 (idx a0 gx3) fun x36 => bind1 (cut x36 (s30.length : Int) x36.length) fun s37 => bind1 (catS gs4 s37) fun s38 => bind1 (i64 (gx3 + 1)) fun x39 => go1 x39 s38
def m30_quirref_recordAt_L1B (go1 : Int → (List UInt8) → Option (Int × (List UInt8) × Int)) (x19 : Int) (x18 : Int) (x3 : Int) (a1 : Int) (a0 : (List (List UInt8))) (gx3 : Int) (gs4 : (List UInt8)) : Option (Int × (List UInt8) × Int) :=
  bind1 (i64 (x19 + (IntKind.wrap .i64 x18))) fun x40 => bind1 (i64 (x40 + 4)) fun x41 => if (gs4.length : Int) < x41 then m30_quirref_recordAt_K5 x3 a1 gx3 a0 gs4 go1 else m30_quirref_recordAt_K4 x19 x18 x3 gx3 gs4
def m30_quirref_recordAt_L1 (x19 : Int) (x18 : Int) (x3 : Int) (a1 : Int) (a0 : (List (List UInt8))) : Nat → Int → (List UInt8) → Option (Int × (List UInt8) × Int)
  | 0, _, _ => none
  | n + 1, gx3, gs4 => m30_quirref_recordAt_L1B (m30_quirref_recordAt_L1 x19 x18 x3 a1 a0 n) x19 x18 x3 a1 a0 gx3 gs4
def m30_quirref_recordAt_K3 (x19 : Int) (x18 : Int) (x3 : Int) (a1 : Int) (a0 : (List (List UInt8))) (s17 : (List UInt8)) : Option (Int × (List UInt8) × Int) :=
  m30_quirref_recordAt_L1 x19 x18 x3 a1 a0 big 1 s17
def m30_quirref_recordAt_K2 (a0 : (List (List UInt8))) (x4 : Int) (x11 : Int) (x3 : Int) (a1 : Int) : Option (Int × (List UInt8) × Int) :=
  bind1 (idx a0 0) fun x14 => bind1 (i64 (1 + x4)) fun x15 => bind1 (i64 (x15 + x11)) fun x16 => bind1 (cut x14 x16 x14.length) fun s17 => bind3 (m58_quirref_GetNat s17) fun x18 x19 x20 => if x20 ≠ 0 then some (0, [], 0) else if 300 < x18 then some (0, [], 0) else m30_quirref_recordAt_K3 x19 x18 x3 a1 a0 s17
def m30_quirref_recordAt_K6 (x10 : Int) (a1 : Int) (a0 : (List (List UInt8))) (x4 : Int) (x11 : Int) (x3 : Int) (gb5 : Bool) : Option (Int × (List UInt8) × Int) :=
  if gb5 = true then some (0, [], 0) else if x10 ≠ a1 then some (0, [], 0) else m30_quirref_recordAt_K2 a0 x4 x11 x3 a1
def m30_quirref_recordAt_K1 (a0 : (List (List UInt8))) (a1 : Int) : Option (Int × (List UInt8) × Int) :=
  bind1 (idx a0 0) fun x1 => bind1 (cut x1 1 x1.length) fun s2 => bind3 (m56_quirref_GetInt s2) fun x3 x4 x5 => bind1 (idx a0 0) fun x7 => bind1 (i64 (1 + x4)) fun x8 => bind1 (cut x7 x8 x7.length) fun s9 => bind3 (m56_quirref_GetInt s9) fun x10 x11 x12 => if x5 ≠ 0 then m30_quirref_recordAt_K6 x10 a1 a0 x4 x11 x3 true else if x12 ≠ 0 then m30_quirref_recordAt_K6 x10 a1 a0 x4 x11 x3 true else m30_quirref_recordAt_K6 x10 a1 a0 x4 x11 x3 false
def m30_quirref_recordAt (a0 : (List (List UInt8))) (a1 : Int) : Option (Int × (List UInt8) × Int) :=
  if (a0.length : Int) = 0 then some (0, [], 0) else bind1 (idx a0 0) fun x49 => bind1 (idxS x49 0) fun x50 => if x50 ≠ 1 then some (0, [], 0) else m30_quirref_recordAt_K1 a0 a1
def m36_quirref_Disk_Write_K4 (l14 : (List (List UInt8))) (x2 : Int) (a0_left : Int) (gl2 : (List Int)) (gl4 : (List (List UInt8))) : Option ((List (List UInt8)) × (List Int) × (List (List UInt8)) × Int × Int) :=
  some (l14, gl2, gl4, (max x2 (min a0_left (-1))), 0)
def m36_quirref_Disk_Write_K3 (a0_left : Int) (a2 : (List UInt8)) (a0_Seen : (List (List UInt8))) (a1 : Int) (a0_late : (List Int)) (a0_texts : (List (List UInt8))) : Option ((List (List UInt8)) × (List Int) × (List (List UInt8)) × Int × Int) :=
  bind1 (i64 (a0_left - 1)) fun x2 => bind1 (i64 (64 - (a2.length : Int))) fun x9 => bind1 (m23_quirref_blank x9) fun s10 => bind1 (catS a2 s10) fun s12 => bind1 (idx a0_Seen a1) fun x13 => bind1 (upd a0_Seen a1 s12) fun l14 => bind1 (idx l14 a1) fun x33 => bind1 (app a0_late ([a1])) fun l36 => bind1 (app a0_texts ([x33])) fun l39 => m36_quirref_Disk_Write_K4 l14 x2 a0_left l36 l39
def m36_quirref_Disk_Write_K2 (a0_left : Int) (a0_Seen : (List (List UInt8))) (a0_late : (List Int)) (a0_texts : (List (List UInt8))) (a2 : (List UInt8)) (a1 : Int) : Option ((List (List UInt8)) × (List Int) × (List (List UInt8)) × Int × Int) :=
  if a0_left = 0 then some (a0_Seen, a0_late, a0_texts, a0_left, 13) else m36_quirref_Disk_Write_K3 a0_left a2 a0_Seen a1 a0_late a0_texts
def m36_quirref_Disk_Write_K1 (a2 : (List UInt8)) (a0_Seen : (List (List UInt8))) (a0_late : (List Int)) (a0_texts : (List (List UInt8))) (a0_left : Int) (a1 : Int) : Option ((List (List UInt8)) × (List Int) × (List (List UInt8)) × Int × Int) :=
  if 64 < (a2.length : Int) then some (a0_Seen, a0_late, a0_texts, a0_left, 2) else m36_quirref_Disk_Write_K2 a0_left a0_Seen a0_late a0_texts a2 a1
def m36_quirref_Disk_Write (a0_Seen : (List (List UInt8))) (a0_Safe : (List (List UInt8))) (a0_late : (List Int)) (a0_texts : (List (List UInt8))) (a0_left : Int) (a1 : Int) (a2 : (List UInt8)) : Option ((List (List UInt8)) × (List Int) × (List (List UInt8)) × Int × Int) :=
  if a1 < 0 then some (a0_Seen, a0_late, a0_texts, a0_left, 1) else if (a0_Seen.length : Int) ≤ a1 then some (a0_Seen, a0_late, a0_texts, a0_left, 1) else m36_quirref_Disk_Write_K1 a2 a0_Seen a0_late a0_texts a0_left a1
def m40_slices_Clone_string (a0 : (List (List UInt8))) : Option (List (List UInt8)) :=
  bind1 (app [] a0) fun l3 => some l3
def m39_quirref_Disk_Flush_K1 (a0_left : Int) (a0_Seen : (List (List UInt8))) : Option ((List (List UInt8)) × (List (List UInt8)) × (List Int) × (List (List UInt8)) × Int × Int) :=
  bind1 (i64 (a0_left - 1)) fun x2 => bind1 (m40_slices_Clone_string a0_Seen) fun l3 => some (a0_Seen, l3, [], [], (max x2 (min a0_left (-1))), 0)
def m39_quirref_Disk_Flush (a0_Seen : (List (List UInt8))) (a0_Safe : (List (List UInt8))) (a0_late : (List Int)) (a0_texts : (List (List UInt8))) (a0_left : Int) : Option ((List (List UInt8)) × (List (List UInt8)) × (List Int) × (List (List UInt8)) × Int × Int) :=
  if a0_left = 0 then some (a0_Seen, a0_Safe, a0_late, a0_texts, a0_left, 13) else m39_quirref_Disk_Flush_K1 a0_left a0_Seen
def m31_quirref_Log_raise_K4 (gl3 : (List (List UInt8))) (gl5 : (List (List UInt8))) (gl7 : (List Int)) (gl9 : (List (List UInt8))) (gx10 : Int) (gx11 : Int) (gx1 : Int) (gb12 : Bool) : Option ((List (List UInt8)) × (List (List UInt8)) × (List Int) × (List (List UInt8)) × Int × Int × Bool × Int) :=
  some (gl3, gl5, gl7, gl9, gx10, gx11, gb12, gx1)
def m31_quirref_Log_raise_K3 (gx1 : Int) (gl3 : (List (List UInt8))) (gl5 : (List (List UInt8))) (gl7 : (List Int)) (gl9 : (List (List UInt8))) (gx10 : Int) (a0_fell : Bool) (gx11 : Int) : Option ((List (List UInt8)) × (List (List UInt8)) × (List Int) × (List (List UInt8)) × Int × Int × Bool × Int) :=
  if gx1 ≠ 0 then m31_quirref_Log_raise_K4 gl3 gl5 gl7 gl9 gx10 gx11 gx1 true else m31_quirref_Log_raise_K4 gl3 gl5 gl7 gl9 gx10 gx11 gx1 a0_fell
def m31_quirref_Log_raise_K2 (a0_epoch : Int) (a0_fell : Bool) (gx1 : Int) (gl3 : (List (List UInt8))) (gl5 : (List (List UInt8))) (gl7 : (List Int)) (gl9 : (List (List UInt8))) (gx10 : Int) : Option ((List (List UInt8)) × (List (List UInt8)) × (List Int) × (List (List UInt8)) × Int × Int × Bool × Int) :=
  if gx1 = 0 then bind1 (i64 (a0_epoch + 1)) fun x63 => m31_quirref_Log_raise_K3 gx1 gl3 gl5 gl7 gl9 gx10 a0_fell x63 else m31_quirref_Log_raise_K3 gx1 gl3 gl5 gl7 gl9 gx10 a0_fell a0_epoch
def m31_quirref_Log_raise_K1 (a0_epoch : Int) (a0_d_Seen : (List (List UInt8))) (a0_d_Safe : (List (List UInt8))) (a0_d_late : (List Int)) (a0_d_texts : (List (List UInt8))) (a0_d_left : Int) (a0_from : Int) (a0_fell : Bool) : Option ((List (List UInt8)) × (List (List UInt8)) × (List Int) × (List (List UInt8)) × Int × Int × Bool × Int) :=
  bind1 (i64 (a0_epoch + 1)) fun x49 => bind1 (m57_quirref_anchorSector x49) fun s50 => bind5 (m36_quirref_Disk_Write a0_d_Seen a0_d_Safe a0_d_late a0_d_texts a0_d_left a0_from s50) fun l52 l53 l54 x55 x56 => if x56 = 0 then bind6 (m39_quirref_Disk_Flush l52 a0_d_Safe l53 l54 x55) fun l65 l66 l67 l68 x69 x70 => m31_quirref_Log_raise_K2 a0_epoch a0_fell x70 l65 l66 l67 l68 x69 else m31_quirref_Log_raise_K2 a0_epoch a0_fell x56 l52 a0_d_Safe l53 l54 x55
def m31_quirref_Log_raise (a0_d_Seen : (List (List UInt8))) (a0_d_Safe : (List (List UInt8))) (a0_d_late : (List Int)) (a0_d_texts : (List (List UInt8))) (a0_d_left : Int) (a0_from : Int) (a0_size : Int) (a0_epoch : Int) (a0_at : Int) (a0_seq : Int) (a0_fell : Bool) : Option ((List (List UInt8)) × (List (List UInt8)) × (List Int) × (List (List UInt8)) × Int × Int × Bool × Int) :=
  if 1000000 ≤ a0_epoch then some (a0_d_Seen, a0_d_Safe, a0_d_late, a0_d_texts, a0_d_left, a0_epoch, a0_fell, 8) else m31_quirref_Log_raise_K1 a0_epoch a0_d_Seen a0_d_Safe a0_d_late a0_d_texts a0_d_left a0_from a0_fell
def m7_quirref_OpenLog_K4 (a0_Seen : (List (List UInt8))) (a0_Safe : (List (List UInt8))) (a0_late : (List Int)) (a0_texts : (List (List UInt8))) (a0_left : Int) (a1 : Int) (a2 : Int) (x4 : Int) (gl2 : (List (List UInt8))) (gx3 : Int) (gx4 : Int) : Option (((List (List UInt8)) × (List (List UInt8)) × (List Int) × (List (List UInt8)) × Int × (List (List UInt8)) × Int) ⊕ ((List (List UInt8)) × (List (List UInt8)) × (List Int) × (List (List UInt8)) × Int × (List (List UInt8)) × Int × Int × Int × Int × Int × Int × Bool)) :=
  bind8 (m31_quirref_Log_raise a0_Seen a0_Safe a0_late a0_texts a0_left a1 a2 x4 gx3 gx4 false) fun l7 l8 l9 l10 x11 x12 b13 x14 => if x14 ≠ 0 then some (.inl (l7, l8, l9, l10, x11, [], x14)) else some (.inr (l7, l8, l9, l10, x11, gl2, 0, a1, a2, x12, gx3, gx4, b13))
def m7_quirref_OpenLog_K5 (gl6 : (List (List UInt8))) (s23 : (List UInt8)) (gx8 : Int) (x24 : Int) (gx9 : Int) (go1 : (List (List UInt8)) → Int → Int → Int → Option (((List (List UInt8)) × (List (List UInt8)) × (List Int) × (List (List UInt8)) × Int × (List (List UInt8)) × Int) ⊕ ((List (List UInt8)) × (List (List UInt8)) × (List Int) × (List (List UInt8)) × Int × (List (List UInt8)) × Int × Int × Int × Int × Int × Int × Bool))) (x22 : Int) : Option (((List (List UInt8)) × (List (List UInt8)) × (List Int) × (List (List UInt8)) × Int × (List (List UInt8)) × Int) ⊕ ((List (List UInt8)) × (List (List UInt8)) × (List Int) × (List (List UInt8)) × Int × (List (List UInt8)) × Int × Int × Int × Int × Int × Int × Bool)) :=
  bind1 (app gl6 ([s23])) fun l28 => bind1 (i64 (gx8 + x24)) fun x31 => bind1 (i64 (gx9 + 1)) fun x32 => go1 l28 x22 x31 x32
def m7_quirref_OpenLog_K6 (a0_Seen : (List (List UInt8))) (a0_Safe : (List (List UInt8))) (a0_late : (List Int)) (a0_texts : (List (List UInt8))) (a0_left : Int) (a1 : Int) (a2 : Int) (x4 : Int) (gl6 : (List (List UInt8))) (gx8 : Int) (gx9 : Int) (x22 : Int) (s23 : (List UInt8)) (x24 : Int) (go1 : (List (List UInt8)) → Int → Int → Int → Option (((List (List UInt8)) × (List (List UInt8)) × (List Int) × (List (List UInt8)) × Int × (List (List UInt8)) × Int) ⊕ ((List (List UInt8)) × (List (List UInt8)) × (List Int) × (List (List UInt8)) × Int × (List (List UInt8)) × Int × Int × Int × Int × Int × Int × Bool))) (gb10 : Bool) : Option (((List (List UInt8)) × (List (List UInt8)) × (List Int) × (List (List UInt8)) × Int × (List (List UInt8)) × Int) ⊕ ((List (List UInt8)) × (List (List UInt8)) × (List Int) × (List (List UInt8)) × Int × (List (List UInt8)) × Int × Int × Int × Int × Int × Int × Bool)) :=
  if gb10 = true then m7_quirref_OpenLog_K4 a0_Seen a0_Safe a0_late a0_texts a0_left a1 a2 x4 gl6 gx8 gx9 else if x4 < x22 then m7_quirref_OpenLog_K4 a0_Seen a0_Safe a0_late a0_texts a0_left a1 a2 x4 gl6 gx8 gx9 else m7_quirref_OpenLog_K5 gl6 s23 gx8 x24 gx9 go1 x22
def m7_quirref_OpenLog_L1B (go1 : (List (List UInt8)) → Int → Int → Int → Option (((List (List UInt8)) × (List (List UInt8)) × (List Int) × (List (List UInt8)) × Int × (List (List UInt8)) × Int) ⊕ ((List (List UInt8)) × (List (List UInt8)) × (List Int) × (List (List UInt8)) × Int × (List (List UInt8)) × Int × Int × Int × Int × Int × Int × Bool))) (l2 : (List (List UInt8))) (a0_Seen : (List (List UInt8))) (a0_Safe : (List (List UInt8))) (a0_late : (List Int)) (a0_texts : (List (List UInt8))) (a0_left : Int) (a1 : Int) (a2 : Int) (x4 : Int) (gl6 : (List (List UInt8))) (gx7 : Int) (gx8 : Int) (gx9 : Int) : Option (((List (List UInt8)) × (List (List UInt8)) × (List Int) × (List (List UInt8)) × Int × (List (List UInt8)) × Int) ⊕ ((List (List UInt8)) × (List (List UInt8)) × (List Int) × (List (List UInt8)) × Int × (List (List UInt8)) × Int × Int × Int × Int × Int × Int × Bool)) :=
  bind1 (cut l2 gx8 l2.length) fun l21 => bind3 (m30_quirref_recordAt l21 gx9) fun x22 s23 x24 => if x24 = 0 then m7_quirref_OpenLog_K6 a0_Seen a0_Safe a0_late a0_texts a0_left a1 a2 x4 gl6 gx8 gx9 x22 s23 x24 go1 true else if x22 < gx7 then m7_quirref_OpenLog_K6 a0_Seen a0_Safe a0_late a0_texts a0_left a1 a2 x4 gl6 gx8 gx9 x22 s23 x24 go1 true else m7_quirref_OpenLog_K6 a0_Seen a0_Safe a0_late a0_texts a0_left a1 a2 x4 gl6 gx8 gx9 x22 s23 x24 go1 false
def m7_quirref_OpenLog_L1 (l2 : (List (List UInt8))) (a0_Seen : (List (List UInt8))) (a0_Safe : (List (List UInt8))) (a0_late : (List Int)) (a0_texts : (List (List UInt8))) (a0_left : Int) (a1 : Int) (a2 : Int) (x4 : Int) : Nat → (List (List UInt8)) → Int → Int → Int → Option (((List (List UInt8)) × (List (List UInt8)) × (List Int) × (List (List UInt8)) × Int × (List (List UInt8)) × Int) ⊕ ((List (List UInt8)) × (List (List UInt8)) × (List Int) × (List (List UInt8)) × Int × (List (List UInt8)) × Int × Int × Int × Int × Int × Int × Bool))
  | 0, _, _, _, _ => none
  | n + 1, gl6, gx7, gx8, gx9 => m7_quirref_OpenLog_L1B (m7_quirref_OpenLog_L1 l2 a0_Seen a0_Safe a0_late a0_texts a0_left a1 a2 x4 n) l2 a0_Seen a0_Safe a0_late a0_texts a0_left a1 a2 x4 gl6 gx7 gx8 gx9
def m7_quirref_OpenLog_K3 (l2 : (List (List UInt8))) (a0_Seen : (List (List UInt8))) (a0_Safe : (List (List UInt8))) (a0_late : (List Int)) (a0_texts : (List (List UInt8))) (a0_left : Int) (a1 : Int) (a2 : Int) (x4 : Int) : Option (((List (List UInt8)) × (List (List UInt8)) × (List Int) × (List (List UInt8)) × Int × (List (List UInt8)) × Int) ⊕ ((List (List UInt8)) × (List (List UInt8)) × (List Int) × (List (List UInt8)) × Int × (List (List UInt8)) × Int × Int × Int × Int × Int × Int × Bool)) :=
  m7_quirref_OpenLog_L1 l2 a0_Seen a0_Safe a0_late a0_texts a0_left a1 a2 x4 big [] 0 1 0
def m7_quirref_OpenLog_K2 (a0_left : Int) (a0_Seen : (List (List UInt8))) (a0_Safe : (List (List UInt8))) (a0_late : (List Int)) (a0_texts : (List (List UInt8))) (a1 : Int) (a2 : Int) : Option (((List (List UInt8)) × (List (List UInt8)) × (List Int) × (List (List UInt8)) × Int × (List (List UInt8)) × Int) ⊕ ((List (List UInt8)) × (List (List UInt8)) × (List Int) × (List (List UInt8)) × Int × (List (List UInt8)) × Int × Int × Int × Int × Int × Int × Bool)) :=
  if (decide (a0_left = 0)) = true then some (.inl (a0_Seen, a0_Safe, a0_late, a0_texts, a0_left, [], 13)) else bind1 (i64 (a1 + a2)) fun x1 => bind1 (cut a0_Seen a1 x1) fun l2 => bind1 (idx l2 0) fun x3 => bind1 (m29_quirref_anchored x3) fun x4 => if x4 < 0 then some (.inl (a0_Seen, a0_Safe, a0_late, a0_texts, a0_left, [], 4)) else m7_quirref_OpenLog_K3 l2 a0_Seen a0_Safe a0_late a0_texts a0_left a1 a2 x4
def m7_quirref_OpenLog_K1 (a0_left : Int) (a0_Seen : (List (List UInt8))) (a0_Safe : (List (List UInt8))) (a0_late : (List Int)) (a0_texts : (List (List UInt8))) (a1 : Int) (a2 : Int) : Option (((List (List UInt8)) × (List (List UInt8)) × (List Int) × (List (List UInt8)) × Int × (List (List UInt8)) × Int) ⊕ ((List (List UInt8)) × (List (List UInt8)) × (List Int) × (List (List UInt8)) × Int × (List (List UInt8)) × Int × Int × Int × Int × Int × Int × Bool)) :=
  m7_quirref_OpenLog_K2 a0_left a0_Seen a0_Safe a0_late a0_texts a1 a2
def m7_quirref_OpenLog_K7 (a0_Seen : (List (List UInt8))) (a0_Safe : (List (List UInt8))) (a0_late : (List Int)) (a0_texts : (List (List UInt8))) (a0_left : Int) (a1 : Int) (a2 : Int) (gb11 : Bool) : Option (((List (List UInt8)) × (List (List UInt8)) × (List Int) × (List (List UInt8)) × Int × (List (List UInt8)) × Int) ⊕ ((List (List UInt8)) × (List (List UInt8)) × (List Int) × (List (List UInt8)) × Int × (List (List UInt8)) × Int × Int × Int × Int × Int × Int × Bool)) :=
  if gb11 = true then some (.inl (a0_Seen, a0_Safe, a0_late, a0_texts, a0_left, [], 1)) else if (a0_Seen.length : Int) < a1 then some (.inl (a0_Seen, a0_Safe, a0_late, a0_texts, a0_left, [], 1)) else bind1 (i64 ((a0_Seen.length : Int) - a1)) fun x38 => if x38 < a2 then some (.inl (a0_Seen, a0_Safe, a0_late, a0_texts, a0_left, [], 1)) else m7_quirref_OpenLog_K1 a0_left a0_Seen a0_Safe a0_late a0_texts a1 a2
def m7_quirref_OpenLog (a0_Seen : (List (List UInt8))) (a0_Safe : (List (List UInt8))) (a0_late : (List Int)) (a0_texts : (List (List UInt8))) (a0_left : Int) (a1 : Int) (a2 : Int) : Option (((List (List UInt8)) × (List (List UInt8)) × (List Int) × (List (List UInt8)) × Int × (List (List UInt8)) × Int) ⊕ ((List (List UInt8)) × (List (List UInt8)) × (List Int) × (List (List UInt8)) × Int × (List (List UInt8)) × Int × Int × Int × Int × Int × Int × Bool)) :=
  if a1 < 0 then m7_quirref_OpenLog_K7 a0_Seen a0_Safe a0_late a0_texts a0_left a1 a2 true else if a2 < 2 then m7_quirref_OpenLog_K7 a0_Seen a0_Safe a0_late a0_texts a0_left a1 a2 true else m7_quirref_OpenLog_K7 a0_Seen a0_Safe a0_late a0_texts a0_left a1 a2 false
def m8_slices_Equal_string_K2 : Option Bool :=
  some true
def m8_slices_Equal_string_L1B (go1 : Int → Option Bool) (a0 : (List (List UInt8))) (a1 : (List (List UInt8))) (gx1 : Int) : Option Bool :=
  if gx1 < (a0.length : Int) then bind1 (idx a0 gx1) fun x2 => bind1 (idx a1 gx1) fun x3 => if x2 ≠ x3 then some false else bind1 (i64 (gx1 + 1)) fun x5 => go1 x5 else m8_slices_Equal_string_K2
def m8_slices_Equal_string_L1 (a0 : (List (List UInt8))) (a1 : (List (List UInt8))) : Nat → Int → Option Bool
  | 0, _ => none
  | n + 1, gx1 => m8_slices_Equal_string_L1B (m8_slices_Equal_string_L1 a0 a1 n) a0 a1 gx1
def m8_slices_Equal_string_K1 (a0 : (List (List UInt8))) (a1 : (List (List UInt8))) : Option Bool :=
  m8_slices_Equal_string_L1 a0 a1 big 0
def m8_slices_Equal_string (a0 : (List (List UInt8))) (a1 : (List (List UInt8))) : Option Bool :=
  if (a0.length : Int) ≠ (a1.length : Int) then some false else m8_slices_Equal_string_K1 a0 a1
def m61_code_PutText (a0 : (List UInt8)) : Option ((List UInt8) × Int) :=
  if 4096 < (a0.length : Int) then some ([], 2) else bind1 (m80_code_PutNat (IntKind.wrap .u64 (a0.length : Int))) fun s2 => bind1 (catS s2 a0) fun s4 => some (s4, 0)
def m32_wal_sectors_K1 (gl2 : (List (List UInt8))) : Option (List (List UInt8)) :=
  some gl2
def m32_wal_sectors_K2 (gs6 : (List UInt8)) (a0 : Int) (a1 : Int) (gs3 : (List UInt8)) (gl5 : (List (List UInt8))) (go1 : (List UInt8) → (List (List UInt8)) → (List UInt8) → Option (List (List UInt8))) : Option (List (List UInt8)) :=
  bind1 (m54_wal_head gs6 a0 a1) fun s7 => bind1 (i64 (64 - (s7.length : Int))) fun x9 => bind1 (cut gs3 0 (min x9 (gs3.length : Int))) fun s10 => bind1 (catS s7 s10) fun s11 => bind1 (app gl5 ([s11])) fun l14 => bind1 (cut gs3 (min x9 (gs3.length : Int)) gs3.length) fun s15 => go1 s15 l14 ([2])
def m32_wal_sectors_L1B (go1 : (List UInt8) → (List (List UInt8)) → (List UInt8) → Option (List (List UInt8))) (a0 : Int) (a1 : Int) (gs3 : (List UInt8)) (gl5 : (List (List UInt8))) (gs6 : (List UInt8)) : Option (List (List UInt8)) :=
  if gs3 ≠ [] then m32_wal_sectors_K2 gs6 a0 a1 gs3 gl5 go1 else m32_wal_sectors_K1 gl5
def m32_wal_sectors_L1 (a0 : Int) (a1 : Int) : Nat → (List UInt8) → (List (List UInt8)) → (List UInt8) → Option (List (List UInt8))
  | 0, _, _, _ => none
  | n + 1, gs3, gl5, gs6 => m32_wal_sectors_L1B (m32_wal_sectors_L1 a0 a1 n) a0 a1 gs3 gl5 gs6
def m32_wal_sectors (a0 : Int) (a1 : Int) (a2 : (List UInt8)) : Option (List (List UInt8)) :=
  bind2 (m61_code_PutText a2) fun s1 x2 => bind2 (m62_fold_Put s1) fun s4 x5 => m32_wal_sectors_L1 a0 a1 big s4 [] ([1])
def m9_wal_Log_Append_K4 (a0_at : Int) (l1 : (List (List UInt8))) (a0_seq : Int) (a0_d_safe : (List (List UInt8))) (a0_fell : Bool) (gl2 : (List (List UInt8))) (gl4 : (List Twrite)) (gx5 : Int) : Option ((List (List UInt8)) × (List (List UInt8)) × (List Twrite) × Int × Int × Int × Bool × Int) :=
  bind1 (i64 (a0_at + (l1.length : Int))) fun x4 => bind1 (i64 (a0_seq + 1)) fun x5 => some (a0_d_safe, gl2, gl4, gx5, x4, x5, a0_fell, 0)
def m9_wal_Log_Append_K5 (a0_d_safe : (List (List UInt8))) (l37 : (List (List UInt8))) (l38 : (List Twrite)) (x39 : Int) (a0_at : Int) (a0_seq : Int) (x40 : Int) (gb12 : Bool) : Option ((List (List UInt8)) × (List (List UInt8)) × (List Twrite) × Int × Int × Int × Bool × Int) :=
  some (a0_d_safe, l37, l38, x39, a0_at, a0_seq, gb12, x40)
def m9_wal_Log_Append_L1B (go1 : Int → (List (List UInt8)) → (List Twrite) → Int → Option ((List (List UInt8)) × (List (List UInt8)) × (List Twrite) × Int × Int × Int × Bool × Int)) (l1 : (List (List UInt8))) (a0_from : Int) (a0_at : Int) (a0_d_safe : (List (List UInt8))) (a0_fell : Bool) (a0_seq : Int) (gx6 : Int) (gl8 : (List (List UInt8))) (gl10 : (List Twrite)) (gx11 : Int) : Option ((List (List UInt8)) × (List (List UInt8)) × (List Twrite) × Int × Int × Int × Bool × Int) :=
  if gx6 < (l1.length : Int) then bind1 (idx l1 gx6) fun x7 => bind1 (i64 (a0_from + a0_at)) fun x35 => bind1 (i64 (x35 + gx6)) fun x36 => bind4 (m33_sect_Disk_Write a0_d_safe gl8 gl10 gx11 x36 x7) fun l37 l38 x39 x40 => if x40 ≠ 0 then if a0_fell = true then m9_wal_Log_Append_K5 a0_d_safe l37 l38 x39 a0_at a0_seq x40 true else m9_wal_Log_Append_K5 a0_d_safe l37 l38 x39 a0_at a0_seq x40 (decide (x40 ≠ 0)) else bind1 (i64 (gx6 + 1)) fun x46 => go1 x46 l37 l38 x39 else m9_wal_Log_Append_K4 a0_at l1 a0_seq a0_d_safe a0_fell gl8 gl10 gx11
def m9_wal_Log_Append_L1 (l1 : (List (List UInt8))) (a0_from : Int) (a0_at : Int) (a0_d_safe : (List (List UInt8))) (a0_fell : Bool) (a0_seq : Int) : Nat → Int → (List (List UInt8)) → (List Twrite) → Int → Option ((List (List UInt8)) × (List (List UInt8)) × (List Twrite) × Int × Int × Int × Bool × Int)
  | 0, _, _, _, _ => none
  | n + 1, gx6, gl8, gl10, gx11 => m9_wal_Log_Append_L1B (m9_wal_Log_Append_L1 l1 a0_from a0_at a0_d_safe a0_fell a0_seq n) l1 a0_from a0_at a0_d_safe a0_fell a0_seq gx6 gl8 gl10 gx11
def m9_wal_Log_Append_K3 (l1 : (List (List UInt8))) (a0_from : Int) (a0_at : Int) (a0_d_safe : (List (List UInt8))) (a0_fell : Bool) (a0_seq : Int) (a0_d_seen : (List (List UInt8))) (a0_d_late : (List Twrite)) (a0_d_left : Int) : Option ((List (List UInt8)) × (List (List UInt8)) × (List Twrite) × Int × Int × Int × Bool × Int) :=
  m9_wal_Log_Append_L1 l1 a0_from a0_at a0_d_safe a0_fell a0_seq big 0 a0_d_seen a0_d_late a0_d_left
def m9_wal_Log_Append_K2 (a0_epoch : Int) (a0_seq : Int) (a1 : (List UInt8)) (a0_at : Int) (a0_size : Int) (a0_d_safe : (List (List UInt8))) (a0_d_seen : (List (List UInt8))) (a0_d_late : (List Twrite)) (a0_d_left : Int) (a0_fell : Bool) (a0_from : Int) : Option ((List (List UInt8)) × (List (List UInt8)) × (List Twrite) × Int × Int × Int × Bool × Int) :=
  bind1 (m32_wal_sectors a0_epoch a0_seq a1) fun l1 => bind1 (i64 (a0_at + (l1.length : Int))) fun x47 => if a0_size < x47 then some (a0_d_safe, a0_d_seen, a0_d_late, a0_d_left, a0_at, a0_seq, a0_fell, 8) else m9_wal_Log_Append_K3 l1 a0_from a0_at a0_d_safe a0_fell a0_seq a0_d_seen a0_d_late a0_d_left
def m9_wal_Log_Append_K1 (a1 : (List UInt8)) (a0_d_safe : (List (List UInt8))) (a0_d_seen : (List (List UInt8))) (a0_d_late : (List Twrite)) (a0_d_left : Int) (a0_at : Int) (a0_seq : Int) (a0_fell : Bool) (a0_epoch : Int) (a0_size : Int) (a0_from : Int) : Option ((List (List UInt8)) × (List (List UInt8)) × (List Twrite) × Int × Int × Int × Bool × Int) :=
  if 300 < (a1.length : Int) then some (a0_d_safe, a0_d_seen, a0_d_late, a0_d_left, a0_at, a0_seq, a0_fell, 2) else m9_wal_Log_Append_K2 a0_epoch a0_seq a1 a0_at a0_size a0_d_safe a0_d_seen a0_d_late a0_d_left a0_fell a0_from
def m9_wal_Log_Append (a0_d_safe : (List (List UInt8))) (a0_d_seen : (List (List UInt8))) (a0_d_late : (List Twrite)) (a0_d_left : Int) (a0_from : Int) (a0_size : Int) (a0_epoch : Int) (a0_at : Int) (a0_seq : Int) (a0_fell : Bool) (a1 : (List UInt8)) : Option ((List (List UInt8)) × (List (List UInt8)) × (List Twrite) × Int × Int × Int × Bool × Int) :=
  if a0_fell = true then some (a0_d_safe, a0_d_seen, a0_d_late, a0_d_left, a0_at, a0_seq, a0_fell, 10) else m9_wal_Log_Append_K1 a1 a0_d_safe a0_d_seen a0_d_late a0_d_left a0_at a0_seq a0_fell a0_epoch a0_size a0_from
def m65_quirref_Text (a0 : (List UInt8)) : Option (List UInt8) :=
  bind1 (m83_quirref_Nat (IntKind.wrap .u64 (a0.length : Int))) fun s1 => bind1 (catS s1 a0) fun s3 => some s3
def m35_quirref_recordSectors_K1 (gl2 : (List (List UInt8))) : Option (List (List UInt8)) :=
  some gl2
def m35_quirref_recordSectors_K4 (gs3 : (List UInt8)) (gs6 : (List UInt8)) (gl5 : (List (List UInt8))) (go1 : (List UInt8) → (List (List UInt8)) → Option (List (List UInt8))) (gx7 : Int) : Option (List (List UInt8)) :=
  bind1 (cut gs3 0 gx7) fun s15 => bind1 (cut gs3 gx7 gs3.length) fun s16 => bind1 (catS gs6 s15) fun s17 => bind1 (app gl5 ([s17])) fun l20 => go1 s16 l20
def m35_quirref_recordSectors_K3 (gs3 : (List UInt8)) (gl5 : (List (List UInt8))) (go1 : (List UInt8) → (List (List UInt8)) → Option (List (List UInt8))) (gs6 : (List UInt8)) : Option (List (List UInt8)) :=
  bind1 (i64 (64 - (gs6.length : Int))) fun x8 => if (gs3.length : Int) < x8 then m35_quirref_recordSectors_K4 gs3 gs6 gl5 go1 (gs3.length : Int) else m35_quirref_recordSectors_K4 gs3 gs6 gl5 go1 x8
def m35_quirref_recordSectors_K2 (a0 : Int) (a1 : Int) (gl5 : (List (List UInt8))) (gs3 : (List UInt8)) (go1 : (List UInt8) → (List (List UInt8)) → Option (List (List UInt8))) : Option (List (List UInt8)) :=
  bind1 (m59_quirref_headOf 2 a0 a1) fun s6 => if (gl5.length : Int) = 0 then bind1 (m59_quirref_headOf 1 a0 a1) fun s23 => m35_quirref_recordSectors_K3 gs3 gl5 go1 s23 else m35_quirref_recordSectors_K3 gs3 gl5 go1 s6
def m35_quirref_recordSectors_L1B (go1 : (List UInt8) → (List (List UInt8)) → Option (List (List UInt8))) (a0 : Int) (a1 : Int) (gs3 : (List UInt8)) (gl5 : (List (List UInt8))) : Option (List (List UInt8)) :=
  if gs3 ≠ [] then m35_quirref_recordSectors_K2 a0 a1 gl5 gs3 go1 else m35_quirref_recordSectors_K1 gl5
def m35_quirref_recordSectors_L1 (a0 : Int) (a1 : Int) : Nat → (List UInt8) → (List (List UInt8)) → Option (List (List UInt8))
  | 0, _, _ => none
  | n + 1, gs3, gl5 => m35_quirref_recordSectors_L1B (m35_quirref_recordSectors_L1 a0 a1 n) a0 a1 gs3 gl5
def m35_quirref_recordSectors (a0 : Int) (a1 : Int) (a2 : (List UInt8)) : Option (List (List UInt8)) :=
  bind1 (m65_quirref_Text a2) fun s1 => bind2 (m64_quirref_FoldPut s1) fun s3 x4 => m35_quirref_recordSectors_L1 a0 a1 big s3 []
def m10_quirref_Log_Append_K4 (a0_at : Int) (l1 : (List (List UInt8))) (a0_seq : Int) (a0_d_Safe : (List (List UInt8))) (a0_fell : Bool) (gl2 : (List (List UInt8))) (gl4 : (List Int)) (gl6 : (List (List UInt8))) (gx7 : Int) : Option ((List (List UInt8)) × (List (List UInt8)) × (List Int) × (List (List UInt8)) × Int × Int × Int × Bool × Int) :=
  bind1 (i64 (a0_at + (l1.length : Int))) fun x6 => bind1 (i64 (a0_seq + 1)) fun x7 => some (gl2, a0_d_Safe, gl4, gl6, gx7, x6, x7, a0_fell, 0)
def m10_quirref_Log_Append_K5 (l56 : (List (List UInt8))) (a0_d_Safe : (List (List UInt8))) (l57 : (List Int)) (l58 : (List (List UInt8))) (x59 : Int) (a0_at : Int) (a0_seq : Int) (x60 : Int) : Option ((List (List UInt8)) × (List (List UInt8)) × (List Int) × (List (List UInt8)) × Int × Int × Int × Bool × Int) :=
  some (l56, a0_d_Safe, l57, l58, x59, a0_at, a0_seq, true, x60)
def m10_quirref_Log_Append_L1B (go1 : Int → (List (List UInt8)) → (List Int) → (List (List UInt8)) → Int → Option ((List (List UInt8)) × (List (List UInt8)) × (List Int) × (List (List UInt8)) × Int × Int × Int × Bool × Int)) (l1 : (List (List UInt8))) (a0_from : Int) (a0_at : Int) (a0_d_Safe : (List (List UInt8))) (a0_seq : Int) (a0_fell : Bool) (gx8 : Int) (gl10 : (List (List UInt8))) (gl12 : (List Int)) (gl14 : (List (List UInt8))) (gx15 : Int) : Option ((List (List UInt8)) × (List (List UInt8)) × (List Int) × (List (List UInt8)) × Int × Int × Int × Bool × Int) :=
  if gx8 < (l1.length : Int) then bind1 (idx l1 gx8) fun x9 => bind1 (i64 (a0_from + a0_at)) fun x54 => bind1 (i64 (x54 + gx8)) fun x55 => bind5 (m36_quirref_Disk_Write gl10 a0_d_Safe gl12 gl14 gx15 x55 x9) fun l56 l57 l58 x59 x60 => if x60 ≠ 0 then if x60 ≠ 0 then m10_quirref_Log_Append_K5 l56 a0_d_Safe l57 l58 x59 a0_at a0_seq x60 else none else bind1 (i64 (gx8 + 1)) fun x67 => go1 x67 l56 l57 l58 x59 else m10_quirref_Log_Append_K4 a0_at l1 a0_seq a0_d_Safe a0_fell gl10 gl12 gl14 gx15
def m10_quirref_Log_Append_L1 (l1 : (List (List UInt8))) (a0_from : Int) (a0_at : Int) (a0_d_Safe : (List (List UInt8))) (a0_seq : Int) (a0_fell : Bool) : Nat → Int → (List (List UInt8)) → (List Int) → (List (List UInt8)) → Int → Option ((List (List UInt8)) × (List (List UInt8)) × (List Int) × (List (List UInt8)) × Int × Int × Int × Bool × Int)
  | 0, _, _, _, _, _ => none
  | n + 1, gx8, gl10, gl12, gl14, gx15 => m10_quirref_Log_Append_L1B (m10_quirref_Log_Append_L1 l1 a0_from a0_at a0_d_Safe a0_seq a0_fell n) l1 a0_from a0_at a0_d_Safe a0_seq a0_fell gx8 gl10 gl12 gl14 gx15
def m10_quirref_Log_Append_K3 (l1 : (List (List UInt8))) (a0_from : Int) (a0_at : Int) (a0_d_Safe : (List (List UInt8))) (a0_seq : Int) (a0_fell : Bool) (a0_d_Seen : (List (List UInt8))) (a0_d_late : (List Int)) (a0_d_texts : (List (List UInt8))) (a0_d_left : Int) : Option ((List (List UInt8)) × (List (List UInt8)) × (List Int) × (List (List UInt8)) × Int × Int × Int × Bool × Int) :=
  m10_quirref_Log_Append_L1 l1 a0_from a0_at a0_d_Safe a0_seq a0_fell big 0 a0_d_Seen a0_d_late a0_d_texts a0_d_left
def m10_quirref_Log_Append_K2 (a0_epoch : Int) (a0_seq : Int) (a1 : (List UInt8)) (a0_size : Int) (a0_at : Int) (a0_d_Seen : (List (List UInt8))) (a0_d_Safe : (List (List UInt8))) (a0_d_late : (List Int)) (a0_d_texts : (List (List UInt8))) (a0_d_left : Int) (a0_fell : Bool) (a0_from : Int) : Option ((List (List UInt8)) × (List (List UInt8)) × (List Int) × (List (List UInt8)) × Int × Int × Int × Bool × Int) :=
  bind1 (m35_quirref_recordSectors a0_epoch a0_seq a1) fun l1 => bind1 (i64 (a0_size - a0_at)) fun x68 => if x68 < (l1.length : Int) then some (a0_d_Seen, a0_d_Safe, a0_d_late, a0_d_texts, a0_d_left, a0_at, a0_seq, a0_fell, 8) else m10_quirref_Log_Append_K3 l1 a0_from a0_at a0_d_Safe a0_seq a0_fell a0_d_Seen a0_d_late a0_d_texts a0_d_left
def m10_quirref_Log_Append_K1 (a1 : (List UInt8)) (a0_d_Seen : (List (List UInt8))) (a0_d_Safe : (List (List UInt8))) (a0_d_late : (List Int)) (a0_d_texts : (List (List UInt8))) (a0_d_left : Int) (a0_at : Int) (a0_seq : Int) (a0_fell : Bool) (a0_epoch : Int) (a0_size : Int) (a0_from : Int) : Option ((List (List UInt8)) × (List (List UInt8)) × (List Int) × (List (List UInt8)) × Int × Int × Int × Bool × Int) :=
  if 300 < (a1.length : Int) then some (a0_d_Seen, a0_d_Safe, a0_d_late, a0_d_texts, a0_d_left, a0_at, a0_seq, a0_fell, 2) else m10_quirref_Log_Append_K2 a0_epoch a0_seq a1 a0_size a0_at a0_d_Seen a0_d_Safe a0_d_late a0_d_texts a0_d_left a0_fell a0_from
def m10_quirref_Log_Append (a0_d_Seen : (List (List UInt8))) (a0_d_Safe : (List (List UInt8))) (a0_d_late : (List Int)) (a0_d_texts : (List (List UInt8))) (a0_d_left : Int) (a0_from : Int) (a0_size : Int) (a0_epoch : Int) (a0_at : Int) (a0_seq : Int) (a0_fell : Bool) (a1 : (List UInt8)) : Option ((List (List UInt8)) × (List (List UInt8)) × (List Int) × (List (List UInt8)) × Int × Int × Int × Bool × Int) :=
  if a0_fell = true then some (a0_d_Seen, a0_d_Safe, a0_d_late, a0_d_texts, a0_d_left, a0_at, a0_seq, a0_fell, 10) else m10_quirref_Log_Append_K1 a1 a0_d_Seen a0_d_Safe a0_d_late a0_d_texts a0_d_left a0_at a0_seq a0_fell a0_epoch a0_size a0_from
def m11_wal_Log_Sync_K2 (l1 : (List (List UInt8))) (l2 : (List (List UInt8))) (l3 : (List Twrite)) (x4 : Int) (x5 : Int) (gb1 : Bool) : Option ((List (List UInt8)) × (List (List UInt8)) × (List Twrite) × Int × Bool × Int) :=
  some (l1, l2, l3, x4, gb1, x5)
def m11_wal_Log_Sync_K1 (a0_d_safe : (List (List UInt8))) (a0_d_seen : (List (List UInt8))) (a0_d_late : (List Twrite)) (a0_d_left : Int) (a0_fell : Bool) : Option ((List (List UInt8)) × (List (List UInt8)) × (List Twrite) × Int × Bool × Int) :=
  bind5 (m38_sect_Disk_Flush a0_d_safe a0_d_seen a0_d_late a0_d_left) fun l1 l2 l3 x4 x5 => if a0_fell = true then m11_wal_Log_Sync_K2 l1 l2 l3 x4 x5 true else m11_wal_Log_Sync_K2 l1 l2 l3 x4 x5 (decide (x5 ≠ 0))
def m11_wal_Log_Sync (a0_d_safe : (List (List UInt8))) (a0_d_seen : (List (List UInt8))) (a0_d_late : (List Twrite)) (a0_d_left : Int) (a0_from : Int) (a0_size : Int) (a0_epoch : Int) (a0_at : Int) (a0_seq : Int) (a0_fell : Bool) : Option ((List (List UInt8)) × (List (List UInt8)) × (List Twrite) × Int × Bool × Int) :=
  if a0_fell = true then some (a0_d_safe, a0_d_seen, a0_d_late, a0_d_left, a0_fell, 10) else m11_wal_Log_Sync_K1 a0_d_safe a0_d_seen a0_d_late a0_d_left a0_fell
def m12_quirref_Log_Sync_K2 (l1 : (List (List UInt8))) (l2 : (List (List UInt8))) (l3 : (List Int)) (l4 : (List (List UInt8))) (x5 : Int) (x6 : Int) (gb1 : Bool) : Option ((List (List UInt8)) × (List (List UInt8)) × (List Int) × (List (List UInt8)) × Int × Bool × Int) :=
  some (l1, l2, l3, l4, x5, gb1, x6)
def m12_quirref_Log_Sync_K1 (a0_d_Seen : (List (List UInt8))) (a0_d_Safe : (List (List UInt8))) (a0_d_late : (List Int)) (a0_d_texts : (List (List UInt8))) (a0_d_left : Int) (a0_fell : Bool) : Option ((List (List UInt8)) × (List (List UInt8)) × (List Int) × (List (List UInt8)) × Int × Bool × Int) :=
  bind6 (m39_quirref_Disk_Flush a0_d_Seen a0_d_Safe a0_d_late a0_d_texts a0_d_left) fun l1 l2 l3 l4 x5 x6 => if x6 ≠ 0 then m12_quirref_Log_Sync_K2 l1 l2 l3 l4 x5 x6 true else m12_quirref_Log_Sync_K2 l1 l2 l3 l4 x5 x6 a0_fell
def m12_quirref_Log_Sync (a0_d_Seen : (List (List UInt8))) (a0_d_Safe : (List (List UInt8))) (a0_d_late : (List Int)) (a0_d_texts : (List (List UInt8))) (a0_d_left : Int) (a0_from : Int) (a0_size : Int) (a0_epoch : Int) (a0_at : Int) (a0_seq : Int) (a0_fell : Bool) : Option ((List (List UInt8)) × (List (List UInt8)) × (List Int) × (List (List UInt8)) × Int × Bool × Int) :=
  if a0_fell = true then some (a0_d_Seen, a0_d_Safe, a0_d_late, a0_d_texts, a0_d_left, a0_fell, 10) else m12_quirref_Log_Sync_K1 a0_d_Seen a0_d_Safe a0_d_late a0_d_texts a0_d_left a0_fell
def m13_wal_Log_Reset_K6 (l1 : (List (List UInt8))) (l2 : (List (List UInt8))) (l3 : (List Twrite)) (x4 : Int) (gx1 : Int) (a0_at : Int) (a0_seq : Int) (x5 : Int) (gb15 : Bool) : Option ((List (List UInt8)) × (List (List UInt8)) × (List Twrite) × Int × Int × Int × Int × Bool × Int) :=
  some (l1, l2, l3, x4, gx1, a0_at, a0_seq, gb15, x5)
def m13_wal_Log_Reset_K5 (gl4 : (List (List UInt8))) (gb2 : Bool) (gx1 : Int) (a0_at : Int) (a0_seq : Int) (gl11 : (List (List UInt8))) (gl13 : (List Twrite)) (gx14 : Int) : Option ((List (List UInt8)) × (List (List UInt8)) × (List Twrite) × Int × Int × Int × Int × Bool × Int) :=
  bind5 (m38_sect_Disk_Flush gl4 gl11 gl13 gx14) fun l1 l2 l3 x4 x5 => if x5 ≠ 0 then if gb2 = true then m13_wal_Log_Reset_K6 l1 l2 l3 x4 gx1 a0_at a0_seq x5 true else m13_wal_Log_Reset_K6 l1 l2 l3 x4 gx1 a0_at a0_seq x5 (decide (x5 ≠ 0)) else some (l1, l2, l3, x4, gx1, 2, 1, gb2, 0)
def m13_wal_Log_Reset_K7 (gl4 : (List (List UInt8))) (l53 : (List (List UInt8))) (l54 : (List Twrite)) (x55 : Int) (gx1 : Int) (a0_at : Int) (a0_seq : Int) (x56 : Int) (gb16 : Bool) : Option ((List (List UInt8)) × (List (List UInt8)) × (List Twrite) × Int × Int × Int × Int × Bool × Int) :=
  some (gl4, l53, l54, x55, gx1, a0_at, a0_seq, gb16, x56)
def m13_wal_Log_Reset_K4 (a0_from : Int) (a1 : (List UInt8)) (a0_at : Int) (a0_seq : Int) (gx1 : Int) (gb2 : Bool) (gl4 : (List (List UInt8))) (gl6 : (List (List UInt8))) (gl8 : (List Twrite)) (gx9 : Int) : Option ((List (List UInt8)) × (List (List UInt8)) × (List Twrite) × Int × Int × Int × Int × Bool × Int) :=
  bind1 (i64 (a0_from + 1)) fun x48 => bind1 (m32_wal_sectors gx1 0 a1) fun l49 => bind1 (idx l49 0) fun x52 => bind4 (m33_sect_Disk_Write gl4 gl6 gl8 gx9 x48 x52) fun l53 l54 x55 x56 => if x56 ≠ 0 then if gb2 = true then m13_wal_Log_Reset_K7 gl4 l53 l54 x55 gx1 a0_at a0_seq x56 true else m13_wal_Log_Reset_K7 gl4 l53 l54 x55 gx1 a0_at a0_seq x56 (decide (x56 ≠ 0)) else m13_wal_Log_Reset_K5 gl4 gb2 gx1 a0_at a0_seq l53 l54 x55
def m13_wal_Log_Reset_K3 (a0_d_safe : (List (List UInt8))) (a0_d_seen : (List (List UInt8))) (a0_d_late : (List Twrite)) (a0_d_left : Int) (a0_from : Int) (a0_size : Int) (a0_epoch : Int) (a0_at : Int) (a0_seq : Int) (a0_fell : Bool) (a1 : (List UInt8)) : Option ((List (List UInt8)) × (List (List UInt8)) × (List Twrite) × Int × Int × Int × Int × Bool × Int) :=
  bind7 (m27_wal_Log_raise a0_d_safe a0_d_seen a0_d_late a0_d_left a0_from a0_size a0_epoch a0_at a0_seq a0_fell) fun l62 l63 l64 x65 x66 b67 x68 => if x68 ≠ 0 then some (l62, l63, l64, x65, x66, a0_at, a0_seq, b67, x68) else m13_wal_Log_Reset_K4 a0_from a1 a0_at a0_seq x66 b67 l62 l63 l64 x65
def m13_wal_Log_Reset_K2 (a0_epoch : Int) (a1 : (List UInt8)) (a0_d_safe : (List (List UInt8))) (a0_d_seen : (List (List UInt8))) (a0_d_late : (List Twrite)) (a0_d_left : Int) (a0_at : Int) (a0_seq : Int) (a0_fell : Bool) (a0_from : Int) (a0_size : Int) : Option ((List (List UInt8)) × (List (List UInt8)) × (List Twrite) × Int × Int × Int × Int × Bool × Int) :=
  bind1 (i64 (a0_epoch + 1)) fun x74 => bind1 (m32_wal_sectors x74 0 a1) fun l75 => if 1 < (l75.length : Int) then some (a0_d_safe, a0_d_seen, a0_d_late, a0_d_left, a0_epoch, a0_at, a0_seq, a0_fell, 8) else m13_wal_Log_Reset_K3 a0_d_safe a0_d_seen a0_d_late a0_d_left a0_from a0_size a0_epoch a0_at a0_seq a0_fell a1
def m13_wal_Log_Reset_K1 (a1 : (List UInt8)) (a0_d_safe : (List (List UInt8))) (a0_d_seen : (List (List UInt8))) (a0_d_late : (List Twrite)) (a0_d_left : Int) (a0_epoch : Int) (a0_at : Int) (a0_seq : Int) (a0_fell : Bool) (a0_from : Int) (a0_size : Int) : Option ((List (List UInt8)) × (List (List UInt8)) × (List Twrite) × Int × Int × Int × Int × Bool × Int) :=
  if 300 < (a1.length : Int) then some (a0_d_safe, a0_d_seen, a0_d_late, a0_d_left, a0_epoch, a0_at, a0_seq, a0_fell, 2) else m13_wal_Log_Reset_K2 a0_epoch a1 a0_d_safe a0_d_seen a0_d_late a0_d_left a0_at a0_seq a0_fell a0_from a0_size
def m13_wal_Log_Reset (a0_d_safe : (List (List UInt8))) (a0_d_seen : (List (List UInt8))) (a0_d_late : (List Twrite)) (a0_d_left : Int) (a0_from : Int) (a0_size : Int) (a0_epoch : Int) (a0_at : Int) (a0_seq : Int) (a0_fell : Bool) (a1 : (List UInt8)) : Option ((List (List UInt8)) × (List (List UInt8)) × (List Twrite) × Int × Int × Int × Int × Bool × Int) :=
  if a0_fell = true then some (a0_d_safe, a0_d_seen, a0_d_late, a0_d_left, a0_epoch, a0_at, a0_seq, a0_fell, 10) else m13_wal_Log_Reset_K1 a1 a0_d_safe a0_d_seen a0_d_late a0_d_left a0_epoch a0_at a0_seq a0_fell a0_from a0_size
def m14_quirref_Log_Reset_K7 (gl14 : (List (List UInt8))) (gl16 : (List (List UInt8))) (gl18 : (List Int)) (gl20 : (List (List UInt8))) (gx21 : Int) (gx1 : Int) (gx22 : Int) (gx23 : Int) (gx12 : Int) (gb24 : Bool) : Option ((List (List UInt8)) × (List (List UInt8)) × (List Int) × (List (List UInt8)) × Int × Int × Int × Int × Bool × Int) :=
  some (gl14, gl16, gl18, gl20, gx21, gx1, gx22, gx23, gb24, gx12)
def m14_quirref_Log_Reset_K6 (gx12 : Int) (gl14 : (List (List UInt8))) (gl16 : (List (List UInt8))) (gl18 : (List Int)) (gl20 : (List (List UInt8))) (gx21 : Int) (gx1 : Int) (gb2 : Bool) (gx22 : Int) (gx23 : Int) : Option ((List (List UInt8)) × (List (List UInt8)) × (List Int) × (List (List UInt8)) × Int × Int × Int × Int × Bool × Int) :=
  if gx12 ≠ 0 then m14_quirref_Log_Reset_K7 gl14 gl16 gl18 gl20 gx21 gx1 gx22 gx23 gx12 true else m14_quirref_Log_Reset_K7 gl14 gl16 gl18 gl20 gx21 gx1 gx22 gx23 gx12 gb2
def m14_quirref_Log_Reset_K5 (gx1 : Int) (gb2 : Bool) (a0_at : Int) (a0_seq : Int) (gx12 : Int) (gl14 : (List (List UInt8))) (gl16 : (List (List UInt8))) (gl18 : (List Int)) (gl20 : (List (List UInt8))) (gx21 : Int) : Option ((List (List UInt8)) × (List (List UInt8)) × (List Int) × (List (List UInt8)) × Int × Int × Int × Int × Bool × Int) :=
  if gx12 = 0 then m14_quirref_Log_Reset_K6 gx12 gl14 gl16 gl18 gl20 gx21 gx1 gb2 2 1 else m14_quirref_Log_Reset_K6 gx12 gl14 gl16 gl18 gl20 gx21 gx1 gb2 a0_at a0_seq
def m14_quirref_Log_Reset_K4 (a0_from : Int) (a1 : (List UInt8)) (a0_at : Int) (a0_seq : Int) (gx1 : Int) (gb2 : Bool) (gl4 : (List (List UInt8))) (gl6 : (List (List UInt8))) (gl8 : (List Int)) (gl10 : (List (List UInt8))) (gx11 : Int) : Option ((List (List UInt8)) × (List (List UInt8)) × (List Int) × (List (List UInt8)) × Int × Int × Int × Int × Bool × Int) :=
  bind1 (i64 (a0_from + 1)) fun x57 => bind1 (m35_quirref_recordSectors gx1 0 a1) fun l58 => bind1 (idx l58 0) fun x61 => bind5 (m36_quirref_Disk_Write gl4 gl6 gl8 gl10 gx11 x57 x61) fun l62 l63 l64 x65 x66 => if x66 = 0 then bind6 (m39_quirref_Disk_Flush l62 gl6 l63 l64 x65) fun l74 l75 l76 l77 x78 x79 => m14_quirref_Log_Reset_K5 gx1 gb2 a0_at a0_seq x79 l74 l75 l76 l77 x78 else m14_quirref_Log_Reset_K5 gx1 gb2 a0_at a0_seq x66 l62 gl6 l63 l64 x65
def m14_quirref_Log_Reset_K3 (a0_d_Seen : (List (List UInt8))) (a0_d_Safe : (List (List UInt8))) (a0_d_late : (List Int)) (a0_d_texts : (List (List UInt8))) (a0_d_left : Int) (a0_from : Int) (a0_size : Int) (a0_epoch : Int) (a0_at : Int) (a0_seq : Int) (a0_fell : Bool) (a1 : (List UInt8)) : Option ((List (List UInt8)) × (List (List UInt8)) × (List Int) × (List (List UInt8)) × Int × Int × Int × Int × Bool × Int) :=
  bind8 (m31_quirref_Log_raise a0_d_Seen a0_d_Safe a0_d_late a0_d_texts a0_d_left a0_from a0_size a0_epoch a0_at a0_seq a0_fell) fun l85 l86 l87 l88 x89 x90 b91 x92 => if x92 ≠ 0 then some (l85, l86, l87, l88, x89, x90, a0_at, a0_seq, b91, x92) else m14_quirref_Log_Reset_K4 a0_from a1 a0_at a0_seq x90 b91 l85 l86 l87 l88 x89
def m14_quirref_Log_Reset_K2 (a0_epoch : Int) (a1 : (List UInt8)) (a0_d_Seen : (List (List UInt8))) (a0_d_Safe : (List (List UInt8))) (a0_d_late : (List Int)) (a0_d_texts : (List (List UInt8))) (a0_d_left : Int) (a0_at : Int) (a0_seq : Int) (a0_fell : Bool) (a0_from : Int) (a0_size : Int) : Option ((List (List UInt8)) × (List (List UInt8)) × (List Int) × (List (List UInt8)) × Int × Int × Int × Int × Bool × Int) :=
  bind1 (i64 (a0_epoch + 1)) fun x99 => bind1 (m35_quirref_recordSectors x99 0 a1) fun l100 => if (l100.length : Int) ≠ 1 then some (a0_d_Seen, a0_d_Safe, a0_d_late, a0_d_texts, a0_d_left, a0_epoch, a0_at, a0_seq, a0_fell, 8) else m14_quirref_Log_Reset_K3 a0_d_Seen a0_d_Safe a0_d_late a0_d_texts a0_d_left a0_from a0_size a0_epoch a0_at a0_seq a0_fell a1
def m14_quirref_Log_Reset_K1 (a1 : (List UInt8)) (a0_d_Seen : (List (List UInt8))) (a0_d_Safe : (List (List UInt8))) (a0_d_late : (List Int)) (a0_d_texts : (List (List UInt8))) (a0_d_left : Int) (a0_epoch : Int) (a0_at : Int) (a0_seq : Int) (a0_fell : Bool) (a0_from : Int) (a0_size : Int) : Option ((List (List UInt8)) × (List (List UInt8)) × (List Int) × (List (List UInt8)) × Int × Int × Int × Int × Bool × Int) :=
  if 300 < (a1.length : Int) then some (a0_d_Seen, a0_d_Safe, a0_d_late, a0_d_texts, a0_d_left, a0_epoch, a0_at, a0_seq, a0_fell, 2) else m14_quirref_Log_Reset_K2 a0_epoch a1 a0_d_Seen a0_d_Safe a0_d_late a0_d_texts a0_d_left a0_at a0_seq a0_fell a0_from a0_size
def m14_quirref_Log_Reset (a0_d_Seen : (List (List UInt8))) (a0_d_Safe : (List (List UInt8))) (a0_d_late : (List Int)) (a0_d_texts : (List (List UInt8))) (a0_d_left : Int) (a0_from : Int) (a0_size : Int) (a0_epoch : Int) (a0_at : Int) (a0_seq : Int) (a0_fell : Bool) (a1 : (List UInt8)) : Option ((List (List UInt8)) × (List (List UInt8)) × (List Int) × (List (List UInt8)) × Int × Int × Int × Int × Bool × Int) :=
  if a0_fell = true then some (a0_d_Seen, a0_d_Safe, a0_d_late, a0_d_texts, a0_d_left, a0_epoch, a0_at, a0_seq, a0_fell, 10) else m14_quirref_Log_Reset_K1 a1 a0_d_Seen a0_d_Safe a0_d_late a0_d_texts a0_d_left a0_epoch a0_at a0_seq a0_fell a0_from a0_size
def m15_sect_Disk_Crash_K1 (a0_seen : (List (List UInt8))) (gl1 : (List (List UInt8))) : Option ((List (List UInt8)) × (List (List UInt8)) × (List Twrite) × Int) :=
  some (gl1, (cpy a0_seen gl1), [], (-1))
def m15_sect_Disk_Crash_L1B (go1 : Int → (List (List UInt8)) → Option ((List (List UInt8)) × (List (List UInt8)) × (List Twrite) × Int)) (a0_late : (List Twrite)) (a1 : (List Bool)) (a0_seen : (List (List UInt8))) (gx2 : Int) (gl3 : (List (List UInt8))) : Option ((List (List UInt8)) × (List (List UInt8)) × (List Twrite) × Int) :=
  if gx2 < (a0_late.length : Int) then bind1 (idx a0_late gx2) fun x2 => if gx2 < (a1.length : Int) then bind1 (idx a1 gx2) fun x5 => if x5 = true then bind1 (idx gl3 x2.at_) fun x9 => bind1 (upd gl3 x2.at_ x2.text_) fun l10 => bind1 (i64 (gx2 + 1)) fun x11 => go1 x11 l10 else bind1 (i64 (gx2 + 1)) fun x12 => go1 x12 gl3 else bind1 (i64 (gx2 + 1)) fun x13 => go1 x13 gl3 else m15_sect_Disk_Crash_K1 a0_seen gl3
def m15_sect_Disk_Crash_L1 (a0_late : (List Twrite)) (a1 : (List Bool)) (a0_seen : (List (List UInt8))) : Nat → Int → (List (List UInt8)) → Option ((List (List UInt8)) × (List (List UInt8)) × (List Twrite) × Int)
  | 0, _, _ => none
  | n + 1, gx2, gl3 => m15_sect_Disk_Crash_L1B (m15_sect_Disk_Crash_L1 a0_late a1 a0_seen n) a0_late a1 a0_seen gx2 gl3
def m15_sect_Disk_Crash (a0_safe : (List (List UInt8))) (a0_seen : (List (List UInt8))) (a0_late : (List Twrite)) (a0_left : Int) (a1 : (List Bool)) : Option ((List (List UInt8)) × (List (List UInt8)) × (List Twrite) × Int) :=
  m15_sect_Disk_Crash_L1 a0_late a1 a0_seen big 0 a0_safe
def m16_quirref_Disk_Crash_K1 (gl1 : (List (List UInt8))) : Option ((List (List UInt8)) × (List (List UInt8)) × (List Int) × (List (List UInt8)) × Int) :=
  bind1 (m40_slices_Clone_string gl1) fun l1 => some (l1, gl1, [], [], (-1))
def m16_quirref_Disk_Crash_L1B (go1 : Int → (List (List UInt8)) → Option ((List (List UInt8)) × (List (List UInt8)) × (List Int) × (List (List UInt8)) × Int)) (a0_late : (List Int)) (a1 : (List Bool)) (a0_texts : (List (List UInt8))) (gx2 : Int) (gl3 : (List (List UInt8))) : Option ((List (List UInt8)) × (List (List UInt8)) × (List Int) × (List (List UInt8)) × Int) :=
  if gx2 < (a0_late.length : Int) then bind1 (idx a0_late gx2) fun x5 => if gx2 < (a1.length : Int) then bind1 (idx a1 gx2) fun x7 => if x7 = true then bind1 (idx a0_texts gx2) fun x12 => bind1 (idx gl3 x5) fun x13 => bind1 (upd gl3 x5 x12) fun l14 => bind1 (i64 (gx2 + 1)) fun x15 => go1 x15 l14 else bind1 (i64 (gx2 + 1)) fun x16 => go1 x16 gl3 else bind1 (i64 (gx2 + 1)) fun x17 => go1 x17 gl3 else m16_quirref_Disk_Crash_K1 gl3
def m16_quirref_Disk_Crash_L1 (a0_late : (List Int)) (a1 : (List Bool)) (a0_texts : (List (List UInt8))) : Nat → Int → (List (List UInt8)) → Option ((List (List UInt8)) × (List (List UInt8)) × (List Int) × (List (List UInt8)) × Int)
  | 0, _, _ => none
  | n + 1, gx2, gl3 => m16_quirref_Disk_Crash_L1B (m16_quirref_Disk_Crash_L1 a0_late a1 a0_texts n) a0_late a1 a0_texts gx2 gl3
def m16_quirref_Disk_Crash (a0_Seen : (List (List UInt8))) (a0_Safe : (List (List UInt8))) (a0_late : (List Int)) (a0_texts : (List (List UInt8))) (a0_left : Int) (a1 : (List Bool)) : Option ((List (List UInt8)) × (List (List UInt8)) × (List Int) × (List (List UInt8)) × Int) :=
  m16_quirref_Disk_Crash_L1 a0_late a1 a0_texts big 0 a0_Safe
def m41_quirref_Disk_Read_K1 (a0_left : Int) (a0_Seen : (List (List UInt8))) (a1 : Int) : Option ((List UInt8) × Int) :=
  if a0_left = 0 then some ([], 13) else bind1 (idx a0_Seen a1) fun x2 => some (x2, 0)
def m41_quirref_Disk_Read (a0_Seen : (List (List UInt8))) (a0_Safe : (List (List UInt8))) (a0_late : (List Int)) (a0_texts : (List (List UInt8))) (a0_left : Int) (a1 : Int) : Option ((List UInt8) × Int) :=
  if a1 < 0 then some ([], 1) else if (a0_Seen.length : Int) ≤ a1 then some ([], 1) else m41_quirref_Disk_Read_K1 a0_left a0_Seen a1
def m3_quirlaw_WalPlays_K1 (a0 : Int) : Option Bool :=
  if (1 : Int) ≠ 0 then if (1 : Int) = 1 then if a0 < 1 then some true else some (decide (256 < a0)) else none else none
def m3_quirlaw_WalPlays_K5 : Option Bool :=
  none
def m3_quirlaw_WalPlays_K4 (p22 : ((List (List UInt8)) × (List (List UInt8)) × (List Int) × (List (List UInt8)) × Int × (List (List UInt8)) × Int)) : Option Bool :=
  if p22.2.2.2.2.2.2 ≠ 0 then some true else m3_quirlaw_WalPlays_K5
def m3_quirlaw_WalPlays_K7 : Option Bool :=
  none
def m3_quirlaw_WalPlays_K6 (p24 : ((List (List UInt8)) × (List (List UInt8)) × (List Int) × (List (List UInt8)) × Int × (List (List UInt8)) × Int × Int × Int × Int × Int × Int × Bool)) : Option Bool :=
  if p24.2.2.2.2.2.2.1 ≠ 0 then some true else m3_quirlaw_WalPlays_K7
def m3_quirlaw_WalPlays_K9 : Option Bool :=
  none
def m3_quirlaw_WalPlays_K8 (p55 : ((List (List UInt8)) × (List (List UInt8)) × (List Int) × (List (List UInt8)) × Int × (List (List UInt8)) × Int)) : Option Bool :=
  if p55.2.2.2.2.2.2 ≠ 0 then some false else m3_quirlaw_WalPlays_K9
def m3_quirlaw_WalPlays_K14 : Option Bool :=
  some true
def m3_quirlaw_WalPlays_L1B (go1 : Int → Option Bool) (gl19 : (List (List UInt8))) (gl28 : (List (List UInt8))) (gl30 : (List (List UInt8))) (gl32 : (List Twrite)) (gx34 : Int) : Option Bool :=
  if gx34 < (gl19.length : Int) then bind1 (idx gl19 gx34) fun x75 => bind2 (m21_sect_Disk_Read gl28 gl30 gl32 (max (-1) (-1)) gx34) fun s76 x77 => if x77 ≠ 0 then some false else if s76 ≠ x75 then some false else bind1 (i64 (gx34 + 1)) fun x81 => go1 x81 else m3_quirlaw_WalPlays_K14
def m3_quirlaw_WalPlays_L1 (gl19 : (List (List UInt8))) (gl28 : (List (List UInt8))) (gl30 : (List (List UInt8))) (gl32 : (List Twrite)) : Nat → Int → Option Bool
  | 0, _ => none
  | n + 1, gx34 => m3_quirlaw_WalPlays_L1B (m3_quirlaw_WalPlays_L1 gl19 gl28 gl30 gl32 n) gl19 gl28 gl30 gl32 gx34
def m3_quirlaw_WalPlays_K13 (gl19 : (List (List UInt8))) (gl28 : (List (List UInt8))) (gl30 : (List (List UInt8))) (gl32 : (List Twrite)) : Option Bool :=
  m3_quirlaw_WalPlays_L1 gl19 gl28 gl30 gl32 big 0
def m3_quirlaw_WalPlays_K12 (gl19 : (List (List UInt8))) (gl21 : (List (List UInt8))) (gl23 : (List Int)) (gl25 : (List (List UInt8))) (gx26 : Int) (gl28 : (List (List UInt8))) (gl30 : (List (List UInt8))) (gl32 : (List Twrite)) (gx33 : Int) : Option Bool :=
  m3_quirlaw_WalPlays_K13 gl19 gl28 gl30 gl32
def m3_quirlaw_WalPlays_K21 (gx87 : Int) (gx49 : Int) (go2 : Int → Int → Int → Int → Int → Bool → Int → Int → Int → Int → Int → Bool → Int → (List (List UInt8)) → (List (List UInt8)) → (List Int) → (List (List UInt8)) → Int → (List (List UInt8)) → (List (List UInt8)) → (List Twrite) → Int → Option Bool) (gx36 : Int) (gx37 : Int) (gx38 : Int) (gx39 : Int) (gx40 : Int) (gb41 : Bool) (gx43 : Int) (gx44 : Int) (gx45 : Int) (gx46 : Int) (gx47 : Int) (gb48 : Bool) (gl72 : (List (List UInt8))) (gl74 : (List (List UInt8))) (gl76 : (List Int)) (gl78 : (List (List UInt8))) (gx79 : Int) (gl81 : (List (List UInt8))) (gl83 : (List (List UInt8))) (gl85 : (List Twrite)) (gx86 : Int) (gx88 : Int) : Option Bool :=
  if gx87 ≠ gx88 then some false else bind1 (i64 (gx49 + 1)) fun x86 => go2 gx36 gx37 gx38 gx39 gx40 gb41 gx43 gx44 gx45 gx46 gx47 gb48 x86 gl72 gl74 gl76 gl78 gx79 gl81 gl83 gl85 gx86
def m3_quirlaw_WalPlays_K20 (gx44 : Int) (gx46 : Int) (gx49 : Int) (go2 : Int → Int → Int → Int → Int → Bool → Int → Int → Int → Int → Int → Bool → Int → (List (List UInt8)) → (List (List UInt8)) → (List Int) → (List (List UInt8)) → Int → (List (List UInt8)) → (List (List UInt8)) → (List Twrite) → Int → Option Bool) (gx36 : Int) (gx37 : Int) (gx38 : Int) (gx39 : Int) (gx40 : Int) (gb41 : Bool) (gx43 : Int) (gx45 : Int) (gx47 : Int) (gb48 : Bool) (gl72 : (List (List UInt8))) (gl74 : (List (List UInt8))) (gl76 : (List Int)) (gl78 : (List (List UInt8))) (gx79 : Int) (gl81 : (List (List UInt8))) (gl83 : (List (List UInt8))) (gl85 : (List Twrite)) (gx86 : Int) (gx87 : Int) : Option Bool :=
  bind1 (i64 (gx44 - gx46)) fun x87 => m3_quirlaw_WalPlays_K21 gx87 gx49 go2 gx36 gx37 gx38 gx39 gx40 gb41 gx43 gx44 gx45 gx46 gx47 gb48 gl72 gl74 gl76 gl78 gx79 gl81 gl83 gl85 gx86 x87
def m3_quirlaw_WalPlays_K19 (gx37 : Int) (gx39 : Int) (gx44 : Int) (gx46 : Int) (gx49 : Int) (go2 : Int → Int → Int → Int → Int → Bool → Int → Int → Int → Int → Int → Bool → Int → (List (List UInt8)) → (List (List UInt8)) → (List Int) → (List (List UInt8)) → Int → (List (List UInt8)) → (List (List UInt8)) → (List Twrite) → Int → Option Bool) (gx36 : Int) (gx38 : Int) (gx40 : Int) (gb41 : Bool) (gx43 : Int) (gx45 : Int) (gx47 : Int) (gb48 : Bool) (gb70 : Bool) (gl72 : (List (List UInt8))) (gl74 : (List (List UInt8))) (gl76 : (List Int)) (gl78 : (List (List UInt8))) (gx79 : Int) (gl81 : (List (List UInt8))) (gl83 : (List (List UInt8))) (gl85 : (List Twrite)) (gx86 : Int) : Option Bool :=
  if gb70 = true then bind1 (i64 (gx37 - gx39)) fun x88 => m3_quirlaw_WalPlays_K20 gx44 gx46 gx49 go2 gx36 gx37 gx38 gx39 gx40 gb41 gx43 gx45 gx47 gb48 gl72 gl74 gl76 gl78 gx79 gl81 gl83 gl85 gx86 x88 else some false
def m3_quirlaw_WalPlays_K25 (gx37 : Int) (gx39 : Int) (gx44 : Int) (gx46 : Int) (gx49 : Int) (go2 : Int → Int → Int → Int → Int → Bool → Int → Int → Int → Int → Int → Bool → Int → (List (List UInt8)) → (List (List UInt8)) → (List Int) → (List (List UInt8)) → Int → (List (List UInt8)) → (List (List UInt8)) → (List Twrite) → Int → Option Bool) (gx36 : Int) (gx38 : Int) (gx40 : Int) (gb41 : Bool) (gx43 : Int) (gx45 : Int) (gx47 : Int) (gb48 : Bool) (gl51 : (List (List UInt8))) (gl53 : (List (List UInt8))) (gl55 : (List Int)) (gl57 : (List (List UInt8))) (gl60 : (List (List UInt8))) (gl62 : (List (List UInt8))) (gl64 : (List Twrite)) (x83 : TDeed) (gx91 : Int) : Option Bool :=
  m3_quirlaw_WalPlays_K19 gx37 gx39 gx44 gx46 gx49 go2 gx36 gx38 gx40 gb41 gx43 gx45 gx47 gb48 true gl51 gl53 gl55 gl57 gx91 gl60 gl62 gl64 (max x83.N (-1))
def m3_quirlaw_WalPlays_K24 (x83 : TDeed) (gx37 : Int) (gx39 : Int) (gx44 : Int) (gx46 : Int) (gx49 : Int) (go2 : Int → Int → Int → Int → Int → Bool → Int → Int → Int → Int → Int → Bool → Int → (List (List UInt8)) → (List (List UInt8)) → (List Int) → (List (List UInt8)) → Int → (List (List UInt8)) → (List (List UInt8)) → (List Twrite) → Int → Option Bool) (gx36 : Int) (gx38 : Int) (gx40 : Int) (gb41 : Bool) (gx43 : Int) (gx45 : Int) (gx47 : Int) (gb48 : Bool) (gl51 : (List (List UInt8))) (gl53 : (List (List UInt8))) (gl55 : (List Int)) (gl57 : (List (List UInt8))) (gl60 : (List (List UInt8))) (gl62 : (List (List UInt8))) (gl64 : (List Twrite)) : Option Bool :=
  if x83.N < 0 then m3_quirlaw_WalPlays_K25 gx37 gx39 gx44 gx46 gx49 go2 gx36 gx38 gx40 gb41 gx43 gx45 gx47 gb48 gl51 gl53 gl55 gl57 gl60 gl62 gl64 x83 (-1) else m3_quirlaw_WalPlays_K25 gx37 gx39 gx44 gx46 gx49 go2 gx36 gx38 gx40 gb41 gx43 gx45 gx47 gb48 gl51 gl53 gl55 gl57 gl60 gl62 gl64 x83 x83.N
def m3_quirlaw_WalPlays_K23 (gl60 : (List (List UInt8))) (gl62 : (List (List UInt8))) (gl64 : (List Twrite)) (gx65 : Int) (x83 : TDeed) (gl51 : (List (List UInt8))) (gl53 : (List (List UInt8))) (gl55 : (List Int)) (gl57 : (List (List UInt8))) (gx58 : Int) (gx37 : Int) (gx39 : Int) (gx44 : Int) (gx46 : Int) (gx49 : Int) (go2 : Int → Int → Int → Int → Int → Bool → Int → Int → Int → Int → Int → Bool → Int → (List (List UInt8)) → (List (List UInt8)) → (List Int) → (List (List UInt8)) → Int → (List (List UInt8)) → (List (List UInt8)) → (List Twrite) → Int → Option Bool) (gx36 : Int) (gx38 : Int) (gx40 : Int) (gb41 : Bool) (gx43 : Int) (gx45 : Int) (gx47 : Int) (gb48 : Bool) (gb90 : Bool) : Option Bool :=
  if gb90 = true then bind2 (m21_sect_Disk_Read gl60 gl62 gl64 gx65 x83.N) fun s131 x132 => bind2 (m41_quirref_Disk_Read gl51 gl53 gl55 gl57 gx58 x83.N) fun s134 x135 => if s131 = s134 then m3_quirlaw_WalPlays_K19 gx37 gx39 gx44 gx46 gx49 go2 gx36 gx38 gx40 gb41 gx43 gx45 gx47 gb48 (decide (x132 = x135)) gl51 gl53 gl55 gl57 gx58 gl60 gl62 gl64 gx65 else m3_quirlaw_WalPlays_K19 gx37 gx39 gx44 gx46 gx49 go2 gx36 gx38 gx40 gb41 gx43 gx45 gx47 gb48 false gl51 gl53 gl55 gl57 gx58 gl60 gl62 gl64 gx65 else if x83.Kind = 2 then bind5 (m38_sect_Disk_Flush gl60 gl62 gl64 gx65) fun l91 l92 l93 x94 x95 => bind6 (m39_quirref_Disk_Flush gl51 gl53 gl55 gl57 gx58) fun l100 l101 l102 l103 x104 x105 => m3_quirlaw_WalPlays_K19 gx37 gx39 gx44 gx46 gx49 go2 gx36 gx38 gx40 gb41 gx43 gx45 gx47 gb48 (decide (x95 = x105)) l100 l101 l102 l103 x104 l91 l92 l93 x94 else if x83.Kind = 3 then m3_quirlaw_WalPlays_K24 x83 gx37 gx39 gx44 gx46 gx49 go2 gx36 gx38 gx40 gb41 gx43 gx45 gx47 gb48 gl51 gl53 gl55 gl57 gl60 gl62 gl64 else bind4 (m15_sect_Disk_Crash gl60 gl62 gl64 gx65 x83.Keep) fun l113 l114 l115 x116 => bind5 (m16_quirref_Disk_Crash gl51 gl53 gl55 gl57 gx58 x83.Keep) fun l121 l122 l123 l124 x125 => m3_quirlaw_WalPlays_K19 gx37 gx39 gx44 gx46 gx49 go2 gx36 gx38 gx40 gb41 gx43 gx45 gx47 gb48 true l121 l122 l123 l124 x125 l113 l114 l115 x116
def m3_quirlaw_WalPlays_K22 (gl60 : (List (List UInt8))) (gl62 : (List (List UInt8))) (gl64 : (List Twrite)) (gx65 : Int) (x83 : TDeed) (gl51 : (List (List UInt8))) (gl53 : (List (List UInt8))) (gl55 : (List Int)) (gl57 : (List (List UInt8))) (gx58 : Int) (gx37 : Int) (gx39 : Int) (gx44 : Int) (gx46 : Int) (gx49 : Int) (go2 : Int → Int → Int → Int → Int → Bool → Int → Int → Int → Int → Int → Bool → Int → (List (List UInt8)) → (List (List UInt8)) → (List Int) → (List (List UInt8)) → Int → (List (List UInt8)) → (List (List UInt8)) → (List Twrite) → Int → Option Bool) (gx36 : Int) (gx38 : Int) (gx40 : Int) (gb41 : Bool) (gx43 : Int) (gx45 : Int) (gx47 : Int) (gb48 : Bool) (gb89 : Bool) : Option Bool :=
  if gb89 = true then bind4 (m33_sect_Disk_Write gl60 gl62 gl64 gx65 x83.N x83.Text) fun l224 l225 x226 x227 => bind5 (m36_quirref_Disk_Write gl51 gl53 gl55 gl57 gx58 x83.N x83.Text) fun l231 l232 l233 x234 x235 => m3_quirlaw_WalPlays_K19 gx37 gx39 gx44 gx46 gx49 go2 gx36 gx38 gx40 gb41 gx43 gx45 gx47 gb48 (decide (x227 = x235)) l231 gl53 l232 l233 x234 gl60 l224 l225 x226 else if x83.Kind = 1 then m3_quirlaw_WalPlays_K23 gl60 gl62 gl64 gx65 x83 gl51 gl53 gl55 gl57 gx58 gx37 gx39 gx44 gx46 gx49 go2 gx36 gx38 gx40 gb41 gx43 gx45 gx47 gb48 true else m3_quirlaw_WalPlays_K23 gl60 gl62 gl64 gx65 x83 gl51 gl53 gl55 gl57 gx58 gx37 gx39 gx44 gx46 gx49 go2 gx36 gx38 gx40 gb41 gx43 gx45 gx47 gb48 false
def m3_quirlaw_WalPlays_K26 (p263 : ((List (List UInt8)) × (List (List UInt8)) × (List Twrite) × Int × (List (List UInt8)) × Int)) (p276 : ((List (List UInt8)) × (List (List UInt8)) × (List Int) × (List (List UInt8)) × Int × (List (List UInt8)) × Int)) : Option Bool :=
  if p263.2.2.2.2.2 = p276.2.2.2.2.2.2 then some false else some false
def m3_quirlaw_WalPlays_K27 (p263 : ((List (List UInt8)) × (List (List UInt8)) × (List Twrite) × Int × (List (List UInt8)) × Int)) (p278 : ((List (List UInt8)) × (List (List UInt8)) × (List Int) × (List (List UInt8)) × Int × (List (List UInt8)) × Int × Int × Int × Int × Int × Int × Bool)) : Option Bool :=
  if p263.2.2.2.2.2 = p278.2.2.2.2.2.2.1 then some false else some false
def m3_quirlaw_WalPlays_K30 (gx93 : Int) : Option Bool :=
  none
def m3_quirlaw_WalPlays_K29 (p265 : ((List (List UInt8)) × (List (List UInt8)) × (List Twrite) × Int × (List (List UInt8)) × Int × Int × Int × Int × Int × Int × Bool)) (gb92 : Bool) : Option Bool :=
  if gb92 = true then bind1 (i64 (p265.2.2.2.2.2.2.2.1 - p265.2.2.2.2.2.2.2.2.2.1)) fun x316 => m3_quirlaw_WalPlays_K30 x316 else some false
def m3_quirlaw_WalPlays_K28 (p265 : ((List (List UInt8)) × (List (List UInt8)) × (List Twrite) × Int × (List (List UInt8)) × Int × Int × Int × Int × Int × Int × Bool)) (p307 : ((List (List UInt8)) × (List (List UInt8)) × (List Int) × (List (List UInt8)) × Int × (List (List UInt8)) × Int)) : Option Bool :=
  if p265.2.2.2.2.2.1 = p307.2.2.2.2.2.2 then bind1 (m8_slices_Equal_string p265.2.2.2.2.1 p307.2.2.2.2.2.1) fun b318 => if b318 = true then m3_quirlaw_WalPlays_K29 p265 true else m3_quirlaw_WalPlays_K29 p265 false else m3_quirlaw_WalPlays_K29 p265 false
def m3_quirlaw_WalPlays_K34 (gx95 : Int) (gx49 : Int) (go2 : Int → Int → Int → Int → Int → Bool → Int → Int → Int → Int → Int → Bool → Int → (List (List UInt8)) → (List (List UInt8)) → (List Int) → (List (List UInt8)) → Int → (List (List UInt8)) → (List (List UInt8)) → (List Twrite) → Int → Option Bool) (p265 : ((List (List UInt8)) × (List (List UInt8)) × (List Twrite) × Int × (List (List UInt8)) × Int × Int × Int × Int × Int × Int × Bool)) (p309 : ((List (List UInt8)) × (List (List UInt8)) × (List Int) × (List (List UInt8)) × Int × (List (List UInt8)) × Int × Int × Int × Int × Int × Int × Bool)) (gx96 : Int) : Option Bool :=
  if gx95 ≠ gx96 then some false else bind1 (i64 (gx49 + 1)) fun x329 => go2 p265.2.2.2.2.2.2.1 p265.2.2.2.2.2.2.2.1 p265.2.2.2.2.2.2.2.2.1 p265.2.2.2.2.2.2.2.2.2.1 p265.2.2.2.2.2.2.2.2.2.2.1 p265.2.2.2.2.2.2.2.2.2.2.2 p309.2.2.2.2.2.2.2.1 p309.2.2.2.2.2.2.2.2.1 p309.2.2.2.2.2.2.2.2.2.1 p309.2.2.2.2.2.2.2.2.2.2.1 p309.2.2.2.2.2.2.2.2.2.2.2.1 p309.2.2.2.2.2.2.2.2.2.2.2.2 x329 p309.1 p309.2.1 p309.2.2.1 p309.2.2.2.1 p309.2.2.2.2.1 p265.1 p265.2.1 p265.2.2.1 p265.2.2.2.1
def m3_quirlaw_WalPlays_K33 (p309 : ((List (List UInt8)) × (List (List UInt8)) × (List Int) × (List (List UInt8)) × Int × (List (List UInt8)) × Int × Int × Int × Int × Int × Int × Bool)) (gx49 : Int) (go2 : Int → Int → Int → Int → Int → Bool → Int → Int → Int → Int → Int → Bool → Int → (List (List UInt8)) → (List (List UInt8)) → (List Int) → (List (List UInt8)) → Int → (List (List UInt8)) → (List (List UInt8)) → (List Twrite) → Int → Option Bool) (p265 : ((List (List UInt8)) × (List (List UInt8)) × (List Twrite) × Int × (List (List UInt8)) × Int × Int × Int × Int × Int × Int × Bool)) (gx95 : Int) : Option Bool :=
  bind1 (i64 (p309.2.2.2.2.2.2.2.2.1 - p309.2.2.2.2.2.2.2.2.2.2.1)) fun x330 => m3_quirlaw_WalPlays_K34 gx95 gx49 go2 p265 p309 x330
def m3_quirlaw_WalPlays_K32 (p265 : ((List (List UInt8)) × (List (List UInt8)) × (List Twrite) × Int × (List (List UInt8)) × Int × Int × Int × Int × Int × Int × Bool)) (p309 : ((List (List UInt8)) × (List (List UInt8)) × (List Int) × (List (List UInt8)) × Int × (List (List UInt8)) × Int × Int × Int × Int × Int × Int × Bool)) (gx49 : Int) (go2 : Int → Int → Int → Int → Int → Bool → Int → Int → Int → Int → Int → Bool → Int → (List (List UInt8)) → (List (List UInt8)) → (List Int) → (List (List UInt8)) → Int → (List (List UInt8)) → (List (List UInt8)) → (List Twrite) → Int → Option Bool) (gb94 : Bool) : Option Bool :=
  if gb94 = true then bind1 (i64 (p265.2.2.2.2.2.2.2.1 - p265.2.2.2.2.2.2.2.2.2.1)) fun x331 => m3_quirlaw_WalPlays_K33 p309 gx49 go2 p265 x331 else some false
def m3_quirlaw_WalPlays_K31 (p265 : ((List (List UInt8)) × (List (List UInt8)) × (List Twrite) × Int × (List (List UInt8)) × Int × Int × Int × Int × Int × Int × Bool)) (p309 : ((List (List UInt8)) × (List (List UInt8)) × (List Int) × (List (List UInt8)) × Int × (List (List UInt8)) × Int × Int × Int × Int × Int × Int × Bool)) (gx49 : Int) (go2 : Int → Int → Int → Int → Int → Bool → Int → Int → Int → Int → Int → Bool → Int → (List (List UInt8)) → (List (List UInt8)) → (List Int) → (List (List UInt8)) → Int → (List (List UInt8)) → (List (List UInt8)) → (List Twrite) → Int → Option Bool) : Option Bool :=
  if p265.2.2.2.2.2.1 = p309.2.2.2.2.2.2.1 then bind1 (m8_slices_Equal_string p265.2.2.2.2.1 p309.2.2.2.2.2.1) fun b333 => if b333 = true then m3_quirlaw_WalPlays_K32 p265 p309 gx49 go2 true else m3_quirlaw_WalPlays_K32 p265 p309 gx49 go2 false else m3_quirlaw_WalPlays_K32 p265 p309 gx49 go2 false
def m3_quirlaw_WalPlays_K18 (gl60 : (List (List UInt8))) (gl62 : (List (List UInt8))) (gl64 : (List Twrite)) (gx65 : Int) (x83 : TDeed) (gl51 : (List (List UInt8))) (gl53 : (List (List UInt8))) (gl55 : (List Int)) (gl57 : (List (List UInt8))) (gx58 : Int) (a1 : Int) (a2 : Int) (gx49 : Int) (go2 : Int → Int → Int → Int → Int → Bool → Int → Int → Int → Int → Int → Bool → Int → (List (List UInt8)) → (List (List UInt8)) → (List Int) → (List (List UInt8)) → Int → (List (List UInt8)) → (List (List UInt8)) → (List Twrite) → Int → Option Bool) (gx37 : Int) (gx39 : Int) (gx44 : Int) (gx46 : Int) (gx36 : Int) (gx38 : Int) (gx40 : Int) (gb41 : Bool) (gx43 : Int) (gx45 : Int) (gx47 : Int) (gb48 : Bool) (gb69 : Bool) : Option Bool :=
  if gb69 = true then bind4 (m15_sect_Disk_Crash gl60 gl62 gl64 gx65 x83.Keep) fun l241 l242 l243 x244 => bind5 (m16_quirref_Disk_Crash gl51 gl53 gl55 gl57 gx58 x83.Keep) fun l249 l250 l251 l252 x253 => bindE (m6_wal_Open l241 l242 l243 x244 a1 a2) (fun p263 => bindE (m7_quirref_OpenLog l249 l250 l251 l252 x253 a1 a2) (fun p276 => if p276.2.2.2.2.2.2 ≠ 0 then if p263.2.2.2.2.2 = p276.2.2.2.2.2.2 then some (decide ((p263.2.2.2.2.1.length : Int) = 0)) else some false else m3_quirlaw_WalPlays_K26 p263 p276) fun p278 => if p278.2.2.2.2.2.2.1 ≠ 0 then if p263.2.2.2.2.2 = p278.2.2.2.2.2.2.1 then some (decide ((p263.2.2.2.2.1.length : Int) = 0)) else some false else m3_quirlaw_WalPlays_K27 p263 p278) fun p265 => bindE (m7_quirref_OpenLog l249 l250 l251 l252 x253 a1 a2) (fun p307 => if p307.2.2.2.2.2.2 ≠ 0 then if p265.2.2.2.2.2.1 = p307.2.2.2.2.2.2 then some false else some false else m3_quirlaw_WalPlays_K28 p265 p307) fun p309 => if p309.2.2.2.2.2.2.1 ≠ 0 then if p265.2.2.2.2.2.1 = p309.2.2.2.2.2.2.1 then some false else some false else m3_quirlaw_WalPlays_K31 p265 p309 gx49 go2 else if x83.Kind = 0 then m3_quirlaw_WalPlays_K22 gl60 gl62 gl64 gx65 x83 gl51 gl53 gl55 gl57 gx58 gx37 gx39 gx44 gx46 gx49 go2 gx36 gx38 gx40 gb41 gx43 gx45 gx47 gb48 true else m3_quirlaw_WalPlays_K22 gl60 gl62 gl64 gx65 x83 gl51 gl53 gl55 gl57 gx58 gx37 gx39 gx44 gx46 gx49 go2 gx36 gx38 gx40 gb41 gx43 gx45 gx47 gb48 false
def m3_quirlaw_WalPlays_K36 (gx97 : Int) (gx49 : Int) (go2 : Int → Int → Int → Int → Int → Bool → Int → Int → Int → Int → Int → Bool → Int → (List (List UInt8)) → (List (List UInt8)) → (List Int) → (List (List UInt8)) → Int → (List (List UInt8)) → (List (List UInt8)) → (List Twrite) → Int → Option Bool) (gx36 : Int) (gx37 : Int) (x576 : Int) (x577 : Int) (x578 : Int) (b579 : Bool) (gx43 : Int) (gx44 : Int) (x590 : Int) (x591 : Int) (x592 : Int) (b593 : Bool) (l585 : (List (List UInt8))) (l586 : (List (List UInt8))) (l587 : (List Int)) (l588 : (List (List UInt8))) (x589 : Int) (l572 : (List (List UInt8))) (l573 : (List (List UInt8))) (l574 : (List Twrite)) (x575 : Int) (gx98 : Int) : Option Bool :=
  if gx97 ≠ gx98 then some false else bind1 (i64 (gx49 + 1)) fun x602 => go2 gx36 gx37 x576 x577 x578 b579 gx43 gx44 x590 x591 x592 b593 x602 l585 l586 l587 l588 x589 l572 l573 l574 x575
def m3_quirlaw_WalPlays_K35 (gx44 : Int) (x591 : Int) (gx49 : Int) (go2 : Int → Int → Int → Int → Int → Bool → Int → Int → Int → Int → Int → Bool → Int → (List (List UInt8)) → (List (List UInt8)) → (List Int) → (List (List UInt8)) → Int → (List (List UInt8)) → (List (List UInt8)) → (List Twrite) → Int → Option Bool) (gx36 : Int) (gx37 : Int) (x576 : Int) (x577 : Int) (x578 : Int) (b579 : Bool) (gx43 : Int) (x590 : Int) (x592 : Int) (b593 : Bool) (l585 : (List (List UInt8))) (l586 : (List (List UInt8))) (l587 : (List Int)) (l588 : (List (List UInt8))) (x589 : Int) (l572 : (List (List UInt8))) (l573 : (List (List UInt8))) (l574 : (List Twrite)) (x575 : Int) (gx97 : Int) : Option Bool :=
  bind1 (i64 (gx44 - x591)) fun x603 => m3_quirlaw_WalPlays_K36 gx97 gx49 go2 gx36 gx37 x576 x577 x578 b579 gx43 gx44 x590 x591 x592 b593 l585 l586 l587 l588 x589 l572 l573 l574 x575 x603
def m3_quirlaw_WalPlays_K17 (gl60 : (List (List UInt8))) (gl62 : (List (List UInt8))) (gl64 : (List Twrite)) (gx65 : Int) (gx36 : Int) (gx37 : Int) (gx38 : Int) (gx39 : Int) (gx40 : Int) (gb41 : Bool) (x83 : TDeed) (gl51 : (List (List UInt8))) (gl53 : (List (List UInt8))) (gl55 : (List Int)) (gl57 : (List (List UInt8))) (gx58 : Int) (gx43 : Int) (gx44 : Int) (gx45 : Int) (gx46 : Int) (gx47 : Int) (gb48 : Bool) (gx49 : Int) (go2 : Int → Int → Int → Int → Int → Bool → Int → Int → Int → Int → Int → Bool → Int → (List (List UInt8)) → (List (List UInt8)) → (List Int) → (List (List UInt8)) → Int → (List (List UInt8)) → (List (List UInt8)) → (List Twrite) → Int → Option Bool) (a1 : Int) (a2 : Int) (gb68 : Bool) : Option Bool :=
  if gb68 = true then bind9 (m13_wal_Log_Reset gl60 gl62 gl64 gx65 gx36 gx37 gx38 gx39 gx40 gb41 x83.Text) fun l572 l573 l574 x575 x576 x577 x578 b579 x580 => bind10 (m14_quirref_Log_Reset gl51 gl53 gl55 gl57 gx58 gx43 gx44 gx45 gx46 gx47 gb48 x83.Text) fun l585 l586 l587 l588 x589 x590 x591 x592 b593 x594 => if x580 = x594 then bind1 (i64 (gx37 - x577)) fun x604 => m3_quirlaw_WalPlays_K35 gx44 x591 gx49 go2 gx36 gx37 x576 x577 x578 b579 gx43 x590 x592 b593 l585 l586 l587 l588 x589 l572 l573 l574 x575 x604 else some false else if x83.Kind = 4 then m3_quirlaw_WalPlays_K18 gl60 gl62 gl64 gx65 x83 gl51 gl53 gl55 gl57 gx58 a1 a2 gx49 go2 gx37 gx39 gx44 gx46 gx36 gx38 gx40 gb41 gx43 gx45 gx47 gb48 true else if x83.Kind = 10 then m3_quirlaw_WalPlays_K18 gl60 gl62 gl64 gx65 x83 gl51 gl53 gl55 gl57 gx58 a1 a2 gx49 go2 gx37 gx39 gx44 gx46 gx36 gx38 gx40 gb41 gx43 gx45 gx47 gb48 true else m3_quirlaw_WalPlays_K18 gl60 gl62 gl64 gx65 x83 gl51 gl53 gl55 gl57 gx58 a1 a2 gx49 go2 gx37 gx39 gx44 gx46 gx36 gx38 gx40 gb41 gx43 gx45 gx47 gb48 false
def m3_quirlaw_WalPlays_K38 (gx99 : Int) (gx49 : Int) (go2 : Int → Int → Int → Int → Int → Bool → Int → Int → Int → Int → Int → Bool → Int → (List (List UInt8)) → (List (List UInt8)) → (List Int) → (List (List UInt8)) → Int → (List (List UInt8)) → (List (List UInt8)) → (List Twrite) → Int → Option Bool) (gx36 : Int) (gx37 : Int) (gx38 : Int) (gx39 : Int) (gx40 : Int) (b610 : Bool) (gx43 : Int) (gx44 : Int) (gx45 : Int) (gx46 : Int) (gx47 : Int) (b621 : Bool) (l616 : (List (List UInt8))) (l617 : (List (List UInt8))) (l618 : (List Int)) (l619 : (List (List UInt8))) (x620 : Int) (l606 : (List (List UInt8))) (l607 : (List (List UInt8))) (l608 : (List Twrite)) (x609 : Int) (gx100 : Int) : Option Bool :=
  if gx99 ≠ gx100 then some false else bind1 (i64 (gx49 + 1)) fun x630 => go2 gx36 gx37 gx38 gx39 gx40 b610 gx43 gx44 gx45 gx46 gx47 b621 x630 l616 l617 l618 l619 x620 l606 l607 l608 x609
def m3_quirlaw_WalPlays_K37 (gx44 : Int) (gx46 : Int) (gx49 : Int) (go2 : Int → Int → Int → Int → Int → Bool → Int → Int → Int → Int → Int → Bool → Int → (List (List UInt8)) → (List (List UInt8)) → (List Int) → (List (List UInt8)) → Int → (List (List UInt8)) → (List (List UInt8)) → (List Twrite) → Int → Option Bool) (gx36 : Int) (gx37 : Int) (gx38 : Int) (gx39 : Int) (gx40 : Int) (b610 : Bool) (gx43 : Int) (gx45 : Int) (gx47 : Int) (b621 : Bool) (l616 : (List (List UInt8))) (l617 : (List (List UInt8))) (l618 : (List Int)) (l619 : (List (List UInt8))) (x620 : Int) (l606 : (List (List UInt8))) (l607 : (List (List UInt8))) (l608 : (List Twrite)) (x609 : Int) (gx99 : Int) : Option Bool :=
  bind1 (i64 (gx44 - gx46)) fun x631 => m3_quirlaw_WalPlays_K38 gx99 gx49 go2 gx36 gx37 gx38 gx39 gx40 b610 gx43 gx44 gx45 gx46 gx47 b621 l616 l617 l618 l619 x620 l606 l607 l608 x609 x631
def m3_quirlaw_WalPlays_K16 (gl60 : (List (List UInt8))) (gl62 : (List (List UInt8))) (gl64 : (List Twrite)) (gx65 : Int) (gx36 : Int) (gx37 : Int) (gx38 : Int) (gx39 : Int) (gx40 : Int) (gb41 : Bool) (gl51 : (List (List UInt8))) (gl53 : (List (List UInt8))) (gl55 : (List Int)) (gl57 : (List (List UInt8))) (gx58 : Int) (gx43 : Int) (gx44 : Int) (gx45 : Int) (gx46 : Int) (gx47 : Int) (gb48 : Bool) (gx49 : Int) (go2 : Int → Int → Int → Int → Int → Bool → Int → Int → Int → Int → Int → Bool → Int → (List (List UInt8)) → (List (List UInt8)) → (List Int) → (List (List UInt8)) → Int → (List (List UInt8)) → (List (List UInt8)) → (List Twrite) → Int → Option Bool) (x83 : TDeed) (a1 : Int) (a2 : Int) (gb67 : Bool) : Option Bool :=
  if gb67 = true then bind6 (m11_wal_Log_Sync gl60 gl62 gl64 gx65 gx36 gx37 gx38 gx39 gx40 gb41) fun l606 l607 l608 x609 b610 x611 => bind7 (m12_quirref_Log_Sync gl51 gl53 gl55 gl57 gx58 gx43 gx44 gx45 gx46 gx47 gb48) fun l616 l617 l618 l619 x620 b621 x622 => if x611 = x622 then bind1 (i64 (gx37 - gx39)) fun x632 => m3_quirlaw_WalPlays_K37 gx44 gx46 gx49 go2 gx36 gx37 gx38 gx39 gx40 b610 gx43 gx45 gx47 b621 l616 l617 l618 l619 x620 l606 l607 l608 x609 x632 else some false else if x83.Kind = 9 then m3_quirlaw_WalPlays_K17 gl60 gl62 gl64 gx65 gx36 gx37 gx38 gx39 gx40 gb41 x83 gl51 gl53 gl55 gl57 gx58 gx43 gx44 gx45 gx46 gx47 gb48 gx49 go2 a1 a2 true else m3_quirlaw_WalPlays_K17 gl60 gl62 gl64 gx65 gx36 gx37 gx38 gx39 gx40 gb41 x83 gl51 gl53 gl55 gl57 gx58 gx43 gx44 gx45 gx46 gx47 gb48 gx49 go2 a1 a2 false
def m3_quirlaw_WalPlays_K40 (gx101 : Int) (gx49 : Int) (go2 : Int → Int → Int → Int → Int → Bool → Int → Int → Int → Int → Int → Bool → Int → (List (List UInt8)) → (List (List UInt8)) → (List Int) → (List (List UInt8)) → Int → (List (List UInt8)) → (List (List UInt8)) → (List Twrite) → Int → Option Bool) (gx36 : Int) (gx37 : Int) (gx38 : Int) (x854 : Int) (x855 : Int) (b856 : Bool) (gx43 : Int) (gx44 : Int) (gx45 : Int) (x867 : Int) (x868 : Int) (b869 : Bool) (l862 : (List (List UInt8))) (l863 : (List (List UInt8))) (l864 : (List Int)) (l865 : (List (List UInt8))) (x866 : Int) (l850 : (List (List UInt8))) (l851 : (List (List UInt8))) (l852 : (List Twrite)) (x853 : Int) (gx102 : Int) : Option Bool :=
  if gx101 ≠ gx102 then some false else bind1 (i64 (gx49 + 1)) fun x878 => go2 gx36 gx37 gx38 x854 x855 b856 gx43 gx44 gx45 x867 x868 b869 x878 l862 l863 l864 l865 x866 l850 l851 l852 x853
def m3_quirlaw_WalPlays_K39 (gx44 : Int) (x867 : Int) (gx49 : Int) (go2 : Int → Int → Int → Int → Int → Bool → Int → Int → Int → Int → Int → Bool → Int → (List (List UInt8)) → (List (List UInt8)) → (List Int) → (List (List UInt8)) → Int → (List (List UInt8)) → (List (List UInt8)) → (List Twrite) → Int → Option Bool) (gx36 : Int) (gx37 : Int) (gx38 : Int) (x854 : Int) (x855 : Int) (b856 : Bool) (gx43 : Int) (gx45 : Int) (x868 : Int) (b869 : Bool) (l862 : (List (List UInt8))) (l863 : (List (List UInt8))) (l864 : (List Int)) (l865 : (List (List UInt8))) (x866 : Int) (l850 : (List (List UInt8))) (l851 : (List (List UInt8))) (l852 : (List Twrite)) (x853 : Int) (gx101 : Int) : Option Bool :=
  bind1 (i64 (gx44 - x867)) fun x879 => m3_quirlaw_WalPlays_K40 gx101 gx49 go2 gx36 gx37 gx38 x854 x855 b856 gx43 gx44 gx45 x867 x868 b869 l862 l863 l864 l865 x866 l850 l851 l852 x853 x879
def m3_quirlaw_WalPlays_K15 (gl60 : (List (List UInt8))) (gl62 : (List (List UInt8))) (gl64 : (List Twrite)) (gx65 : Int) (gx36 : Int) (gx37 : Int) (gx38 : Int) (gx39 : Int) (gx40 : Int) (gb41 : Bool) (x83 : TDeed) (gl51 : (List (List UInt8))) (gl53 : (List (List UInt8))) (gl55 : (List Int)) (gl57 : (List (List UInt8))) (gx58 : Int) (gx43 : Int) (gx44 : Int) (gx45 : Int) (gx46 : Int) (gx47 : Int) (gb48 : Bool) (gx49 : Int) (go2 : Int → Int → Int → Int → Int → Bool → Int → Int → Int → Int → Int → Bool → Int → (List (List UInt8)) → (List (List UInt8)) → (List Int) → (List (List UInt8)) → Int → (List (List UInt8)) → (List (List UInt8)) → (List Twrite) → Int → Option Bool) (a1 : Int) (a2 : Int) (gb66 : Bool) : Option Bool :=
  if gb66 = true then bind8 (m9_wal_Log_Append gl60 gl62 gl64 gx65 gx36 gx37 gx38 gx39 gx40 gb41 x83.Text) fun l850 l851 l852 x853 x854 x855 b856 x857 => bind9 (m10_quirref_Log_Append gl51 gl53 gl55 gl57 gx58 gx43 gx44 gx45 gx46 gx47 gb48 x83.Text) fun l862 l863 l864 l865 x866 x867 x868 b869 x870 => if x857 = x870 then bind1 (i64 (gx37 - x854)) fun x880 => m3_quirlaw_WalPlays_K39 gx44 x867 gx49 go2 gx36 gx37 gx38 x854 x855 b856 gx43 gx45 x868 b869 l862 l863 l864 l865 x866 l850 l851 l852 x853 x880 else some false else if x83.Kind = 8 then m3_quirlaw_WalPlays_K16 gl60 gl62 gl64 gx65 gx36 gx37 gx38 gx39 gx40 gb41 gl51 gl53 gl55 gl57 gx58 gx43 gx44 gx45 gx46 gx47 gb48 gx49 go2 x83 a1 a2 true else m3_quirlaw_WalPlays_K16 gl60 gl62 gl64 gx65 gx36 gx37 gx38 gx39 gx40 gb41 gl51 gl53 gl55 gl57 gx58 gx43 gx44 gx45 gx46 gx47 gb48 gx49 go2 x83 a1 a2 false
def m3_quirlaw_WalPlays_L2B (go2 : Int → Int → Int → Int → Int → Bool → Int → Int → Int → Int → Int → Bool → Int → (List (List UInt8)) → (List (List UInt8)) → (List Int) → (List (List UInt8)) → Int → (List (List UInt8)) → (List (List UInt8)) → (List Twrite) → Int → Option Bool) (a3 : (List TDeed)) (a1 : Int) (a2 : Int) (gx36 : Int) (gx37 : Int) (gx38 : Int) (gx39 : Int) (gx40 : Int) (gb41 : Bool) (gx43 : Int) (gx44 : Int) (gx45 : Int) (gx46 : Int) (gx47 : Int) (gb48 : Bool) (gx49 : Int) (gl51 : (List (List UInt8))) (gl53 : (List (List UInt8))) (gl55 : (List Int)) (gl57 : (List (List UInt8))) (gx58 : Int) (gl60 : (List (List UInt8))) (gl62 : (List (List UInt8))) (gl64 : (List Twrite)) (gx65 : Int) : Option Bool :=
  if gx49 < (a3.length : Int) then bind1 (idx a3 gx49) fun x83 => if x83.Kind = 5 then m3_quirlaw_WalPlays_K15 gl60 gl62 gl64 gx65 gx36 gx37 gx38 gx39 gx40 gb41 x83 gl51 gl53 gl55 gl57 gx58 gx43 gx44 gx45 gx46 gx47 gb48 gx49 go2 a1 a2 true else if x83.Kind = 6 then m3_quirlaw_WalPlays_K15 gl60 gl62 gl64 gx65 gx36 gx37 gx38 gx39 gx40 gb41 x83 gl51 gl53 gl55 gl57 gx58 gx43 gx44 gx45 gx46 gx47 gb48 gx49 go2 a1 a2 true else if x83.Kind = 7 then m3_quirlaw_WalPlays_K15 gl60 gl62 gl64 gx65 gx36 gx37 gx38 gx39 gx40 gb41 x83 gl51 gl53 gl55 gl57 gx58 gx43 gx44 gx45 gx46 gx47 gb48 gx49 go2 a1 a2 true else m3_quirlaw_WalPlays_K15 gl60 gl62 gl64 gx65 gx36 gx37 gx38 gx39 gx40 gb41 x83 gl51 gl53 gl55 gl57 gx58 gx43 gx44 gx45 gx46 gx47 gb48 gx49 go2 a1 a2 false else m3_quirlaw_WalPlays_K12 gl51 gl53 gl55 gl57 gx58 gl60 gl62 gl64 gx65
def m3_quirlaw_WalPlays_L2 (a3 : (List TDeed)) (a1 : Int) (a2 : Int) : Nat → Int → Int → Int → Int → Int → Bool → Int → Int → Int → Int → Int → Bool → Int → (List (List UInt8)) → (List (List UInt8)) → (List Int) → (List (List UInt8)) → Int → (List (List UInt8)) → (List (List UInt8)) → (List Twrite) → Int → Option Bool
  | 0, _, _, _, _, _, _, _, _, _, _, _, _, _, _, _, _, _, _, _, _, _, _ => none
  | n + 1, gx36, gx37, gx38, gx39, gx40, gb41, gx43, gx44, gx45, gx46, gx47, gb48, gx49, gl51, gl53, gl55, gl57, gx58, gl60, gl62, gl64, gx65 => m3_quirlaw_WalPlays_L2B (m3_quirlaw_WalPlays_L2 a3 a1 a2 n) a3 a1 a2 gx36 gx37 gx38 gx39 gx40 gb41 gx43 gx44 gx45 gx46 gx47 gb48 gx49 gl51 gl53 gl55 gl57 gx58 gl60 gl62 gl64 gx65
def m3_quirlaw_WalPlays_K11 (a3 : (List TDeed)) (a1 : Int) (a2 : Int) (p11 : ((List (List UInt8)) × (List (List UInt8)) × (List Twrite) × Int × (List (List UInt8)) × Int × Int × Int × Int × Int × Int × Bool)) (p57 : ((List (List UInt8)) × (List (List UInt8)) × (List Int) × (List (List UInt8)) × Int × (List (List UInt8)) × Int × Int × Int × Int × Int × Int × Bool)) : Option Bool :=
  m3_quirlaw_WalPlays_L2 a3 a1 a2 big p11.2.2.2.2.2.2.1 p11.2.2.2.2.2.2.2.1 p11.2.2.2.2.2.2.2.2.1 p11.2.2.2.2.2.2.2.2.2.1 p11.2.2.2.2.2.2.2.2.2.2.1 p11.2.2.2.2.2.2.2.2.2.2.2 p57.2.2.2.2.2.2.2.1 p57.2.2.2.2.2.2.2.2.1 p57.2.2.2.2.2.2.2.2.2.1 p57.2.2.2.2.2.2.2.2.2.2.1 p57.2.2.2.2.2.2.2.2.2.2.2.1 p57.2.2.2.2.2.2.2.2.2.2.2.2 0 p57.1 p57.2.1 p57.2.2.1 p57.2.2.2.1 p57.2.2.2.2.1 p11.1 p11.2.1 p11.2.2.1 p11.2.2.2.1
def m3_quirlaw_WalPlays_K10 (p57 : ((List (List UInt8)) × (List (List UInt8)) × (List Int) × (List (List UInt8)) × Int × (List (List UInt8)) × Int × Int × Int × Int × Int × Int × Bool)) (a3 : (List TDeed)) (a1 : Int) (a2 : Int) (p11 : ((List (List UInt8)) × (List (List UInt8)) × (List Twrite) × Int × (List (List UInt8)) × Int × Int × Int × Int × Int × Int × Bool)) : Option Bool :=
  if p57.2.2.2.2.2.2.1 ≠ 0 then some false else m3_quirlaw_WalPlays_K11 a3 a1 a2 p11 p57
def m3_quirlaw_WalPlays_K3 (gl3 : (List (List UInt8))) (gl5 : (List (List UInt8))) (a1 : Int) (a2 : Int) (a3 : (List TDeed)) (gl8 : (List (List UInt8))) (gl10 : (List (List UInt8))) : Option Bool :=
  bindE (m6_wal_Open gl3 gl5 [] (-1) a1 a2) (fun p9 => bindE (m7_quirref_OpenLog gl8 gl10 [] [] (-1) a1 a2) (fun p22 => if p9.2.2.2.2.2 ≠ p22.2.2.2.2.2.2 then some false else bind1 (m8_slices_Equal_string p9.2.2.2.2.1 p22.2.2.2.2.2.1) fun b33 => if b33 = true then m3_quirlaw_WalPlays_K4 p22 else some false) fun p24 => if p9.2.2.2.2.2 ≠ p24.2.2.2.2.2.2.1 then some false else bind1 (m8_slices_Equal_string p9.2.2.2.2.1 p24.2.2.2.2.2.1) fun b43 => if b43 = true then m3_quirlaw_WalPlays_K6 p24 else some false) fun p11 => bindE (m7_quirref_OpenLog gl8 gl10 [] [] (-1) a1 a2) (fun p55 => if p11.2.2.2.2.2.1 ≠ p55.2.2.2.2.2.2 then some false else bind1 (m8_slices_Equal_string p11.2.2.2.2.1 p55.2.2.2.2.2.1) fun b66 => if b66 = true then m3_quirlaw_WalPlays_K8 p55 else some false) fun p57 => if p11.2.2.2.2.2.1 ≠ p57.2.2.2.2.2.2.1 then some false else bind1 (m8_slices_Equal_string p11.2.2.2.2.1 p57.2.2.2.2.2.1) fun b886 => if b886 = true then m3_quirlaw_WalPlays_K10 p57 a3 a1 a2 p11 else some false
def m3_quirlaw_WalPlays_K41 (gl3 : (List (List UInt8))) (gl5 : (List (List UInt8))) (a1 : Int) (a2 : Int) (a3 : (List TDeed)) (gl104 : (List (List UInt8))) (gl106 : (List (List UInt8))) : Option Bool :=
  m3_quirlaw_WalPlays_K3 gl3 gl5 a1 a2 a3 gl104 gl106
def m3_quirlaw_WalPlays_L3B (go3 : Int → (List (List UInt8)) → (List (List UInt8)) → Option Bool) (a0 : Int) (gl3 : (List (List UInt8))) (gl5 : (List (List UInt8))) (a1 : Int) (a2 : Int) (a3 : (List TDeed)) (gx107 : Int) (gl109 : (List (List UInt8))) (gl111 : (List (List UInt8))) : Option Bool :=
  if gx107 < a0 then bind1 (m23_quirref_blank 64) fun s915 => bind1 (app gl109 ([s915])) fun l919 => bind1 (m23_quirref_blank 64) fun s920 => bind1 (app gl111 ([s920])) fun l924 => bind1 (i64 (gx107 + 1)) fun x925 => go3 x925 l919 l924 else m3_quirlaw_WalPlays_K41 gl3 gl5 a1 a2 a3 gl109 gl111
def m3_quirlaw_WalPlays_L3 (a0 : Int) (gl3 : (List (List UInt8))) (gl5 : (List (List UInt8))) (a1 : Int) (a2 : Int) (a3 : (List TDeed)) : Nat → Int → (List (List UInt8)) → (List (List UInt8)) → Option Bool
  | 0, _, _, _ => none
  | n + 1, gx107, gl109, gl111 => m3_quirlaw_WalPlays_L3B (m3_quirlaw_WalPlays_L3 a0 gl3 gl5 a1 a2 a3 n) a0 gl3 gl5 a1 a2 a3 gx107 gl109 gl111
def m3_quirlaw_WalPlays_K2 (a0 : Int) (a1 : Int) (a2 : Int) (a3 : (List TDeed)) (gl3 : (List (List UInt8))) (gl5 : (List (List UInt8))) : Option Bool :=
  if (0 : Int) ≠ 0 then none else m3_quirlaw_WalPlays_L3 a0 gl3 gl5 a1 a2 a3 big 0 [] []
def m3_quirlaw_WalPlays_K43 (a0 : Int) (a1 : Int) (a2 : Int) (a3 : (List TDeed)) (gl113 : (List (List UInt8))) : Option Bool :=
  bind1 (app [] gl113) fun l929 => m3_quirlaw_WalPlays_K2 a0 a1 a2 a3 gl113 l929
def m3_quirlaw_WalPlays_L4B (go4 : Int → (List (List UInt8)) → Option Bool) (a0 : Int) (a1 : Int) (a2 : Int) (a3 : (List TDeed)) (gx114 : Int) (gl116 : (List (List UInt8))) : Option Bool :=
  if gx114 < a0 then bind1 (xRepeat ([0]) 64) fun s941 => bind1 (app gl116 ([s941])) fun l945 => bind1 (i64 (gx114 + 1)) fun x946 => go4 x946 l945 else m3_quirlaw_WalPlays_K43 a0 a1 a2 a3 gl116
def m3_quirlaw_WalPlays_L4 (a0 : Int) (a1 : Int) (a2 : Int) (a3 : (List TDeed)) : Nat → Int → (List (List UInt8)) → Option Bool
  | 0, _, _ => none
  | n + 1, gx114, gl116 => m3_quirlaw_WalPlays_L4B (m3_quirlaw_WalPlays_L4 a0 a1 a2 a3 n) a0 a1 a2 a3 gx114 gl116
def m3_quirlaw_WalPlays_K42 (a0 : Int) (a1 : Int) (a2 : Int) (a3 : (List TDeed)) : Option Bool :=
  m3_quirlaw_WalPlays_L4 a0 a1 a2 a3 big 0 []
def m3_quirlaw_WalPlays (a0 : Int) (a1 : Int) (a2 : Int) (a3 : (List TDeed)) : Option Bool :=
  if a0 < 1 then m3_quirlaw_WalPlays_K1 a0 else if 256 < a0 then m3_quirlaw_WalPlays_K1 a0 else m3_quirlaw_WalPlays_K42 a0 a1 a2 a3
end Go.Proofs.YtinchlfaepjfiaaDoor
