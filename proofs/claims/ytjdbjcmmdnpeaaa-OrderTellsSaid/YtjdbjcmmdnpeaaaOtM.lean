/-
  Models, printed by a program of mine.
  Conditions: none.
-/
import Derived.Test.YtjdbjcmmdnpeaaaFp
import Derived.Test.YtjdbjcmmdnpeaaaSk
import Derived.Test.YtjdbjcmmdnpeaaaTs
import Derived.Test.YtjdbjcmmdnpeaaaSa
namespace Go.Proofs.Ytjdbjcmmdnpeaaa
open Go.S
set_option linter.unusedVariables false
structure TGot where
  Item : Int
  From : Int
  deriving DecidableEq, Inhabited
def TGot.row (x : TGot) : List Value := [.int .i64 x.Item, .int .i64 x.From]
structure TTale where
  Tx : Int
  Reads : (List TGot)
  deriving DecidableEq, Inhabited
def TTale.rowv (x : TTale) (vs : List Value) : List Value := [.int .i64 x.Tx, gv vs 0]
def TTale.sds (x : TTale) (vs : List Value) : List Sd := [⟨gv vs 0, 45, 2, x.Reads.map TGot.row⟩]
structure TStory where
  Tales : (List TTale)
  Versions : (List (List Int))
  deriving DecidableEq, Inhabited
def TStory.rowv (x : TStory) (vs : List Value) : List Value := [gv vs 0, gv vs 1]
structure TOp where
  Tx : Int
  Kind : Int
  Item : Int
  deriving DecidableEq, Inhabited
def TOp.row (x : TOp) : List Value := [.int .i64 x.Tx, .int .i64 x.Kind, .int .i64 x.Item]
structure TDid where
  OK : Bool
  From : Int
  deriving DecidableEq, Inhabited
def TDid.row (x : TDid) : List Value := [.bool x.OK, .int .i64 x.From]
noncomputable section
def m20_slices_Index_int_K1 : Option Int :=
  some (-1)
def m20_slices_Index_int_L1B (go1 : Int → Option Int) (a0 : (List Int)) (a1 : Int) (gx1 : Int) : Option Int :=
  if gx1 < (a0.length : Int) then bind1 (idx a0 gx1) fun x2 => if a1 = x2 then some gx1 else bind1 (i64 (gx1 + 1)) fun x4 => go1 x4 else m20_slices_Index_int_K1
def m20_slices_Index_int_L1 (a0 : (List Int)) (a1 : Int) : Nat → Int → Option Int
  | 0, _ => none
  | n + 1, gx1 => m20_slices_Index_int_L1B (m20_slices_Index_int_L1 a0 a1 n) a0 a1 gx1
def m20_slices_Index_int (a0 : (List Int)) (a1 : Int) : Option Int :=
  m20_slices_Index_int_L1 a0 a1 big 0
def m7_slices_Contains_int (a0 : (List Int)) (a1 : Int) : Option Bool :=
  bind1 (m20_slices_Index_int a0 a1) fun x1 => some (decide (0 ≤ x1))
def m23_cmp_isNaN_int (a0 : Int) : Option Bool :=
  some (decide (a0 ≠ a0))
def m10_cmp_Compare_int_K1 (a1 : Int) (a0 : Int) (gb1 : Bool) : Option Int :=
  if gb1 = true then bind1 (m23_cmp_isNaN_int a1) fun b5 => if b5 = true then some 0 else some (-1) else bind1 (m23_cmp_isNaN_int a1) fun b1 => if b1 = true then some 1 else if a0 < a1 then some (-1) else if a1 < a0 then some 1 else some 0
def m10_cmp_Compare_int (a0 : Int) (a1 : Int) : Option Int :=
  bind1 (m23_cmp_isNaN_int a0) fun b7 => if b7 = true then m10_cmp_Compare_int_K1 a1 a0 true else m10_cmp_Compare_int_K1 a1 a0 false
def m9_order_Of_1 (a0 : TTale) (a1 : TTale) : Option Int :=
  bind1 (m10_cmp_Compare_int a0.Tx a1.Tx) fun x3 => some x3
def m11_order_Check_K3 : Option Int :=
  some 0
def m11_order_Check_K4 (gx1 : Int) (go1 : Int → Option Int) : Option Int :=
  bind1 (i64 (gx1 + 1)) fun x3 => go1 x3
def m11_order_Check_K5 (gx2 : Int) (go2 : Int → Option Int) (gb3 : Bool) : Option Int :=
  if gb3 = true then bind1 (i64 (gx2 + 1)) fun x11 => go2 x11 else some 4
def m11_order_Check_K6 (gx2 : Int) (go2 : Int → Option Int) (gx4 : Int) : Option Int :=
  m11_order_Check_K5 gx2 go2 (decide (0 ≤ gx4))
def m11_order_Check_K7 (gx2 : Int) (go2 : Int → Option Int) : Option Int :=
  m11_order_Check_K6 gx2 go2 (-1)
def m11_order_Check_K8 (x13 : TTale) (x6 : Int) (gx2 : Int) (go2 : Int → Option Int) (gx5 : Int) (go3 : Int → Option Int) : Option Int :=
  if (decide (x13.Tx = x6)) = true then m11_order_Check_K6 gx2 go2 gx5 else bind1 (i64 (gx5 + 1)) fun x14 => go3 x14
def m11_order_Check_L3B (go3 : Int → Option Int) (a0 : TStory) (x6 : Int) (gx2 : Int) (go2 : Int → Option Int) (gx5 : Int) : Option Int :=
  if gx5 < (a0.Tales.length : Int) then bind1 (idx a0.Tales gx5) fun x13 => m11_order_Check_K8 x13 x6 gx2 go2 gx5 go3 else m11_order_Check_K7 gx2 go2
def m11_order_Check_L3 (a0 : TStory) (x6 : Int) (gx2 : Int) (go2 : Int → Option Int) : Nat → Int → Option Int
  | 0, _ => none
  | n + 1, gx5 => m11_order_Check_L3B (m11_order_Check_L3 a0 x6 gx2 go2 n) a0 x6 gx2 go2 gx5
def m11_order_Check_L2B (go2 : Int → Option Int) (x4 : (List Int)) (a0 : TStory) (gx1 : Int) (go1 : Int → Option Int) (gx2 : Int) : Option Int :=
  if gx2 < (x4.length : Int) then bind1 (idx x4 gx2) fun x6 => bind1 (cut x4 0 gx2) fun l8 => bind1 (m7_slices_Contains_int l8 x6) fun b9 => if b9 = true then some 4 else m11_order_Check_L3 a0 x6 gx2 go2 big 0 else m11_order_Check_K4 gx1 go1
def m11_order_Check_L2 (x4 : (List Int)) (a0 : TStory) (gx1 : Int) (go1 : Int → Option Int) : Nat → Int → Option Int
  | 0, _ => none
  | n + 1, gx2 => m11_order_Check_L2B (m11_order_Check_L2 x4 a0 gx1 go1 n) x4 a0 gx1 go1 gx2
def m11_order_Check_L1B (go1 : Int → Option Int) (a0 : TStory) (gx1 : Int) : Option Int :=
  if gx1 < (a0.Versions.length : Int) then bind1 (idx a0.Versions gx1) fun x4 => m11_order_Check_L2 x4 a0 gx1 go1 big 0 else m11_order_Check_K3
def m11_order_Check_L1 (a0 : TStory) : Nat → Int → Option Int
  | 0, _ => none
  | n + 1, gx1 => m11_order_Check_L1B (m11_order_Check_L1 a0 n) a0 gx1
def m11_order_Check_K2 (a0 : TStory) : Option Int :=
  m11_order_Check_L1 a0 big 0
def m11_order_Check_K9 (gx6 : Int) (go4 : Int → Option Int) : Option Int :=
  bind1 (i64 (gx6 + 1)) fun x17 => go4 x17
def m11_order_Check_K12 (x21 : TGot) (x18 : TTale) (a0 : TStory) (gx7 : Int) (go5 : Int → Option Int) (gb8 : Bool) : Option Int :=
  if gb8 = true then some 4 else if x21.From = x18.Tx then some 4 else if x21.From ≠ (-1) then bind1 (idx a0.Versions x21.Item) fun x25 => bind1 (m7_slices_Contains_int x25 x21.From) fun b26 => if b26 = true then bind1 (i64 (gx7 + 1)) fun x28 => go5 x28 else some 4 else bind1 (i64 (gx7 + 1)) fun x29 => go5 x29
def m11_order_Check_L5B (go5 : Int → Option Int) (x18 : TTale) (a0 : TStory) (gx6 : Int) (go4 : Int → Option Int) (gx7 : Int) : Option Int :=
  if gx7 < (x18.Reads.length : Int) then bind1 (idx x18.Reads gx7) fun x21 => if x21.Item < 0 then m11_order_Check_K12 x21 x18 a0 gx7 go5 true else if (a0.Versions.length : Int) ≤ x21.Item then m11_order_Check_K12 x21 x18 a0 gx7 go5 true else m11_order_Check_K12 x21 x18 a0 gx7 go5 false else m11_order_Check_K9 gx6 go4
def m11_order_Check_L5 (x18 : TTale) (a0 : TStory) (gx6 : Int) (go4 : Int → Option Int) : Nat → Int → Option Int
  | 0, _ => none
  | n + 1, gx7 => m11_order_Check_L5B (m11_order_Check_L5 x18 a0 gx6 go4 n) x18 a0 gx6 go4 gx7
def m11_order_Check_K11 (x18 : TTale) (a0 : TStory) (gx6 : Int) (go4 : Int → Option Int) : Option Int :=
  m11_order_Check_L5 x18 a0 gx6 go4 big 0
def m11_order_Check_K10 (gx6 : Int) (a0 : TStory) (x18 : TTale) (go4 : Int → Option Int) : Option Int :=
  if 0 < gx6 then bind1 (i64 (gx6 - 1)) fun x33 => bind1 (idx a0.Tales x33) fun x34 => if x18.Tx ≤ x34.Tx then some 4 else m11_order_Check_K11 x18 a0 gx6 go4 else m11_order_Check_K11 x18 a0 gx6 go4
def m11_order_Check_L4B (go4 : Int → Option Int) (a0 : TStory) (gx6 : Int) : Option Int :=
  if gx6 < (a0.Tales.length : Int) then bind1 (idx a0.Tales gx6) fun x18 => if x18.Tx < 0 then some 1 else if 12 ≤ x18.Tx then some 1 else m11_order_Check_K10 gx6 a0 x18 go4 else m11_order_Check_K2 a0
def m11_order_Check_L4 (a0 : TStory) : Nat → Int → Option Int
  | 0, _ => none
  | n + 1, gx6 => m11_order_Check_L4B (m11_order_Check_L4 a0 n) a0 gx6
def m11_order_Check_K1 (a0 : TStory) : Option Int :=
  m11_order_Check_L4 a0 big 0
def m11_order_Check (a0 : TStory) : Option Int :=
  if 12 < (a0.Tales.length : Int) then some 2 else if 20 < (a0.Versions.length : Int) then some 2 else m11_order_Check_K1 a0
def m4_order_Of_K2 (gl2 : (List TTale)) (gl4 : (List (List Int))) (gl6 : (List Int)) (gl9 : (List (Int × (List TGot)))) : Option (TStory × Int) :=
  anySort (fun x y => (m9_order_Of_1 x y).getD 0) gl2 fun l10 => bind1 (m11_order_Check (⟨l10, gl4⟩ : TStory)) fun x22 => if x22 ≠ 0 then some ((⟨[], []⟩ : TStory), 4) else some ((⟨l10, gl4⟩ : TStory), 0)
def m4_order_Of_K3 (gx11 : Int) (go1 : Int → (List TTale) → (List (List Int)) → (List (List Int)) → (List Int) → (List (Int × (List TGot))) → Option (TStory × Int)) (gl25 : (List TTale)) (gl27 : (List (List Int))) (gl29 : (List (List Int))) (gl31 : (List Int)) (gl34 : (List (Int × (List TGot)))) : Option (TStory × Int) :=
  bind1 (i64 (gx11 + 1)) fun x26 => go1 x26 gl25 gl27 gl29 gl31 gl34
def m4_order_Of_K9 (gl36 : (List Int)) (x27 : TOp) (gl39 : (List (Int × (List TGot)))) (gl13 : (List TTale)) (gx11 : Int) (go1 : Int → (List TTale) → (List (List Int)) → (List (List Int)) → (List Int) → (List (Int × (List TGot))) → Option (TStory × Int)) (gl17 : (List (List Int))) (gl43 : (List (List Int))) : Option (TStory × Int) :=
  bind1 (tsKey gl36 x27.Tx) fun x47 => bind1 (tsGet gl39 x27.Tx) fun l49 => bind1 (app gl13 [(⟨x27.Tx, l49⟩ : TTale)]) fun l50 => m4_order_Of_K3 gx11 go1 l50 gl43 gl17 gl36 gl39
def m4_order_Of_L2B (go2 : Int → (List (List Int)) → Option (TStory × Int)) (x53 : (List Int)) (x27 : TOp) (gl36 : (List Int)) (gl39 : (List (Int × (List TGot)))) (gl13 : (List TTale)) (gx11 : Int) (go1 : Int → (List TTale) → (List (List Int)) → (List (List Int)) → (List Int) → (List (Int × (List TGot))) → Option (TStory × Int)) (gl17 : (List (List Int))) (gx45 : Int) (gl46 : (List (List Int))) : Option (TStory × Int) :=
  if gx45 < (x53.length : Int) then bind1 (idx x53 gx45) fun x55 => bind1 (idx gl46 x55) fun x74 => bind1 (app x74 ([x27.Tx])) fun l77 => bind1 (idx gl46 x55) fun x78 => bind1 (upd gl46 x55 l77) fun l79 => bind1 (i64 (gx45 + 1)) fun x81 => go2 x81 l79 else m4_order_Of_K9 gl36 x27 gl39 gl13 gx11 go1 gl17 gl46
def m4_order_Of_L2 (x53 : (List Int)) (x27 : TOp) (gl36 : (List Int)) (gl39 : (List (Int × (List TGot)))) (gl13 : (List TTale)) (gx11 : Int) (go1 : Int → (List TTale) → (List (List Int)) → (List (List Int)) → (List Int) → (List (Int × (List TGot))) → Option (TStory × Int)) (gl17 : (List (List Int))) : Nat → Int → (List (List Int)) → Option (TStory × Int)
  | 0, _, _ => none
  | n + 1, gx45, gl46 => m4_order_Of_L2B (m4_order_Of_L2 x53 x27 gl36 gl39 gl13 gx11 go1 gl17 n) x53 x27 gl36 gl39 gl13 gx11 go1 gl17 gx45 gl46
def m4_order_Of_K8 (gl17 : (List (List Int))) (x27 : TOp) (gl36 : (List Int)) (gl39 : (List (Int × (List TGot)))) (gl13 : (List TTale)) (gx11 : Int) (go1 : Int → (List TTale) → (List (List Int)) → (List (List Int)) → (List Int) → (List (Int × (List TGot))) → Option (TStory × Int)) (gl15 : (List (List Int))) (gb42 : Bool) : Option (TStory × Int) :=
  if gb42 = true then bind1 (idxA 12 gl17 x27.Tx) fun x53 => m4_order_Of_L2 x53 x27 gl36 gl39 gl13 gx11 go1 gl17 big 0 gl15 else m4_order_Of_K3 gx11 go1 gl13 gl15 gl17 gl36 gl39
def m4_order_Of_K7 (gl17 : (List (List Int))) (x27 : TOp) (gx11 : Int) (go1 : Int → (List TTale) → (List (List Int)) → (List (List Int)) → (List Int) → (List (Int × (List TGot))) → Option (TStory × Int)) (gl13 : (List TTale)) (gl15 : (List (List Int))) (gl36 : (List Int)) (gl39 : (List (Int × (List TGot)))) (a1 : (List TDid)) (gb41 : Bool) : Option (TStory × Int) :=
  if gb41 = true then bind1 (idxA 12 gl17 x27.Tx) fun x103 => bind1 (app x103 ([x27.Item])) fun l106 => bind1 (idxA 12 gl17 x27.Tx) fun x107 => bind1 (upd gl17 x27.Tx l106) fun l108 => m4_order_Of_K3 gx11 go1 gl13 gl15 l108 gl36 gl39 else if x27.Kind = 3 then bind1 (idx a1 gx11) fun x83 => if x83.OK = true then m4_order_Of_K8 gl17 x27 gl36 gl39 gl13 gx11 go1 gl15 true else m4_order_Of_K8 gl17 x27 gl36 gl39 gl13 gx11 go1 gl15 false else m4_order_Of_K8 gl17 x27 gl36 gl39 gl13 gx11 go1 gl15 false
def m4_order_Of_K10 (gl17 : (List (List Int))) (x27 : TOp) (gx11 : Int) (go1 : Int → (List TTale) → (List (List Int)) → (List (List Int)) → (List Int) → (List (Int × (List TGot))) → Option (TStory × Int)) (gl13 : (List TTale)) (gl15 : (List (List Int))) (gl36 : (List Int)) (gl39 : (List (Int × (List TGot)))) (a1 : (List TDid)) (gb48 : Bool) : Option (TStory × Int) :=
  if gb48 = true then m4_order_Of_K7 gl17 x27 gx11 go1 gl13 gl15 gl36 gl39 a1 true else m4_order_Of_K7 gl17 x27 gx11 go1 gl13 gl15 gl36 gl39 a1 false
def m4_order_Of_K6 (gl36 : (List Int)) (x27 : TOp) (a1 : (List TDid)) (gx11 : Int) (gl39 : (List (Int × (List TGot)))) (go1 : Int → (List TTale) → (List (List Int)) → (List (List Int)) → (List Int) → (List (Int × (List TGot))) → Option (TStory × Int)) (gl13 : (List TTale)) (gl15 : (List (List Int))) (gl17 : (List (List Int))) (gb40 : Bool) : Option (TStory × Int) :=
  if gb40 = true then bind1 (tsKey gl36 x27.Tx) fun x130 => bind1 (tsKey gl36 x27.Tx) fun x131 => bind1 (idx a1 gx11) fun x132 => bind1 (tsGet gl39 x27.Tx) fun l136 => bind1 (app l136 ([(⟨x27.Item, x132.From⟩ : TGot)])) fun l137 => m4_order_Of_K3 gx11 go1 gl13 gl15 gl17 gl36 (tsPut gl39 x27.Tx l137) else if x27.Kind = 2 then bind1 (idxA 12 gl17 x27.Tx) fun x111 => bind1 (m7_slices_Contains_int x111 x27.Item) fun b112 => if b112 = true then m4_order_Of_K10 gl17 x27 gx11 go1 gl13 gl15 gl36 gl39 a1 false else m4_order_Of_K10 gl17 x27 gx11 go1 gl13 gl15 gl36 gl39 a1 true else m4_order_Of_K10 gl17 x27 gx11 go1 gl13 gl15 gl36 gl39 a1 false
def m4_order_Of_K11 (gl36 : (List Int)) (x27 : TOp) (a1 : (List TDid)) (gx11 : Int) (gl39 : (List (Int × (List TGot)))) (go1 : Int → (List TTale) → (List (List Int)) → (List (List Int)) → (List Int) → (List (Int × (List TGot))) → Option (TStory × Int)) (gl13 : (List TTale)) (gl15 : (List (List Int))) (gl17 : (List (List Int))) (gb49 : Bool) : Option (TStory × Int) :=
  if gb49 = true then m4_order_Of_K6 gl36 x27 a1 gx11 gl39 go1 gl13 gl15 gl17 true else m4_order_Of_K6 gl36 x27 a1 gx11 gl39 go1 gl13 gl15 gl17 false
def m4_order_Of_K5 (x27 : TOp) (a1 : (List TDid)) (gx11 : Int) (go1 : Int → (List TTale) → (List (List Int)) → (List (List Int)) → (List Int) → (List (Int × (List TGot))) → Option (TStory × Int)) (gl13 : (List TTale)) (gl15 : (List (List Int))) (gl17 : (List (List Int))) (gl36 : (List Int)) (gl39 : (List (Int × (List TGot)))) : Option (TStory × Int) :=
  if x27.Kind = 1 then bind1 (idx a1 gx11) fun x139 => if x139.From ≠ x27.Tx then m4_order_Of_K11 gl36 x27 a1 gx11 gl39 go1 gl13 gl15 gl17 true else m4_order_Of_K11 gl36 x27 a1 gx11 gl39 go1 gl13 gl15 gl17 false else m4_order_Of_K11 gl36 x27 a1 gx11 gl39 go1 gl13 gl15 gl17 false
def m4_order_Of_K4 (gl19 : (List Int)) (x27 : TOp) (gl22 : (List (Int × (List TGot)))) (a1 : (List TDid)) (gx11 : Int) (go1 : Int → (List TTale) → (List (List Int)) → (List (List Int)) → (List Int) → (List (Int × (List TGot))) → Option (TStory × Int)) (gl13 : (List TTale)) (gl15 : (List (List Int))) (gl17 : (List (List Int))) : Option (TStory × Int) :=
  if (mget (tk gl19) x27.Tx none).isNone = true then bind2 (tsAdd gl19 gl22 x27.Tx) fun l143 l144 => m4_order_Of_K5 x27 a1 gx11 go1 gl13 gl15 gl17 l143 l144 else m4_order_Of_K5 x27 a1 gx11 go1 gl13 gl15 gl17 gl19 gl22
def m4_order_Of_K12 (x27 : TOp) (gl19 : (List Int)) (gl22 : (List (Int × (List TGot)))) (a1 : (List TDid)) (gx11 : Int) (go1 : Int → (List TTale) → (List (List Int)) → (List (List Int)) → (List Int) → (List (Int × (List TGot))) → Option (TStory × Int)) (gl13 : (List TTale)) (gl15 : (List (List Int))) (gl17 : (List (List Int))) (gb50 : Bool) : Option (TStory × Int) :=
  if gb50 = true then some ((⟨[], []⟩ : TStory), 1) else if x27.Item < 0 then some ((⟨[], []⟩ : TStory), 1) else if 20 ≤ x27.Item then some ((⟨[], []⟩ : TStory), 1) else m4_order_Of_K4 gl19 x27 gl22 a1 gx11 go1 gl13 gl15 gl17
def m4_order_Of_L1B (go1 : Int → (List TTale) → (List (List Int)) → (List (List Int)) → (List Int) → (List (Int × (List TGot))) → Option (TStory × Int)) (a0 : (List TOp)) (a1 : (List TDid)) (gx11 : Int) (gl13 : (List TTale)) (gl15 : (List (List Int))) (gl17 : (List (List Int))) (gl19 : (List Int)) (gl22 : (List (Int × (List TGot)))) : Option (TStory × Int) :=
  if gx11 < (a0.length : Int) then bind1 (idx a0 gx11) fun x27 => if x27.Tx < 0 then m4_order_Of_K12 x27 gl19 gl22 a1 gx11 go1 gl13 gl15 gl17 true else if 12 ≤ x27.Tx then m4_order_Of_K12 x27 gl19 gl22 a1 gx11 go1 gl13 gl15 gl17 true else m4_order_Of_K12 x27 gl19 gl22 a1 gx11 go1 gl13 gl15 gl17 false else m4_order_Of_K2 gl13 gl15 gl19 gl22
def m4_order_Of_L1 (a0 : (List TOp)) (a1 : (List TDid)) : Nat → Int → (List TTale) → (List (List Int)) → (List (List Int)) → (List Int) → (List (Int × (List TGot))) → Option (TStory × Int)
  | 0, _, _, _, _, _, _ => none
  | n + 1, gx11, gl13, gl15, gl17, gl19, gl22 => m4_order_Of_L1B (m4_order_Of_L1 a0 a1 n) a0 a1 gx11 gl13 gl15 gl17 gl19 gl22
def m4_order_Of_K1 (a0 : (List TOp)) (a1 : (List TDid)) : Option (TStory × Int) :=
  bind1 (mk 20 ([] : (List Int))) fun l4 => m4_order_Of_L1 a0 a1 big 0 [] l4 (List.replicate 12 ([] : (List Int))) [] []
def m4_order_Of (a0 : (List TOp)) (a1 : (List TDid)) : Option (TStory × Int) :=
  if (a0.length : Int) ≠ (a1.length : Int) then some ((⟨[], []⟩ : TStory), 1) else if 200 < (a0.length : Int) then some ((⟨[], []⟩ : TStory), 1) else m4_order_Of_K1 a0 a1
def m42_api_Op_K1 : Option Int :=
  some (-1)
def m42_api_Op_L1B (go1 : Int → Option Int) (a0 : (List TOp)) (a1 : TOp) (gx1 : Int) : Option Int :=
  if gx1 < (a0.length : Int) then bind1 (idx a0 gx1) fun x3 => if a1 = x3 then some gx1 else bind1 (i64 (gx1 + 1)) fun x5 => go1 x5 else m42_api_Op_K1
def m42_api_Op_L1 (a0 : (List TOp)) (a1 : TOp) : Nat → Int → Option Int
  | 0, _ => none
  | n + 1, gx1 => m42_api_Op_L1B (m42_api_Op_L1 a0 a1 n) a0 a1 gx1
def m42_api_Op (a0 : (List TOp)) (a1 : TOp) : Option Int :=
  m42_api_Op_L1 a0 a1 big 0
def m26_api_Op (a0 : (List TOp)) (a1 : TOp) : Option Bool :=
  bind1 (m42_api_Op a0 a1) fun x2 => some (decide (0 ≤ x2))
def m12_quirref_wrote (a0 : (List TOp)) (a1 : Int) (a2 : Int) : Option Bool :=
  bind1 (m26_api_Op a0 (⟨a1, 2, a2⟩ : TOp)) fun b1 => some b1
def m14_quirref_StoryErr_K3 : Option Int :=
  some 0
def m14_quirref_StoryErr_K4 (gx1 : Int) (go1 : Int → Option Int) : Option Int :=
  bind1 (i64 (gx1 + 1)) fun x3 => go1 x3
def m14_quirref_StoryErr_K5 (x4 : (List Int)) (x6 : Int) (gx2 : Int) (go2 : Int → Option Int) (gb3 : Bool) : Option Int :=
  if gb3 = true then bind1 (m20_slices_Index_int x4 x6) fun x7 => if x7 ≠ gx2 then some 4 else bind1 (i64 (gx2 + 1)) fun x10 => go2 x10 else some 4
def m14_quirref_StoryErr_K6 (x4 : (List Int)) (x6 : Int) (gx2 : Int) (go2 : Int → Option Int) (gb4 : Bool) : Option Int :=
  m14_quirref_StoryErr_K5 x4 x6 gx2 go2 gb4
def m14_quirref_StoryErr_K7 (x4 : (List Int)) (x6 : Int) (gx2 : Int) (go2 : Int → Option Int) (gx5 : Int) : Option Int :=
  m14_quirref_StoryErr_K6 x4 x6 gx2 go2 (decide (0 ≤ gx5))
def m14_quirref_StoryErr_K8 (x4 : (List Int)) (x6 : Int) (gx2 : Int) (go2 : Int → Option Int) : Option Int :=
  m14_quirref_StoryErr_K7 x4 x6 gx2 go2 (-1)
def m14_quirref_StoryErr_K9 (x13 : TTale) (x6 : Int) (x4 : (List Int)) (gx2 : Int) (go2 : Int → Option Int) (gx6 : Int) (go3 : Int → Option Int) : Option Int :=
  if (decide (x13.Tx = x6)) = true then m14_quirref_StoryErr_K7 x4 x6 gx2 go2 gx6 else bind1 (i64 (gx6 + 1)) fun x14 => go3 x14
def m14_quirref_StoryErr_L3B (go3 : Int → Option Int) (a0 : TStory) (x6 : Int) (x4 : (List Int)) (gx2 : Int) (go2 : Int → Option Int) (gx6 : Int) : Option Int :=
  if gx6 < (a0.Tales.length : Int) then bind1 (idx a0.Tales gx6) fun x13 => m14_quirref_StoryErr_K9 x13 x6 x4 gx2 go2 gx6 go3 else m14_quirref_StoryErr_K8 x4 x6 gx2 go2
def m14_quirref_StoryErr_L3 (a0 : TStory) (x6 : Int) (x4 : (List Int)) (gx2 : Int) (go2 : Int → Option Int) : Nat → Int → Option Int
  | 0, _ => none
  | n + 1, gx6 => m14_quirref_StoryErr_L3B (m14_quirref_StoryErr_L3 a0 x6 x4 gx2 go2 n) a0 x6 x4 gx2 go2 gx6
def m14_quirref_StoryErr_L2B (go2 : Int → Option Int) (x4 : (List Int)) (a0 : TStory) (gx1 : Int) (go1 : Int → Option Int) (gx2 : Int) : Option Int :=
  if gx2 < (x4.length : Int) then bind1 (idx x4 gx2) fun x6 => m14_quirref_StoryErr_L3 a0 x6 x4 gx2 go2 big 0 else m14_quirref_StoryErr_K4 gx1 go1
def m14_quirref_StoryErr_L2 (x4 : (List Int)) (a0 : TStory) (gx1 : Int) (go1 : Int → Option Int) : Nat → Int → Option Int
  | 0, _ => none
  | n + 1, gx2 => m14_quirref_StoryErr_L2B (m14_quirref_StoryErr_L2 x4 a0 gx1 go1 n) x4 a0 gx1 go1 gx2
def m14_quirref_StoryErr_L1B (go1 : Int → Option Int) (a0 : TStory) (gx1 : Int) : Option Int :=
  if gx1 < (a0.Versions.length : Int) then bind1 (idx a0.Versions gx1) fun x4 => m14_quirref_StoryErr_L2 x4 a0 gx1 go1 big 0 else m14_quirref_StoryErr_K3
def m14_quirref_StoryErr_L1 (a0 : TStory) : Nat → Int → Option Int
  | 0, _ => none
  | n + 1, gx1 => m14_quirref_StoryErr_L1B (m14_quirref_StoryErr_L1 a0 n) a0 gx1
def m14_quirref_StoryErr_K2 (a0 : TStory) : Option Int :=
  m14_quirref_StoryErr_L1 a0 big 0
def m14_quirref_StoryErr_K10 (gx8 : Int) (go4 : Int → Int → Option Int) (gx9 : Int) : Option Int :=
  bind1 (i64 (gx8 + 1)) fun x17 => go4 gx9 x17
def m14_quirref_StoryErr_K13 (x21 : TGot) (a0 : TStory) (gx10 : Int) (go5 : Int → Option Int) : Option Int :=
  if x21.From ≠ (-1) then bind1 (idx a0.Versions x21.Item) fun x24 => bind1 (m7_slices_Contains_int x24 x21.From) fun b25 => if b25 = true then bind1 (i64 (gx10 + 1)) fun x27 => go5 x27 else some 4 else bind1 (i64 (gx10 + 1)) fun x28 => go5 x28
def m14_quirref_StoryErr_K14 (x21 : TGot) (x18 : TTale) (a0 : TStory) (gx10 : Int) (go5 : Int → Option Int) (gb11 : Bool) : Option Int :=
  if gb11 = true then some 4 else if x21.From = x18.Tx then some 4 else m14_quirref_StoryErr_K13 x21 a0 gx10 go5
def m14_quirref_StoryErr_L5B (go5 : Int → Option Int) (x18 : TTale) (a0 : TStory) (gx8 : Int) (go4 : Int → Int → Option Int) (gx10 : Int) : Option Int :=
  if gx10 < (x18.Reads.length : Int) then bind1 (idx x18.Reads gx10) fun x21 => if x21.Item < 0 then m14_quirref_StoryErr_K14 x21 x18 a0 gx10 go5 true else if (a0.Versions.length : Int) ≤ x21.Item then m14_quirref_StoryErr_K14 x21 x18 a0 gx10 go5 true else m14_quirref_StoryErr_K14 x21 x18 a0 gx10 go5 false else m14_quirref_StoryErr_K10 gx8 go4 x18.Tx
def m14_quirref_StoryErr_L5 (x18 : TTale) (a0 : TStory) (gx8 : Int) (go4 : Int → Int → Option Int) : Nat → Int → Option Int
  | 0, _ => none
  | n + 1, gx10 => m14_quirref_StoryErr_L5B (m14_quirref_StoryErr_L5 x18 a0 gx8 go4 n) x18 a0 gx8 go4 gx10
def m14_quirref_StoryErr_K12 (x18 : TTale) (a0 : TStory) (gx8 : Int) (go4 : Int → Int → Option Int) : Option Int :=
  m14_quirref_StoryErr_L5 x18 a0 gx8 go4 big 0
def m14_quirref_StoryErr_K11 (x18 : TTale) (gx7 : Int) (a0 : TStory) (gx8 : Int) (go4 : Int → Int → Option Int) : Option Int :=
  if x18.Tx ≤ gx7 then some 4 else m14_quirref_StoryErr_K12 x18 a0 gx8 go4
def m14_quirref_StoryErr_L4B (go4 : Int → Int → Option Int) (a0 : TStory) (gx7 : Int) (gx8 : Int) : Option Int :=
  if gx8 < (a0.Tales.length : Int) then bind1 (idx a0.Tales gx8) fun x18 => if x18.Tx < 0 then some 1 else if 11 < x18.Tx then some 1 else m14_quirref_StoryErr_K11 x18 gx7 a0 gx8 go4 else m14_quirref_StoryErr_K2 a0
def m14_quirref_StoryErr_L4 (a0 : TStory) : Nat → Int → Int → Option Int
  | 0, _, _ => none
  | n + 1, gx7, gx8 => m14_quirref_StoryErr_L4B (m14_quirref_StoryErr_L4 a0 n) a0 gx7 gx8
def m14_quirref_StoryErr_K1 (a0 : TStory) : Option Int :=
  m14_quirref_StoryErr_L4 a0 big (-1) 0
def m14_quirref_StoryErr (a0 : TStory) : Option Int :=
  if 12 < (a0.Tales.length : Int) then some 2 else if 20 < (a0.Versions.length : Int) then some 2 else m14_quirref_StoryErr_K1 a0
def m5_quirref_Story_K3 (gl3 : (List TTale)) (gl7 : (List (List Int))) : Option (TStory × Int) :=
  bind1 (m14_quirref_StoryErr (⟨gl3, gl7⟩ : TStory)) fun x14 => if x14 ≠ 0 then some ((⟨[], []⟩ : TStory), 4) else some ((⟨gl3, gl7⟩ : TStory), 0)
def m5_quirref_Story_K4 (gx10 : Int) (go1 : Int → (List TTale) → (List (List Int)) → Option (TStory × Int)) (gl20 : (List TTale)) (gl24 : (List (List Int))) : Option (TStory × Int) :=
  bind1 (i64 (gx10 + 1)) fun x18 => go1 x18 gl20 gl24
def m5_quirref_Story_K8 (gl12 : (List TTale)) (x19 : TOp) (gl29 : (List TGot)) (gx10 : Int) (go1 : Int → (List TTale) → (List (List Int)) → Option (TStory × Int)) (gl34 : (List (List Int))) (gx36 : Int) : Option (TStory × Int) :=
  bind1 (xInsR gl12 gx36 (⟨x19.Tx, gl29⟩ : TTale)) fun l28 => m5_quirref_Story_K4 gx10 go1 l28 gl34
def m5_quirref_Story_L2B (go2 : Int → Option (TStory × Int)) (gl12 : (List TTale)) (x19 : TOp) (gl29 : (List TGot)) (gx10 : Int) (go1 : Int → (List TTale) → (List (List Int)) → Option (TStory × Int)) (gl34 : (List (List Int))) (gx41 : Int) : Option (TStory × Int) :=
  if gx41 < (gl12.length : Int) then bind1 (idx gl12 gx41) fun x33 => if x33.Tx ≤ x19.Tx then bind1 (i64 (gx41 + 1)) fun x35 => go2 x35 else m5_quirref_Story_K8 gl12 x19 gl29 gx10 go1 gl34 gx41 else m5_quirref_Story_K8 gl12 x19 gl29 gx10 go1 gl34 gx41
def m5_quirref_Story_L2 (gl12 : (List TTale)) (x19 : TOp) (gl29 : (List TGot)) (gx10 : Int) (go1 : Int → (List TTale) → (List (List Int)) → Option (TStory × Int)) (gl34 : (List (List Int))) : Nat → Int → Option (TStory × Int)
  | 0, _ => none
  | n + 1, gx41 => m5_quirref_Story_L2B (m5_quirref_Story_L2 gl12 x19 gl29 gx10 go1 gl34 n) gl12 x19 gl29 gx10 go1 gl34 gx41
def m5_quirref_Story_K7 (gl12 : (List TTale)) (x19 : TOp) (gl29 : (List TGot)) (gx10 : Int) (go1 : Int → (List TTale) → (List (List Int)) → Option (TStory × Int)) (gl34 : (List (List Int))) : Option (TStory × Int) :=
  m5_quirref_Story_L2 gl12 x19 gl29 gx10 go1 gl34 big 0
def m5_quirref_Story_L3B (go3 : Int → (List (List Int)) → Option (TStory × Int)) (a0 : (List TOp)) (gx10 : Int) (x19 : TOp) (gl12 : (List TTale)) (gl29 : (List TGot)) (go1 : Int → (List TTale) → (List (List Int)) → Option (TStory × Int)) (gx46 : Int) (gl49 : (List (List Int))) : Option (TStory × Int) :=
  if gx46 < 20 then bind1 (cut a0 0 gx10) fun l37 => bind1 (m12_quirref_wrote l37 x19.Tx gx46) fun b38 => if b38 = true then bind1 (idx gl49 gx46) fun x59 => bind1 (app x59 ([x19.Tx])) fun l62 => bind1 (idx gl49 gx46) fun x63 => bind1 (upd gl49 gx46 l62) fun l64 => bind1 (i64 (gx46 + 1)) fun x66 => go3 x66 l64 else bind1 (i64 (gx46 + 1)) fun x40 => go3 x40 gl49 else m5_quirref_Story_K7 gl12 x19 gl29 gx10 go1 gl49
def m5_quirref_Story_L3 (a0 : (List TOp)) (gx10 : Int) (x19 : TOp) (gl12 : (List TTale)) (gl29 : (List TGot)) (go1 : Int → (List TTale) → (List (List Int)) → Option (TStory × Int)) : Nat → Int → (List (List Int)) → Option (TStory × Int)
  | 0, _, _ => none
  | n + 1, gx46, gl49 => m5_quirref_Story_L3B (m5_quirref_Story_L3 a0 gx10 x19 gl12 gl29 go1 n) a0 gx10 x19 gl12 gl29 go1 gx46 gl49
def m5_quirref_Story_K6 (a0 : (List TOp)) (gx10 : Int) (x19 : TOp) (gl12 : (List TTale)) (go1 : Int → (List TTale) → (List (List Int)) → Option (TStory × Int)) (gl16 : (List (List Int))) (gl29 : (List TGot)) : Option (TStory × Int) :=
  m5_quirref_Story_L3 a0 gx10 x19 gl12 gl29 go1 big 0 gl16
def m5_quirref_Story_K9 (a1 : (List TDid)) (gx53 : Int) (x19 : TOp) (gl55 : (List TGot)) (x69 : TOp) (go4 : Int → (List TGot) → Option (TStory × Int)) (gb58 : Bool) : Option (TStory × Int) :=
  if gb58 = true then bind1 (idx a1 gx53) fun x72 => if x72.From ≠ x19.Tx then bind1 (idx a1 gx53) fun x82 => bind1 (app gl55 ([(⟨x69.Item, x82.From⟩ : TGot)])) fun l85 => bind1 (i64 (gx53 + 1)) fun x86 => go4 x86 l85 else bind1 (i64 (gx53 + 1)) fun x87 => go4 x87 gl55 else bind1 (i64 (gx53 + 1)) fun x71 => go4 x71 gl55
def m5_quirref_Story_L4B (go4 : Int → (List TGot) → Option (TStory × Int)) (l67 : (List TOp)) (x19 : TOp) (a1 : (List TDid)) (a0 : (List TOp)) (gx10 : Int) (gl12 : (List TTale)) (go1 : Int → (List TTale) → (List (List Int)) → Option (TStory × Int)) (gl16 : (List (List Int))) (gx53 : Int) (gl55 : (List TGot)) : Option (TStory × Int) :=
  if gx53 < (l67.length : Int) then bind1 (idx l67 gx53) fun x69 => if x69.Tx = x19.Tx then if x69.Kind = 1 then m5_quirref_Story_K9 a1 gx53 x19 gl55 x69 go4 true else m5_quirref_Story_K9 a1 gx53 x19 gl55 x69 go4 false else m5_quirref_Story_K9 a1 gx53 x19 gl55 x69 go4 false else m5_quirref_Story_K6 a0 gx10 x19 gl12 go1 gl16 gl55
def m5_quirref_Story_L4 (l67 : (List TOp)) (x19 : TOp) (a1 : (List TDid)) (a0 : (List TOp)) (gx10 : Int) (gl12 : (List TTale)) (go1 : Int → (List TTale) → (List (List Int)) → Option (TStory × Int)) (gl16 : (List (List Int))) : Nat → Int → (List TGot) → Option (TStory × Int)
  | 0, _, _ => none
  | n + 1, gx53, gl55 => m5_quirref_Story_L4B (m5_quirref_Story_L4 l67 x19 a1 a0 gx10 gl12 go1 gl16 n) l67 x19 a1 a0 gx10 gl12 go1 gl16 gx53 gl55
def m5_quirref_Story_K5 (a0 : (List TOp)) (gx10 : Int) (x19 : TOp) (a1 : (List TDid)) (gl12 : (List TTale)) (go1 : Int → (List TTale) → (List (List Int)) → Option (TStory × Int)) (gl16 : (List (List Int))) : Option (TStory × Int) :=
  bind1 (cut a0 0 gx10) fun l67 => m5_quirref_Story_L4 l67 x19 a1 a0 gx10 gl12 go1 gl16 big 0 []
def m5_quirref_Story_L1B (go1 : Int → (List TTale) → (List (List Int)) → Option (TStory × Int)) (a0 : (List TOp)) (a1 : (List TDid)) (gx10 : Int) (gl12 : (List TTale)) (gl16 : (List (List Int))) : Option (TStory × Int) :=
  if gx10 < (a0.length : Int) then bind1 (idx a0 gx10) fun x19 => if x19.Kind ≠ 3 then m5_quirref_Story_K4 gx10 go1 gl12 gl16 else bind1 (idx a1 gx10) fun x91 => if x91.OK = true then m5_quirref_Story_K5 a0 gx10 x19 a1 gl12 go1 gl16 else m5_quirref_Story_K4 gx10 go1 gl12 gl16 else m5_quirref_Story_K3 gl12 gl16
def m5_quirref_Story_L1 (a0 : (List TOp)) (a1 : (List TDid)) : Nat → Int → (List TTale) → (List (List Int)) → Option (TStory × Int)
  | 0, _, _, _ => none
  | n + 1, gx10, gl12, gl16 => m5_quirref_Story_L1B (m5_quirref_Story_L1 a0 a1 n) a0 a1 gx10 gl12 gl16
def m5_quirref_Story_K2 (a0 : (List TOp)) (a1 : (List TDid)) : Option (TStory × Int) :=
  bind1 (mk 20 ([] : (List Int))) fun l2 => m5_quirref_Story_L1 a0 a1 big 0 [] l2
def m5_quirref_Story_K10 (x94 : TOp) (gx61 : Int) (go5 : Int → Option (TStory × Int)) (gb62 : Bool) : Option (TStory × Int) :=
  if gb62 = true then some ((⟨[], []⟩ : TStory), 1) else if x94.Item < 0 then some ((⟨[], []⟩ : TStory), 1) else if 19 < x94.Item then some ((⟨[], []⟩ : TStory), 1) else bind1 (i64 (gx61 + 1)) fun x98 => go5 x98
def m5_quirref_Story_L5B (go5 : Int → Option (TStory × Int)) (a0 : (List TOp)) (a1 : (List TDid)) (gx61 : Int) : Option (TStory × Int) :=
  if gx61 < (a0.length : Int) then bind1 (idx a0 gx61) fun x94 => if x94.Tx < 0 then m5_quirref_Story_K10 x94 gx61 go5 true else if 11 < x94.Tx then m5_quirref_Story_K10 x94 gx61 go5 true else m5_quirref_Story_K10 x94 gx61 go5 false else m5_quirref_Story_K2 a0 a1
def m5_quirref_Story_L5 (a0 : (List TOp)) (a1 : (List TDid)) : Nat → Int → Option (TStory × Int)
  | 0, _ => none
  | n + 1, gx61 => m5_quirref_Story_L5B (m5_quirref_Story_L5 a0 a1 n) a0 a1 gx61
def m5_quirref_Story_K1 (a0 : (List TOp)) (a1 : (List TDid)) : Option (TStory × Int) :=
  m5_quirref_Story_L5 a0 a1 big 0
def m5_quirref_Story (a0 : (List TOp)) (a1 : (List TDid)) : Option (TStory × Int) :=
  if (a0.length : Int) ≠ (a1.length : Int) then some ((⟨[], []⟩ : TStory), 1) else if 200 < (a0.length : Int) then some ((⟨[], []⟩ : TStory), 1) else m5_quirref_Story_K1 a0 a1
def m17_api_Got_K2 : Option Bool :=
  some true
def m17_api_Got_L1B (go1 : Int → Option Bool) (a0 : (List TGot)) (a1 : (List TGot)) (gx1 : Int) : Option Bool :=
  if gx1 < (a0.length : Int) then bind1 (idx a0 gx1) fun x2 => bind1 (idx a1 gx1) fun x3 => if x2 ≠ x3 then some false else bind1 (i64 (gx1 + 1)) fun x5 => go1 x5 else m17_api_Got_K2
def m17_api_Got_L1 (a0 : (List TGot)) (a1 : (List TGot)) : Nat → Int → Option Bool
  | 0, _ => none
  | n + 1, gx1 => m17_api_Got_L1B (m17_api_Got_L1 a0 a1 n) a0 a1 gx1
def m17_api_Got_K1 (a0 : (List TGot)) (a1 : (List TGot)) : Option Bool :=
  m17_api_Got_L1 a0 a1 big 0
def m17_api_Got (a0 : (List TGot)) (a1 : (List TGot)) : Option Bool :=
  if (a0.length : Int) ≠ (a1.length : Int) then some false else m17_api_Got_K1 a0 a1
def m16_quirref_SameStory_1 (a0 : TTale) (a1 : TTale) : Option Bool :=
  if a0.Tx = a1.Tx then bind1 (m17_api_Got a0.Reads a1.Reads) fun b4 => some b4 else some false
def m19_slices_Equal_int_K2 : Option Bool :=
  some true
def m19_slices_Equal_int_L1B (go1 : Int → Option Bool) (a0 : (List Int)) (a1 : (List Int)) (gx1 : Int) : Option Bool :=
  if gx1 < (a0.length : Int) then bind1 (idx a0 gx1) fun x2 => bind1 (idx a1 gx1) fun x3 => if x2 ≠ x3 then some false else bind1 (i64 (gx1 + 1)) fun x5 => go1 x5 else m19_slices_Equal_int_K2
def m19_slices_Equal_int_L1 (a0 : (List Int)) (a1 : (List Int)) : Nat → Int → Option Bool
  | 0, _ => none
  | n + 1, gx1 => m19_slices_Equal_int_L1B (m19_slices_Equal_int_L1 a0 a1 n) a0 a1 gx1
def m19_slices_Equal_int_K1 (a0 : (List Int)) (a1 : (List Int)) : Option Bool :=
  m19_slices_Equal_int_L1 a0 a1 big 0
def m19_slices_Equal_int (a0 : (List Int)) (a1 : (List Int)) : Option Bool :=
  if (a0.length : Int) ≠ (a1.length : Int) then some false else m19_slices_Equal_int_K1 a0 a1
def m6_quirref_SameStory_K2 (gb2 : Bool) : Option Bool :=
  some gb2
def m6_quirref_SameStory_K4 : Option Bool :=
  m6_quirref_SameStory_K2 true
def m6_quirref_SameStory_K5 (gx3 : Int) (go1 : Int → Option Bool) (gb4 : Bool) : Option Bool :=
  if gb4 = true then bind1 (i64 (gx3 + 1)) fun x6 => go1 x6 else m6_quirref_SameStory_K2 false
def m6_quirref_SameStory_K7 (gx3 : Int) (go1 : Int → Option Bool) : Option Bool :=
  m6_quirref_SameStory_K5 gx3 go1 true
def m6_quirref_SameStory_L2B (go2 : Int → Option Bool) (x4 : (List Int)) (x5 : (List Int)) (gx3 : Int) (go1 : Int → Option Bool) (gx5 : Int) : Option Bool :=
  if gx5 < (x4.length : Int) then bind1 (idx x4 gx5) fun x8 => bind1 (idx x5 gx5) fun x9 => if x8 ≠ x9 then m6_quirref_SameStory_K5 gx3 go1 false else bind1 (i64 (gx5 + 1)) fun x11 => go2 x11 else m6_quirref_SameStory_K7 gx3 go1
def m6_quirref_SameStory_L2 (x4 : (List Int)) (x5 : (List Int)) (gx3 : Int) (go1 : Int → Option Bool) : Nat → Int → Option Bool
  | 0, _ => none
  | n + 1, gx5 => m6_quirref_SameStory_L2B (m6_quirref_SameStory_L2 x4 x5 gx3 go1 n) x4 x5 gx3 go1 gx5
def m6_quirref_SameStory_K6 (x4 : (List Int)) (x5 : (List Int)) (gx3 : Int) (go1 : Int → Option Bool) : Option Bool :=
  m6_quirref_SameStory_L2 x4 x5 gx3 go1 big 0
def m6_quirref_SameStory_L1B (go1 : Int → Option Bool) (a0 : TStory) (a1 : TStory) (gx3 : Int) : Option Bool :=
  if gx3 < (a0.Versions.length : Int) then bind1 (idx a0.Versions gx3) fun x4 => bind1 (idx a1.Versions gx3) fun x5 => if (x4.length : Int) ≠ (x5.length : Int) then m6_quirref_SameStory_K5 gx3 go1 false else m6_quirref_SameStory_K6 x4 x5 gx3 go1 else m6_quirref_SameStory_K4
def m6_quirref_SameStory_L1 (a0 : TStory) (a1 : TStory) : Nat → Int → Option Bool
  | 0, _ => none
  | n + 1, gx3 => m6_quirref_SameStory_L1B (m6_quirref_SameStory_L1 a0 a1 n) a0 a1 gx3
def m6_quirref_SameStory_K3 (a0 : TStory) (a1 : TStory) : Option Bool :=
  m6_quirref_SameStory_L1 a0 a1 big 0
def m6_quirref_SameStory_K1 (a0 : TStory) (a1 : TStory) (gb1 : Bool) : Option Bool :=
  if gb1 = true then if (a0.Versions.length : Int) ≠ (a1.Versions.length : Int) then m6_quirref_SameStory_K2 false else m6_quirref_SameStory_K3 a0 a1 else some false
def m6_quirref_SameStory_K9 (a0 : TStory) (a1 : TStory) : Option Bool :=
  m6_quirref_SameStory_K1 a0 a1 true
def m6_quirref_SameStory_K10 (gx6 : Int) (go3 : Int → Option Bool) (a0 : TStory) (a1 : TStory) (gb7 : Bool) : Option Bool :=
  if gb7 = true then bind1 (i64 (gx6 + 1)) fun x19 => go3 x19 else m6_quirref_SameStory_K1 a0 a1 false
def m6_quirref_SameStory_L3B (go3 : Int → Option Bool) (a0 : TStory) (a1 : TStory) (gx6 : Int) : Option Bool :=
  if gx6 < (a0.Tales.length : Int) then bind1 (idx a0.Tales gx6) fun x15 => bind1 (idx a1.Tales gx6) fun x17 => if x15.Tx = x17.Tx then bind1 (m17_api_Got x15.Reads x17.Reads) fun b23 => m6_quirref_SameStory_K10 gx6 go3 a0 a1 b23 else m6_quirref_SameStory_K10 gx6 go3 a0 a1 false else m6_quirref_SameStory_K9 a0 a1
def m6_quirref_SameStory_L3 (a0 : TStory) (a1 : TStory) : Nat → Int → Option Bool
  | 0, _ => none
  | n + 1, gx6 => m6_quirref_SameStory_L3B (m6_quirref_SameStory_L3 a0 a1 n) a0 a1 gx6
def m6_quirref_SameStory_K8 (a0 : TStory) (a1 : TStory) : Option Bool :=
  m6_quirref_SameStory_L3 a0 a1 big 0
def m6_quirref_SameStory (a0 : TStory) (a1 : TStory) : Option Bool :=
  if (a0.Tales.length : Int) ≠ (a1.Tales.length : Int) then m6_quirref_SameStory_K1 a0 a1 false else m6_quirref_SameStory_K8 a0 a1
def m3_quirlaw_OrderTells (a0 : (List TOp)) (a1 : (List TDid)) : Option Bool :=
  bind2 (m4_order_Of a0 a1) fun x1 x10 => bind2 (m5_quirref_Story a0 a1) fun x18 x27 => bind1 (m6_quirref_SameStory x1 x18) fun b35 => if b35 = true then some (decide (x10 = x27)) else some false
end
end Go.Proofs.Ytjdbjcmmdnpeaaa
