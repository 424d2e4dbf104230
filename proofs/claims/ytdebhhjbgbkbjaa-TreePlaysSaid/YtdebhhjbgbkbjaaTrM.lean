/-
  Models, printed by a program of mine.
  Conditions: none.
-/
import Derived.Test.YtdebhhjbgbkbjaaAr
import Derived.Test.YtdebhhjbgbkbjaaIk
namespace Go.Proofs.Ytdebhhjbgbkbjaa
open Go.S
set_option linter.unusedVariables false
structure Tnode where
  keys_ : (List Int)
  texts_ : (List (List UInt8))
  kids_ : (List Int)
  deriving DecidableEq, Inhabited
def Tnode.rowA (gP46 : Nat → Nat) (x : Tnode) (vs : List Value) : List Value := [gv vs 0, gv vs 1, gv vs 2]
def Tnode.subA (gP46 : Nat → Nat) (x : Tnode) (vs : List Value) : List As := [.sl (gv vs 0) 3 1 (x.keys_.map I), .sl (gv vs 1) 9 1 (x.texts_.map SR), .sl (gv vs 2) 42 1 (x.kids_.map (PR gP46))]
abbrev ar46 (gP46 : Nat → Nat) (gh : Nat → List Value) (l : List Tnode) (hs : List Nat) : As := arn (Tnode.rowA gP46) (Tnode.subA gP46) 46 gP46 gh l hs
abbrev Tnode.ok46 (n : Nat) (x : Tnode) : Prop := (∀ k ∈ x.kids_, k < n)
theorem Tnode.cg46 {gP46 : Nat → Nat} {n n' : Nat} {g' : Nat → Nat} {x : Tnode} {v : List Value} (h : Gr gP46 n g' n') (hx : x.ok46 n) : Tnode.rowA gP46 x v = Tnode.rowA g' x v ∧ Tnode.subA gP46 x v = Tnode.subA g' x v := by
  have h0 := hx
  constructor <;> simp only [Tnode.rowA, Tnode.subA, PR_up h h0]
structure TTree where
  root_ : Int
  n_ : Int
  deriving DecidableEq, Inhabited
def TTree.rowA (gP46 : Nat → Nat) (x : TTree) (vs : List Value) : List Value := [VP gP46 x.root_, .int .i64 x.n_]
def TTree.subA (gP46 : Nat → Nat) (x : TTree) (vs : List Value) : List As := []
abbrev ar48 (gP46 : Nat → Nat) (gP48 : Nat → Nat) (gh : Nat → List Value) (l : List TTree) (hs : List Nat) : As := arn (TTree.rowA gP46) (TTree.subA gP46) 48 gP48 gh l hs
abbrev TTree.ok46 (n : Nat) (x : TTree) : Prop := (x.root_ < n)
theorem TTree.cg46 {gP46 : Nat → Nat} {n n' : Nat} {g' : Nat → Nat} {x : TTree} {v : List Value} (h : Gr gP46 n g' n') (hx : x.ok46 n) : TTree.rowA gP46 x v = TTree.rowA g' x v ∧ TTree.subA gP46 x v = TTree.subA g' x v := by
  have h0 := hx
  constructor <;> simp only [TTree.rowA, TTree.subA, VP_up h h0]
theorem ar48_up46 {gP46 gP48 : Nat → Nat} {n n' : Nat} {g' : Nat → Nat} {gh : Nat → List Value} {l : List TTree} {hs : List Nat} (h : Gr gP46 n g' n') (hx : ∀ x ∈ l, TTree.ok46 n x) : ar48 gP46 gP48 gh l hs = ar48 g' gP48 gh l hs := arn_cg fun x hm v => TTree.cg46 h (hx x hm)
structure TKeyDeed where
  Kind : Int
  Key : Int
  Text : (List UInt8)
  deriving DecidableEq, Inhabited
def TKeyDeed.row (x : TKeyDeed) : List Value := [.int .i64 x.Kind, .int .i64 x.Key, st x.Text]
def m4_tree_New (A46 : (List Tnode)) (A48 : (List TTree)) : Option ((List Tnode) × (List TTree) × Int) :=
  bind1 (ck ((∀ x ∈ (A46 ++ [(⟨[], [], []⟩ : Tnode)]), Tnode.ok46 A46.length x) ∧ (∀ x ∈ A48, TTree.ok46 A46.length x))) fun _ => bind2 (newA A46 (⟨[], [], []⟩ : Tnode)) fun x4 l5 => bind2 (newA A48 (⟨x4, 0⟩ : TTree)) fun x11 l12 => some (l5, l12, x11)
def m23_cmp_isNaN_int (a0 : Int) : Option Bool :=
  some (decide (a0 ≠ a0))
def m13_cmp_Less_int_K1 (a0 : Int) (a1 : Int) (gb1 : Bool) : Option Bool :=
  if gb1 = true then some true else some (decide (a0 < a1))
def m13_cmp_Less_int (a0 : Int) (a1 : Int) : Option Bool :=
  bind1 (m23_cmp_isNaN_int a0) fun b1 => if b1 = true then bind1 (m23_cmp_isNaN_int a1) fun b3 => if b3 = true then m13_cmp_Less_int_K1 a0 a1 false else m13_cmp_Less_int_K1 a0 a1 true else m13_cmp_Less_int_K1 a0 a1 false
def m14_slices_isNaN_int (a0 : Int) : Option Bool :=
  some (decide (a0 ≠ a0))
def m5_slices_BinarySearch_int_K2 (gx1 : Int) (gb2 : Bool) : Option (Int × Bool) :=
  some (gx1, gb2)
def m5_slices_BinarySearch_int_K1 (a0 : (List Int)) (a1 : Int) (gx1 : Int) : Option (Int × Bool) :=
  if gx1 < (a0.length : Int) then bind1 (idx a0 gx1) fun x2 => if x2 = a1 then m5_slices_BinarySearch_int_K2 gx1 true else bind1 (idx a0 gx1) fun x4 => bind1 (m14_slices_isNaN_int x4) fun b5 => if b5 = true then bind1 (m14_slices_isNaN_int a1) fun b7 => m5_slices_BinarySearch_int_K2 gx1 b7 else m5_slices_BinarySearch_int_K2 gx1 false else m5_slices_BinarySearch_int_K2 gx1 false
def m5_slices_BinarySearch_int_K3 (gx3 : Int) (gx4 : Int) (a0 : (List Int)) (a1 : Int) (go1 : Int → Int → Option (Int × Bool)) : Option (Int × Bool) :=
  bind1 (i64 (gx3 + gx4)) fun x9 => bind1 (shrW .u64 (IntKind.wrap .u64 x9) 1) fun x10 => bind1 (idx a0 (IntKind.wrap .i64 x10)) fun x11 => bind1 (m13_cmp_Less_int x11 a1) fun b12 => if b12 = true then bind1 (i64 ((IntKind.wrap .i64 x10) + 1)) fun x14 => go1 x14 gx4 else go1 gx3 (IntKind.wrap .i64 x10)
def m5_slices_BinarySearch_int_L1B (go1 : Int → Int → Option (Int × Bool)) (a0 : (List Int)) (a1 : Int) (gx3 : Int) (gx4 : Int) : Option (Int × Bool) :=
  if gx3 < gx4 then m5_slices_BinarySearch_int_K3 gx3 gx4 a0 a1 go1 else m5_slices_BinarySearch_int_K1 a0 a1 gx3
def m5_slices_BinarySearch_int_L1 (a0 : (List Int)) (a1 : Int) : Nat → Int → Int → Option (Int × Bool)
  | 0, _, _ => none
  | n + 1, gx3, gx4 => m5_slices_BinarySearch_int_L1B (m5_slices_BinarySearch_int_L1 a0 a1 n) a0 a1 gx3 gx4
def m5_slices_BinarySearch_int (a0 : (List Int)) (a1 : Int) : Option (Int × Bool) :=
  m5_slices_BinarySearch_int_L1 a0 a1 big 0 (a0.length : Int)
def m24_sort_SearchInts_K1 (gx1 : Int) : Option Int :=
  some gx1
def m24_sort_SearchInts_K2 (gx2 : Int) : Option Int :=
  m24_sort_SearchInts_K1 gx2
def m24_sort_SearchInts_K4 (go1 : Int → Int → Option Int) (gx3 : Int) (x4 : Int) (gx4 : Int) (gb5 : Bool) : Option Int :=
  if gb5 = true then go1 gx3 (IntKind.wrap .i64 x4) else bind1 (i64 ((IntKind.wrap .i64 x4) + 1)) fun x5 => go1 x5 gx4
def m24_sort_SearchInts_K3 (gx3 : Int) (gx4 : Int) (a0 : (List Int)) (go1 : Int → Int → Option Int) (a1 : Int) : Option Int :=
  bind1 (i64 (gx3 + gx4)) fun x3 => bind1 (shrW .u64 (IntKind.wrap .u64 x3) 1) fun x4 => bind1 (idx a0 (IntKind.wrap .i64 x4)) fun x6 => m24_sort_SearchInts_K4 go1 gx3 x4 gx4 (decide (a1 ≤ x6))
def m24_sort_SearchInts_L1B (go1 : Int → Int → Option Int) (a0 : (List Int)) (a1 : Int) (gx3 : Int) (gx4 : Int) : Option Int :=
  if gx3 < gx4 then m24_sort_SearchInts_K3 gx3 gx4 a0 go1 a1 else m24_sort_SearchInts_K2 gx3
def m24_sort_SearchInts_L1 (a0 : (List Int)) (a1 : Int) : Nat → Int → Int → Option Int
  | 0, _, _ => none
  | n + 1, gx3, gx4 => m24_sort_SearchInts_L1B (m24_sort_SearchInts_L1 a0 a1 n) a0 a1 gx3 gx4
def m24_sort_SearchInts (a0 : (List Int)) (a1 : Int) : Option Int :=
  m24_sort_SearchInts_L1 a0 a1 big 0 (a0.length : Int)
def m15_tree_node_find (a0 : Int) (a1 : Int) (A46 : (List Tnode)) : Option (Int × Bool) :=
  bind1 (idx A46 a0) fun u1 => bind1 (m24_sort_SearchInts u1.keys_ a1) fun x2 => if x2 < (u1.keys_.length : Int) then bind1 (idx u1.keys_ x2) fun x5 => some (x2, decide (x5 = a1)) else some (x2, false)
/-- What is handed over from key i on: below it, and itself. -/
def eachGo (rec : Int → Int → List Tnode → Option (List (Int × List UInt8))) (a1 : Int) (A : List Tnode) (u : Tnode) : Nat → Int → Option (List (Int × List UInt8))
  | 0, _ => none
  | m + 1, i => if i ≤ (u.keys_.length : Int) then
      bind1 (if (0 : Int) < (u.kids_.length : Int) then bind1 (idx u.kids_ i) fun c => rec c a1 A else some []) fun s1 =>
      bind1 (if i < (u.keys_.length : Int) then bind1 (idx u.keys_ i) fun k => bind1 (idx u.texts_ i) fun t => some [(k, t)] else some []) fun s2 =>
      bind1 (i64 (i + 1)) fun j => bind1 (eachGo rec a1 A u m j) fun s3 => some (s1 ++ (s2 ++ s3))
    else some []
def mEach : Nat → Int → Int → List Tnode → Option (List (Int × List UInt8))
  | 0, _, _, _ => none
  | n + 1, a0, a1, A => bind1 (idx A a0) fun u => bind2 (m15_tree_node_find a0 a1 A) fun k _ => eachGo (mEach n) a1 A u big k
def m6_tree_Tree_Get_K1 (A46 : (List Tnode)) (gx1 : Int) (go1 : Int → Option ((List UInt8) × Int)) (gx2 : Int) (gb3 : Bool) : Option ((List UInt8) × Int) :=
  if gb3 = true then bind1 (idx A46 gx1) fun u5 => bind1 (idx u5.texts_ gx2) fun x6 => some (x6, 0) else bind1 (idx A46 gx1) fun u2 => if (u2.kids_.length : Int) = 0 then some ([], 6) else bind1 (idx u2.kids_ gx2) fun x4 => go1 x4
def m6_tree_Tree_Get_L1B (go1 : Int → Option ((List UInt8) × Int)) (a1 : Int) (A46 : (List Tnode)) (gx1 : Int) : Option ((List UInt8) × Int) :=
  bind2 (m15_tree_node_find gx1 a1 A46) fun x7 b8 => if b8 = true then m6_tree_Tree_Get_K1 A46 gx1 go1 x7 true else m6_tree_Tree_Get_K1 A46 gx1 go1 x7 false
def m6_tree_Tree_Get_L1 (a1 : Int) (A46 : (List Tnode)) : Nat → Int → Option ((List UInt8) × Int)
  | 0, _ => none
  | n + 1, gx1 => m6_tree_Tree_Get_L1B (m6_tree_Tree_Get_L1 a1 A46 n) a1 A46 gx1
def m6_tree_Tree_Get (a0 : Int) (a1 : Int) (A46 : (List Tnode)) (A48 : (List TTree)) : Option ((List UInt8) × Int) :=
  bind1 (idx A48 a0) fun u1 => m6_tree_Tree_Get_L1 a1 A46 big u1.root_
def m34_tree_node_right_K1 (a0 : Int) (H : (List Nat)) (x3 : Int) (x9 : Int) (a1 : Int) (x5 : Int) (gl1 : (List Tnode)) : Option (List Tnode) :=
  bind1 (idx gl1 a0) fun u10 => bind1 (ck (a0.toNat ∉ H)) fun _ => bind1 (idx gl1 x3) fun u12 => bind1 (ck (x3.toNat ∉ H)) fun _ => bind1 (ck (x3 ≠ a0)) fun _ => bind1 (idx u12.keys_ x9) fun x30 => bind1 (idx u12.texts_ x9) fun x31 => bind1 (idx u10.keys_ a1) fun x34 => bind1 (upd u10.keys_ a1 x30) fun l35 => bind1 (idx u10.texts_ a1) fun x38 => bind1 (upd u10.texts_ a1 x31) fun l39 => bind1 (cut u12.keys_ 0 x9) fun l56 => bind1 (cut u12.texts_ 0 x9) fun l59 => if 0 < (u12.kids_.length : Int) then bind1 (ck (a0.toNat ∉ H)) fun _ => bind1 (upd gl1 a0 (⟨l35, l39, u10.kids_⟩ : Tnode)) fun l63 => bind1 (idx l63 x5) fun u66 => bind1 (ck (x5.toNat ∉ H)) fun _ => bind1 (ck (x5 ≠ x3)) fun _ => bind1 (i64 (x9 + 1)) fun x84 => bind1 (idx u12.kids_ x84) fun x85 => bind1 (xInsR u66.kids_ 0 x85) fun l87 => bind1 (i64 (x9 + 1)) fun x90 => bind1 (cut u12.kids_ 0 x90) fun l91 => bind1 (ck (x5.toNat ∉ H)) fun _ => bind1 (upd l63 x5 (⟨u66.keys_, u66.texts_, l87⟩ : Tnode)) fun l94 => bind1 (ck (x3.toNat ∉ H)) fun _ => bind1 (upd l94 x3 (⟨l56, l59, l91⟩ : Tnode)) fun l98 => some l98 else bind1 (ck (x3.toNat ∉ H)) fun _ => bind1 (upd gl1 x3 (⟨l56, l59, u12.kids_⟩ : Tnode)) fun l101 => bind1 (ck (a0.toNat ∉ H)) fun _ => bind1 (upd l101 a0 (⟨l35, l39, u10.kids_⟩ : Tnode)) fun l105 => some l105
def m34_tree_node_right (a0 : Int) (a1 : Int) (A46 : (List Tnode)) (H : (List Nat)) : Option (List Tnode) :=
  bind1 (idx A46 a0) fun u1 => bind1 (ck (a0.toNat ∉ H)) fun _ => bind1 (idx u1.kids_ a1) fun x3 => bind1 (i64 (a1 + 1)) fun x4 => bind1 (idx u1.kids_ x4) fun x5 => bind1 (ck (a0.toNat ∉ H)) fun _ => bind1 (idx A46 x3) fun u7 => bind1 (ck (x3.toNat ∉ H)) fun _ => bind1 (i64 ((u7.keys_.length : Int) - 1)) fun x9 => bind1 (ck (x3.toNat ∉ H)) fun _ => bind1 (idx A46 x5) fun u108 => bind1 (ck (x5.toNat ∉ H)) fun _ => bind1 (idx A46 a0) fun u110 => bind1 (ck (a0.toNat ∉ H)) fun _ => bind1 (ck (a0 ≠ x5)) fun _ => bind1 (idx u110.keys_ a1) fun x140 => bind1 (idx u110.texts_ a1) fun x141 => bind1 (xInsR u108.keys_ 0 x140) fun l143 => bind1 (xInsR u108.texts_ 0 x141) fun l146 => bind1 (ck (a0.toNat ∉ H)) fun _ => bind1 (ck (x5.toNat ∉ H)) fun _ => bind1 (upd A46 x5 (⟨l143, l146, u108.kids_⟩ : Tnode)) fun l152 => m34_tree_node_right_K1 a0 H x3 x9 a1 x5 l152
def m35_tree_node_left_K1 (a0 : Int) (H : (List Nat)) (x5 : Int) (a1 : Int) (x3 : Int) (gl1 : (List Tnode)) : Option (List Tnode) :=
  bind1 (idx gl1 a0) fun u6 => bind1 (ck (a0.toNat ∉ H)) fun _ => bind1 (idx gl1 x5) fun u8 => bind1 (ck (x5.toNat ∉ H)) fun _ => bind1 (ck (x5 ≠ a0)) fun _ => bind1 (idx u8.keys_ 0) fun x26 => bind1 (idx u8.texts_ 0) fun x27 => bind1 (idx u6.keys_ a1) fun x30 => bind1 (upd u6.keys_ a1 x26) fun l31 => bind1 (idx u6.texts_ a1) fun x34 => bind1 (upd u6.texts_ a1 x27) fun l35 => bind1 (xDelR u8.keys_ 0 1) fun l52 => bind1 (xDelR u8.texts_ 0 1) fun l54 => if 0 < (u8.kids_.length : Int) then bind1 (ck (a0.toNat ∉ H)) fun _ => bind1 (upd gl1 a0 (⟨l31, l35, u6.kids_⟩ : Tnode)) fun l60 => bind1 (idx l60 x3) fun u63 => bind1 (ck (x3.toNat ∉ H)) fun _ => bind1 (ck (x3 ≠ x5)) fun _ => bind1 (idx u8.kids_ 0) fun x79 => bind1 (app u63.kids_ ([x79])) fun l82 => bind1 (xDelR u8.kids_ 0 1) fun l84 => bind1 (ck (x3.toNat ∉ H)) fun _ => bind1 (upd l60 x3 (⟨u63.keys_, u63.texts_, l82⟩ : Tnode)) fun l87 => bind1 (ck (x5.toNat ∉ H)) fun _ => bind1 (upd l87 x5 (⟨l52, l54, l84⟩ : Tnode)) fun l91 => some l91 else bind1 (ck (x5.toNat ∉ H)) fun _ => bind1 (upd gl1 x5 (⟨l52, l54, u8.kids_⟩ : Tnode)) fun l94 => bind1 (ck (a0.toNat ∉ H)) fun _ => bind1 (upd l94 a0 (⟨l31, l35, u6.kids_⟩ : Tnode)) fun l98 => some l98
def m35_tree_node_left (a0 : Int) (a1 : Int) (A46 : (List Tnode)) (H : (List Nat)) : Option (List Tnode) :=
  bind1 (idx A46 a0) fun u1 => bind1 (ck (a0.toNat ∉ H)) fun _ => bind1 (idx u1.kids_ a1) fun x3 => bind1 (i64 (a1 + 1)) fun x4 => bind1 (idx u1.kids_ x4) fun x5 => bind1 (idx A46 x3) fun u100 => bind1 (ck (x3.toNat ∉ H)) fun _ => bind1 (ck (x3 ≠ a0)) fun _ => bind1 (idx u1.keys_ a1) fun x130 => bind1 (idx u1.texts_ a1) fun x131 => bind1 (app u100.keys_ ([x130])) fun l134 => bind1 (app u100.texts_ ([x131])) fun l137 => bind1 (ck (x3.toNat ∉ H)) fun _ => bind1 (upd A46 x3 (⟨l134, l137, u100.kids_⟩ : Tnode)) fun l141 => bind1 (ck (a0.toNat ∉ H)) fun _ => m35_tree_node_left_K1 a0 H x5 a1 x3 l141
def m36_tree_node_join (a0 : Int) (a1 : Int) (A46 : (List Tnode)) (H : (List Nat)) : Option (List Tnode) :=
  bind1 (idx A46 a0) fun u1 => bind1 (ck (a0.toNat ∉ H)) fun _ => bind1 (idx u1.kids_ a1) fun x3 => bind1 (i64 (a1 + 1)) fun x4 => bind1 (idx u1.kids_ x4) fun x5 => bind1 (idx A46 x3) fun u6 => bind1 (ck (x3.toNat ∉ H)) fun _ => bind1 (ck (x3 ≠ a0)) fun _ => bind1 (idx A46 x5) fun u9 => bind1 (ck (x5.toNat ∉ H)) fun _ => bind1 (ck (x5 ≠ a0)) fun _ => bind1 (ck (x5 ≠ x3)) fun _ => bind1 (idx u1.keys_ a1) fun x35 => bind1 (app u6.keys_ ([x35])) fun l38 => bind1 (app l38 u9.keys_) fun l40 => bind1 (idx u1.texts_ a1) fun x64 => bind1 (app u6.texts_ ([x64])) fun l67 => bind1 (app l67 u9.texts_) fun l69 => bind1 (app u6.kids_ u9.kids_) fun l81 => bind1 (i64 (a1 + 1)) fun x105 => bind1 (i64 (a1 + 1)) fun x106 => bind1 (xDelR u1.keys_ a1 x105) fun l107 => bind1 (xDelR u1.texts_ a1 x106) fun l109 => bind1 (i64 (a1 + 1)) fun x113 => bind1 (i64 (a1 + 2)) fun x114 => bind1 (xDelR u1.kids_ x113 x114) fun l115 => bind1 (ck (x5.toNat ∉ H)) fun _ => bind1 (ck (x3.toNat ∉ H)) fun _ => bind1 (upd A46 x3 (⟨l40, l69, l81⟩ : Tnode)) fun l119 => bind1 (ck (a0.toNat ∉ H)) fun _ => bind1 (upd l119 a0 (⟨l107, l109, l115⟩ : Tnode)) fun l123 => some l123
def m27_tree_node_mend_K3 (a0 : Int) (a1 : Int) (A46 : (List Tnode)) (H : (List Nat)) (gb2 : Bool) : Option (List Tnode) :=
  if gb2 = true then bind1 (m35_tree_node_left a0 a1 A46 H) fun l9 => some l9 else if 0 < a1 then bind1 (i64 (a1 - 1)) fun x2 => bind1 (m36_tree_node_join a0 x2 A46 H) fun l3 => some l3 else bind1 (m36_tree_node_join a0 a1 A46 H) fun l6 => some l6
def m27_tree_node_mend_K2 (a1 : Int) (a0 : Int) (A46 : (List Tnode)) (H : (List Nat)) (gb1 : Bool) : Option (List Tnode) :=
  if gb1 = true then bind1 (i64 (a1 - 1)) fun x26 => bind1 (m34_tree_node_right a0 x26 A46 H) fun l27 => some l27 else bind1 (idx A46 a0) fun u12 => bind1 (ck (a0.toNat ∉ H)) fun _ => if a1 < (u12.keys_.length : Int) then bind1 (i64 (a1 + 1)) fun x15 => bind1 (idx u12.kids_ x15) fun x16 => bind1 (idx A46 x16) fun u17 => bind1 (ck (x16.toNat ∉ H)) fun _ => bind1 (ck (x16 ≠ a0)) fun _ => if 2 < (u17.keys_.length : Int) then bind1 (ck (x16.toNat ∉ H)) fun _ => bind1 (ck (a0.toNat ∉ H)) fun _ => m27_tree_node_mend_K3 a0 a1 A46 H true else bind1 (ck (x16.toNat ∉ H)) fun _ => bind1 (ck (a0.toNat ∉ H)) fun _ => m27_tree_node_mend_K3 a0 a1 A46 H false else bind1 (ck (a0.toNat ∉ H)) fun _ => m27_tree_node_mend_K3 a0 a1 A46 H false
def m27_tree_node_mend_K1 (a1 : Int) (A46 : (List Tnode)) (a0 : Int) (H : (List Nat)) : Option (List Tnode) :=
  if 0 < a1 then bind1 (idx A46 a0) fun u31 => bind1 (ck (a0.toNat ∉ H)) fun _ => bind1 (i64 (a1 - 1)) fun x33 => bind1 (idx u31.kids_ x33) fun x34 => bind1 (idx A46 x34) fun u35 => bind1 (ck (x34.toNat ∉ H)) fun _ => bind1 (ck (x34 ≠ a0)) fun _ => if 2 < (u35.keys_.length : Int) then bind1 (ck (x34.toNat ∉ H)) fun _ => bind1 (ck (a0.toNat ∉ H)) fun _ => m27_tree_node_mend_K2 a1 a0 A46 H true else bind1 (ck (x34.toNat ∉ H)) fun _ => bind1 (ck (a0.toNat ∉ H)) fun _ => m27_tree_node_mend_K2 a1 a0 A46 H false else m27_tree_node_mend_K2 a1 a0 A46 H false
def m27_tree_node_mend (a0 : Int) (a1 : Int) (A46 : (List Tnode)) (H : (List Nat)) : Option (List Tnode) :=
  bind1 (idx A46 a0) fun u43 => bind1 (ck (a0.toNat ∉ H)) fun _ => bind1 (idx u43.kids_ a1) fun x45 => bind1 (ck (a0.toNat ∉ H)) fun _ => bind1 (idx A46 x45) fun u47 => bind1 (ck (x45.toNat ∉ H)) fun _ => if 2 ≤ (u47.keys_.length : Int) then bind1 (ck (x45.toNat ∉ H)) fun _ => some A46 else bind1 (ck (x45.toNat ∉ H)) fun _ => m27_tree_node_mend_K1 a1 A46 a0 H
def m26_tree_node_last_K1 (A46 : (List Tnode)) (a0 : Int) (H : (List Nat)) (x3 : Int) (rec : Int → (List Tnode) → (List Nat) → Option ((List Tnode) × Int × (List UInt8))) : Option ((List Tnode) × Int × (List UInt8)) :=
  bind1 (idx A46 a0) fun u4 => bind1 (ck (a0.toNat ∉ H)) fun _ => bind1 (i64 (x3 + 1)) fun x6 => bind1 (idx u4.kids_ x6) fun x7 => bind1 (ck (a0.toNat ∉ H)) fun _ => bind3 (rec x7 A46 H) fun l9 x10 s11 => bind1 (i64 (x3 + 1)) fun x14 => bind1 (m27_tree_node_mend a0 x14 l9 H) fun l15 => some (l15, x10, s11)
def m26_tree_node_lastB (rec : Int → (List Tnode) → (List Nat) → Option ((List Tnode) × Int × (List UInt8))) (a0 : Int) (A46 : (List Tnode)) (H : (List Nat)) : Option ((List Tnode) × Int × (List UInt8)) :=
  bind1 (idx A46 a0) fun u1 => bind1 (ck (a0.toNat ∉ H)) fun _ => bind1 (i64 ((u1.keys_.length : Int) - 1)) fun x3 => if (u1.kids_.length : Int) = 0 then bind1 (idx u1.keys_ x3) fun x19 => bind1 (idx u1.texts_ x3) fun x20 => bind1 (cut u1.keys_ 0 x3) fun l37 => bind1 (cut u1.texts_ 0 x3) fun l40 => bind1 (ck (a0.toNat ∉ H)) fun _ => bind1 (upd A46 a0 (⟨l37, l40, u1.kids_⟩ : Tnode)) fun l43 => some (l43, x19, x20) else bind1 (ck (a0.toNat ∉ H)) fun _ => m26_tree_node_last_K1 A46 a0 H x3 rec
def m26_tree_node_lastR : Nat → Int → (List Tnode) → (List Nat) → Option ((List Tnode) × Int × (List UInt8))
  | 0, _, _, _ => none
  | n + 1, a0, A46, H => m26_tree_node_lastB (m26_tree_node_lastR n) a0 A46 H
def m26_tree_node_last (a0 : Int) (A46 : (List Tnode)) (H : (List Nat)) : Option ((List Tnode) × Int × (List UInt8)) := m26_tree_node_lastR big a0 A46 H
def m16_tree_node_drop_K2 (a0 : Int) (gx1 : Int) (gl3 : (List Tnode)) : Option (List Tnode) :=
  bind1 (m27_tree_node_mend a0 gx1 gl3 []) fun l42 => some l42
def m16_tree_node_drop_K3 (A46 : (List Tnode)) (a0 : Int) (gx1 : Int) (gb5 : Bool) : Option (List Tnode) :=
  if gb5 = true then bind1 (idx A46 a0) fun u436 => bind1 (i64 (gx1 + 1)) fun x459 => bind1 (i64 (gx1 + 1)) fun x460 => bind1 (xDelR u436.keys_ gx1 x459) fun l461 => bind1 (xDelR u436.texts_ gx1 x460) fun l463 => bind1 (upd A46 a0 (⟨l461, l463, u436.kids_⟩ : Tnode)) fun l467 => some l467 else bind1 (idx A46 a0) fun u45 => bind1 (idx u45.kids_ gx1) fun x122 => bind3 (m26_tree_node_last x122 A46 (a0.toNat :: [])) fun l123 x124 s125 => bind1 (idx u45.keys_ gx1) fun x131 => bind1 (upd u45.keys_ gx1 x124) fun l132 => bind1 (idx u45.texts_ gx1) fun x135 => bind1 (upd u45.texts_ gx1 s125) fun l136 => bind1 (upd l123 a0 (⟨l132, l136, u45.kids_⟩ : Tnode)) fun l137 => m16_tree_node_drop_K2 a0 gx1 l137
def m16_tree_node_drop_K1 (A46 : (List Tnode)) (a0 : Int) (rec : Int → Int → (List Tnode) → Option (List Tnode)) (a1 : Int) (gx1 : Int) (gb2 : Bool) : Option (List Tnode) :=
  if gb2 = true then bind1 (idx A46 a0) fun u469 => if (u469.kids_.length : Int) = 0 then m16_tree_node_drop_K3 A46 a0 gx1 true else m16_tree_node_drop_K3 A46 a0 gx1 false else bind1 (idx A46 a0) fun u1 => if (u1.kids_.length : Int) = 0 then bind1 (i64 (gx1 + 1)) fun x25 => bind1 (i64 (gx1 + 1)) fun x26 => bind1 (xDelR u1.keys_ gx1 x25) fun l27 => bind1 (xDelR u1.texts_ gx1 x26) fun l29 => bind1 (upd A46 a0 (⟨l27, l29, u1.kids_⟩ : Tnode)) fun l33 => some l33 else bind1 (idx u1.kids_ gx1) fun x35 => bind1 (rec x35 a1 A46) fun l36 => bind1 (m27_tree_node_mend a0 gx1 l36 []) fun l39 => some l39
def m16_tree_node_dropB (rec : Int → Int → (List Tnode) → Option (List Tnode)) (a0 : Int) (a1 : Int) (A46 : (List Tnode)) : Option (List Tnode) :=
  bind2 (m15_tree_node_find a0 a1 A46) fun x471 b472 => if b472 = true then m16_tree_node_drop_K1 A46 a0 rec a1 x471 true else m16_tree_node_drop_K1 A46 a0 rec a1 x471 false
def m16_tree_node_dropR : Nat → Int → Int → (List Tnode) → Option (List Tnode)
  | 0, _, _, _ => none
  | n + 1, a0, a1, A46 => m16_tree_node_dropB (m16_tree_node_dropR n) a0 a1 A46
def m16_tree_node_drop (a0 : Int) (a1 : Int) (A46 : (List Tnode)) : Option (List Tnode) := m16_tree_node_dropR big a0 a1 A46
def m7_tree_Tree_Drop_K1 (A48 : (List TTree)) (a0 : Int) (a1 : Int) (A46 : (List Tnode)) : Option ((List Tnode) × (List TTree) × Int) :=
  bind1 (idx A48 a0) fun u1 => bind1 (m16_tree_node_drop u1.root_ a1 A46) fun l2 => bind1 (idx A48 a0) fun u5 => bind1 (i64 (u5.n_ - 1)) fun x6 => bind1 (upd A48 a0 (⟨u5.root_, x6⟩ : TTree)) fun l7 => bind1 (idx l2 u5.root_) fun u9 => if (u9.keys_.length : Int) = 0 then bind1 (idx l7 a0) fun u11 => bind1 (idx l2 u11.root_) fun u12 => if 0 < (u12.kids_.length : Int) then bind1 (idx l7 a0) fun u14 => bind1 (idx l2 u14.root_) fun u15 => bind1 (idx u15.kids_ 0) fun x16 => bind1 (idx l7 a0) fun u17 => bind1 (upd l7 a0 (⟨x16, u17.n_⟩ : TTree)) fun l18 => some (l2, l18, 0) else some (l2, l7, 0) else some (l2, l7, 0)
def m7_tree_Tree_Drop (a0 : Int) (a1 : Int) (A46 : (List Tnode)) (A48 : (List TTree)) : Option ((List Tnode) × (List TTree) × Int) :=
  bind2 (m6_tree_Tree_Get a0 a1 A46 A48) fun s20 x21 => if x21 ≠ 0 then some (A46, A48, x21) else m7_tree_Tree_Drop_K1 A48 a0 a1 A46
def m39_slices_Clone_int (a0 : (List Int)) : Option (List Int) :=
  bind1 (app [] a0) fun l3 => some l3
def m40_slices_Clone_string (a0 : (List (List UInt8))) : Option (List (List UInt8)) :=
  bind1 (app [] a0) fun l3 => some l3
def m41_tree_node (a0 : (List Int)) : Option (List Int) :=
  bind1 (app [] a0) fun l3 => some l3
def m29_tree_node_split (a0 : Int) (A46 : (List Tnode)) : Option ((List Tnode) × Int) :=
  bind1 (idx A46 a0) fun u1 => bind1 (divW .i64 (u1.keys_.length : Int) 2) fun x2 => bind1 (i64 (x2 + 1)) fun x4 => bind1 (cut u1.keys_ x4 u1.keys_.length) fun l5 => bind1 (i64 (x2 + 1)) fun x6 => bind1 (cut u1.texts_ x6 u1.texts_.length) fun l7 => bind1 (m39_slices_Clone_int l5) fun l8 => bind1 (m40_slices_Clone_string l7) fun l11 => bind1 (i64 (x2 + 1)) fun x38 => bind1 (cut u1.keys_ 0 x38) fun l40 => bind1 (i64 (x2 + 1)) fun x42 => bind1 (cut u1.texts_ 0 x42) fun l44 => if 0 < (u1.kids_.length : Int) then bind1 (i64 (x2 + 1)) fun x47 => bind1 (cut u1.kids_ x47 u1.kids_.length) fun l48 => bind1 (m41_tree_node l48) fun l49 => bind1 (i64 (x2 + 1)) fun x52 => bind1 (cut u1.kids_ 0 x52) fun l53 => bind1 (ck ((∀ x ∈ (A46 ++ [(⟨l8, l11, l49⟩ : Tnode)]), Tnode.ok46 A46.length x) ∧ (∀ k ∈ l53, k < A46.length) ∧ (a0 < A46.length))) fun _ => bind2 (newA A46 (⟨l8, l11, l49⟩ : Tnode)) fun x57 l58 => bind1 (upd l58 a0 (⟨l40, l44, l53⟩ : Tnode)) fun l63 => some (l63, x57) else bind1 (ck ((∀ x ∈ (A46 ++ [(⟨l8, l11, []⟩ : Tnode)]), Tnode.ok46 A46.length x) ∧ (∀ k ∈ u1.kids_, k < A46.length) ∧ (a0 < A46.length))) fun _ => bind2 (newA A46 (⟨l8, l11, []⟩ : Tnode)) fun x67 l68 => bind1 (upd l68 a0 (⟨l40, l44, u1.kids_⟩ : Tnode)) fun l73 => some (l73, x67)
def m18_tree_node_lift_K1 (a0 : Int) (A46 : (List Tnode)) (x2 : Int) (a1 : Int) : Option (List Tnode) :=
  bind1 (ck ((a0 < A46.length) ∧ (x2 < A46.length))) fun _ => bind2 (m29_tree_node_split x2 A46) fun l4 x5 => bind1 (idx l4 x2) fun u9 => bind1 (i64 ((u9.keys_.length : Int) - 1)) fun x10 => bind1 (idx l4 a0) fun u11 => bind1 (ck (a0 ≠ x2)) fun _ => bind1 (idx u9.keys_ x10) fun x26 => bind1 (xInsR u11.keys_ a1 x26) fun l28 => bind1 (idx u9.texts_ x10) fun x44 => bind1 (xInsR u11.texts_ a1 x44) fun l46 => bind1 (i64 (a1 + 1)) fun x49 => bind1 (xInsR u11.kids_ x49 x5) fun l51 => bind1 (cut u9.keys_ 0 x10) fun l69 => bind1 (cut u9.texts_ 0 x10) fun l72 => bind1 (upd l4 a0 (⟨l28, l46, l51⟩ : Tnode)) fun l74 => bind1 (upd l74 x2 (⟨l69, l72, u9.kids_⟩ : Tnode)) fun l77 => some l77
def m18_tree_node_lift (a0 : Int) (a1 : Int) (A46 : (List Tnode)) : Option (List Tnode) :=
  bind1 (idx A46 a0) fun u1 => bind1 (idx u1.kids_ a1) fun x2 => bind1 (idx A46 x2) fun u79 => if (u79.keys_.length : Int) ≤ 4 then some A46 else m18_tree_node_lift_K1 a0 A46 x2 a1
def m17_tree_node_put_K2 (A46 : (List Tnode)) (a0 : Int) (gx1 : Int) (rec : Int → Int → (List UInt8) → (List Tnode) → Option ((List Tnode) × Bool)) (a1 : Int) (a2 : (List UInt8)) : Option ((List Tnode) × Bool) :=
  bind1 (idx A46 a0) fun u1 => bind1 (idx u1.kids_ gx1) fun x2 => bind1 (ck (a0 < A46.length)) fun _ => bind2 (rec x2 a1 a2 A46) fun l4 b5 => bind1 (m18_tree_node_lift a0 gx1 l4) fun l9 => some (l9, b5)
def m17_tree_node_put_K1 (A46 : (List Tnode)) (a0 : Int) (a2 : (List UInt8)) (a1 : Int) (rec : Int → Int → (List UInt8) → (List Tnode) → Option ((List Tnode) × Bool)) (gx1 : Int) (gb2 : Bool) : Option ((List Tnode) × Bool) :=
  if gb2 = true then bind1 (idx A46 a0) fun u23 => bind1 (idx u23.texts_ gx1) fun x24 => bind1 (upd u23.texts_ gx1 a2) fun l25 => bind1 (upd A46 a0 (⟨u23.keys_, l25, u23.kids_⟩ : Tnode)) fun l26 => some (l26, false) else bind1 (idx A46 a0) fun u13 => if (u13.kids_.length : Int) = 0 then bind1 (xInsR u13.keys_ gx1 a1) fun l16 => bind1 (xInsR u13.texts_ gx1 a2) fun l19 => bind1 (upd A46 a0 (⟨l16, l19, u13.kids_⟩ : Tnode)) fun l21 => some (l21, true) else m17_tree_node_put_K2 A46 a0 gx1 rec a1 a2
def m17_tree_node_putB (rec : Int → Int → (List UInt8) → (List Tnode) → Option ((List Tnode) × Bool)) (a0 : Int) (a1 : Int) (a2 : (List UInt8)) (A46 : (List Tnode)) : Option ((List Tnode) × Bool) :=
  bind2 (m15_tree_node_find a0 a1 A46) fun x28 b29 => if b29 = true then m17_tree_node_put_K1 A46 a0 a2 a1 rec x28 true else m17_tree_node_put_K1 A46 a0 a2 a1 rec x28 false
def m17_tree_node_putR : Nat → Int → Int → (List UInt8) → (List Tnode) → Option ((List Tnode) × Bool)
  | 0, _, _, _, _ => none
  | n + 1, a0, a1, a2, A46 => m17_tree_node_putB (m17_tree_node_putR n) a0 a1 a2 A46
def m17_tree_node_put (a0 : Int) (a1 : Int) (a2 : (List UInt8)) (A46 : (List Tnode)) : Option ((List Tnode) × Bool) := m17_tree_node_putR big a0 a1 a2 A46
def m9_tree_Tree_Put_K2 (a0 : Int) (gl2 : (List Tnode)) (gl5 : (List TTree)) : Option ((List Tnode) × (List TTree) × Int) :=
  bind1 (idx gl5 a0) fun u1 => bind1 (idx gl2 u1.root_) fun u2 => if 4 < (u2.keys_.length : Int) then bind1 (idx gl5 a0) fun u4 => bind1 (ck ((∀ x ∈ (gl2 ++ [(⟨[], [], [u4.root_]⟩ : Tnode)]), Tnode.ok46 gl2.length x) ∧ (∀ x ∈ gl5, TTree.ok46 gl2.length x) ∧ (u4.root_ < gl2.length))) fun _ => bind2 (newA gl2 (⟨[], [], [u4.root_]⟩ : Tnode)) fun x9 l10 => bind1 (upd gl5 a0 (⟨x9, u4.n_⟩ : TTree)) fun l14 => bind1 (ck (∀ x ∈ l14, TTree.ok46 l10.length x)) fun _ => bind1 (m18_tree_node_lift x9 0 l10) fun l17 => some (l17, l14, 0) else some (gl2, gl5, 0)
def m9_tree_Tree_Put_K1 (A48 : (List TTree)) (a0 : Int) (A46 : (List Tnode)) (a1 : Int) (a2 : (List UInt8)) : Option ((List Tnode) × (List TTree) × Int) :=
  bind1 (idx A48 a0) fun u21 => bind1 (ck (∀ x ∈ A48, TTree.ok46 A46.length x)) fun _ => bind2 (m17_tree_node_put u21.root_ a1 a2 A46) fun l23 b24 => if b24 = true then bind1 (idx A48 a0) fun u28 => bind1 (i64 (u28.n_ + 1)) fun x29 => bind1 (upd A48 a0 (⟨u28.root_, x29⟩ : TTree)) fun l30 => m9_tree_Tree_Put_K2 a0 l23 l30 else m9_tree_Tree_Put_K2 a0 l23 A48
def m9_tree_Tree_Put (a0 : Int) (a1 : Int) (a2 : (List UInt8)) (A46 : (List Tnode)) (A48 : (List TTree)) : Option ((List Tnode) × (List TTree) × Int) :=
  bind2 (m6_tree_Tree_Get a0 a1 A46 A48) fun s32 x33 => if x33 ≠ 0 then bind1 (idx A48 a0) fun u36 => if 2000 ≤ u36.n_ then some (A46, A48, 8) else m9_tree_Tree_Put_K1 A48 a0 A46 a1 a2 else m9_tree_Tree_Put_K1 A48 a0 A46 a1 a2
def m12_tree_Tree_Len (a0 : Int) (A48 : (List TTree)) : Option Int :=
  bind1 (idx A48 a0) fun u1 => some u1.n_
def m3_quirlaw_TreePlays_R1B (go1 : Int → Option Bool) (gl8 : (List Int)) (gl6 : (List (Int × (List UInt8)))) (x4 : Int) (gl4 : (List TTree)) (x17 : (Int × (List UInt8))) (gx11 : Int) : Option Bool :=
  if (decide ((gl8.length : Int) ≤ gx11)) = true then none else bind1 (idx gl8 gx11) fun x20 => if (decide (x17.1 ≠ x20)) = true then none else if (decide (x17.2 ≠ (mget gl6 x17.1 []))) = true then none else bind1 (i64 (gx11 + 1)) fun x21 => go1 x21
def m3_quirlaw_TreePlays_R1 (gl8 : (List Int)) (gl6 : (List (Int × (List UInt8)))) (x4 : Int) (gl4 : (List TTree)) : (List (Int × (List UInt8))) → Int → Option Bool
  | [], gx11 => if gx11 = (gl8.length : Int) then bind1 (m12_tree_Tree_Len x4 gl4) fun x29 => some (decide (x29 = (gl8.length : Int))) else some false
  | x17 :: rest, gx11 => m3_quirlaw_TreePlays_R1B (m3_quirlaw_TreePlays_R1 gl8 gl6 x4 gl4 rest) gl8 gl6 x4 gl4 x17 gx11
def m3_quirlaw_TreePlays_K3 (gl4 : (List TTree)) (x4 : Int) (a1 : Int) (gl2 : (List Tnode)) (gl8 : (List Int)) (gl6 : (List (Int × (List UInt8)))) (x13 : Int) : Option Bool :=
  bind1 (idx gl4 x4) fun u18 => bind1 (mEach big u18.root_ a1 gl2) fun l19 => m3_quirlaw_TreePlays_R1 gl8 gl6 x4 gl4 l19 x13
def m3_quirlaw_TreePlays_K2 (a1 : Int) (x4 : Int) (gl2 : (List Tnode)) (gl4 : (List TTree)) (gl6 : (List (Int × (List UInt8)))) (gl8 : (List Int)) : Option Bool :=
  bind2 (m5_slices_BinarySearch_int gl8 a1) fun x13 b14 => m3_quirlaw_TreePlays_K3 gl4 x4 a1 gl2 gl8 gl6 x13
def m3_quirlaw_TreePlays_K4 (gx12 : Int) (go2 : Int → (List Tnode) → (List TTree) → (List (Int × (List UInt8))) → (List Int) → Option Bool) (gl22 : (List Tnode)) (gl24 : (List TTree)) (gl26 : (List (Int × (List UInt8)))) (gl28 : (List Int)) : Option Bool :=
  bind1 (i64 (gx12 + 1)) fun x35 => go2 x35 gl22 gl24 gl26 gl28
def m3_quirlaw_TreePlays_K9 (gl20 : (List Int)) (gx29 : Int) (x36 : TKeyDeed) (gl18 : (List (Int × (List UInt8)))) (gx12 : Int) (go2 : Int → (List Tnode) → (List TTree) → (List (Int × (List UInt8))) → (List Int) → Option Bool) (l41 : (List Tnode)) (l42 : (List TTree)) : Option Bool :=
  bind1 (xInsR gl20 gx29 x36.Key) fun l49 => bind1 (some (mset gl18 x36.Key x36.Text)) fun l51 => m3_quirlaw_TreePlays_K4 gx12 go2 l41 l42 (mset gl18 x36.Key x36.Text) l49
def m3_quirlaw_TreePlays_K8 (x43 : Int) (gl20 : (List Int)) (gx29 : Int) (x36 : TKeyDeed) (gl18 : (List (Int × (List UInt8)))) (gx12 : Int) (go2 : Int → (List Tnode) → (List TTree) → (List (Int × (List UInt8))) → (List Int) → Option Bool) (l41 : (List Tnode)) (l42 : (List TTree)) : Option Bool :=
  if x43 ≠ 0 then some false else m3_quirlaw_TreePlays_K9 gl20 gx29 x36 gl18 gx12 go2 l41 l42
def m3_quirlaw_TreePlays_K7 (x4 : Int) (x36 : TKeyDeed) (gl14 : (List Tnode)) (gl16 : (List TTree)) (gl20 : (List Int)) (gx12 : Int) (go2 : Int → (List Tnode) → (List TTree) → (List (Int × (List UInt8))) → (List Int) → Option Bool) (gl18 : (List (Int × (List UInt8)))) (gx29 : Int) : Option Bool :=
  bind3 (m9_tree_Tree_Put x4 x36.Key x36.Text gl14 gl16) fun l41 l42 x43 => if (gl20.length : Int) = 2000 then if x43 ≠ 8 then some false else m3_quirlaw_TreePlays_K4 gx12 go2 l41 l42 gl18 gl20 else m3_quirlaw_TreePlays_K8 x43 gl20 gx29 x36 gl18 gx12 go2 l41 l42
def m3_quirlaw_TreePlays_K6 (x36 : TKeyDeed) (x4 : Int) (gl14 : (List Tnode)) (gl16 : (List TTree)) (gx12 : Int) (go2 : Int → (List Tnode) → (List TTree) → (List (Int × (List UInt8))) → (List Int) → Option Bool) (gl18 : (List (Int × (List UInt8)))) (gl20 : (List Int)) (gx29 : Int) : Option Bool :=
  bind1 (modW x36.Kind 3) fun x55 => if x55 = 0 then bind3 (m7_tree_Tree_Drop x4 x36.Key gl14 gl16) fun l57 l58 x59 => if (!(false == (decide (x59 = 0)))) = true then some false else if x59 ≠ 6 then some false else m3_quirlaw_TreePlays_K4 gx12 go2 l57 l58 gl18 gl20 else m3_quirlaw_TreePlays_K7 x4 x36 gl14 gl16 gl20 gx12 go2 gl18 gx29
def m3_quirlaw_TreePlays_K10 (x36 : TKeyDeed) (x4 : Int) (gl14 : (List Tnode)) (gl16 : (List TTree)) (gx12 : Int) (go2 : Int → (List Tnode) → (List TTree) → (List (Int × (List UInt8))) → (List Int) → Option Bool) (gl18 : (List (Int × (List UInt8)))) (gl20 : (List Int)) (gx29 : Int) (gb31 : Bool) : Option Bool :=
  if gb31 = true then some false else m3_quirlaw_TreePlays_K6 x36 x4 gl14 gl16 gx12 go2 gl18 gl20 gx29
def m3_quirlaw_TreePlays_K12 (x4 : Int) (x36 : TKeyDeed) (gl14 : (List Tnode)) (gl16 : (List TTree)) (gl18 : (List (Int × (List UInt8)))) (gx12 : Int) (go2 : Int → (List Tnode) → (List TTree) → (List (Int × (List UInt8))) → (List Int) → Option Bool) (gl20 : (List Int)) : Option Bool :=
  bind3 (m9_tree_Tree_Put x4 x36.Key x36.Text gl14 gl16) fun l70 l71 x72 => if x72 ≠ 0 then some false else bind1 (some (mset gl18 x36.Key x36.Text)) fun l78 => m3_quirlaw_TreePlays_K4 gx12 go2 l70 l71 (mset gl18 x36.Key x36.Text) gl20
def m3_quirlaw_TreePlays_K11 (x36 : TKeyDeed) (x4 : Int) (gl14 : (List Tnode)) (gl16 : (List TTree)) (gx29 : Int) (gl20 : (List Int)) (gx12 : Int) (go2 : Int → (List Tnode) → (List TTree) → (List (Int × (List UInt8))) → (List Int) → Option Bool) (gl18 : (List (Int × (List UInt8)))) : Option Bool :=
  bind1 (modW x36.Kind 3) fun x79 => if x79 = 0 then bind3 (m7_tree_Tree_Drop x4 x36.Key gl14 gl16) fun l81 l82 x83 => if (!(true == (decide (x83 = 0)))) = true then some false else bind1 (i64 (gx29 + 1)) fun x88 => bind1 (xDelR gl20 gx29 x88) fun l89 => m3_quirlaw_TreePlays_K4 gx12 go2 l81 l82 gl18 l89 else m3_quirlaw_TreePlays_K12 x4 x36 gl14 gl16 gl18 gx12 go2 gl20
def m3_quirlaw_TreePlays_K13 (x36 : TKeyDeed) (x4 : Int) (gl14 : (List Tnode)) (gl16 : (List TTree)) (gx29 : Int) (gl20 : (List Int)) (gx12 : Int) (go2 : Int → (List Tnode) → (List TTree) → (List (Int × (List UInt8))) → (List Int) → Option Bool) (gl18 : (List (Int × (List UInt8)))) (gb32 : Bool) : Option Bool :=
  if gb32 = true then some false else m3_quirlaw_TreePlays_K11 x36 x4 gl14 gl16 gx29 gl20 gx12 go2 gl18
def m3_quirlaw_TreePlays_K5 (x4 : Int) (x36 : TKeyDeed) (gl14 : (List Tnode)) (gl16 : (List TTree)) (gl18 : (List (Int × (List UInt8)))) (gl20 : (List Int)) (gx12 : Int) (go2 : Int → (List Tnode) → (List TTree) → (List (Int × (List UInt8))) → (List Int) → Option Bool) (gx29 : Int) (gb30 : Bool) : Option Bool :=
  if gb30 = true then bind2 (m6_tree_Tree_Get x4 x36.Key gl14 gl16) fun s67 x68 => if s67 ≠ (mget gl18 x36.Key []) then m3_quirlaw_TreePlays_K13 x36 x4 gl14 gl16 gx29 gl20 gx12 go2 gl18 true else if x68 ≠ 0 then m3_quirlaw_TreePlays_K13 x36 x4 gl14 gl16 gx29 gl20 gx12 go2 gl18 true else m3_quirlaw_TreePlays_K13 x36 x4 gl14 gl16 gx29 gl20 gx12 go2 gl18 false else bind2 (m6_tree_Tree_Get x4 x36.Key gl14 gl16) fun s38 x39 => if s38 ≠ [] then m3_quirlaw_TreePlays_K10 x36 x4 gl14 gl16 gx12 go2 gl18 gl20 gx29 true else if x39 ≠ 6 then m3_quirlaw_TreePlays_K10 x36 x4 gl14 gl16 gx12 go2 gl18 gl20 gx29 true else m3_quirlaw_TreePlays_K10 x36 x4 gl14 gl16 gx12 go2 gl18 gl20 gx29 false
def m3_quirlaw_TreePlays_L2B (go2 : Int → (List Tnode) → (List TTree) → (List (Int × (List UInt8))) → (List Int) → Option Bool) (a0 : (List TKeyDeed)) (x4 : Int) (a1 : Int) (gx12 : Int) (gl14 : (List Tnode)) (gl16 : (List TTree)) (gl18 : (List (Int × (List UInt8)))) (gl20 : (List Int)) : Option Bool :=
  if gx12 < (a0.length : Int) then bind1 (idx a0 gx12) fun x36 => bind2 (m5_slices_BinarySearch_int gl20 x36.Key) fun x93 b94 => if b94 = true then m3_quirlaw_TreePlays_K5 x4 x36 gl14 gl16 gl18 gl20 gx12 go2 x93 true else m3_quirlaw_TreePlays_K5 x4 x36 gl14 gl16 gl18 gl20 gx12 go2 x93 false else m3_quirlaw_TreePlays_K2 a1 x4 gl14 gl16 gl18 gl20
def m3_quirlaw_TreePlays_L2 (a0 : (List TKeyDeed)) (x4 : Int) (a1 : Int) : Nat → Int → (List Tnode) → (List TTree) → (List (Int × (List UInt8))) → (List Int) → Option Bool
  | 0, _, _, _, _, _ => none
  | n + 1, gx12, gl14, gl16, gl18, gl20 => m3_quirlaw_TreePlays_L2B (m3_quirlaw_TreePlays_L2 a0 x4 a1 n) a0 x4 a1 gx12 gl14 gl16 gl18 gl20
def m3_quirlaw_TreePlays_K1 (a0 : (List TKeyDeed)) (x4 : Int) (a1 : Int) (l2 : (List Tnode)) (l3 : (List TTree)) : Option Bool :=
  m3_quirlaw_TreePlays_L2 a0 x4 a1 big 0 l2 l3 [] []
def m3_quirlaw_TreePlays (a0 : (List TKeyDeed)) (a1 : Int) : Option Bool :=
  bind3 (m4_tree_New [] []) fun l2 l3 x4 => if x4 < 0 then some false else m3_quirlaw_TreePlays_K1 a0 x4 a1 l2 l3
end Go.Proofs.Ytdebhhjbgbkbjaa
