/-
  Models, printed by a program of mine.
  Conditions: none.
-/
import Derived.Test.YtfmgjigdebofaaaSg
namespace Go.Proofs.Ytfmgjigdebofaaa
open Go.S
set_option linter.unusedVariables false
structure TOp where
  Tx : Int
  Kind : Int
  Item : Int
  deriving DecidableEq, Inhabited
def TOp.row (x : TOp) : List Value := [.int .i64 x.Tx, .int .i64 x.Kind, .int .i64 x.Item]
structure Ttx where
  began_ : Bool
  from_ : Int
  writes_ : (List Int)
  deriving DecidableEq, Inhabited
def Ttx.rowv (x : Ttx) (vs : List Value) : List Value := [.bool x.began_, .int .i64 x.from_, gv vs 0]
def Ttx.sds (x : Ttx) (vs : List Value) : List Sd := [⟨gv vs 0, 3, 1, x.writes_.map I⟩]
structure Tversion where
  by_ : Int
  at_ : Int
  deriving DecidableEq, Inhabited
def Tversion.row (x : Tversion) : List Value := [.int .i64 x.by_, .int .i64 x.at_]
structure TDid where
  OK : Bool
  From : Int
  deriving DecidableEq, Inhabited
def TDid.row (x : TDid) : List Value := [.bool x.OK, .int .i64 x.From]
structure Ttx209 where
  began_ : Bool
  done_ : Bool
  from_ : Int
  at_ : Int
  reads_ : (List Int)
  writes_ : (List Int)
  deriving DecidableEq, Inhabited
def Ttx209.rowv (x : Ttx209) (vs : List Value) : List Value := [.bool x.began_, .bool x.done_, .int .i64 x.from_, .int .i64 x.at_, gv vs 0, gv vs 1]
def Ttx209.sds (x : Ttx209) (vs : List Value) : List Sd := [⟨gv vs 0, 3, 1, x.reads_.map I⟩, ⟨gv vs 1, 3, 1, x.writes_.map I⟩]
def m107_run_Check_K2 : Option Int :=
  some 0
def m107_run_Check_K3 (gx1 : Int) (go1 : Int → (List Bool) → Option Int) (gl3 : (List Bool)) : Option Int :=
  bind1 (i64 (gx1 + 1)) fun x3 => go1 x3 gl3
def m107_run_Check_K5 (gl2 : (List Bool)) (x4 : TOp) (gx1 : Int) (go1 : Int → (List Bool) → Option Int) : Option Int :=
  bind1 (idxA 12 gl2 x4.Tx) fun x6 => if x6 = true then some 4 else bind1 (idxA 12 gl2 x4.Tx) fun x8 => bind1 (upd gl2 x4.Tx (decide (3 ≤ x4.Kind))) fun l9 => m107_run_Check_K3 gx1 go1 l9
def m107_run_Check_K6 (gl2 : (List Bool)) (x4 : TOp) (gx1 : Int) (go1 : Int → (List Bool) → Option Int) (gb4 : Bool) : Option Int :=
  if gb4 = true then m107_run_Check_K5 gl2 x4 gx1 go1 else if x4.Kind = 3 then if x4.Item ≠ 0 then some 4 else m107_run_Check_K5 gl2 x4 gx1 go1 else if x4.Kind = 4 then if x4.Item ≠ 0 then some 4 else m107_run_Check_K5 gl2 x4 gx1 go1 else some 4
def m107_run_Check_K4 (x4 : TOp) (gl2 : (List Bool)) (gx1 : Int) (go1 : Int → (List Bool) → Option Int) : Option Int :=
  if x4.Kind = 1 then m107_run_Check_K6 gl2 x4 gx1 go1 true else if x4.Kind = 2 then m107_run_Check_K6 gl2 x4 gx1 go1 true else m107_run_Check_K6 gl2 x4 gx1 go1 false
def m107_run_Check_K7 (x4 : TOp) (gl2 : (List Bool)) (gx1 : Int) (go1 : Int → (List Bool) → Option Int) (gb5 : Bool) : Option Int :=
  if gb5 = true then some 1 else if x4.Item < 0 then some 1 else if 20 ≤ x4.Item then some 1 else m107_run_Check_K4 x4 gl2 gx1 go1
def m107_run_Check_L1B (go1 : Int → (List Bool) → Option Int) (a0 : (List TOp)) (gx1 : Int) (gl2 : (List Bool)) : Option Int :=
  if gx1 < (a0.length : Int) then bind1 (idx a0 gx1) fun x4 => if x4.Tx < 0 then m107_run_Check_K7 x4 gl2 gx1 go1 true else if 12 ≤ x4.Tx then m107_run_Check_K7 x4 gl2 gx1 go1 true else m107_run_Check_K7 x4 gl2 gx1 go1 false else m107_run_Check_K2
def m107_run_Check_L1 (a0 : (List TOp)) : Nat → Int → (List Bool) → Option Int
  | 0, _, _ => none
  | n + 1, gx1, gl2 => m107_run_Check_L1B (m107_run_Check_L1 a0 n) a0 gx1 gl2
def m107_run_Check_K1 (a0 : (List TOp)) : Option Int :=
  m107_run_Check_L1 a0 big 0 (List.replicate 12 (false : Bool))
def m107_run_Check (a0 : (List TOp)) : Option Int :=
  if 200 < (a0.length : Int) then some 2 else m107_run_Check_K1 a0
def m121_slices_Index_int_K1 : Option Int :=
  some (-1)
def m121_slices_Index_int_L1B (go1 : Int → Option Int) (a0 : (List Int)) (a1 : Int) (gx1 : Int) : Option Int :=
  if gx1 < (a0.length : Int) then bind1 (idx a0 gx1) fun x2 => if a1 = x2 then some gx1 else bind1 (i64 (gx1 + 1)) fun x4 => go1 x4 else m121_slices_Index_int_K1
def m121_slices_Index_int_L1 (a0 : (List Int)) (a1 : Int) : Nat → Int → Option Int
  | 0, _ => none
  | n + 1, gx1 => m121_slices_Index_int_L1B (m121_slices_Index_int_L1 a0 a1 n) a0 a1 gx1
def m121_slices_Index_int (a0 : (List Int)) (a1 : Int) : Option Int :=
  m121_slices_Index_int_L1 a0 a1 big 0
def m134_slices_Contains_int (a0 : (List Int)) (a1 : Int) : Option Bool :=
  bind1 (m121_slices_Index_int a0 a1) fun x1 => some (decide (0 ≤ x1))
def m95_snap_Play_K2 (gl2 : (List TDid)) : Option ((List TDid) × Int) :=
  some (gl2, 0)
def m95_snap_Play_K3 (gl4 : (List TDid)) (gx5 : Int) (go1 : (List TDid) → Int → (List Ttx) → Int → (List (List Tversion)) → Option ((List TDid) × Int)) (gb11 : Bool) (gx12 : Int) (gl13 : (List Ttx)) (gx15 : Int) (gl16 : (List (List Tversion))) : Option ((List TDid) × Int) :=
  bind1 (app gl4 ([(⟨gb11, gx12⟩ : TDid)])) fun l7 => bind1 (i64 (gx5 + 1)) fun x8 => go1 l7 x8 gl13 gx15 gl16
def m95_snap_Play_K5 (gl4 : (List TDid)) (gx5 : Int) (go1 : (List TDid) → Int → (List Ttx) → Int → (List (List Tversion)) → Option ((List TDid) × Int)) (gb20 : Bool) (gx21 : Int) (gl22 : (List Ttx)) (gx24 : Int) (gl25 : (List (List Tversion))) : Option ((List TDid) × Int) :=
  m95_snap_Play_K3 gl4 gx5 go1 gb20 gx21 gl22 gx24 gl25
def m95_snap_Play_K8 (gl4 : (List TDid)) (gx5 : Int) (go1 : (List TDid) → Int → (List Ttx) → Int → (List (List Tversion)) → Option ((List TDid) × Int)) (gl18 : (List Ttx)) (gb29 : Bool) (gx30 : Int) (gl31 : (List (List Tversion))) : Option ((List TDid) × Int) :=
  m95_snap_Play_K5 gl4 gx5 go1 gb29 (-1) gl18 gx30 gl31
def m95_snap_Play_K10 (gl4 : (List TDid)) (gx5 : Int) (go1 : (List TDid) → Int → (List Ttx) → Int → (List (List Tversion)) → Option ((List TDid) × Int)) (gl18 : (List Ttx)) (x15 : Int) (gl33 : (List (List Tversion))) : Option ((List TDid) × Int) :=
  m95_snap_Play_K8 gl4 gx5 go1 gl18 true x15 gl33
def m95_snap_Play_L2B (go2 : Int → (List (List Tversion)) → Option ((List TDid) × Int)) (x16 : Ttx) (x3 : TOp) (x15 : Int) (gl4 : (List TDid)) (gx5 : Int) (go1 : (List TDid) → Int → (List Ttx) → Int → (List (List Tversion)) → Option ((List TDid) × Int)) (gl18 : (List Ttx)) (gx35 : Int) (gl36 : (List (List Tversion))) : Option ((List TDid) × Int) :=
  if gx35 < (x16.writes_.length : Int) then bind1 (idx x16.writes_ gx35) fun x18 => bind1 (idxA 20 gl36 x18) fun x37 => bind1 (app x37 ([(⟨x3.Tx, x15⟩ : Tversion)])) fun l40 => bind1 (idxA 20 gl36 x18) fun x41 => bind1 (upd gl36 x18 l40) fun l42 => bind1 (i64 (gx35 + 1)) fun x44 => go2 x44 l42 else m95_snap_Play_K10 gl4 gx5 go1 gl18 x15 gl36
def m95_snap_Play_L2 (x16 : Ttx) (x3 : TOp) (x15 : Int) (gl4 : (List TDid)) (gx5 : Int) (go1 : (List TDid) → Int → (List Ttx) → Int → (List (List Tversion)) → Option ((List TDid) × Int)) (gl18 : (List Ttx)) : Nat → Int → (List (List Tversion)) → Option ((List TDid) × Int)
  | 0, _, _ => none
  | n + 1, gx35, gl36 => m95_snap_Play_L2B (m95_snap_Play_L2 x16 x3 x15 gl4 gx5 go1 gl18 n) x16 x3 x15 gl4 gx5 go1 gl18 gx35 gl36
def m95_snap_Play_K9 (gl18 : (List Ttx)) (gx8 : Int) (x3 : TOp) (gl4 : (List TDid)) (gx5 : Int) (go1 : (List TDid) → Int → (List Ttx) → Int → (List (List Tversion)) → Option ((List TDid) × Int)) (gl9 : (List (List Tversion))) : Option ((List TDid) × Int) :=
  bind1 (arrN 12 gl18) fun _ => bind1 (i64 (gx8 + 1)) fun x15 => bind1 (idx gl18 x3.Tx) fun x16 => m95_snap_Play_L2 x16 x3 x15 gl4 gx5 go1 gl18 big 0 gl9
def m95_snap_Play_K11 (gx38 : Int) (go3 : Int → Option ((List TDid) × Int)) : Option ((List TDid) × Int) :=
  bind1 (i64 (gx38 + 1)) fun x47 => go3 x47
def m95_snap_Play_L4B (go4 : Int → Option ((List TDid) × Int)) (x49 : (List Tversion)) (gl18 : (List Ttx)) (x3 : TOp) (gl4 : (List TDid)) (gx5 : Int) (go1 : (List TDid) → Int → (List Ttx) → Int → (List (List Tversion)) → Option ((List TDid) × Int)) (gx8 : Int) (gl9 : (List (List Tversion))) (gx38 : Int) (go3 : Int → Option ((List TDid) × Int)) (gx39 : Int) : Option ((List TDid) × Int) :=
  if gx39 < (x49.length : Int) then bind1 (idx x49 gx39) fun x52 => bind1 (idx gl18 x3.Tx) fun x54 => if x54.from_ < x52.at_ then m95_snap_Play_K8 gl4 gx5 go1 gl18 false gx8 gl9 else bind1 (i64 (gx39 + 1)) fun x56 => go4 x56 else m95_snap_Play_K11 gx38 go3
def m95_snap_Play_L4 (x49 : (List Tversion)) (gl18 : (List Ttx)) (x3 : TOp) (gl4 : (List TDid)) (gx5 : Int) (go1 : (List TDid) → Int → (List Ttx) → Int → (List (List Tversion)) → Option ((List TDid) × Int)) (gx8 : Int) (gl9 : (List (List Tversion))) (gx38 : Int) (go3 : Int → Option ((List TDid) × Int)) : Nat → Int → Option ((List TDid) × Int)
  | 0, _ => none
  | n + 1, gx39 => m95_snap_Play_L4B (m95_snap_Play_L4 x49 gl18 x3 gl4 gx5 go1 gx8 gl9 gx38 go3 n) x49 gl18 x3 gl4 gx5 go1 gx8 gl9 gx38 go3 gx39
def m95_snap_Play_L3B (go3 : Int → Option ((List TDid) × Int)) (x45 : Ttx) (gl9 : (List (List Tversion))) (gl18 : (List Ttx)) (x3 : TOp) (gl4 : (List TDid)) (gx5 : Int) (go1 : (List TDid) → Int → (List Ttx) → Int → (List (List Tversion)) → Option ((List TDid) × Int)) (gx8 : Int) (gx38 : Int) : Option ((List TDid) × Int) :=
  if gx38 < (x45.writes_.length : Int) then bind1 (idx x45.writes_ gx38) fun x48 => bind1 (idxA 20 gl9 x48) fun x49 => bind1 (arrN 12 gl18) fun _ => m95_snap_Play_L4 x49 gl18 x3 gl4 gx5 go1 gx8 gl9 gx38 go3 big 0 else m95_snap_Play_K9 gl18 gx8 x3 gl4 gx5 go1 gl9
def m95_snap_Play_L3 (x45 : Ttx) (gl9 : (List (List Tversion))) (gl18 : (List Ttx)) (x3 : TOp) (gl4 : (List TDid)) (gx5 : Int) (go1 : (List TDid) → Int → (List Ttx) → Int → (List (List Tversion)) → Option ((List TDid) × Int)) (gx8 : Int) : Nat → Int → Option ((List TDid) × Int)
  | 0, _ => none
  | n + 1, gx38 => m95_snap_Play_L3B (m95_snap_Play_L3 x45 gl9 gl18 x3 gl4 gx5 go1 gx8 n) x45 gl9 gl18 x3 gl4 gx5 go1 gx8 gx38
def m95_snap_Play_K7 (gl18 : (List Ttx)) (x3 : TOp) (gl4 : (List TDid)) (gx5 : Int) (go1 : (List TDid) → Int → (List Ttx) → Int → (List (List Tversion)) → Option ((List TDid) × Int)) (gx8 : Int) (gl9 : (List (List Tversion))) (gb28 : Bool) : Option ((List TDid) × Int) :=
  if gb28 = true then bind1 (idx gl18 x3.Tx) fun x57 => bind1 (m134_slices_Contains_int x57.writes_ x3.Item) fun b58 => if b58 = true then m95_snap_Play_K5 gl4 gx5 go1 true (-1) gl18 gx8 gl9 else bind1 (idx gl18 x3.Tx) fun x78 => bind1 (app x78.writes_ ([x3.Item])) fun l81 => bind1 (idx gl18 x3.Tx) fun x82 => bind1 (upd gl18 x3.Tx (⟨x82.began_, x82.from_, l81⟩ : Ttx)) fun l83 => m95_snap_Play_K5 gl4 gx5 go1 true (-1) l83 gx8 gl9 else if x3.Kind = 3 then bind1 (idx gl18 x3.Tx) fun x45 => m95_snap_Play_L3 x45 gl9 gl18 x3 gl4 gx5 go1 gx8 big 0 else m95_snap_Play_K5 gl4 gx5 go1 true (-1) gl18 gx8 gl9
def m95_snap_Play_K12 (gl18 : (List Ttx)) (x3 : TOp) (gl4 : (List TDid)) (gx5 : Int) (go1 : (List TDid) → Int → (List Ttx) → Int → (List (List Tversion)) → Option ((List TDid) × Int)) (gx8 : Int) (gl9 : (List (List Tversion))) (gx41 : Int) : Option ((List TDid) × Int) :=
  bind1 (idx gl18 x3.Tx) fun x88 => bind1 (m134_slices_Contains_int x88.writes_ x3.Item) fun b89 => if b89 = true then m95_snap_Play_K5 gl4 gx5 go1 true x3.Tx gl18 gx8 gl9 else m95_snap_Play_K5 gl4 gx5 go1 true gx41 gl18 gx8 gl9
def m95_snap_Play_K13 (gl18 : (List Ttx)) (x3 : TOp) (gl4 : (List TDid)) (gx5 : Int) (go1 : (List TDid) → Int → (List Ttx) → Int → (List (List Tversion)) → Option ((List TDid) × Int)) (gx8 : Int) (gl9 : (List (List Tversion))) (gx42 : Int) : Option ((List TDid) × Int) :=
  m95_snap_Play_K12 gl18 x3 gl4 gx5 go1 gx8 gl9 gx42
def m95_snap_Play_L5B (go5 : Int → Int → Option ((List TDid) × Int)) (x91 : (List Tversion)) (x87 : Ttx) (gl18 : (List Ttx)) (x3 : TOp) (gl4 : (List TDid)) (gx5 : Int) (go1 : (List TDid) → Int → (List Ttx) → Int → (List (List Tversion)) → Option ((List TDid) × Int)) (gx8 : Int) (gl9 : (List (List Tversion))) (gx43 : Int) (gx44 : Int) : Option ((List TDid) × Int) :=
  if gx44 < (x91.length : Int) then bind1 (idx x91 gx44) fun x94 => if x94.at_ ≤ x87.from_ then bind1 (i64 (gx44 + 1)) fun x97 => go5 x94.by_ x97 else bind1 (i64 (gx44 + 1)) fun x98 => go5 gx43 x98 else m95_snap_Play_K13 gl18 x3 gl4 gx5 go1 gx8 gl9 gx43
def m95_snap_Play_L5 (x91 : (List Tversion)) (x87 : Ttx) (gl18 : (List Ttx)) (x3 : TOp) (gl4 : (List TDid)) (gx5 : Int) (go1 : (List TDid) → Int → (List Ttx) → Int → (List (List Tversion)) → Option ((List TDid) × Int)) (gx8 : Int) (gl9 : (List (List Tversion))) : Nat → Int → Int → Option ((List TDid) × Int)
  | 0, _, _ => none
  | n + 1, gx43, gx44 => m95_snap_Play_L5B (m95_snap_Play_L5 x91 x87 gl18 x3 gl4 gx5 go1 gx8 gl9 n) x91 x87 gl18 x3 gl4 gx5 go1 gx8 gl9 gx43 gx44
def m95_snap_Play_K6 (gl18 : (List Ttx)) (x3 : TOp) (gl9 : (List (List Tversion))) (gl4 : (List TDid)) (gx5 : Int) (go1 : (List TDid) → Int → (List Ttx) → Int → (List (List Tversion)) → Option ((List TDid) × Int)) (gx8 : Int) (gb27 : Bool) : Option ((List TDid) × Int) :=
  if gb27 = true then bind1 (idx gl18 x3.Tx) fun x87 => bind1 (idxA 20 gl9 x3.Item) fun x91 => bind1 (arrN 12 gl18) fun _ => m95_snap_Play_L5 x91 x87 gl18 x3 gl4 gx5 go1 gx8 gl9 big (-1) 0 else if x3.Kind = 2 then m95_snap_Play_K7 gl18 x3 gl4 gx5 go1 gx8 gl9 true else m95_snap_Play_K7 gl18 x3 gl4 gx5 go1 gx8 gl9 false
def m95_snap_Play_K4 (x3 : TOp) (gl9 : (List (List Tversion))) (gl4 : (List TDid)) (gx5 : Int) (go1 : (List TDid) → Int → (List Ttx) → Int → (List (List Tversion)) → Option ((List TDid) × Int)) (gx8 : Int) (gl18 : (List Ttx)) : Option ((List TDid) × Int) :=
  if x3.Kind = 1 then m95_snap_Play_K6 gl18 x3 gl9 gl4 gx5 go1 gx8 true else m95_snap_Play_K6 gl18 x3 gl9 gl4 gx5 go1 gx8 false
def m95_snap_Play_L1B (go1 : (List TDid) → Int → (List Ttx) → Int → (List (List Tversion)) → Option ((List TDid) × Int)) (a0 : (List TOp)) (gl4 : (List TDid)) (gx5 : Int) (gl6 : (List Ttx)) (gx8 : Int) (gl9 : (List (List Tversion))) : Option ((List TDid) × Int) :=
  if gx5 < (a0.length : Int) then bind1 (idx a0 gx5) fun x3 => bind1 (idxA 12 gl6 x3.Tx) fun x11 => if x11.began_ = true then m95_snap_Play_K4 x3 gl9 gl4 gx5 go1 gx8 gl6 else bind1 (arrN 12 gl6) fun _ => bind1 (upd gl6 x3.Tx (⟨true, gx8, []⟩ : Ttx)) fun l102 => m95_snap_Play_K4 x3 gl9 gl4 gx5 go1 gx8 l102 else m95_snap_Play_K2 gl4
def m95_snap_Play_L1 (a0 : (List TOp)) : Nat → (List TDid) → Int → (List Ttx) → Int → (List (List Tversion)) → Option ((List TDid) × Int)
  | 0, _, _, _, _, _ => none
  | n + 1, gl4, gx5, gl6, gx8, gl9 => m95_snap_Play_L1B (m95_snap_Play_L1 a0 n) a0 gl4 gx5 gl6 gx8 gl9
def m95_snap_Play_K1 (a0 : (List TOp)) : Option ((List TDid) × Int) :=
  m95_snap_Play_L1 a0 big [] 0 (List.replicate 12 ((⟨false, 0, []⟩ : Ttx) : Ttx)) 0 (List.replicate 20 ([] : (List Tversion)))
def m95_snap_Play (a0 : (List TOp)) : Option ((List TDid) × Int) :=
  bind1 (m107_run_Check a0) fun x104 => if x104 ≠ 0 then some ([], x104) else m95_snap_Play_K1 a0
def m96_skew_Play_K2 (gl2 : (List TDid)) : Option ((List TDid) × Int) :=
  some (gl2, 0)
def m96_skew_Play_K3 (gl4 : (List TDid)) (gx5 : Int) (go1 : (List TDid) → Int → (List Ttx209) → Int → (List (List Int)) → Option ((List TDid) × Int)) (gb11 : Bool) (gx12 : Int) (gl13 : (List Ttx209)) (gx15 : Int) (gl16 : (List (List Int))) : Option ((List TDid) × Int) :=
  bind1 (app gl4 ([(⟨gb11, gx12⟩ : TDid)])) fun l7 => bind1 (i64 (gx5 + 1)) fun x8 => go1 l7 x8 gl13 gx15 gl16
def m96_skew_Play_K5 (gl4 : (List TDid)) (gx5 : Int) (go1 : (List TDid) → Int → (List Ttx209) → Int → (List (List Int)) → Option ((List TDid) × Int)) (gx20 : Int) (gl21 : (List Ttx209)) (gx23 : Int) (gl24 : (List (List Int))) : Option ((List TDid) × Int) :=
  m96_skew_Play_K3 gl4 gx5 go1 true gx20 gl21 gx23 gl24
def m96_skew_Play_L2B (go2 : Int → (List (List Int)) → Option ((List TDid) × Int)) (x20 : Ttx209) (l19 : (List Ttx209)) (x3 : TOp) (gl4 : (List TDid)) (gx5 : Int) (go1 : (List TDid) → Int → (List Ttx209) → Int → (List (List Int)) → Option ((List TDid) × Int)) (x15 : Int) (gx29 : Int) (gl30 : (List (List Int))) : Option ((List TDid) × Int) :=
  if gx29 < (x20.writes_.length : Int) then bind1 (idx x20.writes_ gx29) fun x22 => bind1 (idxA 20 gl30 x22) fun x44 => bind1 (arrN 12 l19) fun _ => bind1 (app x44 ([x3.Tx])) fun l48 => bind1 (idxA 20 gl30 x22) fun x49 => bind1 (upd gl30 x22 l48) fun l50 => bind1 (i64 (gx29 + 1)) fun x52 => go2 x52 l50 else m96_skew_Play_K5 gl4 gx5 go1 (-1) l19 x15 gl30
def m96_skew_Play_L2 (x20 : Ttx209) (l19 : (List Ttx209)) (x3 : TOp) (gl4 : (List TDid)) (gx5 : Int) (go1 : (List TDid) → Int → (List Ttx209) → Int → (List (List Int)) → Option ((List TDid) × Int)) (x15 : Int) : Nat → Int → (List (List Int)) → Option ((List TDid) × Int)
  | 0, _, _ => none
  | n + 1, gx29, gl30 => m96_skew_Play_L2B (m96_skew_Play_L2 x20 l19 x3 gl4 gx5 go1 x15 n) x20 l19 x3 gl4 gx5 go1 x15 gx29 gl30
def m96_skew_Play_K8 (gl4 : (List TDid)) (gx5 : Int) (go1 : (List TDid) → Int → (List Ttx209) → Int → (List (List Int)) → Option ((List TDid) × Int)) (gl18 : (List Ttx209)) (gx8 : Int) (gl9 : (List (List Int))) (x3 : TOp) (gb28 : Bool) : Option ((List TDid) × Int) :=
  if gb28 = true then m96_skew_Play_K3 gl4 gx5 go1 false (-1) gl18 gx8 gl9 else bind1 (arrN 12 gl18) fun _ => bind1 (i64 (gx8 + 1)) fun x15 => bind1 (idx gl18 x3.Tx) fun x16 => bind1 (upd gl18 x3.Tx (⟨x16.began_, true, x16.from_, x16.at_, x16.reads_, x16.writes_⟩ : Ttx209)) fun l17 => bind1 (idx l17 x3.Tx) fun x18 => bind1 (upd l17 x3.Tx (⟨x18.began_, x18.done_, x18.from_, x15, x18.reads_, x18.writes_⟩ : Ttx209)) fun l19 => bind1 (idx l19 x3.Tx) fun x20 => m96_skew_Play_L2 x20 l19 x3 gl4 gx5 go1 x15 big 0 gl9
def m96_skew_Play_K10 (gl4 : (List TDid)) (gx5 : Int) (go1 : (List TDid) → Int → (List Ttx209) → Int → (List (List Int)) → Option ((List TDid) × Int)) (gl18 : (List Ttx209)) (gx8 : Int) (gl9 : (List (List Int))) (x3 : TOp) : Option ((List TDid) × Int) :=
  m96_skew_Play_K8 gl4 gx5 go1 gl18 gx8 gl9 x3 false
def m96_skew_Play_K11 (gx34 : Int) (go3 : Int → Option ((List TDid) × Int)) : Option ((List TDid) × Int) :=
  bind1 (i64 (gx34 + 1)) fun x58 => go3 x58
def m96_skew_Play_K12 (gl4 : (List TDid)) (gx5 : Int) (go1 : (List TDid) → Int → (List Ttx209) → Int → (List (List Int)) → Option ((List TDid) × Int)) (gl18 : (List Ttx209)) (gx8 : Int) (gl9 : (List (List Int))) (x3 : TOp) (gx34 : Int) (go3 : Int → Option ((List TDid) × Int)) (gb35 : Bool) (gb36 : Bool) : Option ((List TDid) × Int) :=
  if gb35 = true then if gb36 = true then m96_skew_Play_K8 gl4 gx5 go1 gl18 gx8 gl9 x3 true else m96_skew_Play_K11 gx34 go3 else m96_skew_Play_K11 gx34 go3
def m96_skew_Play_K14 (gx39 : Int) (go4 : Bool → Bool → Int → Option ((List TDid) × Int)) (gb41 : Bool) : Option ((List TDid) × Int) :=
  if gb41 = true then bind1 (i64 (gx39 + 1)) fun x70 => go4 false true x70 else bind1 (i64 (gx39 + 1)) fun x69 => go4 false false x69
def m96_skew_Play_K16 (gx39 : Int) (go4 : Bool → Bool → Int → Option ((List TDid) × Int)) (gb43 : Bool) : Option ((List TDid) × Int) :=
  m96_skew_Play_K14 gx39 go4 gb43
def m96_skew_Play_K17 (gx39 : Int) (go4 : Bool → Bool → Int → Option ((List TDid) × Int)) (gx44 : Int) : Option ((List TDid) × Int) :=
  m96_skew_Play_K16 gx39 go4 (decide (0 ≤ gx44))
def m96_skew_Play_K18 (gx39 : Int) (go4 : Bool → Bool → Int → Option ((List TDid) × Int)) : Option ((List TDid) × Int) :=
  m96_skew_Play_K17 gx39 go4 (-1)
def m96_skew_Play_K19 (gx39 : Int) (go4 : Bool → Bool → Int → Option ((List TDid) × Int)) (gx45 : Int) (go5 : Int → Option ((List TDid) × Int)) (gb46 : Bool) : Option ((List TDid) × Int) :=
  if gb46 = true then m96_skew_Play_K17 gx39 go4 gx45 else bind1 (i64 (gx45 + 1)) fun x74 => go5 x74
def m96_skew_Play_L5B (go5 : Int → Option ((List TDid) × Int)) (x67 : Ttx209) (x68 : Ttx209) (gx39 : Int) (go4 : Bool → Bool → Int → Option ((List TDid) × Int)) (gx45 : Int) : Option ((List TDid) × Int) :=
  if gx45 < (x67.reads_.length : Int) then bind1 (idx x67.reads_ gx45) fun x73 => bind1 (m134_slices_Contains_int x68.writes_ x73) fun b75 => m96_skew_Play_K19 gx39 go4 gx45 go5 b75 else m96_skew_Play_K18 gx39 go4
def m96_skew_Play_L5 (x67 : Ttx209) (x68 : Ttx209) (gx39 : Int) (go4 : Bool → Bool → Int → Option ((List TDid) × Int)) : Nat → Int → Option ((List TDid) × Int)
  | 0, _ => none
  | n + 1, gx45 => m96_skew_Play_L5B (m96_skew_Play_L5 x67 x68 gx39 go4 n) x67 x68 gx39 go4 gx45
def m96_skew_Play_K15 (x67 : Ttx209) (x68 : Ttx209) (gx39 : Int) (go4 : Bool → Bool → Int → Option ((List TDid) × Int)) (gb42 : Bool) : Option ((List TDid) × Int) :=
  if gb42 = true then m96_skew_Play_L5 x67 x68 gx39 go4 big 0 else m96_skew_Play_K14 gx39 go4 false
def m96_skew_Play_K20 (x68 : Ttx209) (x67 : Ttx209) (gx39 : Int) (go4 : Bool → Bool → Int → Option ((List TDid) × Int)) (gb47 : Bool) : Option ((List TDid) × Int) :=
  if gb47 = true then if x68.done_ = true then m96_skew_Play_K15 x67 x68 gx39 go4 (decide (x67.from_ < x68.at_)) else m96_skew_Play_K15 x67 x68 gx39 go4 true else m96_skew_Play_K15 x67 x68 gx39 go4 false
def m96_skew_Play_K21 (gx39 : Int) (go4 : Bool → Bool → Int → Option ((List TDid) × Int)) (gb48 : Bool) : Option ((List TDid) × Int) :=
  if gb48 = true then bind1 (i64 (gx39 + 1)) fun x87 => go4 true true x87 else bind1 (i64 (gx39 + 1)) fun x86 => go4 true false x86
def m96_skew_Play_K23 (gx39 : Int) (go4 : Bool → Bool → Int → Option ((List TDid) × Int)) (gb50 : Bool) : Option ((List TDid) × Int) :=
  m96_skew_Play_K21 gx39 go4 gb50
def m96_skew_Play_K24 (gx39 : Int) (go4 : Bool → Bool → Int → Option ((List TDid) × Int)) (gx51 : Int) : Option ((List TDid) × Int) :=
  m96_skew_Play_K23 gx39 go4 (decide (0 ≤ gx51))
def m96_skew_Play_K25 (gx39 : Int) (go4 : Bool → Bool → Int → Option ((List TDid) × Int)) : Option ((List TDid) × Int) :=
  m96_skew_Play_K24 gx39 go4 (-1)
def m96_skew_Play_K26 (gx39 : Int) (go4 : Bool → Bool → Int → Option ((List TDid) × Int)) (gx52 : Int) (go6 : Int → Option ((List TDid) × Int)) (gb53 : Bool) : Option ((List TDid) × Int) :=
  if gb53 = true then m96_skew_Play_K24 gx39 go4 gx52 else bind1 (i64 (gx52 + 1)) fun x91 => go6 x91
def m96_skew_Play_L6B (go6 : Int → Option ((List TDid) × Int)) (x84 : Ttx209) (x85 : Ttx209) (gx39 : Int) (go4 : Bool → Bool → Int → Option ((List TDid) × Int)) (gx52 : Int) : Option ((List TDid) × Int) :=
  if gx52 < (x84.reads_.length : Int) then bind1 (idx x84.reads_ gx52) fun x90 => bind1 (m134_slices_Contains_int x85.writes_ x90) fun b92 => m96_skew_Play_K26 gx39 go4 gx52 go6 b92 else m96_skew_Play_K25 gx39 go4
def m96_skew_Play_L6 (x84 : Ttx209) (x85 : Ttx209) (gx39 : Int) (go4 : Bool → Bool → Int → Option ((List TDid) × Int)) : Nat → Int → Option ((List TDid) × Int)
  | 0, _ => none
  | n + 1, gx52 => m96_skew_Play_L6B (m96_skew_Play_L6 x84 x85 gx39 go4 n) x84 x85 gx39 go4 gx52
def m96_skew_Play_K22 (x84 : Ttx209) (x85 : Ttx209) (gx39 : Int) (go4 : Bool → Bool → Int → Option ((List TDid) × Int)) (gb49 : Bool) : Option ((List TDid) × Int) :=
  if gb49 = true then m96_skew_Play_L6 x84 x85 gx39 go4 big 0 else m96_skew_Play_K21 gx39 go4 false
def m96_skew_Play_K27 (x85 : Ttx209) (x84 : Ttx209) (gx39 : Int) (go4 : Bool → Bool → Int → Option ((List TDid) × Int)) (gb54 : Bool) : Option ((List TDid) × Int) :=
  if gb54 = true then if x85.done_ = true then m96_skew_Play_K22 x84 x85 gx39 go4 (decide (x84.from_ < x85.at_)) else m96_skew_Play_K22 x84 x85 gx39 go4 true else m96_skew_Play_K22 x84 x85 gx39 go4 false
def m96_skew_Play_K13 (gb38 : Bool) (gx39 : Int) (go4 : Bool → Bool → Int → Option ((List TDid) × Int)) (x63 : Int) (x59 : Int) (gl18 : (List Ttx209)) (gb40 : Bool) : Option ((List TDid) × Int) :=
  if gb40 = true then if gb38 = true then bind1 (i64 (gx39 + 1)) fun x82 => go4 true true x82 else if x63 ≠ x59 then bind1 (idxA 12 gl18 x59) fun x84 => bind1 (idxA 12 gl18 x63) fun x85 => if x84.done_ = true then if x85.from_ < x84.at_ then m96_skew_Play_K27 x85 x84 gx39 go4 true else m96_skew_Play_K27 x85 x84 gx39 go4 false else m96_skew_Play_K27 x85 x84 gx39 go4 true else bind1 (i64 (gx39 + 1)) fun x97 => go4 true false x97 else if gb38 = true then bind1 (i64 (gx39 + 1)) fun x65 => go4 false true x65 else if x63 ≠ x59 then bind1 (idxA 12 gl18 x59) fun x67 => bind1 (idxA 12 gl18 x63) fun x68 => if x67.done_ = true then if x68.from_ < x67.at_ then m96_skew_Play_K20 x68 x67 gx39 go4 true else m96_skew_Play_K20 x68 x67 gx39 go4 false else m96_skew_Play_K20 x68 x67 gx39 go4 true else bind1 (i64 (gx39 + 1)) fun x80 => go4 false false x80
def m96_skew_Play_K28 (gb38 : Bool) (gx39 : Int) (go4 : Bool → Bool → Int → Option ((List TDid) × Int)) (x63 : Int) (x59 : Int) (gl18 : (List Ttx209)) (gb55 : Bool) : Option ((List TDid) × Int) :=
  if gb55 = true then m96_skew_Play_K13 gb38 gx39 go4 x63 x59 gl18 true else m96_skew_Play_K13 gb38 gx39 go4 x63 x59 gl18 false
def m96_skew_Play_K30 (gb38 : Bool) (gx39 : Int) (go4 : Bool → Bool → Int → Option ((List TDid) × Int)) (x63 : Int) (x59 : Int) (gl18 : (List Ttx209)) (gb57 : Bool) : Option ((List TDid) × Int) :=
  m96_skew_Play_K28 gb38 gx39 go4 x63 x59 gl18 gb57
def m96_skew_Play_K31 (gb38 : Bool) (gx39 : Int) (go4 : Bool → Bool → Int → Option ((List TDid) × Int)) (x63 : Int) (x59 : Int) (gl18 : (List Ttx209)) (gx58 : Int) : Option ((List TDid) × Int) :=
  m96_skew_Play_K30 gb38 gx39 go4 x63 x59 gl18 (decide (0 ≤ gx58))
def m96_skew_Play_K32 (gb38 : Bool) (gx39 : Int) (go4 : Bool → Bool → Int → Option ((List TDid) × Int)) (x63 : Int) (x59 : Int) (gl18 : (List Ttx209)) : Option ((List TDid) × Int) :=
  m96_skew_Play_K31 gb38 gx39 go4 x63 x59 gl18 (-1)
def m96_skew_Play_K33 (gb38 : Bool) (gx39 : Int) (go4 : Bool → Bool → Int → Option ((List TDid) × Int)) (x63 : Int) (x59 : Int) (gl18 : (List Ttx209)) (gx59 : Int) (go7 : Int → Option ((List TDid) × Int)) (gb60 : Bool) : Option ((List TDid) × Int) :=
  if gb60 = true then m96_skew_Play_K31 gb38 gx39 go4 x63 x59 gl18 gx59 else bind1 (i64 (gx59 + 1)) fun x105 => go7 x105
def m96_skew_Play_L7B (go7 : Int → Option ((List TDid) × Int)) (x100 : Ttx209) (x101 : Ttx209) (gb38 : Bool) (gx39 : Int) (go4 : Bool → Bool → Int → Option ((List TDid) × Int)) (x63 : Int) (x59 : Int) (gl18 : (List Ttx209)) (gx59 : Int) : Option ((List TDid) × Int) :=
  if gx59 < (x100.reads_.length : Int) then bind1 (idx x100.reads_ gx59) fun x104 => bind1 (m134_slices_Contains_int x101.writes_ x104) fun b106 => m96_skew_Play_K33 gb38 gx39 go4 x63 x59 gl18 gx59 go7 b106 else m96_skew_Play_K32 gb38 gx39 go4 x63 x59 gl18
def m96_skew_Play_L7 (x100 : Ttx209) (x101 : Ttx209) (gb38 : Bool) (gx39 : Int) (go4 : Bool → Bool → Int → Option ((List TDid) × Int)) (x63 : Int) (x59 : Int) (gl18 : (List Ttx209)) : Nat → Int → Option ((List TDid) × Int)
  | 0, _ => none
  | n + 1, gx59 => m96_skew_Play_L7B (m96_skew_Play_L7 x100 x101 gb38 gx39 go4 x63 x59 gl18 n) x100 x101 gb38 gx39 go4 x63 x59 gl18 gx59
def m96_skew_Play_K29 (x100 : Ttx209) (x101 : Ttx209) (gb38 : Bool) (gx39 : Int) (go4 : Bool → Bool → Int → Option ((List TDid) × Int)) (x63 : Int) (x59 : Int) (gl18 : (List Ttx209)) (gb56 : Bool) : Option ((List TDid) × Int) :=
  if gb56 = true then m96_skew_Play_L7 x100 x101 gb38 gx39 go4 x63 x59 gl18 big 0 else m96_skew_Play_K28 gb38 gx39 go4 x63 x59 gl18 false
def m96_skew_Play_K34 (x101 : Ttx209) (x100 : Ttx209) (gb38 : Bool) (gx39 : Int) (go4 : Bool → Bool → Int → Option ((List TDid) × Int)) (x63 : Int) (x59 : Int) (gl18 : (List Ttx209)) (gb61 : Bool) : Option ((List TDid) × Int) :=
  if gb61 = true then if x101.done_ = true then m96_skew_Play_K29 x100 x101 gb38 gx39 go4 x63 x59 gl18 (decide (x100.from_ < x101.at_)) else m96_skew_Play_K29 x100 x101 gb38 gx39 go4 x63 x59 gl18 true else m96_skew_Play_K29 x100 x101 gb38 gx39 go4 x63 x59 gl18 false
def m96_skew_Play_L4B (go4 : Bool → Bool → Int → Option ((List TDid) × Int)) (l56 : (List Int)) (x59 : Int) (gl18 : (List Ttx209)) (gl4 : (List TDid)) (gx5 : Int) (go1 : (List TDid) → Int → (List Ttx209) → Int → (List (List Int)) → Option ((List TDid) × Int)) (gx8 : Int) (gl9 : (List (List Int))) (x3 : TOp) (gx34 : Int) (go3 : Int → Option ((List TDid) × Int)) (gb37 : Bool) (gb38 : Bool) (gx39 : Int) : Option ((List TDid) × Int) :=
  if gx39 < (l56.length : Int) then bind1 (idx l56 gx39) fun x63 => if gb37 = true then m96_skew_Play_K13 gb38 gx39 go4 x63 x59 gl18 true else if x63 ≠ x59 then bind1 (idxA 12 gl18 x63) fun x100 => bind1 (idxA 12 gl18 x59) fun x101 => if x100.done_ = true then if x101.from_ < x100.at_ then m96_skew_Play_K34 x101 x100 gb38 gx39 go4 x63 x59 gl18 true else m96_skew_Play_K34 x101 x100 gb38 gx39 go4 x63 x59 gl18 false else m96_skew_Play_K34 x101 x100 gb38 gx39 go4 x63 x59 gl18 true else m96_skew_Play_K13 gb38 gx39 go4 x63 x59 gl18 false else m96_skew_Play_K12 gl4 gx5 go1 gl18 gx8 gl9 x3 gx34 go3 gb37 gb38
def m96_skew_Play_L4 (l56 : (List Int)) (x59 : Int) (gl18 : (List Ttx209)) (gl4 : (List TDid)) (gx5 : Int) (go1 : (List TDid) → Int → (List Ttx209) → Int → (List (List Int)) → Option ((List TDid) × Int)) (gx8 : Int) (gl9 : (List (List Int))) (x3 : TOp) (gx34 : Int) (go3 : Int → Option ((List TDid) × Int)) : Nat → Bool → Bool → Int → Option ((List TDid) × Int)
  | 0, _, _, _ => none
  | n + 1, gb37, gb38, gx39 => m96_skew_Play_L4B (m96_skew_Play_L4 l56 x59 gl18 gl4 gx5 go1 gx8 gl9 x3 gx34 go3 n) l56 x59 gl18 gl4 gx5 go1 gx8 gl9 x3 gx34 go3 gb37 gb38 gx39
def m96_skew_Play_L3B (go3 : Int → Option ((List TDid) × Int)) (l56 : (List Int)) (gl18 : (List Ttx209)) (gl4 : (List TDid)) (gx5 : Int) (go1 : (List TDid) → Int → (List Ttx209) → Int → (List (List Int)) → Option ((List TDid) × Int)) (gx8 : Int) (gl9 : (List (List Int))) (x3 : TOp) (gx34 : Int) : Option ((List TDid) × Int) :=
  if gx34 < (l56.length : Int) then bind1 (idx l56 gx34) fun x59 => m96_skew_Play_L4 l56 x59 gl18 gl4 gx5 go1 gx8 gl9 x3 gx34 go3 big false false 0 else m96_skew_Play_K10 gl4 gx5 go1 gl18 gx8 gl9 x3
def m96_skew_Play_L3 (l56 : (List Int)) (gl18 : (List Ttx209)) (gl4 : (List TDid)) (gx5 : Int) (go1 : (List TDid) → Int → (List Ttx209) → Int → (List (List Int)) → Option ((List TDid) × Int)) (gx8 : Int) (gl9 : (List (List Int))) (x3 : TOp) : Nat → Int → Option ((List TDid) × Int)
  | 0, _ => none
  | n + 1, gx34 => m96_skew_Play_L3B (m96_skew_Play_L3 l56 gl18 gl4 gx5 go1 gx8 gl9 x3 n) l56 gl18 gl4 gx5 go1 gx8 gl9 x3 gx34
def m96_skew_Play_K9 (x3 : TOp) (gl18 : (List Ttx209)) (gl4 : (List TDid)) (gx5 : Int) (go1 : (List TDid) → Int → (List Ttx209) → Int → (List (List Int)) → Option ((List TDid) × Int)) (gx8 : Int) (gl9 : (List (List Int))) (gl33 : (List Int)) : Option ((List TDid) × Int) :=
  bind1 (app gl33 ([x3.Tx])) fun l56 => m96_skew_Play_L3 l56 gl18 gl4 gx5 go1 gx8 gl9 x3 big 0
def m96_skew_Play_K36 (gl4 : (List TDid)) (gx5 : Int) (go1 : (List TDid) → Int → (List Ttx209) → Int → (List (List Int)) → Option ((List TDid) × Int)) (gl18 : (List Ttx209)) (gx8 : Int) (gl9 : (List (List Int))) (x3 : TOp) (gl63 : (List Int)) (gx64 : Int) (go8 : (List Int) → Int → Option ((List TDid) × Int)) (gb66 : Bool) : Option ((List TDid) × Int) :=
  if gb66 = true then m96_skew_Play_K8 gl4 gx5 go1 gl18 gx8 gl9 x3 true else bind1 (app gl63 ([gx64])) fun l122 => bind1 (i64 (gx64 + 1)) fun x123 => go8 l122 x123
def m96_skew_Play_K37 (gl4 : (List TDid)) (gx5 : Int) (go1 : (List TDid) → Int → (List Ttx209) → Int → (List (List Int)) → Option ((List TDid) × Int)) (gl18 : (List Ttx209)) (gx8 : Int) (gl9 : (List (List Int))) (x3 : TOp) (gl63 : (List Int)) (gx64 : Int) (go8 : (List Int) → Int → Option ((List TDid) × Int)) (gx67 : Int) : Option ((List TDid) × Int) :=
  m96_skew_Play_K36 gl4 gx5 go1 gl18 gx8 gl9 x3 gl63 gx64 go8 (decide (0 ≤ gx67))
def m96_skew_Play_K38 (gl4 : (List TDid)) (gx5 : Int) (go1 : (List TDid) → Int → (List Ttx209) → Int → (List (List Int)) → Option ((List TDid) × Int)) (gl18 : (List Ttx209)) (gx8 : Int) (gl9 : (List (List Int))) (x3 : TOp) (gl63 : (List Int)) (gx64 : Int) (go8 : (List Int) → Int → Option ((List TDid) × Int)) : Option ((List TDid) × Int) :=
  m96_skew_Play_K37 gl4 gx5 go1 gl18 gx8 gl9 x3 gl63 gx64 go8 (-1)
def m96_skew_Play_K39 (gl4 : (List TDid)) (gx5 : Int) (go1 : (List TDid) → Int → (List Ttx209) → Int → (List (List Int)) → Option ((List TDid) × Int)) (gl18 : (List Ttx209)) (gx8 : Int) (gl9 : (List (List Int))) (x3 : TOp) (gl63 : (List Int)) (gx64 : Int) (go8 : (List Int) → Int → Option ((List TDid) × Int)) (gx68 : Int) (go9 : Int → Option ((List TDid) × Int)) (gb69 : Bool) : Option ((List TDid) × Int) :=
  if gb69 = true then m96_skew_Play_K37 gl4 gx5 go1 gl18 gx8 gl9 x3 gl63 gx64 go8 gx68 else bind1 (i64 (gx68 + 1)) fun x126 => go9 x126
def m96_skew_Play_L9B (go9 : Int → Option ((List TDid) × Int)) (x53 : Ttx209) (x112 : Ttx209) (gl4 : (List TDid)) (gx5 : Int) (go1 : (List TDid) → Int → (List Ttx209) → Int → (List (List Int)) → Option ((List TDid) × Int)) (gl18 : (List Ttx209)) (gx8 : Int) (gl9 : (List (List Int))) (x3 : TOp) (gl63 : (List Int)) (gx64 : Int) (go8 : (List Int) → Int → Option ((List TDid) × Int)) (gx68 : Int) : Option ((List TDid) × Int) :=
  if gx68 < (x53.writes_.length : Int) then bind1 (idx x53.writes_ gx68) fun x125 => bind1 (m134_slices_Contains_int x112.writes_ x125) fun b127 => m96_skew_Play_K39 gl4 gx5 go1 gl18 gx8 gl9 x3 gl63 gx64 go8 gx68 go9 b127 else m96_skew_Play_K38 gl4 gx5 go1 gl18 gx8 gl9 x3 gl63 gx64 go8
def m96_skew_Play_L9 (x53 : Ttx209) (x112 : Ttx209) (gl4 : (List TDid)) (gx5 : Int) (go1 : (List TDid) → Int → (List Ttx209) → Int → (List (List Int)) → Option ((List TDid) × Int)) (gl18 : (List Ttx209)) (gx8 : Int) (gl9 : (List (List Int))) (x3 : TOp) (gl63 : (List Int)) (gx64 : Int) (go8 : (List Int) → Int → Option ((List TDid) × Int)) : Nat → Int → Option ((List TDid) × Int)
  | 0, _ => none
  | n + 1, gx68 => m96_skew_Play_L9B (m96_skew_Play_L9 x53 x112 gl4 gx5 go1 gl18 gx8 gl9 x3 gl63 gx64 go8 n) x53 x112 gl4 gx5 go1 gl18 gx8 gl9 x3 gl63 gx64 go8 gx68
def m96_skew_Play_K35 (x53 : Ttx209) (x112 : Ttx209) (gl4 : (List TDid)) (gx5 : Int) (go1 : (List TDid) → Int → (List Ttx209) → Int → (List (List Int)) → Option ((List TDid) × Int)) (gl18 : (List Ttx209)) (gx8 : Int) (gl9 : (List (List Int))) (x3 : TOp) (gl63 : (List Int)) (gx64 : Int) (go8 : (List Int) → Int → Option ((List TDid) × Int)) (gb65 : Bool) : Option ((List TDid) × Int) :=
  if gb65 = true then m96_skew_Play_L9 x53 x112 gl4 gx5 go1 gl18 gx8 gl9 x3 gl63 gx64 go8 big 0 else bind1 (app gl63 ([gx64])) fun l118 => bind1 (i64 (gx64 + 1)) fun x119 => go8 l118 x119
def m96_skew_Play_K40 (x112 : Ttx209) (x53 : Ttx209) (gl4 : (List TDid)) (gx5 : Int) (go1 : (List TDid) → Int → (List Ttx209) → Int → (List (List Int)) → Option ((List TDid) × Int)) (gl18 : (List Ttx209)) (gx8 : Int) (gl9 : (List (List Int))) (x3 : TOp) (gl63 : (List Int)) (gx64 : Int) (go8 : (List Int) → Int → Option ((List TDid) × Int)) (gb70 : Bool) : Option ((List TDid) × Int) :=
  if gb70 = true then if x112.done_ = true then m96_skew_Play_K35 x53 x112 gl4 gx5 go1 gl18 gx8 gl9 x3 gl63 gx64 go8 (decide (x53.from_ < x112.at_)) else m96_skew_Play_K35 x53 x112 gl4 gx5 go1 gl18 gx8 gl9 x3 gl63 gx64 go8 true else m96_skew_Play_K35 x53 x112 gl4 gx5 go1 gl18 gx8 gl9 x3 gl63 gx64 go8 false
def m96_skew_Play_L8B (go8 : (List Int) → Int → Option ((List TDid) × Int)) (gl18 : (List Ttx209)) (x3 : TOp) (x53 : Ttx209) (gl4 : (List TDid)) (gx5 : Int) (go1 : (List TDid) → Int → (List Ttx209) → Int → (List (List Int)) → Option ((List TDid) × Int)) (gx8 : Int) (gl9 : (List (List Int))) (gl63 : (List Int)) (gx64 : Int) : Option ((List TDid) × Int) :=
  if gx64 < 12 then bind1 (idxA 12 gl18 gx64) fun x112 => if gx64 ≠ x3.Tx then if x112.done_ = true then if x53.done_ = true then if x112.from_ < x53.at_ then m96_skew_Play_K40 x112 x53 gl4 gx5 go1 gl18 gx8 gl9 x3 gl63 gx64 go8 true else m96_skew_Play_K40 x112 x53 gl4 gx5 go1 gl18 gx8 gl9 x3 gl63 gx64 go8 false else m96_skew_Play_K40 x112 x53 gl4 gx5 go1 gl18 gx8 gl9 x3 gl63 gx64 go8 true else bind1 (i64 (gx64 + 1)) fun x132 => go8 gl63 x132 else bind1 (i64 (gx64 + 1)) fun x133 => go8 gl63 x133 else m96_skew_Play_K9 x3 gl18 gl4 gx5 go1 gx8 gl9 gl63
def m96_skew_Play_L8 (gl18 : (List Ttx209)) (x3 : TOp) (x53 : Ttx209) (gl4 : (List TDid)) (gx5 : Int) (go1 : (List TDid) → Int → (List Ttx209) → Int → (List (List Int)) → Option ((List TDid) × Int)) (gx8 : Int) (gl9 : (List (List Int))) : Nat → (List Int) → Int → Option ((List TDid) × Int)
  | 0, _, _ => none
  | n + 1, gl63, gx64 => m96_skew_Play_L8B (m96_skew_Play_L8 gl18 x3 x53 gl4 gx5 go1 gx8 gl9 n) gl18 x3 x53 gl4 gx5 go1 gx8 gl9 gl63 gx64
def m96_skew_Play_K7 (gl18 : (List Ttx209)) (x3 : TOp) (gl4 : (List TDid)) (gx5 : Int) (go1 : (List TDid) → Int → (List Ttx209) → Int → (List (List Int)) → Option ((List TDid) × Int)) (gx8 : Int) (gl9 : (List (List Int))) (gb27 : Bool) : Option ((List TDid) × Int) :=
  if gb27 = true then bind1 (idx gl18 x3.Tx) fun x134 => bind1 (m134_slices_Contains_int x134.writes_ x3.Item) fun b135 => if b135 = true then m96_skew_Play_K5 gl4 gx5 go1 (-1) gl18 gx8 gl9 else bind1 (idx gl18 x3.Tx) fun x155 => bind1 (app x155.writes_ ([x3.Item])) fun l158 => bind1 (idx gl18 x3.Tx) fun x159 => bind1 (upd gl18 x3.Tx (⟨x159.began_, x159.done_, x159.from_, x159.at_, x159.reads_, l158⟩ : Ttx209)) fun l160 => m96_skew_Play_K5 gl4 gx5 go1 (-1) l160 gx8 gl9 else if x3.Kind = 3 then bind1 (idxA 12 gl18 x3.Tx) fun x53 => m96_skew_Play_L8 gl18 x3 x53 gl4 gx5 go1 gx8 gl9 big [] 0 else m96_skew_Play_K5 gl4 gx5 go1 (-1) gl18 gx8 gl9
def m96_skew_Play_K41 (gl4 : (List TDid)) (gx5 : Int) (go1 : (List TDid) → Int → (List Ttx209) → Int → (List (List Int)) → Option ((List TDid) × Int)) (gx8 : Int) (gl9 : (List (List Int))) (gx71 : Int) (gl72 : (List Ttx209)) : Option ((List TDid) × Int) :=
  m96_skew_Play_K5 gl4 gx5 go1 gx71 gl72 gx8 gl9
def m96_skew_Play_K44 (gl4 : (List TDid)) (gx5 : Int) (go1 : (List TDid) → Int → (List Ttx209) → Int → (List (List Int)) → Option ((List TDid) × Int)) (gx8 : Int) (gl9 : (List (List Int))) (gl74 : (List Ttx209)) (gx76 : Int) : Option ((List TDid) × Int) :=
  m96_skew_Play_K41 gl4 gx5 go1 gx8 gl9 gx76 gl74
def m96_skew_Play_L10B (go10 : Int → Int → Option ((List TDid) × Int)) (x163 : (List Int)) (gl74 : (List Ttx209)) (x3 : TOp) (gl4 : (List TDid)) (gx5 : Int) (go1 : (List TDid) → Int → (List Ttx209) → Int → (List (List Int)) → Option ((List TDid) × Int)) (gx8 : Int) (gl9 : (List (List Int))) (gx77 : Int) (gx78 : Int) : Option ((List TDid) × Int) :=
  if gx78 < (x163.length : Int) then bind1 (idx x163 gx78) fun x166 => bind1 (idxA 12 gl74 x166) fun x167 => bind1 (idx gl74 x3.Tx) fun x168 => if x167.at_ ≤ x168.from_ then bind1 (i64 (gx78 + 1)) fun x170 => go10 x166 x170 else bind1 (i64 (gx78 + 1)) fun x171 => go10 gx77 x171 else m96_skew_Play_K44 gl4 gx5 go1 gx8 gl9 gl74 gx77
def m96_skew_Play_L10 (x163 : (List Int)) (gl74 : (List Ttx209)) (x3 : TOp) (gl4 : (List TDid)) (gx5 : Int) (go1 : (List TDid) → Int → (List Ttx209) → Int → (List (List Int)) → Option ((List TDid) × Int)) (gx8 : Int) (gl9 : (List (List Int))) : Nat → Int → Int → Option ((List TDid) × Int)
  | 0, _, _ => none
  | n + 1, gx77, gx78 => m96_skew_Play_L10B (m96_skew_Play_L10 x163 gl74 x3 gl4 gx5 go1 gx8 gl9 n) x163 gl74 x3 gl4 gx5 go1 gx8 gl9 gx77 gx78
def m96_skew_Play_K43 (gl9 : (List (List Int))) (x3 : TOp) (gl4 : (List TDid)) (gx5 : Int) (go1 : (List TDid) → Int → (List Ttx209) → Int → (List (List Int)) → Option ((List TDid) × Int)) (gx8 : Int) (gl74 : (List Ttx209)) : Option ((List TDid) × Int) :=
  bind1 (idxA 20 gl9 x3.Item) fun x163 => bind1 (arrN 12 gl74) fun _ => m96_skew_Play_L10 x163 gl74 x3 gl4 gx5 go1 gx8 gl9 big (-1) 0
def m96_skew_Play_K42 (gl18 : (List Ttx209)) (x3 : TOp) (gl9 : (List (List Int))) (gl4 : (List TDid)) (gx5 : Int) (go1 : (List TDid) → Int → (List Ttx209) → Int → (List (List Int)) → Option ((List TDid) × Int)) (gx8 : Int) : Option ((List TDid) × Int) :=
  bind1 (idx gl18 x3.Tx) fun x172 => bind1 (m134_slices_Contains_int x172.reads_ x3.Item) fun b173 => if b173 = true then m96_skew_Play_K43 gl9 x3 gl4 gx5 go1 gx8 gl18 else bind1 (idx gl18 x3.Tx) fun x175 => bind1 (app x175.reads_ ([x3.Item])) fun l178 => bind1 (idx gl18 x3.Tx) fun x179 => bind1 (upd gl18 x3.Tx (⟨x179.began_, x179.done_, x179.from_, x179.at_, l178, x179.writes_⟩ : Ttx209)) fun l180 => m96_skew_Play_K43 gl9 x3 gl4 gx5 go1 gx8 l180
def m96_skew_Play_K6 (gl18 : (List Ttx209)) (x3 : TOp) (gl4 : (List TDid)) (gx5 : Int) (go1 : (List TDid) → Int → (List Ttx209) → Int → (List (List Int)) → Option ((List TDid) × Int)) (gx8 : Int) (gl9 : (List (List Int))) (gb26 : Bool) : Option ((List TDid) × Int) :=
  if gb26 = true then bind1 (idx gl18 x3.Tx) fun x182 => bind1 (m134_slices_Contains_int x182.writes_ x3.Item) fun b183 => if b183 = true then m96_skew_Play_K41 gl4 gx5 go1 gx8 gl9 x3.Tx gl18 else m96_skew_Play_K42 gl18 x3 gl9 gl4 gx5 go1 gx8 else if x3.Kind = 2 then m96_skew_Play_K7 gl18 x3 gl4 gx5 go1 gx8 gl9 true else m96_skew_Play_K7 gl18 x3 gl4 gx5 go1 gx8 gl9 false
def m96_skew_Play_K4 (x3 : TOp) (gl4 : (List TDid)) (gx5 : Int) (go1 : (List TDid) → Int → (List Ttx209) → Int → (List (List Int)) → Option ((List TDid) × Int)) (gx8 : Int) (gl9 : (List (List Int))) (gl18 : (List Ttx209)) : Option ((List TDid) × Int) :=
  if x3.Kind = 1 then m96_skew_Play_K6 gl18 x3 gl4 gx5 go1 gx8 gl9 true else m96_skew_Play_K6 gl18 x3 gl4 gx5 go1 gx8 gl9 false
def m96_skew_Play_L1B (go1 : (List TDid) → Int → (List Ttx209) → Int → (List (List Int)) → Option ((List TDid) × Int)) (a0 : (List TOp)) (gl4 : (List TDid)) (gx5 : Int) (gl6 : (List Ttx209)) (gx8 : Int) (gl9 : (List (List Int))) : Option ((List TDid) × Int) :=
  if gx5 < (a0.length : Int) then bind1 (idx a0 gx5) fun x3 => bind1 (idxA 12 gl6 x3.Tx) fun x11 => if x11.began_ = true then m96_skew_Play_K4 x3 gl4 gx5 go1 gx8 gl9 gl6 else bind1 (arrN 12 gl6) fun _ => bind1 (upd gl6 x3.Tx (⟨true, false, gx8, 0, [], []⟩ : Ttx209)) fun l188 => m96_skew_Play_K4 x3 gl4 gx5 go1 gx8 gl9 l188 else m96_skew_Play_K2 gl4
def m96_skew_Play_L1 (a0 : (List TOp)) : Nat → (List TDid) → Int → (List Ttx209) → Int → (List (List Int)) → Option ((List TDid) × Int)
  | 0, _, _, _, _, _ => none
  | n + 1, gl4, gx5, gl6, gx8, gl9 => m96_skew_Play_L1B (m96_skew_Play_L1 a0 n) a0 gl4 gx5 gl6 gx8 gl9
def m96_skew_Play_K1 (a0 : (List TOp)) : Option ((List TDid) × Int) :=
  m96_skew_Play_L1 a0 big [] 0 (List.replicate 12 ((⟨false, false, 0, 0, [], []⟩ : Ttx209) : Ttx209)) 0 (List.replicate 20 ([] : (List Int)))
def m96_skew_Play (a0 : (List TOp)) : Option ((List TDid) × Int) :=
  bind1 (m107_run_Check a0) fun x190 => if x190 ≠ 0 then some ([], x190) else m96_skew_Play_K1 a0
def m51_quirref_RunErr_K2 : Option Int :=
  some 0
def m51_quirref_RunErr_K3 (gx1 : Int) (go1 : Int → Option Int) : Option Int :=
  bind1 (i64 (gx1 + 1)) fun x2 => go1 x2
def m51_quirref_RunErr_L2B (go2 : Int → Option Int) (l5 : (List TOp)) (x3 : TOp) (gx1 : Int) (go1 : Int → Option Int) (gx2 : Int) : Option Int :=
  if gx2 < (l5.length : Int) then bind1 (idx l5 gx2) fun x7 => if x7.Tx = x3.Tx then if 2 < x7.Kind then some 4 else bind1 (i64 (gx2 + 1)) fun x11 => go2 x11 else bind1 (i64 (gx2 + 1)) fun x12 => go2 x12 else m51_quirref_RunErr_K3 gx1 go1
def m51_quirref_RunErr_L2 (l5 : (List TOp)) (x3 : TOp) (gx1 : Int) (go1 : Int → Option Int) : Nat → Int → Option Int
  | 0, _ => none
  | n + 1, gx2 => m51_quirref_RunErr_L2B (m51_quirref_RunErr_L2 l5 x3 gx1 go1 n) l5 x3 gx1 go1 gx2
def m51_quirref_RunErr_K5 (a0 : (List TOp)) (gx1 : Int) (x3 : TOp) (go1 : Int → Option Int) : Option Int :=
  bind1 (cut a0 0 gx1) fun l5 => m51_quirref_RunErr_L2 l5 x3 gx1 go1 big 0
def m51_quirref_RunErr_K7 (a0 : (List TOp)) (gx1 : Int) (x3 : TOp) (go1 : Int → Option Int) (gb4 : Bool) : Option Int :=
  if gb4 = true then some 4 else m51_quirref_RunErr_K5 a0 gx1 x3 go1
def m51_quirref_RunErr_K6 (x3 : TOp) (a0 : (List TOp)) (gx1 : Int) (go1 : Int → Option Int) (gb3 : Bool) : Option Int :=
  if gb3 = true then some 4 else if 2 < x3.Kind then if x3.Item ≠ 0 then m51_quirref_RunErr_K7 a0 gx1 x3 go1 true else m51_quirref_RunErr_K7 a0 gx1 x3 go1 false else m51_quirref_RunErr_K7 a0 gx1 x3 go1 false
def m51_quirref_RunErr_K4 (x3 : TOp) (a0 : (List TOp)) (gx1 : Int) (go1 : Int → Option Int) : Option Int :=
  if x3.Kind < 1 then m51_quirref_RunErr_K6 x3 a0 gx1 go1 true else if 4 < x3.Kind then m51_quirref_RunErr_K6 x3 a0 gx1 go1 true else m51_quirref_RunErr_K6 x3 a0 gx1 go1 false
def m51_quirref_RunErr_K8 (x3 : TOp) (a0 : (List TOp)) (gx1 : Int) (go1 : Int → Option Int) (gb5 : Bool) : Option Int :=
  if gb5 = true then some 1 else if x3.Item < 0 then some 1 else if 19 < x3.Item then some 1 else m51_quirref_RunErr_K4 x3 a0 gx1 go1
def m51_quirref_RunErr_L1B (go1 : Int → Option Int) (a0 : (List TOp)) (gx1 : Int) : Option Int :=
  if gx1 < (a0.length : Int) then bind1 (idx a0 gx1) fun x3 => if x3.Tx < 0 then m51_quirref_RunErr_K8 x3 a0 gx1 go1 true else if 11 < x3.Tx then m51_quirref_RunErr_K8 x3 a0 gx1 go1 true else m51_quirref_RunErr_K8 x3 a0 gx1 go1 false else m51_quirref_RunErr_K2
def m51_quirref_RunErr_L1 (a0 : (List TOp)) : Nat → Int → Option Int
  | 0, _ => none
  | n + 1, gx1 => m51_quirref_RunErr_L1B (m51_quirref_RunErr_L1 a0 n) a0 gx1
def m51_quirref_RunErr_K1 (a0 : (List TOp)) : Option Int :=
  m51_quirref_RunErr_L1 a0 big 0
def m51_quirref_RunErr (a0 : (List TOp)) : Option Int :=
  if 200 < (a0.length : Int) then some 2 else m51_quirref_RunErr_K1 a0
def m161_api_Op_K1 : Option Int :=
  some (-1)
def m161_api_Op_L1B (go1 : Int → Option Int) (a0 : (List TOp)) (a1 : TOp) (gx1 : Int) : Option Int :=
  if gx1 < (a0.length : Int) then bind1 (idx a0 gx1) fun x3 => if a1 = x3 then some gx1 else bind1 (i64 (gx1 + 1)) fun x5 => go1 x5 else m161_api_Op_K1
def m161_api_Op_L1 (a0 : (List TOp)) (a1 : TOp) : Nat → Int → Option Int
  | 0, _ => none
  | n + 1, gx1 => m161_api_Op_L1B (m161_api_Op_L1 a0 a1 n) a0 a1 gx1
def m161_api_Op (a0 : (List TOp)) (a1 : TOp) : Option Int :=
  m161_api_Op_L1 a0 a1 big 0
def m148_api_Op (a0 : (List TOp)) (a1 : TOp) : Option Bool :=
  bind1 (m161_api_Op a0 a1) fun x2 => some (decide (0 ≤ x2))
def m157_quirref_wrote (a0 : (List TOp)) (a1 : Int) (a2 : Int) : Option Bool :=
  bind1 (m148_api_Op a0 (⟨a1, 2, a2⟩ : TOp)) fun b1 => some b1
def m158_quirref_commits_K1 (gl2 : (List Int)) : Option (List Int) :=
  some gl2
def m158_quirref_commits_L1B (go1 : (List Int) → Int → Option (List Int)) (a1 : (List TDid)) (a0 : (List TOp)) (gl4 : (List Int)) (gx5 : Int) : Option (List Int) :=
  if gx5 < (a1.length : Int) then bind1 (idx a1 gx5) fun x2 => bind1 (idx a0 gx5) fun x4 => if x4.Kind = 3 then if x2.OK = true then bind1 (app gl4 ([gx5])) fun l9 => bind1 (i64 (gx5 + 1)) fun x10 => go1 l9 x10 else bind1 (i64 (gx5 + 1)) fun x11 => go1 gl4 x11 else bind1 (i64 (gx5 + 1)) fun x12 => go1 gl4 x12 else m158_quirref_commits_K1 gl4
def m158_quirref_commits_L1 (a1 : (List TDid)) (a0 : (List TOp)) : Nat → (List Int) → Int → Option (List Int)
  | 0, _, _ => none
  | n + 1, gl4, gx5 => m158_quirref_commits_L1B (m158_quirref_commits_L1 a1 a0 n) a1 a0 gl4 gx5
def m158_quirref_commits (a0 : (List TOp)) (a1 : (List TDid)) : Option (List Int) :=
  m158_quirref_commits_L1 a1 a0 big [] 0
def m166_quirref_nth_K1 : Option Int :=
  some (-1)
def m166_quirref_nth_K2 (gx2 : Int) (go1 : Int → Int → Option Int) (gx3 : Int) : Option Int :=
  bind1 (i64 (gx2 + 1)) fun x2 => go1 gx3 x2
def m166_quirref_nth_L1B (go1 : Int → Int → Option Int) (a0 : (List TOp)) (a1 : Int) (gx1 : Int) (gx2 : Int) : Option Int :=
  if gx2 < (a0.length : Int) then bind1 (idx a0 gx2) fun x3 => if x3.Tx ≠ a1 then m166_quirref_nth_K2 gx2 go1 gx1 else if gx1 = 0 then some gx2 else bind1 (i64 (gx1 - 1)) fun x7 => m166_quirref_nth_K2 gx2 go1 x7 else m166_quirref_nth_K1
def m166_quirref_nth_L1 (a0 : (List TOp)) (a1 : Int) : Nat → Int → Int → Option Int
  | 0, _, _ => none
  | n + 1, gx1, gx2 => m166_quirref_nth_L1B (m166_quirref_nth_L1 a0 a1 n) a0 a1 gx1 gx2
def m166_quirref_nth (a0 : (List TOp)) (a1 : Int) (a2 : Int) : Option Int :=
  m166_quirref_nth_L1 a0 a1 big a2 0
def m159_quirref_begins (a0 : (List TOp)) (a1 : Int) : Option Int :=
  bind1 (m166_quirref_nth a0 a1 0) fun x1 => some x1
def m141_quirref_snapFrom_K2 (gx1 : Int) : Option Int :=
  some gx1
def m141_quirref_snapFrom_L1B (go1 : Int → Int → Option Int) (l3 : (List Int)) (a0 : (List TOp)) (x1 : TOp) (gx2 : Int) (gx3 : Int) : Option Int :=
  if gx3 < (l3.length : Int) then bind1 (idx l3 gx3) fun x7 => bind1 (m159_quirref_begins a0 x1.Tx) fun x8 => if x7 < x8 then bind1 (cut a0 0 x7) fun l11 => bind1 (idx a0 x7) fun x12 => bind1 (m157_quirref_wrote l11 x12.Tx x1.Item) fun b13 => if b13 = true then bind1 (idx a0 x7) fun x16 => bind1 (i64 (gx3 + 1)) fun x17 => go1 x16.Tx x17 else bind1 (i64 (gx3 + 1)) fun x15 => go1 gx2 x15 else bind1 (i64 (gx3 + 1)) fun x18 => go1 gx2 x18 else m141_quirref_snapFrom_K2 gx2
def m141_quirref_snapFrom_L1 (l3 : (List Int)) (a0 : (List TOp)) (x1 : TOp) : Nat → Int → Int → Option Int
  | 0, _, _ => none
  | n + 1, gx2, gx3 => m141_quirref_snapFrom_L1B (m141_quirref_snapFrom_L1 l3 a0 x1 n) l3 a0 x1 gx2 gx3
def m141_quirref_snapFrom_K1 (a0 : (List TOp)) (a1 : (List TDid)) (x1 : TOp) : Option Int :=
  bind1 (m158_quirref_commits a0 a1) fun l3 => m141_quirref_snapFrom_L1 l3 a0 x1 big (-1) 0
def m141_quirref_snapFrom (a0 : (List TOp)) (a1 : (List TDid)) (a2 : Int) : Option Int :=
  bind1 (idx a0 a2) fun x1 => bind1 (cut a0 0 a2) fun l19 => bind1 (m157_quirref_wrote l19 x1.Tx x1.Item) fun b20 => if b20 = true then some x1.Tx else m141_quirref_snapFrom_K1 a0 a1 x1
def m142_quirref_lost_K1 : Option Bool :=
  some false
def m142_quirref_lost_K2 (gx1 : Int) (go1 : Int → Option Bool) : Option Bool :=
  bind1 (i64 (gx1 + 1)) fun x6 => go1 x6
def m142_quirref_lost_K3 (a0 : (List TOp)) (a2 : Int) (x1 : TOp) (gx2 : Int) (go2 : Int → Option Bool) (gb3 : Bool) : Option Bool :=
  if gb3 = true then bind1 (cut a0 0 a2) fun l10 => bind1 (m157_quirref_wrote l10 x1.Tx gx2) fun b11 => if b11 = true then some true else bind1 (i64 (gx2 + 1)) fun x13 => go2 x13 else bind1 (i64 (gx2 + 1)) fun x9 => go2 x9
def m142_quirref_lost_L2B (go2 : Int → Option Bool) (a0 : (List TOp)) (x1 : TOp) (x7 : Int) (a2 : Int) (gx1 : Int) (go1 : Int → Option Bool) (gx2 : Int) : Option Bool :=
  if gx2 < 20 then bind1 (m159_quirref_begins a0 x1.Tx) fun x14 => if x14 < x7 then bind1 (cut a0 0 x7) fun l17 => bind1 (idx a0 x7) fun x18 => bind1 (m157_quirref_wrote l17 x18.Tx gx2) fun b19 => if b19 = true then m142_quirref_lost_K3 a0 a2 x1 gx2 go2 true else m142_quirref_lost_K3 a0 a2 x1 gx2 go2 false else m142_quirref_lost_K3 a0 a2 x1 gx2 go2 false else m142_quirref_lost_K2 gx1 go1
def m142_quirref_lost_L2 (a0 : (List TOp)) (x1 : TOp) (x7 : Int) (a2 : Int) (gx1 : Int) (go1 : Int → Option Bool) : Nat → Int → Option Bool
  | 0, _ => none
  | n + 1, gx2 => m142_quirref_lost_L2B (m142_quirref_lost_L2 a0 x1 x7 a2 gx1 go1 n) a0 x1 x7 a2 gx1 go1 gx2
def m142_quirref_lost_L1B (go1 : Int → Option Bool) (l2 : (List Int)) (a0 : (List TOp)) (x1 : TOp) (a2 : Int) (gx1 : Int) : Option Bool :=
  if gx1 < (l2.length : Int) then bind1 (idx l2 gx1) fun x7 => m142_quirref_lost_L2 a0 x1 x7 a2 gx1 go1 big 0 else m142_quirref_lost_K1
def m142_quirref_lost_L1 (l2 : (List Int)) (a0 : (List TOp)) (x1 : TOp) (a2 : Int) : Nat → Int → Option Bool
  | 0, _ => none
  | n + 1, gx1 => m142_quirref_lost_L1B (m142_quirref_lost_L1 l2 a0 x1 a2 n) l2 a0 x1 a2 gx1
def m142_quirref_lost (a0 : (List TOp)) (a1 : (List TDid)) (a2 : Int) : Option Bool :=
  bind1 (idx a0 a2) fun x1 => bind1 (m158_quirref_commits a0 a1) fun l2 => m142_quirref_lost_L1 l2 a0 x1 a2 big 0
def m160_quirref_skips_K2 : Option Bool :=
  some false
def m160_quirref_skips_K3 (a1 : (List TDid)) (gx1 : Int) (x1 : TOp) (a0 : (List TOp)) (a3 : Int) (x2 : TOp) (x5 : TOp) (go1 : Int → Option Bool) (gb2 : Bool) : Option Bool :=
  if gb2 = true then bind1 (idx a1 gx1) fun x8 => if x8.From ≠ x1.Tx then bind1 (cut a0 0 a3) fun l10 => bind1 (m157_quirref_wrote l10 x2.Tx x5.Item) fun b11 => if b11 = true then some true else bind1 (i64 (gx1 + 1)) fun x13 => go1 x13 else bind1 (i64 (gx1 + 1)) fun x14 => go1 x14 else bind1 (i64 (gx1 + 1)) fun x7 => go1 x7
def m160_quirref_skips_L1B (go1 : Int → Option Bool) (l3 : (List TOp)) (x1 : TOp) (a1 : (List TDid)) (a0 : (List TOp)) (a3 : Int) (x2 : TOp) (gx1 : Int) : Option Bool :=
  if gx1 < (l3.length : Int) then bind1 (idx l3 gx1) fun x5 => if x5.Kind = 1 then if x5.Tx = x1.Tx then m160_quirref_skips_K3 a1 gx1 x1 a0 a3 x2 x5 go1 true else m160_quirref_skips_K3 a1 gx1 x1 a0 a3 x2 x5 go1 false else m160_quirref_skips_K3 a1 gx1 x1 a0 a3 x2 x5 go1 false else m160_quirref_skips_K2
def m160_quirref_skips_L1 (l3 : (List TOp)) (x1 : TOp) (a1 : (List TDid)) (a0 : (List TOp)) (a3 : Int) (x2 : TOp) : Nat → Int → Option Bool
  | 0, _ => none
  | n + 1, gx1 => m160_quirref_skips_L1B (m160_quirref_skips_L1 l3 x1 a1 a0 a3 x2 n) l3 x1 a1 a0 a3 x2 gx1
def m160_quirref_skips_K1 (a0 : (List TOp)) (a2 : Int) (x1 : TOp) (a1 : (List TDid)) (a3 : Int) (x2 : TOp) : Option Bool :=
  bind1 (cut a0 0 a2) fun l3 => m160_quirref_skips_L1 l3 x1 a1 a0 a3 x2 big 0
def m160_quirref_skips (a0 : (List TOp)) (a1 : (List TDid)) (a2 : Int) (a3 : Int) : Option Bool :=
  bind1 (idx a0 a2) fun x1 => bind1 (idx a0 a3) fun x2 => bind1 (m159_quirref_begins a0 x1.Tx) fun x17 => if a3 < x17 then some false else bind1 (m159_quirref_begins a0 x2.Tx) fun x20 => if a2 < x20 then some false else m160_quirref_skips_K1 a0 a2 x1 a1 a3 x2
def m143_quirref_between_K1 : Option Bool :=
  some false
def m143_quirref_between_K2 (gx1 : Int) (go1 : Int → Option Bool) : Option Bool :=
  bind1 (i64 (gx1 + 1)) fun x8 => go1 x8
def m143_quirref_between_K3 (gx1 : Int) (go1 : Int → Option Bool) (gb2 : Bool) (gb3 : Bool) : Option Bool :=
  if gb2 = true then if gb3 = true then some true else m143_quirref_between_K2 gx1 go1 else m143_quirref_between_K2 gx1 go1
def m143_quirref_between_K5 (gx6 : Int) (go2 : Bool → Bool → Int → Option Bool) (gb8 : Bool) : Option Bool :=
  if gb8 = true then bind1 (i64 (gx6 + 1)) fun x16 => go2 false true x16 else bind1 (i64 (gx6 + 1)) fun x15 => go2 false false x15
def m143_quirref_between_K6 (gx6 : Int) (go2 : Bool → Bool → Int → Option Bool) (gb9 : Bool) : Option Bool :=
  if gb9 = true then bind1 (i64 (gx6 + 1)) fun x21 => go2 true true x21 else bind1 (i64 (gx6 + 1)) fun x20 => go2 true false x20
def m143_quirref_between_K4 (gb5 : Bool) (gx6 : Int) (go2 : Bool → Bool → Int → Option Bool) (a0 : (List TOp)) (a1 : (List TDid)) (x9 : Int) (x13 : Int) (gb7 : Bool) : Option Bool :=
  if gb7 = true then if gb5 = true then m143_quirref_between_K6 gx6 go2 true else bind1 (m160_quirref_skips a0 a1 x9 x13) fun b23 => if b23 = true then m143_quirref_between_K6 gx6 go2 true else m143_quirref_between_K6 gx6 go2 false else if gb5 = true then m143_quirref_between_K5 gx6 go2 true else bind1 (m160_quirref_skips a0 a1 x9 x13) fun b18 => if b18 = true then m143_quirref_between_K5 gx6 go2 true else m143_quirref_between_K5 gx6 go2 false
def m143_quirref_between_L2B (go2 : Bool → Bool → Int → Option Bool) (l6 : (List Int)) (x9 : Int) (a0 : (List TOp)) (a1 : (List TDid)) (gx1 : Int) (go1 : Int → Option Bool) (gb4 : Bool) (gb5 : Bool) (gx6 : Int) : Option Bool :=
  if gx6 < (l6.length : Int) then bind1 (idx l6 gx6) fun x13 => if x13 ≠ x9 then if gb4 = true then m143_quirref_between_K4 gb5 gx6 go2 a0 a1 x9 x13 true else bind1 (m160_quirref_skips a0 a1 x13 x9) fun b26 => if b26 = true then m143_quirref_between_K4 gb5 gx6 go2 a0 a1 x9 x13 true else m143_quirref_between_K4 gb5 gx6 go2 a0 a1 x9 x13 false else bind1 (i64 (gx6 + 1)) fun x28 => go2 gb4 gb5 x28 else m143_quirref_between_K3 gx1 go1 gb4 gb5
def m143_quirref_between_L2 (l6 : (List Int)) (x9 : Int) (a0 : (List TOp)) (a1 : (List TDid)) (gx1 : Int) (go1 : Int → Option Bool) : Nat → Bool → Bool → Int → Option Bool
  | 0, _, _, _ => none
  | n + 1, gb4, gb5, gx6 => m143_quirref_between_L2B (m143_quirref_between_L2 l6 x9 a0 a1 gx1 go1 n) l6 x9 a0 a1 gx1 go1 gb4 gb5 gx6
def m143_quirref_between_L1B (go1 : Int → Option Bool) (l6 : (List Int)) (a0 : (List TOp)) (a1 : (List TDid)) (gx1 : Int) : Option Bool :=
  if gx1 < (l6.length : Int) then bind1 (idx l6 gx1) fun x9 => m143_quirref_between_L2 l6 x9 a0 a1 gx1 go1 big false false 0 else m143_quirref_between_K1
def m143_quirref_between_L1 (l6 : (List Int)) (a0 : (List TOp)) (a1 : (List TDid)) : Nat → Int → Option Bool
  | 0, _ => none
  | n + 1, gx1 => m143_quirref_between_L1B (m143_quirref_between_L1 l6 a0 a1 n) l6 a0 a1 gx1
def m143_quirref_between (a0 : (List TOp)) (a1 : (List TDid)) (a2 : Int) : Option Bool :=
  bind1 (m158_quirref_commits a0 a1) fun l1 => bind1 (app l1 ([a2])) fun l6 => m143_quirref_between_L1 l6 a0 a1 big 0
def m98_quirref_Snap_K1 (gl2 : (List TDid)) : Option (List TDid) :=
  some gl2
def m98_quirref_Snap_K2 (gl4 : (List TDid)) (gx5 : Int) (go1 : (List TDid) → Int → Option (List TDid)) (gb6 : Bool) (gx7 : Int) : Option (List TDid) :=
  bind1 (app gl4 ([(⟨gb6, gx7⟩ : TDid)])) fun l7 => bind1 (i64 (gx5 + 1)) fun x8 => go1 l7 x8
def m98_quirref_Snap_K3 (gl4 : (List TDid)) (gx5 : Int) (go1 : (List TDid) → Int → Option (List TDid)) (gb8 : Bool) : Option (List TDid) :=
  m98_quirref_Snap_K2 gl4 gx5 go1 gb8 (-1)
def m98_quirref_Snap_L1B (go1 : (List TDid) → Int → Option (List TDid)) (a0 : (List TOp)) (a1 : Bool) (gl4 : (List TDid)) (gx5 : Int) : Option (List TDid) :=
  if gx5 < (a0.length : Int) then bind1 (idx a0 gx5) fun x2 => if x2.Kind = 1 then bind1 (m141_quirref_snapFrom a0 gl4 gx5) fun x10 => m98_quirref_Snap_K2 gl4 gx5 go1 true x10 else if x2.Kind = 3 then bind1 (m142_quirref_lost a0 gl4 gx5) fun b13 => if b13 = true then m98_quirref_Snap_K3 gl4 gx5 go1 false else if a1 = true then bind1 (m143_quirref_between a0 gl4 gx5) fun b16 => m98_quirref_Snap_K3 gl4 gx5 go1 (!b16) else m98_quirref_Snap_K3 gl4 gx5 go1 true else m98_quirref_Snap_K2 gl4 gx5 go1 true (-1) else m98_quirref_Snap_K1 gl4
def m98_quirref_Snap_L1 (a0 : (List TOp)) (a1 : Bool) : Nat → (List TDid) → Int → Option (List TDid)
  | 0, _, _ => none
  | n + 1, gl4, gx5 => m98_quirref_Snap_L1B (m98_quirref_Snap_L1 a0 a1 n) a0 a1 gl4 gx5
def m98_quirref_Snap (a0 : (List TOp)) (a1 : Bool) : Option (List TDid) :=
  m98_quirref_Snap_L1 a0 a1 big [] 0
def m97_api_Did_K2 : Option Bool :=
  some true
def m97_api_Did_L1B (go1 : Int → Option Bool) (a0 : (List TDid)) (a1 : (List TDid)) (gx1 : Int) : Option Bool :=
  if gx1 < (a0.length : Int) then bind1 (idx a0 gx1) fun x2 => bind1 (idx a1 gx1) fun x3 => if x2 ≠ x3 then some false else bind1 (i64 (gx1 + 1)) fun x5 => go1 x5 else m97_api_Did_K2
def m97_api_Did_L1 (a0 : (List TDid)) (a1 : (List TDid)) : Nat → Int → Option Bool
  | 0, _ => none
  | n + 1, gx1 => m97_api_Did_L1B (m97_api_Did_L1 a0 a1 n) a0 a1 gx1
def m97_api_Did_K1 (a0 : (List TDid)) (a1 : (List TDid)) : Option Bool :=
  m97_api_Did_L1 a0 a1 big 0
def m97_api_Did (a0 : (List TDid)) (a1 : (List TDid)) : Option Bool :=
  if (a0.length : Int) ≠ (a1.length : Int) then some false else m97_api_Did_K1 a0 a1
def m14_quirlaw_SnapPlays_K2 (a0 : (List TOp)) (l5 : (List TDid)) (x7 : Int) (gb1 : Bool) : Option Bool :=
  if gb1 = true then bind1 (m98_quirref_Snap a0 true) fun l9 => bind1 (m97_api_Did l5 l9) fun b12 => if b12 = true then some (decide (x7 = 0)) else some false else some false
def m14_quirlaw_SnapPlays_K1 (a0 : (List TOp)) (l1 : (List TDid)) (x3 : Int) (l5 : (List TDid)) (x7 : Int) : Option Bool :=
  bind1 (m98_quirref_Snap a0 false) fun l14 => bind1 (m97_api_Did l1 l14) fun b17 => if b17 = true then if x3 = 0 then m14_quirlaw_SnapPlays_K2 a0 l5 x7 true else m14_quirlaw_SnapPlays_K2 a0 l5 x7 false else m14_quirlaw_SnapPlays_K2 a0 l5 x7 false
def m14_quirlaw_SnapPlays_K3 (l5 : (List TDid)) (x7 : Int) (x20 : Int) (gb2 : Bool) : Option Bool :=
  if gb2 = true then if (l5.length : Int) = 0 then some (decide (x7 = x20)) else some false else some false
def m14_quirlaw_SnapPlays (a0 : (List TOp)) : Option Bool :=
  bind2 (m95_snap_Play a0) fun l1 x3 => bind2 (m96_skew_Play a0) fun l5 x7 => bind1 (m51_quirref_RunErr a0) fun x20 => if x20 ≠ 0 then if (l1.length : Int) = 0 then if x3 = x20 then m14_quirlaw_SnapPlays_K3 l5 x7 x20 true else m14_quirlaw_SnapPlays_K3 l5 x7 x20 false else m14_quirlaw_SnapPlays_K3 l5 x7 x20 false else m14_quirlaw_SnapPlays_K1 a0 l1 x3 l5 x7
end Go.Proofs.Ytfmgjigdebofaaa
