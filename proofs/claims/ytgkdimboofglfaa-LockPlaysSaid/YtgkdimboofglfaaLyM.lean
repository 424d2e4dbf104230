/-
  Models, printed by a program of mine.
  Conditions: none.
-/
import Derived.Test.YtgkdimboofglfaaLkM
namespace Go.Proofs.Ytgkdimboofglfaa
open Go.S
set_option linter.unusedVariables false
def m16_quirref_Rest (a0 : Int) (a1 : Int) : Option Int :=
  if a1 ≤ 0 then some 0 else bind1 (modW a0 a1) fun x2 => bind1 (i64 (x2 + a1)) fun x3 => bind1 (modW x3 a1) fun x4 => some x4
def m4_quirlaw_LockPlays_K1 (gl3 : (List TLockItem)) : Option Bool :=
  bind1 (m9_lock_Check gl3) fun x1 => some (decide (x1 = 0))
def m4_quirlaw_LockPlays_K2 (gx24 : Int) (go1 : (List TLockItem) → (List TLockItem) → Int → Option Bool) (gl27 : (List TLockItem)) (gl34 : (List TLockItem)) : Option Bool :=
  bind1 (i64 (gx24 + 1)) fun x4 => go1 gl27 gl34 x4
def m4_quirlaw_LockPlays_K5 (l10 : (List TLockItem)) (l23 : (List TLockItem)) (x29 : Int) (gx24 : Int) (go1 : (List TLockItem) → (List TLockItem) → Int → Option Bool) (gl11 : (List TLockItem)) (gl18 : (List TLockItem)) (gb40 : Bool) : Option Bool :=
  if gb40 = true then some false else bind1 (m13_quirref_SameLocks l10 l23) fun b36 => if b36 = true then if x29 = 0 then m4_quirlaw_LockPlays_K2 gx24 go1 l10 l23 else m4_quirlaw_LockPlays_K2 gx24 go1 gl11 gl18 else some false
def m4_quirlaw_LockPlays_K4 (gl18 : (List TLockItem)) (x5 : TOp) (x9 : Int) (x16 : Int) (l10 : (List TLockItem)) (gx24 : Int) (go1 : (List TLockItem) → (List TLockItem) → Int → Option Bool) (gl11 : (List TLockItem)) (b15 : Bool) : Option Bool :=
  bind3 (m15_quirref_AskLock gl18 x5.Tx x5.Item x9) fun l23 b28 x29 => if x16 ≠ x29 then m4_quirlaw_LockPlays_K5 l10 l23 x29 gx24 go1 gl11 gl18 true else if (!(b15 == b28)) = true then m4_quirlaw_LockPlays_K5 l10 l23 x29 gx24 go1 gl11 gl18 true else m4_quirlaw_LockPlays_K5 l10 l23 x29 gx24 go1 gl11 gl18 false
def m4_quirlaw_LockPlays_K6 (x16 : Int) (gx24 : Int) (go1 : (List TLockItem) → (List TLockItem) → Int → Option Bool) (gl11 : (List TLockItem)) (gl18 : (List TLockItem)) (x5 : TOp) (x9 : Int) (l10 : (List TLockItem)) (b15 : Bool) (gb41 : Bool) : Option Bool :=
  if gb41 = true then if x16 ≠ 1 then some false else m4_quirlaw_LockPlays_K2 gx24 go1 gl11 gl18 else if x5.Item < 0 then if x16 ≠ 1 then some false else m4_quirlaw_LockPlays_K2 gx24 go1 gl11 gl18 else if 19 < x5.Item then if x16 ≠ 1 then some false else m4_quirlaw_LockPlays_K2 gx24 go1 gl11 gl18 else m4_quirlaw_LockPlays_K4 gl18 x5 x9 x16 l10 gx24 go1 gl11 b15
def m4_quirlaw_LockPlays_K3 (x5 : TOp) (gl11 : (List TLockItem)) (gx24 : Int) (go1 : (List TLockItem) → (List TLockItem) → Int → Option Bool) (gl18 : (List TLockItem)) : Option Bool :=
  bind1 (m16_quirref_Rest x5.Kind 5) fun x7 => bind1 (i64 (x7 + 1)) fun x9 => bind3 (m6_lock_Ask gl11 x5.Tx x5.Item x9) fun l10 b15 x16 => if x5.Tx < 0 then m4_quirlaw_LockPlays_K6 x16 gx24 go1 gl11 gl18 x5 x9 l10 b15 true else if 11 < x5.Tx then m4_quirlaw_LockPlays_K6 x16 gx24 go1 gl11 gl18 x5 x9 l10 b15 true else m4_quirlaw_LockPlays_K6 x16 gx24 go1 gl11 gl18 x5 x9 l10 b15 false
def m4_quirlaw_LockPlays_K8 (l54 : (List Int)) (l69 : (List Int)) (gx24 : Int) (go1 : (List TLockItem) → (List TLockItem) → Int → Option Bool) (l49 : (List TLockItem)) (l64 : (List TLockItem)) (gb42 : Bool) : Option Bool :=
  if gb42 = true then some false else bind1 (m14_slices_Equal_int l54 l69) fun b78 => if b78 = true then m4_quirlaw_LockPlays_K2 gx24 go1 l49 l64 else some false
def m4_quirlaw_LockPlays_K7 (gl18 : (List TLockItem)) (x5 : TOp) (x57 : Int) (l54 : (List Int)) (gx24 : Int) (go1 : (List TLockItem) → (List TLockItem) → Int → Option Bool) (l49 : (List TLockItem)) : Option Bool :=
  bind2 (m12_quirref_DropLocks gl18 x5.Tx) fun l64 l69 => if x57 ≠ 0 then m4_quirlaw_LockPlays_K8 l54 l69 gx24 go1 l49 l64 true else bind1 (m13_quirref_SameLocks l49 l64) fun b81 => if b81 = true then m4_quirlaw_LockPlays_K8 l54 l69 gx24 go1 l49 l64 false else m4_quirlaw_LockPlays_K8 l54 l69 gx24 go1 l49 l64 true
def m4_quirlaw_LockPlays_L1B (go1 : (List TLockItem) → (List TLockItem) → Int → Option Bool) (a0 : (List TOp)) (gl11 : (List TLockItem)) (gl18 : (List TLockItem)) (gx24 : Int) : Option Bool :=
  if gx24 < (a0.length : Int) then bind1 (idx a0 gx24) fun x5 => if x5.Kind = 4 then bind3 (m7_lock_Drop gl11 x5.Tx) fun l49 l54 x57 => if x5.Tx < 0 then if x57 ≠ 1 then some false else m4_quirlaw_LockPlays_K2 gx24 go1 gl11 gl18 else if 11 < x5.Tx then if x57 ≠ 1 then some false else m4_quirlaw_LockPlays_K2 gx24 go1 gl11 gl18 else m4_quirlaw_LockPlays_K7 gl18 x5 x57 l54 gx24 go1 l49 else m4_quirlaw_LockPlays_K3 x5 gl11 gx24 go1 gl18 else m4_quirlaw_LockPlays_K1 gl11
def m4_quirlaw_LockPlays_L1 (a0 : (List TOp)) : Nat → (List TLockItem) → (List TLockItem) → Int → Option Bool
  | 0, _, _, _ => none
  | n + 1, gl11, gl18, gx24 => m4_quirlaw_LockPlays_L1B (m4_quirlaw_LockPlays_L1 a0 n) a0 gl11 gl18 gx24
def m4_quirlaw_LockPlays (a0 : (List TOp)) : Option Bool :=
  m4_quirlaw_LockPlays_L1 a0 big [] [] 0
end Go.Proofs.Ytgkdimboofglfaa
