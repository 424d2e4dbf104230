/-
  Package lock: modes; who holds what; what goes together.
  Conditions: none.
-/
import Derived.Test.YtgkdimboofglfaaLkM
import Derived.Test.YtgkdimboofglfaaLp
namespace Go.Proofs.Ytgkdimboofglfaa
open Go.S
set_option linter.unusedVariables false
set_option linter.unusedSimpArgs false
abbrev Md (m : Int) : Prop := 1 ≤ m ∧ m ≤ 5
def fitS (a b : Int) : Bool := if min a b = 1 then decide (max a b ≠ 5) else if min a b = 2 then decide (max a b = 2) else if min a b = 3 then decide (max a b = 3) else false
def joinS (a b : Int) : Int := if min a b = 2 ∧ max a b = 3 then 4 else max a b
theorem md_cases {m : Int} (h : Md m) : m = 1 ∨ m = 2 ∨ m = 3 ∨ m = 4 ∨ m = 5 := by unfold Md at h; omega
theorem fits_ref (a b : Int) : m38_quirref_Fits a b = some (fitS a b) := by
  unfold m38_quirref_Fits fitS
  split
  · rfl
  · split
    · rfl
    · split <;> rfl
theorem fits_bits {a b : Int} (ha : Md a) (hb : Md b) : ∃ f x, m33_lock_fits a = some f ∧ shrW .i64 f b = some x ∧ decide (Go.bits .and .i64 x 1 = 0) = !fitS a b := by
  rcases md_cases ha with rfl | rfl | rfl | rfl | rfl <;> rcases md_cases hb with rfl | rfl | rfl | rfl | rfl <;> exact ⟨_, _, rfl, rfl, by decide +kernel⟩
theorem join_ref {a b : Int} (ha : Md a) (hb : Md b) : m54_quirref_Join a b = some (joinS a b) := by
  rcases md_cases ha with rfl | rfl | rfl | rfl | rfl <;> rcases md_cases hb with rfl | rfl | rfl | rfl | rfl <;> decide +kernel
theorem isMode_eq (a : Int) : m18_lock_isMode a = some (decide (Md a)) := by
  unfold m18_lock_isMode Md
  by_cases c : 1 ≤ a
  · rw [if_pos c]; simp [c]
  · rw [if_neg c]; simp [c]
theorem join_lock {a b : Int} (ha : Md a) (hb : Md b) : m53_lock_Join a b = some (joinS a b, 0) := by
  rw [m53_lock_Join, isMode_eq, bind1_some, if_pos (by simpa using ha), isMode_eq, bind1_some, if_pos (by simpa using hb), m53_lock_Join_K1]
  unfold joinS
  by_cases c1 : min a b = 2
  · rw [if_pos c1]
    by_cases c2 : max a b = 3
    · rw [if_pos c2, if_pos ⟨c1, c2⟩]
    · rw [if_neg c2, if_neg (by simp [c2])]
  · rw [if_neg c1, if_neg (by simp [c1])]
theorem fit_symm (a b : Int) : fitS a b = fitS b a := by unfold fitS; rw [Int.min_comm, Int.max_comm]
theorem join_md {a b : Int} (ha : Md a) (hb : Md b) : Md (joinS a b) := by
  unfold joinS Md at *
  split <;> omega
/-- What goes not with one goes not with what is joined to it. -/
theorem fit_join {a b c : Int} (ha : Md a) (hb : Md b) (hc : Md c) (h : fitS a b = false) : fitS a (joinS b c) = false := by
  revert h
  rcases md_cases ha with rfl | rfl | rfl | rfl | rfl <;> rcases md_cases hb with rfl | rfl | rfl | rfl | rfl <;> rcases md_cases hc with rfl | rfl | rfl | rfl | rfl <;> decide +kernel

/-! ### Locks in a list -/
def hasTx (l : List TLock) (t : Int) : Bool := l.any fun h => decide (h.Tx = t)
def holdsS (l : List TLock) (t : Int) : Int := match l.find? (fun h => decide (h.Tx = t)) with
  | some h => h.Mode
  | none => 0
def wishS (H : List TLock) (a : TLock) : Int := match H.find? (fun h => decide (h.Tx = a.Tx)) with
  | some h => joinS h.Mode a.Mode
  | none => a.Mode
def canS (H : List TLock) (a : TLock) : Bool := H.all fun h => decide (h.Tx = a.Tx) || fitS (wishS H a) h.Mode
/-- Right modes. -/
def Mds (l : List TLock) : Prop := ∀ h ∈ l, Md h.Mode
abbrev Ln {α : Type} (l : List α) : Prop := l.length ≤ 9223372036854775807
theorem holds_eq (l : List TLock) (hl : Ln l) (t : Int) : m37_quirref_holds l t = some (holdsS l t) := by
  rw [m37_quirref_holds, scan00 (F := m37_quirref_holds_L1 l t) (l := l) hl (fun _ x => if decide (x.Tx = t) = true then some (some x.Mode) else none) (some 0) (fun n => ?_) (fun n i h => ?_), scanX_find]
  · unfold holdsS
    cases l.find? (fun h => decide (h.Tx = t)) <;> rfl
  · rw [m37_quirref_holds_L1, m37_quirref_holds_L1B, if_neg (by omega), m37_quirref_holds_K1]
  · rw [m37_quirref_holds_L1, m37_quirref_holds_L1B, if_pos (by omega), idx_ok h, bind1_some, isucc i (by unfold Ln at hl; omega)]
    by_cases c : l[i].Tx = t
    · simp [c]
    · simp [c]
theorem holds_pos {l : List TLock} (hm : Mds l) (t : Int) : 0 < holdsS l t ↔ hasTx l t = true := by
  unfold holdsS hasTx
  cases h : l.find? (fun h => decide (h.Tx = t)) with
  | none =>
    rw [List.find?_eq_none] at h
    simp only [Int.lt_irrefl, false_iff, Bool.not_eq_true, List.any_eq_false]
    exact fun x hx => by simpa using h x hx
  | some x =>
    have h1 := List.mem_of_find?_eq_some h
    have h2 := List.find?_some h
    have := hm x h1
    exact ⟨fun _ => List.any_eq_true.2 ⟨x, h1, h2⟩, fun _ => by unfold Md at this; simp only; omega⟩
theorem holds_zero {l : List TLock} (hm : Mds l) (t : Int) : holdsS l t = 0 ↔ hasTx l t = false := by
  have h1 := holds_pos hm t
  have h2 : 0 ≤ holdsS l t := by
    unfold holdsS
    cases h : l.find? (fun h => decide (h.Tx = t)) with
    | none => simp
    | some x =>
      have := hm x (List.mem_of_find?_eq_some h)
      unfold Md at this
      simp only; omega
  rw [← Bool.not_eq_true, ← h1]
  omega
theorem mem_mode {H : List TLock} {a x : TLock} (h : H.find? (fun h => decide (h.Tx = a.Tx)) = some x) : x ∈ H := List.mem_of_find?_eq_some h
theorem wish_md {H : List TLock} {a : TLock} (hm : Mds H) (ha : Md a.Mode) : Md (wishS H a) := by
  unfold wishS
  cases h : H.find? (fun h => decide (h.Tx = a.Tx)) with
  | none => exact ha
  | some x => exact join_md (hm x (mem_mode h)) ha
theorem wish_ref (x : TLockItem) (a : TLock) (hl : Ln x.Held) (hm : Mds x.Held) (ha : Md a.Mode) : m39_quirref_wish x a = some (wishS x.Held a) := by
  rw [m39_quirref_wish, holds_eq _ hl, bind1_some]
  have h1 := holds_pos hm a.Tx
  unfold holdsS wishS at *
  cases h : x.Held.find? (fun h => decide (h.Tx = a.Tx)) with
  | none => simp
  | some y =>
    have hy := hm y (mem_mode h)
    simp only
    rw [if_pos (by unfold Md at hy; omega), join_ref hy ha, bind1_some]
theorem wish_lock (x : TLockItem) (a : TLock) (hl : Ln x.Held) (hm : Mds x.Held) (ha : Md a.Mode) : m32_lock_wish x a = some (wishS x.Held a) := by
  have key : ∀ (l : List TLock) (i : Nat), Mds l → scanX (fun _ y => if y.Tx = a.Tx then some (bind2 (m53_lock_Join y.Mode a.Mode) fun p q => some p) else none) (some a.Mode) i l = some (wishS l a) := by
    intro l
    induction l with
    | nil => intro i _; rfl
    | cons y l ih =>
      intro i hm
      rw [scanX]
      unfold wishS
      rw [List.find?_cons]
      by_cases c : y.Tx = a.Tx
      · simp [c, join_lock (hm y (List.mem_cons_self ..)) ha]
      · have h := ih (i + 1) (fun z hz => hm z (List.mem_cons_of_mem _ hz))
        unfold wishS at h
        simp [c, h]
  rw [m32_lock_wish, scan00 (F := m32_lock_wish_L1 x a) (l := x.Held) hl (fun _ y => if y.Tx = a.Tx then some (bind2 (m53_lock_Join y.Mode a.Mode) fun p q => some p) else none) (some a.Mode) (fun n => ?_) (fun n i h => ?_), key _ _ hm]
  · rw [m32_lock_wish_L1, m32_lock_wish_L1B, if_neg (by omega), m32_lock_wish_K1]
  · rw [m32_lock_wish_L1, m32_lock_wish_L1B, if_pos (by omega), idx_ok h, bind1_some, isucc i (by unfold Ln at hl; omega)]
    by_cases c : x.Held[i].Tx = a.Tx
    · simp [c]
    · simp [c]
theorem all_any {α : Type} (l : List α) (p : α → Bool) : (!(l.any fun x => !p x)) = l.all p := by
  induction l with
  | nil => rfl
  | cons x l ih => simp [← ih]
theorem can_ref (x : TLockItem) (a : TLock) (hl : Ln x.Held) (hm : Mds x.Held) (ha : Md a.Mode) : m41_quirref_can x a = some (canS x.Held a) := by
  rw [m41_quirref_can, scan00 (F := m41_quirref_can_L1 x a) (l := x.Held) hl (fun _ y => if (!(decide (y.Tx = a.Tx) || fitS (wishS x.Held a) y.Mode)) = true then some (some false) else none) (some true) (fun n => ?_) (fun n i h => ?_), scanX_any]
  · unfold canS
    rw [← all_any]
    cases h : (x.Held.any fun x_1 => !(decide (x_1.Tx = a.Tx) || fitS (wishS x.Held a) x_1.Mode)) <;> simp
  · rw [m41_quirref_can_L1, m41_quirref_can_L1B, if_neg (by omega), m41_quirref_can_K1]
  · rw [m41_quirref_can_L1, m41_quirref_can_L1B, if_pos (by omega), idx_ok h, bind1_some, wish_ref x a hl hm ha, bind1_some, fits_ref, bind1_some, isucc i (by unfold Ln at hl; omega)]
    by_cases c : x.Held[i].Tx = a.Tx
    · simp [c]
    · cases c2 : fitS (wishS x.Held a) x.Held[i].Mode <;> simp [c, c2]
theorem can_lock (x : TLockItem) (a : TLock) (hl : Ln x.Held) (hm : Mds x.Held) (ha : Md a.Mode) : m26_lock_can x a = some (canS x.Held a) := by
  have hw := wish_md hm ha
  rw [m26_lock_can, wish_lock x a hl hm ha, bind1_some, scan00 (F := m26_lock_can_L1 x a (wishS x.Held a)) (l := x.Held) hl (fun _ y => if (!(decide (y.Tx = a.Tx) || fitS (wishS x.Held a) y.Mode)) = true then some (some false) else none) (some true) (fun n => ?_) (fun n i h => ?_), scanX_any]
  · unfold canS
    rw [← all_any]
    cases h : (x.Held.any fun x_1 => !(decide (x_1.Tx = a.Tx) || fitS (wishS x.Held a) x_1.Mode)) <;> simp
  · rw [m26_lock_can_L1, m26_lock_can_L1B, if_neg (by omega), m26_lock_can_K3, m26_lock_can_K2, m26_lock_can_K1]; rfl
  · rw [m26_lock_can_L1, m26_lock_can_L1B, if_pos (by omega), idx_ok h, bind1_some]
    obtain ⟨f, z, h1, h2, h3⟩ := fits_bits hw (hm _ (List.getElem_mem h))
    by_cases c : x.Held[i].Tx = a.Tx
    · rw [if_neg (by simpa using c), m26_lock_can_K4, if_neg ff, isucc i (by unfold Ln at hl; omega), bind1_some]
      simp [c]
    · rw [if_pos c, h1, bind1_some, h2, bind1_some, h3, m26_lock_can_K4, isucc i (by unfold Ln at hl; omega), bind1_some]
      cases c2 : fitS (wishS x.Held a) x.Held[i].Mode
      · simp [c, m26_lock_can_K2, m26_lock_can_K1]
      · simp [c]
end Go.Proofs.Ytgkdimboofglfaa
