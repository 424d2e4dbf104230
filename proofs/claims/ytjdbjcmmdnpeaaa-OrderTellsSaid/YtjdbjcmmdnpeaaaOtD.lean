/-
  What comes of a run: its tales as they end, the versions of each item; the loop of the program.
  Conditions: none.
-/
import Derived.Test.YtjdbjcmmdnpeaaaOtC
namespace Go.Proofs.Ytjdbjcmmdnpeaaa
open Go.S
set_option linter.unusedVariables false
set_option linter.unusedSimpArgs false
section
variable (a0 : List TOp) (a1 : List TDid)
def rd1 (tx : Int) : Option TOp → Option TDid → List TGot
  | some o, some d => if o.Tx = tx ∧ o.Kind = 1 ∧ d.From ≠ tx then [⟨o.Item, d.From⟩] else []
  | _, _ => []
/-- What a transaction read, ahead of a place. -/
def rds (tx : Int) : Nat → List TGot
  | 0 => []
  | i + 1 => rds tx i ++ rd1 tx a0[i]? a1[i]?
def com1 : Option TOp → Option TDid → Option Int
  | some o, some d => if o.Kind = 3 ∧ d.OK = true then some o.Tx else none
  | _, _ => none
/-- Who commits at a place. -/
def com (i : Nat) : Option Int := com1 a0[i]? a1[i]?
def wro (i : Nat) (tx item : Int) : Bool := decide ((⟨tx, 2, item⟩ : TOp) ∈ a0.take i)
def tal : Nat → List TTale
  | 0 => []
  | i + 1 => tal i ++ (match com a0 a1 i with | some tx => [⟨tx, rds a0 a1 tx i⟩] | none => [])
def ver1 (i : Nat) (k : Int) (o : Option Int) : List Int := match o with
  | some tx => if wro a0 i tx k = true then [tx] else []
  | none => []
def ver (k : Int) : Nat → List Int
  | 0 => []
  | i + 1 => ver k i ++ ver1 a0 i k (com a0 a1 i)
def vers (i : Nat) : List (List Int) := (List.range 20).map fun k : Nat => ver a0 a1 (k : Int) i
end
section
variable {a0 : List TOp} {a1 : List TDid}
theorem rds_len (tx : Int) : ∀ i, (rds a0 a1 tx i).length ≤ i
  | 0 => Nat.le_refl _
  | i + 1 => by
    have := rds_len tx i
    rw [rds, List.length_append]
    have h : (rd1 tx a0[i]? a1[i]?).length ≤ 1 := by
      unfold rd1
      split
      · split <;> simp
      · simp
    omega
theorem tal_len : ∀ i, (tal a0 a1 i).length ≤ i
  | 0 => Nat.le_refl _
  | i + 1 => by
    have := tal_len i
    rw [tal, List.length_append]
    split <;> simp <;> omega
theorem ver_len (k : Int) : ∀ i, (ver a0 a1 k i).length ≤ i
  | 0 => Nat.le_refl _
  | i + 1 => by
    have := ver_len k i
    rw [ver, List.length_append]
    have h : (ver1 a0 i k (com a0 a1 i)).length ≤ 1 := by
      unfold ver1
      split
      · split <;> simp
      · simp
    omega
theorem tal_rd : ∀ i, ∀ t ∈ tal a0 a1 i, t.Reads.length ≤ i
  | 0, t, h => by simp [tal] at h
  | i + 1, t, h => by
    rw [tal, List.mem_append] at h
    rcases h with h | h
    · exact Nat.le_succ_of_le (tal_rd i t h)
    · split at h
      · simp only [List.mem_singleton] at h
        subst h
        exact Nat.le_succ_of_le (rds_len _ i)
      · simp at h
theorem vers_len (i : Nat) : (vers a0 a1 i).length = 20 := by simp [vers]
theorem vers_get {k : Nat} (i : Nat) (hk : k < 20) : (vers a0 a1 i)[k]? = some (ver a0 a1 (k : Int) i) := by simp [vers, hk]
theorem vers_mem {i : Nat} {l : List Int} (h : l ∈ vers a0 a1 i) : l.length ≤ i := by
  obtain ⟨k, _, rfl⟩ := List.mem_map.1 h
  exact ver_len _ i
/-- A transaction's number joins the versions of some items. -/
def updV (v : List (List Int)) (l : List Int) (tx : Int) : List (List Int) := l.foldl (fun v k => v.modify k.toNat (· ++ [tx])) v
theorem updV_len (tx : Int) : ∀ (l : List Int) (v : List (List Int)), (updV v l tx).length = v.length
  | [], v => rfl
  | k :: l, v => by
    have := updV_len tx l (v.modify k.toNat (· ++ [tx]))
    unfold updV at *
    rw [List.foldl_cons, this, List.length_modify]
theorem updV_get (tx : Int) : ∀ (l : List Int) (v : List (List Int)), l.Nodup → (∀ k ∈ l, 0 ≤ k) → ∀ q : Nat, (updV v l tx)[q]? = (v[q]?).map fun x => if (q : Int) ∈ l then x ++ [tx] else x
  | [], v, _, _, q => by
    simp only [updV, List.foldl_nil, List.not_mem_nil, if_false]
    cases v[q]? <;> rfl
  | k :: l, v, hn, h0, q => by
    rw [List.nodup_cons] at hn
    have ih := updV_get tx l (v.modify k.toNat (· ++ [tx])) hn.2 (fun k hk => h0 k (List.mem_cons_of_mem _ hk)) q
    unfold updV at *
    rw [List.foldl_cons, ih, List.getElem?_modify]
    have hk0 := h0 k List.mem_cons_self
    cases v[q]? with
    | none => rfl
    | some x =>
      simp only [Option.map_some, Option.map_eq_map]
      by_cases c : k.toNat = q
      · have hkq : (q : Int) = k := by omega
        rw [if_pos c, hkq, if_neg hn.1, if_pos List.mem_cons_self]
      · have hkq : (q : Int) ≠ k := by omega
        rw [if_neg c]
        simp only [List.mem_cons, hkq, false_or]
theorem vers_upd {i : Nat} {tx : Int} {l : List Int} (hc : com a0 a1 i = some tx) (hn : l.Nodup) (h0 : ∀ k ∈ l, 0 ≤ k) (hm : ∀ k : Int, k ∈ l ↔ (⟨tx, 2, k⟩ : TOp) ∈ a0.take i) : updV (vers a0 a1 i) l tx = vers a0 a1 (i + 1) := by
  apply List.ext_getElem?
  intro q
  rw [updV_get tx l _ hn h0]
  by_cases hq : q < 20
  · rw [vers_get i hq, vers_get (i + 1) hq, Option.map_some, ver, hc]
    unfold ver1 wro
    by_cases c : (q : Int) ∈ l
    · rw [if_pos c]; simp [(hm q).1 c]
    · rw [if_neg c]
      have : ¬ (⟨tx, 2, (q : Int)⟩ : TOp) ∈ a0.take i := fun h => c ((hm q).2 h)
      simp [this]
  · rw [List.getElem?_eq_none (by rw [vers_len]; omega), List.getElem?_eq_none (by rw [vers_len]; omega)]
    rfl
theorem vers_same {i : Nat} (hc : com a0 a1 i = none) : vers a0 a1 (i + 1) = vers a0 a1 i := by
  unfold vers
  refine List.map_congr_left fun k _ => ?_
  rw [ver, hc, ver1, List.append_nil]
theorem tal_same {i : Nat} (hc : com a0 a1 i = none) : tal a0 a1 (i + 1) = tal a0 a1 i := by rw [tal, hc, List.append_nil]
theorem tal_more {i : Nat} {tx : Int} (hc : com a0 a1 i = some tx) : tal a0 a1 (i + 1) = tal a0 a1 i ++ [⟨tx, rds a0 a1 tx i⟩] := by rw [tal, hc]
theorem rds_none {tx : Int} : ∀ {i : Nat}, (∀ o ∈ a0.take i, o.Tx ≠ tx) → rds a0 a1 tx i = []
  | 0, _ => rfl
  | i + 1, h => by
    rw [rds]
    by_cases hi : i < a0.length
    · rw [rds_none fun o ho => h o (by rw [take_snoc hi]; exact List.mem_append_left _ ho), List.nil_append, List.getElem?_eq_getElem hi]
      have h1 := h a0[i] (by rw [take_snoc hi]; exact List.mem_append_right _ (List.mem_singleton.2 rfl))
      unfold rd1
      split
      · rename_i o d ho hd
        simp only [Option.some.injEq] at ho
        subst ho
        rw [if_neg fun c => h1 c.1]
      · rfl
    · rw [rds_none fun o ho => h o (by rw [List.take_of_length_le (by omega)] at *; exact ho), List.nil_append, List.getElem?_eq_none (by omega)]
      rfl
/-- An operation in its bounds. -/
def okOp (o : TOp) : Prop := 0 ≤ o.Tx ∧ o.Tx < 12 ∧ 0 ≤ o.Item ∧ o.Item < 20
instance (o : TOp) : Decidable (okOp o) := inferInstanceAs (Decidable (_ ∧ _))
structure Inv (a0 : List TOp) (a1 : List TDid) (i : Nat) (t : List TTale) (v w : List (List Int)) (ks : List Int) (tl : List (Int × List TGot)) : Prop where
  ht : t = tal a0 a1 i
  hv : v = vers a0 a1 i
  hw : w.length = 12
  wn : ∀ q (h : q < w.length), w[q].Nodup
  wl : ∀ q (h : q < w.length), w[q].length ≤ i
  wm : ∀ q (h : q < w.length), ∀ k : Int, k ∈ w[q] ↔ (⟨(q : Int), 2, k⟩ : TOp) ∈ a0.take i
  kk : ∀ q, q ∈ ks ↔ q ∈ tl.map (·.1)
  rd : ∀ q, q ∈ ks → tsGet tl q = some (rds a0 a1 q i)
  no : ∀ q, q ∉ ks → ∀ o ∈ a0.take i, o.Tx ≠ q
theorem tsGet_ne {α : Type} {tl : List (Int × List α)} {a q : Int} {z : List α} (h : q ≠ a) : tsGet (tsPut tl a z) q = tsGet tl q := by
  unfold tsGet tsPut
  induction tl with
  | nil => rfl
  | cons p l ih =>
    rw [List.map_cons]
    by_cases c : p.1 = a
    · have : ¬ a = q := fun e => h e.symm
      simp only [c, if_true, List.find?_cons, this, decide_false]
      exact ih
    · simp only [c, if_false, List.find?_cons]
      by_cases c2 : p.1 = q
      · simp [c2]
      · simp only [c2, decide_false]
        exact ih
theorem tsGet_app {α : Type} {tl : List (Int × List α)} {a q : Int} {x : List α} (h : tsGet tl q = some x) (z : List α) : tsGet (tl ++ [(a, z)]) q = some x := by
  unfold tsGet at *
  cases hf : tl.find? (fun p => decide (p.1 = q)) with
  | none => simp [hf] at h
  | some p => rw [List.find?_append, hf]; simpa [hf] using h
theorem tsGet_new {α : Type} {tl : List (Int × List α)} {a : Int} (h : a ∉ tl.map (·.1)) (z : List α) : tsGet (tl ++ [(a, z)]) a = some z := by
  unfold tsGet
  have : tl.find? (fun p => decide (p.1 = a)) = none := by
    rw [List.find?_eq_none]
    intro p hp
    have : p.1 ≠ a := fun c => h (List.mem_map.2 ⟨p, hp, c⟩)
    simpa using this
  rw [List.find?_append, this]
  simp
theorem put_map {α : Type} (tl : List (Int × List α)) (a : Int) (z : List α) : (tsPut tl a z).map (·.1) = tl.map (·.1) := put_keys tl a z
/-- Nothing but reads may turn. -/
theorem Inv.step {i : Nat} {t t' : List TTale} {v w v' w' : List (List Int)} {ks : List Int} {tl tl' : List (Int × List TGot)} (h : Inv a0 a1 i t v w ks tl) (hi : i < a0.length) (hk : a0[i].Tx ∈ ks) (ht : t' = tal a0 a1 (i + 1)) (hv : v' = vers a0 a1 (i + 1))
    (hw : w'.length = 12) (hn : ∀ q (h : q < w'.length), w'[q].Nodup) (hl : ∀ q (h : q < w'.length), w'[q].length ≤ i + 1) (hm : ∀ q (h : q < w'.length), ∀ k : Int, k ∈ w'[q] ↔ (⟨(q : Int), 2, k⟩ : TOp) ∈ a0.take (i + 1))
    (hkk : tl'.map (·.1) = tl.map (·.1)) (hrd : ∀ q, q ∈ ks → tsGet tl' q = some (rds a0 a1 q (i + 1))) : Inv a0 a1 (i + 1) t' v' w' ks tl' :=
  ⟨ht, hv, hw, hn, hl, hm, fun q => by rw [hkk]; exact h.kk q, hrd, fun q hq o ho => by
    rw [take_snoc hi, List.mem_append, List.mem_singleton] at ho
    rcases ho with ho | ho
    · exact h.no q hq o ho
    · subst ho
      intro e
      exact hq (e ▸ hk)⟩
end
end Go.Proofs.Ytjdbjcmmdnpeaaa
