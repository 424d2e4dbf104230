/-
  The document's Story: it comes to the same tales, put in order.
  Conditions: none.
-/
import Derived.Test.YtjdbjcmmdnpeaaaOtE
namespace Go.Proofs.Ytjdbjcmmdnpeaaa
open Go.S
set_option linter.unusedVariables false
set_option linter.unusedSimpArgs false
theorem idxOp (l : List TOp) (x : TOp) (hl : l.length ≤ 1000) : ∀ (r j : Nat), j + r = l.length → ∀ n, r < n → ∃ z, m42_api_Op_L1 l x n (j : Int) = some z ∧ (0 ≤ z ↔ x ∈ l.drop j) := by
  intro r
  induction r with
  | zero =>
    intro j hj n hn
    obtain ⟨n, rfl⟩ := dec n hn
    rw [m42_api_Op_L1, m42_api_Op_L1B, if_neg (by omega), List.drop_eq_nil_of_le (by omega)]
    exact ⟨-1, rfl, by simp⟩
  | succ r ih =>
    intro j hj n hn
    obtain ⟨n, rfl⟩ := dec n (by omega)
    have hjl : j < l.length := by omega
    rw [m42_api_Op_L1, m42_api_Op_L1B, if_pos (by omega), idx_ok hjl, bind1_some]
    by_cases c : x = l[j]
    · rw [if_pos c]
      exact ⟨_, rfl, fun _ => by rw [drop_cons hjl]; exact c ▸ List.mem_cons_self, fun _ => by omega⟩
    · rw [if_neg c, isucc j (by omega), bind1_some]
      obtain ⟨z, h1, h2⟩ := ih (j + 1) (by omega) n (by omega)
      exact ⟨z, h1, by rw [h2, drop_cons hjl, List.mem_cons]; simp [c]⟩
theorem wrote_eq (l : List TOp) (hl : l.length ≤ 1000) (tx k : Int) : m12_quirref_wrote l tx k = some (decide ((⟨tx, 2, k⟩ : TOp) ∈ l)) := by
  obtain ⟨z, h1, h2⟩ := idxOp l ⟨tx, 2, k⟩ hl l.length 0 (by omega) big (lt_big (by omega))
  rw [show ((0 : Nat) : Int) = 0 from rfl] at h1
  rw [m12_quirref_wrote, m26_api_Op, m42_api_Op, h1, bind1_some, bind1_some]
  rw [List.drop_zero] at h2
  simp only [h2]
/-- A tale put in its place, behind those that are not later. -/
def insT (x : TTale) : List TTale → List TTale
  | [] => [x]
  | y :: l => if y.Tx ≤ x.Tx then y :: insT x l else x :: y :: l
theorem insT_at (x : TTale) : ∀ (l : List TTale) (j : Nat), (∀ y ∈ l.take j, y.Tx ≤ x.Tx) → (∀ h : j < l.length, ¬ l[j].Tx ≤ x.Tx) → j ≤ l.length → l.take j ++ [x] ++ l.drop j = insT x l
  | [], j, _, _, h => by simp at h; subst h; rfl
  | y :: l, 0, _, h2, _ => by
    have := h2 (by simp)
    simp only [List.getElem_cons_zero] at this
    simp [insT, this]
  | y :: l, j + 1, h1, h2, h3 => by
    have h4 := insT_at x l j (fun z hz => h1 z (by simp [hz])) (fun h => by have h9 := h2 (by simpa using h); rwa [List.getElem_cons_succ] at h9) (by simpa using h3)
    have h5 := h1 y (by simp)
    rw [insT, if_pos h5, ← h4]
    simp
section
variable (a0 : List TOp) (a1 : List TDid)
def sor : Nat → List TTale
  | 0 => []
  | i + 1 => match com a0 a1 i with
    | some tx => insT ⟨tx, rds a0 a1 tx i⟩ (sor i)
    | none => sor i
end
theorem insT_perm (x : TTale) : ∀ l, (insT x l).Perm (l ++ [x])
  | [] => List.Perm.refl _
  | y :: l => by
    rw [insT]
    split
    · exact (insT_perm x l).cons y
    · exact (List.perm_append_comm (l₁ := [x]) (l₂ := y :: l))
theorem insT_sorted (x : TTale) : ∀ l, (l.Pairwise fun a b => a.Tx ≤ b.Tx) → ((insT x l).Pairwise fun a b => a.Tx ≤ b.Tx)
  | [], _ => by simp [insT]
  | y :: l, h => by
    rw [List.pairwise_cons] at h
    rw [insT]
    split
    · rename_i c
      rw [List.pairwise_cons]
      refine ⟨fun z hz => ?_, insT_sorted x l h.2⟩
      rcases List.mem_append.1 ((insT_perm x l).mem_iff.1 hz) with h1 | h1
      · exact h.1 z h1
      · simp only [List.mem_singleton] at h1
        rw [h1]; exact c
    · rename_i c
      rw [List.pairwise_cons]
      refine ⟨fun z hz => ?_, List.pairwise_cons.2 h⟩
      rcases List.mem_cons.1 hz with rfl | h1
      · omega
      · have := h.1 z h1; omega
section
variable {a0 : List TOp} {a1 : List TDid}
theorem sor_perm : ∀ i, (sor a0 a1 i).Perm (tal a0 a1 i)
  | 0 => List.Perm.refl _
  | i + 1 => by
    rw [sor, tal]
    cases com a0 a1 i with
    | none => simpa using sor_perm i
    | some tx => exact (insT_perm _ _).trans ((sor_perm i).append_right _)
theorem sor_sorted : ∀ i, (sor a0 a1 i).Pairwise fun a b => a.Tx ≤ b.Tx
  | 0 => List.Pairwise.nil
  | i + 1 => by
    rw [sor]
    cases com a0 a1 i with
    | none => exact sor_sorted i
    | some tx => exact insT_sorted _ _ (sor_sorted i)
theorem posL (l : List TTale) (hl : l.length ≤ 1000) (x : TOp) (rd : List TGot) (gi : Int) (go1 : Int → List TTale → List (List Int) → Option (TStory × Int)) (v : List (List Int)) : ∀ (r j : Nat), j + r = l.length → (∀ y ∈ l.take j, y.Tx ≤ x.Tx) → ∀ n, r < n →
    m5_quirref_Story_L2 l x rd gi go1 v n (j : Int) = m5_quirref_Story_K4 gi go1 (insT ⟨x.Tx, rd⟩ l) v := by
  have fin : ∀ j : Nat, j ≤ l.length → (∀ y ∈ l.take j, y.Tx ≤ x.Tx) → (∀ h : j < l.length, ¬ l[j].Tx ≤ x.Tx) → m5_quirref_Story_K8 l x rd gi go1 v (j : Int) = m5_quirref_Story_K4 gi go1 (insT ⟨x.Tx, rd⟩ l) v := by
    intro j hj h1 h2
    rw [m5_quirref_Story_K8, xInsR, if_pos ⟨by omega, by omega, by omega⟩, bind1_some, Int.toNat_natCast, insT_at ⟨x.Tx, rd⟩ l j h1 h2 hj]
  intro r
  induction r with
  | zero =>
    intro j hj h1 n hn
    obtain ⟨n, rfl⟩ := dec n hn
    rw [m5_quirref_Story_L2, m5_quirref_Story_L2B, if_neg (by omega)]
    exact fin j (by omega) h1 (fun h => by omega)
  | succ r ih =>
    intro j hj h1 n hn
    obtain ⟨n, rfl⟩ := dec n (by omega)
    have hjl : j < l.length := by omega
    rw [m5_quirref_Story_L2, m5_quirref_Story_L2B, if_pos (by omega), idx_ok hjl, bind1_some]
    by_cases c : l[j].Tx ≤ x.Tx
    · rw [if_pos c, isucc j (by omega), bind1_some]
      refine ih (j + 1) (by omega) (fun y hy => ?_) n (by omega)
      rw [take_snoc hjl, List.mem_append, List.mem_singleton] at hy
      rcases hy with hy | hy
      · exact h1 y hy
      · rw [hy]; exact c
    · rw [if_neg c]
      exact fin j (by omega) h1 (fun _ => c)
/-- The versions, told anew up to an item. -/
def versTo (a0 : List TOp) (a1 : List TDid) (i k : Nat) : List (List Int) := (List.range 20).map fun q : Nat => if q < k then ver a0 a1 (q : Int) (i + 1) else ver a0 a1 (q : Int) i
theorem versTo_get (i k : Nat) {q : Nat} (hq : q < 20) : (versTo a0 a1 i k)[q]? = some (if q < k then ver a0 a1 (q : Int) (i + 1) else ver a0 a1 (q : Int) i) := by simp [versTo, hq]
theorem versTo_len (i k : Nat) : (versTo a0 a1 i k).length = 20 := by simp [versTo]
theorem versTo_0 (i : Nat) : versTo a0 a1 i 0 = vers a0 a1 i := by simp [versTo, vers]
theorem versTo_20 (i : Nat) : versTo a0 a1 i 20 = vers a0 a1 (i + 1) := by
  unfold versTo vers
  refine List.map_congr_left fun q hq => ?_
  rw [if_pos (by simpa using hq)]
theorem verL (i : Nat) (hi : i < a0.length) (hn : a0.length ≤ 200) (x : TOp) (hc : com a0 a1 i = some x.Tx) (t : List TTale) (rd : List TGot) (go1 : Int → List TTale → List (List Int) → Option (TStory × Int)) : ∀ (r k : Nat), k + r = 20 → ∀ n, r < n →
    m5_quirref_Story_L3 a0 (i : Int) x t rd go1 n (k : Int) (versTo a0 a1 i k) = m5_quirref_Story_K7 t x rd (i : Int) go1 (vers a0 a1 (i + 1)) := by
  intro r
  induction r with
  | zero =>
    intro k hk n hn'
    obtain ⟨n, rfl⟩ := dec n hn'
    obtain rfl : k = 20 := by omega
    rw [m5_quirref_Story_L3, m5_quirref_Story_L3B, if_neg (by omega), versTo_20]
  | succ r ih =>
    intro k hk n hn'
    obtain ⟨n, rfl⟩ := dec n (by omega)
    have hk20 : k < 20 := by omega
    have hg := versTo_get (a0 := a0) (a1 := a1) i k hk20
    rw [if_neg (Nat.lt_irrefl k)] at hg
    have hkl : k < (versTo a0 a1 i k).length := by rw [versTo_len]; omega
    have hge : (versTo a0 a1 i k)[k] = ver a0 a1 (k : Int) i := by
      rw [List.getElem?_eq_getElem hkl] at hg
      exact Option.some.inj hg
    have hnx : ∀ z, z = ver a0 a1 (k : Int) (i + 1) → (versTo a0 a1 i k).set k z = versTo a0 a1 i (k + 1) := by
      rintro z rfl
      apply List.ext_getElem?
      intro q
      rw [List.getElem?_set]
      by_cases c : k = q
      · subst c
        rw [if_pos rfl, if_pos hkl, versTo_get i (k + 1) hk20, if_pos (Nat.lt_succ_self k)]
      · rw [if_neg c]
        by_cases hq : q < 20
        · rw [versTo_get i k hq, versTo_get i (k + 1) hq]
          by_cases c2 : q < k
          · rw [if_pos c2, if_pos (by omega)]
          · rw [if_neg c2, if_neg (by omega)]
        · rw [List.getElem?_eq_none (by rw [versTo_len]; omega), List.getElem?_eq_none (by rw [versTo_len]; omega)]
    have hvl := ver_len (a0 := a0) (a1 := a1) (k : Int) i
    rw [m5_quirref_Story_L3, m5_quirref_Story_L3B, if_pos (by omega), cut_take _ _ (by omega), bind1_some, wrote_eq _ (by rw [List.length_take]; omega), bind1_some]
    have hv : ver a0 a1 (k : Int) (i + 1) = ver a0 a1 (k : Int) i ++ if wro a0 i x.Tx (k : Int) = true then [x.Tx] else [] := by rw [ver, hc, ver1]
    by_cases c : (⟨x.Tx, 2, (k : Int)⟩ : TOp) ∈ a0.take i
    · rw [if_pos (by simpa using c), idx_ok hkl, bind1_some, app_ok (by rw [hge]; simp; omega), bind1_some, bind1_some, upd_ok _ hkl, bind1_some, isucc k (by omega), bind1_some, hnx _ (by rw [hge, hv, wro, if_pos (by simpa using c)])]
      exact ih (k + 1) (by omega) n (by omega)
    · rw [if_neg (by simpa using c), isucc k (by omega), bind1_some]
      have h6 := hnx _ rfl
      rw [hv, wro, if_neg (by simpa using c), List.append_nil, ← hge, List.set_getElem_self] at h6
      rw [h6]
      exact ih (k + 1) (by omega) n (by omega)
theorem rdL (i : Nat) (hi : i < a0.length) (hd : a1.length = a0.length) (hn : a0.length ≤ 200) (x : TOp) (t : List TTale) (v : List (List Int)) (go1 : Int → List TTale → List (List Int) → Option (TStory × Int)) : ∀ (r j : Nat), j + r = i → ∀ n, r < n →
    m5_quirref_Story_L4 (a0.take i) x a1 a0 (i : Int) t go1 v n (j : Int) (rds a0 a1 x.Tx j) = m5_quirref_Story_K6 a0 (i : Int) x t go1 v (rds a0 a1 x.Tx i) := by
  have hti : (a0.take i).length = i := by rw [List.length_take]; omega
  intro r
  induction r with
  | zero =>
    intro j hj n hn'
    obtain ⟨n, rfl⟩ := dec n hn'
    obtain rfl : j = i := by omega
    rw [m5_quirref_Story_L4, m5_quirref_Story_L4B, if_neg (by omega)]
  | succ r ih =>
    intro j hj n hn'
    obtain ⟨n, rfl⟩ := dec n (by omega)
    have hji : j < i := by omega
    have hjt : j < (a0.take i).length := by omega
    have hja : j < a0.length := by omega
    have hj1 : j < a1.length := by omega
    have hre := rds_eq (a0 := a0) (a1 := a1) hja hj1 x.Tx
    have hrl := rds_len (a0 := a0) (a1 := a1) x.Tx j
    have hge : (a0.take i)[j] = a0[j] := List.getElem_take
    rw [m5_quirref_Story_L4, m5_quirref_Story_L4B, if_pos (by omega), idx_ok hjt, bind1_some, hge]
    have no : ¬ (a0[j].Tx = x.Tx ∧ a0[j].Kind = 1 ∧ a1[j].From ≠ x.Tx) → m5_quirref_Story_L4 (a0.take i) x a1 a0 (i : Int) t go1 v n ((j + 1 : Nat) : Int) (rds a0 a1 x.Tx j) = m5_quirref_Story_K6 a0 (i : Int) x t go1 v (rds a0 a1 x.Tx i) := fun c => by
      have := ih (j + 1) (by omega) n (by omega)
      rwa [hre, if_neg c, List.append_nil] at this
    by_cases c1 : a0[j].Tx = x.Tx
    · rw [if_pos c1]
      by_cases c2 : a0[j].Kind = 1
      · rw [if_pos c2, m5_quirref_Story_K9, if_pos rfl, idx_ok hj1, bind1_some]
        by_cases c3 : a1[j].From ≠ x.Tx
        · rw [if_pos c3, bind1_some, app_ok (by simp; omega), bind1_some, isucc j (by omega), bind1_some]
          have := ih (j + 1) (by omega) n (by omega)
          rwa [hre, if_pos ⟨c1, c2, c3⟩] at this
        · rw [if_neg c3, isucc j (by omega), bind1_some]
          exact no fun c => c3 c.2.2
      · rw [if_neg c2, m5_quirref_Story_K9, if_neg ff, isucc j (by omega), bind1_some]
        exact no fun c => c2 c.2.1
    · rw [if_neg c1, m5_quirref_Story_K9, if_neg ff, isucc j (by omega), bind1_some]
      exact no fun c => c1 c.1
theorem storyLoop (hd : a1.length = a0.length) (hn : a0.length ≤ 200) : ∀ (r i : Nat), i + r = a0.length → ∀ n, r < n →
    m5_quirref_Story_L1 a0 a1 n (i : Int) (sor a0 a1 i) (vers a0 a1 i) = m5_quirref_Story_K3 (sor a0 a1 a0.length) (vers a0 a1 a0.length) := by
  intro r
  induction r with
  | zero =>
    intro i hi n hn'
    obtain ⟨n, rfl⟩ := dec n hn'
    obtain rfl : i = a0.length := by omega
    rw [m5_quirref_Story_L1, m5_quirref_Story_L1B, if_neg (by omega)]
  | succ r ih =>
    intro i hi n hn'
    obtain ⟨n, rfl⟩ := dec n (by omega)
    have hil : i < a0.length := by omega
    have hj : i < a1.length := by omega
    have hce := com_eq (a0 := a0) (a1 := a1) hil hj
    have hsl : (sor a0 a1 i).length ≤ i := by rw [(sor_perm i).length_eq]; exact tal_len i
    rw [m5_quirref_Story_L1, m5_quirref_Story_L1B, if_pos (by omega), idx_ok hil, bind1_some]
    have no : com a0 a1 i = none → m5_quirref_Story_K4 (i : Int) (m5_quirref_Story_L1 a0 a1 n) (sor a0 a1 i) (vers a0 a1 i) = m5_quirref_Story_K3 (sor a0 a1 a0.length) (vers a0 a1 a0.length) := fun hc => by
      rw [m5_quirref_Story_K4, isucc i (by omega), bind1_some]
      have := ih (i + 1) (by omega) n (by omega)
      rwa [vers_same hc, show sor a0 a1 (i + 1) = sor a0 a1 i by rw [sor, hc]] at this
    by_cases c1 : a0[i].Kind = 3
    · rw [if_neg (fun h => h c1), idx_ok hj, bind1_some]
      by_cases c2 : a1[i].OK = true
      · have hc : com a0 a1 i = some a0[i].Tx := by rw [hce, if_pos ⟨c1, c2⟩]
        have h1 := rdL i hil hd hn a0[i] (sor a0 a1 i) (vers a0 a1 i) (m5_quirref_Story_L1 a0 a1 n) i 0 (by omega) big (lt_big (by omega))
        have h2 := verL i hil hn a0[i] hc (sor a0 a1 i) (rds a0 a1 a0[i].Tx i) (m5_quirref_Story_L1 a0 a1 n) 20 0 (by omega) big (lt_big (by omega))
        have h3 := posL (sor a0 a1 i) (by omega) a0[i] (rds a0 a1 a0[i].Tx i) (i : Int) (m5_quirref_Story_L1 a0 a1 n) (vers a0 a1 (i + 1)) (sor a0 a1 i).length 0 (by omega) (by simp) big (lt_big (by omega))
        rw [show ((0 : Nat) : Int) = 0 from rfl] at h1 h2 h3
        rw [versTo_0] at h2
        rw [if_pos c2, m5_quirref_Story_K5, cut_take _ _ (by omega), bind1_some, show ([] : List TGot) = rds a0 a1 a0[i].Tx 0 from rfl, h1, m5_quirref_Story_K6, h2, m5_quirref_Story_K7, h3, m5_quirref_Story_K4, isucc i (by omega), bind1_some]
        have := ih (i + 1) (by omega) n (by omega)
        rwa [show sor a0 a1 (i + 1) = insT ⟨a0[i].Tx, rds a0 a1 a0[i].Tx i⟩ (sor a0 a1 i) by rw [sor, hc]] at this
      · rw [if_neg c2]
        exact no (by rw [hce, if_neg fun c => c2 c.2])
    · rw [if_pos c1]
      exact no (by rw [hce, if_neg fun c => c1 c.1])
theorem validL (hd : a1.length = a0.length) (hn : a0.length ≤ 200) : ∀ (r i : Nat), i + r = a0.length → ∀ n, r < n →
    m5_quirref_Story_L5 a0 a1 n (i : Int) = if ∀ o ∈ a0.drop i, okOp o then m5_quirref_Story_K2 a0 a1 else some (⟨[], []⟩, 1) := by
  intro r
  induction r with
  | zero =>
    intro i hi n hn'
    obtain ⟨n, rfl⟩ := dec n hn'
    obtain rfl : i = a0.length := by omega
    rw [m5_quirref_Story_L5, m5_quirref_Story_L5B, if_neg (by omega), if_pos (by simp)]
  | succ r ih =>
    intro i hi n hn'
    obtain ⟨n, rfl⟩ := dec n (by omega)
    have hil : i < a0.length := by omega
    rw [m5_quirref_Story_L5, m5_quirref_Story_L5B, if_pos (by omega), idx_ok hil, bind1_some]
    have hbad : ¬ okOp a0[i] → ¬ ∀ o ∈ a0.drop i, okOp o := fun hb h => hb (h _ (by rw [drop_cons hil]; exact List.mem_cons_self))
    by_cases c1 : a0[i].Tx < 0
    · rw [if_pos c1, m5_quirref_Story_K10, if_pos rfl, if_neg (hbad fun h => by unfold okOp at h; omega)]
    rw [if_neg c1]
    by_cases c2 : 11 < a0[i].Tx
    · rw [if_pos c2, m5_quirref_Story_K10, if_pos rfl, if_neg (hbad fun h => by unfold okOp at h; omega)]
    rw [if_neg c2, m5_quirref_Story_K10, if_neg ff]
    by_cases c3 : a0[i].Item < 0
    · rw [if_pos c3, if_neg (hbad fun h => by unfold okOp at h; omega)]
    rw [if_neg c3]
    by_cases c4 : 19 < a0[i].Item
    · rw [if_pos c4, if_neg (hbad fun h => by unfold okOp at h; omega)]
    rw [if_neg c4, isucc i (by omega), bind1_some]
    have hnext : (∀ o ∈ a0.drop i, okOp o) ↔ ∀ o ∈ a0.drop (i + 1), okOp o := by
      rw [drop_cons hil, List.forall_mem_cons]
      exact ⟨fun h => h.2, fun h => ⟨⟨by omega, by omega, by omega, by omega⟩, h⟩⟩
    simp only [hnext]
    exact ih (i + 1) (by omega) n (by omega)
theorem story_is (hd : a1.length = a0.length) (hn : a0.length ≤ 200) : m5_quirref_Story a0 a1 = if ∀ o ∈ a0, okOp o then m5_quirref_Story_K3 (sor a0 a1 a0.length) (vers a0 a1 a0.length) else some (⟨[], []⟩, 1) := by
  have h1 := validL hd hn a0.length 0 (by omega) big (lt_big (by omega))
  have h2 := storyLoop hd hn a0.length 0 (by omega) big (lt_big (by omega))
  rw [show ((0 : Nat) : Int) = 0 from rfl] at h1 h2
  rw [List.drop_zero] at h1
  rw [m5_quirref_Story, if_neg (by omega), if_neg (by omega), m5_quirref_Story_K1, h1]
  have h3 : m5_quirref_Story_K2 a0 a1 = m5_quirref_Story_K3 (sor a0 a1 a0.length) (vers a0 a1 a0.length) := by
    rw [m5_quirref_Story_K2, (show mk 20 ([] : List Int) = some (List.replicate 20 []) from if_pos (by decide)), bind1_some, ← h2, inv0.hv (a0 := a0) (a1 := a1)]
    rfl
  rw [h3]
end
end Go.Proofs.Ytjdbjcmmdnpeaaa
