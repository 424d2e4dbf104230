/-
  Package stamp: what the models say.
  Conditions: none.
-/
import Derived.Test.YtjbajaofdgalfaaStC
namespace Go.Proofs.Ytjbajaofdgalfaa
open Go.S
set_option linter.unusedVariables false
set_option linter.unusedSimpArgs false
/-- Has a younger one done such a thing to the item? -/
def yg (p : List TOp) (o : TOp) (k : Int) : Bool := p.any fun q => decide (q.Kind = k) && decide (q.Item = o.Item) && decide (o.Tx < q.Tx)
theorem neg1 : decide ((0 : Int) ≤ -1) = false := by decide
theorem pos (i : Nat) : decide ((0 : Int) ≤ (i : Int)) = true := by simp
theorem loL2 (gl7 : List TOp) (x6 : TOp) (a1 : Bool) (gx5 : Int) (go1 : Int → List TOp → List Int → Option TPlayed) (gl9 : List Int) (hl : gl7.length ≤ 200) : ∀ (r i : Nat), i + r = gl7.length → ∀ n, r < n → m45_quirref_Stamp_L2 gl7 x6 gx5 go1 gl9 n (i : Int) = m45_quirref_Stamp_K8 gx5 go1 gl7 gl9 x6 (yg (gl7.drop i) x6 2) := by
  intro r
  induction r with
  | zero =>
    intro i hi n hn
    obtain ⟨n, rfl⟩ := dec n hn
    rw [m45_quirref_Stamp_L2, m45_quirref_Stamp_L2B, if_neg (by omega), m45_quirref_Stamp_K11, m45_quirref_Stamp_K10, neg1, List.drop_eq_nil_of_le (by omega)]
    simp [m45_quirref_Stamp_K9, yg]
  | succ r ih =>
    intro i hi n hn
    obtain ⟨n, rfl⟩ := dec n (by omega)
    have h1 : i < gl7.length := by omega
    have hd : ∀ k, yg (gl7.drop i) x6 k = ((decide (gl7[i].Kind = k) && decide (gl7[i].Item = x6.Item) && decide (x6.Tx < gl7[i].Tx)) || yg (gl7.drop (i + 1)) x6 k) := by intro k; rw [drop_cons h1]; rfl
    rw [m45_quirref_Stamp_L2, m45_quirref_Stamp_L2B, if_pos (by omega), idx_ok h1, bind1_some, hd]
    by_cases c1 : gl7[i].Kind = 2
    · by_cases c2 : gl7[i].Item = x6.Item
      · by_cases c3 : x6.Tx < gl7[i].Tx
        · rw [if_pos c1, if_pos c2, m45_quirref_Stamp_K13, if_pos rfl, decide_eq_true c3, m45_quirref_Stamp_K12, if_pos rfl, m45_quirref_Stamp_K10, pos i]
          simp [m45_quirref_Stamp_K9, c1, c2, c3]
        · rw [if_pos c1, if_pos c2, m45_quirref_Stamp_K13, if_pos rfl, decide_eq_false c3, m45_quirref_Stamp_K12, if_neg ff, isucc i (by omega), bind1_some, ih (i + 1) (by omega) n (by omega)]
          simp [c3]
      · rw [if_pos c1, if_neg c2, m45_quirref_Stamp_K13, if_neg ff, m45_quirref_Stamp_K12, if_neg ff, isucc i (by omega), bind1_some, ih (i + 1) (by omega) n (by omega)]
        simp [c2]
    · rw [if_neg c1, m45_quirref_Stamp_K13, if_neg ff, m45_quirref_Stamp_K12, if_neg ff, isucc i (by omega), bind1_some, ih (i + 1) (by omega) n (by omega)]
      simp [c1]
theorem allL2 (gl7 : List TOp) (x6 : TOp) (a1 : Bool) (gx5 : Int) (go1 : Int → List TOp → List Int → Option TPlayed) (gl9 : List Int) (hl : gl7.length ≤ 200) : m45_quirref_Stamp_L2 gl7 x6 gx5 go1 gl9 big 0 = m45_quirref_Stamp_K8 gx5 go1 gl7 gl9 x6 (yg gl7 x6 2) := by
  have := loL2 gl7 x6 a1 gx5 go1 gl9 hl gl7.length 0 (by omega) big (lt_big (by omega))
  rwa [show ((0 : Nat) : Int) = 0 from rfl, List.drop_zero] at this
theorem loL3 (gl7 : List TOp) (x6 : TOp) (a1 : Bool) (gx5 : Int) (go1 : Int → List TOp → List Int → Option TPlayed) (gl9 : List Int) (hl : gl7.length ≤ 200) : ∀ (r i : Nat), i + r = gl7.length → ∀ n, r < n → m45_quirref_Stamp_L3 gl7 x6 gx5 go1 gl9 n (i : Int) = m45_quirref_Stamp_K7 gl7 x6 gx5 go1 gl9 (yg (gl7.drop i) x6 1) := by
  intro r
  induction r with
  | zero =>
    intro i hi n hn
    obtain ⟨n, rfl⟩ := dec n hn
    rw [m45_quirref_Stamp_L3, m45_quirref_Stamp_L3B, if_neg (by omega), m45_quirref_Stamp_K16, m45_quirref_Stamp_K15, neg1, List.drop_eq_nil_of_le (by omega)]
    simp [m45_quirref_Stamp_K14, yg]
  | succ r ih =>
    intro i hi n hn
    obtain ⟨n, rfl⟩ := dec n (by omega)
    have h1 : i < gl7.length := by omega
    have hd : ∀ k, yg (gl7.drop i) x6 k = ((decide (gl7[i].Kind = k) && decide (gl7[i].Item = x6.Item) && decide (x6.Tx < gl7[i].Tx)) || yg (gl7.drop (i + 1)) x6 k) := by intro k; rw [drop_cons h1]; rfl
    rw [m45_quirref_Stamp_L3, m45_quirref_Stamp_L3B, if_pos (by omega), idx_ok h1, bind1_some, hd]
    by_cases c1 : gl7[i].Kind = 1
    · by_cases c2 : gl7[i].Item = x6.Item
      · by_cases c3 : x6.Tx < gl7[i].Tx
        · rw [if_pos c1, if_pos c2, m45_quirref_Stamp_K18, if_pos rfl, decide_eq_true c3, m45_quirref_Stamp_K17, if_pos rfl, m45_quirref_Stamp_K15, pos i]
          simp [m45_quirref_Stamp_K14, c1, c2, c3]
        · rw [if_pos c1, if_pos c2, m45_quirref_Stamp_K18, if_pos rfl, decide_eq_false c3, m45_quirref_Stamp_K17, if_neg ff, isucc i (by omega), bind1_some, ih (i + 1) (by omega) n (by omega)]
          simp [c3]
      · rw [if_pos c1, if_neg c2, m45_quirref_Stamp_K18, if_neg ff, m45_quirref_Stamp_K17, if_neg ff, isucc i (by omega), bind1_some, ih (i + 1) (by omega) n (by omega)]
        simp [c2]
    · rw [if_neg c1, m45_quirref_Stamp_K18, if_neg ff, m45_quirref_Stamp_K17, if_neg ff, isucc i (by omega), bind1_some, ih (i + 1) (by omega) n (by omega)]
      simp [c1]
theorem allL3 (gl7 : List TOp) (x6 : TOp) (a1 : Bool) (gx5 : Int) (go1 : Int → List TOp → List Int → Option TPlayed) (gl9 : List Int) (hl : gl7.length ≤ 200) : m45_quirref_Stamp_L3 gl7 x6 gx5 go1 gl9 big 0 = m45_quirref_Stamp_K7 gl7 x6 gx5 go1 gl9 (yg gl7 x6 1) := by
  have := loL3 gl7 x6 a1 gx5 go1 gl9 hl gl7.length 0 (by omega) big (lt_big (by omega))
  rwa [show ((0 : Nat) : Int) = 0 from rfl, List.drop_zero] at this
theorem loL4 (gl7 : List TOp) (x6 : TOp) (a1 : Bool) (gx5 : Int) (go1 : Int → List TOp → List Int → Option TPlayed) (gl9 : List Int) (hl : gl7.length ≤ 200) : ∀ (r i : Nat), i + r = gl7.length → ∀ n, r < n → m45_quirref_Stamp_L4 gl7 x6 gx5 go1 gl9 n (i : Int) = m45_quirref_Stamp_K22 gx5 go1 gl7 gl9 x6 (yg (gl7.drop i) x6 2) := by
  intro r
  induction r with
  | zero =>
    intro i hi n hn
    obtain ⟨n, rfl⟩ := dec n hn
    rw [m45_quirref_Stamp_L4, m45_quirref_Stamp_L4B, if_neg (by omega), m45_quirref_Stamp_K25, m45_quirref_Stamp_K24, neg1, List.drop_eq_nil_of_le (by omega)]
    simp [m45_quirref_Stamp_K23, yg]
  | succ r ih =>
    intro i hi n hn
    obtain ⟨n, rfl⟩ := dec n (by omega)
    have h1 : i < gl7.length := by omega
    have hd : ∀ k, yg (gl7.drop i) x6 k = ((decide (gl7[i].Kind = k) && decide (gl7[i].Item = x6.Item) && decide (x6.Tx < gl7[i].Tx)) || yg (gl7.drop (i + 1)) x6 k) := by intro k; rw [drop_cons h1]; rfl
    rw [m45_quirref_Stamp_L4, m45_quirref_Stamp_L4B, if_pos (by omega), idx_ok h1, bind1_some, hd]
    by_cases c1 : gl7[i].Kind = 2
    · by_cases c2 : gl7[i].Item = x6.Item
      · by_cases c3 : x6.Tx < gl7[i].Tx
        · rw [if_pos c1, if_pos c2, m45_quirref_Stamp_K27, if_pos rfl, decide_eq_true c3, m45_quirref_Stamp_K26, if_pos rfl, m45_quirref_Stamp_K24, pos i]
          simp [m45_quirref_Stamp_K23, c1, c2, c3]
        · rw [if_pos c1, if_pos c2, m45_quirref_Stamp_K27, if_pos rfl, decide_eq_false c3, m45_quirref_Stamp_K26, if_neg ff, isucc i (by omega), bind1_some, ih (i + 1) (by omega) n (by omega)]
          simp [c3]
      · rw [if_pos c1, if_neg c2, m45_quirref_Stamp_K27, if_neg ff, m45_quirref_Stamp_K26, if_neg ff, isucc i (by omega), bind1_some, ih (i + 1) (by omega) n (by omega)]
        simp [c2]
    · rw [if_neg c1, m45_quirref_Stamp_K27, if_neg ff, m45_quirref_Stamp_K26, if_neg ff, isucc i (by omega), bind1_some, ih (i + 1) (by omega) n (by omega)]
      simp [c1]
theorem allL4 (gl7 : List TOp) (x6 : TOp) (a1 : Bool) (gx5 : Int) (go1 : Int → List TOp → List Int → Option TPlayed) (gl9 : List Int) (hl : gl7.length ≤ 200) : m45_quirref_Stamp_L4 gl7 x6 gx5 go1 gl9 big 0 = m45_quirref_Stamp_K22 gx5 go1 gl7 gl9 x6 (yg gl7 x6 2) := by
  have := loL4 gl7 x6 a1 gx5 go1 gl9 hl gl7.length 0 (by omega) big (lt_big (by omega))
  rwa [show ((0 : Nat) : Int) = 0 from rfl, List.drop_zero] at this
theorem loL5 (gl7 : List TOp) (x6 : TOp) (a1 : Bool) (gx5 : Int) (go1 : Int → List TOp → List Int → Option TPlayed) (gl9 : List Int) (hl : gl7.length ≤ 200) : ∀ (r i : Nat), i + r = gl7.length → ∀ n, r < n → m45_quirref_Stamp_L5 gl7 x6 gl9 gx5 go1 n (i : Int) = m45_quirref_Stamp_K21 gl9 x6 gl7 gx5 go1 (yg (gl7.drop i) x6 1) := by
  intro r
  induction r with
  | zero =>
    intro i hi n hn
    obtain ⟨n, rfl⟩ := dec n hn
    rw [m45_quirref_Stamp_L5, m45_quirref_Stamp_L5B, if_neg (by omega), m45_quirref_Stamp_K30, m45_quirref_Stamp_K29, neg1, List.drop_eq_nil_of_le (by omega)]
    simp [m45_quirref_Stamp_K28, yg]
  | succ r ih =>
    intro i hi n hn
    obtain ⟨n, rfl⟩ := dec n (by omega)
    have h1 : i < gl7.length := by omega
    have hd : ∀ k, yg (gl7.drop i) x6 k = ((decide (gl7[i].Kind = k) && decide (gl7[i].Item = x6.Item) && decide (x6.Tx < gl7[i].Tx)) || yg (gl7.drop (i + 1)) x6 k) := by intro k; rw [drop_cons h1]; rfl
    rw [m45_quirref_Stamp_L5, m45_quirref_Stamp_L5B, if_pos (by omega), idx_ok h1, bind1_some, hd]
    by_cases c1 : gl7[i].Kind = 1
    · by_cases c2 : gl7[i].Item = x6.Item
      · by_cases c3 : x6.Tx < gl7[i].Tx
        · rw [if_pos c1, if_pos c2, m45_quirref_Stamp_K32, if_pos rfl, decide_eq_true c3, m45_quirref_Stamp_K31, if_pos rfl, m45_quirref_Stamp_K29, pos i]
          simp [m45_quirref_Stamp_K28, c1, c2, c3]
        · rw [if_pos c1, if_pos c2, m45_quirref_Stamp_K32, if_pos rfl, decide_eq_false c3, m45_quirref_Stamp_K31, if_neg ff, isucc i (by omega), bind1_some, ih (i + 1) (by omega) n (by omega)]
          simp [c3]
      · rw [if_pos c1, if_neg c2, m45_quirref_Stamp_K32, if_neg ff, m45_quirref_Stamp_K31, if_neg ff, isucc i (by omega), bind1_some, ih (i + 1) (by omega) n (by omega)]
        simp [c2]
    · rw [if_neg c1, m45_quirref_Stamp_K32, if_neg ff, m45_quirref_Stamp_K31, if_neg ff, isucc i (by omega), bind1_some, ih (i + 1) (by omega) n (by omega)]
      simp [c1]
theorem allL5 (gl7 : List TOp) (x6 : TOp) (a1 : Bool) (gx5 : Int) (go1 : Int → List TOp → List Int → Option TPlayed) (gl9 : List Int) (hl : gl7.length ≤ 200) : m45_quirref_Stamp_L5 gl7 x6 gl9 gx5 go1 big 0 = m45_quirref_Stamp_K21 gl9 x6 gl7 gx5 go1 (yg gl7 x6 1) := by
  have := loL5 gl7 x6 a1 gx5 go1 gl9 hl gl7.length 0 (by omega) big (lt_big (by omega))
  rwa [show ((0 : Nat) : Int) = 0 from rfl, List.drop_zero] at this
theorem loL6 (gl7 : List TOp) (x6 : TOp) (a1 : Bool) (gx5 : Int) (go1 : Int → List TOp → List Int → Option TPlayed) (gl9 : List Int) (hl : gl7.length ≤ 200) : ∀ (r i : Nat), i + r = gl7.length → ∀ n, r < n → m45_quirref_Stamp_L6 gl7 x6 a1 gl9 gx5 go1 n (i : Int) = m45_quirref_Stamp_K34 x6 a1 gl7 gl9 gx5 go1 (yg (gl7.drop i) x6 1) := by
  intro r
  induction r with
  | zero =>
    intro i hi n hn
    obtain ⟨n, rfl⟩ := dec n hn
    rw [m45_quirref_Stamp_L6, m45_quirref_Stamp_L6B, if_neg (by omega), m45_quirref_Stamp_K38, m45_quirref_Stamp_K37, neg1, List.drop_eq_nil_of_le (by omega)]
    simp [m45_quirref_Stamp_K36, m45_quirref_Stamp_K35, yg]
  | succ r ih =>
    intro i hi n hn
    obtain ⟨n, rfl⟩ := dec n (by omega)
    have h1 : i < gl7.length := by omega
    have hd : ∀ k, yg (gl7.drop i) x6 k = ((decide (gl7[i].Kind = k) && decide (gl7[i].Item = x6.Item) && decide (x6.Tx < gl7[i].Tx)) || yg (gl7.drop (i + 1)) x6 k) := by intro k; rw [drop_cons h1]; rfl
    rw [m45_quirref_Stamp_L6, m45_quirref_Stamp_L6B, if_pos (by omega), idx_ok h1, bind1_some, hd]
    by_cases c1 : gl7[i].Kind = 1
    · by_cases c2 : gl7[i].Item = x6.Item
      · by_cases c3 : x6.Tx < gl7[i].Tx
        · rw [if_pos c1, if_pos c2, m45_quirref_Stamp_K40, if_pos rfl, decide_eq_true c3, m45_quirref_Stamp_K39, if_pos rfl, m45_quirref_Stamp_K37, pos i]
          simp [m45_quirref_Stamp_K36, m45_quirref_Stamp_K35, c1, c2, c3]
        · rw [if_pos c1, if_pos c2, m45_quirref_Stamp_K40, if_pos rfl, decide_eq_false c3, m45_quirref_Stamp_K39, if_neg ff, isucc i (by omega), bind1_some, ih (i + 1) (by omega) n (by omega)]
          simp [c3]
      · rw [if_pos c1, if_neg c2, m45_quirref_Stamp_K40, if_neg ff, m45_quirref_Stamp_K39, if_neg ff, isucc i (by omega), bind1_some, ih (i + 1) (by omega) n (by omega)]
        simp [c2]
    · rw [if_neg c1, m45_quirref_Stamp_K40, if_neg ff, m45_quirref_Stamp_K39, if_neg ff, isucc i (by omega), bind1_some, ih (i + 1) (by omega) n (by omega)]
      simp [c1]
theorem allL6 (gl7 : List TOp) (x6 : TOp) (a1 : Bool) (gx5 : Int) (go1 : Int → List TOp → List Int → Option TPlayed) (gl9 : List Int) (hl : gl7.length ≤ 200) : m45_quirref_Stamp_L6 gl7 x6 a1 gl9 gx5 go1 big 0 = m45_quirref_Stamp_K34 x6 a1 gl7 gl9 gx5 go1 (yg gl7 x6 1) := by
  have := loL6 gl7 x6 a1 gx5 go1 gl9 hl gl7.length 0 (by omega) big (lt_big (by omega))
  rwa [show ((0 : Nat) : Int) = 0 from rfl, List.drop_zero] at this
theorem loL7 (gl7 : List TOp) (x6 : TOp) (a1 : Bool) (gx5 : Int) (go1 : Int → List TOp → List Int → Option TPlayed) (gl9 : List Int) (hl : gl7.length ≤ 200) : ∀ (r i : Nat), i + r = gl7.length → ∀ n, r < n → m45_quirref_Stamp_L7 gl7 x6 a1 gl9 gx5 go1 n (i : Int) = m45_quirref_Stamp_K33 x6 a1 gl7 gl9 gx5 go1 (yg (gl7.drop i) x6 2) := by
  intro r
  induction r with
  | zero =>
    intro i hi n hn
    obtain ⟨n, rfl⟩ := dec n hn
    rw [m45_quirref_Stamp_L7, m45_quirref_Stamp_L7B, if_neg (by omega), m45_quirref_Stamp_K44, m45_quirref_Stamp_K43, neg1, List.drop_eq_nil_of_le (by omega)]
    simp [m45_quirref_Stamp_K42, m45_quirref_Stamp_K41, yg]
  | succ r ih =>
    intro i hi n hn
    obtain ⟨n, rfl⟩ := dec n (by omega)
    have h1 : i < gl7.length := by omega
    have hd : ∀ k, yg (gl7.drop i) x6 k = ((decide (gl7[i].Kind = k) && decide (gl7[i].Item = x6.Item) && decide (x6.Tx < gl7[i].Tx)) || yg (gl7.drop (i + 1)) x6 k) := by intro k; rw [drop_cons h1]; rfl
    rw [m45_quirref_Stamp_L7, m45_quirref_Stamp_L7B, if_pos (by omega), idx_ok h1, bind1_some, hd]
    by_cases c1 : gl7[i].Kind = 2
    · by_cases c2 : gl7[i].Item = x6.Item
      · by_cases c3 : x6.Tx < gl7[i].Tx
        · rw [if_pos c1, if_pos c2, m45_quirref_Stamp_K46, if_pos rfl, decide_eq_true c3, m45_quirref_Stamp_K45, if_pos rfl, m45_quirref_Stamp_K43, pos i]
          simp [m45_quirref_Stamp_K42, m45_quirref_Stamp_K41, c1, c2, c3]
        · rw [if_pos c1, if_pos c2, m45_quirref_Stamp_K46, if_pos rfl, decide_eq_false c3, m45_quirref_Stamp_K45, if_neg ff, isucc i (by omega), bind1_some, ih (i + 1) (by omega) n (by omega)]
          simp [c3]
      · rw [if_pos c1, if_neg c2, m45_quirref_Stamp_K46, if_neg ff, m45_quirref_Stamp_K45, if_neg ff, isucc i (by omega), bind1_some, ih (i + 1) (by omega) n (by omega)]
        simp [c2]
    · rw [if_neg c1, m45_quirref_Stamp_K46, if_neg ff, m45_quirref_Stamp_K45, if_neg ff, isucc i (by omega), bind1_some, ih (i + 1) (by omega) n (by omega)]
      simp [c1]
theorem allL7 (gl7 : List TOp) (x6 : TOp) (a1 : Bool) (gx5 : Int) (go1 : Int → List TOp → List Int → Option TPlayed) (gl9 : List Int) (hl : gl7.length ≤ 200) : m45_quirref_Stamp_L7 gl7 x6 a1 gl9 gx5 go1 big 0 = m45_quirref_Stamp_K33 x6 a1 gl7 gl9 gx5 go1 (yg gl7 x6 2) := by
  have := loL7 gl7 x6 a1 gx5 go1 gl9 hl gl7.length 0 (by omega) big (lt_big (by omega))
  rwa [show ((0 : Nat) : Int) = 0 from rfl, List.drop_zero] at this
end Go.Proofs.Ytjbajaofdgalfaa
