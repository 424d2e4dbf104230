/-
  WalPlays: trimming, heads, anchors.
  Conditions: none.
-/
import Derived.Test.YtinchlfaepjfiaaDoorWlC
namespace Go.Proofs.YtinchlfaepjfiaaDoor
open Go.S
set_option linter.unusedVariables false
set_option linter.unusedSimpArgs false
theorem toNat_zero {b : UInt8} (h : b.toNat = 0) : b = 0 := by
  apply UInt8.toNat_inj.1; simpa using h
theorem trimR : ∀ (k : Nat) (s : List UInt8), s.length = k → k < 9223372036854775807 → ∀ n, k < n → ∃ t j, m72_strings_trimRightByte_L1 0 n s = some t ∧ s = t ++ List.replicate j 0 ∧ (∀ b, t.getLast? = some b → b ≠ 0) := by
  intro k
  induction k with
  | zero =>
    intro s hs _ n hn
    obtain ⟨n, rfl⟩ := dec n hn
    obtain rfl : s = [] := List.length_eq_zero_iff.1 hs
    exact ⟨[], 0, by rw [m72_strings_trimRightByte_L1, m72_strings_trimRightByte_L1B, if_neg (by simp)]; rfl, rfl, by simp⟩
  | succ k ih =>
    intro s hs hk n hn
    obtain ⟨n, rfl⟩ := dec n (by omega)
    have hne : s ≠ [] := by rintro rfl; simp at hs
    obtain ⟨t, b, rfl⟩ : ∃ t b, s = t ++ [b] := ⟨s.dropLast, s.getLast hne, (List.dropLast_concat_getLast hne).symm⟩
    have ht : t.length = k := by simpa using hs
    have hb : (t ++ [b])[k]? = some b := by rw [List.getElem?_append_right (by omega), ht]; simp
    rw [m72_strings_trimRightByte_L1, m72_strings_trimRightByte_L1B, if_pos (by rw [hs]; omega), hs, show ((k + 1 : Nat) : Int) - 1 = (k : Int) by omega, i64_ok (by omega) (by omega), bind1_some, idxS_nat hb, bind1_some]
    by_cases c : b.toNat = 0
    · obtain rfl := toNat_zero c
      rw [if_pos (by simp), bind1_some, cut_ok (by omega) (by omega) (by rw [hs]; omega), bind1_some]
      obtain ⟨u, j, h1, h2, h3⟩ := ih t ht (by omega) n (by omega)
      have e : ((t ++ [0]).take ((k : Int)).toNat).drop (0 : Int).toNat = t := by simp [← ht]
      rw [e, h1]
      exact ⟨u, j + 1, rfl, by rw [List.replicate_succ', ← List.append_assoc, ← h2], h3⟩
    · rw [if_neg (by omega), m72_strings_trimRightByte_K1]
      refine ⟨_, 0, rfl, by simp, fun b' hb' => ?_⟩
      rw [List.getLast?_concat, Option.some.injEq] at hb'
      subst hb'
      rintro rfl
      exact c rfl
theorem trimL : ∀ (k : Nat) (s : List UInt8), s.length = k → k < 9223372036854775807 → ∀ n, k < n → ∃ t j, m71_strings_trimLeftByte_L1 0 n s = some t ∧ s = List.replicate j 0 ++ t ∧ (∀ b, t.head? = some b → b ≠ 0) := by
  intro k
  induction k with
  | zero =>
    intro s hs _ n hn
    obtain ⟨n, rfl⟩ := dec n hn
    obtain rfl : s = [] := List.length_eq_zero_iff.1 hs
    exact ⟨[], 0, by rw [m71_strings_trimLeftByte_L1, m71_strings_trimLeftByte_L1B, if_neg (by simp)]; rfl, rfl, by simp⟩
  | succ k ih =>
    intro s hs hk n hn
    obtain ⟨n, rfl⟩ := dec n (by omega)
    obtain ⟨b, t, rfl⟩ : ∃ b t, s = b :: t := by
      cases s with
      | nil => simp at hs
      | cons b t => exact ⟨b, t, rfl⟩
    have ht : t.length = k := by simpa using hs
    have hb : (b :: t)[0]? = some b := rfl
    have hi := idxS_nat hb
    rw [show ((0 : Nat) : Int) = 0 from rfl] at hi
    rw [m71_strings_trimLeftByte_L1, m71_strings_trimLeftByte_L1B, if_pos (by rw [hs]; omega), hi, bind1_some]
    by_cases c : b.toNat = 0
    · obtain rfl := toNat_zero c
      rw [if_pos (by simp), cut_ok (by omega) (by rw [hs]; omega) (by omega), bind1_some]
      obtain ⟨u, j, h1, h2, h3⟩ := ih t ht (by omega) n (by omega)
      have e : (((0 : UInt8) :: t).take (((0 : UInt8) :: t).length : Int).toNat).drop (1 : Int).toNat = t := by simp
      rw [e, h1]
      exact ⟨u, j + 1, rfl, by rw [List.replicate_succ, List.cons_append, ← h2], h3⟩
    · rw [if_neg (by omega), m71_strings_trimLeftByte_K1]
      refine ⟨_, 0, rfl, by simp, fun b' hb' => ?_⟩
      rw [List.head?_cons, Option.some.injEq] at hb'
      subst hb'
      rintro rfl
      exact c rfl
theorem trim_eq (s : List UInt8) (hs : s.length = 64) : ∃ u, m49_strings_Trim s [0] = some u ∧ (u = [] ↔ s = List.replicate 64 0) := by
  have hne : s ≠ [] := by rintro rfl; simp at hs
  obtain ⟨t, j, h1, h2, h3⟩ := trimR 64 s hs (by omega) big (lt_big (by omega))
  have htl : t.length ≤ 64 := by have := congrArg List.length h2; simp at this; omega
  obtain ⟨u, i, g1, g2, g3⟩ := trimL t.length t rfl (by omega) big (lt_big (by omega))
  have h0 : idxS [(0 : UInt8)] 0 = some 0 := by decide
  refine ⟨u, ?_, ?_⟩
  · rw [m49_strings_Trim, if_neg hne, if_neg (by simp), m49_strings_Trim_K1, if_pos (by simp), h0, bind1_some, if_pos (by decide), bind1_some, m72_strings_trimRightByte, h1, bind1_some, bind1_some, m71_strings_trimLeftByte, g1, bind1_some]
  · constructor
    · rintro rfl
      rw [h2, g2, List.append_nil, List.replicate_append_replicate] at hs ⊢
      rw [List.length_replicate] at hs
      rw [hs]
    · intro hz
      have ht : t = [] := by
        rcases List.eq_nil_or_concat t with h | ⟨t', b, rfl⟩
        · exact h
        · exfalso
          refine h3 b (by simp) ?_
          have : b ∈ s := by rw [h2]; simp
          rw [hz] at this
          exact (List.mem_replicate.1 this).2
      subst ht
      have := congrArg List.length g2
      simp at this
      exact List.eq_nil_of_length_eq_zero (by omega)
/-! ### Heads -/
def hd (m : UInt8) (e q : Int) : List UInt8 := [m] ++ pI e ++ pI q
theorem hd_len {m : UInt8} {e q : Int} (he : I64 e) (hq : I64 q) : (hd m e q).length ≤ 21 := by
  have h1 := pI_len he
  have h2 := pI_len hq
  simp [hd]; omega
theorem hd_pos (m : UInt8) (e q : Int) : 1 ≤ (hd m e q).length := by simp [hd]
theorem hd_prog {m : UInt8} {e q : Int} (he : I64 e) (hq : I64 q) : m54_wal_head [m] e q = some (hd m e q) := by
  have h1 := pI_len he
  have h2 := pI_len hq
  rw [m54_wal_head, pI_prog he, bind1_some, catS_ok (by simp; omega), bind1_some, pI_prog hq, bind1_some, catS_ok (by simp; omega), bind1_some]; rfl
theorem hd_ref {m : Nat} (hm : m < 256) {e q : Int} (he : I64 e) (hq : I64 q) : m59_quirref_headOf (m : Int) e q = some (hd (UInt8.ofNat m) e q) := by
  have h1 := pI_len he
  have h2 := pI_len hq
  rw [m59_quirref_headOf, pI_ref he, bind1_some, pI_ref hq, bind1_some, bytesOf_one, catS_ok (by simp; omega), bind1_some, catS_ok (by simp; omega), bind1_some]; rfl
theorem hd2_ref {e q : Int} (he : I64 e) (hq : I64 q) : m59_quirref_headOf 2 e q = some (hd 2 e q) := hd_ref (m := 2) (by omega) he hq
theorem hd1_ref {e q : Int} (he : I64 e) (hq : I64 q) : m59_quirref_headOf 1 e q = some (hd 1 e q) := hd_ref (m := 1) (by omega) he hq
/-! ### Anchors -/
def aT (e : Int) : List UInt8 := [3] ++ pF (pI e)
theorem aT_len {e : Int} (he : I64 e) : (aT e).length ≤ 15 := by
  have h1 := pI_len he
  have h2 := pF_len (s := pI e) (by omega)
  simp [aT]; omega
theorem aT_prog {e : Int} (he : I64 e) : m51_wal_anchorText e = some (aT e) := by
  have h1 := pI_len he
  have h2 := pF_len (s := pI e) (by omega)
  rw [m51_wal_anchorText, pI_prog he, bind1_some, pF_prog (by omega), bind2_some, catS_ok (by simp; omega), bind1_some]; rfl
theorem aT_ref {e : Int} (he : I64 e) : m57_quirref_anchorSector e = some (pad (aT e)) := by
  have h1 := pI_len he
  have h2 := pF_len (s := pI e) (by omega)
  rw [m57_quirref_anchorSector, pI_ref he, bind1_some, pF_ref (by omega), bind2_some, catS_ok (by simp; omega), bind1_some, i64_ok (by omega) (by omega), bind1_some, show (63 : Int) - (pF (pI e)).length = ((63 - (pF (pI e)).length : Nat) : Int) by omega,
    blank_ok _ (by omega), bind1_some, catS_ok (by simp; omega), bind1_some, pad, aT, show 64 - ([(3 : UInt8)] ++ pF (pI e)).length = 63 - (pF (pI e)).length by simp]
theorem epoch_eq (s : List UInt8) (hs : s.length = 64) : (∃ n : Int, m25_wal_epochOf s = some (n, 0) ∧ m29_quirref_anchored s = some n ∧ 0 ≤ n ∧ n ≤ 1000000) ∨ (m25_wal_epochOf s = some (0, 4) ∧ m29_quirref_anchored s = some (-1)) := by
  obtain ⟨u, h1, h2⟩ := trim_eq s hs
  have hb : m23_quirref_blank 64 = some (List.replicate 64 0) := blank_ok 64 (by omega)
  simp only [m25_wal_epochOf, m29_quirref_anchored, h1, hb, bind1_some]
  by_cases c : s = List.replicate 64 0
  · rw [if_pos (h2.2 c), if_pos c]
    exact .inl ⟨0, rfl, rfl, by omega, by omega⟩
  rw [if_neg (fun h => c (h2.1 h)), if_neg c]
  simp only [m25_wal_epochOf_K1, m29_quirref_anchored_K1]
  have hc : cut s 1 (s.length : Int) = some (s.drop 1) := by
    rw [cut_ok (by omega) (by omega) (by omega)]; simp
  rw [hc, bind1_some, bind1_some]
  obtain ⟨a, k, e, g⟩ := gI (s.drop 1) (by simp; omega)
  rw [g.p, g.r, bind3_some, bind3_some, aT_prog g.a64, bind1_some]
  have hl := aT_len g.a64
  have k2 : ∀ (b : Bool), b = true → m25_wal_epochOf_K2 a (aT a) s b = some (0, 4) := fun b hb => by rw [m25_wal_epochOf_K2, if_pos hb]
  have n2 : m29_quirref_anchored_K2 a s false = some (-1) := by rw [m29_quirref_anchored_K2, if_neg ff]
  by_cases c1 : e = 0
  · rw [if_neg (by simpa using c1), if_pos c1]
    by_cases c2 : a < 0
    · rw [if_pos c2, if_neg (by omega), k2 _ rfl, n2]; exact .inr ⟨rfl, rfl⟩
    rw [if_neg c2, if_pos (by omega), m25_wal_epochOf_K2, if_neg ff, m29_quirref_anchored_K2, if_pos rfl]
    by_cases c3 : 1000000 < a
    · rw [if_pos c3, if_neg (by omega)]; exact .inr ⟨rfl, rfl⟩
    rw [if_neg c3, if_pos (by omega), i64_ok (by omega) (by omega), bind1_some, show (64 : Int) - (aT a).length = ((64 - (aT a).length : Nat) : Int) by omega, rep_ok _ (by omega), bind1_some, catS_ok (by simp; omega), bind1_some, aT_ref g.a64, bind1_some, show aT a ++ List.replicate (64 - (aT a).length) 0 = pad (aT a) from rfl]
    by_cases c4 : pad (aT a) = s
    · rw [if_neg (fun h => h c4), if_pos c4]; exact .inl ⟨a, rfl, rfl, by omega, by omega⟩
    · rw [if_pos c4, if_neg c4]; exact .inr ⟨rfl, rfl⟩
  · rw [if_pos c1, if_neg c1, k2 _ rfl, n2]; exact .inr ⟨rfl, rfl⟩
end Go.Proofs.YtinchlfaepjfiaaDoor
