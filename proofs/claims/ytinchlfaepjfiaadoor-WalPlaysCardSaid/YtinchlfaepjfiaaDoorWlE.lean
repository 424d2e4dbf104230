/-
  WalPlays: the sectors of a record.
  Conditions: none.
-/
import Derived.Test.YtinchlfaepjfiaaDoorWlD
namespace Go.Proofs.YtinchlfaepjfiaaDoor
open Go.S
set_option linter.unusedVariables false
set_option linter.unusedSimpArgs false
/-- What both loops make of a text. -/
theorem sec_loop {e q : Int} (he : I64 e) (hq : I64 q) : ∀ (k : Nat) (s : List UInt8), s.length = k → k ≤ 1000 → ∀ (n n' : Nat), k < n → k < n' → ∀ (l : SS), l.length + k ≤ 1000 → (∀ x ∈ l, x.length ≤ 64) → ∃ L : SS, m32_wal_sectors_L1 e q n s l (if l.length = 0 then [1] else [2]) = some L ∧ m35_quirref_recordSectors_L1 e q n' s l = some L ∧ (∀ x ∈ L, x.length ≤ 64) ∧ (s ≠ [] → 0 < L.length) ∧ L.length ≤ l.length + k ∧ l.length ≤ L.length := by
  intro k
  induction k using Nat.strongRecOn with
  | _ k ih =>
  intro s hs hk n n' hn hn' l hl hl64
  obtain ⟨n, rfl⟩ := dec n (by omega)
  obtain ⟨n', rfl⟩ := dec n' (by omega)
  rw [m32_wal_sectors_L1, m32_wal_sectors_L1B, m35_quirref_recordSectors_L1, m35_quirref_recordSectors_L1B]
  by_cases c : s = []
  · rw [if_neg (by simpa using c), if_neg (by simpa using c)]
    exact ⟨l, rfl, rfl, hl64, fun h => absurd c h, by omega, by omega⟩
  rw [if_pos c, if_pos c, m32_wal_sectors_K2, m35_quirref_recordSectors_K2, hd2_ref he hq, bind1_some, hd1_ref he hq, bind1_some]
  have hpos : 0 < s.length := List.length_pos_iff.2 c
  have key : ∀ h : List UInt8, h.length ≤ 21 → ∃ x : List UInt8, ∃ t : List UInt8, x.length ≤ 64 ∧ t.length < k ∧
      (bind1 (i64 (64 - (h.length : Int))) fun x9 => bind1 (cut s 0 (min x9 (s.length : Int))) fun s10 => bind1 (catS h s10) fun s11 => bind1 (app l ([s11])) fun l14 => bind1 (cut s (min x9 (s.length : Int)) s.length) fun s15 => m32_wal_sectors_L1 e q n s15 l14 ([2])) = m32_wal_sectors_L1 e q n t (l ++ [x]) [2] ∧
      m35_quirref_recordSectors_K3 s l (m35_quirref_recordSectors_L1 e q n') h = m35_quirref_recordSectors_L1 e q n' t (l ++ [x]) := by
    intro h hh
    obtain ⟨m, hm, hm1, hm2⟩ : ∃ m : Nat, min (64 - (h.length : Int)) (s.length : Int) = (m : Int) ∧ 0 < m ∧ m ≤ s.length ∧ m + h.length ≤ 64 := ⟨min (64 - h.length) s.length, by omega, by omega, by omega, by omega⟩
    have hx : h.length + (s.take m).length ≤ 64 := by rw [List.length_take]; omega
    refine ⟨h ++ s.take m, s.drop m, by rw [List.length_append]; exact hx, by rw [List.length_drop]; omega, ?_, ?_⟩
    · rw [i64_ok (by omega) (by omega), bind1_some, hm, cut_ok (by omega) (by omega) (by omega), bind1_some]
      have e1 : (s.take ((m : Int)).toNat).drop (0 : Int).toNat = s.take m := by simp
      rw [e1, catS_ok (by omega), bind1_some, app_ok (by simp; omega), bind1_some, cut_ok (by omega) (by omega) (by omega), bind1_some]
      have e2 : (s.take ((s.length : Int)).toNat).drop ((m : Int)).toNat = s.drop m := by simp
      rw [e2]
    · have k4 : m35_quirref_recordSectors_K4 s h l (m35_quirref_recordSectors_L1 e q n') (m : Int) = m35_quirref_recordSectors_L1 e q n' (s.drop m) (l ++ [h ++ s.take m]) := by
        rw [m35_quirref_recordSectors_K4, cut_ok (by omega) (by omega) (by omega), bind1_some, cut_ok (by omega) (by omega) (by omega), bind1_some]
        have e1 : (s.take ((m : Int)).toNat).drop (0 : Int).toNat = s.take m := by simp
        have e2 : (s.take ((s.length : Int)).toNat).drop ((m : Int)).toNat = s.drop m := by simp
        rw [e1, e2, catS_ok (by omega), bind1_some, app_ok (by simp; omega), bind1_some]
      rw [m35_quirref_recordSectors_K3, i64_ok (by omega) (by omega), bind1_some]
      by_cases c2 : (s.length : Int) < 64 - (h.length : Int)
      · rw [if_pos c2, show (s.length : Int) = (m : Int) by omega, k4]
      · rw [if_neg c2, show (64 : Int) - (h.length : Int) = (m : Int) by omega, k4]
  have go : ∀ h : List UInt8, h.length ≤ 21 → ∃ L : SS, (bind1 (i64 (64 - (h.length : Int))) fun x9 => bind1 (cut s 0 (min x9 (s.length : Int))) fun s10 => bind1 (catS h s10) fun s11 => bind1 (app l ([s11])) fun l14 => bind1 (cut s (min x9 (s.length : Int)) s.length) fun s15 => m32_wal_sectors_L1 e q n s15 l14 ([2])) = some L ∧
      m35_quirref_recordSectors_K3 s l (m35_quirref_recordSectors_L1 e q n') h = some L ∧ (∀ x ∈ L, x.length ≤ 64) ∧ (s ≠ [] → 0 < L.length) ∧ L.length ≤ l.length + k ∧ l.length ≤ L.length := by
    intro h hh
    obtain ⟨x, t, hx, ht, e1, e2⟩ := key h hh
    have hxl : ∀ y ∈ l ++ [x], y.length ≤ 64 := fun y hy => by
      rcases List.mem_append.1 hy with hy | hy
      · exact hl64 y hy
      · rw [List.mem_singleton] at hy; subst hy; exact hx
    obtain ⟨L, f1, f2, f3, f4, f5, f6⟩ := ih t.length (by omega) t rfl (by omega) n n' (by omega) (by omega) (l ++ [x]) (by simp; omega) hxl
    rw [if_neg (by simp)] at f1
    rw [e1, e2]
    simp at f5 f6
    exact ⟨L, f1, f2, f3, fun _ => by omega, by omega, by omega⟩
  by_cases c0 : l.length = 0
  · rw [if_pos c0, if_pos (by omega), hd_prog he hq, bind1_some]
    exact go _ (hd_len he hq)
  · rw [if_neg c0, if_neg (by omega), hd_prog he hq, bind1_some]
    exact go _ (hd_len he hq)
theorem sec_eq {e q : Int} (he : I64 e) (hq : I64 q) {s : List UInt8} (hs : s.length ≤ 300) : ∃ L : SS, m32_wal_sectors e q s = some L ∧ m35_quirref_recordSectors e q s = some L ∧ (∀ x ∈ L, x.length ≤ 64) ∧ 0 < L.length ∧ L.length ≤ 1000 := by
  have h1 := pT_len s
  have h2 := pF_len (s := pT s) (by omega)
  have hne : pF (pT s) ≠ [] := by intro h; rw [h] at h2; simp at h2
  obtain ⟨L, f1, f2, f3, f4, f5, _⟩ := sec_loop he hq (pF (pT s)).length (pF (pT s)) rfl (by omega) big big (lt_big (by omega)) (lt_big (by omega)) [] (by simp; omega) (by simp)
  refine ⟨L, ?_, ?_, f3, f4 hne, by simp at f5; omega⟩
  · rw [m32_wal_sectors, pT_prog (by omega), bind2_some, pF_prog (by omega), bind2_some]; exact f1
  · rw [m35_quirref_recordSectors, pT_ref (by omega), bind1_some, pF_ref (by omega), bind2_some]; exact f2
end Go.Proofs.YtinchlfaepjfiaaDoor
