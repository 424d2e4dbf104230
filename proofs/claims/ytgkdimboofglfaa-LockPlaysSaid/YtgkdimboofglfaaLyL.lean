/-
  Package lock: the law of a play.
  Conditions: none.
-/
import Derived.Test.YtgkdimboofglfaaLyA
import Derived.Test.YtgkdimboofglfaaLyM
namespace Go.Proofs.Ytgkdimboofglfaa
open Go.S
set_option linter.unusedVariables false
set_option linter.unusedSimpArgs false
theorem rest5 (k : Int) : ∃ m : Int, m16_quirref_Rest k 5 = some m ∧ 0 ≤ m ∧ m ≤ 4 := by
  have h1 : modW k 5 = some (Int.tmod k 5) := by unfold modW; rw [if_pos (by decide)]
  have hlo : -5 < Int.tmod k 5 := by
    have := Int.lt_tmod_of_pos k (b := 5) (by decide)
    omega
  have hhi : Int.tmod k 5 < 5 := Int.tmod_lt_of_pos k (by decide)
  have h2 : modW (Int.tmod k 5 + 5) 5 = some (Int.tmod (Int.tmod k 5 + 5) 5) := by unfold modW; rw [if_pos (by decide)]
  refine ⟨Int.tmod (Int.tmod k 5 + 5) 5, ?_, ?_, ?_⟩
  · rw [m16_quirref_Rest, if_neg (by decide), h1, bind1_some, i64_ok (by omega) (by omega), bind1_some, h2, bind1_some]
  · exact Int.tmod_nonneg 5 (by omega)
  · have := Int.tmod_lt_of_pos (Int.tmod k 5 + 5) (b := 5) (by decide)
    omega
theorem play_loop (l : List TOp) (hl : Ln l) : ∀ (r i : Nat), i + r = l.length → ∀ n, r < n → ∀ t : List TLockItem, Good t → m4_quirlaw_LockPlays_L1 l n t t (i : Nat) = some true := by
  intro r
  induction r with
  | zero =>
    intro i hi n hn t hg
    obtain ⟨n, rfl⟩ := dec n hn
    have ht := hg.len
    have hc := check_lock t (by unfold Ln; omega) (fun x hx => by
      have := (hg.rt x hx).hl
      have := (hg.rt x hx).ql
      unfold Ln; omega)
    rw [(good_iff t).2 hg] at hc
    rw [m4_quirlaw_LockPlays_L1, m4_quirlaw_LockPlays_L1B, if_neg (by omega), m4_quirlaw_LockPlays_K1, hc, bind1_some]
    rfl
  | succ r ih =>
    intro i hi n hn t hg
    obtain ⟨n, rfl⟩ := dec n (by omega)
    have h1 : i < l.length := by omega
    have ht := hg.len
    have hc := check_lock t (by unfold Ln; omega) (fun x hx => by
      have := (hg.rt x hx).hl
      have := (hg.rt x hx).ql
      unfold Ln; omega)
    rw [(good_iff t).2 hg] at hc
    have hs := isucc i (by unfold Ln at hl; omega)
    have stay : m4_quirlaw_LockPlays_K2 (i : Nat) (m4_quirlaw_LockPlays_L1 l n) t t = some true := by
      rw [m4_quirlaw_LockPlays_K2, hs, bind1_some]
      exact ih (i + 1) (by omega) n (by omega) t hg
    rw [m4_quirlaw_LockPlays_L1, m4_quirlaw_LockPlays_L1B, if_pos (by omega), idx_ok h1, bind1_some]
    generalize l[i] = o
    by_cases c1 : o.Kind = 4
    · rw [if_pos c1]
      by_cases c2 : o.Tx < 0 ∨ 11 < o.Tx
      · rw [arg_drop hc c2, bind3_some]
        by_cases c3 : o.Tx < 0
        · rw [if_pos c3, if_neg (by simp), stay]
        · rw [if_neg c3, if_pos (by omega), if_neg (by simp), stay]
      · have h0 : 0 ≤ o.Tx := by omega
        have h2 : o.Tx ≤ 11 := by omega
        have hsd := drop_sz hg o.Tx
        have hdr : m12_quirref_DropLocks t o.Tx = some ((dropS t o.Tx).1, (dropS t o.Tx).2) := drop_ref (tx := o.Tx) hg
        rw [drop_lock hg h0 h2, bind3_some, if_neg (by omega), if_neg (by omega), m4_quirlaw_LockPlays_K7, hdr, bind2_some, if_neg (by simp), hsd.1.same (by omega), bind1_some, if_pos rfl, m4_quirlaw_LockPlays_K8, if_neg ff, eq_ints _ (by have := hsd.2; omega), bind1_some, if_pos rfl, m4_quirlaw_LockPlays_K2, hs, bind1_some]
        exact ih (i + 1) (by omega) n (by omega) _ (drop_good hg o.Tx)
    · rw [if_neg c1, m4_quirlaw_LockPlays_K3]
      obtain ⟨m, hm, m0, m1⟩ := rest5 o.Kind
      rw [hm, bind1_some, i64_ok (by omega) (by omega), bind1_some]
      have hmd : Md (m + 1) := by unfold Md; omega
      by_cases c2 : o.Tx < 0 ∨ 11 < o.Tx ∨ o.Item < 0 ∨ 19 < o.Item
      · rw [arg_ask hg hc (by omega), bind3_some]
        have k6 : m4_quirlaw_LockPlays_K6 1 (i : Nat) (m4_quirlaw_LockPlays_L1 l n) t t o (m + 1) [] false true = some true := by
          rw [m4_quirlaw_LockPlays_K6, if_pos rfl, if_neg (by simp), stay]
        by_cases c3 : o.Tx < 0
        · rw [if_pos c3, k6]
        rw [if_neg c3]
        by_cases c4 : 11 < o.Tx
        · rw [if_pos c4, k6]
        rw [if_neg c4, m4_quirlaw_LockPlays_K6, if_neg ff]
        by_cases c5 : o.Item < 0
        · rw [if_pos c5, if_neg (by simp), stay]
        · rw [if_neg c5, if_pos (by omega), if_neg (by simp), stay]
      · have t0 : 0 ≤ o.Tx := by omega
        have t1 : o.Tx ≤ 11 := by omega
        have i0 : 0 ≤ o.Item := by omega
        have i1 : o.Item ≤ 19 := by omega
        have hgood := ask_good (t := t) (mode := m + 1) hg t0 t1 i0 i1 hmd
        have hsz := ask_sz hg o.Tx o.Item (m + 1)
        have ha := ask_lock (tx := o.Tx) hg i0 i1 t0 t1 hmd
        have har := ask_ref (tx := o.Tx) (item := o.Item) hg hmd
        generalize askS t o.Tx o.Item (m + 1) = z at *
        obtain ⟨t', b, e⟩ := z
        have hsame : m13_quirref_SameLocks t' t' = some true := Sz.same (n := 21) hsz (by omega)
        rw [ha, bind3_some, if_neg (by omega), if_neg (by omega), m4_quirlaw_LockPlays_K6, if_neg ff, if_neg (by omega), if_neg (by omega), m4_quirlaw_LockPlays_K4, har, bind3_some, if_neg (by simp), if_neg (by simp), m4_quirlaw_LockPlays_K5, if_neg ff, hsame, bind1_some, if_pos rfl]
        by_cases c3 : e = 0
        · rw [if_pos c3, m4_quirlaw_LockPlays_K2, hs, bind1_some]
          exact ih (i + 1) (by omega) n (by omega) _ (hgood c3)
        · rw [if_neg c3, stay]
theorem plays_true (l : List TOp) (hl : Ln l) : m4_quirlaw_LockPlays l = some true := by
  rw [m4_quirlaw_LockPlays]
  exact play_loop l hl l.length 0 (by omega) big (lt_big (by unfold Ln at hl; omega)) [] ⟨by simp, by simp, by simp⟩
end Go.Proofs.Ytgkdimboofglfaa
