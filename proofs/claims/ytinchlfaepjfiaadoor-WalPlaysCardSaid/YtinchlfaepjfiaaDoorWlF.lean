/-
  WalPlays: one record, read by both.
  Conditions: none.
-/
import Derived.Test.YtinchlfaepjfiaaDoorWlE
namespace Go.Proofs.YtinchlfaepjfiaaDoor
open Go.S
set_option linter.unusedVariables false
set_option linter.unusedSimpArgs false
/-- Both found the same record, or none. -/
def Same (a s : Int) (p : Option (Trecord × Bool)) (q : Option (Int × List UInt8 × Int)) : Prop :=
  (p = some ((⟨0, [], 0⟩ : Trecord), false) ∧ q = some (0, [], 0)) ∨ ∃ ep tx sz, p = some ((⟨ep, tx, sz⟩ : Trecord), true) ∧ q = some (ep, tx, sz) ∧ 1 ≤ sz ∧ a + sz ≤ s
theorem Same.none {a s : Int} : Same a s (some ((⟨0, [], 0⟩ : Trecord), false)) (some (0, [], 0)) := .inl ⟨rfl, rfl⟩
section
variable {N : Nat} {S T : SS} {L : List Twrite} {l : Int} {q : Nat}
theorem rec_loop (h : Dk N S T L l q) (hl : l ≠ 0) (fr at_ m b size : Nat) (hb : fr + at_ = b) (hsz : at_ + m = size) (hN : b + m ≤ N) {V : SS} (hV : V = (T.drop b).take m) {ep sq : Int} (he : I64 ep) (hq : I64 sq) (n k : Int)
    (hn0 : 0 ≤ n) (hn1 : n ≤ 300) (hk0 : 0 ≤ k) (hk1 : k ≤ 64) : ∀ (r i : Nat), i + r = m → 1 ≤ i → ∀ (f f' : Nat), r < f → r < f' → ∀ all : List UInt8, all.length ≤ 64 * i →
    Same at_ size (m26_wal_Log_read_L1 (k + n + 4) at_ size fr S T L l (hd 2 ep sq) k ep f all i) (m30_quirref_recordAt_L1 k n ep sq V f' i all) := by
  have ht := h.t
  have hNn := h.n
  have hVl : V.length = m := by rw [hV, List.length_take, List.length_drop]; omega
  have hwn : IntKind.wrap .i64 n = n := wrapI64 (by omega) (by omega)
  have hhl := hd_len (m := 2) he hq
  have done : ∀ (f f' : Nat) (i : Nat) (all : List UInt8), i ≤ m → 1 ≤ i → k + n + 4 ≤ all.length → Same at_ size (m26_wal_Log_read_K4 (k + n + 4) k ep all i) (m30_quirref_recordAt_K4 k n ep i all) := by
    intro f f' i all hi hi1 hlen
    simp only [m26_wal_Log_read_K4, m30_quirref_recordAt_K4, hwn]
    rw [i64_ok (by omega) (by omega), bind1_some, i64_ok (by omega) (by omega), bind1_some, cut_ok (by omega) (by omega) (by omega), bind1_some, bind1_some]
    have hlt : ((all.take (k + n + 4).toNat).drop (0 : Int).toNat).length = (k + n + 4).toNat := by simp; omega
    obtain ⟨u, e, g1, g2, g3⟩ := get_eq ((all.take (k + n + 4).toNat).drop (0 : Int).toNat) (by omega)
    rw [g1, g2, bind2_some, bind2_some]
    by_cases c : e = 0
    · have g4 := g3 c
      rw [if_neg (by simpa using c), if_neg (by simpa using c), cut_ok (by omega) (by omega) (by omega), bind1_some, bind1_some]
      exact .inr ⟨_, _, _, rfl, rfl, by omega, by omega⟩
    · rw [if_pos c, if_pos c]; exact Same.none
  intro r
  induction r with
  | zero =>
    intro i hi hi1 f f' hf hf' all hall
    obtain ⟨f, rfl⟩ := dec f hf
    obtain ⟨f', rfl⟩ := dec f' hf'
    rw [m26_wal_Log_read_L1, m26_wal_Log_read_L1B, m30_quirref_recordAt_L1, m30_quirref_recordAt_L1B, hwn, i64_ok (by omega) (by omega), bind1_some, i64_ok (by omega) (by omega), bind1_some]
    by_cases c : (all.length : Int) < k + n + 4
    · rw [if_pos c, if_pos c, m26_wal_Log_read_K5, i64_ok (by omega) (by omega), bind1_some, if_pos (by omega), m30_quirref_recordAt_K5, hd2_ref he hq, bind1_some, if_pos (by omega)]
      exact Same.none
    · rw [if_neg c, if_neg c]
      exact done f f' i all (by omega) hi1 (by omega)
  | succ r ih =>
    intro i hi hi1 f f' hf hf' all hall
    obtain ⟨f, rfl⟩ := dec f (by omega)
    obtain ⟨f', rfl⟩ := dec f' (by omega)
    rw [m26_wal_Log_read_L1, m26_wal_Log_read_L1B, m30_quirref_recordAt_L1, m30_quirref_recordAt_L1B, hwn, i64_ok (by omega) (by omega), bind1_some, i64_ok (by omega) (by omega), bind1_some]
    by_cases c : (all.length : Int) < k + n + 4
    · have hiv : i < V.length := by omega
      have hit : b + i < T.length := by omega
      have hvt : V[i] = T[b + i] := by subst hV; simp
      have h64 : T[b + i].length = 64 := h.t64 _ (List.getElem_mem hit)
      have hct : cut T[b + i] 0 ((hd 2 ep sq).length : Int) = some (T[b + i].take (hd 2 ep sq).length) := by rw [cut_ok (by omega) (by omega) (by omega)]; simp
      have hcd : cut T[b + i] ((hd 2 ep sq).length : Int) (T[b + i].length : Int) = some (T[b + i].drop (hd 2 ep sq).length) := by rw [cut_ok (by omega) (by omega) (by omega)]; simp
      rw [if_pos c, if_pos c, m26_wal_Log_read_K5, i64_ok (by omega) (by omega), bind1_some, if_neg (by omega), m26_wal_Log_read_K6, i64_ok (by omega) (by omega), bind1_some, i64_ok (by omega) (by omega), bind1_some,
        show (fr : Int) + (at_ : Int) + (i : Int) = ((b + i : Nat) : Int) by omega, read_at h hl _ hit, bind2_some, if_neg (by simp), m44_strings_HasPrefix, m68_stringslite_HasPrefix, if_pos (by omega), hct, bind1_some, bind1_some, bind1_some,
        m30_quirref_recordAt_K5, hd2_ref he hq, bind1_some, if_neg (show ¬ ((i : Int) = (V.length : Int)) by omega), idx_ok hiv, bind1_some, hvt, hct, bind1_some, bind1_some, hcd, bind1_some, bind1_some]
      by_cases c2 : T[b + i].take (hd 2 ep sq).length = hd 2 ep sq
      · rw [if_pos (by simpa using c2), if_neg (by simpa using c2)]
        have hl2 : (T[b + i].drop (hd 2 ep sq).length).length ≤ 64 := by simp; omega
        rw [catS_ok (by omega), bind1_some, bind1_some, isucc i (by omega), bind1_some, bind1_some]
        exact ih (i + 1) (by omega) (by omega) f f' (by omega) (by omega) _ (by rw [List.length_append]; omega)
      · rw [if_neg (by simpa using c2), if_pos (by simpa using c2)]
        exact Same.none
    · rw [if_neg c, if_neg c]
      exact done f f' i all (by omega) hi1 (by omega)
theorem rec_eq (h : Dk N S T L l q) (hl : l ≠ 0) (fr at_ m b size : Nat) (hb : fr + at_ = b) (hsz : at_ + m = size) (hN : b + m ≤ N) {V : SS} (hV : V = (T.drop b).take m) {sq : Int} (hq : I64 sq) (x1 x2 x3 : Int) (x4 : Bool) :
    Same at_ size (m26_wal_Log_read S T L l fr size x1 x2 x3 x4 at_ sq) (m30_quirref_recordAt V sq) := by
  have ht := h.t
  have hNn := h.n
  have hVl : V.length = m := by rw [hV, List.length_take, List.length_drop]; omega
  rw [m26_wal_Log_read, m30_quirref_recordAt]
  by_cases c0 : m = 0
  · rw [if_pos (by omega), if_pos (by omega)]; exact Same.none
  have hiv : 0 < V.length := by omega
  have hit : b < T.length := by omega
  have hvt : V[0] = T[b] := by subst hV; simp
  have h64 : T[b].length = 64 := h.t64 _ (List.getElem_mem hit)
  have hi0 : idx V 0 = some T[b] := by rw [← hvt]; exact idx_ok hiv
  rw [if_neg (by omega), if_neg (by omega), m26_wal_Log_read_K1, i64_ok (by omega) (by omega), bind1_some, show (fr : Int) + (at_ : Int) = ((b : Nat) : Int) by omega, read_at h hl _ hit, bind2_some, if_neg (by simp), hi0, bind1_some]
  generalize T[b] = s at h64 hi0
  obtain ⟨y, t, rfl⟩ : ∃ y t, s = y :: t := by
    cases s with
    | nil => simp at h64
    | cons y t => exact ⟨y, t, rfl⟩
  have hi : idxS (y :: t) 0 = some (y.toNat : Int) := idxS_nat (s := y :: t) (i := 0) rfl
  have hc1 : cut (y :: t) 0 1 = some [y] := by rw [cut_ok (by omega) (by omega) (by omega)]; simp
  rw [hi, bind1_some, m26_wal_Log_read_K2, m52_wal_headed, hc1, bind1_some]
  by_cases c1 : y = 1
  · subst c1
    rw [if_neg (by simp), if_neg (by decide), m52_wal_headed_K1, m30_quirref_recordAt_K1, hi0, bind1_some]
    have hc2 : cut ((1 : UInt8) :: t) 1 (((1 : UInt8) :: t).length : Int) = some (((1 : UInt8) :: t).drop 1) := by rw [cut_ok (by omega) (by omega) (by omega)]; simp
    rw [hc2, bind1_some, bind1_some]
    obtain ⟨a, k, e, g⟩ := gI (((1 : UInt8) :: t).drop 1) (by simp at *; omega)
    have gk0 := g.k0
    have gk1 := g.k1
    simp only [List.length_drop, h64] at gk1
    rw [g.p, g.r, bind3_some, bind3_some, bind1_some, i64_ok (by omega) (by omega), bind1_some]
    have hc3 : cut ((1 : UInt8) :: t) (1 + k) (((1 : UInt8) :: t).length : Int) = some (((1 : UInt8) :: t).drop (1 + k).toNat) := by rw [cut_ok (by omega) (by omega) (by omega)]; simp
    rw [hc3, bind1_some]
    obtain ⟨a', k', e', g'⟩ := gI (((1 : UInt8) :: t).drop (1 + k).toNat) (by rw [List.length_drop]; omega)
    have gk0' := g'.k0
    have gk1' := g'.k1
    simp only [List.length_drop, h64] at gk1'
    rw [g'.r, bind3_some]
    have k6 : m30_quirref_recordAt_K6 a' sq V k k' a true = some (0, [], 0) := by rw [m30_quirref_recordAt_K6, if_pos rfl]
    by_cases c2 : e = 0
    · rw [if_neg (by simpa using c2), if_neg (by simpa using c2), m52_wal_headed_K2, i64_ok (by omega) (by omega), bind1_some, hc3, bind1_some, g'.p, bind3_some, bind1_some, i64_ok (by omega) (by omega), bind1_some]
      have hc4 : cut ((1 : UInt8) :: t) (1 + k + k') (((1 : UInt8) :: t).length : Int) = some (((1 : UInt8) :: t).drop (1 + k + k').toNat) := by rw [cut_ok (by omega) (by omega) (by omega)]; simp
      rw [hc4, bind1_some]
      by_cases c3 : e' = 0
      · rw [if_pos c3, if_neg (by simpa using c3), bind3_some, m30_quirref_recordAt_K6, if_neg ff]
        by_cases c4 : a' = sq
        · rw [if_pos (by simpa using c4), if_neg (by simpa using c4), m30_quirref_recordAt_K2, hi0, bind1_some, i64_ok (by omega) (by omega), bind1_some, i64_ok (by omega) (by omega), bind1_some, hc4, bind1_some]
          have hsl : (((1 : UInt8) :: t).drop (1 + k + k').toNat).length ≤ 64 := by rw [List.length_drop]; omega
          obtain ⟨n, w, e2, f1, f2, f3⟩ := getNat (((1 : UInt8) :: t).drop (1 + k + k').toNat) (by omega)
          have w0 := f3.k0
          have w1 := f3.k1
          have n0 := f3.n0
          rw [f1, f2, bind3_some, bind3_some]
          by_cases c5 : e2 = 0
          · rw [if_neg (show ¬ (e2 ≠ 0) by simpa using c5), if_neg (show ¬ (e2 ≠ 0) by simpa using c5)]
            by_cases c6 : 300 < n
            · rw [if_pos c6, if_pos c6]; exact Same.none
            rw [if_neg c6, if_neg c6, m26_wal_Log_read_K3, m30_quirref_recordAt_K3, wrapI64 (by omega) (by omega), i64_ok (by omega) (by omega), bind1_some, i64_ok (by omega) (by omega), bind1_some, hd_prog g.a64 hq, bind1_some]
            exact rec_loop h hl fr at_ m b size hb hsz hN hV g.a64 hq n w n0 (by omega) w0 (by omega) (m - 1) 1 (by omega) (by omega) big big (lt_big (by omega)) (lt_big (by omega)) _ (by omega)
          · rw [if_pos c5, if_pos c5]; exact Same.none
        · rw [if_neg (by simpa using c4), if_pos (by simpa using c4)]; exact Same.none
      · rw [if_neg c3, if_pos c3, bind3_some, if_neg ff, k6]; exact Same.none
    · rw [if_pos c2, if_pos c2, bind3_some, if_neg ff, k6]; exact Same.none
  · have c1' : ¬ ((y.toNat : Int) = 1) := fun hh => c1 (by apply UInt8.toNat_inj.1; simp; omega)
    rw [if_pos (by simpa using c1), if_pos c1', bind3_some, if_neg ff]; exact Same.none
end
end Go.Proofs.YtinchlfaepjfiaaDoor
