/-
  Package fold: what the models of WalPlays say.
  Conditions: none.
-/
import Derived.Test.YtinchlfaepjfiaaDoorWlA
namespace Go.Proofs.YtinchlfaepjfiaaDoor
open Go.S
set_option linter.unusedVariables false
set_option linter.unusedSimpArgs false
theorem sumLoop (s : List UInt8) (hs : s.length ≤ 4294967296) : ∀ (r i : Nat), i + r = s.length → ∀ (x y u v : Nat), x < 65521 → y < 65521 → x % 65521 = u % 65521 → (y + r * x) % 65521 = v % 65521 → u + 255 * r < 4611686018427387904 → v + 255 * (r * (r + 1)) < 4611686018427387904 → ∀ n n', r < n → r < n' →
    ∃ uf vf : Nat, m81_fold_Sum_L1 s n (x : Int) (y : Int) (i : Int) = m81_fold_Sum_K1 ((uf % 65521 : Nat) : Int) ((vf % 65521 : Nat) : Int) ∧ m82_quirref_Fold_L1 s n' (u : Int) (v : Int) (i : Int) = m82_quirref_Fold_K1 (uf : Int) (vf : Int) := by
  intro r
  induction r with
  | zero =>
    intro i hi x y u v hx hy h1 h2 h3 h4 n n' hn hn'
    obtain ⟨n, rfl⟩ : ∃ q, n = q + 1 := ⟨n - 1, by omega⟩
    obtain ⟨n', rfl⟩ : ∃ q, n' = q + 1 := ⟨n' - 1, by omega⟩
    refine ⟨u, v, ?_, ?_⟩
    · rw [m81_fold_Sum_L1, m81_fold_Sum_L1B, if_neg (by omega), ← h1, Nat.mod_eq_of_lt hx, ← h2, Nat.zero_mul, Nat.add_zero, Nat.mod_eq_of_lt hy]
    · rw [m82_quirref_Fold_L1, m82_quirref_Fold_L1B, if_neg (by omega)]
  | succ r ih =>
    intro i hi x y u v hx hy h1 h2 h3 h4 n n' hn hn'
    obtain ⟨n, rfl⟩ : ∃ q, n = q + 1 := ⟨n - 1, by omega⟩
    obtain ⟨n', rfl⟩ : ∃ q, n' = q + 1 := ⟨n' - 1, by omega⟩
    have hil : i < s.length := by omega
    have hb : s[i]? = some s[i] := List.getElem?_eq_getElem hil
    generalize s[i] = b at hb
    have hbl : b.toNat < 256 := b.toNat_lt
    generalize hc : b.toNat = c at hbl
    have hmul : c * (r + 1) ≤ 255 * (r + 1) := Nat.mul_le_mul_right _ (by omega)
    have hq : (r + 1) * (r + 1 + 1) = r * (r + 1) + 2 * (r + 1) := by
      rw [Nat.mul_comm (r + 1) (r + 1 + 1), ← Nat.add_mul]
    have hdec : v + c * (r + 1) + 255 * (r * (r + 1)) < 4611686018427387904 := by rw [hq] at h4; omega
    have e0 : (c + x) % 65521 < 65521 := Nat.mod_lt _ (by decide)
    have hmod : ((y + (x + c) % 65521) % 65521 + r * ((x + c) % 65521)) % 65521 = (v + c * (r + 1)) % 65521 := by
      have e1 : (r * ((x + c) % 65521)) % 65521 = (r * (x + c)) % 65521 := by rw [Nat.mul_mod, Nat.mod_mod, ← Nat.mul_mod]
      have e2 : r * (x + c) + (x + c) = (r + 1) * x + c * (r + 1) := by rw [Nat.mul_add, Nat.succ_mul, Nat.mul_succ, Nat.mul_comm c r]; omega
      generalize r * ((x + c) % 65521) = A at *
      generalize r * (x + c) = B at *
      generalize (r + 1) * x = C at *
      generalize c * (r + 1) = D at *
      omega
    obtain ⟨uf, vf, g1, g2⟩ := ih (i + 1) (by omega) ((x + c) % 65521) ((y + (x + c) % 65521) % 65521) (u + c) (v + c * (r + 1)) (Nat.mod_lt _ (by decide)) (Nat.mod_lt _ (by decide))
      (by omega) hmod (by omega) hdec n n' (by omega) (by omega)
    refine ⟨uf, vf, ?_, ?_⟩
    · rw [m81_fold_Sum_L1, m81_fold_Sum_L1B, if_pos (by omega), idxS_nat hb, bind1_some, hc]
      have e1 : IntKind.wrap .u32 ((x : Int) + IntKind.wrap .u32 ((c : Nat) : Int)) = ((x + c : Nat) : Int) := by rw [wrapU32, wrapU32]; omega
      rw [e1, show (65521 : Int) = ((65521 : Nat) : Int) by rfl, modW_nat _ _ (by decide), bind1_some]
      have e2 : IntKind.wrap .u32 ((y : Int) + (((x + c) % 65521 : Nat) : Int)) = ((y + (x + c) % 65521 : Nat) : Int) := by rw [wrapU32]; omega
      rw [e2, modW_nat _ _ (by decide), bind1_some, i64_ok (by omega) (by omega), bind1_some]
      rw [show ((i : Int) + 1) = ((i + 1 : Nat) : Int) by omega]
      exact g1
    · rw [m82_quirref_Fold_L1, m82_quirref_Fold_L1B, if_pos (by omega), idxS_nat hb, bind1_some, bind1_some, i64_ok (by omega) (by omega), bind1_some, i64_ok (by omega) (by omega), bind1_some, hc]
      have e1 : IntKind.wrap .u64 ((u : Int) + IntKind.wrap .u64 ((c : Nat) : Int)) = ((u + c : Nat) : Int) := by rw [wrapU64, wrapU64]; omega
      have e3 : IntKind.wrap .u64 ((s.length : Int) - (i : Int)) = ((r + 1 : Nat) : Int) := by rw [wrapU64]; omega
      have e4 : IntKind.wrap .u64 ((c : Nat) : Int) = ((c : Nat) : Int) := by rw [wrapU64]; omega
      have e5 : IntKind.wrap .u64 (((c : Nat) : Int) * ((r + 1 : Nat) : Int)) = ((c * (r + 1) : Nat) : Int) := by rw [← Int.natCast_mul, wrapU64]; omega
      have e2 : IntKind.wrap .u64 ((v : Int) + ((c * (r + 1) : Nat) : Int)) = ((v + c * (r + 1) : Nat) : Int) := by rw [wrapU64]; omega
      rw [e1, e3, e4, e5, e2, show ((i : Int) + 1) = ((i + 1 : Nat) : Int) by omega]
      exact g2

theorem sum_eq (s : List UInt8) (hs : s.length ≤ 1048576) : ∃ S : Nat, S < 4294967296 ∧ m81_fold_Sum s = some (S : Int) ∧ m82_quirref_Fold s = some (S : Int) := by
  have hq : s.length * (s.length + 1) ≤ 1048576 * 1048577 := Nat.mul_le_mul hs (by omega)
  obtain ⟨uf, vf, g1, g2⟩ := sumLoop s (by omega) s.length 0 (by omega) 1 0 1 s.length (by omega) (by omega) rfl (by omega) (by omega) (by omega) big big (by rw [big_eq]; omega) (by rw [big_eq]; omega)
  have hu := Nat.mod_lt uf (show 65521 > 0 by decide)
  have hv := Nat.mod_lt vf (show 65521 > 0 by decide)
  refine ⟨vf % 65521 * 65536 + uf % 65521, by omega, ?_, ?_⟩
  · have : m81_fold_Sum s = m81_fold_Sum_K1 ((uf % 65521 : Nat) : Int) ((vf % 65521 : Nat) : Int) := by simpa [m81_fold_Sum] using g1
    rw [this]
    simp only [m81_fold_Sum_K1]
    rw [show (16 : Int) = ((16 : Nat) : Int) by rfl, shlW_u32 _ _ (by decide) (by omega), bind1_some, bits_or_nat .u32 rfl _ _ (by rw [p32]; omega) (by rw [p32]; omega), Nat.or_comm, or_high _ _ _ (by omega)]
    rw [show vf % 65521 * 2 ^ 16 = vf % 65521 * 65536 by rfl, Nat.add_comm]
  · have hw : IntKind.wrap .u64 (s.length : Int) = (s.length : Int) := by rw [wrapU64]; omega
    have : m82_quirref_Fold s = m82_quirref_Fold_K1 (uf : Int) (vf : Int) := by simpa [m82_quirref_Fold, hw] using g2
    rw [this]
    simp only [m82_quirref_Fold_K1]
    rw [show (65521 : Int) = ((65521 : Nat) : Int) by rfl, modW_nat _ _ (by decide), bind1_some, modW_nat _ _ (by decide), bind1_some]
    congr 1
    rw [wrapU64, wrapU64, wrapU32]
    omega

theorem put_eq (s : List UInt8) (hs : s.length ≤ 1048576) : ∃ l e, m62_fold_Put s = some (l, e) ∧ m64_quirref_FoldPut s = some (l, e) ∧ (s.length ≤ 4096 → e = 0 ∧ l.length = s.length + 4) := by
  obtain ⟨S, hS, g1, g2⟩ := sum_eq s hs
  simp only [m62_fold_Put, m64_quirref_FoldPut]
  by_cases h : 4096 < (s.length : Int)
  · rw [if_pos h, if_pos h]; exact ⟨_, _, rfl, rfl, fun h' => by omega⟩
  · rw [if_neg h, if_neg h]
    simp only [m62_fold_Put_K1, m64_quirref_FoldPut_K1, g1, g2, bind1_some]
    rw [show (24 : Int) = ((24 : Nat) : Int) by rfl, show (16 : Int) = ((16 : Nat) : Int) by rfl, show (8 : Int) = ((8 : Nat) : Int) by rfl, shrW_u32 _ _ (by decide), shrW_u32 _ _ (by decide), shrW_u32 _ _ (by decide)]
    rw [show (16777216 : Int) = ((16777216 : Nat) : Int) by rfl, show (65536 : Int) = ((65536 : Nat) : Int) by rfl, show (256 : Int) = ((256 : Nat) : Int) by rfl, divW_u32 _ _ (by decide) hS, divW_u32 _ _ (by decide) hS, divW_u32 _ _ (by decide) hS]
    simp only [bind1_some]
    rw [modW_nat _ _ (by decide), modW_nat _ _ (by decide), modW_nat _ _ (by decide)]
    simp only [bind1_some, wrapU8]
    have e1 : ((S / 2 ^ 24 : Nat) : Int) % 256 = ((S / 16777216 : Nat) : Int) % 256 := by omega
    have e2 : ((S / 2 ^ 16 : Nat) : Int) % 256 = ((S / 65536 % 256 : Nat) : Int) % 256 := by omega
    have e3 : ((S / 2 ^ 8 : Nat) : Int) % 256 = ((S / 256 % 256 : Nat) : Int) % 256 := by omega
    have e4 : ((S : Nat) : Int) % 256 = ((S % 256 : Nat) : Int) % 256 := by omega
    rw [e1, e2, e3, e4, catS_ok (by simp [bytesOf]; omega)]
    exact ⟨_, _, rfl, rfl, fun _ => ⟨rfl, by simp [bytesOf]⟩⟩

theorem get_eq (s : List UInt8) (hs : s.length ≤ 1048576) : ∃ l e, m55_fold_Get s = some (l, e) ∧ m60_quirref_FoldGet s = some (l, e) ∧ (e = 0 → l.length + 4 = s.length) := by
  simp only [m55_fold_Get, m60_quirref_FoldGet]
  rw [i64_ok (by omega) (by omega), bind1_some]
  by_cases h : (s.length : Int) < 4
  · rw [if_pos (by omega), if_pos h]; exact ⟨_, _, rfl, rfl, fun h' => by cases h'⟩
  · rw [if_neg (by omega), if_neg h]
    simp only [m55_fold_Get_K1]
    by_cases h2 : 4100 < (s.length : Int)
    · rw [if_pos (by omega), if_pos h2]; exact ⟨_, _, rfl, rfl, fun h' => by cases h'⟩
    · rw [if_neg (by omega), if_neg h2]
      simp only [m55_fold_Get_K2, m60_quirref_FoldGet_K1]
      rw [i64_ok (by omega) (by omega), cut_ok (by omega) (by omega) (by omega)]
      obtain ⟨l, e, g1, g2, _⟩ := put_eq ((s.take ((s.length : Int) - 4).toNat).drop (0 : Int).toNat) (by simp; omega)
      simp only [bind1_some]
      rw [cut_ok (by omega) (by omega) (by omega)]
      simp only [g1, g2, bind2_some, bind1_some]
      by_cases h3 : l ≠ s
      · rw [if_pos h3]; exact ⟨_, _, rfl, rfl, fun h' => by cases h'⟩
      · rw [if_neg h3]; exact ⟨_, _, rfl, rfl, fun _ => by simp; omega⟩

/-- A text with its sum, once for both. -/
def pF (s : List UInt8) : List UInt8 := ((m62_fold_Put s).getD ([], 0)).1
theorem pF_prog {s : List UInt8} (h : s.length ≤ 4096) : m62_fold_Put s = some (pF s, 0) := by
  obtain ⟨l, e, h1, h2, h3⟩ := put_eq s (by omega)
  unfold pF; rw [h1]; rw [(h3 h).1]; rfl
theorem pF_ref {s : List UInt8} (h : s.length ≤ 4096) : m64_quirref_FoldPut s = some (pF s, 0) := by
  obtain ⟨l, e, h1, h2, h3⟩ := put_eq s (by omega)
  unfold pF; rw [h1, h2]; rw [(h3 h).1]; rfl
theorem pF_len {s : List UInt8} (h : s.length ≤ 4096) : (pF s).length = s.length + 4 := by
  obtain ⟨l, e, h1, h2, h3⟩ := put_eq s (by omega)
  unfold pF; rw [h1]; exact (h3 h).2
end Go.Proofs.YtinchlfaepjfiaaDoor
