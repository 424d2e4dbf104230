/-
  Package fold: what the models say.
  Conditions: none.
-/
import Derived.Test.YtfmgjigdebofaaaFdM
import Derived.Test.YtfmgjigdebofaaaK
namespace Go.Proofs.Ytfmgjigdebofaaa
open Go.S
theorem sumLoop (s : List UInt8) (hs : s.length ≤ 4294967296) : ∀ (r i : Nat), i + r = s.length → ∀ (x y u v : Nat), x < 65521 → y < 65521 → x % 65521 = u % 65521 → (y + r * x) % 65521 = v % 65521 → u + 255 * r < 4611686018427387904 → v + 255 * (r * (r + 1)) < 4611686018427387904 → ∀ n n', r < n → r < n' →
    ∃ uf vf : Nat, m24_fold_Sum_L1 s n (x : Int) (y : Int) (i : Int) = m24_fold_Sum_K1 ((uf % 65521 : Nat) : Int) ((vf % 65521 : Nat) : Int) ∧ m25_quirref_Fold_L1 s n' (u : Int) (v : Int) (i : Int) = m25_quirref_Fold_K1 (uf : Int) (vf : Int) := by
  intro r
  induction r with
  | zero =>
    intro i hi x y u v hx hy h1 h2 h3 h4 n n' hn hn'
    obtain ⟨n, rfl⟩ : ∃ q, n = q + 1 := ⟨n - 1, by omega⟩
    obtain ⟨n', rfl⟩ : ∃ q, n' = q + 1 := ⟨n' - 1, by omega⟩
    refine ⟨u, v, ?_, ?_⟩
    · rw [m24_fold_Sum_L1, m24_fold_Sum_L1B, if_neg (by omega), ← h1, Nat.mod_eq_of_lt hx, ← h2, Nat.zero_mul, Nat.add_zero, Nat.mod_eq_of_lt hy]
    · rw [m25_quirref_Fold_L1, m25_quirref_Fold_L1B, if_neg (by omega)]
  | succ r ih =>
    intro i hi x y u v hx hy h1 h2 h3 h4 n n' hn hn'
    obtain ⟨n, rfl⟩ : ∃ q, n = q + 1 := ⟨n - 1, by omega⟩
    obtain ⟨n', rfl⟩ : ∃ q, n' = q + 1 := ⟨n' - 1, by omega⟩
    have hil : i < s.length := by omega
    have hb : s[i]? = some s[i] := List.getElem?_eq_getElem hil
    generalize s[i] = b at hb
    have hbl : b.toNat < 256 := b.toNat_lt
    generalize hc : b.toNat = c at hbl
    have hmul : c * (r + 1) ≤ 255 * (r + 1) := Nat.mul_le_mul_right _ (by omega)
    have hq : (r + 1) * (r + 1 + 1) = r * (r + 1) + 2 * (r + 1) := by
      rw [Nat.mul_comm (r + 1) (r + 1 + 1), ← Nat.add_mul]
    have hdec : v + c * (r + 1) + 255 * (r * (r + 1)) < 4611686018427387904 := by rw [hq] at h4; omega
    have e0 : (c + x) % 65521 < 65521 := Nat.mod_lt _ (by decide)
    have hmod : ((y + (x + c) % 65521) % 65521 + r * ((x + c) % 65521)) % 65521 = (v + c * (r + 1)) % 65521 := by
      have e1 : (r * ((x + c) % 65521)) % 65521 = (r * (x + c)) % 65521 := by rw [Nat.mul_mod, Nat.mod_mod, ← Nat.mul_mod]
      have e2 : r * (x + c) + (x + c) = (r + 1) * x + c * (r + 1) := by rw [Nat.mul_add, Nat.succ_mul, Nat.mul_succ, Nat.mul_comm c r]; omega
      generalize r * ((x + c) % 65521) = A at *
      generalize r * (x + c) = B at *
      generalize (r + 1) * x = C at *
      generalize c * (r + 1) = D at *
      omega
    obtain ⟨uf, vf, g1, g2⟩ := ih (i + 1) (by omega) ((x + c) % 65521) ((y + (x + c) % 65521) % 65521) (u + c) (v + c * (r + 1)) (Nat.mod_lt _ (by decide)) (Nat.mod_lt _ (by decide))
      (by omega) hmod (by omega) hdec n n' (by omega) (by omega)
    refine ⟨uf, vf, ?_, ?_⟩
    · rw [m24_fold_Sum_L1, m24_fold_Sum_L1B, if_pos (by omega), idxS_nat hb, bind1_some, hc]
      have e1 : IntKind.wrap .u32 ((x : Int) + IntKind.wrap .u32 ((c : Nat) : Int)) = ((x + c : Nat) : Int) := by rw [wrapU32, wrapU32]; omega
      rw [e1, show (65521 : Int) = ((65521 : Nat) : Int) by rfl, modW_nat _ _ (by decide), bind1_some]
      have e2 : IntKind.wrap .u32 ((y : Int) + (((x + c) % 65521 : Nat) : Int)) = ((y + (x + c) % 65521 : Nat) : Int) := by rw [wrapU32]; omega
      rw [e2, modW_nat _ _ (by decide), bind1_some, i64_ok (by omega) (by omega), bind1_some]
      rw [show ((i : Int) + 1) = ((i + 1 : Nat) : Int) by omega]
      exact g1
    · rw [m25_quirref_Fold_L1, m25_quirref_Fold_L1B, if_pos (by omega), idxS_nat hb, bind1_some, bind1_some, i64_ok (by omega) (by omega), bind1_some, i64_ok (by omega) (by omega), bind1_some, hc]
      have e1 : IntKind.wrap .u64 ((u : Int) + IntKind.wrap .u64 ((c : Nat) : Int)) = ((u + c : Nat) : Int) := by rw [wrapU64, wrapU64]; omega
      have e3 : IntKind.wrap .u64 ((s.length : Int) - (i : Int)) = ((r + 1 : Nat) : Int) := by rw [wrapU64]; omega
      have e4 : IntKind.wrap .u64 ((c : Nat) : Int) = ((c : Nat) : Int) := by rw [wrapU64]; omega
      have e5 : IntKind.wrap .u64 (((c : Nat) : Int) * ((r + 1 : Nat) : Int)) = ((c * (r + 1) : Nat) : Int) := by rw [← Int.natCast_mul, wrapU64]; omega
      have e2 : IntKind.wrap .u64 ((v : Int) + ((c * (r + 1) : Nat) : Int)) = ((v + c * (r + 1) : Nat) : Int) := by rw [wrapU64]; omega
      rw [e1, e3, e4, e5, e2, show ((i : Int) + 1) = ((i + 1 : Nat) : Int) by omega]
      exact g2

theorem sum_eq (s : List UInt8) (hs : s.length ≤ 1048576) : ∃ S : Nat, S < 4294967296 ∧ m24_fold_Sum s = some (S : Int) ∧ m25_quirref_Fold s = some (S : Int) := by
  have hq : s.length * (s.length + 1) ≤ 1048576 * 1048577 := Nat.mul_le_mul hs (by omega)
  obtain ⟨uf, vf, g1, g2⟩ := sumLoop s (by omega) s.length 0 (by omega) 1 0 1 s.length (by omega) (by omega) rfl (by omega) (by omega) (by omega) big big (by rw [big_eq]; omega) (by rw [big_eq]; omega)
  have hu := Nat.mod_lt uf (show 65521 > 0 by decide)
  have hv := Nat.mod_lt vf (show 65521 > 0 by decide)
  refine ⟨vf % 65521 * 65536 + uf % 65521, by omega, ?_, ?_⟩
  · have : m24_fold_Sum s = m24_fold_Sum_K1 ((uf % 65521 : Nat) : Int) ((vf % 65521 : Nat) : Int) := by simpa [m24_fold_Sum] using g1
    rw [this]
    simp only [m24_fold_Sum_K1]
    rw [show (16 : Int) = ((16 : Nat) : Int) by rfl, shlW_u32 _ _ (by decide) (by omega), bind1_some, bits_or_nat .u32 rfl _ _ (by rw [p32]; omega) (by rw [p32]; omega), Nat.or_comm, or_high _ _ _ (by omega)]
    rw [show vf % 65521 * 2 ^ 16 = vf % 65521 * 65536 by rfl, Nat.add_comm]
  · have hw : IntKind.wrap .u64 (s.length : Int) = (s.length : Int) := by rw [wrapU64]; omega
    have : m25_quirref_Fold s = m25_quirref_Fold_K1 (uf : Int) (vf : Int) := by simpa [m25_quirref_Fold, hw] using g2
    rw [this]
    simp only [m25_quirref_Fold_K1]
    rw [show (65521 : Int) = ((65521 : Nat) : Int) by rfl, modW_nat _ _ (by decide), bind1_some, modW_nat _ _ (by decide), bind1_some]
    congr 1
    rw [wrapU64, wrapU64, wrapU32]
    omega

theorem put_eq (s : List UInt8) (hs : s.length ≤ 1048576) : ∃ l e, m19_fold_Put s = some (l, e) ∧ m20_quirref_FoldPut s = some (l, e) := by
  obtain ⟨S, hS, g1, g2⟩ := sum_eq s hs
  simp only [m19_fold_Put, m20_quirref_FoldPut]
  by_cases h : 4096 < (s.length : Int)
  · rw [if_pos h, if_pos h]; exact ⟨_, _, rfl, rfl⟩
  · rw [if_neg h, if_neg h]
    simp only [m19_fold_Put_K1, m20_quirref_FoldPut_K1, g1, g2, bind1_some]
    rw [show (24 : Int) = ((24 : Nat) : Int) by rfl, show (16 : Int) = ((16 : Nat) : Int) by rfl, show (8 : Int) = ((8 : Nat) : Int) by rfl, shrW_u32 _ _ (by decide), shrW_u32 _ _ (by decide), shrW_u32 _ _ (by decide)]
    rw [show (16777216 : Int) = ((16777216 : Nat) : Int) by rfl, show (65536 : Int) = ((65536 : Nat) : Int) by rfl, show (256 : Int) = ((256 : Nat) : Int) by rfl, divW_u32 _ _ (by decide) hS, divW_u32 _ _ (by decide) hS, divW_u32 _ _ (by decide) hS]
    simp only [bind1_some]
    rw [modW_nat _ _ (by decide), modW_nat _ _ (by decide), modW_nat _ _ (by decide)]
    simp only [bind1_some, wrapU8]
    have e1 : ((S / 2 ^ 24 : Nat) : Int) % 256 = ((S / 16777216 : Nat) : Int) % 256 := by omega
    have e2 : ((S / 2 ^ 16 : Nat) : Int) % 256 = ((S / 65536 % 256 : Nat) : Int) % 256 := by omega
    have e3 : ((S / 2 ^ 8 : Nat) : Int) % 256 = ((S / 256 % 256 : Nat) : Int) % 256 := by omega
    have e4 : ((S : Nat) : Int) % 256 = ((S % 256 : Nat) : Int) % 256 := by omega
    rw [e1, e2, e3, e4, catS_ok (by simp [bytesOf]; omega)]
    exact ⟨_, _, rfl, rfl⟩

theorem get_eq (s : List UInt8) (hs : s.length ≤ 1048576) : ∃ l e, m21_fold_Get s = some (l, e) ∧ m22_quirref_FoldGet s = some (l, e) := by
  simp only [m21_fold_Get, m22_quirref_FoldGet]
  rw [i64_ok (by omega) (by omega), bind1_some]
  by_cases h : (s.length : Int) < 4
  · rw [if_pos (by omega), if_pos h]; exact ⟨_, _, rfl, rfl⟩
  · rw [if_neg (by omega), if_neg h]
    simp only [m21_fold_Get_K1]
    by_cases h2 : 4100 < (s.length : Int)
    · rw [if_pos (by omega), if_pos h2]; exact ⟨_, _, rfl, rfl⟩
    · rw [if_neg (by omega), if_neg h2]
      simp only [m21_fold_Get_K2, m22_quirref_FoldGet_K1]
      rw [i64_ok (by omega) (by omega), cut_ok (by omega) (by omega) (by omega)]
      obtain ⟨l, e, g1, g2⟩ := put_eq ((s.take ((s.length : Int) - 4).toNat).drop (0 : Int).toNat) (by simp; omega)
      simp only [bind1_some]
      rw [cut_ok (by omega) (by omega) (by omega)]
      simp only [g1, g2, bind2_some, bind1_some]
      by_cases h3 : l ≠ s
      · rw [if_pos h3]; exact ⟨_, _, rfl, rfl⟩
      · rw [if_neg h3]; exact ⟨_, _, rfl, rfl⟩

theorem rest_nat (a : Nat) (_h : a < 4611686018427387904) : m26_quirref_Rest (a : Int) 65521 = some ((a % 65521 : Nat) : Int) := by
  simp only [m26_quirref_Rest]
  rw [if_neg (by omega), show (65521 : Int) = ((65521 : Nat) : Int) by rfl, modW_nat _ _ (by decide), bind1_some, i64_ok (by omega) (by omega), bind1_some, ← Int.natCast_add, modW_nat _ _ (by decide), bind1_some]
  rw [show (a % 65521 + 65521) % 65521 = a % 65521 by omega]
theorem rest_m1' (m : Int) (hm : 1 < m) (hl : m < 4611686018427387904) : m26_quirref_Rest (-1) m = some (m - 1) := by
  have h0 : (-1 : Int).tmod m = -1 := by
    rw [show (-1 : Int) = -(1 : Int) by rfl, Int.neg_tmod, Int.tmod_eq_emod_of_nonneg (by omega), Int.emod_eq_of_lt (by omega) hm]
  have h1 : modW (-1) m = some (-1) := by unfold modW; rw [if_pos (by omega), h0]
  have h2 : modW (m - 1) m = some (m - 1) := by unfold modW; rw [if_pos (by omega), Int.tmod_eq_emod_of_nonneg (by omega), Int.emod_eq_of_lt (by omega) (by omega)]
  have h3 : i64 (-1 + m) = some (m - 1) := by rw [i64_ok (by omega) (by omega)]; congr 1; omega
  simp only [m26_quirref_Rest]
  rw [if_neg (by omega), h1, bind1_some, h3, bind1_some, h2, bind1_some]
theorem rest_m1 : m26_quirref_Rest (-1) 65521 = some 65520 := rest_m1' 65521 (by omega) (by omega)
theorem rest_nat' (a : Nat) (h : a < 4611686018427387904) (b : Int) (hb : b = (a : Int)) : m26_quirref_Rest b 65521 = some ((a % 65521 : Nat) : Int) := by subst hb; exact rest_nat a h
set_option maxHeartbeats 2000000 in
theorem join_eq (x y : Nat) (n : Int) (hx : x < 4294967296) (hy : y < 4294967296) : ∃ j i, m23_fold_Join (x : Int) (y : Int) n = some (j, i) ∧ m5_quirlaw_FoldSays_K1 n j i (x : Int) (y : Int) = some true := by
  have hk3 : m5_quirlaw_FoldSays_K3 0 1 (x : Int) (y : Int) n true = some true := by simp [m5_quirlaw_FoldSays_K3]
  simp only [m23_fold_Join, m5_quirlaw_FoldSays_K1]
  by_cases h1 : n < 0
  · exact ⟨0, 1, by rw [if_pos h1]; simp [m23_fold_Join_K2], by rw [if_pos h1]; simp [m5_quirlaw_FoldSays_K4, hk3]⟩
  simp only [if_neg h1]
  by_cases h2 : 4096 < n
  · exact ⟨0, 1, by rw [if_pos h2]; simp [m23_fold_Join_K2], by rw [if_pos h2]; simp [m5_quirlaw_FoldSays_K4, hk3]⟩
  simp only [if_neg h2]
  obtain ⟨k, rfl⟩ := Int.eq_ofNat_of_zero_le (show 0 ≤ n by omega)
  have hk : k ≤ 4096 := by omega
  have a1 : Go.bits .and .u32 (x : Int) 65535 = ((x % 65536 : Nat) : Int) := by rw [show (65535 : Int) = ((65535 : Nat) : Int) by rfl, bits_and_nat .u32 rfl _ _ (by rw [p32]; exact hx) (by decide), and65535]
  have a2 : Go.bits .and .u32 (y : Int) 65535 = ((y % 65536 : Nat) : Int) := by rw [show (65535 : Int) = ((65535 : Nat) : Int) by rfl, bits_and_nat .u32 rfl _ _ (by rw [p32]; exact hy) (by decide), and65535]
  have b1 : shrW .u32 (x : Int) 16 = some ((x / 65536 : Nat) : Int) := shrW_u32 x 16 (by decide)
  have b2 : shrW .u32 (y : Int) 16 = some ((y / 65536 : Nat) : Int) := shrW_u32 y 16 (by decide)
  have d1 : divW .u32 (x : Int) 65536 = some ((x / 65536 : Nat) : Int) := divW_u32 x 65536 (by decide) hx
  have d2 : divW .u32 (y : Int) 65536 = some ((y / 65536 : Nat) : Int) := divW_u32 y 65536 (by decide) hy
  have c1 : modW (x : Int) 65536 = some ((x % 65536 : Nat) : Int) := modW_nat x 65536 (by decide)
  have c2 : modW (y : Int) 65536 = some ((y % 65536 : Nat) : Int) := modW_nat y 65536 (by decide)
  simp only [m23_fold_Join_K2, m5_quirlaw_FoldSays_K4, Bool.false_eq_true, if_false, a1, b1, d1, d2, c1, c2, bind1_some, m23_fold_Join_K3, a2, b2, if_true]
  by_cases hbig : 65521 ≤ x % 65536 ∨ 65521 ≤ x / 65536 ∨ 65521 ≤ y % 65536 ∨ 65521 ≤ y / 65536
  · refine ⟨0, 1, ?_, ?_⟩
    · split
      · rfl
      · split
        · rfl
        · split
          · rfl
          · split
            · rfl
            · omega
    · rw [if_pos (by omega)]; exact hk3
  · have e1 : ¬ (65521 : Int) ≤ ((x % 65536 : Nat) : Int) := by omega
    have e2 : ¬ (65521 : Int) ≤ ((x / 65536 : Nat) : Int) := by omega
    have e3 : ¬ (65521 : Int) ≤ ((y % 65536 : Nat) : Int) := by omega
    have e4 : ¬ (65521 : Int) ≤ ((y / 65536 : Nat) : Int) := by omega
    have e5 : ¬ (65520 : Int) < max (max (max ((x / 65536 : Nat) : Int) ((x % 65536 : Nat) : Int)) ((y / 65536 : Nat) : Int)) ((y % 65536 : Nat) : Int) := by omega
    simp only [if_neg e1, if_neg e2, if_neg e3, if_neg e4, if_neg e5]
    have hx1 : x % 65536 < 65521 := by omega
    have hx2 : x / 65536 < 65521 := by omega
    have hy1 : y % 65536 < 65521 := by omega
    have hy2 : y / 65536 < 65521 := by omega
    simp only [m23_fold_Join_K1, m5_quirlaw_FoldSays_K3, m5_quirlaw_FoldSays_K2, a1, a2, b1, b2, c1, c2, d1, d2, bind1_some, Bool.false_eq_true, if_false]
    generalize x % 65536 = p at *
    generalize x / 65536 = q at *
    generalize y % 65536 = r at *
    generalize y / 65536 = s at *
    generalize hf : (p + 65520) % 65521 = f
    have hfl : f < 65521 := by omega
    have hm : f * k ≤ 65521 * 4096 := Nat.mul_le_mul (by omega) hk
    have w1 : IntKind.wrap .u32 (IntKind.wrap .u32 ((p : Int) + 65521) - 1) = ((p + 65520 : Nat) : Int) := by rw [wrapU32, wrapU32]; omega
    have w2 : modW ((p + 65520 : Nat) : Int) 65521 = some (f : Int) := by rw [show (65521 : Int) = ((65521 : Nat) : Int) by rfl, modW_nat _ _ (by decide), hf]
    have w3 : IntKind.wrap .u32 ((f : Int) + (r : Int)) = ((f + r : Nat) : Int) := by rw [wrapU32]; omega
    have w4 : modW ((f + r : Nat) : Int) 65521 = some (((f + r) % 65521 : Nat) : Int) := modW_nat _ 65521 (by decide)
    have u1 : ∀ z : Nat, z < 4294967296 → IntKind.wrap .u64 (z : Int) = (z : Int) := fun z hz => by rw [wrapU64]; omega
    have w5 : IntKind.wrap .u64 (IntKind.wrap .u64 (((q : Nat) : Int) + (s : Int)) + IntKind.wrap .u64 ((f : Int) * (k : Int))) = ((q + s + f * k : Nat) : Int) := by
      rw [← Int.natCast_mul, wrapU64, wrapU64, wrapU64]; omega
    have w6 : modW ((q + s + f * k : Nat) : Int) 65521 = some (((q + s + f * k) % 65521 : Nat) : Int) := modW_nat _ 65521 (by decide)
    have w7 : IntKind.wrap .u32 (((q + s + f * k) % 65521 : Nat) : Int) = (((q + s + f * k) % 65521 : Nat) : Int) := by rw [wrapU32]; omega
    have hA : (f + r) % 65521 < 65521 := Nat.mod_lt _ (by decide)
    have hB : (q + s + f * k) % 65521 < 65521 := Nat.mod_lt _ (by decide)
    have w8 : shlW .u32 (((q + s + f * k) % 65521 : Nat) : Int) 16 = some ((((q + s + f * k) % 65521) * 2 ^ 16 : Nat) : Int) := shlW_u32 _ 16 (by decide) (by omega)
    have w9 : Go.bits .or .u32 ((((q + s + f * k) % 65521) * 2 ^ 16 : Nat) : Int) (((f + r) % 65521 : Nat) : Int) = (((f + r) % 65521 + ((q + s + f * k) % 65521) * 2 ^ 16 : Nat) : Int) := by
      rw [bits_or_nat .u32 rfl _ _ (by rw [p32]; omega) (by rw [p32]; omega), Nat.or_comm, or_high _ _ _ (by omega)]
    refine ⟨(((f + r) % 65521 + ((q + s + f * k) % 65521) * 2 ^ 16 : Nat) : Int), 0, ?_, ?_⟩
    · rw [w1, w2, bind1_some, w3, w4, bind1_some, u1 q (by omega), u1 s (by omega), u1 f (by omega), u1 k (by omega), w5, w6, bind1_some, w7, w8, bind1_some, w9]
    · have i1 : ∀ z : Nat, z < 4294967296 → IntKind.wrap .i64 (z : Int) = (z : Int) := fun z hz => wrapI64 (by omega) (by omega)
      have r1 : m26_quirref_Rest ((p : Int) - 1 + (r : Int)) 65521 = some (((f + r) % 65521 : Nat) : Int) := by
        by_cases h0 : p + r = 0
        · have : (p : Int) - 1 + (r : Int) = -1 := by omega
          rw [this, rest_m1, show (((f + r) % 65521 : Nat) : Int) = 65520 by omega]
        · rw [rest_nat' (p + r - 1) (by omega) _ (by omega), show (p + r - 1) % 65521 = (f + r) % 65521 by omega]
      have r2 : m26_quirref_Rest ((p : Int) - 1) 65521 = some (f : Int) := by
        by_cases h0 : p = 0
        · have : (p : Int) - 1 = -1 := by omega
          rw [this, rest_m1, show (f : Int) = 65520 by omega]
        · rw [rest_nat' (p - 1) (by omega) _ (by omega), show (p - 1) % 65521 = f by omega]
      rw [i1 p (by omega), i64_ok (by omega) (by omega), bind1_some, i1 r (by omega), i64_ok (by omega) (by omega), bind1_some, r1, bind1_some, i1 q (by omega), i1 s (by omega), i64_ok (by omega) (by omega), bind1_some, r2, bind1_some, ← Int.natCast_mul]
      rw [i64_ok (by omega) (by omega), bind1_some, i64_ok (by omega) (by omega), bind1_some, rest_nat' (q + s + f * k) (by omega) _ (by omega), bind1_some, i64_ok (by omega) (by omega), bind1_some, i64_ok (by omega) (by omega), bind1_some]
      rw [if_pos (by rw [wrapI64 (by omega) (by omega)]; omega)]
      rfl

theorem fold_true (s : List UInt8) (x y : Nat) (n : Int) (hs : s.length ≤ 1048576) (hx : x < 4294967296) (hy : y < 4294967296) : m5_quirlaw_FoldSays s (x : Int) (y : Int) n = some true := by
  obtain ⟨S, _, g1, g2⟩ := sum_eq s hs
  obtain ⟨l, e, g3, g4⟩ := put_eq s hs
  obtain ⟨l', e', g5, g6⟩ := get_eq s hs
  obtain ⟨j, i, g7, g8⟩ := join_eq x y n hx hy
  simp only [m5_quirlaw_FoldSays, g1, g2, g3, g4, g5, g6, g7, bind1_some, bind2_some]
  simp [m5_quirlaw_FoldSays_K5, m5_quirlaw_FoldSays_K6, g8]
end Go.Proofs.Ytfmgjigdebofaaa
