/-
  Package code: what the models of WalPlays say.
  Conditions: none.
-/
import Derived.Test.YtinchlfaepjfiaaDoorWlM
import Derived.Test.YtinchlfaepjfiaaDoorK
namespace Go.Proofs.YtinchlfaepjfiaaDoor
open Go.S
set_option linter.unusedVariables false
set_option linter.unusedSimpArgs false
/-! ### Digits -/
def ofD : List Nat → Nat
  | [] => 0
  | d :: l => d + 128 * ofD l
theorem ofD_append : ∀ (a b : List Nat), ofD (a ++ b) = ofD a + 128 ^ a.length * ofD b
  | [], b => by simp [ofD]
  | d :: a, b => by
    simp only [List.cons_append, ofD, ofD_append a b, List.length_cons, Nat.pow_succ, Nat.mul_add]
    rw [Nat.mul_comm (128 ^ a.length) 128, Nat.mul_assoc, Nat.add_assoc]
theorem ofD_lt : ∀ (l : List Nat), (∀ d ∈ l, d < 128) → ofD l < 128 ^ l.length
  | [], _ => by simp [ofD]
  | d :: l, h => by
    have h1 := ofD_lt l (fun x hx => h x (by simp [hx]))
    have h2 := h d (by simp)
    simp only [ofD, List.length_cons, Nat.pow_succ]
    omega
def dig (s : List UInt8) : List Nat := s.map fun b => b.toNat % 128
theorem dig_lt (s : List UInt8) : ∀ d ∈ dig s, d < 128 := by
  intro d hd
  simp only [dig, List.mem_map] at hd
  obtain ⟨b, _, rfl⟩ := hd
  exact Nat.mod_lt _ (by decide)
theorem dig_length (s : List UInt8) : (dig s).length = s.length := by simp [dig]
theorem val_lt (s : List UInt8) : ofD (dig s) < 128 ^ s.length := by
  have := ofD_lt _ (dig_lt s)
  rwa [dig_length] at this
theorem dig_append (a b : List UInt8) : dig (a ++ b) = dig a ++ dig b := by simp [dig]
/-- The value of the first i bytes. -/
def pv (s : List UInt8) (i : Nat) : Nat := ofD (dig (s.take i))
theorem pv_succ {s : List UInt8} {i : Nat} {b : UInt8} (h : s[i]? = some b) : pv s (i + 1) = pv s i + b.toNat % 128 * 128 ^ i := by
  have hi := (List.getElem?_eq_some_iff.1 h).1
  have h1 : s.take (i + 1) = s.take i ++ [b] := by
    rw [List.take_succ_eq_append_getElem hi]
    rw [List.getElem?_eq_getElem hi, Option.some.injEq] at h
    rw [h]
  unfold pv
  rw [h1, dig_append, ofD_append, dig_length, List.length_take, Nat.min_eq_left (Nat.le_of_lt hi), Nat.mul_comm (128 ^ i)]
  simp [dig, ofD]
theorem pv_lt (s : List UInt8) (i : Nat) (hi : i ≤ s.length) : pv s i < 128 ^ i := by
  have := val_lt (s.take i)
  rwa [List.length_take, Nat.min_eq_left hi] at this
theorem pv_step {s : List UInt8} {i : Nat} {b : UInt8} (h : s[i]? = some b) (h9 : i ≤ 9) (hb : i = 9 → b.toNat ≤ 1) : pv s (i + 1) < 18446744073709551616 ∧ b.toNat % 128 * 128 ^ i < 18446744073709551616 := by
  have hi := (List.getElem?_eq_some_iff.1 h).1
  have h1 := pv_lt s (i + 1) hi
  have h2 := pv_succ h
  have h3 := pv_lt s i (Nat.le_of_lt hi)
  by_cases h' : i = 9
  · subst h'
    have := hb rfl
    omega
  · have h4 : 128 ^ (i + 1) ≤ 128 ^ 9 := Nat.pow_le_pow_right (by decide) (by omega)
    have h5 : (128 : Nat) ^ 9 = 9223372036854775808 := by decide
    omega
theorem pow128 (i : Nat) : 2 ^ (7 * i) = 128 ^ i := by rw [Nat.pow_mul]

/-- The document's inner loop. -/
theorem refLoop (s : List UInt8) (x : Nat) (hx : x + 1 ≤ s.length) (hl : s.length ≤ 9223372036854775807) (hv : pv s (x + 1) < 18446744073709551616) : ∀ (k : Nat), k ≤ x + 1 → ∀ n, k < n →
    m58_quirref_GetNat_L2 s (x : Int) n (ofD ((dig (s.take (x + 1))).drop k) : Nat) ((k : Int) - 1) = some (((pv s (x + 1) : Nat) : Int), (x : Int) + 1, 0)
  | 0, _, n + 1, _ => by
    simp only [m58_quirref_GetNat_L2, m58_quirref_GetNat_L2B, m58_quirref_GetNat_K6]
    rw [if_neg (by omega), i64_ok (by omega) (by omega)]
    simp [pv]
  | k + 1, hk, n + 1, hn => by
    have hi : k < s.length := by omega
    have hb : s[k]? = some s[k] := List.getElem?_eq_getElem hi
    have hd : (dig (s.take (x + 1))).drop k = (s[k].toNat % 128) :: (dig (s.take (x + 1))).drop (k + 1) := by
      have hlt : k < (dig (s.take (x + 1))).length := by rw [dig_length, List.length_take]; omega
      rw [List.drop_eq_getElem_cons hlt]
      simp [dig]
    have hle : ofD ((dig (s.take (x + 1))).drop k) ≤ pv s (x + 1) := by
      unfold pv
      have := ofD_append ((dig (s.take (x + 1))).take k) ((dig (s.take (x + 1))).drop k)
      rw [List.take_append_drop] at this
      have h1 : 1 * ofD ((dig (s.take (x + 1))).drop k) ≤ 128 ^ ((dig (s.take (x + 1))).take k).length * ofD ((dig (s.take (x + 1))).drop k) := Nat.mul_le_mul_right _ (Nat.one_le_pow _ _ (by decide))
      omega
    have ih := refLoop s x hx hl hv k (by omega) n (by omega)
    simp only [m58_quirref_GetNat_L2, m58_quirref_GetNat_L2B]
    rw [if_pos (by omega), show ((k + 1 : Nat) : Int) - 1 = (k : Int) by omega, idxS_nat hb, bind1_some, show (128 : Int) = ((128 : Nat) : Int) by rfl, modW_nat _ _ (by decide), bind1_some, i64_ok (by omega) (by omega), bind1_some]
    rw [hd] at ih hle
    simp only [ofD] at ih hle
    have e : IntKind.wrap .u64 (IntKind.wrap .u64 (((ofD ((dig (s.take (x + 1))).drop (k + 1)) : Nat) : Int) * ((128 : Nat) : Int)) + IntKind.wrap .u64 ((s[k].toNat % 128 : Nat) : Int)) = ((s[k].toNat % 128 + 128 * ofD ((dig (s.take (x + 1))).drop (k + 1)) : Nat) : Int) := by
      rw [wrapU64, wrapU64, wrapU64]
      omega
    rw [e]
    exact ih

structure Got (s : List UInt8) (n k e : Int) : Prop where
  n0 : 0 ≤ n
  n1 : n < 18446744073709551616
  k0 : 0 ≤ k
  k1 : k ≤ s.length

theorem getLoop (s : List UInt8) (hl : s.length ≤ 9223372036854775807) : ∀ (r i : Nat), i + r = s.length → i ≤ 9 → ∀ n n', r < n → r < n' →
    ∃ a k e, m53_code_GetNat_L1 s n (pv s i : Nat) (i : Int) = some (a, k, e) ∧ m58_quirref_GetNat_L1 s n' (i : Int) = some (a, k, e) ∧ Got s a k e
  | 0, i, hi, h9, n + 1, n' + 1, _, _ => by
    refine ⟨0, 0, 3, ?_, ?_, ⟨by omega, by omega, by omega, by omega⟩⟩
    · simp only [m53_code_GetNat_L1, m53_code_GetNat_L1B, m53_code_GetNat_K1]; rw [if_neg (by omega)]
    · simp only [m58_quirref_GetNat_L1, m58_quirref_GetNat_L1B, m58_quirref_GetNat_K1]; rw [if_neg (by omega)]
  | r + 1, i, hi, h9, n + 1, n' + 1, hn, hn' => by
    have hil : i < s.length := by omega
    have hb : s[i]? = some s[i] := List.getElem?_eq_getElem hil
    generalize hbe : s[i] = b at hb
    simp only [m53_code_GetNat_L1, m53_code_GetNat_L1B, m58_quirref_GetNat_L1, m58_quirref_GetNat_L1B, idxS_nat hb, bind1_some]
    rw [if_pos (show (i : Int) < s.length by omega), if_pos (show (i : Int) < s.length by omega)]
    have hbl : b.toNat < 256 := b.toNat_lt
    by_cases hbig : i = 9 ∧ 1 < b.toNat
    · refine ⟨0, 0, 2, ?_, ?_, ⟨by omega, by omega, by omega, by omega⟩⟩
      · rw [if_pos (by omega), if_pos (by omega)]
      · rw [if_pos (by omega), if_pos (by omega)]
    · have e1 : (if (i : Int) = 9 then if (1 : Int) < (b.toNat : Nat) then some ((0 : Int), (0 : Int), (2 : Int)) else m53_code_GetNat_K2 (i : Int) (b.toNat : Nat) (pv s i : Nat) (m53_code_GetNat_L1 s n) else m53_code_GetNat_K2 (i : Int) (b.toNat : Nat) (pv s i : Nat) (m53_code_GetNat_L1 s n)) = m53_code_GetNat_K2 (i : Int) (b.toNat : Nat) (pv s i : Nat) (m53_code_GetNat_L1 s n) := by
        split
        · rw [if_neg (by omega)]
        · rfl
      have e2 : (if (i : Int) = 9 then if (1 : Int) < (b.toNat : Nat) then some ((0 : Int), (0 : Int), (2 : Int)) else m58_quirref_GetNat_K3 s (i : Int) (m58_quirref_GetNat_L1 s n') else m58_quirref_GetNat_K3 s (i : Int) (m58_quirref_GetNat_L1 s n')) = m58_quirref_GetNat_K3 s (i : Int) (m58_quirref_GetNat_L1 s n') := by
        split
        · rw [if_neg (by omega)]
        · rfl
      rw [e1, e2]
      obtain ⟨hp1, hp2⟩ := pv_step hb h9 (fun h => by omega)
      have hps := pv_succ hb
      have hand : IntKind.wrap .u64 (Go.bits .and .u8 ((b.toNat : Nat) : Int) 127) = ((b.toNat % 128 : Nat) : Int) := by
        rw [show (127 : Int) = ((127 : Nat) : Int) by rfl, bits_and_nat .u8 rfl _ _ (by simpa [IntKind.bits] using hbl) (by decide), and127, wrapU_nat .u64 rfl _ (by rw [p64]; omega)]
      have hsh : shlW .u64 ((b.toNat % 128 : Nat) : Int) (7 * (i : Int)) = some ((b.toNat % 128 * 128 ^ i : Nat) : Int) := by
        rw [show (7 * (i : Int)) = ((7 * i : Nat) : Int) by push_cast; rfl, shlW_u64 _ _ (by omega) (by rw [pow128]; exact hp2), pow128]
      have hor : Go.bits .or .u64 ((pv s i : Nat) : Int) ((b.toNat % 128 * 128 ^ i : Nat) : Int) = ((pv s (i + 1) : Nat) : Int) := by
        rw [bits_or_nat .u64 rfl _ _ (by rw [p64]; omega) (by rw [p64]; exact hp2), ← pow128, or_high _ _ _ (by rw [pow128]; exact pv_lt s i (by omega)), pow128, ← hps]
      simp only [m53_code_GetNat_K2, i64_ok (show -9223372036854775808 ≤ 7 * (i : Int) by omega) (by omega), bind1_some, hand, hsh]
      simp only [m58_quirref_GetNat_K3, idxS_nat hb, bind1_some]
      by_cases h128 : b.toNat < 128
      · rw [if_pos (show ((b.toNat : Nat) : Int) < 128 by omega), if_neg (show ¬ (128 : Int) ≤ (b.toNat : Nat) by omega)]
        simp only [m58_quirref_GetNat_K4, idxS_nat hb, bind1_some]
        by_cases hz : b.toNat = 0 ∧ 0 < i
        · refine ⟨0, 0, 4, ?_, ?_, ⟨by omega, by omega, by omega, by omega⟩⟩
          · rw [if_pos (by omega), if_pos (by omega)]
          · rw [if_pos (by omega), if_pos (by omega)]
        · refine ⟨(pv s (i + 1) : Nat), (i : Int) + 1, 0, ?_, ?_, ⟨by omega, by omega, by omega, by omega⟩⟩
          · have : m53_code_GetNat_K3 (i : Int) (pv s i : Nat) ((b.toNat % 128 * 128 ^ i : Nat) : Int) = some (((pv s (i + 1) : Nat) : Int), (i : Int) + 1, 0) := by
              simp only [m53_code_GetNat_K3, i64_ok (show -9223372036854775808 ≤ (i : Int) + 1 by omega) (by omega), bind1_some, hor]
            rw [this]
            split
            · rw [if_neg (by omega)]
            · rfl
          · have : m58_quirref_GetNat_K5 s (i : Int) = some (((pv s (i + 1) : Nat) : Int), (i : Int) + 1, 0) := by
              have := refLoop s i (by omega) hl hp1 (i + 1) (Nat.le_refl _) big (by rw [big_eq]; omega)
              rw [List.drop_eq_nil_of_le (by rw [dig_length, List.length_take]; omega)] at this
              simpa [m58_quirref_GetNat_K5, ofD] using this
            rw [this]
            split
            · rw [if_neg (by omega)]
            · rfl
      · have h9' : i ≠ 9 := by
          intro h
          exact hbig ⟨h, by omega⟩
        obtain ⟨a, k, e, h1, h2, h3⟩ := getLoop s hl r (i + 1) (by omega) (by omega) n n' (by omega) (by omega)
        refine ⟨a, k, e, ?_, ?_, h3⟩
        · rw [if_neg (by omega), i64_ok (by omega) (by omega), bind1_some, hor]
          exact_mod_cast h1
        · rw [if_pos (by omega)]
          simp only [m58_quirref_GetNat_K2, i64_ok (show -9223372036854775808 ≤ (i : Int) + 1 by omega) (by omega), bind1_some]
          exact_mod_cast h2

theorem getNat (s : List UInt8) (hl : s.length ≤ 9223372036854775807) : ∃ a k e, m53_code_GetNat s = some (a, k, e) ∧ m58_quirref_GetNat s = some (a, k, e) ∧ Got s a k e := by
  obtain ⟨a, k, e, h1, h2, h3⟩ := getLoop s hl s.length 0 (by omega) (by omega) big big (by rw [big_eq]; omega) (by rw [big_eq]; omega)
  exact ⟨a, k, e, by simpa [m53_code_GetNat, pv, dig, ofD] using h1, by simpa [m58_quirref_GetNat] using h2, h3⟩

theorem getInt (s : List UInt8) (hl : s.length ≤ 9223372036854775807) : ∃ a k e, m50_code_GetInt s = some (a, k, e) ∧ m56_quirref_GetInt s = some (a, k, e) ∧ -9223372036854775808 ≤ a ∧ a ≤ 9223372036854775807 ∧ 0 ≤ k ∧ k ≤ s.length := by
  obtain ⟨a, k, e, h1, h2, h3⟩ := getNat s hl
  have hk0 := h3.k0
  have hk1 := h3.k1
  simp only [m50_code_GetInt, m56_quirref_GetInt, h1, h2, bind3_some]
  by_cases he : e = 0
  · subst he
    obtain ⟨n, rfl⟩ := Int.eq_ofNat_of_zero_le h3.n0
    have hn := h3.n1
    have hn' : n < 18446744073709551616 := by omega
    rw [if_neg (by simp), if_neg (by simp)]
    simp only [m50_code_GetInt_K1, m56_quirref_GetInt_K1]
    rw [show (1 : Int) = ((1 : Nat) : Int) by rfl, shrW_u64 _ _ (by decide), bind1_some, bits_and_nat .u64 rfl _ _ (by rw [p64]; exact hn') (by decide), and1]
    rw [show (2 : Int) = ((2 : Nat) : Int) by rfl, modW_nat _ _ (by decide), bind1_some, divW_u64 _ _ (by decide) hn', Nat.pow_one]
    by_cases ho : n % 2 = 1
    · simp only [ho, if_true, bind1_some]
      rw [comW_u64 _ (by omega), wrapI64 (x := ((n / 2 : Nat) : Int)) (by omega) (by omega), wrapI64 (by omega) (by omega), i64_ok (by omega) (by omega), bind1_some]
      simp only [m50_code_GetInt_K2]
      have e : IntKind.wrap .i64 ((18446744073709551615 - n / 2 : Nat) : Int) = -((n / 2 : Nat) : Int) - ((1 : Nat) : Int) := by
        rw [wrapI64_hi (by omega) (by omega)]; omega
      rw [e]
      exact ⟨_, _, _, rfl, rfl, by omega, by omega, hk0, hk1⟩
    · rw [if_neg (by omega), if_neg (by omega)]
      simp only [m50_code_GetInt_K2, bind1_some]
      refine ⟨_, _, _, rfl, rfl, ?_, ?_, hk0, hk1⟩
      · rw [wrapI64 (by omega) (by omega)]; omega
      · rw [wrapI64 (by omega) (by omega)]; omega
  · rw [if_pos (by simpa using he), if_pos (by simpa using he)]
    exact ⟨0, 0, e, rfl, rfl, by omega, by omega, by omega, by omega⟩

/-! ### Put -/
def enc : Nat → Nat → List UInt8
  | 0, _ => []
  | f + 1, x => if x < 128 then [UInt8.ofNat x] else UInt8.ofNat (x % 128 + 128) :: enc f (x / 128)
theorem enc_len : ∀ (f x : Nat), (enc f x).length ≤ f
  | 0, _ => by simp [enc]
  | f + 1, x => by
    simp only [enc]
    split
    · simp
    · have := enc_len f (x / 128); simp; omega
theorem bytesOf_append (a b : List Int) : bytesOf (a ++ b) = bytesOf a ++ bytesOf b := by simp [bytesOf]
theorem bytesOf_one (x : Nat) : bytesOf [(x : Int)] = [UInt8.ofNat x] := by simp [bytesOf]
theorem wrapU8_nat (x : Nat) (h : x < 256) : IntKind.wrap .u8 (x : Int) = (x : Int) := by rw [wrapU8]; omega

theorem putLoop : ∀ (f x : Nat), x < 128 ^ (f + 1) → x < 18446744073709551616 → ∀ n, f < n → ∀ (l : List Int), l.length + f ≤ 1000 → m80_code_PutNat_L1 n (x : Int) l = some (bytesOf l ++ enc (f + 1) x)
  | f, x, hx, h64, n + 1, hn, l, hl => by
    simp only [m80_code_PutNat_L1, m80_code_PutNat_L1B, m80_code_PutNat_K1, enc]
    by_cases h : x < 128
    · rw [if_neg (by omega), if_pos h, app_ok (by simp; omega), bind1_some, wrapU8_nat _ (by omega), bytesOf_append, bytesOf_one]
    · rw [if_pos (by omega), if_neg h, wrapU8, show (x : Int) % 256 = ((x % 256 : Nat) : Int) by omega, show (128 : Int) = ((128 : Nat) : Int) by rfl, bits_or_nat .u8 rfl _ _ (by simp [IntKind.bits]; omega) (by decide), or128 _ (Nat.mod_lt _ (by decide)), app_ok (by simp; omega), bind1_some]
      rw [show (7 : Int) = ((7 : Nat) : Int) by rfl, shrW_u64 _ _ (by decide), bind1_some]
      have h7 : (2 : Nat) ^ 7 = 128 := by decide
      match f, hx, hn, hl with
      | 0, hx, _, _ => simp at hx; omega
      | f + 1, hx, hn, hl =>
        rw [h7, putLoop f (x / 128) (by rw [Nat.pow_succ] at hx; omega) (by omega) n (by omega) _ (by simp; omega), bytesOf_append, bytesOf_one]
        simp [show x % 256 % 128 = x % 128 by omega]
theorem putNat (x : Nat) (h : x < 18446744073709551616) : m80_code_PutNat (x : Int) = some (enc 10 x) := by
  have := putLoop 9 x (by simp; omega) h big (by rw [big_eq]; omega) [] (by simp)
  simpa [m80_code_PutNat, bytesOf] using this
theorem natLoop : ∀ (f x : Nat), x < 128 ^ (f + 1) → x < 18446744073709551616 → f < 1000 → ∀ n, f < n → m83_quirref_NatR n (x : Int) = some (enc (f + 1) x)
  | f, x, hx, h64, hf, n + 1, hn => by
    simp only [m83_quirref_NatR, m83_quirref_NatB, enc]
    by_cases h : x < 128
    · rw [if_pos (by omega), if_pos h, wrapU8_nat _ (by omega), bytesOf_one]
    · rw [if_neg (by omega), if_neg h]
      simp only [m83_quirref_Nat_K1]
      rw [show (128 : Int) = ((128 : Nat) : Int) by rfl, modW_nat _ _ (by decide), bind1_some, divW_u64 _ _ (by decide) h64, bind1_some]
      match f, hx, hf, hn with
      | 0, hx, _, _ => simp at hx; omega
      | f + 1, hx, hf, hn =>
        rw [natLoop f (x / 128) (by rw [Nat.pow_succ] at hx; omega) (by omega) (by omega) n (by omega), bind1_some]
        have e : IntKind.wrap .u8 (IntKind.wrap .u64 (((x % 128 : Nat) : Int) + ((128 : Nat) : Int))) = ((x % 128 + 128 : Nat) : Int) := by rw [wrapU64, wrapU8]; omega
        have hlen := enc_len (f + 1) (x / 128)
        rw [e, bytesOf_one, catS_ok (by simp; omega), bind1_some]
        rfl
theorem refNat (x : Nat) (h : x < 18446744073709551616) : m83_quirref_Nat (x : Int) = some (enc 10 x) := natLoop 9 x (by simp; omega) h (by omega) big (by rw [big_eq]; omega)
theorem putInt (k : Int) (h0 : -9223372036854775808 ≤ k) (h1 : k ≤ 9223372036854775807) : ∃ l, m78_code_PutInt k = some l ∧ m79_quirref_Int k = some l ∧ l.length ≤ 10 := by
  simp only [m78_code_PutInt, m79_quirref_Int]
  by_cases hk : k < 0
  · obtain ⟨j, hj⟩ := Int.eq_ofNat_of_zero_le (show 0 ≤ -(k + 1) by omega)
    have hj' : j < 9223372036854775808 := by omega
    have e1 : IntKind.wrap .u64 k = ((18446744073709551615 - j : Nat) : Int) := by rw [wrapU64]; omega
    have e2 : shlW .u64 ((18446744073709551615 - j : Nat) : Int) 1 = some ((18446744073709551614 - 2 * j : Nat) : Int) := by
      unfold shlW
      rw [if_pos (by simp [IntKind.bits]), wrapU64]
      congr 1
      simp
      omega
    rw [e1, e2, bind1_some, if_pos hk, if_pos hk, comW_u64 _ (by omega), i64_ok (by omega) (by omega), bind1_some, putNat _ (by omega), bind1_some]
    have e3 : IntKind.wrap .u64 ((IntKind.wrap .u64 ((IntKind.wrap .u64 (IntKind.wrap .i64 (-(k + 1)))) * 2)) + 1) = ((18446744073709551615 - (18446744073709551614 - 2 * j) : Nat) : Int) := by
      rw [wrapI64 (by omega) (by omega), wrapU64, wrapU64, wrapU64]; omega
    rw [e3, refNat _ (by omega), bind1_some]
    exact ⟨_, rfl, rfl, enc_len _ _⟩
  · obtain ⟨j, rfl⟩ := Int.eq_ofNat_of_zero_le (show 0 ≤ k by omega)
    have e1 : IntKind.wrap .u64 ((j : Nat) : Int) = ((j : Nat) : Int) := by rw [wrapU64]; omega
    rw [e1, show (1 : Int) = ((1 : Nat) : Int) by rfl, shlW_u64 _ _ (by decide) (by omega), bind1_some, if_neg hk, if_neg hk, putNat _ (by omega), bind1_some]
    have e3 : IntKind.wrap .u64 (((j : Nat) : Int) * 2) = ((j * 2 ^ 1 : Nat) : Int) := by rw [wrapU64]; omega
    rw [e3, refNat _ (by omega), bind1_some]
    exact ⟨_, rfl, rfl, enc_len _ _⟩

/-- The bytes of an integer, once for both. -/
def pI (k : Int) : List UInt8 := (m78_code_PutInt k).getD []
def I64 (k : Int) : Prop := -9223372036854775808 ≤ k ∧ k ≤ 9223372036854775807
theorem pI_prog {k : Int} (h : I64 k) : m78_code_PutInt k = some (pI k) := by
  obtain ⟨l, h1, _, _⟩ := putInt k h.1 h.2
  unfold pI; rw [h1]; rfl
theorem pI_ref {k : Int} (h : I64 k) : m79_quirref_Int k = some (pI k) := by
  obtain ⟨l, h1, h2, _⟩ := putInt k h.1 h.2
  unfold pI; rw [h1, h2]; rfl
theorem pI_len {k : Int} (h : I64 k) : (pI k).length ≤ 10 := by
  obtain ⟨l, h1, _, h3⟩ := putInt k h.1 h.2
  unfold pI; rw [h1]; exact h3
/-- What GetInt finds, once for both. -/
structure GI (s : List UInt8) (a k e : Int) : Prop where
  p : m50_code_GetInt s = some (a, k, e)
  r : m56_quirref_GetInt s = some (a, k, e)
  a64 : I64 a
  k0 : 0 ≤ k
  k1 : k ≤ s.length
theorem gI (s : List UInt8) (hl : s.length ≤ 9223372036854775807) : ∃ a k e, GI s a k e := by
  obtain ⟨a, k, e, h1, h2, h3, h4, h5, h6⟩ := getInt s hl
  exact ⟨a, k, e, h1, h2, ⟨h3, h4⟩, h5, h6⟩
/-- The bytes of a text with its length before it. -/
def pT (s : List UInt8) : List UInt8 := enc 10 s.length ++ s
theorem pT_prog {s : List UInt8} (h : s.length ≤ 4096) : m61_code_PutText s = some (pT s, 0) := by
  have hw : IntKind.wrap .u64 (s.length : Int) = (s.length : Int) := by rw [wrapU64]; omega
  have hlen := enc_len 10 s.length
  simp only [m61_code_PutText]
  rw [if_neg (by omega), hw, putNat _ (by omega), bind1_some, catS_ok (by omega), bind1_some]; rfl
theorem pT_ref {s : List UInt8} (h : s.length ≤ 4096) : m65_quirref_Text s = some (pT s) := by
  have hw : IntKind.wrap .u64 (s.length : Int) = (s.length : Int) := by rw [wrapU64]; omega
  have hlen := enc_len 10 s.length
  simp only [m65_quirref_Text]
  rw [hw, refNat _ (by omega), bind1_some, catS_ok (by omega), bind1_some]; rfl
theorem pT_len (s : List UInt8) : (pT s).length ≤ s.length + 10 := by
  have hlen := enc_len 10 s.length
  unfold pT
  rw [List.length_append]; omega
end Go.Proofs.YtinchlfaepjfiaaDoor
