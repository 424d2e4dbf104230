/-
  Plain facts about the models' words: wraps, bits, bytes.
  Conditions: none.
-/
import Derived.Test.YtjdbjcmmdnpeaaaI
namespace Go.S
theorem wrapU8 (x : Int) : IntKind.wrap .u8 x = x % 256 := by simp [IntKind.wrap, IntKind.signed, IntKind.bits]
theorem wrapU16 (x : Int) : IntKind.wrap .u16 x = x % 65536 := by simp [IntKind.wrap, IntKind.signed, IntKind.bits]
theorem wrapU32 (x : Int) : IntKind.wrap .u32 x = x % 4294967296 := by simp [IntKind.wrap, IntKind.signed, IntKind.bits]
theorem wrapU64 (x : Int) : IntKind.wrap .u64 x = x % 18446744073709551616 := by simp [IntKind.wrap, IntKind.signed, IntKind.bits]
theorem wrapI64 {x : Int} (h0 : -9223372036854775808 ≤ x) (h1 : x ≤ 9223372036854775807) : IntKind.wrap .i64 x = x := i64_in h0 h1
theorem wrapI64_hi {x : Int} (h0 : 9223372036854775808 ≤ x) (h1 : x < 18446744073709551616) : IntKind.wrap .i64 x = x - 18446744073709551616 := by
  have h : IntKind.wrap .i64 x = if x % 18446744073709551616 ≥ 9223372036854775808 then x % 18446744073709551616 - 18446744073709551616 else x % 18446744073709551616 := by simp [IntKind.wrap, IntKind.signed, IntKind.bits]
  rw [h, if_pos (by omega)]; omega
theorem wrapU_nat (k : IntKind) (hs : k.signed = false) (a : Nat) (h : a < 2 ^ k.bits) : k.wrap (a : Int) = (a : Int) := by
  have h2 : ((a : Int)) % (2 ^ k.bits : Int) = (a : Int) := by
    rw [show (2 ^ k.bits : Int) = ((2 ^ k.bits : Nat) : Int) by push_cast; rfl, ← Int.natCast_emod, Nat.mod_eq_of_lt h]
  simp only [IntKind.wrap, hs, Bool.false_and, Bool.false_eq_true, if_false, h2]
theorem p64 : 2 ^ IntKind.u64.bits = 18446744073709551616 := by decide
theorem p32 : 2 ^ IntKind.u32.bits = 4294967296 := by decide
theorem ofInt_nat (n a : Nat) : BitVec.ofInt n (a : Int) = BitVec.ofNat n a := by simp
theorem bits_and_nat (k : IntKind) (hs : k.signed = false) (a b : Nat) (ha : a < 2 ^ k.bits) (hb : b < 2 ^ k.bits) : Go.bits .and k (a : Int) (b : Int) = ((a &&& b : Nat) : Int) := by
  simp only [Go.bits, ofInt_nat, BitVec.toNat_and, BitVec.toNat_ofNat, Nat.mod_eq_of_lt ha, Nat.mod_eq_of_lt hb]
  exact wrapU_nat k hs _ (Nat.lt_of_le_of_lt Nat.and_le_left ha)
theorem bits_or_nat (k : IntKind) (hs : k.signed = false) (a b : Nat) (ha : a < 2 ^ k.bits) (hb : b < 2 ^ k.bits) : Go.bits .or k (a : Int) (b : Int) = ((a ||| b : Nat) : Int) := by
  simp only [Go.bits, ofInt_nat, BitVec.toNat_or, BitVec.toNat_ofNat, Nat.mod_eq_of_lt ha, Nat.mod_eq_of_lt hb]
  exact wrapU_nat k hs _ (Nat.or_lt_two_pow ha hb)
theorem bits_xor_nat (k : IntKind) (hs : k.signed = false) (a b : Nat) (ha : a < 2 ^ k.bits) (hb : b < 2 ^ k.bits) : Go.bits .xor k (a : Int) (b : Int) = ((a ^^^ b : Nat) : Int) := by
  simp only [Go.bits, ofInt_nat, BitVec.toNat_xor, BitVec.toNat_ofNat, Nat.mod_eq_of_lt ha, Nat.mod_eq_of_lt hb]
  exact wrapU_nat k hs _ (Nat.xor_lt_two_pow ha hb)
theorem comW_u64 (a : Nat) (ha : a < 18446744073709551616) : comW .u64 (a : Int) = ((18446744073709551615 - a : Nat) : Int) := by
  have h1 : (if IntKind.u64.signed = true then -1 else IntKind.u64.max) = ((18446744073709551615 : Nat) : Int) := by decide
  unfold comW
  rw [h1, bits_xor_nat .u64 rfl _ _ (by decide) (by rw [p64]; exact ha)]
  congr 1
  have h2 := BitVec.toNat_not (x := BitVec.ofNat 64 a)
  rw [← BitVec.allOnes_xor, BitVec.toNat_xor, BitVec.toNat_ofNat, Nat.mod_eq_of_lt (show a < 2 ^ 64 by simpa using ha)] at h2
  simpa using h2
theorem and127 (a : Nat) : a &&& 127 = a % 128 := Nat.and_two_pow_sub_one_eq_mod a 7
theorem and65535 (a : Nat) : a &&& 65535 = a % 65536 := Nat.and_two_pow_sub_one_eq_mod a 16
theorem and1 (a : Nat) : a &&& 1 = a % 2 := Nat.and_two_pow_sub_one_eq_mod a 1
theorem or128 : ∀ a, a < 256 → a ||| 128 = a % 128 + 128 := by decide +kernel
theorem or_high (a b i : Nat) (h : b < 2 ^ i) : b ||| a * 2 ^ i = b + a * 2 ^ i := by
  have := Nat.shiftLeft_add_eq_or_of_lt h a
  rw [Nat.shiftLeft_eq] at this
  rw [Nat.or_comm, ← this, Nat.add_comm]
theorem shlW_u64 (a i : Nat) (hi : i ≤ 64) (h : a * 2 ^ i < 18446744073709551616) : shlW .u64 (a : Int) (i : Int) = some ((a * 2 ^ i : Nat) : Int) := by
  have hb : (0 : Int) ≤ (i : Int) ∧ (i : Int) ≤ (IntKind.bits .u64 : Int) := ⟨by omega, by simp [IntKind.bits]; omega⟩
  unfold shlW
  rw [if_pos hb, Int.toNat_natCast, show ((a : Int) * 2 ^ i) = ((a * 2 ^ i : Nat) : Int) by push_cast; rfl, wrapU_nat .u64 rfl _ (by rw [p64]; exact h)]
theorem shrW_u64 (a i : Nat) (hi : i ≤ 64) : shrW .u64 (a : Int) (i : Int) = some ((a / 2 ^ i : Nat) : Int) := by
  have hb : (0 : Int) ≤ (i : Int) ∧ (i : Int) ≤ (IntKind.bits .u64 : Int) := ⟨by omega, by simp [IntKind.bits]; omega⟩
  unfold shrW
  rw [if_pos hb, Int.toNat_natCast]; push_cast; rfl
theorem shlW_u32 (a i : Nat) (hi : i ≤ 32) (h : a * 2 ^ i < 4294967296) : shlW .u32 (a : Int) (i : Int) = some ((a * 2 ^ i : Nat) : Int) := by
  have hb : (0 : Int) ≤ (i : Int) ∧ (i : Int) ≤ (IntKind.bits .u32 : Int) := ⟨by omega, by simp [IntKind.bits]; omega⟩
  unfold shlW
  rw [if_pos hb, Int.toNat_natCast, show ((a : Int) * 2 ^ i) = ((a * 2 ^ i : Nat) : Int) by push_cast; rfl, wrapU_nat .u32 rfl _ (by rw [p32]; exact h)]
theorem shrW_u32 (a i : Nat) (hi : i ≤ 32) : shrW .u32 (a : Int) (i : Int) = some ((a / 2 ^ i : Nat) : Int) := by
  have hb : (0 : Int) ≤ (i : Int) ∧ (i : Int) ≤ (IntKind.bits .u32 : Int) := ⟨by omega, by simp [IntKind.bits]; omega⟩
  unfold shrW
  rw [if_pos hb, Int.toNat_natCast]; push_cast; rfl
theorem modW_nat (a b : Nat) (hb : b ≠ 0) : modW (a : Int) (b : Int) = some ((a % b : Nat) : Int) := by
  unfold modW
  rw [if_pos (by omega), Int.tmod_eq_emod_of_nonneg (by omega)]; rfl
theorem divW_u64 (a b : Nat) (hb : b ≠ 0) (h : a < 18446744073709551616) : divW .u64 (a : Int) (b : Int) = some ((a / b : Nat) : Int) := by
  unfold divW
  rw [if_pos (by omega), Int.tdiv_eq_ediv_of_nonneg (by omega), ← Int.natCast_ediv, wrapU_nat .u64 rfl _ (Nat.lt_of_le_of_lt (Nat.div_le_self a b) (by rw [p64]; exact h))]
theorem divW_u32 (a b : Nat) (hb : b ≠ 0) (h : a < 4294967296) : divW .u32 (a : Int) (b : Int) = some ((a / b : Nat) : Int) := by
  unfold divW
  rw [if_pos (by omega), Int.tdiv_eq_ediv_of_nonneg (by omega), ← Int.natCast_ediv, wrapU_nat .u32 rfl _ (Nat.lt_of_le_of_lt (Nat.div_le_self a b) (by rw [p32]; exact h))]
theorem idxS_nat {s : List UInt8} {i : Nat} {b : UInt8} (h : s[i]? = some b) : idxS s (i : Int) = some ((b.toNat : Nat) : Int) := by
  simp [idxS, h]
theorem catS_ok {a b : List UInt8} (h : a.length + b.length ≤ 9223372036854775807) : catS a b = some (a ++ b) := if_pos h
theorem app_ok {α : Type} {a b : List α} (h : a.length + b.length ≤ 2513169434916) : app a b = some (a ++ b) := if_pos h
theorem cut_ok {α : Type} {l : List α} {a b : Int} (h0 : 0 ≤ a) (h1 : a ≤ b) (h2 : b ≤ l.length) : cut l a b = some ((l.take b.toNat).drop a.toNat) := if_pos ⟨h0, h1, h2⟩
theorem idx_ok {α : Type} {l : List α} {i : Nat} (h : i < l.length) : idx l (i : Int) = some l[i] := by rw [idx_nat, List.getElem?_eq_getElem h]
theorem big_succ : big = 1180591620717411303423 + 1 := rfl
end Go.S
