/-
  WalPlays: the disks, side by side.
  Conditions: none.
-/
import Derived.Test.YtinchlfaepjfiaaDoorWlB
namespace Go.Proofs.YtinchlfaepjfiaaDoor
open Go.S
set_option linter.unusedVariables false
set_option linter.unusedSimpArgs false
abbrev SS := List (List UInt8)
theorem repeatL_zero : ∀ k, Lib.repeatL [(0 : UInt8)] k = List.replicate k 0
  | 0 => rfl
  | k + 1 => by simp [Lib.repeatL, repeatL_zero k, List.replicate_succ]
theorem rep_ok (k : Nat) (h : k ≤ 64) : xRepeat [0] (k : Int) = some (List.replicate k 0) := by
  unfold xRepeat
  rw [if_pos ⟨by omega, by omega, by simp; omega⟩, Int.toNat_natCast, repeatL_zero]
theorem blank_ok (k : Nat) (h : k ≤ 64) : m23_quirref_blank (k : Int) = some (List.replicate k 0) := by rw [m23_quirref_blank, rep_ok k h, bind1_some]
theorem clone_ok (l : SS) (h : l.length ≤ 256) : m40_slices_Clone_string l = some l := by
  rw [m40_slices_Clone_string, app_ok (by simp; omega), bind1_some]; rfl
theorem cpy_all {l s : SS} (h : l.length = s.length) : cpy l s = s := by
  unfold cpy
  rw [Nat.min_eq_left (by omega), List.take_length, List.drop_eq_nil_of_le (by omega), List.append_nil]
def pad (s : List UInt8) : List UInt8 := s ++ List.replicate (64 - s.length) 0
theorem pad_len {s : List UInt8} (h : s.length ≤ 64) : (pad s).length = 64 := by
  unfold pad; rw [List.length_append, List.length_replicate]; omega
theorem pad_pad {s : List UInt8} (h : s.length ≤ 64) : pad (pad s) = pad s := by
  have := pad_len h
  unfold pad at *
  rw [this]; simp
def LA (L : List Twrite) : List Int := L.map (·.at_)
def LX (L : List Twrite) : SS := L.map (·.text_)
/-- What is known of a disk. -/
structure Dk (N : Nat) (S T : SS) (L : List Twrite) (l : Int) (q : Nat) : Prop where
  s : S.length = N
  t : T.length = N
  n : N ≤ 256
  s64 : ∀ x ∈ S, x.length = 64
  t64 : ∀ x ∈ T, x.length = 64
  late : ∀ w ∈ L, 0 ≤ w.at_ ∧ w.at_ < N ∧ w.text_.length = 64
  l0 : -1 ≤ l
  l1 : l ≤ 9223372036854775807
  ll : L.length ≤ q
theorem Dk.more {N : Nat} {S T : SS} {L : List Twrite} {l : Int} {q q' : Nat} (h : Dk N S T L l q) (hq : L.length ≤ q') : Dk N S T L l q' := ⟨h.s, h.t, h.n, h.s64, h.t64, h.late, h.l0, h.l1, hq⟩
section
variable {N : Nat} {S T : SS} {L : List Twrite} {l : Int} {q : Nat}
theorem upd_at {S : SS} {a : Int} {x : List UInt8} (h0 : 0 ≤ a) (h1 : a < S.length) : upd S a x = some (S.set a.toNat x) := if_pos ⟨h0, h1⟩
theorem idx_at {S : SS} {a : Int} (h0 : 0 ≤ a) (h1 : a < S.length) : ∃ x, idx S a = some x := by
  obtain ⟨i, rfl⟩ := Int.eq_ofNat_of_zero_le h0
  exact ⟨_, idx_ok (by omega)⟩
theorem LA_snoc (L : List Twrite) (w : Twrite) : LA (L ++ [w]) = LA L ++ [w.at_] := by simp [LA]
theorem LX_snoc (L : List Twrite) (w : Twrite) : LX (L ++ [w]) = LX L ++ [w.text_] := by simp [LX]
theorem mem_set {P : List UInt8 → Prop} {T : SS} {i : Nat} {x : List UInt8} (hT : ∀ y ∈ T, P y) (hx : P x) : ∀ y ∈ T.set i x, P y := fun y hy => by
  rcases List.mem_or_eq_of_mem_set hy with h | rfl
  · exact hT y h
  · exact hx
theorem write_eq (h : Dk N S T L l q) (hq : q < 2600000000000) (a : Int) {s s' : List UInt8} (hs : s' = s ∨ (s.length ≤ 64 ∧ s' = pad s)) :
    ∃ T' L' l' e, m33_sect_Disk_Write S T L l a s = some (T', L', l', e) ∧ m36_quirref_Disk_Write T S (LA L) (LX L) l a s' = some (T', LA L', LX L', l', e) ∧ Dk N S T' L' l' (q + 1) ∧ (e ≠ 0 → T' = T ∧ L' = L ∧ l' = l) ∧ (e = 0 → L'.length = L.length + 1) := by
  have hl := h.ll
  have hm := h.more (q' := q + 1) (by omega)
  have h64 : (64 : Int) < s.length ↔ (64 : Int) < s'.length := by
    rcases hs with rfl | ⟨h1, rfl⟩
    · rfl
    · rw [pad_len h1]; omega
  have hp : s.length ≤ 64 → pad s' = pad s := fun h1 => by
    rcases hs with rfl | ⟨_, rfl⟩
    · rfl
    · exact pad_pad h1
  simp only [m33_sect_Disk_Write, m36_quirref_Disk_Write, h.s, h.t]
  by_cases c1 : a < 0
  · rw [if_pos c1, if_pos c1]; exact ⟨_, _, _, _, rfl, rfl, hm, fun _ => ⟨rfl, rfl, rfl⟩, fun e => by cases e⟩
  rw [if_neg c1, if_neg c1]
  by_cases c2 : (N : Int) ≤ a
  · rw [if_pos c2, if_pos c2]; exact ⟨_, _, _, _, rfl, rfl, hm, fun _ => ⟨rfl, rfl, rfl⟩, fun e => by cases e⟩
  rw [if_neg c2, if_neg c2]
  simp only [m33_sect_Disk_Write_K1, m36_quirref_Disk_Write_K1]
  by_cases c3 : (64 : Int) < s.length
  · rw [if_pos c3, if_pos (h64.1 c3)]; exact ⟨_, _, _, _, rfl, rfl, hm, fun _ => ⟨rfl, rfl, rfl⟩, fun e => by cases e⟩
  have c3' : ¬ (64 : Int) < s'.length := fun c => c3 (h64.2 c)
  rw [if_neg c3, if_neg c3']
  simp only [m33_sect_Disk_Write_K2, m36_quirref_Disk_Write_K2]
  by_cases c4 : l = 0
  · rw [if_pos c4, if_pos c4, m33_sect_Disk_Write_K4, if_pos (by decide)]; exact ⟨_, _, _, _, rfl, rfl, hm, fun _ => ⟨rfl, rfl, rfl⟩, fun e => by cases e⟩
  rw [if_neg c4, if_neg c4]
  have hl0 := h.l0
  have hl1 := h.l1
  obtain ⟨i, rfl⟩ := Int.eq_ofNat_of_zero_le (show 0 ≤ a by omega)
  have hi : i < T.length := by rw [h.t]; omega
  have hpl := pad_len (s := s) (by omega)
  have fin : ∀ z : Int, max (l - 1) (min l (-1)) = z → m33_sect_Disk_Write_K4 T L s (i : Int) 0 z = some (T.set i (pad s), L ++ [⟨(i : Int), pad s⟩], z, 0) ∧ m36_quirref_Disk_Write_K3 l s' T (i : Int) (LA L) (LX L) = some (T.set i (pad s), LA (L ++ [⟨(i : Int), pad s⟩]), LX (L ++ [⟨(i : Int), pad s⟩]), z, 0) ∧ Dk N S (T.set i (pad s)) (L ++ [⟨(i : Int), pad s⟩]) z (q + 1) := by
    rintro z rfl
    refine ⟨?_, ?_, ?_⟩
    · rw [m33_sect_Disk_Write_K4, if_neg (by decide), m33_sect_Disk_Write_K3, i64_ok (by omega) (by omega), bind1_some, show (64 : Int) - s.length = ((64 - s.length : Nat) : Int) by omega, rep_ok _ (by omega), bind1_some, catS_ok (by simp; omega), bind1_some, idx_ok hi, bind1_some,
        upd_at (by omega) (by omega), bind1_some, app_ok (by simp; omega), bind1_some]
      rfl
    · rw [m36_quirref_Disk_Write_K3, i64_ok (by omega) (by omega), bind1_some, i64_ok (by omega) (by omega), bind1_some, show (64 : Int) - s'.length = ((64 - s'.length : Nat) : Int) by omega, blank_ok _ (by omega), bind1_some, catS_ok (by simp; omega), bind1_some, idx_ok hi, bind1_some,
        upd_at (by omega) (by omega), bind1_some, show s' ++ List.replicate (64 - s'.length) 0 = pad s from hp (by omega), Int.toNat_natCast, idx_ok (by rw [List.length_set]; exact hi), bind1_some, app_ok (by simp [LA]; omega), bind1_some, app_ok (by simp [LX]; omega), bind1_some, m36_quirref_Disk_Write_K4, LA_snoc, LX_snoc]
      simp
    · refine ⟨h.s, by rw [List.length_set]; exact h.t, h.n, h.s64, mem_set h.t64 hpl, fun w hw => ?_, by omega, by omega, by simp; omega⟩
      rcases List.mem_append.1 hw with hw | hw
      · exact h.late w hw
      · rw [List.mem_singleton] at hw; subst hw
        exact ⟨by simp, by simp; rw [h.t] at hi; omega, hpl⟩
  simp only [m33_sect_Disk_Write_K5]
  by_cases c5 : 0 < l
  · obtain ⟨f1, f2, f3⟩ := fin (l - 1) (by omega)
    rw [if_pos c5, i64_ok (by omega) (by omega), bind1_some]
    exact ⟨_, _, _, _, f1, f2, f3, fun e => absurd rfl e, fun _ => by simp⟩
  · obtain ⟨f1, f2, f3⟩ := fin l (by omega)
    rw [if_neg c5]
    exact ⟨_, _, _, _, f1, f2, f3, fun e => absurd rfl e, fun _ => by simp⟩
theorem flush_eq (h : Dk N S T L l q) : ∃ S' L' l' e, m38_sect_Disk_Flush S T L l = some (S', T, L', l', e) ∧ m39_quirref_Disk_Flush T S (LA L) (LX L) l = some (T, S', LA L', LX L', l', e) ∧ Dk N S' T L' l' q ∧ (e ≠ 0 → S' = S ∧ L' = L ∧ l' = l) ∧ (e = 0 → L' = []) := by
  simp only [m38_sect_Disk_Flush, m39_quirref_Disk_Flush]
  by_cases c4 : l = 0
  · rw [if_pos c4, if_pos c4, m38_sect_Disk_Flush_K2, if_pos (by decide)]; exact ⟨_, _, _, _, rfl, rfl, h, fun _ => ⟨rfl, rfl, rfl⟩, fun e => by cases e⟩
  rw [if_neg c4, if_neg c4]
  have hl0 := h.l0
  have hl1 := h.l1
  have fin : ∀ z : Int, max (l - 1) (min l (-1)) = z → m38_sect_Disk_Flush_K2 S T L 0 z = some (T, T, [], z, 0) ∧ m39_quirref_Disk_Flush_K1 l T = some (T, T, LA [], LX [], z, 0) ∧ Dk N T T [] z q := by
    rintro z rfl
    refine ⟨?_, ?_, ⟨h.t, h.t, h.n, h.t64, h.t64, by simp, by omega, by omega, by simp⟩⟩
    · rw [m38_sect_Disk_Flush_K2, if_neg (by decide), m38_sect_Disk_Flush_K1, cpy_all (by rw [h.s, h.t])]
    · rw [m39_quirref_Disk_Flush_K1, i64_ok (by omega) (by omega), bind1_some, clone_ok _ (by rw [h.t]; exact h.n), bind1_some]; rfl
  simp only [m38_sect_Disk_Flush_K3]
  by_cases c5 : 0 < l
  · obtain ⟨f1, f2, f3⟩ := fin (l - 1) (by omega)
    rw [if_pos c5, i64_ok (by omega) (by omega), bind1_some]
    exact ⟨_, _, _, _, f1, f2, f3, fun e => absurd rfl e, fun _ => rfl⟩
  · obtain ⟨f1, f2, f3⟩ := fin l (by omega)
    rw [if_neg c5]
    exact ⟨_, _, _, _, f1, f2, f3, fun e => absurd rfl e, fun _ => rfl⟩
theorem read_eq (h : Dk N S T L l q) (a : Int) : ∃ s e, m21_sect_Disk_Read S T L l a = some (s, e) ∧ m41_quirref_Disk_Read T S (LA L) (LX L) l a = some (s, e) := by
  simp only [m21_sect_Disk_Read, m41_quirref_Disk_Read, h.s, h.t]
  by_cases c1 : a < 0
  · rw [if_pos c1, if_pos c1]; exact ⟨_, _, rfl, rfl⟩
  rw [if_neg c1, if_neg c1]
  by_cases c2 : (N : Int) ≤ a
  · rw [if_pos c2, if_pos c2]; exact ⟨_, _, rfl, rfl⟩
  rw [if_neg c2, if_neg c2]
  simp only [m21_sect_Disk_Read_K1, m41_quirref_Disk_Read_K1]
  by_cases c3 : l = 0
  · rw [if_pos c3]; exact ⟨_, _, rfl, rfl⟩
  rw [if_neg c3]
  obtain ⟨x, hx⟩ := idx_at (S := T) (a := a) (by omega) (by rw [h.t]; omega)
  rw [hx, bind1_some]; exact ⟨_, _, rfl, rfl⟩
theorem read_at (h : Dk N S T L l q) (hl : l ≠ 0) (i : Nat) (hi : i < T.length) : m21_sect_Disk_Read S T L l (i : Int) = some (T[i], 0) := by
  have ht := h.t
  have hs := h.s
  rw [m21_sect_Disk_Read, if_neg (by omega), if_neg (by omega), m21_sect_Disk_Read_K1, if_neg hl, idx_ok hi, bind1_some]
/-! ### Crash -/
def crash (keep : List Bool) : Nat → List Twrite → SS → SS
  | _, [], S => S
  | i, w :: L, S => crash keep (i + 1) L (if keep[i]? = some true then S.set w.at_.toNat w.text_ else S)
theorem crash_len (keep : List Bool) : ∀ (L : List Twrite) (i : Nat) (S : SS), (crash keep i L S).length = S.length
  | [], _, _ => rfl
  | w :: L, i, S => by rw [crash, crash_len keep L]; split <;> simp
theorem crash_64 (keep : List Bool) : ∀ (L : List Twrite) (i : Nat) (S : SS), (∀ w ∈ L, w.text_.length = 64) → (∀ x ∈ S, x.length = 64) → ∀ x ∈ crash keep i L S, x.length = 64
  | [], _, _, _, h => h
  | w :: L, i, S, hw, h => by
    rw [crash]
    refine crash_64 keep L (i + 1) _ (fun v hv => hw v (List.mem_cons_of_mem _ hv)) ?_
    split
    · exact mem_set (P := fun x => x.length = 64) h (hw w (List.mem_cons_self))
    · exact h
theorem crash15 (L : List Twrite) (keep : List Bool) (T : SS) (N : Nat) (hl : L.length < 9223372036854775807) (hL : ∀ w ∈ L, 0 ≤ w.at_ ∧ w.at_ < N) : ∀ (r i : Nat), i + r = L.length → ∀ n, r < n → ∀ S : SS, S.length = N →
    m15_sect_Disk_Crash_L1 L keep T n (i : Int) S = m15_sect_Disk_Crash_K1 T (crash keep i (L.drop i) S) := by
  intro r
  induction r with
  | zero =>
    intro i hi n hn S hS
    obtain ⟨n, rfl⟩ := dec n hn
    rw [m15_sect_Disk_Crash_L1, m15_sect_Disk_Crash_L1B, if_neg (by omega), List.drop_eq_nil_of_le (by omega)]
    rfl
  | succ r ih =>
    intro i hi n hn S hS
    obtain ⟨n, rfl⟩ := dec n (by omega)
    have h1 : i < L.length := by omega
    have hw := hL L[i] (List.getElem_mem h1)
    rw [m15_sect_Disk_Crash_L1, m15_sect_Disk_Crash_L1B, if_pos (by omega), idx_ok h1, bind1_some, isucc i (by omega), drop_cons h1, crash]
    by_cases c1 : i < keep.length
    · rw [if_pos (by omega), idx_ok c1, bind1_some, List.getElem?_eq_getElem c1]
      obtain ⟨y, hy⟩ := idx_at (S := S) hw.1 (by rw [hS]; exact hw.2)
      by_cases c2 : keep[i] = true
      · rw [if_pos c2, hy, bind1_some, upd_at hw.1 (by rw [hS]; exact hw.2), bind1_some, bind1_some, ih (i + 1) (by omega) n (by omega) _ (by simp [hS])]
        simp [c2]
      · rw [if_neg c2, bind1_some, ih (i + 1) (by omega) n (by omega) _ hS]
        simp [c2]
    · rw [if_neg (by omega), bind1_some, ih (i + 1) (by omega) n (by omega) _ hS]
      have : keep[i]? = none := List.getElem?_eq_none (by omega)
      simp [this]
theorem crash16 (L : List Twrite) (keep : List Bool) (N : Nat) (hl : L.length < 9223372036854775807) (hL : ∀ w ∈ L, 0 ≤ w.at_ ∧ w.at_ < N) : ∀ (r i : Nat), i + r = L.length → ∀ n, r < n → ∀ S : SS, S.length = N →
    m16_quirref_Disk_Crash_L1 (LA L) keep (LX L) n (i : Int) S = m16_quirref_Disk_Crash_K1 (crash keep i (L.drop i) S) := by
  intro r
  induction r with
  | zero =>
    intro i hi n hn S hS
    obtain ⟨n, rfl⟩ := dec n hn
    rw [m16_quirref_Disk_Crash_L1, m16_quirref_Disk_Crash_L1B, if_neg (by rw [LA, List.length_map]; omega), List.drop_eq_nil_of_le (by omega)]
    rfl
  | succ r ih =>
    intro i hi n hn S hS
    obtain ⟨n, rfl⟩ := dec n (by omega)
    have h1 : i < L.length := by omega
    have hw := hL L[i] (List.getElem_mem h1)
    have e1 : idx (LA L) (i : Int) = some L[i].at_ := by rw [LA, idx_nat]; simp [h1]
    have e2 : idx (LX L) (i : Int) = some L[i].text_ := by rw [LX, idx_nat]; simp [h1]
    rw [m16_quirref_Disk_Crash_L1, m16_quirref_Disk_Crash_L1B, if_pos (by rw [LA, List.length_map]; omega), e1, bind1_some, isucc i (by omega), drop_cons h1, crash]
    by_cases c1 : i < keep.length
    · rw [if_pos (by omega), idx_ok c1, bind1_some, List.getElem?_eq_getElem c1]
      obtain ⟨y, hy⟩ := idx_at (S := S) hw.1 (by rw [hS]; exact hw.2)
      by_cases c2 : keep[i] = true
      · rw [if_pos c2, e2, bind1_some, hy, bind1_some, upd_at hw.1 (by rw [hS]; exact hw.2), bind1_some, bind1_some, ih (i + 1) (by omega) n (by omega) _ (by simp [hS])]
        simp [c2]
      · rw [if_neg c2, bind1_some, ih (i + 1) (by omega) n (by omega) _ hS]
        simp [c2]
    · rw [if_neg (by omega), bind1_some, ih (i + 1) (by omega) n (by omega) _ hS]
      have : keep[i]? = none := List.getElem?_eq_none (by omega)
      simp [this]
theorem crash_eq (h : Dk N S T L l q) (hq : q < 2600000000000) (keep : List Bool) : ∃ S', m15_sect_Disk_Crash S T L l keep = some (S', S', [], -1) ∧ m16_quirref_Disk_Crash T S (LA L) (LX L) l keep = some (S', S', LA [], LX [], -1) ∧ Dk N S' S' [] (-1) 0 := by
  have hll : L.length < 2600000000000 := Nat.lt_of_le_of_lt h.ll hq
  have hL : ∀ w ∈ L, 0 ≤ w.at_ ∧ w.at_ < N := fun w hw => ⟨(h.late w hw).1, (h.late w hw).2.1⟩
  have h1 := crash15 L keep T N (by omega) hL L.length 0 (by omega) big (lt_big (by omega)) S h.s
  have h2 := crash16 L keep N (by omega) hL L.length 0 (by omega) big (lt_big (by omega)) S h.s
  rw [show ((0 : Nat) : Int) = 0 from rfl, List.drop_zero] at h1 h2
  have hc : (crash keep 0 L S).length = N := by rw [crash_len, h.s]
  have h64 := crash_64 keep L 0 S (fun w hw => (h.late w hw).2.2) h.s64
  refine ⟨crash keep 0 L S, ?_, ?_, ⟨hc, hc, h.n, h64, h64, by simp, by omega, by omega, by simp⟩⟩
  · rw [m15_sect_Disk_Crash, h1, m15_sect_Disk_Crash_K1, cpy_all (by rw [h.t, hc])]
  · rw [m16_quirref_Disk_Crash, h2, m16_quirref_Disk_Crash_K1, clone_ok _ (by rw [hc]; exact h.n), bind1_some]; rfl
end
end Go.Proofs.YtinchlfaepjfiaaDoor
