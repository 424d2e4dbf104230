/-
  Package sect: what the models say.
  Conditions: none.
-/
import Derived.Test.YtjbajaofdgalfaaScM
namespace Go.Proofs.Ytjbajaofdgalfaa
open Go.S
set_option linter.unusedVariables false
set_option linter.unusedSimpArgs false
abbrev SS := List (List UInt8)
theorem rep_ok (k : Nat) (h : k ≤ 64) : xRepeat [0] (k : Int) = some (Lib.repeatL [0] k) := by
  unfold xRepeat
  rw [if_pos ⟨by omega, by omega, by simp; omega⟩]
  rfl
theorem rep_len (k : Nat) : (Lib.repeatL [0] k).length = k := by
  induction k with
  | zero => rfl
  | succ k ih => simp [Lib.repeatL, ih]
theorem blank_ok (k : Nat) (h : k ≤ 64) : m98_quirref_blank (k : Int) = some (Lib.repeatL [0] k) := by rw [m98_quirref_blank, rep_ok k h, bind1_some]
theorem clone_ok (l : SS) (h : l.length ≤ 256) : m231_slices_Clone_string l = some l := by
  rw [m231_slices_Clone_string, app_ok (by simp; omega), bind1_some]; rfl
theorem cpy_all {l s : SS} (h : l.length = s.length) : cpy l s = s := by
  unfold cpy
  rw [Nat.min_eq_left (by omega), List.take_length, List.drop_eq_nil_of_le (by omega), List.append_nil]
/-- What is known of a disk. -/
structure Ok (N : Nat) (S T : SS) (L : List Twrite) (l : Int) (i : Nat) : Prop where
  s : S.length = N
  t : T.length = N
  n : N ≤ 256
  late : ∀ w ∈ L, 0 ≤ w.at_ ∧ w.at_ < N
  l0 : -1 ≤ l
  l1 : l ≤ 9223372036854775807
  ll : L.length ≤ i
abbrev Go2 := Int → SS → SS → List Twrite → Int → SS → SS → List Int → SS → Int → Option Bool
theorem k14 (i : Nat) (h : i < 9223372036854775807) (go : Go2) (S T : SS) (L : List Twrite) (l : Int) (T' S' : SS) (A : List Int) (X : SS) (l' : Int) :
    m3_quirlaw_SectPlays_K14 (i : Int) go true S T L l T' S' A X l' = go ((i + 1 : Nat) : Int) S T L l T' S' A X l' := by
  rw [m3_quirlaw_SectPlays_K14, if_pos rfl, m3_quirlaw_SectPlays_K13, if_neg ff, isucc i h, bind1_some]
/-! ### Crash -/
def crash (keep : List Bool) : Nat → List Twrite → SS → SS
  | _, [], S => S
  | i, w :: L, S => crash keep (i + 1) L (if keep[i]? = some true then S.set w.at_.toNat w.text_ else S)
theorem crash_len (keep : List Bool) : ∀ (L : List Twrite) (i : Nat) (S : SS), (crash keep i L S).length = S.length
  | [], _, _ => rfl
  | w :: L, i, S => by rw [crash, crash_len keep L]; split <;> simp
theorem upd_at {S : SS} {a : Int} {x : List UInt8} (h0 : 0 ≤ a) (h1 : a < S.length) : upd S a x = some (S.set a.toNat x) := if_pos ⟨h0, h1⟩
theorem idx_at {S : SS} {a : Int} (h0 : 0 ≤ a) (h1 : a < S.length) : ∃ x, idx S a = some x := by
  obtain ⟨i, rfl⟩ := Int.eq_ofNat_of_zero_le h0
  exact ⟨_, idx_ok (by omega)⟩
theorem crash4 (L : List Twrite) (x : TDeed) (A : List Int) (X : SS) (g : Int) (go : Go2) (Sm T : SS) (N : Nat) (hl : L.length < 9223372036854775807) (hL : ∀ w ∈ L, 0 ≤ w.at_ ∧ w.at_ < N) : ∀ (r i : Nat), i + r = L.length → ∀ n, r < n → ∀ S : SS, S.length = N →
    m3_quirlaw_SectPlays_L4 L x A X g go Sm T n (i : Int) S = m3_quirlaw_SectPlays_K23 A x X g go Sm T (crash x.Keep i (L.drop i) S) := by
  intro r
  induction r with
  | zero =>
    intro i hi n hn S hS
    obtain ⟨n, rfl⟩ := dec n hn
    rw [m3_quirlaw_SectPlays_L4, m3_quirlaw_SectPlays_L4B, if_neg (by omega), List.drop_eq_nil_of_le (by omega)]
    rfl
  | succ r ih =>
    intro i hi n hn S hS
    obtain ⟨n, rfl⟩ := dec n (by omega)
    have h1 : i < L.length := by omega
    have hw := hL L[i] (List.getElem_mem h1)
    rw [m3_quirlaw_SectPlays_L4, m3_quirlaw_SectPlays_L4B, if_pos (by omega), idx_ok h1, bind1_some, isucc i (by omega), drop_cons h1, crash]
    by_cases c1 : i < x.Keep.length
    · rw [if_pos (by omega), idx_ok c1, bind1_some, List.getElem?_eq_getElem c1]
      obtain ⟨y, hy⟩ := idx_at (S := S) hw.1 (by rw [hS]; exact hw.2)
      by_cases c2 : x.Keep[i] = true
      · rw [if_pos c2, hy, bind1_some, upd_at hw.1 (by rw [hS]; exact hw.2), bind1_some, bind1_some, ih (i + 1) (by omega) n (by omega) _ (by simp [hS])]
        simp [c2]
      · rw [if_neg c2, bind1_some, ih (i + 1) (by omega) n (by omega) _ hS]
        simp [c2]
    · rw [if_neg (by omega), bind1_some, ih (i + 1) (by omega) n (by omega) _ hS]
      have : x.Keep[i]? = none := List.getElem?_eq_none (by omega)
      simp [this]
theorem crash3 (L : List Twrite) (x : TDeed) (g : Int) (go : Go2) (A B : SS) (N : Nat) (hl : L.length < 9223372036854775807) (hL : ∀ w ∈ L, 0 ≤ w.at_ ∧ w.at_ < N) : ∀ (r i : Nat), i + r = L.length → ∀ n, r < n → ∀ S : SS, S.length = N →
    m3_quirlaw_SectPlays_L3 (L.map (·.at_)) x (L.map (·.text_)) g go A B n (i : Int) S = m3_quirlaw_SectPlays_K22 g go A B (crash x.Keep i (L.drop i) S) := by
  intro r
  induction r with
  | zero =>
    intro i hi n hn S hS
    obtain ⟨n, rfl⟩ := dec n hn
    rw [m3_quirlaw_SectPlays_L3, m3_quirlaw_SectPlays_L3B, if_neg (by rw [List.length_map]; omega), List.drop_eq_nil_of_le (by omega)]
    rfl
  | succ r ih =>
    intro i hi n hn S hS
    obtain ⟨n, rfl⟩ := dec n (by omega)
    have h1 : i < L.length := by omega
    have hw := hL L[i] (List.getElem_mem h1)
    have e1 : idx (L.map (·.at_)) (i : Int) = some L[i].at_ := by rw [idx_nat]; simp [h1]
    have e2 : idx (L.map (·.text_)) (i : Int) = some L[i].text_ := by rw [idx_nat]; simp [h1]
    rw [m3_quirlaw_SectPlays_L3, m3_quirlaw_SectPlays_L3B, if_pos (by rw [List.length_map]; omega), e1, bind1_some, isucc i (by omega), drop_cons h1, crash]
    by_cases c1 : i < x.Keep.length
    · rw [if_pos (by omega), idx_ok c1, bind1_some, List.getElem?_eq_getElem c1]
      obtain ⟨y, hy⟩ := idx_at (S := S) hw.1 (by rw [hS]; exact hw.2)
      by_cases c2 : x.Keep[i] = true
      · rw [if_pos c2, e2, bind1_some, hy, bind1_some, upd_at hw.1 (by rw [hS]; exact hw.2), bind1_some, bind1_some, ih (i + 1) (by omega) n (by omega) _ (by simp [hS])]
        simp [c2]
      · rw [if_neg c2, bind1_some, ih (i + 1) (by omega) n (by omega) _ hS]
        simp [c2]
    · rw [if_neg (by omega), bind1_some, ih (i + 1) (by omega) n (by omega) _ hS]
      have : x.Keep[i]? = none := List.getElem?_eq_none (by omega)
      simp [this]
/-! ### The end -/
theorem endLoop (S T : SS) (N : Nat) (hS : S.length = N) (hT : T.length = N) (hN : N ≤ 256) : ∀ (r i : Nat), i + r = N → ∀ n, r < n → m3_quirlaw_SectPlays_L1 T S T n (i : Int) = some true := by
  intro r
  induction r with
  | zero =>
    intro i hi n hn
    obtain ⟨n, rfl⟩ := dec n hn
    rw [m3_quirlaw_SectPlays_L1, m3_quirlaw_SectPlays_L1B, if_neg (by omega)]; rfl
  | succ r ih =>
    intro i hi n hn
    obtain ⟨n, rfl⟩ := dec n (by omega)
    have h1 : i < T.length := by omega
    rw [m3_quirlaw_SectPlays_L1, m3_quirlaw_SectPlays_L1B, if_pos (by omega), idx_ok h1, bind1_some, if_neg (by omega), if_neg (by omega), m3_quirlaw_SectPlays_K12, if_neg (by decide), idx_ok h1, bind1_some, m3_quirlaw_SectPlays_K11,
      if_neg (by simp), if_neg (by simp), isucc i (by omega), bind1_some]
    exact ih (i + 1) (by omega) n (by omega)
/-! ### One deed -/
section
variable {N : Nat} {S T : SS} {L : List Twrite} {l : Int} {i : Nat} {x : TDeed} {go : Go2}
/-- The rest, whatever the disks. -/
def Rest (N i : Nat) (go : Go2) : Prop := ∀ (S T : SS) (L : List Twrite) (l : Int), Ok N S T L l (i + 1) → go ((i + 1 : Nat) : Int) S T L l T S (L.map (·.at_)) (L.map (·.text_)) l = some true
theorem Ok.more (h : Ok N S T L l i) : Ok N S T L l (i + 1) := ⟨h.s, h.t, h.n, h.late, h.l0, h.l1, by have := h.ll; omega⟩
theorem fuse (h : Ok N S T L l i) (hi : i < 9223372036854775807) (hR : Rest N i go) (hx : x.N ≤ 9223372036854775807) : m3_quirlaw_SectPlays_K24 x (i : Int) go S T L T S (L.map (·.at_)) (L.map (·.text_)) = some true := by
  rw [m3_quirlaw_SectPlays_K24]
  have h' := h.more
  have key : ∀ z : Int, max x.N (-1) = z → m3_quirlaw_SectPlays_K25 (i : Int) go S T L x T S (L.map (·.at_)) (L.map (·.text_)) z = some true := by
    rintro z rfl
    rw [m3_quirlaw_SectPlays_K25, m3_quirlaw_SectPlays_K15, k14 i hi]
    exact hR S T L _ ⟨h'.s, h'.t, h'.n, h'.late, by omega, by omega, h'.ll⟩
  by_cases c : x.N < 0
  · rw [if_pos c]; exact key _ (by omega)
  · rw [if_neg c]; exact key _ (by omega)
theorem crashed (h : Ok N S T L l i) (hi : i < 9223372036854775807) (hR : Rest N i go) : m3_quirlaw_SectPlays_L4 L x (L.map (·.at_)) (L.map (·.text_)) (i : Int) go S T big 0 S = some true := by
  have hll : L.length < 9223372036854775807 := by have := h.ll; omega
  have h1 := crash4 L x (L.map (·.at_)) (L.map (·.text_)) (i : Int) go S T N hll h.late L.length 0 (by omega) big (lt_big (by omega)) S h.s
  rw [show ((0 : Nat) : Int) = 0 from rfl] at h1
  rw [h1, List.drop_zero, m3_quirlaw_SectPlays_K23, m3_quirlaw_SectPlays_K20]
  have h2 := crash3 L x (i : Int) go (crash x.Keep 0 L S) (cpy T (crash x.Keep 0 L S)) N hll h.late L.length 0 (by omega) big (lt_big (by omega)) S h.s
  rw [show ((0 : Nat) : Int) = 0 from rfl] at h2
  have hc : (crash x.Keep 0 L S).length = N := by rw [crash_len, h.s]
  rw [h2, List.drop_zero, m3_quirlaw_SectPlays_K22, clone_ok _ (by rw [hc]; exact h.n), bind1_some, m3_quirlaw_SectPlays_K21, m3_quirlaw_SectPlays_K15, k14 i hi, cpy_all (by rw [h.t, hc])]
  exact hR _ _ [] (-1) ⟨hc, hc, h.n, by simp, by omega, by omega, by simp⟩
theorem flush (h : Ok N S T L l i) (hi : i < 9223372036854775807) (hR : Rest N i go) :
    (if l = 0 then m3_quirlaw_SectPlays_K30 l (i : Int) go T T S (L.map (·.at_)) (L.map (·.text_)) S L 13 l else m3_quirlaw_SectPlays_K31 l l (i : Int) go T T S (L.map (·.at_)) (L.map (·.text_)) S L) = some true := by
  have hd : ∀ z : Int, decide (z = z) = true := fun z => by simp
  have h' := h.more
  by_cases c : l = 0
  · rw [if_pos c, m3_quirlaw_SectPlays_K30, if_pos (by decide), m3_quirlaw_SectPlays_K26, if_pos c, m3_quirlaw_SectPlays_K27, hd, k14 i hi]
    exact hR S T L l h'
  · rw [if_neg c, m3_quirlaw_SectPlays_K31]
    have key : ∀ z : Int, max (l - 1) (min l (-1)) = z → m3_quirlaw_SectPlays_K30 l (i : Int) go T T S (L.map (·.at_)) (L.map (·.text_)) S L 0 z = some true := by
      rintro z rfl
      have hl0 := h.l0
      have hl1 := h.l1
      rw [m3_quirlaw_SectPlays_K30, if_neg (by decide), m3_quirlaw_SectPlays_K29, m3_quirlaw_SectPlays_K26, if_neg c, m3_quirlaw_SectPlays_K28, i64_ok (by omega) (by omega), bind1_some, clone_ok _ (by rw [h.t]; exact h.n), bind1_some, m3_quirlaw_SectPlays_K27, hd, k14 i hi, cpy_all (by rw [h.s, h.t])]
      exact hR T T [] _ ⟨h.t, h.t, h.n, by simp, by omega, by omega, by simp⟩
    have hl0 := h.l0
    have hl1 := h.l1
    by_cases c2 : 0 < l
    · rw [if_pos c2, i64_ok (by omega) (by omega), bind1_some]
      exact key _ (by omega)
    · rw [if_neg c2]; exact key _ (by omega)
theorem read (h : Ok N S T L l i) (hi : i < 9223372036854775807) (hR : Rest N i go) :
    (if x.N < 0 then m3_quirlaw_SectPlays_K32 x (i : Int) go S T L l T S (L.map (·.at_)) (L.map (·.text_)) l [] 1 else if (S.length : Int) ≤ x.N then m3_quirlaw_SectPlays_K32 x (i : Int) go S T L l T S (L.map (·.at_)) (L.map (·.text_)) l [] 1
      else m3_quirlaw_SectPlays_K35 l x (i : Int) go S T L T S (L.map (·.at_)) (L.map (·.text_)) l) = some true := by
  have hd : ∀ z : Int, decide (z = z) = true := fun z => by simp
  have h' := h.more
  have hs := h.s
  have ht := h.t
  have k33 : ∀ (t : List UInt8) (e : Int), m3_quirlaw_SectPlays_K33 t (i : Int) go e S T L l T S (L.map (·.at_)) (L.map (·.text_)) l t e = some true := by
    intro t e
    rw [m3_quirlaw_SectPlays_K33, if_pos rfl, hd, k14 i hi]
    exact hR S T L l h'
  by_cases c1 : x.N < 0
  · rw [if_pos c1, m3_quirlaw_SectPlays_K32, if_pos c1]; exact k33 _ _
  rw [if_neg c1]
  by_cases c2 : (S.length : Int) ≤ x.N
  · rw [if_pos c2, m3_quirlaw_SectPlays_K32, if_neg c1, if_pos (by omega)]; exact k33 _ _
  rw [if_neg c2, m3_quirlaw_SectPlays_K35]
  by_cases c3 : l = 0
  · rw [if_pos c3, m3_quirlaw_SectPlays_K32, if_neg c1, if_neg (by omega), m3_quirlaw_SectPlays_K34, if_pos c3]; exact k33 _ _
  · obtain ⟨y, hy⟩ := idx_at (S := T) (a := x.N) (by omega) (by omega)
    rw [if_neg c3, hy, bind1_some, m3_quirlaw_SectPlays_K32, if_neg c1, if_neg (by omega), m3_quirlaw_SectPlays_K34, if_neg c3, hy, bind1_some]; exact k33 _ _
theorem write (h : Ok N S T L l i) (hi : i < 2513169434916) (hR : Rest N i go) :
    (if x.N < 0 then m3_quirlaw_SectPlays_K36 x (i : Int) go S S T (L.map (·.at_)) (L.map (·.text_)) l 1 T L l else if (S.length : Int) ≤ x.N then m3_quirlaw_SectPlays_K36 x (i : Int) go S S T (L.map (·.at_)) (L.map (·.text_)) l 1 T L l
      else m3_quirlaw_SectPlays_K42 x (i : Int) go S S T (L.map (·.at_)) (L.map (·.text_)) l T L l) = some true := by
  have hd : ∀ z : Int, decide (z = z) = true := fun z => by simp
  have h' := h.more
  have hs := h.s
  have ht := h.t
  have hl0 := h.l0
  have hl1 := h.l1
  have hll := h.ll
  have hi' : i < 9223372036854775807 := by omega
  have k37 : ∀ e : Int, m3_quirlaw_SectPlays_K37 (i : Int) go e S T L l S e T (L.map (·.at_)) (L.map (·.text_)) l = some true := by
    intro e
    rw [m3_quirlaw_SectPlays_K37, hd, k14 i hi']
    exact hR S T L l h'
  by_cases c1 : x.N < 0
  · rw [if_pos c1, m3_quirlaw_SectPlays_K36, if_pos c1]; exact k37 _
  rw [if_neg c1]
  by_cases c2 : (S.length : Int) ≤ x.N
  · rw [if_pos c2, m3_quirlaw_SectPlays_K36, if_neg c1, if_pos (by omega)]; exact k37 _
  rw [if_neg c2, m3_quirlaw_SectPlays_K42]
  by_cases c3 : 64 < (x.Text.length : Int)
  · rw [if_pos c3, m3_quirlaw_SectPlays_K36, if_neg c1, if_neg (by omega), m3_quirlaw_SectPlays_K38, if_pos c3]; exact k37 _
  rw [if_neg c3, m3_quirlaw_SectPlays_K43]
  by_cases c4 : l = 0
  · rw [if_pos c4, m3_quirlaw_SectPlays_K45, if_pos (by decide), m3_quirlaw_SectPlays_K36, if_neg c1, if_neg (by omega), m3_quirlaw_SectPlays_K38, if_neg c3, m3_quirlaw_SectPlays_K39, if_pos c4]; exact k37 _
  rw [if_neg c4, m3_quirlaw_SectPlays_K46]
  have key : ∀ z : Int, max (l - 1) (min l (-1)) = z → m3_quirlaw_SectPlays_K45 x (i : Int) go S S T (L.map (·.at_)) (L.map (·.text_)) l T L 0 z = some true := by
    rintro z rfl
    have e1 : i64 (64 - (x.Text.length : Int)) = some ((64 - x.Text.length : Nat) : Int) := by rw [i64_ok (by omega) (by omega)]; congr 1; omega
    have e2 : catS x.Text (Lib.repeatL [0] (64 - x.Text.length)) = some (x.Text ++ Lib.repeatL [0] (64 - x.Text.length)) := catS_ok (by rw [rep_len]; omega)
    obtain ⟨y, hy⟩ := idx_at (S := T) (a := x.N) (by omega) (by omega)
    have e3 := upd_at (S := T) (a := x.N) (x := x.Text ++ Lib.repeatL [0] (64 - x.Text.length)) (by omega) (by omega)
    have e4 : idx (T.set x.N.toNat (x.Text ++ Lib.repeatL [0] (64 - x.Text.length))) x.N = some (x.Text ++ Lib.repeatL [0] (64 - x.Text.length)) := by
      unfold idx
      rw [if_pos (by omega), List.getElem?_set_self (by omega)]
    rw [m3_quirlaw_SectPlays_K45, if_neg (by decide), m3_quirlaw_SectPlays_K44, e1, bind1_some, rep_ok _ (by omega), bind1_some, e2, bind1_some, hy, bind1_some, e3, bind1_some, app_ok (by simp; omega), bind1_some,
      m3_quirlaw_SectPlays_K36, if_neg c1, if_neg (by omega), m3_quirlaw_SectPlays_K38, if_neg c3, m3_quirlaw_SectPlays_K39, if_neg c4, m3_quirlaw_SectPlays_K40, i64_ok (by omega) (by omega), bind1_some, e1, bind1_some, blank_ok _ (by omega), bind1_some, e2, bind1_some, hy, bind1_some, e3, bind1_some, e4, bind1_some,
      app_ok (by simp; omega), bind1_some, app_ok (by simp; omega), bind1_some, m3_quirlaw_SectPlays_K41, m3_quirlaw_SectPlays_K37, hd, k14 i hi']
    have := hR S (T.set x.N.toNat (x.Text ++ Lib.repeatL [0] (64 - x.Text.length))) (L ++ [⟨x.N, x.Text ++ Lib.repeatL [0] (64 - x.Text.length)⟩]) (max (l - 1) (min l (-1))) ⟨hs, by simp [ht], h.n, ?_, by omega, by omega, by simp; omega⟩
    · rw [List.map_append, List.map_append] at this
      exact this
    · intro w hw
      rcases List.mem_append.1 hw with hw | hw
      · exact h.late w hw
      · rw [List.mem_singleton] at hw
        subst hw
        exact ⟨by show 0 ≤ x.N; omega, by show x.N < N; omega⟩
  by_cases c5 : 0 < l
  · rw [if_pos c5, i64_ok (by omega) (by omega), bind1_some]; exact key _ (by omega)
  · rw [if_neg c5]; exact key _ (by omega)
theorem deed (h : Ok N S T L l i) (hi : i < 2513169434916) (hR : Rest N i go) (hx : x.N ≤ 9223372036854775807) :
    (if x.Kind = 0 then m3_quirlaw_SectPlays_K16 x (i : Int) go S S T (L.map (·.at_)) (L.map (·.text_)) l T L l true else m3_quirlaw_SectPlays_K16 x (i : Int) go S S T (L.map (·.at_)) (L.map (·.text_)) l T L l false) = some true := by
  have hi' : i < 9223372036854775807 := by omega
  by_cases c0 : x.Kind = 0
  · rw [if_pos c0, m3_quirlaw_SectPlays_K16, if_pos rfl]; exact write h hi hR
  rw [if_neg c0, m3_quirlaw_SectPlays_K16, if_neg ff]
  by_cases c1 : x.Kind = 1
  · rw [if_pos c1, m3_quirlaw_SectPlays_K17, if_pos rfl]; exact read h hi' hR
  rw [if_neg c1, m3_quirlaw_SectPlays_K17, if_neg ff]
  by_cases c2 : x.Kind = 2
  · rw [if_pos c2, m3_quirlaw_SectPlays_K18, if_pos rfl]; exact flush h hi' hR
  rw [if_neg c2, m3_quirlaw_SectPlays_K18, if_neg ff]
  by_cases c3 : x.Kind = 3
  · rw [if_pos c3, m3_quirlaw_SectPlays_K19, if_pos rfl]; exact fuse h hi' hR hx
  · rw [if_neg c3, m3_quirlaw_SectPlays_K19, if_neg ff]; exact crashed h hi' hR
end
theorem deeds (a : List TDeed) (ha : a.length ≤ 2513169434916) (hN : ∀ d ∈ a, d.N ≤ 9223372036854775807) (N : Nat) : ∀ (r i : Nat), i + r = a.length → ∀ n, r < n → ∀ (S T : SS) (L : List Twrite) (l : Int), Ok N S T L l i →
    m3_quirlaw_SectPlays_L2 a n (i : Int) S T L l T S (L.map (·.at_)) (L.map (·.text_)) l = some true := by
  intro r
  induction r with
  | zero =>
    intro i hi n hn S T L l h
    obtain ⟨n, rfl⟩ := dec n hn
    rw [m3_quirlaw_SectPlays_L2, m3_quirlaw_SectPlays_L2B, if_neg (by omega), m3_quirlaw_SectPlays_K8, m3_quirlaw_SectPlays_K9]
    exact endLoop S T N h.s h.t h.n N 0 (by omega) big (lt_big (by have := h.n; omega))
  | succ r ih =>
    intro i hi n hn S T L l h
    obtain ⟨n, rfl⟩ := dec n (by omega)
    have h1 : i < a.length := by omega
    rw [m3_quirlaw_SectPlays_L2, m3_quirlaw_SectPlays_L2B, if_pos (by omega), idx_ok h1, bind1_some]
    exact deed h (by omega) (fun S T L l h' => ih (i + 1) (by omega) n (by omega) S T L l h') (hN _ (List.getElem_mem h1))
/-! ### The beginning -/
theorem new5 (a0 : Int) (a1 : List TDeed) (A B : SS) (N : Nat) (h0 : a0 = N) (hN : N ≤ 256) : ∀ (r i : Nat), i + r = N → ∀ n, r < n → m3_quirlaw_SectPlays_L5 a0 a1 A B n (i : Int) (List.replicate i (Lib.repeatL [0] 64)) (List.replicate i (Lib.repeatL [0] 64)) =
    m3_quirlaw_SectPlays_K47 a1 A B (List.replicate N (Lib.repeatL [0] 64)) (List.replicate N (Lib.repeatL [0] 64)) := by
  subst h0
  intro r
  induction r with
  | zero =>
    intro i hi n hn
    obtain ⟨n, rfl⟩ := dec n hn
    rw [m3_quirlaw_SectPlays_L5, m3_quirlaw_SectPlays_L5B, if_neg (by omega), show i = N by omega]
  | succ r ih =>
    intro i hi n hn
    obtain ⟨n, rfl⟩ := dec n (by omega)
    have e := blank_ok 64 (by omega)
    rw [show ((64 : Nat) : Int) = 64 from rfl] at e
    rw [m3_quirlaw_SectPlays_L5, m3_quirlaw_SectPlays_L5B, if_pos (by omega), e, bind1_some, app_ok (by simp; omega), bind1_some, bind1_some, app_ok (by simp; omega), bind1_some, isucc i (by omega), bind1_some, ← List.replicate_succ', ih (i + 1) (by omega) n (by omega)]
theorem new6 (a0 : Int) (a1 : List TDeed) (N : Nat) (h0 : a0 = N) (hN : N ≤ 256) : ∀ (r i : Nat), i + r = N → ∀ n, r < n → m3_quirlaw_SectPlays_L6 a0 a1 n (i : Int) (List.replicate i (Lib.repeatL [0] 64)) = m3_quirlaw_SectPlays_K51 a0 a1 (List.replicate N (Lib.repeatL [0] 64)) := by
  subst h0
  intro r
  induction r with
  | zero =>
    intro i hi n hn
    obtain ⟨n, rfl⟩ := dec n hn
    rw [m3_quirlaw_SectPlays_L6, m3_quirlaw_SectPlays_L6B, if_neg (by omega), show i = N by omega]
  | succ r ih =>
    intro i hi n hn
    obtain ⟨n, rfl⟩ := dec n (by omega)
    have e := rep_ok 64 (by omega)
    rw [show ((64 : Nat) : Int) = 64 from rfl] at e
    rw [m3_quirlaw_SectPlays_L6, m3_quirlaw_SectPlays_L6B, if_pos (by omega), e, bind1_some, app_ok (by simp; omega), bind1_some, isucc i (by omega), bind1_some, ← List.replicate_succ', ih (i + 1) (by omega) n (by omega)]
theorem sect_true (a0 : Int) (a1 : List TDeed) (ha : a1.length ≤ 2513169434916) (hN : ∀ d ∈ a1, d.N ≤ 9223372036854775807) : m3_quirlaw_SectPlays a0 a1 = some true := by
  rw [m3_quirlaw_SectPlays]
  by_cases c1 : a0 < 1
  · rw [if_pos c1, m3_quirlaw_SectPlays_K1, if_pos c1]; rfl
  rw [if_neg c1]
  by_cases c2 : 256 < a0
  · rw [if_pos c2, m3_quirlaw_SectPlays_K1, if_neg c1, if_pos c2]; rfl
  rw [if_neg c2, m3_quirlaw_SectPlays_K50]
  obtain ⟨N, rfl⟩ := Int.eq_ofNat_of_zero_le (show 0 ≤ a0 by omega)
  have h6 := new6 (N : Int) a1 N rfl (by omega) N 0 (by omega) big (lt_big (by omega))
  rw [show ((0 : Nat) : Int) = 0 from rfl, List.replicate_zero] at h6
  have h5 := new5 (N : Int) a1 (List.replicate N (Lib.repeatL [0] 64)) (List.replicate N (Lib.repeatL [0] 64)) N rfl (by omega) N 0 (by omega) big (lt_big (by omega))
  rw [show ((0 : Nat) : Int) = 0 from rfl, List.replicate_zero] at h5
  rw [h6, m3_quirlaw_SectPlays_K51, app_ok (by simp; omega), bind1_some, List.nil_append, m3_quirlaw_SectPlays_K4, if_neg c1, if_neg c2, m3_quirlaw_SectPlays_K49, if_neg ff, m3_quirlaw_SectPlays_K5, if_neg (by decide), m3_quirlaw_SectPlays_K48,
    if_neg (by simp), m3_quirlaw_SectPlays_K6, h5, m3_quirlaw_SectPlays_K47, m3_quirlaw_SectPlays_K7]
  exact deeds a1 ha hN N a1.length 0 (by omega) big (lt_big (by omega)) _ _ [] (-1) ⟨by simp, by simp, by omega, by simp, by omega, by omega, by simp⟩
end Go.Proofs.Ytjbajaofdgalfaa
