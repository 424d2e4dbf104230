/-
  Package tree: searching, the tree in the row of nodes, Get, Put.
  Conditions: none.
-/
import Derived.Test.YtdebhhjbgbkbjaaTrM
import Derived.Test.YtdebhhjbgbkbjaaLp
import Derived.Test.YtdebhhjbgbkbjaaK
namespace Go.Proofs.Ytdebhhjbgbkbjaa
open Go.S
set_option linter.unusedVariables false
set_option linter.unusedSimpArgs false
section
theorem shr1 (a : Nat) (h : a < 9223372036854775808) : shrW .u64 (IntKind.wrap .u64 (a : Int)) 1 = some ((a / 2 : Nat) : Int) := by
  rw [show IntKind.wrap .u64 (a : Int) = (a : Int) by rw [wrapU64]; omega]
  have := shrW_u64 a 1 (by omega)
  simpa using this
def pos (l : List Int) (k : Int) : Nat := (l.filter fun x => decide (x < k)).length
abbrev Asc (l : List Int) : Prop := l.Pairwise (· < ·)
theorem pos_le (l : List Int) (k : Int) : pos l k ≤ l.length := List.length_filter_le _ _
theorem pos_cons_lt {x k : Int} {l : List Int} (h : x < k) : pos (x :: l) k = pos l k + 1 := by
  unfold pos; rw [List.filter_cons_of_pos (by simpa using h), List.length_cons]
theorem pos_ge {k : Int} {l : List Int} (h : ∀ x ∈ l, k ≤ x) : pos l k = 0 := by
  unfold pos
  rw [List.filter_eq_nil_iff.2, List.length_nil]
  intro x hx
  have := h x hx
  simpa using this
theorem pos_iff {k : Int} : ∀ {l : List Int} (hs : Asc l) (q : Nat) (h : q < l.length), l[q] < k ↔ q < pos l k
  | [], _, q, h => by simp at h
  | x :: l, hs, q, h => by
    obtain ⟨h1, h2⟩ := List.pairwise_cons.1 hs
    by_cases c : x < k
    · rw [pos_cons_lt c]
      cases q with
      | zero => simpa using c
      | succ q => simpa using pos_iff h2 q (by simpa using h)
    · have h0 : pos (x :: l) k = 0 := pos_ge fun y hy => by
        rcases List.mem_cons.1 hy with rfl | hy
        · omega
        · have := h1 y hy; omega
      rw [h0]
      have : x ≤ (x :: l)[q] := by
        cases q with
        | zero => simp
        | succ q => simp only [List.getElem_cons_succ]; exact Int.le_of_lt (h1 _ (List.getElem_mem _))
      omega
theorem pos_mem {k : Int} {l : List Int} (hs : Asc l) : k ∈ l ↔ ∃ h : pos l k < l.length, l[pos l k] = k := by
  constructor
  · intro h
    obtain ⟨q, hq, rfl⟩ := List.mem_iff_getElem.1 h
    have h1 : pos l l[q] ≤ q := by
      rcases Nat.lt_or_ge q (pos l l[q]) with c | c
      · have := (pos_iff hs q hq).2 c; omega
      · exact c
    refine ⟨by omega, ?_⟩
    rcases Nat.lt_or_ge (pos l l[q]) q with c | c
    · have h2 := (List.pairwise_iff_getElem.1 hs) _ _ (by omega) hq c
      have h3 := (pos_iff (k := l[q]) hs (pos l l[q]) (by omega)).1 h2
      omega
    · have : pos l l[q] = q := by omega
      simp only [this]
  · rintro ⟨h, e⟩
    rw [← e]
    exact List.getElem_mem _
section
variable {l : List Int} {k : Int}
theorem search_loop (hs : Asc l) (hl : l.length ≤ 1000000000) : ∀ (r i j : Nat), j - i ≤ r → i ≤ pos l k → pos l k ≤ j → j ≤ l.length → ∀ n, r < n → m24_sort_SearchInts_L1 l k n (i : Nat) (j : Nat) = some ((pos l k : Nat) : Int) := by
  intro r
  induction r with
  | zero =>
    intro i j hk hi hj hjl n hn
    obtain ⟨n, rfl⟩ := dec n hn
    have : i = pos l k := by omega
    rw [m24_sort_SearchInts_L1, m24_sort_SearchInts_L1B, if_neg (by omega), m24_sort_SearchInts_K2, m24_sort_SearchInts_K1, this]
  | succ r ih =>
    intro i j hk hi hj hjl n hn
    obtain ⟨n, rfl⟩ := dec n (by omega)
    rw [m24_sort_SearchInts_L1, m24_sort_SearchInts_L1B]
    by_cases c : i < j
    · have hh : (i + j) / 2 < l.length := by omega
      rw [if_pos (by omega), m24_sort_SearchInts_K3, show ((i : Nat) : Int) + ((j : Nat) : Int) = ((i + j : Nat) : Int) by omega, i64_ok (by omega) (by omega), bind1_some, shr1 _ (by omega), bind1_some, wrapI64 (by omega) (by omega), idx_ok hh, bind1_some, m24_sort_SearchInts_K4, wrapI64 (by omega) (by omega)]
      have hp := pos_iff (k := k) hs _ hh
      by_cases c2 : l[(i + j) / 2] < k
      · have := hp.1 c2
        rw [if_neg (by simp; omega), isucc _ (by omega), bind1_some]
        exact ih _ j (by omega) (by omega) hj hjl n (by omega)
      · rw [if_pos (by simp; omega)]
        rw [hp] at c2
        exact ih i _ (by omega) hi (by omega) (by omega) n (by omega)
    · have : i = pos l k := by omega
      rw [if_neg (by omega), m24_sort_SearchInts_K2, m24_sort_SearchInts_K1, this]
theorem search_ints (hs : Asc l) (hl : l.length ≤ 1000000000) : m24_sort_SearchInts l k = some ((pos l k : Nat) : Int) := by
  rw [m24_sort_SearchInts]
  exact search_loop hs hl l.length 0 l.length (by omega) (by omega) (pos_le _ _) (Nat.le_refl _) big (by rw [big_eq]; omega)
theorem less_int (a b : Int) : m13_cmp_Less_int a b = some (decide (a < b)) := by
  simp [m13_cmp_Less_int, m23_cmp_isNaN_int, m13_cmp_Less_int_K1]
theorem bin_end : m5_slices_BinarySearch_int_K1 l k ((pos l k : Nat) : Int) = some (((pos l k : Nat) : Int), decide (∃ h : pos l k < l.length, l[pos l k] = k)) := by
  rw [m5_slices_BinarySearch_int_K1]
  by_cases c : pos l k < l.length
  · rw [if_pos (by omega), idx_ok c, bind1_some]
    by_cases c2 : l[pos l k] = k
    · rw [if_pos c2, m5_slices_BinarySearch_int_K2]; simp [c, c2]
    · rw [if_neg c2, bind1_some]; simp [m14_slices_isNaN_int, m5_slices_BinarySearch_int_K2, c2]
  · rw [if_neg (by omega), m5_slices_BinarySearch_int_K2]; simp [c]
theorem bin_loop (hs : Asc l) (hl : l.length ≤ 1000000000) : ∀ (r i j : Nat), j - i ≤ r → i ≤ pos l k → pos l k ≤ j → j ≤ l.length → ∀ n, r < n → m5_slices_BinarySearch_int_L1 l k n (i : Nat) (j : Nat) = some (((pos l k : Nat) : Int), decide (∃ h : pos l k < l.length, l[pos l k] = k)) := by
  intro r
  induction r with
  | zero =>
    intro i j hk hi hj hjl n hn
    obtain ⟨n, rfl⟩ := dec n hn
    have : i = pos l k := by omega
    rw [m5_slices_BinarySearch_int_L1, m5_slices_BinarySearch_int_L1B, if_neg (by omega), this, bin_end]
  | succ r ih =>
    intro i j hk hi hj hjl n hn
    obtain ⟨n, rfl⟩ := dec n (by omega)
    rw [m5_slices_BinarySearch_int_L1, m5_slices_BinarySearch_int_L1B]
    by_cases c : i < j
    · have hh : (i + j) / 2 < l.length := by omega
      rw [if_pos (by omega), m5_slices_BinarySearch_int_K3, show ((i : Nat) : Int) + ((j : Nat) : Int) = ((i + j : Nat) : Int) by omega, i64_ok (by omega) (by omega), bind1_some, shr1 _ (by omega), bind1_some, wrapI64 (by omega) (by omega), idx_ok hh, bind1_some, less_int, bind1_some]
      have hp := pos_iff (k := k) hs _ hh
      by_cases c2 : l[(i + j) / 2] < k
      · have := hp.1 c2
        rw [if_pos (by simpa using c2), isucc _ (by omega), bind1_some]
        exact ih _ j (by omega) (by omega) hj hjl n (by omega)
      · rw [if_neg (by simpa using c2)]
        rw [hp] at c2
        exact ih i _ (by omega) hi (by omega) (by omega) n (by omega)
    · have : i = pos l k := by omega
      rw [if_neg (by omega), this, bin_end]
theorem bin_ints (hs : Asc l) (hl : l.length ≤ 1000000000) : m5_slices_BinarySearch_int l k = some (((pos l k : Nat) : Int), decide (k ∈ l)) := by
  have h := bin_loop (k := k) hs hl l.length 0 l.length (by omega) (by omega) (pos_le _ _) (Nat.le_refl _) big (by rw [big_eq]; omega)
  rw [m5_slices_BinarySearch_int]
  simp only [pos_mem hs]
  exact h
theorem find_key {A : List Tnode} {a0 : Int} {u : Tnode} (hu : idx A a0 = some u) (hs : Asc u.keys_) (hl : u.keys_.length ≤ 1000000000) : m15_tree_node_find a0 k A = some (((pos u.keys_ k : Nat) : Int), decide (k ∈ u.keys_)) := by
  rw [m15_tree_node_find, hu, bind1_some, search_ints hs hl, bind1_some]
  by_cases c : pos u.keys_ k < u.keys_.length
  · rw [if_pos (by omega), idx_ok c, bind1_some]
    simp only [pos_mem hs, c, exists_true_left]
  · rw [if_neg (by omega)]
    have h9 : decide (k ∈ u.keys_) = false := decide_eq_false fun h => c ((pos_mem hs).1 h).1
    rw [h9]
end
end
section
abbrev KV := Int × List UInt8
/-- A kid: its place, what it holds, where it lies. -/
structure Ch where
  i : Int
  kv : List KV
  F : List Nat
/-- What a node holds in order: its own between its kids'. -/
def mix : List KV → List Ch → List KV
  | es, [] => es
  | [], c :: _ => c.kv
  | e :: es, c :: cs => c.kv ++ e :: mix es cs
def node (es : List KV) (chs : List Ch) : Tnode := ⟨es.map Prod.fst, es.map Prod.snd, chs.map Ch.i⟩
def Rep (A : List Tnode) : Nat → Nat → Nat → Int → List KV → List Nat → Prop
  | 0, lo, hi, i, kv, F => idx A i = some (node kv []) ∧ lo ≤ kv.length ∧ kv.length ≤ hi ∧ F = [i.toNat]
  | h + 1, lo, hi, i, kv, F => ∃ es chs, idx A i = some (node es chs) ∧ lo ≤ es.length ∧ es.length ≤ hi ∧ chs.length = es.length + 1 ∧ (∀ x ∈ chs, Rep A h 2 4 x.i x.kv x.F) ∧ kv = mix es chs ∧ F = i.toNat :: chs.flatMap Ch.F
/-- What is below a node. -/
def Sub (A : List Tnode) : Nat → List KV → List Ch → Prop
  | 0, _, chs => chs = []
  | h + 1, es, chs => chs.length = es.length + 1 ∧ ∀ x ∈ chs, Rep A h 2 4 x.i x.kv x.F
variable {A B : List Tnode} {h lo hi lo' hi' : Nat} {i : Int} {kv : List KV} {F : List Nat} {es es1 es2 : List KV} {chs ch1 ch2 : List Ch} {e : KV}
theorem rep_iff : Rep A h lo hi i kv F ↔ ∃ es chs, idx A i = some (node es chs) ∧ lo ≤ es.length ∧ es.length ≤ hi ∧ Sub A h es chs ∧ kv = mix es chs ∧ F = i.toNat :: chs.flatMap Ch.F := by
  cases h with
  | zero =>
    constructor
    · rintro ⟨h1, h2, h3, rfl⟩
      exact ⟨kv, [], h1, h2, h3, rfl, by simp [mix], by simp⟩
    · rintro ⟨es, chs, h1, h2, h3, h4, h5, h6⟩
      obtain rfl : chs = [] := h4
      simp only [mix] at h5
      subst h5
      exact ⟨h1, h2, h3, by simpa using h6⟩
  | succ h =>
    constructor
    · rintro ⟨es, chs, h1, h2, h3, h4, h5, h6, h7⟩
      exact ⟨es, chs, h1, h2, h3, ⟨h4, h5⟩, h6, h7⟩
    · rintro ⟨es, chs, h1, h2, h3, ⟨h4, h5⟩, h6, h7⟩
      exact ⟨es, chs, h1, h2, h3, h4, h5, h6, h7⟩
theorem Rep.wk (h1 : Rep A h lo hi i kv F) (h2 : lo' ≤ lo) (h3 : hi ≤ hi') : Rep A h lo' hi' i kv F := by
  obtain ⟨es, chs, a, b, c, d⟩ := rep_iff.1 h1
  exact rep_iff.2 ⟨es, chs, a, by omega, by omega, d⟩
theorem Rep.here (h1 : Rep A h lo hi i kv F) : 0 ≤ i ∧ i < A.length ∧ i.toNat ∈ F := by
  obtain ⟨es, chs, a, _, _, _, _, rfl⟩ := rep_iff.1 h1
  have := idx_some a
  exact ⟨this.1, this.2.1, List.mem_cons_self⟩
theorem Rep.frame (h1 : Rep A h lo hi i kv F) (hB : ∀ n ∈ F, B[n]? = A[n]?) : Rep B h lo hi i kv F := by
  induction h generalizing lo hi i kv F with
  | zero =>
    obtain ⟨h1, h2, h3, rfl⟩ := h1
    exact ⟨by have := idx_some h1; unfold idx; rw [if_pos this.1, hB _ (by simp), this.2.2], h2, h3, rfl⟩
  | succ h ih =>
    obtain ⟨es, chs, h1, h2, h3, h4, h5, h6, rfl⟩ := h1
    exact ⟨es, chs, by have := idx_some h1; unfold idx; rw [if_pos this.1, hB _ (by simp), this.2.2], h2, h3, h4, fun x hx => ih (h5 x hx) fun n hn => hB n (List.mem_cons_of_mem _ (List.mem_flatMap.2 ⟨x, hx, hn⟩)), h6, rfl⟩
theorem Sub.frame (h1 : Sub A h es chs) (hB : ∀ x ∈ chs, ∀ n ∈ x.F, B[n]? = A[n]?) : Sub B h es chs := by
  cases h with
  | zero => exact h1
  | succ h => exact ⟨h1.1, fun x hx => (h1.2 x hx).frame (hB x hx)⟩
theorem Sub.shape (h1 : Sub A h es chs) : chs = [] ∨ chs.length = es.length + 1 := by
  cases h with
  | zero => exact .inl h1
  | succ h => exact .inr h1.1
theorem mix_nil (es : List KV) : mix es [] = es := by cases es <;> rfl
theorem mix_cut : ∀ (es1 : List KV) (chs : List Ch), (chs = [] ∨ chs.length = (es1 ++ e :: es2).length + 1) → mix (es1 ++ e :: es2) chs = mix es1 (chs.take (es1.length + 1)) ++ e :: mix es2 (chs.drop (es1.length + 1))
  | es1, [], _ => by simp [mix_nil]
  | [], c :: cs, h => by
    cases cs <;> simp [mix]
  | e1 :: es1, c :: cs, h => by
    rcases h with h | h
    · cases h
    have hcs : cs.length = (es1 ++ e :: es2).length + 1 := by simpa using h
    rw [List.cons_append, mix, mix_cut es1 cs (.inr hcs)]
    simp [mix]
/-- The kid at a place, and what is ahead of it, and behind. -/
def Lft : List KV → List Ch → List KV
  | e :: es, c :: cs => c.kv ++ e :: Lft es cs
  | _, _ => []
def Rgt : List KV → List Ch → List KV
  | e :: es, chs => e :: mix es chs
  | [], _ => []
theorem mix_at {c : Ch} : ∀ (es1 : List KV) (ch1 : List Ch), ch1.length = es1.length → ch2.length = es2.length → mix (es1 ++ es2) (ch1 ++ c :: ch2) = Lft es1 ch1 ++ (c.kv ++ Rgt es2 ch2)
  | [], [], _, h2 => by
    cases es2 <;> simp [mix, Lft, Rgt]
  | e :: es1, d :: ch1, h1, h2 => by
    rw [List.cons_append, List.cons_append, mix, mix_at es1 ch1 (by simpa using h1) h2]
    simp [Lft]
  | [], _ :: _, h1, _ => by simp at h1
  | _ :: _, [], h1, _ => by simp at h1
theorem es_sub : ∀ (es : List KV) (chs : List Ch), es.Sublist (mix es chs)
  | es, [] => by rw [mix_nil]; exact List.Sublist.refl _
  | [], c :: _ => List.nil_sublist _
  | e :: es, c :: cs => by
    rw [mix]
    exact (List.Sublist.cons_cons e (es_sub es cs)).trans (List.sublist_append_right _ _)
/-! ### In order -/
abbrev AscK (kv : List KV) : Prop := Asc (kv.map Prod.fst)
theorem asc_app {a b : List KV} : AscK (a ++ b) ↔ AscK a ∧ AscK b ∧ ∀ x ∈ a, ∀ y ∈ b, x.1 < y.1 := by
  unfold AscK Asc
  rw [List.map_append, List.pairwise_append]
  constructor
  · rintro ⟨h1, h2, h3⟩
    exact ⟨h1, h2, fun x hx y hy => h3 _ (List.mem_map_of_mem hx) _ (List.mem_map_of_mem hy)⟩
  · rintro ⟨h1, h2, h3⟩
    refine ⟨h1, h2, fun x hx y hy => ?_⟩
    obtain ⟨x', hx', rfl⟩ := List.mem_map.1 hx
    obtain ⟨y', hy', rfl⟩ := List.mem_map.1 hy
    exact h3 x' hx' y' hy'
theorem asc_cons {x : KV} {b : List KV} : AscK (x :: b) ↔ (∀ y ∈ b, x.1 < y.1) ∧ AscK b := by
  unfold AscK Asc
  rw [List.map_cons, List.pairwise_cons]
  constructor
  · rintro ⟨h1, h2⟩
    exact ⟨fun y hy => h1 _ (List.mem_map_of_mem hy), h2⟩
  · rintro ⟨h1, h2⟩
    refine ⟨fun y hy => ?_, h2⟩
    obtain ⟨y', hy', rfl⟩ := List.mem_map.1 hy
    exact h1 y' hy'
theorem lft_lt {k : Int} : ∀ (es1 : List KV) (ch1 : List Ch), AscK (Lft es1 ch1) → (∀ x ∈ es1, x.1 < k) → ∀ x ∈ Lft es1 ch1, x.1 < k
  | [], [], _, _, x, hx => by simp [Lft] at hx
  | [], _ :: _, _, _, x, hx => by simp [Lft] at hx
  | _ :: _, [], _, _, x, hx => by simp [Lft] at hx
  | e :: es1, d :: ch1, h1, h2, x, hx => by
    rw [Lft] at h1 hx
    obtain ⟨a, b, c⟩ := asc_app.1 h1
    rcases List.mem_append.1 hx with hx | hx
    · have := c x hx e List.mem_cons_self
      have := h2 e List.mem_cons_self
      omega
    · rcases List.mem_cons.1 hx with rfl | hx
      · exact h2 _ List.mem_cons_self
      · exact lft_lt es1 ch1 (asc_cons.1 b).2 (fun y hy => h2 y (List.mem_cons_of_mem _ hy)) x hx
theorem rgt_ge {k : Int} (h1 : AscK (Rgt es2 ch2)) (h2 : ∀ x ∈ es2, k ≤ x.1) : ∀ x ∈ Rgt es2 ch2, k ≤ x.1 := by
  cases es2 with
  | nil => intro x hx; simp [Rgt] at hx
  | cons e es2 =>
    intro x hx
    rw [Rgt] at h1 hx
    have h3 := h2 e List.mem_cons_self
    rcases List.mem_cons.1 hx with rfl | hx
    · exact h3
    · have := (asc_cons.1 h1).1 x hx; omega
/-! ### What is asked of what is in order -/
def getK (kv : List KV) (k : Int) : Option (List UInt8) := (kv.find? fun x => decide (x.1 = k)).map Prod.snd
def putK (kv : List KV) (k : Int) (t : List UInt8) : List KV := (kv.filter fun x => decide (x.1 < k)) ++ (k, t) :: kv.filter fun x => decide (k < x.1)
def delK (kv : List KV) (k : Int) : List KV := kv.filter fun x => decide (x.1 ≠ k)
section
variable {X Y c : List KV} {k : Int} {t t' : List UInt8}
theorem filter_all {p : KV → Bool} {l : List KV} (h : ∀ x ∈ l, p x = true) : l.filter p = l := List.filter_eq_self.2 h
theorem filter_no {p : KV → Bool} {l : List KV} (h : ∀ x ∈ l, p x = false) : l.filter p = [] := List.filter_eq_nil_iff.2 fun x hx => by rw [h x hx]; simp
theorem put_mid (hX : ∀ x ∈ X, x.1 < k) (hY : ∀ x ∈ Y, k < x.1) : putK (X ++ (c ++ Y)) k t = X ++ (putK c k t ++ Y) := by
  unfold putK
  simp only [List.filter_append]
  rw [filter_all (p := fun x : KV => decide (x.1 < k)) (l := X) fun x hx => by simpa using hX x hx, filter_no (p := fun x : KV => decide (x.1 < k)) (l := Y) fun x hx => by have := hY x hx; simp; omega,
    filter_no (p := fun x : KV => decide (k < x.1)) (l := X) fun x hx => by have := hX x hx; simp; omega, filter_all (p := fun x : KV => decide (k < x.1)) (l := Y) fun x hx => by simpa using hY x hx]
  simp
theorem put_at (hX : ∀ x ∈ X, x.1 < k) (hY : ∀ x ∈ Y, k < x.1) : putK (X ++ (k, t') :: Y) k t = X ++ (k, t) :: Y := by
  have := put_mid (c := [(k, t')]) (t := t) hX hY
  simpa [putK] using this
theorem put_new (hX : ∀ x ∈ X, x.1 < k) (hY : ∀ x ∈ Y, k < x.1) : putK (X ++ Y) k t = X ++ (k, t) :: Y := by
  have := put_mid (c := []) (t := t) hX hY
  simpa [putK] using this
theorem del_mid (hX : ∀ x ∈ X, x.1 < k) (hY : ∀ x ∈ Y, k < x.1) : delK (X ++ (c ++ Y)) k = X ++ (delK c k ++ Y) := by
  unfold delK
  simp only [List.filter_append]
  rw [filter_all (p := fun x : KV => decide (x.1 ≠ k)) (l := X) fun x hx => by have := hX x hx; simp; omega, filter_all (p := fun x : KV => decide (x.1 ≠ k)) (l := Y) fun x hx => by have := hY x hx; simp; omega]
theorem del_at (hX : ∀ x ∈ X, x.1 < k) (hY : ∀ x ∈ Y, k < x.1) : delK (X ++ (k, t') :: Y) k = X ++ Y := by
  have := del_mid (c := [(k, t')]) hX hY
  simpa [delK] using this
theorem get_mid (hX : ∀ x ∈ X, x.1 < k) (hY : ∀ x ∈ Y, k < x.1) : getK (X ++ (c ++ Y)) k = getK c k := by
  unfold getK
  rw [List.find?_append, List.find?_eq_none.2 fun x hx => by have := hX x hx; simp; omega, List.find?_append, (List.find?_eq_none (l := Y)).2 fun x hx => by have := hY x hx; simp; omega]
  simp
theorem get_at (hX : ∀ x ∈ X, x.1 < k) : getK (X ++ (k, t') :: Y) k = some t' := by
  unfold getK
  rw [List.find?_append, List.find?_eq_none.2 fun x hx => by have := hX x hx; simp; omega]
  simp
theorem get_none (h : k ∉ c.map Prod.fst) : getK c k = none := by
  unfold getK
  rw [List.find?_eq_none.2]
  · rfl
  · intro x hx
    have : x.1 ≠ k := fun e => h (e ▸ List.mem_map_of_mem hx)
    simpa using this
theorem get_mem (ha : AscK c) : (getK c k).isSome = true ↔ k ∈ c.map Prod.fst := by
  constructor
  · intro h
    by_cases c2 : k ∈ c.map Prod.fst
    · exact c2
    · rw [get_none c2] at h; cases h
  · intro h
    obtain ⟨x, hx, rfl⟩ := List.mem_map.1 h
    unfold getK
    rw [Option.isSome_map, List.find?_isSome]
    exact ⟨x, hx, by simp⟩
end
end
section
variable {A B : List Tnode} {h lo hi : Nat} {i : Int} {kv : List KV} {F : List Nat} {es es1 es2 : List KV} {chs ch1 ch2 : List Ch} {e : KV} {k : Int}
theorem find_node (hu : idx A i = some (node es chs)) (ha : AscK es) (hl : es.length ≤ 1000) : m15_tree_node_find i k A = some (((pos (es.map Prod.fst) k : Nat) : Int), decide (k ∈ es.map Prod.fst)) :=
  find_key hu ha (by simp [node]; omega)
theorem pos_len : pos (es.map Prod.fst) k ≤ es.length := by simpa using pos_le (es.map Prod.fst) k
theorem es_lt (ha : AscK es) : ∀ x ∈ es.take (pos (es.map Prod.fst) k), x.1 < k := by
  intro x hx
  obtain ⟨q, hq, rfl⟩ := List.mem_iff_getElem.1 hx
  rw [List.length_take] at hq
  have := (pos_iff (k := k) ha q (by simp; omega)).2 (by omega)
  simpa using this
theorem es_ge (ha : AscK es) : ∀ x ∈ es.drop (pos (es.map Prod.fst) k), k ≤ x.1 := by
  intro x hx
  obtain ⟨q, hq, rfl⟩ := List.mem_iff_getElem.1 hx
  rw [List.length_drop] at hq
  have h1 := pos_iff (k := k) ha (pos (es.map Prod.fst) k + q) (by simp; omega)
  have h2 : ¬ (es.map Prod.fst)[pos (es.map Prod.fst) k + q]'(by simp; omega) < k := fun h => by have := h1.1 h; omega
  simp only [List.getElem_map] at h2
  simp only [List.getElem_drop]
  omega
/-- Where a key is, or would be, among a node's own. -/
theorem es_at (ha : AscK es) (hm : k ∈ es.map Prod.fst) : ∃ t rest, es.drop (pos (es.map Prod.fst) k) = (k, t) :: rest ∧ ∀ x ∈ rest, k < x.1 := by
  obtain ⟨h1, h2⟩ := (pos_mem ha).1 hm
  have h3 : pos (es.map Prod.fst) k < es.length := by simpa using h1
  refine ⟨(es[pos (es.map Prod.fst) k]).2, es.drop (pos (es.map Prod.fst) k + 1), ?_, ?_⟩
  · rw [List.drop_eq_getElem_cons h3]
    congr 1
    simp only [List.getElem_map] at h2
    exact Prod.ext h2 rfl
  · have hd : AscK (es.drop (pos (es.map Prod.fst) k)) := by
      unfold AscK
      rw [List.map_drop]
      exact List.Pairwise.sublist (List.drop_sublist _ _) ha
    rw [List.drop_eq_getElem_cons h3] at hd
    simp only [List.getElem_map] at h2
    intro x hx
    have := (asc_cons.1 hd).1 x hx
    omega
theorem es_gt (ha : AscK es) (hm : k ∉ es.map Prod.fst) : ∀ x ∈ es.drop (pos (es.map Prod.fst) k), k < x.1 := by
  intro x hx
  have h1 := es_ge ha x hx
  have h2 : x.1 ≠ k := fun e => hm (e ▸ List.mem_map_of_mem (List.mem_of_mem_drop hx))
  omega
theorem rgt_gt (h1 : AscK (Rgt es2 ch2)) (h2 : ∀ x ∈ es2, k < x.1) : ∀ x ∈ Rgt es2 ch2, k < x.1 := fun x hx => by
  have := rgt_ge (k := k + 1) h1 (fun y hy => by have := h2 y hy; omega) x hx
  omega
/-- A list at a place. -/
theorem at_place {α : Type} (l : List α) (p : Nat) (h : p < l.length) : l = l.take p ++ l[p] :: l.drop (p + 1) := by
  rw [← List.drop_eq_getElem_cons h, List.take_append_drop]
theorem mix_place (p : Nat) (hp : p ≤ es.length) (hl : chs.length = es.length + 1) : mix es chs = Lft (es.take p) (chs.take p) ++ ((chs[p]'(by omega)).kv ++ Rgt (es.drop p) (chs.drop (p + 1))) := by
  have h1 := mix_at (c := chs[p]'(by omega)) (es2 := es.drop p) (ch2 := chs.drop (p + 1)) (es.take p) (chs.take p) (by rw [List.length_take, List.length_take]; omega) (by rw [List.length_drop, List.length_drop]; omega)
  rw [List.take_append_drop, ← at_place chs p (by omega)] at h1
  exact h1
/-- What a tree holds, as Get tells it. -/
theorem get_rep : ∀ (h lo hi : Nat) (i : Int) (kv : List KV) (F : List Nat), hi ≤ 1000 → Rep A h lo hi i kv F → AscK kv → ∀ n, h < n → m6_tree_Tree_Get_L1 k A n i = some (match getK kv k with | some t => (t, 0) | none => ([], 6)) := by
  intro h
  induction h with
  | zero =>
    intro lo hi i kv F hhi hr ha n hn
    obtain ⟨n, rfl⟩ := dec n hn
    obtain ⟨h1, h2, h3, _⟩ := hr
    rw [m6_tree_Tree_Get_L1, m6_tree_Tree_Get_L1B, find_node h1 ha (by omega), bind2_some]
    by_cases c : k ∈ kv.map Prod.fst
    · obtain ⟨t, rest, e1, e2⟩ := es_at ha c
      have hp : pos (kv.map Prod.fst) k < kv.length := by have := ((pos_mem ha).1 c).1; simpa using this
      have e3 : getK kv k = some t := by
        have := get_at (Y := rest) (t' := t) (es_lt (k := k) ha)
        rwa [← e1, List.take_append_drop] at this
      have e4 : kv[pos (kv.map Prod.fst) k] = (k, t) := by
        rw [List.drop_eq_getElem_cons hp] at e1
        exact (List.cons.inj e1).1
      rw [if_pos (by simpa using c), m6_tree_Tree_Get_K1, if_pos rfl, h1, bind1_some]
      simp only [node]
      rw [idx_ok (by simpa using hp), bind1_some, e3]
      simp [e4]
    · rw [if_neg (by simpa using c), m6_tree_Tree_Get_K1, if_neg (by simp), h1, bind1_some, if_pos (by simp [node]), get_none c]
  | succ h ih =>
    intro lo hi i kv F hhi hr ha n hn
    obtain ⟨n, rfl⟩ := dec n (by omega)
    obtain ⟨es, chs, h1, h2, h3, h4, h5, rfl, h7⟩ := hr
    have hae : AscK es := List.Pairwise.sublist ((es_sub es chs).map Prod.fst) ha
    rw [m6_tree_Tree_Get_L1, m6_tree_Tree_Get_L1B, find_node h1 hae (by omega), bind2_some]
    have hp := pos_len (es := es) (k := k)
    have hm := mix_place (es := es) (chs := chs) (pos (es.map Prod.fst) k) hp h4
    generalize hP : pos (es.map Prod.fst) k = p at *
    have hlt := es_lt (k := k) hae
    rw [hP] at hlt
    rw [hm] at ha
    obtain ⟨a1, a2, a3⟩ := asc_app.1 ha
    obtain ⟨b1, b2, b3⟩ := asc_app.1 a2
    have hL := lft_lt _ _ a1 hlt
    by_cases c : k ∈ es.map Prod.fst
    · obtain ⟨t, rest, e1, e2⟩ := es_at hae c
      rw [hP] at e1
      have hp2 : p < es.length := by have := ((pos_mem hae).1 c).1; rw [hP] at this; simpa using this
      have e4 : es[p] = (k, t) := by
        rw [List.drop_eq_getElem_cons hp2] at e1
        exact (List.cons.inj e1).1
      have hc : ∀ x ∈ (chs[p]'(by omega)).kv, x.1 < k := fun x hx => b3 x hx (k, t) (by rw [e1, Rgt]; exact List.mem_cons_self)
      rw [if_pos (by simpa using c), m6_tree_Tree_Get_K1, if_pos rfl, h1, bind1_some]
      simp only [node]
      rw [idx_ok (by simpa using hp2), bind1_some, hm, e1, Rgt, ← List.append_assoc, get_at fun x hx => (List.mem_append.1 hx).elim (hL x) (hc x)]
      simp [e4]
    · have hg := es_gt hae c
      rw [hP] at hg
      have hR := rgt_gt b2 hg
      rw [if_neg (by simpa using c), m6_tree_Tree_Get_K1, if_neg (by simp), h1, bind1_some]
      have hk0 : ¬ ((node es chs).kids_.length : Int) = 0 := by show ¬ ((chs.map Ch.i).length : Int) = 0; rw [List.length_map]; omega
      rw [if_neg hk0]
      show bind1 (idx (chs.map Ch.i) _) _ = _
      rw [idx_ok (by rw [List.length_map]; omega), bind1_some, List.getElem_map, hm, get_mid hL hR]
      exact ih _ _ _ _ _ (by omega) (h5 _ (List.getElem_mem _)) b1 n (by omega)
end
section
/-- Nothing else has turned. -/
def Frm (A A' : List Tnode) (F : List Nat) : Prop := A.length ≤ A'.length ∧ ∀ n, n < A.length → n ∉ F → A'[n]? = A[n]?
/-- All pointers lead somewhere. -/
def Ok (A : List Tnode) : Prop := ∀ x ∈ A, ∀ c ∈ x.kids_, c < (A.length : Int)
variable {A B : List Tnode} {h lo hi p : Nat} {i : Int} {kv : List KV} {F : List Nat} {es es1 es2 : List KV} {chs ch1 ch2 : List Ch} {e : KV} {k : Int} {u : Tnode} {n : Nat} {c : Ch}
theorem Ok.at (hA : Ok A) (hu : idx A i = some u) : ∀ c ∈ u.kids_, c < (A.length : Int) := hA u (List.mem_of_getElem? (idx_some hu).2.2)
theorem Ok.set (hA : Ok A) (h1 : ∀ c ∈ u.kids_, c < (A.length : Int)) : Ok (A.set n u) := by
  intro x hx
  rw [List.length_set]
  rcases List.mem_or_eq_of_mem_set hx with h2 | rfl
  · exact hA x h2
  · exact h1
theorem Ok.app (hA : Ok A) (h1 : ∀ c ∈ u.kids_, c < (A.length : Int)) : Ok (A ++ [u]) := by
  intro x hx c hc
  rw [List.length_append, List.length_singleton]
  rcases List.mem_append.1 hx with h2 | h2
  · have := hA x h2 c hc; omega
  · rw [List.mem_singleton.1 h2] at hc
    have := h1 c hc; omega
theorem rep_lt : ∀ {h lo hi : Nat} {i : Int} {kv : List KV} {F : List Nat} (_ : Rep A h lo hi i kv F), ∀ q ∈ F, q < A.length := by
  intro h
  induction h with
  | zero =>
    intro lo hi i kv F hr q hq
    obtain ⟨h1, _, _, rfl⟩ := hr
    have := idx_some h1
    simp only [List.mem_singleton] at hq
    omega
  | succ h ih =>
    intro lo hi i kv F hr q hq
    obtain ⟨es, chs, h1, _, _, _, h5, _, rfl⟩ := hr
    have := idx_some h1
    rcases List.mem_cons.1 hq with rfl | hq
    · omega
    · obtain ⟨x, hx, hq⟩ := List.mem_flatMap.1 hq
      exact ih (h5 x hx) q hq
theorem Sub.take (h1 : Sub A h (es1 ++ e :: es2) chs) : Sub A h es1 (chs.take (es1.length + 1)) := by
  cases h with
  | zero => have : chs = [] := h1; subst this; exact (by simp [Sub])
  | succ h =>
    obtain ⟨h2, h3⟩ := h1
    rw [List.length_append, List.length_cons] at h2
    exact ⟨by rw [List.length_take]; omega, fun x hx => h3 x (List.mem_of_mem_take hx)⟩
theorem Sub.drop (h1 : Sub A h (es1 ++ e :: es2) chs) : Sub A h es2 (chs.drop (es1.length + 1)) := by
  cases h with
  | zero => have : chs = [] := h1; subst this; exact (by simp [Sub])
  | succ h =>
    obtain ⟨h2, h3⟩ := h1
    rw [List.length_append, List.length_cons] at h2
    exact ⟨by rw [List.length_drop]; omega, fun x hx => h3 x (List.mem_of_mem_drop hx)⟩
theorem five (es : List KV) (h : es.length = 5) : ∃ a b e d f, es = [a, b] ++ e :: [d, f] := by
  match es, h with
  | [a, b, e, d, f], _ => exact ⟨a, b, e, d, f, rfl⟩
theorem clone_i (l : List Int) (h : l.length ≤ 1000) : m39_slices_Clone_int l = some l := by rw [m39_slices_Clone_int, app_ok (by simp; omega)]; rfl
theorem clone_s (l : List (List UInt8)) (h : l.length ≤ 1000) : m40_slices_Clone_string l = some l := by rw [m40_slices_Clone_string, app_ok (by simp; omega)]; rfl
theorem clone_p (l : List Int) (h : l.length ≤ 1000) : m41_tree_node l = some l := by rw [m41_tree_node, app_ok (by simp; omega)]; rfl
theorem idx_set_ne {l : List Tnode} {a : Int} {n : Nat} {x : Tnode} (h : a.toNat ≠ n) : idx (l.set n x) a = idx l a := by
  unfold idx
  by_cases c : 0 ≤ a
  · rw [if_pos c, if_pos c, List.getElem?_set_ne (Ne.symm h)]
  · rw [if_neg c, if_neg c]
theorem idx_set_eq {l : List Tnode} {a : Int} {x : Tnode} (h0 : 0 ≤ a) (h : a.toNat < l.length) : idx (l.set a.toNat x) a = some x := by
  unfold idx
  rw [if_pos h0, List.getElem?_set_self h]
theorem idx_appl {l : List Tnode} {a : Int} {x : Tnode} (h : a < l.length) : idx (l ++ [x]) a = idx l a := by
  unfold idx
  by_cases c : 0 ≤ a
  · rw [if_pos c, if_pos c, List.getElem?_append_left (by omega)]
  · rw [if_neg c, if_neg c]
theorem upd_at {l : List Tnode} {a : Int} {x : Tnode} (h0 : 0 ≤ a) (h : a < l.length) : upd l a x = some (l.set a.toNat x) := if_pos ⟨h0, h⟩
theorem split_eq {a b d f : KV} (hu : idx A i = some (node ([a, b] ++ e :: [d, f]) chs)) (hs : chs = [] ∨ chs.length = 6) (ok : Ok A) :
    m29_tree_node_split i A = some ((A ++ [node [d, f] (chs.drop 3)]).set i.toNat (node [a, b, e] (chs.take 3)), (A.length : Int)) := by
  have h0 := idx_some hu
  have hk := ok.at hu
  have hap : ∀ R : Tnode, (∀ c ∈ R.kids_, c < (A.length : Int)) → ∀ x ∈ A ++ [R], Tnode.ok46 A.length x := fun R hR x hx c hc => by
    rcases List.mem_append.1 hx with h | h
    · exact ok x h c hc
    · rw [List.mem_singleton.1 h] at hc; exact hR c hc
  rw [m29_tree_node_split, hu, bind1_some]
  have e1 : divW .i64 ((node ([a, b] ++ e :: [d, f]) chs).keys_.length : Int) 2 = some 2 := by rw [show ((node ([a, b] ++ e :: [d, f]) chs).keys_.length : Int) = 5 from rfl]; decide
  have e2 : i64 ((2 : Int) + 1) = some 3 := by decide
  rw [e1, bind1_some, e2, bind1_some, show (3 : Int) = ((3 : Nat) : Int) by rfl, cut_drop _ 3 (by simp [node]), bind1_some, bind1_some, cut_drop _ 3 (by simp [node]), bind1_some, clone_i _ (by simp [node]), bind1_some, clone_s _ (by simp [node]), bind1_some, bind1_some, cut_take _ 3 (by simp [node]), bind1_some, bind1_some, cut_take _ 3 (by simp [node]), bind1_some]
  rcases hs with rfl | hs
  · rw [if_neg (by simp [node]), ck_pos ⟨hap _ (by simp), hk, h0.2.1⟩, bind1_some, newA, bind2_some, upd_at h0.1 (by simp; omega), bind1_some]
    simp [node]
  · have hl : ((node ([a, b] ++ e :: [d, f]) chs).kids_).length = 6 := by simp [node, hs]
    have hkd : ∀ c ∈ (node ([a, b] ++ e :: [d, f]) chs).kids_.drop 3, c < (A.length : Int) := fun c hc => hk c (List.mem_of_mem_drop hc)
    have hkt : ∀ c ∈ (node ([a, b] ++ e :: [d, f]) chs).kids_.take 3, c < (A.length : Int) := fun c hc => hk c (List.mem_of_mem_take hc)
    rw [if_pos (by rw [hl]; decide), bind1_some, cut_drop _ 3 (by omega), bind1_some, clone_p _ (by rw [List.length_drop]; omega), bind1_some, bind1_some, cut_take _ 3 (by omega), bind1_some, ck_pos ⟨hap _ hkd, hkt, h0.2.1⟩, bind1_some, newA, bind2_some, upd_at h0.1 (by simp; omega), bind1_some]
    simp [node]
/-- A kid of a node is lifted, if need be. -/
theorem lift_rep (hu : idx A i = some (node (es1 ++ es2) (ch1 ++ c :: ch2))) (hl1 : ch1.length = es1.length) (hl2 : ch2.length = es2.length) (h4 : (es1 ++ es2).length ≤ 4) (hlo : lo ≤ (es1 ++ es2).length)
    (hr : ∀ x ∈ ch1 ++ ch2, Rep A h 2 4 x.i x.kv x.F) (hc : Rep A h 2 5 c.i c.kv c.F) (hn : (i.toNat :: (ch1 ++ c :: ch2).flatMap Ch.F).Nodup) (ok : Ok A) :
    ∃ A' F', m18_tree_node_lift i (es1.length : Nat) A = some A' ∧ (∃ m, (m = (es1 ++ es2).length ∧ Rep A h 2 4 c.i c.kv c.F ∨ m = (es1 ++ es2).length + 1) ∧ Rep A' (h + 1) m m i (mix (es1 ++ es2) (ch1 ++ c :: ch2)) F') ∧ Frm A A' (i.toNat :: (ch1 ++ c :: ch2).flatMap Ch.F) ∧ F'.Nodup ∧ (∀ q ∈ F', q ∈ i.toNat :: (ch1 ++ c :: ch2).flatMap Ch.F ∨ A.length ≤ q) ∧ Ok A' := by
  have h0 := idx_some hu
  have hkp : idx ((node (es1 ++ es2) (ch1 ++ c :: ch2)).kids_) (es1.length : Nat) = some c.i := by
    show idx ((ch1 ++ c :: ch2).map Ch.i) _ = _
    rw [idx_nat, List.map_append, List.map_cons, List.getElem?_append_right (by simp; omega)]
    simp [hl1]
  obtain ⟨esc, chc, hv, g1, g2, g3, g4, g5⟩ := rep_iff.1 hc
  rw [m18_tree_node_lift, hu, bind1_some, hkp, bind1_some, hv, bind1_some]
  by_cases c5 : esc.length ≤ 4
  · rw [if_pos (by simp [node]; omega)]
    refine ⟨A, _, rfl, ⟨_, .inl ⟨rfl, rep_iff.2 ⟨esc, chc, hv, g1, c5, g3, g4, g5⟩⟩, rep_iff.2 ⟨es1 ++ es2, ch1 ++ c :: ch2, hu, Nat.le_refl _, Nat.le_refl _, ⟨by simp; omega, fun x hx => ?_⟩, rfl, rfl⟩⟩, ⟨Nat.le_refl _, fun _ _ _ => rfl⟩, hn, fun q hq => .inl hq, ok⟩
    rcases List.mem_append.1 hx with hx | hx
    · exact hr x (List.mem_append_left _ hx)
    · rcases List.mem_cons.1 hx with rfl | hx
      · exact rep_iff.2 ⟨esc, chc, hv, g1, c5, g3, g4, g5⟩
      · exact hr x (List.mem_append_right _ hx)
  · obtain ⟨a, b, e, d, f, rfl⟩ := five esc (by omega)
    have hsh : chc = [] ∨ chc.length = 6 := g3.shape
    have hv0 := idx_some hv
    have hin : i.toNat ∉ (ch1 ++ c :: ch2).flatMap Ch.F := (List.nodup_cons.1 hn).1
    have hnd := (List.nodup_cons.1 hn).2
    rw [List.flatMap_append, List.flatMap_cons] at hin hnd
    have hcF : c.i.toNat ∈ c.F := by rw [g5]; exact List.mem_cons_self
    have hne : i.toNat ≠ c.i.toNat := fun e => hin (by rw [e]; exact List.mem_append_right _ (List.mem_append_left _ hcF))
    rw [List.nodup_append] at hnd
    obtain ⟨n1, n2, n3⟩ := hnd
    rw [List.nodup_append] at n2
    obtain ⟨n4, n5, n6⟩ := n2
    have hcn : c.i.toNat ∉ chc.flatMap Ch.F := by rw [g5] at n4; exact (List.nodup_cons.1 n4).1
    have hk1 := ok.at hu
    have hk2 := ok.at hv
    generalize hR : node [d, f] (chc.drop 3) = R
    generalize hL3 : node [a, b, e] (chc.take 3) = L3
    generalize hL2 : node [a, b] (chc.take 3) = L2
    generalize hX : node (es1 ++ e :: es2) (ch1 ++ ⟨c.i, mix [a, b] (chc.take 3), c.i.toNat :: (chc.take 3).flatMap Ch.F⟩ :: ⟨(A.length : Int), mix [d, f] (chc.drop 3), A.length :: (chc.drop 3).flatMap Ch.F⟩ :: ch2) = X
    have hsz : ∀ l : List Tnode, l = (A ++ [R]).set c.i.toNat L3 → l.length = A.length + 1 := fun l h => by rw [h]; simp
    have i1 : idx ((A ++ [R]).set c.i.toNat L3) c.i = some L3 := idx_set_eq hv0.1 (by simp; omega)
    have i2 : idx ((A ++ [R]).set c.i.toNat L3) i = some (node (es1 ++ es2) (ch1 ++ c :: ch2)) := by rw [idx_set_ne hne, idx_appl h0.2.1, hu]
    have hm : m18_tree_node_lift i (es1.length : Nat) A = some ((((A ++ [R]).set c.i.toNat L3).set i.toNat X).set c.i.toNat L2) := by
      rw [m18_tree_node_lift, hu, bind1_some, hkp, bind1_some, hv, bind1_some, if_neg (by simp [node]), m18_tree_node_lift_K1, ck_pos ⟨h0.2.1, hv0.2.1⟩, bind1_some, split_eq hv hsh ok, bind2_some, hR, hL3, i1, bind1_some]
      subst hL3
      rw [show i64 (((node [a, b, e] (chc.take 3)).keys_.length : Int) - 1) = some 2 from i64_ok (x := 2) (by decide) (by decide), bind1_some, i2, bind1_some, ck_pos (by intro e; exact hne (by rw [e])), bind1_some,
        show idx (node [a, b, e] (chc.take 3)).keys_ 2 = some e.1 from rfl, bind1_some]
      have q1 : xInsR (node (es1 ++ es2) (ch1 ++ c :: ch2)).keys_ (es1.length : Nat) e.1 = some ((es1 ++ e :: es2).map Prod.fst) := by
        unfold xInsR
        rw [if_pos ⟨by omega, by simp [node]; omega, by simp [node]; simp at h4; omega⟩]
        simp [node]
      have q2 : xInsR (node (es1 ++ es2) (ch1 ++ c :: ch2)).texts_ (es1.length : Nat) e.2 = some ((es1 ++ e :: es2).map Prod.snd) := by
        unfold xInsR
        rw [if_pos ⟨by omega, by simp [node]; omega, by simp [node]; simp at h4; omega⟩]
        simp [node]
      have q3 : xInsR (node (es1 ++ es2) (ch1 ++ c :: ch2)).kids_ ((es1.length + 1 : Nat) : Int) (A.length : Int) = some ((ch1 ++ c :: ch2).map Ch.i |>.take (es1.length + 1) |> (· ++ (A.length : Int) :: ((ch1 ++ c :: ch2).map Ch.i).drop (es1.length + 1))) := by
        unfold xInsR
        rw [if_pos ⟨by omega, by simp [node]; omega, by simp [node]; simp at h4; omega⟩]
        simp [node]
      rw [q1, bind1_some, show idx (node [a, b, e] (chc.take 3)).texts_ 2 = some e.2 from rfl, bind1_some, q2, bind1_some, isucc _ (by simp at h4; omega), bind1_some, q3, bind1_some,
        show cut (node [a, b, e] (chc.take 3)).keys_ 0 2 = some ([a, b].map Prod.fst) from rfl, bind1_some, show cut (node [a, b, e] (chc.take 3)).texts_ 0 2 = some ([a, b].map Prod.snd) from rfl, bind1_some, upd_at h0.1 (by simp; omega), bind1_some, upd_at hv0.1 (by simp; omega), bind1_some]
      congr 2
      · congr 1
        rw [← hX]
        simp only [node, Tnode.mk.injEq, true_and]
        have hlp : (ch1.map Ch.i).length = es1.length := by simpa using hl1
        simp only [List.map_append, List.map_cons]
        rw [List.take_append, List.drop_append, hlp]
        simp [List.take_of_length_le, hl1]
    rw [m18_tree_node_lift, hu, bind1_some, hkp, bind1_some, hv, bind1_some] at hm
    rw [hm]
    generalize hA2 : (((A ++ [R]).set c.i.toNat L3).set i.toNat X).set c.i.toNat L2 = A2
    have a2l : A2.length = A.length + 1 := by rw [← hA2]; simp
    have a2n : ∀ n, n < A.length → n ≠ i.toNat → n ≠ c.i.toNat → A2[n]? = A[n]? := fun n h1 h2 h3 => by
      rw [← hA2, List.getElem?_set_ne (Ne.symm h3), List.getElem?_set_ne (Ne.symm h2), List.getElem?_set_ne (Ne.symm h3), List.getElem?_append_left h1]
    have a2c : idx A2 c.i = some L2 := by rw [← hA2]; exact idx_set_eq hv0.1 (by simp; omega)
    have a2i : idx A2 i = some X := by rw [← hA2, idx_set_ne hne]; exact idx_set_eq h0.1 (by simp; omega)
    have a2r : idx A2 (A.length : Int) = some R := by
      rw [← hA2, idx_set_ne (by omega), idx_set_ne (by omega), idx_set_ne (by omega), idx_nat]
      simp
    have rp : ∀ x ∈ ch1 ++ ch2, Rep A2 h 2 4 x.i x.kv x.F := fun x hx => (hr x hx).frame fun q hq => by
      have hq2 : q ∈ ch1.flatMap Ch.F ∨ q ∈ ch2.flatMap Ch.F := (List.mem_append.1 hx).elim (fun h => .inl (List.mem_flatMap.2 ⟨x, h, hq⟩)) (fun h => .inr (List.mem_flatMap.2 ⟨x, h, hq⟩))
      refine a2n q (rep_lt (hr x hx) q hq) (fun e => hin ?_) (fun e => ?_)
      · rw [← e]; exact hq2.elim (fun h => List.mem_append_left _ h) (fun h => List.mem_append_right _ (List.mem_append_right _ h))
      · rcases hq2 with h | h
        · exact n3 q h c.i.toNat (List.mem_append_left _ hcF) e
        · exact n6 c.i.toNat hcF q h e.symm
    have sb : Sub A2 h ([a, b] ++ e :: [d, f]) chc := g3.frame fun x hx q hq => by
      have hqc : q ∈ chc.flatMap Ch.F := List.mem_flatMap.2 ⟨x, hx, hq⟩
      have hqF : q ∈ c.F := by rw [g5]; exact List.mem_cons_of_mem _ hqc
      refine a2n q (rep_lt hc q hqF) (fun e => hin ?_) (fun e => hcn ?_)
      · rw [← e]; exact List.mem_append_right _ (List.mem_append_left _ hqF)
      · rw [← e]; exact hqc
    have hmx : c.kv = mix [a, b] (chc.take 3) ++ e :: mix [d, f] (chc.drop 3) := by rw [g4]; exact mix_cut [a, b] chc g3.shape
    have hp : (i.toNat :: (ch1 ++ ⟨c.i, mix [a, b] (chc.take 3), c.i.toNat :: (chc.take 3).flatMap Ch.F⟩ :: ⟨(A.length : Int), mix [d, f] (chc.drop 3), A.length :: (chc.drop 3).flatMap Ch.F⟩ :: ch2).flatMap Ch.F).Perm (A.length :: i.toNat :: (ch1 ++ c :: ch2).flatMap Ch.F) := by
      have h1 := List.perm_middle (a := A.length) (l₁ := i.toNat :: (ch1.flatMap Ch.F ++ c.i.toNat :: (chc.take 3).flatMap Ch.F)) (l₂ := (chc.drop 3).flatMap Ch.F ++ ch2.flatMap Ch.F)
      have h2 : (chc.take 3).flatMap Ch.F ++ (chc.drop 3).flatMap Ch.F = chc.flatMap Ch.F := by rw [← List.flatMap_append, List.take_append_drop]
      have h3 : c.F = c.i.toNat :: ((chc.take 3).flatMap Ch.F ++ (chc.drop 3).flatMap Ch.F) := by rw [h2]; exact g5
      simp only [List.flatMap_append, List.flatMap_cons]
      rw [h3]
      simpa [List.append_assoc] using h1
    have hlt : ∀ q ∈ i.toNat :: (ch1 ++ c :: ch2).flatMap Ch.F, q < A.length := fun q hq => by
      rcases List.mem_cons.1 hq with rfl | hq
      · omega
      · obtain ⟨x, hx, hqx⟩ := List.mem_flatMap.1 hq
        rcases List.mem_append.1 hx with hx | hx
        · exact rep_lt (hr x (List.mem_append_left _ hx)) q hqx
        · rcases List.mem_cons.1 hx with hx | hx
          · rw [hx] at hqx; exact rep_lt hc q hqx
          · exact rep_lt (hr x (List.mem_append_right _ hx)) q hqx
    refine ⟨A2, _, rfl, ⟨_, .inr rfl, rep_iff.2 ⟨es1 ++ e :: es2, _, (by rw [a2i, ← hX]), by simp; omega, by simp; omega, ⟨by simp at hl1 hl2 ⊢; omega, fun x hx => ?_⟩, ?_, rfl⟩⟩, ⟨by omega, fun q hq hq2 => ?_⟩, hp.nodup_iff.2 (List.nodup_cons.2 ⟨fun h => absurd (hlt _ h) (by omega), hn⟩), fun q hq => ?_, ?_⟩
    · rcases List.mem_append.1 hx with hx | hx
      · exact rp x (List.mem_append_left _ hx)
      · rcases List.mem_cons.1 hx with rfl | hx
        · exact rep_iff.2 ⟨[a, b], chc.take 3, by rw [a2c, ← hL2], by simp, by simp, sb.take, rfl, rfl⟩
        · rcases List.mem_cons.1 hx with rfl | hx
          · exact rep_iff.2 ⟨[d, f], chc.drop 3, by rw [a2r, ← hR], by simp, by simp, sb.drop, rfl, by simp⟩
          · exact rp x (List.mem_append_right _ hx)
    · rw [mix_at es1 ch1 hl1 hl2, mix_at es1 ch1 hl1 (by simp; omega), hmx, Rgt]
      have := mix_at (c := ⟨(A.length : Int), mix [d, f] (chc.drop 3), A.length :: (chc.drop 3).flatMap Ch.F⟩) (es2 := es2) (ch2 := ch2) [] [] rfl hl2
      simp only [List.nil_append, Lft] at this
      rw [this]
      simp
    · exact a2n q hq (fun e => hq2 (by rw [e]; exact List.mem_cons_self)) fun e => hq2 (by rw [e]; exact List.mem_cons_of_mem _ (List.mem_flatMap.2 ⟨c, by simp, hcF⟩))
    · rcases List.mem_cons.1 (hp.mem_iff.1 hq) with rfl | h
      · exact .inr (Nat.le_refl _)
      · exact .inl h
    · have o1 : Ok (A ++ [R]) := ok.app fun c hc => by rw [← hR] at hc; simp only [node, List.map_drop] at hc; exact hk2 c (List.mem_of_mem_drop hc)
      have hkt : ∀ q ∈ (chc.take 3).map Ch.i, q < ((A ++ [R]).length : Int) := fun q hq => by
        rw [List.map_take] at hq
        have := hk2 q (List.mem_of_mem_take hq)
        simp; omega
      have o2 : Ok ((A ++ [R]).set c.i.toNat L3) := o1.set fun q hq => by rw [← hL3] at hq; exact hkt q hq
      have o3 : Ok (((A ++ [R]).set c.i.toNat L3).set i.toNat X) := o2.set fun q hq => by
        rw [← hX] at hq
        simp only [node, List.map_append, List.map_cons, List.mem_append, List.mem_cons] at hq
        simp only [node, List.map_append, List.map_cons, List.mem_append, List.mem_cons] at hk1
        rw [List.length_set, List.length_append, List.length_singleton]
        rcases hq with h | h | h | h
        · have := hk1 q (.inl h); omega
        · have := hk1 q (.inr (.inl h)); omega
        · omega
        · have := hk1 q (.inr (.inr h)); omega
      rw [← hA2]
      exact o3.set fun q hq => by
        rw [← hL2] at hq
        have := hkt q hq
        simpa using this
end
section
variable {A B : List Tnode} {h lo hi p : Nat} {i : Int} {kv : List KV} {F : List Nat} {es es1 es2 : List KV} {chs ch1 ch2 : List Ch} {e : KV} {k : Int} {t : List UInt8} {u : Tnode} {n : Nat} {c : Ch}
theorem find_split (k : Int) (hu : idx A i = some (node es chs)) (ha : AscK es) (hl : es.length ≤ 1000) : ∃ es1 es2, es = es1 ++ es2 ∧ (∀ x ∈ es1, x.1 < k) ∧
    ((k ∉ es.map Prod.fst ∧ (∀ x ∈ es2, k < x.1) ∧ m15_tree_node_find i k A = some (((es1.length : Nat) : Int), false)) ∨ ∃ t0 rest, es2 = (k, t0) :: rest ∧ (∀ x ∈ rest, k < x.1) ∧ m15_tree_node_find i k A = some (((es1.length : Nat) : Int), true)) := by
  have hp := pos_len (es := es) (k := k)
  have hlen : (es.take (pos (es.map Prod.fst) k)).length = pos (es.map Prod.fst) k := by rw [List.length_take]; omega
  refine ⟨es.take (pos (es.map Prod.fst) k), es.drop (pos (es.map Prod.fst) k), (List.take_append_drop _ _).symm, es_lt ha, ?_⟩
  have hf := find_node (k := k) hu ha hl
  by_cases c : k ∈ es.map Prod.fst
  · obtain ⟨t0, rest, e1, e2⟩ := es_at ha c
    exact .inr ⟨t0, rest, e1, e2, by rw [hf, hlen]; simp only [c, decide_true]⟩
  · exact .inl ⟨c, es_gt ha c, by rw [hf, hlen]; simp only [c, decide_false]⟩
theorem kids_split (hl : chs.length = (es1 ++ es2).length + 1) : ∃ ch1 c ch2, chs = ch1 ++ c :: ch2 ∧ ch1.length = es1.length ∧ ch2.length = es2.length := by
  rw [List.length_append] at hl
  exact ⟨chs.take es1.length, chs[es1.length]'(by omega), chs.drop (es1.length + 1), at_place chs es1.length (by omega), by rw [List.length_take]; omega, by rw [List.length_drop]; omega⟩
/-- A node told anew where nothing below it turns. -/
theorem rep_set (hs : Sub A h es1 chs) (hn : (i.toNat :: chs.flatMap Ch.F).Nodup) (hi0 : 0 ≤ i) (hil : i < A.length) (h1 : lo ≤ es1.length) (h2 : es1.length ≤ hi) : Rep (A.set i.toNat (node es1 chs)) h lo hi i (mix es1 chs) (i.toNat :: chs.flatMap Ch.F) :=
  rep_iff.2 ⟨es1, chs, idx_set_eq hi0 (by omega), h1, h2, hs.frame fun x hx q hq => List.getElem?_set_ne fun e => (List.nodup_cons.1 hn).1 (by rw [e]; exact List.mem_flatMap.2 ⟨x, hx, hq⟩), rfl, rfl⟩
theorem frm_set (hi0 : 0 ≤ i) (hF : i.toNat ∈ F) : Frm A (A.set i.toNat u) F := ⟨by simp, fun q hq hq2 => List.getElem?_set_ne fun e => hq2 (by rw [← e]; exact hF)⟩
theorem Sub.re (hs : Sub A h es1 chs) (hl : es2.length = es1.length) : Sub A h es2 chs := by
  cases h with
  | zero => exact hs
  | succ h => exact ⟨by rw [hl]; exact hs.1, hs.2⟩
theorem node_texts {t0 : List UInt8} {rest : List KV} (chs : List Ch) : upd (node (es1 ++ (k, t0) :: rest) chs).texts_ ((es1.length : Nat) : Int) t = some ((es1 ++ (k, t) :: rest).map Prod.snd) := by
  unfold upd
  rw [if_pos ⟨by omega, by simp [node]; omega⟩]
  simp [node]
/-- The key is here: its text is turned. -/
theorem put_found {t0 : List UInt8} {rest : List KV} (hu : idx A i = some (node (es1 ++ (k, t0) :: rest) chs)) (g1 : lo ≤ (es1 ++ (k, t0) :: rest).length) (g2 : (es1 ++ (k, t0) :: rest).length ≤ 4) (g3 : Sub A h (es1 ++ (k, t0) :: rest) chs)
    (ha : AscK (mix (es1 ++ (k, t0) :: rest) chs)) (hn : (i.toNat :: chs.flatMap Ch.F).Nodup) (ok : Ok A) (hf : m15_tree_node_find i k A = some (((es1.length : Nat) : Int), true)) :
    ∃ A' F', m17_tree_node_putR (n + 1) i k t A = some (A', decide (k ∉ (mix (es1 ++ (k, t0) :: rest) chs).map Prod.fst)) ∧ Rep A' h lo 5 i (putK (mix (es1 ++ (k, t0) :: rest) chs) k t) F' ∧ Frm A A' (i.toNat :: chs.flatMap Ch.F) ∧ F'.Nodup ∧ (∀ q ∈ F', q ∈ i.toNat :: chs.flatMap Ch.F ∨ A.length ≤ q) ∧ Ok A' := by
  have h0 := idx_some hu
  have hmem : k ∈ (mix (es1 ++ (k, t0) :: rest) chs).map Prod.fst := ((es_sub _ chs).map Prod.fst).subset (by simp)
  have hb : idx (node (es1 ++ (k, t0) :: rest) chs).texts_ ((es1.length : Nat) : Int) = some t0 := by rw [idx_nat]; simp [node]
  rw [mix_cut es1 chs g3.shape] at ha
  obtain ⟨_, a2, a3⟩ := asc_app.1 ha
  refine ⟨A.set i.toNat (node (es1 ++ (k, t) :: rest) chs), _, ?_, ?_, frm_set h0.1 List.mem_cons_self, hn, fun q hq => .inl hq, ok.set fun c hc => ok.at hu c hc⟩
  · rw [m17_tree_node_putR, m17_tree_node_putB, hf, bind2_some, if_pos rfl, m17_tree_node_put_K1, if_pos rfl, hu, bind1_some, hb, bind1_some, node_texts, bind1_some, upd_at h0.1 h0.2.1, bind1_some]
    simp only [hmem, not_true_eq_false, decide_false]
    simp [node]
  · have hl : (es1 ++ (k, t) :: rest).length = (es1 ++ (k, t0) :: rest).length := by simp
    have h9 := rep_set (lo := lo) (hi := 5) (g3.re hl) hn h0.1 h0.2.1 (by omega) (by omega)
    rw [mix_cut es1 chs g3.shape, put_at (fun x hx => a3 x hx (k, t0) List.mem_cons_self) (asc_cons.1 a2).1]
    rw [mix_cut es1 chs (by rw [hl]; exact g3.shape)] at h9
    exact h9
theorem put_rep (k : Int) (t : List UInt8) : ∀ (h lo : Nat) (i : Int) (kv : List KV) (F : List Nat) (A : List Tnode), Rep A h lo 4 i kv F → AscK kv → F.Nodup → Ok A → ∀ n, h < n →
    ∃ A' F', m17_tree_node_putR n i k t A = some (A', decide (k ∉ kv.map Prod.fst)) ∧ Rep A' h lo 5 i (putK kv k t) F' ∧ Frm A A' F ∧ F'.Nodup ∧ (∀ q ∈ F', q ∈ F ∨ A.length ≤ q) ∧ Ok A' := by
  intro h
  induction h with
  | zero =>
    intro lo i kv F A hr ha hn ok n hn0
    obtain ⟨n, rfl⟩ := dec n hn0
    obtain ⟨es, chs, hu, g1, g2, g3, rfl, rfl⟩ := rep_iff.1 hr
    have h0 := idx_some hu
    have hae : AscK es := List.Pairwise.sublist ((es_sub es chs).map Prod.fst) ha
    obtain ⟨es1, es2, rfl, hlt, ⟨hm, hgt, hf⟩ | ⟨t0, rest, rfl, hgt, hf⟩⟩ := find_split k hu hae (by omega)
    · obtain rfl : chs = [] := g3
      rw [mix_nil] at ha ⊢
      have q1 : xInsR (node (es1 ++ es2) []).keys_ ((es1.length : Nat) : Int) k = some ((es1 ++ (k, t) :: es2).map Prod.fst) := by
        unfold xInsR
        rw [if_pos ⟨by omega, by simp [node]; omega, by simp [node]; simp at g2; omega⟩]
        simp [node]
      have q2 : xInsR (node (es1 ++ es2) []).texts_ ((es1.length : Nat) : Int) t = some ((es1 ++ (k, t) :: es2).map Prod.snd) := by
        unfold xInsR
        rw [if_pos ⟨by omega, by simp [node]; omega, by simp [node]; simp at g2; omega⟩]
        simp [node]
      have hs : Sub A 0 (es1 ++ (k, t) :: es2) [] := rfl
      have h9 := rep_set (lo := lo) (hi := 5) hs hn h0.1 h0.2.1 (by simp at g1 ⊢; omega) (by simp at g2 ⊢; omega)
      rw [mix_nil] at h9
      refine ⟨A.set i.toNat (node (es1 ++ (k, t) :: es2) []), _, ?_, (by rw [put_new hlt hgt]; exact h9), frm_set h0.1 (by simp), hn, fun q hq => .inl hq, ok.set fun c hc => by simp [node] at hc⟩
      rw [m17_tree_node_putR, m17_tree_node_putB, hf, bind2_some, if_neg (by simp), m17_tree_node_put_K1, if_neg (by simp), hu, bind1_some, if_pos (by simp [node]), q1, bind1_some, q2, bind1_some, upd_at h0.1 h0.2.1, bind1_some]
      simp only [hm, not_false_eq_true, decide_true]
      simp [node]
    · exact put_found hu g1 g2 g3 ha hn ok hf
  | succ h ih =>
    intro lo i kv F A hr ha hn ok n hn0
    obtain ⟨n, rfl⟩ := dec n (by omega)
    obtain ⟨es, chs, hu, g1, g2, g3, rfl, rfl⟩ := rep_iff.1 hr
    have h0 := idx_some hu
    have hae : AscK es := List.Pairwise.sublist ((es_sub es chs).map Prod.fst) ha
    obtain ⟨es1, es2, rfl, hlt, ⟨hm, hgt, hf⟩ | ⟨t0, rest, rfl, hgt, hf⟩⟩ := find_split k hu hae (by omega)
    · obtain ⟨ch1, c, ch2, rfl, hl1, hl2⟩ := kids_split g3.1
      rw [mix_at es1 ch1 hl1 hl2] at ha ⊢
      obtain ⟨a1, a2, a3⟩ := asc_app.1 ha
      obtain ⟨b1, b2, b3⟩ := asc_app.1 a2
      have hL := lft_lt _ _ a1 hlt
      have hR := rgt_gt b2 hgt
      have hc := g3.2 c (by simp)
      have hin : i.toNat ∉ (ch1 ++ c :: ch2).flatMap Ch.F := (List.nodup_cons.1 hn).1
      have hnd := (List.nodup_cons.1 hn).2
      rw [List.flatMap_append, List.flatMap_cons] at hin hnd
      rw [List.nodup_append] at hnd
      obtain ⟨n1, n2, n3⟩ := hnd
      rw [List.nodup_append] at n2
      obtain ⟨n4, n5, n6⟩ := n2
      obtain ⟨A1, F1, e1, r1, f1, d1, s1, o1⟩ := ih 2 c.i c.kv c.F A hc b1 n4 ok n (by omega)
      have hu1 : idx A1 i = some (node (es1 ++ es2) (ch1 ++ ⟨c.i, putK c.kv k t, F1⟩ :: ch2)) := by
        have : A1[i.toNat]? = A[i.toNat]? := f1.2 _ (by omega) fun hq => hin (List.mem_append_right _ (List.mem_append_left _ hq))
        unfold idx
        rw [if_pos h0.1, this, h0.2.2]
        simp [node]
      have hr1 : ∀ x ∈ ch1 ++ ch2, Rep A1 h 2 4 x.i x.kv x.F := fun x hx => by
        have hx2 : x ∈ ch1 ++ c :: ch2 := by
          rcases List.mem_append.1 hx with h | h
          · exact List.mem_append_left _ h
          · exact List.mem_append_right _ (List.mem_cons_of_mem _ h)
        refine (g3.2 x hx2).frame fun q hq => f1.2 q (rep_lt (g3.2 x hx2) q hq) fun hq2 => ?_
        rcases List.mem_append.1 hx with h | h
        · exact n3 q (List.mem_flatMap.2 ⟨x, h, hq⟩) q (List.mem_append_left _ hq2) rfl
        · exact n6 q hq2 q (List.mem_flatMap.2 ⟨x, h, hq⟩) rfl
      have hlt1 : ∀ q ∈ ch1.flatMap Ch.F, q < A.length := fun q hq => by
        obtain ⟨x, hx, hq⟩ := List.mem_flatMap.1 hq
        exact rep_lt (g3.2 x (List.mem_append_left _ hx)) q hq
      have hlt2 : ∀ q ∈ ch2.flatMap Ch.F, q < A.length := fun q hq => by
        obtain ⟨x, hx, hq⟩ := List.mem_flatMap.1 hq
        exact rep_lt (g3.2 x (List.mem_append_right _ (List.mem_cons_of_mem _ hx))) q hq
      have hn1 : (i.toNat :: (ch1 ++ ⟨c.i, putK c.kv k t, F1⟩ :: ch2).flatMap Ch.F).Nodup := by
        rw [List.flatMap_append, List.flatMap_cons]
        refine List.nodup_cons.2 ⟨fun hq => ?_, List.nodup_append.2 ⟨n1, List.nodup_append.2 ⟨d1, n5, fun q hq q2 hq2 e => ?_⟩, fun q hq q2 hq2 e => ?_⟩⟩
        · rcases List.mem_append.1 hq with h | h
          · exact hin (List.mem_append_left _ h)
          · rcases List.mem_append.1 h with h | h
            · rcases s1 _ h with h | h
              · exact hin (List.mem_append_right _ (List.mem_append_left _ h))
              · omega
            · exact hin (List.mem_append_right _ (List.mem_append_right _ h))
        · subst e
          rcases s1 _ hq with h | h
          · exact n6 q h q hq2 rfl
          · have := hlt2 q hq2; omega
        · subst e
          rcases List.mem_append.1 hq2 with h | h
          · rcases s1 _ h with h | h
            · exact n3 q hq q (List.mem_append_left _ h) rfl
            · have := hlt1 q hq; omega
          · exact n3 q hq q (List.mem_append_right _ h) rfl
      obtain ⟨A2, F2, e2, ⟨m, hm9, r2⟩, f2, d2, s2, o2⟩ := lift_rep (c := ⟨c.i, putK c.kv k t, F1⟩) hu1 hl1 hl2 g2 g1 hr1 r1 hn1 o1
      have hsub : ∀ q ∈ i.toNat :: (ch1 ++ ⟨c.i, putK c.kv k t, F1⟩ :: ch2).flatMap Ch.F, q ∈ i.toNat :: (ch1 ++ c :: ch2).flatMap Ch.F ∨ A.length ≤ q := fun q hq => by
        rw [List.flatMap_append, List.flatMap_cons] at hq ⊢
        simp only [List.mem_cons, List.mem_append] at hq ⊢
        rcases hq with h | h | h | h
        · exact .inl (.inl h)
        · exact .inl (.inr (.inl h))
        · rcases s1 _ h with h | h
          · exact .inl (.inr (.inr (.inl h)))
          · exact .inr h
        · exact .inl (.inr (.inr (.inr h)))
      rw [mix_at es1 ch1 hl1 hl2] at r2
      have hmk : decide (k ∉ c.kv.map Prod.fst) = decide (k ∉ (Lft es1 ch1 ++ (c.kv ++ Rgt es2 ch2)).map Prod.fst) := by
        have w1 : k ∉ (Lft es1 ch1).map Prod.fst := fun h => by
          obtain ⟨x, hx, rfl⟩ := List.mem_map.1 h
          have := hL x hx; omega
        have w2 : k ∉ (Rgt es2 ch2).map Prod.fst := fun h => by
          obtain ⟨x, hx, rfl⟩ := List.mem_map.1 h
          have := hR x hx; omega
        simp only [List.map_append, List.mem_append, w1, w2, false_or, or_false]
      refine ⟨A2, F2, ?_, (by rw [put_mid hL hR]; exact r2.wk (by omega) (by omega)), ⟨Nat.le_trans f1.1 f2.1, fun q hq hq2 => ?_⟩, d2, fun q hq => ?_, o2⟩
      · have hkp : idx ((node (es1 ++ es2) (ch1 ++ c :: ch2)).kids_) ((es1.length : Nat) : Int) = some c.i := by
          show idx ((ch1 ++ c :: ch2).map Ch.i) _ = _
          rw [idx_nat, List.map_append, List.map_cons, List.getElem?_append_right (by simp; omega)]
          simp [hl1]
        rw [m17_tree_node_putR, m17_tree_node_putB, hf, bind2_some, if_neg (by simp), m17_tree_node_put_K1, if_neg (by simp), hu, bind1_some, if_neg (by simp [node]; omega), m17_tree_node_put_K2, hu, bind1_some, hkp, bind1_some, ck_pos h0.2.1, bind1_some, e1, bind2_some, e2, bind1_some, hmk]
      · rw [f2.2 q (by have := f1.1; omega) fun h => ?_, f1.2 q hq fun h => hq2 ?_]
        · rw [List.flatMap_append, List.flatMap_cons]
          exact List.mem_cons_of_mem _ (List.mem_append_right _ (List.mem_append_left _ h))
        · rcases hsub q h with h | h
          · exact hq2 h
          · omega
      · rcases s2 q hq with h | h
        · exact hsub q h
        · exact .inr (Nat.le_trans f1.1 h)
    · exact put_found hu g1 g2 g3 ha hn ok hf
end
end Go.Proofs.Ytdebhhjbgbkbjaa
