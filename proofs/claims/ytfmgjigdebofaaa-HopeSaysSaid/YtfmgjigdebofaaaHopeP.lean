/-
  Package hope in plain terms: what is a right list of tries, and which ones are let go.
  Conditions: none.
-/
import Derived.Test.YtfmgjigdebofaaaC
namespace Go.Proofs.Ytfmgjigdebofaaa.HopeP
open Go.S

structure TryV where
  s : Int
  e : Int
  rv : Value
  wv : Value
  rs : List Int
  ws : List Int
def TryV.row (x : TryV) : List Value := [.int .i64 x.s, .int .i64 x.e, x.rv, x.wv]
def Tries (w : World) (v : Value) (l : List TryV) : Prop := At w v 4 (l.map TryV.row) ∧ ∀ x ∈ l, At w x.rv 1 (ints x.rs) ∧ At w x.wv 1 (ints x.ws)
theorem Tries.cls0 {w0 w : World} {m : List As} {v : Value} {l : List TryV} (h : Tries w0 v l) (hc : Cls w0 [] m w) : Tries w v l := ⟨h.1.cls0 hc, fun x hx => ⟨(h.2 x hx).1.cls0 hc, (h.2 x hx).2.cls0 hc⟩⟩

theorem row_one {w : World} {x : TryV} {rs ws : List (List Value)} (h1 : At w x.rv 1 rs) (h2 : At w x.wv 1 ws) : ∀ u ∈ x.row, u.oneCell' = true := by
  intro u hu
  simp only [TryV.row, List.mem_cons, List.not_mem_nil, or_false] at hu
  rcases hu with rfl | rfl | rfl | rfl
  · rfl
  · rfl
  · exact h1.one
  · exact h2.one

def badKey (k : Int) : Bool := decide (k < 0) || decide (20 ≤ k)
theorem badKey_no {k : Int} (h : ¬ k < 0) (h' : ¬ 20 ≤ k) : badKey k = false := by simp [badKey]; omega
theorem badKey_yes {k : Int} (h : k < 0 ∨ 20 ≤ k) : badKey k = true := by simp [badKey]; omega
def chkOne (prev : Option Int) (t : TryV) : Int :=
  if t.s < 0 ∨ t.e ≤ t.s ∨ 100000 < t.e then 1 else
  if 20 < t.rs.length ∨ 20 < t.ws.length then 2 else
  if (t.rs ++ t.ws).any badKey then 1 else
  match prev with
  | some p => if t.e ≤ p then 4 else 0
  | none => 0
def chkL (prev : Option Int) : List TryV → Int
  | [] => 0
  | t :: r => if chkOne prev t ≠ 0 then chkOne prev t else chkL (some t.e) r
/-- The error of a list of tries. -/
def chk (l : List TryV) : Int := if 40 < l.length then 2 else chkL none l
def prevOf (l : List TryV) (k : Nat) : Option Int := if k = 0 then none else (l[k - 1]?).map (·.e)

theorem chk_small {l : List TryV} (h : ¬ 40 < l.length) : chk l = chkL none l := by simp [chk, h]
theorem chk_big {l : List TryV} (h : 40 < l.length) : chk l = 2 := by simp [chk, h] 
theorem drop_get {α : Type} {l : List α} {k : Nat} {x : α} (h : l[k]? = some x) : l.drop k = x :: l.drop (k + 1) := by
  obtain ⟨hk, rfl⟩ := List.getElem?_eq_some_iff.1 h
  exact List.drop_eq_getElem_cons hk
theorem prevOf_succ {l : List TryV} {k : Nat} {x : TryV} (h : l[k]? = some x) : prevOf l (k + 1) = some x.e := by simp [prevOf, h]
theorem chkL_ok {l : List TryV} {k : Nat} {x : TryV} (h : l[k]? = some x) (h0 : chkOne (prevOf l k) x = 0) : chkL (prevOf l k) (l.drop k) = chkL (prevOf l (k + 1)) (l.drop (k + 1)) := by
  rw [drop_get h, chkL, if_neg (by simp [h0]), prevOf_succ h]
theorem chkL_err {l : List TryV} {k : Nat} {x : TryV} {c : Int} (h : l[k]? = some x) (h0 : chkOne (prevOf l k) x = c) (hc : c ≠ 0) : chkL (prevOf l k) (l.drop k) = c := by
  rw [drop_get h, chkL, h0, if_pos hc]
theorem chkOne_arg {p : Option Int} {t : TryV} (h : t.s < 0 ∨ t.e ≤ t.s ∨ 100000 < t.e) : chkOne p t = 1 := by unfold chkOne; rw [if_pos h]
theorem chkOne_large {p : Option Int} {t : TryV} (h1 : ¬ t.s < 0) (h2 : ¬ t.e ≤ t.s) (h3 : ¬ 100000 < t.e) (h : 20 < t.rs.length ∨ 20 < t.ws.length) : chkOne p t = 2 := by
  unfold chkOne; rw [if_neg (by omega), if_pos h]
theorem chkOne_key {p : Option Int} {t : TryV} {y : Int} (h1 : ¬ t.s < 0) (h2 : ¬ t.e ≤ t.s) (h3 : ¬ 100000 < t.e) (h4 : t.rs.length ≤ 20) (h5 : t.ws.length ≤ 20) (hy : y ∈ t.rs ++ t.ws) (hb : badKey y = true) : chkOne p t = 1 := by
  unfold chkOne; rw [if_neg (by omega), if_neg (by omega), if_pos (List.any_eq_true.2 ⟨y, hy, hb⟩)]
theorem chkOne_form {l : List TryV} {k : Nat} {t z : TryV} (h1 : ¬ t.s < 0) (h2 : ¬ t.e ≤ t.s) (h3 : ¬ 100000 < t.e) (h4 : t.rs.length ≤ 20) (h5 : t.ws.length ≤ 20) (hall : ∀ y ∈ t.rs ++ t.ws, badKey y = false) (hk : 0 < k) (hz : l[k - 1]? = some z) (h : t.e ≤ z.e) : chkOne (prevOf l k) t = 4 := by
  have : ¬ ((t.rs ++ t.ws).any badKey = true) := by
    intro h
    obtain ⟨y, hy, hb⟩ := List.any_eq_true.1 h
    rw [hall y hy] at hb; cases hb
  unfold chkOne; rw [if_neg (by omega), if_neg (by omega), if_neg this]
  simp [prevOf, show ¬ k = 0 by omega, hz, h]
theorem chkOne_ok {l : List TryV} {k : Nat} {t : TryV} (h1 : ¬ t.s < 0) (h2 : ¬ t.e ≤ t.s) (h3 : ¬ 100000 < t.e) (h4 : t.rs.length ≤ 20) (h5 : t.ws.length ≤ 20) (hall : ∀ y ∈ t.rs ++ t.ws, badKey y = false) (h : k = 0 ∨ ∃ z, l[k - 1]? = some z ∧ z.e < t.e) : chkOne (prevOf l k) t = 0 := by
  have : ¬ ((t.rs ++ t.ws).any badKey = true) := by
    intro h
    obtain ⟨y, hy, hb⟩ := List.any_eq_true.1 h
    rw [hall y hy] at hb; cases hb
  unfold chkOne; rw [if_neg (by omega), if_neg (by omega), if_neg this]
  rcases h with h | ⟨z, hz, h⟩
  · simp [prevOf, h]
  · by_cases hk : k = 0
    · simp [prevOf, hk]
    · simp [prevOf, hk, hz]; omega
theorem all_step {xs : List Int} {q : Nat} {y : Int} (h : xs[q]? = some y) (ha : ∀ y ∈ xs.take q, badKey y = false) (hb : badKey y = false) : ∀ z ∈ xs.take (q + 1), badKey z = false := by
  obtain ⟨hq, he⟩ := List.getElem?_eq_some_iff.1 h
  intro z hz
  rw [List.take_succ_eq_append_getElem hq, List.mem_append] at hz
  rcases hz with hz | hz
  · exact ha z hz
  · simp only [List.mem_singleton] at hz
    rw [hz, he]; exact hb
theorem all_all {xs : List Int} {q : Nat} (ha : ∀ y ∈ xs.take q, badKey y = false) (hq : xs.length ≤ q) : ∀ y ∈ xs, badKey y = false := by
  rwa [List.take_of_length_le hq] at ha
theorem two_at {w : World} {a b : Value} {xs ys : List Int} (ha : At w a 1 (ints xs)) (hb : At w b 1 (ints ys)) : ∀ (i : Nat) (u : Value) (zs : List Int), [a, b][i]? = some u → [xs, ys][i]? = some zs → At w u 1 (ints zs) := by
  intro i u zs hu hz
  match i, hu, hz with
  | 0, hu, hz =>
    simp only [List.getElem?_cons_zero, Option.some.injEq] at hu hz
    subst hu; subst hz; exact ha
  | 1, hu, hz =>
    simp only [List.getElem?_cons_succ, List.getElem?_cons_zero, Option.some.injEq] at hu hz
    subst hu; subst hz; exact hb
  | i + 2, hu, hz => simp at hu
theorem flat_step {xs ys zs : List Int} {p : Nat} (h : [xs, ys][p]? = some zs) (ha : ∀ y ∈ ([xs, ys].take p).flatten, badKey y = false) (hb : ∀ y ∈ zs, badKey y = false) : ∀ y ∈ ([xs, ys].take (p + 1)).flatten, badKey y = false := by
  obtain ⟨hp, he⟩ := List.getElem?_eq_some_iff.1 h
  intro y hy
  rw [List.take_succ_eq_append_getElem hp, List.flatten_append, List.mem_append] at hy
  rcases hy with hy | hy
  · exact ha y hy
  · rw [he] at hy; exact hb y (by simpa using hy)
theorem flat_two {xs ys : List Int} {p : Nat} (ha : ∀ y ∈ ([xs, ys].take p).flatten, badKey y = false) (hp : 2 ≤ p) : ∀ y ∈ xs ++ ys, badKey y = false := by
  rw [List.take_of_length_le (by simpa using hp)] at ha
  simpa using ha
theorem mem_two {xs ys zs : List Int} {p : Nat} {y : Int} (h : [xs, ys][p]? = some zs) (hy : y ∈ zs) : y ∈ xs ++ ys := by
  match p, h with
  | 0, h => simp only [List.getElem?_cons_zero, Option.some.injEq] at h; subst h; simp [hy]
  | 1, h => simp only [List.getElem?_cons_succ, List.getElem?_cons_zero, Option.some.injEq] at h; subst h; simp [hy]
  | p + 2, h => simp at h
/-- Have two lists something in common? -/
def inter (a b : List Int) : Bool := a.any fun z => decide (z ∈ b)
theorem inter_step {xs ys : List Int} {k : Nat} {x : Int} (h : xs[k]? = some x) : inter (xs.drop k) ys = (decide (x ∈ ys) || inter (xs.drop (k + 1)) ys) := by
  rw [drop_get h, inter, List.any_cons]; rfl
theorem box_one {w : World} {u : Value} {k : Nat} {rows : List (List Value)} (h : At w u k rows) : u.cells.toList[0]? = some u := by rw [h.cells1]; rfl
/-- Does the earlier one take away what the later one has read? -/
def clash (t u : TryV) : Bool := decide (t.s < u.e) && inter u.ws t.rs
def anyQ (l : List TryV) (os : List Bool) (t : TryV) (q : Nat) : Bool := ((l.zip os).take q).any fun p => p.2 && clash t p.1
/-- The verdicts on the first k. -/
def judgeN (l : List TryV) : Nat → List Bool
  | 0 => []
  | k + 1 => match l[k]? with
    | some t => judgeN l k ++ [!(anyQ l (judgeN l k) t k)]
    | none => judgeN l k
theorem judgeN_succ {l : List TryV} {k : Nat} {t : TryV} (h : l[k]? = some t) : judgeN l (k + 1) = judgeN l k ++ [!(anyQ l (judgeN l k) t k)] := by rw [judgeN]; simp only [h]
theorem judgeN_length {l : List TryV} : ∀ {k : Nat}, k ≤ l.length → (judgeN l k).length = k
  | 0, _ => rfl
  | k + 1, h => by
    obtain ⟨t, ht⟩ : ∃ t, l[k]? = some t := ⟨_, List.getElem?_eq_getElem (by omega)⟩
    rw [judgeN_succ ht, List.length_append, judgeN_length (by omega)]; rfl
theorem anyQ_step {l : List TryV} {os : List Bool} {t u : TryV} {q : Nat} {o : Bool} (hu : l[q]? = some u) (ho : os[q]? = some o) : anyQ l os t (q + 1) = (anyQ l os t q || (o && clash t u)) := by
  have hz : (l.zip os)[q]? = some (u, o) := by rw [List.getElem?_zip_eq_some]; exact ⟨hu, ho⟩
  obtain ⟨hq, he⟩ := List.getElem?_eq_some_iff.1 hz
  rw [anyQ, List.take_succ_eq_append_getElem hq, List.any_append, he]
  simp [anyQ]
theorem clash_yes {t u : TryV} (h : t.s < u.e) (h' : inter u.ws t.rs = true) : clash t u = true := by simp [clash, h, h']
theorem clash_no {t u : TryV} (h : ¬ t.s < u.e ∨ inter u.ws t.rs = false) : clash t u = false := by
  rcases h with h | h
  · simp [clash, h]
  · simp [clash, h]
theorem chk_len {l : List TryV} (h : chk l = 0) : l.length ≤ 40 := by
  unfold chk at h
  split at h
  · omega
  · omega
theorem not_false_out {b : Bool} (h : (!b) = false) : b = true := by cases b <;> simp_all
theorem not_true_out {b : Bool} (h : (!b) = true) : b = false := by cases b <;> simp_all
theorem anyQ_zero (l : List TryV) (os : List Bool) (t : TryV) : anyQ l os t 0 = false := by simp [anyQ]
theorem set_mid (a c : List Bool) (b b' : Bool) (k : Nat) (h : a.length = k) : (a ++ [b] ++ c).set k b' = a ++ [b'] ++ c := by
  subst h; simp
theorem get_mid {a c : List Bool} {q : Nat} {o : Bool} (h : a[q]? = some o) : (a ++ c)[q]? = some o := by
  rw [List.getElem?_append_left (List.getElem?_eq_some_iff.1 h).1]; exact h
theorem rep_mid (a : List Bool) (n k : Nat) (h : k < n) : a ++ List.replicate (n - k) false = a ++ [false] ++ List.replicate (n - (k + 1)) false := by
  rw [show n - k = (n - (k + 1)) + 1 by omega, List.replicate_succ]; simp
end Go.Proofs.Ytfmgjigdebofaaa.HopeP
