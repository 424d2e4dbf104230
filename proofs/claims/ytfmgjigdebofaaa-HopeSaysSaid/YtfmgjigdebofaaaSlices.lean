/-
  What Go's package slices does at these instances.
  Conditions: as each theorem says.
-/
import Derived.Test.YtfmgjigdebofaaaRows
import Derived.Test.YtfmgjigdebofaaaC
namespace Go.Proofs.Ytfmgjigdebofaaa.Slices
open Go.S
theorem ag3 : aggB Try.prog 3 false = true := by kernel_rfl
theorem ag4 : aggB Try.prog 4 false = true := by kernel_rfl
theorem ag24 : aggB Try.prog 24 false = true := by kernel_rfl
theorem el3 : elemB Try.prog 3 1 8 = true := by kernel_rfl
theorem en121 : entB Try.prog 121 = true := by kernel_rfl
theorem en133 : entB Try.prog 133 = true := by kernel_rfl
theorem en145 : entB Try.prog 145 = true := by kernel_rfl
theorem sz3 : szB Try.prog 3 1 = true := by kernel_rfl
theorem sz4 : szB Try.prog 4 1 = true := by kernel_rfl
theorem sz24 : szB Try.prog 24 1 = true := by kernel_rfl
theorem ze3 : zeroB Try.prog 3 = some [.int .i64 0] := by kernel_rfl
theorem mixed : Try.prog.follows .mixedOrders = true := by kernel_rfl
theorem have_get {α : Type} {l : List α} {k : Nat} (h : k < l.length) : ∃ x, l[k]? = some x := ⟨_, List.getElem?_eq_getElem h⟩
theorem take_flat_eq {xss : List (List Int)} {k : Nat} {xs : List Int} (h : xss[k]? = some xs) : (xss.take (k + 1)).flatten = (xss.take k).flatten ++ xs := by
  obtain ⟨hk, he⟩ := List.getElem?_eq_some_iff.1 h
  rw [List.take_succ_eq_append_getElem hk, he]
  simp
theorem take_le (xss : List (List Int)) (k : Nat) : (xss.take k).flatten.length ≤ xss.flatten.length := by
  have : xss.flatten = (xss.take k).flatten ++ (xss.drop k).flatten := by rw [← List.flatten_append, List.take_append_drop]
  rw [this]; simp
theorem take_flat {xss : List (List Int)} {k : Nat} {xs : List Int} (h : xss[k]? = some xs) : (xss.take (k + 1)).flatten.length = (xss.take k).flatten.length + xs.length ∧ (xss.take (k + 1)).flatten.length ≤ xss.flatten.length := by
  refine ⟨by rw [take_flat_eq h]; simp, ?_⟩
  have : xss.flatten = (xss.take (k + 1)).flatten ++ (xss.drop (k + 1)).flatten := by rw [← List.flatten_append, List.take_append_drop]
  rw [this]; simp
def ixFrom (k : Nat) : List Int → Int → Int
  | [], _ => -1
  | x :: r, z => if x = z then k else ixFrom (k + 1) r z
/-- The first place of a number, or -1. -/
def ix (l : List Int) (z : Int) : Int := ixFrom 0 l z
theorem drop_get {α : Type} {l : List α} {k : Nat} {x : α} (h : l[k]? = some x) : l.drop k = x :: l.drop (k + 1) := by
  obtain ⟨hk, rfl⟩ := List.getElem?_eq_some_iff.1 h
  exact List.drop_eq_getElem_cons hk
theorem ixFrom_step {xs : List Int} {k : Nat} {x z : Int} (h : xs[k]? = some x) : ixFrom k (xs.drop k) z = if x = z then (k : Int) else ixFrom (k + 1) (xs.drop (k + 1)) z := by
  rw [drop_get h, ixFrom]
def ixfFrom (k : Nat) : List Int → (Int → Bool) → Int
  | [], _ => -1
  | x :: r, p => if p x then k else ixfFrom (k + 1) r p
/-- The first place of a number of which p holds, or -1. -/
def ixf (l : List Int) (p : Int → Bool) : Int := ixfFrom 0 l p
theorem ixfFrom_step {xs : List Int} {k : Nat} {x : Int} {p : Int → Bool} (h : xs[k]? = some x) : ixfFrom k (xs.drop k) p = if p x then (k : Int) else ixfFrom (k + 1) (xs.drop (k + 1)) p := by
  rw [drop_get h, ixfFrom]
theorem ixfFrom_any (p : Int → Bool) : ∀ (l : List Int) (k : Nat), decide (0 ≤ ixfFrom k l p) = l.any p
  | [], k => by simp [ixfFrom]
  | x :: r, k => by
    rw [ixfFrom, List.any_cons]
    cases h : p x with
    | true => simp
    | false => simpa using ixfFrom_any p r (k + 1)
theorem ixf_any (l : List Int) (p : Int → Bool) : decide (0 ≤ ixf l p) = l.any p := ixfFrom_any p l 0
theorem ixFrom_mem (z : Int) : ∀ (l : List Int) (k : Nat), decide (0 ≤ ixFrom k l z) = decide (z ∈ l)
  | [], k => by simp [ixFrom]
  | x :: r, k => by
    rw [ixFrom]
    by_cases h : x = z
    · simp [h]
    · rw [if_neg h, ixFrom_mem z r (k + 1)]
      have h2 : ¬ z = x := fun e => h e.symm
      simp [h2]
theorem ix_mem (l : List Int) (z : Int) : decide (0 ≤ ix l z) = decide (z ∈ l) := ixFrom_mem z l 0
theorem take_eq_step {α : Type} {xs ys : List α} {k : Nat} {x y : α} (hx : xs[k]? = some x) (hy : ys[k]? = some y) (h : xs.take k = ys.take k) (e : x = y) : xs.take (k + 1) = ys.take (k + 1) := by
  obtain ⟨h1, h2⟩ := List.getElem?_eq_some_iff.1 hx
  obtain ⟨h3, h4⟩ := List.getElem?_eq_some_iff.1 hy
  rw [List.take_succ_eq_append_getElem h1, List.take_succ_eq_append_getElem h3, h, h2, h4, e]
theorem take_ne_step {α : Type} {xs ys : List α} {k : Nat} {x y : α} (hx : xs[k]? = some x) (hy : ys[k]? = some y) (hne : x ≠ y) (e : xs = ys) : False := by
  subst e
  rw [hx] at hy
  injection hy with hy
  exact hne hy
theorem take_all {α : Type} {xs ys : List α} {k : Nat} (h : xs.take k = ys.take k) (h1 : xs.length ≤ k) (h2 : ys.length ≤ k) : xs = ys := by
  rwa [List.take_of_length_le h1, List.take_of_length_le h2] at h
set_option maxRecDepth 100000 in
theorem grow_nil (n : Nat) (hn : n ≤ 1000) (w : World) : Does Try.prog 145 [.slice none 0 0, .int .i64 (n : Nat)] w fun u m => m = [.sl u 3 1 []] := by
  refine body (n := 27) Try.func145 rfl rfl rfl (Cls.refl w) ?_
  refine W.seq ?_
  refine W.region ?_
  refine L.y rfl (Y.assign rfl) ?_
  refine L.nil ?_
  refine E.thenN ?_
  refine W.seq ?_
  refine W.seq ?_
  refine W.region ?_
  refine L.y rfl (Y.move rfl) ?_
  refine L.split rfl (Y.lss rfl rfl) (fun h1 => ?_) (fun h1 => ?_)
  ·
    exfalso; omega
  ·
    refine L.nil ?_
    refine E.thenN ?_
    refine W.condF rfl ?_
    refine W.skip ?_
    refine E.thenN ?_
    refine W.seq ?_
    refine W.seq ?_
    refine W.region ?_
    refine L.y rfl (Y.move rfl) ?_
    refine L.y rfl (Y.move rfl) ?_
    refine L.y rfl (Y.capNil Try.underlying24 rfl) ?_
    refine L.y rfl (Y.move rfl) ?_
    refine L.y rfl (Y.lenNil Try.underlying24 rfl) ?_
    refine L.y rfl (Y.sub rfl rfl (i64_in (by omega) (by omega))) ?_
    refine L.y rfl (Y.asI (b := (n : Nat)) (by omega) (Y.sub rfl rfl (i64_in (by omega) (by omega)))) ?_
    refine L.y rfl (Y.assign rfl) ?_
    refine L.nil ?_
    refine E.thenN ?_
    refine W.seq ?_
    refine W.region ?_
    refine L.y rfl (Y.move rfl) ?_
    refine L.split rfl (Y.gtr rfl rfl) (fun h2 => ?_) (fun h2 => ?_)
    ·
      refine L.nil ?_
      refine E.thenN ?_
      refine W.condT rfl ?_
      refine W.region ?_
      refine L.y rfl (Y.move rfl) ?_
      refine L.y rfl (Y.move rfl) ?_
      refine L.y rfl (Y.capNil Try.underlying24 rfl) ?_
      refine L.y rfl (Y.cutNil Try.underlying24 sz3 rfl rfl) ?_
      refine L.y rfl (Y.move rfl) ?_
      refine L.appendZeros (l := n) rfl Try.underlying24 Try.underlying3 el3 ze3 rfl rfl (by omega) (by omega) (by omega) ?_
      intro z
      refine L.y rfl (Y.move rfl) ?_
      refine L.y rfl (Y.lenNil Try.underlying24 rfl) ?_
      refine L.cut (i := 0) rfl Try.underlying24 sz3 rfl rfl rfl (by omega) (by omega) ?_
      intro u
      refine L.y rfl (Y.assign rfl) ?_
      refine L.nil ?_
      refine E.thenN ?_
      refine W.seq ?_
      refine W.region ?_
      refine L.y rfl (Y.move rfl) ?_
      refine L.y rfl (Y.assign rfl) ?_
      refine L.nil ?_
      refine E.thenN ?_
      refine W.ret ?_
      refine E.ret1 rfl rfl (fun w hw => ?_)
      exact ⟨_, _, rfl, rfl, hw⟩
    ·
      refine L.nil ?_
      refine E.thenN ?_
      refine W.condF rfl ?_
      refine W.skip ?_
      refine E.thenN ?_
      refine W.seq ?_
      refine W.region ?_
      refine L.y rfl (Y.move rfl) ?_
      refine L.y rfl (Y.assign rfl) ?_
      refine L.nil ?_
      refine E.thenN ?_
      refine W.ret ?_
      refine E.ret1 rfl rfl (fun w hw => ?_)
      exact ⟨_, _, rfl, rfl, hw.nilSl 3 1⟩
set_option maxRecDepth 100000 in
theorem concat_ints (vs : List Value) (xss : List (List Int)) (v : Value) (w : World) (hv : At w v 1 (vsl vs)) (hl : vs.length = xss.length) (hx : ∀ (i : Nat) (u : Value) (xs : List Int), vs[i]? = some u → xss[i]? = some xs → At w u 1 (ints xs)) (hb : xss.flatten.length ≤ 1000) (hn : vs.length ≤ 1000) : Does Try.prog 102 [v] w fun u m => m = [.sl u 3 1 (ints xss.flatten)] := by
  have hvl := vsl_length vs
  refine body (n := 36) Try.func102 rfl rfl rfl (Cls.refl w) ?_
  refine W.seq ?_
  refine W.region ?_
  refine L.y rfl (Y.assign rfl) ?_
  refine L.nil ?_
  refine E.thenN ?_
  refine W.seq ?_
  refine W.region ?_
  refine L.y rfl (Y.assign rfl) ?_
  refine L.nil ?_
  refine E.thenN ?_
  refine W.seq ?_
  refine W.seq ?_
  refine W.region ?_
  refine L.y rfl (Y.move rfl) ?_
  refine L.y rfl (Y.lenA Try.underlying25 rfl (fun w' hw => hv.cls0 hw)) ?_
  refine L.y rfl (Y.move rfl) ?_
  refine L.nil ?_
  refine E.thenN ?_
  refine W.block ?_
  refine W.loop (X := Nat) (fun k => [(0, v), (3, .int .i64 (((xss.take k).flatten.length : Nat) : Int)), (9, v), (10, .int .i64 ((vsl vs).length : Nat)), (11, .int .i64 (k : Nat))]) (fun k => Cls w [] []) (fun k => k ≤ vs.length) (fun k => vs.length - k) 0 (Nat.zero_le _) ⟨rfl, rfl, rfl, rfl, rfl, trivial⟩ (fun _ hw => hw) ?_
  rintro k hk
  have hle := take_le xss k
  refine W.seq ?_
  refine W.region ?_
  refine L.split rfl (Y.lss rfl rfl) (fun ha => ?_) (fun ha => ?_)
  ·
    refine L.nil ?_
    refine E.thenN ?_
    refine W.seq ?_
    refine W.condT rfl ?_
    refine W.skip ?_
    refine E.thenN ?_
    refine W.seq ?_
    refine W.block ?_
    refine W.seq ?_
    refine W.region ?_
    obtain ⟨u, hu⟩ := have_get (l := vs) (k := k) (by simp at ha; omega)
    obtain ⟨xs, hxs⟩ := have_get (l := xss) (k := k) (by simp at ha; omega)
    have hA := hx k u xs hu hxs
    have hs := take_flat hxs
    have hil := ints_length xs
    refine L.y rfl (Y.indexE Try.underlying25 sz24 rfl rfl (fun w' hw => hv.cls0 hw) (by omega) (by simp at ha ⊢; omega)) ?_
    refine L.y rfl (Y.loadE1 ag24 rfl (fun w' hw => hv.cls0 hw) (vsl_get hu)) ?_
    refine L.y rfl (Y.assign rfl) ?_
    refine L.nil ?_
    refine E.thenN ?_
    refine W.seq ?_
    refine W.region ?_
    refine L.y rfl (Y.move rfl) ?_
    refine L.y rfl (Y.move rfl) ?_
    refine L.y rfl (Y.lenA Try.underlying24 rfl (fun w' hw => hA.cls0 hw)) ?_
    refine L.y rfl (Y.add rfl rfl (i64_in (by omega) (by omega))) ?_
    refine L.y rfl (Y.assign rfl) ?_
    refine L.nil ?_
    refine E.thenN ?_
    refine W.seq ?_
    refine W.region ?_
    refine L.y rfl (Y.move rfl) ?_
    refine L.split rfl (Y.lss rfl rfl) (fun hc => ?_) (fun hc => ?_)
    ·
      exfalso; omega
    ·
      refine L.nil ?_
      refine E.thenN ?_
      refine W.condF rfl ?_
      refine W.skip ?_
      refine E.blockN ?_
      refine E.thenN ?_
      refine W.region ?_
      refine L.y rfl (Y.add rfl rfl (i64_in (by omega) (by omega))) ?_
      refine L.y rfl (Y.move rfl) ?_
      refine L.nil ?_
      refine E.again (x := k) (k + 1) (by simp at ha; omega) (by simp at ha; omega) ⟨rfl, congrArg (fun z => some (Value.int .i64 z)) (by omega), rfl, rfl, rfl, trivial⟩ (fun _ hw => hw)
  ·
    refine L.nil ?_
    refine E.thenN ?_
    refine W.seq ?_
    refine W.condF rfl ?_
    refine W.exit ?_
    refine E.thenX ?_
    refine E.thenX ?_
    refine E.blockX ?_
    refine E.thenN ?_
    refine W.seq ?_
    refine W.region ?_
    refine L.y rfl (Y.move rfl) ?_
    refine L.does rfl en145 rfl (fun w' hw => grow_nil _ (by simp at ha; omega) w') ?_
    rintro g m' rfl
    refine L.y rfl (Y.assign rfl) ?_
    refine L.nil ?_
    refine E.thenN ?_
    refine W.seq ?_
    refine W.seq ?_
    refine W.region ?_
    refine L.y rfl (Y.move rfl) ?_
    refine L.y rfl (Y.lenA Try.underlying25 rfl (fun w' hw => hv.cls0 hw)) ?_
    refine L.y rfl (Y.move rfl) ?_
    refine L.nil ?_
    refine E.thenN ?_
    refine W.block ?_
    refine W.loop2 (X := Nat) (Y := Value) (fun k g => [(6, g), (25, v), (26, .int .i64 ((vsl vs).length : Nat)), (27, .int .i64 (k : Nat))]) (fun k g => Cls w [] [.sl g 3 1 (ints (xss.take k).flatten)]) (fun k g => k ≤ vs.length) (fun k g => vs.length - k) 0 g (Nat.zero_le _) ⟨rfl, rfl, rfl, rfl, trivial⟩ (fun _ hw => hw) ?_
    rintro k g hk
    refine W.seq ?_
    refine W.region ?_
    refine L.split rfl (Y.lss rfl rfl) (fun hb => ?_) (fun hb => ?_)
    ·
      refine L.nil ?_
      refine E.thenN ?_
      refine W.seq ?_
      refine W.condT rfl ?_
      refine W.skip ?_
      refine E.thenN ?_
      refine W.seq ?_
      refine W.block ?_
      refine W.seq ?_
      refine W.region ?_
      obtain ⟨u, hu⟩ := have_get (l := vs) (k := k) (by simp at hb; omega)
      obtain ⟨xs, hxs⟩ := have_get (l := xss) (k := k) (by simp at hb; omega)
      have hA := hx k u xs hu hxs
      have hs := take_flat hxs
      have hil := ints_length xs
      refine L.y rfl (Y.indexE Try.underlying25 sz24 rfl rfl (fun w' hw => hv.cls0 hw) (by omega) (by simp at hb ⊢; omega)) ?_
      refine L.y rfl (Y.loadE1 ag24 rfl (fun w' hw => hv.cls0 hw) (vsl_get hu)) ?_
      refine L.y rfl (Y.assign rfl) ?_
      refine L.nil ?_
      refine E.thenN ?_
      refine W.region ?_
      refine L.y rfl (Y.move rfl) ?_
      refine L.y rfl (Y.move rfl) ?_
      refine L.append (i := 0) rfl Try.underlying24 el3 rfl rfl rfl (fun w' hw => hA.cls0 hw) (plain_ints _) (by simp only [ints_length, maxLen]; omega) (by simp only [ints_length]; omega) ?_
      intro v2
      refine L.y rfl (Y.assign rfl) ?_
      refine L.nil ?_
      refine E.blockN ?_
      refine E.thenN ?_
      refine W.region ?_
      refine L.y rfl (Y.add rfl rfl (i64_in (by omega) (by omega))) ?_
      refine L.y rfl (Y.move rfl) ?_
      refine L.nil ?_
      have e : ints (xss.take (k + 1)).flatten = ints (xss.take k).flatten ++ ints xs := by rw [take_flat_eq hxs, ints_append]
      refine E.again2 (x := k) (y := g) (k + 1) v2 (by simp at hb; omega) (by simp at hb; omega) ⟨rfl, rfl, rfl, rfl, trivial⟩ (fun _ hw => by rw [e]; exact hw.sublist (.cons_cons _ (List.nil_sublist _)))
    ·
      refine L.nil ?_
      refine E.thenN ?_
      refine W.seq ?_
      refine W.condF rfl ?_
      refine W.exit ?_
      refine E.thenX ?_
      refine E.thenX ?_
      refine E.blockX ?_
      refine E.thenN ?_
      refine W.seq ?_
      refine W.region ?_
      refine L.y rfl (Y.move rfl) ?_
      refine L.y rfl (Y.assign rfl) ?_
      refine L.nil ?_
      refine E.thenN ?_
      refine W.ret ?_
      refine E.ret1 rfl rfl (fun w hw => ?_)
      have e : xss.take k = xss := List.take_of_length_le (by simp at hb; omega)
      rw [e] at hw
      exact ⟨_, _, rfl, rfl, hw⟩
set_option maxRecDepth 100000 in
theorem index_int (xs : List Int) (v : Value) (z : Int) (w : World) (hA : At w v 1 (ints xs)) : Does Try.prog 121 [v, .int .i64 z] w fun u _ => u = .int .i64 (ix xs z) := by
  have hil := ints_length xs
  have hle := hA.le
  unfold maxLen at hle
  refine body (n := 19) Try.func121 rfl rfl rfl (Cls.refl w) ?_
  refine W.seq ?_
  refine W.region ?_
  refine L.y rfl (Y.assign rfl) ?_
  refine L.nil ?_
  refine E.thenN ?_
  refine W.seq ?_
  refine W.seq ?_
  refine W.region ?_
  refine L.y rfl (Y.move rfl) ?_
  refine L.y rfl (Y.lenA Try.underlying24 rfl (fun w' hw => hA.cls0 hw)) ?_
  refine L.y rfl (Y.move rfl) ?_
  refine L.nil ?_
  refine E.thenN ?_
  refine W.block ?_
  refine W.loop (X := Nat) (fun k => [(0, v), (1, .int .i64 z), (7, .int .i64 ((ints xs).length : Nat)), (8, .int .i64 (k : Nat))]) (fun k => Cls w [] []) (fun k => k ≤ xs.length ∧ ix xs z = ixFrom k (xs.drop k) z) (fun k => xs.length - k) 0 ⟨Nat.zero_le _, rfl⟩ ⟨rfl, rfl, rfl, rfl, trivial⟩ (fun _ hw => hw) ?_
  rintro k ⟨hk, hv⟩
  refine W.seq ?_
  refine W.region ?_
  refine L.split rfl (Y.lss rfl rfl) (fun ha => ?_) (fun ha => ?_)
  ·
    refine L.nil ?_
    refine E.thenN ?_
    refine W.seq ?_
    refine W.condT rfl ?_
    refine W.skip ?_
    refine E.thenN ?_
    refine W.seq ?_
    refine W.block ?_
    refine W.seq ?_
    refine W.region ?_
    refine L.y rfl (Y.move rfl) ?_
    refine L.y rfl (Y.assign rfl) ?_
    refine L.nil ?_
    refine E.thenN ?_
    refine W.seq ?_
    refine W.region ?_
    refine L.y rfl (Y.move rfl) ?_
    refine L.y rfl (Y.move rfl) ?_
    refine L.y rfl (Y.move rfl) ?_
    obtain ⟨x, hx⟩ := have_get (l := xs) (k := k) (by omega)
    refine L.y rfl (Y.indexE Try.underlying24 sz3 rfl rfl (fun w' hw => hA.cls0 hw) (by omega) (by omega)) ?_
    refine L.y rfl (Y.loadE1 ag3 rfl (fun w' hw => hA.cls0 hw) (ints_get hx)) ?_
    refine L.split rfl (Y.eql rfl rfl) (fun hb => ?_) (fun hb => ?_)
    ·
      refine L.nil ?_
      refine E.thenN ?_
      refine W.condT rfl ?_
      refine W.seq ?_
      refine W.region ?_
      refine L.y rfl (Y.move rfl) ?_
      refine L.y rfl (Y.assign rfl) ?_
      refine L.nil ?_
      refine E.thenN ?_
      refine W.ret ?_
      refine E.blockR ?_
      refine E.thenR ?_
      refine E.thenR ?_
      refine E.blockR ?_
      refine E.thenR ?_
      refine E.ret1 rfl rfl (fun w hw => ?_)
      refine ⟨_, _, rfl, ?_, hw⟩
      first
      | (rw [hv, ixFrom_step hx, if_pos hb.symm])
      | (rw [hv, List.drop_eq_nil_of_le (by omega)]; rfl)
    ·
      refine L.nil ?_
      refine E.thenN ?_
      refine W.condF rfl ?_
      refine W.skip ?_
      refine E.blockN ?_
      refine E.thenN ?_
      refine W.region ?_
      refine L.y rfl (Y.add rfl rfl (i64_in (by omega) (by omega))) ?_
      refine L.y rfl (Y.move rfl) ?_
      refine L.nil ?_
      refine E.again (x := k) (k + 1) ⟨by omega, by rw [hv, ixFrom_step hx]; rw [if_neg (fun e => hb e.symm)]⟩ (by omega) ⟨rfl, rfl, rfl, rfl, trivial⟩ (fun _ hw => hw)
  ·
    refine L.nil ?_
    refine E.thenN ?_
    refine W.seq ?_
    refine W.condF rfl ?_
    refine W.exit ?_
    refine E.thenX ?_
    refine E.thenX ?_
    refine E.blockX ?_
    refine E.thenN ?_
    refine W.seq ?_
    refine W.region ?_
    refine L.y rfl (Y.assign rfl) ?_
    refine L.nil ?_
    refine E.thenN ?_
    refine W.ret ?_
    refine E.ret1 rfl rfl (fun w hw => ?_)
    refine ⟨_, _, rfl, ?_, hw⟩
    first
    | (rw [hv, ixFrom_step hx, if_pos hb.symm])
    | (rw [hv, List.drop_eq_nil_of_le (by omega)]; rfl)
set_option maxRecDepth 100000 in
theorem indexfunc_int (xs : List Int) (v : Value) (f : FuncId) (cap : List Value) (p : Int → Bool) (w : World) (hA : At w v 1 (ints xs)) (he : entB Try.prog f = true) (hp : ∀ w', Cls w [] [] w' → ∀ x ∈ xs, Does Try.prog f ([.int .i64 x] ++ cap) w' fun u _ => u = .bool (p x)) : Does Try.prog 133 [v, .func (.func f) #[] cap.toArray] w fun u _ => u = .int .i64 (ixf xs p) := by
  have hil := ints_length xs
  have hle := hA.le
  unfold maxLen at hle
  refine body (n := 19) Try.func133 rfl rfl rfl (Cls.refl w) ?_
  refine W.seq ?_
  refine W.region ?_
  refine L.y rfl (Y.assign rfl) ?_
  refine L.nil ?_
  refine E.thenN ?_
  refine W.seq ?_
  refine W.seq ?_
  refine W.region ?_
  refine L.y rfl (Y.move rfl) ?_
  refine L.y rfl (Y.lenA Try.underlying24 rfl (fun w' hw => hA.cls0 hw)) ?_
  refine L.y rfl (Y.move rfl) ?_
  refine L.nil ?_
  refine E.thenN ?_
  refine W.block ?_
  refine W.loop (X := Nat) (fun k => [(0, v), (1, .func (.func f) #[] cap.toArray), (7, .int .i64 ((ints xs).length : Nat)), (8, .int .i64 (k : Nat))]) (fun k => Cls w [] []) (fun k => k ≤ xs.length ∧ ixf xs p = ixfFrom k (xs.drop k) p) (fun k => xs.length - k) 0 ⟨Nat.zero_le _, rfl⟩ ⟨rfl, rfl, rfl, rfl, trivial⟩ (fun _ hw => hw) ?_
  rintro k ⟨hk, hv⟩
  refine W.seq ?_
  refine W.region ?_
  refine L.split rfl (Y.lss rfl rfl) (fun ha => ?_) (fun ha => ?_)
  ·
    refine L.nil ?_
    refine E.thenN ?_
    refine W.seq ?_
    refine W.condT rfl ?_
    refine W.skip ?_
    refine E.thenN ?_
    refine W.seq ?_
    refine W.block ?_
    refine W.seq ?_
    refine W.region ?_
    refine L.y rfl (Y.move rfl) ?_
    refine L.y rfl (Y.assign rfl) ?_
    refine L.nil ?_
    refine E.thenN ?_
    refine W.seq ?_
    refine W.region ?_
    refine L.y rfl (Y.move rfl) ?_
    refine L.y rfl (Y.move rfl) ?_
    refine L.y rfl (Y.move rfl) ?_
    obtain ⟨x, hx⟩ := have_get (l := xs) (k := k) (by omega)
    refine L.y rfl (Y.indexE Try.underlying24 sz3 rfl rfl (fun w' hw => hA.cls0 hw) (by omega) (by omega)) ?_
    refine L.y rfl (Y.loadE1 ag3 rfl (fun w' hw => hA.cls0 hw) (ints_get hx)) ?_
    refine L.splitB rfl (Y.doesV he rfl rfl (fun w' hw => hp w' hw x (List.mem_of_getElem? hx))) (fun hb => ?_) (fun hb => ?_)
    ·
      refine L.nil ?_
      refine E.thenN ?_
      refine W.condT rfl ?_
      refine W.seq ?_
      refine W.region ?_
      refine L.y rfl (Y.move rfl) ?_
      refine L.y rfl (Y.assign rfl) ?_
      refine L.nil ?_
      refine E.thenN ?_
      refine W.ret ?_
      refine E.blockR ?_
      refine E.thenR ?_
      refine E.thenR ?_
      refine E.blockR ?_
      refine E.thenR ?_
      refine E.ret1 rfl rfl (fun w hw => ?_)
      refine ⟨_, _, rfl, ?_, hw⟩
      first
      | (rw [hv, ixfFrom_step hx, hb]; rfl)
      | (rw [hv, List.drop_eq_nil_of_le (by omega)]; rfl)
    ·
      refine L.nil ?_
      refine E.thenN ?_
      refine W.condF rfl ?_
      refine W.skip ?_
      refine E.blockN ?_
      refine E.thenN ?_
      refine W.region ?_
      refine L.y rfl (Y.add rfl rfl (i64_in (by omega) (by omega))) ?_
      refine L.y rfl (Y.move rfl) ?_
      refine L.nil ?_
      refine E.again (x := k) (k + 1) ⟨by omega, by rw [hv, ixfFrom_step hx, hb]; rfl⟩ (by omega) ⟨rfl, rfl, rfl, rfl, trivial⟩ (fun _ hw => hw)
  ·
    refine L.nil ?_
    refine E.thenN ?_
    refine W.seq ?_
    refine W.condF rfl ?_
    refine W.exit ?_
    refine E.thenX ?_
    refine E.thenX ?_
    refine E.blockX ?_
    refine E.thenN ?_
    refine W.seq ?_
    refine W.region ?_
    refine L.y rfl (Y.assign rfl) ?_
    refine L.nil ?_
    refine E.thenN ?_
    refine W.ret ?_
    refine E.ret1 rfl rfl (fun w hw => ?_)
    refine ⟨_, _, rfl, ?_, hw⟩
    first
    | (rw [hv, ixfFrom_step hx, hb]; rfl)
    | (rw [hv, List.drop_eq_nil_of_le (by omega)]; rfl)
set_option maxRecDepth 100000 in
theorem containsfunc_int (xs : List Int) (v : Value) (f : FuncId) (cap : List Value) (p : Int → Bool) (w : World) (hA : At w v 1 (ints xs)) (he : entB Try.prog f = true) (hp : ∀ w', Cls w [] [] w' → ∀ x ∈ xs, Does Try.prog f ([.int .i64 x] ++ cap) w' fun u _ => u = .bool (p x)) : Does Try.prog 78 [v, .func (.func f) #[] cap.toArray] w fun u _ => u = .bool (xs.any p) := by
  refine body (n := 9) Try.func78 rfl rfl rfl (Cls.refl w) ?_
  refine W.seq ?_
  refine W.region ?_
  refine L.y rfl (Y.assign rfl) ?_
  refine L.nil ?_
  refine E.thenN ?_
  refine W.seq ?_
  refine W.region ?_
  refine L.y rfl (Y.move rfl) ?_
  refine L.y rfl (Y.move rfl) ?_
  refine L.y rfl (Y.does en133 rfl (fun w' hw => indexfunc_int xs v f cap p w' (hA.cls0 hw) he (fun w2 hw2 => hp w2 (hw.call hw2)))) ?_
  refine L.y rfl (Y.geq rfl rfl) ?_
  refine L.y rfl (Y.assign rfl) ?_
  refine L.nil ?_
  refine E.thenN ?_
  refine W.ret ?_
  refine E.ret1 rfl rfl (fun w hw => ?_)
  exact ⟨_, _, rfl, congrArg Value.bool (ixf_any xs p), hw⟩
set_option maxRecDepth 100000 in
theorem contains_int (xs : List Int) (v : Value) (z : Int) (w : World) (hA : At w v 1 (ints xs)) : Does Try.prog 134 [v, .int .i64 z] w fun u _ => u = .bool (decide (z ∈ xs)) := by
  refine body (n := 9) Try.func134 rfl rfl rfl (Cls.refl w) ?_
  refine W.seq ?_
  refine W.region ?_
  refine L.y rfl (Y.assign rfl) ?_
  refine L.nil ?_
  refine E.thenN ?_
  refine W.seq ?_
  refine W.region ?_
  refine L.y rfl (Y.move rfl) ?_
  refine L.y rfl (Y.move rfl) ?_
  refine L.y rfl (Y.does en121 rfl (fun w' hw => index_int xs v z w' (hA.cls0 hw))) ?_
  refine L.y rfl (Y.geq rfl rfl) ?_
  refine L.y rfl (Y.assign rfl) ?_
  refine L.nil ?_
  refine E.thenN ?_
  refine W.ret ?_
  refine E.ret1 rfl rfl (fun w hw => ?_)
  exact ⟨_, _, rfl, congrArg Value.bool (ix_mem xs z), hw⟩
set_option maxRecDepth 100000 in
theorem equal_bool (xs ys : List Bool) (v u : Value) (w : World) (hA : At w v 1 (bools xs)) (hB : At w u 1 (bools ys)) : Does Try.prog 42 [v, u] w fun r _ => r = .bool (decide (xs = ys)) := by
  have hil := bools_length xs
  have hjl := bools_length ys
  have hle := hA.le
  unfold maxLen at hle
  refine body (n := 26) Try.func42 rfl rfl rfl (Cls.refl w) ?_
  refine W.seq ?_
  refine W.region ?_
  refine L.y rfl (Y.assign rfl) ?_
  refine L.nil ?_
  refine E.thenN ?_
  refine W.seq ?_
  refine W.seq ?_
  refine W.region ?_
  refine L.y rfl (Y.move rfl) ?_
  refine L.y rfl (Y.lenA Try.underlying54 rfl (fun w' hw => hA.cls0 hw)) ?_
  refine L.y rfl (Y.move rfl) ?_
  refine L.y rfl (Y.lenA Try.underlying54 rfl (fun w' hw => hB.cls0 hw)) ?_
  refine L.split rfl (Y.neq rfl rfl) (fun hn => ?_) (fun hn => ?_)
  ·
    refine L.nil ?_
    refine E.thenN ?_
    refine W.condT rfl ?_
    refine W.seq ?_
    refine W.region ?_
    refine L.y rfl (Y.assign rfl) ?_
    refine L.nil ?_
    refine E.thenN ?_
    refine W.ret ?_
    refine E.thenR ?_
    refine E.ret1 rfl rfl (fun w hw => ?_)
    refine ⟨_, _, rfl, ?_, hw⟩
    exact (congrArg Value.bool (decide_eq_false (fun e => hn (congrArg (fun l => ((bools l).length : Int)) e)))).symm
  ·
    refine L.nil ?_
    refine E.thenN ?_
    refine W.condF rfl ?_
    refine W.skip ?_
    refine E.thenN ?_
    refine W.seq ?_
    refine W.seq ?_
    refine W.region ?_
    refine L.y rfl (Y.move rfl) ?_
    refine L.y rfl (Y.lenA Try.underlying54 rfl (fun w' hw => hA.cls0 hw)) ?_
    refine L.y rfl (Y.move rfl) ?_
    refine L.nil ?_
    refine E.thenN ?_
    refine W.block ?_
    refine W.loop (X := Nat) (fun k => [(0, v), (1, u), (12, .int .i64 ((bools xs).length : Nat)), (13, .int .i64 (k : Nat))]) (fun k => Cls w [] []) (fun k => k ≤ xs.length ∧ xs.take k = ys.take k) (fun k => xs.length - k) 0 ⟨Nat.zero_le _, rfl⟩ ⟨rfl, rfl, rfl, rfl, trivial⟩ (fun _ hw => hw) ?_
    rintro k ⟨hk, hv⟩
    refine W.seq ?_
    refine W.region ?_
    refine L.split rfl (Y.lss rfl rfl) (fun ha => ?_) (fun ha => ?_)
    ·
      refine L.nil ?_
      refine E.thenN ?_
      refine W.seq ?_
      refine W.condT rfl ?_
      refine W.skip ?_
      refine E.thenN ?_
      refine W.seq ?_
      refine W.block ?_
      refine W.seq ?_
      refine W.region ?_
      refine L.y rfl (Y.move rfl) ?_
      refine L.y rfl (Y.assign rfl) ?_
      refine L.nil ?_
      refine E.thenN ?_
      refine W.seq ?_
      refine W.quiet mixed (by kernel_rfl) (fun _ hw => hw.drew) ?_
      refine U.y rfl (Y.move rfl) ?_
      refine U.y rfl (Y.move rfl) ?_
      obtain ⟨x, hx⟩ := have_get (l := xs) (k := k) (by omega)
      obtain ⟨y, hy⟩ := have_get (l := ys) (k := k) (by omega)
      refine U.y rfl (Y.indexE Try.underlying54 sz4 rfl rfl (fun w' hw => hA.cls0 hw) (by omega) (by omega)) ?_
      refine U.y rfl (Y.loadE1 ag4 rfl (fun w' hw => hA.cls0 hw) (bools_get hx)) ?_
      refine U.y rfl (Y.move rfl) ?_
      refine U.y rfl (Y.move rfl) ?_
      refine U.y rfl (Y.indexE Try.underlying54 sz4 rfl rfl (fun w' hw => hB.cls0 hw) (by omega) (by omega)) ?_
      refine U.y rfl (Y.loadE1 ag4 rfl (fun w' hw => hB.cls0 hw) (bools_get hy)) ?_
      refine U.splitB rfl (Y.neqB Try.underlying4 rfl rfl) (fun hb => ?_) (fun hb => ?_)
      ·
        refine U.nil ?_
        refine E.thenN ?_
        refine W.condT rfl ?_
        refine W.seq ?_
        refine W.region ?_
        refine L.y rfl (Y.assign rfl) ?_
        refine L.nil ?_
        refine E.thenN ?_
        refine W.ret ?_
        refine E.blockR ?_
        refine E.thenR ?_
        refine E.thenR ?_
        refine E.blockR ?_
        refine E.thenR ?_
        refine E.ret1 rfl rfl (fun w hw => ?_)
        refine ⟨_, _, rfl, ?_, hw⟩
        exact (congrArg Value.bool (decide_eq_false (fun e => take_ne_step hx hy (by simpa using hb) e))).symm
      ·
        refine U.nil ?_
        refine E.thenN ?_
        refine W.condF rfl ?_
        refine W.skip ?_
        refine E.blockN ?_
        refine E.thenN ?_
        refine W.region ?_
        refine L.y rfl (Y.add rfl rfl (i64_in (by omega) (by omega))) ?_
        refine L.y rfl (Y.move rfl) ?_
        refine L.nil ?_
        refine E.again (x := k) (k + 1) ⟨by omega, take_eq_step hx hy hv (by simpa using hb)⟩ (by omega) ⟨rfl, rfl, rfl, rfl, trivial⟩ (fun _ hw => hw)
    ·
      refine L.nil ?_
      refine E.thenN ?_
      refine W.seq ?_
      refine W.condF rfl ?_
      refine W.exit ?_
      refine E.thenX ?_
      refine E.thenX ?_
      refine E.blockX ?_
      refine E.thenN ?_
      refine W.seq ?_
      refine W.region ?_
      refine L.y rfl (Y.assign rfl) ?_
      refine L.nil ?_
      refine E.thenN ?_
      refine W.ret ?_
      refine E.ret1 rfl rfl (fun w hw => ?_)
      refine ⟨_, _, rfl, ?_, hw⟩
      exact (congrArg Value.bool (decide_eq_true (take_all hv (by omega) (by omega)))).symm
set_option maxRecDepth 100000 in
theorem equal_int (xs ys : List Int) (v u : Value) (w : World) (hA : At w v 1 (ints xs)) (hB : At w u 1 (ints ys)) : Does Try.prog 71 [v, u] w fun r _ => r = .bool (decide (xs = ys)) := by
  have hil := ints_length xs
  have hjl := ints_length ys
  have hle := hA.le
  unfold maxLen at hle
  refine body (n := 26) Try.func71 rfl rfl rfl (Cls.refl w) ?_
  refine W.seq ?_
  refine W.region ?_
  refine L.y rfl (Y.assign rfl) ?_
  refine L.nil ?_
  refine E.thenN ?_
  refine W.seq ?_
  refine W.seq ?_
  refine W.region ?_
  refine L.y rfl (Y.move rfl) ?_
  refine L.y rfl (Y.lenA Try.underlying24 rfl (fun w' hw => hA.cls0 hw)) ?_
  refine L.y rfl (Y.move rfl) ?_
  refine L.y rfl (Y.lenA Try.underlying24 rfl (fun w' hw => hB.cls0 hw)) ?_
  refine L.split rfl (Y.neq rfl rfl) (fun hn => ?_) (fun hn => ?_)
  ·
    refine L.nil ?_
    refine E.thenN ?_
    refine W.condT rfl ?_
    refine W.seq ?_
    refine W.region ?_
    refine L.y rfl (Y.assign rfl) ?_
    refine L.nil ?_
    refine E.thenN ?_
    refine W.ret ?_
    refine E.thenR ?_
    refine E.ret1 rfl rfl (fun w hw => ?_)
    refine ⟨_, _, rfl, ?_, hw⟩
    exact (congrArg Value.bool (decide_eq_false (fun e => hn (congrArg (fun l => ((ints l).length : Int)) e)))).symm
  ·
    refine L.nil ?_
    refine E.thenN ?_
    refine W.condF rfl ?_
    refine W.skip ?_
    refine E.thenN ?_
    refine W.seq ?_
    refine W.seq ?_
    refine W.region ?_
    refine L.y rfl (Y.move rfl) ?_
    refine L.y rfl (Y.lenA Try.underlying24 rfl (fun w' hw => hA.cls0 hw)) ?_
    refine L.y rfl (Y.move rfl) ?_
    refine L.nil ?_
    refine E.thenN ?_
    refine W.block ?_
    refine W.loop (X := Nat) (fun k => [(0, v), (1, u), (12, .int .i64 ((ints xs).length : Nat)), (13, .int .i64 (k : Nat))]) (fun k => Cls w [] []) (fun k => k ≤ xs.length ∧ xs.take k = ys.take k) (fun k => xs.length - k) 0 ⟨Nat.zero_le _, rfl⟩ ⟨rfl, rfl, rfl, rfl, trivial⟩ (fun _ hw => hw) ?_
    rintro k ⟨hk, hv⟩
    refine W.seq ?_
    refine W.region ?_
    refine L.split rfl (Y.lss rfl rfl) (fun ha => ?_) (fun ha => ?_)
    ·
      refine L.nil ?_
      refine E.thenN ?_
      refine W.seq ?_
      refine W.condT rfl ?_
      refine W.skip ?_
      refine E.thenN ?_
      refine W.seq ?_
      refine W.block ?_
      refine W.seq ?_
      refine W.region ?_
      refine L.y rfl (Y.move rfl) ?_
      refine L.y rfl (Y.assign rfl) ?_
      refine L.nil ?_
      refine E.thenN ?_
      refine W.seq ?_
      refine W.quiet mixed (by kernel_rfl) (fun _ hw => hw.drew) ?_
      refine U.y rfl (Y.move rfl) ?_
      refine U.y rfl (Y.move rfl) ?_
      obtain ⟨x, hx⟩ := have_get (l := xs) (k := k) (by omega)
      obtain ⟨y, hy⟩ := have_get (l := ys) (k := k) (by omega)
      refine U.y rfl (Y.indexE Try.underlying24 sz3 rfl rfl (fun w' hw => hA.cls0 hw) (by omega) (by omega)) ?_
      refine U.y rfl (Y.loadE1 ag3 rfl (fun w' hw => hA.cls0 hw) (ints_get hx)) ?_
      refine U.y rfl (Y.move rfl) ?_
      refine U.y rfl (Y.move rfl) ?_
      refine U.y rfl (Y.indexE Try.underlying24 sz3 rfl rfl (fun w' hw => hB.cls0 hw) (by omega) (by omega)) ?_
      refine U.y rfl (Y.loadE1 ag3 rfl (fun w' hw => hB.cls0 hw) (ints_get hy)) ?_
      refine U.split rfl (Y.neq rfl rfl) (fun hb => ?_) (fun hb => ?_)
      ·
        refine U.nil ?_
        refine E.thenN ?_
        refine W.condT rfl ?_
        refine W.seq ?_
        refine W.region ?_
        refine L.y rfl (Y.assign rfl) ?_
        refine L.nil ?_
        refine E.thenN ?_
        refine W.ret ?_
        refine E.blockR ?_
        refine E.thenR ?_
        refine E.thenR ?_
        refine E.blockR ?_
        refine E.thenR ?_
        refine E.ret1 rfl rfl (fun w hw => ?_)
        refine ⟨_, _, rfl, ?_, hw⟩
        exact (congrArg Value.bool (decide_eq_false (fun e => take_ne_step hx hy (by simpa using hb) e))).symm
      ·
        refine U.nil ?_
        refine E.thenN ?_
        refine W.condF rfl ?_
        refine W.skip ?_
        refine E.blockN ?_
        refine E.thenN ?_
        refine W.region ?_
        refine L.y rfl (Y.add rfl rfl (i64_in (by omega) (by omega))) ?_
        refine L.y rfl (Y.move rfl) ?_
        refine L.nil ?_
        refine E.again (x := k) (k + 1) ⟨by omega, take_eq_step hx hy hv (by simpa using hb)⟩ (by omega) ⟨rfl, rfl, rfl, rfl, trivial⟩ (fun _ hw => hw)
    ·
      refine L.nil ?_
      refine E.thenN ?_
      refine W.seq ?_
      refine W.condF rfl ?_
      refine W.exit ?_
      refine E.thenX ?_
      refine E.thenX ?_
      refine E.blockX ?_
      refine E.thenN ?_
      refine W.seq ?_
      refine W.region ?_
      refine L.y rfl (Y.assign rfl) ?_
      refine L.nil ?_
      refine E.thenN ?_
      refine W.ret ?_
      refine E.ret1 rfl rfl (fun w hw => ?_)
      refine ⟨_, _, rfl, ?_, hw⟩
      exact (congrArg Value.bool (decide_eq_true (take_all hv (by omega) (by omega)))).symm
end Go.Proofs.Ytfmgjigdebofaaa.Slices
