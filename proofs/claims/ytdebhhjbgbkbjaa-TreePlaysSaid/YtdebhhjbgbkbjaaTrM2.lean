/-
  Package tree: neighbours, mending, the last key.
  Conditions: none.
-/
import Derived.Test.YtdebhhjbgbkbjaaTrM1
namespace Go.Proofs.Ytdebhhjbgbkbjaa
open Go.S
set_option linter.unusedVariables false
set_option linter.unusedSimpArgs false
section
variable {A A' : List Tnode} {h lo hi p : Nat} {i : Int} {kv : List KV} {F : List Nat} {es es1 es2 esa esb esa' esb' : List KV} {chs ch1 ch2 chsa chsb chsa' chsb' : List Ch} {e e' ea eb : KV} {k : Int} {t : List UInt8} {u : Tnode} {n : Nat} {a b c : Ch} {H : List Nat}
def Shp : Nat → List KV → List Ch → Prop
  | 0, _, chs => chs = []
  | _ + 1, es, chs => chs.length = es.length + 1
theorem Sub.shp (hs : Sub A h es chs) : Shp h es chs := by
  cases h with
  | zero => exact hs
  | succ h => exact hs.1
theorem Sub.mk (h1 : Shp h es chs) (h2 : ∀ x ∈ chs, ∃ es' chs', x ∈ chs' ∧ Sub A h es' chs') : Sub A h es chs := by
  cases h with
  | zero => exact h1
  | succ h => exact ⟨h1, fun x hx => by obtain ⟨es', chs', h3, h4⟩ := h2 x hx; exact h4.2 x h3⟩
theorem mix_two (hl1 : ch1.length = es1.length) (hl2 : ch2.length = es2.length) : mix (es1 ++ e :: es2) (ch1 ++ a :: b :: ch2) = Lft es1 ch1 ++ ((a.kv ++ e :: b.kv) ++ Rgt es2 ch2) := by
  rw [mix_at (c := a) (es2 := e :: es2) (ch2 := b :: ch2) es1 ch1 hl1 (by simp; omega), Rgt]
  have := mix_at (c := b) (es2 := es2) (ch2 := ch2) [] [] rfl hl2
  simp only [List.nil_append, Lft] at this
  rw [this]
  simp
/-- What three nodes become, and nothing else. -/
structure Three (A A' : List Tnode) (i j k : Nat) : Prop where
  len : A'.length = A.length
  same : ∀ n, n ≠ i → n ≠ j → n ≠ k → A'[n]? = A[n]?
  ok : Ok A'
/-- Who is where: three places that differ. -/
structure Apart (A : List Tnode) (h : Nat) (i : Int) (a b : Ch) (ch1 ch2 : List Ch) (chsa chsb : List Ch) : Prop where
  ia : i.toNat ≠ a.i.toNat
  ib : i.toNat ≠ b.i.toNat
  ab : a.i.toNat ≠ b.i.toNat
  out : ∀ x ∈ ch1 ++ ch2, ∀ q ∈ x.F, q ≠ i.toNat ∧ q ≠ a.i.toNat ∧ q ≠ b.i.toNat
  ina : ∀ x ∈ chsa, ∀ q ∈ x.F, q ≠ i.toNat ∧ q ≠ a.i.toNat ∧ q ≠ b.i.toNat
  inb : ∀ x ∈ chsb, ∀ q ∈ x.F, q ≠ i.toNat ∧ q ≠ a.i.toNat ∧ q ≠ b.i.toNat
theorem apart (hn : (i.toNat :: (ch1 ++ a :: b :: ch2).flatMap Ch.F).Nodup) (ga : a.F = a.i.toNat :: chsa.flatMap Ch.F) (gb : b.F = b.i.toNat :: chsb.flatMap Ch.F) : Apart A h i a b ch1 ch2 chsa chsb := by
  obtain ⟨hi, hnd⟩ := List.nodup_cons.1 hn
  rw [List.flatMap_append, List.flatMap_cons, List.flatMap_cons] at hi hnd
  obtain ⟨n1, n2, n3⟩ := List.nodup_append.1 hnd
  obtain ⟨n4, n5, n6⟩ := List.nodup_append.1 n2
  obtain ⟨n7, n8, n9⟩ := List.nodup_append.1 n5
  have ha : a.i.toNat ∈ a.F := by rw [ga]; exact List.mem_cons_self
  have hb : b.i.toNat ∈ b.F := by rw [gb]; exact List.mem_cons_self
  have ha2 : a.i.toNat ∉ chsa.flatMap Ch.F := by rw [ga] at n4; exact (List.nodup_cons.1 n4).1
  have hb2 : b.i.toNat ∉ chsb.flatMap Ch.F := by rw [gb] at n7; exact (List.nodup_cons.1 n7).1
  have inF : ∀ {q}, q ∈ chsa.flatMap Ch.F → q ∈ a.F := fun hq => by rw [ga]; exact List.mem_cons_of_mem _ hq
  have inG : ∀ {q}, q ∈ chsb.flatMap Ch.F → q ∈ b.F := fun hq => by rw [gb]; exact List.mem_cons_of_mem _ hq
  simp only [List.mem_append, not_or] at hi
  refine ⟨fun e => hi.2.1 (e ▸ ha), fun e => hi.2.2.1 (e ▸ hb), fun e => n6 _ ha _ (List.mem_append_left _ hb) e, fun x hx q hq => ⟨?_, ?_, ?_⟩, fun x hx q hq => ⟨?_, ?_, ?_⟩, fun x hx q hq => ⟨?_, ?_, ?_⟩⟩
  · rintro rfl
    rcases List.mem_append.1 hx with hx | hx
    · exact hi.1 (List.mem_flatMap.2 ⟨x, hx, hq⟩)
    · exact hi.2.2.2 (List.mem_flatMap.2 ⟨x, hx, hq⟩)
  · intro e
    rcases List.mem_append.1 hx with hx | hx
    · exact n3 q (List.mem_flatMap.2 ⟨x, hx, hq⟩) _ (List.mem_append_left _ ha) e
    · exact n6 _ ha q (List.mem_append_right _ (List.mem_flatMap.2 ⟨x, hx, hq⟩)) e.symm
  · intro e
    rcases List.mem_append.1 hx with hx | hx
    · exact n3 q (List.mem_flatMap.2 ⟨x, hx, hq⟩) _ (List.mem_append_right _ (List.mem_append_left _ hb)) e
    · exact n9 _ hb q (List.mem_flatMap.2 ⟨x, hx, hq⟩) e.symm
  · rintro rfl
    exact hi.2.1 (inF (List.mem_flatMap.2 ⟨x, hx, hq⟩))
  · rintro rfl
    exact ha2 (List.mem_flatMap.2 ⟨x, hx, hq⟩)
  · intro e
    exact n6 q (inF (List.mem_flatMap.2 ⟨x, hx, hq⟩)) _ (List.mem_append_left _ hb) e
  · rintro rfl
    exact hi.2.2.1 (inG (List.mem_flatMap.2 ⟨x, hx, hq⟩))
  · intro e
    exact n6 _ ha q (List.mem_append_left _ (inG (List.mem_flatMap.2 ⟨x, hx, hq⟩))) e.symm
  · rintro rfl
    exact hb2 (List.mem_flatMap.2 ⟨x, hx, hq⟩)
/-- Two neighbours told anew. -/
theorem pair_rep (hl1 : ch1.length = es1.length) (hl2 : ch2.length = es2.length) (hr : ∀ x ∈ ch1 ++ ch2, Rep A h 2 4 x.i x.kv x.F) (sa : Sub A h esa chsa) (sb : Sub A h esb chsb) (ga : a.F = a.i.toNat :: chsa.flatMap Ch.F) (gb : b.F = b.i.toNat :: chsb.flatMap Ch.F)
    (hn : (i.toNat :: (ch1 ++ a :: b :: ch2).flatMap Ch.F).Nodup) (T : Three A A' i.toNat a.i.toNat b.i.toNat) (xi : idx A' i = some (node (es1 ++ e' :: es2) (ch1 ++ a :: b :: ch2))) (xa : idx A' a.i = some (node esa' chsa')) (xb : idx A' b.i = some (node esb' chsb'))
    (hc : chsa' ++ chsb' = chsa ++ chsb) (ha' : Shp h esa' chsa') (hb' : Shp h esb' chsb') (la : 2 ≤ esa'.length ∧ esa'.length ≤ 4) (lb : 2 ≤ esb'.length ∧ esb'.length ≤ 4) (l1 : lo ≤ (es1 ++ e :: es2).length) (l2 : (es1 ++ e :: es2).length ≤ hi) (hm : mix esa' chsa' ++ e' :: mix esb' chsb' = a.kv ++ e :: b.kv) :
    ∃ F', Rep A' (h + 1) lo hi i (mix (es1 ++ e :: es2) (ch1 ++ a :: b :: ch2)) F' ∧ F'.Perm (i.toNat :: (ch1 ++ a :: b :: ch2).flatMap Ch.F) := by
  have ap := apart (A := A) (h := h) hn ga gb
  have hin : ∀ x ∈ chsa ++ chsb, ∃ es' chs', x ∈ chs' ∧ Sub A' h es' chs' := fun x hx => by
    rcases List.mem_append.1 hx with hx | hx
    · exact ⟨esa, chsa, hx, sa.frame fun x hx q hq => by have := ap.ina x hx q hq; exact T.same q this.1 this.2.1 this.2.2⟩
    · exact ⟨esb, chsb, hx, sb.frame fun x hx q hq => by have := ap.inb x hx q hq; exact T.same q this.1 this.2.1 this.2.2⟩
  have sa' : Sub A' h esa' chsa' := Sub.mk ha' fun x hx => hin x (by rw [← hc]; exact List.mem_append_left _ hx)
  have sb' : Sub A' h esb' chsb' := Sub.mk hb' fun x hx => hin x (by rw [← hc]; exact List.mem_append_right _ hx)
  refine ⟨i.toNat :: (ch1 ++ ⟨a.i, mix esa' chsa', a.i.toNat :: chsa'.flatMap Ch.F⟩ :: ⟨b.i, mix esb' chsb', b.i.toNat :: chsb'.flatMap Ch.F⟩ :: ch2).flatMap Ch.F, rep_iff.2 ⟨es1 ++ e' :: es2, _, (by rw [xi]; simp [node]), by simp at l1 ⊢; omega, by simp at l2 ⊢; omega, ⟨by simp at hl1 hl2 ⊢; omega, fun x hx => ?_⟩, ?_, rfl⟩, ?_⟩
  · have hout : x ∈ ch1 ++ ch2 → Rep A' h 2 4 x.i x.kv x.F := fun hx => (hr x hx).frame fun q hq => by have := ap.out x hx q hq; exact T.same q this.1 this.2.1 this.2.2
    rcases List.mem_append.1 hx with hx | hx
    · exact hout (List.mem_append_left _ hx)
    · rcases List.mem_cons.1 hx with rfl | hx
      · exact rep_iff.2 ⟨esa', chsa', xa, la.1, la.2, sa', rfl, rfl⟩
      · rcases List.mem_cons.1 hx with rfl | hx
        · exact rep_iff.2 ⟨esb', chsb', xb, lb.1, lb.2, sb', rfl, rfl⟩
        · exact hout (List.mem_append_right _ hx)
  · rw [mix_two hl1 hl2, mix_two hl1 hl2, hm]
  · refine List.Perm.cons _ ?_
    simp only [List.flatMap_append, List.flatMap_cons]
    refine List.Perm.append_left _ ?_
    rw [ga, gb]
    have h1 : chsa'.flatMap Ch.F ++ chsb'.flatMap Ch.F = chsa.flatMap Ch.F ++ chsb.flatMap Ch.F := by rw [← List.flatMap_append, ← List.flatMap_append, hc]
    have h2 : ∀ (x y : List Nat) (z : List Nat), (a.i.toNat :: x ++ (b.i.toNat :: y ++ z)).Perm (a.i.toNat :: b.i.toNat :: (x ++ y ++ z)) := fun x y z => by
      rw [List.cons_append]
      refine List.Perm.cons _ ?_
      have := List.perm_middle (a := b.i.toNat) (l₁ := x) (l₂ := y ++ z)
      rw [List.append_assoc]
      exact this
    refine (h2 _ _ _).trans ?_
    rw [h1]
    exact (h2 _ _ _).symm
/-- Two neighbours that are one now. -/
theorem join_rep (hl1 : ch1.length = es1.length) (hl2 : ch2.length = es2.length) (hr : ∀ x ∈ ch1 ++ ch2, Rep A h 2 4 x.i x.kv x.F) (sa : Sub A h esa chsa) (sb : Sub A h esb chsb) (ga : a.F = a.i.toNat :: chsa.flatMap Ch.F) (gb : b.F = b.i.toNat :: chsb.flatMap Ch.F)
    (hn : (i.toNat :: (ch1 ++ a :: b :: ch2).flatMap Ch.F).Nodup) (T : Three A A' i.toNat a.i.toNat b.i.toNat) (xi : idx A' i = some (node (es1 ++ es2) (ch1 ++ a :: ch2))) (xa : idx A' a.i = some (node (esa ++ e :: esb) (chsa ++ chsb)))
    (ka : a.kv = mix esa chsa) (kb : b.kv = mix esb chsb) (la : 2 ≤ (esa ++ e :: esb).length ∧ (esa ++ e :: esb).length ≤ 4) (l1 : lo ≤ (es1 ++ es2).length) (l2 : (es1 ++ es2).length ≤ hi) :
    ∃ F', Rep A' (h + 1) lo hi i (mix (es1 ++ e :: es2) (ch1 ++ a :: b :: ch2)) F' ∧ (b.i.toNat :: F').Perm (i.toNat :: (ch1 ++ a :: b :: ch2).flatMap Ch.F) := by
  have ap := apart (A := A) (h := h) hn ga gb
  have hsh : chsa ++ chsb = [] ∨ (chsa ++ chsb).length = (esa ++ e :: esb).length + 1 := by
    cases h with
    | zero => have h1 : chsa = [] := sa; have h2 : chsb = [] := sb; subst h1; subst h2; exact .inl rfl
    | succ h => exact .inr (by have := sa.1; have := sb.1; simp; omega)
  have sab : Sub A' h (esa ++ e :: esb) (chsa ++ chsb) := by
    refine Sub.mk ?_ fun x hx => ?_
    · cases h with
      | zero => have h1 : chsa = [] := sa; have h2 : chsb = [] := sb; subst h1; subst h2; rfl
      | succ h => have := sa.1; have := sb.1; show (chsa ++ chsb).length = _; simp; omega
    · rcases List.mem_append.1 hx with hx | hx
      · exact ⟨esa, chsa, hx, sa.frame fun x hx q hq => by have := ap.ina x hx q hq; exact T.same q this.1 this.2.1 this.2.2⟩
      · exact ⟨esb, chsb, hx, sb.frame fun x hx q hq => by have := ap.inb x hx q hq; exact T.same q this.1 this.2.1 this.2.2⟩
  have hmx : mix (esa ++ e :: esb) (chsa ++ chsb) = a.kv ++ e :: b.kv := by
    rw [mix_cut esa _ hsh, ka, kb]
    cases h with
    | zero => have h1 : chsa = [] := sa; have h2 : chsb = [] := sb; subst h1; subst h2; simp
    | succ h => rw [List.take_left' sa.1, List.drop_left' sa.1]
  refine ⟨i.toNat :: (ch1 ++ ⟨a.i, mix (esa ++ e :: esb) (chsa ++ chsb), a.i.toNat :: (chsa ++ chsb).flatMap Ch.F⟩ :: ch2).flatMap Ch.F, rep_iff.2 ⟨es1 ++ es2, _, (by rw [xi]; simp [node]), l1, l2, ⟨by simp at hl1 hl2 ⊢; omega, fun x hx => ?_⟩, ?_, rfl⟩, ?_⟩
  · have hout : x ∈ ch1 ++ ch2 → Rep A' h 2 4 x.i x.kv x.F := fun hx => (hr x hx).frame fun q hq => by have := ap.out x hx q hq; exact T.same q this.1 this.2.1 this.2.2
    rcases List.mem_append.1 hx with hx | hx
    · exact hout (List.mem_append_left _ hx)
    · rcases List.mem_cons.1 hx with rfl | hx
      · exact rep_iff.2 ⟨_, _, xa, la.1, la.2, sab, rfl, rfl⟩
      · exact hout (List.mem_append_right _ hx)
  · rw [mix_two hl1 hl2, mix_at es1 ch1 hl1 hl2, hmx]
  · simp only [List.flatMap_append, List.flatMap_cons]
    rw [ga, gb]
    have := List.perm_middle (a := b.i.toNat) (l₁ := i.toNat :: (ch1.flatMap Ch.F ++ a.i.toNat :: chsa.flatMap Ch.F)) (l₂ := chsb.flatMap Ch.F ++ ch2.flatMap Ch.F)
    simpa [List.append_assoc] using this.symm
end
section
variable {A A' : List Tnode} {h lo hi p : Nat} {i : Int} {kv : List KV} {F : List Nat} {es es1 es2 esa esb esa' esb' : List KV} {chs ch1 ch2 chsa chsb chsa' chsb' : List Ch} {e e' ea eb : KV} {k : Int} {t : List UInt8} {u : Tnode} {n : Nat} {a b c ca cb : Ch} {H : List Nat}
theorem kid_a (hl1 : ch1.length = es1.length) : idx ((node es (ch1 ++ a :: ch2)).kids_) ((es1.length : Nat) : Int) = some a.i := by
  show idx ((ch1 ++ a :: ch2).map Ch.i) _ = _
  rw [idx_nat, List.map_append, List.map_cons, List.getElem?_append_right (by simp; omega)]
  simp [hl1]
theorem kid_b (hl1 : ch1.length = es1.length) : idx ((node es (ch1 ++ a :: b :: ch2)).kids_) ((es1.length + 1 : Nat) : Int) = some b.i := by
  show idx ((ch1 ++ a :: b :: ch2).map Ch.i) _ = _
  rw [idx_nat, List.map_append, List.map_cons, List.map_cons, List.getElem?_append_right (by simp; omega)]
  simp [hl1]
theorem key_at (chs : List Ch) : idx (node (es1 ++ e :: es2) chs).keys_ ((es1.length : Nat) : Int) = some e.1 := by rw [idx_nat]; simp [node]
theorem text_at (chs : List Ch) : idx (node (es1 ++ e :: es2) chs).texts_ ((es1.length : Nat) : Int) = some e.2 := by rw [idx_nat]; simp [node]
theorem key_set (chs : List Ch) : upd (node (es1 ++ e :: es2) chs).keys_ ((es1.length : Nat) : Int) e'.1 = some ((es1 ++ e' :: es2).map Prod.fst) := by
  unfold upd
  rw [if_pos ⟨by omega, by simp [node]; omega⟩]
  simp [node]
theorem text_set (chs : List Ch) : upd (node (es1 ++ e :: es2) chs).texts_ ((es1.length : Nat) : Int) e'.2 = some ((es1 ++ e' :: es2).map Prod.snd) := by
  unfold upd
  rw [if_pos ⟨by omega, by simp [node]; omega⟩]
  simp [node]
theorem ins0 {α : Type} (l : List α) (x : α) (h : l.length ≤ 1000) : xInsR l 0 x = some (x :: l) := by
  unfold xInsR
  rw [if_pos ⟨by omega, by omega, by omega⟩]
  simp
theorem del0 {α : Type} (l : List α) (x : α) (h : l.length ≤ 1000) : xDelR (x :: l) 0 1 = some l := by
  unfold xDelR
  rw [if_pos ⟨by omega, by omega, by simp; omega, by simp; omega⟩]
  simp
theorem cutp {α : Type} (l m : List α) : cut (l ++ m) 0 ((l.length : Nat) : Int) = some l := by
  rw [cut_take _ _ (by simp)]
  simp
theorem isub (n : Nat) (h : n < 1000) : i64 (((n + 1 : Nat) : Int) - 1) = some ((n : Nat) : Int) := by
  rw [show ((n + 1 : Nat) : Int) - 1 = ((n : Nat) : Int) by omega, i64_ok (by omega) (by omega)]
set_option maxHeartbeats 1000000 in
theorem right_eq (hi : idx A i = some (node (es1 ++ e :: es2) (ch1 ++ a :: b :: ch2))) (hl1 : ch1.length = es1.length) (hes : (es1 ++ e :: es2).length ≤ 4) (ha : idx A a.i = some (node (esa ++ [ea]) chsa)) (hb : idx A b.i = some (node esb chsb)) (la : esa.length ≤ 4) (lb : esb.length ≤ 4)
    (hs : chsa = [] ∧ chsb = [] ∨ chsa.length = esa.length + 2 ∧ chsb.length = esb.length + 1) (ia : i.toNat ≠ a.i.toNat) (ib : i.toNat ≠ b.i.toNat) (ab : a.i.toNat ≠ b.i.toNat) (Hi : i.toNat ∉ H) (Ha : a.i.toNat ∉ H) (Hb : b.i.toNat ∉ H) (ok : Ok A) :
    ∃ A', m34_tree_node_right i ((es1.length : Nat) : Int) A H = some A' ∧ Three A A' i.toNat a.i.toNat b.i.toNat ∧ idx A' i = some (node (es1 ++ ea :: es2) (ch1 ++ a :: b :: ch2)) ∧ idx A' a.i = some (node esa (chsa.take (esa.length + 1))) ∧ idx A' b.i = some (node (e :: esb) (chsa.drop (esa.length + 1) ++ chsb)) := by
  have hi0 := idx_some hi
  have ha0 := idx_some ha
  have hb0 := idx_some hb
  have ki := ok.at hi
  have ka := ok.at ha
  have kb := ok.at hb
  have nia : i ≠ a.i := fun h => ia (by rw [h])
  have nib : i ≠ b.i := fun h => ib (by rw [h])
  have nab : a.i ≠ b.i := fun h => ab (by rw [h])
  have hlen : ((node (esa ++ [ea]) chsa).keys_.length : Int) = ((esa.length + 1 : Nat) : Int) := by simp [node]
  have e1 : xInsR (node esb chsb).keys_ 0 e.1 = some ((e :: esb).map Prod.fst) := ins0 _ _ (by show (esb.map Prod.fst).length ≤ 1000; rw [List.length_map]; omega)
  have e2 : xInsR (node esb chsb).texts_ 0 e.2 = some ((e :: esb).map Prod.snd) := ins0 _ _ (by show (esb.map Prod.snd).length ≤ 1000; rw [List.length_map]; omega)
  have e3 : cut (node (esa ++ [ea]) chsa).keys_ 0 ((esa.length : Nat) : Int) = some (esa.map Prod.fst) := by have := cutp (esa.map Prod.fst) [ea.1]; simpa [node] using this
  have e4 : cut (node (esa ++ [ea]) chsa).texts_ 0 ((esa.length : Nat) : Int) = some (esa.map Prod.snd) := by have := cutp (esa.map Prod.snd) [ea.2]; simpa [node] using this
  generalize hB1 : (⟨(e :: esb).map Prod.fst, (e :: esb).map Prod.snd, (node esb chsb).kids_⟩ : Tnode) = B1
  generalize hX : (⟨(es1 ++ ea :: es2).map Prod.fst, (es1 ++ ea :: es2).map Prod.snd, (node (es1 ++ e :: es2) (ch1 ++ a :: b :: ch2)).kids_⟩ : Tnode) = X
  have hXn : X = node (es1 ++ ea :: es2) (ch1 ++ a :: b :: ch2) := by rw [← hX]; rfl
  have o1 : Ok (A.set b.i.toNat B1) := ok.set fun q hq => by rw [← hB1] at hq; exact kb q hq
  have i1 : idx (A.set b.i.toNat B1) i = some (node (es1 ++ e :: es2) (ch1 ++ a :: b :: ch2)) := by rw [idx_set_ne ib, hi]
  have i2 : idx (A.set b.i.toNat B1) a.i = some (node (esa ++ [ea]) chsa) := by rw [idx_set_ne ab, ha]
  rw [m34_tree_node_right, hi, bind1_some, ck_pos Hi, bind1_some, kid_a hl1, bind1_some, isucc _ (by simp at hes; omega), bind1_some, kid_b hl1, bind1_some, bind1_some, ha, bind1_some, ck_pos Ha, bind1_some, hlen, isub _ (by omega), bind1_some, bind1_some, hb, bind1_some, ck_pos Hb, bind1_some, bind1_some, bind1_some, ck_pos nib, bind1_some, key_at, bind1_some, text_at, bind1_some, e1, bind1_some, e2, bind1_some, bind1_some, bind1_some, upd_at hb0.1 hb0.2.1, bind1_some, hB1, m34_tree_node_right_K1, i1, bind1_some, ck_pos Hi, bind1_some, i2, bind1_some, ck_pos Ha, bind1_some, ck_pos (Ne.symm nia), bind1_some, key_at, bind1_some, text_at, bind1_some, key_at, bind1_some, key_set, bind1_some, text_at, bind1_some, text_set, bind1_some, e3, bind1_some, e4, bind1_some]
  rcases hs with ⟨rfl, rfl⟩ | ⟨s1, s2⟩
  · rw [if_neg (by simp [node]), bind1_some, upd_at ha0.1 (by simp; omega), bind1_some, bind1_some, upd_at hi0.1 (by simp; omega), bind1_some, hX]
    refine ⟨_, rfl, ⟨by simp, fun n h1 h2 h3 => by rw [List.getElem?_set_ne (Ne.symm h1), List.getElem?_set_ne (Ne.symm h2), List.getElem?_set_ne (Ne.symm h3)], (o1.set fun q hq => by simp [node] at hq).set fun q hq => ?_⟩, ?_, ?_, ?_⟩
    · rw [hXn] at hq; have := ki q hq; simp; omega
    · rw [idx_set_eq hi0.1 (by simp; omega), hXn]
    · rw [idx_set_ne (Ne.symm ia), idx_set_eq ha0.1 (by rw [List.length_set]; omega), List.take_nil]; rfl
    · rw [idx_set_ne (Ne.symm ib), idx_set_ne (Ne.symm ab), idx_set_eq hb0.1 (by omega), ← hB1, List.drop_nil]; rfl
  · have hk0 : (0 : Int) < ((node (esa ++ [ea]) chsa).kids_.length : Int) := by show (0 : Int) < ((chsa.map Ch.i).length : Int); rw [List.length_map]; omega
    have hsp : chsa = chsa.take (esa.length + 1) ++ [chsa[esa.length + 1]'(by omega)] := by
      have := at_place chsa (esa.length + 1) (by omega)
      rwa [List.drop_eq_nil_of_le (by omega)] at this
    generalize hT : chsa.take (esa.length + 1) = T at *
    generalize hz : chsa[esa.length + 1]'(by omega) = z at *
    have hTl : T.length = esa.length + 1 := by rw [← hT, List.length_take]; omega
    have hD : chsa.drop (esa.length + 1) = [z] := by rw [hsp, List.drop_left' hTl]
    have e5 : idx (node (esa ++ [ea]) chsa).kids_ ((esa.length + 1 : Nat) : Int) = some z.i := by
      rw [hsp, ← hTl]
      show idx ((T ++ [z]).map Ch.i) _ = _
      rw [idx_nat]
      simp
    have e6 : xInsR B1.kids_ 0 z.i = some ((z :: chsb).map Ch.i) := by
      rw [← hB1]
      exact ins0 _ _ (by show (chsb.map Ch.i).length ≤ 1000; rw [List.length_map]; omega)
    have e7 : cut (node (esa ++ [ea]) chsa).kids_ 0 ((esa.length + 1 : Nat) : Int) = some (T.map Ch.i) := by
      rw [hsp, ← hTl]
      have := cutp (T.map Ch.i) [z.i]
      simpa [node] using this
    rw [if_pos hk0, bind1_some, upd_at hi0.1 (by simp; omega), bind1_some, hX, idx_set_ne (Ne.symm ib), idx_set_eq hb0.1 (by omega), bind1_some, ck_pos Hb, bind1_some, ck_pos (Ne.symm nab), bind1_some, isucc _ (by omega), bind1_some, e5, bind1_some, e6, bind1_some, bind1_some, e7, bind1_some, bind1_some, upd_at hb0.1 (by simp; omega), bind1_some, bind1_some, upd_at ha0.1 (by simp; omega), bind1_some]
    have hza : z.i < A.length := ka z.i (by show z.i ∈ chsa.map Ch.i; rw [hsp]; simp)
    refine ⟨_, rfl, ⟨by simp, fun n h1 h2 h3 => by rw [List.getElem?_set_ne (Ne.symm h2), List.getElem?_set_ne (Ne.symm h3), List.getElem?_set_ne (Ne.symm h1), List.getElem?_set_ne (Ne.symm h3)], ((o1.set fun q hq => ?_).set fun q hq => ?_).set fun q hq => ?_⟩, ?_, ?_, ?_⟩
    · rw [hXn] at hq; have := ki q hq; simp; omega
    · simp only [List.map_cons, List.mem_cons] at hq
      rcases hq with rfl | hq
      · simp; omega
      · have := kb q hq; simp; omega
    · have := ka q (by show q ∈ chsa.map Ch.i; rw [hsp, List.map_append]; exact List.mem_append_left _ hq); simp; omega
    · rw [idx_set_ne ia, idx_set_ne ib, idx_set_eq hi0.1 (by simp; omega), hXn]
    · rw [idx_set_eq ha0.1 (by simp; omega)]; simp [node]
    · rw [idx_set_ne (Ne.symm ab), idx_set_eq hb0.1 (by simp; omega), hD, ← hB1]; simp [node]
set_option maxHeartbeats 1000000 in
theorem left_eq (hi : idx A i = some (node (es1 ++ e :: es2) (ch1 ++ a :: b :: ch2))) (hl1 : ch1.length = es1.length) (hes : (es1 ++ e :: es2).length ≤ 4) (ha : idx A a.i = some (node esa chsa)) (hb : idx A b.i = some (node (eb :: esb) chsb)) (la : esa.length ≤ 4) (lb : esb.length ≤ 4)
    (hs : chsa = [] ∧ chsb = [] ∨ chsa.length = esa.length + 1 ∧ chsb.length = esb.length + 2) (ia : i.toNat ≠ a.i.toNat) (ib : i.toNat ≠ b.i.toNat) (ab : a.i.toNat ≠ b.i.toNat) (Hi : i.toNat ∉ H) (Ha : a.i.toNat ∉ H) (Hb : b.i.toNat ∉ H) (ok : Ok A) :
    ∃ A', m35_tree_node_left i ((es1.length : Nat) : Int) A H = some A' ∧ Three A A' i.toNat a.i.toNat b.i.toNat ∧ idx A' i = some (node (es1 ++ eb :: es2) (ch1 ++ a :: b :: ch2)) ∧ idx A' a.i = some (node (esa ++ [e]) (chsa ++ chsb.take 1)) ∧ idx A' b.i = some (node esb (chsb.drop 1)) := by
  have hi0 := idx_some hi
  have ha0 := idx_some ha
  have hb0 := idx_some hb
  have ki := ok.at hi
  have ka := ok.at ha
  have kb := ok.at hb
  have nia : i ≠ a.i := fun h => ia (by rw [h])
  have nib : i ≠ b.i := fun h => ib (by rw [h])
  have nab : a.i ≠ b.i := fun h => ab (by rw [h])
  have e1 : app (node esa chsa).keys_ [e.1] = some ((esa ++ [e]).map Prod.fst) := by rw [app_ok (by simp [node]; omega)]; simp [node]
  have e2 : app (node esa chsa).texts_ [e.2] = some ((esa ++ [e]).map Prod.snd) := by rw [app_ok (by simp [node]; omega)]; simp [node]
  have e3 : xDelR (node (eb :: esb) chsb).keys_ 0 1 = some (esb.map Prod.fst) := del0 _ _ (by rw [List.length_map]; omega)
  have e4 : xDelR (node (eb :: esb) chsb).texts_ 0 1 = some (esb.map Prod.snd) := del0 _ _ (by rw [List.length_map]; omega)
  generalize hB1 : (⟨(esa ++ [e]).map Prod.fst, (esa ++ [e]).map Prod.snd, (node esa chsa).kids_⟩ : Tnode) = B1
  generalize hX : (⟨(es1 ++ eb :: es2).map Prod.fst, (es1 ++ eb :: es2).map Prod.snd, (node (es1 ++ e :: es2) (ch1 ++ a :: b :: ch2)).kids_⟩ : Tnode) = X
  have hXn : X = node (es1 ++ eb :: es2) (ch1 ++ a :: b :: ch2) := by rw [← hX]; rfl
  have o1 : Ok (A.set a.i.toNat B1) := ok.set fun q hq => by rw [← hB1] at hq; exact ka q hq
  have i1 : idx (A.set a.i.toNat B1) i = some (node (es1 ++ e :: es2) (ch1 ++ a :: b :: ch2)) := by rw [idx_set_ne ia, hi]
  have i2 : idx (A.set a.i.toNat B1) b.i = some (node (eb :: esb) chsb) := by rw [idx_set_ne (Ne.symm ab), hb]
  rw [m35_tree_node_left, hi, bind1_some, ck_pos Hi, bind1_some, kid_a hl1, bind1_some, isucc _ (by simp at hes; omega), bind1_some, kid_b hl1, bind1_some, ha, bind1_some, ck_pos Ha, bind1_some, ck_pos (Ne.symm nia), bind1_some, key_at, bind1_some, text_at, bind1_some, e1, bind1_some, e2, bind1_some, bind1_some, upd_at ha0.1 ha0.2.1, bind1_some, hB1, bind1_some, m35_tree_node_left_K1, i1, bind1_some, ck_pos Hi, bind1_some, i2, bind1_some, ck_pos Hb, bind1_some, ck_pos (Ne.symm nib), bind1_some,
    show idx (node (eb :: esb) chsb).keys_ 0 = some eb.1 from rfl, bind1_some, show idx (node (eb :: esb) chsb).texts_ 0 = some eb.2 from rfl, bind1_some, key_at, bind1_some, key_set, bind1_some, text_at, bind1_some, text_set, bind1_some, e3, bind1_some, e4, bind1_some]
  rcases hs with ⟨rfl, rfl⟩ | ⟨s1, s2⟩
  · rw [if_neg (by simp [node]), bind1_some, upd_at hb0.1 (by simp; omega), bind1_some, bind1_some, upd_at hi0.1 (by simp; omega), bind1_some, hX]
    refine ⟨_, rfl, ⟨by simp, fun n h1 h2 h3 => by rw [List.getElem?_set_ne (Ne.symm h1), List.getElem?_set_ne (Ne.symm h3), List.getElem?_set_ne (Ne.symm h2)], (o1.set fun q hq => by simp [node] at hq).set fun q hq => ?_⟩, ?_, ?_, ?_⟩
    · rw [hXn] at hq; have := ki q hq; simp; omega
    · rw [idx_set_eq hi0.1 (by simp; omega), hXn]
    · rw [idx_set_ne (Ne.symm ia), idx_set_ne ab, idx_set_eq ha0.1 (by omega), ← hB1, List.take_nil, List.append_nil]; rfl
    · rw [idx_set_ne (Ne.symm ib), idx_set_eq hb0.1 (by rw [List.length_set]; omega), List.drop_nil]; rfl
  · obtain ⟨z, zs, rfl⟩ : ∃ z zs, chsb = z :: zs := by
      cases chsb with
      | nil => simp at s2
      | cons z zs => exact ⟨z, zs, rfl⟩
    have hk0 : (0 : Int) < ((node (eb :: esb) (z :: zs)).kids_.length : Int) := by show (0 : Int) < (((z :: zs).map Ch.i).length : Int); rw [List.length_map]; omega
    have e5 : app B1.kids_ [z.i] = some ((chsa ++ [z]).map Ch.i) := by
      rw [← hB1, app_ok (by simp [node]; omega)]
      simp [node]
    have e6 : xDelR (node (eb :: esb) (z :: zs)).kids_ 0 1 = some (zs.map Ch.i) := del0 _ _ (by rw [List.length_map]; simp at s2; omega)
    rw [if_pos hk0, bind1_some, upd_at hi0.1 (by simp; omega), bind1_some, hX, idx_set_ne (Ne.symm ia), idx_set_eq ha0.1 (by omega), bind1_some, ck_pos Ha, bind1_some, ck_pos nab, bind1_some, show idx (node (eb :: esb) (z :: zs)).kids_ 0 = some z.i from rfl, bind1_some, e5, bind1_some, e6, bind1_some, bind1_some, upd_at ha0.1 (by simp; omega), bind1_some, bind1_some, upd_at hb0.1 (by simp; omega), bind1_some]
    have hzb : z.i < A.length := kb z.i (by show z.i ∈ (z :: zs).map Ch.i; simp)
    refine ⟨_, rfl, ⟨by simp, fun n h1 h2 h3 => by rw [List.getElem?_set_ne (Ne.symm h3), List.getElem?_set_ne (Ne.symm h2), List.getElem?_set_ne (Ne.symm h1), List.getElem?_set_ne (Ne.symm h2)], ((o1.set fun q hq => ?_).set fun q hq => ?_).set fun q hq => ?_⟩, ?_, ?_, ?_⟩
    · rw [hXn] at hq; have := ki q hq; simp; omega
    · simp only [List.map_append, List.map_cons, List.map_nil, List.mem_append, List.mem_singleton] at hq
      rcases hq with hq | rfl
      · have := ka q hq; simp; omega
      · simp; omega
    · have := kb q (by show q ∈ (z :: zs).map Ch.i; rw [List.map_cons]; exact List.mem_cons_of_mem _ hq); simp; omega
    · rw [idx_set_ne ib, idx_set_ne ia, idx_set_eq hi0.1 (by simp; omega), hXn]
    · rw [idx_set_ne ab, idx_set_eq ha0.1 (by simp; omega), ← hB1]; simp [node]
    · rw [idx_set_eq hb0.1 (by simp; omega)]; simp [node]
theorem delp {α : Type} (l1 l2 : List α) (x : α) (h : l1.length + l2.length ≤ 1000) : xDelR (l1 ++ x :: l2) ((l1.length : Nat) : Int) ((l1.length + 1 : Nat) : Int) = some (l1 ++ l2) := by
  have hl : (l1 ++ x :: l2).length = l1.length + l2.length + 1 := by rw [List.length_append, List.length_cons]; omega
  unfold xDelR
  rw [if_pos ⟨by omega, by omega, by omega, by omega⟩, Int.toNat_natCast, Int.toNat_natCast, List.take_left, show l1 ++ x :: l2 = (l1 ++ [x]) ++ l2 by simp, List.drop_left' (by simp)]
set_option maxHeartbeats 1000000 in
theorem join_eq (hi : idx A i = some (node (es1 ++ e :: es2) (ch1 ++ a :: b :: ch2))) (hl1 : ch1.length = es1.length) (hl2 : ch2.length = es2.length) (hes : (es1 ++ e :: es2).length ≤ 4) (ha : idx A a.i = some (node esa chsa)) (hb : idx A b.i = some (node esb chsb)) (la : esa.length ≤ 4) (lb : esb.length ≤ 4)
    (sa : chsa.length ≤ 5) (sb : chsb.length ≤ 5) (ia : i.toNat ≠ a.i.toNat) (ib : i.toNat ≠ b.i.toNat) (ab : a.i.toNat ≠ b.i.toNat) (Hi : i.toNat ∉ H) (Ha : a.i.toNat ∉ H) (Hb : b.i.toNat ∉ H) (ok : Ok A) :
    ∃ A', m36_tree_node_join i ((es1.length : Nat) : Int) A H = some A' ∧ Three A A' i.toNat a.i.toNat b.i.toNat ∧ idx A' i = some (node (es1 ++ es2) (ch1 ++ a :: ch2)) ∧ idx A' a.i = some (node (esa ++ e :: esb) (chsa ++ chsb)) := by
  have hi0 := idx_some hi
  have ha0 := idx_some ha
  have hb0 := idx_some hb
  have ki := ok.at hi
  have ka := ok.at ha
  have kb := ok.at hb
  have nia : i ≠ a.i := fun h => ia (by rw [h])
  have nib : i ≠ b.i := fun h => ib (by rw [h])
  have nab : a.i ≠ b.i := fun h => ab (by rw [h])
  have hes' : es1.length + es2.length ≤ 3 := by simp at hes; omega
  have e1 : app (node esa chsa).keys_ [e.1] = some ((esa ++ [e]).map Prod.fst) := by rw [app_ok (by simp [node]; omega)]; simp [node]
  have e2 : app (node esa chsa).texts_ [e.2] = some ((esa ++ [e]).map Prod.snd) := by rw [app_ok (by simp [node]; omega)]; simp [node]
  have e3 : app ((esa ++ [e]).map Prod.fst) (node esb chsb).keys_ = some ((esa ++ e :: esb).map Prod.fst) := by rw [app_ok (by simp [node]; omega)]; simp [node]
  have e4 : app ((esa ++ [e]).map Prod.snd) (node esb chsb).texts_ = some ((esa ++ e :: esb).map Prod.snd) := by rw [app_ok (by simp [node]; omega)]; simp [node]
  have e5 : app (node esa chsa).kids_ (node esb chsb).kids_ = some ((chsa ++ chsb).map Ch.i) := by rw [app_ok (by simp [node]; omega)]; simp [node]
  have e6 : xDelR (node (es1 ++ e :: es2) (ch1 ++ a :: b :: ch2)).keys_ ((es1.length : Nat) : Int) ((es1.length + 1 : Nat) : Int) = some ((es1 ++ es2).map Prod.fst) := by
    have := delp (es1.map Prod.fst) (es2.map Prod.fst) e.1 (by simp; omega)
    simpa [node] using this
  have e7 : xDelR (node (es1 ++ e :: es2) (ch1 ++ a :: b :: ch2)).texts_ ((es1.length : Nat) : Int) ((es1.length + 1 : Nat) : Int) = some ((es1 ++ es2).map Prod.snd) := by
    have := delp (es1.map Prod.snd) (es2.map Prod.snd) e.2 (by simp; omega)
    simpa [node] using this
  have e8 : xDelR (node (es1 ++ e :: es2) (ch1 ++ a :: b :: ch2)).kids_ ((es1.length + 1 : Nat) : Int) ((es1.length + 2 : Nat) : Int) = some ((ch1 ++ a :: ch2).map Ch.i) := by
    have := delp ((ch1 ++ [a]).map Ch.i) (ch2.map Ch.i) b.i (by simp; omega)
    rw [show ((ch1 ++ [a]).map Ch.i).length = es1.length + 1 by simp [hl1]] at this
    show xDelR ((ch1 ++ a :: b :: ch2).map Ch.i) _ _ = _
    rw [show (ch1 ++ a :: b :: ch2).map Ch.i = (ch1 ++ [a]).map Ch.i ++ b.i :: ch2.map Ch.i by simp]
    rw [show es1.length + 2 = es1.length + 1 + 1 by omega, this]
    simp
  have e9 : i64 (((es1.length : Nat) : Int) + 2) = some ((es1.length + 2 : Nat) : Int) := by rw [i64_ok (by omega) (by omega)]; rfl
  have h1 : i64 (((es1.length : Nat) : Int) + 1) = some ((es1.length + 1 : Nat) : Int) := isucc _ (by omega)
  rw [m36_tree_node_join, hi, bind1_some, ck_pos Hi, bind1_some, kid_a hl1, bind1_some, h1, bind1_some, kid_b hl1, bind1_some, ha, bind1_some, ck_pos Ha, bind1_some, ck_pos (Ne.symm nia), bind1_some, hb, bind1_some, ck_pos Hb, bind1_some, ck_pos (Ne.symm nib), bind1_some, ck_pos (Ne.symm nab), bind1_some, key_at, bind1_some, e1, bind1_some, e3, bind1_some, text_at, bind1_some, e2, bind1_some, e4, bind1_some, e5, bind1_some, bind1_some, bind1_some, e6, bind1_some, e7, bind1_some, bind1_some, e9, bind1_some, e8, bind1_some, bind1_some, bind1_some, upd_at ha0.1 ha0.2.1, bind1_some, bind1_some, upd_at hi0.1 (by simp; omega), bind1_some]
  refine ⟨_, rfl, ⟨by simp, fun n h1 h2 h3 => by rw [List.getElem?_set_ne (Ne.symm h1), List.getElem?_set_ne (Ne.symm h2)], (ok.set fun q hq => ?_).set fun q hq => ?_⟩, ?_, ?_⟩
  · have hq : q ∈ (chsa ++ chsb).map Ch.i := hq
    rw [List.map_append] at hq
    rcases List.mem_append.1 hq with hq | hq
    · exact ka q hq
    · exact kb q hq
  · rw [List.length_set]
    refine ki q ?_
    show q ∈ (ch1 ++ a :: b :: ch2).map Ch.i
    simp only [List.map_append, List.map_cons, List.mem_append, List.mem_cons] at hq ⊢
    rcases hq with hq | hq | hq
    · exact .inl hq
    · exact .inr (.inl hq)
    · exact .inr (.inr (.inr hq))
  · rw [idx_set_eq hi0.1 (by simp; omega)]; rfl
  · rw [idx_set_ne (Ne.symm ia), idx_set_eq ha0.1 (by omega)]; rfl
end
section
variable {A A' : List Tnode} {h lo hi p : Nat} {i : Int} {kv : List KV} {F : List Nat} {es es1 es2 esa esb esa' esb' : List KV} {chs ch1 ch2 chsa chsb chsa' chsb' : List Ch} {e e' ea eb : KV} {k : Int} {t : List UInt8} {u : Tnode} {n : Nat} {a b c d f : Ch} {H : List Nat}
/-- What a mended node is. -/
def Mended (A A' : List Tnode) (h lo : Nat) (i : Int) (kv : List KV) (F : List Nat) : Prop := ∃ F', Rep A' h lo 4 i kv F' ∧ A'.length = A.length ∧ (∀ q, q ∉ F → A'[q]? = A[q]?) ∧ F'.Nodup ∧ (∀ q ∈ F', q ∈ F) ∧ Ok A'
theorem in_a (ga : a.F = a.i.toNat :: chsa.flatMap Ch.F) : a.i.toNat ∈ i.toNat :: (ch1 ++ a :: b :: ch2).flatMap Ch.F := List.mem_cons_of_mem _ (List.mem_flatMap.2 ⟨a, by simp, by rw [ga]; exact List.mem_cons_self⟩)
theorem in_b (gb : b.F = b.i.toNat :: chsb.flatMap Ch.F) : b.i.toNat ∈ i.toNat :: (ch1 ++ a :: b :: ch2).flatMap Ch.F := List.mem_cons_of_mem _ (List.mem_flatMap.2 ⟨b, by simp, by rw [gb]; exact List.mem_cons_self⟩)
theorem Three.out (T : Three A A' i.toNat a.i.toNat b.i.toNat) (ga : a.F = a.i.toNat :: chsa.flatMap Ch.F) (gb : b.F = b.i.toNat :: chsb.flatMap Ch.F) : ∀ q, q ∉ i.toNat :: (ch1 ++ a :: b :: ch2).flatMap Ch.F → A'[q]? = A[q]? := fun q hq =>
  T.same q (fun e => hq (by rw [e]; exact List.mem_cons_self)) (fun e => hq (by rw [e]; exact in_a ga)) (fun e => hq (by rw [e]; exact in_b gb))
theorem two_shapes (sa : Sub A h esa chsa) (sb : Sub A h esb chsb) : chsa = [] ∧ chsb = [] ∨ chsa.length = esa.length + 1 ∧ chsb.length = esb.length + 1 := by
  cases h with
  | zero => exact .inl ⟨sa, sb⟩
  | succ h => exact .inr ⟨sa.1, sb.1⟩
theorem snoc (es : List KV) (h : 0 < es.length) : ∃ es' e, es = es' ++ [e] := by
  rcases List.eq_nil_or_concat es with rfl | ⟨l, x, rfl⟩
  · simp at h
  · exact ⟨l, x, by simp⟩
theorem snocC (es : List Ch) (h : 0 < es.length) : ∃ es' e, es = es' ++ [e] := by
  rcases List.eq_nil_or_concat es with rfl | ⟨l, x, rfl⟩
  · simp at h
  · exact ⟨l, x, by simp⟩
section
variable (hu : idx A i = some (node (es1 ++ e :: es2) (ch1 ++ a :: b :: ch2))) (hl1 : ch1.length = es1.length) (hl2 : ch2.length = es2.length) (h4 : (es1 ++ e :: es2).length ≤ 4) (hr : ∀ x ∈ ch1 ++ ch2, Rep A h 2 4 x.i x.kv x.F)
  (hn : (i.toNat :: (ch1 ++ a :: b :: ch2).flatMap Ch.F).Nodup) (hH : ∀ q ∈ i.toNat :: (ch1 ++ a :: b :: ch2).flatMap Ch.F, q ∉ H) (ok : Ok A)
include hu hl1 hl2 h4 hr hn hH ok
theorem do_right (ra : Rep A h 3 4 a.i a.kv a.F) (rb : Rep A h 1 1 b.i b.kv b.F) (hlo : lo ≤ (es1 ++ e :: es2).length) :
    ∃ A', m34_tree_node_right i ((es1.length : Nat) : Int) A H = some A' ∧ Mended A A' (h + 1) lo i (mix (es1 ++ e :: es2) (ch1 ++ a :: b :: ch2)) (i.toNat :: (ch1 ++ a :: b :: ch2).flatMap Ch.F) := by
  obtain ⟨esA, chsa, ia, a1, a2, sa, ka, ga⟩ := rep_iff.1 ra
  obtain ⟨esb, chsb, ib, b1, b2, sb, kb, gb⟩ := rep_iff.1 rb
  obtain ⟨esa, ea, rfl⟩ := snoc esA (by omega)
  have ap := apart (A := A) (h := h) hn ga gb
  have hla : (esa ++ [ea]).length = esa.length + 1 := by simp
  have hs : chsa = [] ∧ chsb = [] ∨ chsa.length = esa.length + 2 ∧ chsb.length = esb.length + 1 := by
    rcases two_shapes sa sb with h | h
    · exact .inl h
    · exact .inr (by omega)
  obtain ⟨A', e1, T, xi, xa, xb⟩ := right_eq hu hl1 h4 ia ib (by omega) (by omega) hs ap.ia ap.ib ap.ab (hH _ List.mem_cons_self) (hH _ (in_a ga)) (hH _ (in_b gb)) ok
  have hsha : Shp h esa (chsa.take (esa.length + 1)) := by
    cases h with
    | zero => have : chsa = [] := sa; subst this; simp [Shp]
    | succ h => have := sa.1; show (chsa.take (esa.length + 1)).length = _; rw [List.length_take]; omega
  have hshb : Shp h (e :: esb) (chsa.drop (esa.length + 1) ++ chsb) := by
    cases h with
    | zero => have h1 : chsa = [] := sa; have h2 : chsb = [] := sb; subst h1; subst h2; simp [Shp]
    | succ h => have := sa.1; have := sb.1; show (chsa.drop (esa.length + 1) ++ chsb).length = _; rw [List.length_append, List.length_drop, List.length_cons]; omega
  have hm : mix esa (chsa.take (esa.length + 1)) ++ ea :: mix (e :: esb) (chsa.drop (esa.length + 1) ++ chsb) = a.kv ++ e :: b.kv := by
    rw [ka, kb, mix_cut esa chsa sa.shape]
    have h1 := mix_cut (e := e) (es2 := esb) [] (chsa.drop (esa.length + 1) ++ chsb) (by
      rcases hs with ⟨rfl, rfl⟩ | ⟨s1, s2⟩
      · simp
      · right; simp; omega)
    simp only [List.nil_append, List.length_nil, Nat.zero_add] at h1
    rw [h1]
    rcases hs with ⟨rfl, rfl⟩ | ⟨s1, s2⟩
    · simp
    · have hd : (chsa.drop (esa.length + 1)).length = 1 := by rw [List.length_drop]; omega
      rw [List.take_left' hd, List.drop_left' hd]
      simp
  obtain ⟨F', r1, p1⟩ := pair_rep (lo := lo) (hi := 4) hl1 hl2 hr sa sb ga gb hn T xi xa xb (by rw [← List.append_assoc, List.take_append_drop]) hsha hshb (by omega) (by rw [List.length_cons]; omega) hlo h4 hm
  exact ⟨A', e1, F', r1, T.len, T.out ga gb, p1.nodup_iff.2 hn, fun q hq => p1.mem_iff.1 hq, T.ok⟩
theorem do_left (ra : Rep A h 1 1 a.i a.kv a.F) (rb : Rep A h 3 4 b.i b.kv b.F) (hlo : lo ≤ (es1 ++ e :: es2).length) :
    ∃ A', m35_tree_node_left i ((es1.length : Nat) : Int) A H = some A' ∧ Mended A A' (h + 1) lo i (mix (es1 ++ e :: es2) (ch1 ++ a :: b :: ch2)) (i.toNat :: (ch1 ++ a :: b :: ch2).flatMap Ch.F) := by
  obtain ⟨esa, chsa, ia, a1, a2, sa, ka, ga⟩ := rep_iff.1 ra
  obtain ⟨esB, chsb, ib, b1, b2, sb, kb, gb⟩ := rep_iff.1 rb
  obtain ⟨eb, esb, rfl⟩ : ∃ eb esb, esB = eb :: esb := by
    cases esB with
    | nil => simp at b1
    | cons x l => exact ⟨x, l, rfl⟩
  have ap := apart (A := A) (h := h) hn ga gb
  have hlb : (eb :: esb).length = esb.length + 1 := by simp
  have hs : chsa = [] ∧ chsb = [] ∨ chsa.length = esa.length + 1 ∧ chsb.length = esb.length + 2 := by
    rcases two_shapes sa sb with h | h
    · exact .inl h
    · exact .inr (by omega)
  obtain ⟨A', e1, T, xi, xa, xb⟩ := left_eq hu hl1 h4 ia ib (by omega) (by omega) hs ap.ia ap.ib ap.ab (hH _ List.mem_cons_self) (hH _ (in_a ga)) (hH _ (in_b gb)) ok
  have hsha : Shp h (esa ++ [e]) (chsa ++ chsb.take 1) := by
    cases h with
    | zero => have h1 : chsa = [] := sa; have h2 : chsb = [] := sb; subst h1; subst h2; simp [Shp]
    | succ h => have := sa.1; have := sb.1; show (chsa ++ chsb.take 1).length = _; rw [List.length_append, List.length_take, List.length_append, List.length_singleton]; omega
  have hshb : Shp h esb (chsb.drop 1) := by
    cases h with
    | zero => have : chsb = [] := sb; subst this; simp [Shp]
    | succ h => have := sb.1; show (chsb.drop 1).length = _; rw [List.length_drop]; omega
  have hm : mix (esa ++ [e]) (chsa ++ chsb.take 1) ++ eb :: mix esb (chsb.drop 1) = a.kv ++ e :: b.kv := by
    have h1 := mix_cut (e := eb) (es2 := esb) [] chsb sb.shape
    simp only [List.nil_append, List.length_nil, Nat.zero_add] at h1
    rw [ka, kb, h1, mix_cut esa (chsa ++ chsb.take 1) (by
      rcases hs with ⟨rfl, rfl⟩ | ⟨s1, s2⟩
      · simp
      · right; rw [List.length_append, List.length_take, List.length_append, List.length_singleton]; omega)]
    rcases hs with ⟨rfl, rfl⟩ | ⟨s1, s2⟩
    · simp
    · rw [List.take_left' s1, List.drop_left' s1]
      simp
  obtain ⟨F', r1, p1⟩ := pair_rep (lo := lo) (hi := 4) hl1 hl2 hr sa sb ga gb hn T xi xa xb (by rw [List.append_assoc, List.take_append_drop]) hsha hshb (by rw [List.length_append, List.length_singleton]; omega) (by omega) hlo h4 hm
  exact ⟨A', e1, F', r1, T.len, T.out ga gb, p1.nodup_iff.2 hn, fun q hq => p1.mem_iff.1 hq, T.ok⟩
theorem do_join {na nb : Nat} (ra : Rep A h 1 na a.i a.kv a.F) (rb : Rep A h 1 nb b.i b.kv b.F) (hab : na + nb ≤ 3) (hlo : lo + 1 ≤ (es1 ++ e :: es2).length) :
    ∃ A', m36_tree_node_join i ((es1.length : Nat) : Int) A H = some A' ∧ Mended A A' (h + 1) lo i (mix (es1 ++ e :: es2) (ch1 ++ a :: b :: ch2)) (i.toNat :: (ch1 ++ a :: b :: ch2).flatMap Ch.F) := by
  obtain ⟨esa, chsa, ia, a1, a2, sa, ka, ga⟩ := rep_iff.1 ra
  obtain ⟨esb, chsb, ib, b1, b2, sb, kb, gb⟩ := rep_iff.1 rb
  have ap := apart (A := A) (h := h) hn ga gb
  have q1 : chsa.length ≤ 5 := by
    rcases two_shapes sa sb with ⟨h, _⟩ | h
    · rw [h]; simp
    · omega
  have q2 : chsb.length ≤ 5 := by
    rcases two_shapes sa sb with ⟨_, h⟩ | h
    · rw [h]; simp
    · omega
  obtain ⟨A', e1, T, xi, xa⟩ := join_eq hu hl1 hl2 h4 ia ib (by omega) (by omega) q1 q2 ap.ia ap.ib ap.ab (hH _ List.mem_cons_self) (hH _ (in_a ga)) (hH _ (in_b gb)) ok
  have hl : (es1 ++ e :: es2).length = (es1 ++ es2).length + 1 := by simp; omega
  have hl9 : (esa ++ e :: esb).length = esa.length + esb.length + 1 := by simp; omega
  obtain ⟨F', r1, p1⟩ := join_rep (lo := lo) (hi := 4) hl1 hl2 hr sa sb ga gb hn T xi xa ka kb (by omega) (by omega) (by omega)
  have hnd := p1.nodup_iff.2 hn
  exact ⟨A', e1, F', r1, T.len, T.out ga gb, (List.nodup_cons.1 hnd).2, fun q hq => p1.mem_iff.1 (List.mem_cons_of_mem _ hq), T.ok⟩
end
end
section
variable {A A' : List Tnode} {h lo hi p : Nat} {i : Int} {kv : List KV} {F : List Nat} {es es1 es2 esa esb esa' esb' : List KV} {chs ch1 ch2 chsa chsb chsa' chsb' : List Ch} {e e' ea eb : KV} {k : Int} {t : List UInt8} {u : Tnode} {n : Nat} {a b c d f : Ch} {H : List Nat}
theorem mem_flat {x : Ch} (hx : x ∈ chs) {q : Nat} (hq : q ∈ x.F) : q ∈ i.toNat :: chs.flatMap Ch.F := List.mem_cons_of_mem _ (List.mem_flatMap.2 ⟨x, hx, hq⟩)
/-- With the neighbour ahead, if there is one. -/
theorem join_ahead {es1' : List KV} {ch1' : List Ch} (hu : idx A i = some (node (es1' ++ e :: es2) (ch1' ++ d :: c :: ch2))) (hl1 : ch1'.length = es1'.length) (hl2 : ch2.length = es2.length) (h4 : (es1' ++ e :: es2).length ≤ 4) (hr : ∀ x ∈ ch1' ++ ch2, Rep A h 2 4 x.i x.kv x.F)
    (hn : (i.toNat :: (ch1' ++ d :: c :: ch2).flatMap Ch.F).Nodup) (hH : ∀ q ∈ i.toNat :: (ch1' ++ d :: c :: ch2).flatMap Ch.F, q ∉ H) (ok : Ok A) (rd : Rep A h 2 2 d.i d.kv d.F) (rc : Rep A h 1 1 c.i c.kv c.F) (hlo : lo + 1 ≤ (es1' ++ e :: es2).length) :
    ∃ A', m27_tree_node_mend_K3 i ((es1'.length + 1 : Nat) : Int) A H false = some A' ∧ Mended A A' (h + 1) lo i (mix (es1' ++ e :: es2) (ch1' ++ d :: c :: ch2)) (i.toNat :: (ch1' ++ d :: c :: ch2).flatMap Ch.F) := by
  obtain ⟨A', e1, m1⟩ := do_join hu hl1 hl2 h4 hr hn hH ok (rd.wk (lo' := 1) (hi' := 2) (by omega) (Nat.le_refl _)) rc (by omega) hlo
  refine ⟨A', ?_, m1⟩
  simp at h4
  rw [m27_tree_node_mend_K3, if_neg (by simp), if_pos (by omega), isub _ (by omega), bind1_some, e1, bind1_some]
/-- The neighbour ahead has none to spare. -/
theorem mend_behind (hu : idx A i = some (node (es1 ++ es2) (ch1 ++ c :: ch2))) (hl1 : ch1.length = es1.length) (hl2 : ch2.length = es2.length) (h1 : 1 ≤ (es1 ++ es2).length) (h4 : (es1 ++ es2).length ≤ 4) (hr : ∀ x ∈ ch1 ++ ch2, Rep A h 2 4 x.i x.kv x.F) (rc : Rep A h 1 1 c.i c.kv c.F)
    (hn : (i.toNat :: (ch1 ++ c :: ch2).flatMap Ch.F).Nodup) (hH : ∀ q ∈ i.toNat :: (ch1 ++ c :: ch2).flatMap Ch.F, q ∉ H) (ok : Ok A) (hlo : lo + 1 ≤ (es1 ++ es2).length)
    (hd : es1 = [] ∨ ∃ es1' e ch1' d, es1 = es1' ++ [e] ∧ ch1 = ch1' ++ [d] ∧ Rep A h 2 2 d.i d.kv d.F) :
    ∃ A', m27_tree_node_mend_K2 ((es1.length : Nat) : Int) i A H false = some A' ∧ Mended A A' (h + 1) lo i (mix (es1 ++ es2) (ch1 ++ c :: ch2)) (i.toNat :: (ch1 ++ c :: ch2).flatMap Ch.F) := by
  have hi0 := idx_some hu
  have Hi := hH _ List.mem_cons_self
  have ahead : es1 ≠ [] → ∃ A', m27_tree_node_mend_K3 i ((es1.length : Nat) : Int) A H false = some A' ∧ Mended A A' (h + 1) lo i (mix (es1 ++ es2) (ch1 ++ c :: ch2)) (i.toNat :: (ch1 ++ c :: ch2).flatMap Ch.F) := fun hne => by
    rcases hd with h | ⟨es1', e, ch1', d, rfl, rfl, rd⟩
    · exact absurd h hne
    · have hl1' : ch1'.length = es1'.length := by simpa using hl1
      simp only [List.append_assoc, List.cons_append, List.nil_append] at hu h4 hn hH hlo ⊢
      rw [show (es1' ++ [e]).length = es1'.length + 1 by simp]
      exact join_ahead hu hl1' hl2 h4 (fun x hx => hr x (by
        rcases List.mem_append.1 hx with h | h
        · simp [h]
        · simp [h])) hn hH ok rd rc hlo
  rw [m27_tree_node_mend_K2, if_neg (by simp), hu, bind1_some, ck_pos Hi, bind1_some]
  have hkl : ((node (es1 ++ es2) (ch1 ++ c :: ch2)).keys_.length : Int) = ((es1.length + es2.length : Nat) : Int) := by simp [node]
  cases es2 with
  | nil =>
    have hne : es1 ≠ [] := by rintro rfl; simp at h1
    rw [if_neg (by rw [hkl]; simp)]
    exact ahead hne
  | cons e2 es2 =>
    obtain ⟨f, ch2, rfl⟩ : ∃ f l, ch2 = f :: l := by
      cases ch2 with
      | nil => simp at hl2
      | cons x l => exact ⟨x, l, rfl⟩
    have hl2' : ch2.length = es2.length := by simpa using hl2
    have rf := hr f (by simp)
    obtain ⟨esf, chf, jf, f1, f2, f3, f4, f5⟩ := rep_iff.1 rf
    have hHf : f.i.toNat ∉ H := hH _ (in_b f5)
    have ⟨esc, chc, jc, c1, c2, c3, c4, c5⟩ := rep_iff.1 rc
    have ap := apart (A := A) (h := h) hn c5 f5
    have hfl : ((node esf chf).keys_.length : Int) = ((esf.length : Nat) : Int) := by simp [node]
    simp only [List.length_append, List.length_cons] at h4
    rw [if_pos (by rw [hkl, List.length_cons]; omega), isucc _ (by omega), bind1_some, kid_b hl1, bind1_some, jf, bind1_some, ck_pos hHf, bind1_some, ck_pos (show f.i ≠ i from fun h => ap.ib (by rw [h])), bind1_some, hfl]
    have hr' : ∀ x ∈ ch1 ++ ch2, Rep A h 2 4 x.i x.kv x.F := fun x hx => hr x (by
      rcases List.mem_append.1 hx with h | h
      · exact List.mem_append_left _ h
      · exact List.mem_append_right _ (List.mem_cons_of_mem _ h))
    by_cases g : 2 < esf.length
    · rw [if_pos (by omega), bind1_some, bind1_some]
      obtain ⟨A', e1, m1⟩ := do_left (lo := lo) hu hl1 hl2' (by simp; omega) hr' hn hH ok rc (rep_iff.2 ⟨esf, chf, jf, by omega, f2, f3, f4, f5⟩) (by omega)
      exact ⟨A', by rw [m27_tree_node_mend_K3, if_pos rfl, e1, bind1_some], m1⟩
    · rw [if_neg (by omega), bind1_some, bind1_some]
      by_cases hne : es1 = []
      · subst hne
        obtain ⟨A', e1, m1⟩ := do_join (lo := lo) hu hl1 hl2' (by simp; omega) hr' hn hH ok rc (show Rep A h 1 2 f.i f.kv f.F from rep_iff.2 ⟨esf, chf, jf, by omega, by omega, f3, f4, f5⟩) (by omega) hlo
        refine ⟨A', ?_, m1⟩
        rw [m27_tree_node_mend_K3, if_neg (by simp), if_neg (by simp), e1, bind1_some]
      · exact ahead hne
theorem mend_rep (hu : idx A i = some (node (es1 ++ es2) (ch1 ++ c :: ch2))) (hl1 : ch1.length = es1.length) (hl2 : ch2.length = es2.length) (h1 : 1 ≤ (es1 ++ es2).length) (h4 : (es1 ++ es2).length ≤ 4) (hr : ∀ x ∈ ch1 ++ ch2, Rep A h 2 4 x.i x.kv x.F) (hc : Rep A h 1 4 c.i c.kv c.F)
    (hn : (i.toNat :: (ch1 ++ c :: ch2).flatMap Ch.F).Nodup) (hH : ∀ q ∈ i.toNat :: (ch1 ++ c :: ch2).flatMap Ch.F, q ∉ H) (ok : Ok A) (hlo : lo + 1 ≤ (es1 ++ es2).length) :
    ∃ A', m27_tree_node_mend i ((es1.length : Nat) : Int) A H = some A' ∧ Mended A A' (h + 1) lo i (mix (es1 ++ es2) (ch1 ++ c :: ch2)) (i.toNat :: (ch1 ++ c :: ch2).flatMap Ch.F) := by
  have hi0 := idx_some hu
  have Hi := hH _ List.mem_cons_self
  obtain ⟨esc, chc, jc, c1, c2, c3, c4, c5⟩ := rep_iff.1 hc
  have hHc : c.i.toNat ∉ H := hH _ (mem_flat (x := c) (by simp) (by rw [c5]; exact List.mem_cons_self))
  have hcl : ((node esc chc).keys_.length : Int) = ((esc.length : Nat) : Int) := by simp [node]
  rw [m27_tree_node_mend, hu, bind1_some, ck_pos Hi, bind1_some, kid_a hl1, bind1_some, bind1_some, jc, bind1_some, ck_pos hHc, bind1_some, hcl]
  by_cases g : 2 ≤ esc.length
  · rw [if_pos (by omega), bind1_some]
    refine ⟨A, rfl, _, rep_iff.2 ⟨es1 ++ es2, ch1 ++ c :: ch2, hu, by omega, h4, ⟨by simp; omega, fun x hx => ?_⟩, rfl, rfl⟩, rfl, fun _ _ => rfl, hn, fun q hq => hq, ok⟩
    rcases List.mem_append.1 hx with hx | hx
    · exact hr x (List.mem_append_left _ hx)
    · rcases List.mem_cons.1 hx with rfl | hx
      · exact rep_iff.2 ⟨esc, chc, jc, g, c2, c3, c4, c5⟩
      · exact hr x (List.mem_append_right _ hx)
  · rw [if_neg (by omega), bind1_some, m27_tree_node_mend_K1]
    have rc : Rep A h 1 1 c.i c.kv c.F := rep_iff.2 ⟨esc, chc, jc, c1, by omega, c3, c4, c5⟩
    by_cases hne : es1 = []
    · rw [if_neg (by simp [hne])]
      exact mend_behind hu hl1 hl2 h1 h4 hr rc hn hH ok hlo (.inl hne)
    · have hpos : 0 < es1.length := List.length_pos_iff.2 hne
      rw [if_pos (by omega)]
      obtain ⟨es1', e, rfl⟩ := snoc es1 hpos
      obtain ⟨ch1', d, rfl⟩ := snocC ch1 (by omega)
      have hl1' : ch1'.length = es1'.length := by simpa using hl1
      have rd := hr d (by simp)
      obtain ⟨esd, chd, jd, d1, d2, d3, d4, d5⟩ := rep_iff.1 rd
      have hdl : ((node esd chd).keys_.length : Int) = ((esd.length : Nat) : Int) := by simp [node]
      have hHd : d.i.toNat ∉ H := hH _ (mem_flat (x := d) (by simp) (by rw [d5]; exact List.mem_cons_self))
      have hu' : idx A i = some (node (es1' ++ e :: es2) (ch1' ++ d :: c :: ch2)) := by simpa using hu
      have hn' : (i.toNat :: (ch1' ++ d :: c :: ch2).flatMap Ch.F).Nodup := by simpa using hn
      have hH' : ∀ q ∈ i.toNat :: (ch1' ++ d :: c :: ch2).flatMap Ch.F, q ∉ H := by simpa using hH
      have ap := apart (A := A) (h := h) hn' d5 c5
      have h4' : (es1' ++ e :: es2).length ≤ 4 := by simpa using h4
      have h49 : es1'.length + es2.length + 1 ≤ 4 := by simp at h4'; omega
      have hr' : ∀ x ∈ ch1' ++ ch2, Rep A h 2 4 x.i x.kv x.F := fun x hx => hr x (by
        rcases List.mem_append.1 hx with h | h
        · simp [h]
        · simp [h])
      have hle : (es1' ++ [e]).length = es1'.length + 1 := by simp
      rw [hu, bind1_some, ck_pos Hi, bind1_some, hle, isub _ (by omega), bind1_some]
      rw [show (node (es1' ++ [e] ++ es2) (ch1' ++ [d] ++ c :: ch2)) = node (es1' ++ e :: es2) (ch1' ++ d :: c :: ch2) by simp, kid_a hl1', bind1_some, jd, bind1_some, ck_pos hHd, bind1_some, ck_pos (show d.i ≠ i from fun h => ap.ia (by rw [h])), bind1_some, hdl]
      by_cases g2 : 2 < esd.length
      · rw [if_pos (by omega), bind1_some, bind1_some]
        obtain ⟨A', e1, m1⟩ := do_right (lo := lo) hu' hl1' hl2 h4' hr' hn' hH' ok (rep_iff.2 ⟨esd, chd, jd, by omega, d2, d3, d4, d5⟩) rc (by simp at hlo ⊢; omega)
        refine ⟨A', by rw [m27_tree_node_mend_K2, if_pos rfl, isub _ (by omega), bind1_some, e1, bind1_some], ?_⟩
        simpa using m1
      · rw [if_neg (by omega), bind1_some, bind1_some]
        have := mend_behind (lo := lo) hu hl1 hl2 h1 h4 hr rc hn hH ok hlo (.inr ⟨es1', e, ch1', d, rfl, rfl, rep_iff.2 ⟨esd, chd, jd, d1, by omega, d3, d4, d5⟩⟩)
        rwa [hle] at this
end
section
variable {A A' A1 : List Tnode} {h lo hi p : Nat} {i : Int} {kv kv' : List KV} {F F1 : List Nat} {es es1 es2 : List KV} {chs ch1 ch2 : List Ch} {e e' : KV} {k : Int} {t : List UInt8} {u : Tnode} {n : Nat} {a b c d f : Ch} {H : List Nat}
/-- A kid has turned: the node that has it, and the other kids. -/
theorem kid_turned (hu : idx A i = some (node es (ch1 ++ c :: ch2))) (hr : ∀ x ∈ ch1 ++ ch2, Rep A h 2 4 x.i x.kv x.F) (hn : (i.toNat :: (ch1 ++ c :: ch2).flatMap Ch.F).Nodup) (hs : ∀ q, q ∉ c.F → A1[q]? = A[q]?) (hd : F1.Nodup) (hsub : ∀ q ∈ F1, q ∈ c.F) (kv' : List KV) :
    idx A1 i = some (node es (ch1 ++ ⟨c.i, kv', F1⟩ :: ch2)) ∧ (∀ x ∈ ch1 ++ ch2, Rep A1 h 2 4 x.i x.kv x.F) ∧ (i.toNat :: (ch1 ++ ⟨c.i, kv', F1⟩ :: ch2).flatMap Ch.F).Nodup ∧ (∀ q ∈ i.toNat :: (ch1 ++ ⟨c.i, kv', F1⟩ :: ch2).flatMap Ch.F, q ∈ i.toNat :: (ch1 ++ c :: ch2).flatMap Ch.F) ∧
      i.toNat ∉ c.F ∧ (∀ x ∈ ch1 ++ ch2, ∀ q ∈ x.F, q ≠ i.toNat) := by
  have h0 := idx_some hu
  have hin : i.toNat ∉ (ch1 ++ c :: ch2).flatMap Ch.F := (List.nodup_cons.1 hn).1
  have hnd := (List.nodup_cons.1 hn).2
  rw [List.flatMap_append, List.flatMap_cons] at hin hnd
  obtain ⟨n1, n2, n3⟩ := List.nodup_append.1 hnd
  obtain ⟨n4, n5, n6⟩ := List.nodup_append.1 n2
  have hic : i.toNat ∉ c.F := fun h => hin (List.mem_append_right _ (List.mem_append_left _ h))
  refine ⟨?_, fun x hx => (hr x hx).frame fun q hq => hs q fun hq2 => ?_, ?_, fun q hq => ?_, hic, fun x hx q hq e => hin ?_⟩
  · unfold idx
    rw [if_pos h0.1, hs _ hic, h0.2.2]
    simp [node]
  · rcases List.mem_append.1 hx with h | h
    · exact n3 q (List.mem_flatMap.2 ⟨x, h, hq⟩) q (List.mem_append_left _ hq2) rfl
    · exact n6 q hq2 q (List.mem_flatMap.2 ⟨x, h, hq⟩) rfl
  · rw [List.flatMap_append, List.flatMap_cons]
    refine List.nodup_cons.2 ⟨fun hq => ?_, List.nodup_append.2 ⟨n1, List.nodup_append.2 ⟨hd, n5, fun q hq q2 hq2 e => n6 q (hsub q hq) q2 hq2 e⟩, fun q hq q2 hq2 e => ?_⟩⟩
    · rcases List.mem_append.1 hq with h | h
      · exact hin (List.mem_append_left _ h)
      · rcases List.mem_append.1 h with h | h
        · exact hic (hsub _ h)
        · exact hin (List.mem_append_right _ (List.mem_append_right _ h))
    · rcases List.mem_append.1 hq2 with h | h
      · exact n3 q hq q2 (List.mem_append_left _ (hsub _ h)) e
      · exact n3 q hq q2 (List.mem_append_right _ h) e
  · rw [List.flatMap_append, List.flatMap_cons] at hq ⊢
    simp only [List.mem_cons, List.mem_append] at hq ⊢
    rcases hq with h | h | h | h
    · exact .inl h
    · exact .inr (.inl h)
    · exact .inr (.inr (.inl (hsub q h)))
    · exact .inr (.inr (.inr h))
  · rw [← e]
    rcases List.mem_append.1 hx with h | h
    · exact List.mem_append_left _ (List.mem_flatMap.2 ⟨x, h, hq⟩)
    · exact List.mem_append_right _ (List.mem_append_right _ (List.mem_flatMap.2 ⟨x, h, hq⟩))
theorem kid_last (hl : ch1.length = es.length) : idx ((node es (ch1 ++ [c])).kids_) ((es.length : Nat) : Int) = some c.i := by
  have := kid_a (es := es) (a := c) (ch2 := []) hl
  exact this
theorem last_rep : ∀ (h lo : Nat) (i : Int) (kv : List KV) (F : List Nat) (A : List Tnode), Rep A h (lo + 1) 4 i kv F → F.Nodup → (∀ q ∈ F, q ∉ H) → Ok A → ∀ n, h < n →
    ∃ A' kv' e, kv = kv' ++ [e] ∧ m26_tree_node_lastR n i A H = some (A', e.1, e.2) ∧ Mended A A' h lo i kv' F := by
  intro h
  induction h with
  | zero =>
    intro lo i kv F A hr hn hH ok n hn0
    obtain ⟨n, rfl⟩ := dec n hn0
    obtain ⟨h1, h2, h3, rfl⟩ := hr
    obtain ⟨es, e, rfl⟩ := snoc kv (by omega)
    have h0 := idx_some h1
    have Hi := hH i.toNat (by simp)
    have hle : (es ++ [e]).length = es.length + 1 := by simp
    have e1 : cut (node (es ++ [e]) []).keys_ 0 ((es.length : Nat) : Int) = some (es.map Prod.fst) := by have := cutp (es.map Prod.fst) [e.1]; simpa [node] using this
    have e2 : cut (node (es ++ [e]) []).texts_ 0 ((es.length : Nat) : Int) = some (es.map Prod.snd) := by have := cutp (es.map Prod.snd) [e.2]; simpa [node] using this
    have e3 := key_at (es1 := es) (e := e) (es2 := []) []
    have e4 := text_at (es1 := es) (e := e) (es2 := []) []
    have hkl : ((node (es ++ [e]) []).keys_.length : Int) = ((es.length + 1 : Nat) : Int) := by simp [node]
    refine ⟨A.set i.toNat (node es []), es, e, rfl, ?_, [i.toNat], ⟨idx_set_eq h0.1 (by omega), by omega, by omega, rfl⟩, by simp, fun q hq => List.getElem?_set_ne fun h => hq (by simp [h]), by simp, fun q hq => hq, ok.set fun q hq => by simp [node] at hq⟩
    rw [m26_tree_node_lastR, m26_tree_node_lastB, h1, bind1_some, ck_pos Hi, bind1_some, hkl, isub _ (by omega), bind1_some, if_pos (by simp [node]), e3, bind1_some, e4, bind1_some, e1, bind1_some, e2, bind1_some, bind1_some, upd_at h0.1 h0.2.1, bind1_some]
    rfl
  | succ h ih =>
    intro lo i kv F A hr hn hH ok n hn0
    obtain ⟨n, rfl⟩ := dec n (by omega)
    obtain ⟨es, chs, hu, g1, g2, g3, g4, rfl, rfl⟩ := hr
    have h0 := idx_some hu
    have Hi := hH i.toNat List.mem_cons_self
    obtain ⟨ch1, c, rfl⟩ := snocC chs (by omega)
    have hl1 : ch1.length = es.length := by simpa using g3
    have rc := g4 c (by simp)
    obtain ⟨A1, kvc, e, ek, e1, F1, r1, l1, s1, d1, b1, o1⟩ := ih 1 c.i c.kv c.F A rc (List.Nodup.sublist (by simp) (List.nodup_cons.1 hn).2) (fun q hq => hH q (mem_flat (x := c) (by simp) hq)) ok n (by omega)
    obtain ⟨k1, k2, k3, k4, _, _⟩ := kid_turned (c := c) (ch1 := ch1) (ch2 := []) hu (fun x hx => g4 x (by simp at hx; simp [hx])) hn s1 d1 b1 kvc
    obtain ⟨A2, e2, F2, r2, l2, s2, d2, b2, o2⟩ := mend_rep (lo := lo) (es1 := es) (es2 := []) (ch1 := ch1) (ch2 := []) (c := ⟨c.i, kvc, F1⟩) (H := H) (by simpa using k1) hl1 rfl (by simp; omega) (by simpa using g2) k2 r1 k3 (fun q hq => hH q (k4 q hq)) o1 (by simpa using g1)
    have hm1 := mix_at (c := c) (es2 := []) (ch2 := []) es ch1 hl1 rfl
    have hm2 := mix_at (c := ⟨c.i, kvc, F1⟩) (es2 := []) (ch2 := []) es ch1 hl1 rfl
    simp only [List.append_nil, Rgt] at hm1 hm2 r2
    refine ⟨A2, Lft es ch1 ++ kvc, e, by rw [hm1, ek, List.append_assoc], ?_, F2, by rw [← hm2]; exact r2, by omega, fun q hq => ?_, d2, fun q hq => k4 q (b2 q hq), o2⟩
    · have hkl : ((node es (ch1 ++ [c])).keys_.length : Int) = ((es.length - 1 + 1 : Nat) : Int) := by simp [node]; omega
      have hs : i64 (((es.length - 1 : Nat) : Int) + 1) = some ((es.length : Nat) : Int) := by rw [isucc _ (by omega)]; congr 2; omega
      rw [m26_tree_node_lastR, m26_tree_node_lastB, hu, bind1_some, ck_pos Hi, bind1_some, hkl, isub _ (by omega), bind1_some, if_neg (by simp [node]; omega), bind1_some, m26_tree_node_last_K1, hu, bind1_some, ck_pos Hi, bind1_some, hs, bind1_some, kid_last hl1, bind1_some, bind1_some, e1, bind3_some, bind1_some, e2, bind1_some]
    · rw [s2 q fun h => hq (k4 q h), s1 q fun h => hq (mem_flat (x := c) (by simp) h)]
end
end Go.Proofs.Ytdebhhjbgbkbjaa
