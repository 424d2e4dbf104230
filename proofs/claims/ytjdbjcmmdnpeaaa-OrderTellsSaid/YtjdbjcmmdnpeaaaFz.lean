/-
  Frozen memory: blocks that are made and then only read; slices into them may be shared and handed on.
  Conditions: none.
-/
import Derived.Test.YtjdbjcmmdnpeaaaIk
namespace Go.S
set_option linter.unusedVariables false
set_option linter.unusedSimpArgs false
def held (c : List Ob) (w : World) : Prop := ∀ o ∈ c, w.heap[o.b]? = some (.cells o.c.toArray o.e (0, 0))
/-- In every world in which what one knows holds, and in which these blocks are as they are, the slice can be read. -/
def Fz (K : World → Prop) (c : List Ob) (v : Value) (k : Nat) (rows : List (List Value)) : Prop := ∀ w, K w → held c w → At w v k rows
/-- What one knows is of blocks that are there. -/
def Stb (K : World → Prop) (w : World) : Prop := ∀ w', RowKit.Below w.heap.size w w' → K w'
def Kn (K : World → Prop) (c : List Ob) (w : World) : Prop := K w ∧ held c w
def Mo (c c' : List Ob) : Prop := ∀ w, held c' w → held c w
section
variable {K : World → Prop} {c c' : List Ob} {v u : Value} {k : Nat} {rows : List (List Value)} {w0 w w' : World} {own : List Nat} {m : List As} {e : TypeId} {i j s : Nat}
theorem Fz.up (h : Fz K [] v k rows) : Fz K c v k rows := fun w hk _ => h w hk (by intro o ho; cases ho)
theorem Fz.mo (h : Fz K c v k rows) (hm : Mo c c') : Fz K c' v k rows := fun w hk hc => h w hk (hm w hc)
theorem Fz.tok (h : Fz K c v k rows) : Fz (Kn K c) [] v k rows := fun w hk _ => h w hk.1 hk.2
theorem Fz.nil : Fz K c (.slice none 0 0) k [] := fun w _ _ => At.nil w k
theorem Fz.clsF (h : Fz K c v k rows) (hK : Stb K w0) (hw : Cls w0 [] m w) (hl : m.getLast? = some (.os c)) : At w v k rows := by
  refine h w (hK w hw.below) ?_
  have hm : As.os c ∈ m := List.mem_of_getLast? hl
  exact (hw.mine _ hm).1
section
variable {α : Type} {g : α → List Value} {l z : List α} {lo hi : Int}
theorem Fz.cutM (hA : Fz K c v k (l.map g)) (h : cut l 0 hi = some z) : Fz K c (cutv v hi.toNat) k (z.map g) := fun w hk hc => (hA w hk hc).cutM h
theorem Fz.dropM (hA : Fz K c v k (l.map g)) (h : cut l lo l.length = some z) : Fz K c (dropv v lo.toNat k) k (z.map g) := fun w hk hc => (hA w hk hc).dropM h
theorem Fz.midM (hA : Fz K c v k (l.map g)) (h : cut l lo hi = some z) : Fz K c (dropv (cutv v hi.toNat) lo.toNat k) k (z.map g) := fun w hk hc => (hA w hk hc).midM h
end
/-- All slices of a list. -/
def FzA (K : World → Prop) (c : List Ob) (L : List Sd) : Prop := ∀ d ∈ L, Fz K c d.v d.k d.rows
theorem FzA.up {L : List Sd} (h : FzA K [] L) : FzA K c L := fun d hd => (h d hd).up
theorem FzA.mo {L : List Sd} (h : FzA K c L) (hm : Mo c c') : FzA K c' L := fun d hd => (h d hd).mo hm
theorem FzA.tok {L : List Sd} (h : FzA K c L) : FzA (Kn K c) [] L := fun d hd => (h d hd).tok
theorem FzA.nil : FzA K c [] := fun d hd => by cases hd
theorem FzA.cons {d : Sd} {L : List Sd} (h : Fz K c d.v d.k d.rows) (hL : FzA K c L) : FzA K c (d :: L) := List.forall_mem_cons.2 ⟨h, hL⟩
theorem FzA.app {L L' : List Sd} (h : FzA K c L) (h' : FzA K c L') : FzA K c (L ++ L') := fun d hd => by
  rcases List.mem_append.1 hd with h1 | h1
  · exact h d h1
  · exact h' d h1
theorem FzA.clsF {L : List Sd} (h : FzA K c L) (hK : Stb K w0) (hw : Cls w0 [] m w) (hl : m.getLast? = some (.os c)) : ∀ d ∈ L, At w d.v d.k d.rows := fun d hd => (h d hd).clsF hK hw hl
theorem FzA.at {α : Type} {sds : α → List Value → List Sd} {vs : Nat → List Value} {l : List α} {a : Int} {u0 : α} (hd : FzA K c (zs sds vs l)) {nl : Nat} (hc : ∀ z v, (sds z v).length = nl) (hr : idx l a = some u0) (hj : (sds u0 (vs a.toNat))[j]? = some ⟨v, e, k, rows⟩) : Fz K c v k rows := fun w hk hh =>
  zAt (fun d hd' => hd d hd' w hk hh) hc hr hj
theorem Stb.kn (hK : Stb K w0) (hw : Cls w0 [] m w) (hl : m.getLast? = some (.os c)) : Stb (Kn K c) w := by
  have hm : As.os c ∈ m := List.mem_of_getLast? hl
  intro w' hb
  have h1 := hw.below
  refine ⟨hK w' ⟨hb.os.trans h1.os, hb.tape.trans h1.tape, hb.output.trans h1.output, Nat.le_trans h1.size hb.size, fun q hq => ?_⟩, fun o ho => ?_⟩
  · rw [hb.block q (Nat.lt_of_lt_of_le hq h1.size), h1.block q hq]
  · have h2 := (hw.mine _ hm).1 o ho
    rw [hb.block o.b (Array.getElem?_eq_some_iff.1 h2).1, h2]

theorem Mo.refl : Mo c c := fun _ h => h
theorem Mo.app1 {c2 : List Ob} : Mo c (c2 ++ c) := fun _ h o ho => h o (List.mem_append_right _ ho)
theorem Mo.app2 {c2 : List Ob} : Mo c2 (c2 ++ c) := fun _ h o ho => h o (List.mem_append_left _ ho)
theorem Mo.trans {c1 c2 c3 : List Ob} (h : Mo c1 c2) (h' : Mo c2 c3) : Mo c1 c3 := fun w hw => h w (h' w hw)

/-! ### To freeze -/
theorem Cls.frz0 (hw : Cls w0 own (.sl v e k rows :: .os c :: m) w) : ∃ c', Mo c c' ∧ (∀ K, Fz K c' v k rows) ∧ Cls w0 own (.os c' :: m) w := by
  have hx := (hw.mine (.sl v e k rows) (by simp)).1
  have ho := (hw.mine (.os c) (by simp)).1
  obtain ⟨h1, h2, h3⟩ := hx
  rcases h3 with ⟨rfl, h0⟩ | ⟨g, cap, cur, rfl, hg, hh, r⟩
  · obtain rfl : rows = [] := List.length_eq_zero_iff.1 h0
    exact ⟨c, Mo.refl, fun K => Fz.nil, hw.sublist (List.sublist_cons_self _ _)⟩
  · refine ⟨⟨g, cur.toList, e⟩ :: c, fun w' h o ho => h o (List.mem_cons_of_mem _ ho), fun K w' _ hc => ?_, ?_⟩
    · have h5 : w'.heap[g]? = w.heap[g]? := by
        have := hc ⟨g, cur.toList, e⟩ (by simp)
        rw [this, hh]
      exact As.at_ (As.holds_congr (x := .sl _ e k rows) ⟨h1, h2, .inr ⟨g, cap, cur, rfl, hg, hh, r⟩⟩ fun b hb => by
        simp only [As.foot, Value.ownBlock, Option.toList_some, List.mem_singleton] at hb
        rw [hb]; exact h5)
    · refine hw.rePerm ?_ fun z hz => ?_
      · simp only [List.flatMap_cons, As.foot, Value.ownBlock, Option.toList_some, List.map_cons, List.singleton_append, List.cons_append, List.nil_append]
        exact List.Perm.refl _
      · rcases List.mem_cons.1 hz with rfl | hz
        · intro o ho'
          rcases List.mem_cons.1 ho' with rfl | ho'
          · exact hh
          · exact ho o ho'
        · exact (hw.mine z (by simp [hz])).1
theorem Cls.frzS0 : ∀ {L : List Sd} {c : List Ob}, Cls w0 own (.ss L :: .os c :: m) w → ∃ c', Mo c c' ∧ (∀ K, FzA K c' L) ∧ Cls w0 own (.os c' :: m) w
  | [], c, hw => ⟨c, Mo.refl, fun K => FzA.nil, hw.sublist (List.sublist_cons_self _ _)⟩
  | ⟨v, e, k, rows⟩ :: L, c, hw => by
    have h1 : Cls w0 own (.sl v e k rows :: .os c :: .ss L :: m) w := by
      refine hw.rePerm ?_ fun z hz => ?_
      · simp only [List.flatMap_cons]
        show (Sd.foot ⟨v, e, k, rows⟩ ++ ((As.os c).foot ++ ((As.ss L).foot ++ _))).Perm ((Sd.foot ⟨v, e, k, rows⟩ ++ L.flatMap Sd.foot) ++ ((As.os c).foot ++ _))
        rw [List.append_assoc]
        refine List.Perm.append_left _ ?_
        rw [← List.append_assoc, ← List.append_assoc]
        exact List.Perm.append_right _ List.perm_append_comm
      · rcases List.mem_cons.1 hz with rfl | hz
        · exact (hw.mine (.ss (⟨v, e, k, rows⟩ :: L)) (by simp)).1 _ (List.mem_cons_self ..)
        · rcases List.mem_cons.1 hz with rfl | hz
          · exact (hw.mine (.os c) (by simp)).1
          · rcases List.mem_cons.1 hz with rfl | hz
            · intro d hd
              exact (hw.mine (.ss (⟨v, e, k, rows⟩ :: L)) (by simp)).1 d (List.mem_cons_of_mem _ hd)
            · exact (hw.mine z (by simp [hz])).1
    obtain ⟨c1, hm1, hf1, h2⟩ := h1.frz0
    obtain ⟨c2, hm2, hf2, h3⟩ := Cls.frzS0 (h2.perm (List.Perm.swap ..))
    exact ⟨c2, hm1.trans hm2, fun K => FzA.cons ((hf1 K).mo hm2) (hf2 K), h3⟩
theorem perm_two {m : List As} {i : Nat} {x y : As} (hi : m[i]? = some x) (hl : m.getLast? = some y) (hn : Nat.blt (i + 1) m.length = true) : m.Perm (x :: y :: (m.eraseIdx i).dropLast) ∧ (m.eraseIdx i).getLast? = some y := by
  have hn' : i + 1 < m.length := by simpa [Nat.blt_eq] using hn
  obtain ⟨h1, h2⟩ := List.getElem?_eq_some_iff.1 hi
  have hp : m.Perm (x :: m.eraseIdx i) := by
    have := perm_head m i h1
    rwa [h2] at this
  have hl2 : (m.eraseIdx i).getLast? = some y := by
    rw [List.getLast?_eq_getElem?] at hl ⊢
    rw [List.length_eraseIdx_of_lt h1, List.getElem?_eraseIdx_of_ge (by omega)]
    rwa [show m.length - 1 - 1 + 1 = m.length - 1 by omega]
  refine ⟨hp.trans (List.Perm.cons x ?_), hl2⟩
  have hne : m.eraseIdx i ≠ [] := by
    intro h0
    rw [h0] at hl2
    cases hl2
  have h5 := List.dropLast_concat_getLast hne
  have h6 : (m.eraseIdx i).getLast hne = y := by
    rw [List.getLast?_eq_some_getLast hne] at hl2
    exact Option.some.inj hl2
  rw [h6] at h5
  calc (m.eraseIdx i).Perm ((m.eraseIdx i).dropLast ++ [y]) := by rw [h5]
    _ |>.Perm (y :: (m.eraseIdx i).dropLast) := List.perm_append_comm
theorem Cls.frz (hw : Cls w0 own m w) (hi : m[i]? = some (.sl v e k rows)) (hl : m.getLast? = some (.os c)) (hn : Nat.blt (i + 1) m.length = true) :
    ∃ c', Mo c c' ∧ (∀ K, Fz K c' v k rows) ∧ Cls w0 own ((m.eraseIdx i).dropLast ++ [.os c']) w := by
  obtain ⟨c', h1, h2, h3⟩ := (hw.perm (perm_two hi hl hn).1.symm).frz0
  exact ⟨c', h1, h2, h3.perm List.perm_append_comm⟩
theorem Cls.frzS {L : List Sd} (hw : Cls w0 own m w) (hi : m[i]? = some (.ss L)) (hl : m.getLast? = some (.os c)) (hn : Nat.blt (i + 1) m.length = true) :
    ∃ c', Mo c c' ∧ (∀ K, FzA K c' L) ∧ Cls w0 own ((m.eraseIdx i).dropLast ++ [.os c']) w := by
  obtain ⟨c', h1, h2, h3⟩ := (hw.perm (perm_two hi hl hn).1.symm).frzS0
  exact ⟨c', h1, h2, h3.perm List.perm_append_comm⟩
end
section
variable {K : World → Prop} {c c' : List Ob} {P : Program} {Q : Exit → Act → World → Prop} {n : Nat} {C : World → Prop} {fs : Fr} {t : TypeId} {ops : Array Oper} {rest : List Oper} {d : Nat} {pos : String} {af : Array Edge}
variable {w0 w : World} {own : List Nat} {m : List As} {x y z : Operand} {e te tx ty : TypeId} {i j k kk by' p q s b : Nat} {v u : Value} {rows : List (List Value)}
theorem L.frz {ll : List Oper} (hi : m[i]? = some (.sl v e k rows)) (hl : m.getLast? = some (.os c)) (hn : Nat.blt (i + 1) m.length = true) (next : ∀ c', Mo c c' → (∀ K, Fz K c' v k rows) → L P ops Q n (Cls w0 own ((m.eraseIdx i).dropLast ++ [.os c'])) ll fs) : L P ops Q n (Cls w0 own m) ll fs := by
  intro a w hs hw
  obtain ⟨c', h1, h2, h3⟩ := hw.frz hi hl hn
  exact next c' h1 h2 a w hs h3
theorem W.frz {ll : Code} (hi : m[i]? = some (.sl v e k rows)) (hl : m.getLast? = some (.os c)) (hn : Nat.blt (i + 1) m.length = true) (next : ∀ c', Mo c c' → (∀ K, Fz K c' v k rows) → W P Q n (Cls w0 own ((m.eraseIdx i).dropLast ++ [.os c'])) ll fs) : W P Q n (Cls w0 own m) ll fs := by
  intro a w hs hw
  obtain ⟨c', h1, h2, h3⟩ := hw.frz hi hl hn
  exact next c' h1 h2 a w hs h3
theorem E.frz {ex : Exit} (hi : m[i]? = some (.sl v e k rows)) (hl : m.getLast? = some (.os c)) (hn : Nat.blt (i + 1) m.length = true) (next : ∀ c', Mo c c' → (∀ K, Fz K c' v k rows) → E ex Q n (Cls w0 own ((m.eraseIdx i).dropLast ++ [.os c'])) fs) : E ex Q n (Cls w0 own m) fs := by
  intro a w hs hw
  obtain ⟨c', h1, h2, h3⟩ := hw.frz hi hl hn
  exact next c' h1 h2 a w hs h3
theorem L.frzS {ll : List Oper} {L0 : List Sd} (hi : m[i]? = some (.ss L0)) (hl : m.getLast? = some (.os c)) (hn : Nat.blt (i + 1) m.length = true) (next : ∀ c', Mo c c' → (∀ K, FzA K c' L0) → L P ops Q n (Cls w0 own ((m.eraseIdx i).dropLast ++ [.os c'])) ll fs) : L P ops Q n (Cls w0 own m) ll fs := by
  intro a w hs hw
  obtain ⟨c', h1, h2, h3⟩ := hw.frzS hi hl hn
  exact next c' h1 h2 a w hs h3
theorem W.frzS {ll : Code} {L0 : List Sd} (hi : m[i]? = some (.ss L0)) (hl : m.getLast? = some (.os c)) (hn : Nat.blt (i + 1) m.length = true) (next : ∀ c', Mo c c' → (∀ K, FzA K c' L0) → W P Q n (Cls w0 own ((m.eraseIdx i).dropLast ++ [.os c'])) ll fs) : W P Q n (Cls w0 own m) ll fs := by
  intro a w hs hw
  obtain ⟨c', h1, h2, h3⟩ := hw.frzS hi hl hn
  exact next c' h1 h2 a w hs h3
theorem E.frzS {ex : Exit} {L0 : List Sd} (hi : m[i]? = some (.ss L0)) (hl : m.getLast? = some (.os c)) (hn : Nat.blt (i + 1) m.length = true) (next : ∀ c', Mo c c' → (∀ K, FzA K c' L0) → E ex Q n (Cls w0 own ((m.eraseIdx i).dropLast ++ [.os c'])) fs) : E ex Q n (Cls w0 own m) fs := by
  intro a w hs hw
  obtain ⟨c', h1, h2, h3⟩ := hw.frzS hi hl hn
  exact next c' h1 h2 a w hs h3
theorem Cls.reflF (w : World) : Cls w [] [.os []] w := ⟨rfl, rfl, rfl, DR.refl _, Nat.le_refl _, fun _ _ _ => rfl, by simp [As.foot], fun x hx => by
  simp only [List.mem_singleton] at hx
  subst hx
  exact ⟨(fun o ho => nomatch ho), (fun b hb => by simp [As.foot] at hb)⟩⟩
/-- A call whose answers are frozen. -/
theorem L.doesF {f : FuncId} {xs : List Operand} {ts : Array TypeId} {vs : List Value} {R : List Ob → Value → Prop} (hd : Nat.blt d n = true) (he : entB P f = true) (hx : vals fs xs = some vs) (hl : m.getLast? = some (.os c)) (hK : Stb K w0)
    (hc : ∀ w1, Cls w0 [] m w1 → Stb (Kn K c) w1 → Does P f vs w1 fun u m' => ∃ c2, m' = [.os c2] ∧ R c2 u)
    (next : ∀ u c2 c', Mo c c' → (∀ {v k rows}, Fz (Kn K c) c2 v k rows → Fz K c' v k rows) → (∀ {L0}, FzA (Kn K c) c2 L0 → FzA K c' L0) → R c2 u → L P ops Q n (Cls w0 [] (m.dropLast ++ [.os c'])) rest ((d, u) :: fs)) :
    L P ops Q n (Cls w0 [] m) (⟨some d, .call ⟨.value (.func f), xs.toArray, ts⟩, t, pos, af, none⟩ :: rest) fs := by
  refine L.does hd he hx (fun w hw => hc w hw (hK.kn hw hl)) ?_
  rintro u m' ⟨c2, rfl, hr⟩
  have key : ∀ {v k rows}, Fz (Kn K c) c2 v k rows → Fz K (c2 ++ c) v k rows := fun h w hk hh => h w ⟨hk, fun o ho => hh o (List.mem_append_right _ ho)⟩ fun o ho => hh o (List.mem_append_left _ ho)
  refine L.to (fun w hw => ?_) (next u c2 (c2 ++ c) Mo.app1 key (fun h d hd => key (h d hd)) hr)
  have hne : m ≠ [] := by rintro rfl; cases hl
  have h5 := List.dropLast_concat_getLast hne
  rw [List.getLast?_eq_some_getLast hne] at hl
  rw [Option.some.inj hl] at h5
  rw [← h5] at hw
  refine hw.rePerm ?_ fun z hz => ?_
  · simp only [List.flatMap_append, List.flatMap_cons, List.flatMap_nil, List.append_nil, List.singleton_append, As.foot, List.map_append]
    rw [← List.append_assoc, ← List.append_assoc]
    exact List.Perm.append_right _ List.perm_append_comm
  · rcases List.mem_append.1 hz with h1 | h1
    · exact (hw.mine z (by simp [h1])).1
    · simp only [List.mem_singleton] at h1
      subst h1
      intro o ho
      rcases List.mem_append.1 ho with h2 | h2
      · exact (hw.mine (.os c2) (by simp)).1 o h2
      · exact (hw.mine (.os c) (by simp)).1 o h2
/-! ### Slices of what holds frozen slices -/
variable {α ρ : Type} {r : ρ} {row : α → List Value → List Value} {sds : α → List Value → List Sd} {vs vs2 : Nat → List Value} {l l2 : List α} {a : Int} {u0 u1 : α} {f : List α → Option ρ}
/-- Plain cells, if the slices in them are plain. -/
def PlZ (row : α → List Value → List Value) (sds : α → List Value → List Sd) : Prop := ∀ x v, (∀ d ∈ sds x v, d.v.oneCell' = true) → ∀ u ∈ row x v, u.oneCell' = true
theorem plain_zr (hp : PlZ row sds) : ∀ {vs : Nat → List Value} {l : List α}, (∀ d ∈ zs sds vs l, d.v.oneCell' = true) → Plain (zr row vs l)
  | vs, [], _ => by intro r hr; cases hr
  | vs, x :: l, h => by
    intro r hr
    rcases List.mem_cons.1 hr with rfl | hr
    · exact hp x (vs 0) fun d hd => h d (List.mem_append_left _ hd)
    · exact plain_zr hp (vs := fun i => vs (i + 1)) (l := l) (fun d hd => h d (List.mem_append_right _ hd)) r hr
theorem FzA.ones {L0 : List Sd} (h : FzA K c L0) (hK : Stb K w0) (hw : Cls w0 [] m w) (hl : m.getLast? = some (.os c)) : ∀ d ∈ L0, d.v.oneCell' = true := fun d hd => ((h d hd).clsF hK hw hl).one
theorem L.appHz (h : bind1 (app l l2) f = some r) (hd : Nat.blt d n = true) (hu : P.underlying tx = some (.slice e)) (he : elemB P e k by' = true) (hx : val fs x = some v) (hy : val fs y = some u) (hb : Nat.ble by' 56 = true)
    (hm : m[i]? = some (.sl v e k (zr row vs l))) (hB : ∀ w, Cls w0 [] m w → At w u k (zr row vs2 l2)) (hp : PlZ row sds) (hK : Stb K w0) (hl0 : m.getLast? = some (.os c)) (h1 : FzA K c (zs sds vs l)) (h2 : FzA K c (zs sds vs2 l2))
    (next : ∀ v' vs' z, app l l2 = some z → f z = some r → FzA K c (zs sds vs' z) → L P ops Q n (Cls w0 [] (.sl v' e k (zr row vs' z) :: m.eraseIdx i)) rest ((d, v') :: fs)) :
    L P ops Q n (Cls w0 [] m) (⟨some d, .call ⟨.builtin .append, #[x, y], #[tx, tx]⟩, t, pos, af, none⟩ :: rest) fs := by
  obtain ⟨z, hz, h⟩ := bind1S h
  obtain ⟨rfl, hl⟩ := app_some hz
  have hb' : by' ≤ 56 := by simpa using hb
  intro ac w hs hw
  refine L.append (i := i) hd hu he hx hy hm hB (plain_zr hp (h2.ones hK hw hl0)) (by rw [zr_length, zr_length]; unfold maxLen; omega) ?_ (fun v' => ?_) ac w hs hw
  · rw [zr_length, zr_length]
    calc (l.length + l2.length) * by' ≤ 2513169434916 * 56 := Nat.mul_le_mul hl hb'
      _ ≤ _ := by decide
  · rw [← zr_app]
    exact next v' (gapp vs vs2 l.length) _ hz h (by rw [zs_app]; exact h1.app h2)
/-- Slices gathered. -/
def Sd.as (d : Sd) : As := .sl d.v d.e d.k d.rows
theorem Cls.gath : ∀ {ds : List Sd} {m : List As}, Cls w0 own (ds.map Sd.as ++ m) w → Cls w0 own (.ss ds :: m) w
  | [], m, h => h.ss0
  | d :: ds, m, h => by
    have h1 : Cls w0 own (ds.map Sd.as ++ (d.as :: m)) w := h.perm (by simp)
    have h2 := Cls.gath (ds := ds) h1
    exact (h2.perm (List.Perm.swap ..)).ssCons
theorem L.gath {ll : List Oper} (ds : List Sd) (h : L P ops Q n (Cls w0 own (.ss ds :: m)) ll fs) : L P ops Q n (Cls w0 own (ds.map Sd.as ++ m)) ll fs := L.to (fun _ hw => hw.gath) h
/-- Rows of one width, of plain cells. -/
structure Rw (k : Nat) where
  r : List Value
  len : r.length = k
  one : ∀ u ∈ r, u.oneCell' = true
theorem rw_of : ∀ {rows : List (List Value)}, (∀ r ∈ rows, r.length = k) → Plain rows → ∃ q : List (Rw k), rows = q.map Rw.r
  | [], _, _ => ⟨[], rfl⟩
  | r :: rows, h1, h2 => by
    obtain ⟨q, hq⟩ := rw_of (fun r hr => h1 r (List.mem_cons_of_mem _ hr)) (fun r hr => h2 r (List.mem_cons_of_mem _ hr))
    have e1 := h1 r (List.mem_cons_self ..)
    have e2 := h2 r (List.mem_cons_self ..)
    exact ⟨⟨r, e1, e2⟩ :: q, by simp [← hq]⟩
def gtake (vs : Nat → List Value) (n : Nat) : Nat → List Value := vs
theorem zr_take : ∀ (vs : Nat → List Value) (l : List α) (n : Nat), zr row vs (l.take n) = (zr row vs l).take n
  | vs, [], n => by simp [zr]
  | vs, x :: l, 0 => by simp [zr]
  | vs, x :: l, n + 1 => by simp only [List.take_succ_cons, zr]; rw [zr_take]
theorem zr_drop : ∀ (vs : Nat → List Value) (l : List α) (n : Nat), zr row (fun q => vs (q + n)) (l.drop n) = (zr row vs l).drop n
  | vs, [], n => by simp [zr]
  | vs, x :: l, 0 => rfl
  | vs, x :: l, n + 1 => by
    simp only [List.drop_succ_cons, zr]
    rw [← zr_drop (fun q => vs (q + 1)) l n]
    rfl
theorem zs_take : ∀ (vs : Nat → List Value) (l : List α) (n : Nat), ∀ d ∈ zs sds vs (l.take n), d ∈ zs sds vs l
  | vs, [], n, d, h => by simp [zs] at h
  | vs, x :: l, 0, d, h => by simp [zs] at h
  | vs, x :: l, n + 1, d, h => by
    simp only [List.take_succ_cons, zs, List.mem_append] at h ⊢
    rcases h with h | h
    · exact .inl h
    · exact .inr (zs_take _ l n d h)
theorem zs_drop : ∀ (vs : Nat → List Value) (l : List α) (n : Nat), ∀ d ∈ zs sds (fun q => vs (q + n)) (l.drop n), d ∈ zs sds vs l
  | vs, [], n, d, h => by simp [zs] at h
  | vs, x :: l, 0, d, h => h
  | vs, x :: l, n + 1, d, h => by
    simp only [List.drop_succ_cons, zs, List.mem_append] at h ⊢
    refine .inr (zs_drop (fun q => vs (q + 1)) l n d ?_)
    have e1 : (fun q => vs (q + (n + 1))) = fun q => (fun q => vs (q + 1)) (q + n) := by
      funext q
      show vs (q + (n + 1)) = vs (q + n + 1)
      rw [Nat.add_assoc]
    rwa [e1] at h
theorem zs_mem_take {vs : Nat → List Value} {l : List α} {A : Nat} : FzA K c (zs sds vs l) → FzA K c (zs sds vs (l.take A)) := fun h d hd => h d (zs_take _ _ _ d hd)
theorem zs_mem_drop {vs : Nat → List Value} {l : List α} {A : Nat} : FzA K c (zs sds vs l) → FzA K c (zs sds (fun q => vs (q + A)) (l.drop A)) := fun h d hd => h d (zs_drop _ _ _ d hd)
theorem L.insHz {F : List α → Option ρ} {x1 : α} {f : FuncId} {ts : Array TypeId} (h : bind1 (xInsR l a x1) F = some r) (hS : InsR P f e k (Rw.r (k := k))) (hd : Nat.blt d n = true) (he : entB P f = true) (hx : val fs x = some v) (hm : m[i]? = some (.sl v e k (zr row vs l)))
    (hy : val fs y = some (.int .i64 a)) (hz : val fs z = some (sv b 1)) (hj : m[j]? = some (.sl (sv b 1) e k (zr row vs2 [x1]))) (hij : i ≠ j) (hp : PlZ row sds) (hlen : ∀ z v, (row z v).length = k) (hK : Stb K w0) (hl0 : m.getLast? = some (.os c)) (h1 : FzA K c (zs sds vs l)) (h2 : FzA K c (zs sds vs2 [x1]))
    (next : ∀ v' vs' q, xInsR l a x1 = some q → F q = some r → FzA K c (zs sds vs' q) → L P ops Q n (Cls w0 [] (m.set i (.sl v' e k (zr row vs' q)))) rest ((d, v') :: fs)) : L P ops Q n (Cls w0 [] m) (⟨some d, .call ⟨.value (.func f), #[x, y, z], ts⟩, t, pos, af, none⟩ :: rest) fs := by
  obtain ⟨q, hq, h⟩ := bind1S h
  obtain ⟨⟨h3, h4, h5⟩, rfl⟩ := xInsR_some hq
  have hwid : ∀ (vs : Nat → List Value) (l : List α), ∀ r ∈ zr row vs l, r.length = k := by
    intro vs l
    induction l generalizing vs with
    | nil => intro r hr; cases hr
    | cons y l ih =>
      intro r hr
      rcases List.mem_cons.1 hr with rfl | hr
      · exact hlen _ _
      · exact ih _ r hr
  intro ac w hs hw
  obtain ⟨q1, hq1⟩ := rw_of (hwid vs l) (plain_zr hp (h1.ones hK hw hl0))
  obtain ⟨q2, hq2⟩ := rw_of (hwid vs2 [x1]) (plain_zr hp (h2.ones hK hw hl0))
  have hln : q1.length = l.length := by
    have := congrArg List.length hq1
    rw [zr_length, List.length_map] at this
    exact this.symm
  obtain ⟨y1, rfl⟩ : ∃ y1, q2 = [y1] := by
    have := congrArg List.length hq2
    rw [zr_length, List.length_map, List.length_singleton] at this
    exact List.length_eq_one_iff.1 this.symm
  have hx1 : xInsR q1 a y1 = some (q1.take a.toNat ++ [y1] ++ q1.drop a.toNat) := by
    unfold xInsR
    rw [hln, if_pos ⟨h3, h4, h5⟩]
  have e1 : (l.take a.toNat).length = a.toNat := by rw [List.length_take]; omega
  have hz1 := zr_app row vs vs2 (l.take a.toNat) [x1]
  rw [e1] at hz1
  have e2 : (l.take a.toNat ++ [x1]).length = a.toNat + 1 := by rw [List.length_append, e1]; rfl
  have hz2 := zr_app row (gapp vs vs2 a.toNat) (fun q => vs (q + a.toNat)) (l.take a.toNat ++ [x1]) (l.drop a.toNat)
  have hs1 := zs_app sds vs vs2 (l.take a.toNat) [x1]
  rw [e1] at hs1
  have hs2 := zs_app sds (gapp vs vs2 a.toNat) (fun q => vs (q + a.toNat)) (l.take a.toNat ++ [x1]) (l.drop a.toNat)
  rw [e2] at hz2 hs2
  refine L.insRD (i := i) (j := j) (l := q1) (x1 := y1) (row := Rw.r (k := k)) (F := fun q => some q) (r := q1.take a.toNat ++ [y1] ++ q1.drop a.toNat) (by rw [hx1]; rfl) hS (fun z => z.len) hd he hx (by rw [← hq1]; exact hm) hy hz (by rw [← hq2]; exact hj) hij (fun v' q hq3 _ => ?_) ac w hs hw
  rw [hx1] at hq3
  obtain rfl := (Option.some.inj hq3)
  have key : (q1.take a.toNat ++ [y1] ++ q1.drop a.toNat).map (Rw.r (k := k)) = zr row (gapp (gapp vs vs2 a.toNat) (fun q => vs (q + a.toNat)) (a.toNat + 1)) (l.take a.toNat ++ [x1] ++ l.drop a.toNat) := by
    rw [hz2, hz1, zr_take, zr_drop, hq1, hq2, List.map_append, List.map_append, List.map_take, List.map_drop]
  rw [key]
  exact next v' _ _ hq h (by rw [hs2, hs1]; exact (FzA.app (FzA.app (zs_mem_take h1) h2) (zs_mem_drop h1)))
/-- What is left of the elements' slices from a place on. -/
def zsd {α : Type} (sds : α → List Value → List Sd) (vs : Nat → List Value) (l : List α) (j : Nat) : List Sd := zs sds (fun q => vs (q + j)) (l.drop j)
theorem zsd_zero : zsd sds vs l 0 = zs sds vs l := rfl
theorem zs_dropF : ∀ (vs : Nat → List Value) (l : List α) (n : Nat), (zs sds (fun q => vs (q + n)) (l.drop n)).Sublist (zs sds vs l)
  | vs, [], n => by simp [zs]
  | vs, x :: l, 0 => List.Sublist.refl _
  | vs, x :: l, n + 1 => by
    simp only [List.drop_succ_cons, zs]
    have := zs_dropF (fun q => vs (q + 1)) l n
    have e1 : (fun q => vs (q + (n + 1))) = fun q => (fun q => vs (q + 1)) (q + n) := by
      funext q
      show vs (q + (n + 1)) = vs (q + n + 1)
      rw [Nat.add_assoc]
    rw [e1]
    exact this.trans (List.sublist_append_right _ _)
theorem zsd_sub {j j' : Nat} (h : j ≤ j') : (zsd sds vs l j').Sublist (zsd sds vs l j) := by
  have := zs_dropF (sds := sds) (fun q => vs (q + j)) (l.drop j) (j' - j)
  unfold zsd
  rw [List.drop_drop, show j + (j' - j) = j' by omega] at this
  have e1 : (fun q => vs (q + j')) = fun q => (fun q => vs (q + j)) (q + (j' - j)) := by
    funext q
    show vs (q + j') = vs (q + (j' - j) + j)
    rw [show q + (j' - j) + j = q + j' by omega]
  rw [e1]
  exact this
theorem Cls.ssSubl {L0 L1 : List Sd} (hw : Cls w0 own m w) (hm : m[s]? = some (.ss L0)) (hs : L1.Sublist L0) : Cls w0 own (m.set s (.ss L1)) w :=
  hw.ssLess hm (fun b hb => by
    obtain ⟨d, hd, hb⟩ := List.mem_flatMap.1 hb
    exact List.mem_flatMap.2 ⟨d, hs.subset hd, hb⟩) (fun hn => hn.sublist (by
      clear hn hm
      induction hs with
      | slnil => simp
      | cons a _ ih => simp only [List.flatMap_cons]; exact ih.trans (List.sublist_append_right _ _)
      | cons_cons a _ ih => simp only [List.flatMap_cons]; exact List.Sublist.append (List.Sublist.refl _) ih)) (fun hh d hd => hh d (hs.subset hd))
theorem Cls.ungath : ∀ {ds L0 : List Sd} {m : List As}, Cls w0 own (.ss (ds ++ L0) :: m) w → Cls w0 own (ds.map Sd.as ++ (.ss L0 :: m)) w
  | [], L0, m, h => h
  | ⟨v, e, k, rows⟩ :: ds, L0, m, h => by
    have h1 : Cls w0 own (.ss (ds ++ L0) :: .sl v e k rows :: m) w := by
      refine h.rePerm ?_ fun z hz => ?_
      · simp only [List.flatMap_cons]
        show ((As.ss (ds ++ L0)).foot ++ (Sd.foot ⟨v, e, k, rows⟩ ++ _)).Perm ((Sd.foot ⟨v, e, k, rows⟩ ++ (ds ++ L0).flatMap Sd.foot) ++ _)
        rw [← List.append_assoc]
        exact List.Perm.append_right _ List.perm_append_comm
      · have hh := (h.mine (.ss (⟨v, e, k, rows⟩ :: ds ++ L0)) (by simp)).1
        rcases List.mem_cons.1 hz with rfl | hz
        · exact fun d hd => hh d (List.mem_cons_of_mem _ hd)
        · rcases List.mem_cons.1 hz with rfl | hz
          · exact hh _ (List.mem_cons_self ..)
          · exact (h.mine z (by simp [hz])).1
    have h2 := Cls.ungath h1
    refine h2.perm ?_
    rw [List.map_cons, List.cons_append]
    show (As.sl v e k rows :: (ds.map Sd.as ++ As.ss L0 :: m)).Perm (ds.map Sd.as ++ (As.ss L0 :: As.sl v e k rows :: m))
    refine List.Perm.trans ?_ (List.Perm.append_left _ (List.Perm.swap ..))
    exact List.perm_middle.symm
theorem L.ssPop {ll : List Oper} {j : Nat} (hm : m[s]? = some (.ss (zsd sds vs l j))) (hr : idx l a = some u0) (hj : j ≤ a.toNat)
    (next : L P ops Q n (Cls w0 own ((sds u0 (vs a.toNat)).map Sd.as ++ (.ss (zsd sds vs l (a + 1 : Int).toNat) :: m.eraseIdx s))) ll fs) : L P ops Q n (Cls w0 own m) ll fs := by
  refine L.to (fun w hw => ?_) next
  obtain ⟨h0, h1, h2⟩ := idx_some hr
  rw [show (a + 1 : Int).toNat = a.toNat + 1 by omega]
  have hd : zsd sds vs l a.toNat = sds u0 (vs a.toNat) ++ zsd sds vs l (a.toNat + 1) := by
    obtain ⟨h3, h4⟩ := List.getElem?_eq_some_iff.1 h2
    unfold zsd
    rw [List.drop_eq_getElem_cons h3, h4, zs]
    simp only [Nat.zero_add]
    congr 2
    funext q
    rw [show q + 1 + a.toNat = q + (a.toNat + 1) by omega]
  have hw1 := hw.ssSubl hm (zsd_sub (sds := sds) (vs := vs) (l := l) hj)
  rw [hd] at hw1
  have hsl := (List.getElem?_eq_some_iff.1 hm).1
  have hp := perm_head (m.set s (.ss (sds u0 (vs a.toNat) ++ zsd sds vs l (a.toNat + 1)))) s (by simpa using hsl)
  rw [List.getElem_set_self, eraseIdx_set_self] at hp
  exact (hw1.perm hp.symm).ungath
theorem L.frmLe {ll : List Oper} {j j' : Nat} (hm : m[s]? = some (.ss (zsd sds vs l j))) (hj : j ≤ j') (next : L P ops Q n (Cls w0 own (m.set s (.ss (zsd sds vs l j')))) ll fs) : L P ops Q n (Cls w0 own m) ll fs := L.to (fun w hw => hw.ssSubl hm (zsd_sub hj)) next
theorem W.frmLe {ll : Code} {j j' : Nat} (hm : m[s]? = some (.ss (zsd sds vs l j))) (hj : j ≤ j') (next : W P Q n (Cls w0 own (m.set s (.ss (zsd sds vs l j')))) ll fs) : W P Q n (Cls w0 own m) ll fs := W.to (fun w hw => hw.ssSubl hm (zsd_sub hj)) next
theorem E.frmLe {ex : Exit} {j j' : Nat} (hm : m[s]? = some (.ss (zsd sds vs l j))) (hj : j ≤ j') (next : E ex Q n (Cls w0 own (m.set s (.ss (zsd sds vs l j')))) fs) : E ex Q n (Cls w0 own m) fs := fun a w hs hw => next a w hs (hw.ssSubl hm (zsd_sub hj))
theorem As.ssOne {L0 : List Sd} (h : (As.ss L0).holds w) : ∀ d ∈ L0, d.v.oneCell' = true := fun d hd => (As.at_ (e := d.e) (h d hd)).one
theorem plz_sv {β : Type} {e' : TypeId} {k' : Nat} {g : β → List Value} : PlZ svRow (svSd e' k' g) := by
  intro x v h u hu
  simp only [svRow, List.mem_singleton] at hu
  subst hu
  exact h ⟨gv v 0, e', k', x.map g⟩ (by simp [svSd])
theorem Y.index2R {len b : Nat} {ik : IntKind} {a1 : Int} (hu : P.underlying tx = some (.array len e)) (hsz : szB P e 1 = true) (hx : val fs x = some (pt b (0 + a.toNat * len))) (hy : val fs y = some (.int ik a1)) (h0 : 0 ≤ a ∧ a < ((q : Nat) : Int)) (z : Unit) (hr : rng len a1 = some z) :
    Y P (.indexAddr tx x y) t n fs C (pt b (0 + (a * (len : Nat) + a1).toNat * 1)) := by
  obtain ⟨h1, h2⟩ := rng_some hr
  have he : (a * (len : Nat) + a1).toNat = a.toNat * len + a1.toNat := by
    obtain ⟨a', rfl⟩ := Int.eq_ofNat_of_zero_le h0.1
    obtain ⟨b', rfl⟩ := Int.eq_ofNat_of_zero_le h1
    have : ((a' : Int) * (len : Nat) + (b' : Int)) = ((a' * len + b' : Nat) : Int) := by simp
    rw [this, Int.toNat_natCast, Int.toNat_natCast, Int.toNat_natCast]
  rw [he, Nat.mul_one, ← Nat.add_assoc, ← Nat.mul_one a1.toNat]
  exact Y.indexP hu hsz hx hy h1 h2
theorem L.litC {xs : List Operand} {vs : List Value} {l : Nat} {ps : Array (Nat × Operand)} (hd : Nat.blt d n = true) (hu : P.underlying tx = some (.slice e)) (he : elemB P e 1 by' = true) (hl : xs.length = l) (hl16 : Nat.ble l 1000 = true) (hp : ps = ((xs.zipIdx 0).map fun x => (x.2, x.1)).toArray)
    (hx : vals fs xs = some vs) (h1 : ∀ w, Cls w0 own m w → ∀ v ∈ vs, v.cells = #[v]) (next : ∀ b, L P ops Q n (Cls w0 own (.sl (sv b l) e 1 (vs.map fun v => [v]) :: m)) rest ((d, sv b l) :: fs)) : L P ops Q n (Cls w0 own m) (⟨some d, .buildSlice tx l ps, t, pos, af, none⟩ :: rest) fs :=
  fun a w hs hw => L.lit hd hu he hl hl16 hp hx (h1 w hw) next a w hs hw
theorem L.cutT {β : Type} {g : β → List Value} {lb zb : List β} {hi : Int} {ll : List Oper} (h : Go.S.cut lb 0 hi = some zb) (hm : m[i]? = some (.sl v e k (lb.map g))) (next : L P ops Q n (Cls w0 own (m.set i (.sl (cutv v hi.toNat) e k (zb.map g)))) ll fs) : L P ops Q n (Cls w0 own m) ll fs := by
  obtain ⟨_, h1, h2, rfl⟩ := cut_some h
  refine L.to (fun w hw => ?_) next
  by_cases h0 : lb = []
  · subst h0
    have h3 : hi = 0 := by simp at h2; omega
    subst h3
    rcases (hw.get hm).2.2 with ⟨rfl, _⟩ | ⟨g', cap, cur, rfl, _⟩
    · have : m.set i (.sl (.slice none 0 0) e k []) = m := by
        obtain ⟨h4, h5⟩ := List.getElem?_eq_some_iff.1 hm
        exact (by rw [← show m[i] = As.sl (.slice none 0 0) e k [] from h5, List.set_getElem_self])
      simp only [List.drop_zero, List.take_nil, List.map_nil]
      show Cls w0 own (m.set i (.sl (.slice none 0 0) e k [])) w
      rw [this]; exact hw
    · have := hw.shrink (N' := 0) hm (Nat.zero_le _)
      simpa [rv, cutv] using this
  · obtain ⟨g', cap, rfl, hc, _⟩ := hw.row hm (by intro hn; exact h0 (List.map_eq_nil_iff.1 hn))
    have := hw.shrink (N' := hi.toNat) hm (by rw [List.length_map]; omega)
    rw [← List.map_take] at this
    simpa [rv, cutv] using this
theorem run_append_types {tA tB : TypeId} {eA eB : TypeId} (hA : P.underlying tA = some (.slice eA)) (hB : P.underlying tB = some (.slice eB)) (hs : szB P eA k = true) (ty : TypeId) (ad : Option Addr) (l c : Nat) (u : Value) (w : World) : (Builtin.append_ #[tA, tB] ty #[.slice ad l c, u]).run P w = (Builtin.append_ #[tA, tA] ty #[.slice ad l c, u]).run P w := by
  simp [Builtin.append_, run_underlying hA, run_underlying hB, run_sizeOf hs]
theorem L.append2 {rows more : List (List Value)} {ty : TypeId} {e2 : TypeId} (hd : Nat.blt d n = true) (hu : P.underlying tx = some (.slice e)) (hu2 : P.underlying ty = some (.slice e2)) (he : elemB P e k by' = true) (hx : val fs x = some v) (hy : val fs y = some u)
    (hm : m[i]? = some (.sl v e k rows)) (hB : ∀ w, Cls w0 own m w → At w u k more) (hp : Plain more) (hl : rows.length + more.length ≤ maxLen) (hb : (rows.length + more.length) * by' ≤ 140737488355328)
    (next : ∀ v', L P ops Q n (Cls w0 own (.sl v' e k (rows ++ more) :: m.eraseIdx i)) rest ((d, v') :: fs)) :
    L P ops Q n (Cls w0 own m) (⟨some d, .call ⟨.builtin .append, #[x, y], #[tx, ty]⟩, t, pos, af, none⟩ :: rest) fs := by
  refine L.runs (R := fun v' w' => Cls w0 own (.sl v' e k (rows ++ more) :: m.eraseIdx i) w') hd (fun a w hs hw => ?_) next
  obtain ⟨inf, z, hi, hz, hsz, hby, hzs, hk⟩ := elemB_out he
  have hown := hw.get hm
  have hBw := hB w hw
  have key : ∃ v' w', (Builtin.append_ #[tx, tx] t #[v, u]).run P w = .ok v' w' ∧ w'.ownsRow 0 e k v' (rows.length + more.length) (rows.flatten ++ more.flatten) ∧ w.grownBy w' v.ownBlock ∧ (v'.ownBlock = v.ownBlock ∨ v'.ownBlock = some w.heap.size) := by
    rcases hBw.shape with ⟨rfl, rfl⟩ | ⟨ad, cap, rfl, _, _⟩
    · refine ⟨v, w, run_append_nil_src 0 tx t e k hu (by simp [szB, hi, hsz]) hown.2, by simpa using hown.2, ⟨rfl, rfl, rfl, Nat.le_refl _, fun _ _ _ => rfl⟩, .inl rfl⟩
    · obtain ⟨v', w', h1, h2, h3, _, h5⟩ := run_append_own_at (P := P) w 0 tx t e inf z k by' hu hi hz hsz hby hzs hk v rows.length rows.flatten hown.2 ad more.length cap more.flatten hBw.flat
        (by simpa [adr] using hBw.flat_cell hk) (fun u' hu' => by obtain ⟨r, hr, hur⟩ := List.mem_flatten.1 hu'; exact hp r hr u' hur) hl hb (Nat.zero_le _)
      exact ⟨v', w', h1, h2, h3, h5⟩
  obtain ⟨v', w', h1, h2, h3, h4⟩ := key
  refine ⟨v', w', ?_, hw.grew hm (run_drawn _ h1) h3 h4 ⟨?_, by simpa using h2⟩⟩
  · have hsh : ∃ ad l c, v = .slice ad l c := by
      rcases (As.at_ (hw.get hm)).shape with ⟨rfl, _⟩ | ⟨ad, cap, rfl, _⟩ <;> exact ⟨_, _, _, rfl⟩
    obtain ⟨ad, l, c, hv⟩ := hsh
    simp only [execOp, resolve, List.map_toArray, List.map_cons, List.map_nil, hs.eval hx, hs.eval hy]
    rw [hv] at h1 ⊢
    rw [← run_append_types hu hu2 (k := k) (by simp [szB, hi, hsz])] at h1
    simp [invoke, builtin, h1]
  · intro r hr
    rcases List.mem_append.1 hr with hr | hr
    · exact hown.1 r hr
    · exact hBw.len r hr
end
end Go.S
