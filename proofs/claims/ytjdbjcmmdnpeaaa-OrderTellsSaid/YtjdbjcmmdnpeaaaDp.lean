/-
  Slices whose elements hold slices: owned, with a ghost; arrays of arrays, told flat.
  Conditions: none.
-/
import Derived.Test.YtjdbjcmmdnpeaaaF
namespace Go.S
set_option linter.unusedVariables false
set_option linter.unusedSimpArgs false
def gapp (vs vs2 : Nat → List Value) (n : Nat) : Nat → List Value := fun q => if q < n then vs q else vs2 (q - n)
theorem gapp_0 (vs vs2 : Nat → List Value) : gapp vs vs2 0 = vs2 := by funext q; simp [gapp]
theorem gapp_s (vs vs2 : Nat → List Value) (n : Nat) : gapp vs vs2 (n + 1) 0 = vs 0 := by simp [gapp]
theorem gapp_ss (vs vs2 : Nat → List Value) (n : Nat) : (fun i => gapp vs vs2 (n + 1) (i + 1)) = gapp (fun i => vs (i + 1)) vs2 n := by
  funext i
  simp only [gapp]
  by_cases h : i < n
  · rw [if_pos (by omega), if_pos h]
  · rw [if_neg (by omega), if_neg h, show i + 1 - (n + 1) = i - n by omega]
theorem zr_app {α : Type} (row : α → List Value → List Value) : ∀ (vs vs2 : Nat → List Value) (l l2 : List α), zr row (gapp vs vs2 l.length) (l ++ l2) = zr row vs l ++ zr row vs2 l2
  | vs, vs2, [], l2 => by simp [gapp_0, zr]
  | vs, vs2, x :: l, l2 => by
    rw [List.cons_append, List.length_cons, zr, gapp_s, gapp_ss, zr_app row _ vs2 l l2]
    rfl
theorem zs_app {α : Type} (sds : α → List Value → List Sd) : ∀ (vs vs2 : Nat → List Value) (l l2 : List α), zs sds (gapp vs vs2 l.length) (l ++ l2) = zs sds vs l ++ zs sds vs2 l2
  | vs, vs2, [], l2 => by simp [gapp_0, zs]
  | vs, vs2, x :: l, l2 => by
    rw [List.cons_append, List.length_cons, zs, gapp_s, gapp_ss, zs_app sds _ vs2 l l2, ← List.append_assoc]
    rfl
section
variable {P : Program} {Q : Exit → Act → World → Prop} {n : Nat} {C : World → Prop} {fs : Fr} {t : TypeId} {ops : Array Oper} {rest : List Oper} {d : Nat} {pos : String} {af : Array Edge}
variable {w0 w : World} {own : List Nat} {m : List As} {x y : Operand} {e te tx ty : TypeId} {i j k kk by' p q s c jj : Nat} {v u V : Value} {o : Nat}
variable {α ρ : Type} {r : ρ} {row : α → List Value → List Value} {sds : α → List Value → List Sd} {vs vs2 : Nat → List Value} {l l2 : List α} {a : Int} {u0 u1 : α} {f : List α → Option ρ}
theorem L.makeZ {z0 : α} {ql : List α} {ik ik' : IntKind} {nv : List Value} (hq : mk a z0 = some ql) (hd : Nat.blt d n = true) (hu : P.underlying tx = some (.slice e)) (he : elemB P e k by' = true) (hz : zeroB P e = some (row z0 nv)) (hx : val fs x = some (.int ik a)) (hy : val fs y = some (.int ik' a)) (hb : Nat.ble by' 1000000 = true)
    (hn : ∀ d ∈ sds z0 nv, d.v = .slice none 0 0 ∧ d.rows = []) (next : ∀ b, L P ops Q n (Cls w0 own (.sl (sv b a.toNat) e k (zr row (fun _ => nv) ql) :: .ss (zs sds (fun _ => nv) ql) :: m)) rest ((d, sv b a.toNat) :: fs)) :
    L P ops Q n (Cls w0 own m) (⟨some d, .makeSlice tx x y, t, pos, af, none⟩ :: rest) fs := by
  refine L.makeE (row := fun z => row z nv) hq hd hu he hz hx hy hb fun b => ?_
  obtain ⟨h0, h1, rfl⟩ := mk_some hq
  refine L.to (fun w hw => ?_) (next b)
  rw [List.map_replicate] at hw
  rw [zr_repl]
  exact (hw.ssNew (zs_repl hn _)).perm (List.Perm.swap ..)
theorem Cls.nilZ (h : Cls w0 own m w) (e : TypeId) (k : Nat) (row : α → List Value → List Value) (sds : α → List Value → List Sd) (vs : Nat → List Value) : Cls w0 own (.sl (.slice none 0 0) e k (zr row vs []) :: .ss (zs sds vs []) :: m) w :=
  ((h.ssNew (l := zs sds vs []) (by intro d hd; simp [zs] at hd))).nilSl e k
theorem L.nilZ {ll : List Oper} (e : TypeId) (k : Nat) (row : α → List Value → List Value) (sds : α → List Value → List Sd) (vs : Nat → List Value) (h : L P ops Q n (Cls w0 own (.sl (.slice none 0 0) e k (zr row vs []) :: .ss (zs sds vs []) :: m)) ll fs) : L P ops Q n (Cls w0 own m) ll fs := fun a w hs hw => h a w hs (hw.nilZ e k row sds vs)
theorem W.nilZ {cc : Code} (e : TypeId) (k : Nat) (row : α → List Value → List Value) (sds : α → List Value → List Sd) (vs : Nat → List Value) (h : W P Q n (Cls w0 own (.sl (.slice none 0 0) e k (zr row vs []) :: .ss (zs sds vs []) :: m)) cc fs) : W P Q n (Cls w0 own m) cc fs := fun a w hs hw => h a w hs (hw.nilZ e k row sds vs)
theorem E.nilZ {ex : Exit} (e : TypeId) (k : Nat) (row : α → List Value → List Value) (sds : α → List Value → List Sd) (vs : Nat → List Value) (h : E ex Q n (Cls w0 own (.sl (.slice none 0 0) e k (zr row vs []) :: .ss (zs sds vs []) :: m)) fs) : E ex Q n (Cls w0 own m) fs := fun a w hs hw => h a w hs (hw.nilZ e k row sds vs)
theorem set_self {β : Type} {m : List β} {i : Nat} {x : β} (h : m[i]? = some x) : m.set i x = m := by
  obtain ⟨h1, h2⟩ := List.getElem?_eq_some_iff.1 h
  rw [← h2, List.set_getElem_self]
theorem zs_lt (hc : ∀ z v, (sds z v).length = c) (hr : idx l a = some u0) (hjj : jj < c) : a.toNat * c + jj < (zs sds vs l).length := by
  have h3 := zs_get hc vs l a.toNat jj u0 (idx_some hr).2.2 hjj
  rw [List.getElem?_eq_getElem (l := sds u0 (vs a.toNat)) (by rw [hc]; exact hjj)] at h3
  exact (List.getElem?_eq_some_iff.1 h3).1
/-- A slice in one's hand is put into an element. -/
theorem Cls.zsPut (hw : Cls w0 own m w) {e' : TypeId} {k' : Nat} {rows : List (List Value)} {L0 : List Sd} {v1 : List Value} (hp : m[p]? = some (.sl v e' k' rows)) (hms : m[s]? = some (.ss L0)) (hL : L0 = zs sds vs l ∨ L0 = (zs sds vs l).set (a.toNat * c + jj) (Sd.nil 0 0))
    (hc : ∀ z v, (sds z v).length = c) (hr : idx l a = some u0) (hjj : jj < c) (hsd : sds u1 v1 = (sds u0 (vs a.toNat)).set jj ⟨v, e', k', rows⟩) : Cls w0 own ((m.set s (.ss (zs sds (gset vs a.toNat v1) (l.set a.toNat u1)))).eraseIdx p) w := by
  have hi := idx_some hr
  have hps : p ≠ s := by rintro rfl; rw [hp] at hms; cases hms
  have hzs := zs_set hc vs l a.toNat jj u0 u1 v1 _ hi.2.2 hjj hsd
  have hlt := zs_lt (vs := vs) hc hr hjj
  rw [hzs]
  rcases hL with rfl | rfl
  · have h3 : ∃ d, (zs sds vs l)[a.toNat * c + jj]? = some d := ⟨_, List.getElem?_eq_getElem hlt⟩
    obtain ⟨d0, h3⟩ := h3
    have h4 := foot_set_sub h3 (nilfoot 0 0)
    have h5 := hw.ssLess hms (l' := (zs sds vs l).set (a.toNat * c + jj) (Sd.nil 0 0)) (fun b hb => h4.mem_iff.1 (List.mem_append_right _ hb)) (fun hnd => (List.nodup_append.1 (h4.nodup_iff.2 hnd)).2.1) (fun hh d hd => by
      rcases List.mem_or_eq_of_mem_set hd with h6 | rfl
      · exact hh d h6
      · exact slHolds_nil w 0 0)
    have h6 := h5.ssIn (p := p) (s := s) (i := a.toNat * c + jj) (e' := 0) (k' := 0) (by rw [List.getElem?_set_ne (Ne.symm hps)]; exact hp) (by rw [List.getElem?_set_self ((List.getElem?_eq_some_iff.1 hms).1)]) hps hlt
    rwa [List.set_set] at h6
  · exact hw.ssIn hp hms hps hlt
/-- A store of a slice that is owned, into an element of a slice. -/
theorem L.storeSlZS (h : bind1 (upd l a u1) f = some r) (hs : szB P te 1 = true) (hx : val fs x = some (el V o)) (ho : o = a.toNat * k + j) (hy : val fs y = some v) {e' : TypeId} {k' : Nat} {rows : List (List Value)} {L0 : List Sd} {v1 : List Value}
    (hm : m[q]? = some (.sl V e k (zr row vs l))) (hp : m[p]? = some (.sl v e' k' rows)) (hms : m[s]? = some (.ss L0)) (hL : L0 = zs sds vs l ∨ L0 = (zs sds vs l).set (a.toNat * c + jj) (Sd.nil 0 0)) (hlen : ∀ z v, (row z v).length = k) (hc : ∀ z v, (sds z v).length = c) (hr : idx l a = some u0) (hj : Nat.ble (j + 1) k = true)
    (hrow : over (row u0 (vs a.toNat)) j [v] = row u1 v1) (hjj : Nat.blt jj c = true) (hsd : sds u1 v1 = (sds u0 (vs a.toNat)).set jj ⟨v, e', k', rows⟩) (hqp : q ≠ p)
    (next : ∀ z vs', z = l.set a.toNat u1 → f z = some r → L P ops Q n (Cls w0 own (((m.set q (.sl V e k (zr row vs' z))).set s (.ss (zs sds vs' z))).eraseIdx p)) rest fs) :
    L P ops Q n (Cls w0 own m) (⟨none, .store te x y, t, pos, af, none⟩ :: rest) fs := by
  have hi := idx_some hr
  have hj' : j + 1 ≤ k := by simpa using hj
  have hjj' : jj < c := by simpa [Nat.blt_eq] using hjj
  intro ac w hs' hw
  have h1 := (As.at_ (hw.get hp)).one
  refine L.storeSlN (j := j) hs hx ho hy (cells_one h1) rfl (by simpa using h1) hm (zr_get row vs l _ _ hi.2.2) hj' ?_ ac w hs' hw
  rw [hrow, ← zr_set row vs l a.toNat u1 v1 (by omega)]
  refine L.to (fun w hw => ?_) (next _ (gset vs a.toNat v1) rfl (upd_bind h rfl))
  have hqs : q ≠ s := by rintro rfl; rw [hm] at hms; cases hms
  exact hw.zsPut (by rw [List.getElem?_set_ne hqp]; exact hp) (by rw [List.getElem?_set_ne hqs]; exact hms) hL hc hr hjj' hsd
theorem zr_same (hr : idx l a = some u0) (hrow : row u1 (vs a.toNat) = row u0 (vs a.toNat)) : zr row vs (l.set a.toNat u1) = zr row vs l := by
  have hi := idx_some hr
  have h1 := zr_set row vs l a.toNat u1 (vs a.toNat) (by omega)
  rw [gset_same] at h1
  rw [h1, hrow, set_self (zr_get row vs l _ _ hi.2.2)]
/-- What was taken out of an element is put back. -/
theorem L.ssBack {ll : List Oper} {e' : TypeId} {k' : Nat} {rows : List (List Value)} (F : List (List Value) → As) (h : bind1 (upd l a u1) f = some r) (hp : m[p]? = some (.sl v e' k' rows)) (hms : m[s]? = some (.ss ((zs sds vs l).set (a.toNat * c + jj) (Sd.nil 0 0)))) (hm : m[q]? = some (F (zr row vs l)))
    (hc : ∀ z v, (sds z v).length = c) (hr : idx l a = some u0) (hrow : row u1 (vs a.toNat) = row u0 (vs a.toNat)) (hjj : Nat.blt jj c = true) (hsd : sds u1 (vs a.toNat) = (sds u0 (vs a.toNat)).set jj ⟨v, e', k', rows⟩)
    (next : ∀ z, z = l.set a.toNat u1 → f z = some r → L P ops Q n (Cls w0 own (((m.set q (F (zr row vs z))).set s (.ss (zs sds vs z))).eraseIdx p)) ll fs) : L P ops Q n (Cls w0 own m) ll fs := by
  have hjj' : jj < c := by simpa [Nat.blt_eq] using hjj
  refine L.to (fun w hw => ?_) (next _ rfl (upd_bind h rfl))
  rw [zr_same hr hrow, set_self hm]
  have := hw.zsPut (vs := vs) (l := l) (a := a) (u0 := u0) (u1 := u1) (v1 := vs a.toNat) hp hms (.inr rfl) hc hr hjj' hsd
  rwa [gset_same] at this

/-! ### Slices gathered -/
theorem Cls.ss0 (h : Cls w0 own m w) : Cls w0 own (.ss [] :: m) w := h.ssNew (by simp)
theorem Cls.ssCons {ll : List Sd} {rows : List (List Value)} (h : Cls w0 own (.sl v e k rows :: .ss ll :: m) w) : Cls w0 own (.ss (⟨v, e, k, rows⟩ :: ll) :: m) w := by
  refine h.rePerm ?_ fun z hz => ?_
  · simp only [List.flatMap_cons]
    show ((Sd.foot ⟨v, e, k, rows⟩ ++ ll.flatMap Sd.foot) ++ _).Perm _
    rw [List.append_assoc]
    exact List.Perm.refl _
  · rcases List.mem_cons.1 hz with rfl | hz
    · intro dd hd
      rcases List.mem_cons.1 hd with rfl | hd
      · exact (h.mine (.sl v e k rows) (by simp)).1
      · exact (h.mine (.ss ll) (by simp)).1 dd hd
    · exact (h.mine z (by simp [hz])).1
theorem Cls.ssApp {X : As} {A B : List Sd} (h : Cls w0 own (X :: .ss A :: .ss B :: m) w) : Cls w0 own (X :: .ss (A ++ B) :: m) w := by
  refine h.rePerm ?_ fun z hz => ?_
  · simp only [List.flatMap_cons, As.foot, List.flatMap_append, List.append_assoc]
    exact List.Perm.refl _
  · rcases List.mem_cons.1 hz with rfl | hz
    · exact (h.mine z (by simp)).1
    · rcases List.mem_cons.1 hz with rfl | hz
      · intro dd hd
        rcases List.mem_append.1 hd with hd | hd
        · exact (h.mine (.ss A) (by simp)).1 dd hd
        · exact (h.mine (.ss B) (by simp)).1 dd hd
      · exact (h.mine z (by simp [hz])).1
theorem L.ss0 {ll : List Oper} (h : L P ops Q n (Cls w0 own (.ss [] :: m)) ll fs) : L P ops Q n (Cls w0 own m) ll fs := L.to (fun _ hw => hw.ss0) h
theorem L.ssCons {ll : List Oper} {ls : List Sd} {rows : List (List Value)} (h : L P ops Q n (Cls w0 own (.ss (⟨v, e, k, rows⟩ :: ls) :: m)) ll fs) : L P ops Q n (Cls w0 own (.sl v e k rows :: .ss ls :: m)) ll fs := L.to (fun _ hw => hw.ssCons) h
/-- append of elements that hold slices. -/
theorem L.appZ (h : bind1 (app l l2) f = some r) (hd : Nat.blt d n = true) (hu : P.underlying tx = some (.slice e)) (he : elemB P e k by' = true) (hx : val fs x = some v) (hy : val fs y = some u) (hb : Nat.ble by' 56 = true)
    (hpl : ∀ w, Cls w0 own (.sl v e k (zr row vs l) :: .ss (zs sds vs l) :: .sl u e k (zr row vs2 l2) :: .ss (zs sds vs2 l2) :: m) w → Plain (zr row vs2 l2))
    (next : ∀ v' vs' z, app l l2 = some z → f z = some r → L P ops Q n (Cls w0 own (.sl v' e k (zr row vs' z) :: .ss (zs sds vs' z) :: m)) rest ((d, v') :: fs)) :
    L P ops Q n (Cls w0 own (.sl v e k (zr row vs l) :: .ss (zs sds vs l) :: .sl u e k (zr row vs2 l2) :: .ss (zs sds vs2 l2) :: m)) (⟨some d, .call ⟨.builtin .append, #[x, y], #[tx, tx]⟩, t, pos, af, none⟩ :: rest) fs := by
  obtain ⟨z, hz, h⟩ := bind1S h
  obtain ⟨rfl, hl⟩ := app_some hz
  have hb' : by' ≤ 56 := by simpa using hb
  intro ac w hs hw
  refine L.append (i := 0) hd hu he hx hy rfl (fun w hw => As.at_ (hw.get (i := 2) rfl)) (hpl w hw) (by rw [zr_length, zr_length]; unfold maxLen; omega) ?_ (fun v' => ?_) ac w hs hw
  · rw [zr_length, zr_length]
    calc (l.length + l2.length) * by' ≤ 2513169434916 * 56 := Nat.mul_le_mul hl hb'
      _ ≤ _ := by decide
  · rw [← zr_app]
    refine L.to (fun w hw => ?_) (next v' (gapp vs vs2 l.length) _ hz h)
    rw [zs_app]
    refine Cls.ssApp (Cls.sublist hw ?_)
    simp only [List.eraseIdx_cons_zero]
    exact ((List.Sublist.cons _ (List.Sublist.refl _)).cons_cons _).cons_cons _

/-! ### Arrays of arrays, told flat -/
def rng (n : Nat) (a : Int) : Option Unit := if 0 ≤ a ∧ a < n then some () else none
theorem rng_some {nn : Nat} {a : Int} {z : Unit} (h : rng nn a = some z) : 0 ≤ a ∧ a < nn := by
  unfold rng at h
  split at h
  · assumption
  · cases h
def idx2 {α : Type} (n : Nat) (l : List α) (a b : Int) : Option α := if 0 ≤ a ∧ 0 ≤ b ∧ b < n then idx l (a * n + b) else none
theorem idx2_some {nn : Nat} {a b : Int} {z : α} (h : idx2 nn l a b = some z) : 0 ≤ a ∧ 0 ≤ b ∧ b < nn ∧ idx l (a * nn + b) = some z := by
  unfold idx2 at h
  split at h
  · rename_i hc; exact ⟨hc.1, hc.2.1, hc.2.2, h⟩
  · cases h
theorem idx2_idx {nn : Nat} {a b : Int} {z : α} (h : idx2 nn l a b = some z) : idx l (a * nn + b) = some z := (idx2_some h).2.2.2
theorem Y.indexR {len b : Nat} {ik : IntKind} (hu : P.underlying tx = some (.array len e)) (hsz : szB P e k = true) (hx : val fs x = some (pt b 0)) (hy : val fs y = some (.int ik a)) (z : Unit) (hr : rng len a = some z) :
    Y P (.indexAddr tx x y) t n fs C (pt b (0 + a.toNat * k)) := Y.indexP hu hsz hx hy (rng_some hr).1 (rng_some hr).2
theorem Y.index2 {len b : Nat} {ik : IntKind} {a1 : Int} (hu : P.underlying tx = some (.array len e)) (hsz : szB P e 1 = true) (hx : val fs x = some (pt b (0 + a.toNat * len))) (hy : val fs y = some (.int ik a1)) (z : α) (hr : idx2 len l a a1 = some z) :
    Y P (.indexAddr tx x y) t n fs C (pt b (0 + (a * (len : Nat) + a1).toNat * 1)) := by
  obtain ⟨h0, h1, h2, _⟩ := idx2_some hr
  have he : (a * (len : Nat) + a1).toNat = a.toNat * len + a1.toNat := by
    obtain ⟨a', rfl⟩ := Int.eq_ofNat_of_zero_le h0
    obtain ⟨b', rfl⟩ := Int.eq_ofNat_of_zero_le h1
    have : ((a' : Int) * (len : Nat) + (b' : Int)) = ((a' * len + b' : Nat) : Int) := by simp
    rw [this, Int.toNat_natCast, Int.toNat_natCast, Int.toNat_natCast]
  rw [he, Nat.mul_one, ← Nat.add_assoc, ← Nat.mul_one a1.toNat]
  exact Y.indexP hu hsz hx hy h1 h2
end
end Go.S
