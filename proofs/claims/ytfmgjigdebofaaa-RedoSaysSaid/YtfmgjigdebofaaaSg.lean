/-
  Objects in segments: struct variables with arrays in them.
  Conditions: none.
-/
import Derived.Test.YtfmgjigdebofaaaDp
namespace Go.S
set_option linter.unusedVariables false
set_option linter.unusedSimpArgs false
theorem sl0 {S : List (List Value)} : (S.take 0).flatten.length = 0 := by simp
theorem sl1 {X : List Value} {S : List (List Value)} {i a p : Nat} (h : X.length = a) (hs : (S.take i).flatten.length = p) : ((X :: S).take (i + 1)).flatten.length = a + p := by
  rw [List.take_succ_cons, List.flatten_cons, List.length_append, h, hs]
theorem seg_get : ∀ {S : List (List Value)} {i p q : Nat} {X : List Value} {v : Value}, S[i]? = some X → (S.take i).flatten.length = p → X[q]? = some v → S.flatten[p + q]? = some v
  | [], i, p, q, X, v, hS, _, _ => by simp at hS
  | Y :: S, 0, p, q, X, v, hS, hp, hv => by
    simp only [List.getElem?_cons_zero, Option.some.injEq] at hS
    subst hS
    simp only [List.take_zero, List.flatten_nil, List.length_nil] at hp
    subst hp
    rw [Nat.zero_add, List.flatten_cons, List.getElem?_append_left (List.getElem?_eq_some_iff.1 hv).1]
    exact hv
  | Y :: S, i + 1, p, q, X, v, hS, hp, hv => by
    simp only [List.getElem?_cons_succ] at hS
    rw [List.take_succ_cons, List.flatten_cons, List.length_append] at hp
    rw [List.flatten_cons, List.getElem?_append_right (by omega), show p + q - Y.length = (S.take i).flatten.length + q by omega]
    exact seg_get hS rfl hv
theorem over_right : ∀ (vals : List Value) (A B : List Value) (q : Nat), over (A ++ B) (A.length + q) vals = A ++ over B q vals
  | [], A, B, q => rfl
  | v :: vals, A, B, q => by
    rw [over, over, List.set_append_right _ _ (by omega), show A.length + q - A.length = q by omega, Nat.add_assoc]
    exact over_right vals A _ (q + 1)
theorem over_left : ∀ (vals : List Value) (A B : List Value) (q : Nat), q + vals.length ≤ A.length → over (A ++ B) q vals = over A q vals ++ B
  | [], A, B, q, _ => rfl
  | v :: vals, A, B, q, h => by
    simp only [List.length_cons] at h
    rw [over, over, List.set_append_left _ _ (by omega)]
    exact over_left vals _ B (q + 1) (by rw [List.length_set]; omega)
theorem seg_over : ∀ {S : List (List Value)} {i p q : Nat} {X vals : List Value}, S[i]? = some X → (S.take i).flatten.length = p → q + vals.length ≤ X.length → over S.flatten (p + q) vals = (S.set i (over X q vals)).flatten
  | [], i, p, q, X, vals, hS, _, _ => by simp at hS
  | Y :: S, 0, p, q, X, vals, hS, hp, hv => by
    simp only [List.getElem?_cons_zero, Option.some.injEq] at hS
    subst hS
    simp only [List.take_zero, List.flatten_nil, List.length_nil] at hp
    subst hp
    rw [Nat.zero_add, List.flatten_cons, over_left _ _ _ _ hv]
    rfl
  | Y :: S, i + 1, p, q, X, vals, hS, hp, hv => by
    simp only [List.getElem?_cons_succ] at hS
    rw [List.take_succ_cons, List.flatten_cons, List.length_append] at hp
    rw [List.flatten_cons, show p + q = Y.length + ((S.take i).flatten.length + q) by omega, over_right, seg_over hS rfl hv]
    rfl
theorem seg_len : ∀ {S : List (List Value)} {i p : Nat} {X : List Value}, S[i]? = some X → (S.take i).flatten.length = p → p + X.length ≤ S.flatten.length
  | [], i, p, X, hS, _ => by simp at hS
  | Y :: S, 0, p, X, hS, hp => by
    simp only [List.getElem?_cons_zero, Option.some.injEq] at hS
    subst hS
    simp only [List.take_zero, List.flatten_nil, List.length_nil] at hp
    subst hp
    rw [List.flatten_cons, List.length_append]; omega
  | Y :: S, i + 1, p, X, hS, hp => by
    simp only [List.getElem?_cons_succ] at hS
    rw [List.take_succ_cons, List.flatten_cons, List.length_append] at hp
    have := seg_len hS rfl
    rw [List.flatten_cons, List.length_append]; omega
section
variable {P : Program} {Q : Exit → Act → World → Prop} {n : Nat} {C : World → Prop} {fs : Fr} {t : TypeId} {ops : Array Oper} {rest : List Oper} {d : Nat} {pos : String} {af : Array Edge}
variable {w0 w : World} {own : List Nat} {m : List As} {x y : Operand} {e te tx ty : TypeId} {i j k kk by' p q s c jj b si ps nn : Nat} {v u : Value} {o : Nat} {vals X : List Value} {S : List (List Value)}
variable {α ρ : Type} {r : ρ} {row : α → List Value → List Value} {sds : α → List Value → List Sd} {vs : Nat → List Value} {l : List α} {a : Int} {u0 u1 : α} {f : List α → Option ρ}
theorem zrN (hlen : ∀ z v, (row z v).length = k) (hl : l.length = nn) : (zr row vs l).flatten.length = nn * k := by rw [zr_len hlen, hl]
theorem Y.indexAS {len : Nat} {ik : IntKind} (hu : P.underlying tx = some (.array len e)) (hsz : szB P e k = true) (hx : val fs x = some (pt b o)) (hy : val fs y = some (.int ik a)) (z : α) (hr : idxA len l a = some z) :
    Y P (.indexAddr tx x y) t n fs C (pt b (o + a.toNat * k)) := Y.indexP hu hsz hx hy (idx_some (idxA_idx hr)).1 (idxA_lt hr)
theorem L.toSeg {S : List (List Value)} {cs : List Value} {ll : List Oper} (hc : cs = S.flatten) (next : L P ops Q n (Cls w0 own (.obj b S.flatten e :: m)) ll fs) : L P ops Q n (Cls w0 own (.obj b cs e :: m)) ll fs := by
  subst hc; exact next
theorem L.ssNil {ll : List Oper} {xs : List α} (hn : ∀ d ∈ zs sds vs xs, d.v = .slice none 0 0 ∧ d.rows = []) (next : L P ops Q n (Cls w0 own (.ss (zs sds vs xs) :: m)) ll fs) : L P ops Q n (Cls w0 own m) ll fs :=
  L.to (fun w hw => hw.ssNew hn) next
theorem Y.loadG (ha : aggB P te false = true) (hx : val fs x = some (pt b o)) (ho : o = ps + j) (hm : m[q]? = some (.obj b S.flatten e)) (hS : S[si]? = some X) (hp : (S.take si).flatten.length = ps) (hv : X[j]? = some v) :
    Y P (.load te x) t n fs (Cls w0 own m) v := by
  subst ho
  exact Y.loadP ha hx hm (seg_get hS hp hv)
theorem L.storeG (hs : szB P te kk = true) (hx : val fs x = some (pt b o)) (ho : o = ps + j) (hy : val fs y = some u) (hu : u.cells.toList = vals) (hk : vals.length = kk) (h1 : ∀ u ∈ vals, u.oneCell' = true) (hm : m[q]? = some (.obj b S.flatten e))
    (hS : S[si]? = some X) (hp : (S.take si).flatten.length = ps) (hj : Nat.ble (j + kk) X.length = true) (next : L P ops Q n (Cls w0 own (m.set q (.obj b (S.set si (over X j vals)).flatten e))) rest fs) :
    L P ops Q n (Cls w0 own m) (⟨none, .store te x y, t, pos, af, none⟩ :: rest) fs := by
  subst ho
  have hj' : j + kk ≤ X.length := by simpa using hj
  have h2 := seg_len hS hp
  refine L.store hs hx hy hu hk h1 hm (by omega) ?_
  rwa [seg_over hS hp (by omega)]
theorem Y.loadZg (ha : aggB P te false = true) (hx : val fs x = some (pt b o)) (ho : o = ps + a.toNat * k + j) (hm : m[q]? = some (.obj b S.flatten e)) (hS : S[si]? = some (zr row vs l).flatten) (hp : (S.take si).flatten.length = ps) (hlen : ∀ z v, (row z v).length = k) (hr : idx l a = some u0) {pv : Value} (hpv : (row u0 (vs a.toNat))[j]? = some pv) :
    Y P (.load te x) t n fs (Cls w0 own m) pv := by
  subst ho
  have h1 := zr_flat hlen hr hpv
  have h2 := seg_get hS hp h1
  rw [Nat.zero_add, ← Nat.add_assoc] at h2
  exact Y.loadP ha hx hm h2
theorem Y.loadZNg (ha : aggB P te true = true) (hs : szB P te kk = true) (hx : val fs x = some (pt b o)) (ho : o = ps + a.toNat * k + j) (hm : m[q]? = some (.obj b S.flatten e)) (hS : S[si]? = some (zr row vs l).flatten) (hp : (S.take si).flatten.length = ps) (hlen : ∀ z v, (row z v).length = k) (hr : idx l a = some u0) (hk : vals.length = kk)
    (hpv : ∀ i pv, vals[i]? = some pv → (row u0 (vs a.toNat))[j + i]? = some pv) : Y P (.load te x) t n fs (Cls w0 own m) (.agg vals.toArray) := by
  subst ho
  exact Y.loadPN ha hs hx hm hk fun i pv hi => by
    have h1 := zr_flat hlen hr (hpv i pv hi)
    have h2 := seg_get hS hp h1
    rw [Nat.zero_add, ← Nat.add_assoc, ← Nat.add_assoc] at h2
    exact h2
theorem over_zg (hlen : ∀ z v, (row z v).length = k) (hr : idx l a = some u0) {v1 : List Value} (hj : j + vals.length ≤ k) (hrow : over (row u0 (vs a.toNat)) j vals = row u1 v1) (hS : S[si]? = some (zr row vs l).flatten) (hp : (S.take si).flatten.length = ps) :
    over S.flatten (ps + a.toNat * k + j) vals = (S.set si (zr row (gset vs a.toNat v1) (l.set a.toNat u1)).flatten).flatten := by
  have hi := idx_some hr
  have hib : (a.toNat + 1) * k ≤ l.length * k := Nat.mul_le_mul_right k (by omega)
  rw [Nat.succ_mul] at hib
  rw [← over_zr hlen hr hj hrow, show ps + a.toNat * k + j = ps + (0 + a.toNat * k + j) by omega]
  exact seg_over hS hp (by rw [zr_len hlen]; omega)
theorem seg_fit (hlen : ∀ z v, (row z v).length = k) (hr : idx l a = some u0) (hj : j + kk ≤ k) (hS : S[si]? = some (zr row vs l).flatten) (hp : (S.take si).flatten.length = ps) : ps + a.toNat * k + j + kk ≤ S.flatten.length := by
  have hi := idx_some hr
  have hib : (a.toNat + 1) * k ≤ l.length * k := Nat.mul_le_mul_right k (by omega)
  rw [Nat.succ_mul] at hib
  have h2 := seg_len hS hp
  rw [zr_len hlen] at h2
  omega
theorem zs_same (hc : ∀ z v, (sds z v).length = c) (hr : idx l a = some u0) (hsd : sds u1 (vs a.toNat) = sds u0 (vs a.toNat)) : zs sds vs (l.set a.toNat u1) = zs sds vs l := by
  have hi := idx_some hr
  by_cases h0 : 0 < c
  · have h2 := zs_set hc vs l a.toNat 0 u0 u1 (vs a.toNat) ((sds u0 (vs a.toNat))[0]'(by rw [hc]; exact h0)) hi.2.2 h0 (by rw [hsd, List.set_getElem_self])
    rw [gset_same] at h2
    have h3 := zs_get hc vs l a.toNat 0 u0 hi.2.2 h0
    rw [List.getElem?_eq_getElem (l := sds u0 (vs a.toNat)) (by rw [hc]; exact h0)] at h3
    obtain ⟨h4, h5⟩ := List.getElem?_eq_some_iff.1 h3
    rw [h2, ← h5, List.set_getElem_self]
  · have h6 : ∀ (vs : Nat → List Value) (xs : List α), zs sds vs xs = [] := by
      intro vs xs
      induction xs generalizing vs with
      | nil => rfl
      | cons y ys ih =>
        rw [zs, ih, List.append_nil]
        exact List.eq_nil_of_length_eq_zero (by rw [hc]; omega)
    rw [h6, h6]
theorem zsA_foot {v1 : List Value} : ∀ (vs : Nat → List Value) (l : List α) (i : Nat), l[i]? = some u0 → (∀ d ∈ sds u1 v1, d.v = .slice none 0 0 ∧ d.rows = []) → (∀ b ∈ (zs sds (gset vs i v1) (l.set i u1)).flatMap Sd.foot, b ∈ (zs sds vs l).flatMap Sd.foot) ∧ (((zs sds vs l).flatMap Sd.foot).Nodup → ((zs sds (gset vs i v1) (l.set i u1)).flatMap Sd.foot).Nodup) := by
  intro vs l i h hsd
  have hf : (sds u1 v1).flatMap Sd.foot = [] := by
    rw [List.flatMap_eq_nil_iff]
    intro d hd
    unfold Sd.foot
    rw [(hsd d hd).1]; rfl
  induction l generalizing vs i with
  | nil => simp at h
  | cons y ys ih =>
    cases i with
    | zero =>
      simp only [List.set_cons_zero, zs, gset_0, gset_0s, List.flatMap_append, hf, List.nil_append]
      exact ⟨fun b hb => List.mem_append_right _ hb, fun hnd => (List.nodup_append.1 hnd).2.1⟩
    | succ i =>
      simp only [List.getElem?_cons_succ] at h
      obtain ⟨g1, g2⟩ := ih (fun q => vs (q + 1)) i h
      simp only [List.set_cons_succ, zs, gset_s0, gset_ss, List.flatMap_append]
      refine ⟨fun b hb => ?_, fun hnd => ?_⟩
      · rcases List.mem_append.1 hb with h1 | h1
        · exact List.mem_append_left _ h1
        · exact List.mem_append_right _ (g1 b h1)
      · rw [List.nodup_append] at hnd
        exact List.nodup_append.2 ⟨hnd.1, g2 hnd.2.1, fun a ha b hb => hnd.2.2 a ha b (g1 b hb)⟩
/-- A store of plain cells. -/
theorem L.storeZg (h : bind1 (upd l a u1) f = some r) (hs : szB P te kk = true) (hx : val fs x = some (pt b o)) (ho : o = ps + a.toNat * k + j) (hy : val fs y = some u) (hu : u.cells.toList = vals) (hk : vals.length = kk) (h1 : ∀ u ∈ vals, u.oneCell' = true)
    (hm : m[q]? = some (.obj b S.flatten e)) (hS : S[si]? = some (zr row vs l).flatten) (hp : (S.take si).flatten.length = ps) (hms : m[s]? = some (.ss (zs sds vs l))) (hlen : ∀ z v, (row z v).length = k) (hr : idx l a = some u0) (hj : Nat.ble (j + kk) k = true) (hrow : over (row u0 (vs a.toNat)) j vals = row u1 (vs a.toNat))
    (hc : ∀ z v, (sds z v).length = c) (hsd : sds u1 (vs a.toNat) = sds u0 (vs a.toNat)) (next : ∀ z, z = l.set a.toNat u1 → f z = some r → L P ops Q n (Cls w0 own ((m.set q (.obj b (S.set si (zr row vs z).flatten).flatten e)).set s (.ss (zs sds vs z)))) rest fs) :
    L P ops Q n (Cls w0 own m) (⟨none, .store te x y, t, pos, af, none⟩ :: rest) fs := by
  subst ho
  have hj' : j + kk ≤ k := by simpa using hj
  refine L.store hs hx hy hu hk h1 hm (seg_fit hlen hr hj' hS hp) ?_
  rw [over_zg hlen hr (by omega) hrow hS hp, gset_same]
  have hn := next _ rfl (upd_bind h rfl)
  have hne : q ≠ s := by
    rintro rfl
    rw [hm] at hms
    cases hms
  rwa [zs_same hc hr hsd, set_self (m := m.set q _) (by rw [List.getElem?_set_ne hne]; exact hms)] at hn
/-- A store of a slice that is owned. -/
theorem L.storeZSg (h : bind1 (upd l a u1) f = some r) (hs : szB P te 1 = true) (hx : val fs x = some (pt b o)) (ho : o = ps + a.toNat * k + j) (hy : val fs y = some v) {e' : TypeId} {k' jj : Nat} {rows : List (List Value)} {L0 : List Sd} {v1 : List Value}
    (hm : m[q]? = some (.obj b S.flatten e)) (hS : S[si]? = some (zr row vs l).flatten) (hp0 : (S.take si).flatten.length = ps) (hp : m[p]? = some (.sl v e' k' rows)) (hms : m[s]? = some (.ss L0)) (hL : L0 = zs sds vs l ∨ L0 = (zs sds vs l).set (a.toNat * c + jj) (Sd.nil 0 0)) (hlen : ∀ z v, (row z v).length = k) (hc : ∀ z v, (sds z v).length = c) (hr : idx l a = some u0) (hj : Nat.ble (j + 1) k = true)
    (hrow : over (row u0 (vs a.toNat)) j [v] = row u1 v1) (hjj : Nat.blt jj c = true) (hsd : sds u1 v1 = (sds u0 (vs a.toNat)).set jj ⟨v, e', k', rows⟩)
    (next : ∀ z vs', z = l.set a.toNat u1 → f z = some r → L P ops Q n (Cls w0 own (((m.set q (.obj b (S.set si (zr row vs' z).flatten).flatten e)).set s (.ss (zs sds vs' z))).eraseIdx p)) rest fs) :
    L P ops Q n (Cls w0 own m) (⟨none, .store te x y, t, pos, af, none⟩ :: rest) fs := by
  subst ho
  have hj' : j + 1 ≤ k := by simpa using hj
  have hjj' : jj < c := by simpa [Nat.blt_eq] using hjj
  refine L.storeV hs hx hy (fun w hw => (As.at_ (hw.get hp)).one) hm (seg_fit hlen hr hj' hS hp0) ?_
  rw [over_zg hlen hr hj' hrow hS hp0]
  refine L.to (fun w hw => ?_) (next _ (gset vs a.toNat v1) rfl (upd_bind h rfl))
  have hqs : q ≠ s := by rintro rfl; rw [hm] at hms; cases hms
  have hqp : q ≠ p := by rintro rfl; rw [hm] at hp; cases hp
  exact hw.zsPut (by rw [List.getElem?_set_ne hqp]; exact hp) (by rw [List.getElem?_set_ne hqs]; exact hms) hL hc hr hjj' hsd
/-- A store of a whole element without slices. -/
theorem L.storeZAg (h : bind1 (upd l a u1) f = some r) (hs : szB P te kk = true) (hx : val fs x = some (pt b o)) (ho : o = ps + a.toNat * k + j) (hy : val fs y = some u) (hu : u.cells.toList = vals) (hk : vals.length = kk) (h1 : ∀ u ∈ vals, u.oneCell' = true) {v1 : List Value}
    (hm : m[q]? = some (.obj b S.flatten e)) (hS : S[si]? = some (zr row vs l).flatten) (hp : (S.take si).flatten.length = ps) (hms : m[s]? = some (.ss (zs sds vs l))) (hlen : ∀ z v, (row z v).length = k) (hr : idx l a = some u0) (hj : Nat.ble (j + kk) k = true) (hrow : over (row u0 (vs a.toNat)) j vals = row u1 v1)
    (hsd : ∀ d ∈ sds u1 v1, d.v = .slice none 0 0 ∧ d.rows = []) (next : ∀ z vs', z = l.set a.toNat u1 → f z = some r → L P ops Q n (Cls w0 own ((m.set q (.obj b (S.set si (zr row vs' z).flatten).flatten e)).set s (.ss (zs sds vs' z)))) rest fs) :
    L P ops Q n (Cls w0 own m) (⟨none, .store te x y, t, pos, af, none⟩ :: rest) fs := by
  subst ho
  have hi := idx_some hr
  have hj' : j + kk ≤ k := by simpa using hj
  refine L.store hs hx hy hu hk h1 hm (seg_fit hlen hr hj' hS hp) ?_
  rw [over_zg hlen hr (by omega) hrow hS hp]
  refine L.to (fun w hw => ?_) (next _ (gset vs a.toNat v1) rfl (upd_bind h rfl))
  have hqs : q ≠ s := by rintro rfl; rw [hm] at hms; cases hms
  have hs2 : (m.set q (.obj b (S.set si (zr row (gset vs a.toNat v1) (l.set a.toNat u1)).flatten).flatten e))[s]? = some (.ss (zs sds vs l)) := by rw [List.getElem?_set_ne hqs]; exact hms
  obtain ⟨g1, g2⟩ := zsA_foot vs l a.toNat hi.2.2 hsd
  refine hw.ssLess hs2 g1 g2 (fun hh d hd => ?_)
  rcases zs_mem vs l a.toNat u0 u1 v1 hi.2.2 d hd with h6 | h6
  · obtain ⟨h7, h8⟩ := hsd d h6
    rw [h7, h8]
    exact slHolds_nil w _ _
  · exact hh d h6
end
end Go.S
