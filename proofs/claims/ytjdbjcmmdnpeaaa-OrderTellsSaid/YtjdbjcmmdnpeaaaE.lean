/-
  '==' of structs and arrays, cell by cell; and more operations.
  Conditions: none.
-/
import Derived.Test.YtjdbjcmmdnpeaaaK
import Derived.ChangeKeysEq
import Derived.Laws.StructEq
import Derived.Laws.Cover3
namespace Go.S
/-- The cells at these places lie one behind another, from o up to tot. -/
def tileB (P : Program) (tot : Nat) : Nat → List Field → Bool
  | o, [] => Nat.beq o tot
  | o, f :: r => Nat.beq f.offset o && tileB P tot (o + P.cellsOf f.type) r
/-- These cells are some value of this type: of ints, bools and strings. -/
def shB (P : Program) : Nat → TypeId → List Value → Bool
  | 0, _, _ => false
  | d + 1, t, cs =>
    match P.underlying t, cs with
    | some .bool, [.bool _] => true
    | some (.int q), [.int q' _] => decide (q' = q)
    | some .string, [.string _] => true
    | some (.array n e), cs => Nat.beq cs.length (n * P.cellsOf e) && (P.info? e).isSome && (List.range n).all fun i => shB P d e ((cs.drop (i * P.cellsOf e)).take (P.cellsOf e))
    | some (.struct fs), cs => (fs.toList.all fun f => f.name != "_") && !P.stoodInHeld t && tileB P cs.length 0 fs.toList && fs.toList.all fun f => shB P d f.type ((cs.drop f.offset).take (P.cellsOf f.type))
    | _, _ => false
def Vof (P : Program) (t : TypeId) (cs : List Value) (v : Value) : Prop := (aggB P t true = true ∧ v = .agg cs.toArray) ∨ (aggB P t false = true ∧ cs = [v])

section
variable {P : Program} {w : World}
theorem aggB_excl {t : TypeId} (h1 : aggB P t true = true) (h2 : aggB P t false = true) : False := by
  unfold aggB at h1 h2
  cases hu : P.underlying t with
  | none => simp [hu] at h1
  | some d => cases d <;> simp [hu] at h1 h2
theorem szB_cells {t : TypeId} {i : TypeInfo} (h : P.info? t = some i) : szB P t (P.cellsOf t) = true := by simp [szB, Program.cellsOf, h]
theorem shB_inv {d : Nat} {t : TypeId} {cs : List Value} (h : shB P (d + 1) t cs = true) :
    (∃ b, P.underlying t = some .bool ∧ cs = [.bool b]) ∨ (∃ q n, P.underlying t = some (.int q) ∧ cs = [.int q n]) ∨ (∃ s, P.underlying t = some .string ∧ cs = [.string s]) ∨
    (∃ n e, P.underlying t = some (.array n e) ∧ cs.length = n * P.cellsOf e ∧ (∃ i, P.info? e = some i) ∧ ∀ i, i < n → shB P d e ((cs.drop (i * P.cellsOf e)).take (P.cellsOf e)) = true) ∨
    (∃ fs, P.underlying t = some (.struct fs) ∧ (∀ f ∈ fs.toList, f.name ≠ "_") ∧ P.stoodInHeld t = false ∧ tileB P cs.length 0 fs.toList = true ∧ ∀ f ∈ fs.toList, shB P d f.type ((cs.drop f.offset).take (P.cellsOf f.type)) = true) := by
  unfold shB at h
  cases hu : P.underlying t with
  | none => simp [hu] at h
  | some k =>
    rw [hu] at h
    cases k with
    | bool =>
      refine .inl ?_
      match cs, h with
      | [.bool b], _ => exact ⟨b, rfl, rfl⟩
    | int q =>
      refine .inr (.inl ?_)
      match cs, h with
      | [.int q' n], h => exact ⟨q, n, rfl, by have := of_decide_eq_true h; rw [this]⟩
    | string =>
      refine .inr (.inr (.inl ?_))
      match cs, h with
      | [.string b], _ => exact ⟨b, rfl, rfl⟩
    | array n e =>
      refine .inr (.inr (.inr (.inl ⟨n, e, rfl, ?_⟩)))
      have h' : (Nat.beq cs.length (n * P.cellsOf e) && (P.info? e).isSome && (List.range n).all fun i => shB P d e ((cs.drop (i * P.cellsOf e)).take (P.cellsOf e))) = true := by
        revert h
        match cs with
        | [] => exact id
        | [_] => exact id
        | _ :: _ :: _ => exact id
      simp only [Bool.and_eq_true, List.all_eq_true, List.mem_range] at h'
      exact ⟨Nat.eq_of_beq_eq_true h'.1.1, Option.isSome_iff_exists.1 h'.1.2, h'.2⟩
    | struct fs =>
      refine .inr (.inr (.inr (.inr ⟨fs, rfl, ?_⟩)))
      have h' : ((fs.toList.all fun f => f.name != "_") && !P.stoodInHeld t && tileB P cs.length 0 fs.toList && fs.toList.all fun f => shB P d f.type ((cs.drop f.offset).take (P.cellsOf f.type))) = true := by
        revert h
        match cs with
        | [] => exact id
        | [_] => exact id
        | _ :: _ :: _ => exact id
      simp only [Bool.and_eq_true, List.all_eq_true, Bool.not_eq_true', bne_iff_ne] at h'
      exact ⟨h'.1.1.1, h'.1.1.2, h'.1.2, h'.2⟩
    | _ => simp at h
theorem run_part {t : TypeId} {xs : Array Value} {off : Nat} {d : Nat} (hs : shB P d t ((xs.toList.drop off).take (P.cellsOf t)) = true) :
    ∃ v, (part t xs off).run P w = .ok v w ∧ Vof P t ((xs.toList.drop off).take (P.cellsOf t)) v := by
  cases d with
  | zero => simp [shB] at hs
  | succ d =>
    have one : ∀ v, ((xs.toList.drop off).take (P.cellsOf t)) = [v] → xs[off]? = some v := fun v hv => by
      have h0 : ((xs.toList.drop off).take (P.cellsOf t))[0]? = some v := by rw [hv]; rfl
      rw [List.getElem?_take] at h0
      split at h0
      · rw [List.getElem?_drop] at h0
        simpa using h0
      · cases h0
    have many : aggB P t true = true → (∃ i, P.info? t = some i) → ∃ v, (part t xs off).run P w = .ok v w ∧ Vof P t ((xs.toList.drop off).take (P.cellsOf t)) v := by
      rintro ha ⟨i, hi⟩
      refine ⟨.agg ((xs.toList.drop off).take (P.cellsOf t)).toArray, ?_, .inl ⟨ha, rfl⟩⟩
      have he : xs.extract off (off + P.cellsOf t) = ((xs.toList.drop off).take (P.cellsOf t)).toArray := by
        apply Array.ext'
        rw [Array.toList_extract]
        simp [List.extract]
      simp [part, run_isAgg ha, run_sizeOf (szB_cells hi), he]
    rcases shB_inv hs with ⟨b, hu, hb⟩ | ⟨q, n, hu, hb⟩ | ⟨b, hu, hb⟩ | ⟨n, e, hu, _⟩ | ⟨fs, hu, _⟩
    · exact ⟨_, by simp [part, isAgg, run_underlying hu, one _ hb], .inr ⟨by simp [aggB, hu], hb⟩⟩
    · exact ⟨_, by simp [part, isAgg, run_underlying hu, one _ hb], .inr ⟨by simp [aggB, hu], hb⟩⟩
    · exact ⟨_, by simp [part, isAgg, run_underlying hu, one _ hb], .inr ⟨by simp [aggB, hu], hb⟩⟩
    · exact many (by simp [aggB, hu]) (Go.info_of_underlying hu)
    · exact many (by simp [aggB, hu]) (Go.info_of_underlying hu)

def EqC (P : Program) (d : Nat) (t : TypeId) (m : Nat) : Prop := ∀ (w : World) (v v' : Value) (cs cs' : List Value), shB P m t cs = true → shB P m t cs' = true → Vof P t cs v → Vof P t cs' v' →
  ∃ r : Bool, (Op.equalIn d t v v').run P w = .ok r w ∧ (r = true ↔ cs = cs')
theorem run_step {d m off : Nat} {t : TypeId} (IH : EqC P d t m) {xs ys : Array Value} (hx : shB P m t ((xs.toList.drop off).take (P.cellsOf t)) = true) (hy : shB P m t ((ys.toList.drop off).take (P.cellsOf t)) = true) :
    ∃ a b r, (part t xs off).run P w = .ok a w ∧ (part t ys off).run P w = .ok b w ∧ (Op.equalIn d t a b).run P w = .ok r w ∧ (r = true ↔ (xs.toList.drop off).take (P.cellsOf t) = (ys.toList.drop off).take (P.cellsOf t)) := by
  obtain ⟨a, p1, f1⟩ := run_part (w := w) hx
  obtain ⟨b, p2, f2⟩ := run_part (w := w) hy
  obtain ⟨r, hr, hi⟩ := IH w a b _ _ hx hy f1 f2
  exact ⟨a, b, r, p1, p2, hr, hi⟩
theorem drop_split {α : Type} (l : List α) (o n : Nat) : l.drop o = (l.drop o).take n ++ l.drop (o + n) := by
  rw [← List.drop_drop, List.take_append_drop]
theorem drop_iff {xs ys : List Value} (o n : Nat) : xs.drop o = ys.drop o ↔ (xs.drop o).take n = (ys.drop o).take n ∧ xs.drop (o + n) = ys.drop (o + n) := by
  constructor
  · intro h; rw [h]; exact ⟨rfl, by rw [← List.drop_drop, ← List.drop_drop, h]⟩
  · rintro ⟨h1, h2⟩; rw [drop_split xs o n, drop_split ys o n, h1, h2]
/-- The fields, one behind another. -/
theorem run_eqFieldsC (d m : Nat) (xs ys : Array Value) (hl : xs.toList.length = ys.toList.length) : ∀ (fs : List Field) (o : Nat), (∀ f ∈ fs, f.name ≠ "_" ∧ EqC P d f.type m ∧ shB P m f.type ((xs.toList.drop f.offset).take (P.cellsOf f.type)) = true ∧ shB P m f.type ((ys.toList.drop f.offset).take (P.cellsOf f.type)) = true) →
    tileB P xs.toList.length o fs = true → ∃ r : Bool, (Op.eqFields d xs ys fs).run P w = .ok r w ∧ (r = true ↔ xs.toList.drop o = ys.toList.drop o)
  | [], o, _, ht => by
    have : o = xs.toList.length := Nat.eq_of_beq_eq_true ht
    refine ⟨true, by simp [Op.eqFields], ?_⟩
    rw [List.drop_eq_nil_of_le (by omega), List.drop_eq_nil_of_le (by omega)]
    simp
  | f :: fs, o, hall, ht => by
    obtain ⟨hn, hp, h1, h2⟩ := hall f (by simp)
    simp only [tileB, Bool.and_eq_true] at ht
    have ho : f.offset = o := Nat.eq_of_beq_eq_true ht.1
    obtain ⟨a, b, r, p1, p2, p3, hiff⟩ := run_step (w := w) hp h1 h2
    obtain ⟨r', hr', hiff'⟩ := run_eqFieldsC d m xs ys hl fs _ (fun g hg => hall g (by simp [hg])) ht.2
    simp only [Op.eqFields, hn, ne_eq, not_false_eq_true, if_true, Sem.run_bind, p1, p2, p3, Result.andThen_ok]
    rw [drop_iff o (P.cellsOf f.type)]
    rw [ho] at hiff
    cases r
    · exact ⟨false, by simp, by simp; intro e; exact absurd (hiff.2 e) (by simp)⟩
    · refine ⟨r', by simpa using hr', ?_⟩
      rw [hiff']
      simp [hiff.1 rfl]
theorem run_eqItemsC (d m : Nat) {e : TypeId} (IH : EqC P d e m) (xs ys : Array Value) (n : Nat) (hlx : xs.toList.length = n * P.cellsOf e) (hly : ys.toList.length = n * P.cellsOf e)
    (hx : ∀ i, i < n → shB P m e ((xs.toList.drop (i * P.cellsOf e)).take (P.cellsOf e)) = true) (hy : ∀ i, i < n → shB P m e ((ys.toList.drop (i * P.cellsOf e)).take (P.cellsOf e)) = true) : ∀ (k i : Nat), i + k = n →
    ∃ r : Bool, (Op.eqItems d e (P.cellsOf e) xs ys (List.range' i k)).run P w = .ok r w ∧ (r = true ↔ xs.toList.drop (i * P.cellsOf e) = ys.toList.drop (i * P.cellsOf e))
  | 0, i, hi => by
    have : i = n := by omega
    subst this
    refine ⟨true, by simp [Op.eqItems], ?_⟩
    rw [List.drop_eq_nil_of_le (by omega), List.drop_eq_nil_of_le (by omega)]
    simp
  | k + 1, i, hi => by
    obtain ⟨a, b, r, p1, p2, p3, hiff⟩ := run_step (w := w) IH (hx i (by omega)) (hy i (by omega))
    obtain ⟨r', hr', hiff'⟩ := run_eqItemsC d m IH xs ys n hlx hly hx hy k (i + 1) (by omega)
    rw [List.range'_succ]
    simp only [Op.eqItems, Sem.run_bind, p1, p2, p3, Result.andThen_ok]
    rw [drop_iff (i * P.cellsOf e) (P.cellsOf e), show i * P.cellsOf e + P.cellsOf e = (i + 1) * P.cellsOf e by rw [Nat.succ_mul]]
    cases r
    · exact ⟨false, by simp, by simp; intro e; exact absurd (hiff.2 e) (by simp)⟩
    · refine ⟨r', by simpa using hr', ?_⟩
      rw [hiff']
      simp [hiff.1 rfl]
theorem eqDeep (d : Nat) : ∀ (m : Nat) (t : TypeId), EqC P (d + m) t m
  | 0, t => fun w v v' cs cs' h => by simp [shB] at h
  | m + 1, t => fun w v v' cs cs' h h' hv hv' => by
    rcases shB_inv h with ⟨b, hu, rfl⟩ | ⟨q, n, hu, rfl⟩ | ⟨b, hu, rfl⟩ | ⟨n, e, hu, hl, ⟨ie, hie⟩, hall⟩ | ⟨fs, hu, hn, hst, ht, hall⟩
    · rcases shB_inv h' with ⟨b', hu', rfl⟩ | ⟨q, n, hu', _⟩ | ⟨b, hu', _⟩ | ⟨n, e, hu', _⟩ | ⟨fs, hu', _⟩ <;> simp only [hu, Option.some.injEq, reduceCtorEq] at hu'
      have e1 : v = .bool b := by rcases hv with ⟨ha, _⟩ | ⟨_, he⟩; · simp [aggB, hu] at ha
                                  · simpa using he.symm
      have e2 : v' = .bool b' := by rcases hv' with ⟨ha, _⟩ | ⟨_, he⟩; · simp [aggB, hu] at ha
                                    · simpa using he.symm
      subst e1; subst e2
      exact ⟨b == b', run_equalIn_bool' _ _ _ _ _ hu, by simp⟩
    · rcases shB_inv h' with ⟨b', hu', _⟩ | ⟨q', n', hu', rfl⟩ | ⟨b, hu', _⟩ | ⟨n, e, hu', _⟩ | ⟨fs, hu', _⟩ <;> simp only [hu, Option.some.injEq, reduceCtorEq] at hu'
      have e1 : v = .int q n := by rcases hv with ⟨ha, _⟩ | ⟨_, he⟩; · simp [aggB, hu] at ha
                                   · simpa using he.symm
      have e2 : v' = .int q' n' := by rcases hv' with ⟨ha, _⟩ | ⟨_, he⟩; · simp [aggB, hu] at ha
                                      · simpa using he.symm
      have e3 : q = q' := by injection hu'
      subst e3
      subst e1; subst e2
      exact ⟨n == n', run_equalIn_int _ _ _ _ _ _ _ hu, by simp⟩
    · rcases shB_inv h' with ⟨b', hu', _⟩ | ⟨q', n', hu', _⟩ | ⟨b', hu', rfl⟩ | ⟨n, e, hu', _⟩ | ⟨fs, hu', _⟩ <;> simp only [hu, Option.some.injEq, reduceCtorEq] at hu'
      have e1 : v = .string b := by rcases hv with ⟨ha, _⟩ | ⟨_, he⟩; · simp [aggB, hu] at ha
                                    · simpa using he.symm
      have e2 : v' = .string b' := by rcases hv' with ⟨ha, _⟩ | ⟨_, he⟩; · simp [aggB, hu] at ha
                                      · simpa using he.symm
      subst e1; subst e2
      refine ⟨b.toList == b'.toList, run_equalIn_string _ _ _ _ _ hu, ?_⟩
      rw [beq_iff_eq, ByteArray.toList_eq, ByteArray.toList_eq]
      constructor
      · intro e; rw [show b = b' from ByteArray.ext (Array.ext' e)]
      · intro e
        have : b = b' := by simpa using e
        rw [this]
    · rcases shB_inv h' with ⟨b', hu', _⟩ | ⟨q', n', hu', _⟩ | ⟨b', hu', _⟩ | ⟨n', e', hu', hl', _, hall'⟩ | ⟨fs, hu', _⟩ <;> simp only [hu, Option.some.injEq, reduceCtorEq] at hu'
      injection hu' with e1 e2
      subst e1; subst e2
      have e1 : v = .agg cs.toArray := by rcases hv with ⟨_, he⟩ | ⟨ha, _⟩; · exact he
                                          · simp [aggB, hu] at ha
      have e2 : v' = .agg cs'.toArray := by rcases hv' with ⟨_, he⟩ | ⟨ha, _⟩; · exact he
                                            · simp [aggB, hu] at ha
      subst e1; subst e2
      obtain ⟨r, hr, hi⟩ := run_eqItemsC (w := w) (d + m) m (eqDeep d m e) cs.toArray cs'.toArray n hl hl' hall hall' n 0 (by omega)
      refine ⟨r, ?_, by simpa using hi⟩
      rw [show d + (m + 1) = (d + m) + 1 from rfl, run_equalIn_array w (d + m) _ _ hu hie, List.range_eq_range']
      exact hr
    · rcases shB_inv h' with ⟨b', hu', _⟩ | ⟨q', n', hu', _⟩ | ⟨b', hu', _⟩ | ⟨n', e', hu', _⟩ | ⟨fs', hu', _, _, ht', hall'⟩ <;> simp only [hu, Option.some.injEq, reduceCtorEq] at hu'
      injection hu' with e1
      subst e1
      have e1 : v = .agg cs.toArray := by rcases hv with ⟨_, he⟩ | ⟨ha, _⟩; · exact he
                                          · simp [aggB, hu] at ha
      have e2 : v' = .agg cs'.toArray := by rcases hv' with ⟨_, he⟩ | ⟨ha, _⟩; · exact he
                                            · simp [aggB, hu] at ha
      subst e1; subst e2
      have tl : ∀ (l : List Field) (o a b : Nat), tileB P a o l = true → tileB P b o l = true → a = b := by
        intro l
        induction l with
        | nil => intro o a b h1 h2; have := Nat.eq_of_beq_eq_true h1; have := Nat.eq_of_beq_eq_true h2; omega
        | cons f l ih => intro o a b h1 h2; simp only [tileB, Bool.and_eq_true] at h1 h2; exact ih _ a b h1.2 h2.2
      have hlen := tl _ _ _ _ ht ht'
      obtain ⟨r, hr, hi⟩ := run_eqFieldsC (w := w) (d + m) m cs.toArray cs'.toArray hlen fs.toList 0 (fun f hf => ⟨hn f hf, eqDeep d m f.type, hall f hf, hall' f hf⟩) ht
      refine ⟨r, ?_, by simpa using hi⟩
      have hf : P.fieldsOf t = fs := by simp [Program.fieldsOf, hu]
      rw [show d + (m + 1) = (d + m) + 1 from rfl, run_equalIn_struct w (d + m) t _ _ (by rw [hf]; exact hu) hst, hf]
      exact hr
end
section
variable {P : Program} {Q : Exit → Act → World → Prop} {n : Nat} {C : World → Prop} {fs : Fr} {t : TypeId} {ops : Array Oper} {rest : List Oper} {d : Nat} {pos : String} {af : Array Edge} {x y : Operand} {tx ty : TypeId}
variable {α : Type}
theorem Y.eqlA {row : α → List Value} {a b : α} [DecidableEq α] (hg : P.eqGuardType P.depth tx = false) (ha : aggB P tx true = true) (h1 : shB P 5 tx (row a) = true) (h2 : shB P 5 tx (row b) = true) (inj : row a = row b → a = b) (hx : val fs x = some (.agg (row a).toArray)) (hy : val fs y = some (.agg (row b).toArray)) :
    Y P (.binOp .eql tx x y ty) t n fs C (.bool (decide (a = b))) :=
  Y.of fun d pos af g s w hs hw => by
    obtain ⟨r, hr, hi⟩ := eqDeep 9995 5 tx w _ _ _ _ h1 h2 (.inl ⟨ha, rfl⟩) (.inl ⟨ha, rfl⟩)
    rw [show 9995 + 5 = 10000 from rfl] at hr
    have e : decide (a = b) = r := by
      cases r with
      | true => exact decide_eq_true (inj (hi.1 rfl))
      | false => exact decide_eq_false fun h => by have := hi.2 (by rw [h]); cases this
    simp only [execOp, hs.eval hx, hs.eval hy]
    rw [e]
    simp [run_eqGuard_agg _ _ _ _ _ _ _ hg, run_eql_struct, hr]
theorem Y.neqA {row : α → List Value} {a b : α} [DecidableEq α] (hg : P.eqGuardType P.depth tx = false) (ha : aggB P tx true = true) (h1 : shB P 5 tx (row a) = true) (h2 : shB P 5 tx (row b) = true) (inj : row a = row b → a = b) (hx : val fs x = some (.agg (row a).toArray)) (hy : val fs y = some (.agg (row b).toArray)) :
    Y P (.binOp .neq tx x y ty) t n fs C (.bool (decide (a ≠ b))) :=
  Y.of fun d pos af g s w hs hw => by
    obtain ⟨r, hr, hi⟩ := eqDeep 9995 5 tx w _ _ _ _ h1 h2 (.inl ⟨ha, rfl⟩) (.inl ⟨ha, rfl⟩)
    rw [show 9995 + 5 = 10000 from rfl] at hr
    have e : decide (a ≠ b) = !r := by
      cases r with
      | true => simp [inj (hi.1 rfl)]
      | false => exact decide_eq_true fun h => by have := hi.2 (by rw [h]); cases this
    simp only [execOp, hs.eval hx, hs.eval hy]
    rw [e]
    simp [run_eqGuard_agg _ _ _ _ _ _ _ hg, run_neq_struct, hr]
theorem len_flat {row : α → List Value} {k : Nat} (hr : ∀ z, (row z).length = k) : ∀ l : List α, (l.map row).flatten.length = l.length * k
  | [] => by simp
  | z :: l => by simp only [List.map_cons, List.flatten_cons, List.length_append, hr, len_flat hr l, List.length_cons, Nat.succ_mul]; omega
theorem piece_flat {row : α → List Value} {k : Nat} (hr : ∀ z, (row z).length = k) : ∀ (l : List α) (i : Nat) (h : i < l.length), ((l.map row).flatten.drop (i * k)).take k = row l[i]
  | [], i, h => by simp at h
  | z :: l, 0, _ => by simp only [Nat.zero_mul, List.drop_zero, List.map_cons, List.flatten_cons, List.getElem_cons_zero]; rw [← hr z]; exact List.take_left
  | z :: l, i + 1, h => by
    have e : (row z ++ (l.map row).flatten).drop ((i + 1) * k) = (l.map row).flatten.drop (i * k) := by
      rw [Nat.succ_mul, Nat.add_comm, ← List.drop_drop, ← hr z, List.drop_left]
    simp only [List.map_cons, List.flatten_cons, List.getElem_cons_succ]
    rw [e]
    exact piece_flat hr l i (by simpa using h)
theorem shB_array {m e k : Nat} {row : α → List Value} {l : List α} (hu : P.underlying t = some (.array k e)) (hi : (P.info? e).isSome = true) (hr : ∀ z, (row z).length = P.cellsOf e) (hs : ∀ z, shB P m e (row z) = true) (hl : l.length = k) : shB P (m + 1) t (l.map row).flatten = true := by
  have hlen := len_flat hr l
  have hb : (Nat.beq (l.map row).flatten.length (k * P.cellsOf e) && (P.info? e).isSome && (List.range k).all fun i => shB P m e (((l.map row).flatten.drop (i * P.cellsOf e)).take (P.cellsOf e))) = true := by
    simp only [Bool.and_eq_true, List.all_eq_true, List.mem_range]
    refine ⟨⟨by rw [hlen, hl]; exact Nat.beq_refl _, hi⟩, fun i hik => ?_⟩
    rw [piece_flat hr l i (by omega)]
    exact hs _
  unfold shB
  rw [hu]
  generalize (l.map row).flatten = cs at *
  match cs, hlen with
  | [], h => simp at h; rw [hl] at h; omega
  | [_], h => simp at h; rw [hl] at h; omega
  | _ :: _ :: _, _ => exact hb
/-- A slice held against nil. -/
theorem Y.eqlNil {e : TypeId} {p : Option Addr} {l c : Nat} (hu : P.underlying tx = some (.slice e)) (hx : val fs x = some (.slice p l c)) (hy : val fs y = some (.slice none 0 0)) : Y P (.binOp .eql tx x y ty) t n fs C (.bool p.isNone) :=
  Y.of fun d pos af g s w hs hw => by
    have h := run_equal_slice_nil (P := P) w tx e p l c hu
    have hg : (eqGuard .eql tx x y (.slice p l c) (.slice none 0 0)).run P w = .ok () w := by simp [eqGuard]
    have hb : (binOp .eql tx (.slice p l c) (.slice none 0 0)).run P w = .ok (.bool p.isNone) w := by
      simp only [binOp]; simp [h]
    simp only [execOp, hs.eval hx, hs.eval hy]
    simp [hg, hb]
theorem Y.max4 {k : IntKind} {z v : Operand} {i1 i2 i3 i4 : Int} {ts : Array TypeId} (h1 : val fs x = some (.int k i1)) (h2 : val fs y = some (.int k i2)) (h3 : val fs z = some (.int k i3)) (h4 : val fs v = some (.int k i4)) :
    Y P (.call ⟨.builtin .max, #[x, y, z, v], ts⟩) t n fs C (.int k (max (max (max i1 i2) i3) i4)) :=
  Y.of fun d pos af g s w hs _ => by
    have e : ∀ a b : Int, (if b > a then b else a) = max a b := fun a b => by omega
    simp only [execOp, resolve, List.map_toArray, List.map_cons, List.map_nil, hs.eval h1, hs.eval h2, hs.eval h3, hs.eval h4]
    simp [invoke, builtin, Builtin.max_, Builtin.max2, e]
end
end Go.S
