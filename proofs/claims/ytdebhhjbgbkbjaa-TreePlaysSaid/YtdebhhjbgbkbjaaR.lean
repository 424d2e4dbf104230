/-
  What an argument that can be read holds, cell by cell; and a law's row out of its walk.
  Conditions: none.
-/
import Derived.Test.YtdebhhjbgbkbjaaC
import Derived.ProofKit
import Derived.OpenShut
import Derived.Deep.Slices
namespace Go.S
open Go.ChangeShapes Go.WideShapes Go.ChangeAt Go.RowKit

/-- These cells can be read at this type. -/
def Rd (P : Program) (w : World) (t : TypeId) (cs : List Value) : Prop :=
  ∃ (H : Type) (enc : TypeId × Value → H) (fuel : Nat) (held : Bool) (base : Nat) (x : DataW H × List MemPlace), DataW.trod enc P w base (fun _ => true) held fuel t cs = some x

/-! Lists of a known length. -/
theorem len3 {l : List Value} (h : l.length = 3) : ∃ a0 a1 a2, l = [a0, a1, a2] := by
  match l, h with
  | [a0, a1, a2], _ => exact ⟨_, _, _, rfl⟩
section
variable {P : Program} {w : World} {t : TypeId} {cs : List Value}
theorem Rd.of {H : Type} {enc : TypeId × Value → H} {v : Value} {d : DataW H} {ps : List MemPlace} (h : DataW.Trod enc P w 0 (fun _ => true) true t v d ps) : Rd P w t v.cells.toList := by
  obtain ⟨fuel, hf⟩ := h
  exact ⟨H, enc, fuel, true, 0, _, hf⟩
theorem Rd.int {k : IntKind} (ht : P.underlying t = some (.int k)) (h : Rd P w t cs) : ∃ n, cs = [.int k n] ∧ (Lit.int k n).wf = true := by
  obtain ⟨H, enc, fuel, held, base, x, h⟩ := h
  obtain ⟨n, h1, _, h2⟩ := DataW.trod_int ht h
  exact ⟨n, h1, h2⟩
theorem Rd.str (ht : P.underlying t = some .string) (h : Rd P w t cs) : ∃ l, cs = [st l] ∧ l.length ≤ maxLen := by
  obtain ⟨H, enc, fuel, held, base, x, h⟩ := h
  obtain ⟨s, h1, _, h2⟩ := DataW.trod_string ht h
  exact ⟨s.data.toList, by rw [h1]; rfl, by rw [Array.length_toList]; exact h2⟩
theorem Rd.slice {e : TypeId} {k : Nat} (ht : P.underlying t = some (.slice e)) (hk : P.cellsOf e = k) (h : Rd P w t cs) : ∃ v rows, cs = [v] ∧ At w v k rows ∧ ∀ r ∈ rows, Rd P w e r := by
  subst hk
  obtain ⟨H, enc, fuel, held, base, x, h⟩ := h
  rcases Go.Deep.open_slice ht h with ⟨rfl, _⟩ | ⟨a, len, cap, m, n, D, Pl, rfl, hb, hl, hm, hmm, _, hi⟩
  · exact ⟨_, [], rfl, At.nil w _, by simp⟩
  · have hm' : m = cap := by simpa using hmm
    subst hm'
    have hrow : ∀ i : Fin len, ∃ cs', w.cells? base (a.add (i.val * P.cellsOf e)) (P.cellsOf e) = some cs' ∧ Rd P w e cs' := fun i => by
      obtain ⟨cs', h1, h2⟩ := hi i.val (by omega)
      exact ⟨cs', h1, H, enc, n, held, base, _, h2⟩
    let rows := List.ofFn fun i : Fin len => Classical.choose (hrow i)
    have hlen : rows.length = len := List.length_ofFn
    have hget : ∀ (i : Nat) (r : List Value), rows[i]? = some r → w.cells? base (a.add (i * P.cellsOf e)) (P.cellsOf e) = some r ∧ Rd P w e r := by
      intro i r hr
      obtain ⟨hlt, he⟩ := List.getElem?_eq_some_iff.1 hr
      have hil : i < len := by omega
      have hs := Classical.choose_spec (hrow ⟨i, hil⟩)
      have : r = Classical.choose (hrow ⟨i, hil⟩) := by rw [← he]; simp [rows]
      rw [this]; exact hs
    refine ⟨_, rows, rfl, ⟨.inr ⟨a, m, by rw [hlen], by omega, hm⟩, fun r hr => ?_, fun i r j x hr hx => ?_⟩, fun r hr => ?_⟩
    · obtain ⟨i, hi'⟩ := List.getElem?_of_mem hr
      exact (World.cells?_some (hget i r hi').1).2.1
    · obtain ⟨_, h2, h3⟩ := World.cells?_some (hget i r hr).1
      have hj := (List.getElem?_eq_some_iff.1 hx).1
      rw [← add_add]
      exact (h3 j (by omega)).trans hx
    · obtain ⟨i, hi'⟩ := List.getElem?_of_mem hr
      exact (hget i r hi').2
theorem Rd.struct {fs : Array Field} (ht : P.underlying t = some (.struct fs)) (h : Rd P w t cs) : cs.length = P.cellsOf t ∧ ∀ (i : Nat) (f : Field), fs[i]? = some f → Rd P w f.type ((cs.drop f.offset).take (P.cellsOf f.type)) := by
  obtain ⟨H, enc, fuel, held, base, x, h⟩ := h
  obtain ⟨xs, n, _, _, hl, hx, hf⟩ := DataW.trod_struct ht h
  refine ⟨hl, fun i f hi => ?_⟩
  have := hf i f hi
  have hil : i < xs.length := by rw [hx]; exact (Array.getElem?_eq_some_iff.1 hi).1
  rw [List.getElem?_eq_getElem hil] at this
  exact ⟨H, enc, n, held, base, _, this⟩
/-- One field. -/
theorem Rd.fld {fs : Array Field} (ht : P.underlying t = some (.struct fs)) (h : Rd P w t cs) (i : Nat) (u : TypeId) (o c : Nat) (hi : (fs[i]?).map (fun f => (f.type, f.offset)) = some (u, o)) (hc : P.cellsOf u = c) : Rd P w u ((cs.drop o).take c) := by
  cases hf : fs[i]? with
  | none => rw [hf] at hi; cases hi
  | some f =>
    rw [hf] at hi
    simp only [Option.map_some, Option.some.injEq, Prod.mk.injEq] at hi
    obtain ⟨rfl, rfl⟩ := hi
    subst hc
    exact (h.struct ht).2 i f hf
/-- Rows that each are some thing's. -/
theorem exists_map {α : Type} {f : α → List Value} {Q : α → Prop} : ∀ {rows : List (List Value)}, (∀ r ∈ rows, ∃ x, r = f x ∧ Q x) → ∃ l : List α, rows = l.map f ∧ ∀ x ∈ l, Q x
  | [], _ => ⟨[], rfl, by simp⟩
  | r :: rows, h => by
    obtain ⟨x, hx, hq⟩ := h r (by simp)
    obtain ⟨l, hl, hql⟩ := exists_map (fun r hr => h r (by simp [hr]) : ∀ r ∈ rows, ∃ x, r = f x ∧ Q x)
    refine ⟨x :: l, by rw [hx, hl]; rfl, fun y hy => ?_⟩
    rcases List.mem_cons.1 hy with rfl | hy
    · exact hq
    · exact hql y hy
theorem Rd.ints {e : TypeId} (ht : P.underlying t = some (.slice e)) (he : P.underlying e = some (.int .i64)) (hk : P.cellsOf e = 1) (h : Rd P w t cs) : ∃ v l, cs = [v] ∧ At w v 1 (ints l) ∧ ∀ x ∈ l, (Lit.int .i64 x).wf = true := by
  obtain ⟨v, rows, h1, h2, h3⟩ := h.slice ht hk
  obtain ⟨l, rfl, hq⟩ := exists_map (f := I) (Q := fun x => (Lit.int .i64 x).wf = true) (fun r hr => by
    obtain ⟨n, hn, hw⟩ := (h3 r hr).int he
    exact ⟨n, hn, hw⟩)
  exact ⟨v, l, h1, h2, hq⟩
end

/-! ### The row's end -/
section
variable {H : Type} {enc : TypeId × Value → H} {P : Program}
theorem trodAll_below (hl : laidOutB P = true) {W W' : World} (hb : Below W.heap.size W W') : ∀ (ts : List TypeId) (vs : List Value) (ds : List (DataW H)) (ps : List MemPlace), (∀ t ∈ ts, P.readableRec t = true ∧ t < P.types.size) →
    DataW.TrodAll enc P W 0 (fun _ => true) true ts vs ds ps → (∀ p ∈ ps, p.block < W.heap.size) → ∀ sp : Nat → Bool, (∀ p ∈ ps, sp p.block = true) → DataW.TrodAll enc P W' 0 sp true ts vs ds ps
  | [], vs, ds, ps, _, h, _, _, _ => by
    cases vs <;> cases ds <;> simp only [DataW.TrodAll] at h ⊢
    exact h
  | t :: ts, vs, ds, ps, ht, h, hlt, sp, hsp => by
    obtain ⟨v, vs', d, ds', p, q, rfl, rfl, rfl, h1, h2⟩ := trodAll_cons h
    obtain ⟨hr, hs⟩ := ht t (by simp)
    refine ⟨p, q, WideElems.Trod_stays hl hr hs h1 (fun x hx => hb.same (hlt x (by simp [hx]))) (fun x hx => hsp x (by simp [hx])), ?_, rfl⟩
    exact trodAll_below hl hb ts vs' ds' q (fun t' ht' => ht t' (by simp [ht'])) h2 (fun x hx => hlt x (by simp [hx])) sp (fun x hx => hsp x (by simp [hx]))

/-- A law's post: it answers true, and nothing that was there has turned. -/
theorem law_post {f : Func} {s : ChangeSpec} {tb : TypeId} {W W' : World} {args : Array Value} {ds gs : List (DataW H)} {before : List MemPlace} (hl : laidOutB P = true) (hr : f.params.toList.all (fun t => P.readableRec t && Nat.blt t P.types.size) = true)
    (hres : f.resultTypes = #[tb]) (htb : P.underlying tb = some .bool) (hvars : s.vars = []) (hfn : (s.fn H (ds ++ [])).results = [.lit (.bool true)] ∧ (s.fn H (ds ++ [])).args = ds ∧ (s.fn H (ds ++ [])).vars = [])
    (hW : DataW.Whole enc P f.params.toList s.vars false W args.toList ds gs before) (hb : Below W.heap.size W W') : s.post enc P f false true false false W args (.bool true) W' := by
  have hr : ∀ t ∈ f.params.toList, P.readableRec t = true ∧ t < P.types.size := fun t ht => by
    have := List.all_eq_true.1 hr t ht
    rw [Bool.and_eq_true] at this
    exact ⟨this.1, by simpa [Nat.blt_eq] using this.2⟩
  have hW0 := hW
  have hlt : ∀ p ∈ before, p.block < W.heap.size := fun p hp => hW0.lt p hp
  obtain ⟨p, q, hA, hV, rfl, hz, hn⟩ := hW
  rw [hvars] at hV
  obtain ⟨rfl, rfl⟩ := trodVars_none hV
  simp only [List.append_nil] at hlt hW0 hz
  obtain ⟨hf1, hf2, hf3⟩ := hfn
  have hold : ∀ x ∈ p, (fun b => decide (b < W.heap.size)) x.block = true := fun x hx => by simpa using hlt x hx
  have hargs : ∀ sp : Nat → Bool, (∀ x ∈ p, sp x.block = true) → DataW.TrodAll enc P W' 0 sp true f.params.toList args.toList (s.fn H (ds ++ [])).args p := fun sp hsp => by
    rw [hf2]; exact trodAll_below hl hb _ _ _ _ hr hA hlt sp hsp
  have hvs : ∀ sp : Nat → Bool, DataW.TrodVars enc P W' sp s.vars (s.fn H (ds ++ [])).vars [] := fun sp => by rw [hvars, hf3]; rfl
  have hresult : ∀ (b : Nat) (sp : Nat → Bool) (hd : Bool), DataW.TrodAll enc P W' b sp hd f.resultTypes.toList ((Value.bool true).resultList f.resultTypes.size) (s.fn H (ds ++ [])).results [] := fun b sp hd => by
    rw [hres, hf1]; exact trodAll_cons_mk (shut_bool htb _) trodAll_mk0
  refine ⟨ds, [], p, [], p, [], hW0, hresult _ _ _, hargs _ hold, hvs _, World.keptBut_mono (fun x hx => ⟨hx, by simpa using hx⟩) (hb.frame (· ∈ p)), fun _ => ?_⟩
  refine ⟨ok_one hres rfl (okWide_bool_mk htb _), _, _, ([] ++ p) ++ [], ⟨[] ++ p, [], trodAll_append (hargs _ (fun _ _ => rfl)) (hresult _ _ _), hvs _, rfl, ?_, ?_⟩, ?_⟩
  · intro b off hp
    have hin : MemPlace.cell b off ∈ p := by simpa using hp
    rw [hb.frozen (hlt _ hin)]
    exact hz b off (by simpa using hin)
  · intro ha; cases ha
  · intro x hx _
    simpa using hx
end
end Go.S
