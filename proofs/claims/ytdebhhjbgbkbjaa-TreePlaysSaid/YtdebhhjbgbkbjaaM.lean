/-
  What is known of memory: the things that a call owns; slices that can be read.
  Conditions: none.
-/
import Derived.Test.YtdebhhjbgbkbjaaY
import Derived.Deep.Slices
import Derived.MapKept
namespace Go.S

/-! ### Slices that can be read -/
def adr : Value → Addr
  | .slice (some a) _ _ => a
  | _ => ⟨0, 0, none⟩
def el (v : Value) (off : Nat) : Value := .pointer (some ((adr v).add off))

structure At (w : World) (v : Value) (k : Nat) (rows : List (List Value)) : Prop where
  shape : (v = .slice none 0 0 ∧ rows = []) ∨ ∃ a cap, v = .slice (some a) rows.length cap ∧ rows.length ≤ cap ∧ cap ≤ maxLen
  len : ∀ r ∈ rows, r.length = k
  cell : ∀ i r j x, rows[i]? = some r → r[j]? = some x → w.cell? ((adr v).add (i * k + j)) = some x


/-- A slice that is owned, with what it holds. -/
structure Sd where
  v : Value
  e : TypeId
  k : Nat
  rows : List (List Value)
def Sd.foot (d : Sd) : List Nat := d.v.ownBlock.toList
def slHolds (w : World) (v : Value) (e : TypeId) (k : Nat) (rows : List (List Value)) : Prop := (∀ r ∈ rows, r.length = k) ∧ w.ownsRow 0 e k v rows.length rows.flatten

def kvp (p : Int × Value) : Value × Value := (.int .i64 p.1, p.2)
/-- A block of cells that is owned, with what it holds. -/
structure Ob where
  b : Nat
  c : List Value
  e : TypeId
/-- A thing told by its blocks alone. -/
structure Res where
  foot : List Nat
  holds : World → Prop
  congr : ∀ {w w' : World}, holds w → (∀ b ∈ foot, w'.heap[b]? = w.heap[b]?) → holds w'
  lt : ∀ {w : World}, holds w → ∀ b ∈ foot, b < w.heap.size
/-- What is owned: a block of cells; a slice that may grow; a slice that can be read alone; a map with keys of ints; such a map with an iterator over it, and what is still to come; many slices; many blocks. -/
inductive As where
  | obj (b : Nat) (c : List Value) (e : TypeId)
  | sl (v : Value) (e : TypeId) (k : Nat) (rows : List (List Value))
  | rd (v : Value) (k : Nat) (rows : List (List Value))
  | mp (b : Nat) (l : List (Int × Value))
  | mi (b r : Nat) (l left : List (Int × Value)) (cur : Option (Int × Value))
  | ss (l : List Sd)
  | os (l : List Ob)
  | tl (v : Value) (e : TypeId) (k : Nat) (rows : List (List Value))
  | mq (b : Nat) (l : List (Value × Value))
  | mqi (b r : Nat) (l left : List (Value × Value)) (cur : Option (Value × Value))
  | any (z : Res)

/-- A slice that begins within its block. -/
def tlHolds (w : World) (v : Value) (e : TypeId) (k : Nat) (rows : List (List Value)) : Prop := (∀ r ∈ rows, r.length = k) ∧ ((v = .slice none 0 0 ∧ rows = []) ∨
  ∃ g off cap cur, v = .slice (some ⟨g, off, none⟩) rows.length cap ∧ w.heap[g]? = some (.cells cur e (0, 0)) ∧ rows.length ≤ cap ∧ cap ≤ maxLen ∧ off + cap * k ≤ cur.size ∧ (cur.toList.drop off).take (rows.length * k) = rows.flatten)
def As.foot : As → List Nat
  | .obj b _ _ => [b]
  | .sl v _ _ _ => v.ownBlock.toList
  | .rd v _ _ => v.ownBlock.toList
  | .mp b _ => [b]
  | .mi b r _ _ _ => [b, r]
  | .ss l => l.flatMap Sd.foot
  | .os l => l.map Ob.b
  | .tl v _ _ _ => v.ownBlock.toList
  | .mq b _ => [b]
  | .mqi b r _ _ _ => [b, r]
  | .any z => z.foot

def As.holds (w : World) : As → Prop
  | .obj b c e => w.heap[b]? = some (.cells c.toArray e (0, 0))
  | .sl v e k rows => (∀ r ∈ rows, r.length = k) ∧ w.ownsRow 0 e k v rows.length rows.flatten
  | .rd v k rows => At w v k rows ∧ (v = .slice none 0 0 ∨ ∃ g n c, v = .slice (some ⟨g, 0, none⟩) n c ∧ g < w.heap.size)
  | .mp b l => ∃ es clock, w.heap[b]? = some (.map es clock) ∧ MapKept.Stamped es clock ∧ es.toList.map (fun e => (e.key, e.val)) = l.map kvp
  | .mi b r l left cur => ∃ es clock since last seen, w.heap[b]? = some (.map es clock) ∧ MapKept.Stamped es clock ∧ es.toList.map (fun e => (e.key, e.val)) = l.map kvp ∧ w.heap[r]? = some (.mapIter (some b) since seen last) ∧
    (∀ e ∈ es.toList, e.born < since) ∧ since ≤ last ∧ since ≤ clock ∧ (es.toList.filter fun e => !seen.contains e.born).map (fun e => (e.key, e.val)) = left.map kvp ∧ ∀ p, cur = some p → last = clock ∧ ∃ e ∈ es.toList, (e.key, e.val) = kvp p ∧ seen.back? = some e.born
  | .ss l => ∀ d ∈ l, slHolds w d.v d.e d.k d.rows
  | .os l => ∀ o ∈ l, w.heap[o.b]? = some (.cells o.c.toArray o.e (0, 0))
  | .tl v e k rows => tlHolds w v e k rows
  | .mq b l => ∃ es clock, w.heap[b]? = some (.map es clock) ∧ MapKept.Stamped es clock ∧ es.toList.map (fun e => (e.key, e.val)) = l
  | .mqi b r l left cur => ∃ es clock since last seen, w.heap[b]? = some (.map es clock) ∧ MapKept.Stamped es clock ∧ es.toList.map (fun e => (e.key, e.val)) = l ∧ w.heap[r]? = some (.mapIter (some b) since seen last) ∧
    (∀ e ∈ es.toList, e.born < since) ∧ since ≤ last ∧ since ≤ clock ∧ (es.toList.filter fun e => !seen.contains e.born).map (fun e => (e.key, e.val)) = left ∧ ∀ p, cur = some p → last = clock ∧ ∃ e ∈ es.toList, (e.key, e.val) = p ∧ seen.back? = some e.born
  | .any z => z.holds w

theorem slHolds_congr {w w' : World} {v : Value} {e : TypeId} {k : Nat} {rows : List (List Value)} (h : slHolds w v e k rows) (hb : ∀ b ∈ v.ownBlock.toList, w'.heap[b]? = w.heap[b]?) : slHolds w' v e k rows := by
  obtain ⟨h1, h2, h3⟩ := h
  refine ⟨h1, h2, ?_⟩
  rcases h3 with h3 | ⟨g, cap, cur, rfl, hg, hh, r⟩
  · exact .inl h3
  · exact .inr ⟨g, cap, cur, rfl, hg, by rw [hb g (by simp [Value.ownBlock])]; exact hh, r⟩
theorem As.holds_congr {w w' : World} {x : As} (h : x.holds w) (hb : ∀ b ∈ x.foot, w'.heap[b]? = w.heap[b]?) : x.holds w' := by
  cases x with
  | obj b c e => simp only [As.holds] at h ⊢; rw [hb b (by simp [As.foot])]; exact h
  | sl v e k rows =>
    obtain ⟨h1, h2, h3⟩ := h
    refine ⟨h1, h2, ?_⟩
    rcases h3 with h3 | ⟨g, cap, cur, rfl, hg, hh, r⟩
    · exact .inl h3
    · exact .inr ⟨g, cap, cur, rfl, hg, by rw [hb g (by simp [As.foot, Value.ownBlock])]; exact hh, r⟩
  | rd v k rows =>
    obtain ⟨hA, hv⟩ := h
    rcases hv with rfl | ⟨g, n, c, rfl, hg⟩
    · refine ⟨⟨hA.shape, hA.len, fun i r j x h1 h2 => ?_⟩, .inl rfl⟩
      rcases hA.shape with ⟨_, h0⟩ | ⟨a, cap, h0, _⟩
      · rw [h0] at h1; simp at h1
      · cases h0
    · have hbl : w'.heap[g]? = w.heap[g]? := hb g (by simp [As.foot, Value.ownBlock])
      refine ⟨⟨hA.shape, hA.len, fun i r j x h1 h2 => ?_⟩, .inr ⟨g, n, c, rfl, ?_⟩⟩
      · have hx := hA.cell i r j x h1 h2
        have hblk : ((adr (.slice (some ⟨g, 0, none⟩) n c)).add (i * k + j)).block = g := by
          simp only [adr]; unfold Addr.add; split <;> rfl
        rw [World.cell?_of_block (w := w)]
        · exact hx
        · rw [hblk]; exact hbl
      · obtain ⟨o, ho⟩ : ∃ o, w.heap[g]? = some o := ⟨_, Array.getElem?_eq_getElem hg⟩
        rw [ho] at hbl
        exact (Array.getElem?_eq_some_iff.1 hbl).1
  | mp b l =>
    obtain ⟨es, clock, h2, h3⟩ := h
    exact ⟨es, clock, by rw [hb b (by simp [As.foot])]; exact h2, h3⟩
  | mi b r l left cur =>
    obtain ⟨es, clock, since, last, seen, h2, h3, h4, h5, h6⟩ := h
    exact ⟨es, clock, since, last, seen, by rw [hb b (by simp [As.foot])]; exact h2, h3, h4, by rw [hb r (by simp [As.foot])]; exact h5, h6⟩
  | ss l =>
    intro d hd
    exact slHolds_congr (h d hd) fun b hbd => hb b (List.mem_flatMap.2 ⟨d, hd, hbd⟩)
  | os l =>
    intro o ho
    rw [hb o.b (List.mem_map.2 ⟨o, ho, rfl⟩)]
    exact h o ho
  | tl v e k rows =>
    obtain ⟨h1, h3⟩ := h
    refine ⟨h1, ?_⟩
    rcases h3 with h3 | ⟨g, off, cap, cur, rfl, hg, r⟩
    · exact .inl h3
    · exact .inr ⟨g, off, cap, cur, rfl, by rw [hb g (by simp [As.foot, Value.ownBlock])]; exact hg, r⟩
  | mq b l =>
    obtain ⟨es, clock, h2, h3⟩ := h
    exact ⟨es, clock, by rw [hb b (by simp [As.foot])]; exact h2, h3⟩
  | mqi b r l left cur =>
    obtain ⟨es, clock, since, last, seen, h2, h3, h4, h5, h6⟩ := h
    exact ⟨es, clock, since, last, seen, by rw [hb b (by simp [As.foot])]; exact h2, h3, h4, by rw [hb r (by simp [As.foot])]; exact h5, h6⟩
  | any z => exact z.congr h hb

theorem As.holds_lt {w : World} {x : As} (h : x.holds w) : ∀ b ∈ x.foot, b < w.heap.size := by
  intro b hb
  cases x with
  | obj b' c e =>
    simp only [As.foot, List.mem_singleton] at hb
    subst hb
    exact (Array.getElem?_eq_some_iff.1 h).1
  | sl v e k rows =>
    have := h.2.lt b (by simpa [As.foot] using hb)
    exact this.2
  | rd v k rows =>
    obtain ⟨hA, hv⟩ := h
    rcases hv with rfl | ⟨g, n, c, rfl, hg⟩
    · simp [As.foot, Value.ownBlock] at hb
    · simp only [As.foot, Value.ownBlock, Option.toList_some, List.mem_singleton] at hb
      rw [hb]; exact hg
  | mp b' l =>
    simp only [As.foot, List.mem_singleton] at hb
    subst hb
    obtain ⟨es, clock, h2, _⟩ := h
    exact (Array.getElem?_eq_some_iff.1 h2).1
  | mi b' r l left cur =>
    obtain ⟨es, clock, since, last, seen, h2, _, _, h5, _⟩ := h
    simp only [As.foot, List.mem_cons, List.not_mem_nil, or_false] at hb
    rcases hb with rfl | rfl
    · exact (Array.getElem?_eq_some_iff.1 h2).1
    · exact (Array.getElem?_eq_some_iff.1 h5).1
  | ss l =>
    obtain ⟨d, hd, hbd⟩ := List.mem_flatMap.1 hb
    have := (h d hd).2.lt b (by simpa [Sd.foot] using hbd)
    exact this.2
  | os l =>
    obtain ⟨o, ho, rfl⟩ := List.mem_map.1 hb
    exact (Array.getElem?_eq_some_iff.1 (h o ho)).1
  | tl v e k rows =>
    obtain ⟨_, h3⟩ := h
    rcases h3 with ⟨rfl, _⟩ | ⟨g, off, cap, cur, rfl, hg, r⟩
    · simp [As.foot, Value.ownBlock] at hb
    · simp only [As.foot, Value.ownBlock, Option.toList_some, List.mem_singleton] at hb
      rw [hb]; exact (Array.getElem?_eq_some_iff.1 hg).1
  | mq b' l =>
    simp only [As.foot, List.mem_singleton] at hb
    subst hb
    obtain ⟨es, clock, h2, _⟩ := h
    exact (Array.getElem?_eq_some_iff.1 h2).1
  | mqi b' r l left cur =>
    obtain ⟨es, clock, since, last, seen, h2, _, _, h5, _⟩ := h
    simp only [As.foot, List.mem_cons, List.not_mem_nil, or_false] at hb
    rcases hb with rfl | rfl
    · exact (Array.getElem?_eq_some_iff.1 h2).1
    · exact (Array.getElem?_eq_some_iff.1 h5).1
  | any z => exact z.lt h b hb

theorem foot_sublist {m m' : List As} (hs : m'.Sublist m) : (m'.flatMap As.foot).Sublist (m.flatMap As.foot) := by
  induction hs with
  | slnil => simp
  | cons a _ ih => simp only [List.flatMap_cons]; exact ih.trans (List.sublist_append_right _ _)
  | cons_cons a _ ih => simp only [List.flatMap_cons]; exact List.Sublist.append (List.Sublist.refl _) ih

/-! ### Draws are counted upwards -/
def EK (d : Nat) (x : Except String (World × List Addr)) : Prop := ∀ r, x = .ok r → r.1.drawn = d
theorem EK.bind {d : Nat} {α : Type} {x : Except String α} {f : α → Except String (World × List Addr)} (h : ∀ y, EK d (f y)) : EK d (x >>= f) := by
  cases x with
  | error e => intro r hr; cases hr
  | ok y => exact h y
theorem EK.err {d : Nat} {e : String} {f : PUnit → Except String (World × List Addr)} : EK d ((MonadExcept.throw e : Except String PUnit) >>= f) := by intro r hr; cases hr
theorem EK.err' {d : Nat} {e : String} : EK d (MonadExcept.throw e : Except String (World × List Addr)) := by intro r hr; cases hr
theorem EK.pure {d : Nat} {w : World} {l : List Addr} (h : w.drawn = d) : EK d (pure (w, l)) := by intro r hr; cases hr; exact h
theorem EK.ite {d : Nat} {c : Prop} [Decidable c] {x y : Except String (World × List Addr)} (hx : EK d x) (hy : EK d y) : EK d (if c then x else y) := by split <;> assumption
theorem viewStore_EK {P : Program} {w : World} {a k : Addr} {u : TypeId} {v : Value} {b : Bool} : EK w.drawn (w.viewStore P a u k v b) := by
  unfold World.viewStore
  dsimp only
  repeat' first
    | exact EK.err
    | exact EK.err'
    | exact EK.pure rfl
    | (refine EK.ite ?_ ?_)
    | (refine EK.bind fun _ => ?_)
    | split
theorem viewStore_drawn {P : Program} {w w' : World} {a k : Addr} {u : TypeId} {v : Value} {b : Bool} {l : List Addr} (h : w.viewStore P a u k v b = .ok (w', l)) : w'.drawn = w.drawn := viewStore_EK _ h
theorem farStore_drawn {P : Program} {w w' : World} {a : Addr} {v : Value} {b : Bool} {l : List Addr} (h : w.farStore P a v b = .ok (w', l)) : w'.drawn = w.drawn := by
  unfold World.farStore at h
  split at h
  · split at h
    · rename_i hr
      cases h
      exact viewStore_drawn hr
    · cases h
  · cases h
theorem ask_drawn {α : Type} : ∀ (s : Ask α) (w : World), w.drawn ≤ (w.ask s).2.drawn
  | .done a, w => Nat.le_refl _
  | .ask what range k, w => by
    rw [World.ask]
    split
    · exact ask_drawn (k 0) w
    · exact Nat.le_trans (Nat.le_succ _) (ask_drawn (k _) { w with drawn := w.drawn + 1 })
theorem sys_drawn (w : World) (c : Sys) : w.drawn ≤ (w.sys c).2.drawn := by
  have h := ask_drawn (Kernel.perform c w.os) w
  unfold World.sys
  split
  · exact Nat.le_refl _
  · rename_i he; rw [he] at h; exact h
theorem run_drawn0 {α : Type} {P : Program} : ∀ (s : Sem α) (w w' : World) (a : α), s.run P w = .ok a w' → w.drawn ≤ w'.drawn
  | .pure a, w, w', b, h => by cases h; exact Nat.le_refl _
  | .load m a k, w, w', b, h => by
    rw [Sem.run] at h
    split at h
    · exact run_drawn0 (k _) _ _ _ h
    · split at h
      · exact run_drawn0 (k _) _ _ _ h
      · cases h
  | .store m a v k, w, w', b, h => by
    have key : ∀ v : Value, (match w.cell? a with
        | some _ => if w.frozen? a = true then Result.halt (Halt.unsupported (Unsupported.unsafePointer "a write to bytes that a string shares")) w else Sem.run P k (w.setCell a v)
        | none => match w.farStore P a v (m == Mode.atomic) with
          | .ok (w1, _) => Sem.run P k w1
          | .error e => Result.halt e w) = Result.ok b w' → w.drawn ≤ w'.drawn := by
      intro v h
      split at h
      · split at h
        · cases h
        · have h1 := run_drawn0 k _ _ _ h
          exact h1
      · split at h
        · rename_i he
          have h1 := run_drawn0 k _ _ _ h
          have h2 := farStore_drawn he
          omega
        · cases h
    cases v <;> simp only [Sem.run] at h <;> first | (cases h; done) | exact key _ h
  | .new o k, w, w', b, h => by
    rw [Sem.run] at h
    have h1 := run_drawn0 (k _) _ _ _ h
    exact h1
  | .shape r k, w, w', b, h => by rw [Sem.run] at h; exact run_drawn0 (k _) _ _ _ h
  | .freeze a n k, w, w', b, h => by
    rw [Sem.run] at h
    have := run_drawn0 k _ _ _ h
    unfold World.freeze at this
    split at this <;> exact this
  | .frozen a k, w, w', b, h => by rw [Sem.run] at h; exact run_drawn0 (k _) _ _ _ h
  | .getObj r k, w, w', b, h => by
    rw [Sem.run] at h
    split at h
    · cases h
    · exact run_drawn0 (k _) _ _ _ h
    · cases h
  | .setObj r o k, w, w', b, h => by
    rw [Sem.run] at h
    split at h
    · cases h
    · have h1 := run_drawn0 k _ _ _ h
      exact h1
    · cases h
  | .choose q k, w, w', b, h => by
    rw [Sem.run] at h
    split at h
    · exact run_drawn0 (k _) _ _ _ h
    · exact Nat.le_trans (Nat.le_succ _) (run_drawn0 (k _) _ _ _ h)
  | .sys c k, w, w', b, h => by rw [Sem.run] at h; exact Nat.le_trans (sys_drawn w c) (run_drawn0 (k _) _ _ _ h)
  | .program k, w, w', b, h => by rw [Sem.run] at h; exact run_drawn0 (k _) _ _ _ h
  | .mark _ k, w, w', b, h => by rw [Sem.run] at h; exact run_drawn0 k _ _ _ h
  | .halt x, w, w', b, h => by cases h
theorem run_drawn {α : Type} {P : Program} (s : Sem α) {w w' : World} {a : α} (h : s.run P w = .ok a w') : w.drawn ≤ w'.drawn := run_drawn0 s w w' a h

--DR
/-- Draws are counted upwards. -/
def DR (w w' : World) : Prop := w.drawn ≤ w'.drawn
theorem DR.of {w w' : World} (h : w.drawn ≤ w'.drawn) : DR w w' := h
theorem DR.le {w w' : World} (h : DR w w') : w.drawn ≤ w'.drawn := h
--END
theorem DR.refl (w : World) : DR w w := .of (Nat.le_refl _)
theorem DR.trans {w w' w'' : World} (h : DR w w') (h2 : DR w' w'') : DR w w'' := .of (Nat.le_trans h.le h2.le)
structure Cls (w0 : World) (own : List Nat) (m : List As) (w : World) : Prop where
  os : w.os = w0.os
  tape : w.tape = w0.tape
  output : w.output = w0.output
  dr : DR w0 w
  size : w0.heap.size ≤ w.heap.size
  old : ∀ k, k < w0.heap.size → k ∉ own → w.heap[k]? = w0.heap[k]?
  nodup : (m.flatMap As.foot).Nodup
  mine : ∀ x ∈ m, x.holds w ∧ ∀ b ∈ x.foot, w0.heap.size ≤ b ∨ b ∈ own

section
variable {w0 w w' : World} {own : List Nat} {m m' : List As}

theorem Cls.refl (w : World) : Cls w [] [] w := ⟨rfl, rfl, rfl, DR.refl _, Nat.le_refl _, fun _ _ _ => rfl, by simp, fun x hx => by cases hx⟩
theorem Cls.drew (h : Cls w0 own m w) : Cls w0 own m { w with drawn := w.drawn + 1 } :=
  ⟨h.os, h.tape, h.output, h.dr.trans (.of (Nat.le_succ _)), h.size, h.old, h.nodup, fun x hx => ⟨As.holds_congr (h.mine x hx).1 (fun _ _ => rfl), (h.mine x hx).2⟩⟩
theorem Cls.sublist (h : Cls w0 own m w) (hs : m'.Sublist m) : Cls w0 own m' w :=
  ⟨h.os, h.tape, h.output, h.dr, h.size, h.old, h.nodup.sublist (foot_sublist hs), fun x hx => h.mine x (hs.subset hx)⟩
theorem Cls.perm (h : Cls w0 own m w) (hs : m'.Perm m) : Cls w0 own m' w :=
  ⟨h.os, h.tape, h.output, h.dr, h.size, h.old, (hs.flatMap_right _).nodup_iff.2 h.nodup, fun x hx => h.mine x (hs.mem_iff.1 hx)⟩
theorem Cls.foot_lt (h : Cls w0 own m w) : ∀ b ∈ m.flatMap As.foot, b < w.heap.size := by
  intro b hb
  obtain ⟨x, hx, hbx⟩ := List.mem_flatMap.1 hb
  exact As.holds_lt (h.mine x hx).1 b hbx
theorem Cls.get (h : Cls w0 own m w) {i : Nat} {x : As} (hi : m[i]? = some x) : x.holds w := (h.mine x (List.mem_of_getElem? hi)).1

/-- A call that owns nothing of the caller's: what it made is the caller's now. -/
theorem Cls.call (h : Cls w0 own m w) (h' : Cls w [] m' w') : Cls w0 own (m' ++ m) w' := by
  refine ⟨h'.os.trans h.os, h'.tape.trans h.tape, h'.output.trans h.output, DR.trans h.dr h'.dr, Nat.le_trans h.size h'.size, fun k hk ho => ?_, ?_, fun x hx => ?_⟩
  · rw [h'.old k (Nat.lt_of_lt_of_le hk h.size) (by simp), h.old k hk ho]
  · rw [List.flatMap_append, List.nodup_append]
    refine ⟨h'.nodup, h.nodup, fun a ha b hb heq => ?_⟩
    subst heq
    obtain ⟨x, hx, hax⟩ := List.mem_flatMap.1 ha
    rcases (h'.mine x hx).2 a hax with h1 | h1
    · have := h.foot_lt a hb
      omega
    · cases h1
  · rcases List.mem_append.1 hx with hx | hx
    · refine ⟨(h'.mine x hx).1, fun b hb => ?_⟩
      rcases (h'.mine x hx).2 b hb with h1 | h1
      · exact .inl (Nat.le_trans h.size h1)
      · cases h1
    · refine ⟨As.holds_congr (h.mine x hx).1 fun b hb => ?_, (h.mine x hx).2⟩
      exact h'.old b (As.holds_lt (h.mine x hx).1 b hb) (by simp)

/-- A new block. -/
theorem Cls.alloc (h : Cls w0 own m w) (c : List Value) (e : TypeId) : Cls w0 own (.obj w.heap.size c e :: m) (w.alloc (.cells c.toArray e)) := by
  have hk : ∀ k, k < w.heap.size → (w.alloc (.cells c.toArray e)).heap[k]? = w.heap[k]? := fun k hk => RowKit.Below.heap_alloc w _ k hk
  refine ⟨h.os, h.tape, h.output, h.dr, Nat.le_trans h.size (by simp), fun k hk' ho => ?_, ?_, fun x hx => ?_⟩
  · rw [hk k (Nat.lt_of_lt_of_le hk' h.size), h.old k hk' ho]
  · simp only [List.flatMap_cons, As.foot, List.singleton_append, List.nodup_cons]
    exact ⟨fun hb => Nat.lt_irrefl _ (h.foot_lt _ hb), h.nodup⟩
  · rcases List.mem_cons.1 hx with rfl | hx
    · refine ⟨?_, fun b hb => ?_⟩
      · show (w.heap.push _)[w.heap.size]? = _
        simp
      · simp only [As.foot, List.mem_singleton] at hb
        subst hb
        exact .inl h.size
    · exact ⟨As.holds_congr (h.mine x hx).1 fun b hb => hk b (As.holds_lt (h.mine x hx).1 b hb), (h.mine x hx).2⟩

/-- One of the things turned, in its place. -/
theorem Cls.turn (h : Cls w0 own m w) {i : Nat} {x y : As} (hi : m[i]? = some x) (hf : y.foot = x.foot)
    (hos : w'.os = w.os) (htape : w'.tape = w.tape) (hout : w'.output = w.output) (hsz : w'.heap.size = w.heap.size) (hdr : w.drawn ≤ w'.drawn) (hrest : ∀ k, k ∉ x.foot → w'.heap[k]? = w.heap[k]?) (hy : y.holds w') : Cls w0 own (m.set i y) w' := by
  obtain ⟨hil, hxi⟩ := List.getElem?_eq_some_iff.1 hi
  have hmem : x ∈ m := List.mem_of_getElem? hi
  have hfm : (m.set i y).flatMap As.foot = m.flatMap As.foot := by
    have h1 : (m.set i y).map As.foot = m.map As.foot := by
      rw [List.map_set, hf]
      apply List.ext_getElem?
      intro j
      rw [List.getElem?_set]
      split
      · rename_i hij
        subst hij
        simp [hil, hxi]
      · rfl
    rw [List.flatMap_def, h1, ← List.flatMap_def]
  have hnd := h.nodup
  refine ⟨hos.trans h.os, htape.trans h.tape, hout.trans h.output, h.dr.trans (.of hdr), hsz ▸ h.size, fun k hk ho => ?_, by rw [hfm]; exact hnd, fun z hz => ?_⟩
  · rw [hrest k, h.old k hk ho]
    intro hkx
    rcases (h.mine x hmem).2 k hkx with h1 | h1
    · omega
    · exact ho h1
  · obtain ⟨j, hj⟩ := List.getElem?_of_mem hz
    rw [List.getElem?_set] at hj
    split at hj
    · rename_i hij
      simp at hj
      subst hj
      exact ⟨hy, fun b hb => (h.mine x hmem).2 b (hf ▸ hb)⟩
    · rename_i hij
      have hzm : z ∈ m := List.mem_of_getElem? hj
      refine ⟨As.holds_congr (h.mine z hzm).1 fun b hb => hrest b fun hbx => ?_, (h.mine z hzm).2⟩
      -- two places of the list hold one block: no
      obtain ⟨hjl, hzj⟩ := List.getElem?_eq_some_iff.1 hj
      have : ∀ (l : List As) (i j : Nat) (hi : i < l.length) (hj : j < l.length), i < j → (l.flatMap As.foot).Nodup → b ∈ (l[i]).foot → b ∈ (l[j]).foot → False := by
        intro l
        induction l with
        | nil => intro i j hi; simp at hi
        | cons q l ih =>
          intro i j hi hj hij hn h1 h2
          rw [List.flatMap_cons, List.nodup_append] at hn
          cases i with
          | zero =>
            cases j with
            | zero => omega
            | succ j =>
              exact hn.2.2 b h1 b (List.mem_flatMap.2 ⟨l[j]'(by simpa using hj), List.getElem_mem _, h2⟩) rfl
          | succ i =>
            cases j with
            | zero => omega
            | succ j => exact ih i j (by simpa using hi) (by simpa using hj) (by omega) hn.2.1 h1 h2
      rcases Nat.lt_or_gt_of_ne hij with hlt | hlt
      · exact this m i j hil hjl hlt hnd (by rw [hxi]; exact hbx) (by rw [hzj]; exact hb)
      · exact this m j i hjl hil hlt hnd (by rw [hzj]; exact hb) (by rw [hxi]; exact hbx)
end

/-! ### Slices that can be read -/
theorem At.nil (w : World) (k : Nat) : At w (.slice none 0 0) k [] := ⟨.inl ⟨rfl, rfl⟩, by simp, by simp⟩
theorem At.cls {w0 w : World} {own : List Nat} {m : List As} {v : Value} {k : Nat} {rows : List (List Value)} (h : At w0 v k rows) (hc : Cls w0 own m w) (hb : (adr v).block ∉ own) : At w v k rows := by
  refine ⟨h.shape, h.len, fun i r j x h1 h2 => ?_⟩
  have hx := h.cell i r j x h1 h2
  have hblk : ((adr v).add (i * k + j)).block = (adr v).block := by unfold Addr.add; split <;> rfl
  have hlt := World.block_lt_of_cell? w0 _ hx
  rw [World.cell?_of_block (w := w0)]
  · exact hx
  · exact hc.old _ hlt (by rw [hblk]; exact hb)
theorem At.cls0 {w0 w : World} {m : List As} {v : Value} {k : Nat} {rows : List (List Value)} (h : At w0 v k rows) (hc : Cls w0 [] m w) : At w v k rows := h.cls hc (by simp)
theorem At.le {w : World} {v : Value} {k : Nat} {rows : List (List Value)} (h : At w v k rows) : rows.length ≤ maxLen := by
  rcases h.shape with ⟨_, rfl⟩ | ⟨a, cap, _, h1, h2⟩
  · simp
  · omega

theorem flatten_get {k : Nat} : ∀ (rows : List (List Value)) (i j : Nat) (r : List Value) (x : Value), (∀ r ∈ rows, r.length = k) → rows[i]? = some r → r[j]? = some x → rows.flatten[i * k + j]? = some x
  | [], i, j, r, x, _, h, _ => by simp at h
  | q :: rows, 0, j, r, x, hl, h, hx => by
    simp only [List.getElem?_cons_zero, Option.some.injEq] at h
    subst h
    simp only [List.flatten_cons, Nat.zero_mul, Nat.zero_add]
    rw [List.getElem?_append_left (List.getElem?_eq_some_iff.1 hx).1]
    exact hx
  | q :: rows, i + 1, j, r, x, hl, h, hx => by
    have hq : q.length = k := hl q (by simp)
    simp only [List.getElem?_cons_succ] at h
    simp only [List.flatten_cons]
    rw [List.getElem?_append_right (by rw [hq, Nat.succ_mul]; omega), hq, show (i + 1) * k + j - k = i * k + j by rw [Nat.succ_mul]; omega]
    exact flatten_get rows i j r x (fun r hr => hl r (by simp [hr])) h hx

theorem As.at_ {w : World} {v : Value} {e : TypeId} {k : Nat} {rows : List (List Value)} (h : (As.sl v e k rows).holds w) : At w v k rows := by
  obtain ⟨h1, h2, h3⟩ := h
  refine ⟨?_, h1, fun i r j x hr hx => ?_⟩
  · rcases h3 with ⟨rfl, h0⟩ | ⟨g, cap, cur, rfl, _, _, hn, hc, _⟩
    · exact .inl ⟨rfl, List.length_eq_zero_iff.1 h0⟩
    · exact .inr ⟨_, cap, rfl, hn, hc⟩
  · have hf := flatten_get rows i j r x h1 hr hx
    rcases h3 with ⟨rfl, h0⟩ | ⟨g, cap, cur, rfl, _, hg, hn, hc, hs, ht⟩
    · have := List.length_eq_zero_iff.1 h0
      subst this
      simp at hr
    · have hj : i * k + j < rows.length * k := by
        have := (List.getElem?_eq_some_iff.1 hf).1
        rw [h2] at this
        exact this
      rw [← ht, List.getElem?_take_of_lt hj] at hf
      have e1 : (Addr.add ⟨g, 0, none⟩ (i * k + j)) = ⟨g, i * k + j, none⟩ := by simp [Addr.add_lit]
      show (World.cell? w (Addr.add ⟨g, 0, none⟩ (i * k + j))) = some x
      rw [e1]
      simp only [World.cell?, hg, Option.isSome_none, Bool.false_eq_true, if_false]
      rw [Array.getElem?_toList] at hf
      exact hf
end Go.S
