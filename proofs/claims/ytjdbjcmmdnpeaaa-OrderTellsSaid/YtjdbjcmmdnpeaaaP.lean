/-
  More operations by the models' words.
  Conditions: none.
-/
import Derived.Test.YtjdbjcmmdnpeaaaN
import Derived.Laws.BytesArg
import Derived.Laws.IdiomStrings
namespace Go.S
def divW (k : IntKind) (a b : Int) : Option Int := if b ≠ 0 then some (k.wrap (a.tdiv b)) else none
def modW (a b : Int) : Option Int := if b ≠ 0 then some (a.tmod b) else none
def shlW (k : IntKind) (a b : Int) : Option Int := if 0 ≤ b ∧ b ≤ k.bits then some (k.wrap (a * 2 ^ b.toNat)) else none
def shrW (k : IntKind) (a b : Int) : Option Int := if 0 ≤ b ∧ b ≤ k.bits then some (a / 2 ^ b.toNat) else none
def comW (k : IntKind) (a : Int) : Int := Go.bits BinOp.xor k (if k.signed = true then -1 else k.max) a
def IK (k : IntKind) (x : Int) : List Value := [.int k x]
def SR (x : List UInt8) : List Value := [st x]
def bytesOf (l : List Int) : List UInt8 := l.map fun n => UInt8.ofNat n.toNat
theorem plain_IK {k : IntKind} (l : List Int) : Plain (l.map (IK k)) := by
  intro r hr u hu
  obtain ⟨x, _, rfl⟩ := List.mem_map.1 hr
  simp only [IK, List.mem_singleton] at hu
  subst hu; rfl
theorem plain_SR (l : List (List UInt8)) : Plain (l.map SR) := by
  intro r hr u hu
  obtain ⟨x, _, rfl⟩ := List.mem_map.1 hr
  simp only [SR, List.mem_singleton] at hu
  subst hu; rfl
section
variable {P : Program} {Q : Exit → Act → World → Prop} {n : Nat} {C : World → Prop} {fs : Fr} {ops : Array Oper} {rest : List Oper} {d : Nat} {op : Op} {t : TypeId} {pos : String} {af : Array Edge}
variable {ρ : Type} {r : ρ} {x y : Operand} {a b : Int} {tx ty : TypeId} {k : IntKind}
theorem Y.quoM (hx : val fs x = some (.int k a)) (hy : val fs y = some (.int k b)) (u : Int) (h : divW k a b = some u) : Y P (.binOp .quo tx x y ty) t n fs C (.int k u) := by
  unfold divW at h
  split at h
  · simp only [Option.some.injEq] at h
    subst h
    rename_i hb
    exact Y.of fun d pos af g s w hs _ => by simp only [execOp, hs.eval hx, hs.eval hy]; simp [go_sem, hb]
  · cases h
theorem Y.remM (hx : val fs x = some (.int k a)) (hy : val fs y = some (.int k b)) (u : Int) (h : modW a b = some u) : Y P (.binOp .rem tx x y ty) t n fs C (.int k u) := by
  unfold modW at h
  split at h
  · simp only [Option.some.injEq] at h
    subst h
    exact Y.remT hx hy (by assumption)
  · cases h
theorem Y.shlM {yk : IntKind} (hx : val fs x = some (.int k a)) (hy : val fs y = some (.int yk b)) (u : Int) (h : shlW k a b = some u) : Y P (.binOp .shl tx x y ty) t n fs C (.int k u) := by
  unfold shlW at h
  split at h
  · simp only [Option.some.injEq] at h
    subst h
    rename_i hb
    exact Y.shl hx hy hb.1 hb.2
  · cases h
theorem Y.shrM {yk : IntKind} (hx : val fs x = some (.int k a)) (hy : val fs y = some (.int yk b)) (u : Int) (h : shrW k a b = some u) : Y P (.binOp .shr tx x y ty) t n fs C (.int k u) := by
  unfold shrW at h
  split at h
  · simp only [Option.some.injEq] at h
    subst h
    rename_i hb
    exact Y.shr hx hy hb.1 hb.2
  · cases h
theorem Y.and (hx : val fs x = some (.int k a)) (hy : val fs y = some (.int k b)) : Y P (.binOp .and tx x y ty) t n fs C (.int k (Go.bits .and k a b)) := Y.bits (.inl rfl) hx hy
theorem Y.or (hx : val fs x = some (.int k a)) (hy : val fs y = some (.int k b)) : Y P (.binOp .or tx x y ty) t n fs C (.int k (Go.bits .or k a b)) := Y.bits (.inr (.inl rfl)) hx hy
theorem Y.xor (hx : val fs x = some (.int k a)) (hy : val fs y = some (.int k b)) : Y P (.binOp .xor tx x y ty) t n fs C (.int k (Go.bits .xor k a b)) := Y.bits (.inr (.inr (.inl rfl))) hx hy
theorem Y.comM (hx : val fs x = some (.int k a)) : Y P (.unOp .xor tx x) t n fs C (.int k (comW k a)) := Y.com hx
/-- string(bytes) -/
theorem Y.convBytes {src dst e : TypeId} {v : Value} {l : List Int} (hs : P.underlying src = some (.slice e)) (he : P.underlying e = some (.int .u8)) (hd : P.underlying dst = some .string) (hx : val fs x = some v) (hA : ∀ w, C w → At w v 1 (l.map (IK .u8))) :
    Y P (.convert src dst x) t n fs C (st (bytesOf l)) :=
  Y.of fun d pos af g a w hsl hw => by
    simp only [execOp, hsl.eval hx]
    have hat := hA w hw
    rcases hat.shape with ⟨rfl, hr⟩ | ⟨ad, cap, hv, hl, hm⟩
    · have : l = [] := by simpa using hr
      subst this
      have := run_convert_bytes_nil (P := P) w src e hs he 0 0 dst hd
      simp [this, bytesOf, st]; rfl
    · have hcells : (loadCells ad l.length).run P w = .ok (l.map (Value.int .u8)).toArray w := by
        have := run_loadCells_list (P := P) w ad (l.map (Value.int .u8)) (fun j u hj => by
          have hx' : (l.map (IK .u8))[j]? = some [u] := by
            rw [List.getElem?_map] at hj ⊢
            cases hl' : l[j]? with
            | none => rw [hl'] at hj; cases hj
            | some z => rw [hl'] at hj; simp only [Option.map_some, Option.some.injEq] at hj ⊢; rw [← hj]; rfl
          have := hat.cell j [u] 0 u hx' rfl
          rw [hv] at this
          simpa [adr] using this)
        simpa using this
      rw [List.length_map] at hv
      subst hv
      have hc : (convert src dst (.slice (some ad) l.length cap)).run P w = .ok (st (bytesOf l)) w := by
        rw [run_convert_bytes_string w src dst e _ l.length cap hs he hd, run_bytesToString w _ l.length cap l hcells, foldl_push_bytes]
        simp [bytesOf, st, ByteArray.empty, ByteArray.emptyWithCapacity]
        rfl
      simp [hc]
/-- append, by the word -/
theorem L.appM {α : Type} {g : α → List Value} {w0 : World} {own : List Nat} {m : List As} {i : Nat} {v u : Value} {e : TypeId} {k by' : Nat} {l more : List α} {f : List α → Option ρ} (h : bind1 (app l more) f = some r) (hd : Nat.blt d n = true) (hu : P.underlying tx = some (.slice e)) (he : elemB P e k by' = true)
    (hx : val fs x = some v) (hy : val fs y = some u) (hm : m[i]? = some (.sl v e k (l.map g))) (hB : ∀ w, Cls w0 own m w → At w u k (more.map g)) (hp : Plain (more.map g)) (hb : Nat.ble by' 56 = true)
    (next : ∀ v' z, app l more = some z → f z = some r → L P ops Q n (Cls w0 own (.sl v' e k (z.map g) :: m.eraseIdx i)) rest ((d, v') :: fs)) :
    L P ops Q n (Cls w0 own m) (⟨some d, .call ⟨.builtin .append, #[x, y], #[tx, tx]⟩, t, pos, af, none⟩ :: rest) fs := by
  obtain ⟨z, hz, h⟩ := bind1S h
  obtain ⟨rfl, hl⟩ := app_some hz
  have hb' : by' ≤ 56 := by simpa using hb
  refine L.append hd hu he hx hy hm hB hp (by simp only [List.length_map]; unfold maxLen; omega) ?_ fun v' => ?_
  · simp only [List.length_map]
    calc (l.length + more.length) * by' ≤ 2513169434916 * 56 := Nat.mul_le_mul hl hb'
      _ ≤ _ := by decide
  · rw [← List.map_append]; exact next v' _ hz h
end
end Go.S
