/-
  More operations by the models' words.
  Conditions: none.
-/
import Derived.Test.YtdebhhjbgbkbjaaN
import Derived.Laws.BytesArg
import Derived.Laws.IdiomStrings
namespace Go.S
def divW (k : IntKind) (a b : Int) : Option Int := if b ≠ 0 then some (k.wrap (a.tdiv b)) else none
def modW (a b : Int) : Option Int := if b ≠ 0 then some (a.tmod b) else none
def shlW (k : IntKind) (a b : Int) : Option Int := if 0 ≤ b ∧ b ≤ k.bits then some (k.wrap (a * 2 ^ b.toNat)) else none
def shrW (k : IntKind) (a b : Int) : Option Int := if 0 ≤ b ∧ b ≤ k.bits then some (a / 2 ^ b.toNat) else none
def comW (k : IntKind) (a : Int) : Int := Go.bits BinOp.xor k (if k.signed = true then -1 else k.max) a
def IK (k : IntKind) (x : Int) : List Value := [.int k x]
def SR (x : List UInt8) : List Value := [st x]
def bytesOf (l : List Int) : List UInt8 := l.map fun n => UInt8.ofNat n.toNat
theorem plain_IK {k : IntKind} (l : List Int) : Plain (l.map (IK k)) := by
  intro r hr u hu
  obtain ⟨x, _, rfl⟩ := List.mem_map.1 hr
  simp only [IK, List.mem_singleton] at hu
  subst hu; rfl
theorem plain_SR (l : List (List UInt8)) : Plain (l.map SR) := by
  intro r hr u hu
  obtain ⟨x, _, rfl⟩ := List.mem_map.1 hr
  simp only [SR, List.mem_singleton] at hu
  subst hu; rfl
section
variable {P : Program} {Q : Exit → Act → World → Prop} {n : Nat} {C : World → Prop} {fs : Fr} {ops : Array Oper} {rest : List Oper} {d : Nat} {op : Op} {t : TypeId} {pos : String} {af : Array Edge}
variable {ρ : Type} {r : ρ} {x y : Operand} {a b : Int} {tx ty : TypeId} {k : IntKind}
theorem Y.quoM (hx : val fs x = some (.int k a)) (hy : val fs y = some (.int k b)) (u : Int) (h : divW k a b = some u) : Y P (.binOp .quo tx x y ty) t n fs C (.int k u) := by
  unfold divW at h
  split at h
  · simp only [Option.some.injEq] at h
    subst h
    rename_i hb
    exact Y.of fun d pos af g s w hs _ => by simp only [execOp, hs.eval hx, hs.eval hy]; simp [go_sem, hb]
  · cases h
theorem Y.remM (hx : val fs x = some (.int k a)) (hy : val fs y = some (.int k b)) (u : Int) (h : modW a b = some u) : Y P (.binOp .rem tx x y ty) t n fs C (.int k u) := by
  unfold modW at h
  split at h
  · simp only [Option.some.injEq] at h
    subst h
    exact Y.remT hx hy (by assumption)
  · cases h
theorem Y.shrM {yk : IntKind} (hx : val fs x = some (.int k a)) (hy : val fs y = some (.int yk b)) (u : Int) (h : shrW k a b = some u) : Y P (.binOp .shr tx x y ty) t n fs C (.int k u) := by
  unfold shrW at h
  split at h
  · simp only [Option.some.injEq] at h
    subst h
    rename_i hb
    exact Y.shr hx hy hb.1 hb.2
  · cases h
/-- append, by the word -/
theorem L.appM {α : Type} {g : α → List Value} {w0 : World} {own : List Nat} {m : List As} {i : Nat} {v u : Value} {e : TypeId} {k by' : Nat} {l more : List α} {f : List α → Option ρ} (h : bind1 (app l more) f = some r) (hd : Nat.blt d n = true) (hu : P.underlying tx = some (.slice e)) (he : elemB P e k by' = true)
    (hx : val fs x = some v) (hy : val fs y = some u) (hm : m[i]? = some (.sl v e k (l.map g))) (hB : ∀ w, Cls w0 own m w → At w u k (more.map g)) (hp : Plain (more.map g)) (hb : Nat.ble by' 56 = true)
    (next : ∀ v' z, app l more = some z → f z = some r → L P ops Q n (Cls w0 own (.sl v' e k (z.map g) :: m.eraseIdx i)) rest ((d, v') :: fs)) :
    L P ops Q n (Cls w0 own m) (⟨some d, .call ⟨.builtin .append, #[x, y], #[tx, tx]⟩, t, pos, af, none⟩ :: rest) fs := by
  obtain ⟨z, hz, h⟩ := bind1S h
  obtain ⟨rfl, hl⟩ := app_some hz
  have hb' : by' ≤ 56 := by simpa using hb
  refine L.append hd hu he hx hy hm hB hp (by simp only [List.length_map]; unfold maxLen; omega) ?_ fun v' => ?_
  · simp only [List.length_map]
    calc (l.length + more.length) * by' ≤ 2513169434916 * 56 := Nat.mul_le_mul hl hb'
      _ ≤ _ := by decide
  · rw [← List.map_append]; exact next v' _ hz h
end
end Go.S
