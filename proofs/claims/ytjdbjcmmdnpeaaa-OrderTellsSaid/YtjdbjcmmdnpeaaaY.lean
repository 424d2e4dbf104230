/-
  What single operations yield, in every world of a class.
  Conditions: none.
-/
import Derived.Test.YtjdbjcmmdnpeaaaS
import Derived.IntWalk
import Derived.Laws.DeepStrings4
namespace Go.S
variable {P : Program} {n : Nat} {C : World → Prop} {fs : Fr} {t : TypeId}

theorem Y.of {op : Op} {v : Value} (h : ∀ (d : Option Tmp) (pos : String) (af : Array Edge) (g : Option (Nat × Bool)) a w, Slots n fs a → C w → (execOp a.eval ⟨d, op, t, pos, af, g⟩).run P w = .ok (.value v) w) : Y P op t n fs C v := by
  intro d pos af g a w hs hc
  rw [h d pos af g a w hs hc]
  exact ⟨rfl, rfl⟩

theorem Y.move {x : Operand} {v : Value} (hx : val fs x = some v) : Y P (.move x) t n fs C v :=
  Y.of fun d pos af g a w hs hc => by simp [execOp, hs.eval hx]
theorem Y.assign {x : Operand} {v : Value} (hx : val fs x = some v) : Y P (.assign x) t n fs C v :=
  Y.of fun d pos af g a w hs hc => by simp [execOp, hs.eval hx]
theorem Y.pickT {c x y : Operand} {v : Value} (hc : val fs c = some (.bool true)) (hx : val fs x = some v) : Y P (.pick c x y) t n fs C v :=
  Y.of fun d pos af g a w hs hw => by simp only [execOp, hs.eval hx, hs.eval hc]; simp [asBool]
theorem Y.pickF {c x y : Operand} {v : Value} (hc : val fs c = some (.bool false)) (hy : val fs y = some v) : Y P (.pick c x y) t n fs C v :=
  Y.of fun d pos af g a w hs hw => by simp only [execOp, hs.eval hy, hs.eval hc]; simp [asBool]

section ints
variable {x y : Operand} {k : IntKind} {a b : Int} {tx ty : TypeId}
theorem Y.lss (hx : val fs x = some (.int k a)) (hy : val fs y = some (.int k b)) : Y P (.binOp .lss tx x y ty) t n fs C (.bool (decide (a < b))) :=
  Y.of fun d pos af g s w hs hw => by simp only [execOp, hs.eval hx, hs.eval hy]; simp [go_sem]
theorem Y.leq (hx : val fs x = some (.int k a)) (hy : val fs y = some (.int k b)) : Y P (.binOp .leq tx x y ty) t n fs C (.bool (decide (a ≤ b))) :=
  Y.of fun d pos af g s w hs hw => by simp only [execOp, hs.eval hx, hs.eval hy]; simp [go_sem]
theorem Y.gtr (hx : val fs x = some (.int k a)) (hy : val fs y = some (.int k b)) : Y P (.binOp .gtr tx x y ty) t n fs C (.bool (decide (b < a))) :=
  Y.of fun d pos af g s w hs hw => by simp only [execOp, hs.eval hx, hs.eval hy]; simp [go_sem]
theorem Y.geq (hx : val fs x = some (.int k a)) (hy : val fs y = some (.int k b)) : Y P (.binOp .geq tx x y ty) t n fs C (.bool (decide (b ≤ a))) :=
  Y.of fun d pos af g s w hs hw => by simp only [execOp, hs.eval hx, hs.eval hy]; simp [go_sem]
theorem Y.eql (hx : val fs x = some (.int k a)) (hy : val fs y = some (.int k b)) : Y P (.binOp .eql tx x y ty) t n fs C (.bool (decide (a = b))) :=
  Y.of fun d pos af g s w hs hw => by
    have : (a == b) = decide (a = b) := by by_cases h : a = b <;> simp [h]
    simp only [execOp, hs.eval hx, hs.eval hy]; simp [go_sem, this]
theorem Y.neq (hx : val fs x = some (.int k a)) (hy : val fs y = some (.int k b)) : Y P (.binOp .neq tx x y ty) t n fs C (.bool (decide (a ≠ b))) :=
  Y.of fun d pos af g s w hs hw => by
    have : (a != b) = decide (a ≠ b) := by by_cases h : a = b <;> simp [h]
    simp only [execOp, hs.eval hx, hs.eval hy]; simp [go_sem, this]
/-- A sum that stays in its kind. -/
theorem Y.add (hx : val fs x = some (.int k a)) (hy : val fs y = some (.int k b)) (hw : k.wrap (a + b) = a + b) : Y P (.binOp .add tx x y ty) t n fs C (.int k (a + b)) :=
  Y.of fun d pos af g s w hs _ => by simp only [execOp, hs.eval hx, hs.eval hy]; simp [go_sem, hw]
theorem Y.sub (hx : val fs x = some (.int k a)) (hy : val fs y = some (.int k b)) (hw : k.wrap (a - b) = a - b) : Y P (.binOp .sub tx x y ty) t n fs C (.int k (a - b)) :=
  Y.of fun d pos af g s w hs _ => by simp only [execOp, hs.eval hx, hs.eval hy]; simp [go_sem, hw]
theorem Y.mul (hx : val fs x = some (.int k a)) (hy : val fs y = some (.int k b)) (hw : k.wrap (a * b) = a * b) : Y P (.binOp .mul tx x y ty) t n fs C (.int k (a * b)) :=
  Y.of fun d pos af g s w hs _ => by simp only [execOp, hs.eval hx, hs.eval hy]; simp [go_sem, hw]
/-- Whatever the sum. -/
theorem Y.addW (hx : val fs x = some (.int k a)) (hy : val fs y = some (.int k b)) : Y P (.binOp .add tx x y ty) t n fs C (.int k (k.wrap (a + b))) :=
  Y.of fun d pos af g s w hs _ => by simp only [execOp, hs.eval hx, hs.eval hy]; simp [go_sem]
theorem Y.subW (hx : val fs x = some (.int k a)) (hy : val fs y = some (.int k b)) : Y P (.binOp .sub tx x y ty) t n fs C (.int k (k.wrap (a - b))) :=
  Y.of fun d pos af g s w hs _ => by simp only [execOp, hs.eval hx, hs.eval hy]; simp [go_sem]
theorem Y.mulW (hx : val fs x = some (.int k a)) (hy : val fs y = some (.int k b)) : Y P (.binOp .mul tx x y ty) t n fs C (.int k (k.wrap (a * b))) :=
  Y.of fun d pos af g s w hs _ => by simp only [execOp, hs.eval hx, hs.eval hy]; simp [go_sem]
theorem i64_in {a : Int} (h0 : -9223372036854775808 ≤ a) (h1 : a ≤ 9223372036854775807) : IntKind.i64.wrap a = a := IntWalk.i64_in a ⟨h0, h1⟩
/-- A quotient, a rest. -/
theorem Y.quo (hx : val fs x = some (.int k a)) (hy : val fs y = some (.int k b)) (hb : b ≠ 0) (h0 : 0 ≤ a) (hw : k.wrap (a / b) = a / b) : Y P (.binOp .quo tx x y ty) t n fs C (.int k (a / b)) :=
  Y.of fun d pos af g s w hs _ => by simp only [execOp, hs.eval hx, hs.eval hy]; simp [go_sem, hb, Int.tdiv_eq_ediv_of_nonneg h0, hw]
theorem Y.quoT (hx : val fs x = some (.int k a)) (hy : val fs y = some (.int k b)) (hb : b ≠ 0) (hw : k.wrap (a.tdiv b) = a.tdiv b) : Y P (.binOp .quo tx x y ty) t n fs C (.int k (a.tdiv b)) :=
  Y.of fun d pos af g s w hs _ => by simp only [execOp, hs.eval hx, hs.eval hy]; simp [go_sem, hb, hw]
theorem Y.rem (hx : val fs x = some (.int k a)) (hy : val fs y = some (.int k b)) (hb : b ≠ 0) (h0 : 0 ≤ a) : Y P (.binOp .rem tx x y ty) t n fs C (.int k (a % b)) :=
  Y.of fun d pos af g s w hs _ => by simp only [execOp, hs.eval hx, hs.eval hy]; simp [go_sem, hb, Int.tmod_eq_emod_of_nonneg h0]
theorem Y.remT (hx : val fs x = some (.int k a)) (hy : val fs y = some (.int k b)) (hb : b ≠ 0) : Y P (.binOp .rem tx x y ty) t n fs C (.int k (a.tmod b)) :=
  Y.of fun d pos af g s w hs _ => by simp only [execOp, hs.eval hx, hs.eval hy]; simp [go_sem, hb]
theorem Y.bits {o : BinOp} (ho : o = .and ∨ o = .or ∨ o = .xor ∨ o = .andNot) (hx : val fs x = some (.int k a)) (hy : val fs y = some (.int k b)) : Y P (.binOp o tx x y ty) t n fs C (.int k (Go.bits o k a b)) :=
  Y.of fun d pos af g s w hs _ => by rcases ho with rfl | rfl | rfl | rfl <;> (simp only [execOp, hs.eval hx, hs.eval hy]; simp [go_sem])
theorem Y.shr {yk : IntKind} (hx : val fs x = some (.int k a)) (hy : val fs y = some (.int yk b)) (h0 : 0 ≤ b) (h1 : b ≤ k.bits) : Y P (.binOp .shr tx x y ty) t n fs C (.int k (a / 2 ^ b.toNat)) :=
  Y.of fun d pos af g s w hs _ => by simp only [execOp, hs.eval hx, hs.eval hy]; simp [binOp_shr, shift_shr k yk a b h0 h1, eqGuard_shr]
theorem Y.shl {yk : IntKind} (hx : val fs x = some (.int k a)) (hy : val fs y = some (.int yk b)) (h0 : 0 ≤ b) (h1 : b ≤ k.bits) : Y P (.binOp .shl tx x y ty) t n fs C (.int k (k.wrap (a * 2 ^ b.toNat))) :=
  Y.of fun d pos af g s w hs _ => by simp only [execOp, hs.eval hx, hs.eval hy]; simp [binOp_shl, shift_shl k yk a b h0 h1, eqGuard_shl]
theorem Y.com (hx : val fs x = some (.int k a)) : Y P (.unOp .xor tx x) t n fs C (.int k (Go.bits BinOp.xor k (if k.signed = true then -1 else k.max) a)) :=
  Y.of fun d pos af g s w hs _ => by simp only [execOp, hs.eval hx]; simp [go_sem]
theorem Y.neg (hx : val fs x = some (.int k a)) : Y P (.unOp .neg tx x) t n fs C (.int k (k.wrap (-a))) :=
  Y.of fun d pos af g s w hs _ => by simp only [execOp, hs.eval hx]; simp [go_sem]
theorem Y.max2 {ts : Array TypeId} (hx : val fs x = some (.int k a)) (hy : val fs y = some (.int k b)) : Y P (.call ⟨.builtin .max, #[x, y], ts⟩) t n fs C (.int k (max a b)) :=
  Y.of fun d pos af g s w hs _ => by
    have : (if b > a then b else a) = max a b := by omega
    simp only [execOp, resolve, List.map_toArray, List.map_cons, List.map_nil, hs.eval hx, hs.eval hy]; simp [invoke, builtin, run_max_int2, this]
theorem Y.min2 {ts : Array TypeId} (hx : val fs x = some (.int k a)) (hy : val fs y = some (.int k b)) : Y P (.call ⟨.builtin .min, #[x, y], ts⟩) t n fs C (.int k (min a b)) :=
  Y.of fun d pos af g s w hs _ => by
    have : (if b < a then b else a) = min a b := by omega
    simp only [execOp, resolve, List.map_toArray, List.map_cons, List.map_nil, hs.eval hx, hs.eval hy]; simp [invoke, builtin, run_min_int2, this]
end ints

theorem Y.eqlB {x y : Operand} {a b : Bool} {tx ty : TypeId} (hu : P.underlying tx = some .bool) (hx : val fs x = some (.bool a)) (hy : val fs y = some (.bool b)) : Y P (.binOp .eql tx x y ty) t n fs C (.bool (a == b)) :=
  Y.of fun d pos af g s w hs hw => by simp only [execOp, hs.eval hx, hs.eval hy]; simp [run_eql_bool w tx a b hu, eqGuard_at_bool]
theorem Y.neqB {x y : Operand} {a b : Bool} {tx ty : TypeId} (hu : P.underlying tx = some .bool) (hx : val fs x = some (.bool a)) (hy : val fs y = some (.bool b)) : Y P (.binOp .neq tx x y ty) t n fs C (.bool (!(a == b))) :=
  Y.of fun d pos af g s w hs hw => by simp only [execOp, hs.eval hx, hs.eval hy]; simp [run_neq_bool w tx a b hu, eqGuard_at_bool]
theorem Y.not {x : Operand} {b : Bool} {tx : TypeId} (hx : val fs x = some (.bool b)) : Y P (.unOp .not tx x) t n fs C (.bool (!b)) :=
  Y.of fun d pos af g s w hs hw => by simp only [execOp, hs.eval hx]; simp [go_sem]

/-! ### Strings: by their bytes -/
def st (l : List UInt8) : Value := .string ⟨l.toArray⟩
theorem st_size (l : List UInt8) : (ByteArray.mk l.toArray).size = l.length := by simp [ByteArray.size]
theorem Y.eqlS {x y : Operand} {a b : List UInt8} {tx ty : TypeId} (hx : val fs x = some (st a)) (hy : val fs y = some (st b)) : Y P (.binOp .eql tx x y ty) t n fs C (.bool (decide (a = b))) :=
  Y.of fun d pos af g s w hs hw => by
    have : (a == b) = decide (a = b) := by by_cases h : a = b <;> simp [h]
    simp only [execOp, hs.eval hx, hs.eval hy, st]; simp [binOp_string_eql, eqGuard_at_string, this]
theorem Y.neqS {x y : Operand} {a b : List UInt8} {tx ty : TypeId} (hx : val fs x = some (st a)) (hy : val fs y = some (st b)) : Y P (.binOp .neq tx x y ty) t n fs C (.bool (decide (a ≠ b))) :=
  Y.of fun d pos af g s w hs hw => by
    have : (!(a == b)) = decide (a ≠ b) := by by_cases h : a = b <;> simp [h]
    simp only [execOp, hs.eval hx, hs.eval hy, st]; simp [binOp_string_neq, eqGuard_at_string, this]
theorem Y.cat {x y : Operand} {a b : List UInt8} {tx ty : TypeId} (hx : val fs x = some (st a)) (hy : val fs y = some (st b)) (hl : a.length + b.length ≤ 9223372036854775807) : Y P (.binOp .add tx x y ty) t n fs C (st (a ++ b)) :=
  Y.of fun d pos af g s w hs hw => by
    have h := run_string_add_sum (P := P) (w := w) ⟨a.toArray⟩ ⟨b.toArray⟩ (by simpa [st_size] using hl)
    have e : (ByteArray.mk a.toArray ++ ByteArray.mk b.toArray) = ByteArray.mk (a ++ b).toArray := by
      apply ByteArray.ext; simp [ByteArray.data_append]
    rw [e] at h
    have hb : binOp .add tx (.string ⟨a.toArray⟩) (.string ⟨b.toArray⟩) = Op.stringOp .add ⟨a.toArray⟩ ⟨b.toArray⟩ := by simp [binOp]
    simp only [execOp, hs.eval hx, hs.eval hy, st, hb]; simp [eqGuard_add, h]
theorem Y.lenS {x : Operand} {a : List UInt8} {tx : TypeId} (hu : P.underlying tx = some .string) (hx : val fs x = some (st a)) : Y P (.call ⟨.builtin .len, #[x], #[tx]⟩) t n fs C (.int .i64 a.length) :=
  Y.of fun d pos af g s w hs hw => by
    simp only [execOp, resolve, List.map_toArray, List.map_cons, List.map_nil, hs.eval hx, st]
    simp [invoke, builtin, Builtin.len_, run_underlying hu, goInt, st_size]
theorem Y.indexS {x y : Operand} {a : List UInt8} {b : UInt8} {k : IntKind} {z : Int} {tx : TypeId} (hu : P.underlying tx = some .string) (hx : val fs x = some (st a)) (hy : val fs y = some (.int k z)) (h0 : 0 ≤ z) (hb : a[z.toNat]? = some b) :
    Y P (.index tx x y) t n fs C (.int .u8 b.toNat) :=
  Y.of fun d pos af g s w hs hw => by
    obtain ⟨hl, hb'⟩ := List.getElem?_eq_some_iff.1 hb
    have h2 : (ByteArray.mk a.toArray)[z.toNat]? = some b := by
      have : z.toNat < (ByteArray.mk a.toArray).size := by rw [st_size]; exact hl
      rw [getElem?_pos (ByteArray.mk a.toArray) z.toNat this]
      exact congrArg some (show a.toArray[z.toNat]'(by simpa using hl) = b by simpa using hb')
    simp only [execOp, hs.eval hx, hs.eval hy, st]
    simp [Instr.index, run_underlying hu, asIntOf, h0, h2]
theorem st_extract (a : List UInt8) (i j : Nat) : (ByteArray.mk a.toArray).extract i j = ByteArray.mk ((a.take j).drop i).toArray := by
  apply ByteArray.ext
  simp only [ByteArray.data_extract, List.extract_toArray, List.extract_eq_take_drop]
  rw [List.drop_take]
/-- s[i:j], s[i:], s[:j] -/
theorem Y.sliceLH {x y z : Operand} {a : List UInt8} {k k' : IntKind} {i j : Int} {tx : TypeId} (hu : P.underlying tx = some .string) (hx : val fs x = some (st a)) (hy : val fs y = some (.int k i)) (hz : val fs z = some (.int k' j)) (h0 : 0 ≤ i) (h1 : i ≤ j)
    (h2 : j ≤ a.length) : Y P (.slice tx x (some y) (some z) none) t n fs C (st ((a.take j.toNat).drop i.toNat)) :=
  Y.of fun d pos af g s w hs hw => by
    have h := run_slice_string_if (P := P) w tx ⟨a.toArray⟩ k k' i j hu
    rw [if_pos ⟨by omega, by rw [st_size]; exact h2⟩, if_pos ⟨h0, h1⟩, st_extract] at h
    simp only [execOp, hs.eval hx, hs.eval hy, hs.eval hz, st, Option.map_some, Option.map_none]
    simp [run_sliceAt_string w tx _ _ _ _ hu, h]
theorem Y.sliceH {x z : Operand} {a : List UInt8} {k' : IntKind} {j : Int} {tx : TypeId} (hu : P.underlying tx = some .string) (hx : val fs x = some (st a)) (hz : val fs z = some (.int k' j)) (h0 : 0 ≤ j)
    (h2 : j ≤ a.length) : Y P (.slice tx x none (some z) none) t n fs C (st (a.take j.toNat)) :=
  Y.of fun d pos af g s w hs hw => by
    have h := run_slice_string_h (P := P) w tx ⟨a.toArray⟩ hu k' j h0 (by rw [st_size]; exact h2)
    rw [st_extract, List.drop_zero] at h
    simp only [execOp, hs.eval hx, hs.eval hz, st, Option.map_some, Option.map_none]
    simp [run_sliceAt_string w tx _ _ _ _ hu, h]
theorem Y.sliceL {x y : Operand} {a : List UInt8} {k : IntKind} {i : Int} {tx : TypeId} (hu : P.underlying tx = some .string) (hx : val fs x = some (st a)) (hy : val fs y = some (.int k i)) (h0 : 0 ≤ i)
    (h1 : i ≤ a.length) : Y P (.slice tx x (some y) none none) t n fs C (st (a.drop i.toNat)) :=
  Y.of fun d pos af g s w hs hw => by
    have h := run_slice_string_l (P := P) w tx ⟨a.toArray⟩ hu k i h0 (by rw [st_size]; exact h1)
    rw [st_extract, st_size, List.take_length] at h
    simp only [execOp, hs.eval hx, hs.eval hy, st, Option.map_some, Option.map_none]
    simp [run_sliceAt_string w tx _ _ _ _ hu, h]
theorem Y.conv {x : Operand} {src dst : TypeId} {k k' : IntKind} {a : Int} {ds : TypeDesc} (hs' : P.underlying src = some ds) (hd : P.underlying dst = some (.int k')) (hx : val fs x = some (.int k a)) : Y P (.convert src dst x) t n fs C (.int k' (k'.wrap a)) :=
  Y.of fun d pos af g s w hs hw => by
    simp only [execOp, hs.eval hx]
    simp [convert, run_underlying hs', run_underlying hd, Conv.intToInt]
theorem Y.extract {x : Operand} {vs : List Value} {i : Nat} {v : Value} (hx : val fs x = some (.tuple vs.toArray)) (hi : vs[i]? = some v) : Y P (.extract x i) t n fs C v :=
  Y.of fun d pos af g s w hs hw => by simp only [execOp, hs.eval hx]; simp [Instr.extract, hi]
end Go.S
