/-
  Walks, printed by a program of mine.
  Conditions: none.
-/
import Derived.Test.YtfmgjigdebofaaaLfM
import Derived.Test.YtfmgjigdebofaaaChecked
import Derived.KernelRfl
namespace Go.Proofs.Ytfmgjigdebofaaa
open Go.S
set_option linter.unusedVariables false
set_option linter.unusedSimpArgs false
theorem mixed : Try.prog.follows .mixedOrders = true := by kernel_rfl
theorem ag4 : aggB Try.prog 4 false = true := by kernel_rfl
theorem ag9 : aggB Try.prog 9 false = true := by kernel_rfl
theorem ag125 : aggB Try.prog 125 false = true := by kernel_rfl
theorem ag127 : aggB Try.prog 127 true = true := by kernel_rfl
theorem ag143 : aggB Try.prog 143 true = true := by kernel_rfl
theorem el5 : elemB Try.prog 5 1 1 = true := by kernel_rfl
theorem el143 : elemB Try.prog 143 2 24 = true := by kernel_rfl
theorem en27 : entB Try.prog 27 = true := by kernel_rfl
theorem en28 : entB Try.prog 28 = true := by kernel_rfl
theorem en35 : entB Try.prog 35 = true := by kernel_rfl
theorem en36 : entB Try.prog 36 = true := by kernel_rfl
theorem en81 : entB Try.prog 81 = true := by kernel_rfl
theorem en82 : entB Try.prog 82 = true := by kernel_rfl
theorem en83 : entB Try.prog 83 = true := by kernel_rfl
theorem en84 : entB Try.prog 84 = true := by kernel_rfl
theorem en85 : entB Try.prog 85 = true := by kernel_rfl
theorem en86 : entB Try.prog 86 = true := by kernel_rfl
theorem en87 : entB Try.prog 87 = true := by kernel_rfl
theorem en88 : entB Try.prog 88 = true := by kernel_rfl
theorem en89 : entB Try.prog 89 = true := by kernel_rfl
theorem en90 : entB Try.prog 90 = true := by kernel_rfl
theorem en91 : entB Try.prog 91 = true := by kernel_rfl
theorem en92 : entB Try.prog 92 = true := by kernel_rfl
theorem en93 : entB Try.prog 93 = true := by kernel_rfl
theorem en94 : entB Try.prog 94 = true := by kernel_rfl
theorem en136 : entB Try.prog 136 = true := by kernel_rfl
theorem en137 : entB Try.prog 137 = true := by kernel_rfl
theorem en138 : entB Try.prog 138 = true := by kernel_rfl
theorem en152 : entB Try.prog 152 = true := by kernel_rfl
theorem fd127_0 : fieldB Try.prog 127 0 0 = true := by kernel_rfl
theorem fd143_0 : fieldB Try.prog 143 0 0 = true := by kernel_rfl
theorem fd143_1 : fieldB Try.prog 143 1 1 = true := by kernel_rfl
theorem sz9 : szB Try.prog 9 1 = true := by kernel_rfl
theorem sz125 : szB Try.prog 125 1 = true := by kernel_rfl
theorem sz127 : szB Try.prog 127 1 = true := by kernel_rfl
theorem sz143 : szB Try.prog 143 2 = true := by kernel_rfl
theorem ze127 : zeroB Try.prog 127 = some [.slice none 0 0] := by kernel_rfl
theorem ze143 : zeroB Try.prog 143 = some [.bool false, .string ⟨#[]⟩] := by kernel_rfl
theorem plain_TSlot (l : List TSlot) : Plain (l.map TSlot.row) := by
  intro r hr u hu
  obtain ⟨x, _, rfl⟩ := List.mem_map.1 hr
  simp only [TSlot.row, List.mem_cons, List.not_mem_nil, or_false] at hu
  rcases hu with rfl | rfl <;> rfl
theorem eg143 : Try.prog.eqGuardType Try.prog.depth 143 = false := by kernel_rfl
theorem sh143 (x : TSlot) : shB Try.prog 5 143 x.row = true := by kernel_rfl
theorem inj143 (x y : TSlot) (h : x.row = y.row) : x = y := by
  cases x; cases y
  simpa [TSlot.row, st_inj] using h
set_option maxRecDepth 100000 in
set_option maxHeartbeats 8000000 in
theorem w36_quirref_NatR : ∀ (n : Nat) (a0 : Int) (w : World) (r : (List UInt8)) (h : m36_quirref_NatR n a0 = some r), Does Try.prog 36 [.int .u64 a0] w fun u m => u = st r ∧ m = [] := by
  intro n
  induction n with
  | zero => intro a0 w r h; rw [m36_quirref_NatR] at h; cases h
  | succ n ih =>
  intro a0 w r h
  rw [m36_quirref_NatR] at h
  generalize m36_quirref_NatR n = rec at h ih
  rw [m36_quirref_NatB] at h
  refine body (n := 19) Try.func36 rfl rfl rfl (Cls.refl w) ?_
  refine W.seq ?_
  refine W.region ?_
  refine L.y rfl (Y.assign rfl) ?_
  refine L.nil ?_
  refine E.thenN ?_
  refine W.seqJ (fun gs D => gs = [(0, .int .u64 a0)] ∧ D = Cls w [] [] ∧ m36_quirref_Nat_K1 a0 rec = some r) ?_ ?_
  ·
    refine W.seq ?_
    refine W.region ?_
    refine L.y rfl (Y.move rfl) ?_
    refine L.ite h rfl (Y.lss rfl rfl) (fun c11 h => ?_) (fun c11 h => ?_)
    ·
      refine L.nil ?_
      refine E.thenN ?_
      refine W.condT rfl ?_
      refine W.seq ?_
      refine W.region ?_
      refine L.y rfl (Y.move rfl) ?_
      refine L.y rfl (Y.conv Try.underlying41 Try.underlying5 rfl) ?_
      refine L.litOne rfl Try.underlying156 el5 rfl rfl ?_
      intro b12
      refine L.y rfl (Y.convBytes (l := [IntKind.wrap .u8 a0]) Try.underlying156 Try.underlying5 Try.underlying9 rfl (fun w hw => As.at_ (hw.get (i := 0) rfl))) ?_
      refine L.y rfl (Y.assign rfl) ?_
      refine L.nil ?_
      refine E.thenN ?_
      refine W.ret ?_
      refine E.KSR ?_
      refine E.ret1 rfl rfl (fun w1 hw => ?_)
      obtain rfl := Option.some.inj h
      exact ⟨_, _, rfl, ⟨rfl, rfl⟩, hw.sel [] (by decide) rfl⟩
    ·
      refine L.nil ?_
      refine E.thenN ?_
      refine W.condF rfl ?_
      refine W.skip ?_
      exact E.joinJ ⟨rfl, rfl, h⟩ ⟨rfl, trivial⟩ (fun _ hw => hw)
  ·
    rintro _ _ ⟨rfl, rfl, h⟩
    rw [m36_quirref_Nat_K1] at h
    refine W.seqJ (fun gs D => ∃ (gs1 : (List UInt8)), gs = [(2, st gs1)] ∧ D = Cls w [] [] ∧ m36_quirref_Nat_K2 gs1 = some r) ?_ ?_
    ·
      refine W.drawn (k := 11) (D := Cls w [] []) rfl mixed (fun _ hw => hw.drew) (fun _ hw => hw) ?_
      refine V.y (i := 0) (Nx.of (by kernel_rfl) rfl) rfl rfl rfl (Y.move rfl) ?_
      refine V.m (i := 1) (V' := fun x1 => .int .u64 x1) h (Nx.of (by kernel_rfl) rfl) rfl rfl rfl (Y.remM rfl rfl) (fun x1 ex1 h => ?_)
      refine V.y (i := 2) (Nx.of (by kernel_rfl) rfl) rfl rfl rfl (Y.addW rfl rfl) ?_
      refine V.y (i := 3) (Nx.of (by kernel_rfl) rfl) rfl rfl rfl (Y.conv Try.underlying41 Try.underlying5 rfl) ?_
      refine V.y (i := 6) (Nx.of (by kernel_rfl) rfl) rfl rfl rfl (Y.move rfl) ?_
      refine V.m (i := 7) (V' := fun x2 => .int .u64 x2) h (Nx.of (by kernel_rfl) rfl) rfl rfl rfl (Y.quoM rfl rfl) (fun x2 ex2 h => ?_)
      refine V.eff2 (i1 := 4) (i2 := 8) (by kernel_rfl) rfl rfl ?_ ?_
      ·
        refine L.litOne rfl Try.underlying156 el5 rfl rfl ?_
        intro b3
        refine L.nil ?_
        refine E.toV (D' := Cls w [] [.sl (sv b3 1) 5 1 (([IntKind.wrap .u8 (IntKind.wrap .u64 (x1 + 128))]).map (IK .u8))]) (fun _ hw => hw.sel [] (by decide) rfl) (fun _ hw => hw) ?_
        refine V.y (i := 5) (Nx.of (by kernel_rfl) rfl) rfl rfl rfl (Y.convBytes (l := [IntKind.wrap .u8 (IntKind.wrap .u64 (x1 + 128))]) Try.underlying156 Try.underlying5 Try.underlying9 rfl (fun w hw => As.at_ (hw.get (i := 0) rfl))) ?_
        refine V.eff (i := 8) (by kernel_rfl) rfl ?_
        obtain ⟨s4, e5, h⟩ := bind1S h
        refine L.y rfl (Y.does en36 rfl (fun w' hw => (ih x2 w' _ e5).mono (fun _ _ h => h.1))) ?_
        refine L.nil ?_
        refine E.toV (D' := Cls w [] [.sl (sv b3 1) 5 1 (([IntKind.wrap .u8 (IntKind.wrap .u64 (x1 + 128))]).map (IK .u8))]) (fun _ hw => hw) (fun _ hw => hw) ?_
        refine V.m (i := 9) (V' := fun s6 => st s6) h (Nx.of (by kernel_rfl) rfl) rfl rfl rfl (Y.catM rfl rfl) (fun s6 es6 h => ?_)
        refine V.y (i := 10) (Nx.of (by kernel_rfl) rfl) rfl rfl rfl (Y.assign rfl) ?_
        refine V.done (by kernel_rfl) ?_
        exact E.joinJ ⟨s6, rfl, rfl, h⟩ ⟨rfl, trivial⟩ (fun _ hw => hw.sel [] (by decide) rfl)
      ·
        obtain ⟨s7, e8, h⟩ := bind1S h
        refine L.y rfl (Y.does en36 rfl (fun w' hw => (ih x2 w' _ e8).mono (fun _ _ h => h.1))) ?_
        refine L.nil ?_
        refine E.toV (D' := Cls w [] []) (fun _ hw => hw) (fun _ hw => hw) ?_
        refine V.eff (i := 4) (by kernel_rfl) rfl ?_
        refine L.litOne rfl Try.underlying156 el5 rfl rfl ?_
        intro b9
        refine L.nil ?_
        refine E.toV (D' := Cls w [] [.sl (sv b9 1) 5 1 (([IntKind.wrap .u8 (IntKind.wrap .u64 (x1 + 128))]).map (IK .u8))]) (fun _ hw => hw.sel [] (by decide) rfl) (fun _ hw => hw) ?_
        refine V.y (i := 5) (Nx.of (by kernel_rfl) rfl) rfl rfl rfl (Y.convBytes (l := [IntKind.wrap .u8 (IntKind.wrap .u64 (x1 + 128))]) Try.underlying156 Try.underlying5 Try.underlying9 rfl (fun w hw => As.at_ (hw.get (i := 0) rfl))) ?_
        refine V.m (i := 9) (V' := fun s10 => st s10) h (Nx.of (by kernel_rfl) rfl) rfl rfl rfl (Y.catM rfl rfl) (fun s10 es10 h => ?_)
        refine V.y (i := 10) (Nx.of (by kernel_rfl) rfl) rfl rfl rfl (Y.assign rfl) ?_
        refine V.done (by kernel_rfl) ?_
        exact E.joinJ ⟨s10, rfl, rfl, h⟩ ⟨rfl, trivial⟩ (fun _ hw => hw.sel [] (by decide) rfl)
    ·
      rintro _ _ ⟨gs1, rfl, rfl, h⟩
      rw [m36_quirref_Nat_K2] at h
      refine W.ret ?_
      refine E.ret1 rfl rfl (fun w1 hw => ?_)
      obtain rfl := Option.some.inj h
      exact ⟨_, _, rfl, ⟨rfl, rfl⟩, hw⟩
theorem w36_quirref_Nat (a0 : Int) (w : World) (r : (List UInt8)) (h : m36_quirref_Nat a0 = some r) : Does Try.prog 36 [.int .u64 a0] w fun u m => u = st r ∧ m = [] := w36_quirref_NatR big a0 w r h
set_option maxRecDepth 100000 in
set_option maxHeartbeats 8000000 in
theorem w91_quirref_LeafText (a0 : TLeaf) (u0_0 : Value) (w : World) (r : (List UInt8)) (h : m91_quirref_LeafText a0 = some r) (hA0_0 : At w u0_0 2 (a0.Slots.map TSlot.row)) : Does Try.prog 91 [.agg #[u0_0]] w fun u m => u = st r ∧ m = [] := by
  rw [m91_quirref_LeafText] at h
  refine body (n := 36) Try.func91 rfl rfl rfl (Cls.refl w) ?_
  refine W.seq ?_
  refine W.region ?_
  refine L.box rfl rfl ?_
  intro b1
  refine L.y rfl (Y.assign rfl) ?_
  refine L.nil ?_
  refine E.thenN ?_
  refine W.seq ?_
  refine W.region ?_
  refine L.y rfl (Y.fieldP fd127_0 rfl) ?_
  refine L.y rfl (Y.loadP (i := 0) ag125 rfl rfl rfl) ?_
  refine L.y rfl (Y.lenM (g := TSlot.row) (l := a0.Slots) Try.underlying125 rfl (fun w' hw => hA0_0.cls0 hw)) ?_
  refine L.y rfl (Y.conv Try.underlying3 Try.underlying41 rfl) ?_
  obtain ⟨s2, e3, h⟩ := bind1S h
  refine L.y rfl (Y.does en36 rfl (fun w' hw => (w36_quirref_Nat (IntKind.wrap .u64 (a0.Slots.length : Int)) w' _ e3).mono (fun _ _ h => h.1))) ?_
  refine L.y rfl (Y.assign rfl) ?_
  refine L.nil ?_
  refine E.thenN ?_
  refine W.seqJ (fun gs D => ∃ (gs1 : (List UInt8)), gs = [(3, st gs1)] ∧ D = Cls w [] [] ∧ m91_quirref_LeafText_K1 gs1 = some r) ?_ ?_
  ·
    refine W.seq ?_
    refine W.region ?_
    refine L.y rfl (Y.fieldP fd127_0 rfl) ?_
    refine L.y rfl (Y.loadP (i := 0) ag125 rfl rfl rfl) ?_
    refine L.y rfl (Y.lenM (g := TSlot.row) (l := a0.Slots) Try.underlying125 rfl (fun w' hw => hA0_0.cls0 hw)) ?_
    refine L.y rfl (Y.move rfl) ?_
    refine L.nil ?_
    refine E.thenN ?_
    refine W.block ?_
    refine W.loopJ (fun m gs D => ∃ (gs2 : (List UInt8)) (gx3 : Int), gs = [(3, st gs2), (12, u0_0), (13, .int .i64 (a0.Slots.length : Int)), (14, .int .i64 gx3)] ∧ D = Cls w [] [] ∧ m91_quirref_LeafText_L1 a0 m gs2 gx3 = some r) ⟨s2, 0, rfl, rfl, h⟩ ⟨rfl, rfl, rfl, rfl, trivial⟩ (fun _ hw => hw.sel [] (by decide) rfl) ?_
    rintro m _ _ ⟨gs2, gx3, rfl, rfl, h⟩
    rcases m with _ | m
    · rw [m91_quirref_LeafText_L1] at h; cases h
    rw [m91_quirref_LeafText_L1] at h
    generalize hg1 : m91_quirref_LeafText_L1 a0 m = go1 at h
    rw [m91_quirref_LeafText_L1B] at h
    refine W.seq ?_
    refine W.region ?_
    refine L.ite h rfl (Y.lss rfl rfl) (fun c4 h => ?_) (fun c4 h => ?_)
    ·
      refine L.nil ?_
      refine E.thenN ?_
      refine W.seq ?_
      refine W.condT rfl ?_
      refine W.skip ?_
      refine E.thenN ?_
      refine W.seq ?_
      refine W.block ?_
      refine W.seq ?_
      refine W.region ?_
      refine L.m (V := fun _ => el u0_0 (gx3.toNat * 2)) h rfl (Y.indexM (g := TSlot.row) (l := a0.Slots) Try.underlying125 sz143 rfl rfl (fun w' hw => hA0_0.cls0 hw)) (fun x5 ex5 h => ?_)
      refine L.y rfl (Y.loadEN (r := [.bool x5.Used, st x5.Text]) ag143 sz143 rfl (fun w' hw => hA0_0.cls0 hw) (idx_map ex5) rfl) ?_
      refine L.alloc rfl ze143 ?_
      intro b6
      refine L.store (i := 0) sz143 rfl rfl rfl rfl (by simp [Value.oneCell', Value.cells, st]) rfl (Nat.le_of_ble_eq_true rfl) ?_
      refine L.nil ?_
      refine E.thenN ?_
      refine W.seq ?_
      refine W.seq ?_
      refine W.region ?_
      refine L.y rfl (Y.fieldP fd143_0 rfl) ?_
      refine L.iteB h rfl (Y.loadP (i := 0) ag4 rfl rfl rfl) (fun c7 h => ?_) (fun c7 h => ?_)
      ·
        refine L.y rfl (Y.not rfl) ?_
        refine L.nil ?_
        refine E.thenN ?_
        refine W.condF rfl ?_
        refine W.skip ?_
        refine E.thenN ?_
        refine W.quietC mixed (by kernel_rfl) (fun _ hw => hw.drew) (fun hC => ?_)
        refine U.y rfl (Y.move rfl) ?_
        refine U.y rfl (Y.fieldP fd143_1 rfl) ?_
        refine U.y rfl (Y.loadP (i := 0) ag9 rfl rfl rfl) ?_
        refine U.y rfl (Y.lenS Try.underlying9 rfl) ?_
        refine U.y rfl (Y.conv Try.underlying3 Try.underlying41 rfl) ?_
        refine U.y rfl (Y.addW rfl rfl) ?_
        obtain ⟨s8, e9, h⟩ := bind1S h
        refine U.y rfl (Y.does en36 rfl (fun w' hw => (w36_quirref_Nat (IntKind.wrap .u64 ((IntKind.wrap .u64 (x5.Text.length : Int)) + 1)) w' _ e9).mono (fun _ _ h => h.1))) ?_
        refine U.y rfl (Y.fieldP fd143_1 rfl) ?_
        refine U.y rfl (Y.loadP (i := 0) ag9 rfl rfl rfl) ?_
        refine U.m (V := fun s10 => st s10) h rfl (Y.catM rfl rfl) (fun s10 es10 h => ?_)
        refine U.m (V := fun s11 => st s11) h rfl (Y.catM rfl rfl) (fun s11 es11 h => ?_)
        refine U.y rfl (Y.assign rfl) ?_
        refine U.nil ?_
        refine E.blockN ?_
        refine E.thenN ?_
        refine W.region ?_
        refine L.m (V := fun x12 => .int .i64 x12) h rfl (Y.addM rfl rfl) (fun x12 ex12 h => ?_)
        refine L.y rfl (Y.move rfl) ?_
        refine L.nil ?_
        exact E.againJ ⟨s11, x12, rfl, rfl, by rw [hg1]; exact h⟩ (Nat.lt_succ_self _) ⟨rfl, rfl, rfl, rfl, trivial⟩ (fun _ hw => hw.sel [] (by decide) rfl)
      ·
        refine L.y rfl (Y.not rfl) ?_
        refine L.nil ?_
        refine E.thenN ?_
        refine W.condT rfl ?_
        refine W.seq ?_
        refine W.region ?_
        refine L.y rfl (Y.move rfl) ?_
        refine L.m (V := fun s13 => st s13) h rfl (Y.catM rfl rfl) (fun s13 es13 h => ?_)
        refine L.y rfl (Y.assign rfl) ?_
        refine L.nil ?_
        refine E.thenN ?_
        refine W.exit ?_
        refine E.thenX ?_
        refine E.blockX ?_
        refine E.thenN ?_
        refine W.region ?_
        refine L.m (V := fun x14 => .int .i64 x14) h rfl (Y.addM rfl rfl) (fun x14 ex14 h => ?_)
        refine L.y rfl (Y.move rfl) ?_
        refine L.nil ?_
        exact E.againJ ⟨s13, x14, rfl, rfl, by rw [hg1]; exact h⟩ (Nat.lt_succ_self _) ⟨rfl, rfl, rfl, rfl, trivial⟩ (fun _ hw => hw.sel [] (by decide) rfl)
    ·
      refine L.nil ?_
      refine E.thenN ?_
      refine W.seq ?_
      refine W.condF rfl ?_
      refine W.exit ?_
      refine E.thenX ?_
      refine E.KLX ?_
      refine E.blockX ?_
      exact E.joinJ ⟨gs2, rfl, rfl, h⟩ ⟨rfl, trivial⟩ (fun _ hw => hw)
  ·
    rintro _ _ ⟨gs1, rfl, rfl, h⟩
    rw [m91_quirref_LeafText_K1] at h
    refine W.seq ?_
    refine W.region ?_
    refine L.y rfl (Y.move rfl) ?_
    refine L.y rfl (Y.assign rfl) ?_
    refine L.nil ?_
    refine E.thenN ?_
    refine W.ret ?_
    refine E.ret1 rfl rfl (fun w1 hw => ?_)
    obtain rfl := Option.some.inj h
    exact ⟨_, _, rfl, ⟨rfl, rfl⟩, hw⟩
set_option maxRecDepth 100000 in
set_option maxHeartbeats 8000000 in
theorem w81_quirref_LeafErr (a0 : TLeaf) (u0_0 : Value) (w : World) (r : Int) (h : m81_quirref_LeafErr a0 = some r) (hA0_0 : At w u0_0 2 (a0.Slots.map TSlot.row)) : Does Try.prog 81 [.agg #[u0_0]] w fun u m => u = .int .i64 r ∧ m = [] := by
  rw [m81_quirref_LeafErr] at h
  refine body (n := 38) Try.func81 rfl rfl rfl (Cls.refl w) ?_
  refine W.seq ?_
  refine W.region ?_
  refine L.box rfl rfl ?_
  intro b1
  refine L.y rfl (Y.assign rfl) ?_
  refine L.nil ?_
  refine E.thenN ?_
  refine W.seqJ (fun gs D => gs = [(1, pt b1 0)] ∧ D = Cls w [] [.obj b1 [u0_0] 127] ∧ m81_quirref_LeafErr_K1 a0 = some r) ?_ ?_
  ·
    refine W.seq ?_
    refine W.region ?_
    refine L.y rfl (Y.fieldP fd127_0 rfl) ?_
    refine L.y rfl (Y.loadP (i := 0) ag125 rfl rfl rfl) ?_
    refine L.y rfl (Y.lenM (g := TSlot.row) (l := a0.Slots) Try.underlying125 rfl (fun w' hw => hA0_0.cls0 hw)) ?_
    refine L.ite h rfl (Y.gtr rfl rfl) (fun c14 h => ?_) (fun c14 h => ?_)
    ·
      refine L.nil ?_
      refine E.thenN ?_
      refine W.condT rfl ?_
      refine W.seq ?_
      refine W.region ?_
      refine L.y rfl (Y.assign rfl) ?_
      refine L.nil ?_
      refine E.thenN ?_
      refine W.ret ?_
      refine E.KSR ?_
      refine E.ret1 rfl rfl (fun w1 hw => ?_)
      obtain rfl := Option.some.inj h
      exact ⟨_, _, rfl, ⟨rfl, rfl⟩, hw.sel [] (by decide) rfl⟩
    ·
      refine L.nil ?_
      refine E.thenN ?_
      refine W.condF rfl ?_
      refine W.skip ?_
      exact E.joinJ ⟨rfl, rfl, h⟩ ⟨rfl, trivial⟩ (fun _ hw => hw)
  ·
    rintro _ _ ⟨rfl, rfl, h⟩
    rw [m81_quirref_LeafErr_K1] at h
    refine W.seqJ (fun gs D => gs = [(1, pt b1 0)] ∧ D = Cls w [] [.obj b1 [u0_0] 127] ∧ m81_quirref_LeafErr_K2 a0 = some r) ?_ ?_
    ·
      refine W.seq ?_
      refine W.region ?_
      refine L.y rfl (Y.fieldP fd127_0 rfl) ?_
      refine L.y rfl (Y.loadP (i := 0) ag125 rfl rfl rfl) ?_
      refine L.y rfl (Y.lenM (g := TSlot.row) (l := a0.Slots) Try.underlying125 rfl (fun w' hw => hA0_0.cls0 hw)) ?_
      refine L.y rfl (Y.move rfl) ?_
      refine L.nil ?_
      refine E.thenN ?_
      refine W.block ?_
      refine W.loopJ (fun m gs D => ∃ (gx1 : Int), gs = [(1, pt b1 0), (10, u0_0), (11, .int .i64 (a0.Slots.length : Int)), (12, .int .i64 gx1)] ∧ D = Cls w [] [.obj b1 [u0_0] 127] ∧ m81_quirref_LeafErr_L1 a0 m gx1 = some r) ⟨0, rfl, rfl, h⟩ ⟨rfl, rfl, rfl, rfl, trivial⟩ (fun _ hw => hw) ?_
      rintro m _ _ ⟨gx1, rfl, rfl, h⟩
      rcases m with _ | m
      · rw [m81_quirref_LeafErr_L1] at h; cases h
      rw [m81_quirref_LeafErr_L1] at h
      generalize hg1 : m81_quirref_LeafErr_L1 a0 m = go1 at h
      rw [m81_quirref_LeafErr_L1B] at h
      refine W.seq ?_
      refine W.region ?_
      refine L.ite h rfl (Y.lss rfl rfl) (fun c5 h => ?_) (fun c5 h => ?_)
      ·
        refine L.nil ?_
        refine E.thenN ?_
        refine W.seq ?_
        refine W.condT rfl ?_
        refine W.skip ?_
        refine E.thenN ?_
        refine W.seq ?_
        refine W.block ?_
        refine W.seq ?_
        refine W.region ?_
        refine L.y rfl (Y.move rfl) ?_
        refine L.m (V := fun _ => el u0_0 (gx1.toNat * 2)) h rfl (Y.indexM (g := TSlot.row) (l := a0.Slots) Try.underlying125 sz143 rfl rfl (fun w' hw => hA0_0.cls0 hw)) (fun x6 ex6 h => ?_)
        refine L.y rfl (Y.loadEN (r := [.bool x6.Used, st x6.Text]) ag143 sz143 rfl (fun w' hw => hA0_0.cls0 hw) (idx_map ex6) rfl) ?_
        refine L.alloc rfl ze143 ?_
        intro b7
        refine L.y rfl (Y.assign rfl) ?_
        refine L.store (i := 0) sz143 rfl rfl rfl rfl (by simp [Value.oneCell', Value.cells, st]) rfl (Nat.le_of_ble_eq_true rfl) ?_
        refine L.nil ?_
        refine E.thenN ?_
        refine W.seq ?_
        refine W.region ?_
        refine L.y rfl (Y.fieldP fd143_0 rfl) ?_
        refine L.iteB h rfl (Y.loadP (i := 0) ag4 rfl rfl rfl) (fun c8 h => ?_) (fun c8 h => ?_)
        ·
          refine L.y rfl (Y.not rfl) ?_
          refine L.y rfl (Y.move rfl) ?_
          refine L.pass rfl rfl (by nofun) ?_
          refine L.pass rfl rfl (by nofun) ?_
          refine L.pass rfl rfl (by nofun) ?_
          refine L.pass rfl rfl (by nofun) ?_
          refine L.pass rfl rfl (by nofun) ?_
          refine L.pass rfl rfl (by nofun) ?_
          refine L.pass rfl rfl (by nofun) ?_
          refine L.pass rfl rfl (by nofun) ?_
          refine L.pass rfl rfl (by nofun) ?_
          refine L.pass rfl rfl (by nofun) ?_
          refine L.pass rfl rfl (by nofun) ?_
          refine L.y rfl (Y.pickF rfl rfl) ?_
          refine L.nil ?_
          refine E.thenN ?_
          refine W.condF rfl ?_
          refine W.skip ?_
          refine E.blockN ?_
          refine E.thenN ?_
          refine W.region ?_
          refine L.m (V := fun x9 => .int .i64 x9) h rfl (Y.addM rfl rfl) (fun x9 ex9 h => ?_)
          refine L.y rfl (Y.move rfl) ?_
          refine L.nil ?_
          exact E.againJ ⟨x9, rfl, rfl, by rw [hg1]; exact h⟩ (Nat.lt_succ_self _) ⟨rfl, rfl, rfl, rfl, trivial⟩ (fun _ hw => hw.sel [1] (by decide) rfl)
        ·
          refine L.y rfl (Y.not rfl) ?_
          refine L.y rfl (Y.move rfl) ?_
          refine L.take rfl ?_
          refine L.y rfl (Y.fieldP fd143_1 rfl) ?_
          refine L.take rfl ?_
          refine L.y rfl (Y.loadP (i := 0) ag9 rfl rfl rfl) ?_
          refine L.take rfl ?_
          refine L.ite h rfl (Y.neqS rfl rfl) (fun c10 h => ?_) (fun c10 h => ?_)
          ·
            refine L.take rfl ?_
            refine L.y rfl (Y.move rfl) ?_
            refine L.pass rfl rfl (by nofun) ?_
            refine L.pass rfl rfl (by nofun) ?_
            refine L.pass rfl rfl (by nofun) ?_
            refine L.pass rfl rfl (by nofun) ?_
            refine L.pass rfl rfl (by nofun) ?_
            refine L.pass rfl rfl (by nofun) ?_
            refine L.take rfl ?_
            refine L.y rfl (Y.pickT rfl rfl) ?_
            refine L.y rfl (Y.pickT rfl rfl) ?_
            refine L.nil ?_
            refine E.thenN ?_
            refine W.condT rfl ?_
            refine W.seq ?_
            refine W.region ?_
            refine L.y rfl (Y.assign rfl) ?_
            refine L.nil ?_
            refine E.thenN ?_
            refine W.ret ?_
            refine E.blockR ?_
            refine E.thenR ?_
            refine E.KLR ?_
            refine E.blockR ?_
            refine E.KSR ?_
            refine E.ret1 rfl rfl (fun w1 hw => ?_)
            obtain rfl := Option.some.inj h
            exact ⟨_, _, rfl, ⟨rfl, rfl⟩, hw.sel [] (by decide) rfl⟩
          ·
            refine L.take rfl ?_
            refine L.y rfl (Y.move rfl) ?_
            refine L.take rfl ?_
            refine L.y rfl (Y.move rfl) ?_
            refine L.take rfl ?_
            refine L.y rfl (Y.fieldP fd127_0 rfl) ?_
            refine L.take rfl ?_
            refine L.y rfl (Y.loadP (i := 1) ag125 rfl rfl rfl) ?_
            refine L.take rfl ?_
            refine L.y rfl (Y.lenM (g := TSlot.row) (l := a0.Slots) Try.underlying125 rfl (fun w' hw => hA0_0.cls0 hw)) ?_
            refine L.take rfl ?_
            refine L.m (V := fun x11 => .int .i64 x11) h rfl (Y.subM rfl rfl) (fun x11 ex11 h => ?_)
            refine L.take rfl ?_
            refine L.ite h rfl (Y.eql rfl rfl) (fun c12 h => ?_) (fun c12 h => ?_)
            ·
              refine L.take rfl ?_
              refine L.y rfl (Y.pickF rfl rfl) ?_
              refine L.y rfl (Y.pickT rfl rfl) ?_
              refine L.nil ?_
              refine E.thenN ?_
              refine W.condT rfl ?_
              refine W.seq ?_
              refine W.region ?_
              refine L.y rfl (Y.assign rfl) ?_
              refine L.nil ?_
              refine E.thenN ?_
              refine W.ret ?_
              refine E.blockR ?_
              refine E.thenR ?_
              refine E.KLR ?_
              refine E.blockR ?_
              refine E.KSR ?_
              refine E.ret1 rfl rfl (fun w1 hw => ?_)
              obtain rfl := Option.some.inj h
              exact ⟨_, _, rfl, ⟨rfl, rfl⟩, hw.sel [] (by decide) rfl⟩
            ·
              refine L.take rfl ?_
              refine L.y rfl (Y.pickF rfl rfl) ?_
              refine L.y rfl (Y.pickT rfl rfl) ?_
              refine L.nil ?_
              refine E.thenN ?_
              refine W.condF rfl ?_
              refine W.skip ?_
              refine E.blockN ?_
              refine E.thenN ?_
              refine W.region ?_
              refine L.m (V := fun x13 => .int .i64 x13) h rfl (Y.addM rfl rfl) (fun x13 ex13 h => ?_)
              refine L.y rfl (Y.move rfl) ?_
              refine L.nil ?_
              exact E.againJ ⟨x13, rfl, rfl, by rw [hg1]; exact h⟩ (Nat.lt_succ_self _) ⟨rfl, rfl, rfl, rfl, trivial⟩ (fun _ hw => hw.sel [1] (by decide) rfl)
      ·
        refine L.nil ?_
        refine E.thenN ?_
        refine W.seq ?_
        refine W.condF rfl ?_
        refine W.exit ?_
        refine E.thenX ?_
        refine E.KLX ?_
        refine E.blockX ?_
        exact E.joinJ ⟨rfl, rfl, h⟩ ⟨rfl, trivial⟩ (fun _ hw => hw)
    ·
      rintro _ _ ⟨rfl, rfl, h⟩
      rw [m81_quirref_LeafErr_K2] at h
      refine W.seq ?_
      refine W.seq ?_
      refine W.region ?_
      refine L.y rfl (Y.loadPW (i := 0) ag127 sz127 rfl rfl rfl) ?_
      obtain ⟨s2, e3, h⟩ := bind1S h
      refine L.y rfl (Y.does en91 rfl (fun w' hw => (w91_quirref_LeafText a0 u0_0 w' _ e3 (hA0_0.cls0 hw)).mono (fun _ _ h => h.1))) ?_
      refine L.y rfl (Y.lenS Try.underlying9 rfl) ?_
      refine L.ite h rfl (Y.gtr rfl rfl) (fun c4 h => ?_) (fun c4 h => ?_)
      ·
        refine L.nil ?_
        refine E.thenN ?_
        refine W.condT rfl ?_
        refine W.seq ?_
        refine W.region ?_
        refine L.y rfl (Y.assign rfl) ?_
        refine L.nil ?_
        refine E.thenN ?_
        refine W.ret ?_
        refine E.thenR ?_
        refine E.ret1 rfl rfl (fun w1 hw => ?_)
        obtain rfl := Option.some.inj h
        exact ⟨_, _, rfl, ⟨rfl, rfl⟩, hw.sel [] (by decide) rfl⟩
      ·
        refine L.nil ?_
        refine E.thenN ?_
        refine W.condF rfl ?_
        refine W.skip ?_
        refine E.thenN ?_
        refine W.seq ?_
        refine W.region ?_
        refine L.y rfl (Y.assign rfl) ?_
        refine L.nil ?_
        refine E.thenN ?_
        refine W.ret ?_
        refine E.ret1 rfl rfl (fun w1 hw => ?_)
        obtain rfl := Option.some.inj h
        exact ⟨_, _, rfl, ⟨rfl, rfl⟩, hw.sel [] (by decide) rfl⟩
set_option maxRecDepth 100000 in
set_option maxHeartbeats 8000000 in
theorem w35_code_PutNat (a0 : Int) (w : World) (r : (List UInt8)) (h : m35_code_PutNat a0 = some r) : Does Try.prog 35 [.int .u64 a0] w fun u m => u = st r ∧ m = [] := by
  rw [m35_code_PutNat] at h
  refine body (n := 20) Try.func35 rfl rfl rfl (Cls.refl w) ?_
  refine W.seq ?_
  refine W.region ?_
  refine L.y rfl (Y.assign rfl) ?_
  refine L.nil ?_
  refine E.thenN ?_
  refine W.seq ?_
  refine W.region ?_
  refine L.y rfl (Y.assign rfl) ?_
  refine L.nil ?_
  refine E.thenN ?_
  refine W.seqJ (fun gs D => ∃ (gx1 : Int) (gv2 : Value) (gl3 : (List Int)), gs = [(0, .int .u64 gx1), (3, gv2)] ∧ D = Cls w [] [.sl gv2 5 1 (gl3.map (IK .u8))] ∧ m35_code_PutNat_K1 gx1 gl3 = some r) ?_ ?_
  ·
    refine W.block ?_
    refine W.nilSl 5 1 ?_
    refine W.loopJ (fun m gs D => ∃ (gx4 : Int) (gv5 : Value) (gl6 : (List Int)), gs = [(0, .int .u64 gx4), (3, gv5)] ∧ D = Cls w [] [.sl gv5 5 1 (gl6.map (IK .u8))] ∧ m35_code_PutNat_L1 m gx4 gl6 = some r) ⟨a0, .slice none 0 0, [], rfl, rfl, h⟩ ⟨rfl, rfl, trivial⟩ (fun _ hw => hw) ?_
    rintro m _ _ ⟨gx4, gv5, gl6, rfl, rfl, h⟩
    rcases m with _ | m
    · rw [m35_code_PutNat_L1] at h; cases h
    rw [m35_code_PutNat_L1] at h
    generalize hg1 : m35_code_PutNat_L1 m = go1 at h
    rw [m35_code_PutNat_L1B] at h
    refine W.seq ?_
    refine W.seq ?_
    refine W.region ?_
    refine L.y rfl (Y.move rfl) ?_
    refine L.ite h rfl (Y.geq rfl rfl) (fun c4 h => ?_) (fun c4 h => ?_)
    ·
      refine L.nil ?_
      refine E.thenN ?_
      refine W.condT rfl ?_
      refine W.skip ?_
      refine E.thenN ?_
      refine W.block ?_
      refine W.seq ?_
      refine W.region ?_
      refine L.y rfl (Y.move rfl) ?_
      refine L.y rfl (Y.move rfl) ?_
      refine L.y rfl (Y.conv Try.underlying41 Try.underlying5 rfl) ?_
      refine L.y rfl (Y.or rfl rfl) ?_
      refine L.litOne rfl Try.underlying156 el5 rfl rfl ?_
      intro b5
      refine L.appM (i := 1) (g := (IK .u8)) (l := gl6) (more := [Go.bits .or .u8 (IntKind.wrap .u8 gx4) 128]) h rfl Try.underlying156 el5 rfl rfl rfl (fun w hw => As.at_ (hw.get (i := 0) rfl)) (plain_IK _) rfl ?_
      intro v6 l7 el7 h
      refine L.y rfl (Y.assign rfl) ?_
      refine L.nil ?_
      refine E.thenN ?_
      refine W.region ?_
      refine L.y rfl (Y.move rfl) ?_
      refine L.m (V := fun x8 => .int .u64 x8) h rfl (Y.shrM rfl rfl) (fun x8 ex8 h => ?_)
      refine L.y rfl (Y.assign rfl) ?_
      refine L.nil ?_
      refine E.blockN ?_
      exact E.againJ ⟨x8, v6, l7, rfl, rfl, by rw [hg1]; exact h⟩ (Nat.lt_succ_self _) ⟨rfl, rfl, trivial⟩ (fun _ hw => hw.sel [0] (by decide) rfl)
    ·
      refine L.nil ?_
      refine E.thenN ?_
      refine W.condF rfl ?_
      refine W.exit ?_
      refine E.thenX ?_
      refine E.KLX ?_
      refine E.blockX ?_
      exact E.joinJ ⟨gx4, gv5, gl6, rfl, rfl, h⟩ ⟨rfl, rfl, trivial⟩ (fun _ hw => hw)
  ·
    rintro _ _ ⟨gx1, gv2, gl3, rfl, rfl, h⟩
    rw [m35_code_PutNat_K1] at h
    refine W.seq ?_
    refine W.region ?_
    refine L.y rfl (Y.move rfl) ?_
    refine L.y rfl (Y.move rfl) ?_
    refine L.y rfl (Y.conv Try.underlying41 Try.underlying5 rfl) ?_
    refine L.litOne rfl Try.underlying156 el5 rfl rfl ?_
    intro b1
    refine L.appM (i := 1) (g := (IK .u8)) (l := gl3) (more := [IntKind.wrap .u8 gx1]) h rfl Try.underlying156 el5 rfl rfl rfl (fun w hw => As.at_ (hw.get (i := 0) rfl)) (plain_IK _) rfl ?_
    intro v2 l3 el3 h
    refine L.y rfl (Y.convBytes (l := l3) Try.underlying156 Try.underlying5 Try.underlying9 rfl (fun w hw => As.at_ (hw.get (i := 0) rfl))) ?_
    refine L.y rfl (Y.assign rfl) ?_
    refine L.nil ?_
    refine E.thenN ?_
    refine W.ret ?_
    refine E.ret1 rfl rfl (fun w1 hw => ?_)
    obtain rfl := Option.some.inj h
    exact ⟨_, _, rfl, ⟨rfl, rfl⟩, hw.sel [] (by decide) rfl⟩
set_option maxRecDepth 100000 in
set_option maxHeartbeats 8000000 in
theorem w152_leaf_slotSize (a0 : TSlot) (w : World) (r : Int) (h : m152_leaf_slotSize a0 = some r) : Does Try.prog 152 [.agg #[.bool a0.Used, st a0.Text]] w fun u m => u = .int .i64 r ∧ m = [] := by
  rw [m152_leaf_slotSize] at h
  refine body (n := 17) Try.func152 rfl rfl rfl (Cls.refl w) ?_
  refine W.seq ?_
  refine W.region ?_
  refine L.box rfl rfl ?_
  intro b1
  refine L.y rfl (Y.assign rfl) ?_
  refine L.nil ?_
  refine E.thenN ?_
  refine W.seq ?_
  refine W.seq ?_
  refine W.region ?_
  refine L.y rfl (Y.fieldP fd143_0 rfl) ?_
  refine L.iteB h rfl (Y.loadP (i := 0) ag4 rfl rfl rfl) (fun c2 h => ?_) (fun c2 h => ?_)
  ·
    refine L.y rfl (Y.not rfl) ?_
    refine L.nil ?_
    refine E.thenN ?_
    refine W.condF rfl ?_
    refine W.skip ?_
    refine E.thenN ?_
    refine W.seq ?_
    refine W.quietC mixed (by kernel_rfl) (fun _ hw => hw.drew) (fun hC => ?_)
    refine U.y rfl (Y.fieldP fd143_1 rfl) ?_
    refine U.y rfl (Y.loadP (i := 0) ag9 rfl rfl rfl) ?_
    refine U.y rfl (Y.lenS Try.underlying9 rfl) ?_
    refine U.m (V := fun x3 => .int .i64 x3) h rfl (Y.addM rfl rfl) (fun x3 ex3 h => ?_)
    refine U.y rfl (Y.conv Try.underlying3 Try.underlying41 rfl) ?_
    obtain ⟨s4, e5, h⟩ := bind1S h
    refine U.y rfl (Y.does en35 rfl (fun w' hw => (w35_code_PutNat (IntKind.wrap .u64 x3) w' _ e5).mono (fun _ _ h => h.1))) ?_
    refine U.y rfl (Y.lenS Try.underlying9 rfl) ?_
    refine U.y rfl (Y.fieldP fd143_1 rfl) ?_
    refine U.y rfl (Y.loadP (i := 0) ag9 rfl rfl rfl) ?_
    refine U.y rfl (Y.lenS Try.underlying9 rfl) ?_
    refine U.m (V := fun x6 => .int .i64 x6) h rfl (Y.addM rfl rfl) (fun x6 ex6 h => ?_)
    refine U.y rfl (Y.assign rfl) ?_
    refine U.nil ?_
    refine E.thenN ?_
    refine W.ret ?_
    refine E.ret1 rfl rfl (fun w1 hw => ?_)
    obtain rfl := Option.some.inj h
    exact ⟨_, _, rfl, ⟨rfl, rfl⟩, hw.sel [] (by decide) rfl⟩
  ·
    refine L.y rfl (Y.not rfl) ?_
    refine L.nil ?_
    refine E.thenN ?_
    refine W.condT rfl ?_
    refine W.seq ?_
    refine W.region ?_
    refine L.y rfl (Y.assign rfl) ?_
    refine L.nil ?_
    refine E.thenN ?_
    refine W.ret ?_
    refine E.thenR ?_
    refine E.ret1 rfl rfl (fun w1 hw => ?_)
    obtain rfl := Option.some.inj h
    exact ⟨_, _, rfl, ⟨rfl, rfl⟩, hw.sel [] (by decide) rfl⟩
set_option maxRecDepth 100000 in
set_option maxHeartbeats 8000000 in
theorem w136_leaf_size (a0 : TLeaf) (u0_0 : Value) (w : World) (r : Int) (h : m136_leaf_size a0 = some r) (hA0_0 : At w u0_0 2 (a0.Slots.map TSlot.row)) : Does Try.prog 136 [.agg #[u0_0]] w fun u m => u = .int .i64 r ∧ m = [] := by
  rw [m136_leaf_size] at h
  refine body (n := 25) Try.func136 rfl rfl rfl (Cls.refl w) ?_
  refine W.seq ?_
  refine W.region ?_
  refine L.box rfl rfl ?_
  intro b1
  refine L.y rfl (Y.assign rfl) ?_
  refine L.nil ?_
  refine E.thenN ?_
  refine W.seq ?_
  refine W.region ?_
  refine L.y rfl (Y.fieldP fd127_0 rfl) ?_
  refine L.y rfl (Y.loadP (i := 0) ag125 rfl rfl rfl) ?_
  refine L.y rfl (Y.lenM (g := TSlot.row) (l := a0.Slots) Try.underlying125 rfl (fun w' hw => hA0_0.cls0 hw)) ?_
  refine L.y rfl (Y.conv Try.underlying3 Try.underlying41 rfl) ?_
  obtain ⟨s2, e3, h⟩ := bind1S h
  refine L.y rfl (Y.does en35 rfl (fun w' hw => (w35_code_PutNat (IntKind.wrap .u64 (a0.Slots.length : Int)) w' _ e3).mono (fun _ _ h => h.1))) ?_
  refine L.y rfl (Y.lenS Try.underlying9 rfl) ?_
  refine L.y rfl (Y.assign rfl) ?_
  refine L.nil ?_
  refine E.thenN ?_
  refine W.seqJ (fun gs D => ∃ (gx1 : Int), gs = [(3, .int .i64 gx1)] ∧ D = Cls w [] [] ∧ m136_leaf_size_K1 gx1 = some r) ?_ ?_
  ·
    refine W.seq ?_
    refine W.region ?_
    refine L.y rfl (Y.fieldP fd127_0 rfl) ?_
    refine L.y rfl (Y.loadP (i := 0) ag125 rfl rfl rfl) ?_
    refine L.y rfl (Y.lenM (g := TSlot.row) (l := a0.Slots) Try.underlying125 rfl (fun w' hw => hA0_0.cls0 hw)) ?_
    refine L.y rfl (Y.move rfl) ?_
    refine L.nil ?_
    refine E.thenN ?_
    refine W.block ?_
    refine W.loopJ (fun m gs D => ∃ (gx2 : Int) (gx3 : Int), gs = [(3, .int .i64 gx2), (13, u0_0), (14, .int .i64 (a0.Slots.length : Int)), (15, .int .i64 gx3)] ∧ D = Cls w [] [] ∧ m136_leaf_size_L1 a0 m gx2 gx3 = some r) ⟨(s2.length : Int), 0, rfl, rfl, h⟩ ⟨rfl, rfl, rfl, rfl, trivial⟩ (fun _ hw => hw.sel [] (by decide) rfl) ?_
    rintro m _ _ ⟨gx2, gx3, rfl, rfl, h⟩
    rcases m with _ | m
    · rw [m136_leaf_size_L1] at h; cases h
    rw [m136_leaf_size_L1] at h
    generalize hg1 : m136_leaf_size_L1 a0 m = go1 at h
    rw [m136_leaf_size_L1B] at h
    refine W.seq ?_
    refine W.region ?_
    refine L.ite h rfl (Y.lss rfl rfl) (fun c4 h => ?_) (fun c4 h => ?_)
    ·
      refine L.nil ?_
      refine E.thenN ?_
      refine W.seq ?_
      refine W.condT rfl ?_
      refine W.skip ?_
      refine E.thenN ?_
      refine W.seq ?_
      refine W.block ?_
      refine W.seq ?_
      refine W.region ?_
      refine L.m (V := fun _ => el u0_0 (gx3.toNat * 2)) h rfl (Y.indexM (g := TSlot.row) (l := a0.Slots) Try.underlying125 sz143 rfl rfl (fun w' hw => hA0_0.cls0 hw)) (fun x5 ex5 h => ?_)
      refine L.y rfl (Y.loadEN (r := [.bool x5.Used, st x5.Text]) ag143 sz143 rfl (fun w' hw => hA0_0.cls0 hw) (idx_map ex5) rfl) ?_
      refine L.alloc rfl ze143 ?_
      intro b6
      refine L.store (i := 0) sz143 rfl rfl rfl rfl (by simp [Value.oneCell', Value.cells, st]) rfl (Nat.le_of_ble_eq_true rfl) ?_
      refine L.nil ?_
      refine E.thenN ?_
      refine W.region ?_
      refine L.y rfl (Y.move rfl) ?_
      refine L.y rfl (Y.loadPW (i := 0) ag143 sz143 rfl rfl rfl) ?_
      obtain ⟨x7, e8, h⟩ := bind1S h
      refine L.y rfl (Y.does en152 rfl (fun w' hw => (w152_leaf_slotSize x5 w' _ e8).mono (fun _ _ h => h.1))) ?_
      refine L.m (V := fun x9 => .int .i64 x9) h rfl (Y.addM rfl rfl) (fun x9 ex9 h => ?_)
      refine L.y rfl (Y.assign rfl) ?_
      refine L.nil ?_
      refine E.blockN ?_
      refine E.thenN ?_
      refine W.region ?_
      refine L.m (V := fun x10 => .int .i64 x10) h rfl (Y.addM rfl rfl) (fun x10 ex10 h => ?_)
      refine L.y rfl (Y.move rfl) ?_
      refine L.nil ?_
      exact E.againJ ⟨x9, x10, rfl, rfl, by rw [hg1]; exact h⟩ (Nat.lt_succ_self _) ⟨rfl, rfl, rfl, rfl, trivial⟩ (fun _ hw => hw.sel [] (by decide) rfl)
    ·
      refine L.nil ?_
      refine E.thenN ?_
      refine W.seq ?_
      refine W.condF rfl ?_
      refine W.exit ?_
      refine E.thenX ?_
      refine E.KLX ?_
      refine E.blockX ?_
      exact E.joinJ ⟨gx2, rfl, rfl, h⟩ ⟨rfl, trivial⟩ (fun _ hw => hw)
  ·
    rintro _ _ ⟨gx1, rfl, rfl, h⟩
    rw [m136_leaf_size_K1] at h
    refine W.seq ?_
    refine W.region ?_
    refine L.y rfl (Y.move rfl) ?_
    refine L.y rfl (Y.assign rfl) ?_
    refine L.nil ?_
    refine E.thenN ?_
    refine W.ret ?_
    refine E.ret1 rfl rfl (fun w1 hw => ?_)
    obtain rfl := Option.some.inj h
    exact ⟨_, _, rfl, ⟨rfl, rfl⟩, hw⟩
set_option maxRecDepth 100000 in
set_option maxHeartbeats 8000000 in
theorem w90_leaf_Check (a0 : TLeaf) (u0_0 : Value) (w : World) (r : Int) (h : m90_leaf_Check a0 = some r) (hA0_0 : At w u0_0 2 (a0.Slots.map TSlot.row)) : Does Try.prog 90 [.agg #[u0_0]] w fun u m => u = .int .i64 r ∧ m = [] := by
  rw [m90_leaf_Check] at h
  refine body (n := 44) Try.func90 rfl rfl rfl (Cls.refl w) ?_
  refine W.seq ?_
  refine W.region ?_
  refine L.box rfl rfl ?_
  intro b1
  refine L.y rfl (Y.assign rfl) ?_
  refine L.nil ?_
  refine E.thenN ?_
  refine W.seqJ (fun gs D => gs = [(1, pt b1 0)] ∧ D = Cls w [] [.obj b1 [u0_0] 127] ∧ m90_leaf_Check_K1 a0 = some r) ?_ ?_
  ·
    refine W.seq ?_
    refine W.region ?_
    refine L.y rfl (Y.fieldP fd127_0 rfl) ?_
    refine L.y rfl (Y.loadP (i := 0) ag125 rfl rfl rfl) ?_
    refine L.y rfl (Y.lenM (g := TSlot.row) (l := a0.Slots) Try.underlying125 rfl (fun w' hw => hA0_0.cls0 hw)) ?_
    refine L.ite h rfl (Y.gtr rfl rfl) (fun c16 h => ?_) (fun c16 h => ?_)
    ·
      refine L.nil ?_
      refine E.thenN ?_
      refine W.condT rfl ?_
      refine W.seq ?_
      refine W.region ?_
      refine L.y rfl (Y.assign rfl) ?_
      refine L.nil ?_
      refine E.thenN ?_
      refine W.ret ?_
      refine E.KSR ?_
      refine E.ret1 rfl rfl (fun w1 hw => ?_)
      obtain rfl := Option.some.inj h
      exact ⟨_, _, rfl, ⟨rfl, rfl⟩, hw.sel [] (by decide) rfl⟩
    ·
      refine L.nil ?_
      refine E.thenN ?_
      refine W.condF rfl ?_
      refine W.skip ?_
      exact E.joinJ ⟨rfl, rfl, h⟩ ⟨rfl, trivial⟩ (fun _ hw => hw)
  ·
    rintro _ _ ⟨rfl, rfl, h⟩
    rw [m90_leaf_Check_K1] at h
    refine W.seqJ (fun gs D => gs = [(1, pt b1 0)] ∧ D = Cls w [] [.obj b1 [u0_0] 127] ∧ m90_leaf_Check_K2 a0 = some r) ?_ ?_
    ·
      refine W.seq ?_
      refine W.region ?_
      refine L.y rfl (Y.fieldP fd127_0 rfl) ?_
      refine L.y rfl (Y.loadP (i := 0) ag125 rfl rfl rfl) ?_
      refine L.y rfl (Y.lenM (g := TSlot.row) (l := a0.Slots) Try.underlying125 rfl (fun w' hw => hA0_0.cls0 hw)) ?_
      refine L.y rfl (Y.move rfl) ?_
      refine L.nil ?_
      refine E.thenN ?_
      refine W.block ?_
      refine W.loopJ (fun m gs D => ∃ (gx1 : Int), gs = [(1, pt b1 0), (11, u0_0), (12, .int .i64 (a0.Slots.length : Int)), (13, .int .i64 gx1)] ∧ D = Cls w [] [.obj b1 [u0_0] 127] ∧ m90_leaf_Check_L1 a0 m gx1 = some r) ⟨0, rfl, rfl, h⟩ ⟨rfl, rfl, rfl, rfl, trivial⟩ (fun _ hw => hw) ?_
      rintro m _ _ ⟨gx1, rfl, rfl, h⟩
      rcases m with _ | m
      · rw [m90_leaf_Check_L1] at h; cases h
      rw [m90_leaf_Check_L1] at h
      generalize hg1 : m90_leaf_Check_L1 a0 m = go1 at h
      rw [m90_leaf_Check_L1B] at h
      refine W.seq ?_
      refine W.region ?_
      refine L.ite h rfl (Y.lss rfl rfl) (fun c9 h => ?_) (fun c9 h => ?_)
      ·
        refine L.nil ?_
        refine E.thenN ?_
        refine W.seq ?_
        refine W.condT rfl ?_
        refine W.skip ?_
        refine E.thenN ?_
        refine W.seq ?_
        refine W.block ?_
        refine W.seq ?_
        refine W.region ?_
        refine L.m (V := fun _ => el u0_0 (gx1.toNat * 2)) h rfl (Y.indexM (g := TSlot.row) (l := a0.Slots) Try.underlying125 sz143 rfl rfl (fun w' hw => hA0_0.cls0 hw)) (fun x10 ex10 h => ?_)
        refine L.y rfl (Y.loadEN (r := [.bool x10.Used, st x10.Text]) ag143 sz143 rfl (fun w' hw => hA0_0.cls0 hw) (idx_map ex10) rfl) ?_
        refine L.alloc rfl ze143 ?_
        intro b11
        refine L.store (i := 0) sz143 rfl rfl rfl rfl (by simp [Value.oneCell', Value.cells, st]) rfl (Nat.le_of_ble_eq_true rfl) ?_
        refine L.nil ?_
        refine E.thenN ?_
        refine W.seq ?_
        refine W.region ?_
        refine L.y rfl (Y.fieldP fd143_0 rfl) ?_
        refine L.iteB h rfl (Y.loadP (i := 0) ag4 rfl rfl rfl) (fun c12 h => ?_) (fun c12 h => ?_)
        ·
          refine L.y rfl (Y.not rfl) ?_
          refine L.y rfl (Y.move rfl) ?_
          refine L.pass rfl rfl (by nofun) ?_
          refine L.pass rfl rfl (by nofun) ?_
          refine L.pass rfl rfl (by nofun) ?_
          refine L.y rfl (Y.pickF rfl rfl) ?_
          refine L.nil ?_
          refine E.thenN ?_
          refine W.condF rfl ?_
          refine W.skip ?_
          refine E.blockN ?_
          refine E.thenN ?_
          refine W.region ?_
          refine L.m (V := fun x13 => .int .i64 x13) h rfl (Y.addM rfl rfl) (fun x13 ex13 h => ?_)
          refine L.y rfl (Y.move rfl) ?_
          refine L.nil ?_
          exact E.againJ ⟨x13, rfl, rfl, by rw [hg1]; exact h⟩ (Nat.lt_succ_self _) ⟨rfl, rfl, rfl, rfl, trivial⟩ (fun _ hw => hw.sel [1] (by decide) rfl)
        ·
          refine L.y rfl (Y.not rfl) ?_
          refine L.y rfl (Y.move rfl) ?_
          refine L.take rfl ?_
          refine L.y rfl (Y.fieldP fd143_1 rfl) ?_
          refine L.take rfl ?_
          refine L.y rfl (Y.loadP (i := 0) ag9 rfl rfl rfl) ?_
          refine L.take rfl ?_
          refine L.ite h rfl (Y.neqS rfl rfl) (fun c14 h => ?_) (fun c14 h => ?_)
          ·
            refine L.y rfl (Y.pickT rfl rfl) ?_
            refine L.nil ?_
            refine E.thenN ?_
            refine W.condT rfl ?_
            refine W.seq ?_
            refine W.region ?_
            refine L.y rfl (Y.assign rfl) ?_
            refine L.nil ?_
            refine E.thenN ?_
            refine W.ret ?_
            refine E.blockR ?_
            refine E.thenR ?_
            refine E.KLR ?_
            refine E.blockR ?_
            refine E.KSR ?_
            refine E.ret1 rfl rfl (fun w1 hw => ?_)
            obtain rfl := Option.some.inj h
            exact ⟨_, _, rfl, ⟨rfl, rfl⟩, hw.sel [] (by decide) rfl⟩
          ·
            refine L.y rfl (Y.pickT rfl rfl) ?_
            refine L.nil ?_
            refine E.thenN ?_
            refine W.condF rfl ?_
            refine W.skip ?_
            refine E.blockN ?_
            refine E.thenN ?_
            refine W.region ?_
            refine L.m (V := fun x15 => .int .i64 x15) h rfl (Y.addM rfl rfl) (fun x15 ex15 h => ?_)
            refine L.y rfl (Y.move rfl) ?_
            refine L.nil ?_
            exact E.againJ ⟨x15, rfl, rfl, by rw [hg1]; exact h⟩ (Nat.lt_succ_self _) ⟨rfl, rfl, rfl, rfl, trivial⟩ (fun _ hw => hw.sel [1] (by decide) rfl)
      ·
        refine L.nil ?_
        refine E.thenN ?_
        refine W.seq ?_
        refine W.condF rfl ?_
        refine W.exit ?_
        refine E.thenX ?_
        refine E.KLX ?_
        refine E.blockX ?_
        exact E.joinJ ⟨rfl, rfl, h⟩ ⟨rfl, trivial⟩ (fun _ hw => hw)
    ·
      rintro _ _ ⟨rfl, rfl, h⟩
      rw [m90_leaf_Check_K2] at h
      refine W.seqJ (fun gs D => gs = [(1, pt b1 0)] ∧ D = Cls w [] [.obj b1 [u0_0] 127] ∧ m90_leaf_Check_K3 a0 = some r) ?_ ?_
      ·
        refine W.seq ?_
        refine W.region ?_
        refine L.y rfl (Y.fieldP fd127_0 rfl) ?_
        refine L.y rfl (Y.loadP (i := 0) ag125 rfl rfl rfl) ?_
        refine L.y rfl (Y.lenM (g := TSlot.row) (l := a0.Slots) Try.underlying125 rfl (fun w' hw => hA0_0.cls0 hw)) ?_
        refine L.y rfl (Y.assign rfl) ?_
        refine L.nil ?_
        refine E.thenN ?_
        refine W.seq ?_
        refine W.region ?_
        refine L.y rfl (Y.move rfl) ?_
        refine L.ite h rfl (Y.gtr rfl rfl) (fun c5 h => ?_) (fun c5 h => ?_)
        ·
          refine L.y rfl (Y.move rfl) ?_
          refine L.take rfl ?_
          refine L.y rfl (Y.fieldP fd127_0 rfl) ?_
          refine L.take rfl ?_
          refine L.y rfl (Y.loadP (i := 0) ag125 rfl rfl rfl) ?_
          refine L.take rfl ?_
          refine L.y rfl (Y.move rfl) ?_
          refine L.take rfl ?_
          refine L.m (V := fun x6 => .int .i64 x6) h rfl (Y.subM rfl rfl) (fun x6 ex6 h => ?_)
          refine L.take rfl ?_
          refine L.m (V := fun _ => el u0_0 (x6.toNat * 2)) h rfl (Y.indexM (g := TSlot.row) (l := a0.Slots) Try.underlying125 sz143 rfl rfl (fun w' hw => hA0_0.cls0 hw)) (fun x7 ex7 h => ?_)
          refine L.take rfl ?_
          refine L.y rfl (Y.fieldE fd143_0 rfl) ?_
          refine L.take rfl ?_
          refine L.iteB h rfl (Y.loadE (u := .bool x7.Used) ag4 rfl (fun w' hw => hA0_0.cls0 hw) (idx_map ex7) rfl) (fun c8 h => ?_) (fun c8 h => ?_)
          ·
            refine L.take rfl ?_
            refine L.y rfl (Y.not rfl) ?_
            refine L.y rfl (Y.pickT rfl rfl) ?_
            refine L.nil ?_
            refine E.thenN ?_
            refine W.condF rfl ?_
            refine W.skip ?_
            exact E.joinJ ⟨rfl, rfl, h⟩ ⟨rfl, trivial⟩ (fun _ hw => hw)
          ·
            refine L.take rfl ?_
            refine L.y rfl (Y.not rfl) ?_
            refine L.y rfl (Y.pickT rfl rfl) ?_
            refine L.nil ?_
            refine E.thenN ?_
            refine W.condT rfl ?_
            refine W.seq ?_
            refine W.region ?_
            refine L.y rfl (Y.assign rfl) ?_
            refine L.nil ?_
            refine E.thenN ?_
            refine W.ret ?_
            refine E.KSR ?_
            refine E.ret1 rfl rfl (fun w1 hw => ?_)
            obtain rfl := Option.some.inj h
            exact ⟨_, _, rfl, ⟨rfl, rfl⟩, hw.sel [] (by decide) rfl⟩
        ·
          refine L.y rfl (Y.move rfl) ?_
          refine L.pass rfl rfl (by nofun) ?_
          refine L.pass rfl rfl (by nofun) ?_
          refine L.pass rfl rfl (by nofun) ?_
          refine L.pass rfl rfl (by nofun) ?_
          refine L.pass rfl rfl (by nofun) ?_
          refine L.pass rfl rfl (by nofun) ?_
          refine L.pass rfl rfl (by nofun) ?_
          refine L.pass rfl rfl (by nofun) ?_
          refine L.y rfl (Y.pickF rfl rfl) ?_
          refine L.nil ?_
          refine E.thenN ?_
          refine W.condF rfl ?_
          refine W.skip ?_
          exact E.joinJ ⟨rfl, rfl, h⟩ ⟨rfl, trivial⟩ (fun _ hw => hw)
      ·
        rintro _ _ ⟨rfl, rfl, h⟩
        rw [m90_leaf_Check_K3] at h
        refine W.seq ?_
        refine W.seq ?_
        refine W.region ?_
        refine L.y rfl (Y.loadPW (i := 0) ag127 sz127 rfl rfl rfl) ?_
        obtain ⟨x2, e3, h⟩ := bind1S h
        refine L.y rfl (Y.does en136 rfl (fun w' hw => (w136_leaf_size a0 u0_0 w' _ e3 (hA0_0.cls0 hw)).mono (fun _ _ h => h.1))) ?_
        refine L.ite h rfl (Y.gtr rfl rfl) (fun c4 h => ?_) (fun c4 h => ?_)
        ·
          refine L.nil ?_
          refine E.thenN ?_
          refine W.condT rfl ?_
          refine W.seq ?_
          refine W.region ?_
          refine L.y rfl (Y.assign rfl) ?_
          refine L.nil ?_
          refine E.thenN ?_
          refine W.ret ?_
          refine E.thenR ?_
          refine E.ret1 rfl rfl (fun w1 hw => ?_)
          obtain rfl := Option.some.inj h
          exact ⟨_, _, rfl, ⟨rfl, rfl⟩, hw.sel [] (by decide) rfl⟩
        ·
          refine L.nil ?_
          refine E.thenN ?_
          refine W.condF rfl ?_
          refine W.skip ?_
          refine E.thenN ?_
          refine W.seq ?_
          refine W.region ?_
          refine L.y rfl (Y.assign rfl) ?_
          refine L.nil ?_
          refine E.thenN ?_
          refine W.ret ?_
          refine E.ret1 rfl rfl (fun w1 hw => ?_)
          obtain rfl := Option.some.inj h
          exact ⟨_, _, rfl, ⟨rfl, rfl⟩, hw.sel [] (by decide) rfl⟩
set_option maxRecDepth 100000 in
set_option maxHeartbeats 8000000 in
theorem w82_leaf_Free (a0 : TLeaf) (u0_0 : Value) (w : World) (r : (Int × Int)) (h : m82_leaf_Free a0 = some r) (hA0_0 : At w u0_0 2 (a0.Slots.map TSlot.row)) : Does Try.prog 82 [.agg #[u0_0]] w fun u m => u = .tuple #[.int .i64 r.1, .int .i64 r.2] ∧ m = [] := by
  rw [m82_leaf_Free] at h
  refine body (n := 13) Try.func82 rfl rfl rfl (Cls.refl w) ?_
  refine W.seq ?_
  refine W.region ?_
  refine L.box rfl rfl ?_
  intro b1
  refine L.y rfl (Y.assign rfl) ?_
  refine L.y rfl (Y.assign rfl) ?_
  refine L.nil ?_
  refine E.thenN ?_
  refine W.seq ?_
  refine W.seq ?_
  refine W.region ?_
  refine L.y rfl (Y.loadPW (i := 0) ag127 sz127 rfl rfl rfl) ?_
  obtain ⟨x2, e3, h⟩ := bind1S h
  refine L.y rfl (Y.does en90 rfl (fun w' hw => (w90_leaf_Check a0 u0_0 w' _ e3 (hA0_0.cls0 hw)).mono (fun _ _ h => h.1))) ?_
  refine L.y rfl (Y.assign rfl) ?_
  refine L.nil ?_
  refine E.thenN ?_
  refine W.seq ?_
  refine W.region ?_
  refine L.y rfl (Y.move rfl) ?_
  refine L.ite h rfl (Y.neq rfl rfl) (fun c4 h => ?_) (fun c4 h => ?_)
  ·
    refine L.nil ?_
    refine E.thenN ?_
    refine W.condT rfl ?_
    refine W.seq ?_
    refine W.region ?_
    refine L.y rfl (Y.move rfl) ?_
    refine L.y rfl (Y.assign rfl) ?_
    refine L.y rfl (Y.assign rfl) ?_
    refine L.nil ?_
    refine E.thenN ?_
    refine W.ret ?_
    refine E.thenR ?_
    refine E.ret2 rfl rfl rfl (fun w1 hw => ?_)
    obtain rfl := Option.some.inj h
    exact ⟨_, _, rfl, ⟨rfl, rfl⟩, hw.sel [] (by decide) rfl⟩
  ·
    refine L.nil ?_
    refine E.thenN ?_
    refine W.condF rfl ?_
    refine W.skip ?_
    refine E.thenN ?_
    refine W.seq ?_
    refine W.region ?_
    refine L.y rfl (Y.loadPW (i := 0) ag127 sz127 rfl rfl rfl) ?_
    obtain ⟨x5, e6, h⟩ := bind1S h
    refine L.y rfl (Y.does en136 rfl (fun w' hw => (w136_leaf_size a0 u0_0 w' _ e6 (hA0_0.cls0 hw)).mono (fun _ _ h => h.1))) ?_
    refine L.m (V := fun x7 => .int .i64 x7) h rfl (Y.subM rfl rfl) (fun x7 ex7 h => ?_)
    refine L.y rfl (Y.assign rfl) ?_
    refine L.y rfl (Y.assign rfl) ?_
    refine L.nil ?_
    refine E.thenN ?_
    refine W.ret ?_
    refine E.ret2 rfl rfl rfl (fun w1 hw => ?_)
    obtain rfl := Option.some.inj h
    exact ⟨_, _, rfl, ⟨rfl, rfl⟩, hw.sel [] (by decide) rfl⟩
set_option maxRecDepth 100000 in
set_option maxHeartbeats 8000000 in
theorem w137_leaf_copied (a0 : TLeaf) (u0_0 : Value) (w : World) (r : TLeaf) (h : m137_leaf_copied a0 = some r) (hA0_0 : At w u0_0 2 (a0.Slots.map TSlot.row)) : Does Try.prog 137 [.agg #[u0_0]] w fun u m => ∃ v0, u = .agg #[v0] ∧ m = [.sl v0 143 2 (r.Slots.map TSlot.row)] := by
  rw [m137_leaf_copied] at h
  refine body (n := 8) Try.func137 rfl rfl rfl (Cls.refl w) ?_
  refine W.seq ?_
  refine W.region ?_
  refine L.box rfl rfl ?_
  intro b1
  refine L.alloc rfl ze127 ?_
  intro b2
  refine L.nil ?_
  refine E.thenN ?_
  refine W.seq ?_
  refine W.region ?_
  refine L.lit0 rfl Try.underlying125 el143 ?_
  intro b3
  refine L.y rfl (Y.fieldP fd127_0 rfl) ?_
  refine L.y rfl (Y.loadP (i := 2) ag125 rfl rfl rfl) ?_
  refine L.appM (i := 0) (g := TSlot.row) (l := []) (more := a0.Slots) h rfl Try.underlying125 el143 rfl rfl rfl (fun w' hw => hA0_0.cls0 hw) (plain_TSlot _) rfl ?_
  intro v4 l5 el5 h
  refine L.y rfl (Y.buildC (cells := #[v4]) rfl (fun w hw => by rcases ((As.at_ (hw.get (i := 0) rfl))).shape with ⟨h0, _⟩ | ⟨_, _, h0, _, _⟩ <;> simp only [h0] <;> kernel_rfl)) ?_
  refine L.storeC (i := 1) sz127 rfl rfl rfl rfl (fun w hw => (all1 (As.at_ (hw.get (i := 0) rfl)).one all0)) rfl (Nat.le_of_ble_eq_true rfl) ?_
  refine L.nil ?_
  refine E.thenN ?_
  refine W.ret ?_
  refine E.retR1 rfl (Rv.cellW (i := 1) ag127 sz127 rfl rfl rfl) (fun w1 hw => ?_)
  obtain rfl := Option.some.inj h
  exact ⟨_, _, rfl, ⟨_, rfl, rfl⟩, hw.sel [0] (by decide) rfl⟩
set_option maxRecDepth 100000 in
set_option maxHeartbeats 8000000 in
theorem w83_leaf_Put (a0 : TLeaf) (a1 : (List UInt8)) (u0_0 : Value) (w : World) (r : (TLeaf × Int × Int)) (h : m83_leaf_Put a0 a1 = some r) (hA0_0 : At w u0_0 2 (a0.Slots.map TSlot.row)) : Does Try.prog 83 [.agg #[u0_0], st a1] w fun u m => ∃ v0, u = .tuple #[.agg #[v0], .int .i64 r.2.1, .int .i64 r.2.2] ∧ m = [.sl v0 143 2 (r.1.Slots.map TSlot.row)] := by
  rw [m83_leaf_Put] at h
  refine body (n := 66) Try.func83 rfl rfl rfl (Cls.refl w) ?_
  refine W.seq ?_
  refine W.region ?_
  refine L.box rfl rfl ?_
  intro b1
  refine L.alloc rfl ze127 ?_
  intro b2
  refine L.y rfl (Y.assign rfl) ?_
  refine L.y rfl (Y.assign rfl) ?_
  refine L.nil ?_
  refine E.thenN ?_
  refine W.seqJ (fun gs D => gs = [(1, st a1), (2, pt b1 0), (4, pt b2 0)] ∧ D = Cls w [] [.obj b2 [.slice none 0 0] 127, .obj b1 [u0_0] 127] ∧ m83_leaf_Put_K1 a1 a0 = some r) ?_ ?_
  ·
    refine W.seq ?_
    refine W.region ?_
    refine L.y rfl (Y.loadPW (i := 1) ag127 sz127 rfl rfl rfl) ?_
    obtain ⟨x22, e23, h⟩ := bind1S h
    refine L.y rfl (Y.does en90 rfl (fun w' hw => (w90_leaf_Check a0 u0_0 w' _ e23 (hA0_0.cls0 hw)).mono (fun _ _ h => h.1))) ?_
    refine L.y rfl (Y.assign rfl) ?_
    refine L.nil ?_
    refine E.thenN ?_
    refine W.seq ?_
    refine W.region ?_
    refine L.y rfl (Y.move rfl) ?_
    refine L.ite h rfl (Y.neq rfl rfl) (fun c24 h => ?_) (fun c24 h => ?_)
    ·
      refine L.nil ?_
      refine E.thenN ?_
      refine W.condT rfl ?_
      refine W.seq ?_
      refine W.region ?_
      refine L.y rfl (Y.build (cells := #[.slice none 0 0]) rfl (by kernel_rfl)) ?_
      refine L.y rfl (Y.move rfl) ?_
      refine L.store (i := 0) sz127 rfl rfl rfl rfl (by simp [Value.oneCell', Value.cells, st]) rfl (Nat.le_of_ble_eq_true rfl) ?_
      refine L.y rfl (Y.assign rfl) ?_
      refine L.y rfl (Y.assign rfl) ?_
      refine L.nil ?_
      refine E.thenN ?_
      refine W.ret ?_
      refine E.KSR ?_
      refine E.retR3 rfl (Rv.cellW (i := 0) ag127 sz127 rfl rfl rfl) (Rv.tmp rfl) (Rv.tmp rfl) (fun w1 hw => ?_)
      obtain rfl := Option.some.inj h
      exact ⟨_, _, rfl, ⟨_, rfl, rfl⟩, (hw.nilSl 143 2).sel [0] (by decide) rfl⟩
    ·
      refine L.nil ?_
      refine E.thenN ?_
      refine W.condF rfl ?_
      refine W.skip ?_
      exact E.joinJ ⟨rfl, rfl, h⟩ ⟨rfl, rfl, rfl, trivial⟩ (fun _ hw => hw)
  ·
    rintro _ _ ⟨rfl, rfl, h⟩
    rw [m83_leaf_Put_K1] at h
    refine W.seqJ (fun gs D => gs = [(1, st a1), (2, pt b1 0), (4, pt b2 0)] ∧ D = Cls w [] [.obj b2 [.slice none 0 0] 127, .obj b1 [u0_0] 127] ∧ m83_leaf_Put_K2 a0 a1 = some r) ?_ ?_
    ·
      refine W.seq ?_
      refine W.region ?_
      refine L.y rfl (Y.move rfl) ?_
      refine L.y rfl (Y.lenS Try.underlying9 rfl) ?_
      refine L.ite h rfl (Y.gtr rfl rfl) (fun c21 h => ?_) (fun c21 h => ?_)
      ·
        refine L.nil ?_
        refine E.thenN ?_
        refine W.condT rfl ?_
        refine W.seq ?_
        refine W.region ?_
        refine L.y rfl (Y.build (cells := #[.slice none 0 0]) rfl (by kernel_rfl)) ?_
        refine L.store (i := 0) sz127 rfl rfl rfl rfl (by simp [Value.oneCell', Value.cells, st]) rfl (Nat.le_of_ble_eq_true rfl) ?_
        refine L.y rfl (Y.assign rfl) ?_
        refine L.y rfl (Y.assign rfl) ?_
        refine L.nil ?_
        refine E.thenN ?_
        refine W.ret ?_
        refine E.KSR ?_
        refine E.retR3 rfl (Rv.cellW (i := 0) ag127 sz127 rfl rfl rfl) (Rv.tmp rfl) (Rv.tmp rfl) (fun w1 hw => ?_)
        obtain rfl := Option.some.inj h
        exact ⟨_, _, rfl, ⟨_, rfl, rfl⟩, (hw.nilSl 143 2).sel [0] (by decide) rfl⟩
      ·
        refine L.nil ?_
        refine E.thenN ?_
        refine W.condF rfl ?_
        refine W.skip ?_
        exact E.joinJ ⟨rfl, rfl, h⟩ ⟨rfl, rfl, rfl, trivial⟩ (fun _ hw => hw)
    ·
      rintro _ _ ⟨rfl, rfl, h⟩
      rw [m83_leaf_Put_K2] at h
      refine W.seq ?_
      refine W.region ?_
      refine L.y rfl (Y.loadPW (i := 1) ag127 sz127 rfl rfl rfl) ?_
      obtain ⟨x3, e5, h⟩ := bind1S h
      refine L.does rfl en137 rfl (fun w' hw => w137_leaf_copied a0 u0_0 w' _ e5 (hA0_0.cls0 hw)) ?_
      rintro _ _ ⟨v4, rfl, rfl⟩
      refine L.alloc rfl ze127 ?_
      intro b6
      refine L.storeC (i := 0) sz127 rfl rfl rfl rfl (fun w hw => (all1 (As.at_ (hw.get (i := 1) rfl)).one all0)) rfl (Nat.le_of_ble_eq_true rfl) ?_
      refine L.nil ?_
      refine E.thenN ?_
      refine W.seq ?_
      refine W.region ?_
      refine L.y rfl (Y.assign rfl) ?_
      refine L.nil ?_
      refine E.thenN ?_
      refine W.seqJ (fun gs D => ∃ (gx1 : Int), gs = [(1, st a1), (4, pt b2 0), (8, pt b6 0), (9, .int .i64 gx1)] ∧ D = Cls w [] [.obj b6 [v4] 127, .obj b2 [.slice none 0 0] 127, .sl v4 143 2 (x3.Slots.map TSlot.row)] ∧ m83_leaf_Put_K3 x3 a1 gx1 = some r) ?_ ?_
      ·
        refine W.block ?_
        refine W.loopJ (fun m gs D => ∃ (gx4 : Int), gs = [(1, st a1), (4, pt b2 0), (8, pt b6 0), (9, .int .i64 gx4)] ∧ D = Cls w [] [.obj b6 [v4] 127, .obj b2 [.slice none 0 0] 127, .sl v4 143 2 (x3.Slots.map TSlot.row)] ∧ m83_leaf_Put_L1 x3 a1 m gx4 = some r) ⟨0, rfl, rfl, h⟩ ⟨rfl, rfl, rfl, rfl, trivial⟩ (fun _ hw => hw.sel [0, 2, 1] (by decide) rfl) ?_
        rintro m _ _ ⟨gx4, rfl, rfl, h⟩
        rcases m with _ | m
        · rw [m83_leaf_Put_L1] at h; cases h
        rw [m83_leaf_Put_L1] at h
        generalize hg1 : m83_leaf_Put_L1 x3 a1 m = go1 at h
        rw [m83_leaf_Put_L1B] at h
        refine W.seq ?_
        refine W.seq ?_
        refine W.region ?_
        refine L.y rfl (Y.move rfl) ?_
        refine L.y rfl (Y.fieldP fd127_0 rfl) ?_
        refine L.y rfl (Y.loadP (i := 0) ag125 rfl rfl rfl) ?_
        refine L.y rfl (Y.lenM (g := TSlot.row) (l := x3.Slots) Try.underlying125 rfl (fun w hw => As.at_ (hw.get (i := 2) rfl))) ?_
        refine L.ite h rfl (Y.lss rfl rfl) (fun c17 h => ?_) (fun c17 h => ?_)
        ·
          refine L.y rfl (Y.move rfl) ?_
          refine L.take rfl ?_
          refine L.y rfl (Y.fieldP fd127_0 rfl) ?_
          refine L.take rfl ?_
          refine L.y rfl (Y.loadP (i := 0) ag125 rfl rfl rfl) ?_
          refine L.take rfl ?_
          refine L.y rfl (Y.move rfl) ?_
          refine L.take rfl ?_
          refine L.m (V := fun _ => el v4 (gx4.toNat * 2)) h rfl (Y.indexM (g := TSlot.row) (l := x3.Slots) Try.underlying125 sz143 rfl rfl (fun w hw => As.at_ (hw.get (i := 2) rfl))) (fun x18 ex18 h => ?_)
          refine L.take rfl ?_
          refine L.y rfl (Y.fieldE fd143_0 rfl) ?_
          refine L.take rfl ?_
          refine L.iteB h rfl (Y.loadE (u := .bool x18.Used) ag4 rfl (fun w hw => As.at_ (hw.get (i := 2) rfl)) (idx_map ex18) rfl) (fun c19 h => ?_) (fun c19 h => ?_)
          ·
            refine L.y rfl (Y.pickT rfl rfl) ?_
            refine L.nil ?_
            refine E.thenN ?_
            refine W.condT rfl ?_
            refine W.skip ?_
            refine E.thenN ?_
            refine W.block ?_
            refine W.region ?_
            refine L.y rfl (Y.move rfl) ?_
            refine L.m (V := fun x20 => .int .i64 x20) h rfl (Y.addM rfl rfl) (fun x20 ex20 h => ?_)
            refine L.y rfl (Y.assign rfl) ?_
            refine L.nil ?_
            refine E.blockN ?_
            exact E.againJ ⟨x20, rfl, rfl, by rw [hg1]; exact h⟩ (Nat.lt_succ_self _) ⟨rfl, rfl, rfl, rfl, trivial⟩ (fun _ hw => hw)
          ·
            refine L.y rfl (Y.pickT rfl rfl) ?_
            refine L.nil ?_
            refine E.thenN ?_
            refine W.condF rfl ?_
            refine W.exit ?_
            refine E.thenX ?_
            refine E.KLX ?_
            refine E.blockX ?_
            exact E.joinJ ⟨gx4, rfl, rfl, h⟩ ⟨rfl, rfl, rfl, rfl, trivial⟩ (fun _ hw => hw)
        ·
          refine L.y rfl (Y.move rfl) ?_
          refine L.pass rfl rfl (by nofun) ?_
          refine L.pass rfl rfl (by nofun) ?_
          refine L.pass rfl rfl (by nofun) ?_
          refine L.pass rfl rfl (by nofun) ?_
          refine L.pass rfl rfl (by nofun) ?_
          refine L.pass rfl rfl (by nofun) ?_
          refine L.y rfl (Y.pickF rfl rfl) ?_
          refine L.nil ?_
          refine E.thenN ?_
          refine W.condF rfl ?_
          refine W.exit ?_
          refine E.thenX ?_
          refine E.KLX ?_
          refine E.blockX ?_
          exact E.joinJ ⟨gx4, rfl, rfl, h⟩ ⟨rfl, rfl, rfl, rfl, trivial⟩ (fun _ hw => hw)
      ·
        rintro _ _ ⟨gx1, rfl, rfl, h⟩
        rw [m83_leaf_Put_K3] at h
        refine W.seqJ (fun gs D => ∃ (gv2 : Value) (gl3 : (List TSlot)), gs = [(1, st a1), (4, pt b2 0), (8, pt b6 0), (9, .int .i64 gx1)] ∧ D = Cls w [] [.obj b6 [gv2] 127, .obj b2 [.slice none 0 0] 127, .sl gv2 143 2 (gl3.map TSlot.row)] ∧ m83_leaf_Put_K4 gx1 a1 gl3 = some r) ?_ ?_
        ·
          refine W.seq ?_
          refine W.region ?_
          refine L.y rfl (Y.move rfl) ?_
          refine L.y rfl (Y.fieldP fd127_0 rfl) ?_
          refine L.y rfl (Y.loadP (i := 0) ag125 rfl rfl rfl) ?_
          refine L.y rfl (Y.lenM (g := TSlot.row) (l := x3.Slots) Try.underlying125 rfl (fun w hw => As.at_ (hw.get (i := 2) rfl))) ?_
          refine L.ite h rfl (Y.eql rfl rfl) (fun c13 h => ?_) (fun c13 h => ?_)
          ·
            refine L.nil ?_
            refine E.thenN ?_
            refine W.condT rfl ?_
            refine W.region ?_
            refine L.y rfl (Y.fieldP fd127_0 rfl) ?_
            refine L.y rfl (Y.loadP (i := 0) ag125 rfl rfl rfl) ?_
            refine L.y rfl (Y.build (cells := #[.bool false, st []]) rfl (by kernel_rfl)) ?_
            refine L.litAgg rfl Try.underlying125 el143 rfl rfl rfl ?_
            intro b14
            refine L.appM (i := 3) (g := TSlot.row) (l := x3.Slots) (more := [(⟨false, []⟩ : TSlot)]) h rfl Try.underlying125 el143 rfl rfl rfl (fun w hw => As.at_ (hw.get (i := 0) rfl)) (plain_TSlot _) rfl ?_
            intro v15 l16 el16 h
            refine L.y rfl (Y.fieldP fd127_0 rfl) ?_
            refine L.storeV (i := 2) sz125 rfl rfl (fun _ hw => (As.at_ (hw.get (i := 0) rfl)).one) rfl (Nat.le_of_ble_eq_true rfl) ?_
            refine L.nil ?_
            exact E.joinJ ⟨v15, l16, rfl, rfl, h⟩ ⟨rfl, rfl, rfl, rfl, trivial⟩ (fun _ hw => hw.sel [2, 3, 0] (by decide) rfl)
          ·
            refine L.nil ?_
            refine E.thenN ?_
            refine W.condF rfl ?_
            refine W.skip ?_
            exact E.joinJ ⟨v4, x3.Slots, rfl, rfl, h⟩ ⟨rfl, rfl, rfl, rfl, trivial⟩ (fun _ hw => hw)
        ·
          rintro _ _ ⟨gv2, gl3, rfl, rfl, h⟩
          rw [m83_leaf_Put_K4] at h
          refine W.seq ?_
          refine W.region ?_
          refine L.y rfl (Y.fieldP fd127_0 rfl) ?_
          refine L.y rfl (Y.loadP (i := 0) ag125 rfl rfl rfl) ?_
          refine L.y rfl (Y.move rfl) ?_
          refine L.y rfl (Y.move rfl) ?_
          refine L.y rfl (Y.build (cells := #[.bool true, st a1]) rfl (by kernel_rfl)) ?_
          refine L.m (V := fun _ => el gv2 (gx1.toNat * 2)) h rfl (Y.indexM (g := TSlot.row) (l := gl3) Try.underlying125 sz143 rfl rfl (fun w hw => As.at_ (hw.get (i := 2) rfl))) (fun x7 ex7 h => ?_)
          refine L.storeSlM (q := 2) (row := TSlot.row) (vs := [.bool true, st a1]) (j := 0) (u1 := (⟨true, a1⟩ : TSlot)) h sz143 rfl rfl rfl rfl rfl (all1 rfl (all1 rfl all0)) rfl ex7 rfl rfl ?_
          intro l8 el8 h
          refine L.nil ?_
          refine E.thenN ?_
          refine W.seq ?_
          refine W.seq ?_
          refine W.region ?_
          refine L.y rfl (Y.fieldP fd127_0 rfl) ?_
          refine L.y rfl (Y.loadP (i := 0) ag125 rfl rfl rfl) ?_
          refine L.y rfl (Y.lenM (g := TSlot.row) (l := l8) Try.underlying125 rfl (fun w hw => As.at_ (hw.get (i := 2) rfl))) ?_
          refine L.ite h rfl (Y.gtr rfl rfl) (fun c9 h => ?_) (fun c9 h => ?_)
          ·
            refine L.y rfl (Y.move rfl) ?_
            refine L.pass rfl rfl (by nofun) ?_
            refine L.pass rfl rfl (by nofun) ?_
            refine L.pass rfl rfl (by nofun) ?_
            refine L.y rfl (Y.pickT rfl rfl) ?_
            refine L.nil ?_
            refine E.thenN ?_
            refine W.condT rfl ?_
            refine W.seq ?_
            refine W.region ?_
            refine L.y rfl (Y.build (cells := #[.slice none 0 0]) rfl (by kernel_rfl)) ?_
            refine L.store (i := 1) sz127 rfl rfl rfl rfl (by simp [Value.oneCell', Value.cells, st]) rfl (Nat.le_of_ble_eq_true rfl) ?_
            refine L.y rfl (Y.assign rfl) ?_
            refine L.y rfl (Y.assign rfl) ?_
            refine L.nil ?_
            refine E.thenN ?_
            refine W.ret ?_
            refine E.thenR ?_
            refine E.retR3 rfl (Rv.cellW (i := 1) ag127 sz127 rfl rfl rfl) (Rv.tmp rfl) (Rv.tmp rfl) (fun w1 hw => ?_)
            obtain rfl := Option.some.inj h
            exact ⟨_, _, rfl, ⟨_, rfl, rfl⟩, (hw.nilSl 143 2).sel [0] (by decide) rfl⟩
          ·
            refine L.y rfl (Y.move rfl) ?_
            refine L.take rfl ?_
            refine L.y rfl (Y.loadPW (i := 0) ag127 sz127 rfl rfl rfl) ?_
            refine L.take rfl ?_
            obtain ⟨x10, e11, h⟩ := bind1S h
            refine L.y rfl (Y.does en136 rfl (fun w' hw => (w136_leaf_size (⟨l8⟩ : TLeaf) gv2 w' _ e11 (As.at_ (hw.get (i := 2) rfl))).mono (fun _ _ h => h.1))) ?_
            refine L.take rfl ?_
            refine L.ite h rfl (Y.gtr rfl rfl) (fun c12 h => ?_) (fun c12 h => ?_)
            ·
              refine L.y rfl (Y.pickF rfl rfl) ?_
              refine L.nil ?_
              refine E.thenN ?_
              refine W.condT rfl ?_
              refine W.seq ?_
              refine W.region ?_
              refine L.y rfl (Y.build (cells := #[.slice none 0 0]) rfl (by kernel_rfl)) ?_
              refine L.store (i := 1) sz127 rfl rfl rfl rfl (by simp [Value.oneCell', Value.cells, st]) rfl (Nat.le_of_ble_eq_true rfl) ?_
              refine L.y rfl (Y.assign rfl) ?_
              refine L.y rfl (Y.assign rfl) ?_
              refine L.nil ?_
              refine E.thenN ?_
              refine W.ret ?_
              refine E.thenR ?_
              refine E.retR3 rfl (Rv.cellW (i := 1) ag127 sz127 rfl rfl rfl) (Rv.tmp rfl) (Rv.tmp rfl) (fun w1 hw => ?_)
              obtain rfl := Option.some.inj h
              exact ⟨_, _, rfl, ⟨_, rfl, rfl⟩, (hw.nilSl 143 2).sel [0] (by decide) rfl⟩
            ·
              refine L.y rfl (Y.pickF rfl rfl) ?_
              refine L.nil ?_
              refine E.thenN ?_
              refine W.condF rfl ?_
              refine W.skip ?_
              refine E.thenN ?_
              refine W.seq ?_
              refine W.region ?_
              refine L.y rfl (Y.loadPW (i := 0) ag127 sz127 rfl rfl rfl) ?_
              refine L.y rfl (Y.move rfl) ?_
              refine L.storeC (i := 1) sz127 rfl rfl rfl rfl (fun w hw => (all1 (As.at_ (hw.get (i := 2) rfl)).one all0)) rfl (Nat.le_of_ble_eq_true rfl) ?_
              refine L.y rfl (Y.assign rfl) ?_
              refine L.y rfl (Y.assign rfl) ?_
              refine L.nil ?_
              refine E.thenN ?_
              refine W.ret ?_
              refine E.retR3 rfl (Rv.cellW (i := 1) ag127 sz127 rfl rfl rfl) (Rv.tmp rfl) (Rv.tmp rfl) (fun w1 hw => ?_)
              obtain rfl := Option.some.inj h
              exact ⟨_, _, rfl, ⟨_, rfl, rfl⟩, hw.sel [2] (by decide) rfl⟩
set_option maxRecDepth 100000 in
set_option maxHeartbeats 8000000 in
theorem w84_leaf_Get (a0 : TLeaf) (a1 : Int) (u0_0 : Value) (w : World) (r : ((List UInt8) × Int)) (h : m84_leaf_Get a0 a1 = some r) (hA0_0 : At w u0_0 2 (a0.Slots.map TSlot.row)) : Does Try.prog 84 [.agg #[u0_0], .int .i64 a1] w fun u m => u = .tuple #[st r.1, .int .i64 r.2] ∧ m = [] := by
  rw [m84_leaf_Get] at h
  refine body (n := 36) Try.func84 rfl rfl rfl (Cls.refl w) ?_
  refine W.seq ?_
  refine W.region ?_
  refine L.box rfl rfl ?_
  intro b1
  refine L.y rfl (Y.assign rfl) ?_
  refine L.y rfl (Y.assign rfl) ?_
  refine L.nil ?_
  refine E.thenN ?_
  refine W.seqJ (fun gs D => gs = [(1, .int .i64 a1), (2, pt b1 0)] ∧ D = Cls w [] [.obj b1 [u0_0] 127] ∧ m84_leaf_Get_K1 a1 a0 = some r) ?_ ?_
  ·
    refine W.seq ?_
    refine W.region ?_
    refine L.y rfl (Y.loadPW (i := 0) ag127 sz127 rfl rfl rfl) ?_
    obtain ⟨x7, e8, h⟩ := bind1S h
    refine L.y rfl (Y.does en90 rfl (fun w' hw => (w90_leaf_Check a0 u0_0 w' _ e8 (hA0_0.cls0 hw)).mono (fun _ _ h => h.1))) ?_
    refine L.y rfl (Y.assign rfl) ?_
    refine L.nil ?_
    refine E.thenN ?_
    refine W.seq ?_
    refine W.region ?_
    refine L.y rfl (Y.move rfl) ?_
    refine L.ite h rfl (Y.neq rfl rfl) (fun c9 h => ?_) (fun c9 h => ?_)
    ·
      refine L.nil ?_
      refine E.thenN ?_
      refine W.condT rfl ?_
      refine W.seq ?_
      refine W.region ?_
      refine L.y rfl (Y.move rfl) ?_
      refine L.y rfl (Y.assign rfl) ?_
      refine L.y rfl (Y.assign rfl) ?_
      refine L.nil ?_
      refine E.thenN ?_
      refine W.ret ?_
      refine E.KSR ?_
      refine E.ret2 rfl rfl rfl (fun w1 hw => ?_)
      obtain rfl := Option.some.inj h
      exact ⟨_, _, rfl, ⟨rfl, rfl⟩, hw.sel [] (by decide) rfl⟩
    ·
      refine L.nil ?_
      refine E.thenN ?_
      refine W.condF rfl ?_
      refine W.skip ?_
      exact E.joinJ ⟨rfl, rfl, h⟩ ⟨rfl, rfl, trivial⟩ (fun _ hw => hw)
  ·
    rintro _ _ ⟨rfl, rfl, h⟩
    rw [m84_leaf_Get_K1] at h
    refine W.seq ?_
    refine W.seq ?_
    refine W.region ?_
    refine L.cutJ 9 (fun gs D => ∃ (gb1 : Bool), gs = [(1, .int .i64 a1), (2, pt b1 0), (20, .bool gb1)] ∧ D = Cls w [] [.obj b1 [u0_0] 127] ∧ m84_leaf_Get_K2 a0 a1 gb1 = some r) ?_ ?_
    ·
      refine L.y rfl (Y.move rfl) ?_
      refine L.ite h rfl (Y.lss rfl rfl) (fun c5 h => ?_) (fun c5 h => ?_)
      ·
        refine L.y rfl (Y.move rfl) ?_
        refine L.pass rfl rfl (by nofun) ?_
        refine L.pass rfl rfl (by nofun) ?_
        refine L.pass rfl rfl (by nofun) ?_
        refine L.pass rfl rfl (by nofun) ?_
        refine L.pass rfl rfl (by nofun) ?_
        refine L.y rfl (Y.pickT rfl rfl) ?_
        refine L.nil ?_
        exact E.joinJ ⟨true, rfl, rfl, h⟩ ⟨rfl, rfl, rfl, trivial⟩ (fun _ hw => hw)
      ·
        refine L.y rfl (Y.move rfl) ?_
        refine L.take rfl ?_
        refine L.y rfl (Y.move rfl) ?_
        refine L.take rfl ?_
        refine L.y rfl (Y.fieldP fd127_0 rfl) ?_
        refine L.take rfl ?_
        refine L.y rfl (Y.loadP (i := 0) ag125 rfl rfl rfl) ?_
        refine L.take rfl ?_
        refine L.y rfl (Y.lenM (g := TSlot.row) (l := a0.Slots) Try.underlying125 rfl (fun w' hw => hA0_0.cls0 hw)) ?_
        refine L.take rfl ?_
        refine L.ite h rfl (Y.geq rfl rfl) (fun c6 h => ?_) (fun c6 h => ?_)
        ·
          refine L.y rfl (Y.pickF rfl rfl) ?_
          refine L.nil ?_
          exact E.joinJ ⟨true, rfl, rfl, h⟩ ⟨rfl, rfl, rfl, trivial⟩ (fun _ hw => hw)
        ·
          refine L.y rfl (Y.pickF rfl rfl) ?_
          refine L.nil ?_
          exact E.joinJ ⟨false, rfl, rfl, h⟩ ⟨rfl, rfl, rfl, trivial⟩ (fun _ hw => hw)
    ·
      rintro _ _ ⟨gb1, rfl, rfl, h⟩
      rw [m84_leaf_Get_K2] at h
      rcases gb1 with _ | _
      ·
        replace h := iteF h
        refine L.y rfl (Y.move rfl) ?_
        refine L.take rfl ?_
        refine L.y rfl (Y.fieldP fd127_0 rfl) ?_
        refine L.take rfl ?_
        refine L.y rfl (Y.loadP (i := 0) ag125 rfl rfl rfl) ?_
        refine L.take rfl ?_
        refine L.y rfl (Y.move rfl) ?_
        refine L.take rfl ?_
        refine L.m (V := fun _ => el u0_0 (a1.toNat * 2)) h rfl (Y.indexM (g := TSlot.row) (l := a0.Slots) Try.underlying125 sz143 rfl rfl (fun w' hw => hA0_0.cls0 hw)) (fun x2 ex2 h => ?_)
        refine L.take rfl ?_
        refine L.y rfl (Y.fieldE fd143_0 rfl) ?_
        refine L.take rfl ?_
        refine L.iteB h rfl (Y.loadE (u := .bool x2.Used) ag4 rfl (fun w' hw => hA0_0.cls0 hw) (idx_map ex2) rfl) (fun c3 h => ?_) (fun c3 h => ?_)
        ·
          refine L.take rfl ?_
          refine L.y rfl (Y.not rfl) ?_
          refine L.y rfl (Y.pickF rfl rfl) ?_
          refine L.nil ?_
          refine E.thenN ?_
          refine W.condF rfl ?_
          refine W.skip ?_
          refine E.thenN ?_
          refine W.seq ?_
          refine W.region ?_
          refine L.y rfl (Y.fieldP fd127_0 rfl) ?_
          refine L.y rfl (Y.loadP (i := 0) ag125 rfl rfl rfl) ?_
          refine L.y rfl (Y.move rfl) ?_
          refine L.m (V := fun _ => el u0_0 (a1.toNat * 2)) h rfl (Y.indexM (g := TSlot.row) (l := a0.Slots) Try.underlying125 sz143 rfl rfl (fun w' hw => hA0_0.cls0 hw)) (fun x4 ex4 h => ?_)
          refine L.y rfl (Y.fieldE fd143_1 rfl) ?_
          refine L.y rfl (Y.loadE (u := st x4.Text) ag9 rfl (fun w' hw => hA0_0.cls0 hw) (idx_map ex4) rfl) ?_
          refine L.y rfl (Y.assign rfl) ?_
          refine L.y rfl (Y.assign rfl) ?_
          refine L.nil ?_
          refine E.thenN ?_
          refine W.ret ?_
          refine E.ret2 rfl rfl rfl (fun w1 hw => ?_)
          obtain rfl := Option.some.inj h
          exact ⟨_, _, rfl, ⟨rfl, rfl⟩, hw.sel [] (by decide) rfl⟩
        ·
          refine L.take rfl ?_
          refine L.y rfl (Y.not rfl) ?_
          refine L.y rfl (Y.pickF rfl rfl) ?_
          refine L.nil ?_
          refine E.thenN ?_
          refine W.condT rfl ?_
          refine W.seq ?_
          refine W.region ?_
          refine L.y rfl (Y.assign rfl) ?_
          refine L.y rfl (Y.assign rfl) ?_
          refine L.nil ?_
          refine E.thenN ?_
          refine W.ret ?_
          refine E.thenR ?_
          refine E.ret2 rfl rfl rfl (fun w1 hw => ?_)
          obtain rfl := Option.some.inj h
          exact ⟨_, _, rfl, ⟨rfl, rfl⟩, hw.sel [] (by decide) rfl⟩
      ·
        replace h := iteT h
        refine L.y rfl (Y.move rfl) ?_
        refine L.pass rfl rfl (by nofun) ?_
        refine L.pass rfl rfl (by nofun) ?_
        refine L.pass rfl rfl (by nofun) ?_
        refine L.pass rfl rfl (by nofun) ?_
        refine L.pass rfl rfl (by nofun) ?_
        refine L.pass rfl rfl (by nofun) ?_
        refine L.pass rfl rfl (by nofun) ?_
        refine L.y rfl (Y.pickT rfl rfl) ?_
        refine L.nil ?_
        refine E.thenN ?_
        refine W.condT rfl ?_
        refine W.seq ?_
        refine W.region ?_
        refine L.y rfl (Y.assign rfl) ?_
        refine L.y rfl (Y.assign rfl) ?_
        refine L.nil ?_
        refine E.thenN ?_
        refine W.ret ?_
        refine E.thenR ?_
        refine E.ret2 rfl rfl rfl (fun w1 hw => ?_)
        obtain rfl := Option.some.inj h
        exact ⟨_, _, rfl, ⟨rfl, rfl⟩, hw.sel [] (by decide) rfl⟩
set_option maxRecDepth 100000 in
set_option maxHeartbeats 8000000 in
theorem w85_leaf_Drop (a0 : TLeaf) (a1 : Int) (u0_0 : Value) (w : World) (r : (TLeaf × Int)) (h : m85_leaf_Drop a0 a1 = some r) (hA0_0 : At w u0_0 2 (a0.Slots.map TSlot.row)) : Does Try.prog 85 [.agg #[u0_0], .int .i64 a1] w fun u m => ∃ v0, u = .tuple #[.agg #[v0], .int .i64 r.2] ∧ m = [.rd v0 2 (r.1.Slots.map TSlot.row)] := by
  rw [m85_leaf_Drop] at h
  refine body (n := 51) Try.func85 rfl rfl rfl (Cls.refl w) ?_
  refine W.seq ?_
  refine W.region ?_
  refine L.box rfl rfl ?_
  intro b1
  refine L.alloc rfl ze127 ?_
  intro b2
  refine L.y rfl (Y.assign rfl) ?_
  refine L.nil ?_
  refine E.thenN ?_
  refine W.seqJ (fun gs D => gs = [(1, .int .i64 a1), (2, pt b1 0), (4, pt b2 0)] ∧ D = Cls w [] [.obj b2 [.slice none 0 0] 127, .obj b1 [u0_0] 127] ∧ m85_leaf_Drop_K1 a0 a1 = some r) ?_ ?_
  ·
    refine W.seq ?_
    refine W.region ?_
    refine L.y rfl (Y.loadPW (i := 1) ag127 sz127 rfl rfl rfl) ?_
    refine L.y rfl (Y.move rfl) ?_
    obtain ⟨s16, x17, e18, h⟩ := bind2S h
    refine L.y rfl (Y.does en84 rfl (fun w' hw => (w84_leaf_Get a0 a1 u0_0 w' _ e18 (hA0_0.cls0 hw)).mono (fun _ _ h => h.1))) ?_
    refine L.y rfl (Y.move rfl) ?_
    refine L.y rfl (Y.extract rfl rfl) ?_
    refine L.y rfl (Y.extract rfl rfl) ?_
    refine L.y rfl (Y.assign rfl) ?_
    refine L.y rfl (Y.assign rfl) ?_
    refine L.nil ?_
    refine E.thenN ?_
    refine W.seq ?_
    refine W.region ?_
    refine L.y rfl (Y.move rfl) ?_
    refine L.ite h rfl (Y.neq rfl rfl) (fun c19 h => ?_) (fun c19 h => ?_)
    ·
      refine L.nil ?_
      refine E.thenN ?_
      refine W.condT rfl ?_
      refine W.seq ?_
      refine W.region ?_
      refine L.y rfl (Y.build (cells := #[.slice none 0 0]) rfl (by kernel_rfl)) ?_
      refine L.y rfl (Y.move rfl) ?_
      refine L.store (i := 0) sz127 rfl rfl rfl rfl (by simp [Value.oneCell', Value.cells, st]) rfl (Nat.le_of_ble_eq_true rfl) ?_
      refine L.y rfl (Y.assign rfl) ?_
      refine L.nil ?_
      refine E.thenN ?_
      refine W.ret ?_
      refine E.KSR ?_
      refine E.retR2 rfl (Rv.cellW (i := 0) ag127 sz127 rfl rfl rfl) (Rv.tmp rfl) (fun w1 hw => ?_)
      obtain rfl := Option.some.inj h
      exact ⟨_, _, rfl, ⟨_, rfl, rfl⟩, (Cls.toRd (i := 0) (hw.nilSl 143 2) rfl).sel [0] (by decide) rfl⟩
    ·
      refine L.nil ?_
      refine E.thenN ?_
      refine W.condF rfl ?_
      refine W.skip ?_
      exact E.joinJ ⟨rfl, rfl, h⟩ ⟨rfl, rfl, rfl, trivial⟩ (fun _ hw => hw)
  ·
    rintro _ _ ⟨rfl, rfl, h⟩
    rw [m85_leaf_Drop_K1] at h
    refine W.seq ?_
    refine W.region ?_
    refine L.y rfl (Y.loadPW (i := 1) ag127 sz127 rfl rfl rfl) ?_
    obtain ⟨x3, e5, h⟩ := bind1S h
    refine L.does rfl en137 rfl (fun w' hw => w137_leaf_copied a0 u0_0 w' _ e5 (hA0_0.cls0 hw)) ?_
    rintro _ _ ⟨v4, rfl, rfl⟩
    refine L.alloc rfl ze127 ?_
    intro b6
    refine L.storeC (i := 0) sz127 rfl rfl rfl rfl (fun w hw => (all1 (As.at_ (hw.get (i := 1) rfl)).one all0)) rfl (Nat.le_of_ble_eq_true rfl) ?_
    refine L.nil ?_
    refine E.thenN ?_
    refine W.seq ?_
    refine W.region ?_
    refine L.y rfl (Y.fieldP fd127_0 rfl) ?_
    refine L.y rfl (Y.loadP (i := 0) ag125 rfl rfl rfl) ?_
    refine L.y rfl (Y.move rfl) ?_
    refine L.y rfl (Y.build (cells := #[.bool false, st []]) rfl (by kernel_rfl)) ?_
    refine L.m (V := fun _ => el v4 (a1.toNat * 2)) h rfl (Y.indexM (g := TSlot.row) (l := x3.Slots) Try.underlying125 sz143 rfl rfl (fun w hw => As.at_ (hw.get (i := 1) rfl))) (fun x7 ex7 h => ?_)
    refine L.storeSlM (q := 1) (row := TSlot.row) (vs := [.bool false, st []]) (j := 0) (u1 := (⟨false, []⟩ : TSlot)) h sz143 rfl rfl rfl rfl rfl (all1 rfl (all1 rfl all0)) rfl ex7 rfl rfl ?_
    intro l8 el8 h
    refine L.nil ?_
    refine E.thenN ?_
    refine W.seq ?_
    refine W.region ?_
    refine L.y rfl (Y.fieldP fd127_0 rfl) ?_
    refine L.y rfl (Y.loadP (i := 0) ag125 rfl rfl rfl) ?_
    refine L.y rfl (Y.lenM (g := TSlot.row) (l := l8) Try.underlying125 rfl (fun w hw => As.at_ (hw.get (i := 1) rfl))) ?_
    refine L.y rfl (Y.assign rfl) ?_
    refine L.nil ?_
    refine E.thenN ?_
    refine W.seqJ (fun gs D => ∃ (gx1 : Int), gs = [(4, pt b2 0), (8, pt b6 0), (9, .int .i64 gx1)] ∧ D = Cls w [] [.obj b6 [v4] 127, .obj b2 [.slice none 0 0] 127, .sl v4 143 2 (l8.map TSlot.row)] ∧ m85_leaf_Drop_K2 l8 gx1 = some r) ?_ ?_
    ·
      refine W.block ?_
      refine W.loopJ (fun m gs D => ∃ (gx2 : Int), gs = [(4, pt b2 0), (8, pt b6 0), (9, .int .i64 gx2)] ∧ D = Cls w [] [.obj b6 [v4] 127, .obj b2 [.slice none 0 0] 127, .sl v4 143 2 (l8.map TSlot.row)] ∧ m85_leaf_Drop_L1 l8 m gx2 = some r) ⟨(l8.length : Int), rfl, rfl, h⟩ ⟨rfl, rfl, rfl, trivial⟩ (fun _ hw => hw.sel [0, 2, 1] (by decide) rfl) ?_
      rintro m _ _ ⟨gx2, rfl, rfl, h⟩
      rcases m with _ | m
      · rw [m85_leaf_Drop_L1] at h; cases h
      rw [m85_leaf_Drop_L1] at h
      generalize hg1 : m85_leaf_Drop_L1 l8 m = go1 at h
      rw [m85_leaf_Drop_L1B] at h
      refine W.seq ?_
      refine W.seq ?_
      refine W.region ?_
      refine L.y rfl (Y.move rfl) ?_
      refine L.ite h rfl (Y.gtr rfl rfl) (fun c11 h => ?_) (fun c11 h => ?_)
      ·
        refine L.y rfl (Y.move rfl) ?_
        refine L.take rfl ?_
        refine L.y rfl (Y.fieldP fd127_0 rfl) ?_
        refine L.take rfl ?_
        refine L.y rfl (Y.loadP (i := 0) ag125 rfl rfl rfl) ?_
        refine L.take rfl ?_
        refine L.y rfl (Y.move rfl) ?_
        refine L.take rfl ?_
        refine L.m (V := fun x12 => .int .i64 x12) h rfl (Y.subM rfl rfl) (fun x12 ex12 h => ?_)
        refine L.take rfl ?_
        refine L.m (V := fun _ => el v4 (x12.toNat * 2)) h rfl (Y.indexM (g := TSlot.row) (l := l8) Try.underlying125 sz143 rfl rfl (fun w hw => As.at_ (hw.get (i := 2) rfl))) (fun x13 ex13 h => ?_)
        refine L.take rfl ?_
        refine L.y rfl (Y.fieldE fd143_0 rfl) ?_
        refine L.take rfl ?_
        refine L.iteB h rfl (Y.loadE (u := .bool x13.Used) ag4 rfl (fun w hw => As.at_ (hw.get (i := 2) rfl)) (idx_map ex13) rfl) (fun c14 h => ?_) (fun c14 h => ?_)
        ·
          refine L.take rfl ?_
          refine L.y rfl (Y.not rfl) ?_
          refine L.y rfl (Y.pickT rfl rfl) ?_
          refine L.nil ?_
          refine E.thenN ?_
          refine W.condF rfl ?_
          refine W.exit ?_
          refine E.thenX ?_
          refine E.KLX ?_
          refine E.blockX ?_
          exact E.joinJ ⟨gx2, rfl, rfl, h⟩ ⟨rfl, rfl, rfl, trivial⟩ (fun _ hw => hw)
        ·
          refine L.take rfl ?_
          refine L.y rfl (Y.not rfl) ?_
          refine L.y rfl (Y.pickT rfl rfl) ?_
          refine L.nil ?_
          refine E.thenN ?_
          refine W.condT rfl ?_
          refine W.skip ?_
          refine E.thenN ?_
          refine W.block ?_
          refine W.region ?_
          refine L.y rfl (Y.move rfl) ?_
          refine L.m (V := fun x15 => .int .i64 x15) h rfl (Y.subM rfl rfl) (fun x15 ex15 h => ?_)
          refine L.y rfl (Y.assign rfl) ?_
          refine L.nil ?_
          refine E.blockN ?_
          exact E.againJ ⟨x15, rfl, rfl, by rw [hg1]; exact h⟩ (Nat.lt_succ_self _) ⟨rfl, rfl, rfl, trivial⟩ (fun _ hw => hw)
      ·
        refine L.y rfl (Y.move rfl) ?_
        refine L.pass rfl rfl (by nofun) ?_
        refine L.pass rfl rfl (by nofun) ?_
        refine L.pass rfl rfl (by nofun) ?_
        refine L.pass rfl rfl (by nofun) ?_
        refine L.pass rfl rfl (by nofun) ?_
        refine L.pass rfl rfl (by nofun) ?_
        refine L.pass rfl rfl (by nofun) ?_
        refine L.pass rfl rfl (by nofun) ?_
        refine L.y rfl (Y.pickF rfl rfl) ?_
        refine L.nil ?_
        refine E.thenN ?_
        refine W.condF rfl ?_
        refine W.exit ?_
        refine E.thenX ?_
        refine E.KLX ?_
        refine E.blockX ?_
        exact E.joinJ ⟨gx2, rfl, rfl, h⟩ ⟨rfl, rfl, rfl, trivial⟩ (fun _ hw => hw)
    ·
      rintro _ _ ⟨gx1, rfl, rfl, h⟩
      rw [m85_leaf_Drop_K2] at h
      refine W.seq ?_
      refine W.region ?_
      refine L.y rfl (Y.fieldP fd127_0 rfl) ?_
      refine L.y rfl (Y.loadP (i := 0) ag125 rfl rfl rfl) ?_
      refine L.y rfl (Y.move rfl) ?_
      refine L.y rfl (Y.move rfl) ?_
      obtain ⟨l9, el9, h⟩ := bind1S h
      refine L.cut3 (i := 2) (g := TSlot.row) el9 rfl Try.underlying125 sz143 rfl rfl rfl rfl (fun v10 => ?_)
      refine L.y rfl (Y.fieldP fd127_0 rfl) ?_
      refine L.storeV (i := 0) sz125 rfl rfl (fun _ hw => (As.at2 (hw.get (i := 2) rfl)).one) rfl (Nat.le_of_ble_eq_true rfl) ?_
      refine L.nil ?_
      refine E.thenN ?_
      refine W.seq ?_
      refine W.region ?_
      refine L.y rfl (Y.loadPW (i := 0) ag127 sz127 rfl rfl rfl) ?_
      refine L.storeC (i := 1) sz127 rfl rfl rfl rfl (fun w hw => (all1 (As.at2 (hw.get (i := 2) rfl)).one all0)) rfl (Nat.le_of_ble_eq_true rfl) ?_
      refine L.y rfl (Y.assign rfl) ?_
      refine L.nil ?_
      refine E.thenN ?_
      refine W.ret ?_
      refine E.retR2 rfl (Rv.cellW (i := 1) ag127 sz127 rfl rfl rfl) (Rv.tmp rfl) (fun w1 hw => ?_)
      obtain rfl := Option.some.inj h
      exact ⟨_, _, rfl, ⟨_, rfl, rfl⟩, hw.sel [2] (by decide) rfl⟩
set_option maxRecDepth 100000 in
set_option maxHeartbeats 8000000 in
theorem w86_leaf_Text (a0 : TLeaf) (u0_0 : Value) (w : World) (r : ((List UInt8) × Int)) (h : m86_leaf_Text a0 = some r) (hA0_0 : At w u0_0 2 (a0.Slots.map TSlot.row)) : Does Try.prog 86 [.agg #[u0_0]] w fun u m => u = .tuple #[st r.1, .int .i64 r.2] ∧ m = [] := by
  rw [m86_leaf_Text] at h
  refine body (n := 43) Try.func86 rfl rfl rfl (Cls.refl w) ?_
  refine W.seq ?_
  refine W.region ?_
  refine L.box rfl rfl ?_
  intro b1
  refine L.y rfl (Y.assign rfl) ?_
  refine L.y rfl (Y.assign rfl) ?_
  refine L.nil ?_
  refine E.thenN ?_
  refine W.seqJ (fun gs D => gs = [(1, pt b1 0)] ∧ D = Cls w [] [.obj b1 [u0_0] 127] ∧ m86_leaf_Text_K1 a0 = some r) ?_ ?_
  ·
    refine W.seq ?_
    refine W.region ?_
    refine L.y rfl (Y.loadPW (i := 0) ag127 sz127 rfl rfl rfl) ?_
    obtain ⟨x18, e19, h⟩ := bind1S h
    refine L.y rfl (Y.does en90 rfl (fun w' hw => (w90_leaf_Check a0 u0_0 w' _ e19 (hA0_0.cls0 hw)).mono (fun _ _ h => h.1))) ?_
    refine L.y rfl (Y.assign rfl) ?_
    refine L.nil ?_
    refine E.thenN ?_
    refine W.seq ?_
    refine W.region ?_
    refine L.y rfl (Y.move rfl) ?_
    refine L.ite h rfl (Y.neq rfl rfl) (fun c20 h => ?_) (fun c20 h => ?_)
    ·
      refine L.nil ?_
      refine E.thenN ?_
      refine W.condT rfl ?_
      refine W.seq ?_
      refine W.region ?_
      refine L.y rfl (Y.move rfl) ?_
      refine L.y rfl (Y.assign rfl) ?_
      refine L.y rfl (Y.assign rfl) ?_
      refine L.nil ?_
      refine E.thenN ?_
      refine W.ret ?_
      refine E.KSR ?_
      refine E.ret2 rfl rfl rfl (fun w1 hw => ?_)
      obtain rfl := Option.some.inj h
      exact ⟨_, _, rfl, ⟨rfl, rfl⟩, hw.sel [] (by decide) rfl⟩
    ·
      refine L.nil ?_
      refine E.thenN ?_
      refine W.condF rfl ?_
      refine W.skip ?_
      exact E.joinJ ⟨rfl, rfl, h⟩ ⟨rfl, trivial⟩ (fun _ hw => hw)
  ·
    rintro _ _ ⟨rfl, rfl, h⟩
    rw [m86_leaf_Text_K1] at h
    refine W.seq ?_
    refine W.region ?_
    refine L.y rfl (Y.fieldP fd127_0 rfl) ?_
    refine L.y rfl (Y.loadP (i := 0) ag125 rfl rfl rfl) ?_
    refine L.y rfl (Y.lenM (g := TSlot.row) (l := a0.Slots) Try.underlying125 rfl (fun w' hw => hA0_0.cls0 hw)) ?_
    refine L.y rfl (Y.conv Try.underlying3 Try.underlying41 rfl) ?_
    obtain ⟨s2, e3, h⟩ := bind1S h
    refine L.y rfl (Y.does en35 rfl (fun w' hw => (w35_code_PutNat (IntKind.wrap .u64 (a0.Slots.length : Int)) w' _ e3).mono (fun _ _ h => h.1))) ?_
    refine L.y rfl (Y.assign rfl) ?_
    refine L.nil ?_
    refine E.thenN ?_
    refine W.seqJ (fun gs D => ∃ (gs1 : (List UInt8)), gs = [(5, st gs1)] ∧ D = Cls w [] [] ∧ m86_leaf_Text_K2 gs1 = some r) ?_ ?_
    ·
      refine W.seq ?_
      refine W.region ?_
      refine L.y rfl (Y.fieldP fd127_0 rfl) ?_
      refine L.y rfl (Y.loadP (i := 0) ag125 rfl rfl rfl) ?_
      refine L.y rfl (Y.lenM (g := TSlot.row) (l := a0.Slots) Try.underlying125 rfl (fun w' hw => hA0_0.cls0 hw)) ?_
      refine L.y rfl (Y.move rfl) ?_
      refine L.nil ?_
      refine E.thenN ?_
      refine W.block ?_
      refine W.loopJ (fun m gs D => ∃ (gs2 : (List UInt8)) (gx3 : Int), gs = [(5, st gs2), (19, u0_0), (20, .int .i64 (a0.Slots.length : Int)), (21, .int .i64 gx3)] ∧ D = Cls w [] [] ∧ m86_leaf_Text_L1 a0 m gs2 gx3 = some r) ⟨s2, 0, rfl, rfl, h⟩ ⟨rfl, rfl, rfl, rfl, trivial⟩ (fun _ hw => hw.sel [] (by decide) rfl) ?_
      rintro m _ _ ⟨gs2, gx3, rfl, rfl, h⟩
      rcases m with _ | m
      · rw [m86_leaf_Text_L1] at h; cases h
      rw [m86_leaf_Text_L1] at h
      generalize hg1 : m86_leaf_Text_L1 a0 m = go1 at h
      rw [m86_leaf_Text_L1B] at h
      refine W.seq ?_
      refine W.region ?_
      refine L.ite h rfl (Y.lss rfl rfl) (fun c4 h => ?_) (fun c4 h => ?_)
      ·
        refine L.nil ?_
        refine E.thenN ?_
        refine W.seq ?_
        refine W.condT rfl ?_
        refine W.skip ?_
        refine E.thenN ?_
        refine W.seq ?_
        refine W.block ?_
        refine W.seq ?_
        refine W.region ?_
        refine L.m (V := fun _ => el u0_0 (gx3.toNat * 2)) h rfl (Y.indexM (g := TSlot.row) (l := a0.Slots) Try.underlying125 sz143 rfl rfl (fun w' hw => hA0_0.cls0 hw)) (fun x5 ex5 h => ?_)
        refine L.y rfl (Y.loadEN (r := [.bool x5.Used, st x5.Text]) ag143 sz143 rfl (fun w' hw => hA0_0.cls0 hw) (idx_map ex5) rfl) ?_
        refine L.alloc rfl ze143 ?_
        intro b6
        refine L.store (i := 0) sz143 rfl rfl rfl rfl (by simp [Value.oneCell', Value.cells, st]) rfl (Nat.le_of_ble_eq_true rfl) ?_
        refine L.nil ?_
        refine E.thenN ?_
        refine W.seq ?_
        refine W.region ?_
        refine L.y rfl (Y.fieldP fd143_0 rfl) ?_
        refine L.iteB h rfl (Y.loadP (i := 0) ag4 rfl rfl rfl) (fun c7 h => ?_) (fun c7 h => ?_)
        ·
          refine L.nil ?_
          refine E.thenN ?_
          refine W.condT rfl ?_
          refine W.quietC mixed (by kernel_rfl) (fun _ hw => hw.drew) (fun hC => ?_)
          refine U.y rfl (Y.move rfl) ?_
          refine U.y rfl (Y.fieldP fd143_1 rfl) ?_
          refine U.y rfl (Y.loadP (i := 0) ag9 rfl rfl rfl) ?_
          refine U.y rfl (Y.lenS Try.underlying9 rfl) ?_
          refine U.m (V := fun x8 => .int .i64 x8) h rfl (Y.addM rfl rfl) (fun x8 ex8 h => ?_)
          refine U.y rfl (Y.conv Try.underlying3 Try.underlying41 rfl) ?_
          obtain ⟨s9, e10, h⟩ := bind1S h
          refine U.y rfl (Y.does en35 rfl (fun w' hw => (w35_code_PutNat (IntKind.wrap .u64 x8) w' _ e10).mono (fun _ _ h => h.1))) ?_
          refine U.y rfl (Y.fieldP fd143_1 rfl) ?_
          refine U.y rfl (Y.loadP (i := 0) ag9 rfl rfl rfl) ?_
          refine U.m (V := fun s11 => st s11) h rfl (Y.catM rfl rfl) (fun s11 es11 h => ?_)
          refine U.m (V := fun s12 => st s12) h rfl (Y.catM rfl rfl) (fun s12 es12 h => ?_)
          refine U.y rfl (Y.assign rfl) ?_
          refine U.nil ?_
          refine E.blockN ?_
          refine E.thenN ?_
          refine W.region ?_
          refine L.m (V := fun x13 => .int .i64 x13) h rfl (Y.addM rfl rfl) (fun x13 ex13 h => ?_)
          refine L.y rfl (Y.move rfl) ?_
          refine L.nil ?_
          exact E.againJ ⟨s12, x13, rfl, rfl, by rw [hg1]; exact h⟩ (Nat.lt_succ_self _) ⟨rfl, rfl, rfl, rfl, trivial⟩ (fun _ hw => hw.sel [] (by decide) rfl)
        ·
          refine L.nil ?_
          refine E.thenN ?_
          refine W.condF rfl ?_
          refine W.region ?_
          refine L.y rfl (Y.move rfl) ?_
          obtain ⟨s14, e15, h⟩ := bind1S h
          refine L.y rfl (Y.does en35 rfl (fun w' hw => (w35_code_PutNat 0 w' _ e15).mono (fun _ _ h => h.1))) ?_
          refine L.m (V := fun s16 => st s16) h rfl (Y.catM rfl rfl) (fun s16 es16 h => ?_)
          refine L.y rfl (Y.assign rfl) ?_
          refine L.nil ?_
          refine E.blockN ?_
          refine E.thenN ?_
          refine W.region ?_
          refine L.m (V := fun x17 => .int .i64 x17) h rfl (Y.addM rfl rfl) (fun x17 ex17 h => ?_)
          refine L.y rfl (Y.move rfl) ?_
          refine L.nil ?_
          exact E.againJ ⟨s16, x17, rfl, rfl, by rw [hg1]; exact h⟩ (Nat.lt_succ_self _) ⟨rfl, rfl, rfl, rfl, trivial⟩ (fun _ hw => hw.sel [] (by decide) rfl)
      ·
        refine L.nil ?_
        refine E.thenN ?_
        refine W.seq ?_
        refine W.condF rfl ?_
        refine W.exit ?_
        refine E.thenX ?_
        refine E.KLX ?_
        refine E.blockX ?_
        exact E.joinJ ⟨gs2, rfl, rfl, h⟩ ⟨rfl, trivial⟩ (fun _ hw => hw)
    ·
      rintro _ _ ⟨gs1, rfl, rfl, h⟩
      rw [m86_leaf_Text_K2] at h
      refine W.seq ?_
      refine W.region ?_
      refine L.y rfl (Y.move rfl) ?_
      refine L.y rfl (Y.assign rfl) ?_
      refine L.y rfl (Y.assign rfl) ?_
      refine L.nil ?_
      refine E.thenN ?_
      refine W.ret ?_
      refine E.ret2 rfl rfl rfl (fun w1 hw => ?_)
      obtain rfl := Option.some.inj h
      exact ⟨_, _, rfl, ⟨rfl, rfl⟩, hw⟩
set_option maxRecDepth 100000 in
set_option maxHeartbeats 8000000 in
theorem w27_code_GetNat (a0 : (List UInt8)) (w : World) (r : (Int × Int × Int)) (h : m27_code_GetNat a0 = some r) : Does Try.prog 27 [st a0] w fun u m => u = .tuple #[.int .u64 r.1, .int .i64 r.2.1, .int .i64 r.2.2] ∧ m = [] := by
  rw [m27_code_GetNat] at h
  refine body (n := 42) Try.func27 rfl rfl rfl (Cls.refl w) ?_
  refine W.seq ?_
  refine W.region ?_
  refine L.y rfl (Y.assign rfl) ?_
  refine L.y rfl (Y.assign rfl) ?_
  refine L.y rfl (Y.assign rfl) ?_
  refine L.nil ?_
  refine E.thenN ?_
  refine W.seq ?_
  refine W.region ?_
  refine L.y rfl (Y.assign rfl) ?_
  refine L.nil ?_
  refine E.thenN ?_
  refine W.seqJ (fun gs D => gs = [] ∧ D = Cls w [] [] ∧ m27_code_GetNat_K1 = some r) ?_ ?_
  ·
    refine W.seq ?_
    refine W.region ?_
    refine L.y rfl (Y.move rfl) ?_
    refine L.y rfl (Y.lenS Try.underlying9 rfl) ?_
    refine L.y rfl (Y.move rfl) ?_
    refine L.nil ?_
    refine E.thenN ?_
    refine W.block ?_
    refine W.loopJ (fun m gs D => ∃ (gx1 : Int) (gx2 : Int), gs = [(0, st a0), (5, .int .u64 gx1), (9, .int .i64 (a0.length : Int)), (10, .int .i64 gx2)] ∧ D = Cls w [] [] ∧ m27_code_GetNat_L1 a0 m gx1 gx2 = some r) ⟨0, 0, rfl, rfl, h⟩ ⟨rfl, rfl, rfl, rfl, trivial⟩ (fun _ hw => hw) ?_
    rintro m _ _ ⟨gx1, gx2, rfl, rfl, h⟩
    rcases m with _ | m
    · rw [m27_code_GetNat_L1] at h; cases h
    rw [m27_code_GetNat_L1] at h
    generalize hg1 : m27_code_GetNat_L1 a0 m = go1 at h
    rw [m27_code_GetNat_L1B] at h
    refine W.seq ?_
    refine W.region ?_
    refine L.ite h rfl (Y.lss rfl rfl) (fun c1 h => ?_) (fun c1 h => ?_)
    ·
      refine L.nil ?_
      refine E.thenN ?_
      refine W.seq ?_
      refine W.condT rfl ?_
      refine W.skip ?_
      refine E.thenN ?_
      refine W.seq ?_
      refine W.block ?_
      refine W.seq ?_
      refine W.region ?_
      refine L.y rfl (Y.move rfl) ?_
      refine L.y rfl (Y.assign rfl) ?_
      refine L.nil ?_
      refine E.thenN ?_
      refine W.seq ?_
      refine W.region ?_
      refine L.y rfl (Y.move rfl) ?_
      refine L.y rfl (Y.move rfl) ?_
      refine L.m (V := fun x2 => .int .u8 x2) h rfl (Y.indexSM Try.underlying9 rfl rfl) (fun x2 ex2 h => ?_)
      refine L.y rfl (Y.assign rfl) ?_
      refine L.nil ?_
      refine E.thenN ?_
      refine W.seqJ (fun gs D => gs = [(0, st a0), (5, .int .u64 gx1), (6, .int .i64 gx2), (7, .int .u8 x2), (9, .int .i64 (a0.length : Int)), (10, .int .i64 gx2)] ∧ D = Cls w [] [] ∧ m27_code_GetNat_K2 gx2 x2 gx1 go1 = some r) ?_ ?_
      ·
        refine W.seq ?_
        refine W.region ?_
        refine L.y rfl (Y.move rfl) ?_
        refine L.ite h rfl (Y.eql rfl rfl) (fun c10 h => ?_) (fun c10 h => ?_)
        ·
          refine L.y rfl (Y.move rfl) ?_
          refine L.take rfl ?_
          refine L.y rfl (Y.move rfl) ?_
          refine L.take rfl ?_
          refine L.ite h rfl (Y.gtr rfl rfl) (fun c11 h => ?_) (fun c11 h => ?_)
          ·
            refine L.y rfl (Y.pickT rfl rfl) ?_
            refine L.nil ?_
            refine E.thenN ?_
            refine W.condT rfl ?_
            refine W.seq ?_
            refine W.region ?_
            refine L.y rfl (Y.assign rfl) ?_
            refine L.y rfl (Y.assign rfl) ?_
            refine L.y rfl (Y.assign rfl) ?_
            refine L.nil ?_
            refine E.thenN ?_
            refine W.ret ?_
            refine E.KSR ?_
            refine E.blockR ?_
            refine E.thenR ?_
            refine E.KLR ?_
            refine E.blockR ?_
            refine E.KSR ?_
            refine E.ret3 rfl rfl rfl rfl (fun w1 hw => ?_)
            obtain rfl := Option.some.inj h
            exact ⟨_, _, rfl, ⟨rfl, rfl⟩, hw⟩
          ·
            refine L.y rfl (Y.pickT rfl rfl) ?_
            refine L.nil ?_
            refine E.thenN ?_
            refine W.condF rfl ?_
            refine W.skip ?_
            exact E.joinJ ⟨rfl, rfl, h⟩ ⟨rfl, rfl, rfl, rfl, rfl, rfl, trivial⟩ (fun _ hw => hw)
        ·
          refine L.y rfl (Y.move rfl) ?_
          refine L.pass rfl rfl (by nofun) ?_
          refine L.pass rfl rfl (by nofun) ?_
          refine L.y rfl (Y.pickF rfl rfl) ?_
          refine L.nil ?_
          refine E.thenN ?_
          refine W.condF rfl ?_
          refine W.skip ?_
          exact E.joinJ ⟨rfl, rfl, h⟩ ⟨rfl, rfl, rfl, rfl, rfl, rfl, trivial⟩ (fun _ hw => hw)
      ·
        rintro _ _ ⟨rfl, rfl, h⟩
        rw [m27_code_GetNat_K2] at h
        refine W.seq ?_
        refine W.region ?_
        refine L.y rfl (Y.move rfl) ?_
        refine L.y rfl (Y.move rfl) ?_
        refine L.y rfl (Y.and rfl rfl) ?_
        refine L.y rfl (Y.conv Try.underlying5 Try.underlying41 rfl) ?_
        refine L.y rfl (Y.move rfl) ?_
        refine L.m (V := fun x3 => .int .i64 x3) h rfl (Y.mulM rfl rfl) (fun x3 ex3 h => ?_)
        refine L.m (V := fun x4 => .int .u64 x4) h rfl (Y.shlM rfl rfl) (fun x4 ex4 h => ?_)
        refine L.y rfl (Y.or rfl rfl) ?_
        refine L.y rfl (Y.assign rfl) ?_
        refine L.nil ?_
        refine E.thenN ?_
        refine W.seq ?_
        refine W.region ?_
        refine L.y rfl (Y.move rfl) ?_
        refine L.ite h rfl (Y.lss rfl rfl) (fun c5 h => ?_) (fun c5 h => ?_)
        ·
          refine L.nil ?_
          refine E.thenN ?_
          refine W.condT rfl ?_
          refine W.seqJ (fun gs D => gs = [(5, .int .u64 (Go.bits .or .u64 gx1 x4)), (6, .int .i64 gx2)] ∧ D = Cls w [] [] ∧ m27_code_GetNat_K3 gx2 gx1 x4 = some r) ?_ ?_
          ·
            refine W.seq ?_
            refine W.region ?_
            refine L.y rfl (Y.move rfl) ?_
            refine L.ite h rfl (Y.eql rfl rfl) (fun c7 h => ?_) (fun c7 h => ?_)
            ·
              refine L.y rfl (Y.move rfl) ?_
              refine L.take rfl ?_
              refine L.y rfl (Y.move rfl) ?_
              refine L.take rfl ?_
              refine L.ite h rfl (Y.gtr rfl rfl) (fun c8 h => ?_) (fun c8 h => ?_)
              ·
                refine L.y rfl (Y.pickT rfl rfl) ?_
                refine L.nil ?_
                refine E.thenN ?_
                refine W.condT rfl ?_
                refine W.seq ?_
                refine W.region ?_
                refine L.y rfl (Y.assign rfl) ?_
                refine L.y rfl (Y.assign rfl) ?_
                refine L.y rfl (Y.assign rfl) ?_
                refine L.nil ?_
                refine E.thenN ?_
                refine W.ret ?_
                refine E.KSR ?_
                refine E.blockR ?_
                refine E.thenR ?_
                refine E.KLR ?_
                refine E.blockR ?_
                refine E.KSR ?_
                refine E.ret3 rfl rfl rfl rfl (fun w1 hw => ?_)
                obtain rfl := Option.some.inj h
                exact ⟨_, _, rfl, ⟨rfl, rfl⟩, hw⟩
              ·
                refine L.y rfl (Y.pickT rfl rfl) ?_
                refine L.nil ?_
                refine E.thenN ?_
                refine W.condF rfl ?_
                refine W.skip ?_
                exact E.joinJ ⟨rfl, rfl, h⟩ ⟨rfl, rfl, trivial⟩ (fun _ hw => hw)
            ·
              refine L.y rfl (Y.move rfl) ?_
              refine L.pass rfl rfl (by nofun) ?_
              refine L.pass rfl rfl (by nofun) ?_
              refine L.y rfl (Y.pickF rfl rfl) ?_
              refine L.nil ?_
              refine E.thenN ?_
              refine W.condF rfl ?_
              refine W.skip ?_
              exact E.joinJ ⟨rfl, rfl, h⟩ ⟨rfl, rfl, trivial⟩ (fun _ hw => hw)
          ·
            rintro _ _ ⟨rfl, rfl, h⟩
            rw [m27_code_GetNat_K3] at h
            refine W.seq ?_
            refine W.region ?_
            refine L.y rfl (Y.move rfl) ?_
            refine L.y rfl (Y.move rfl) ?_
            refine L.m (V := fun x6 => .int .i64 x6) h rfl (Y.addM rfl rfl) (fun x6 ex6 h => ?_)
            refine L.y rfl (Y.assign rfl) ?_
            refine L.y rfl (Y.assign rfl) ?_
            refine L.y rfl (Y.assign rfl) ?_
            refine L.nil ?_
            refine E.thenN ?_
            refine W.ret ?_
            refine E.blockR ?_
            refine E.thenR ?_
            refine E.KLR ?_
            refine E.blockR ?_
            refine E.KSR ?_
            refine E.ret3 rfl rfl rfl rfl (fun w1 hw => ?_)
            obtain rfl := Option.some.inj h
            exact ⟨_, _, rfl, ⟨rfl, rfl⟩, hw⟩
        ·
          refine L.nil ?_
          refine E.thenN ?_
          refine W.condF rfl ?_
          refine W.skip ?_
          refine E.blockN ?_
          refine E.thenN ?_
          refine W.region ?_
          refine L.m (V := fun x9 => .int .i64 x9) h rfl (Y.addM rfl rfl) (fun x9 ex9 h => ?_)
          refine L.y rfl (Y.move rfl) ?_
          refine L.nil ?_
          exact E.againJ ⟨Go.bits .or .u64 gx1 x4, x9, rfl, rfl, by rw [hg1]; exact h⟩ (Nat.lt_succ_self _) ⟨rfl, rfl, rfl, rfl, trivial⟩ (fun _ hw => hw)
    ·
      refine L.nil ?_
      refine E.thenN ?_
      refine W.seq ?_
      refine W.condF rfl ?_
      refine W.exit ?_
      refine E.thenX ?_
      refine E.KLX ?_
      refine E.blockX ?_
      exact E.joinJ ⟨rfl, rfl, h⟩ trivial (fun _ hw => hw)
  ·
    rintro _ _ ⟨rfl, rfl, h⟩
    rw [m27_code_GetNat_K1] at h
    refine W.seq ?_
    refine W.region ?_
    refine L.y rfl (Y.assign rfl) ?_
    refine L.y rfl (Y.assign rfl) ?_
    refine L.y rfl (Y.assign rfl) ?_
    refine L.nil ?_
    refine E.thenN ?_
    refine W.ret ?_
    refine E.ret3 rfl rfl rfl rfl (fun w1 hw => ?_)
    obtain rfl := Option.some.inj h
    exact ⟨_, _, rfl, ⟨rfl, rfl⟩, hw⟩
set_option maxRecDepth 100000 in
set_option maxHeartbeats 8000000 in
theorem w87_leaf_Read (a0 : (List UInt8)) (w : World) (r : (TLeaf × Int)) (h : m87_leaf_Read a0 = some r) : Does Try.prog 87 [st a0] w fun u m => ∃ v0, u = .tuple #[.agg #[v0], .int .i64 r.2] ∧ m = [.sl v0 143 2 (r.1.Slots.map TSlot.row)] := by
  rw [m87_leaf_Read] at h
  refine body (n := 91) Try.func87 rfl rfl rfl (Cls.refl w) ?_
  refine W.seq ?_
  refine W.region ?_
  refine L.alloc rfl ze127 ?_
  intro b1
  refine L.y rfl (Y.assign rfl) ?_
  refine L.nil ?_
  refine E.thenN ?_
  refine W.seq ?_
  refine W.region ?_
  refine L.y rfl (Y.move rfl) ?_
  obtain ⟨x2, x3, x4, e5, h⟩ := bind3S h
  refine L.y rfl (Y.does en27 rfl (fun w' hw => (w27_code_GetNat a0 w' _ e5).mono (fun _ _ h => h.1))) ?_
  refine L.y rfl (Y.move rfl) ?_
  refine L.y rfl (Y.extract rfl rfl) ?_
  refine L.y rfl (Y.extract rfl rfl) ?_
  refine L.y rfl (Y.extract rfl rfl) ?_
  refine L.y rfl (Y.assign rfl) ?_
  refine L.y rfl (Y.assign rfl) ?_
  refine L.y rfl (Y.assign rfl) ?_
  refine L.nil ?_
  refine E.thenN ?_
  refine W.seqJ (fun gs D => gs = [(0, st a0), (2, pt b1 0), (4, .int .u64 x2), (5, .int .i64 x3)] ∧ D = Cls w [] [.obj b1 [.slice none 0 0] 127] ∧ m87_leaf_Read_K1 a0 x3 x2 = some r) ?_ ?_
  ·
    refine W.seq ?_
    refine W.region ?_
    refine L.y rfl (Y.move rfl) ?_
    refine L.ite h rfl (Y.neq rfl rfl) (fun c35 h => ?_) (fun c35 h => ?_)
    ·
      refine L.y rfl (Y.move rfl) ?_
      refine L.pass rfl rfl (by nofun) ?_
      refine L.pass rfl rfl (by nofun) ?_
      refine L.y rfl (Y.pickT rfl rfl) ?_
      refine L.nil ?_
      refine E.thenN ?_
      refine W.condT rfl ?_
      refine W.seq ?_
      refine W.region ?_
      refine L.y rfl (Y.build (cells := #[.slice none 0 0]) rfl (by kernel_rfl)) ?_
      refine L.store (i := 0) sz127 rfl rfl rfl rfl (by simp [Value.oneCell', Value.cells, st]) rfl (Nat.le_of_ble_eq_true rfl) ?_
      refine L.y rfl (Y.assign rfl) ?_
      refine L.nil ?_
      refine E.thenN ?_
      refine W.ret ?_
      refine E.KSR ?_
      refine E.retR2 rfl (Rv.cellW (i := 0) ag127 sz127 rfl rfl rfl) (Rv.tmp rfl) (fun w1 hw => ?_)
      obtain rfl := Option.some.inj h
      exact ⟨_, _, rfl, ⟨_, rfl, rfl⟩, (hw.nilSl 143 2).sel [0] (by decide) rfl⟩
    ·
      refine L.y rfl (Y.move rfl) ?_
      refine L.take rfl ?_
      refine L.y rfl (Y.move rfl) ?_
      refine L.take rfl ?_
      refine L.ite h rfl (Y.gtr rfl rfl) (fun c36 h => ?_) (fun c36 h => ?_)
      ·
        refine L.y rfl (Y.pickF rfl rfl) ?_
        refine L.nil ?_
        refine E.thenN ?_
        refine W.condT rfl ?_
        refine W.seq ?_
        refine W.region ?_
        refine L.y rfl (Y.build (cells := #[.slice none 0 0]) rfl (by kernel_rfl)) ?_
        refine L.store (i := 0) sz127 rfl rfl rfl rfl (by simp [Value.oneCell', Value.cells, st]) rfl (Nat.le_of_ble_eq_true rfl) ?_
        refine L.y rfl (Y.assign rfl) ?_
        refine L.nil ?_
        refine E.thenN ?_
        refine W.ret ?_
        refine E.KSR ?_
        refine E.retR2 rfl (Rv.cellW (i := 0) ag127 sz127 rfl rfl rfl) (Rv.tmp rfl) (fun w1 hw => ?_)
        obtain rfl := Option.some.inj h
        exact ⟨_, _, rfl, ⟨_, rfl, rfl⟩, (hw.nilSl 143 2).sel [0] (by decide) rfl⟩
      ·
        refine L.y rfl (Y.pickF rfl rfl) ?_
        refine L.nil ?_
        refine E.thenN ?_
        refine W.condF rfl ?_
        refine W.skip ?_
        exact E.joinJ ⟨rfl, rfl, h⟩ ⟨rfl, rfl, rfl, rfl, trivial⟩ (fun _ hw => hw)
  ·
    rintro _ _ ⟨rfl, rfl, h⟩
    rw [m87_leaf_Read_K1] at h
    refine W.seq ?_
    refine W.region ?_
    refine L.y rfl (Y.move rfl) ?_
    refine L.y rfl (Y.move rfl) ?_
    refine L.m (V := fun s6 => st s6) h rfl (Y.sliceSL Try.underlying9 rfl rfl) (fun s6 es6 h => ?_)
    refine L.y rfl (Y.assign rfl) ?_
    refine L.nil ?_
    refine E.thenN ?_
    refine W.seq ?_
    refine W.region ?_
    refine L.alloc rfl ze127 ?_
    intro b7
    refine L.nil ?_
    refine E.thenN ?_
    refine W.seqJ (fun gs D => ∃ (gs1 : (List UInt8)) (gv2 : Value) (gl3 : (List TSlot)), gs = [(0, st gs1), (2, pt b1 0), (7, pt b7 0)] ∧ D = Cls w [] [.obj b7 [gv2] 127, .obj b1 [.slice none 0 0] 127, .sl gv2 143 2 (gl3.map TSlot.row)] ∧ m87_leaf_Read_K2 gs1 gl3 = some r) ?_ ?_
    ·
      refine W.seq ?_
      refine W.region ?_
      refine L.y rfl (Y.move rfl) ?_
      refine L.y rfl (Y.move rfl) ?_
      refine L.nil ?_
      refine E.thenN ?_
      refine W.block ?_
      refine W.nilSl 143 2 ?_
      refine W.loopJ (fun m gs D => ∃ (gs4 : (List UInt8)) (gx5 : Int) (gv6 : Value) (gl7 : (List TSlot)), gs = [(0, st gs4), (2, pt b1 0), (7, pt b7 0), (28, .int .u64 x2), (29, .int .u64 gx5)] ∧ D = Cls w [] [.obj b7 [gv6] 127, .obj b1 [.slice none 0 0] 127, .sl gv6 143 2 (gl7.map TSlot.row)] ∧ m87_leaf_Read_L1 x2 m gs4 gx5 gl7 = some r) ⟨s6, 0, .slice none 0 0, [], rfl, rfl, h⟩ ⟨rfl, rfl, rfl, rfl, rfl, trivial⟩ (fun _ hw => hw.sel [1, 2, 0] (by decide) rfl) ?_
      rintro m _ _ ⟨gs4, gx5, gv6, gl7, rfl, rfl, h⟩
      rcases m with _ | m
      · rw [m87_leaf_Read_L1] at h; cases h
      rw [m87_leaf_Read_L1] at h
      generalize hg1 : m87_leaf_Read_L1 x2 m = go1 at h
      rw [m87_leaf_Read_L1B] at h
      refine W.seq ?_
      refine W.region ?_
      refine L.ite h rfl (Y.lss rfl rfl) (fun c12 h => ?_) (fun c12 h => ?_)
      ·
        refine L.nil ?_
        refine E.thenN ?_
        refine W.seq ?_
        refine W.condT rfl ?_
        refine W.skip ?_
        refine E.thenN ?_
        refine W.seqJ (fun gs D => ∃ (gs8 : (List UInt8)) (gv9 : Value) (gl10 : (List TSlot)), gs = [(0, st gs8), (2, pt b1 0), (7, pt b7 0), (28, .int .u64 x2), (29, .int .u64 gx5)] ∧ D = Cls w [] [.obj b7 [gv9] 127, .obj b1 [.slice none 0 0] 127, .sl gv9 143 2 (gl10.map TSlot.row)] ∧ m87_leaf_Read_K3 go1 gx5 gs8 gl10 = some r) ?_ ?_
        ·
          refine W.block ?_
          refine W.seq ?_
          refine W.region ?_
          refine L.y rfl (Y.move rfl) ?_
          obtain ⟨x13, x14, x15, e16, h⟩ := bind3S h
          refine L.y rfl (Y.does en27 rfl (fun w' hw => (w27_code_GetNat gs4 w' _ e16).mono (fun _ _ h => h.1))) ?_
          refine L.y rfl (Y.move rfl) ?_
          refine L.y rfl (Y.extract rfl rfl) ?_
          refine L.y rfl (Y.extract rfl rfl) ?_
          refine L.y rfl (Y.extract rfl rfl) ?_
          refine L.y rfl (Y.assign rfl) ?_
          refine L.y rfl (Y.assign rfl) ?_
          refine L.y rfl (Y.assign rfl) ?_
          refine L.nil ?_
          refine E.thenN ?_
          refine W.seqJ (fun gs D => gs = [(0, st gs4), (2, pt b1 0), (7, pt b7 0), (8, .int .u64 x13), (9, .int .i64 x14), (28, .int .u64 x2), (29, .int .u64 gx5)] ∧ D = Cls w [] [.obj b7 [gv6] 127, .obj b1 [.slice none 0 0] 127, .sl gv6 143 2 (gl7.map TSlot.row)] ∧ m87_leaf_Read_K4 gs4 x14 x13 gl7 go1 gx5 = some r) ?_ ?_
          ·
            refine W.seq ?_
            refine W.region ?_
            refine L.cutJ 6 (fun gs D => ∃ (gb11 : Bool), gs = [(0, st gs4), (2, pt b1 0), (7, pt b7 0), (8, .int .u64 x13), (9, .int .i64 x14), (28, .int .u64 x2), (29, .int .u64 gx5), (42, .bool gb11)] ∧ D = Cls w [] [.obj b7 [gv6] 127, .obj b1 [.slice none 0 0] 127, .sl gv6 143 2 (gl7.map TSlot.row)] ∧ m87_leaf_Read_K5 x13 gs4 x14 gl7 go1 gx5 gb11 = some r) ?_ ?_
            ·
              refine L.y rfl (Y.move rfl) ?_
              refine L.ite h rfl (Y.neq rfl rfl) (fun c33 h => ?_) (fun c33 h => ?_)
              ·
                refine L.y rfl (Y.move rfl) ?_
                refine L.pass rfl rfl (by nofun) ?_
                refine L.pass rfl rfl (by nofun) ?_
                refine L.y rfl (Y.pickT rfl rfl) ?_
                refine L.nil ?_
                exact E.joinJ ⟨true, rfl, rfl, h⟩ ⟨rfl, rfl, rfl, rfl, rfl, rfl, rfl, rfl, trivial⟩ (fun _ hw => hw)
              ·
                refine L.y rfl (Y.move rfl) ?_
                refine L.take rfl ?_
                refine L.y rfl (Y.move rfl) ?_
                refine L.take rfl ?_
                refine L.ite h rfl (Y.gtr rfl rfl) (fun c34 h => ?_) (fun c34 h => ?_)
                ·
                  refine L.y rfl (Y.pickF rfl rfl) ?_
                  refine L.nil ?_
                  exact E.joinJ ⟨true, rfl, rfl, h⟩ ⟨rfl, rfl, rfl, rfl, rfl, rfl, rfl, rfl, trivial⟩ (fun _ hw => hw)
                ·
                  refine L.y rfl (Y.pickF rfl rfl) ?_
                  refine L.nil ?_
                  exact E.joinJ ⟨false, rfl, rfl, h⟩ ⟨rfl, rfl, rfl, rfl, rfl, rfl, rfl, rfl, trivial⟩ (fun _ hw => hw)
            ·
              rintro _ _ ⟨gb11, rfl, rfl, h⟩
              rw [m87_leaf_Read_K5] at h
              rcases gb11 with _ | _
              ·
                replace h := iteF h
                refine L.cutJ 13 (fun gs D => ∃ (gb12 : Bool), gs = [(0, st gs4), (2, pt b1 0), (7, pt b7 0), (8, .int .u64 x13), (9, .int .i64 x14), (28, .int .u64 x2), (29, .int .u64 gx5), (43, .bool false), (55, .bool gb12)] ∧ D = Cls w [] [.obj b7 [gv6] 127, .obj b1 [.slice none 0 0] 127, .sl gv6 143 2 (gl7.map TSlot.row)] ∧ m87_leaf_Read_K6 gs4 x14 x13 gl7 go1 gx5 gb12 = some r) ?_ ?_
                ·
                  refine L.y rfl (Y.move rfl) ?_
                  refine L.take rfl ?_
                  refine L.y rfl (Y.move rfl) ?_
                  refine L.take rfl ?_
                  refine L.ite h rfl (Y.gtr rfl rfl) (fun c30 h => ?_) (fun c30 h => ?_)
                  ·
                    refine L.take rfl ?_
                    refine L.y rfl (Y.move rfl) ?_
                    refine L.take rfl ?_
                    refine L.y rfl (Y.move rfl) ?_
                    refine L.take rfl ?_
                    refine L.y rfl (Y.lenS Try.underlying9 rfl) ?_
                    refine L.take rfl ?_
                    refine L.y rfl (Y.move rfl) ?_
                    refine L.take rfl ?_
                    refine L.m (V := fun x31 => .int .i64 x31) h rfl (Y.subM rfl rfl) (fun x31 ex31 h => ?_)
                    refine L.take rfl ?_
                    refine L.y rfl (Y.conv Try.underlying3 Try.underlying41 rfl) ?_
                    refine L.take rfl ?_
                    refine L.y rfl (Y.move rfl) ?_
                    refine L.take rfl ?_
                    refine L.y rfl (Y.subW rfl rfl) ?_
                    refine L.take rfl ?_
                    refine L.ite h rfl (Y.lss rfl rfl) (fun c32 h => ?_) (fun c32 h => ?_)
                    ·
                      refine L.take rfl ?_
                      refine L.y rfl (Y.pickT rfl rfl) ?_
                      refine L.nil ?_
                      exact E.joinJ ⟨true, rfl, rfl, h⟩ ⟨rfl, rfl, rfl, rfl, rfl, rfl, rfl, rfl, rfl, trivial⟩ (fun _ hw => hw)
                    ·
                      refine L.take rfl ?_
                      refine L.y rfl (Y.pickT rfl rfl) ?_
                      refine L.nil ?_
                      exact E.joinJ ⟨false, rfl, rfl, h⟩ ⟨rfl, rfl, rfl, rfl, rfl, rfl, rfl, rfl, rfl, trivial⟩ (fun _ hw => hw)
                  ·
                    refine L.take rfl ?_
                    refine L.y rfl (Y.move rfl) ?_
                    refine L.pass rfl rfl (by nofun) ?_
                    refine L.pass rfl rfl (by nofun) ?_
                    refine L.pass rfl rfl (by nofun) ?_
                    refine L.pass rfl rfl (by nofun) ?_
                    refine L.pass rfl rfl (by nofun) ?_
                    refine L.pass rfl rfl (by nofun) ?_
                    refine L.pass rfl rfl (by nofun) ?_
                    refine L.pass rfl rfl (by nofun) ?_
                    refine L.take rfl ?_
                    refine L.y rfl (Y.pickF rfl rfl) ?_
                    refine L.nil ?_
                    exact E.joinJ ⟨false, rfl, rfl, h⟩ ⟨rfl, rfl, rfl, rfl, rfl, rfl, rfl, rfl, rfl, trivial⟩ (fun _ hw => hw)
                ·
                  rintro _ _ ⟨gb12, rfl, rfl, h⟩
                  rw [m87_leaf_Read_K6] at h
                  rcases gb12 with _ | _
                  ·
                    replace h := iteF h
                    refine L.y rfl (Y.pickF rfl rfl) ?_
                    refine L.nil ?_
                    refine E.thenN ?_
                    refine W.condF rfl ?_
                    refine W.skip ?_
                    exact E.joinJ ⟨rfl, rfl, h⟩ ⟨rfl, rfl, rfl, rfl, rfl, rfl, rfl, trivial⟩ (fun _ hw => hw)
                  ·
                    replace h := iteT h
                    refine L.y rfl (Y.pickF rfl rfl) ?_
                    refine L.nil ?_
                    refine E.thenN ?_
                    refine W.condT rfl ?_
                    refine W.seq ?_
                    refine W.region ?_
                    refine L.y rfl (Y.build (cells := #[.slice none 0 0]) rfl (by kernel_rfl)) ?_
                    refine L.store (i := 1) sz127 rfl rfl rfl rfl (by simp [Value.oneCell', Value.cells, st]) rfl (Nat.le_of_ble_eq_true rfl) ?_
                    refine L.y rfl (Y.assign rfl) ?_
                    refine L.nil ?_
                    refine E.thenN ?_
                    refine W.ret ?_
                    refine E.KSR ?_
                    refine E.blockR ?_
                    refine E.KSR ?_
                    refine E.KLR ?_
                    refine E.blockR ?_
                    refine E.KSR ?_
                    refine E.retR2 rfl (Rv.cellW (i := 1) ag127 sz127 rfl rfl rfl) (Rv.tmp rfl) (fun w1 hw => ?_)
                    obtain rfl := Option.some.inj h
                    exact ⟨_, _, rfl, ⟨_, rfl, rfl⟩, (hw.nilSl 143 2).sel [0] (by decide) rfl⟩
              ·
                replace h := iteT h
                refine L.y rfl (Y.move rfl) ?_
                refine L.pass rfl rfl (by nofun) ?_
                refine L.pass rfl rfl (by nofun) ?_
                refine L.pass rfl rfl (by nofun) ?_
                refine L.pass rfl rfl (by nofun) ?_
                refine L.pass rfl rfl (by nofun) ?_
                refine L.pass rfl rfl (by nofun) ?_
                refine L.pass rfl rfl (by nofun) ?_
                refine L.pass rfl rfl (by nofun) ?_
                refine L.pass rfl rfl (by nofun) ?_
                refine L.pass rfl rfl (by nofun) ?_
                refine L.pass rfl rfl (by nofun) ?_
                refine L.pass rfl rfl (by nofun) ?_
                refine L.y rfl (Y.pickT rfl rfl) ?_
                refine L.nil ?_
                refine E.thenN ?_
                refine W.condT rfl ?_
                refine W.seq ?_
                refine W.region ?_
                refine L.y rfl (Y.build (cells := #[.slice none 0 0]) rfl (by kernel_rfl)) ?_
                refine L.store (i := 1) sz127 rfl rfl rfl rfl (by simp [Value.oneCell', Value.cells, st]) rfl (Nat.le_of_ble_eq_true rfl) ?_
                refine L.y rfl (Y.assign rfl) ?_
                refine L.nil ?_
                refine E.thenN ?_
                refine W.ret ?_
                refine E.KSR ?_
                refine E.blockR ?_
                refine E.KSR ?_
                refine E.KLR ?_
                refine E.blockR ?_
                refine E.KSR ?_
                refine E.retR2 rfl (Rv.cellW (i := 1) ag127 sz127 rfl rfl rfl) (Rv.tmp rfl) (fun w1 hw => ?_)
                obtain rfl := Option.some.inj h
                exact ⟨_, _, rfl, ⟨_, rfl, rfl⟩, (hw.nilSl 143 2).sel [0] (by decide) rfl⟩
          ·
            rintro _ _ ⟨rfl, rfl, h⟩
            rw [m87_leaf_Read_K4] at h
            refine W.seq ?_
            refine W.region ?_
            refine L.y rfl (Y.move rfl) ?_
            refine L.y rfl (Y.move rfl) ?_
            refine L.m (V := fun s17 => st s17) h rfl (Y.sliceSL Try.underlying9 rfl rfl) (fun s17 es17 h => ?_)
            refine L.y rfl (Y.assign rfl) ?_
            refine L.nil ?_
            refine E.thenN ?_
            refine W.seq ?_
            refine W.region ?_
            refine L.y rfl (Y.move rfl) ?_
            refine L.y rfl (Y.gtr rfl rfl) ?_
            refine L.y rfl (Y.build (cells := #[.bool (decide (0 < x13)), st []]) rfl (by kernel_rfl)) ?_
            refine L.alloc rfl ze143 ?_
            intro b18
            refine L.store (i := 0) sz143 rfl rfl rfl rfl (by simp [Value.oneCell', Value.cells, st]) rfl (Nat.le_of_ble_eq_true rfl) ?_
            refine L.nil ?_
            refine E.thenN ?_
            refine W.seq ?_
            refine W.seq ?_
            refine W.region ?_
            refine L.y rfl (Y.fieldP fd143_0 rfl) ?_
            refine L.iteB h rfl (Y.loadP (i := 0) ag4 rfl rfl rfl) (fun c19 h => ?_) (fun c19 h => ?_)
            ·
              refine L.nil ?_
              refine E.thenN ?_
              refine W.condT rfl ?_
              refine W.drawn (k := 11) (D := Cls w [] [.obj b7 [gv6] 127, .obj b1 [.slice none 0 0] 127, .sl gv6 143 2 (gl7.map TSlot.row)]) rfl mixed (fun _ hw => hw.drew) (fun _ hw => hw.sel [1, 2, 3] (by decide) rfl) ?_
              refine V.y (i := 0) (Nx.of (by kernel_rfl) rfl) rfl rfl rfl (Y.move rfl) ?_
              refine V.y (i := 1) (Nx.of (by kernel_rfl) rfl) rfl rfl rfl (Y.move rfl) ?_
              refine V.y (i := 2) (Nx.of (by kernel_rfl) rfl) rfl rfl rfl (Y.subW rfl rfl) ?_
              refine V.m (i := 3) (V' := fun s22 => st s22) h (Nx.of (by kernel_rfl) rfl) rfl rfl rfl (Y.sliceSH Try.underlying9 rfl rfl) (fun s22 es22 h => ?_)
              refine V.y (i := 4) (Nx.of (by kernel_rfl) rfl) rfl rfl rfl (Y.move rfl) ?_
              refine V.y (i := 5) (Nx.of (by kernel_rfl) rfl) rfl rfl rfl (Y.move rfl) ?_
              refine V.y (i := 6) (Nx.of (by kernel_rfl) rfl) rfl rfl rfl (Y.subW rfl rfl) ?_
              refine V.m (i := 7) (V' := fun s23 => st s23) h (Nx.of (by kernel_rfl) rfl) rfl rfl rfl (Y.sliceSL Try.underlying9 rfl rfl) (fun s23 es23 h => ?_)
              refine V.y (i := 8) (Nx.of (by kernel_rfl) rfl) rfl rfl rfl (Y.fieldP fd143_1 rfl) ?_
              refine V.eff (i := 9) (by kernel_rfl) rfl ?_
              refine L.store (i := 0) sz9 rfl rfl rfl rfl (by simp [Value.oneCell', Value.cells, st]) rfl (Nat.le_of_ble_eq_true rfl) ?_
              refine L.nil ?_
              refine E.toV (D' := Cls w [] [.obj b7 [gv6] 127, .obj b1 [.slice none 0 0] 127, .sl gv6 143 2 (gl7.map TSlot.row)]) (fun _ hw => hw) (fun _ hw => hw.sel [1, 2, 3] (by decide) rfl) ?_
              refine V.y (i := 10) (Nx.of (by kernel_rfl) rfl) rfl rfl rfl (Y.assign rfl) ?_
              refine V.done (by kernel_rfl) ?_
              refine E.thenN ?_
              refine W.region ?_
              refine L.y rfl (Y.fieldP fd127_0 rfl) ?_
              refine L.y rfl (Y.loadP (i := 1) ag125 rfl rfl rfl) ?_
              refine L.y rfl (Y.loadPW (i := 0) ag143 sz143 rfl rfl rfl) ?_
              refine L.litAgg rfl Try.underlying125 el143 rfl rfl rfl ?_
              intro b24
              refine L.appM (i := 4) (g := TSlot.row) (l := gl7) (more := [(⟨decide (0 < x13), s22⟩ : TSlot)]) h rfl Try.underlying125 el143 rfl rfl rfl (fun w hw => As.at_ (hw.get (i := 0) rfl)) (plain_TSlot _) rfl ?_
              intro v25 l26 el26 h
              refine L.y rfl (Y.fieldP fd127_0 rfl) ?_
              refine L.storeV (i := 3) sz125 rfl rfl (fun _ hw => (As.at_ (hw.get (i := 0) rfl)).one) rfl (Nat.le_of_ble_eq_true rfl) ?_
              refine L.nil ?_
              refine E.blockN ?_
              exact E.joinJ ⟨s23, v25, l26, rfl, rfl, h⟩ ⟨rfl, rfl, rfl, rfl, rfl, trivial⟩ (fun _ hw => hw.sel [3, 4, 0] (by decide) rfl)
            ·
              refine L.nil ?_
              refine E.thenN ?_
              refine W.condF rfl ?_
              refine W.skip ?_
              refine E.thenN ?_
              refine W.region ?_
              refine L.y rfl (Y.fieldP fd127_0 rfl) ?_
              refine L.y rfl (Y.loadP (i := 1) ag125 rfl rfl rfl) ?_
              refine L.y rfl (Y.loadPW (i := 0) ag143 sz143 rfl rfl rfl) ?_
              refine L.litAgg rfl Try.underlying125 el143 rfl rfl rfl ?_
              intro b27
              refine L.appM (i := 4) (g := TSlot.row) (l := gl7) (more := [(⟨decide (0 < x13), []⟩ : TSlot)]) h rfl Try.underlying125 el143 rfl rfl rfl (fun w hw => As.at_ (hw.get (i := 0) rfl)) (plain_TSlot _) rfl ?_
              intro v28 l29 el29 h
              refine L.y rfl (Y.fieldP fd127_0 rfl) ?_
              refine L.storeV (i := 3) sz125 rfl rfl (fun _ hw => (As.at_ (hw.get (i := 0) rfl)).one) rfl (Nat.le_of_ble_eq_true rfl) ?_
              refine L.nil ?_
              refine E.blockN ?_
              exact E.joinJ ⟨s17, v28, l29, rfl, rfl, h⟩ ⟨rfl, rfl, rfl, rfl, rfl, trivial⟩ (fun _ hw => hw.sel [3, 4, 0] (by decide) rfl)
        ·
          rintro _ _ ⟨gs8, gv9, gl10, rfl, rfl, h⟩
          rw [m87_leaf_Read_K3] at h
          refine W.region ?_
          refine L.y rfl (Y.addW rfl rfl) ?_
          refine L.y rfl (Y.move rfl) ?_
          refine L.nil ?_
          exact E.againJ ⟨gs8, IntKind.wrap .u64 (gx5 + 1), gv9, gl10, rfl, rfl, by rw [hg1]; exact h⟩ (Nat.lt_succ_self _) ⟨rfl, rfl, rfl, rfl, rfl, trivial⟩ (fun _ hw => hw)
      ·
        refine L.nil ?_
        refine E.thenN ?_
        refine W.seq ?_
        refine W.condF rfl ?_
        refine W.exit ?_
        refine E.thenX ?_
        refine E.KLX ?_
        refine E.blockX ?_
        exact E.joinJ ⟨gs4, gv6, gl7, rfl, rfl, h⟩ ⟨rfl, rfl, rfl, trivial⟩ (fun _ hw => hw)
    ·
      rintro _ _ ⟨gs1, gv2, gl3, rfl, rfl, h⟩
      rw [m87_leaf_Read_K2] at h
      refine W.seq ?_
      refine W.seq ?_
      refine W.region ?_
      refine L.y rfl (Y.move rfl) ?_
      refine L.ite h rfl (Y.neqS rfl rfl) (fun c8 h => ?_) (fun c8 h => ?_)
      ·
        refine L.y rfl (Y.move rfl) ?_
        refine L.pass rfl rfl (by nofun) ?_
        refine L.pass rfl rfl (by nofun) ?_
        refine L.pass rfl rfl (by nofun) ?_
        refine L.y rfl (Y.pickT rfl rfl) ?_
        refine L.nil ?_
        refine E.thenN ?_
        refine W.condT rfl ?_
        refine W.seq ?_
        refine W.region ?_
        refine L.y rfl (Y.build (cells := #[.slice none 0 0]) rfl (by kernel_rfl)) ?_
        refine L.store (i := 1) sz127 rfl rfl rfl rfl (by simp [Value.oneCell', Value.cells, st]) rfl (Nat.le_of_ble_eq_true rfl) ?_
        refine L.y rfl (Y.assign rfl) ?_
        refine L.nil ?_
        refine E.thenN ?_
        refine W.ret ?_
        refine E.thenR ?_
        refine E.retR2 rfl (Rv.cellW (i := 1) ag127 sz127 rfl rfl rfl) (Rv.tmp rfl) (fun w1 hw => ?_)
        obtain rfl := Option.some.inj h
        exact ⟨_, _, rfl, ⟨_, rfl, rfl⟩, (hw.nilSl 143 2).sel [0] (by decide) rfl⟩
      ·
        refine L.y rfl (Y.move rfl) ?_
        refine L.take rfl ?_
        refine L.y rfl (Y.loadPW (i := 0) ag127 sz127 rfl rfl rfl) ?_
        refine L.take rfl ?_
        obtain ⟨x9, e10, h⟩ := bind1S h
        refine L.y rfl (Y.does en90 rfl (fun w' hw => (w90_leaf_Check (⟨gl3⟩ : TLeaf) gv2 w' _ e10 (As.at_ (hw.get (i := 2) rfl))).mono (fun _ _ h => h.1))) ?_
        refine L.take rfl ?_
        refine L.ite h rfl (Y.neq rfl rfl) (fun c11 h => ?_) (fun c11 h => ?_)
        ·
          refine L.y rfl (Y.pickF rfl rfl) ?_
          refine L.nil ?_
          refine E.thenN ?_
          refine W.condT rfl ?_
          refine W.seq ?_
          refine W.region ?_
          refine L.y rfl (Y.build (cells := #[.slice none 0 0]) rfl (by kernel_rfl)) ?_
          refine L.store (i := 1) sz127 rfl rfl rfl rfl (by simp [Value.oneCell', Value.cells, st]) rfl (Nat.le_of_ble_eq_true rfl) ?_
          refine L.y rfl (Y.assign rfl) ?_
          refine L.nil ?_
          refine E.thenN ?_
          refine W.ret ?_
          refine E.thenR ?_
          refine E.retR2 rfl (Rv.cellW (i := 1) ag127 sz127 rfl rfl rfl) (Rv.tmp rfl) (fun w1 hw => ?_)
          obtain rfl := Option.some.inj h
          exact ⟨_, _, rfl, ⟨_, rfl, rfl⟩, (hw.nilSl 143 2).sel [0] (by decide) rfl⟩
        ·
          refine L.y rfl (Y.pickF rfl rfl) ?_
          refine L.nil ?_
          refine E.thenN ?_
          refine W.condF rfl ?_
          refine W.skip ?_
          refine E.thenN ?_
          refine W.seq ?_
          refine W.region ?_
          refine L.y rfl (Y.loadPW (i := 0) ag127 sz127 rfl rfl rfl) ?_
          refine L.storeC (i := 1) sz127 rfl rfl rfl rfl (fun w hw => (all1 (As.at_ (hw.get (i := 2) rfl)).one all0)) rfl (Nat.le_of_ble_eq_true rfl) ?_
          refine L.y rfl (Y.assign rfl) ?_
          refine L.nil ?_
          refine E.thenN ?_
          refine W.ret ?_
          refine E.retR2 rfl (Rv.cellW (i := 1) ag127 sz127 rfl rfl rfl) (Rv.tmp rfl) (fun w1 hw => ?_)
          obtain rfl := Option.some.inj h
          exact ⟨_, _, rfl, ⟨_, rfl, rfl⟩, hw.sel [2] (by decide) rfl⟩
set_option maxRecDepth 100000 in
set_option maxHeartbeats 8000000 in
theorem w28_quirref_GetNat (a0 : (List UInt8)) (w : World) (r : (Int × Int × Int)) (h : m28_quirref_GetNat a0 = some r) : Does Try.prog 28 [st a0] w fun u m => u = .tuple #[.int .u64 r.1, .int .i64 r.2.1, .int .i64 r.2.2] ∧ m = [] := by
  rw [m28_quirref_GetNat] at h
  refine body (n := 50) Try.func28 rfl rfl rfl (Cls.refl w) ?_
  refine W.seq ?_
  refine W.region ?_
  refine L.y rfl (Y.assign rfl) ?_
  refine L.y rfl (Y.assign rfl) ?_
  refine L.y rfl (Y.assign rfl) ?_
  refine L.nil ?_
  refine E.thenN ?_
  refine W.seqJ (fun gs D => gs = [] ∧ D = Cls w [] [] ∧ m28_quirref_GetNat_K1 = some r) ?_ ?_
  ·
    refine W.seq ?_
    refine W.region ?_
    refine L.y rfl (Y.move rfl) ?_
    refine L.y rfl (Y.lenS Try.underlying9 rfl) ?_
    refine L.y rfl (Y.move rfl) ?_
    refine L.nil ?_
    refine E.thenN ?_
    refine W.block ?_
    refine W.loopJ (fun m gs D => ∃ (gx1 : Int), gs = [(0, st a0), (9, .int .i64 (a0.length : Int)), (10, .int .i64 gx1)] ∧ D = Cls w [] [] ∧ m28_quirref_GetNat_L1 a0 m gx1 = some r) ⟨0, rfl, rfl, h⟩ ⟨rfl, rfl, rfl, trivial⟩ (fun _ hw => hw) ?_
    rintro m _ _ ⟨gx1, rfl, rfl, h⟩
    rcases m with _ | m
    · rw [m28_quirref_GetNat_L1] at h; cases h
    rw [m28_quirref_GetNat_L1] at h
    generalize hg1 : m28_quirref_GetNat_L1 a0 m = go1 at h
    rw [m28_quirref_GetNat_L1B] at h
    refine W.seq ?_
    refine W.region ?_
    refine L.ite h rfl (Y.lss rfl rfl) (fun c1 h => ?_) (fun c1 h => ?_)
    ·
      refine L.nil ?_
      refine E.thenN ?_
      refine W.seq ?_
      refine W.condT rfl ?_
      refine W.skip ?_
      refine E.thenN ?_
      refine W.seqJ (fun gs D => gs = [(0, st a0), (9, .int .i64 (a0.length : Int)), (10, .int .i64 gx1)] ∧ D = Cls w [] [] ∧ m28_quirref_GetNat_K2 gx1 go1 = some r) ?_ ?_
      ·
        refine W.block ?_
        refine W.seq ?_
        refine W.region ?_
        refine L.y rfl (Y.move rfl) ?_
        refine L.y rfl (Y.assign rfl) ?_
        refine L.nil ?_
        refine E.thenN ?_
        refine W.seqJ (fun gs D => gs = [(0, st a0), (5, .int .i64 gx1), (9, .int .i64 (a0.length : Int)), (10, .int .i64 gx1)] ∧ D = Cls w [] [] ∧ m28_quirref_GetNat_K3 a0 gx1 go1 = some r) ?_ ?_
        ·
          refine W.seq ?_
          refine W.region ?_
          refine L.y rfl (Y.move rfl) ?_
          refine L.ite h rfl (Y.eql rfl rfl) (fun c13 h => ?_) (fun c13 h => ?_)
          ·
            refine L.y rfl (Y.move rfl) ?_
            refine L.take rfl ?_
            refine L.y rfl (Y.move rfl) ?_
            refine L.take rfl ?_
            refine L.y rfl (Y.move rfl) ?_
            refine L.take rfl ?_
            refine L.m (V := fun x14 => .int .u8 x14) h rfl (Y.indexSM Try.underlying9 rfl rfl) (fun x14 ex14 h => ?_)
            refine L.take rfl ?_
            refine L.ite h rfl (Y.gtr rfl rfl) (fun c15 h => ?_) (fun c15 h => ?_)
            ·
              refine L.y rfl (Y.pickT rfl rfl) ?_
              refine L.nil ?_
              refine E.thenN ?_
              refine W.condT rfl ?_
              refine W.seq ?_
              refine W.region ?_
              refine L.y rfl (Y.assign rfl) ?_
              refine L.y rfl (Y.assign rfl) ?_
              refine L.y rfl (Y.assign rfl) ?_
              refine L.nil ?_
              refine E.thenN ?_
              refine W.ret ?_
              refine E.KSR ?_
              refine E.blockR ?_
              refine E.KSR ?_
              refine E.KLR ?_
              refine E.blockR ?_
              refine E.KSR ?_
              refine E.ret3 rfl rfl rfl rfl (fun w1 hw => ?_)
              obtain rfl := Option.some.inj h
              exact ⟨_, _, rfl, ⟨rfl, rfl⟩, hw⟩
            ·
              refine L.y rfl (Y.pickT rfl rfl) ?_
              refine L.nil ?_
              refine E.thenN ?_
              refine W.condF rfl ?_
              refine W.skip ?_
              exact E.joinJ ⟨rfl, rfl, h⟩ ⟨rfl, rfl, rfl, rfl, trivial⟩ (fun _ hw => hw)
          ·
            refine L.y rfl (Y.move rfl) ?_
            refine L.pass rfl rfl (by nofun) ?_
            refine L.pass rfl rfl (by nofun) ?_
            refine L.pass rfl rfl (by nofun) ?_
            refine L.pass rfl rfl (by nofun) ?_
            refine L.y rfl (Y.pickF rfl rfl) ?_
            refine L.nil ?_
            refine E.thenN ?_
            refine W.condF rfl ?_
            refine W.skip ?_
            exact E.joinJ ⟨rfl, rfl, h⟩ ⟨rfl, rfl, rfl, rfl, trivial⟩ (fun _ hw => hw)
        ·
          rintro _ _ ⟨rfl, rfl, h⟩
          rw [m28_quirref_GetNat_K3] at h
          refine W.seqJ (fun gs D => gs = [(0, st a0), (5, .int .i64 gx1)] ∧ D = Cls w [] [] ∧ m28_quirref_GetNat_K4 a0 gx1 = some r) ?_ ?_
          ·
            refine W.seq ?_
            refine W.region ?_
            refine L.y rfl (Y.move rfl) ?_
            refine L.y rfl (Y.move rfl) ?_
            refine L.m (V := fun x11 => .int .u8 x11) h rfl (Y.indexSM Try.underlying9 rfl rfl) (fun x11 ex11 h => ?_)
            refine L.ite h rfl (Y.geq rfl rfl) (fun c12 h => ?_) (fun c12 h => ?_)
            ·
              refine L.nil ?_
              refine E.thenN ?_
              refine W.condT rfl ?_
              refine W.exit ?_
              refine E.KSX ?_
              refine E.blockX ?_
              exact E.joinJ ⟨rfl, rfl, h⟩ ⟨rfl, rfl, rfl, trivial⟩ (fun _ hw => hw)
            ·
              refine L.nil ?_
              refine E.thenN ?_
              refine W.condF rfl ?_
              refine W.skip ?_
              exact E.joinJ ⟨rfl, rfl, h⟩ ⟨rfl, rfl, trivial⟩ (fun _ hw => hw)
          ·
            rintro _ _ ⟨rfl, rfl, h⟩
            rw [m28_quirref_GetNat_K4] at h
            refine W.seqJ (fun gs D => gs = [(0, st a0), (5, .int .i64 gx1)] ∧ D = Cls w [] [] ∧ m28_quirref_GetNat_K5 a0 gx1 = some r) ?_ ?_
            ·
              refine W.seq ?_
              refine W.region ?_
              refine L.y rfl (Y.move rfl) ?_
              refine L.y rfl (Y.move rfl) ?_
              refine L.m (V := fun x8 => .int .u8 x8) h rfl (Y.indexSM Try.underlying9 rfl rfl) (fun x8 ex8 h => ?_)
              refine L.ite h rfl (Y.eql rfl rfl) (fun c9 h => ?_) (fun c9 h => ?_)
              ·
                refine L.y rfl (Y.move rfl) ?_
                refine L.take rfl ?_
                refine L.y rfl (Y.move rfl) ?_
                refine L.take rfl ?_
                refine L.ite h rfl (Y.gtr rfl rfl) (fun c10 h => ?_) (fun c10 h => ?_)
                ·
                  refine L.y rfl (Y.pickT rfl rfl) ?_
                  refine L.nil ?_
                  refine E.thenN ?_
                  refine W.condT rfl ?_
                  refine W.seq ?_
                  refine W.region ?_
                  refine L.y rfl (Y.assign rfl) ?_
                  refine L.y rfl (Y.assign rfl) ?_
                  refine L.y rfl (Y.assign rfl) ?_
                  refine L.nil ?_
                  refine E.thenN ?_
                  refine W.ret ?_
                  refine E.KSR ?_
                  refine E.blockR ?_
                  refine E.KSR ?_
                  refine E.KLR ?_
                  refine E.blockR ?_
                  refine E.KSR ?_
                  refine E.ret3 rfl rfl rfl rfl (fun w1 hw => ?_)
                  obtain rfl := Option.some.inj h
                  exact ⟨_, _, rfl, ⟨rfl, rfl⟩, hw⟩
                ·
                  refine L.y rfl (Y.pickT rfl rfl) ?_
                  refine L.nil ?_
                  refine E.thenN ?_
                  refine W.condF rfl ?_
                  refine W.skip ?_
                  exact E.joinJ ⟨rfl, rfl, h⟩ ⟨rfl, rfl, trivial⟩ (fun _ hw => hw)
              ·
                refine L.y rfl (Y.move rfl) ?_
                refine L.pass rfl rfl (by nofun) ?_
                refine L.pass rfl rfl (by nofun) ?_
                refine L.y rfl (Y.pickF rfl rfl) ?_
                refine L.nil ?_
                refine E.thenN ?_
                refine W.condF rfl ?_
                refine W.skip ?_
                exact E.joinJ ⟨rfl, rfl, h⟩ ⟨rfl, rfl, trivial⟩ (fun _ hw => hw)
            ·
              rintro _ _ ⟨rfl, rfl, h⟩
              rw [m28_quirref_GetNat_K5] at h
              refine W.seq ?_
              refine W.region ?_
              refine L.y rfl (Y.assign rfl) ?_
              refine L.nil ?_
              refine E.thenN ?_
              refine W.seqJ (fun gs D => ∃ (gx2 : Int), gs = [(5, .int .i64 gx1), (6, .int .u64 gx2)] ∧ D = Cls w [] [] ∧ m28_quirref_GetNat_K6 gx1 gx2 = some r) ?_ ?_
              ·
                refine W.seq ?_
                refine W.region ?_
                refine L.y rfl (Y.move rfl) ?_
                refine L.y rfl (Y.assign rfl) ?_
                refine L.nil ?_
                refine E.thenN ?_
                refine W.block ?_
                refine W.loopJ (fun m gs D => ∃ (gx3 : Int) (gx4 : Int), gs = [(0, st a0), (5, .int .i64 gx1), (6, .int .u64 gx3), (7, .int .i64 gx4)] ∧ D = Cls w [] [] ∧ m28_quirref_GetNat_L2 a0 gx1 m gx3 gx4 = some r) ⟨0, gx1, rfl, rfl, h⟩ ⟨rfl, rfl, rfl, rfl, trivial⟩ (fun _ hw => hw) ?_
                rintro m _ _ ⟨gx3, gx4, rfl, rfl, h⟩
                rcases m with _ | m
                · rw [m28_quirref_GetNat_L2] at h; cases h
                rw [m28_quirref_GetNat_L2] at h
                generalize hg2 : m28_quirref_GetNat_L2 a0 gx1 m = go2 at h
                rw [m28_quirref_GetNat_L2B] at h
                refine W.seq ?_
                refine W.seq ?_
                refine W.region ?_
                refine L.y rfl (Y.move rfl) ?_
                refine L.ite h rfl (Y.geq rfl rfl) (fun c4 h => ?_) (fun c4 h => ?_)
                ·
                  refine L.nil ?_
                  refine E.thenN ?_
                  refine W.condT rfl ?_
                  refine W.skip ?_
                  refine E.thenN ?_
                  refine W.seq ?_
                  refine W.block ?_
                  refine W.region ?_
                  refine L.y rfl (Y.move rfl) ?_
                  refine L.y rfl (Y.mulW rfl rfl) ?_
                  refine L.y rfl (Y.move rfl) ?_
                  refine L.y rfl (Y.move rfl) ?_
                  refine L.m (V := fun x5 => .int .u8 x5) h rfl (Y.indexSM Try.underlying9 rfl rfl) (fun x5 ex5 h => ?_)
                  refine L.m (V := fun x6 => .int .u8 x6) h rfl (Y.remM rfl rfl) (fun x6 ex6 h => ?_)
                  refine L.y rfl (Y.conv Try.underlying5 Try.underlying41 rfl) ?_
                  refine L.y rfl (Y.addW rfl rfl) ?_
                  refine L.y rfl (Y.assign rfl) ?_
                  refine L.nil ?_
                  refine E.blockN ?_
                  refine E.thenN ?_
                  refine W.region ?_
                  refine L.y rfl (Y.move rfl) ?_
                  refine L.m (V := fun x7 => .int .i64 x7) h rfl (Y.subM rfl rfl) (fun x7 ex7 h => ?_)
                  refine L.y rfl (Y.assign rfl) ?_
                  refine L.nil ?_
                  exact E.againJ ⟨IntKind.wrap .u64 ((IntKind.wrap .u64 (gx3 * 128)) + (IntKind.wrap .u64 x6)), x7, rfl, rfl, by rw [hg2]; exact h⟩ (Nat.lt_succ_self _) ⟨rfl, rfl, rfl, rfl, trivial⟩ (fun _ hw => hw)
                ·
                  refine L.nil ?_
                  refine E.thenN ?_
                  refine W.condF rfl ?_
                  refine W.exit ?_
                  refine E.thenX ?_
                  refine E.KLX ?_
                  refine E.blockX ?_
                  exact E.joinJ ⟨gx3, rfl, rfl, h⟩ ⟨rfl, rfl, trivial⟩ (fun _ hw => hw)
              ·
                rintro _ _ ⟨gx2, rfl, rfl, h⟩
                rw [m28_quirref_GetNat_K6] at h
                refine W.seq ?_
                refine W.region ?_
                refine L.y rfl (Y.move rfl) ?_
                refine L.y rfl (Y.move rfl) ?_
                refine L.m (V := fun x3 => .int .i64 x3) h rfl (Y.addM rfl rfl) (fun x3 ex3 h => ?_)
                refine L.y rfl (Y.assign rfl) ?_
                refine L.y rfl (Y.assign rfl) ?_
                refine L.y rfl (Y.assign rfl) ?_
                refine L.nil ?_
                refine E.thenN ?_
                refine W.ret ?_
                refine E.blockR ?_
                refine E.KSR ?_
                refine E.KLR ?_
                refine E.blockR ?_
                refine E.KSR ?_
                refine E.ret3 rfl rfl rfl rfl (fun w1 hw => ?_)
                obtain rfl := Option.some.inj h
                exact ⟨_, _, rfl, ⟨rfl, rfl⟩, hw⟩
      ·
        rintro _ _ ⟨rfl, rfl, h⟩
        rw [m28_quirref_GetNat_K2] at h
        refine W.region ?_
        refine L.m (V := fun x2 => .int .i64 x2) h rfl (Y.addM rfl rfl) (fun x2 ex2 h => ?_)
        refine L.y rfl (Y.move rfl) ?_
        refine L.nil ?_
        exact E.againJ ⟨x2, rfl, rfl, by rw [hg1]; exact h⟩ (Nat.lt_succ_self _) ⟨rfl, rfl, rfl, trivial⟩ (fun _ hw => hw)
    ·
      refine L.nil ?_
      refine E.thenN ?_
      refine W.seq ?_
      refine W.condF rfl ?_
      refine W.exit ?_
      refine E.thenX ?_
      refine E.KLX ?_
      refine E.blockX ?_
      exact E.joinJ ⟨rfl, rfl, h⟩ trivial (fun _ hw => hw)
  ·
    rintro _ _ ⟨rfl, rfl, h⟩
    rw [m28_quirref_GetNat_K1] at h
    refine W.seq ?_
    refine W.region ?_
    refine L.y rfl (Y.assign rfl) ?_
    refine L.y rfl (Y.assign rfl) ?_
    refine L.y rfl (Y.assign rfl) ?_
    refine L.nil ?_
    refine E.thenN ?_
    refine W.ret ?_
    refine E.ret3 rfl rfl rfl rfl (fun w1 hw => ?_)
    obtain rfl := Option.some.inj h
    exact ⟨_, _, rfl, ⟨rfl, rfl⟩, hw⟩
set_option maxRecDepth 100000 in
set_option maxHeartbeats 8000000 in
theorem w88_quirref_LeafRead (a0 : (List UInt8)) (w : World) (r : (TLeaf × Bool)) (h : m88_quirref_LeafRead a0 = some r) : Does Try.prog 88 [st a0] w fun u m => ∃ v0, u = .tuple #[.agg #[v0], .bool r.2] ∧ m = [.sl v0 143 2 (r.1.Slots.map TSlot.row)] := by
  rw [m88_quirref_LeafRead] at h
  refine body (n := 92) Try.func88 rfl rfl rfl (Cls.refl w) ?_
  refine W.seq ?_
  refine W.region ?_
  refine L.alloc rfl ze127 ?_
  intro b1
  refine L.y rfl (Y.assign rfl) ?_
  refine L.nil ?_
  refine E.thenN ?_
  refine W.seq ?_
  refine W.region ?_
  refine L.y rfl (Y.move rfl) ?_
  obtain ⟨x2, x3, x4, e5, h⟩ := bind3S h
  refine L.y rfl (Y.does en28 rfl (fun w' hw => (w28_quirref_GetNat a0 w' _ e5).mono (fun _ _ h => h.1))) ?_
  refine L.y rfl (Y.move rfl) ?_
  refine L.y rfl (Y.extract rfl rfl) ?_
  refine L.y rfl (Y.extract rfl rfl) ?_
  refine L.y rfl (Y.extract rfl rfl) ?_
  refine L.y rfl (Y.assign rfl) ?_
  refine L.y rfl (Y.assign rfl) ?_
  refine L.y rfl (Y.assign rfl) ?_
  refine L.nil ?_
  refine E.thenN ?_
  refine W.seqJ (fun gs D => gs = [(0, st a0), (2, pt b1 0), (4, .int .u64 x2), (5, .int .i64 x3)] ∧ D = Cls w [] [.obj b1 [.slice none 0 0] 127] ∧ m88_quirref_LeafRead_K1 x2 a0 x3 = some r) ?_ ?_
  ·
    refine W.seq ?_
    refine W.region ?_
    refine L.y rfl (Y.move rfl) ?_
    refine L.ite h rfl (Y.neq rfl rfl) (fun c35 h => ?_) (fun c35 h => ?_)
    ·
      refine L.y rfl (Y.move rfl) ?_
      refine L.pass rfl rfl (by nofun) ?_
      refine L.pass rfl rfl (by nofun) ?_
      refine L.y rfl (Y.pickT rfl rfl) ?_
      refine L.nil ?_
      refine E.thenN ?_
      refine W.condT rfl ?_
      refine W.seq ?_
      refine W.region ?_
      refine L.y rfl (Y.build (cells := #[.slice none 0 0]) rfl (by kernel_rfl)) ?_
      refine L.store (i := 0) sz127 rfl rfl rfl rfl (by simp [Value.oneCell', Value.cells, st]) rfl (Nat.le_of_ble_eq_true rfl) ?_
      refine L.y rfl (Y.assign rfl) ?_
      refine L.nil ?_
      refine E.thenN ?_
      refine W.ret ?_
      refine E.KSR ?_
      refine E.retR2 rfl (Rv.cellW (i := 0) ag127 sz127 rfl rfl rfl) (Rv.tmp rfl) (fun w1 hw => ?_)
      obtain rfl := Option.some.inj h
      exact ⟨_, _, rfl, ⟨_, rfl, rfl⟩, (hw.nilSl 143 2).sel [0] (by decide) rfl⟩
    ·
      refine L.y rfl (Y.move rfl) ?_
      refine L.take rfl ?_
      refine L.y rfl (Y.move rfl) ?_
      refine L.take rfl ?_
      refine L.ite h rfl (Y.gtr rfl rfl) (fun c36 h => ?_) (fun c36 h => ?_)
      ·
        refine L.y rfl (Y.pickF rfl rfl) ?_
        refine L.nil ?_
        refine E.thenN ?_
        refine W.condT rfl ?_
        refine W.seq ?_
        refine W.region ?_
        refine L.y rfl (Y.build (cells := #[.slice none 0 0]) rfl (by kernel_rfl)) ?_
        refine L.store (i := 0) sz127 rfl rfl rfl rfl (by simp [Value.oneCell', Value.cells, st]) rfl (Nat.le_of_ble_eq_true rfl) ?_
        refine L.y rfl (Y.assign rfl) ?_
        refine L.nil ?_
        refine E.thenN ?_
        refine W.ret ?_
        refine E.KSR ?_
        refine E.retR2 rfl (Rv.cellW (i := 0) ag127 sz127 rfl rfl rfl) (Rv.tmp rfl) (fun w1 hw => ?_)
        obtain rfl := Option.some.inj h
        exact ⟨_, _, rfl, ⟨_, rfl, rfl⟩, (hw.nilSl 143 2).sel [0] (by decide) rfl⟩
      ·
        refine L.y rfl (Y.pickF rfl rfl) ?_
        refine L.nil ?_
        refine E.thenN ?_
        refine W.condF rfl ?_
        refine W.skip ?_
        exact E.joinJ ⟨rfl, rfl, h⟩ ⟨rfl, rfl, rfl, rfl, trivial⟩ (fun _ hw => hw)
  ·
    rintro _ _ ⟨rfl, rfl, h⟩
    rw [m88_quirref_LeafRead_K1] at h
    refine W.seq ?_
    refine W.region ?_
    refine L.alloc rfl ze127 ?_
    intro b6
    refine L.nil ?_
    refine E.thenN ?_
    refine W.seqJ (fun gs D => ∃ (gv1 : Value) (gl2 : (List TSlot)), gs = [(0, st a0), (2, pt b1 0), (7, pt b6 0)] ∧ D = Cls w [] [.obj b6 [gv1] 127, .obj b1 [.slice none 0 0] 127, .sl gv1 143 2 (gl2.map TSlot.row)] ∧ m88_quirref_LeafRead_K2 a0 gl2 = some r) ?_ ?_
    ·
      refine W.seq ?_
      refine W.region ?_
      refine L.y rfl (Y.move rfl) ?_
      refine L.y rfl (Y.move rfl) ?_
      refine L.nil ?_
      refine E.thenN ?_
      refine W.block ?_
      refine W.nilSl 143 2 ?_
      refine W.loopJ (fun m gs D => ∃ (gx3 : Int) (gx4 : Int) (gv5 : Value) (gl6 : (List TSlot)), gs = [(0, st a0), (2, pt b1 0), (5, .int .i64 gx3), (7, pt b6 0), (25, .int .u64 x2), (26, .int .u64 gx4)] ∧ D = Cls w [] [.obj b6 [gv5] 127, .obj b1 [.slice none 0 0] 127, .sl gv5 143 2 (gl6.map TSlot.row)] ∧ m88_quirref_LeafRead_L1 x2 a0 m gx3 gx4 gl6 = some r) ⟨x3, 0, .slice none 0 0, [], rfl, rfl, h⟩ ⟨rfl, rfl, rfl, rfl, rfl, rfl, trivial⟩ (fun _ hw => hw.sel [1, 2, 0] (by decide) rfl) ?_
      rintro m _ _ ⟨gx3, gx4, gv5, gl6, rfl, rfl, h⟩
      rcases m with _ | m
      · rw [m88_quirref_LeafRead_L1] at h; cases h
      rw [m88_quirref_LeafRead_L1] at h
      generalize hg1 : m88_quirref_LeafRead_L1 x2 a0 m = go1 at h
      rw [m88_quirref_LeafRead_L1B] at h
      refine W.seq ?_
      refine W.region ?_
      refine L.ite h rfl (Y.lss rfl rfl) (fun c13 h => ?_) (fun c13 h => ?_)
      ·
        refine L.nil ?_
        refine E.thenN ?_
        refine W.seq ?_
        refine W.condT rfl ?_
        refine W.skip ?_
        refine E.thenN ?_
        refine W.seq ?_
        refine W.block ?_
        refine W.seq ?_
        refine W.region ?_
        refine L.y rfl (Y.move rfl) ?_
        refine L.y rfl (Y.move rfl) ?_
        refine L.m (V := fun s14 => st s14) h rfl (Y.sliceSL Try.underlying9 rfl rfl) (fun s14 es14 h => ?_)
        obtain ⟨x15, x16, x17, e18, h⟩ := bind3S h
        refine L.y rfl (Y.does en28 rfl (fun w' hw => (w28_quirref_GetNat s14 w' _ e18).mono (fun _ _ h => h.1))) ?_
        refine L.y rfl (Y.move rfl) ?_
        refine L.y rfl (Y.extract rfl rfl) ?_
        refine L.y rfl (Y.extract rfl rfl) ?_
        refine L.y rfl (Y.extract rfl rfl) ?_
        refine L.y rfl (Y.assign rfl) ?_
        refine L.y rfl (Y.assign rfl) ?_
        refine L.y rfl (Y.assign rfl) ?_
        refine L.nil ?_
        refine E.thenN ?_
        refine W.seqJ (fun gs D => gs = [(0, st a0), (2, pt b1 0), (5, .int .i64 gx3), (7, pt b6 0), (8, .int .u64 x15), (9, .int .i64 x16), (25, .int .u64 x2), (26, .int .u64 gx4)] ∧ D = Cls w [] [.obj b6 [gv5] 127, .obj b1 [.slice none 0 0] 127, .sl gv5 143 2 (gl6.map TSlot.row)] ∧ m88_quirref_LeafRead_K3 gx3 x16 x15 a0 gl6 go1 gx4 = some r) ?_ ?_
        ·
          refine W.seq ?_
          refine W.region ?_
          refine L.y rfl (Y.move rfl) ?_
          refine L.ite h rfl (Y.neq rfl rfl) (fun c33 h => ?_) (fun c33 h => ?_)
          ·
            refine L.y rfl (Y.move rfl) ?_
            refine L.pass rfl rfl (by nofun) ?_
            refine L.pass rfl rfl (by nofun) ?_
            refine L.y rfl (Y.pickT rfl rfl) ?_
            refine L.nil ?_
            refine E.thenN ?_
            refine W.condT rfl ?_
            refine W.seq ?_
            refine W.region ?_
            refine L.y rfl (Y.build (cells := #[.slice none 0 0]) rfl (by kernel_rfl)) ?_
            refine L.store (i := 1) sz127 rfl rfl rfl rfl (by simp [Value.oneCell', Value.cells, st]) rfl (Nat.le_of_ble_eq_true rfl) ?_
            refine L.y rfl (Y.assign rfl) ?_
            refine L.nil ?_
            refine E.thenN ?_
            refine W.ret ?_
            refine E.KSR ?_
            refine E.blockR ?_
            refine E.thenR ?_
            refine E.KLR ?_
            refine E.blockR ?_
            refine E.KSR ?_
            refine E.retR2 rfl (Rv.cellW (i := 1) ag127 sz127 rfl rfl rfl) (Rv.tmp rfl) (fun w1 hw => ?_)
            obtain rfl := Option.some.inj h
            exact ⟨_, _, rfl, ⟨_, rfl, rfl⟩, (hw.nilSl 143 2).sel [0] (by decide) rfl⟩
          ·
            refine L.y rfl (Y.move rfl) ?_
            refine L.take rfl ?_
            refine L.y rfl (Y.move rfl) ?_
            refine L.take rfl ?_
            refine L.ite h rfl (Y.gtr rfl rfl) (fun c34 h => ?_) (fun c34 h => ?_)
            ·
              refine L.y rfl (Y.pickF rfl rfl) ?_
              refine L.nil ?_
              refine E.thenN ?_
              refine W.condT rfl ?_
              refine W.seq ?_
              refine W.region ?_
              refine L.y rfl (Y.build (cells := #[.slice none 0 0]) rfl (by kernel_rfl)) ?_
              refine L.store (i := 1) sz127 rfl rfl rfl rfl (by simp [Value.oneCell', Value.cells, st]) rfl (Nat.le_of_ble_eq_true rfl) ?_
              refine L.y rfl (Y.assign rfl) ?_
              refine L.nil ?_
              refine E.thenN ?_
              refine W.ret ?_
              refine E.KSR ?_
              refine E.blockR ?_
              refine E.thenR ?_
              refine E.KLR ?_
              refine E.blockR ?_
              refine E.KSR ?_
              refine E.retR2 rfl (Rv.cellW (i := 1) ag127 sz127 rfl rfl rfl) (Rv.tmp rfl) (fun w1 hw => ?_)
              obtain rfl := Option.some.inj h
              exact ⟨_, _, rfl, ⟨_, rfl, rfl⟩, (hw.nilSl 143 2).sel [0] (by decide) rfl⟩
            ·
              refine L.y rfl (Y.pickF rfl rfl) ?_
              refine L.nil ?_
              refine E.thenN ?_
              refine W.condF rfl ?_
              refine W.skip ?_
              exact E.joinJ ⟨rfl, rfl, h⟩ ⟨rfl, rfl, rfl, rfl, rfl, rfl, rfl, rfl, trivial⟩ (fun _ hw => hw)
        ·
          rintro _ _ ⟨rfl, rfl, h⟩
          rw [m88_quirref_LeafRead_K3] at h
          refine W.seq ?_
          refine W.region ?_
          refine L.y rfl (Y.move rfl) ?_
          refine L.y rfl (Y.move rfl) ?_
          refine L.m (V := fun x19 => .int .i64 x19) h rfl (Y.addM rfl rfl) (fun x19 ex19 h => ?_)
          refine L.y rfl (Y.assign rfl) ?_
          refine L.nil ?_
          refine E.thenN ?_
          refine W.seq ?_
          refine W.region ?_
          refine L.y rfl (Y.move rfl) ?_
          refine L.y rfl (Y.neq rfl rfl) ?_
          refine L.y rfl (Y.build (cells := #[.bool (decide (x15 ≠ 0)), st []]) rfl (by kernel_rfl)) ?_
          refine L.alloc rfl ze143 ?_
          intro b20
          refine L.store (i := 0) sz143 rfl rfl rfl rfl (by simp [Value.oneCell', Value.cells, st]) rfl (Nat.le_of_ble_eq_true rfl) ?_
          refine L.nil ?_
          refine E.thenN ?_
          refine W.seqJ (fun gs D => ∃ (gx7 : Int) (gs8 : (List UInt8)), gs = [(0, st a0), (2, pt b1 0), (5, .int .i64 gx7), (7, pt b6 0), (11, pt b20 0), (25, .int .u64 x2), (26, .int .u64 gx4)] ∧ D = Cls w [] [.obj b20 [.bool (decide (x15 ≠ 0)), st gs8] 143, .obj b6 [gv5] 127, .obj b1 [.slice none 0 0] 127, .sl gv5 143 2 (gl6.map TSlot.row)] ∧ m88_quirref_LeafRead_K4 gl6 x15 go1 gx4 gx7 gs8 = some r) ?_ ?_
          ·
            refine W.seq ?_
            refine W.region ?_
            refine L.y rfl (Y.move rfl) ?_
            refine L.ite h rfl (Y.gtr rfl rfl) (fun c24 h => ?_) (fun c24 h => ?_)
            ·
              refine L.nil ?_
              refine E.thenN ?_
              refine W.condT rfl ?_
              refine W.seqJ (fun gs D => gs = [(0, st a0), (2, pt b1 0), (5, .int .i64 x19), (7, pt b6 0), (8, .int .u64 x15), (11, pt b20 0), (25, .int .u64 x2), (26, .int .u64 gx4)] ∧ D = Cls w [] [.obj b20 [.bool (decide (x15 ≠ 0)), st []] 143, .obj b6 [gv5] 127, .obj b1 [.slice none 0 0] 127, .sl gv5 143 2 (gl6.map TSlot.row)] ∧ m88_quirref_LeafRead_K5 x19 x15 a0 gl6 go1 gx4 = some r) ?_ ?_
              ·
                refine W.seq ?_
                refine W.region ?_
                refine L.y rfl (Y.move rfl) ?_
                refine L.y rfl (Y.lenS Try.underlying9 rfl) ?_
                refine L.y rfl (Y.move rfl) ?_
                refine L.m (V := fun x30 => .int .i64 x30) h rfl (Y.subM rfl rfl) (fun x30 ex30 h => ?_)
                refine L.y rfl (Y.move rfl) ?_
                refine L.y rfl (Y.conv Try.underlying41 Try.underlying3 rfl) ?_
                refine L.m (V := fun x31 => .int .i64 x31) h rfl (Y.subM rfl rfl) (fun x31 ex31 h => ?_)
                refine L.ite h rfl (Y.lss rfl rfl) (fun c32 h => ?_) (fun c32 h => ?_)
                ·
                  refine L.nil ?_
                  refine E.thenN ?_
                  refine W.condT rfl ?_
                  refine W.seq ?_
                  refine W.region ?_
                  refine L.y rfl (Y.build (cells := #[.slice none 0 0]) rfl (by kernel_rfl)) ?_
                  refine L.store (i := 2) sz127 rfl rfl rfl rfl (by simp [Value.oneCell', Value.cells, st]) rfl (Nat.le_of_ble_eq_true rfl) ?_
                  refine L.y rfl (Y.assign rfl) ?_
                  refine L.nil ?_
                  refine E.thenN ?_
                  refine W.ret ?_
                  refine E.KSR ?_
                  refine E.KSR ?_
                  refine E.blockR ?_
                  refine E.thenR ?_
                  refine E.KLR ?_
                  refine E.blockR ?_
                  refine E.KSR ?_
                  refine E.retR2 rfl (Rv.cellW (i := 2) ag127 sz127 rfl rfl rfl) (Rv.tmp rfl) (fun w1 hw => ?_)
                  obtain rfl := Option.some.inj h
                  exact ⟨_, _, rfl, ⟨_, rfl, rfl⟩, (hw.nilSl 143 2).sel [0] (by decide) rfl⟩
                ·
                  refine L.nil ?_
                  refine E.thenN ?_
                  refine W.condF rfl ?_
                  refine W.skip ?_
                  exact E.joinJ ⟨rfl, rfl, h⟩ ⟨rfl, rfl, rfl, rfl, rfl, rfl, rfl, rfl, trivial⟩ (fun _ hw => hw)
              ·
                rintro _ _ ⟨rfl, rfl, h⟩
                rw [m88_quirref_LeafRead_K5] at h
                refine W.seq ?_
                refine W.region ?_
                refine L.y rfl (Y.move rfl) ?_
                refine L.y rfl (Y.move rfl) ?_
                refine L.y rfl (Y.move rfl) ?_
                refine L.y rfl (Y.move rfl) ?_
                refine L.y rfl (Y.conv Try.underlying41 Try.underlying3 rfl) ?_
                refine L.m (V := fun x25 => .int .i64 x25) h rfl (Y.addM rfl rfl) (fun x25 ex25 h => ?_)
                refine L.m (V := fun x26 => .int .i64 x26) h rfl (Y.subM rfl rfl) (fun x26 ex26 h => ?_)
                refine L.m (V := fun s27 => st s27) h rfl (Y.sliceSM Try.underlying9 rfl rfl rfl) (fun s27 es27 h => ?_)
                refine L.y rfl (Y.fieldP fd143_1 rfl) ?_
                refine L.store (i := 0) sz9 rfl rfl rfl rfl (by simp [Value.oneCell', Value.cells, st]) rfl (Nat.le_of_ble_eq_true rfl) ?_
                refine L.nil ?_
                refine E.thenN ?_
                refine W.region ?_
                refine L.y rfl (Y.move rfl) ?_
                refine L.y rfl (Y.move rfl) ?_
                refine L.y rfl (Y.conv Try.underlying41 Try.underlying3 rfl) ?_
                refine L.m (V := fun x28 => .int .i64 x28) h rfl (Y.subM rfl rfl) (fun x28 ex28 h => ?_)
                refine L.m (V := fun x29 => .int .i64 x29) h rfl (Y.addM rfl rfl) (fun x29 ex29 h => ?_)
                refine L.y rfl (Y.assign rfl) ?_
                refine L.nil ?_
                exact E.joinJ ⟨x29, s27, rfl, rfl, h⟩ ⟨rfl, rfl, rfl, rfl, rfl, rfl, rfl, trivial⟩ (fun _ hw => hw)
            ·
              refine L.nil ?_
              refine E.thenN ?_
              refine W.condF rfl ?_
              refine W.skip ?_
              exact E.joinJ ⟨x19, [], rfl, rfl, h⟩ ⟨rfl, rfl, rfl, rfl, rfl, rfl, rfl, trivial⟩ (fun _ hw => hw)
          ·
            rintro _ _ ⟨gx7, gs8, rfl, rfl, h⟩
            rw [m88_quirref_LeafRead_K4] at h
            refine W.region ?_
            refine L.y rfl (Y.fieldP fd127_0 rfl) ?_
            refine L.y rfl (Y.loadP (i := 1) ag125 rfl rfl rfl) ?_
            refine L.y rfl (Y.loadPW (i := 0) ag143 sz143 rfl rfl rfl) ?_
            refine L.litAgg rfl Try.underlying125 el143 rfl rfl rfl ?_
            intro b21
            refine L.appM (i := 4) (g := TSlot.row) (l := gl6) (more := [(⟨decide (x15 ≠ 0), gs8⟩ : TSlot)]) h rfl Try.underlying125 el143 rfl rfl rfl (fun w hw => As.at_ (hw.get (i := 0) rfl)) (plain_TSlot _) rfl ?_
            intro v22 l23 el23 h
            refine L.y rfl (Y.fieldP fd127_0 rfl) ?_
            refine L.storeV (i := 3) sz125 rfl rfl (fun _ hw => (As.at_ (hw.get (i := 0) rfl)).one) rfl (Nat.le_of_ble_eq_true rfl) ?_
            refine L.nil ?_
            refine E.blockN ?_
            refine E.thenN ?_
            refine W.region ?_
            refine L.y rfl (Y.addW rfl rfl) ?_
            refine L.y rfl (Y.move rfl) ?_
            refine L.nil ?_
            exact E.againJ ⟨gx7, IntKind.wrap .u64 (gx4 + 1), v22, l23, rfl, rfl, by rw [hg1]; exact h⟩ (Nat.lt_succ_self _) ⟨rfl, rfl, rfl, rfl, rfl, rfl, trivial⟩ (fun _ hw => hw.sel [3, 4, 0] (by decide) rfl)
      ·
        refine L.nil ?_
        refine E.thenN ?_
        refine W.seq ?_
        refine W.condF rfl ?_
        refine W.exit ?_
        refine E.thenX ?_
        refine E.KLX ?_
        refine E.blockX ?_
        exact E.joinJ ⟨gv5, gl6, rfl, rfl, h⟩ ⟨rfl, rfl, rfl, trivial⟩ (fun _ hw => hw)
    ·
      rintro _ _ ⟨gv1, gl2, rfl, rfl, h⟩
      rw [m88_quirref_LeafRead_K2] at h
      refine W.seq ?_
      refine W.seq ?_
      refine W.region ?_
      refine L.y rfl (Y.loadPW (i := 0) ag127 sz127 rfl rfl rfl) ?_
      obtain ⟨x7, e8, h⟩ := bind1S h
      refine L.y rfl (Y.does en81 rfl (fun w' hw => (w81_quirref_LeafErr (⟨gl2⟩ : TLeaf) gv1 w' _ e8 (As.at_ (hw.get (i := 2) rfl))).mono (fun _ _ h => h.1))) ?_
      refine L.ite h rfl (Y.neq rfl rfl) (fun c9 h => ?_) (fun c9 h => ?_)
      ·
        refine L.y rfl (Y.move rfl) ?_
        refine L.pass rfl rfl (by nofun) ?_
        refine L.pass rfl rfl (by nofun) ?_
        refine L.pass rfl rfl (by nofun) ?_
        refine L.pass rfl rfl (by nofun) ?_
        refine L.y rfl (Y.pickT rfl rfl) ?_
        refine L.nil ?_
        refine E.thenN ?_
        refine W.condT rfl ?_
        refine W.seq ?_
        refine W.region ?_
        refine L.y rfl (Y.build (cells := #[.slice none 0 0]) rfl (by kernel_rfl)) ?_
        refine L.store (i := 1) sz127 rfl rfl rfl rfl (by simp [Value.oneCell', Value.cells, st]) rfl (Nat.le_of_ble_eq_true rfl) ?_
        refine L.y rfl (Y.assign rfl) ?_
        refine L.nil ?_
        refine E.thenN ?_
        refine W.ret ?_
        refine E.thenR ?_
        refine E.retR2 rfl (Rv.cellW (i := 1) ag127 sz127 rfl rfl rfl) (Rv.tmp rfl) (fun w1 hw => ?_)
        obtain rfl := Option.some.inj h
        exact ⟨_, _, rfl, ⟨_, rfl, rfl⟩, (hw.nilSl 143 2).sel [0] (by decide) rfl⟩
      ·
        refine L.y rfl (Y.move rfl) ?_
        refine L.take rfl ?_
        refine L.y rfl (Y.loadPW (i := 0) ag127 sz127 rfl rfl rfl) ?_
        refine L.take rfl ?_
        obtain ⟨s10, e11, h⟩ := bind1S h
        refine L.y rfl (Y.does en91 rfl (fun w' hw => (w91_quirref_LeafText (⟨gl2⟩ : TLeaf) gv1 w' _ e11 (As.at_ (hw.get (i := 2) rfl))).mono (fun _ _ h => h.1))) ?_
        refine L.take rfl ?_
        refine L.y rfl (Y.move rfl) ?_
        refine L.take rfl ?_
        refine L.ite h rfl (Y.neqS rfl rfl) (fun c12 h => ?_) (fun c12 h => ?_)
        ·
          refine L.y rfl (Y.pickF rfl rfl) ?_
          refine L.nil ?_
          refine E.thenN ?_
          refine W.condT rfl ?_
          refine W.seq ?_
          refine W.region ?_
          refine L.y rfl (Y.build (cells := #[.slice none 0 0]) rfl (by kernel_rfl)) ?_
          refine L.store (i := 1) sz127 rfl rfl rfl rfl (by simp [Value.oneCell', Value.cells, st]) rfl (Nat.le_of_ble_eq_true rfl) ?_
          refine L.y rfl (Y.assign rfl) ?_
          refine L.nil ?_
          refine E.thenN ?_
          refine W.ret ?_
          refine E.thenR ?_
          refine E.retR2 rfl (Rv.cellW (i := 1) ag127 sz127 rfl rfl rfl) (Rv.tmp rfl) (fun w1 hw => ?_)
          obtain rfl := Option.some.inj h
          exact ⟨_, _, rfl, ⟨_, rfl, rfl⟩, (hw.nilSl 143 2).sel [0] (by decide) rfl⟩
        ·
          refine L.y rfl (Y.pickF rfl rfl) ?_
          refine L.nil ?_
          refine E.thenN ?_
          refine W.condF rfl ?_
          refine W.skip ?_
          refine E.thenN ?_
          refine W.seq ?_
          refine W.region ?_
          refine L.y rfl (Y.loadPW (i := 0) ag127 sz127 rfl rfl rfl) ?_
          refine L.storeC (i := 1) sz127 rfl rfl rfl rfl (fun w hw => (all1 (As.at_ (hw.get (i := 2) rfl)).one all0)) rfl (Nat.le_of_ble_eq_true rfl) ?_
          refine L.y rfl (Y.assign rfl) ?_
          refine L.nil ?_
          refine E.thenN ?_
          refine W.ret ?_
          refine E.retR2 rfl (Rv.cellW (i := 1) ag127 sz127 rfl rfl rfl) (Rv.tmp rfl) (fun w1 hw => ?_)
          obtain rfl := Option.some.inj h
          exact ⟨_, _, rfl, ⟨_, rfl, rfl⟩, hw.sel [2] (by decide) rfl⟩
set_option maxRecDepth 100000 in
set_option maxHeartbeats 8000000 in
theorem w138_api_Slot (a0 : (List TSlot)) (a1 : (List TSlot)) (u0 : Value) (u1 : Value) (w : World) (r : Bool) (h : m138_api_Slot a0 a1 = some r) (hA0 : At w u0 2 (a0.map TSlot.row)) (hA1 : At w u1 2 (a1.map TSlot.row)) : Does Try.prog 138 [u0, u1] w fun u m => u = .bool r ∧ m = [] := by
  rw [m138_api_Slot] at h
  refine body (n := 26) Try.func138 rfl rfl rfl (Cls.refl w) ?_
  refine W.seq ?_
  refine W.region ?_
  refine L.y rfl (Y.assign rfl) ?_
  refine L.nil ?_
  refine E.thenN ?_
  refine W.seqJ (fun gs D => gs = [(0, u0), (1, u1)] ∧ D = Cls w [] [] ∧ m138_api_Slot_K1 a0 a1 = some r) ?_ ?_
  ·
    refine W.seq ?_
    refine W.region ?_
    refine L.y rfl (Y.move rfl) ?_
    refine L.y rfl (Y.lenM (g := TSlot.row) (l := a0) Try.underlying125 rfl (fun w' hw => hA0.cls0 hw)) ?_
    refine L.y rfl (Y.move rfl) ?_
    refine L.y rfl (Y.lenM (g := TSlot.row) (l := a1) Try.underlying125 rfl (fun w' hw => hA1.cls0 hw)) ?_
    refine L.ite h rfl (Y.neq rfl rfl) (fun c6 h => ?_) (fun c6 h => ?_)
    ·
      refine L.nil ?_
      refine E.thenN ?_
      refine W.condT rfl ?_
      refine W.seq ?_
      refine W.region ?_
      refine L.y rfl (Y.assign rfl) ?_
      refine L.nil ?_
      refine E.thenN ?_
      refine W.ret ?_
      refine E.KSR ?_
      refine E.ret1 rfl rfl (fun w1 hw => ?_)
      obtain rfl := Option.some.inj h
      exact ⟨_, _, rfl, ⟨rfl, rfl⟩, hw⟩
    ·
      refine L.nil ?_
      refine E.thenN ?_
      refine W.condF rfl ?_
      refine W.skip ?_
      exact E.joinJ ⟨rfl, rfl, h⟩ ⟨rfl, rfl, trivial⟩ (fun _ hw => hw)
  ·
    rintro _ _ ⟨rfl, rfl, h⟩
    rw [m138_api_Slot_K1] at h
    refine W.seqJ (fun gs D => gs = [] ∧ D = Cls w [] [] ∧ m138_api_Slot_K2 = some r) ?_ ?_
    ·
      refine W.seq ?_
      refine W.region ?_
      refine L.y rfl (Y.move rfl) ?_
      refine L.y rfl (Y.lenM (g := TSlot.row) (l := a0) Try.underlying125 rfl (fun w' hw => hA0.cls0 hw)) ?_
      refine L.y rfl (Y.move rfl) ?_
      refine L.nil ?_
      refine E.thenN ?_
      refine W.block ?_
      refine W.loopJ (fun m gs D => ∃ (gx1 : Int), gs = [(0, u0), (1, u1), (12, .int .i64 (a0.length : Int)), (13, .int .i64 gx1)] ∧ D = Cls w [] [] ∧ m138_api_Slot_L1 a0 a1 m gx1 = some r) ⟨0, rfl, rfl, h⟩ ⟨rfl, rfl, rfl, rfl, trivial⟩ (fun _ hw => hw) ?_
      rintro m _ _ ⟨gx1, rfl, rfl, h⟩
      rcases m with _ | m
      · rw [m138_api_Slot_L1] at h; cases h
      rw [m138_api_Slot_L1] at h
      generalize hg1 : m138_api_Slot_L1 a0 a1 m = go1 at h
      rw [m138_api_Slot_L1B] at h
      refine W.seq ?_
      refine W.region ?_
      refine L.ite h rfl (Y.lss rfl rfl) (fun c1 h => ?_) (fun c1 h => ?_)
      ·
        refine L.nil ?_
        refine E.thenN ?_
        refine W.seq ?_
        refine W.condT rfl ?_
        refine W.skip ?_
        refine E.thenN ?_
        refine W.seq ?_
        refine W.block ?_
        refine W.seq ?_
        refine W.region ?_
        refine L.y rfl (Y.move rfl) ?_
        refine L.y rfl (Y.assign rfl) ?_
        refine L.nil ?_
        refine E.thenN ?_
        refine W.seq ?_
        refine W.quietC mixed (by kernel_rfl) (fun _ hw => hw.drew) (fun hC => ?_)
        refine U.y rfl (Y.move rfl) ?_
        refine U.y rfl (Y.move rfl) ?_
        refine U.m (V := fun _ => el u0 (gx1.toNat * 2)) h rfl (Y.indexM (g := TSlot.row) (l := a0) Try.underlying125 sz143 rfl rfl (fun w' hw => hA0.cls0 hw)) (fun x2 ex2 h => ?_)
        refine U.y rfl (Y.loadEN (r := [.bool x2.Used, st x2.Text]) ag143 sz143 rfl (fun w' hw => hA0.cls0 hw) (idx_map ex2) rfl) ?_
        refine U.y rfl (Y.move rfl) ?_
        refine U.y rfl (Y.move rfl) ?_
        refine U.m (V := fun _ => el u1 (gx1.toNat * 2)) h rfl (Y.indexM (g := TSlot.row) (l := a1) Try.underlying125 sz143 rfl rfl (fun w' hw => hA1.cls0 hw)) (fun x3 ex3 h => ?_)
        refine U.y rfl (Y.loadEN (r := [.bool x3.Used, st x3.Text]) ag143 sz143 rfl (fun w' hw => hA1.cls0 hw) (idx_map ex3) rfl) ?_
        refine U.ite h rfl (Y.neqA (row := TSlot.row) (a := x2) (b := x3) eg143 ag143 (sh143 _) (sh143 _) (inj143 _ _) rfl rfl) (fun c4 h => ?_) (fun c4 h => ?_)
        ·
          refine U.nil ?_
          refine E.thenN ?_
          refine W.condT rfl ?_
          refine W.seq ?_
          refine W.region ?_
          refine L.y rfl (Y.assign rfl) ?_
          refine L.nil ?_
          refine E.thenN ?_
          refine W.ret ?_
          refine E.blockR ?_
          refine E.thenR ?_
          refine E.KLR ?_
          refine E.blockR ?_
          refine E.KSR ?_
          refine E.ret1 rfl rfl (fun w1 hw => ?_)
          obtain rfl := Option.some.inj h
          exact ⟨_, _, rfl, ⟨rfl, rfl⟩, hw⟩
        ·
          refine U.nil ?_
          refine E.thenN ?_
          refine W.condF rfl ?_
          refine W.skip ?_
          refine E.blockN ?_
          refine E.thenN ?_
          refine W.region ?_
          refine L.m (V := fun x5 => .int .i64 x5) h rfl (Y.addM rfl rfl) (fun x5 ex5 h => ?_)
          refine L.y rfl (Y.move rfl) ?_
          refine L.nil ?_
          exact E.againJ ⟨x5, rfl, rfl, by rw [hg1]; exact h⟩ (Nat.lt_succ_self _) ⟨rfl, rfl, rfl, rfl, trivial⟩ (fun _ hw => hw)
      ·
        refine L.nil ?_
        refine E.thenN ?_
        refine W.seq ?_
        refine W.condF rfl ?_
        refine W.exit ?_
        refine E.thenX ?_
        refine E.KLX ?_
        refine E.blockX ?_
        exact E.joinJ ⟨rfl, rfl, h⟩ trivial (fun _ hw => hw)
    ·
      rintro _ _ ⟨rfl, rfl, h⟩
      rw [m138_api_Slot_K2] at h
      refine W.seq ?_
      refine W.region ?_
      refine L.y rfl (Y.assign rfl) ?_
      refine L.nil ?_
      refine E.thenN ?_
      refine W.ret ?_
      refine E.ret1 rfl rfl (fun w1 hw => ?_)
      obtain rfl := Option.some.inj h
      exact ⟨_, _, rfl, ⟨rfl, rfl⟩, hw⟩
set_option maxRecDepth 100000 in
set_option maxHeartbeats 8000000 in
theorem w89_quirref_SameLeaf (a0 : TLeaf) (a1 : TLeaf) (u0_0 : Value) (u1_1 : Value) (w : World) (r : Bool) (h : m89_quirref_SameLeaf a0 a1 = some r) (hA0_0 : At w u0_0 2 (a0.Slots.map TSlot.row)) (hA1_1 : At w u1_1 2 (a1.Slots.map TSlot.row)) : Does Try.prog 89 [.agg #[u0_0], .agg #[u1_1]] w fun u m => u = .bool r ∧ m = [] := by
  rw [m89_quirref_SameLeaf] at h
  refine body (n := 10) Try.func89 rfl rfl rfl (Cls.refl w) ?_
  refine W.seq ?_
  refine W.region ?_
  refine L.box rfl rfl ?_
  intro b1
  refine L.box rfl rfl ?_
  intro b2
  refine L.y rfl (Y.assign rfl) ?_
  refine L.nil ?_
  refine E.thenN ?_
  refine W.seq ?_
  refine W.region ?_
  refine L.y rfl (Y.fieldP fd127_0 rfl) ?_
  refine L.y rfl (Y.loadP (i := 1) ag125 rfl rfl rfl) ?_
  refine L.y rfl (Y.fieldP fd127_0 rfl) ?_
  refine L.y rfl (Y.loadP (i := 0) ag125 rfl rfl rfl) ?_
  obtain ⟨b3, e4, h⟩ := bind1S h
  refine L.y rfl (Y.does en138 rfl (fun w' hw => (w138_api_Slot a0.Slots a1.Slots u0_0 u1_1 w' _ e4 (hA0_0.cls0 hw) (hA1_1.cls0 hw)).mono (fun _ _ h => h.1))) ?_
  refine L.y rfl (Y.assign rfl) ?_
  refine L.nil ?_
  refine E.thenN ?_
  refine W.ret ?_
  refine E.ret1 rfl rfl (fun w1 hw => ?_)
  obtain rfl := Option.some.inj h
  exact ⟨_, _, rfl, ⟨rfl, rfl⟩, hw.sel [] (by decide) rfl⟩
set_option maxRecDepth 100000 in
set_option maxHeartbeats 8000000 in
theorem w93_quirlaw_LeafSays_1 (a0 : TSlot) (w : World) (r : Bool) (h : m93_quirlaw_LeafSays_1 a0 = some r) : Does Try.prog 93 [.agg #[.bool a0.Used, st a0.Text]] w fun u m => u = .bool r ∧ m = [] := by
  rw [m93_quirlaw_LeafSays_1] at h
  refine body (n := 6) Try.func93 rfl rfl rfl (Cls.refl w) ?_
  refine W.seq ?_
  refine W.region ?_
  refine L.box rfl rfl ?_
  intro b1
  refine L.y rfl (Y.assign rfl) ?_
  refine L.nil ?_
  refine E.thenN ?_
  refine W.seq ?_
  refine W.region ?_
  refine L.y rfl (Y.fieldP fd143_0 rfl) ?_
  refine L.y rfl (Y.loadP (i := 0) ag4 rfl rfl rfl) ?_
  refine L.y rfl (Y.not rfl) ?_
  refine L.y rfl (Y.assign rfl) ?_
  refine L.nil ?_
  refine E.thenN ?_
  refine W.ret ?_
  refine E.ret1 rfl rfl (fun w1 hw => ?_)
  obtain rfl := Option.some.inj h
  exact ⟨_, _, rfl, ⟨rfl, rfl⟩, hw.sel [] (by decide) rfl⟩
set_option maxRecDepth 100000 in
set_option maxHeartbeats 8000000 in
theorem w94_api_Slot (a0 : (List TSlot)) (u0 : Value) (w : World) (r : (List TSlot)) (h : m94_api_Slot a0 = some r) (hA0 : At w u0 2 (a0.map TSlot.row)) : Does Try.prog 94 [u0] w fun u m => ∃ v0, u = v0 ∧ m = [.sl v0 143 2 (r.map TSlot.row)] := by
  rw [m94_api_Slot] at h
  rcases hA0.shape with ⟨rfl, hn⟩ | ⟨ad, cap, rfl, hl, hm⟩
  ·
    obtain rfl : a0 = [] := by simpa using hn
    replace h : some ([] : List TSlot) = some r := by simpa [app] using h
    refine body (n := 8) Try.func94 rfl rfl rfl (Cls.refl w) ?_
    refine W.seq ?_
    refine W.region ?_
    refine L.y rfl (Y.assign rfl) ?_
    refine L.nil ?_
    refine E.thenN ?_
    refine W.seq ?_
    refine W.seq ?_
    refine W.region ?_
    refine L.y rfl (Y.move rfl) ?_
    refine L.y rfl (Y.eqlNil Try.underlying125 rfl rfl) ?_
    refine L.nil ?_
    refine E.thenN ?_
    refine W.condT rfl ?_
    refine W.seq ?_
    refine W.region ?_
    refine L.y rfl (Y.assign rfl) ?_
    refine L.nil ?_
    refine E.thenN ?_
    refine W.ret ?_
    refine E.thenR ?_
    refine E.ret1 rfl rfl (fun w1 hw => ?_)
    obtain rfl := Option.some.inj h
    exact ⟨_, _, rfl, ⟨_, rfl, rfl⟩, (hw.nilSl 143 2)⟩
  ·
    refine body (n := 8) Try.func94 rfl rfl rfl (Cls.refl w) ?_
    refine W.seq ?_
    refine W.region ?_
    refine L.y rfl (Y.assign rfl) ?_
    refine L.nil ?_
    refine E.thenN ?_
    refine W.seq ?_
    refine W.seq ?_
    refine W.region ?_
    refine L.y rfl (Y.move rfl) ?_
    refine L.y rfl (Y.eqlNil Try.underlying125 rfl rfl) ?_
    refine L.nil ?_
    refine E.thenN ?_
    refine W.condF rfl ?_
    refine W.skip ?_
    refine E.thenN ?_
    refine W.seq ?_
    refine W.region ?_
    refine L.lit0 rfl Try.underlying125 el143 ?_
    intro b1
    refine L.y rfl (Y.move rfl) ?_
    refine L.appM (i := 0) (g := TSlot.row) (l := []) (more := a0) h rfl Try.underlying125 el143 rfl rfl rfl (fun w' hw => hA0.cls0 hw) (plain_TSlot _) rfl ?_
    intro v2 l3 el3 h
    refine L.y rfl (Y.assign rfl) ?_
    refine L.nil ?_
    refine E.thenN ?_
    refine W.ret ?_
    refine E.ret1 rfl rfl (fun w1 hw => ?_)
    obtain rfl := Option.some.inj h
    exact ⟨_, _, rfl, ⟨_, rfl, rfl⟩, hw⟩
end Go.Proofs.Ytfmgjigdebofaaa
