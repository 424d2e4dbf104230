/-
  Walks, printed by a program of mine.
  Conditions: none.
-/
import Derived.Test.YtfmgjigdebofaaaLfW1
import Derived.Test.YtfmgjigdebofaaaChecked
import Derived.KernelRfl
namespace Go.Proofs.Ytfmgjigdebofaaa
open Go.S
set_option linter.unusedVariables false
set_option linter.unusedSimpArgs false
set_option maxRecDepth 100000 in
set_option maxHeartbeats 8000000 in
theorem w13_quirlaw_LeafSays (a0 : TLeaf) (a1 : (List UInt8)) (a2 : Int) (a3 : (List UInt8)) (u0_0 : Value) (w : World) (r : Bool) (h : m13_quirlaw_LeafSays a0 a1 a2 a3 = some r) (hA0_0 : At w u0_0 2 (a0.Slots.map TSlot.row)) : Does Try.prog 13 [.agg #[u0_0], st a1, .int .i64 a2, st a3] w fun u m => u = .bool r ∧ m = [] := by
  rw [m13_quirlaw_LeafSays] at h
  refine body (n := 309) Try.func13 rfl rfl rfl (Cls.refl w) ?_
  refine W.seq ?_
  refine W.region ?_
  refine L.box rfl rfl ?_
  intro b1
  refine L.y rfl (Y.assign rfl) ?_
  refine L.nil ?_
  refine E.thenN ?_
  refine W.seq ?_
  refine W.region ?_
  refine L.y rfl (Y.loadPW (i := 0) ag127 sz127 rfl rfl rfl) ?_
  obtain ⟨x2, e3, h⟩ := bind1S h
  refine L.y rfl (Y.does en81 rfl (fun w' hw => (w81_quirref_LeafErr a0 u0_0 w' _ e3 (hA0_0.cls0 hw)).mono (fun _ _ h => h.1))) ?_
  refine L.y rfl (Y.assign rfl) ?_
  refine L.nil ?_
  refine E.thenN ?_
  refine W.seq ?_
  refine W.region ?_
  refine L.y rfl (Y.loadPW (i := 0) ag127 sz127 rfl rfl rfl) ?_
  obtain ⟨x4, x5, e6, h⟩ := bind2S h
  refine L.y rfl (Y.does en82 rfl (fun w' hw => (w82_leaf_Free a0 u0_0 w' _ e6 (hA0_0.cls0 hw)).mono (fun _ _ h => h.1))) ?_
  refine L.y rfl (Y.move rfl) ?_
  refine L.y rfl (Y.extract rfl rfl) ?_
  refine L.y rfl (Y.extract rfl rfl) ?_
  refine L.y rfl (Y.assign rfl) ?_
  refine L.y rfl (Y.assign rfl) ?_
  refine L.nil ?_
  refine E.thenN ?_
  refine W.seq ?_
  refine W.region ?_
  refine L.y rfl (Y.loadPW (i := 0) ag127 sz127 rfl rfl rfl) ?_
  refine L.y rfl (Y.move rfl) ?_
  obtain ⟨x7, x9, x10, e11, h⟩ := bind3S h
  refine L.does rfl en83 rfl (fun w' hw => w83_leaf_Put a0 a1 u0_0 w' _ e11 (hA0_0.cls0 hw)) ?_
  rintro _ _ ⟨v8, rfl, rfl⟩
  refine L.y rfl (Y.move rfl) ?_
  refine L.y rfl (Y.extract rfl rfl) ?_
  refine L.y rfl (Y.extract rfl rfl) ?_
  refine L.y rfl (Y.extract rfl rfl) ?_
  refine L.alloc rfl ze127 ?_
  intro b12
  refine L.storeC (i := 0) sz127 rfl rfl rfl rfl (fun w hw => (all1 (As.at_ (hw.get (i := 1) rfl)).one all0)) rfl (Nat.le_of_ble_eq_true rfl) ?_
  refine L.y rfl (Y.assign rfl) ?_
  refine L.y rfl (Y.assign rfl) ?_
  refine L.nil ?_
  refine E.thenN ?_
  refine W.seq ?_
  refine W.region ?_
  refine L.y rfl (Y.loadPW (i := 2) ag127 sz127 rfl rfl rfl) ?_
  refine L.y rfl (Y.move rfl) ?_
  obtain ⟨s13, x14, e15, h⟩ := bind2S h
  refine L.y rfl (Y.does en84 rfl (fun w' hw => (w84_leaf_Get a0 a2 u0_0 w' _ e15 (hA0_0.cls0 hw)).mono (fun _ _ h => h.1))) ?_
  refine L.y rfl (Y.move rfl) ?_
  refine L.y rfl (Y.extract rfl rfl) ?_
  refine L.y rfl (Y.extract rfl rfl) ?_
  refine L.y rfl (Y.assign rfl) ?_
  refine L.y rfl (Y.assign rfl) ?_
  refine L.nil ?_
  refine E.thenN ?_
  refine W.seq ?_
  refine W.region ?_
  refine L.y rfl (Y.loadPW (i := 2) ag127 sz127 rfl rfl rfl) ?_
  refine L.y rfl (Y.move rfl) ?_
  obtain ⟨x16, x18, e19, h⟩ := bind2S h
  refine L.does rfl en85 rfl (fun w' hw => w85_leaf_Drop a0 a2 u0_0 w' _ e19 (hA0_0.cls0 hw)) ?_
  rintro _ _ ⟨v17, rfl, rfl⟩
  refine L.y rfl (Y.move rfl) ?_
  refine L.y rfl (Y.extract rfl rfl) ?_
  refine L.y rfl (Y.extract rfl rfl) ?_
  refine L.alloc rfl ze127 ?_
  intro b20
  refine L.storeC (i := 0) sz127 rfl rfl rfl rfl (fun w hw => (all1 (As.at2 (hw.get (i := 1) rfl)).one all0)) rfl (Nat.le_of_ble_eq_true rfl) ?_
  refine L.y rfl (Y.assign rfl) ?_
  refine L.nil ?_
  refine E.thenN ?_
  refine W.seq ?_
  refine W.region ?_
  refine L.y rfl (Y.loadPW (i := 4) ag127 sz127 rfl rfl rfl) ?_
  obtain ⟨s21, x22, e23, h⟩ := bind2S h
  refine L.y rfl (Y.does en86 rfl (fun w' hw => (w86_leaf_Text a0 u0_0 w' _ e23 (hA0_0.cls0 hw)).mono (fun _ _ h => h.1))) ?_
  refine L.y rfl (Y.move rfl) ?_
  refine L.y rfl (Y.extract rfl rfl) ?_
  refine L.y rfl (Y.extract rfl rfl) ?_
  refine L.y rfl (Y.assign rfl) ?_
  refine L.y rfl (Y.assign rfl) ?_
  refine L.nil ?_
  refine E.thenN ?_
  refine W.seq ?_
  refine W.region ?_
  refine L.y rfl (Y.move rfl) ?_
  obtain ⟨x24, x26, e27, h⟩ := bind2S h
  refine L.does rfl en87 rfl (fun w' hw => w87_leaf_Read a3 w' _ e27) ?_
  rintro _ _ ⟨v25, rfl, rfl⟩
  refine L.y rfl (Y.move rfl) ?_
  refine L.y rfl (Y.extract rfl rfl) ?_
  refine L.y rfl (Y.extract rfl rfl) ?_
  refine L.alloc rfl ze127 ?_
  intro b28
  refine L.storeC (i := 0) sz127 rfl rfl rfl rfl (fun w hw => (all1 (As.at_ (hw.get (i := 1) rfl)).one all0)) rfl (Nat.le_of_ble_eq_true rfl) ?_
  refine L.y rfl (Y.assign rfl) ?_
  refine L.nil ?_
  refine E.thenN ?_
  refine W.seqJ (fun gs D => ∃ (gb1 : Nat) (gv2 : Value) (gl3 : (List TSlot)) (gb4 : Bool), gs = [(1, st a1), (2, .int .i64 a2), (4, pt b1 0), (9, .int .i64 x2), (10, .int .i64 x4), (11, .int .i64 x5), (12, pt b12 0), (13, .int .i64 x9), (14, .int .i64 x10), (15, st s13), (16, .int .i64 x14), (17, pt b20 0), (18, .int .i64 x18), (19, st s21), (20, .int .i64 x22), (21, pt b28 0), (22, .int .i64 x26), (23, pt gb1 0), (24, .bool gb4)] ∧ D = Cls w [] [.obj b28 [v25] 127, .obj b20 [v17] 127, .obj b12 [v8] 127, .obj b1 [u0_0] 127, .sl gv2 143 2 (gl3.map TSlot.row), .obj gb1 [gv2] 127, .sl v25 143 2 (x24.Slots.map TSlot.row), .rd v17 2 (x16.Slots.map TSlot.row), .sl v8 143 2 (x7.Slots.map TSlot.row)] ∧ m13_quirlaw_LeafSays_K1 x24 x26 a0 x2 x4 x5 x7 x9 x10 s13 x14 x16 x18 s21 x22 a1 a2 gl3 gb4 = some r) ?_ ?_
  ·
    refine W.region ?_
    refine L.y rfl (Y.move rfl) ?_
    obtain ⟨x192, b194, e195, h⟩ := bind2S h
    refine L.does rfl en88 rfl (fun w' hw => w88_quirref_LeafRead a3 w' _ e195) ?_
    rintro _ _ ⟨v193, rfl, rfl⟩
    refine L.y rfl (Y.move rfl) ?_
    refine L.y rfl (Y.extract rfl rfl) ?_
    refine L.iteB h rfl (Y.extract rfl rfl) (fun c196 h => ?_) (fun c196 h => ?_)
    ·
      refine L.alloc rfl ze127 ?_
      intro b197
      refine L.storeC (i := 0) sz127 rfl rfl rfl rfl (fun w hw => (all1 (As.at_ (hw.get (i := 1) rfl)).one all0)) rfl (Nat.le_of_ble_eq_true rfl) ?_
      refine L.y rfl (Y.assign rfl) ?_
      refine L.nil ?_
      exact E.joinJ ⟨b197, v193, x192.Slots, true, rfl, rfl, h⟩ ⟨rfl, rfl, rfl, rfl, rfl, rfl, rfl, rfl, rfl, rfl, rfl, rfl, rfl, rfl, rfl, rfl, rfl, rfl, rfl, trivial⟩ (fun _ hw => hw.sel [2, 4, 6, 8, 1, 0, 3, 5, 7] (by decide) rfl)
    ·
      refine L.alloc rfl ze127 ?_
      intro b198
      refine L.storeC (i := 0) sz127 rfl rfl rfl rfl (fun w hw => (all1 (As.at_ (hw.get (i := 1) rfl)).one all0)) rfl (Nat.le_of_ble_eq_true rfl) ?_
      refine L.y rfl (Y.assign rfl) ?_
      refine L.nil ?_
      exact E.joinJ ⟨b198, v193, x192.Slots, false, rfl, rfl, h⟩ ⟨rfl, rfl, rfl, rfl, rfl, rfl, rfl, rfl, rfl, rfl, rfl, rfl, rfl, rfl, rfl, rfl, rfl, rfl, rfl, trivial⟩ (fun _ hw => hw.sel [2, 4, 6, 8, 1, 0, 3, 5, 7] (by decide) rfl)
  ·
    rintro _ _ ⟨gb1, gv2, gl3, gb4, rfl, rfl, h⟩
    rw [m13_quirlaw_LeafSays_K1] at h
    rcases gb4 with _ | _
    ·
      replace h := iteF h
      refine W.seqJ (fun gs D => gs = [(1, st a1), (2, .int .i64 a2), (4, pt b1 0), (9, .int .i64 x2), (10, .int .i64 x4), (11, .int .i64 x5), (12, pt b12 0), (13, .int .i64 x9), (14, .int .i64 x10), (15, st s13), (16, .int .i64 x14), (17, pt b20 0), (18, .int .i64 x18), (19, st s21), (20, .int .i64 x22)] ∧ D = Cls w [] [.obj b20 [v17] 127, .obj b12 [v8] 127, .obj b1 [u0_0] 127, .rd v17 2 (x16.Slots.map TSlot.row), .sl v8 143 2 (x7.Slots.map TSlot.row)] ∧ m13_quirlaw_LeafSays_K2 x2 x4 x5 x7 x9 x10 s13 x14 x16 x18 s21 x22 a0 a1 a2 = some r) ?_ ?_
      ·
        refine W.seq ?_
        refine W.region ?_
        refine L.cutJ 10 (fun gs D => ∃ (gb28 : Bool), gs = [(1, st a1), (2, .int .i64 a2), (4, pt b1 0), (9, .int .i64 x2), (10, .int .i64 x4), (11, .int .i64 x5), (12, pt b12 0), (13, .int .i64 x9), (14, .int .i64 x10), (15, st s13), (16, .int .i64 x14), (17, pt b20 0), (18, .int .i64 x18), (19, st s21), (20, .int .i64 x22), (22, .int .i64 x26), (24, .bool false), (79, .bool gb28)] ∧ D = Cls w [] [.obj b20 [v17] 127, .obj b12 [v8] 127, .obj b1 [u0_0] 127, .rd v17 2 (x16.Slots.map TSlot.row), .sl v8 143 2 (x7.Slots.map TSlot.row)] ∧ m13_quirlaw_LeafSays_K25 x26 a0 x2 x4 x5 x7 x9 x10 s13 x14 x16 x18 s21 x22 a1 a2 gb28 = some r) ?_ ?_
        ·
          refine L.y rfl (Y.loadPW (i := 0) ag127 sz127 rfl rfl rfl) ?_
          refine L.y rfl (Y.loadPW (i := 5) ag127 sz127 rfl rfl rfl) ?_
          obtain ⟨b108, e109, h⟩ := bind1S h
          refine L.y rfl (Y.does en89 rfl (fun w' hw => (w89_quirref_SameLeaf x24 (⟨gl3⟩ : TLeaf) v25 gv2 w' _ e109 (As.at_ (hw.get (i := 6) rfl)) (As.at_ (hw.get (i := 4) rfl))).mono (fun _ _ h => h.1))) ?_
          rcases b108 with _ | _
          ·
            replace h := iteF h
            refine L.y rfl (Y.not rfl) ?_
            refine L.y rfl (Y.move rfl) ?_
            refine L.pass rfl rfl (by nofun) ?_
            refine L.pass rfl rfl (by nofun) ?_
            refine L.pass rfl rfl (by nofun) ?_
            refine L.pass rfl rfl (by nofun) ?_
            refine L.y rfl (Y.pickT rfl rfl) ?_
            refine L.nil ?_
            exact E.joinJ ⟨true, rfl, rfl, h⟩ ⟨rfl, rfl, rfl, rfl, rfl, rfl, rfl, rfl, rfl, rfl, rfl, rfl, rfl, rfl, rfl, rfl, rfl, rfl, trivial⟩ (fun _ hw => hw.sel [1, 2, 3, 7, 8] (by decide) rfl)
          ·
            replace h := iteT h
            refine L.y rfl (Y.not rfl) ?_
            refine L.y rfl (Y.move rfl) ?_
            refine L.take rfl ?_
            refine L.y rfl (Y.move rfl) ?_
            refine L.take rfl ?_
            refine L.y rfl (Y.eql rfl rfl) ?_
            refine L.take rfl ?_
            refine L.y rfl (Y.move rfl) ?_
            refine L.take rfl ?_
            refine L.iteB h rfl (Y.neqB Try.underlying4 rfl rfl) (fun c110 h => ?_) (fun c110 h => ?_)
            ·
              refine L.y rfl (Y.pickF rfl rfl) ?_
              refine L.nil ?_
              exact E.joinJ ⟨true, rfl, rfl, h⟩ ⟨rfl, rfl, rfl, rfl, rfl, rfl, rfl, rfl, rfl, rfl, rfl, rfl, rfl, rfl, rfl, rfl, rfl, rfl, trivial⟩ (fun _ hw => hw.sel [1, 2, 3, 7, 8] (by decide) rfl)
            ·
              refine L.y rfl (Y.pickF rfl rfl) ?_
              refine L.nil ?_
              exact E.joinJ ⟨false, rfl, rfl, h⟩ ⟨rfl, rfl, rfl, rfl, rfl, rfl, rfl, rfl, rfl, rfl, rfl, rfl, rfl, rfl, rfl, rfl, rfl, rfl, trivial⟩ (fun _ hw => hw.sel [1, 2, 3, 7, 8] (by decide) rfl)
        ·
          rintro _ _ ⟨gb28, rfl, rfl, h⟩
          rw [m13_quirlaw_LeafSays_K25] at h
          rcases gb28 with _ | _
          ·
            replace h := iteF h
            refine L.y rfl (Y.move rfl) ?_
            refine L.take rfl ?_
            refine L.y rfl (Y.move rfl) ?_
            refine L.take rfl ?_
            refine L.y rfl (Y.not rfl) ?_
            refine L.take rfl ?_
            refine L.y rfl (Y.move rfl) ?_
            refine L.take rfl ?_
            refine L.y rfl (Y.move rfl) ?_
            refine L.take rfl ?_
            refine L.ite h rfl (Y.neq rfl rfl) (fun c104 h => ?_) (fun c104 h => ?_)
            ·
              refine L.take rfl ?_
              refine L.y rfl (Y.pickT rfl rfl) ?_
              refine L.y rfl (Y.pickF rfl rfl) ?_
              refine L.y rfl (Y.move rfl) ?_
              refine L.pass rfl rfl (by nofun) ?_
              refine L.pass rfl rfl (by nofun) ?_
              refine L.pass rfl rfl (by nofun) ?_
              refine L.pass rfl rfl (by nofun) ?_
              refine L.y rfl (Y.pickT rfl rfl) ?_
              refine L.nil ?_
              refine E.thenN ?_
              refine W.condT rfl ?_
              refine W.seq ?_
              refine W.region ?_
              refine L.y rfl (Y.assign rfl) ?_
              refine L.nil ?_
              refine E.thenN ?_
              refine W.ret ?_
              refine E.KSR ?_
              refine E.ret1 rfl rfl (fun w1 hw => ?_)
              obtain rfl := Option.some.inj h
              exact ⟨_, _, rfl, ⟨rfl, rfl⟩, hw.sel [] (by decide) rfl⟩
            ·
              refine L.take rfl ?_
              refine L.y rfl (Y.pickT rfl rfl) ?_
              refine L.y rfl (Y.pickF rfl rfl) ?_
              refine L.y rfl (Y.move rfl) ?_
              refine L.take rfl ?_
              refine L.y rfl (Y.loadPW (i := 2) ag127 sz127 rfl rfl rfl) ?_
              refine L.take rfl ?_
              obtain ⟨x105, e106, h⟩ := bind1S h
              refine L.y rfl (Y.does en90 rfl (fun w' hw => (w90_leaf_Check a0 u0_0 w' _ e106 (hA0_0.cls0 hw)).mono (fun _ _ h => h.1))) ?_
              refine L.take rfl ?_
              refine L.y rfl (Y.move rfl) ?_
              refine L.take rfl ?_
              refine L.ite h rfl (Y.neq rfl rfl) (fun c107 h => ?_) (fun c107 h => ?_)
              ·
                refine L.y rfl (Y.pickF rfl rfl) ?_
                refine L.nil ?_
                refine E.thenN ?_
                refine W.condT rfl ?_
                refine W.seq ?_
                refine W.region ?_
                refine L.y rfl (Y.assign rfl) ?_
                refine L.nil ?_
                refine E.thenN ?_
                refine W.ret ?_
                refine E.KSR ?_
                refine E.ret1 rfl rfl (fun w1 hw => ?_)
                obtain rfl := Option.some.inj h
                exact ⟨_, _, rfl, ⟨rfl, rfl⟩, hw.sel [] (by decide) rfl⟩
              ·
                refine L.y rfl (Y.pickF rfl rfl) ?_
                refine L.nil ?_
                refine E.thenN ?_
                refine W.condF rfl ?_
                refine W.skip ?_
                exact E.joinJ ⟨rfl, rfl, h⟩ ⟨rfl, rfl, rfl, rfl, rfl, rfl, rfl, rfl, rfl, rfl, rfl, rfl, rfl, rfl, rfl, trivial⟩ (fun _ hw => hw)
          ·
            replace h := iteT h
            refine L.y rfl (Y.move rfl) ?_
            refine L.pass rfl rfl (by nofun) ?_
            refine L.pass rfl rfl (by nofun) ?_
            refine L.pass rfl rfl (by nofun) ?_
            refine L.pass rfl rfl (by nofun) ?_
            refine L.pass rfl rfl (by nofun) ?_
            refine L.pass rfl rfl (by nofun) ?_
            refine L.y rfl (Y.pickT rfl rfl) ?_
            refine L.y rfl (Y.move rfl) ?_
            refine L.pass rfl rfl (by nofun) ?_
            refine L.pass rfl rfl (by nofun) ?_
            refine L.pass rfl rfl (by nofun) ?_
            refine L.pass rfl rfl (by nofun) ?_
            refine L.y rfl (Y.pickT rfl rfl) ?_
            refine L.nil ?_
            refine E.thenN ?_
            refine W.condT rfl ?_
            refine W.seq ?_
            refine W.region ?_
            refine L.y rfl (Y.assign rfl) ?_
            refine L.nil ?_
            refine E.thenN ?_
            refine W.ret ?_
            refine E.KSR ?_
            refine E.ret1 rfl rfl (fun w1 hw => ?_)
            obtain rfl := Option.some.inj h
            exact ⟨_, _, rfl, ⟨rfl, rfl⟩, hw.sel [] (by decide) rfl⟩
      ·
        rintro _ _ ⟨rfl, rfl, h⟩
        rw [m13_quirlaw_LeafSays_K2] at h
        refine W.seq ?_
        refine W.region ?_
        refine L.y rfl (Y.build (cells := #[.slice none 0 0]) rfl (by kernel_rfl)) ?_
        refine L.alloc rfl ze127 ?_
        intro b29
        refine L.store (i := 0) sz127 rfl rfl rfl rfl (by simp [Value.oneCell', Value.cells, st]) rfl (Nat.le_of_ble_eq_true rfl) ?_
        refine L.nil ?_
        refine E.thenN ?_
        refine W.seqJ (fun gs D => gs = [(1, st a1), (2, .int .i64 a2), (4, pt b1 0), (10, .int .i64 x4), (11, .int .i64 x5), (12, pt b12 0), (13, .int .i64 x9), (14, .int .i64 x10), (15, st s13), (16, .int .i64 x14), (17, pt b20 0), (18, .int .i64 x18), (19, st s21), (20, .int .i64 x22), (25, pt b29 0)] ∧ D = Cls w [] [.obj b29 [.slice none 0 0] 127, .obj b20 [v17] 127, .obj b12 [v8] 127, .obj b1 [u0_0] 127, .rd v17 2 (x16.Slots.map TSlot.row), .sl v8 143 2 (x7.Slots.map TSlot.row)] ∧ m13_quirlaw_LeafSays_K3 a0 x4 s21 x22 a1 x7 x9 x10 a2 s13 x14 x16 x18 x5 = some r) ?_ ?_
        ·
          refine W.seq ?_
          refine W.region ?_
          refine L.y rfl (Y.move rfl) ?_
          refine L.ite h rfl (Y.neq rfl rfl) (fun c91 h => ?_) (fun c91 h => ?_)
          ·
            refine L.nil ?_
            refine E.thenN ?_
            refine W.condT rfl ?_
            refine W.seq ?_
            refine W.region ?_
            refine L.cutJ 7 (fun gs D => ∃ (gb23 : Bool), gs = [(9, .int .i64 x2), (12, pt b12 0), (13, .int .i64 x9), (14, .int .i64 x10), (15, st s13), (16, .int .i64 x14), (17, pt b20 0), (18, .int .i64 x18), (19, st s21), (20, .int .i64 x22), (25, pt b29 0), (103, .bool gb23)] ∧ D = Cls w [] [.obj b29 [.slice none 0 0] 127, .obj b20 [v17] 127, .obj b12 [v8] 127, .rd v17 2 (x16.Slots.map TSlot.row), .sl v8 143 2 (x7.Slots.map TSlot.row)] ∧ m13_quirlaw_LeafSays_K20 x7 x9 x10 x2 s13 x14 x16 x18 s21 x22 gb23 = some r) ?_ ?_
            ·
              refine L.y rfl (Y.move rfl) ?_
              refine L.ite h rfl (Y.eql rfl rfl) (fun c102 h => ?_) (fun c102 h => ?_)
              ·
                refine L.y rfl (Y.move rfl) ?_
                refine L.take rfl ?_
                refine L.y rfl (Y.move rfl) ?_
                refine L.take rfl ?_
                refine L.y rfl (Y.move rfl) ?_
                refine L.take rfl ?_
                refine L.ite h rfl (Y.eql rfl rfl) (fun c103 h => ?_) (fun c103 h => ?_)
                ·
                  refine L.y rfl (Y.pickT rfl rfl) ?_
                  refine L.nil ?_
                  exact E.joinJ ⟨true, rfl, rfl, h⟩ ⟨rfl, rfl, rfl, rfl, rfl, rfl, rfl, rfl, rfl, rfl, rfl, rfl, trivial⟩ (fun _ hw => hw.sel [0, 1, 2, 4, 5] (by decide) rfl)
                ·
                  refine L.y rfl (Y.pickT rfl rfl) ?_
                  refine L.nil ?_
                  exact E.joinJ ⟨false, rfl, rfl, h⟩ ⟨rfl, rfl, rfl, rfl, rfl, rfl, rfl, rfl, rfl, rfl, rfl, rfl, trivial⟩ (fun _ hw => hw.sel [0, 1, 2, 4, 5] (by decide) rfl)
              ·
                refine L.y rfl (Y.move rfl) ?_
                refine L.pass rfl rfl (by nofun) ?_
                refine L.pass rfl rfl (by nofun) ?_
                refine L.pass rfl rfl (by nofun) ?_
                refine L.y rfl (Y.pickF rfl rfl) ?_
                refine L.nil ?_
                exact E.joinJ ⟨false, rfl, rfl, h⟩ ⟨rfl, rfl, rfl, rfl, rfl, rfl, rfl, rfl, rfl, rfl, rfl, rfl, trivial⟩ (fun _ hw => hw.sel [0, 1, 2, 4, 5] (by decide) rfl)
            ·
              rintro _ _ ⟨gb23, rfl, rfl, h⟩
              rw [m13_quirlaw_LeafSays_K20] at h
              rcases gb23 with _ | _
              ·
                replace h := iteF h
                refine L.y rfl (Y.move rfl) ?_
                refine L.pass rfl rfl (by nofun) ?_
                refine L.pass rfl rfl (by nofun) ?_
                refine L.pass rfl rfl (by nofun) ?_
                refine L.y rfl (Y.pickF rfl rfl) ?_
                refine L.y rfl (Y.move rfl) ?_
                refine L.pass rfl rfl (by nofun) ?_
                refine L.pass rfl rfl (by nofun) ?_
                refine L.y rfl (Y.pickF rfl rfl) ?_
                refine L.y rfl (Y.move rfl) ?_
                refine L.pass rfl rfl (by nofun) ?_
                refine L.pass rfl rfl (by nofun) ?_
                refine L.pass rfl rfl (by nofun) ?_
                refine L.y rfl (Y.pickF rfl rfl) ?_
                refine L.y rfl (Y.move rfl) ?_
                refine L.pass rfl rfl (by nofun) ?_
                refine L.pass rfl rfl (by nofun) ?_
                refine L.y rfl (Y.pickF rfl rfl) ?_
                refine L.y rfl (Y.move rfl) ?_
                refine L.pass rfl rfl (by nofun) ?_
                refine L.pass rfl rfl (by nofun) ?_
                refine L.pass rfl rfl (by nofun) ?_
                refine L.y rfl (Y.pickF rfl rfl) ?_
                refine L.y rfl (Y.move rfl) ?_
                refine L.pass rfl rfl (by nofun) ?_
                refine L.pass rfl rfl (by nofun) ?_
                refine L.pass rfl rfl (by nofun) ?_
                refine L.y rfl (Y.pickF rfl rfl) ?_
                refine L.y rfl (Y.move rfl) ?_
                refine L.pass rfl rfl (by nofun) ?_
                refine L.pass rfl rfl (by nofun) ?_
                refine L.pass rfl rfl (by nofun) ?_
                refine L.y rfl (Y.pickF rfl rfl) ?_
                refine L.y rfl (Y.move rfl) ?_
                refine L.pass rfl rfl (by nofun) ?_
                refine L.pass rfl rfl (by nofun) ?_
                refine L.y rfl (Y.pickF rfl rfl) ?_
                refine L.y rfl (Y.move rfl) ?_
                refine L.pass rfl rfl (by nofun) ?_
                refine L.pass rfl rfl (by nofun) ?_
                refine L.pass rfl rfl (by nofun) ?_
                refine L.y rfl (Y.pickF rfl rfl) ?_
                refine L.y rfl (Y.assign rfl) ?_
                refine L.nil ?_
                refine E.thenN ?_
                refine W.ret ?_
                refine E.KSR ?_
                refine E.ret1 rfl rfl (fun w1 hw => ?_)
                obtain rfl := Option.some.inj h
                exact ⟨_, _, rfl, ⟨rfl, rfl⟩, hw.sel [] (by decide) rfl⟩
              ·
                replace h := iteT h
                refine L.cutJ 9 (fun gs D => ∃ (gb24 : Bool), gs = [(9, .int .i64 x2), (14, .int .i64 x10), (15, st s13), (16, .int .i64 x14), (17, pt b20 0), (18, .int .i64 x18), (19, st s21), (20, .int .i64 x22), (25, pt b29 0), (112, .bool gb24)] ∧ D = Cls w [] [.obj b29 [.slice none 0 0] 127, .obj b20 [v17] 127, .rd v17 2 (x16.Slots.map TSlot.row)] ∧ m13_quirlaw_LeafSays_K21 x10 x2 s13 x14 x16 x18 s21 x22 gb24 = some r) ?_ ?_
                ·
                  refine L.y rfl (Y.move rfl) ?_
                  refine L.take rfl ?_
                  refine L.y rfl (Y.loadPW (i := 2) ag127 sz127 rfl rfl rfl) ?_
                  refine L.take rfl ?_
                  refine L.y rfl (Y.loadPW (i := 0) ag127 sz127 rfl rfl rfl) ?_
                  refine L.take rfl ?_
                  obtain ⟨b99, e100, h⟩ := bind1S h
                  refine L.y rfl (Y.does en89 rfl (fun w' hw => (w89_quirref_SameLeaf x7 (⟨[]⟩ : TLeaf) v8 (.slice none 0 0) w' _ e100 (As.at_ (hw.get (i := 4) rfl)) (At.nil w' _)).mono (fun _ _ h => h.1))) ?_
                  rcases b99 with _ | _
                  ·
                    replace h := iteF h
                    refine L.y rfl (Y.pickT rfl rfl) ?_
                    refine L.y rfl (Y.move rfl) ?_
                    refine L.pass rfl rfl (by nofun) ?_
                    refine L.pass rfl rfl (by nofun) ?_
                    refine L.y rfl (Y.pickF rfl rfl) ?_
                    refine L.nil ?_
                    exact E.joinJ ⟨false, rfl, rfl, h⟩ ⟨rfl, rfl, rfl, rfl, rfl, rfl, rfl, rfl, rfl, rfl, trivial⟩ (fun _ hw => hw.sel [0, 1, 3] (by decide) rfl)
                  ·
                    replace h := iteT h
                    refine L.y rfl (Y.pickT rfl rfl) ?_
                    refine L.y rfl (Y.move rfl) ?_
                    refine L.take rfl ?_
                    refine L.y rfl (Y.move rfl) ?_
                    refine L.take rfl ?_
                    refine L.ite h rfl (Y.eql rfl rfl) (fun c101 h => ?_) (fun c101 h => ?_)
                    ·
                      refine L.y rfl (Y.pickT rfl rfl) ?_
                      refine L.nil ?_
                      exact E.joinJ ⟨true, rfl, rfl, h⟩ ⟨rfl, rfl, rfl, rfl, rfl, rfl, rfl, rfl, rfl, rfl, trivial⟩ (fun _ hw => hw.sel [0, 1, 3] (by decide) rfl)
                    ·
                      refine L.y rfl (Y.pickT rfl rfl) ?_
                      refine L.nil ?_
                      exact E.joinJ ⟨false, rfl, rfl, h⟩ ⟨rfl, rfl, rfl, rfl, rfl, rfl, rfl, rfl, rfl, rfl, trivial⟩ (fun _ hw => hw.sel [0, 1, 3] (by decide) rfl)
                ·
                  rintro _ _ ⟨gb24, rfl, rfl, h⟩
                  rw [m13_quirlaw_LeafSays_K21] at h
                  rcases gb24 with _ | _
                  ·
                    replace h := iteF h
                    refine L.y rfl (Y.move rfl) ?_
                    refine L.pass rfl rfl (by nofun) ?_
                    refine L.pass rfl rfl (by nofun) ?_
                    refine L.pass rfl rfl (by nofun) ?_
                    refine L.y rfl (Y.pickF rfl rfl) ?_
                    refine L.y rfl (Y.move rfl) ?_
                    refine L.pass rfl rfl (by nofun) ?_
                    refine L.pass rfl rfl (by nofun) ?_
                    refine L.y rfl (Y.pickF rfl rfl) ?_
                    refine L.y rfl (Y.move rfl) ?_
                    refine L.pass rfl rfl (by nofun) ?_
                    refine L.pass rfl rfl (by nofun) ?_
                    refine L.pass rfl rfl (by nofun) ?_
                    refine L.y rfl (Y.pickF rfl rfl) ?_
                    refine L.y rfl (Y.move rfl) ?_
                    refine L.pass rfl rfl (by nofun) ?_
                    refine L.pass rfl rfl (by nofun) ?_
                    refine L.pass rfl rfl (by nofun) ?_
                    refine L.y rfl (Y.pickF rfl rfl) ?_
                    refine L.y rfl (Y.move rfl) ?_
                    refine L.pass rfl rfl (by nofun) ?_
                    refine L.pass rfl rfl (by nofun) ?_
                    refine L.pass rfl rfl (by nofun) ?_
                    refine L.y rfl (Y.pickF rfl rfl) ?_
                    refine L.y rfl (Y.move rfl) ?_
                    refine L.pass rfl rfl (by nofun) ?_
                    refine L.pass rfl rfl (by nofun) ?_
                    refine L.y rfl (Y.pickF rfl rfl) ?_
                    refine L.y rfl (Y.move rfl) ?_
                    refine L.pass rfl rfl (by nofun) ?_
                    refine L.pass rfl rfl (by nofun) ?_
                    refine L.pass rfl rfl (by nofun) ?_
                    refine L.y rfl (Y.pickF rfl rfl) ?_
                    refine L.y rfl (Y.assign rfl) ?_
                    refine L.nil ?_
                    refine E.thenN ?_
                    refine W.ret ?_
                    refine E.KSR ?_
                    refine E.ret1 rfl rfl (fun w1 hw => ?_)
                    obtain rfl := Option.some.inj h
                    exact ⟨_, _, rfl, ⟨rfl, rfl⟩, hw.sel [] (by decide) rfl⟩
                  ·
                    replace h := iteT h
                    refine L.cutJ 9 (fun gs D => ∃ (gb25 : Bool), gs = [(9, .int .i64 x2), (16, .int .i64 x14), (17, pt b20 0), (18, .int .i64 x18), (19, st s21), (20, .int .i64 x22), (25, pt b29 0), (121, .bool gb25)] ∧ D = Cls w [] [.obj b29 [.slice none 0 0] 127, .obj b20 [v17] 127, .rd v17 2 (x16.Slots.map TSlot.row)] ∧ m13_quirlaw_LeafSays_K22 x14 x2 x16 x18 s21 x22 gb25 = some r) ?_ ?_
                    ·
                      refine L.y rfl (Y.move rfl) ?_
                      refine L.take rfl ?_
                      refine L.y rfl (Y.move rfl) ?_
                      refine L.take rfl ?_
                      refine L.y rfl (Y.move rfl) ?_
                      refine L.take rfl ?_
                      refine L.ite h rfl (Y.eql rfl rfl) (fun c97 h => ?_) (fun c97 h => ?_)
                      ·
                        refine L.y rfl (Y.pickT rfl rfl) ?_
                        refine L.y rfl (Y.move rfl) ?_
                        refine L.take rfl ?_
                        refine L.y rfl (Y.move rfl) ?_
                        refine L.take rfl ?_
                        refine L.ite h rfl (Y.eqlS rfl rfl) (fun c98 h => ?_) (fun c98 h => ?_)
                        ·
                          refine L.y rfl (Y.pickT rfl rfl) ?_
                          refine L.nil ?_
                          exact E.joinJ ⟨true, rfl, rfl, h⟩ ⟨rfl, rfl, rfl, rfl, rfl, rfl, rfl, rfl, trivial⟩ (fun _ hw => hw)
                        ·
                          refine L.y rfl (Y.pickT rfl rfl) ?_
                          refine L.nil ?_
                          exact E.joinJ ⟨false, rfl, rfl, h⟩ ⟨rfl, rfl, rfl, rfl, rfl, rfl, rfl, rfl, trivial⟩ (fun _ hw => hw)
                      ·
                        refine L.y rfl (Y.pickT rfl rfl) ?_
                        refine L.y rfl (Y.move rfl) ?_
                        refine L.pass rfl rfl (by nofun) ?_
                        refine L.pass rfl rfl (by nofun) ?_
                        refine L.y rfl (Y.pickF rfl rfl) ?_
                        refine L.nil ?_
                        exact E.joinJ ⟨false, rfl, rfl, h⟩ ⟨rfl, rfl, rfl, rfl, rfl, rfl, rfl, rfl, trivial⟩ (fun _ hw => hw)
                    ·
                      rintro _ _ ⟨gb25, rfl, rfl, h⟩
                      rw [m13_quirlaw_LeafSays_K22] at h
                      rcases gb25 with _ | _
                      ·
                        replace h := iteF h
                        refine L.y rfl (Y.move rfl) ?_
                        refine L.pass rfl rfl (by nofun) ?_
                        refine L.pass rfl rfl (by nofun) ?_
                        refine L.pass rfl rfl (by nofun) ?_
                        refine L.y rfl (Y.pickF rfl rfl) ?_
                        refine L.y rfl (Y.move rfl) ?_
                        refine L.pass rfl rfl (by nofun) ?_
                        refine L.pass rfl rfl (by nofun) ?_
                        refine L.pass rfl rfl (by nofun) ?_
                        refine L.y rfl (Y.pickF rfl rfl) ?_
                        refine L.y rfl (Y.move rfl) ?_
                        refine L.pass rfl rfl (by nofun) ?_
                        refine L.pass rfl rfl (by nofun) ?_
                        refine L.pass rfl rfl (by nofun) ?_
                        refine L.y rfl (Y.pickF rfl rfl) ?_
                        refine L.y rfl (Y.move rfl) ?_
                        refine L.pass rfl rfl (by nofun) ?_
                        refine L.pass rfl rfl (by nofun) ?_
                        refine L.y rfl (Y.pickF rfl rfl) ?_
                        refine L.y rfl (Y.move rfl) ?_
                        refine L.pass rfl rfl (by nofun) ?_
                        refine L.pass rfl rfl (by nofun) ?_
                        refine L.pass rfl rfl (by nofun) ?_
                        refine L.y rfl (Y.pickF rfl rfl) ?_
                        refine L.y rfl (Y.assign rfl) ?_
                        refine L.nil ?_
                        refine E.thenN ?_
                        refine W.ret ?_
                        refine E.KSR ?_
                        refine E.ret1 rfl rfl (fun w1 hw => ?_)
                        obtain rfl := Option.some.inj h
                        exact ⟨_, _, rfl, ⟨rfl, rfl⟩, hw.sel [] (by decide) rfl⟩
                      ·
                        replace h := iteT h
                        refine L.cutJ 10 (fun gs D => ∃ (gb26 : Bool), gs = [(9, .int .i64 x2), (18, .int .i64 x18), (19, st s21), (20, .int .i64 x22), (131, .bool gb26)] ∧ D = Cls w [] [] ∧ m13_quirlaw_LeafSays_K23 x18 x2 s21 x22 gb26 = some r) ?_ ?_
                        ·
                          refine L.y rfl (Y.move rfl) ?_
                          refine L.take rfl ?_
                          refine L.y rfl (Y.move rfl) ?_
                          refine L.take rfl ?_
                          refine L.y rfl (Y.move rfl) ?_
                          refine L.take rfl ?_
                          refine L.ite h rfl (Y.eql rfl rfl) (fun c94 h => ?_) (fun c94 h => ?_)
                          ·
                            refine L.y rfl (Y.pickT rfl rfl) ?_
                            refine L.y rfl (Y.move rfl) ?_
                            refine L.take rfl ?_
                            refine L.y rfl (Y.loadPW (i := 1) ag127 sz127 rfl rfl rfl) ?_
                            refine L.take rfl ?_
                            refine L.y rfl (Y.loadPW (i := 0) ag127 sz127 rfl rfl rfl) ?_
                            refine L.take rfl ?_
                            obtain ⟨b95, e96, h⟩ := bind1S h
                            refine L.y rfl (Y.does en89 rfl (fun w' hw => (w89_quirref_SameLeaf x16 (⟨[]⟩ : TLeaf) v17 (.slice none 0 0) w' _ e96 (As.at2 (hw.get (i := 2) rfl)) (At.nil w' _)).mono (fun _ _ h => h.1))) ?_
                            rcases b95 with _ | _
                            ·
                              replace h := iteF h
                              refine L.y rfl (Y.pickT rfl rfl) ?_
                              refine L.nil ?_
                              exact E.joinJ ⟨false, rfl, rfl, h⟩ ⟨rfl, rfl, rfl, rfl, rfl, trivial⟩ (fun _ hw => hw.sel [] (by decide) rfl)
                            ·
                              replace h := iteT h
                              refine L.y rfl (Y.pickT rfl rfl) ?_
                              refine L.nil ?_
                              exact E.joinJ ⟨true, rfl, rfl, h⟩ ⟨rfl, rfl, rfl, rfl, rfl, trivial⟩ (fun _ hw => hw.sel [] (by decide) rfl)
                          ·
                            refine L.y rfl (Y.pickT rfl rfl) ?_
                            refine L.y rfl (Y.move rfl) ?_
                            refine L.pass rfl rfl (by nofun) ?_
                            refine L.pass rfl rfl (by nofun) ?_
                            refine L.pass rfl rfl (by nofun) ?_
                            refine L.y rfl (Y.pickF rfl rfl) ?_
                            refine L.nil ?_
                            exact E.joinJ ⟨false, rfl, rfl, h⟩ ⟨rfl, rfl, rfl, rfl, rfl, trivial⟩ (fun _ hw => hw.sel [] (by decide) rfl)
                        ·
                          rintro _ _ ⟨gb26, rfl, rfl, h⟩
                          rw [m13_quirlaw_LeafSays_K23] at h
                          rcases gb26 with _ | _
                          ·
                            replace h := iteF h
                            refine L.y rfl (Y.move rfl) ?_
                            refine L.pass rfl rfl (by nofun) ?_
                            refine L.pass rfl rfl (by nofun) ?_
                            refine L.pass rfl rfl (by nofun) ?_
                            refine L.y rfl (Y.pickF rfl rfl) ?_
                            refine L.y rfl (Y.move rfl) ?_
                            refine L.pass rfl rfl (by nofun) ?_
                            refine L.pass rfl rfl (by nofun) ?_
                            refine L.y rfl (Y.pickF rfl rfl) ?_
                            refine L.y rfl (Y.move rfl) ?_
                            refine L.pass rfl rfl (by nofun) ?_
                            refine L.pass rfl rfl (by nofun) ?_
                            refine L.pass rfl rfl (by nofun) ?_
                            refine L.y rfl (Y.pickF rfl rfl) ?_
                            refine L.y rfl (Y.assign rfl) ?_
                            refine L.nil ?_
                            refine E.thenN ?_
                            refine W.ret ?_
                            refine E.KSR ?_
                            refine E.ret1 rfl rfl (fun w1 hw => ?_)
                            obtain rfl := Option.some.inj h
                            exact ⟨_, _, rfl, ⟨rfl, rfl⟩, hw⟩
                          ·
                            replace h := iteT h
                            refine L.cutJ 9 (fun gs D => ∃ (gb27 : Bool), gs = [(9, .int .i64 x2), (20, .int .i64 x22), (140, .bool gb27)] ∧ D = Cls w [] [] ∧ m13_quirlaw_LeafSays_K24 x22 x2 gb27 = some r) ?_ ?_
                            ·
                              refine L.y rfl (Y.move rfl) ?_
                              refine L.take rfl ?_
                              refine L.y rfl (Y.move rfl) ?_
                              refine L.take rfl ?_
                              refine L.y rfl (Y.move rfl) ?_
                              refine L.take rfl ?_
                              refine L.ite h rfl (Y.eql rfl rfl) (fun c92 h => ?_) (fun c92 h => ?_)
                              ·
                                refine L.y rfl (Y.pickT rfl rfl) ?_
                                refine L.y rfl (Y.move rfl) ?_
                                refine L.take rfl ?_
                                refine L.y rfl (Y.move rfl) ?_
                                refine L.take rfl ?_
                                refine L.ite h rfl (Y.eqlS rfl rfl) (fun c93 h => ?_) (fun c93 h => ?_)
                                ·
                                  refine L.y rfl (Y.pickT rfl rfl) ?_
                                  refine L.nil ?_
                                  exact E.joinJ ⟨true, rfl, rfl, h⟩ ⟨rfl, rfl, rfl, trivial⟩ (fun _ hw => hw)
                                ·
                                  refine L.y rfl (Y.pickT rfl rfl) ?_
                                  refine L.nil ?_
                                  exact E.joinJ ⟨false, rfl, rfl, h⟩ ⟨rfl, rfl, rfl, trivial⟩ (fun _ hw => hw)
                              ·
                                refine L.y rfl (Y.pickT rfl rfl) ?_
                                refine L.y rfl (Y.move rfl) ?_
                                refine L.pass rfl rfl (by nofun) ?_
                                refine L.pass rfl rfl (by nofun) ?_
                                refine L.y rfl (Y.pickF rfl rfl) ?_
                                refine L.nil ?_
                                exact E.joinJ ⟨false, rfl, rfl, h⟩ ⟨rfl, rfl, rfl, trivial⟩ (fun _ hw => hw)
                            ·
                              rintro _ _ ⟨gb27, rfl, rfl, h⟩
                              rw [m13_quirlaw_LeafSays_K24] at h
                              rcases gb27 with _ | _
                              ·
                                replace h := iteF h
                                refine L.y rfl (Y.move rfl) ?_
                                refine L.pass rfl rfl (by nofun) ?_
                                refine L.pass rfl rfl (by nofun) ?_
                                refine L.pass rfl rfl (by nofun) ?_
                                refine L.y rfl (Y.pickF rfl rfl) ?_
                                refine L.y rfl (Y.assign rfl) ?_
                                refine L.nil ?_
                                refine E.thenN ?_
                                refine W.ret ?_
                                refine E.KSR ?_
                                refine E.ret1 rfl rfl (fun w1 hw => ?_)
                                obtain rfl := Option.some.inj h
                                exact ⟨_, _, rfl, ⟨rfl, rfl⟩, hw⟩
                              ·
                                replace h := iteT h
                                refine L.y rfl (Y.move rfl) ?_
                                refine L.take rfl ?_
                                refine L.y rfl (Y.move rfl) ?_
                                refine L.take rfl ?_
                                refine L.y rfl (Y.move rfl) ?_
                                refine L.take rfl ?_
                                refine L.y rfl (Y.eql rfl rfl) ?_
                                refine L.y rfl (Y.pickT rfl rfl) ?_
                                refine L.y rfl (Y.assign rfl) ?_
                                refine L.nil ?_
                                refine E.thenN ?_
                                refine W.ret ?_
                                refine E.KSR ?_
                                refine E.ret1 rfl rfl (fun w1 hw => ?_)
                                obtain rfl := Option.some.inj h
                                exact ⟨_, _, rfl, ⟨rfl, rfl⟩, hw⟩
          ·
            refine L.nil ?_
            refine E.thenN ?_
            refine W.condF rfl ?_
            refine W.skip ?_
            exact E.joinJ ⟨rfl, rfl, h⟩ ⟨rfl, rfl, rfl, rfl, rfl, rfl, rfl, rfl, rfl, rfl, rfl, rfl, rfl, rfl, rfl, trivial⟩ (fun _ hw => hw)
        ·
          rintro _ _ ⟨rfl, rfl, h⟩
          rw [m13_quirlaw_LeafSays_K3] at h
          refine W.seqJ (fun gs D => gs = [(1, st a1), (2, .int .i64 a2), (4, pt b1 0), (12, pt b12 0), (13, .int .i64 x9), (14, .int .i64 x10), (15, st s13), (16, .int .i64 x14), (17, pt b20 0), (18, .int .i64 x18), (25, pt b29 0)] ∧ D = Cls w [] [.obj b29 [.slice none 0 0] 127, .obj b20 [v17] 127, .obj b12 [v8] 127, .obj b1 [u0_0] 127, .rd v17 2 (x16.Slots.map TSlot.row), .sl v8 143 2 (x7.Slots.map TSlot.row)] ∧ m13_quirlaw_LeafSays_K4 a0 a1 x7 x9 x10 a2 s13 x14 x16 x18 = some r) ?_ ?_
          ·
            refine W.seq ?_
            refine W.region ?_
            refine L.cutJ 10 (fun gs D => ∃ (gb22 : Bool), gs = [(1, st a1), (2, .int .i64 a2), (4, pt b1 0), (12, pt b12 0), (13, .int .i64 x9), (14, .int .i64 x10), (15, st s13), (16, .int .i64 x14), (17, pt b20 0), (18, .int .i64 x18), (19, st s21), (20, .int .i64 x22), (25, pt b29 0), (155, .bool gb22)] ∧ D = Cls w [] [.obj b29 [.slice none 0 0] 127, .obj b20 [v17] 127, .obj b12 [v8] 127, .obj b1 [u0_0] 127, .rd v17 2 (x16.Slots.map TSlot.row), .sl v8 143 2 (x7.Slots.map TSlot.row)] ∧ m13_quirlaw_LeafSays_K19 a0 s21 x22 a1 x7 x9 x10 a2 s13 x14 x16 x18 gb22 = some r) ?_ ?_
            ·
              refine L.y rfl (Y.move rfl) ?_
              refine L.y rfl (Y.loadPW (i := 3) ag127 sz127 rfl rfl rfl) ?_
              obtain ⟨s86, e87, h⟩ := bind1S h
              refine L.y rfl (Y.does en91 rfl (fun w' hw => (w91_quirref_LeafText a0 u0_0 w' _ e87 (hA0_0.cls0 hw)).mono (fun _ _ h => h.1))) ?_
              refine L.y rfl (Y.lenS Try.underlying9 rfl) ?_
              refine L.m (V := fun x88 => .int .i64 x88) h rfl (Y.subM rfl rfl) (fun x88 ex88 h => ?_)
              refine L.ite h rfl (Y.neq rfl rfl) (fun c89 h => ?_) (fun c89 h => ?_)
              ·
                refine L.y rfl (Y.move rfl) ?_
                refine L.pass rfl rfl (by nofun) ?_
                refine L.pass rfl rfl (by nofun) ?_
                refine L.y rfl (Y.pickT rfl rfl) ?_
                refine L.nil ?_
                exact E.joinJ ⟨true, rfl, rfl, h⟩ ⟨rfl, rfl, rfl, rfl, rfl, rfl, rfl, rfl, rfl, rfl, rfl, rfl, rfl, rfl, trivial⟩ (fun _ hw => hw)
              ·
                refine L.y rfl (Y.move rfl) ?_
                refine L.take rfl ?_
                refine L.y rfl (Y.move rfl) ?_
                refine L.take rfl ?_
                refine L.ite h rfl (Y.neq rfl rfl) (fun c90 h => ?_) (fun c90 h => ?_)
                ·
                  refine L.y rfl (Y.pickF rfl rfl) ?_
                  refine L.nil ?_
                  exact E.joinJ ⟨true, rfl, rfl, h⟩ ⟨rfl, rfl, rfl, rfl, rfl, rfl, rfl, rfl, rfl, rfl, rfl, rfl, rfl, rfl, trivial⟩ (fun _ hw => hw)
                ·
                  refine L.y rfl (Y.pickF rfl rfl) ?_
                  refine L.nil ?_
                  exact E.joinJ ⟨false, rfl, rfl, h⟩ ⟨rfl, rfl, rfl, rfl, rfl, rfl, rfl, rfl, rfl, rfl, rfl, rfl, rfl, rfl, trivial⟩ (fun _ hw => hw)
            ·
              rintro _ _ ⟨gb22, rfl, rfl, h⟩
              rw [m13_quirlaw_LeafSays_K19] at h
              rcases gb22 with _ | _
              ·
                replace h := iteF h
                refine L.y rfl (Y.move rfl) ?_
                refine L.take rfl ?_
                refine L.y rfl (Y.move rfl) ?_
                refine L.take rfl ?_
                refine L.y rfl (Y.loadPW (i := 3) ag127 sz127 rfl rfl rfl) ?_
                refine L.take rfl ?_
                obtain ⟨s82, e83, h⟩ := bind1S h
                refine L.y rfl (Y.does en91 rfl (fun w' hw => (w91_quirref_LeafText a0 u0_0 w' _ e83 (hA0_0.cls0 hw)).mono (fun _ _ h => h.1))) ?_
                refine L.take rfl ?_
                refine L.ite h rfl (Y.neqS rfl rfl) (fun c84 h => ?_) (fun c84 h => ?_)
                ·
                  refine L.y rfl (Y.pickF rfl rfl) ?_
                  refine L.y rfl (Y.move rfl) ?_
                  refine L.pass rfl rfl (by nofun) ?_
                  refine L.pass rfl rfl (by nofun) ?_
                  refine L.y rfl (Y.pickT rfl rfl) ?_
                  refine L.nil ?_
                  refine E.thenN ?_
                  refine W.condT rfl ?_
                  refine W.seq ?_
                  refine W.region ?_
                  refine L.y rfl (Y.assign rfl) ?_
                  refine L.nil ?_
                  refine E.thenN ?_
                  refine W.ret ?_
                  refine E.KSR ?_
                  refine E.ret1 rfl rfl (fun w1 hw => ?_)
                  obtain rfl := Option.some.inj h
                  exact ⟨_, _, rfl, ⟨rfl, rfl⟩, hw.sel [] (by decide) rfl⟩
                ·
                  refine L.y rfl (Y.pickF rfl rfl) ?_
                  refine L.y rfl (Y.move rfl) ?_
                  refine L.take rfl ?_
                  refine L.y rfl (Y.move rfl) ?_
                  refine L.take rfl ?_
                  refine L.ite h rfl (Y.neq rfl rfl) (fun c85 h => ?_) (fun c85 h => ?_)
                  ·
                    refine L.y rfl (Y.pickF rfl rfl) ?_
                    refine L.nil ?_
                    refine E.thenN ?_
                    refine W.condT rfl ?_
                    refine W.seq ?_
                    refine W.region ?_
                    refine L.y rfl (Y.assign rfl) ?_
                    refine L.nil ?_
                    refine E.thenN ?_
                    refine W.ret ?_
                    refine E.KSR ?_
                    refine E.ret1 rfl rfl (fun w1 hw => ?_)
                    obtain rfl := Option.some.inj h
                    exact ⟨_, _, rfl, ⟨rfl, rfl⟩, hw.sel [] (by decide) rfl⟩
                  ·
                    refine L.y rfl (Y.pickF rfl rfl) ?_
                    refine L.nil ?_
                    refine E.thenN ?_
                    refine W.condF rfl ?_
                    refine W.skip ?_
                    exact E.joinJ ⟨rfl, rfl, h⟩ ⟨rfl, rfl, rfl, rfl, rfl, rfl, rfl, rfl, rfl, rfl, rfl, trivial⟩ (fun _ hw => hw)
              ·
                replace h := iteT h
                refine L.y rfl (Y.move rfl) ?_
                refine L.pass rfl rfl (by nofun) ?_
                refine L.pass rfl rfl (by nofun) ?_
                refine L.pass rfl rfl (by nofun) ?_
                refine L.pass rfl rfl (by nofun) ?_
                refine L.y rfl (Y.pickT rfl rfl) ?_
                refine L.y rfl (Y.move rfl) ?_
                refine L.pass rfl rfl (by nofun) ?_
                refine L.pass rfl rfl (by nofun) ?_
                refine L.y rfl (Y.pickT rfl rfl) ?_
                refine L.nil ?_
                refine E.thenN ?_
                refine W.condT rfl ?_
                refine W.seq ?_
                refine W.region ?_
                refine L.y rfl (Y.assign rfl) ?_
                refine L.nil ?_
                refine E.thenN ?_
                refine W.ret ?_
                refine E.KSR ?_
                refine E.ret1 rfl rfl (fun w1 hw => ?_)
                obtain rfl := Option.some.inj h
                exact ⟨_, _, rfl, ⟨rfl, rfl⟩, hw.sel [] (by decide) rfl⟩
          ·
            rintro _ _ ⟨rfl, rfl, h⟩
            rw [m13_quirlaw_LeafSays_K4] at h
            refine W.seq ?_
            refine W.region ?_
            refine L.y rfl (Y.fieldP fd127_0 rfl) ?_
            refine L.y rfl (Y.loadP (i := 3) ag125 rfl rfl rfl) ?_
            refine L.callJ (fun v D => ∃ (gx5 : Int), v = .int .i64 gx5 ∧ D = Cls w [] [.obj b29 [.slice none 0 0] 127, .obj b20 [v17] 127, .obj b12 [v8] 127, .obj b1 [u0_0] 127, .rd v17 2 (x16.Slots.map TSlot.row), .sl v8 143 2 (x7.Slots.map TSlot.row)] ∧ m13_quirlaw_LeafSays_K5 a0 a1 x7 x9 x10 a2 s13 x14 x16 x18 gx5 = some r) rfl en92 rfl Try.func92 rfl rfl rfl ?_ ?_
            ·
              refine W.seq ?_
              refine W.region ?_
              refine L.y rfl (Y.assign rfl) ?_
              refine L.nil ?_
              refine E.thenN ?_
              refine W.seqJ (fun gs D => gs = [] ∧ D = Cls w [] [.obj b29 [.slice none 0 0] 127, .obj b20 [v17] 127, .obj b12 [v8] 127, .obj b1 [u0_0] 127, .rd v17 2 (x16.Slots.map TSlot.row), .sl v8 143 2 (x7.Slots.map TSlot.row)] ∧ m13_quirlaw_LeafSays_K17 a0 a1 x7 x9 x10 a2 s13 x14 x16 x18 = some r) ?_ ?_
              ·
                refine W.seq ?_
                refine W.region ?_
                refine L.y rfl (Y.move rfl) ?_
                refine L.y rfl (Y.lenM (g := TSlot.row) (l := a0.Slots) Try.underlying125 rfl (fun w' hw => hA0_0.cls0 hw)) ?_
                refine L.y rfl (Y.move rfl) ?_
                refine L.nil ?_
                refine E.thenN ?_
                refine W.block ?_
                refine W.loopJ (fun m gs D => ∃ (gx21 : Int), gs = [(0, u0_0), (1, .func (.func 93) #[] #[]), (7, .int .i64 (a0.Slots.length : Int)), (8, .int .i64 gx21)] ∧ D = Cls w [] [.obj b29 [.slice none 0 0] 127, .obj b20 [v17] 127, .obj b12 [v8] 127, .obj b1 [u0_0] 127, .rd v17 2 (x16.Slots.map TSlot.row), .sl v8 143 2 (x7.Slots.map TSlot.row)] ∧ m13_quirlaw_LeafSays_L2 a0 a1 x7 x9 x10 a2 s13 x14 x16 x18 m gx21 = some r) ⟨0, rfl, rfl, h⟩ ⟨rfl, rfl, rfl, rfl, trivial⟩ (fun _ hw => hw) ?_
                rintro m _ _ ⟨gx21, rfl, rfl, h⟩
                rcases m with _ | m
                · rw [m13_quirlaw_LeafSays_L2] at h; cases h
                rw [m13_quirlaw_LeafSays_L2] at h
                generalize hg2 : m13_quirlaw_LeafSays_L2 a0 a1 x7 x9 x10 a2 s13 x14 x16 x18 m = go2 at h
                rw [m13_quirlaw_LeafSays_L2B] at h
                refine W.seq ?_
                refine W.region ?_
                refine L.ite h rfl (Y.lss rfl rfl) (fun c78 h => ?_) (fun c78 h => ?_)
                ·
                  refine L.nil ?_
                  refine E.thenN ?_
                  refine W.seq ?_
                  refine W.condT rfl ?_
                  refine W.skip ?_
                  refine E.thenN ?_
                  refine W.seq ?_
                  refine W.block ?_
                  refine W.seq ?_
                  refine W.region ?_
                  refine L.y rfl (Y.move rfl) ?_
                  refine L.y rfl (Y.assign rfl) ?_
                  refine L.nil ?_
                  refine E.thenN ?_
                  refine W.seq ?_
                  refine W.region ?_
                  refine L.y rfl (Y.move rfl) ?_
                  refine L.y rfl (Y.move rfl) ?_
                  refine L.y rfl (Y.move rfl) ?_
                  refine L.m (V := fun _ => el u0_0 (gx21.toNat * 2)) h rfl (Y.indexM (g := TSlot.row) (l := a0.Slots) Try.underlying125 sz143 rfl rfl (fun w' hw => hA0_0.cls0 hw)) (fun x79 ex79 h => ?_)
                  refine L.y rfl (Y.loadEN (r := [.bool x79.Used, st x79.Text]) ag143 sz143 rfl (fun w' hw => hA0_0.cls0 hw) (idx_map ex79) rfl) ?_
                  refine L.callVJ (fun v D => v = .bool (!x79.Used) ∧ D = Cls w [] [.obj b29 [.slice none 0 0] 127, .obj b20 [v17] 127, .obj b12 [v8] 127, .obj b1 [u0_0] 127, .rd v17 2 (x16.Slots.map TSlot.row), .sl v8 143 2 (x7.Slots.map TSlot.row)] ∧ m13_quirlaw_LeafSays_K18 x79 a0 a1 x7 x9 x10 a2 s13 x14 x16 x18 gx21 go2 = some r) rfl en93 rfl rfl Try.func93 rfl rfl rfl ?_ ?_
                  ·
                    refine W.seq ?_
                    refine W.region ?_
                    refine L.box rfl rfl ?_
                    intro b81
                    refine L.y rfl (Y.assign rfl) ?_
                    refine L.nil ?_
                    refine E.thenN ?_
                    refine W.seq ?_
                    refine W.region ?_
                    refine L.y rfl (Y.fieldP fd143_0 rfl) ?_
                    refine L.y rfl (Y.loadP (i := 0) ag4 rfl rfl rfl) ?_
                    refine L.y rfl (Y.not rfl) ?_
                    refine L.y rfl (Y.assign rfl) ?_
                    refine L.nil ?_
                    refine E.thenN ?_
                    refine W.ret ?_
                    refine E.ret1 rfl rfl (fun w1 hw => ?_)
                    exact ⟨_, _, rfl, ⟨rfl, rfl, h⟩, hw.sel [1, 2, 3, 4, 5, 6] (by decide) rfl⟩
                  ·
                    rintro _ _ ⟨rfl, rfl, h⟩
                    rw [m13_quirlaw_LeafSays_K18] at h
                    refine L.nil ?_
                    refine E.thenN ?_
                    refine W.caseB (q := 16) h rfl (fun h => ?_) (fun h => ?_)
                    ·
                      refine W.condT rfl ?_
                      refine W.seq ?_
                      refine W.region ?_
                      refine L.y rfl (Y.move rfl) ?_
                      refine L.y rfl (Y.assign rfl) ?_
                      refine L.nil ?_
                      refine E.thenN ?_
                      refine W.ret ?_
                      refine E.blockR ?_
                      refine E.thenR ?_
                      refine E.KLR ?_
                      refine E.blockR ?_
                      refine E.KSR ?_
                      refine E.ret1 rfl rfl (fun w1 hw => ?_)
                      exact ⟨_, _, rfl, ⟨gx21, rfl, rfl, h⟩, hw⟩
                    ·
                      refine W.condF rfl ?_
                      refine W.skip ?_
                      refine E.blockN ?_
                      refine E.thenN ?_
                      refine W.region ?_
                      refine L.m (V := fun x80 => .int .i64 x80) h rfl (Y.addM rfl rfl) (fun x80 ex80 h => ?_)
                      refine L.y rfl (Y.move rfl) ?_
                      refine L.nil ?_
                      exact E.againJ ⟨x80, rfl, rfl, by rw [hg2]; exact h⟩ (Nat.lt_succ_self _) ⟨rfl, rfl, rfl, rfl, trivial⟩ (fun _ hw => hw)
                ·
                  refine L.nil ?_
                  refine E.thenN ?_
                  refine W.seq ?_
                  refine W.condF rfl ?_
                  refine W.exit ?_
                  refine E.thenX ?_
                  refine E.KLX ?_
                  refine E.blockX ?_
                  exact E.joinJ ⟨rfl, rfl, h⟩ trivial (fun _ hw => hw)
              ·
                rintro _ _ ⟨rfl, rfl, h⟩
                rw [m13_quirlaw_LeafSays_K17] at h
                refine W.seq ?_
                refine W.region ?_
                refine L.y rfl (Y.assign rfl) ?_
                refine L.nil ?_
                refine E.thenN ?_
                refine W.ret ?_
                refine E.ret1 rfl rfl (fun w1 hw => ?_)
                exact ⟨_, _, rfl, ⟨(-1), rfl, rfl, h⟩, hw⟩
            ·
              rintro _ _ ⟨gx5, rfl, rfl, h⟩
              rw [m13_quirlaw_LeafSays_K5] at h
              refine L.y rfl (Y.assign rfl) ?_
              refine L.nil ?_
              refine E.thenN ?_
              refine W.seq ?_
              refine W.region ?_
              refine L.y rfl (Y.fieldP fd127_0 rfl) ?_
              refine L.y rfl (Y.loadP (i := 3) ag125 rfl rfl rfl) ?_
              obtain ⟨l30, e32, h⟩ := bind1S h
              refine L.does rfl en94 rfl (fun w' hw => w94_api_Slot a0.Slots u0_0 w' _ e32 (hA0_0.cls0 hw)) ?_
              rintro v31 _ ⟨_, rfl, rfl⟩
              refine L.y rfl (Y.buildC (cells := #[v31]) rfl (fun w hw => by rcases ((As.at_ (hw.get (i := 0) rfl))).shape with ⟨h0, _⟩ | ⟨_, _, h0, _, _⟩ <;> simp only [h0] <;> kernel_rfl)) ?_
              refine L.alloc rfl ze127 ?_
              intro b33
              refine L.storeC (i := 0) sz127 rfl rfl rfl rfl (fun w hw => (all1 (As.at_ (hw.get (i := 1) rfl)).one all0)) rfl (Nat.le_of_ble_eq_true rfl) ?_
              refine L.nil ?_
              refine E.thenN ?_
              refine W.seqJ (fun gs D => ∃ (gx6 : Int) (gv7 : Value) (gl8 : (List TSlot)), gs = [(1, st a1), (2, .int .i64 a2), (4, pt b1 0), (12, pt b12 0), (13, .int .i64 x9), (14, .int .i64 x10), (15, st s13), (16, .int .i64 x14), (17, pt b20 0), (18, .int .i64 x18), (25, pt b29 0), (26, .int .i64 gx6), (27, pt b33 0)] ∧ D = Cls w [] [.obj b33 [gv7] 127, .obj b29 [.slice none 0 0] 127, .obj b20 [v17] 127, .obj b12 [v8] 127, .obj b1 [u0_0] 127, .sl gv7 143 2 (gl8.map TSlot.row), .rd v17 2 (x16.Slots.map TSlot.row), .sl v8 143 2 (x7.Slots.map TSlot.row)] ∧ m13_quirlaw_LeafSays_K6 a1 x7 x9 x10 a2 s13 x14 x16 x18 a0 gx6 gl8 = some r) ?_ ?_
              ·
                refine W.seq ?_
                refine W.region ?_
                refine L.y rfl (Y.move rfl) ?_
                refine L.ite h rfl (Y.lss rfl rfl) (fun c74 h => ?_) (fun c74 h => ?_)
                ·
                  refine L.nil ?_
                  refine E.thenN ?_
                  refine W.condT rfl ?_
                  refine W.seq ?_
                  refine W.region ?_
                  refine L.y rfl (Y.fieldP fd127_0 rfl) ?_
                  refine L.y rfl (Y.loadP (i := 5) ag125 rfl rfl rfl) ?_
                  refine L.y rfl (Y.lenM (g := TSlot.row) (l := a0.Slots) Try.underlying125 rfl (fun w' hw => hA0_0.cls0 hw)) ?_
                  refine L.y rfl (Y.assign rfl) ?_
                  refine L.nil ?_
                  refine E.thenN ?_
                  refine W.region ?_
                  refine L.y rfl (Y.fieldP fd127_0 rfl) ?_
                  refine L.y rfl (Y.loadP (i := 0) ag125 rfl rfl rfl) ?_
                  refine L.y rfl (Y.build (cells := #[.bool false, st []]) rfl (by kernel_rfl)) ?_
                  refine L.litAgg rfl Try.underlying125 el143 rfl rfl rfl ?_
                  intro b75
                  refine L.appM (i := 2) (g := TSlot.row) (l := l30) (more := [(⟨false, []⟩ : TSlot)]) h rfl Try.underlying125 el143 rfl rfl rfl (fun w hw => As.at_ (hw.get (i := 0) rfl)) (plain_TSlot _) rfl ?_
                  intro v76 l77 el77 h
                  refine L.y rfl (Y.fieldP fd127_0 rfl) ?_
                  refine L.storeV (i := 2) sz125 rfl rfl (fun _ hw => (As.at_ (hw.get (i := 0) rfl)).one) rfl (Nat.le_of_ble_eq_true rfl) ?_
                  refine L.nil ?_
                  exact E.joinJ ⟨(a0.Slots.length : Int), v76, l77, rfl, rfl, h⟩ ⟨rfl, rfl, rfl, rfl, rfl, rfl, rfl, rfl, rfl, rfl, rfl, rfl, rfl, trivial⟩ (fun _ hw => hw.sel [2, 3, 4, 5, 6, 0, 7, 8] (by decide) rfl)
                ·
                  refine L.nil ?_
                  refine E.thenN ?_
                  refine W.condF rfl ?_
                  refine W.skip ?_
                  exact E.joinJ ⟨gx5, v31, l30, rfl, rfl, h⟩ ⟨rfl, rfl, rfl, rfl, rfl, rfl, rfl, rfl, rfl, rfl, rfl, rfl, rfl, trivial⟩ (fun _ hw => hw.sel [0, 2, 3, 4, 5, 1, 6, 7] (by decide) rfl)
              ·
                rintro _ _ ⟨gx6, gv7, gl8, rfl, rfl, h⟩
                rw [m13_quirlaw_LeafSays_K6] at h
                refine W.seq ?_
                refine W.region ?_
                refine L.y rfl (Y.fieldP fd127_0 rfl) ?_
                refine L.y rfl (Y.loadP (i := 0) ag125 rfl rfl rfl) ?_
                refine L.y rfl (Y.move rfl) ?_
                refine L.y rfl (Y.move rfl) ?_
                refine L.y rfl (Y.build (cells := #[.bool true, st a1]) rfl (by kernel_rfl)) ?_
                refine L.m (V := fun _ => el gv7 (gx6.toNat * 2)) h rfl (Y.indexM (g := TSlot.row) (l := gl8) Try.underlying125 sz143 rfl rfl (fun w hw => As.at_ (hw.get (i := 5) rfl))) (fun x34 ex34 h => ?_)
                refine L.storeSlM (q := 5) (row := TSlot.row) (vs := [.bool true, st a1]) (j := 0) (u1 := (⟨true, a1⟩ : TSlot)) h sz143 rfl rfl rfl rfl rfl (all1 rfl (all1 rfl all0)) rfl ex34 rfl rfl ?_
                intro l35 el35 h
                refine L.nil ?_
                refine E.thenN ?_
                refine W.seqJ (fun gs D => gs = [(2, .int .i64 a2), (4, pt b1 0), (15, st s13), (16, .int .i64 x14), (17, pt b20 0), (18, .int .i64 x18), (25, pt b29 0), (27, pt b33 0)] ∧ D = Cls w [] [.obj b33 [gv7] 127, .obj b29 [.slice none 0 0] 127, .obj b20 [v17] 127, .obj b1 [u0_0] 127, .sl gv7 143 2 (l35.map TSlot.row), .rd v17 2 (x16.Slots.map TSlot.row)] ∧ m13_quirlaw_LeafSays_K7 a2 s13 x14 x16 x18 a0 = some r) ?_ ?_
                ·
                  refine W.seqJ (fun gs D => ∃ (gb18 : Bool), gs = [(2, .int .i64 a2), (4, pt b1 0), (12, pt b12 0), (13, .int .i64 x9), (14, .int .i64 x10), (15, st s13), (16, .int .i64 x14), (17, pt b20 0), (18, .int .i64 x18), (25, pt b29 0), (26, .int .i64 gx6), (27, pt b33 0), (197, .bool gb18)] ∧ D = Cls w [] [.obj b33 [gv7] 127, .obj b29 [.slice none 0 0] 127, .obj b20 [v17] 127, .obj b12 [v8] 127, .obj b1 [u0_0] 127, .sl gv7 143 2 (l35.map TSlot.row), .rd v17 2 (x16.Slots.map TSlot.row), .sl v8 143 2 (x7.Slots.map TSlot.row)] ∧ m13_quirlaw_LeafSays_K14 x7 x9 x10 a2 s13 x14 x16 x18 a0 l35 gx6 gb18 = some r) ?_ ?_
                  ·
                    refine W.region ?_
                    refine L.y rfl (Y.move rfl) ?_
                    refine L.y rfl (Y.lenS Try.underlying9 rfl) ?_
                    refine L.ite h rfl (Y.gtr rfl rfl) (fun c70 h => ?_) (fun c70 h => ?_)
                    ·
                      refine L.y rfl (Y.move rfl) ?_
                      refine L.pass rfl rfl (by nofun) ?_
                      refine L.pass rfl rfl (by nofun) ?_
                      refine L.pass rfl rfl (by nofun) ?_
                      refine L.y rfl (Y.pickT rfl rfl) ?_
                      refine L.nil ?_
                      exact E.joinJ ⟨true, rfl, rfl, h⟩ ⟨rfl, rfl, rfl, rfl, rfl, rfl, rfl, rfl, rfl, rfl, rfl, rfl, rfl, trivial⟩ (fun _ hw => hw)
                    ·
                      refine L.y rfl (Y.move rfl) ?_
                      refine L.take rfl ?_
                      refine L.y rfl (Y.loadPW (i := 0) ag127 sz127 rfl rfl rfl) ?_
                      refine L.take rfl ?_
                      obtain ⟨x71, e72, h⟩ := bind1S h
                      refine L.y rfl (Y.does en81 rfl (fun w' hw => (w81_quirref_LeafErr (⟨l35⟩ : TLeaf) gv7 w' _ e72 (As.at_ (hw.get (i := 5) rfl))).mono (fun _ _ h => h.1))) ?_
                      refine L.take rfl ?_
                      refine L.ite h rfl (Y.neq rfl rfl) (fun c73 h => ?_) (fun c73 h => ?_)
                      ·
                        refine L.y rfl (Y.pickF rfl rfl) ?_
                        refine L.nil ?_
                        exact E.joinJ ⟨true, rfl, rfl, h⟩ ⟨rfl, rfl, rfl, rfl, rfl, rfl, rfl, rfl, rfl, rfl, rfl, rfl, rfl, trivial⟩ (fun _ hw => hw)
                      ·
                        refine L.y rfl (Y.pickF rfl rfl) ?_
                        refine L.nil ?_
                        exact E.joinJ ⟨false, rfl, rfl, h⟩ ⟨rfl, rfl, rfl, rfl, rfl, rfl, rfl, rfl, rfl, rfl, rfl, rfl, rfl, trivial⟩ (fun _ hw => hw)
                  ·
                    rintro _ _ ⟨gb18, rfl, rfl, h⟩
                    rw [m13_quirlaw_LeafSays_K14] at h
                    rcases gb18 with _ | _
                    ·
                      replace h := iteF h
                      refine W.condF rfl ?_
                      refine W.seq ?_
                      refine W.region ?_
                      refine L.cutJ 9 (fun gs D => ∃ (gb19 : Bool), gs = [(2, .int .i64 a2), (4, pt b1 0), (14, .int .i64 x10), (15, st s13), (16, .int .i64 x14), (17, pt b20 0), (18, .int .i64 x18), (25, pt b29 0), (27, pt b33 0), (218, .bool gb19)] ∧ D = Cls w [] [.obj b33 [gv7] 127, .obj b29 [.slice none 0 0] 127, .obj b20 [v17] 127, .obj b1 [u0_0] 127, .sl gv7 143 2 (l35.map TSlot.row), .rd v17 2 (x16.Slots.map TSlot.row)] ∧ m13_quirlaw_LeafSays_K15 x10 a2 s13 x14 x16 x18 a0 gb19 = some r) ?_ ?_
                      ·
                        refine L.y rfl (Y.loadPW (i := 3) ag127 sz127 rfl rfl rfl) ?_
                        refine L.y rfl (Y.loadPW (i := 0) ag127 sz127 rfl rfl rfl) ?_
                        obtain ⟨b63, e64, h⟩ := bind1S h
                        refine L.y rfl (Y.does en89 rfl (fun w' hw => (w89_quirref_SameLeaf x7 (⟨l35⟩ : TLeaf) v8 gv7 w' _ e64 (As.at_ (hw.get (i := 7) rfl)) (As.at_ (hw.get (i := 5) rfl))).mono (fun _ _ h => h.1))) ?_
                        rcases b63 with _ | _
                        ·
                          replace h := iteF h
                          refine L.y rfl (Y.not rfl) ?_
                          refine L.y rfl (Y.move rfl) ?_
                          refine L.pass rfl rfl (by nofun) ?_
                          refine L.pass rfl rfl (by nofun) ?_
                          refine L.pass rfl rfl (by nofun) ?_
                          refine L.y rfl (Y.pickT rfl rfl) ?_
                          refine L.nil ?_
                          exact E.joinJ ⟨true, rfl, rfl, h⟩ ⟨rfl, rfl, rfl, rfl, rfl, rfl, rfl, rfl, rfl, rfl, trivial⟩ (fun _ hw => hw.sel [0, 1, 2, 4, 5, 6] (by decide) rfl)
                        ·
                          replace h := iteT h
                          refine L.y rfl (Y.not rfl) ?_
                          refine L.y rfl (Y.move rfl) ?_
                          refine L.take rfl ?_
                          refine L.y rfl (Y.move rfl) ?_
                          refine L.take rfl ?_
                          refine L.y rfl (Y.move rfl) ?_
                          refine L.take rfl ?_
                          refine L.ite h rfl (Y.neq rfl rfl) (fun c65 h => ?_) (fun c65 h => ?_)
                          ·
                            refine L.y rfl (Y.pickF rfl rfl) ?_
                            refine L.nil ?_
                            exact E.joinJ ⟨true, rfl, rfl, h⟩ ⟨rfl, rfl, rfl, rfl, rfl, rfl, rfl, rfl, rfl, rfl, trivial⟩ (fun _ hw => hw.sel [0, 1, 2, 4, 5, 6] (by decide) rfl)
                          ·
                            refine L.y rfl (Y.pickF rfl rfl) ?_
                            refine L.nil ?_
                            exact E.joinJ ⟨false, rfl, rfl, h⟩ ⟨rfl, rfl, rfl, rfl, rfl, rfl, rfl, rfl, rfl, rfl, trivial⟩ (fun _ hw => hw.sel [0, 1, 2, 4, 5, 6] (by decide) rfl)
                      ·
                        rintro _ _ ⟨gb19, rfl, rfl, h⟩
                        rw [m13_quirlaw_LeafSays_K15] at h
                        rcases gb19 with _ | _
                        ·
                          replace h := iteF h
                          refine L.y rfl (Y.move rfl) ?_
                          refine L.take rfl ?_
                          refine L.y rfl (Y.move rfl) ?_
                          refine L.take rfl ?_
                          refine L.ite h rfl (Y.neq rfl rfl) (fun c62 h => ?_) (fun c62 h => ?_)
                          ·
                            refine L.y rfl (Y.pickF rfl rfl) ?_
                            refine L.nil ?_
                            refine E.thenN ?_
                            refine W.condT rfl ?_
                            refine W.seq ?_
                            refine W.region ?_
                            refine L.y rfl (Y.assign rfl) ?_
                            refine L.nil ?_
                            refine E.thenN ?_
                            refine W.ret ?_
                            refine E.KSR ?_
                            refine E.ret1 rfl rfl (fun w1 hw => ?_)
                            obtain rfl := Option.some.inj h
                            exact ⟨_, _, rfl, ⟨rfl, rfl⟩, hw.sel [] (by decide) rfl⟩
                          ·
                            refine L.y rfl (Y.pickF rfl rfl) ?_
                            refine L.nil ?_
                            refine E.thenN ?_
                            refine W.condF rfl ?_
                            refine W.skip ?_
                            exact E.joinJ ⟨rfl, rfl, h⟩ ⟨rfl, rfl, rfl, rfl, rfl, rfl, rfl, rfl, trivial⟩ (fun _ hw => hw)
                        ·
                          replace h := iteT h
                          refine L.y rfl (Y.move rfl) ?_
                          refine L.pass rfl rfl (by nofun) ?_
                          refine L.pass rfl rfl (by nofun) ?_
                          refine L.y rfl (Y.pickT rfl rfl) ?_
                          refine L.nil ?_
                          refine E.thenN ?_
                          refine W.condT rfl ?_
                          refine W.seq ?_
                          refine W.region ?_
                          refine L.y rfl (Y.assign rfl) ?_
                          refine L.nil ?_
                          refine E.thenN ?_
                          refine W.ret ?_
                          refine E.KSR ?_
                          refine E.ret1 rfl rfl (fun w1 hw => ?_)
                          obtain rfl := Option.some.inj h
                          exact ⟨_, _, rfl, ⟨rfl, rfl⟩, hw.sel [] (by decide) rfl⟩
                    ·
                      replace h := iteT h
                      refine W.condT rfl ?_
                      refine W.seq ?_
                      refine W.region ?_
                      refine L.cutJ 8 (fun gs D => ∃ (gb20 : Bool), gs = [(2, .int .i64 a2), (4, pt b1 0), (14, .int .i64 x10), (15, st s13), (16, .int .i64 x14), (17, pt b20 0), (18, .int .i64 x18), (25, pt b29 0), (27, pt b33 0), (205, .bool gb20)] ∧ D = Cls w [] [.obj b33 [gv7] 127, .obj b29 [.slice none 0 0] 127, .obj b20 [v17] 127, .obj b1 [u0_0] 127, .sl gv7 143 2 (l35.map TSlot.row), .rd v17 2 (x16.Slots.map TSlot.row)] ∧ m13_quirlaw_LeafSays_K16 x10 a2 s13 x14 x16 x18 a0 gb20 = some r) ?_ ?_
                      ·
                        refine L.y rfl (Y.loadPW (i := 3) ag127 sz127 rfl rfl rfl) ?_
                        refine L.y rfl (Y.loadPW (i := 1) ag127 sz127 rfl rfl rfl) ?_
                        obtain ⟨b67, e68, h⟩ := bind1S h
                        refine L.y rfl (Y.does en89 rfl (fun w' hw => (w89_quirref_SameLeaf x7 (⟨[]⟩ : TLeaf) v8 (.slice none 0 0) w' _ e68 (As.at_ (hw.get (i := 7) rfl)) (At.nil w' _)).mono (fun _ _ h => h.1))) ?_
                        rcases b67 with _ | _
                        ·
                          replace h := iteF h
                          refine L.y rfl (Y.not rfl) ?_
                          refine L.y rfl (Y.move rfl) ?_
                          refine L.pass rfl rfl (by nofun) ?_
                          refine L.pass rfl rfl (by nofun) ?_
                          refine L.y rfl (Y.pickT rfl rfl) ?_
                          refine L.nil ?_
                          exact E.joinJ ⟨true, rfl, rfl, h⟩ ⟨rfl, rfl, rfl, rfl, rfl, rfl, rfl, rfl, rfl, rfl, trivial⟩ (fun _ hw => hw.sel [0, 1, 2, 4, 5, 6] (by decide) rfl)
                        ·
                          replace h := iteT h
                          refine L.y rfl (Y.not rfl) ?_
                          refine L.y rfl (Y.move rfl) ?_
                          refine L.take rfl ?_
                          refine L.y rfl (Y.move rfl) ?_
                          refine L.take rfl ?_
                          refine L.ite h rfl (Y.neq rfl rfl) (fun c69 h => ?_) (fun c69 h => ?_)
                          ·
                            refine L.y rfl (Y.pickF rfl rfl) ?_
                            refine L.nil ?_
                            exact E.joinJ ⟨true, rfl, rfl, h⟩ ⟨rfl, rfl, rfl, rfl, rfl, rfl, rfl, rfl, rfl, rfl, trivial⟩ (fun _ hw => hw.sel [0, 1, 2, 4, 5, 6] (by decide) rfl)
                          ·
                            refine L.y rfl (Y.pickF rfl rfl) ?_
                            refine L.nil ?_
                            exact E.joinJ ⟨false, rfl, rfl, h⟩ ⟨rfl, rfl, rfl, rfl, rfl, rfl, rfl, rfl, rfl, rfl, trivial⟩ (fun _ hw => hw.sel [0, 1, 2, 4, 5, 6] (by decide) rfl)
                      ·
                        rintro _ _ ⟨gb20, rfl, rfl, h⟩
                        rw [m13_quirlaw_LeafSays_K16] at h
                        rcases gb20 with _ | _
                        ·
                          replace h := iteF h
                          refine L.y rfl (Y.move rfl) ?_
                          refine L.take rfl ?_
                          refine L.y rfl (Y.move rfl) ?_
                          refine L.take rfl ?_
                          refine L.ite h rfl (Y.neq rfl rfl) (fun c66 h => ?_) (fun c66 h => ?_)
                          ·
                            refine L.y rfl (Y.pickF rfl rfl) ?_
                            refine L.nil ?_
                            refine E.thenN ?_
                            refine W.condT rfl ?_
                            refine W.seq ?_
                            refine W.region ?_
                            refine L.y rfl (Y.assign rfl) ?_
                            refine L.nil ?_
                            refine E.thenN ?_
                            refine W.ret ?_
                            refine E.KSR ?_
                            refine E.ret1 rfl rfl (fun w1 hw => ?_)
                            obtain rfl := Option.some.inj h
                            exact ⟨_, _, rfl, ⟨rfl, rfl⟩, hw.sel [] (by decide) rfl⟩
                          ·
                            refine L.y rfl (Y.pickF rfl rfl) ?_
                            refine L.nil ?_
                            refine E.thenN ?_
                            refine W.condF rfl ?_
                            refine W.skip ?_
                            exact E.joinJ ⟨rfl, rfl, h⟩ ⟨rfl, rfl, rfl, rfl, rfl, rfl, rfl, rfl, trivial⟩ (fun _ hw => hw)
                        ·
                          replace h := iteT h
                          refine L.y rfl (Y.move rfl) ?_
                          refine L.pass rfl rfl (by nofun) ?_
                          refine L.pass rfl rfl (by nofun) ?_
                          refine L.y rfl (Y.pickT rfl rfl) ?_
                          refine L.nil ?_
                          refine E.thenN ?_
                          refine W.condT rfl ?_
                          refine W.seq ?_
                          refine W.region ?_
                          refine L.y rfl (Y.assign rfl) ?_
                          refine L.nil ?_
                          refine E.thenN ?_
                          refine W.ret ?_
                          refine E.KSR ?_
                          refine E.ret1 rfl rfl (fun w1 hw => ?_)
                          obtain rfl := Option.some.inj h
                          exact ⟨_, _, rfl, ⟨rfl, rfl⟩, hw.sel [] (by decide) rfl⟩
                ·
                  rintro _ _ ⟨rfl, rfl, h⟩
                  rw [m13_quirlaw_LeafSays_K7] at h
                  refine W.seqJ (fun gs D => gs = [(2, .int .i64 a2), (4, pt b1 0), (15, st s13), (16, .int .i64 x14), (17, pt b20 0), (18, .int .i64 x18), (27, pt b33 0)] ∧ D = Cls w [] [.obj b33 [gv7] 127, .obj b20 [v17] 127, .obj b1 [u0_0] 127, .sl gv7 143 2 (l35.map TSlot.row), .rd v17 2 (x16.Slots.map TSlot.row)] ∧ m13_quirlaw_LeafSays_K8 a0 a2 s13 x14 x16 x18 = some r) ?_ ?_
                  ·
                    refine W.seqJ (fun gs D => ∃ (gb15 : Bool), gs = [(2, .int .i64 a2), (4, pt b1 0), (15, st s13), (16, .int .i64 x14), (17, pt b20 0), (18, .int .i64 x18), (25, pt b29 0), (27, pt b33 0), (240, .bool gb15)] ∧ D = Cls w [] [.obj b33 [gv7] 127, .obj b29 [.slice none 0 0] 127, .obj b20 [v17] 127, .obj b1 [u0_0] 127, .sl gv7 143 2 (l35.map TSlot.row), .rd v17 2 (x16.Slots.map TSlot.row)] ∧ m13_quirlaw_LeafSays_K11 s13 x14 x16 x18 a0 a2 gb15 = some r) ?_ ?_
                    ·
                      refine W.region ?_
                      refine L.cutJ 9 (fun gs D => ∃ (gb17 : Bool), gs = [(2, .int .i64 a2), (4, pt b1 0), (15, st s13), (16, .int .i64 x14), (17, pt b20 0), (18, .int .i64 x18), (25, pt b29 0), (27, pt b33 0), (231, .bool gb17)] ∧ D = Cls w [] [.obj b33 [gv7] 127, .obj b29 [.slice none 0 0] 127, .obj b20 [v17] 127, .obj b1 [u0_0] 127, .sl gv7 143 2 (l35.map TSlot.row), .rd v17 2 (x16.Slots.map TSlot.row)] ∧ m13_quirlaw_LeafSays_K13 s13 x14 x16 x18 a0 a2 gb17 = some r) ?_ ?_
                      ·
                        refine L.y rfl (Y.move rfl) ?_
                        refine L.ite h rfl (Y.lss rfl rfl) (fun c60 h => ?_) (fun c60 h => ?_)
                        ·
                          refine L.y rfl (Y.move rfl) ?_
                          refine L.pass rfl rfl (by nofun) ?_
                          refine L.pass rfl rfl (by nofun) ?_
                          refine L.pass rfl rfl (by nofun) ?_
                          refine L.pass rfl rfl (by nofun) ?_
                          refine L.pass rfl rfl (by nofun) ?_
                          refine L.y rfl (Y.pickT rfl rfl) ?_
                          refine L.nil ?_
                          exact E.joinJ ⟨true, rfl, rfl, h⟩ ⟨rfl, rfl, rfl, rfl, rfl, rfl, rfl, rfl, rfl, trivial⟩ (fun _ hw => hw)
                        ·
                          refine L.y rfl (Y.move rfl) ?_
                          refine L.take rfl ?_
                          refine L.y rfl (Y.move rfl) ?_
                          refine L.take rfl ?_
                          refine L.y rfl (Y.fieldP fd127_0 rfl) ?_
                          refine L.take rfl ?_
                          refine L.y rfl (Y.loadP (i := 3) ag125 rfl rfl rfl) ?_
                          refine L.take rfl ?_
                          refine L.y rfl (Y.lenM (g := TSlot.row) (l := a0.Slots) Try.underlying125 rfl (fun w' hw => hA0_0.cls0 hw)) ?_
                          refine L.take rfl ?_
                          refine L.ite h rfl (Y.geq rfl rfl) (fun c61 h => ?_) (fun c61 h => ?_)
                          ·
                            refine L.y rfl (Y.pickF rfl rfl) ?_
                            refine L.nil ?_
                            exact E.joinJ ⟨true, rfl, rfl, h⟩ ⟨rfl, rfl, rfl, rfl, rfl, rfl, rfl, rfl, rfl, trivial⟩ (fun _ hw => hw)
                          ·
                            refine L.y rfl (Y.pickF rfl rfl) ?_
                            refine L.nil ?_
                            exact E.joinJ ⟨false, rfl, rfl, h⟩ ⟨rfl, rfl, rfl, rfl, rfl, rfl, rfl, rfl, rfl, trivial⟩ (fun _ hw => hw)
                      ·
                        rintro _ _ ⟨gb17, rfl, rfl, h⟩
                        rw [m13_quirlaw_LeafSays_K13] at h
                        rcases gb17 with _ | _
                        ·
                          replace h := iteF h
                          refine L.y rfl (Y.move rfl) ?_
                          refine L.take rfl ?_
                          refine L.y rfl (Y.fieldP fd127_0 rfl) ?_
                          refine L.take rfl ?_
                          refine L.y rfl (Y.loadP (i := 3) ag125 rfl rfl rfl) ?_
                          refine L.take rfl ?_
                          refine L.y rfl (Y.move rfl) ?_
                          refine L.take rfl ?_
                          refine L.m (V := fun _ => el u0_0 (a2.toNat * 2)) h rfl (Y.indexM (g := TSlot.row) (l := a0.Slots) Try.underlying125 sz143 rfl rfl (fun w' hw => hA0_0.cls0 hw)) (fun x58 ex58 h => ?_)
                          refine L.take rfl ?_
                          refine L.y rfl (Y.fieldE fd143_0 rfl) ?_
                          refine L.take rfl ?_
                          refine L.iteB h rfl (Y.loadE (u := .bool x58.Used) ag4 rfl (fun w' hw => hA0_0.cls0 hw) (idx_map ex58) rfl) (fun c59 h => ?_) (fun c59 h => ?_)
                          ·
                            refine L.take rfl ?_
                            refine L.y rfl (Y.not rfl) ?_
                            refine L.y rfl (Y.pickF rfl rfl) ?_
                            refine L.nil ?_
                            exact E.joinJ ⟨false, rfl, rfl, h⟩ ⟨rfl, rfl, rfl, rfl, rfl, rfl, rfl, rfl, rfl, trivial⟩ (fun _ hw => hw)
                          ·
                            refine L.take rfl ?_
                            refine L.y rfl (Y.not rfl) ?_
                            refine L.y rfl (Y.pickF rfl rfl) ?_
                            refine L.nil ?_
                            exact E.joinJ ⟨true, rfl, rfl, h⟩ ⟨rfl, rfl, rfl, rfl, rfl, rfl, rfl, rfl, rfl, trivial⟩ (fun _ hw => hw)
                        ·
                          replace h := iteT h
                          refine L.y rfl (Y.move rfl) ?_
                          refine L.pass rfl rfl (by nofun) ?_
                          refine L.pass rfl rfl (by nofun) ?_
                          refine L.pass rfl rfl (by nofun) ?_
                          refine L.pass rfl rfl (by nofun) ?_
                          refine L.pass rfl rfl (by nofun) ?_
                          refine L.pass rfl rfl (by nofun) ?_
                          refine L.pass rfl rfl (by nofun) ?_
                          refine L.y rfl (Y.pickT rfl rfl) ?_
                          refine L.nil ?_
                          exact E.joinJ ⟨true, rfl, rfl, h⟩ ⟨rfl, rfl, rfl, rfl, rfl, rfl, rfl, rfl, rfl, trivial⟩ (fun _ hw => hw)
                    ·
                      rintro _ _ ⟨gb15, rfl, rfl, h⟩
                      rw [m13_quirlaw_LeafSays_K11] at h
                      rcases gb15 with _ | _
                      ·
                        replace h := iteF h
                        refine W.condF rfl ?_
                        refine W.skip ?_
                        exact E.joinJ ⟨rfl, rfl, h⟩ ⟨rfl, rfl, rfl, rfl, rfl, rfl, rfl, trivial⟩ (fun _ hw => hw.sel [0, 2, 3, 4, 5] (by decide) rfl)
                      ·
                        replace h := iteT h
                        refine W.condT rfl ?_
                        refine W.seq ?_
                        refine W.region ?_
                        refine L.cutJ 6 (fun gs D => ∃ (gb16 : Bool), gs = [(17, pt b20 0), (18, .int .i64 x18), (25, pt b29 0), (246, .bool gb16)] ∧ D = Cls w [] [.obj b29 [.slice none 0 0] 127, .obj b20 [v17] 127, .rd v17 2 (x16.Slots.map TSlot.row)] ∧ m13_quirlaw_LeafSays_K12 x16 x18 gb16 = some r) ?_ ?_
                        ·
                          refine L.y rfl (Y.move rfl) ?_
                          refine L.ite h rfl (Y.eqlS rfl rfl) (fun c56 h => ?_) (fun c56 h => ?_)
                          ·
                            refine L.y rfl (Y.move rfl) ?_
                            refine L.take rfl ?_
                            refine L.y rfl (Y.move rfl) ?_
                            refine L.take rfl ?_
                            refine L.ite h rfl (Y.eql rfl rfl) (fun c57 h => ?_) (fun c57 h => ?_)
                            ·
                              refine L.y rfl (Y.pickT rfl rfl) ?_
                              refine L.nil ?_
                              exact E.joinJ ⟨true, rfl, rfl, h⟩ ⟨rfl, rfl, rfl, rfl, trivial⟩ (fun _ hw => hw.sel [1, 2, 5] (by decide) rfl)
                            ·
                              refine L.y rfl (Y.pickT rfl rfl) ?_
                              refine L.nil ?_
                              exact E.joinJ ⟨false, rfl, rfl, h⟩ ⟨rfl, rfl, rfl, rfl, trivial⟩ (fun _ hw => hw.sel [1, 2, 5] (by decide) rfl)
                          ·
                            refine L.y rfl (Y.move rfl) ?_
                            refine L.pass rfl rfl (by nofun) ?_
                            refine L.pass rfl rfl (by nofun) ?_
                            refine L.y rfl (Y.pickF rfl rfl) ?_
                            refine L.nil ?_
                            exact E.joinJ ⟨false, rfl, rfl, h⟩ ⟨rfl, rfl, rfl, rfl, trivial⟩ (fun _ hw => hw.sel [1, 2, 5] (by decide) rfl)
                        ·
                          rintro _ _ ⟨gb16, rfl, rfl, h⟩
                          rw [m13_quirlaw_LeafSays_K12] at h
                          rcases gb16 with _ | _
                          ·
                            replace h := iteF h
                            refine L.y rfl (Y.move rfl) ?_
                            refine L.pass rfl rfl (by nofun) ?_
                            refine L.pass rfl rfl (by nofun) ?_
                            refine L.pass rfl rfl (by nofun) ?_
                            refine L.y rfl (Y.pickF rfl rfl) ?_
                            refine L.y rfl (Y.move rfl) ?_
                            refine L.pass rfl rfl (by nofun) ?_
                            refine L.pass rfl rfl (by nofun) ?_
                            refine L.y rfl (Y.pickF rfl rfl) ?_
                            refine L.y rfl (Y.assign rfl) ?_
                            refine L.nil ?_
                            refine E.thenN ?_
                            refine W.ret ?_
                            refine E.KSR ?_
                            refine E.ret1 rfl rfl (fun w1 hw => ?_)
                            obtain rfl := Option.some.inj h
                            exact ⟨_, _, rfl, ⟨rfl, rfl⟩, hw.sel [] (by decide) rfl⟩
                          ·
                            replace h := iteT h
                            refine L.y rfl (Y.move rfl) ?_
                            refine L.take rfl ?_
                            refine L.y rfl (Y.loadPW (i := 1) ag127 sz127 rfl rfl rfl) ?_
                            refine L.take rfl ?_
                            refine L.y rfl (Y.loadPW (i := 0) ag127 sz127 rfl rfl rfl) ?_
                            refine L.take rfl ?_
                            obtain ⟨b54, e55, h⟩ := bind1S h
                            refine L.y rfl (Y.does en89 rfl (fun w' hw => (w89_quirref_SameLeaf x16 (⟨[]⟩ : TLeaf) v17 (.slice none 0 0) w' _ e55 (As.at2 (hw.get (i := 2) rfl)) (At.nil w' _)).mono (fun _ _ h => h.1))) ?_
                            rcases b54 with _ | _
                            ·
                              replace h := iteF h
                              refine L.y rfl (Y.pickT rfl rfl) ?_
                              refine L.y rfl (Y.move rfl) ?_
                              refine L.pass rfl rfl (by nofun) ?_
                              refine L.pass rfl rfl (by nofun) ?_
                              refine L.y rfl (Y.pickF rfl rfl) ?_
                              refine L.y rfl (Y.assign rfl) ?_
                              refine L.nil ?_
                              refine E.thenN ?_
                              refine W.ret ?_
                              refine E.KSR ?_
                              refine E.ret1 rfl rfl (fun w1 hw => ?_)
                              obtain rfl := Option.some.inj h
                              exact ⟨_, _, rfl, ⟨rfl, rfl⟩, hw.sel [] (by decide) rfl⟩
                            ·
                              replace h := iteT h
                              refine L.y rfl (Y.pickT rfl rfl) ?_
                              refine L.y rfl (Y.move rfl) ?_
                              refine L.take rfl ?_
                              refine L.y rfl (Y.move rfl) ?_
                              refine L.take rfl ?_
                              refine L.y rfl (Y.eql rfl rfl) ?_
                              refine L.y rfl (Y.pickT rfl rfl) ?_
                              refine L.y rfl (Y.assign rfl) ?_
                              refine L.nil ?_
                              refine E.thenN ?_
                              refine W.ret ?_
                              refine E.KSR ?_
                              refine E.ret1 rfl rfl (fun w1 hw => ?_)
                              obtain rfl := Option.some.inj h
                              exact ⟨_, _, rfl, ⟨rfl, rfl⟩, hw.sel [] (by decide) rfl⟩
                  ·
                    rintro _ _ ⟨rfl, rfl, h⟩
                    rw [m13_quirlaw_LeafSays_K8] at h
                    refine W.seq ?_
                    refine W.region ?_
                    refine L.y rfl (Y.fieldP fd127_0 rfl) ?_
                    refine L.y rfl (Y.loadP (i := 2) ag125 rfl rfl rfl) ?_
                    obtain ⟨l36, e38, h⟩ := bind1S h
                    refine L.does rfl en94 rfl (fun w' hw => w94_api_Slot a0.Slots u0_0 w' _ e38 (hA0_0.cls0 hw)) ?_
                    rintro v37 _ ⟨_, rfl, rfl⟩
                    refine L.y rfl (Y.buildC (cells := #[v37]) rfl (fun w hw => by rcases ((As.at_ (hw.get (i := 0) rfl))).shape with ⟨h0, _⟩ | ⟨_, _, h0, _, _⟩ <;> simp only [h0] <;> kernel_rfl)) ?_
                    refine L.storeC (i := 1) sz127 rfl rfl rfl rfl (fun w hw => (all1 (As.at_ (hw.get (i := 0) rfl)).one all0)) rfl (Nat.le_of_ble_eq_true rfl) ?_
                    refine L.nil ?_
                    refine E.thenN ?_
                    refine W.seq ?_
                    refine W.region ?_
                    refine L.y rfl (Y.fieldP fd127_0 rfl) ?_
                    refine L.y rfl (Y.loadP (i := 1) ag125 rfl rfl rfl) ?_
                    refine L.y rfl (Y.move rfl) ?_
                    refine L.y rfl (Y.build (cells := #[.bool false, st []]) rfl (by kernel_rfl)) ?_
                    refine L.m (V := fun _ => el v37 (a2.toNat * 2)) h rfl (Y.indexM (g := TSlot.row) (l := l36) Try.underlying125 sz143 rfl rfl (fun w hw => As.at_ (hw.get (i := 0) rfl))) (fun x39 ex39 h => ?_)
                    refine L.storeSlM (q := 0) (row := TSlot.row) (vs := [.bool false, st []]) (j := 0) (u1 := (⟨false, []⟩ : TSlot)) h sz143 rfl rfl rfl rfl rfl (all1 rfl (all1 rfl all0)) rfl ex39 rfl rfl ?_
                    intro l40 el40 h
                    refine L.nil ?_
                    refine E.thenN ?_
                    refine W.seqJ (fun gs D => ∃ (gv9 : Value) (gl10 : (List TSlot)), gs = [(2, .int .i64 a2), (4, pt b1 0), (15, st s13), (16, .int .i64 x14), (17, pt b20 0), (18, .int .i64 x18), (27, pt b33 0)] ∧ D = Cls w [] [.obj b33 [gv9] 127, .obj b20 [v17] 127, .obj b1 [u0_0] 127, .sl gv9 143 2 (gl10.map TSlot.row), .rd v17 2 (x16.Slots.map TSlot.row)] ∧ m13_quirlaw_LeafSays_K9 a0 a2 s13 x14 x16 x18 gl10 = some r) ?_ ?_
                    ·
                      refine W.seq ?_
                      refine W.region ?_
                      refine L.y rfl (Y.fieldP fd127_0 rfl) ?_
                      refine L.y rfl (Y.loadP (i := 1) ag125 rfl rfl rfl) ?_
                      refine L.y rfl (Y.lenM (g := TSlot.row) (l := l40) Try.underlying125 rfl (fun w hw => As.at_ (hw.get (i := 0) rfl))) ?_
                      refine L.y rfl (Y.assign rfl) ?_
                      refine L.nil ?_
                      refine E.thenN ?_
                      refine W.block ?_
                      refine W.loopJ (fun m gs D => ∃ (gx12 : Int) (gv13 : Value) (gl14 : (List TSlot)), gs = [(2, .int .i64 a2), (4, pt b1 0), (15, st s13), (16, .int .i64 x14), (17, pt b20 0), (18, .int .i64 x18), (27, pt b33 0), (28, .int .i64 gx12)] ∧ D = Cls w [] [.obj b33 [gv13] 127, .obj b20 [v17] 127, .obj b1 [u0_0] 127, .sl gv13 143 2 (gl14.map TSlot.row), .rd v17 2 (x16.Slots.map TSlot.row)] ∧ m13_quirlaw_LeafSays_L1 a0 a2 s13 x14 x16 x18 m gx12 gl14 = some r) ⟨(l40.length : Int), v37, l40, rfl, rfl, h⟩ ⟨rfl, rfl, rfl, rfl, rfl, rfl, rfl, rfl, trivial⟩ (fun _ hw => hw.sel [1, 2, 3, 0, 5] (by decide) rfl) ?_
                      rintro m _ _ ⟨gx12, gv13, gl14, rfl, rfl, h⟩
                      rcases m with _ | m
                      · rw [m13_quirlaw_LeafSays_L1] at h; cases h
                      rw [m13_quirlaw_LeafSays_L1] at h
                      generalize hg1 : m13_quirlaw_LeafSays_L1 a0 a2 s13 x14 x16 x18 m = go1 at h
                      rw [m13_quirlaw_LeafSays_L1B] at h
                      refine W.seq ?_
                      refine W.seq ?_
                      refine W.region ?_
                      refine L.y rfl (Y.move rfl) ?_
                      refine L.ite h rfl (Y.gtr rfl rfl) (fun c46 h => ?_) (fun c46 h => ?_)
                      ·
                        refine L.y rfl (Y.move rfl) ?_
                        refine L.take rfl ?_
                        refine L.y rfl (Y.fieldP fd127_0 rfl) ?_
                        refine L.take rfl ?_
                        refine L.y rfl (Y.loadP (i := 0) ag125 rfl rfl rfl) ?_
                        refine L.take rfl ?_
                        refine L.y rfl (Y.move rfl) ?_
                        refine L.take rfl ?_
                        refine L.m (V := fun x47 => .int .i64 x47) h rfl (Y.subM rfl rfl) (fun x47 ex47 h => ?_)
                        refine L.take rfl ?_
                        refine L.m (V := fun _ => el gv13 (x47.toNat * 2)) h rfl (Y.indexM (g := TSlot.row) (l := gl14) Try.underlying125 sz143 rfl rfl (fun w hw => As.at_ (hw.get (i := 3) rfl))) (fun x48 ex48 h => ?_)
                        refine L.take rfl ?_
                        refine L.y rfl (Y.fieldE fd143_0 rfl) ?_
                        refine L.take rfl ?_
                        refine L.iteB h rfl (Y.loadE (u := .bool x48.Used) ag4 rfl (fun w hw => As.at_ (hw.get (i := 3) rfl)) (idx_map ex48) rfl) (fun c49 h => ?_) (fun c49 h => ?_)
                        ·
                          refine L.take rfl ?_
                          refine L.y rfl (Y.not rfl) ?_
                          refine L.y rfl (Y.pickT rfl rfl) ?_
                          refine L.nil ?_
                          refine E.thenN ?_
                          refine W.condF rfl ?_
                          refine W.exit ?_
                          refine E.thenX ?_
                          refine E.KLX ?_
                          refine E.blockX ?_
                          exact E.joinJ ⟨gv13, gl14, rfl, rfl, h⟩ ⟨rfl, rfl, rfl, rfl, rfl, rfl, rfl, trivial⟩ (fun _ hw => hw)
                        ·
                          refine L.take rfl ?_
                          refine L.y rfl (Y.not rfl) ?_
                          refine L.y rfl (Y.pickT rfl rfl) ?_
                          refine L.nil ?_
                          refine E.thenN ?_
                          refine W.condT rfl ?_
                          refine W.skip ?_
                          refine E.thenN ?_
                          refine W.seq ?_
                          refine W.block ?_
                          refine W.region ?_
                          refine L.y rfl (Y.fieldP fd127_0 rfl) ?_
                          refine L.y rfl (Y.loadP (i := 0) ag125 rfl rfl rfl) ?_
                          refine L.y rfl (Y.move rfl) ?_
                          refine L.m (V := fun x50 => .int .i64 x50) h rfl (Y.subM rfl rfl) (fun x50 ex50 h => ?_)
                          obtain ⟨l51, el51, h⟩ := bind1S h
                          refine L.cutM (i := 3) (g := TSlot.row) el51 rfl Try.underlying125 sz143 rfl rfl rfl (fun v52 => ?_)
                          refine L.y rfl (Y.fieldP fd127_0 rfl) ?_
                          refine L.storeV (i := 0) sz125 rfl rfl (fun _ hw => (As.at_ (hw.get (i := 3) rfl)).one) rfl (Nat.le_of_ble_eq_true rfl) ?_
                          refine L.nil ?_
                          refine E.blockN ?_
                          refine E.thenN ?_
                          refine W.region ?_
                          refine L.y rfl (Y.move rfl) ?_
                          refine L.m (V := fun x53 => .int .i64 x53) h rfl (Y.subM rfl rfl) (fun x53 ex53 h => ?_)
                          refine L.y rfl (Y.assign rfl) ?_
                          refine L.nil ?_
                          exact E.againJ ⟨x53, v52, l51, rfl, rfl, by rw [hg1]; exact h⟩ (Nat.lt_succ_self _) ⟨rfl, rfl, rfl, rfl, rfl, rfl, rfl, rfl, trivial⟩ (fun _ hw => hw)
                      ·
                        refine L.y rfl (Y.move rfl) ?_
                        refine L.pass rfl rfl (by nofun) ?_
                        refine L.pass rfl rfl (by nofun) ?_
                        refine L.pass rfl rfl (by nofun) ?_
                        refine L.pass rfl rfl (by nofun) ?_
                        refine L.pass rfl rfl (by nofun) ?_
                        refine L.pass rfl rfl (by nofun) ?_
                        refine L.pass rfl rfl (by nofun) ?_
                        refine L.pass rfl rfl (by nofun) ?_
                        refine L.y rfl (Y.pickF rfl rfl) ?_
                        refine L.nil ?_
                        refine E.thenN ?_
                        refine W.condF rfl ?_
                        refine W.exit ?_
                        refine E.thenX ?_
                        refine E.KLX ?_
                        refine E.blockX ?_
                        exact E.joinJ ⟨gv13, gl14, rfl, rfl, h⟩ ⟨rfl, rfl, rfl, rfl, rfl, rfl, rfl, trivial⟩ (fun _ hw => hw)
                    ·
                      rintro _ _ ⟨gv9, gl10, rfl, rfl, h⟩
                      rw [m13_quirlaw_LeafSays_K9] at h
                      refine W.seq ?_
                      refine W.region ?_
                      refine L.cutJ 12 (fun gs D => ∃ (gb11 : Bool), gs = [(17, pt b20 0), (18, .int .i64 x18), (27, pt b33 0), (299, .bool gb11)] ∧ D = Cls w [] [.obj b33 [gv9] 127, .obj b20 [v17] 127, .sl gv9 143 2 (gl10.map TSlot.row), .rd v17 2 (x16.Slots.map TSlot.row)] ∧ m13_quirlaw_LeafSays_K10 x16 gl10 x18 gb11 = some r) ?_ ?_
                      ·
                        refine L.y rfl (Y.move rfl) ?_
                        refine L.y rfl (Y.fieldP fd127_0 rfl) ?_
                        refine L.y rfl (Y.loadP (i := 2) ag125 rfl rfl rfl) ?_
                        refine L.y rfl (Y.move rfl) ?_
                        refine L.m (V := fun _ => el u0_0 (a2.toNat * 2)) h rfl (Y.indexM (g := TSlot.row) (l := a0.Slots) Try.underlying125 sz143 rfl rfl (fun w' hw => hA0_0.cls0 hw)) (fun x43 ex43 h => ?_)
                        refine L.y rfl (Y.fieldE fd143_1 rfl) ?_
                        refine L.y rfl (Y.loadE (u := st x43.Text) ag9 rfl (fun w' hw => hA0_0.cls0 hw) (idx_map ex43) rfl) ?_
                        refine L.ite h rfl (Y.eqlS rfl rfl) (fun c44 h => ?_) (fun c44 h => ?_)
                        ·
                          refine L.y rfl (Y.move rfl) ?_
                          refine L.take rfl ?_
                          refine L.y rfl (Y.move rfl) ?_
                          refine L.take rfl ?_
                          refine L.ite h rfl (Y.eql rfl rfl) (fun c45 h => ?_) (fun c45 h => ?_)
                          ·
                            refine L.y rfl (Y.pickT rfl rfl) ?_
                            refine L.nil ?_
                            exact E.joinJ ⟨true, rfl, rfl, h⟩ ⟨rfl, rfl, rfl, rfl, trivial⟩ (fun _ hw => hw.sel [0, 1, 3, 4] (by decide) rfl)
                          ·
                            refine L.y rfl (Y.pickT rfl rfl) ?_
                            refine L.nil ?_
                            exact E.joinJ ⟨false, rfl, rfl, h⟩ ⟨rfl, rfl, rfl, rfl, trivial⟩ (fun _ hw => hw.sel [0, 1, 3, 4] (by decide) rfl)
                        ·
                          refine L.y rfl (Y.move rfl) ?_
                          refine L.pass rfl rfl (by nofun) ?_
                          refine L.pass rfl rfl (by nofun) ?_
                          refine L.y rfl (Y.pickF rfl rfl) ?_
                          refine L.nil ?_
                          exact E.joinJ ⟨false, rfl, rfl, h⟩ ⟨rfl, rfl, rfl, rfl, trivial⟩ (fun _ hw => hw.sel [0, 1, 3, 4] (by decide) rfl)
                      ·
                        rintro _ _ ⟨gb11, rfl, rfl, h⟩
                        rw [m13_quirlaw_LeafSays_K10] at h
                        rcases gb11 with _ | _
                        ·
                          replace h := iteF h
                          refine L.y rfl (Y.move rfl) ?_
                          refine L.pass rfl rfl (by nofun) ?_
                          refine L.pass rfl rfl (by nofun) ?_
                          refine L.pass rfl rfl (by nofun) ?_
                          refine L.y rfl (Y.pickF rfl rfl) ?_
                          refine L.y rfl (Y.move rfl) ?_
                          refine L.pass rfl rfl (by nofun) ?_
                          refine L.pass rfl rfl (by nofun) ?_
                          refine L.y rfl (Y.pickF rfl rfl) ?_
                          refine L.y rfl (Y.assign rfl) ?_
                          refine L.nil ?_
                          refine E.thenN ?_
                          refine W.ret ?_
                          refine E.ret1 rfl rfl (fun w1 hw => ?_)
                          obtain rfl := Option.some.inj h
                          exact ⟨_, _, rfl, ⟨rfl, rfl⟩, hw.sel [] (by decide) rfl⟩
                        ·
                          replace h := iteT h
                          refine L.y rfl (Y.move rfl) ?_
                          refine L.take rfl ?_
                          refine L.y rfl (Y.loadPW (i := 1) ag127 sz127 rfl rfl rfl) ?_
                          refine L.take rfl ?_
                          refine L.y rfl (Y.loadPW (i := 0) ag127 sz127 rfl rfl rfl) ?_
                          refine L.take rfl ?_
                          obtain ⟨b41, e42, h⟩ := bind1S h
                          refine L.y rfl (Y.does en89 rfl (fun w' hw => (w89_quirref_SameLeaf x16 (⟨gl10⟩ : TLeaf) v17 gv9 w' _ e42 (As.at2 (hw.get (i := 3) rfl)) (As.at_ (hw.get (i := 2) rfl))).mono (fun _ _ h => h.1))) ?_
                          rcases b41 with _ | _
                          ·
                            replace h := iteF h
                            refine L.y rfl (Y.pickT rfl rfl) ?_
                            refine L.y rfl (Y.move rfl) ?_
                            refine L.pass rfl rfl (by nofun) ?_
                            refine L.pass rfl rfl (by nofun) ?_
                            refine L.y rfl (Y.pickF rfl rfl) ?_
                            refine L.y rfl (Y.assign rfl) ?_
                            refine L.nil ?_
                            refine E.thenN ?_
                            refine W.ret ?_
                            refine E.ret1 rfl rfl (fun w1 hw => ?_)
                            obtain rfl := Option.some.inj h
                            exact ⟨_, _, rfl, ⟨rfl, rfl⟩, hw.sel [] (by decide) rfl⟩
                          ·
                            replace h := iteT h
                            refine L.y rfl (Y.pickT rfl rfl) ?_
                            refine L.y rfl (Y.move rfl) ?_
                            refine L.take rfl ?_
                            refine L.y rfl (Y.move rfl) ?_
                            refine L.take rfl ?_
                            refine L.y rfl (Y.eql rfl rfl) ?_
                            refine L.y rfl (Y.pickT rfl rfl) ?_
                            refine L.y rfl (Y.assign rfl) ?_
                            refine L.nil ?_
                            refine E.thenN ?_
                            refine W.ret ?_
                            refine E.ret1 rfl rfl (fun w1 hw => ?_)
                            obtain rfl := Option.some.inj h
                            exact ⟨_, _, rfl, ⟨rfl, rfl⟩, hw.sel [] (by decide) rfl⟩
    ·
      replace h := iteT h
      refine W.seqJ (fun gs D => gs = [(1, st a1), (2, .int .i64 a2), (4, pt b1 0), (9, .int .i64 x2), (10, .int .i64 x4), (11, .int .i64 x5), (12, pt b12 0), (13, .int .i64 x9), (14, .int .i64 x10), (15, st s13), (16, .int .i64 x14), (17, pt b20 0), (18, .int .i64 x18), (19, st s21), (20, .int .i64 x22)] ∧ D = Cls w [] [.obj b20 [v17] 127, .obj b12 [v8] 127, .obj b1 [u0_0] 127, .rd v17 2 (x16.Slots.map TSlot.row), .sl v8 143 2 (x7.Slots.map TSlot.row)] ∧ m13_quirlaw_LeafSays_K26 x2 x4 x5 x7 x9 x10 s13 x14 x16 x18 s21 x22 a0 a1 a2 = some r) ?_ ?_
      ·
        refine W.seq ?_
        refine W.region ?_
        refine L.cutJ 10 (fun gs D => ∃ (gb52 : Bool), gs = [(1, st a1), (2, .int .i64 a2), (4, pt b1 0), (9, .int .i64 x2), (10, .int .i64 x4), (11, .int .i64 x5), (12, pt b12 0), (13, .int .i64 x9), (14, .int .i64 x10), (15, st s13), (16, .int .i64 x14), (17, pt b20 0), (18, .int .i64 x18), (19, st s21), (20, .int .i64 x22), (22, .int .i64 x26), (24, .bool true), (79, .bool gb52)] ∧ D = Cls w [] [.obj b20 [v17] 127, .obj b12 [v8] 127, .obj b1 [u0_0] 127, .rd v17 2 (x16.Slots.map TSlot.row), .sl v8 143 2 (x7.Slots.map TSlot.row)] ∧ m13_quirlaw_LeafSays_K49 a0 x2 x4 x5 x7 x9 x10 s13 x14 x16 x18 s21 x22 a1 a2 gb52 = some r) ?_ ?_
        ·
          refine L.y rfl (Y.loadPW (i := 0) ag127 sz127 rfl rfl rfl) ?_
          refine L.y rfl (Y.loadPW (i := 5) ag127 sz127 rfl rfl rfl) ?_
          obtain ⟨b189, e190, h⟩ := bind1S h
          refine L.y rfl (Y.does en89 rfl (fun w' hw => (w89_quirref_SameLeaf x24 (⟨gl3⟩ : TLeaf) v25 gv2 w' _ e190 (As.at_ (hw.get (i := 6) rfl)) (As.at_ (hw.get (i := 4) rfl))).mono (fun _ _ h => h.1))) ?_
          rcases b189 with _ | _
          ·
            replace h := iteF h
            refine L.y rfl (Y.not rfl) ?_
            refine L.y rfl (Y.move rfl) ?_
            refine L.pass rfl rfl (by nofun) ?_
            refine L.pass rfl rfl (by nofun) ?_
            refine L.pass rfl rfl (by nofun) ?_
            refine L.pass rfl rfl (by nofun) ?_
            refine L.y rfl (Y.pickT rfl rfl) ?_
            refine L.nil ?_
            exact E.joinJ ⟨true, rfl, rfl, h⟩ ⟨rfl, rfl, rfl, rfl, rfl, rfl, rfl, rfl, rfl, rfl, rfl, rfl, rfl, rfl, rfl, rfl, rfl, rfl, trivial⟩ (fun _ hw => hw.sel [1, 2, 3, 7, 8] (by decide) rfl)
          ·
            replace h := iteT h
            refine L.y rfl (Y.not rfl) ?_
            refine L.y rfl (Y.move rfl) ?_
            refine L.take rfl ?_
            refine L.y rfl (Y.move rfl) ?_
            refine L.take rfl ?_
            refine L.y rfl (Y.eql rfl rfl) ?_
            refine L.take rfl ?_
            refine L.y rfl (Y.move rfl) ?_
            refine L.take rfl ?_
            refine L.iteB h rfl (Y.neqB Try.underlying4 rfl rfl) (fun c191 h => ?_) (fun c191 h => ?_)
            ·
              refine L.y rfl (Y.pickF rfl rfl) ?_
              refine L.nil ?_
              exact E.joinJ ⟨true, rfl, rfl, h⟩ ⟨rfl, rfl, rfl, rfl, rfl, rfl, rfl, rfl, rfl, rfl, rfl, rfl, rfl, rfl, rfl, rfl, rfl, rfl, trivial⟩ (fun _ hw => hw.sel [1, 2, 3, 7, 8] (by decide) rfl)
            ·
              refine L.y rfl (Y.pickF rfl rfl) ?_
              refine L.nil ?_
              exact E.joinJ ⟨false, rfl, rfl, h⟩ ⟨rfl, rfl, rfl, rfl, rfl, rfl, rfl, rfl, rfl, rfl, rfl, rfl, rfl, rfl, rfl, rfl, rfl, rfl, trivial⟩ (fun _ hw => hw.sel [1, 2, 3, 7, 8] (by decide) rfl)
        ·
          rintro _ _ ⟨gb52, rfl, rfl, h⟩
          rw [m13_quirlaw_LeafSays_K49] at h
          rcases gb52 with _ | _
          ·
            replace h := iteF h
            refine L.y rfl (Y.move rfl) ?_
            refine L.take rfl ?_
            refine L.y rfl (Y.move rfl) ?_
            refine L.take rfl ?_
            refine L.y rfl (Y.not rfl) ?_
            refine L.take rfl ?_
            refine L.y rfl (Y.move rfl) ?_
            refine L.pass rfl rfl (by nofun) ?_
            refine L.pass rfl rfl (by nofun) ?_
            refine L.take rfl ?_
            refine L.y rfl (Y.pickF rfl rfl) ?_
            refine L.y rfl (Y.pickF rfl rfl) ?_
            refine L.y rfl (Y.move rfl) ?_
            refine L.take rfl ?_
            refine L.y rfl (Y.loadPW (i := 2) ag127 sz127 rfl rfl rfl) ?_
            refine L.take rfl ?_
            obtain ⟨x186, e187, h⟩ := bind1S h
            refine L.y rfl (Y.does en90 rfl (fun w' hw => (w90_leaf_Check a0 u0_0 w' _ e187 (hA0_0.cls0 hw)).mono (fun _ _ h => h.1))) ?_
            refine L.take rfl ?_
            refine L.y rfl (Y.move rfl) ?_
            refine L.take rfl ?_
            refine L.ite h rfl (Y.neq rfl rfl) (fun c188 h => ?_) (fun c188 h => ?_)
            ·
              refine L.y rfl (Y.pickF rfl rfl) ?_
              refine L.nil ?_
              refine E.thenN ?_
              refine W.condT rfl ?_
              refine W.seq ?_
              refine W.region ?_
              refine L.y rfl (Y.assign rfl) ?_
              refine L.nil ?_
              refine E.thenN ?_
              refine W.ret ?_
              refine E.KSR ?_
              refine E.ret1 rfl rfl (fun w1 hw => ?_)
              obtain rfl := Option.some.inj h
              exact ⟨_, _, rfl, ⟨rfl, rfl⟩, hw.sel [] (by decide) rfl⟩
            ·
              refine L.y rfl (Y.pickF rfl rfl) ?_
              refine L.nil ?_
              refine E.thenN ?_
              refine W.condF rfl ?_
              refine W.skip ?_
              exact E.joinJ ⟨rfl, rfl, h⟩ ⟨rfl, rfl, rfl, rfl, rfl, rfl, rfl, rfl, rfl, rfl, rfl, rfl, rfl, rfl, rfl, trivial⟩ (fun _ hw => hw)
          ·
            replace h := iteT h
            refine L.y rfl (Y.move rfl) ?_
            refine L.pass rfl rfl (by nofun) ?_
            refine L.pass rfl rfl (by nofun) ?_
            refine L.pass rfl rfl (by nofun) ?_
            refine L.pass rfl rfl (by nofun) ?_
            refine L.pass rfl rfl (by nofun) ?_
            refine L.pass rfl rfl (by nofun) ?_
            refine L.y rfl (Y.pickT rfl rfl) ?_
            refine L.y rfl (Y.move rfl) ?_
            refine L.pass rfl rfl (by nofun) ?_
            refine L.pass rfl rfl (by nofun) ?_
            refine L.pass rfl rfl (by nofun) ?_
            refine L.pass rfl rfl (by nofun) ?_
            refine L.y rfl (Y.pickT rfl rfl) ?_
            refine L.nil ?_
            refine E.thenN ?_
            refine W.condT rfl ?_
            refine W.seq ?_
            refine W.region ?_
            refine L.y rfl (Y.assign rfl) ?_
            refine L.nil ?_
            refine E.thenN ?_
            refine W.ret ?_
            refine E.KSR ?_
            refine E.ret1 rfl rfl (fun w1 hw => ?_)
            obtain rfl := Option.some.inj h
            exact ⟨_, _, rfl, ⟨rfl, rfl⟩, hw.sel [] (by decide) rfl⟩
      ·
        rintro _ _ ⟨rfl, rfl, h⟩
        rw [m13_quirlaw_LeafSays_K26] at h
        refine W.seq ?_
        refine W.region ?_
        refine L.y rfl (Y.build (cells := #[.slice none 0 0]) rfl (by kernel_rfl)) ?_
        refine L.alloc rfl ze127 ?_
        intro b111
        refine L.store (i := 0) sz127 rfl rfl rfl rfl (by simp [Value.oneCell', Value.cells, st]) rfl (Nat.le_of_ble_eq_true rfl) ?_
        refine L.nil ?_
        refine E.thenN ?_
        refine W.seqJ (fun gs D => gs = [(1, st a1), (2, .int .i64 a2), (4, pt b1 0), (10, .int .i64 x4), (11, .int .i64 x5), (12, pt b12 0), (13, .int .i64 x9), (14, .int .i64 x10), (15, st s13), (16, .int .i64 x14), (17, pt b20 0), (18, .int .i64 x18), (19, st s21), (20, .int .i64 x22), (25, pt b111 0)] ∧ D = Cls w [] [.obj b111 [.slice none 0 0] 127, .obj b20 [v17] 127, .obj b12 [v8] 127, .obj b1 [u0_0] 127, .rd v17 2 (x16.Slots.map TSlot.row), .sl v8 143 2 (x7.Slots.map TSlot.row)] ∧ m13_quirlaw_LeafSays_K27 a0 x4 s21 x22 a1 x7 x9 x10 a2 s13 x14 x16 x18 x5 = some r) ?_ ?_
        ·
          refine W.seq ?_
          refine W.region ?_
          refine L.y rfl (Y.move rfl) ?_
          refine L.ite h rfl (Y.neq rfl rfl) (fun c173 h => ?_) (fun c173 h => ?_)
          ·
            refine L.nil ?_
            refine E.thenN ?_
            refine W.condT rfl ?_
            refine W.seq ?_
            refine W.region ?_
            refine L.cutJ 7 (fun gs D => ∃ (gb47 : Bool), gs = [(9, .int .i64 x2), (12, pt b12 0), (13, .int .i64 x9), (14, .int .i64 x10), (15, st s13), (16, .int .i64 x14), (17, pt b20 0), (18, .int .i64 x18), (19, st s21), (20, .int .i64 x22), (25, pt b111 0), (103, .bool gb47)] ∧ D = Cls w [] [.obj b111 [.slice none 0 0] 127, .obj b20 [v17] 127, .obj b12 [v8] 127, .rd v17 2 (x16.Slots.map TSlot.row), .sl v8 143 2 (x7.Slots.map TSlot.row)] ∧ m13_quirlaw_LeafSays_K44 x7 x9 x10 x2 s13 x14 x16 x18 s21 x22 gb47 = some r) ?_ ?_
            ·
              refine L.y rfl (Y.move rfl) ?_
              refine L.ite h rfl (Y.eql rfl rfl) (fun c184 h => ?_) (fun c184 h => ?_)
              ·
                refine L.y rfl (Y.move rfl) ?_
                refine L.take rfl ?_
                refine L.y rfl (Y.move rfl) ?_
                refine L.take rfl ?_
                refine L.y rfl (Y.move rfl) ?_
                refine L.take rfl ?_
                refine L.ite h rfl (Y.eql rfl rfl) (fun c185 h => ?_) (fun c185 h => ?_)
                ·
                  refine L.y rfl (Y.pickT rfl rfl) ?_
                  refine L.nil ?_
                  exact E.joinJ ⟨true, rfl, rfl, h⟩ ⟨rfl, rfl, rfl, rfl, rfl, rfl, rfl, rfl, rfl, rfl, rfl, rfl, trivial⟩ (fun _ hw => hw.sel [0, 1, 2, 4, 5] (by decide) rfl)
                ·
                  refine L.y rfl (Y.pickT rfl rfl) ?_
                  refine L.nil ?_
                  exact E.joinJ ⟨false, rfl, rfl, h⟩ ⟨rfl, rfl, rfl, rfl, rfl, rfl, rfl, rfl, rfl, rfl, rfl, rfl, trivial⟩ (fun _ hw => hw.sel [0, 1, 2, 4, 5] (by decide) rfl)
              ·
                refine L.y rfl (Y.move rfl) ?_
                refine L.pass rfl rfl (by nofun) ?_
                refine L.pass rfl rfl (by nofun) ?_
                refine L.pass rfl rfl (by nofun) ?_
                refine L.y rfl (Y.pickF rfl rfl) ?_
                refine L.nil ?_
                exact E.joinJ ⟨false, rfl, rfl, h⟩ ⟨rfl, rfl, rfl, rfl, rfl, rfl, rfl, rfl, rfl, rfl, rfl, rfl, trivial⟩ (fun _ hw => hw.sel [0, 1, 2, 4, 5] (by decide) rfl)
            ·
              rintro _ _ ⟨gb47, rfl, rfl, h⟩
              rw [m13_quirlaw_LeafSays_K44] at h
              rcases gb47 with _ | _
              ·
                replace h := iteF h
                refine L.y rfl (Y.move rfl) ?_
                refine L.pass rfl rfl (by nofun) ?_
                refine L.pass rfl rfl (by nofun) ?_
                refine L.pass rfl rfl (by nofun) ?_
                refine L.y rfl (Y.pickF rfl rfl) ?_
                refine L.y rfl (Y.move rfl) ?_
                refine L.pass rfl rfl (by nofun) ?_
                refine L.pass rfl rfl (by nofun) ?_
                refine L.y rfl (Y.pickF rfl rfl) ?_
                refine L.y rfl (Y.move rfl) ?_
                refine L.pass rfl rfl (by nofun) ?_
                refine L.pass rfl rfl (by nofun) ?_
                refine L.pass rfl rfl (by nofun) ?_
                refine L.y rfl (Y.pickF rfl rfl) ?_
                refine L.y rfl (Y.move rfl) ?_
                refine L.pass rfl rfl (by nofun) ?_
                refine L.pass rfl rfl (by nofun) ?_
                refine L.y rfl (Y.pickF rfl rfl) ?_
                refine L.y rfl (Y.move rfl) ?_
                refine L.pass rfl rfl (by nofun) ?_
                refine L.pass rfl rfl (by nofun) ?_
                refine L.pass rfl rfl (by nofun) ?_
                refine L.y rfl (Y.pickF rfl rfl) ?_
                refine L.y rfl (Y.move rfl) ?_
                refine L.pass rfl rfl (by nofun) ?_
                refine L.pass rfl rfl (by nofun) ?_
                refine L.pass rfl rfl (by nofun) ?_
                refine L.y rfl (Y.pickF rfl rfl) ?_
                refine L.y rfl (Y.move rfl) ?_
                refine L.pass rfl rfl (by nofun) ?_
                refine L.pass rfl rfl (by nofun) ?_
                refine L.pass rfl rfl (by nofun) ?_
                refine L.y rfl (Y.pickF rfl rfl) ?_
                refine L.y rfl (Y.move rfl) ?_
                refine L.pass rfl rfl (by nofun) ?_
                refine L.pass rfl rfl (by nofun) ?_
                refine L.y rfl (Y.pickF rfl rfl) ?_
                refine L.y rfl (Y.move rfl) ?_
                refine L.pass rfl rfl (by nofun) ?_
                refine L.pass rfl rfl (by nofun) ?_
                refine L.pass rfl rfl (by nofun) ?_
                refine L.y rfl (Y.pickF rfl rfl) ?_
                refine L.y rfl (Y.assign rfl) ?_
                refine L.nil ?_
                refine E.thenN ?_
                refine W.ret ?_
                refine E.KSR ?_
                refine E.ret1 rfl rfl (fun w1 hw => ?_)
                obtain rfl := Option.some.inj h
                exact ⟨_, _, rfl, ⟨rfl, rfl⟩, hw.sel [] (by decide) rfl⟩
              ·
                replace h := iteT h
                refine L.cutJ 9 (fun gs D => ∃ (gb48 : Bool), gs = [(9, .int .i64 x2), (14, .int .i64 x10), (15, st s13), (16, .int .i64 x14), (17, pt b20 0), (18, .int .i64 x18), (19, st s21), (20, .int .i64 x22), (25, pt b111 0), (112, .bool gb48)] ∧ D = Cls w [] [.obj b111 [.slice none 0 0] 127, .obj b20 [v17] 127, .rd v17 2 (x16.Slots.map TSlot.row)] ∧ m13_quirlaw_LeafSays_K45 x10 x2 s13 x14 x16 x18 s21 x22 gb48 = some r) ?_ ?_
                ·
                  refine L.y rfl (Y.move rfl) ?_
                  refine L.take rfl ?_
                  refine L.y rfl (Y.loadPW (i := 2) ag127 sz127 rfl rfl rfl) ?_
                  refine L.take rfl ?_
                  refine L.y rfl (Y.loadPW (i := 0) ag127 sz127 rfl rfl rfl) ?_
                  refine L.take rfl ?_
                  obtain ⟨b181, e182, h⟩ := bind1S h
                  refine L.y rfl (Y.does en89 rfl (fun w' hw => (w89_quirref_SameLeaf x7 (⟨[]⟩ : TLeaf) v8 (.slice none 0 0) w' _ e182 (As.at_ (hw.get (i := 4) rfl)) (At.nil w' _)).mono (fun _ _ h => h.1))) ?_
                  rcases b181 with _ | _
                  ·
                    replace h := iteF h
                    refine L.y rfl (Y.pickT rfl rfl) ?_
                    refine L.y rfl (Y.move rfl) ?_
                    refine L.pass rfl rfl (by nofun) ?_
                    refine L.pass rfl rfl (by nofun) ?_
                    refine L.y rfl (Y.pickF rfl rfl) ?_
                    refine L.nil ?_
                    exact E.joinJ ⟨false, rfl, rfl, h⟩ ⟨rfl, rfl, rfl, rfl, rfl, rfl, rfl, rfl, rfl, rfl, trivial⟩ (fun _ hw => hw.sel [0, 1, 3] (by decide) rfl)
                  ·
                    replace h := iteT h
                    refine L.y rfl (Y.pickT rfl rfl) ?_
                    refine L.y rfl (Y.move rfl) ?_
                    refine L.take rfl ?_
                    refine L.y rfl (Y.move rfl) ?_
                    refine L.take rfl ?_
                    refine L.ite h rfl (Y.eql rfl rfl) (fun c183 h => ?_) (fun c183 h => ?_)
                    ·
                      refine L.y rfl (Y.pickT rfl rfl) ?_
                      refine L.nil ?_
                      exact E.joinJ ⟨true, rfl, rfl, h⟩ ⟨rfl, rfl, rfl, rfl, rfl, rfl, rfl, rfl, rfl, rfl, trivial⟩ (fun _ hw => hw.sel [0, 1, 3] (by decide) rfl)
                    ·
                      refine L.y rfl (Y.pickT rfl rfl) ?_
                      refine L.nil ?_
                      exact E.joinJ ⟨false, rfl, rfl, h⟩ ⟨rfl, rfl, rfl, rfl, rfl, rfl, rfl, rfl, rfl, rfl, trivial⟩ (fun _ hw => hw.sel [0, 1, 3] (by decide) rfl)
                ·
                  rintro _ _ ⟨gb48, rfl, rfl, h⟩
                  rw [m13_quirlaw_LeafSays_K45] at h
                  rcases gb48 with _ | _
                  ·
                    replace h := iteF h
                    refine L.y rfl (Y.move rfl) ?_
                    refine L.pass rfl rfl (by nofun) ?_
                    refine L.pass rfl rfl (by nofun) ?_
                    refine L.pass rfl rfl (by nofun) ?_
                    refine L.y rfl (Y.pickF rfl rfl) ?_
                    refine L.y rfl (Y.move rfl) ?_
                    refine L.pass rfl rfl (by nofun) ?_
                    refine L.pass rfl rfl (by nofun) ?_
                    refine L.y rfl (Y.pickF rfl rfl) ?_
                    refine L.y rfl (Y.move rfl) ?_
                    refine L.pass rfl rfl (by nofun) ?_
                    refine L.pass rfl rfl (by nofun) ?_
                    refine L.pass rfl rfl (by nofun) ?_
                    refine L.y rfl (Y.pickF rfl rfl) ?_
                    refine L.y rfl (Y.move rfl) ?_
                    refine L.pass rfl rfl (by nofun) ?_
                    refine L.pass rfl rfl (by nofun) ?_
                    refine L.pass rfl rfl (by nofun) ?_
                    refine L.y rfl (Y.pickF rfl rfl) ?_
                    refine L.y rfl (Y.move rfl) ?_
                    refine L.pass rfl rfl (by nofun) ?_
                    refine L.pass rfl rfl (by nofun) ?_
                    refine L.pass rfl rfl (by nofun) ?_
                    refine L.y rfl (Y.pickF rfl rfl) ?_
                    refine L.y rfl (Y.move rfl) ?_
                    refine L.pass rfl rfl (by nofun) ?_
                    refine L.pass rfl rfl (by nofun) ?_
                    refine L.y rfl (Y.pickF rfl rfl) ?_
                    refine L.y rfl (Y.move rfl) ?_
                    refine L.pass rfl rfl (by nofun) ?_
                    refine L.pass rfl rfl (by nofun) ?_
                    refine L.pass rfl rfl (by nofun) ?_
                    refine L.y rfl (Y.pickF rfl rfl) ?_
                    refine L.y rfl (Y.assign rfl) ?_
                    refine L.nil ?_
                    refine E.thenN ?_
                    refine W.ret ?_
                    refine E.KSR ?_
                    refine E.ret1 rfl rfl (fun w1 hw => ?_)
                    obtain rfl := Option.some.inj h
                    exact ⟨_, _, rfl, ⟨rfl, rfl⟩, hw.sel [] (by decide) rfl⟩
                  ·
                    replace h := iteT h
                    refine L.cutJ 9 (fun gs D => ∃ (gb49 : Bool), gs = [(9, .int .i64 x2), (16, .int .i64 x14), (17, pt b20 0), (18, .int .i64 x18), (19, st s21), (20, .int .i64 x22), (25, pt b111 0), (121, .bool gb49)] ∧ D = Cls w [] [.obj b111 [.slice none 0 0] 127, .obj b20 [v17] 127, .rd v17 2 (x16.Slots.map TSlot.row)] ∧ m13_quirlaw_LeafSays_K46 x14 x2 x16 x18 s21 x22 gb49 = some r) ?_ ?_
                    ·
                      refine L.y rfl (Y.move rfl) ?_
                      refine L.take rfl ?_
                      refine L.y rfl (Y.move rfl) ?_
                      refine L.take rfl ?_
                      refine L.y rfl (Y.move rfl) ?_
                      refine L.take rfl ?_
                      refine L.ite h rfl (Y.eql rfl rfl) (fun c179 h => ?_) (fun c179 h => ?_)
                      ·
                        refine L.y rfl (Y.pickT rfl rfl) ?_
                        refine L.y rfl (Y.move rfl) ?_
                        refine L.take rfl ?_
                        refine L.y rfl (Y.move rfl) ?_
                        refine L.take rfl ?_
                        refine L.ite h rfl (Y.eqlS rfl rfl) (fun c180 h => ?_) (fun c180 h => ?_)
                        ·
                          refine L.y rfl (Y.pickT rfl rfl) ?_
                          refine L.nil ?_
                          exact E.joinJ ⟨true, rfl, rfl, h⟩ ⟨rfl, rfl, rfl, rfl, rfl, rfl, rfl, rfl, trivial⟩ (fun _ hw => hw)
                        ·
                          refine L.y rfl (Y.pickT rfl rfl) ?_
                          refine L.nil ?_
                          exact E.joinJ ⟨false, rfl, rfl, h⟩ ⟨rfl, rfl, rfl, rfl, rfl, rfl, rfl, rfl, trivial⟩ (fun _ hw => hw)
                      ·
                        refine L.y rfl (Y.pickT rfl rfl) ?_
                        refine L.y rfl (Y.move rfl) ?_
                        refine L.pass rfl rfl (by nofun) ?_
                        refine L.pass rfl rfl (by nofun) ?_
                        refine L.y rfl (Y.pickF rfl rfl) ?_
                        refine L.nil ?_
                        exact E.joinJ ⟨false, rfl, rfl, h⟩ ⟨rfl, rfl, rfl, rfl, rfl, rfl, rfl, rfl, trivial⟩ (fun _ hw => hw)
                    ·
                      rintro _ _ ⟨gb49, rfl, rfl, h⟩
                      rw [m13_quirlaw_LeafSays_K46] at h
                      rcases gb49 with _ | _
                      ·
                        replace h := iteF h
                        refine L.y rfl (Y.move rfl) ?_
                        refine L.pass rfl rfl (by nofun) ?_
                        refine L.pass rfl rfl (by nofun) ?_
                        refine L.pass rfl rfl (by nofun) ?_
                        refine L.y rfl (Y.pickF rfl rfl) ?_
                        refine L.y rfl (Y.move rfl) ?_
                        refine L.pass rfl rfl (by nofun) ?_
                        refine L.pass rfl rfl (by nofun) ?_
                        refine L.pass rfl rfl (by nofun) ?_
                        refine L.y rfl (Y.pickF rfl rfl) ?_
                        refine L.y rfl (Y.move rfl) ?_
                        refine L.pass rfl rfl (by nofun) ?_
                        refine L.pass rfl rfl (by nofun) ?_
                        refine L.pass rfl rfl (by nofun) ?_
                        refine L.y rfl (Y.pickF rfl rfl) ?_
                        refine L.y rfl (Y.move rfl) ?_
                        refine L.pass rfl rfl (by nofun) ?_
                        refine L.pass rfl rfl (by nofun) ?_
                        refine L.y rfl (Y.pickF rfl rfl) ?_
                        refine L.y rfl (Y.move rfl) ?_
                        refine L.pass rfl rfl (by nofun) ?_
                        refine L.pass rfl rfl (by nofun) ?_
                        refine L.pass rfl rfl (by nofun) ?_
                        refine L.y rfl (Y.pickF rfl rfl) ?_
                        refine L.y rfl (Y.assign rfl) ?_
                        refine L.nil ?_
                        refine E.thenN ?_
                        refine W.ret ?_
                        refine E.KSR ?_
                        refine E.ret1 rfl rfl (fun w1 hw => ?_)
                        obtain rfl := Option.some.inj h
                        exact ⟨_, _, rfl, ⟨rfl, rfl⟩, hw.sel [] (by decide) rfl⟩
                      ·
                        replace h := iteT h
                        refine L.cutJ 10 (fun gs D => ∃ (gb50 : Bool), gs = [(9, .int .i64 x2), (18, .int .i64 x18), (19, st s21), (20, .int .i64 x22), (131, .bool gb50)] ∧ D = Cls w [] [] ∧ m13_quirlaw_LeafSays_K47 x18 x2 s21 x22 gb50 = some r) ?_ ?_
                        ·
                          refine L.y rfl (Y.move rfl) ?_
                          refine L.take rfl ?_
                          refine L.y rfl (Y.move rfl) ?_
                          refine L.take rfl ?_
                          refine L.y rfl (Y.move rfl) ?_
                          refine L.take rfl ?_
                          refine L.ite h rfl (Y.eql rfl rfl) (fun c176 h => ?_) (fun c176 h => ?_)
                          ·
                            refine L.y rfl (Y.pickT rfl rfl) ?_
                            refine L.y rfl (Y.move rfl) ?_
                            refine L.take rfl ?_
                            refine L.y rfl (Y.loadPW (i := 1) ag127 sz127 rfl rfl rfl) ?_
                            refine L.take rfl ?_
                            refine L.y rfl (Y.loadPW (i := 0) ag127 sz127 rfl rfl rfl) ?_
                            refine L.take rfl ?_
                            obtain ⟨b177, e178, h⟩ := bind1S h
                            refine L.y rfl (Y.does en89 rfl (fun w' hw => (w89_quirref_SameLeaf x16 (⟨[]⟩ : TLeaf) v17 (.slice none 0 0) w' _ e178 (As.at2 (hw.get (i := 2) rfl)) (At.nil w' _)).mono (fun _ _ h => h.1))) ?_
                            rcases b177 with _ | _
                            ·
                              replace h := iteF h
                              refine L.y rfl (Y.pickT rfl rfl) ?_
                              refine L.nil ?_
                              exact E.joinJ ⟨false, rfl, rfl, h⟩ ⟨rfl, rfl, rfl, rfl, rfl, trivial⟩ (fun _ hw => hw.sel [] (by decide) rfl)
                            ·
                              replace h := iteT h
                              refine L.y rfl (Y.pickT rfl rfl) ?_
                              refine L.nil ?_
                              exact E.joinJ ⟨true, rfl, rfl, h⟩ ⟨rfl, rfl, rfl, rfl, rfl, trivial⟩ (fun _ hw => hw.sel [] (by decide) rfl)
                          ·
                            refine L.y rfl (Y.pickT rfl rfl) ?_
                            refine L.y rfl (Y.move rfl) ?_
                            refine L.pass rfl rfl (by nofun) ?_
                            refine L.pass rfl rfl (by nofun) ?_
                            refine L.pass rfl rfl (by nofun) ?_
                            refine L.y rfl (Y.pickF rfl rfl) ?_
                            refine L.nil ?_
                            exact E.joinJ ⟨false, rfl, rfl, h⟩ ⟨rfl, rfl, rfl, rfl, rfl, trivial⟩ (fun _ hw => hw.sel [] (by decide) rfl)
                        ·
                          rintro _ _ ⟨gb50, rfl, rfl, h⟩
                          rw [m13_quirlaw_LeafSays_K47] at h
                          rcases gb50 with _ | _
                          ·
                            replace h := iteF h
                            refine L.y rfl (Y.move rfl) ?_
                            refine L.pass rfl rfl (by nofun) ?_
                            refine L.pass rfl rfl (by nofun) ?_
                            refine L.pass rfl rfl (by nofun) ?_
                            refine L.y rfl (Y.pickF rfl rfl) ?_
                            refine L.y rfl (Y.move rfl) ?_
                            refine L.pass rfl rfl (by nofun) ?_
                            refine L.pass rfl rfl (by nofun) ?_
                            refine L.y rfl (Y.pickF rfl rfl) ?_
                            refine L.y rfl (Y.move rfl) ?_
                            refine L.pass rfl rfl (by nofun) ?_
                            refine L.pass rfl rfl (by nofun) ?_
                            refine L.pass rfl rfl (by nofun) ?_
                            refine L.y rfl (Y.pickF rfl rfl) ?_
                            refine L.y rfl (Y.assign rfl) ?_
                            refine L.nil ?_
                            refine E.thenN ?_
                            refine W.ret ?_
                            refine E.KSR ?_
                            refine E.ret1 rfl rfl (fun w1 hw => ?_)
                            obtain rfl := Option.some.inj h
                            exact ⟨_, _, rfl, ⟨rfl, rfl⟩, hw⟩
                          ·
                            replace h := iteT h
                            refine L.cutJ 9 (fun gs D => ∃ (gb51 : Bool), gs = [(9, .int .i64 x2), (20, .int .i64 x22), (140, .bool gb51)] ∧ D = Cls w [] [] ∧ m13_quirlaw_LeafSays_K48 x22 x2 gb51 = some r) ?_ ?_
                            ·
                              refine L.y rfl (Y.move rfl) ?_
                              refine L.take rfl ?_
                              refine L.y rfl (Y.move rfl) ?_
                              refine L.take rfl ?_
                              refine L.y rfl (Y.move rfl) ?_
                              refine L.take rfl ?_
                              refine L.ite h rfl (Y.eql rfl rfl) (fun c174 h => ?_) (fun c174 h => ?_)
                              ·
                                refine L.y rfl (Y.pickT rfl rfl) ?_
                                refine L.y rfl (Y.move rfl) ?_
                                refine L.take rfl ?_
                                refine L.y rfl (Y.move rfl) ?_
                                refine L.take rfl ?_
                                refine L.ite h rfl (Y.eqlS rfl rfl) (fun c175 h => ?_) (fun c175 h => ?_)
                                ·
                                  refine L.y rfl (Y.pickT rfl rfl) ?_
                                  refine L.nil ?_
                                  exact E.joinJ ⟨true, rfl, rfl, h⟩ ⟨rfl, rfl, rfl, trivial⟩ (fun _ hw => hw)
                                ·
                                  refine L.y rfl (Y.pickT rfl rfl) ?_
                                  refine L.nil ?_
                                  exact E.joinJ ⟨false, rfl, rfl, h⟩ ⟨rfl, rfl, rfl, trivial⟩ (fun _ hw => hw)
                              ·
                                refine L.y rfl (Y.pickT rfl rfl) ?_
                                refine L.y rfl (Y.move rfl) ?_
                                refine L.pass rfl rfl (by nofun) ?_
                                refine L.pass rfl rfl (by nofun) ?_
                                refine L.y rfl (Y.pickF rfl rfl) ?_
                                refine L.nil ?_
                                exact E.joinJ ⟨false, rfl, rfl, h⟩ ⟨rfl, rfl, rfl, trivial⟩ (fun _ hw => hw)
                            ·
                              rintro _ _ ⟨gb51, rfl, rfl, h⟩
                              rw [m13_quirlaw_LeafSays_K48] at h
                              rcases gb51 with _ | _
                              ·
                                replace h := iteF h
                                refine L.y rfl (Y.move rfl) ?_
                                refine L.pass rfl rfl (by nofun) ?_
                                refine L.pass rfl rfl (by nofun) ?_
                                refine L.pass rfl rfl (by nofun) ?_
                                refine L.y rfl (Y.pickF rfl rfl) ?_
                                refine L.y rfl (Y.assign rfl) ?_
                                refine L.nil ?_
                                refine E.thenN ?_
                                refine W.ret ?_
                                refine E.KSR ?_
                                refine E.ret1 rfl rfl (fun w1 hw => ?_)
                                obtain rfl := Option.some.inj h
                                exact ⟨_, _, rfl, ⟨rfl, rfl⟩, hw⟩
                              ·
                                replace h := iteT h
                                refine L.y rfl (Y.move rfl) ?_
                                refine L.take rfl ?_
                                refine L.y rfl (Y.move rfl) ?_
                                refine L.take rfl ?_
                                refine L.y rfl (Y.move rfl) ?_
                                refine L.take rfl ?_
                                refine L.y rfl (Y.eql rfl rfl) ?_
                                refine L.y rfl (Y.pickT rfl rfl) ?_
                                refine L.y rfl (Y.assign rfl) ?_
                                refine L.nil ?_
                                refine E.thenN ?_
                                refine W.ret ?_
                                refine E.KSR ?_
                                refine E.ret1 rfl rfl (fun w1 hw => ?_)
                                obtain rfl := Option.some.inj h
                                exact ⟨_, _, rfl, ⟨rfl, rfl⟩, hw⟩
          ·
            refine L.nil ?_
            refine E.thenN ?_
            refine W.condF rfl ?_
            refine W.skip ?_
            exact E.joinJ ⟨rfl, rfl, h⟩ ⟨rfl, rfl, rfl, rfl, rfl, rfl, rfl, rfl, rfl, rfl, rfl, rfl, rfl, rfl, rfl, trivial⟩ (fun _ hw => hw)
        ·
          rintro _ _ ⟨rfl, rfl, h⟩
          rw [m13_quirlaw_LeafSays_K27] at h
          refine W.seqJ (fun gs D => gs = [(1, st a1), (2, .int .i64 a2), (4, pt b1 0), (12, pt b12 0), (13, .int .i64 x9), (14, .int .i64 x10), (15, st s13), (16, .int .i64 x14), (17, pt b20 0), (18, .int .i64 x18), (25, pt b111 0)] ∧ D = Cls w [] [.obj b111 [.slice none 0 0] 127, .obj b20 [v17] 127, .obj b12 [v8] 127, .obj b1 [u0_0] 127, .rd v17 2 (x16.Slots.map TSlot.row), .sl v8 143 2 (x7.Slots.map TSlot.row)] ∧ m13_quirlaw_LeafSays_K28 a0 a1 x7 x9 x10 a2 s13 x14 x16 x18 = some r) ?_ ?_
          ·
            refine W.seq ?_
            refine W.region ?_
            refine L.cutJ 10 (fun gs D => ∃ (gb46 : Bool), gs = [(1, st a1), (2, .int .i64 a2), (4, pt b1 0), (12, pt b12 0), (13, .int .i64 x9), (14, .int .i64 x10), (15, st s13), (16, .int .i64 x14), (17, pt b20 0), (18, .int .i64 x18), (19, st s21), (20, .int .i64 x22), (25, pt b111 0), (155, .bool gb46)] ∧ D = Cls w [] [.obj b111 [.slice none 0 0] 127, .obj b20 [v17] 127, .obj b12 [v8] 127, .obj b1 [u0_0] 127, .rd v17 2 (x16.Slots.map TSlot.row), .sl v8 143 2 (x7.Slots.map TSlot.row)] ∧ m13_quirlaw_LeafSays_K43 a0 s21 x22 a1 x7 x9 x10 a2 s13 x14 x16 x18 gb46 = some r) ?_ ?_
            ·
              refine L.y rfl (Y.move rfl) ?_
              refine L.y rfl (Y.loadPW (i := 3) ag127 sz127 rfl rfl rfl) ?_
              obtain ⟨s168, e169, h⟩ := bind1S h
              refine L.y rfl (Y.does en91 rfl (fun w' hw => (w91_quirref_LeafText a0 u0_0 w' _ e169 (hA0_0.cls0 hw)).mono (fun _ _ h => h.1))) ?_
              refine L.y rfl (Y.lenS Try.underlying9 rfl) ?_
              refine L.m (V := fun x170 => .int .i64 x170) h rfl (Y.subM rfl rfl) (fun x170 ex170 h => ?_)
              refine L.ite h rfl (Y.neq rfl rfl) (fun c171 h => ?_) (fun c171 h => ?_)
              ·
                refine L.y rfl (Y.move rfl) ?_
                refine L.pass rfl rfl (by nofun) ?_
                refine L.pass rfl rfl (by nofun) ?_
                refine L.y rfl (Y.pickT rfl rfl) ?_
                refine L.nil ?_
                exact E.joinJ ⟨true, rfl, rfl, h⟩ ⟨rfl, rfl, rfl, rfl, rfl, rfl, rfl, rfl, rfl, rfl, rfl, rfl, rfl, rfl, trivial⟩ (fun _ hw => hw)
              ·
                refine L.y rfl (Y.move rfl) ?_
                refine L.take rfl ?_
                refine L.y rfl (Y.move rfl) ?_
                refine L.take rfl ?_
                refine L.ite h rfl (Y.neq rfl rfl) (fun c172 h => ?_) (fun c172 h => ?_)
                ·
                  refine L.y rfl (Y.pickF rfl rfl) ?_
                  refine L.nil ?_
                  exact E.joinJ ⟨true, rfl, rfl, h⟩ ⟨rfl, rfl, rfl, rfl, rfl, rfl, rfl, rfl, rfl, rfl, rfl, rfl, rfl, rfl, trivial⟩ (fun _ hw => hw)
                ·
                  refine L.y rfl (Y.pickF rfl rfl) ?_
                  refine L.nil ?_
                  exact E.joinJ ⟨false, rfl, rfl, h⟩ ⟨rfl, rfl, rfl, rfl, rfl, rfl, rfl, rfl, rfl, rfl, rfl, rfl, rfl, rfl, trivial⟩ (fun _ hw => hw)
            ·
              rintro _ _ ⟨gb46, rfl, rfl, h⟩
              rw [m13_quirlaw_LeafSays_K43] at h
              rcases gb46 with _ | _
              ·
                replace h := iteF h
                refine L.y rfl (Y.move rfl) ?_
                refine L.take rfl ?_
                refine L.y rfl (Y.move rfl) ?_
                refine L.take rfl ?_
                refine L.y rfl (Y.loadPW (i := 3) ag127 sz127 rfl rfl rfl) ?_
                refine L.take rfl ?_
                obtain ⟨s164, e165, h⟩ := bind1S h
                refine L.y rfl (Y.does en91 rfl (fun w' hw => (w91_quirref_LeafText a0 u0_0 w' _ e165 (hA0_0.cls0 hw)).mono (fun _ _ h => h.1))) ?_
                refine L.take rfl ?_
                refine L.ite h rfl (Y.neqS rfl rfl) (fun c166 h => ?_) (fun c166 h => ?_)
                ·
                  refine L.y rfl (Y.pickF rfl rfl) ?_
                  refine L.y rfl (Y.move rfl) ?_
                  refine L.pass rfl rfl (by nofun) ?_
                  refine L.pass rfl rfl (by nofun) ?_
                  refine L.y rfl (Y.pickT rfl rfl) ?_
                  refine L.nil ?_
                  refine E.thenN ?_
                  refine W.condT rfl ?_
                  refine W.seq ?_
                  refine W.region ?_
                  refine L.y rfl (Y.assign rfl) ?_
                  refine L.nil ?_
                  refine E.thenN ?_
                  refine W.ret ?_
                  refine E.KSR ?_
                  refine E.ret1 rfl rfl (fun w1 hw => ?_)
                  obtain rfl := Option.some.inj h
                  exact ⟨_, _, rfl, ⟨rfl, rfl⟩, hw.sel [] (by decide) rfl⟩
                ·
                  refine L.y rfl (Y.pickF rfl rfl) ?_
                  refine L.y rfl (Y.move rfl) ?_
                  refine L.take rfl ?_
                  refine L.y rfl (Y.move rfl) ?_
                  refine L.take rfl ?_
                  refine L.ite h rfl (Y.neq rfl rfl) (fun c167 h => ?_) (fun c167 h => ?_)
                  ·
                    refine L.y rfl (Y.pickF rfl rfl) ?_
                    refine L.nil ?_
                    refine E.thenN ?_
                    refine W.condT rfl ?_
                    refine W.seq ?_
                    refine W.region ?_
                    refine L.y rfl (Y.assign rfl) ?_
                    refine L.nil ?_
                    refine E.thenN ?_
                    refine W.ret ?_
                    refine E.KSR ?_
                    refine E.ret1 rfl rfl (fun w1 hw => ?_)
                    obtain rfl := Option.some.inj h
                    exact ⟨_, _, rfl, ⟨rfl, rfl⟩, hw.sel [] (by decide) rfl⟩
                  ·
                    refine L.y rfl (Y.pickF rfl rfl) ?_
                    refine L.nil ?_
                    refine E.thenN ?_
                    refine W.condF rfl ?_
                    refine W.skip ?_
                    exact E.joinJ ⟨rfl, rfl, h⟩ ⟨rfl, rfl, rfl, rfl, rfl, rfl, rfl, rfl, rfl, rfl, rfl, trivial⟩ (fun _ hw => hw)
              ·
                replace h := iteT h
                refine L.y rfl (Y.move rfl) ?_
                refine L.pass rfl rfl (by nofun) ?_
                refine L.pass rfl rfl (by nofun) ?_
                refine L.pass rfl rfl (by nofun) ?_
                refine L.pass rfl rfl (by nofun) ?_
                refine L.y rfl (Y.pickT rfl rfl) ?_
                refine L.y rfl (Y.move rfl) ?_
                refine L.pass rfl rfl (by nofun) ?_
                refine L.pass rfl rfl (by nofun) ?_
                refine L.y rfl (Y.pickT rfl rfl) ?_
                refine L.nil ?_
                refine E.thenN ?_
                refine W.condT rfl ?_
                refine W.seq ?_
                refine W.region ?_
                refine L.y rfl (Y.assign rfl) ?_
                refine L.nil ?_
                refine E.thenN ?_
                refine W.ret ?_
                refine E.KSR ?_
                refine E.ret1 rfl rfl (fun w1 hw => ?_)
                obtain rfl := Option.some.inj h
                exact ⟨_, _, rfl, ⟨rfl, rfl⟩, hw.sel [] (by decide) rfl⟩
          ·
            rintro _ _ ⟨rfl, rfl, h⟩
            rw [m13_quirlaw_LeafSays_K28] at h
            refine W.seq ?_
            refine W.region ?_
            refine L.y rfl (Y.fieldP fd127_0 rfl) ?_
            refine L.y rfl (Y.loadP (i := 3) ag125 rfl rfl rfl) ?_
            refine L.callJ (fun v D => ∃ (gx29 : Int), v = .int .i64 gx29 ∧ D = Cls w [] [.obj b111 [.slice none 0 0] 127, .obj b20 [v17] 127, .obj b12 [v8] 127, .obj b1 [u0_0] 127, .rd v17 2 (x16.Slots.map TSlot.row), .sl v8 143 2 (x7.Slots.map TSlot.row)] ∧ m13_quirlaw_LeafSays_K29 a0 a1 x7 x9 x10 a2 s13 x14 x16 x18 gx29 = some r) rfl en92 rfl Try.func92 rfl rfl rfl ?_ ?_
            ·
              refine W.seq ?_
              refine W.region ?_
              refine L.y rfl (Y.assign rfl) ?_
              refine L.nil ?_
              refine E.thenN ?_
              refine W.seqJ (fun gs D => gs = [] ∧ D = Cls w [] [.obj b111 [.slice none 0 0] 127, .obj b20 [v17] 127, .obj b12 [v8] 127, .obj b1 [u0_0] 127, .rd v17 2 (x16.Slots.map TSlot.row), .sl v8 143 2 (x7.Slots.map TSlot.row)] ∧ m13_quirlaw_LeafSays_K41 a0 a1 x7 x9 x10 a2 s13 x14 x16 x18 = some r) ?_ ?_
              ·
                refine W.seq ?_
                refine W.region ?_
                refine L.y rfl (Y.move rfl) ?_
                refine L.y rfl (Y.lenM (g := TSlot.row) (l := a0.Slots) Try.underlying125 rfl (fun w' hw => hA0_0.cls0 hw)) ?_
                refine L.y rfl (Y.move rfl) ?_
                refine L.nil ?_
                refine E.thenN ?_
                refine W.block ?_
                refine W.loopJ (fun m gs D => ∃ (gx45 : Int), gs = [(0, u0_0), (1, .func (.func 93) #[] #[]), (7, .int .i64 (a0.Slots.length : Int)), (8, .int .i64 gx45)] ∧ D = Cls w [] [.obj b111 [.slice none 0 0] 127, .obj b20 [v17] 127, .obj b12 [v8] 127, .obj b1 [u0_0] 127, .rd v17 2 (x16.Slots.map TSlot.row), .sl v8 143 2 (x7.Slots.map TSlot.row)] ∧ m13_quirlaw_LeafSays_L4 a0 a1 x7 x9 x10 a2 s13 x14 x16 x18 m gx45 = some r) ⟨0, rfl, rfl, h⟩ ⟨rfl, rfl, rfl, rfl, trivial⟩ (fun _ hw => hw) ?_
                rintro m _ _ ⟨gx45, rfl, rfl, h⟩
                rcases m with _ | m
                · rw [m13_quirlaw_LeafSays_L4] at h; cases h
                rw [m13_quirlaw_LeafSays_L4] at h
                generalize hg4 : m13_quirlaw_LeafSays_L4 a0 a1 x7 x9 x10 a2 s13 x14 x16 x18 m = go4 at h
                rw [m13_quirlaw_LeafSays_L4B] at h
                refine W.seq ?_
                refine W.region ?_
                refine L.ite h rfl (Y.lss rfl rfl) (fun c160 h => ?_) (fun c160 h => ?_)
                ·
                  refine L.nil ?_
                  refine E.thenN ?_
                  refine W.seq ?_
                  refine W.condT rfl ?_
                  refine W.skip ?_
                  refine E.thenN ?_
                  refine W.seq ?_
                  refine W.block ?_
                  refine W.seq ?_
                  refine W.region ?_
                  refine L.y rfl (Y.move rfl) ?_
                  refine L.y rfl (Y.assign rfl) ?_
                  refine L.nil ?_
                  refine E.thenN ?_
                  refine W.seq ?_
                  refine W.region ?_
                  refine L.y rfl (Y.move rfl) ?_
                  refine L.y rfl (Y.move rfl) ?_
                  refine L.y rfl (Y.move rfl) ?_
                  refine L.m (V := fun _ => el u0_0 (gx45.toNat * 2)) h rfl (Y.indexM (g := TSlot.row) (l := a0.Slots) Try.underlying125 sz143 rfl rfl (fun w' hw => hA0_0.cls0 hw)) (fun x161 ex161 h => ?_)
                  refine L.y rfl (Y.loadEN (r := [.bool x161.Used, st x161.Text]) ag143 sz143 rfl (fun w' hw => hA0_0.cls0 hw) (idx_map ex161) rfl) ?_
                  refine L.callVJ (fun v D => v = .bool (!x161.Used) ∧ D = Cls w [] [.obj b111 [.slice none 0 0] 127, .obj b20 [v17] 127, .obj b12 [v8] 127, .obj b1 [u0_0] 127, .rd v17 2 (x16.Slots.map TSlot.row), .sl v8 143 2 (x7.Slots.map TSlot.row)] ∧ m13_quirlaw_LeafSays_K42 x161 a0 a1 x7 x9 x10 a2 s13 x14 x16 x18 gx45 go4 = some r) rfl en93 rfl rfl Try.func93 rfl rfl rfl ?_ ?_
                  ·
                    refine W.seq ?_
                    refine W.region ?_
                    refine L.box rfl rfl ?_
                    intro b163
                    refine L.y rfl (Y.assign rfl) ?_
                    refine L.nil ?_
                    refine E.thenN ?_
                    refine W.seq ?_
                    refine W.region ?_
                    refine L.y rfl (Y.fieldP fd143_0 rfl) ?_
                    refine L.y rfl (Y.loadP (i := 0) ag4 rfl rfl rfl) ?_
                    refine L.y rfl (Y.not rfl) ?_
                    refine L.y rfl (Y.assign rfl) ?_
                    refine L.nil ?_
                    refine E.thenN ?_
                    refine W.ret ?_
                    refine E.ret1 rfl rfl (fun w1 hw => ?_)
                    exact ⟨_, _, rfl, ⟨rfl, rfl, h⟩, hw.sel [1, 2, 3, 4, 5, 6] (by decide) rfl⟩
                  ·
                    rintro _ _ ⟨rfl, rfl, h⟩
                    rw [m13_quirlaw_LeafSays_K42] at h
                    refine L.nil ?_
                    refine E.thenN ?_
                    refine W.caseB (q := 16) h rfl (fun h => ?_) (fun h => ?_)
                    ·
                      refine W.condT rfl ?_
                      refine W.seq ?_
                      refine W.region ?_
                      refine L.y rfl (Y.move rfl) ?_
                      refine L.y rfl (Y.assign rfl) ?_
                      refine L.nil ?_
                      refine E.thenN ?_
                      refine W.ret ?_
                      refine E.blockR ?_
                      refine E.thenR ?_
                      refine E.KLR ?_
                      refine E.blockR ?_
                      refine E.KSR ?_
                      refine E.ret1 rfl rfl (fun w1 hw => ?_)
                      exact ⟨_, _, rfl, ⟨gx45, rfl, rfl, h⟩, hw⟩
                    ·
                      refine W.condF rfl ?_
                      refine W.skip ?_
                      refine E.blockN ?_
                      refine E.thenN ?_
                      refine W.region ?_
                      refine L.m (V := fun x162 => .int .i64 x162) h rfl (Y.addM rfl rfl) (fun x162 ex162 h => ?_)
                      refine L.y rfl (Y.move rfl) ?_
                      refine L.nil ?_
                      exact E.againJ ⟨x162, rfl, rfl, by rw [hg4]; exact h⟩ (Nat.lt_succ_self _) ⟨rfl, rfl, rfl, rfl, trivial⟩ (fun _ hw => hw)
                ·
                  refine L.nil ?_
                  refine E.thenN ?_
                  refine W.seq ?_
                  refine W.condF rfl ?_
                  refine W.exit ?_
                  refine E.thenX ?_
                  refine E.KLX ?_
                  refine E.blockX ?_
                  exact E.joinJ ⟨rfl, rfl, h⟩ trivial (fun _ hw => hw)
              ·
                rintro _ _ ⟨rfl, rfl, h⟩
                rw [m13_quirlaw_LeafSays_K41] at h
                refine W.seq ?_
                refine W.region ?_
                refine L.y rfl (Y.assign rfl) ?_
                refine L.nil ?_
                refine E.thenN ?_
                refine W.ret ?_
                refine E.ret1 rfl rfl (fun w1 hw => ?_)
                exact ⟨_, _, rfl, ⟨(-1), rfl, rfl, h⟩, hw⟩
            ·
              rintro _ _ ⟨gx29, rfl, rfl, h⟩
              rw [m13_quirlaw_LeafSays_K29] at h
              refine L.y rfl (Y.assign rfl) ?_
              refine L.nil ?_
              refine E.thenN ?_
              refine W.seq ?_
              refine W.region ?_
              refine L.y rfl (Y.fieldP fd127_0 rfl) ?_
              refine L.y rfl (Y.loadP (i := 3) ag125 rfl rfl rfl) ?_
              obtain ⟨l112, e114, h⟩ := bind1S h
              refine L.does rfl en94 rfl (fun w' hw => w94_api_Slot a0.Slots u0_0 w' _ e114 (hA0_0.cls0 hw)) ?_
              rintro v113 _ ⟨_, rfl, rfl⟩
              refine L.y rfl (Y.buildC (cells := #[v113]) rfl (fun w hw => by rcases ((As.at_ (hw.get (i := 0) rfl))).shape with ⟨h0, _⟩ | ⟨_, _, h0, _, _⟩ <;> simp only [h0] <;> kernel_rfl)) ?_
              refine L.alloc rfl ze127 ?_
              intro b115
              refine L.storeC (i := 0) sz127 rfl rfl rfl rfl (fun w hw => (all1 (As.at_ (hw.get (i := 1) rfl)).one all0)) rfl (Nat.le_of_ble_eq_true rfl) ?_
              refine L.nil ?_
              refine E.thenN ?_
              refine W.seqJ (fun gs D => ∃ (gx30 : Int) (gv31 : Value) (gl32 : (List TSlot)), gs = [(1, st a1), (2, .int .i64 a2), (4, pt b1 0), (12, pt b12 0), (13, .int .i64 x9), (14, .int .i64 x10), (15, st s13), (16, .int .i64 x14), (17, pt b20 0), (18, .int .i64 x18), (25, pt b111 0), (26, .int .i64 gx30), (27, pt b115 0)] ∧ D = Cls w [] [.obj b115 [gv31] 127, .obj b111 [.slice none 0 0] 127, .obj b20 [v17] 127, .obj b12 [v8] 127, .obj b1 [u0_0] 127, .sl gv31 143 2 (gl32.map TSlot.row), .rd v17 2 (x16.Slots.map TSlot.row), .sl v8 143 2 (x7.Slots.map TSlot.row)] ∧ m13_quirlaw_LeafSays_K30 a1 x7 x9 x10 a2 s13 x14 x16 x18 a0 gx30 gl32 = some r) ?_ ?_
              ·
                refine W.seq ?_
                refine W.region ?_
                refine L.y rfl (Y.move rfl) ?_
                refine L.ite h rfl (Y.lss rfl rfl) (fun c156 h => ?_) (fun c156 h => ?_)
                ·
                  refine L.nil ?_
                  refine E.thenN ?_
                  refine W.condT rfl ?_
                  refine W.seq ?_
                  refine W.region ?_
                  refine L.y rfl (Y.fieldP fd127_0 rfl) ?_
                  refine L.y rfl (Y.loadP (i := 5) ag125 rfl rfl rfl) ?_
                  refine L.y rfl (Y.lenM (g := TSlot.row) (l := a0.Slots) Try.underlying125 rfl (fun w' hw => hA0_0.cls0 hw)) ?_
                  refine L.y rfl (Y.assign rfl) ?_
                  refine L.nil ?_
                  refine E.thenN ?_
                  refine W.region ?_
                  refine L.y rfl (Y.fieldP fd127_0 rfl) ?_
                  refine L.y rfl (Y.loadP (i := 0) ag125 rfl rfl rfl) ?_
                  refine L.y rfl (Y.build (cells := #[.bool false, st []]) rfl (by kernel_rfl)) ?_
                  refine L.litAgg rfl Try.underlying125 el143 rfl rfl rfl ?_
                  intro b157
                  refine L.appM (i := 2) (g := TSlot.row) (l := l112) (more := [(⟨false, []⟩ : TSlot)]) h rfl Try.underlying125 el143 rfl rfl rfl (fun w hw => As.at_ (hw.get (i := 0) rfl)) (plain_TSlot _) rfl ?_
                  intro v158 l159 el159 h
                  refine L.y rfl (Y.fieldP fd127_0 rfl) ?_
                  refine L.storeV (i := 2) sz125 rfl rfl (fun _ hw => (As.at_ (hw.get (i := 0) rfl)).one) rfl (Nat.le_of_ble_eq_true rfl) ?_
                  refine L.nil ?_
                  exact E.joinJ ⟨(a0.Slots.length : Int), v158, l159, rfl, rfl, h⟩ ⟨rfl, rfl, rfl, rfl, rfl, rfl, rfl, rfl, rfl, rfl, rfl, rfl, rfl, trivial⟩ (fun _ hw => hw.sel [2, 3, 4, 5, 6, 0, 7, 8] (by decide) rfl)
                ·
                  refine L.nil ?_
                  refine E.thenN ?_
                  refine W.condF rfl ?_
                  refine W.skip ?_
                  exact E.joinJ ⟨gx29, v113, l112, rfl, rfl, h⟩ ⟨rfl, rfl, rfl, rfl, rfl, rfl, rfl, rfl, rfl, rfl, rfl, rfl, rfl, trivial⟩ (fun _ hw => hw.sel [0, 2, 3, 4, 5, 1, 6, 7] (by decide) rfl)
              ·
                rintro _ _ ⟨gx30, gv31, gl32, rfl, rfl, h⟩
                rw [m13_quirlaw_LeafSays_K30] at h
                refine W.seq ?_
                refine W.region ?_
                refine L.y rfl (Y.fieldP fd127_0 rfl) ?_
                refine L.y rfl (Y.loadP (i := 0) ag125 rfl rfl rfl) ?_
                refine L.y rfl (Y.move rfl) ?_
                refine L.y rfl (Y.move rfl) ?_
                refine L.y rfl (Y.build (cells := #[.bool true, st a1]) rfl (by kernel_rfl)) ?_
                refine L.m (V := fun _ => el gv31 (gx30.toNat * 2)) h rfl (Y.indexM (g := TSlot.row) (l := gl32) Try.underlying125 sz143 rfl rfl (fun w hw => As.at_ (hw.get (i := 5) rfl))) (fun x116 ex116 h => ?_)
                refine L.storeSlM (q := 5) (row := TSlot.row) (vs := [.bool true, st a1]) (j := 0) (u1 := (⟨true, a1⟩ : TSlot)) h sz143 rfl rfl rfl rfl rfl (all1 rfl (all1 rfl all0)) rfl ex116 rfl rfl ?_
                intro l117 el117 h
                refine L.nil ?_
                refine E.thenN ?_
                refine W.seqJ (fun gs D => gs = [(2, .int .i64 a2), (4, pt b1 0), (15, st s13), (16, .int .i64 x14), (17, pt b20 0), (18, .int .i64 x18), (25, pt b111 0), (27, pt b115 0)] ∧ D = Cls w [] [.obj b115 [gv31] 127, .obj b111 [.slice none 0 0] 127, .obj b20 [v17] 127, .obj b1 [u0_0] 127, .sl gv31 143 2 (l117.map TSlot.row), .rd v17 2 (x16.Slots.map TSlot.row)] ∧ m13_quirlaw_LeafSays_K31 a2 s13 x14 x16 x18 a0 = some r) ?_ ?_
                ·
                  refine W.seqJ (fun gs D => ∃ (gb42 : Bool), gs = [(2, .int .i64 a2), (4, pt b1 0), (12, pt b12 0), (13, .int .i64 x9), (14, .int .i64 x10), (15, st s13), (16, .int .i64 x14), (17, pt b20 0), (18, .int .i64 x18), (25, pt b111 0), (26, .int .i64 gx30), (27, pt b115 0), (197, .bool gb42)] ∧ D = Cls w [] [.obj b115 [gv31] 127, .obj b111 [.slice none 0 0] 127, .obj b20 [v17] 127, .obj b12 [v8] 127, .obj b1 [u0_0] 127, .sl gv31 143 2 (l117.map TSlot.row), .rd v17 2 (x16.Slots.map TSlot.row), .sl v8 143 2 (x7.Slots.map TSlot.row)] ∧ m13_quirlaw_LeafSays_K38 x7 x9 x10 a2 s13 x14 x16 x18 a0 l117 gx30 gb42 = some r) ?_ ?_
                  ·
                    refine W.region ?_
                    refine L.y rfl (Y.move rfl) ?_
                    refine L.y rfl (Y.lenS Try.underlying9 rfl) ?_
                    refine L.ite h rfl (Y.gtr rfl rfl) (fun c152 h => ?_) (fun c152 h => ?_)
                    ·
                      refine L.y rfl (Y.move rfl) ?_
                      refine L.pass rfl rfl (by nofun) ?_
                      refine L.pass rfl rfl (by nofun) ?_
                      refine L.pass rfl rfl (by nofun) ?_
                      refine L.y rfl (Y.pickT rfl rfl) ?_
                      refine L.nil ?_
                      exact E.joinJ ⟨true, rfl, rfl, h⟩ ⟨rfl, rfl, rfl, rfl, rfl, rfl, rfl, rfl, rfl, rfl, rfl, rfl, rfl, trivial⟩ (fun _ hw => hw)
                    ·
                      refine L.y rfl (Y.move rfl) ?_
                      refine L.take rfl ?_
                      refine L.y rfl (Y.loadPW (i := 0) ag127 sz127 rfl rfl rfl) ?_
                      refine L.take rfl ?_
                      obtain ⟨x153, e154, h⟩ := bind1S h
                      refine L.y rfl (Y.does en81 rfl (fun w' hw => (w81_quirref_LeafErr (⟨l117⟩ : TLeaf) gv31 w' _ e154 (As.at_ (hw.get (i := 5) rfl))).mono (fun _ _ h => h.1))) ?_
                      refine L.take rfl ?_
                      refine L.ite h rfl (Y.neq rfl rfl) (fun c155 h => ?_) (fun c155 h => ?_)
                      ·
                        refine L.y rfl (Y.pickF rfl rfl) ?_
                        refine L.nil ?_
                        exact E.joinJ ⟨true, rfl, rfl, h⟩ ⟨rfl, rfl, rfl, rfl, rfl, rfl, rfl, rfl, rfl, rfl, rfl, rfl, rfl, trivial⟩ (fun _ hw => hw)
                      ·
                        refine L.y rfl (Y.pickF rfl rfl) ?_
                        refine L.nil ?_
                        exact E.joinJ ⟨false, rfl, rfl, h⟩ ⟨rfl, rfl, rfl, rfl, rfl, rfl, rfl, rfl, rfl, rfl, rfl, rfl, rfl, trivial⟩ (fun _ hw => hw)
                  ·
                    rintro _ _ ⟨gb42, rfl, rfl, h⟩
                    rw [m13_quirlaw_LeafSays_K38] at h
                    rcases gb42 with _ | _
                    ·
                      replace h := iteF h
                      refine W.condF rfl ?_
                      refine W.seq ?_
                      refine W.region ?_
                      refine L.cutJ 9 (fun gs D => ∃ (gb43 : Bool), gs = [(2, .int .i64 a2), (4, pt b1 0), (14, .int .i64 x10), (15, st s13), (16, .int .i64 x14), (17, pt b20 0), (18, .int .i64 x18), (25, pt b111 0), (27, pt b115 0), (218, .bool gb43)] ∧ D = Cls w [] [.obj b115 [gv31] 127, .obj b111 [.slice none 0 0] 127, .obj b20 [v17] 127, .obj b1 [u0_0] 127, .sl gv31 143 2 (l117.map TSlot.row), .rd v17 2 (x16.Slots.map TSlot.row)] ∧ m13_quirlaw_LeafSays_K39 x10 a2 s13 x14 x16 x18 a0 gb43 = some r) ?_ ?_
                      ·
                        refine L.y rfl (Y.loadPW (i := 3) ag127 sz127 rfl rfl rfl) ?_
                        refine L.y rfl (Y.loadPW (i := 0) ag127 sz127 rfl rfl rfl) ?_
                        obtain ⟨b145, e146, h⟩ := bind1S h
                        refine L.y rfl (Y.does en89 rfl (fun w' hw => (w89_quirref_SameLeaf x7 (⟨l117⟩ : TLeaf) v8 gv31 w' _ e146 (As.at_ (hw.get (i := 7) rfl)) (As.at_ (hw.get (i := 5) rfl))).mono (fun _ _ h => h.1))) ?_
                        rcases b145 with _ | _
                        ·
                          replace h := iteF h
                          refine L.y rfl (Y.not rfl) ?_
                          refine L.y rfl (Y.move rfl) ?_
                          refine L.pass rfl rfl (by nofun) ?_
                          refine L.pass rfl rfl (by nofun) ?_
                          refine L.pass rfl rfl (by nofun) ?_
                          refine L.y rfl (Y.pickT rfl rfl) ?_
                          refine L.nil ?_
                          exact E.joinJ ⟨true, rfl, rfl, h⟩ ⟨rfl, rfl, rfl, rfl, rfl, rfl, rfl, rfl, rfl, rfl, trivial⟩ (fun _ hw => hw.sel [0, 1, 2, 4, 5, 6] (by decide) rfl)
                        ·
                          replace h := iteT h
                          refine L.y rfl (Y.not rfl) ?_
                          refine L.y rfl (Y.move rfl) ?_
                          refine L.take rfl ?_
                          refine L.y rfl (Y.move rfl) ?_
                          refine L.take rfl ?_
                          refine L.y rfl (Y.move rfl) ?_
                          refine L.take rfl ?_
                          refine L.ite h rfl (Y.neq rfl rfl) (fun c147 h => ?_) (fun c147 h => ?_)
                          ·
                            refine L.y rfl (Y.pickF rfl rfl) ?_
                            refine L.nil ?_
                            exact E.joinJ ⟨true, rfl, rfl, h⟩ ⟨rfl, rfl, rfl, rfl, rfl, rfl, rfl, rfl, rfl, rfl, trivial⟩ (fun _ hw => hw.sel [0, 1, 2, 4, 5, 6] (by decide) rfl)
                          ·
                            refine L.y rfl (Y.pickF rfl rfl) ?_
                            refine L.nil ?_
                            exact E.joinJ ⟨false, rfl, rfl, h⟩ ⟨rfl, rfl, rfl, rfl, rfl, rfl, rfl, rfl, rfl, rfl, trivial⟩ (fun _ hw => hw.sel [0, 1, 2, 4, 5, 6] (by decide) rfl)
                      ·
                        rintro _ _ ⟨gb43, rfl, rfl, h⟩
                        rw [m13_quirlaw_LeafSays_K39] at h
                        rcases gb43 with _ | _
                        ·
                          replace h := iteF h
                          refine L.y rfl (Y.move rfl) ?_
                          refine L.take rfl ?_
                          refine L.y rfl (Y.move rfl) ?_
                          refine L.take rfl ?_
                          refine L.ite h rfl (Y.neq rfl rfl) (fun c144 h => ?_) (fun c144 h => ?_)
                          ·
                            refine L.y rfl (Y.pickF rfl rfl) ?_
                            refine L.nil ?_
                            refine E.thenN ?_
                            refine W.condT rfl ?_
                            refine W.seq ?_
                            refine W.region ?_
                            refine L.y rfl (Y.assign rfl) ?_
                            refine L.nil ?_
                            refine E.thenN ?_
                            refine W.ret ?_
                            refine E.KSR ?_
                            refine E.ret1 rfl rfl (fun w1 hw => ?_)
                            obtain rfl := Option.some.inj h
                            exact ⟨_, _, rfl, ⟨rfl, rfl⟩, hw.sel [] (by decide) rfl⟩
                          ·
                            refine L.y rfl (Y.pickF rfl rfl) ?_
                            refine L.nil ?_
                            refine E.thenN ?_
                            refine W.condF rfl ?_
                            refine W.skip ?_
                            exact E.joinJ ⟨rfl, rfl, h⟩ ⟨rfl, rfl, rfl, rfl, rfl, rfl, rfl, rfl, trivial⟩ (fun _ hw => hw)
                        ·
                          replace h := iteT h
                          refine L.y rfl (Y.move rfl) ?_
                          refine L.pass rfl rfl (by nofun) ?_
                          refine L.pass rfl rfl (by nofun) ?_
                          refine L.y rfl (Y.pickT rfl rfl) ?_
                          refine L.nil ?_
                          refine E.thenN ?_
                          refine W.condT rfl ?_
                          refine W.seq ?_
                          refine W.region ?_
                          refine L.y rfl (Y.assign rfl) ?_
                          refine L.nil ?_
                          refine E.thenN ?_
                          refine W.ret ?_
                          refine E.KSR ?_
                          refine E.ret1 rfl rfl (fun w1 hw => ?_)
                          obtain rfl := Option.some.inj h
                          exact ⟨_, _, rfl, ⟨rfl, rfl⟩, hw.sel [] (by decide) rfl⟩
                    ·
                      replace h := iteT h
                      refine W.condT rfl ?_
                      refine W.seq ?_
                      refine W.region ?_
                      refine L.cutJ 8 (fun gs D => ∃ (gb44 : Bool), gs = [(2, .int .i64 a2), (4, pt b1 0), (14, .int .i64 x10), (15, st s13), (16, .int .i64 x14), (17, pt b20 0), (18, .int .i64 x18), (25, pt b111 0), (27, pt b115 0), (205, .bool gb44)] ∧ D = Cls w [] [.obj b115 [gv31] 127, .obj b111 [.slice none 0 0] 127, .obj b20 [v17] 127, .obj b1 [u0_0] 127, .sl gv31 143 2 (l117.map TSlot.row), .rd v17 2 (x16.Slots.map TSlot.row)] ∧ m13_quirlaw_LeafSays_K40 x10 a2 s13 x14 x16 x18 a0 gb44 = some r) ?_ ?_
                      ·
                        refine L.y rfl (Y.loadPW (i := 3) ag127 sz127 rfl rfl rfl) ?_
                        refine L.y rfl (Y.loadPW (i := 1) ag127 sz127 rfl rfl rfl) ?_
                        obtain ⟨b149, e150, h⟩ := bind1S h
                        refine L.y rfl (Y.does en89 rfl (fun w' hw => (w89_quirref_SameLeaf x7 (⟨[]⟩ : TLeaf) v8 (.slice none 0 0) w' _ e150 (As.at_ (hw.get (i := 7) rfl)) (At.nil w' _)).mono (fun _ _ h => h.1))) ?_
                        rcases b149 with _ | _
                        ·
                          replace h := iteF h
                          refine L.y rfl (Y.not rfl) ?_
                          refine L.y rfl (Y.move rfl) ?_
                          refine L.pass rfl rfl (by nofun) ?_
                          refine L.pass rfl rfl (by nofun) ?_
                          refine L.y rfl (Y.pickT rfl rfl) ?_
                          refine L.nil ?_
                          exact E.joinJ ⟨true, rfl, rfl, h⟩ ⟨rfl, rfl, rfl, rfl, rfl, rfl, rfl, rfl, rfl, rfl, trivial⟩ (fun _ hw => hw.sel [0, 1, 2, 4, 5, 6] (by decide) rfl)
                        ·
                          replace h := iteT h
                          refine L.y rfl (Y.not rfl) ?_
                          refine L.y rfl (Y.move rfl) ?_
                          refine L.take rfl ?_
                          refine L.y rfl (Y.move rfl) ?_
                          refine L.take rfl ?_
                          refine L.ite h rfl (Y.neq rfl rfl) (fun c151 h => ?_) (fun c151 h => ?_)
                          ·
                            refine L.y rfl (Y.pickF rfl rfl) ?_
                            refine L.nil ?_
                            exact E.joinJ ⟨true, rfl, rfl, h⟩ ⟨rfl, rfl, rfl, rfl, rfl, rfl, rfl, rfl, rfl, rfl, trivial⟩ (fun _ hw => hw.sel [0, 1, 2, 4, 5, 6] (by decide) rfl)
                          ·
                            refine L.y rfl (Y.pickF rfl rfl) ?_
                            refine L.nil ?_
                            exact E.joinJ ⟨false, rfl, rfl, h⟩ ⟨rfl, rfl, rfl, rfl, rfl, rfl, rfl, rfl, rfl, rfl, trivial⟩ (fun _ hw => hw.sel [0, 1, 2, 4, 5, 6] (by decide) rfl)
                      ·
                        rintro _ _ ⟨gb44, rfl, rfl, h⟩
                        rw [m13_quirlaw_LeafSays_K40] at h
                        rcases gb44 with _ | _
                        ·
                          replace h := iteF h
                          refine L.y rfl (Y.move rfl) ?_
                          refine L.take rfl ?_
                          refine L.y rfl (Y.move rfl) ?_
                          refine L.take rfl ?_
                          refine L.ite h rfl (Y.neq rfl rfl) (fun c148 h => ?_) (fun c148 h => ?_)
                          ·
                            refine L.y rfl (Y.pickF rfl rfl) ?_
                            refine L.nil ?_
                            refine E.thenN ?_
                            refine W.condT rfl ?_
                            refine W.seq ?_
                            refine W.region ?_
                            refine L.y rfl (Y.assign rfl) ?_
                            refine L.nil ?_
                            refine E.thenN ?_
                            refine W.ret ?_
                            refine E.KSR ?_
                            refine E.ret1 rfl rfl (fun w1 hw => ?_)
                            obtain rfl := Option.some.inj h
                            exact ⟨_, _, rfl, ⟨rfl, rfl⟩, hw.sel [] (by decide) rfl⟩
                          ·
                            refine L.y rfl (Y.pickF rfl rfl) ?_
                            refine L.nil ?_
                            refine E.thenN ?_
                            refine W.condF rfl ?_
                            refine W.skip ?_
                            exact E.joinJ ⟨rfl, rfl, h⟩ ⟨rfl, rfl, rfl, rfl, rfl, rfl, rfl, rfl, trivial⟩ (fun _ hw => hw)
                        ·
                          replace h := iteT h
                          refine L.y rfl (Y.move rfl) ?_
                          refine L.pass rfl rfl (by nofun) ?_
                          refine L.pass rfl rfl (by nofun) ?_
                          refine L.y rfl (Y.pickT rfl rfl) ?_
                          refine L.nil ?_
                          refine E.thenN ?_
                          refine W.condT rfl ?_
                          refine W.seq ?_
                          refine W.region ?_
                          refine L.y rfl (Y.assign rfl) ?_
                          refine L.nil ?_
                          refine E.thenN ?_
                          refine W.ret ?_
                          refine E.KSR ?_
                          refine E.ret1 rfl rfl (fun w1 hw => ?_)
                          obtain rfl := Option.some.inj h
                          exact ⟨_, _, rfl, ⟨rfl, rfl⟩, hw.sel [] (by decide) rfl⟩
                ·
                  rintro _ _ ⟨rfl, rfl, h⟩
                  rw [m13_quirlaw_LeafSays_K31] at h
                  refine W.seqJ (fun gs D => gs = [(2, .int .i64 a2), (4, pt b1 0), (15, st s13), (16, .int .i64 x14), (17, pt b20 0), (18, .int .i64 x18), (27, pt b115 0)] ∧ D = Cls w [] [.obj b115 [gv31] 127, .obj b20 [v17] 127, .obj b1 [u0_0] 127, .sl gv31 143 2 (l117.map TSlot.row), .rd v17 2 (x16.Slots.map TSlot.row)] ∧ m13_quirlaw_LeafSays_K32 a0 a2 s13 x14 x16 x18 = some r) ?_ ?_
                  ·
                    refine W.seqJ (fun gs D => ∃ (gb39 : Bool), gs = [(2, .int .i64 a2), (4, pt b1 0), (15, st s13), (16, .int .i64 x14), (17, pt b20 0), (18, .int .i64 x18), (25, pt b111 0), (27, pt b115 0), (240, .bool gb39)] ∧ D = Cls w [] [.obj b115 [gv31] 127, .obj b111 [.slice none 0 0] 127, .obj b20 [v17] 127, .obj b1 [u0_0] 127, .sl gv31 143 2 (l117.map TSlot.row), .rd v17 2 (x16.Slots.map TSlot.row)] ∧ m13_quirlaw_LeafSays_K35 s13 x14 x16 x18 a0 a2 gb39 = some r) ?_ ?_
                    ·
                      refine W.region ?_
                      refine L.cutJ 9 (fun gs D => ∃ (gb41 : Bool), gs = [(2, .int .i64 a2), (4, pt b1 0), (15, st s13), (16, .int .i64 x14), (17, pt b20 0), (18, .int .i64 x18), (25, pt b111 0), (27, pt b115 0), (231, .bool gb41)] ∧ D = Cls w [] [.obj b115 [gv31] 127, .obj b111 [.slice none 0 0] 127, .obj b20 [v17] 127, .obj b1 [u0_0] 127, .sl gv31 143 2 (l117.map TSlot.row), .rd v17 2 (x16.Slots.map TSlot.row)] ∧ m13_quirlaw_LeafSays_K37 s13 x14 x16 x18 a0 a2 gb41 = some r) ?_ ?_
                      ·
                        refine L.y rfl (Y.move rfl) ?_
                        refine L.ite h rfl (Y.lss rfl rfl) (fun c142 h => ?_) (fun c142 h => ?_)
                        ·
                          refine L.y rfl (Y.move rfl) ?_
                          refine L.pass rfl rfl (by nofun) ?_
                          refine L.pass rfl rfl (by nofun) ?_
                          refine L.pass rfl rfl (by nofun) ?_
                          refine L.pass rfl rfl (by nofun) ?_
                          refine L.pass rfl rfl (by nofun) ?_
                          refine L.y rfl (Y.pickT rfl rfl) ?_
                          refine L.nil ?_
                          exact E.joinJ ⟨true, rfl, rfl, h⟩ ⟨rfl, rfl, rfl, rfl, rfl, rfl, rfl, rfl, rfl, trivial⟩ (fun _ hw => hw)
                        ·
                          refine L.y rfl (Y.move rfl) ?_
                          refine L.take rfl ?_
                          refine L.y rfl (Y.move rfl) ?_
                          refine L.take rfl ?_
                          refine L.y rfl (Y.fieldP fd127_0 rfl) ?_
                          refine L.take rfl ?_
                          refine L.y rfl (Y.loadP (i := 3) ag125 rfl rfl rfl) ?_
                          refine L.take rfl ?_
                          refine L.y rfl (Y.lenM (g := TSlot.row) (l := a0.Slots) Try.underlying125 rfl (fun w' hw => hA0_0.cls0 hw)) ?_
                          refine L.take rfl ?_
                          refine L.ite h rfl (Y.geq rfl rfl) (fun c143 h => ?_) (fun c143 h => ?_)
                          ·
                            refine L.y rfl (Y.pickF rfl rfl) ?_
                            refine L.nil ?_
                            exact E.joinJ ⟨true, rfl, rfl, h⟩ ⟨rfl, rfl, rfl, rfl, rfl, rfl, rfl, rfl, rfl, trivial⟩ (fun _ hw => hw)
                          ·
                            refine L.y rfl (Y.pickF rfl rfl) ?_
                            refine L.nil ?_
                            exact E.joinJ ⟨false, rfl, rfl, h⟩ ⟨rfl, rfl, rfl, rfl, rfl, rfl, rfl, rfl, rfl, trivial⟩ (fun _ hw => hw)
                      ·
                        rintro _ _ ⟨gb41, rfl, rfl, h⟩
                        rw [m13_quirlaw_LeafSays_K37] at h
                        rcases gb41 with _ | _
                        ·
                          replace h := iteF h
                          refine L.y rfl (Y.move rfl) ?_
                          refine L.take rfl ?_
                          refine L.y rfl (Y.fieldP fd127_0 rfl) ?_
                          refine L.take rfl ?_
                          refine L.y rfl (Y.loadP (i := 3) ag125 rfl rfl rfl) ?_
                          refine L.take rfl ?_
                          refine L.y rfl (Y.move rfl) ?_
                          refine L.take rfl ?_
                          refine L.m (V := fun _ => el u0_0 (a2.toNat * 2)) h rfl (Y.indexM (g := TSlot.row) (l := a0.Slots) Try.underlying125 sz143 rfl rfl (fun w' hw => hA0_0.cls0 hw)) (fun x140 ex140 h => ?_)
                          refine L.take rfl ?_
                          refine L.y rfl (Y.fieldE fd143_0 rfl) ?_
                          refine L.take rfl ?_
                          refine L.iteB h rfl (Y.loadE (u := .bool x140.Used) ag4 rfl (fun w' hw => hA0_0.cls0 hw) (idx_map ex140) rfl) (fun c141 h => ?_) (fun c141 h => ?_)
                          ·
                            refine L.take rfl ?_
                            refine L.y rfl (Y.not rfl) ?_
                            refine L.y rfl (Y.pickF rfl rfl) ?_
                            refine L.nil ?_
                            exact E.joinJ ⟨false, rfl, rfl, h⟩ ⟨rfl, rfl, rfl, rfl, rfl, rfl, rfl, rfl, rfl, trivial⟩ (fun _ hw => hw)
                          ·
                            refine L.take rfl ?_
                            refine L.y rfl (Y.not rfl) ?_
                            refine L.y rfl (Y.pickF rfl rfl) ?_
                            refine L.nil ?_
                            exact E.joinJ ⟨true, rfl, rfl, h⟩ ⟨rfl, rfl, rfl, rfl, rfl, rfl, rfl, rfl, rfl, trivial⟩ (fun _ hw => hw)
                        ·
                          replace h := iteT h
                          refine L.y rfl (Y.move rfl) ?_
                          refine L.pass rfl rfl (by nofun) ?_
                          refine L.pass rfl rfl (by nofun) ?_
                          refine L.pass rfl rfl (by nofun) ?_
                          refine L.pass rfl rfl (by nofun) ?_
                          refine L.pass rfl rfl (by nofun) ?_
                          refine L.pass rfl rfl (by nofun) ?_
                          refine L.pass rfl rfl (by nofun) ?_
                          refine L.y rfl (Y.pickT rfl rfl) ?_
                          refine L.nil ?_
                          exact E.joinJ ⟨true, rfl, rfl, h⟩ ⟨rfl, rfl, rfl, rfl, rfl, rfl, rfl, rfl, rfl, trivial⟩ (fun _ hw => hw)
                    ·
                      rintro _ _ ⟨gb39, rfl, rfl, h⟩
                      rw [m13_quirlaw_LeafSays_K35] at h
                      rcases gb39 with _ | _
                      ·
                        replace h := iteF h
                        refine W.condF rfl ?_
                        refine W.skip ?_
                        exact E.joinJ ⟨rfl, rfl, h⟩ ⟨rfl, rfl, rfl, rfl, rfl, rfl, rfl, trivial⟩ (fun _ hw => hw.sel [0, 2, 3, 4, 5] (by decide) rfl)
                      ·
                        replace h := iteT h
                        refine W.condT rfl ?_
                        refine W.seq ?_
                        refine W.region ?_
                        refine L.cutJ 6 (fun gs D => ∃ (gb40 : Bool), gs = [(17, pt b20 0), (18, .int .i64 x18), (25, pt b111 0), (246, .bool gb40)] ∧ D = Cls w [] [.obj b111 [.slice none 0 0] 127, .obj b20 [v17] 127, .rd v17 2 (x16.Slots.map TSlot.row)] ∧ m13_quirlaw_LeafSays_K36 x16 x18 gb40 = some r) ?_ ?_
                        ·
                          refine L.y rfl (Y.move rfl) ?_
                          refine L.ite h rfl (Y.eqlS rfl rfl) (fun c138 h => ?_) (fun c138 h => ?_)
                          ·
                            refine L.y rfl (Y.move rfl) ?_
                            refine L.take rfl ?_
                            refine L.y rfl (Y.move rfl) ?_
                            refine L.take rfl ?_
                            refine L.ite h rfl (Y.eql rfl rfl) (fun c139 h => ?_) (fun c139 h => ?_)
                            ·
                              refine L.y rfl (Y.pickT rfl rfl) ?_
                              refine L.nil ?_
                              exact E.joinJ ⟨true, rfl, rfl, h⟩ ⟨rfl, rfl, rfl, rfl, trivial⟩ (fun _ hw => hw.sel [1, 2, 5] (by decide) rfl)
                            ·
                              refine L.y rfl (Y.pickT rfl rfl) ?_
                              refine L.nil ?_
                              exact E.joinJ ⟨false, rfl, rfl, h⟩ ⟨rfl, rfl, rfl, rfl, trivial⟩ (fun _ hw => hw.sel [1, 2, 5] (by decide) rfl)
                          ·
                            refine L.y rfl (Y.move rfl) ?_
                            refine L.pass rfl rfl (by nofun) ?_
                            refine L.pass rfl rfl (by nofun) ?_
                            refine L.y rfl (Y.pickF rfl rfl) ?_
                            refine L.nil ?_
                            exact E.joinJ ⟨false, rfl, rfl, h⟩ ⟨rfl, rfl, rfl, rfl, trivial⟩ (fun _ hw => hw.sel [1, 2, 5] (by decide) rfl)
                        ·
                          rintro _ _ ⟨gb40, rfl, rfl, h⟩
                          rw [m13_quirlaw_LeafSays_K36] at h
                          rcases gb40 with _ | _
                          ·
                            replace h := iteF h
                            refine L.y rfl (Y.move rfl) ?_
                            refine L.pass rfl rfl (by nofun) ?_
                            refine L.pass rfl rfl (by nofun) ?_
                            refine L.pass rfl rfl (by nofun) ?_
                            refine L.y rfl (Y.pickF rfl rfl) ?_
                            refine L.y rfl (Y.move rfl) ?_
                            refine L.pass rfl rfl (by nofun) ?_
                            refine L.pass rfl rfl (by nofun) ?_
                            refine L.y rfl (Y.pickF rfl rfl) ?_
                            refine L.y rfl (Y.assign rfl) ?_
                            refine L.nil ?_
                            refine E.thenN ?_
                            refine W.ret ?_
                            refine E.KSR ?_
                            refine E.ret1 rfl rfl (fun w1 hw => ?_)
                            obtain rfl := Option.some.inj h
                            exact ⟨_, _, rfl, ⟨rfl, rfl⟩, hw.sel [] (by decide) rfl⟩
                          ·
                            replace h := iteT h
                            refine L.y rfl (Y.move rfl) ?_
                            refine L.take rfl ?_
                            refine L.y rfl (Y.loadPW (i := 1) ag127 sz127 rfl rfl rfl) ?_
                            refine L.take rfl ?_
                            refine L.y rfl (Y.loadPW (i := 0) ag127 sz127 rfl rfl rfl) ?_
                            refine L.take rfl ?_
                            obtain ⟨b136, e137, h⟩ := bind1S h
                            refine L.y rfl (Y.does en89 rfl (fun w' hw => (w89_quirref_SameLeaf x16 (⟨[]⟩ : TLeaf) v17 (.slice none 0 0) w' _ e137 (As.at2 (hw.get (i := 2) rfl)) (At.nil w' _)).mono (fun _ _ h => h.1))) ?_
                            rcases b136 with _ | _
                            ·
                              replace h := iteF h
                              refine L.y rfl (Y.pickT rfl rfl) ?_
                              refine L.y rfl (Y.move rfl) ?_
                              refine L.pass rfl rfl (by nofun) ?_
                              refine L.pass rfl rfl (by nofun) ?_
                              refine L.y rfl (Y.pickF rfl rfl) ?_
                              refine L.y rfl (Y.assign rfl) ?_
                              refine L.nil ?_
                              refine E.thenN ?_
                              refine W.ret ?_
                              refine E.KSR ?_
                              refine E.ret1 rfl rfl (fun w1 hw => ?_)
                              obtain rfl := Option.some.inj h
                              exact ⟨_, _, rfl, ⟨rfl, rfl⟩, hw.sel [] (by decide) rfl⟩
                            ·
                              replace h := iteT h
                              refine L.y rfl (Y.pickT rfl rfl) ?_
                              refine L.y rfl (Y.move rfl) ?_
                              refine L.take rfl ?_
                              refine L.y rfl (Y.move rfl) ?_
                              refine L.take rfl ?_
                              refine L.y rfl (Y.eql rfl rfl) ?_
                              refine L.y rfl (Y.pickT rfl rfl) ?_
                              refine L.y rfl (Y.assign rfl) ?_
                              refine L.nil ?_
                              refine E.thenN ?_
                              refine W.ret ?_
                              refine E.KSR ?_
                              refine E.ret1 rfl rfl (fun w1 hw => ?_)
                              obtain rfl := Option.some.inj h
                              exact ⟨_, _, rfl, ⟨rfl, rfl⟩, hw.sel [] (by decide) rfl⟩
                  ·
                    rintro _ _ ⟨rfl, rfl, h⟩
                    rw [m13_quirlaw_LeafSays_K32] at h
                    refine W.seq ?_
                    refine W.region ?_
                    refine L.y rfl (Y.fieldP fd127_0 rfl) ?_
                    refine L.y rfl (Y.loadP (i := 2) ag125 rfl rfl rfl) ?_
                    obtain ⟨l118, e120, h⟩ := bind1S h
                    refine L.does rfl en94 rfl (fun w' hw => w94_api_Slot a0.Slots u0_0 w' _ e120 (hA0_0.cls0 hw)) ?_
                    rintro v119 _ ⟨_, rfl, rfl⟩
                    refine L.y rfl (Y.buildC (cells := #[v119]) rfl (fun w hw => by rcases ((As.at_ (hw.get (i := 0) rfl))).shape with ⟨h0, _⟩ | ⟨_, _, h0, _, _⟩ <;> simp only [h0] <;> kernel_rfl)) ?_
                    refine L.storeC (i := 1) sz127 rfl rfl rfl rfl (fun w hw => (all1 (As.at_ (hw.get (i := 0) rfl)).one all0)) rfl (Nat.le_of_ble_eq_true rfl) ?_
                    refine L.nil ?_
                    refine E.thenN ?_
                    refine W.seq ?_
                    refine W.region ?_
                    refine L.y rfl (Y.fieldP fd127_0 rfl) ?_
                    refine L.y rfl (Y.loadP (i := 1) ag125 rfl rfl rfl) ?_
                    refine L.y rfl (Y.move rfl) ?_
                    refine L.y rfl (Y.build (cells := #[.bool false, st []]) rfl (by kernel_rfl)) ?_
                    refine L.m (V := fun _ => el v119 (a2.toNat * 2)) h rfl (Y.indexM (g := TSlot.row) (l := l118) Try.underlying125 sz143 rfl rfl (fun w hw => As.at_ (hw.get (i := 0) rfl))) (fun x121 ex121 h => ?_)
                    refine L.storeSlM (q := 0) (row := TSlot.row) (vs := [.bool false, st []]) (j := 0) (u1 := (⟨false, []⟩ : TSlot)) h sz143 rfl rfl rfl rfl rfl (all1 rfl (all1 rfl all0)) rfl ex121 rfl rfl ?_
                    intro l122 el122 h
                    refine L.nil ?_
                    refine E.thenN ?_
                    refine W.seqJ (fun gs D => ∃ (gv33 : Value) (gl34 : (List TSlot)), gs = [(2, .int .i64 a2), (4, pt b1 0), (15, st s13), (16, .int .i64 x14), (17, pt b20 0), (18, .int .i64 x18), (27, pt b115 0)] ∧ D = Cls w [] [.obj b115 [gv33] 127, .obj b20 [v17] 127, .obj b1 [u0_0] 127, .sl gv33 143 2 (gl34.map TSlot.row), .rd v17 2 (x16.Slots.map TSlot.row)] ∧ m13_quirlaw_LeafSays_K33 a0 a2 s13 x14 x16 x18 gl34 = some r) ?_ ?_
                    ·
                      refine W.seq ?_
                      refine W.region ?_
                      refine L.y rfl (Y.fieldP fd127_0 rfl) ?_
                      refine L.y rfl (Y.loadP (i := 1) ag125 rfl rfl rfl) ?_
                      refine L.y rfl (Y.lenM (g := TSlot.row) (l := l122) Try.underlying125 rfl (fun w hw => As.at_ (hw.get (i := 0) rfl))) ?_
                      refine L.y rfl (Y.assign rfl) ?_
                      refine L.nil ?_
                      refine E.thenN ?_
                      refine W.block ?_
                      refine W.loopJ (fun m gs D => ∃ (gx36 : Int) (gv37 : Value) (gl38 : (List TSlot)), gs = [(2, .int .i64 a2), (4, pt b1 0), (15, st s13), (16, .int .i64 x14), (17, pt b20 0), (18, .int .i64 x18), (27, pt b115 0), (28, .int .i64 gx36)] ∧ D = Cls w [] [.obj b115 [gv37] 127, .obj b20 [v17] 127, .obj b1 [u0_0] 127, .sl gv37 143 2 (gl38.map TSlot.row), .rd v17 2 (x16.Slots.map TSlot.row)] ∧ m13_quirlaw_LeafSays_L3 a0 a2 s13 x14 x16 x18 m gx36 gl38 = some r) ⟨(l122.length : Int), v119, l122, rfl, rfl, h⟩ ⟨rfl, rfl, rfl, rfl, rfl, rfl, rfl, rfl, trivial⟩ (fun _ hw => hw.sel [1, 2, 3, 0, 5] (by decide) rfl) ?_
                      rintro m _ _ ⟨gx36, gv37, gl38, rfl, rfl, h⟩
                      rcases m with _ | m
                      · rw [m13_quirlaw_LeafSays_L3] at h; cases h
                      rw [m13_quirlaw_LeafSays_L3] at h
                      generalize hg3 : m13_quirlaw_LeafSays_L3 a0 a2 s13 x14 x16 x18 m = go3 at h
                      rw [m13_quirlaw_LeafSays_L3B] at h
                      refine W.seq ?_
                      refine W.seq ?_
                      refine W.region ?_
                      refine L.y rfl (Y.move rfl) ?_
                      refine L.ite h rfl (Y.gtr rfl rfl) (fun c128 h => ?_) (fun c128 h => ?_)
                      ·
                        refine L.y rfl (Y.move rfl) ?_
                        refine L.take rfl ?_
                        refine L.y rfl (Y.fieldP fd127_0 rfl) ?_
                        refine L.take rfl ?_
                        refine L.y rfl (Y.loadP (i := 0) ag125 rfl rfl rfl) ?_
                        refine L.take rfl ?_
                        refine L.y rfl (Y.move rfl) ?_
                        refine L.take rfl ?_
                        refine L.m (V := fun x129 => .int .i64 x129) h rfl (Y.subM rfl rfl) (fun x129 ex129 h => ?_)
                        refine L.take rfl ?_
                        refine L.m (V := fun _ => el gv37 (x129.toNat * 2)) h rfl (Y.indexM (g := TSlot.row) (l := gl38) Try.underlying125 sz143 rfl rfl (fun w hw => As.at_ (hw.get (i := 3) rfl))) (fun x130 ex130 h => ?_)
                        refine L.take rfl ?_
                        refine L.y rfl (Y.fieldE fd143_0 rfl) ?_
                        refine L.take rfl ?_
                        refine L.iteB h rfl (Y.loadE (u := .bool x130.Used) ag4 rfl (fun w hw => As.at_ (hw.get (i := 3) rfl)) (idx_map ex130) rfl) (fun c131 h => ?_) (fun c131 h => ?_)
                        ·
                          refine L.take rfl ?_
                          refine L.y rfl (Y.not rfl) ?_
                          refine L.y rfl (Y.pickT rfl rfl) ?_
                          refine L.nil ?_
                          refine E.thenN ?_
                          refine W.condF rfl ?_
                          refine W.exit ?_
                          refine E.thenX ?_
                          refine E.KLX ?_
                          refine E.blockX ?_
                          exact E.joinJ ⟨gv37, gl38, rfl, rfl, h⟩ ⟨rfl, rfl, rfl, rfl, rfl, rfl, rfl, trivial⟩ (fun _ hw => hw)
                        ·
                          refine L.take rfl ?_
                          refine L.y rfl (Y.not rfl) ?_
                          refine L.y rfl (Y.pickT rfl rfl) ?_
                          refine L.nil ?_
                          refine E.thenN ?_
                          refine W.condT rfl ?_
                          refine W.skip ?_
                          refine E.thenN ?_
                          refine W.seq ?_
                          refine W.block ?_
                          refine W.region ?_
                          refine L.y rfl (Y.fieldP fd127_0 rfl) ?_
                          refine L.y rfl (Y.loadP (i := 0) ag125 rfl rfl rfl) ?_
                          refine L.y rfl (Y.move rfl) ?_
                          refine L.m (V := fun x132 => .int .i64 x132) h rfl (Y.subM rfl rfl) (fun x132 ex132 h => ?_)
                          obtain ⟨l133, el133, h⟩ := bind1S h
                          refine L.cutM (i := 3) (g := TSlot.row) el133 rfl Try.underlying125 sz143 rfl rfl rfl (fun v134 => ?_)
                          refine L.y rfl (Y.fieldP fd127_0 rfl) ?_
                          refine L.storeV (i := 0) sz125 rfl rfl (fun _ hw => (As.at_ (hw.get (i := 3) rfl)).one) rfl (Nat.le_of_ble_eq_true rfl) ?_
                          refine L.nil ?_
                          refine E.blockN ?_
                          refine E.thenN ?_
                          refine W.region ?_
                          refine L.y rfl (Y.move rfl) ?_
                          refine L.m (V := fun x135 => .int .i64 x135) h rfl (Y.subM rfl rfl) (fun x135 ex135 h => ?_)
                          refine L.y rfl (Y.assign rfl) ?_
                          refine L.nil ?_
                          exact E.againJ ⟨x135, v134, l133, rfl, rfl, by rw [hg3]; exact h⟩ (Nat.lt_succ_self _) ⟨rfl, rfl, rfl, rfl, rfl, rfl, rfl, rfl, trivial⟩ (fun _ hw => hw)
                      ·
                        refine L.y rfl (Y.move rfl) ?_
                        refine L.pass rfl rfl (by nofun) ?_
                        refine L.pass rfl rfl (by nofun) ?_
                        refine L.pass rfl rfl (by nofun) ?_
                        refine L.pass rfl rfl (by nofun) ?_
                        refine L.pass rfl rfl (by nofun) ?_
                        refine L.pass rfl rfl (by nofun) ?_
                        refine L.pass rfl rfl (by nofun) ?_
                        refine L.pass rfl rfl (by nofun) ?_
                        refine L.y rfl (Y.pickF rfl rfl) ?_
                        refine L.nil ?_
                        refine E.thenN ?_
                        refine W.condF rfl ?_
                        refine W.exit ?_
                        refine E.thenX ?_
                        refine E.KLX ?_
                        refine E.blockX ?_
                        exact E.joinJ ⟨gv37, gl38, rfl, rfl, h⟩ ⟨rfl, rfl, rfl, rfl, rfl, rfl, rfl, trivial⟩ (fun _ hw => hw)
                    ·
                      rintro _ _ ⟨gv33, gl34, rfl, rfl, h⟩
                      rw [m13_quirlaw_LeafSays_K33] at h
                      refine W.seq ?_
                      refine W.region ?_
                      refine L.cutJ 12 (fun gs D => ∃ (gb35 : Bool), gs = [(17, pt b20 0), (18, .int .i64 x18), (27, pt b115 0), (299, .bool gb35)] ∧ D = Cls w [] [.obj b115 [gv33] 127, .obj b20 [v17] 127, .sl gv33 143 2 (gl34.map TSlot.row), .rd v17 2 (x16.Slots.map TSlot.row)] ∧ m13_quirlaw_LeafSays_K34 x16 gl34 x18 gb35 = some r) ?_ ?_
                      ·
                        refine L.y rfl (Y.move rfl) ?_
                        refine L.y rfl (Y.fieldP fd127_0 rfl) ?_
                        refine L.y rfl (Y.loadP (i := 2) ag125 rfl rfl rfl) ?_
                        refine L.y rfl (Y.move rfl) ?_
                        refine L.m (V := fun _ => el u0_0 (a2.toNat * 2)) h rfl (Y.indexM (g := TSlot.row) (l := a0.Slots) Try.underlying125 sz143 rfl rfl (fun w' hw => hA0_0.cls0 hw)) (fun x125 ex125 h => ?_)
                        refine L.y rfl (Y.fieldE fd143_1 rfl) ?_
                        refine L.y rfl (Y.loadE (u := st x125.Text) ag9 rfl (fun w' hw => hA0_0.cls0 hw) (idx_map ex125) rfl) ?_
                        refine L.ite h rfl (Y.eqlS rfl rfl) (fun c126 h => ?_) (fun c126 h => ?_)
                        ·
                          refine L.y rfl (Y.move rfl) ?_
                          refine L.take rfl ?_
                          refine L.y rfl (Y.move rfl) ?_
                          refine L.take rfl ?_
                          refine L.ite h rfl (Y.eql rfl rfl) (fun c127 h => ?_) (fun c127 h => ?_)
                          ·
                            refine L.y rfl (Y.pickT rfl rfl) ?_
                            refine L.nil ?_
                            exact E.joinJ ⟨true, rfl, rfl, h⟩ ⟨rfl, rfl, rfl, rfl, trivial⟩ (fun _ hw => hw.sel [0, 1, 3, 4] (by decide) rfl)
                          ·
                            refine L.y rfl (Y.pickT rfl rfl) ?_
                            refine L.nil ?_
                            exact E.joinJ ⟨false, rfl, rfl, h⟩ ⟨rfl, rfl, rfl, rfl, trivial⟩ (fun _ hw => hw.sel [0, 1, 3, 4] (by decide) rfl)
                        ·
                          refine L.y rfl (Y.move rfl) ?_
                          refine L.pass rfl rfl (by nofun) ?_
                          refine L.pass rfl rfl (by nofun) ?_
                          refine L.y rfl (Y.pickF rfl rfl) ?_
                          refine L.nil ?_
                          exact E.joinJ ⟨false, rfl, rfl, h⟩ ⟨rfl, rfl, rfl, rfl, trivial⟩ (fun _ hw => hw.sel [0, 1, 3, 4] (by decide) rfl)
                      ·
                        rintro _ _ ⟨gb35, rfl, rfl, h⟩
                        rw [m13_quirlaw_LeafSays_K34] at h
                        rcases gb35 with _ | _
                        ·
                          replace h := iteF h
                          refine L.y rfl (Y.move rfl) ?_
                          refine L.pass rfl rfl (by nofun) ?_
                          refine L.pass rfl rfl (by nofun) ?_
                          refine L.pass rfl rfl (by nofun) ?_
                          refine L.y rfl (Y.pickF rfl rfl) ?_
                          refine L.y rfl (Y.move rfl) ?_
                          refine L.pass rfl rfl (by nofun) ?_
                          refine L.pass rfl rfl (by nofun) ?_
                          refine L.y rfl (Y.pickF rfl rfl) ?_
                          refine L.y rfl (Y.assign rfl) ?_
                          refine L.nil ?_
                          refine E.thenN ?_
                          refine W.ret ?_
                          refine E.ret1 rfl rfl (fun w1 hw => ?_)
                          obtain rfl := Option.some.inj h
                          exact ⟨_, _, rfl, ⟨rfl, rfl⟩, hw.sel [] (by decide) rfl⟩
                        ·
                          replace h := iteT h
                          refine L.y rfl (Y.move rfl) ?_
                          refine L.take rfl ?_
                          refine L.y rfl (Y.loadPW (i := 1) ag127 sz127 rfl rfl rfl) ?_
                          refine L.take rfl ?_
                          refine L.y rfl (Y.loadPW (i := 0) ag127 sz127 rfl rfl rfl) ?_
                          refine L.take rfl ?_
                          obtain ⟨b123, e124, h⟩ := bind1S h
                          refine L.y rfl (Y.does en89 rfl (fun w' hw => (w89_quirref_SameLeaf x16 (⟨gl34⟩ : TLeaf) v17 gv33 w' _ e124 (As.at2 (hw.get (i := 3) rfl)) (As.at_ (hw.get (i := 2) rfl))).mono (fun _ _ h => h.1))) ?_
                          rcases b123 with _ | _
                          ·
                            replace h := iteF h
                            refine L.y rfl (Y.pickT rfl rfl) ?_
                            refine L.y rfl (Y.move rfl) ?_
                            refine L.pass rfl rfl (by nofun) ?_
                            refine L.pass rfl rfl (by nofun) ?_
                            refine L.y rfl (Y.pickF rfl rfl) ?_
                            refine L.y rfl (Y.assign rfl) ?_
                            refine L.nil ?_
                            refine E.thenN ?_
                            refine W.ret ?_
                            refine E.ret1 rfl rfl (fun w1 hw => ?_)
                            obtain rfl := Option.some.inj h
                            exact ⟨_, _, rfl, ⟨rfl, rfl⟩, hw.sel [] (by decide) rfl⟩
                          ·
                            replace h := iteT h
                            refine L.y rfl (Y.pickT rfl rfl) ?_
                            refine L.y rfl (Y.move rfl) ?_
                            refine L.take rfl ?_
                            refine L.y rfl (Y.move rfl) ?_
                            refine L.take rfl ?_
                            refine L.y rfl (Y.eql rfl rfl) ?_
                            refine L.y rfl (Y.pickT rfl rfl) ?_
                            refine L.y rfl (Y.assign rfl) ?_
                            refine L.nil ?_
                            refine E.thenN ?_
                            refine W.ret ?_
                            refine E.ret1 rfl rfl (fun w1 hw => ?_)
                            obtain rfl := Option.some.inj h
                            exact ⟨_, _, rfl, ⟨rfl, rfl⟩, hw.sel [] (by decide) rfl⟩
end Go.Proofs.Ytfmgjigdebofaaa
