/-
  Walks, printed by a program of mine.
  Conditions: none.
-/
import Derived.Test.YtanpiecpmmcaeaaBuW1
import Derived.Test.YtanpiecpmmcaeaaChecked
import Derived.KernelRfl
import Derived.Test.YtanpiecpmmcaeaaBuO
namespace Go.Proofs.Ytanpiecpmmcaeaa
open Go.S
set_option linter.unusedVariables false
set_option linter.unusedSimpArgs false
set_option maxRecDepth 100000 in
set_option maxHeartbeats 8000000 in
theorem w3_quirlaw_BuddySays (a0 : TBuddy) (a1 : Int) (a2 : Int) (u0_0 : Value) (w : World) (r : Bool) (h : m3_quirlaw_BuddySays a0 a1 a2 = some r) (hA0_0 : At w u0_0 2 (a0.Taken.map TBlock.row)) : Does Try.prog 3 [.agg #[.int .i64 a0.Order, u0_0], .int .i64 a1, .int .i64 a2] w fun u m => u = .bool r ∧ m = [] := by
  rw [m3_quirlaw_BuddySays] at h
  refine body (n := 219) Try.func3 rfl rfl rfl (Cls.refl w) ?_
  refine W.seq (W.region (L.box rfl rfl ?_))
  intro b1
  refine L.box rfl rfl ?_
  intro b2
  refine L.y rfl (Y.assign rfl) ?_
  refine L.nil (E.thenN (W.seq (W.region (L.y rfl (Y.loadPW (i := 1) ag24 sz24 rfl rfl rfl) ?_))))
  obtain ⟨x3, e4, h⟩ := bind1S h
  refine L.y rfl (Y.does en4 rfl (fun w' hw => (w4_quirref_BuddyErr a0 u0_0 w' _ e4 (hA0_0.cls0 hw)).mono (fun _ _ h => h.1))) ?_
  refine L.y rfl (Y.assign rfl) ?_
  refine L.nil (E.thenN (W.seq (W.region (L.y rfl (Y.loadPW (i := 1) ag24 sz24 rfl rfl rfl) ?_))))
  obtain ⟨l5, x7, e8, h⟩ := bind2S h
  refine L.does rfl en5 rfl (fun w' hw => w5_buddy_Free a0 u0_0 w' _ e8 (hA0_0.cls0 hw)) ?_
  rintro _ _ ⟨v6, rfl, rfl⟩
  refine L.y rfl (Y.move rfl) ?_
  refine L.y rfl (Y.extract rfl rfl) ?_
  refine L.y rfl (Y.extract rfl rfl) ?_
  refine L.y rfl (Y.assign rfl) ?_
  refine L.y rfl (Y.assign rfl) ?_
  refine L.nil (E.thenN (W.seq (W.region (L.y rfl (Y.loadPW (i := 2) ag24 sz24 rfl rfl rfl) ?_))))
  refine L.y rfl (Y.move rfl) ?_
  obtain ⟨x9, x11, x12, e13, h⟩ := bind3S h
  refine L.does rfl en6 rfl (fun w' hw => w6_buddy_Take a0 a1 u0_0 w' _ e13 (hA0_0.cls0 hw)) ?_
  rintro _ _ ⟨v10, rfl, rfl⟩
  refine L.y rfl (Y.move rfl) ?_
  refine L.y rfl (Y.extract rfl rfl) ?_
  refine L.y rfl (Y.extract rfl rfl) ?_
  refine L.y rfl (Y.extract rfl rfl) ?_
  refine L.alloc rfl ze24 ?_
  intro b14
  refine L.storeC (i := 0) sz24 rfl rfl rfl rfl (fun w hw => (all1 rfl (all1 (As.at_ (hw.get (i := 1) rfl)).one all0))) rfl (Nat.le_of_ble_eq_true rfl) ?_
  refine L.y rfl (Y.assign rfl) ?_
  refine L.y rfl (Y.assign rfl) ?_
  refine L.nil (E.thenN (W.seq (W.region (L.y rfl (Y.loadPW (i := 4) ag24 sz24 rfl rfl rfl) ?_))))
  refine L.y rfl (Y.loadP (i := 3) ag3 rfl rfl rfl) ?_
  obtain ⟨x15, x17, e18, h⟩ := bind2S h
  refine L.does rfl en7 rfl (fun w' hw => w7_buddy_Drop a0 a2 u0_0 w' _ e18 (hA0_0.cls0 hw)) ?_
  rintro _ _ ⟨v16, rfl, rfl⟩
  refine L.y rfl (Y.move rfl) ?_
  refine L.y rfl (Y.extract rfl rfl) ?_
  refine L.y rfl (Y.extract rfl rfl) ?_
  refine L.alloc rfl ze24 ?_
  intro b19
  refine L.storeC (i := 0) sz24 rfl rfl rfl rfl (fun w hw => (all1 rfl (all1 (As.at_ (hw.get (i := 1) rfl)).one all0))) rfl (Nat.le_of_ble_eq_true rfl) ?_
  refine L.y rfl (Y.assign rfl) ?_
  refine L.nil (E.thenN (W.seq (W.region (L.y rfl (Y.build (cells := #[.int .i64 0, .slice none 0 0]) rfl (by kernel_rfl)) ?_))))
  refine L.alloc rfl ze24 ?_
  intro b20
  refine L.store (i := 0) (vs := [.int .i64 0, .slice none 0 0]) sz24 rfl rfl rfl rfl (by simp [Value.oneCell', Value.cells, st, pt]) rfl (Nat.le_of_ble_eq_true rfl) ?_
  refine L.nil (E.thenN (W.seqJ (fun gs D => gs = [(1, .int .i64 a1), (3, pt b1 0), (5, pt b2 0), (7, .int .i64 x3), (8, v6), (9, .int .i64 x7), (10, pt b14 0), (11, .int .i64 x11), (12, .int .i64 x12), (13, pt b19 0), (14, .int .i64 x17), (15, pt b20 0)] ∧ D = Cls w [] [.obj b20 [.int .i64 0, .slice none 0 0] 24, .obj b19 [.int .i64 x15.Order, v16] 24, .obj b14 [.int .i64 x9.Order, v10] 24, .obj b2 [.int .i64 a2] 3, .obj b1 [.int .i64 a0.Order, u0_0] 24, .sl v6 37 2 (l5.map TBlock.row), .sl v16 37 2 (x15.Taken.map TBlock.row), .sl v10 37 2 (x9.Taken.map TBlock.row)] ∧ m3_quirlaw_BuddySays_K1 x3 l5 x7 x9 x11 x12 x15 x17 a0 a2 a1 = some r) ?_ ?_))
  ·
   refine W.seq (W.region (L.y rfl (Y.loadPW (i := 7) ag24 sz24 rfl rfl rfl) ?_))
   obtain ⟨x150, e151, h⟩ := bind1S h
   refine L.y rfl (Y.does en8 rfl (fun w' hw => (w8_buddy_Check a0 u0_0 w' _ e151 (hA0_0.cls0 hw)).mono (fun _ _ h => h.1))) ?_
   refine L.y rfl (Y.move rfl) ?_
   refine L.ite h rfl (Y.neq rfl rfl) (fun c152 h => ?_) (fun c152 h => ?_)
   ·
    refine L.nil (E.thenN (W.condT rfl ?_))
    refine W.seq (W.region (L.y rfl (Y.assign rfl) ?_))
    refine L.nil (E.thenN (W.ret (E.KSR (E.ret1 rfl rfl (fun w1 hw => ?_)))))
    obtain rfl := Option.some.inj h
    exact ⟨_, _, rfl, ⟨rfl, rfl⟩, hw.sel [] (by decide) rfl⟩
   ·
    refine L.nil (E.thenN (W.condF rfl ?_))
    exact W.skip (E.joinJ ⟨rfl, rfl, h⟩ ⟨rfl, rfl, rfl, rfl, rfl, rfl, rfl, rfl, rfl, rfl, rfl, rfl, trivial⟩ (fun _ hw => hw.sel [0, 1, 3, 6, 7, 5, 2, 4] (by decide) rfl))
  ·
   rintro _ _ ⟨rfl, rfl, h⟩
   rw [m3_quirlaw_BuddySays_K1] at h
   refine W.seqJ (fun gs D => gs = [(1, .int .i64 a1), (3, pt b1 0), (5, pt b2 0), (8, v6), (9, .int .i64 x7), (10, pt b14 0), (11, .int .i64 x11), (12, .int .i64 x12), (13, pt b19 0), (14, .int .i64 x17), (15, pt b20 0)] ∧ D = Cls w [] [.obj b20 [.int .i64 0, .slice none 0 0] 24, .obj b19 [.int .i64 x15.Order, v16] 24, .obj b14 [.int .i64 x9.Order, v10] 24, .obj b2 [.int .i64 a2] 3, .obj b1 [.int .i64 a0.Order, u0_0] 24, .sl v6 37 2 (l5.map TBlock.row), .sl v16 37 2 (x15.Taken.map TBlock.row), .sl v10 37 2 (x9.Taken.map TBlock.row)] ∧ m3_quirlaw_BuddySays_K2 a0 l5 x7 a2 x15 x17 a1 x9 x11 x12 = some r) ?_ ?_
   ·
    refine W.seq (W.region (L.y rfl (Y.move rfl) ?_))
    refine L.ite h rfl (Y.neq rfl rfl) (fun c141 h => ?_) (fun c141 h => ?_)
    ·
     refine L.nil (E.thenN (W.condT rfl ?_))
     refine W.seq (W.region (L.cutJ 8 (fun gs D => ∃ (gb15 : Bool), gs = [(7, .int .i64 x3), (10, pt b14 0), (11, .int .i64 x11), (12, .int .i64 x12), (13, pt b19 0), (14, .int .i64 x17), (15, pt b20 0), (57, .bool gb15)] ∧ D = Cls w [] [.obj b20 [.int .i64 0, .slice none 0 0] 24, .obj b19 [.int .i64 x15.Order, v16] 24, .obj b14 [.int .i64 x9.Order, v10] 24, .sl v16 37 2 (x15.Taken.map TBlock.row), .sl v10 37 2 (x9.Taken.map TBlock.row)] ∧ m3_quirlaw_BuddySays_K20 x9 x11 x12 x3 x15 x17 gb15 = some r) ?_ ?_))
     ·
      refine L.y rfl (Y.move rfl) ?_
      refine L.y rfl (Y.lenM (g := TBlock.row) (l := l5) Try.underlying22 rfl (fun w hw => As.at_ (hw.get (i := 5) rfl))) ?_
      refine L.ite h rfl (Y.eql rfl rfl) (fun c148 h => ?_) (fun c148 h => ?_)
      ·
       refine L.y rfl (Y.move rfl) ?_
       refine L.take rfl (L.y rfl (Y.move rfl) ?_)
       refine L.take rfl (L.y rfl (Y.move rfl) ?_)
       refine L.take rfl (L.ite h rfl (Y.eql rfl rfl) (fun c149 h => ?_) (fun c149 h => ?_))
       ·
        refine L.y rfl (Y.pickT rfl rfl) ?_
        exact L.nil (E.joinJ ⟨true, rfl, rfl, h⟩ ⟨rfl, rfl, rfl, rfl, rfl, rfl, rfl, rfl, trivial⟩ (fun _ hw => hw.sel [0, 1, 2, 6, 7] (by decide) rfl))
       ·
        refine L.y rfl (Y.pickT rfl rfl) ?_
        exact L.nil (E.joinJ ⟨false, rfl, rfl, h⟩ ⟨rfl, rfl, rfl, rfl, rfl, rfl, rfl, rfl, trivial⟩ (fun _ hw => hw.sel [0, 1, 2, 6, 7] (by decide) rfl))
      ·
       refine L.y rfl (Y.move rfl) ?_
       refine L.pass rfl rfl (by nofun) ?_
       refine L.pass rfl rfl (by nofun) ?_
       refine L.pass rfl rfl (by nofun) ?_
       refine L.y rfl (Y.pickF rfl rfl) ?_
       exact L.nil (E.joinJ ⟨false, rfl, rfl, h⟩ ⟨rfl, rfl, rfl, rfl, rfl, rfl, rfl, rfl, trivial⟩ (fun _ hw => hw.sel [0, 1, 2, 6, 7] (by decide) rfl))
     ·
      rintro _ _ ⟨gb15, rfl, rfl, h⟩
      rw [m3_quirlaw_BuddySays_K20] at h
      rcases gb15 with _ | _
      ·
       replace h := iteF h
       refine L.y rfl (Y.move rfl) ?_
       refine L.pass rfl rfl (by nofun) ?_
       refine L.pass rfl rfl (by nofun) ?_
       refine L.pass rfl rfl (by nofun) ?_
       refine L.y rfl (Y.pickF rfl rfl) ?_
       refine L.y rfl (Y.move rfl) ?_
       refine L.pass rfl rfl (by nofun) ?_
       refine L.pass rfl rfl (by nofun) ?_
       refine L.y rfl (Y.pickF rfl rfl) ?_
       refine L.y rfl (Y.move rfl) ?_
       refine L.pass rfl rfl (by nofun) ?_
       refine L.pass rfl rfl (by nofun) ?_
       refine L.pass rfl rfl (by nofun) ?_
       refine L.y rfl (Y.pickF rfl rfl) ?_
       refine L.y rfl (Y.move rfl) ?_
       refine L.pass rfl rfl (by nofun) ?_
       refine L.pass rfl rfl (by nofun) ?_
       refine L.pass rfl rfl (by nofun) ?_
       refine L.y rfl (Y.pickF rfl rfl) ?_
       refine L.y rfl (Y.move rfl) ?_
       refine L.pass rfl rfl (by nofun) ?_
       refine L.pass rfl rfl (by nofun) ?_
       refine L.pass rfl rfl (by nofun) ?_
       refine L.y rfl (Y.pickF rfl rfl) ?_
       refine L.y rfl (Y.assign rfl) ?_
       refine L.nil (E.thenN (W.ret (E.KSR (E.ret1 rfl rfl (fun w1 hw => ?_)))))
       obtain rfl := Option.some.inj h
       exact ⟨_, _, rfl, ⟨rfl, rfl⟩, hw.sel [] (by decide) rfl⟩
      ·
       replace h := iteT h
       refine L.cutJ 9 (fun gs D => ∃ (gb16 : Bool), gs = [(7, .int .i64 x3), (12, .int .i64 x12), (13, pt b19 0), (14, .int .i64 x17), (15, pt b20 0), (66, .bool gb16)] ∧ D = Cls w [] [.obj b20 [.int .i64 0, .slice none 0 0] 24, .obj b19 [.int .i64 x15.Order, v16] 24, .sl v16 37 2 (x15.Taken.map TBlock.row)] ∧ m3_quirlaw_BuddySays_K21 x12 x3 x15 x17 gb16 = some r) ?_ ?_
       ·
        refine L.y rfl (Y.move rfl) ?_
        refine L.take rfl (L.y rfl (Y.loadPW (i := 2) ag24 sz24 rfl rfl rfl) ?_)
        refine L.take rfl (L.y rfl (Y.loadPW (i := 0) ag24 sz24 rfl rfl rfl) ?_)
        refine L.take rfl ?_
        obtain ⟨b145, e146, h⟩ := bind1S h
        refine L.y rfl (Y.does en9 rfl (fun w' hw => (w9_quirref_SameBuddy x9 (⟨0, []⟩ : TBuddy) v10 (.slice none 0 0) w' _ e146 (As.at_ (hw.get (i := 4) rfl)) (At.nil w' _)).mono (fun _ _ h => h.1))) ?_
        rcases b145 with _ | _
        ·
         replace h := iteF h
         refine L.y rfl (Y.pickT rfl rfl) ?_
         refine L.y rfl (Y.move rfl) ?_
         refine L.pass rfl rfl (by nofun) ?_
         refine L.pass rfl rfl (by nofun) ?_
         refine L.y rfl (Y.pickF rfl rfl) ?_
         exact L.nil (E.joinJ ⟨false, rfl, rfl, h⟩ ⟨rfl, rfl, rfl, rfl, rfl, rfl, trivial⟩ (fun _ hw => hw.sel [0, 1, 3] (by decide) rfl))
        ·
         replace h := iteT h
         refine L.y rfl (Y.pickT rfl rfl) ?_
         refine L.y rfl (Y.move rfl) ?_
         refine L.take rfl (L.y rfl (Y.move rfl) ?_)
         refine L.take rfl (L.ite h rfl (Y.eql rfl rfl) (fun c147 h => ?_) (fun c147 h => ?_))
         ·
          refine L.y rfl (Y.pickT rfl rfl) ?_
          exact L.nil (E.joinJ ⟨true, rfl, rfl, h⟩ ⟨rfl, rfl, rfl, rfl, rfl, rfl, trivial⟩ (fun _ hw => hw.sel [0, 1, 3] (by decide) rfl))
         ·
          refine L.y rfl (Y.pickT rfl rfl) ?_
          exact L.nil (E.joinJ ⟨false, rfl, rfl, h⟩ ⟨rfl, rfl, rfl, rfl, rfl, rfl, trivial⟩ (fun _ hw => hw.sel [0, 1, 3] (by decide) rfl))
       ·
        rintro _ _ ⟨gb16, rfl, rfl, h⟩
        rw [m3_quirlaw_BuddySays_K21] at h
        rcases gb16 with _ | _
        ·
         replace h := iteF h
         refine L.y rfl (Y.move rfl) ?_
         refine L.pass rfl rfl (by nofun) ?_
         refine L.pass rfl rfl (by nofun) ?_
         refine L.pass rfl rfl (by nofun) ?_
         refine L.y rfl (Y.pickF rfl rfl) ?_
         refine L.y rfl (Y.move rfl) ?_
         refine L.pass rfl rfl (by nofun) ?_
         refine L.pass rfl rfl (by nofun) ?_
         refine L.pass rfl rfl (by nofun) ?_
         refine L.y rfl (Y.pickF rfl rfl) ?_
         refine L.y rfl (Y.move rfl) ?_
         refine L.pass rfl rfl (by nofun) ?_
         refine L.pass rfl rfl (by nofun) ?_
         refine L.pass rfl rfl (by nofun) ?_
         refine L.y rfl (Y.pickF rfl rfl) ?_
         refine L.y rfl (Y.assign rfl) ?_
         refine L.nil (E.thenN (W.ret (E.KSR (E.ret1 rfl rfl (fun w1 hw => ?_)))))
         obtain rfl := Option.some.inj h
         exact ⟨_, _, rfl, ⟨rfl, rfl⟩, hw.sel [] (by decide) rfl⟩
        ·
         replace h := iteT h
         refine L.cutJ 10 (fun gs D => ∃ (gb17 : Bool), gs = [(7, .int .i64 x3), (14, .int .i64 x17), (76, .bool gb17)] ∧ D = Cls w [] [] ∧ m3_quirlaw_BuddySays_K22 x17 x3 gb17 = some r) ?_ ?_
         ·
          refine L.y rfl (Y.move rfl) ?_
          refine L.take rfl (L.y rfl (Y.move rfl) ?_)
          refine L.take rfl (L.y rfl (Y.move rfl) ?_)
          refine L.take rfl (L.ite h rfl (Y.eql rfl rfl) (fun c142 h => ?_) (fun c142 h => ?_))
          ·
           refine L.y rfl (Y.pickT rfl rfl) ?_
           refine L.y rfl (Y.move rfl) ?_
           refine L.take rfl (L.y rfl (Y.loadPW (i := 1) ag24 sz24 rfl rfl rfl) ?_)
           refine L.take rfl (L.y rfl (Y.loadPW (i := 0) ag24 sz24 rfl rfl rfl) ?_)
           refine L.take rfl ?_
           obtain ⟨b143, e144, h⟩ := bind1S h
           refine L.y rfl (Y.does en9 rfl (fun w' hw => (w9_quirref_SameBuddy x15 (⟨0, []⟩ : TBuddy) v16 (.slice none 0 0) w' _ e144 (As.at_ (hw.get (i := 2) rfl)) (At.nil w' _)).mono (fun _ _ h => h.1))) ?_
           rcases b143 with _ | _
           ·
            replace h := iteF h
            refine L.y rfl (Y.pickT rfl rfl) ?_
            exact L.nil (E.joinJ ⟨false, rfl, rfl, h⟩ ⟨rfl, rfl, rfl, trivial⟩ (fun _ hw => hw.sel [] (by decide) rfl))
           ·
            replace h := iteT h
            refine L.y rfl (Y.pickT rfl rfl) ?_
            exact L.nil (E.joinJ ⟨true, rfl, rfl, h⟩ ⟨rfl, rfl, rfl, trivial⟩ (fun _ hw => hw.sel [] (by decide) rfl))
          ·
           refine L.y rfl (Y.pickT rfl rfl) ?_
           refine L.y rfl (Y.move rfl) ?_
           refine L.pass rfl rfl (by nofun) ?_
           refine L.pass rfl rfl (by nofun) ?_
           refine L.pass rfl rfl (by nofun) ?_
           refine L.y rfl (Y.pickF rfl rfl) ?_
           exact L.nil (E.joinJ ⟨false, rfl, rfl, h⟩ ⟨rfl, rfl, rfl, trivial⟩ (fun _ hw => hw.sel [] (by decide) rfl))
         ·
          rintro _ _ ⟨gb17, rfl, rfl, h⟩
          rw [m3_quirlaw_BuddySays_K22] at h
          rcases gb17 with _ | _
          ·
           replace h := iteF h
           refine L.y rfl (Y.move rfl) ?_
           refine L.pass rfl rfl (by nofun) ?_
           refine L.pass rfl rfl (by nofun) ?_
           refine L.pass rfl rfl (by nofun) ?_
           refine L.y rfl (Y.pickF rfl rfl) ?_
           refine L.y rfl (Y.assign rfl) ?_
           refine L.nil (E.thenN (W.ret (E.KSR (E.ret1 rfl rfl (fun w1 hw => ?_)))))
           obtain rfl := Option.some.inj h
           exact ⟨_, _, rfl, ⟨rfl, rfl⟩, hw⟩
          ·
           replace h := iteT h
           refine L.y rfl (Y.move rfl) ?_
           refine L.take rfl (L.y rfl (Y.move rfl) ?_)
           refine L.take rfl (L.y rfl (Y.move rfl) ?_)
           refine L.take rfl (L.y rfl (Y.eql rfl rfl) ?_)
           refine L.y rfl (Y.pickT rfl rfl) ?_
           refine L.y rfl (Y.assign rfl) ?_
           refine L.nil (E.thenN (W.ret (E.KSR (E.ret1 rfl rfl (fun w1 hw => ?_)))))
           obtain rfl := Option.some.inj h
           exact ⟨_, _, rfl, ⟨rfl, rfl⟩, hw⟩
    ·
     refine L.nil (E.thenN (W.condF rfl ?_))
     exact W.skip (E.joinJ ⟨rfl, rfl, h⟩ ⟨rfl, rfl, rfl, rfl, rfl, rfl, rfl, rfl, rfl, rfl, rfl, trivial⟩ (fun _ hw => hw))
   ·
    rintro _ _ ⟨rfl, rfl, h⟩
    rw [m3_quirlaw_BuddySays_K2] at h
    refine W.seq (W.region (L.y rfl (Y.loadPW (i := 4) ag24 sz24 rfl rfl rfl) ?_))
    obtain ⟨l21, e23, h⟩ := bind1S h
    refine L.does rfl en10 rfl (fun w' hw => w10_quirref_BuddyFree a0 u0_0 w' _ e23 (hA0_0.cls0 hw)) ?_
    rintro v22 _ ⟨_, rfl, rfl⟩
    refine L.y rfl (Y.assign rfl) ?_
    refine L.nil (E.thenN (W.seqJ (fun gs D => gs = [(1, .int .i64 a1), (3, pt b1 0), (5, pt b2 0), (10, pt b14 0), (11, .int .i64 x11), (12, .int .i64 x12), (13, pt b19 0), (14, .int .i64 x17), (15, pt b20 0), (16, v22)] ∧ D = Cls w [] [.obj b20 [.int .i64 0, .slice none 0 0] 24, .obj b19 [.int .i64 x15.Order, v16] 24, .obj b14 [.int .i64 x9.Order, v10] 24, .obj b2 [.int .i64 a2] 3, .obj b1 [.int .i64 a0.Order, u0_0] 24, .sl v22 37 2 (l21.map TBlock.row), .sl v16 37 2 (x15.Taken.map TBlock.row), .sl v10 37 2 (x9.Taken.map TBlock.row)] ∧ m3_quirlaw_BuddySays_K3 a0 a2 x15 x17 a1 x9 x11 x12 l21 = some r) ?_ ?_))
    ·
     refine W.seq (W.region (L.y rfl (Y.move rfl) ?_))
     refine L.y rfl (Y.move rfl) ?_
     obtain ⟨b138, e139, h⟩ := bind1S h
     refine L.y rfl (Y.does en11 rfl (fun w' hw => (w11_api_Block l5 l21 v6 v22 w' _ e139 (As.at_ (hw.get (i := 6) rfl)) (As.at_ (hw.get (i := 0) rfl))).mono (fun _ _ h => h.1))) ?_
     rcases b138 with _ | _
     ·
      replace h := iteF h
      refine L.y rfl (Y.not rfl) ?_
      refine L.y rfl (Y.move rfl) ?_
      refine L.pass rfl rfl (by nofun) ?_
      refine L.pass rfl rfl (by nofun) ?_
      refine L.y rfl (Y.pickT rfl rfl) ?_
      refine L.nil (E.thenN (W.condT rfl ?_))
      refine W.seq (W.region (L.y rfl (Y.assign rfl) ?_))
      refine L.nil (E.thenN (W.ret (E.KSR (E.ret1 rfl rfl (fun w1 hw => ?_)))))
      obtain rfl := Option.some.inj h
      exact ⟨_, _, rfl, ⟨rfl, rfl⟩, hw.sel [] (by decide) rfl⟩
     ·
      replace h := iteT h
      refine L.y rfl (Y.not rfl) ?_
      refine L.y rfl (Y.move rfl) ?_
      refine L.take rfl (L.y rfl (Y.move rfl) ?_)
      refine L.take rfl (L.ite h rfl (Y.neq rfl rfl) (fun c140 h => ?_) (fun c140 h => ?_))
      ·
       refine L.y rfl (Y.pickF rfl rfl) ?_
       refine L.nil (E.thenN (W.condT rfl ?_))
       refine W.seq (W.region (L.y rfl (Y.assign rfl) ?_))
       refine L.nil (E.thenN (W.ret (E.KSR (E.ret1 rfl rfl (fun w1 hw => ?_)))))
       obtain rfl := Option.some.inj h
       exact ⟨_, _, rfl, ⟨rfl, rfl⟩, hw.sel [] (by decide) rfl⟩
      ·
       refine L.y rfl (Y.pickF rfl rfl) ?_
       refine L.nil (E.thenN (W.condF rfl ?_))
       exact W.skip (E.joinJ ⟨rfl, rfl, h⟩ ⟨rfl, rfl, rfl, rfl, rfl, rfl, rfl, rfl, rfl, rfl, trivial⟩ (fun _ hw => hw.sel [1, 2, 3, 4, 5, 0, 7, 8] (by decide) rfl))
    ·
     rintro _ _ ⟨rfl, rfl, h⟩
     rw [m3_quirlaw_BuddySays_K3] at h
     refine W.seq (W.region (L.y rfl (Y.fieldP fd24_1 rfl) ?_))
     refine L.y rfl (Y.loadP (i := 4) ag22 rfl rfl rfl) ?_
     refine L.y rfl (Y.func rfl) ?_
     refine L.callJ (fun v D => ∃ (gx1 : Int), v = .int .i64 gx1 ∧ D = Cls w [] [.obj b20 [.int .i64 0, .slice none 0 0] 24, .obj b19 [.int .i64 x15.Order, v16] 24, .obj b14 [.int .i64 x9.Order, v10] 24, .obj b1 [.int .i64 a0.Order, u0_0] 24, .sl v22 37 2 (l21.map TBlock.row), .sl v16 37 2 (x15.Taken.map TBlock.row), .sl v10 37 2 (x9.Taken.map TBlock.row)] ∧ m3_quirlaw_BuddySays_K4 x15 x17 a1 x9 x11 x12 a0 l21 gx1 = some r) rfl en12 rfl Try.func12 rfl rfl rfl ?_ ?_
     ·
      refine W.seq (W.region (L.y rfl (Y.assign rfl) ?_))
      refine L.nil (E.thenN (W.seqJ (fun gs D => gs = [] ∧ D = Cls w [] [.obj b20 [.int .i64 0, .slice none 0 0] 24, .obj b19 [.int .i64 x15.Order, v16] 24, .obj b14 [.int .i64 x9.Order, v10] 24, .obj b1 [.int .i64 a0.Order, u0_0] 24, .sl v16 37 2 (x15.Taken.map TBlock.row), .sl v10 37 2 (x9.Taken.map TBlock.row), .sl v22 37 2 (l21.map TBlock.row)] ∧ m3_quirlaw_BuddySays_K18 x15 x17 a1 x9 x11 x12 a0 l21 = some r) ?_ ?_))
      ·
       refine W.seq (W.region (L.y rfl (Y.move rfl) ?_))
       refine L.y rfl (Y.lenM (g := TBlock.row) (l := a0.Taken) Try.underlying22 rfl (fun w' hw => hA0_0.cls0 hw)) ?_
       refine L.y rfl (Y.move rfl) ?_
       refine L.nil (E.thenN (W.block (W.loopJ (fun m gs D => ∃ (gx14 : Int), gs = [(0, u0_0), (1, .func (.func 13) #[] #[pt b2 0]), (7, .int .i64 (a0.Taken.length : Int)), (8, .int .i64 gx14)] ∧ D = Cls w [] [.obj b20 [.int .i64 0, .slice none 0 0] 24, .obj b19 [.int .i64 x15.Order, v16] 24, .obj b14 [.int .i64 x9.Order, v10] 24, .obj b2 [.int .i64 a2] 3, .obj b1 [.int .i64 a0.Order, u0_0] 24, .sl v16 37 2 (x15.Taken.map TBlock.row), .sl v10 37 2 (x9.Taken.map TBlock.row), .sl v22 37 2 (l21.map TBlock.row)] ∧ m3_quirlaw_BuddySays_L4 a0 a2 x15 x17 a1 x9 x11 x12 l21 m gx14 = some r) ⟨0, rfl, rfl, h⟩ ⟨rfl, rfl, rfl, rfl, trivial⟩ (fun _ hw => hw.sel [0, 1, 2, 3, 4, 6, 7, 5] (by decide) rfl) ?_)))
       rintro m _ _ ⟨gx14, rfl, rfl, h⟩
       rcases m with _ | m
       · rw [m3_quirlaw_BuddySays_L4] at h; cases h
       rw [m3_quirlaw_BuddySays_L4] at h
       generalize hg4 : m3_quirlaw_BuddySays_L4 a0 a2 x15 x17 a1 x9 x11 x12 l21 m = go4 at h
       rw [m3_quirlaw_BuddySays_L4B] at h
       refine W.seq (W.region (L.ite h rfl (Y.lss rfl rfl) (fun c134 h => ?_) (fun c134 h => ?_)))
       ·
        refine L.nil (E.thenN (W.seq (W.condT rfl ?_)))
        refine W.skip (E.thenN (W.seq (W.block (W.seq (W.region (L.y rfl (Y.move rfl) ?_))))))
        refine L.y rfl (Y.assign rfl) ?_
        refine L.nil (E.thenN (W.seq (W.region (L.y rfl (Y.move rfl) ?_))))
        refine L.y rfl (Y.move rfl) ?_
        refine L.y rfl (Y.move rfl) ?_
        refine L.m (V := fun _ => el u0_0 (gx14.toNat * 2)) h rfl (Y.indexM (g := TBlock.row) (l := a0.Taken) Try.underlying22 sz37 rfl rfl (fun w' hw => hA0_0.cls0 hw)) (fun x135 ex135 h => ?_)
        refine L.y rfl (Y.loadEN (r := [.int .i64 x135.At, .int .i64 x135.Order]) ag37 sz37 rfl (fun w' hw => hA0_0.cls0 hw) (idx_map ex135) rfl) ?_
        refine L.callVJ (fun v D => v = .bool (decide (x135.At = a2)) ∧ D = Cls w [] [.obj b20 [.int .i64 0, .slice none 0 0] 24, .obj b19 [.int .i64 x15.Order, v16] 24, .obj b14 [.int .i64 x9.Order, v10] 24, .obj b2 [.int .i64 a2] 3, .obj b1 [.int .i64 a0.Order, u0_0] 24, .sl v16 37 2 (x15.Taken.map TBlock.row), .sl v10 37 2 (x9.Taken.map TBlock.row), .sl v22 37 2 (l21.map TBlock.row)] ∧ m3_quirlaw_BuddySays_K19 x135 a2 x15 x17 a1 x9 x11 x12 a0 l21 gx14 go4 = some r) rfl en13 rfl rfl Try.func13 rfl rfl rfl ?_ ?_
        ·
         refine W.seq (W.region (L.box rfl rfl ?_))
         intro b137
         refine L.y rfl (Y.assign rfl) ?_
         refine L.nil (E.thenN (W.seq (W.region (L.y rfl (Y.fieldP fd37_0 rfl) ?_))))
         refine L.y rfl (Y.loadP (i := 0) ag3 rfl rfl rfl) ?_
         refine L.y rfl (Y.loadP (i := 4) ag3 rfl rfl rfl) ?_
         refine L.y rfl (Y.eql rfl rfl) ?_
         refine L.y rfl (Y.assign rfl) ?_
         refine L.nil (E.thenN (W.ret (E.ret1 rfl rfl (fun w1 hw => ?_))))
         exact ⟨_, _, rfl, ⟨rfl, rfl, h⟩, hw.sel [1, 2, 3, 4, 5, 6, 7, 8] (by decide) rfl⟩
        ·
         rintro _ _ ⟨rfl, rfl, h⟩
         rw [m3_quirlaw_BuddySays_K19] at h
         refine L.nil (E.thenN (W.caseB (q := 16) h rfl (fun h => ?_) (fun h => ?_)))
         ·
          refine W.condT rfl ?_
          refine W.seq (W.region (L.y rfl (Y.move rfl) ?_))
          refine L.y rfl (Y.assign rfl) ?_
          refine L.nil (E.thenN (W.ret (E.blockR (E.thenR (E.KLR (E.blockR (E.KSR (E.ret1 rfl rfl (fun w1 hw => ?_)))))))))
          exact ⟨_, _, rfl, ⟨gx14, rfl, rfl, h⟩, hw.sel [0, 1, 2, 4, 7, 5, 6] (by decide) rfl⟩
         ·
          refine W.condF rfl ?_
          refine W.skip (E.blockN (E.thenN (W.region (L.m (V := fun x136 => .int .i64 x136) h rfl (Y.addM rfl rfl) (fun x136 ex136 h => ?_)))))
          refine L.y rfl (Y.move rfl) ?_
          exact L.nil (E.againJ ⟨x136, rfl, rfl, by rw [hg4]; exact h⟩ (Nat.lt_succ_self _) ⟨rfl, rfl, rfl, rfl, trivial⟩ (fun _ hw => hw))
       ·
        refine L.nil (E.thenN (W.seq (W.condF rfl ?_)))
        exact W.exit (E.thenX (E.KLX (E.blockX (E.joinJ ⟨rfl, rfl, h⟩ trivial (fun _ hw => hw.sel [0, 1, 2, 4, 5, 6, 7] (by decide) rfl)))))
      ·
       rintro _ _ ⟨rfl, rfl, h⟩
       rw [m3_quirlaw_BuddySays_K18] at h
       refine W.seq (W.region (L.y rfl (Y.assign rfl) ?_))
       refine L.nil (E.thenN (W.ret (E.ret1 rfl rfl (fun w1 hw => ?_))))
       exact ⟨_, _, rfl, ⟨(-1), rfl, rfl, h⟩, hw.sel [0, 1, 2, 3, 6, 4, 5] (by decide) rfl⟩
     ·
      rintro _ _ ⟨gx1, rfl, rfl, h⟩
      rw [m3_quirlaw_BuddySays_K4] at h
      refine L.y rfl (Y.assign rfl) ?_
      refine L.nil (E.thenN (W.seqJ (fun gs D => gs = [(1, .int .i64 a1), (3, pt b1 0), (10, pt b14 0), (11, .int .i64 x11), (12, .int .i64 x12), (15, pt b20 0), (16, v22)] ∧ D = Cls w [] [.obj b20 [.int .i64 0, .slice none 0 0] 24, .obj b14 [.int .i64 x9.Order, v10] 24, .obj b1 [.int .i64 a0.Order, u0_0] 24, .sl v22 37 2 (l21.map TBlock.row), .sl v10 37 2 (x9.Taken.map TBlock.row)] ∧ m3_quirlaw_BuddySays_K5 a1 x9 x11 x12 a0 l21 = some r) ?_ ?_))
      ·
       refine W.seqJ (fun gs D => ∃ (gb13 : Bool), gs = [(1, .int .i64 a1), (3, pt b1 0), (10, pt b14 0), (11, .int .i64 x11), (12, .int .i64 x12), (13, pt b19 0), (14, .int .i64 x17), (15, pt b20 0), (16, v22), (17, .int .i64 gx1), (97, .bool gb13)] ∧ D = Cls w [] [.obj b20 [.int .i64 0, .slice none 0 0] 24, .obj b19 [.int .i64 x15.Order, v16] 24, .obj b14 [.int .i64 x9.Order, v10] 24, .obj b1 [.int .i64 a0.Order, u0_0] 24, .sl v22 37 2 (l21.map TBlock.row), .sl v16 37 2 (x15.Taken.map TBlock.row), .sl v10 37 2 (x9.Taken.map TBlock.row)] ∧ m3_quirlaw_BuddySays_K17 x15 x17 a1 x9 x11 x12 a0 l21 gx1 gb13 = some r) ?_ ?_
       ·
        refine W.region (L.y rfl (Y.move rfl) ?_)
        refine L.ite h rfl (Y.lss rfl rfl) (fun c133 h => ?_) (fun c133 h => ?_)
        ·
         exact L.nil (E.joinJ ⟨true, rfl, rfl, h⟩ ⟨rfl, rfl, rfl, rfl, rfl, rfl, rfl, rfl, rfl, rfl, rfl, trivial⟩ (fun _ hw => hw))
        ·
         exact L.nil (E.joinJ ⟨false, rfl, rfl, h⟩ ⟨rfl, rfl, rfl, rfl, rfl, rfl, rfl, rfl, rfl, rfl, rfl, trivial⟩ (fun _ hw => hw))
       ·
        rintro _ _ ⟨gb13, rfl, rfl, h⟩
        rw [m3_quirlaw_BuddySays_K17] at h
        rcases gb13 with _ | _
        ·
         replace h := iteF h
         refine W.condF rfl ?_
         refine W.seq (W.drawn2 (k := 21) (stC [[15]] [Cls w [] [.obj b20 [.int .i64 0, .slice none 0 0] 24, .obj b19 [.int .i64 x15.Order, v16] 24, .obj b14 [.int .i64 x9.Order, v10] 24, .obj b1 [.int .i64 a0.Order, u0_0] 24, .sl v22 37 2 (l21.map TBlock.row), .sl v16 37 2 (x15.Taken.map TBlock.row), .sl v10 37 2 (x9.Taken.map TBlock.row)]] (Cls w [] [.obj b20 [.int .i64 0, .slice none 0 0] 24, .obj b19 [.int .i64 x15.Order, v16] 24, .obj b14 [.int .i64 x9.Order, v10] 24, .obj b1 [.int .i64 a0.Order, u0_0] 24, .sl v22 37 2 (l21.map TBlock.row), .sl v16 37 2 (x15.Taken.map TBlock.row), .sl v10 37 2 (x9.Taken.map TBlock.row)])) rfl mixed (fun _ hw => hw.drew) (Sc.now (by kernel_rfl) (fun _ hw => hw)) ?_)
         refine V2.y (i := 0) (Nx2.of (Z := Cls w [] [.obj b20 [.int .i64 0, .slice none 0 0] 24, .obj b19 [.int .i64 x15.Order, v16] 24, .obj b14 [.int .i64 x9.Order, v10] 24, .obj b1 [.int .i64 a0.Order, u0_0] 24, .sl v22 37 2 (l21.map TBlock.row), .sl v16 37 2 (x15.Taken.map TBlock.row), .sl v10 37 2 (x9.Taken.map TBlock.row)]) [] (by kernel_rfl) rfl (Zc.on (fun _ hw => hw) (Zc.fin (fun _ hw => hw)))) rfl rfl rfl (Y.loadPW (i := 1) ag24 sz24 rfl rfl rfl) ?_
         refine V2.y (i := 1) (Nx2.of (Z := Cls w [] [.obj b20 [.int .i64 0, .slice none 0 0] 24, .obj b19 [.int .i64 x15.Order, v16] 24, .obj b14 [.int .i64 x9.Order, v10] 24, .obj b1 [.int .i64 a0.Order, u0_0] 24, .sl v22 37 2 (l21.map TBlock.row), .sl v16 37 2 (x15.Taken.map TBlock.row), .sl v10 37 2 (x9.Taken.map TBlock.row)]) [] (by kernel_rfl) rfl (Zc.on (fun _ hw => hw) (Zc.fin (fun _ hw => hw)))) rfl rfl rfl (Y.fieldP fd24_0 rfl) ?_
         refine V2.y (i := 2) (Nx2.of (Z := Cls w [] [.obj b20 [.int .i64 0, .slice none 0 0] 24, .obj b19 [.int .i64 x15.Order, v16] 24, .obj b14 [.int .i64 x9.Order, v10] 24, .obj b1 [.int .i64 a0.Order, u0_0] 24, .sl v22 37 2 (l21.map TBlock.row), .sl v16 37 2 (x15.Taken.map TBlock.row), .sl v10 37 2 (x9.Taken.map TBlock.row)]) [] (by kernel_rfl) rfl (Zc.on (fun _ hw => hw) (Zc.fin (fun _ hw => hw)))) rfl rfl rfl (Y.loadP (i := 3) ag3 rfl rfl rfl) ?_
         refine V2.y (i := 3) (Nx2.of (Z := Cls w [] [.obj b20 [.int .i64 0, .slice none 0 0] 24, .obj b19 [.int .i64 x15.Order, v16] 24, .obj b14 [.int .i64 x9.Order, v10] 24, .obj b1 [.int .i64 a0.Order, u0_0] 24, .sl v22 37 2 (l21.map TBlock.row), .sl v16 37 2 (x15.Taken.map TBlock.row), .sl v10 37 2 (x9.Taken.map TBlock.row)]) [] (by kernel_rfl) rfl (Zc.on (fun _ hw => hw) (Zc.fin (fun _ hw => hw)))) rfl rfl rfl (Y.fieldP fd24_1 rfl) ?_
         refine V2.y (i := 4) (Nx2.of (Z := Cls w [] [.obj b20 [.int .i64 0, .slice none 0 0] 24, .obj b19 [.int .i64 x15.Order, v16] 24, .obj b14 [.int .i64 x9.Order, v10] 24, .obj b1 [.int .i64 a0.Order, u0_0] 24, .sl v22 37 2 (l21.map TBlock.row), .sl v16 37 2 (x15.Taken.map TBlock.row), .sl v10 37 2 (x9.Taken.map TBlock.row)]) [] (by kernel_rfl) rfl (Zc.on (fun _ hw => hw) (Zc.fin (fun _ hw => hw)))) rfl rfl rfl (Y.loadP (i := 3) ag22 rfl rfl rfl) ?_
         refine V2.y (i := 5) (Nx2.of (Z := Cls w [] [.obj b20 [.int .i64 0, .slice none 0 0] 24, .obj b19 [.int .i64 x15.Order, v16] 24, .obj b14 [.int .i64 x9.Order, v10] 24, .obj b1 [.int .i64 a0.Order, u0_0] 24, .sl v22 37 2 (l21.map TBlock.row), .sl v16 37 2 (x15.Taken.map TBlock.row), .sl v10 37 2 (x9.Taken.map TBlock.row)]) [] (by kernel_rfl) rfl (Zc.on (fun _ hw => hw) (Zc.fin (fun _ hw => hw)))) rfl rfl rfl (Y.move rfl) ?_
         refine V2.m (i := 6) (V' := fun _ => cutv u0_0 gx1.toNat) h (Nx2.of (Z := Cls w [] [.obj b20 [.int .i64 0, .slice none 0 0] 24, .obj b19 [.int .i64 x15.Order, v16] 24, .obj b14 [.int .i64 x9.Order, v10] 24, .obj b1 [.int .i64 a0.Order, u0_0] 24, .sl v22 37 2 (l21.map TBlock.row), .sl v16 37 2 (x15.Taken.map TBlock.row), .sl v10 37 2 (x9.Taken.map TBlock.row)]) [] (by kernel_rfl) rfl (Zc.on (fun _ hw => hw) (Zc.fin (fun _ hw => hw)))) rfl rfl rfl (Y.cutM (g := TBlock.row) Try.underlying22 sz37 rfl rfl (fun w' hw => hA0_0.cls0 hw)) (fun l120 el120 h => ?_)
         refine V2.y (i := 7) (Nx2.of (Z := Cls w [] [.obj b20 [.int .i64 0, .slice none 0 0] 24, .obj b19 [.int .i64 x15.Order, v16] 24, .obj b14 [.int .i64 x9.Order, v10] 24, .obj b1 [.int .i64 a0.Order, u0_0] 24, .sl v22 37 2 (l21.map TBlock.row), .sl v16 37 2 (x15.Taken.map TBlock.row), .sl v10 37 2 (x9.Taken.map TBlock.row)]) [] (by kernel_rfl) rfl (Zc.on (fun _ hw => hw) (Zc.fin (fun _ hw => hw)))) rfl rfl rfl (Y.fieldP fd24_1 rfl) ?_
         refine V2.y (i := 8) (Nx2.of (Z := Cls w [] [.obj b20 [.int .i64 0, .slice none 0 0] 24, .obj b19 [.int .i64 x15.Order, v16] 24, .obj b14 [.int .i64 x9.Order, v10] 24, .obj b1 [.int .i64 a0.Order, u0_0] 24, .sl v22 37 2 (l21.map TBlock.row), .sl v16 37 2 (x15.Taken.map TBlock.row), .sl v10 37 2 (x9.Taken.map TBlock.row)]) [] (by kernel_rfl) rfl (Zc.on (fun _ hw => hw) (Zc.fin (fun _ hw => hw)))) rfl rfl rfl (Y.loadP (i := 3) ag22 rfl rfl rfl) ?_
         refine V2.y (i := 9) (Nx2.of (Z := Cls w [] [.obj b20 [.int .i64 0, .slice none 0 0] 24, .obj b19 [.int .i64 x15.Order, v16] 24, .obj b14 [.int .i64 x9.Order, v10] 24, .obj b1 [.int .i64 a0.Order, u0_0] 24, .sl v22 37 2 (l21.map TBlock.row), .sl v16 37 2 (x15.Taken.map TBlock.row), .sl v10 37 2 (x9.Taken.map TBlock.row)]) [] (by kernel_rfl) rfl (Zc.on (fun _ hw => hw) (Zc.fin (fun _ hw => hw)))) rfl rfl rfl (Y.move rfl) ?_
         refine V2.m (i := 10) (V' := fun x121 => .int .i64 x121) h (Nx2.of (Z := Cls w [] [.obj b20 [.int .i64 0, .slice none 0 0] 24, .obj b19 [.int .i64 x15.Order, v16] 24, .obj b14 [.int .i64 x9.Order, v10] 24, .obj b1 [.int .i64 a0.Order, u0_0] 24, .sl v22 37 2 (l21.map TBlock.row), .sl v16 37 2 (x15.Taken.map TBlock.row), .sl v10 37 2 (x9.Taken.map TBlock.row)]) [] (by kernel_rfl) rfl (Zc.on (fun _ hw => hw) (Zc.fin (fun _ hw => hw)))) rfl rfl rfl (Y.addM rfl rfl) (fun x121 ex121 h => ?_)
         refine V2.m (i := 11) (V' := fun _ => dropv u0_0 x121.toNat 2) h (Nx2.of (Z := Cls w [] [.obj b20 [.int .i64 0, .slice none 0 0] 24, .obj b19 [.int .i64 x15.Order, v16] 24, .obj b14 [.int .i64 x9.Order, v10] 24, .obj b1 [.int .i64 a0.Order, u0_0] 24, .sl v22 37 2 (l21.map TBlock.row), .sl v16 37 2 (x15.Taken.map TBlock.row), .sl v10 37 2 (x9.Taken.map TBlock.row)]) [] (by kernel_rfl) rfl (Zc.on (fun _ hw => hw) (Zc.fin (fun _ hw => hw)))) rfl rfl rfl (Y.dropM (g := TBlock.row) Try.underlying22 sz37 rfl rfl (fun w' hw => hA0_0.cls0 hw)) (fun l122 el122 h => ?_)
         refine V2.eff (i := 12) (by kernel_rfl) rfl ?_
         refine L.lit (xs := [.tmp 112, .tmp 117]) rfl Try.underlying52 eL22 rfl rfl rfl rfl (cellsTwo (At.cells1 (At.cutM hA0_0 el120)) (At.cells1 (At.dropM hA0_0 el122))) ?_
         intro b123
         refine L.nil (E.toV2 (stC [[15]] [Cls w [] [.sl (sv b123 2) 22 1 [[cutv u0_0 gx1.toNat], [dropv u0_0 x121.toNat 2]], .obj b20 [.int .i64 0, .slice none 0 0] 24, .obj b19 [.int .i64 x15.Order, v16] 24, .obj b14 [.int .i64 x9.Order, v10] 24, .obj b1 [.int .i64 a0.Order, u0_0] 24, .sl v22 37 2 (l21.map TBlock.row), .sl v16 37 2 (x15.Taken.map TBlock.row), .sl v10 37 2 (x9.Taken.map TBlock.row)]] (Cls w [] [.obj b20 [.int .i64 0, .slice none 0 0] 24, .obj b19 [.int .i64 x15.Order, v16] 24, .obj b14 [.int .i64 x9.Order, v10] 24, .obj b1 [.int .i64 a0.Order, u0_0] 24, .sl v22 37 2 (l21.map TBlock.row), .sl v16 37 2 (x15.Taken.map TBlock.row), .sl v10 37 2 (x9.Taken.map TBlock.row)])) 12 (by kernel_rfl) (Sc.stay (fun _ hw => hw.sel [1, 2, 3, 4, 5, 6, 7] (by decide) rfl) (Sc.stayD (fun _ hw => hw))) (Sc.now (by kernel_rfl) (fun _ hw => hw)) ?_)
         refine V2.eff (i := 13) (by kernel_rfl) rfl ?_
         obtain ⟨l124, e126, h⟩ := bind1S h
         refine L.does rfl en14 rfl (fun w' hw => w14_api_Block ([l120, l122]) (sv b123 2) (lit2 (cutv u0_0 gx1.toNat) (dropv u0_0 x121.toNat 2)) w' _ e126 (As.at_ (hw.get (i := 0) rfl)) (zsTwo (At.cls0 (At.cutM hA0_0 el120) hw) (At.cls0 (At.dropM hA0_0 el122) hw))) ?_
         rintro v125 _ ⟨_, rfl, rfl⟩
         refine L.nil (E.toV2 (stC [[15]] [Cls w [] [.sl v125 37 2 (l124.map TBlock.row), .sl (sv b123 2) 22 1 [[cutv u0_0 gx1.toNat], [dropv u0_0 x121.toNat 2]], .obj b20 [.int .i64 0, .slice none 0 0] 24, .obj b19 [.int .i64 x15.Order, v16] 24, .obj b14 [.int .i64 x9.Order, v10] 24, .obj b1 [.int .i64 a0.Order, u0_0] 24, .sl v22 37 2 (l21.map TBlock.row), .sl v16 37 2 (x15.Taken.map TBlock.row), .sl v10 37 2 (x9.Taken.map TBlock.row)]] (Cls w [] [.obj b20 [.int .i64 0, .slice none 0 0] 24, .obj b19 [.int .i64 x15.Order, v16] 24, .obj b14 [.int .i64 x9.Order, v10] 24, .obj b1 [.int .i64 a0.Order, u0_0] 24, .sl v22 37 2 (l21.map TBlock.row), .sl v16 37 2 (x15.Taken.map TBlock.row), .sl v10 37 2 (x9.Taken.map TBlock.row)])) 13 (by kernel_rfl) (Sc.stay (fun _ hw => hw.sel [1, 2, 3, 4, 5, 6, 7, 8] (by decide) rfl) (Sc.stayD (fun _ hw => hw))) (Sc.now (by kernel_rfl) (fun _ hw => hw)) ?_)
         refine V2.y (i := 14) (Nx2.of (Z := Cls w [] [.sl v125 37 2 (l124.map TBlock.row), .sl (sv b123 2) 22 1 [[cutv u0_0 gx1.toNat], [dropv u0_0 x121.toNat 2]], .obj b20 [.int .i64 0, .slice none 0 0] 24, .obj b19 [.int .i64 x15.Order, v16] 24, .obj b14 [.int .i64 x9.Order, v10] 24, .obj b1 [.int .i64 a0.Order, u0_0] 24, .sl v22 37 2 (l21.map TBlock.row), .sl v16 37 2 (x15.Taken.map TBlock.row), .sl v10 37 2 (x9.Taken.map TBlock.row)]) [15] (by kernel_rfl) rfl (Zc.at1 (fun _ hw => hw))) rfl rfl rfl (Y.buildC (cells := #[.int .i64 a0.Order, v125]) rfl (fun w hw => by rcases ((As.at_ (hw.get (i := 0) rfl))).shape with ⟨h0, _⟩ | ⟨_, _, h0, _, _⟩ <;> simp only [h0] <;> kernel_rfl)) ?_
         refine V2.eff (i := 15) (by kernel_rfl) rfl ?_
         obtain ⟨b127, e128, h⟩ := bind1S h
         refine L.y rfl (Y.does en9 rfl (fun w' hw => (w9_quirref_SameBuddy x15 (⟨a0.Order, l124⟩ : TBuddy) v16 v125 w' _ e128 (As.at_ (hw.get (i := 7) rfl)) (As.at_ (hw.get (i := 0) rfl))).mono (fun _ _ h => h.1))) ?_
         rcases b127 with _ | _
         ·
          replace h := iteF h
          refine L.nil (E.toV2 (stC [] [] (Cls w [] [.obj b20 [.int .i64 0, .slice none 0 0] 24, .obj b19 [.int .i64 x15.Order, v16] 24, .obj b14 [.int .i64 x9.Order, v10] 24, .obj b1 [.int .i64 a0.Order, u0_0] 24, .sl v22 37 2 (l21.map TBlock.row), .sl v16 37 2 (x15.Taken.map TBlock.row), .sl v10 37 2 (x9.Taken.map TBlock.row)])) 15 (by kernel_rfl) (Sc.past rfl (Sc.stayD (fun _ hw => hw))) (Sc.atD (fun _ hw => hw.sel [2, 3, 4, 5, 6, 7, 8] (by decide) rfl)) ?_)
          refine V2.y (i := 16) (Nx2.of (Z := Cls w [] [.obj b20 [.int .i64 0, .slice none 0 0] 24, .obj b19 [.int .i64 x15.Order, v16] 24, .obj b14 [.int .i64 x9.Order, v10] 24, .obj b1 [.int .i64 a0.Order, u0_0] 24, .sl v22 37 2 (l21.map TBlock.row), .sl v16 37 2 (x15.Taken.map TBlock.row), .sl v10 37 2 (x9.Taken.map TBlock.row)]) [] (by kernel_rfl) rfl (Zc.fin (fun _ hw => hw))) rfl rfl rfl (Y.not rfl) ?_
          refine V2.y (i := 17) (Nx2.of (Z := Cls w [] [.obj b20 [.int .i64 0, .slice none 0 0] 24, .obj b19 [.int .i64 x15.Order, v16] 24, .obj b14 [.int .i64 x9.Order, v10] 24, .obj b1 [.int .i64 a0.Order, u0_0] 24, .sl v22 37 2 (l21.map TBlock.row), .sl v16 37 2 (x15.Taken.map TBlock.row), .sl v10 37 2 (x9.Taken.map TBlock.row)]) [] (by kernel_rfl) rfl (Zc.fin (fun _ hw => hw))) rfl rfl rfl (Y.move rfl) ?_
          refine V2.pass (i := 18) (Nx2.of (Z := Cls w [] [.obj b20 [.int .i64 0, .slice none 0 0] 24, .obj b19 [.int .i64 x15.Order, v16] 24, .obj b14 [.int .i64 x9.Order, v10] 24, .obj b1 [.int .i64 a0.Order, u0_0] 24, .sl v22 37 2 (l21.map TBlock.row), .sl v16 37 2 (x15.Taken.map TBlock.row), .sl v10 37 2 (x9.Taken.map TBlock.row)]) [] (by kernel_rfl) rfl (Zc.fin (fun _ hw => hw))) rfl rfl ?_
          refine V2.pass (i := 19) (Nx2.of (Z := Cls w [] [.obj b20 [.int .i64 0, .slice none 0 0] 24, .obj b19 [.int .i64 x15.Order, v16] 24, .obj b14 [.int .i64 x9.Order, v10] 24, .obj b1 [.int .i64 a0.Order, u0_0] 24, .sl v22 37 2 (l21.map TBlock.row), .sl v16 37 2 (x15.Taken.map TBlock.row), .sl v10 37 2 (x9.Taken.map TBlock.row)]) [] (by kernel_rfl) rfl (Zc.fin (fun _ hw => hw))) rfl rfl ?_
          refine V2.y (i := 20) (Nx2.of (Z := Cls w [] [.obj b20 [.int .i64 0, .slice none 0 0] 24, .obj b19 [.int .i64 x15.Order, v16] 24, .obj b14 [.int .i64 x9.Order, v10] 24, .obj b1 [.int .i64 a0.Order, u0_0] 24, .sl v22 37 2 (l21.map TBlock.row), .sl v16 37 2 (x15.Taken.map TBlock.row), .sl v10 37 2 (x9.Taken.map TBlock.row)]) [] (by kernel_rfl) rfl (Zc.fin (fun _ hw => hw))) rfl rfl rfl (Y.pickT rfl rfl) ?_
          refine V2.done (by kernel_rfl) ?_
          refine E.thenN (W.condT rfl ?_)
          refine W.seq (W.region (L.y rfl (Y.assign rfl) ?_))
          refine L.nil (E.thenN (W.ret (E.KSR (E.ret1 rfl rfl (fun w1 hw => ?_)))))
          obtain rfl := Option.some.inj h
          exact ⟨_, _, rfl, ⟨rfl, rfl⟩, hw.sel [] (by decide) rfl⟩
         ·
          replace h := iteT h
          refine L.nil (E.toV2 (stC [] [] (Cls w [] [.obj b20 [.int .i64 0, .slice none 0 0] 24, .obj b19 [.int .i64 x15.Order, v16] 24, .obj b14 [.int .i64 x9.Order, v10] 24, .obj b1 [.int .i64 a0.Order, u0_0] 24, .sl v22 37 2 (l21.map TBlock.row), .sl v16 37 2 (x15.Taken.map TBlock.row), .sl v10 37 2 (x9.Taken.map TBlock.row)])) 15 (by kernel_rfl) (Sc.past rfl (Sc.stayD (fun _ hw => hw))) (Sc.atD (fun _ hw => hw.sel [2, 3, 4, 5, 6, 7, 8] (by decide) rfl)) ?_)
          refine V2.y (i := 16) (Nx2.of (Z := Cls w [] [.obj b20 [.int .i64 0, .slice none 0 0] 24, .obj b19 [.int .i64 x15.Order, v16] 24, .obj b14 [.int .i64 x9.Order, v10] 24, .obj b1 [.int .i64 a0.Order, u0_0] 24, .sl v22 37 2 (l21.map TBlock.row), .sl v16 37 2 (x15.Taken.map TBlock.row), .sl v10 37 2 (x9.Taken.map TBlock.row)]) [] (by kernel_rfl) rfl (Zc.fin (fun _ hw => hw))) rfl rfl rfl (Y.not rfl) ?_
          refine V2.y (i := 17) (Nx2.of (Z := Cls w [] [.obj b20 [.int .i64 0, .slice none 0 0] 24, .obj b19 [.int .i64 x15.Order, v16] 24, .obj b14 [.int .i64 x9.Order, v10] 24, .obj b1 [.int .i64 a0.Order, u0_0] 24, .sl v22 37 2 (l21.map TBlock.row), .sl v16 37 2 (x15.Taken.map TBlock.row), .sl v10 37 2 (x9.Taken.map TBlock.row)]) [] (by kernel_rfl) rfl (Zc.fin (fun _ hw => hw))) rfl rfl rfl (Y.move rfl) ?_
          refine V2.y (i := 18) (Nx2.of (Z := Cls w [] [.obj b20 [.int .i64 0, .slice none 0 0] 24, .obj b19 [.int .i64 x15.Order, v16] 24, .obj b14 [.int .i64 x9.Order, v10] 24, .obj b1 [.int .i64 a0.Order, u0_0] 24, .sl v22 37 2 (l21.map TBlock.row), .sl v16 37 2 (x15.Taken.map TBlock.row), .sl v10 37 2 (x9.Taken.map TBlock.row)]) [] (by kernel_rfl) rfl (Zc.fin (fun _ hw => hw))) rfl rfl rfl (Y.move rfl) ?_
          refine V2.ite (i := 19) h (Nx2.of (Z := Cls w [] [.obj b20 [.int .i64 0, .slice none 0 0] 24, .obj b19 [.int .i64 x15.Order, v16] 24, .obj b14 [.int .i64 x9.Order, v10] 24, .obj b1 [.int .i64 a0.Order, u0_0] 24, .sl v22 37 2 (l21.map TBlock.row), .sl v16 37 2 (x15.Taken.map TBlock.row), .sl v10 37 2 (x9.Taken.map TBlock.row)]) [] (by kernel_rfl) rfl (Zc.fin (fun _ hw => hw))) rfl rfl rfl (Y.neq rfl rfl) (fun c129 h => ?_) (fun c129 h => ?_)
          ·
           refine V2.y (i := 20) (Nx2.of (Z := Cls w [] [.obj b20 [.int .i64 0, .slice none 0 0] 24, .obj b19 [.int .i64 x15.Order, v16] 24, .obj b14 [.int .i64 x9.Order, v10] 24, .obj b1 [.int .i64 a0.Order, u0_0] 24, .sl v22 37 2 (l21.map TBlock.row), .sl v16 37 2 (x15.Taken.map TBlock.row), .sl v10 37 2 (x9.Taken.map TBlock.row)]) [] (by kernel_rfl) rfl (Zc.fin (fun _ hw => hw))) rfl rfl rfl (Y.pickF rfl rfl) ?_
           refine V2.done (by kernel_rfl) ?_
           refine E.thenN (W.condT rfl ?_)
           refine W.seq (W.region (L.y rfl (Y.assign rfl) ?_))
           refine L.nil (E.thenN (W.ret (E.KSR (E.ret1 rfl rfl (fun w1 hw => ?_)))))
           obtain rfl := Option.some.inj h
           exact ⟨_, _, rfl, ⟨rfl, rfl⟩, hw.sel [] (by decide) rfl⟩
          ·
           refine V2.y (i := 20) (Nx2.of (Z := Cls w [] [.obj b20 [.int .i64 0, .slice none 0 0] 24, .obj b19 [.int .i64 x15.Order, v16] 24, .obj b14 [.int .i64 x9.Order, v10] 24, .obj b1 [.int .i64 a0.Order, u0_0] 24, .sl v22 37 2 (l21.map TBlock.row), .sl v16 37 2 (x15.Taken.map TBlock.row), .sl v10 37 2 (x9.Taken.map TBlock.row)]) [] (by kernel_rfl) rfl (Zc.fin (fun _ hw => hw))) rfl rfl rfl (Y.pickF rfl rfl) ?_
           refine V2.done (by kernel_rfl) ?_
           refine E.thenN (W.condF rfl ?_)
           exact W.skip (E.joinJ ⟨rfl, rfl, h⟩ ⟨rfl, rfl, rfl, rfl, rfl, rfl, rfl, trivial⟩ (fun _ hw => hw.sel [2, 4, 5, 6, 8] (by decide) rfl))
        ·
         replace h := iteT h
         refine W.condT rfl ?_
         refine W.seq (W.region (L.y rfl (Y.loadPW (i := 1) ag24 sz24 rfl rfl rfl) ?_))
         refine L.y rfl (Y.loadPW (i := 0) ag24 sz24 rfl rfl rfl) ?_
         obtain ⟨b130, e131, h⟩ := bind1S h
         refine L.y rfl (Y.does en9 rfl (fun w' hw => (w9_quirref_SameBuddy x15 (⟨0, []⟩ : TBuddy) v16 (.slice none 0 0) w' _ e131 (As.at_ (hw.get (i := 5) rfl)) (At.nil w' _)).mono (fun _ _ h => h.1))) ?_
         rcases b130 with _ | _
         ·
          replace h := iteF h
          refine L.y rfl (Y.not rfl) ?_
          refine L.y rfl (Y.move rfl) ?_
          refine L.pass rfl rfl (by nofun) ?_
          refine L.pass rfl rfl (by nofun) ?_
          refine L.y rfl (Y.pickT rfl rfl) ?_
          refine L.nil (E.thenN (W.condT rfl ?_))
          refine W.seq (W.region (L.y rfl (Y.assign rfl) ?_))
          refine L.nil (E.thenN (W.ret (E.KSR (E.ret1 rfl rfl (fun w1 hw => ?_)))))
          obtain rfl := Option.some.inj h
          exact ⟨_, _, rfl, ⟨rfl, rfl⟩, hw.sel [] (by decide) rfl⟩
         ·
          replace h := iteT h
          refine L.y rfl (Y.not rfl) ?_
          refine L.y rfl (Y.move rfl) ?_
          refine L.take rfl (L.y rfl (Y.move rfl) ?_)
          refine L.take rfl (L.ite h rfl (Y.neq rfl rfl) (fun c132 h => ?_) (fun c132 h => ?_))
          ·
           refine L.y rfl (Y.pickF rfl rfl) ?_
           refine L.nil (E.thenN (W.condT rfl ?_))
           refine W.seq (W.region (L.y rfl (Y.assign rfl) ?_))
           refine L.nil (E.thenN (W.ret (E.KSR (E.ret1 rfl rfl (fun w1 hw => ?_)))))
           obtain rfl := Option.some.inj h
           exact ⟨_, _, rfl, ⟨rfl, rfl⟩, hw.sel [] (by decide) rfl⟩
          ·
           refine L.y rfl (Y.pickF rfl rfl) ?_
           refine L.nil (E.thenN (W.condF rfl ?_))
           exact W.skip (E.joinJ ⟨rfl, rfl, h⟩ ⟨rfl, rfl, rfl, rfl, rfl, rfl, rfl, trivial⟩ (fun _ hw => hw.sel [0, 2, 3, 4, 6] (by decide) rfl))
      ·
       rintro _ _ ⟨rfl, rfl, h⟩
       rw [m3_quirlaw_BuddySays_K5] at h
       refine W.seqJ (fun gs D => gs = [(1, .int .i64 a1), (3, pt b1 0), (10, pt b14 0), (11, .int .i64 x11), (12, .int .i64 x12), (15, pt b20 0), (16, v22)] ∧ D = Cls w [] [.obj b20 [.int .i64 0, .slice none 0 0] 24, .obj b14 [.int .i64 x9.Order, v10] 24, .obj b1 [.int .i64 a0.Order, u0_0] 24, .sl v22 37 2 (l21.map TBlock.row), .sl v10 37 2 (x9.Taken.map TBlock.row)] ∧ m3_quirlaw_BuddySays_K6 a0 l21 a1 x9 x11 x12 = some r) ?_ ?_
       ·
        refine W.seqJ (fun gs D => ∃ (gb11 : Bool), gs = [(1, .int .i64 a1), (3, pt b1 0), (10, pt b14 0), (11, .int .i64 x11), (12, .int .i64 x12), (15, pt b20 0), (16, v22), (134, .bool gb11)] ∧ D = Cls w [] [.obj b20 [.int .i64 0, .slice none 0 0] 24, .obj b14 [.int .i64 x9.Order, v10] 24, .obj b1 [.int .i64 a0.Order, u0_0] 24, .sl v22 37 2 (l21.map TBlock.row), .sl v10 37 2 (x9.Taken.map TBlock.row)] ∧ m3_quirlaw_BuddySays_K15 x9 x11 x12 a0 l21 a1 gb11 = some r) ?_ ?_
        ·
         refine W.region (L.y rfl (Y.move rfl) ?_)
         refine L.ite h rfl (Y.lss rfl rfl) (fun c100 h => ?_) (fun c100 h => ?_)
         ·
          refine L.y rfl (Y.move rfl) ?_
          refine L.pass rfl rfl (by nofun) ?_
          refine L.pass rfl rfl (by nofun) ?_
          refine L.pass rfl rfl (by nofun) ?_
          refine L.pass rfl rfl (by nofun) ?_
          refine L.y rfl (Y.pickT rfl rfl) ?_
          exact L.nil (E.joinJ ⟨true, rfl, rfl, h⟩ ⟨rfl, rfl, rfl, rfl, rfl, rfl, rfl, rfl, trivial⟩ (fun _ hw => hw))
         ·
          refine L.y rfl (Y.move rfl) ?_
          refine L.take rfl (L.y rfl (Y.move rfl) ?_)
          refine L.take rfl (L.y rfl (Y.fieldP fd24_0 rfl) ?_)
          refine L.take rfl (L.y rfl (Y.loadP (i := 2) ag3 rfl rfl rfl) ?_)
          refine L.take rfl (L.ite h rfl (Y.gtr rfl rfl) (fun c101 h => ?_) (fun c101 h => ?_))
          ·
           refine L.y rfl (Y.pickF rfl rfl) ?_
           exact L.nil (E.joinJ ⟨true, rfl, rfl, h⟩ ⟨rfl, rfl, rfl, rfl, rfl, rfl, rfl, rfl, trivial⟩ (fun _ hw => hw))
          ·
           refine L.y rfl (Y.pickF rfl rfl) ?_
           exact L.nil (E.joinJ ⟨false, rfl, rfl, h⟩ ⟨rfl, rfl, rfl, rfl, rfl, rfl, rfl, rfl, trivial⟩ (fun _ hw => hw))
        ·
         rintro _ _ ⟨gb11, rfl, rfl, h⟩
         rw [m3_quirlaw_BuddySays_K15] at h
         rcases gb11 with _ | _
         ·
          replace h := iteF h
          refine W.condF rfl ?_
          exact W.skip (E.joinJ ⟨rfl, rfl, h⟩ ⟨rfl, rfl, rfl, rfl, rfl, rfl, rfl, trivial⟩ (fun _ hw => hw))
         ·
          replace h := iteT h
          refine W.condT rfl ?_
          refine W.seq (W.region (L.cutJ 7 (fun gs D => ∃ (gb12 : Bool), gs = [(12, .int .i64 x12), (141, .bool gb12)] ∧ D = Cls w [] [] ∧ m3_quirlaw_BuddySays_K16 x12 gb12 = some r) ?_ ?_))
          ·
           refine L.y rfl (Y.loadPW (i := 1) ag24 sz24 rfl rfl rfl) ?_
           refine L.y rfl (Y.loadPW (i := 0) ag24 sz24 rfl rfl rfl) ?_
           obtain ⟨b97, e98, h⟩ := bind1S h
           refine L.y rfl (Y.does en9 rfl (fun w' hw => (w9_quirref_SameBuddy x9 (⟨0, []⟩ : TBuddy) v10 (.slice none 0 0) w' _ e98 (As.at_ (hw.get (i := 4) rfl)) (At.nil w' _)).mono (fun _ _ h => h.1))) ?_
           rcases b97 with _ | _
           ·
            replace h := iteF h
            refine L.y rfl (Y.move rfl) ?_
            refine L.pass rfl rfl (by nofun) ?_
            refine L.pass rfl rfl (by nofun) ?_
            refine L.y rfl (Y.pickF rfl rfl) ?_
            exact L.nil (E.joinJ ⟨false, rfl, rfl, h⟩ ⟨rfl, rfl, trivial⟩ (fun _ hw => hw.sel [] (by decide) rfl))
           ·
            replace h := iteT h
            refine L.y rfl (Y.move rfl) ?_
            refine L.take rfl (L.y rfl (Y.move rfl) ?_)
            refine L.take rfl (L.ite h rfl (Y.eql rfl rfl) (fun c99 h => ?_) (fun c99 h => ?_))
            ·
             refine L.y rfl (Y.pickT rfl rfl) ?_
             exact L.nil (E.joinJ ⟨true, rfl, rfl, h⟩ ⟨rfl, rfl, trivial⟩ (fun _ hw => hw.sel [] (by decide) rfl))
            ·
             refine L.y rfl (Y.pickT rfl rfl) ?_
             exact L.nil (E.joinJ ⟨false, rfl, rfl, h⟩ ⟨rfl, rfl, trivial⟩ (fun _ hw => hw.sel [] (by decide) rfl))
          ·
           rintro _ _ ⟨gb12, rfl, rfl, h⟩
           rw [m3_quirlaw_BuddySays_K16] at h
           rcases gb12 with _ | _
           ·
            replace h := iteF h
            refine L.y rfl (Y.move rfl) ?_
            refine L.pass rfl rfl (by nofun) ?_
            refine L.pass rfl rfl (by nofun) ?_
            refine L.y rfl (Y.pickF rfl rfl) ?_
            refine L.y rfl (Y.assign rfl) ?_
            refine L.nil (E.thenN (W.ret (E.KSR (E.ret1 rfl rfl (fun w1 hw => ?_)))))
            obtain rfl := Option.some.inj h
            exact ⟨_, _, rfl, ⟨rfl, rfl⟩, hw⟩
           ·
            replace h := iteT h
            refine L.y rfl (Y.move rfl) ?_
            refine L.take rfl (L.y rfl (Y.move rfl) ?_)
            refine L.take rfl (L.y rfl (Y.eql rfl rfl) ?_)
            refine L.y rfl (Y.pickT rfl rfl) ?_
            refine L.y rfl (Y.assign rfl) ?_
            refine L.nil (E.thenN (W.ret (E.KSR (E.ret1 rfl rfl (fun w1 hw => ?_)))))
            obtain rfl := Option.some.inj h
            exact ⟨_, _, rfl, ⟨rfl, rfl⟩, hw⟩
       ·
        rintro _ _ ⟨rfl, rfl, h⟩
        rw [m3_quirlaw_BuddySays_K6] at h
        refine W.seqJ (fun gs D => gs = [(10, pt b14 0), (11, .int .i64 x11), (12, .int .i64 x12), (15, pt b20 0)] ∧ D = Cls w [] [.obj b20 [.int .i64 0, .slice none 0 0] 24, .obj b14 [.int .i64 x9.Order, v10] 24, .sl v10 37 2 (x9.Taken.map TBlock.row)] ∧ m3_quirlaw_BuddySays_K7 x9 x11 x12 = some r) ?_ ?_
        ·
         refine W.seq (W.region (L.y rfl (Y.move rfl) ?_))
         refine L.y rfl (Y.assign rfl) ?_
         refine L.nil (E.thenN (W.block (W.loopJ (fun m gs D => ∃ (gx3 : Int), gs = [(1, .int .i64 a1), (3, pt b1 0), (10, pt b14 0), (11, .int .i64 x11), (12, .int .i64 x12), (15, pt b20 0), (16, v22), (18, .int .i64 gx3)] ∧ D = Cls w [] [.obj b20 [.int .i64 0, .slice none 0 0] 24, .obj b14 [.int .i64 x9.Order, v10] 24, .obj b1 [.int .i64 a0.Order, u0_0] 24, .sl v22 37 2 (l21.map TBlock.row), .sl v10 37 2 (x9.Taken.map TBlock.row)] ∧ m3_quirlaw_BuddySays_L1 a0 l21 a1 x9 x11 x12 m gx3 = some r) ⟨a1, rfl, rfl, h⟩ ⟨rfl, rfl, rfl, rfl, rfl, rfl, rfl, rfl, trivial⟩ (fun _ hw => hw) ?_)))
         rintro m _ _ ⟨gx3, rfl, rfl, h⟩
         rcases m with _ | m
         · rw [m3_quirlaw_BuddySays_L1] at h; cases h
         rw [m3_quirlaw_BuddySays_L1] at h
         generalize hg1 : m3_quirlaw_BuddySays_L1 a0 l21 a1 x9 x11 x12 m = go1 at h
         rw [m3_quirlaw_BuddySays_L1B] at h
         refine W.seqJ (fun gs D => gs = [(1, .int .i64 a1), (3, pt b1 0), (10, pt b14 0), (11, .int .i64 x11), (12, .int .i64 x12), (15, pt b20 0), (16, v22), (18, .int .i64 gx3)] ∧ D = Cls w [] [.obj b20 [.int .i64 0, .slice none 0 0] 24, .obj b14 [.int .i64 x9.Order, v10] 24, .obj b1 [.int .i64 a0.Order, u0_0] 24, .sl v22 37 2 (l21.map TBlock.row), .sl v10 37 2 (x9.Taken.map TBlock.row)] ∧ m3_quirlaw_BuddySays_K9 l21 gx3 a0 a1 x9 x11 x12 go1 = some r) ?_ ?_
         ·
          refine W.seq (W.region (L.y rfl (Y.move rfl) ?_))
          refine L.y rfl (Y.fieldP fd24_0 rfl) ?_
          refine L.y rfl (Y.loadP (i := 2) ag3 rfl rfl rfl) ?_
          refine L.ite h rfl (Y.leq rfl rfl) (fun c96 h => ?_) (fun c96 h => ?_)
          ·
           refine L.nil (E.thenN (W.condT rfl ?_))
           exact W.skip (E.joinJ ⟨rfl, rfl, h⟩ ⟨rfl, rfl, rfl, rfl, rfl, rfl, rfl, rfl, trivial⟩ (fun _ hw => hw))
          ·
           refine L.nil (E.thenN (W.condF rfl ?_))
           exact W.exit (E.KSX (E.KLX (E.blockX (E.joinJ ⟨rfl, rfl, h⟩ ⟨rfl, rfl, rfl, rfl, trivial⟩ (fun _ hw => hw.sel [0, 1, 4] (by decide) rfl)))))
         ·
          rintro _ _ ⟨rfl, rfl, h⟩
          rw [m3_quirlaw_BuddySays_K9] at h
          refine W.seqJ (fun gs D => gs = [(1, .int .i64 a1), (3, pt b1 0), (10, pt b14 0), (11, .int .i64 x11), (12, .int .i64 x12), (15, pt b20 0), (16, v22), (18, .int .i64 gx3)] ∧ D = Cls w [] [.obj b20 [.int .i64 0, .slice none 0 0] 24, .obj b14 [.int .i64 x9.Order, v10] 24, .obj b1 [.int .i64 a0.Order, u0_0] 24, .sl v22 37 2 (l21.map TBlock.row), .sl v10 37 2 (x9.Taken.map TBlock.row)] ∧ m3_quirlaw_BuddySays_K10 gx3 go1 = some r) ?_ ?_
          ·
           refine W.block (W.seq (W.region (L.y rfl (Y.move rfl) ?_)))
           refine L.y rfl (Y.lenM (g := TBlock.row) (l := l21) Try.underlying22 rfl (fun w hw => As.at_ (hw.get (i := 3) rfl))) ?_
           refine L.y rfl (Y.move rfl) ?_
           refine L.nil (E.thenN (W.block (W.loopJ (fun m gs D => ∃ (gx4 : Int), gs = [(1, .int .i64 a1), (3, pt b1 0), (10, pt b14 0), (11, .int .i64 x11), (12, .int .i64 x12), (15, pt b20 0), (16, v22), (18, .int .i64 gx3), (153, v22), (154, .int .i64 (l21.length : Int)), (155, .int .i64 gx4)] ∧ D = Cls w [] [.obj b20 [.int .i64 0, .slice none 0 0] 24, .obj b14 [.int .i64 x9.Order, v10] 24, .obj b1 [.int .i64 a0.Order, u0_0] 24, .sl v22 37 2 (l21.map TBlock.row), .sl v10 37 2 (x9.Taken.map TBlock.row)] ∧ m3_quirlaw_BuddySays_L2 l21 gx3 a0 a1 x9 x11 x12 go1 m gx4 = some r) ⟨0, rfl, rfl, h⟩ ⟨rfl, rfl, rfl, rfl, rfl, rfl, rfl, rfl, rfl, rfl, rfl, trivial⟩ (fun _ hw => hw) ?_)))
           rintro m _ _ ⟨gx4, rfl, rfl, h⟩
           rcases m with _ | m
           · rw [m3_quirlaw_BuddySays_L2] at h; cases h
           rw [m3_quirlaw_BuddySays_L2] at h
           generalize hg2 : m3_quirlaw_BuddySays_L2 l21 gx3 a0 a1 x9 x11 x12 go1 m = go2 at h
           rw [m3_quirlaw_BuddySays_L2B] at h
           refine W.seq (W.region (L.ite h rfl (Y.lss rfl rfl) (fun c28 h => ?_) (fun c28 h => ?_)))
           ·
            refine L.nil (E.thenN (W.seq (W.condT rfl ?_)))
            refine W.skip (E.thenN (W.seqJ (fun gs D => gs = [(1, .int .i64 a1), (3, pt b1 0), (10, pt b14 0), (11, .int .i64 x11), (12, .int .i64 x12), (15, pt b20 0), (16, v22), (18, .int .i64 gx3), (153, v22), (154, .int .i64 (l21.length : Int)), (155, .int .i64 gx4)] ∧ D = Cls w [] [.obj b20 [.int .i64 0, .slice none 0 0] 24, .obj b14 [.int .i64 x9.Order, v10] 24, .obj b1 [.int .i64 a0.Order, u0_0] 24, .sl v22 37 2 (l21.map TBlock.row), .sl v10 37 2 (x9.Taken.map TBlock.row)] ∧ m3_quirlaw_BuddySays_K11 gx4 go2 = some r) ?_ ?_))
            ·
             refine W.block (W.seq (W.region (L.m (V := fun _ => el v22 (gx4.toNat * 2)) h rfl (Y.indexM (g := TBlock.row) (l := l21) Try.underlying22 sz37 rfl rfl (fun w hw => As.at_ (hw.get (i := 3) rfl))) (fun x30 ex30 h => ?_))))
             refine L.y rfl (Y.loadEN (r := [.int .i64 x30.At, .int .i64 x30.Order]) ag37 sz37 rfl (fun w hw => As.at_ (hw.get (i := 3) rfl)) (idx_map ex30) rfl) ?_
             refine L.alloc rfl ze37 ?_
             intro b31
             refine L.store (i := 0) (vs := [.int .i64 x30.At, .int .i64 x30.Order]) sz37 rfl rfl rfl rfl (by simp [Value.oneCell', Value.cells, st, pt]) rfl (Nat.le_of_ble_eq_true rfl) ?_
             refine L.nil (E.thenN (W.seq (W.region (L.y rfl (Y.fieldP fd37_1 rfl) ?_))))
             refine L.y rfl (Y.loadP (i := 0) ag3 rfl rfl rfl) ?_
             refine L.y rfl (Y.move rfl) ?_
             refine L.ite h rfl (Y.eql rfl rfl) (fun c32 h => ?_) (fun c32 h => ?_)
             ·
              refine L.nil (E.thenN (W.condT rfl ?_))
              refine W.seq (W.region (L.y rfl (Y.assign rfl) ?_))
              refine L.nil (E.thenN (W.seqJ (fun gs D => ∃ (gx5 : Int), gs = [(1, .int .i64 a1), (3, pt b1 0), (10, pt b14 0), (11, .int .i64 x11), (12, .int .i64 x12), (20, pt b31 0), (21, .int .i64 gx5)] ∧ D = Cls w [] [.obj b31 [.int .i64 x30.At, .int .i64 x30.Order] 37, .obj b14 [.int .i64 x9.Order, v10] 24, .obj b1 [.int .i64 a0.Order, u0_0] 24, .sl v10 37 2 (x9.Taken.map TBlock.row)] ∧ m3_quirlaw_BuddySays_K12 a0 x30 a1 x9 x11 x12 gx5 = some r) ?_ ?_))
              ·
               refine W.block (W.loopJ (fun m gs D => ∃ (gx10 : Int), gs = [(1, .int .i64 a1), (3, pt b1 0), (10, pt b14 0), (11, .int .i64 x11), (12, .int .i64 x12), (20, pt b31 0), (21, .int .i64 gx10)] ∧ D = Cls w [] [.obj b31 [.int .i64 x30.At, .int .i64 x30.Order] 37, .obj b14 [.int .i64 x9.Order, v10] 24, .obj b1 [.int .i64 a0.Order, u0_0] 24, .sl v10 37 2 (x9.Taken.map TBlock.row)] ∧ m3_quirlaw_BuddySays_L3 a0 x30 a1 x9 x11 x12 m gx10 = some r) ⟨0, rfl, rfl, h⟩ ⟨rfl, rfl, rfl, rfl, rfl, rfl, rfl, trivial⟩ (fun _ hw => hw.sel [0, 2, 3, 5] (by decide) rfl) ?_)
               rintro m _ _ ⟨gx10, rfl, rfl, h⟩
               rcases m with _ | m
               · rw [m3_quirlaw_BuddySays_L3] at h; cases h
               rw [m3_quirlaw_BuddySays_L3] at h
               generalize hg3 : m3_quirlaw_BuddySays_L3 a0 x30 a1 x9 x11 x12 m = go3 at h
               rw [m3_quirlaw_BuddySays_L3B] at h
               refine W.seq (W.seq (W.quietC mixed (by kernel_rfl) (fun _ hw => hw.drew) (fun hC => ?_)))
               refine U.y rfl (Y.move rfl) ?_
               refine U.y rfl (Y.fieldP fd24_1 rfl) ?_
               refine U.y rfl (Y.loadP (i := 2) ag22 rfl rfl rfl) ?_
               refine U.y rfl (Y.lenM (g := TBlock.row) (l := a0.Taken) Try.underlying22 rfl (fun w' hw => hA0_0.cls0 hw)) ?_
               refine U.ite h rfl (Y.lss rfl rfl) (fun c92 h => ?_) (fun c92 h => ?_)
               ·
                refine U.y rfl (Y.move rfl) ?_
                refine U.take rfl (U.y rfl (Y.fieldP fd24_1 rfl) ?_)
                refine U.take rfl (U.y rfl (Y.loadP (i := 2) ag22 rfl rfl rfl) ?_)
                refine U.take rfl (U.y rfl (Y.move rfl) ?_)
                refine U.take rfl (U.m (V := fun _ => el u0_0 (gx10.toNat * 2)) h rfl (Y.indexM (g := TBlock.row) (l := a0.Taken) Try.underlying22 sz37 rfl rfl (fun w' hw => hA0_0.cls0 hw)) (fun x93 ex93 h => ?_))
                refine U.take rfl (U.y rfl (Y.fieldE fd37_0 rfl) ?_)
                refine U.take rfl (U.y rfl (Y.loadE (u := .int .i64 x93.At) ag3 rfl (fun w' hw => hA0_0.cls0 hw) (idx_map ex93) rfl) ?_)
                refine U.take rfl (U.y rfl (Y.fieldP fd37_0 rfl) ?_)
                refine U.take rfl (U.y rfl (Y.loadP (i := 0) ag3 rfl rfl rfl) ?_)
                refine U.take rfl (U.ite h rfl (Y.lss rfl rfl) (fun c94 h => ?_) (fun c94 h => ?_))
                ·
                 refine U.y rfl (Y.pickT rfl rfl) ?_
                 refine U.nil (E.thenN (W.condT rfl ?_))
                 refine W.skip (E.thenN (W.block (W.region (L.y rfl (Y.move rfl) ?_))))
                 refine L.m (V := fun x95 => .int .i64 x95) h rfl (Y.addM rfl rfl) (fun x95 ex95 h => ?_)
                 refine L.y rfl (Y.assign rfl) ?_
                 exact L.nil (E.blockN (E.againJ ⟨x95, rfl, rfl, by rw [hg3]; exact h⟩ (Nat.lt_succ_self _) ⟨rfl, rfl, rfl, rfl, rfl, rfl, rfl, trivial⟩ (fun _ hw => hw)))
                ·
                 refine U.y rfl (Y.pickT rfl rfl) ?_
                 refine U.nil (E.thenN (W.condF rfl ?_))
                 exact W.exit (E.thenX (E.KLX (E.blockX (E.joinJ ⟨gx10, rfl, rfl, h⟩ ⟨rfl, rfl, rfl, rfl, rfl, rfl, rfl, trivial⟩ (fun _ hw => hw)))))
               ·
                refine U.y rfl (Y.move rfl) ?_
                refine U.pass rfl rfl (by nofun) ?_
                refine U.pass rfl rfl (by nofun) ?_
                refine U.pass rfl rfl (by nofun) ?_
                refine U.pass rfl rfl (by nofun) ?_
                refine U.pass rfl rfl (by nofun) ?_
                refine U.pass rfl rfl (by nofun) ?_
                refine U.pass rfl rfl (by nofun) ?_
                refine U.pass rfl rfl (by nofun) ?_
                refine U.pass rfl rfl (by nofun) ?_
                refine U.y rfl (Y.pickF rfl rfl) ?_
                refine U.nil (E.thenN (W.condF rfl ?_))
                exact W.exit (E.thenX (E.KLX (E.blockX (E.joinJ ⟨gx10, rfl, rfl, h⟩ ⟨rfl, rfl, rfl, rfl, rfl, rfl, rfl, trivial⟩ (fun _ hw => hw)))))
              ·
               rintro _ _ ⟨gx5, rfl, rfl, h⟩
               rw [m3_quirlaw_BuddySays_K12] at h
               refine W.seqJ (fun gs D => ∃ (gb6 : Nat) (gv7 : Value) (gl8 : (List TBlock)), gs = [(10, pt b14 0), (11, .int .i64 x11), (12, .int .i64 x12), (20, pt b31 0), (22, pt gb6 0)] ∧ D = Cls w [] [.obj b31 [.int .i64 x30.At, .int .i64 x30.Order] 37, .obj b14 [.int .i64 x9.Order, v10] 24, .sl gv7 37 2 (gl8.map TBlock.row), .obj gb6 [.int .i64 a0.Order, gv7] 24, .sl v10 37 2 (x9.Taken.map TBlock.row)] ∧ m3_quirlaw_BuddySays_K13 x9 a0 x11 x30 x12 gl8 = some r) ?_ ?_
               ·
                refine W.drawn2 (k := 15) (stC [[11, 14], [14]] [Cls w [] [.obj b31 [.int .i64 x30.At, .int .i64 x30.Order] 37, .obj b14 [.int .i64 x9.Order, v10] 24, .obj b1 [.int .i64 a0.Order, u0_0] 24, .sl v10 37 2 (x9.Taken.map TBlock.row)], Cls w [] [.obj b31 [.int .i64 x30.At, .int .i64 x30.Order] 37, .obj b14 [.int .i64 x9.Order, v10] 24, .obj b1 [.int .i64 a0.Order, u0_0] 24, .sl v10 37 2 (x9.Taken.map TBlock.row)]] (Cls w [] [.obj b31 [.int .i64 x30.At, .int .i64 x30.Order] 37, .obj b14 [.int .i64 x9.Order, v10] 24, .obj b1 [.int .i64 a0.Order, u0_0] 24, .sl v10 37 2 (x9.Taken.map TBlock.row)])) rfl mixed (fun _ hw => hw.drew) (Sc.now (by kernel_rfl) (fun _ hw => hw)) ?_
                refine V2.y (i := 0) (Nx2.of (Z := Cls w [] [.obj b31 [.int .i64 x30.At, .int .i64 x30.Order] 37, .obj b14 [.int .i64 x9.Order, v10] 24, .obj b1 [.int .i64 a0.Order, u0_0] 24, .sl v10 37 2 (x9.Taken.map TBlock.row)]) [] (by kernel_rfl) rfl (Zc.on (fun _ hw => hw) (Zc.on (fun _ hw => hw) (Zc.fin (fun _ hw => hw))))) rfl rfl rfl (Y.fieldP fd24_0 rfl) ?_
                refine V2.y (i := 1) (Nx2.of (Z := Cls w [] [.obj b31 [.int .i64 x30.At, .int .i64 x30.Order] 37, .obj b14 [.int .i64 x9.Order, v10] 24, .obj b1 [.int .i64 a0.Order, u0_0] 24, .sl v10 37 2 (x9.Taken.map TBlock.row)]) [] (by kernel_rfl) rfl (Zc.on (fun _ hw => hw) (Zc.on (fun _ hw => hw) (Zc.fin (fun _ hw => hw))))) rfl rfl rfl (Y.loadP (i := 2) ag3 rfl rfl rfl) ?_
                refine V2.y (i := 2) (Nx2.of (Z := Cls w [] [.obj b31 [.int .i64 x30.At, .int .i64 x30.Order] 37, .obj b14 [.int .i64 x9.Order, v10] 24, .obj b1 [.int .i64 a0.Order, u0_0] 24, .sl v10 37 2 (x9.Taken.map TBlock.row)]) [] (by kernel_rfl) rfl (Zc.on (fun _ hw => hw) (Zc.on (fun _ hw => hw) (Zc.fin (fun _ hw => hw))))) rfl rfl rfl (Y.fieldP fd24_1 rfl) ?_
                refine V2.y (i := 3) (Nx2.of (Z := Cls w [] [.obj b31 [.int .i64 x30.At, .int .i64 x30.Order] 37, .obj b14 [.int .i64 x9.Order, v10] 24, .obj b1 [.int .i64 a0.Order, u0_0] 24, .sl v10 37 2 (x9.Taken.map TBlock.row)]) [] (by kernel_rfl) rfl (Zc.on (fun _ hw => hw) (Zc.on (fun _ hw => hw) (Zc.fin (fun _ hw => hw))))) rfl rfl rfl (Y.loadP (i := 2) ag22 rfl rfl rfl) ?_
                refine V2.y (i := 5) (Nx2.of (Z := Cls w [] [.obj b31 [.int .i64 x30.At, .int .i64 x30.Order] 37, .obj b14 [.int .i64 x9.Order, v10] 24, .obj b1 [.int .i64 a0.Order, u0_0] 24, .sl v10 37 2 (x9.Taken.map TBlock.row)]) [] (by kernel_rfl) rfl (Zc.on (fun _ hw => hw) (Zc.on (fun _ hw => hw) (Zc.fin (fun _ hw => hw))))) rfl rfl rfl (Y.move rfl) ?_
                refine V2.y (i := 6) (Nx2.of (Z := Cls w [] [.obj b31 [.int .i64 x30.At, .int .i64 x30.Order] 37, .obj b14 [.int .i64 x9.Order, v10] 24, .obj b1 [.int .i64 a0.Order, u0_0] 24, .sl v10 37 2 (x9.Taken.map TBlock.row)]) [] (by kernel_rfl) rfl (Zc.on (fun _ hw => hw) (Zc.on (fun _ hw => hw) (Zc.fin (fun _ hw => hw))))) rfl rfl rfl (Y.fieldP fd37_0 rfl) ?_
                refine V2.y (i := 7) (Nx2.of (Z := Cls w [] [.obj b31 [.int .i64 x30.At, .int .i64 x30.Order] 37, .obj b14 [.int .i64 x9.Order, v10] 24, .obj b1 [.int .i64 a0.Order, u0_0] 24, .sl v10 37 2 (x9.Taken.map TBlock.row)]) [] (by kernel_rfl) rfl (Zc.on (fun _ hw => hw) (Zc.on (fun _ hw => hw) (Zc.fin (fun _ hw => hw))))) rfl rfl rfl (Y.loadP (i := 0) ag3 rfl rfl rfl) ?_
                refine V2.y (i := 8) (Nx2.of (Z := Cls w [] [.obj b31 [.int .i64 x30.At, .int .i64 x30.Order] 37, .obj b14 [.int .i64 x9.Order, v10] 24, .obj b1 [.int .i64 a0.Order, u0_0] 24, .sl v10 37 2 (x9.Taken.map TBlock.row)]) [] (by kernel_rfl) rfl (Zc.on (fun _ hw => hw) (Zc.on (fun _ hw => hw) (Zc.fin (fun _ hw => hw))))) rfl rfl rfl (Y.move rfl) ?_
                refine V2.y (i := 9) (Nx2.of (Z := Cls w [] [.obj b31 [.int .i64 x30.At, .int .i64 x30.Order] 37, .obj b14 [.int .i64 x9.Order, v10] 24, .obj b1 [.int .i64 a0.Order, u0_0] 24, .sl v10 37 2 (x9.Taken.map TBlock.row)]) [] (by kernel_rfl) rfl (Zc.on (fun _ hw => hw) (Zc.on (fun _ hw => hw) (Zc.fin (fun _ hw => hw))))) rfl rfl rfl (Y.build (cells := #[.int .i64 x30.At, .int .i64 a1]) rfl (by kernel_rfl)) ?_
                refine V2.eff3 (i1 := 4) (i2 := 10) (i3 := 13) (by kernel_rfl) rfl rfl rfl ?_ ?_ ?_
                ·
                 obtain ⟨l49, e51, h⟩ := bind1S h
                 refine L.does rfl en16 rfl (fun w' hw => w16_api_Block a0.Taken u0_0 w' _ e51 (hA0_0.cls0 hw)) ?_
                 rintro v50 _ ⟨_, rfl, rfl⟩
                 refine L.nil (E.toV2 (stC [[11, 14], [14]] [Cls w [] [.sl v50 37 2 (l49.map TBlock.row), .obj b31 [.int .i64 x30.At, .int .i64 x30.Order] 37, .obj b14 [.int .i64 x9.Order, v10] 24, .obj b1 [.int .i64 a0.Order, u0_0] 24, .sl v10 37 2 (x9.Taken.map TBlock.row)], Cls w [] [.obj b31 [.int .i64 x30.At, .int .i64 x30.Order] 37, .obj b14 [.int .i64 x9.Order, v10] 24, .obj b1 [.int .i64 a0.Order, u0_0] 24, .sl v10 37 2 (x9.Taken.map TBlock.row)]] (Cls w [] [.obj b31 [.int .i64 x30.At, .int .i64 x30.Order] 37, .obj b14 [.int .i64 x9.Order, v10] 24, .obj b1 [.int .i64 a0.Order, u0_0] 24, .sl v10 37 2 (x9.Taken.map TBlock.row)])) 4 (by kernel_rfl) (Sc.stay (fun _ hw => hw.sel [1, 2, 3, 4] (by decide) rfl) (Sc.stay (fun _ hw => hw) (Sc.stayD (fun _ hw => hw)))) (Sc.now (by kernel_rfl) (fun _ hw => hw)) ?_)
                 refine V2.eff2 (i1 := 10) (i2 := 13) (by kernel_rfl) rfl rfl ?_ ?_
                 ·
                  refine L.litAgg rfl Try.underlying22 eL37 rfl rfl rfl ?_
                  intro b52
                  refine L.nil (E.toV2 (stC [[11, 14], [14]] [Cls w [] [.sl (sv b52 1) 37 2 (([(⟨x30.At, a1⟩ : TBlock)]).map TBlock.row), .sl v50 37 2 (l49.map TBlock.row), .obj b31 [.int .i64 x30.At, .int .i64 x30.Order] 37, .obj b14 [.int .i64 x9.Order, v10] 24, .obj b1 [.int .i64 a0.Order, u0_0] 24, .sl v10 37 2 (x9.Taken.map TBlock.row)], Cls w [] [.sl (sv b52 1) 37 2 (([(⟨x30.At, a1⟩ : TBlock)]).map TBlock.row), .obj b31 [.int .i64 x30.At, .int .i64 x30.Order] 37, .obj b14 [.int .i64 x9.Order, v10] 24, .obj b1 [.int .i64 a0.Order, u0_0] 24, .sl v10 37 2 (x9.Taken.map TBlock.row)]] (Cls w [] [.sl (sv b52 1) 37 2 (([(⟨x30.At, a1⟩ : TBlock)]).map TBlock.row), .obj b31 [.int .i64 x30.At, .int .i64 x30.Order] 37, .obj b14 [.int .i64 x9.Order, v10] 24, .obj b1 [.int .i64 a0.Order, u0_0] 24, .sl v10 37 2 (x9.Taken.map TBlock.row)])) 10 (by kernel_rfl) (Sc.stay (fun _ hw => hw.sel [1, 2, 3, 4, 5] (by decide) rfl) (Sc.stay (fun _ hw => hw.sel [1, 2, 3, 4] (by decide) rfl) (Sc.stayD (fun _ hw => hw.sel [1, 2, 3, 4] (by decide) rfl)))) (Sc.now (by kernel_rfl) (fun _ hw => hw)) ?_)
                  refine V2.eff2 (i1 := 11) (i2 := 13) (by kernel_rfl) rfl rfl ?_ ?_
                  ·
                   refine L.insRD (i := 1) (j := 0) (l := l49) (x1 := (⟨x30.At, a1⟩ : TBlock)) (a := gx5) h wInsR15 (fun _ => rfl) rfl en15 rfl rfl rfl rfl rfl (by decide) ?_
                   intro v54 l53 el53 h
                   refine L.nil (E.toV2 (stC [[14]] [Cls w [] [.sl (sv b52 1) 37 2 (([(⟨x30.At, a1⟩ : TBlock)]).map TBlock.row), .sl v54 37 2 (l53.map TBlock.row), .obj b31 [.int .i64 x30.At, .int .i64 x30.Order] 37, .obj b14 [.int .i64 x9.Order, v10] 24, .obj b1 [.int .i64 a0.Order, u0_0] 24, .sl v10 37 2 (x9.Taken.map TBlock.row)]] (Cls w [] [.sl (sv b52 1) 37 2 (([(⟨x30.At, a1⟩ : TBlock)]).map TBlock.row), .sl v54 37 2 (l53.map TBlock.row), .obj b31 [.int .i64 x30.At, .int .i64 x30.Order] 37, .obj b14 [.int .i64 x9.Order, v10] 24, .obj b1 [.int .i64 a0.Order, u0_0] 24, .sl v10 37 2 (x9.Taken.map TBlock.row)])) 11 (by kernel_rfl) (Sc.past rfl (Sc.stay (fun _ hw => hw.sel [0, 2, 3, 4, 5] (by decide) rfl) (Sc.stayD (fun _ hw => hw.sel [0, 2, 3, 4, 5] (by decide) rfl)))) (Sc.now (by kernel_rfl) (fun _ hw => hw)) ?_)
                   refine V2.y (i := 12) (Nx2.of (Z := Cls w [] [.sl (sv b52 1) 37 2 (([(⟨x30.At, a1⟩ : TBlock)]).map TBlock.row), .sl v54 37 2 (l53.map TBlock.row), .obj b31 [.int .i64 x30.At, .int .i64 x30.Order] 37, .obj b14 [.int .i64 x9.Order, v10] 24, .obj b1 [.int .i64 a0.Order, u0_0] 24, .sl v10 37 2 (x9.Taken.map TBlock.row)]) [] (by kernel_rfl) rfl (Zc.on (fun _ hw => hw) (Zc.fin (fun _ hw => hw)))) rfl rfl rfl (Y.buildC (cells := #[.int .i64 a0.Order, v54]) rfl (fun w hw => by rcases ((As.at_ (hw.get (i := 1) rfl))).shape with ⟨h0, _⟩ | ⟨_, _, h0, _, _⟩ <;> simp only [h0] <;> kernel_rfl)) ?_
                   refine V2.eff (i := 13) (by kernel_rfl) rfl ?_
                   refine L.alloc rfl ze24 ?_
                   intro b55
                   refine L.nil (E.toV2 (stC [[14]] [Cls w [] [.obj b55 [.int .i64 0, .slice none 0 0] 24, .sl (sv b52 1) 37 2 (([(⟨x30.At, a1⟩ : TBlock)]).map TBlock.row), .sl v54 37 2 (l53.map TBlock.row), .obj b31 [.int .i64 x30.At, .int .i64 x30.Order] 37, .obj b14 [.int .i64 x9.Order, v10] 24, .obj b1 [.int .i64 a0.Order, u0_0] 24, .sl v10 37 2 (x9.Taken.map TBlock.row)]] (Cls w [] [.sl (sv b52 1) 37 2 (([(⟨x30.At, a1⟩ : TBlock)]).map TBlock.row), .sl v54 37 2 (l53.map TBlock.row), .obj b31 [.int .i64 x30.At, .int .i64 x30.Order] 37, .obj b14 [.int .i64 x9.Order, v10] 24, .obj b1 [.int .i64 a0.Order, u0_0] 24, .sl v10 37 2 (x9.Taken.map TBlock.row)])) 13 (by kernel_rfl) (Sc.stay (fun _ hw => hw.sel [1, 2, 3, 4, 5, 6] (by decide) rfl) (Sc.stayD (fun _ hw => hw))) (Sc.now (by kernel_rfl) (fun _ hw => hw)) ?_)
                   refine V2.eff (i := 14) (by kernel_rfl) rfl ?_
                   refine L.storeC (i := 0) sz24 rfl rfl rfl rfl (fun w hw => (all1 rfl (all1 (As.at_ (hw.get (i := 2) rfl)).one all0))) rfl (Nat.le_of_ble_eq_true rfl) ?_
                   refine L.nil (E.toV2 (stC [] [] (Cls w [] [.sl (sv b52 1) 37 2 (([(⟨x30.At, a1⟩ : TBlock)]).map TBlock.row), .sl v54 37 2 (l53.map TBlock.row), .obj b31 [.int .i64 x30.At, .int .i64 x30.Order] 37, .obj b14 [.int .i64 x9.Order, v10] 24, .obj b1 [.int .i64 a0.Order, u0_0] 24, .sl v10 37 2 (x9.Taken.map TBlock.row)])) 14 (by kernel_rfl) (Sc.past rfl (Sc.stayD (fun _ hw => hw))) (Sc.atD (fun _ hw => hw.sel [1, 2, 3, 4, 5, 6] (by decide) rfl)) ?_)
                   refine V2.done (by kernel_rfl) ?_
                   exact E.joinJ ⟨b55, v54, l53, rfl, rfl, h⟩ ⟨rfl, rfl, rfl, rfl, rfl, trivial⟩ (fun _ hw => hw.sel [3, 4, 2, 0, 6] (by decide) rfl)
                  ·
                   refine L.alloc rfl ze24 ?_
                   intro b56
                   refine L.nil (E.toV2 (stC [[11, 14], [14]] [Cls w [] [.obj b56 [.int .i64 0, .slice none 0 0] 24, .sl (sv b52 1) 37 2 (([(⟨x30.At, a1⟩ : TBlock)]).map TBlock.row), .sl v50 37 2 (l49.map TBlock.row), .obj b31 [.int .i64 x30.At, .int .i64 x30.Order] 37, .obj b14 [.int .i64 x9.Order, v10] 24, .obj b1 [.int .i64 a0.Order, u0_0] 24, .sl v10 37 2 (x9.Taken.map TBlock.row)], Cls w [] [.obj b56 [.int .i64 0, .slice none 0 0] 24, .sl (sv b52 1) 37 2 (([(⟨x30.At, a1⟩ : TBlock)]).map TBlock.row), .obj b31 [.int .i64 x30.At, .int .i64 x30.Order] 37, .obj b14 [.int .i64 x9.Order, v10] 24, .obj b1 [.int .i64 a0.Order, u0_0] 24, .sl v10 37 2 (x9.Taken.map TBlock.row)]] (Cls w [] [.sl (sv b52 1) 37 2 (([(⟨x30.At, a1⟩ : TBlock)]).map TBlock.row), .obj b31 [.int .i64 x30.At, .int .i64 x30.Order] 37, .obj b14 [.int .i64 x9.Order, v10] 24, .obj b1 [.int .i64 a0.Order, u0_0] 24, .sl v10 37 2 (x9.Taken.map TBlock.row)])) 13 (by kernel_rfl) (Sc.stay (fun _ hw => hw.sel [1, 2, 3, 4, 5, 6] (by decide) rfl) (Sc.stay (fun _ hw => hw.sel [1, 2, 3, 4, 5] (by decide) rfl) (Sc.stayD (fun _ hw => hw)))) (Sc.now (by kernel_rfl) (fun _ hw => hw)) ?_)
                   refine V2.eff (i := 11) (by kernel_rfl) rfl ?_
                   refine L.insRD (i := 2) (j := 1) (l := l49) (x1 := (⟨x30.At, a1⟩ : TBlock)) (a := gx5) h wInsR15 (fun _ => rfl) rfl en15 rfl rfl rfl rfl rfl (by decide) ?_
                   intro v58 l57 el57 h
                   refine L.nil (E.toV2 (stC [[14]] [Cls w [] [.obj b56 [.int .i64 0, .slice none 0 0] 24, .sl (sv b52 1) 37 2 (([(⟨x30.At, a1⟩ : TBlock)]).map TBlock.row), .sl v58 37 2 (l57.map TBlock.row), .obj b31 [.int .i64 x30.At, .int .i64 x30.Order] 37, .obj b14 [.int .i64 x9.Order, v10] 24, .obj b1 [.int .i64 a0.Order, u0_0] 24, .sl v10 37 2 (x9.Taken.map TBlock.row)]] (Cls w [] [.sl (sv b52 1) 37 2 (([(⟨x30.At, a1⟩ : TBlock)]).map TBlock.row), .sl v58 37 2 (l57.map TBlock.row), .obj b31 [.int .i64 x30.At, .int .i64 x30.Order] 37, .obj b14 [.int .i64 x9.Order, v10] 24, .obj b1 [.int .i64 a0.Order, u0_0] 24, .sl v10 37 2 (x9.Taken.map TBlock.row)])) 11 (by kernel_rfl) (Sc.past rfl (Sc.stay (fun _ hw => hw.sel [0, 1, 3, 4, 5, 6] (by decide) rfl) (Sc.stayD (fun _ hw => hw.sel [0, 2, 3, 4, 5] (by decide) rfl)))) (Sc.now (by kernel_rfl) (fun _ hw => hw)) ?_)
                   refine V2.y (i := 12) (Nx2.of (Z := Cls w [] [.sl (sv b52 1) 37 2 (([(⟨x30.At, a1⟩ : TBlock)]).map TBlock.row), .sl v58 37 2 (l57.map TBlock.row), .obj b31 [.int .i64 x30.At, .int .i64 x30.Order] 37, .obj b14 [.int .i64 x9.Order, v10] 24, .obj b1 [.int .i64 a0.Order, u0_0] 24, .sl v10 37 2 (x9.Taken.map TBlock.row)]) [] (by kernel_rfl) rfl (Zc.on (fun _ hw => hw.sel [1, 2, 3, 4, 5, 6] (by decide) rfl) (Zc.fin (fun _ hw => hw)))) rfl rfl rfl (Y.buildC (cells := #[.int .i64 a0.Order, v58]) rfl (fun w hw => by rcases ((As.at_ (hw.get (i := 1) rfl))).shape with ⟨h0, _⟩ | ⟨_, _, h0, _, _⟩ <;> simp only [h0] <;> kernel_rfl)) ?_
                   refine V2.eff (i := 14) (by kernel_rfl) rfl ?_
                   refine L.storeC (i := 0) sz24 rfl rfl rfl rfl (fun w hw => (all1 rfl (all1 (As.at_ (hw.get (i := 2) rfl)).one all0))) rfl (Nat.le_of_ble_eq_true rfl) ?_
                   refine L.nil (E.toV2 (stC [] [] (Cls w [] [.sl (sv b52 1) 37 2 (([(⟨x30.At, a1⟩ : TBlock)]).map TBlock.row), .sl v58 37 2 (l57.map TBlock.row), .obj b31 [.int .i64 x30.At, .int .i64 x30.Order] 37, .obj b14 [.int .i64 x9.Order, v10] 24, .obj b1 [.int .i64 a0.Order, u0_0] 24, .sl v10 37 2 (x9.Taken.map TBlock.row)])) 14 (by kernel_rfl) (Sc.past rfl (Sc.stayD (fun _ hw => hw))) (Sc.atD (fun _ hw => hw.sel [1, 2, 3, 4, 5, 6] (by decide) rfl)) ?_)
                   refine V2.done (by kernel_rfl) ?_
                   exact E.joinJ ⟨b56, v58, l57, rfl, rfl, h⟩ ⟨rfl, rfl, rfl, rfl, rfl, trivial⟩ (fun _ hw => hw.sel [3, 4, 2, 0, 6] (by decide) rfl)
                 ·
                  refine L.alloc rfl ze24 ?_
                  intro b59
                  refine L.nil (E.toV2 (stC [[11, 14], [14]] [Cls w [] [.obj b59 [.int .i64 0, .slice none 0 0] 24, .sl v50 37 2 (l49.map TBlock.row), .obj b31 [.int .i64 x30.At, .int .i64 x30.Order] 37, .obj b14 [.int .i64 x9.Order, v10] 24, .obj b1 [.int .i64 a0.Order, u0_0] 24, .sl v10 37 2 (x9.Taken.map TBlock.row)], Cls w [] [.obj b59 [.int .i64 0, .slice none 0 0] 24, .obj b31 [.int .i64 x30.At, .int .i64 x30.Order] 37, .obj b14 [.int .i64 x9.Order, v10] 24, .obj b1 [.int .i64 a0.Order, u0_0] 24, .sl v10 37 2 (x9.Taken.map TBlock.row)]] (Cls w [] [.obj b31 [.int .i64 x30.At, .int .i64 x30.Order] 37, .obj b14 [.int .i64 x9.Order, v10] 24, .obj b1 [.int .i64 a0.Order, u0_0] 24, .sl v10 37 2 (x9.Taken.map TBlock.row)])) 13 (by kernel_rfl) (Sc.stay (fun _ hw => hw.sel [1, 2, 3, 4, 5] (by decide) rfl) (Sc.stay (fun _ hw => hw.sel [1, 2, 3, 4] (by decide) rfl) (Sc.stayD (fun _ hw => hw)))) (Sc.now (by kernel_rfl) (fun _ hw => hw)) ?_)
                  refine V2.eff (i := 10) (by kernel_rfl) rfl ?_
                  refine L.litAgg rfl Try.underlying22 eL37 rfl rfl rfl ?_
                  intro b60
                  refine L.nil (E.toV2 (stC [[11, 14], [14]] [Cls w [] [.sl (sv b60 1) 37 2 (([(⟨x30.At, a1⟩ : TBlock)]).map TBlock.row), .obj b59 [.int .i64 0, .slice none 0 0] 24, .sl v50 37 2 (l49.map TBlock.row), .obj b31 [.int .i64 x30.At, .int .i64 x30.Order] 37, .obj b14 [.int .i64 x9.Order, v10] 24, .obj b1 [.int .i64 a0.Order, u0_0] 24, .sl v10 37 2 (x9.Taken.map TBlock.row)], Cls w [] [.sl (sv b60 1) 37 2 (([(⟨x30.At, a1⟩ : TBlock)]).map TBlock.row), .obj b59 [.int .i64 0, .slice none 0 0] 24, .obj b31 [.int .i64 x30.At, .int .i64 x30.Order] 37, .obj b14 [.int .i64 x9.Order, v10] 24, .obj b1 [.int .i64 a0.Order, u0_0] 24, .sl v10 37 2 (x9.Taken.map TBlock.row)]] (Cls w [] [.sl (sv b60 1) 37 2 (([(⟨x30.At, a1⟩ : TBlock)]).map TBlock.row), .obj b31 [.int .i64 x30.At, .int .i64 x30.Order] 37, .obj b14 [.int .i64 x9.Order, v10] 24, .obj b1 [.int .i64 a0.Order, u0_0] 24, .sl v10 37 2 (x9.Taken.map TBlock.row)])) 10 (by kernel_rfl) (Sc.stay (fun _ hw => hw.sel [1, 2, 3, 4, 5, 6] (by decide) rfl) (Sc.stay (fun _ hw => hw.sel [1, 2, 3, 4, 5] (by decide) rfl) (Sc.stayD (fun _ hw => hw.sel [1, 2, 3, 4] (by decide) rfl)))) (Sc.now (by kernel_rfl) (fun _ hw => hw)) ?_)
                  refine V2.eff (i := 11) (by kernel_rfl) rfl ?_
                  refine L.insRD (i := 2) (j := 0) (l := l49) (x1 := (⟨x30.At, a1⟩ : TBlock)) (a := gx5) h wInsR15 (fun _ => rfl) rfl en15 rfl rfl rfl rfl rfl (by decide) ?_
                  intro v62 l61 el61 h
                  refine L.nil (E.toV2 (stC [[14]] [Cls w [] [.sl (sv b60 1) 37 2 (([(⟨x30.At, a1⟩ : TBlock)]).map TBlock.row), .obj b59 [.int .i64 0, .slice none 0 0] 24, .sl v62 37 2 (l61.map TBlock.row), .obj b31 [.int .i64 x30.At, .int .i64 x30.Order] 37, .obj b14 [.int .i64 x9.Order, v10] 24, .obj b1 [.int .i64 a0.Order, u0_0] 24, .sl v10 37 2 (x9.Taken.map TBlock.row)]] (Cls w [] [.sl (sv b60 1) 37 2 (([(⟨x30.At, a1⟩ : TBlock)]).map TBlock.row), .sl v62 37 2 (l61.map TBlock.row), .obj b31 [.int .i64 x30.At, .int .i64 x30.Order] 37, .obj b14 [.int .i64 x9.Order, v10] 24, .obj b1 [.int .i64 a0.Order, u0_0] 24, .sl v10 37 2 (x9.Taken.map TBlock.row)])) 11 (by kernel_rfl) (Sc.past rfl (Sc.stay (fun _ hw => hw.sel [0, 1, 3, 4, 5, 6] (by decide) rfl) (Sc.stayD (fun _ hw => hw.sel [0, 2, 3, 4, 5] (by decide) rfl)))) (Sc.now (by kernel_rfl) (fun _ hw => hw)) ?_)
                  refine V2.y (i := 12) (Nx2.of (Z := Cls w [] [.sl (sv b60 1) 37 2 (([(⟨x30.At, a1⟩ : TBlock)]).map TBlock.row), .sl v62 37 2 (l61.map TBlock.row), .obj b31 [.int .i64 x30.At, .int .i64 x30.Order] 37, .obj b14 [.int .i64 x9.Order, v10] 24, .obj b1 [.int .i64 a0.Order, u0_0] 24, .sl v10 37 2 (x9.Taken.map TBlock.row)]) [] (by kernel_rfl) rfl (Zc.on (fun _ hw => hw.sel [0, 2, 3, 4, 5, 6] (by decide) rfl) (Zc.fin (fun _ hw => hw)))) rfl rfl rfl (Y.buildC (cells := #[.int .i64 a0.Order, v62]) rfl (fun w hw => by rcases ((As.at_ (hw.get (i := 1) rfl))).shape with ⟨h0, _⟩ | ⟨_, _, h0, _, _⟩ <;> simp only [h0] <;> kernel_rfl)) ?_
                  refine V2.eff (i := 14) (by kernel_rfl) rfl ?_
                  refine L.storeC (i := 1) sz24 rfl rfl rfl rfl (fun w hw => (all1 rfl (all1 (As.at_ (hw.get (i := 2) rfl)).one all0))) rfl (Nat.le_of_ble_eq_true rfl) ?_
                  refine L.nil (E.toV2 (stC [] [] (Cls w [] [.sl (sv b60 1) 37 2 (([(⟨x30.At, a1⟩ : TBlock)]).map TBlock.row), .sl v62 37 2 (l61.map TBlock.row), .obj b31 [.int .i64 x30.At, .int .i64 x30.Order] 37, .obj b14 [.int .i64 x9.Order, v10] 24, .obj b1 [.int .i64 a0.Order, u0_0] 24, .sl v10 37 2 (x9.Taken.map TBlock.row)])) 14 (by kernel_rfl) (Sc.past rfl (Sc.stayD (fun _ hw => hw))) (Sc.atD (fun _ hw => hw.sel [0, 2, 3, 4, 5, 6] (by decide) rfl)) ?_)
                  refine V2.done (by kernel_rfl) ?_
                  exact E.joinJ ⟨b59, v62, l61, rfl, rfl, h⟩ ⟨rfl, rfl, rfl, rfl, rfl, trivial⟩ (fun _ hw => hw.sel [3, 4, 2, 1, 6] (by decide) rfl)
                ·
                 refine L.litAgg rfl Try.underlying22 eL37 rfl rfl rfl ?_
                 intro b63
                 refine L.nil (E.toV2 (stC [[11, 14], [14]] [Cls w [] [.sl (sv b63 1) 37 2 (([(⟨x30.At, a1⟩ : TBlock)]).map TBlock.row), .obj b31 [.int .i64 x30.At, .int .i64 x30.Order] 37, .obj b14 [.int .i64 x9.Order, v10] 24, .obj b1 [.int .i64 a0.Order, u0_0] 24, .sl v10 37 2 (x9.Taken.map TBlock.row)], Cls w [] [.sl (sv b63 1) 37 2 (([(⟨x30.At, a1⟩ : TBlock)]).map TBlock.row), .obj b31 [.int .i64 x30.At, .int .i64 x30.Order] 37, .obj b14 [.int .i64 x9.Order, v10] 24, .obj b1 [.int .i64 a0.Order, u0_0] 24, .sl v10 37 2 (x9.Taken.map TBlock.row)]] (Cls w [] [.sl (sv b63 1) 37 2 (([(⟨x30.At, a1⟩ : TBlock)]).map TBlock.row), .obj b31 [.int .i64 x30.At, .int .i64 x30.Order] 37, .obj b14 [.int .i64 x9.Order, v10] 24, .obj b1 [.int .i64 a0.Order, u0_0] 24, .sl v10 37 2 (x9.Taken.map TBlock.row)])) 10 (by kernel_rfl) (Sc.stay (fun _ hw => hw.sel [1, 2, 3, 4] (by decide) rfl) (Sc.stay (fun _ hw => hw.sel [1, 2, 3, 4] (by decide) rfl) (Sc.stayD (fun _ hw => hw.sel [1, 2, 3, 4] (by decide) rfl)))) (Sc.now (by kernel_rfl) (fun _ hw => hw)) ?_)
                 refine V2.eff2 (i1 := 4) (i2 := 13) (by kernel_rfl) rfl rfl ?_ ?_
                 ·
                  obtain ⟨l64, e66, h⟩ := bind1S h
                  refine L.does rfl en16 rfl (fun w' hw => w16_api_Block a0.Taken u0_0 w' _ e66 (hA0_0.cls0 hw)) ?_
                  rintro v65 _ ⟨_, rfl, rfl⟩
                  refine L.nil (E.toV2 (stC [[11, 14], [14]] [Cls w [] [.sl v65 37 2 (l64.map TBlock.row), .sl (sv b63 1) 37 2 (([(⟨x30.At, a1⟩ : TBlock)]).map TBlock.row), .obj b31 [.int .i64 x30.At, .int .i64 x30.Order] 37, .obj b14 [.int .i64 x9.Order, v10] 24, .obj b1 [.int .i64 a0.Order, u0_0] 24, .sl v10 37 2 (x9.Taken.map TBlock.row)], Cls w [] [.sl (sv b63 1) 37 2 (([(⟨x30.At, a1⟩ : TBlock)]).map TBlock.row), .obj b31 [.int .i64 x30.At, .int .i64 x30.Order] 37, .obj b14 [.int .i64 x9.Order, v10] 24, .obj b1 [.int .i64 a0.Order, u0_0] 24, .sl v10 37 2 (x9.Taken.map TBlock.row)]] (Cls w [] [.sl (sv b63 1) 37 2 (([(⟨x30.At, a1⟩ : TBlock)]).map TBlock.row), .obj b31 [.int .i64 x30.At, .int .i64 x30.Order] 37, .obj b14 [.int .i64 x9.Order, v10] 24, .obj b1 [.int .i64 a0.Order, u0_0] 24, .sl v10 37 2 (x9.Taken.map TBlock.row)])) 4 (by kernel_rfl) (Sc.stay (fun _ hw => hw.sel [1, 2, 3, 4, 5] (by decide) rfl) (Sc.stay (fun _ hw => hw) (Sc.stayD (fun _ hw => hw)))) (Sc.now (by kernel_rfl) (fun _ hw => hw)) ?_)
                  refine V2.eff2 (i1 := 11) (i2 := 13) (by kernel_rfl) rfl rfl ?_ ?_
                  ·
                   refine L.insRD (i := 0) (j := 1) (l := l64) (x1 := (⟨x30.At, a1⟩ : TBlock)) (a := gx5) h wInsR15 (fun _ => rfl) rfl en15 rfl rfl rfl rfl rfl (by decide) ?_
                   intro v68 l67 el67 h
                   refine L.nil (E.toV2 (stC [[14]] [Cls w [] [.sl v68 37 2 (l67.map TBlock.row), .sl (sv b63 1) 37 2 (([(⟨x30.At, a1⟩ : TBlock)]).map TBlock.row), .obj b31 [.int .i64 x30.At, .int .i64 x30.Order] 37, .obj b14 [.int .i64 x9.Order, v10] 24, .obj b1 [.int .i64 a0.Order, u0_0] 24, .sl v10 37 2 (x9.Taken.map TBlock.row)]] (Cls w [] [.sl v68 37 2 (l67.map TBlock.row), .sl (sv b63 1) 37 2 (([(⟨x30.At, a1⟩ : TBlock)]).map TBlock.row), .obj b31 [.int .i64 x30.At, .int .i64 x30.Order] 37, .obj b14 [.int .i64 x9.Order, v10] 24, .obj b1 [.int .i64 a0.Order, u0_0] 24, .sl v10 37 2 (x9.Taken.map TBlock.row)])) 11 (by kernel_rfl) (Sc.past rfl (Sc.stay (fun _ hw => hw.sel [1, 2, 3, 4, 5] (by decide) rfl) (Sc.stayD (fun _ hw => hw.sel [1, 2, 3, 4, 5] (by decide) rfl)))) (Sc.now (by kernel_rfl) (fun _ hw => hw)) ?_)
                   refine V2.y (i := 12) (Nx2.of (Z := Cls w [] [.sl v68 37 2 (l67.map TBlock.row), .sl (sv b63 1) 37 2 (([(⟨x30.At, a1⟩ : TBlock)]).map TBlock.row), .obj b31 [.int .i64 x30.At, .int .i64 x30.Order] 37, .obj b14 [.int .i64 x9.Order, v10] 24, .obj b1 [.int .i64 a0.Order, u0_0] 24, .sl v10 37 2 (x9.Taken.map TBlock.row)]) [] (by kernel_rfl) rfl (Zc.on (fun _ hw => hw) (Zc.fin (fun _ hw => hw)))) rfl rfl rfl (Y.buildC (cells := #[.int .i64 a0.Order, v68]) rfl (fun w hw => by rcases ((As.at_ (hw.get (i := 0) rfl))).shape with ⟨h0, _⟩ | ⟨_, _, h0, _, _⟩ <;> simp only [h0] <;> kernel_rfl)) ?_
                   refine V2.eff (i := 13) (by kernel_rfl) rfl ?_
                   refine L.alloc rfl ze24 ?_
                   intro b69
                   refine L.nil (E.toV2 (stC [[14]] [Cls w [] [.obj b69 [.int .i64 0, .slice none 0 0] 24, .sl v68 37 2 (l67.map TBlock.row), .sl (sv b63 1) 37 2 (([(⟨x30.At, a1⟩ : TBlock)]).map TBlock.row), .obj b31 [.int .i64 x30.At, .int .i64 x30.Order] 37, .obj b14 [.int .i64 x9.Order, v10] 24, .obj b1 [.int .i64 a0.Order, u0_0] 24, .sl v10 37 2 (x9.Taken.map TBlock.row)]] (Cls w [] [.sl v68 37 2 (l67.map TBlock.row), .sl (sv b63 1) 37 2 (([(⟨x30.At, a1⟩ : TBlock)]).map TBlock.row), .obj b31 [.int .i64 x30.At, .int .i64 x30.Order] 37, .obj b14 [.int .i64 x9.Order, v10] 24, .obj b1 [.int .i64 a0.Order, u0_0] 24, .sl v10 37 2 (x9.Taken.map TBlock.row)])) 13 (by kernel_rfl) (Sc.stay (fun _ hw => hw.sel [1, 2, 3, 4, 5, 6] (by decide) rfl) (Sc.stayD (fun _ hw => hw))) (Sc.now (by kernel_rfl) (fun _ hw => hw)) ?_)
                   refine V2.eff (i := 14) (by kernel_rfl) rfl ?_
                   refine L.storeC (i := 0) sz24 rfl rfl rfl rfl (fun w hw => (all1 rfl (all1 (As.at_ (hw.get (i := 1) rfl)).one all0))) rfl (Nat.le_of_ble_eq_true rfl) ?_
                   refine L.nil (E.toV2 (stC [] [] (Cls w [] [.sl v68 37 2 (l67.map TBlock.row), .sl (sv b63 1) 37 2 (([(⟨x30.At, a1⟩ : TBlock)]).map TBlock.row), .obj b31 [.int .i64 x30.At, .int .i64 x30.Order] 37, .obj b14 [.int .i64 x9.Order, v10] 24, .obj b1 [.int .i64 a0.Order, u0_0] 24, .sl v10 37 2 (x9.Taken.map TBlock.row)])) 14 (by kernel_rfl) (Sc.past rfl (Sc.stayD (fun _ hw => hw))) (Sc.atD (fun _ hw => hw.sel [1, 2, 3, 4, 5, 6] (by decide) rfl)) ?_)
                   refine V2.done (by kernel_rfl) ?_
                   exact E.joinJ ⟨b69, v68, l67, rfl, rfl, h⟩ ⟨rfl, rfl, rfl, rfl, rfl, trivial⟩ (fun _ hw => hw.sel [3, 4, 1, 0, 6] (by decide) rfl)
                  ·
                   refine L.alloc rfl ze24 ?_
                   intro b70
                   refine L.nil (E.toV2 (stC [[11, 14], [14]] [Cls w [] [.obj b70 [.int .i64 0, .slice none 0 0] 24, .sl v65 37 2 (l64.map TBlock.row), .sl (sv b63 1) 37 2 (([(⟨x30.At, a1⟩ : TBlock)]).map TBlock.row), .obj b31 [.int .i64 x30.At, .int .i64 x30.Order] 37, .obj b14 [.int .i64 x9.Order, v10] 24, .obj b1 [.int .i64 a0.Order, u0_0] 24, .sl v10 37 2 (x9.Taken.map TBlock.row)], Cls w [] [.obj b70 [.int .i64 0, .slice none 0 0] 24, .sl (sv b63 1) 37 2 (([(⟨x30.At, a1⟩ : TBlock)]).map TBlock.row), .obj b31 [.int .i64 x30.At, .int .i64 x30.Order] 37, .obj b14 [.int .i64 x9.Order, v10] 24, .obj b1 [.int .i64 a0.Order, u0_0] 24, .sl v10 37 2 (x9.Taken.map TBlock.row)]] (Cls w [] [.sl (sv b63 1) 37 2 (([(⟨x30.At, a1⟩ : TBlock)]).map TBlock.row), .obj b31 [.int .i64 x30.At, .int .i64 x30.Order] 37, .obj b14 [.int .i64 x9.Order, v10] 24, .obj b1 [.int .i64 a0.Order, u0_0] 24, .sl v10 37 2 (x9.Taken.map TBlock.row)])) 13 (by kernel_rfl) (Sc.stay (fun _ hw => hw.sel [1, 2, 3, 4, 5, 6] (by decide) rfl) (Sc.stay (fun _ hw => hw.sel [1, 2, 3, 4, 5] (by decide) rfl) (Sc.stayD (fun _ hw => hw)))) (Sc.now (by kernel_rfl) (fun _ hw => hw)) ?_)
                   refine V2.eff (i := 11) (by kernel_rfl) rfl ?_
                   refine L.insRD (i := 1) (j := 2) (l := l64) (x1 := (⟨x30.At, a1⟩ : TBlock)) (a := gx5) h wInsR15 (fun _ => rfl) rfl en15 rfl rfl rfl rfl rfl (by decide) ?_
                   intro v72 l71 el71 h
                   refine L.nil (E.toV2 (stC [[14]] [Cls w [] [.obj b70 [.int .i64 0, .slice none 0 0] 24, .sl v72 37 2 (l71.map TBlock.row), .sl (sv b63 1) 37 2 (([(⟨x30.At, a1⟩ : TBlock)]).map TBlock.row), .obj b31 [.int .i64 x30.At, .int .i64 x30.Order] 37, .obj b14 [.int .i64 x9.Order, v10] 24, .obj b1 [.int .i64 a0.Order, u0_0] 24, .sl v10 37 2 (x9.Taken.map TBlock.row)]] (Cls w [] [.sl v72 37 2 (l71.map TBlock.row), .sl (sv b63 1) 37 2 (([(⟨x30.At, a1⟩ : TBlock)]).map TBlock.row), .obj b31 [.int .i64 x30.At, .int .i64 x30.Order] 37, .obj b14 [.int .i64 x9.Order, v10] 24, .obj b1 [.int .i64 a0.Order, u0_0] 24, .sl v10 37 2 (x9.Taken.map TBlock.row)])) 11 (by kernel_rfl) (Sc.past rfl (Sc.stay (fun _ hw => hw.sel [0, 2, 3, 4, 5, 6] (by decide) rfl) (Sc.stayD (fun _ hw => hw.sel [1, 2, 3, 4, 5] (by decide) rfl)))) (Sc.now (by kernel_rfl) (fun _ hw => hw)) ?_)
                   refine V2.y (i := 12) (Nx2.of (Z := Cls w [] [.sl v72 37 2 (l71.map TBlock.row), .sl (sv b63 1) 37 2 (([(⟨x30.At, a1⟩ : TBlock)]).map TBlock.row), .obj b31 [.int .i64 x30.At, .int .i64 x30.Order] 37, .obj b14 [.int .i64 x9.Order, v10] 24, .obj b1 [.int .i64 a0.Order, u0_0] 24, .sl v10 37 2 (x9.Taken.map TBlock.row)]) [] (by kernel_rfl) rfl (Zc.on (fun _ hw => hw.sel [1, 2, 3, 4, 5, 6] (by decide) rfl) (Zc.fin (fun _ hw => hw)))) rfl rfl rfl (Y.buildC (cells := #[.int .i64 a0.Order, v72]) rfl (fun w hw => by rcases ((As.at_ (hw.get (i := 0) rfl))).shape with ⟨h0, _⟩ | ⟨_, _, h0, _, _⟩ <;> simp only [h0] <;> kernel_rfl)) ?_
                   refine V2.eff (i := 14) (by kernel_rfl) rfl ?_
                   refine L.storeC (i := 0) sz24 rfl rfl rfl rfl (fun w hw => (all1 rfl (all1 (As.at_ (hw.get (i := 1) rfl)).one all0))) rfl (Nat.le_of_ble_eq_true rfl) ?_
                   refine L.nil (E.toV2 (stC [] [] (Cls w [] [.sl v72 37 2 (l71.map TBlock.row), .sl (sv b63 1) 37 2 (([(⟨x30.At, a1⟩ : TBlock)]).map TBlock.row), .obj b31 [.int .i64 x30.At, .int .i64 x30.Order] 37, .obj b14 [.int .i64 x9.Order, v10] 24, .obj b1 [.int .i64 a0.Order, u0_0] 24, .sl v10 37 2 (x9.Taken.map TBlock.row)])) 14 (by kernel_rfl) (Sc.past rfl (Sc.stayD (fun _ hw => hw))) (Sc.atD (fun _ hw => hw.sel [1, 2, 3, 4, 5, 6] (by decide) rfl)) ?_)
                   refine V2.done (by kernel_rfl) ?_
                   exact E.joinJ ⟨b70, v72, l71, rfl, rfl, h⟩ ⟨rfl, rfl, rfl, rfl, rfl, trivial⟩ (fun _ hw => hw.sel [3, 4, 1, 0, 6] (by decide) rfl)
                 ·
                  refine L.alloc rfl ze24 ?_
                  intro b73
                  refine L.nil (E.toV2 (stC [[11, 14], [14]] [Cls w [] [.obj b73 [.int .i64 0, .slice none 0 0] 24, .sl (sv b63 1) 37 2 (([(⟨x30.At, a1⟩ : TBlock)]).map TBlock.row), .obj b31 [.int .i64 x30.At, .int .i64 x30.Order] 37, .obj b14 [.int .i64 x9.Order, v10] 24, .obj b1 [.int .i64 a0.Order, u0_0] 24, .sl v10 37 2 (x9.Taken.map TBlock.row)], Cls w [] [.obj b73 [.int .i64 0, .slice none 0 0] 24, .sl (sv b63 1) 37 2 (([(⟨x30.At, a1⟩ : TBlock)]).map TBlock.row), .obj b31 [.int .i64 x30.At, .int .i64 x30.Order] 37, .obj b14 [.int .i64 x9.Order, v10] 24, .obj b1 [.int .i64 a0.Order, u0_0] 24, .sl v10 37 2 (x9.Taken.map TBlock.row)]] (Cls w [] [.sl (sv b63 1) 37 2 (([(⟨x30.At, a1⟩ : TBlock)]).map TBlock.row), .obj b31 [.int .i64 x30.At, .int .i64 x30.Order] 37, .obj b14 [.int .i64 x9.Order, v10] 24, .obj b1 [.int .i64 a0.Order, u0_0] 24, .sl v10 37 2 (x9.Taken.map TBlock.row)])) 13 (by kernel_rfl) (Sc.stay (fun _ hw => hw.sel [1, 2, 3, 4, 5] (by decide) rfl) (Sc.stay (fun _ hw => hw.sel [1, 2, 3, 4, 5] (by decide) rfl) (Sc.stayD (fun _ hw => hw)))) (Sc.now (by kernel_rfl) (fun _ hw => hw)) ?_)
                  refine V2.eff (i := 4) (by kernel_rfl) rfl ?_
                  obtain ⟨l74, e76, h⟩ := bind1S h
                  refine L.does rfl en16 rfl (fun w' hw => w16_api_Block a0.Taken u0_0 w' _ e76 (hA0_0.cls0 hw)) ?_
                  rintro v75 _ ⟨_, rfl, rfl⟩
                  refine L.nil (E.toV2 (stC [[11, 14], [14]] [Cls w [] [.sl v75 37 2 (l74.map TBlock.row), .obj b73 [.int .i64 0, .slice none 0 0] 24, .sl (sv b63 1) 37 2 (([(⟨x30.At, a1⟩ : TBlock)]).map TBlock.row), .obj b31 [.int .i64 x30.At, .int .i64 x30.Order] 37, .obj b14 [.int .i64 x9.Order, v10] 24, .obj b1 [.int .i64 a0.Order, u0_0] 24, .sl v10 37 2 (x9.Taken.map TBlock.row)], Cls w [] [.obj b73 [.int .i64 0, .slice none 0 0] 24, .sl (sv b63 1) 37 2 (([(⟨x30.At, a1⟩ : TBlock)]).map TBlock.row), .obj b31 [.int .i64 x30.At, .int .i64 x30.Order] 37, .obj b14 [.int .i64 x9.Order, v10] 24, .obj b1 [.int .i64 a0.Order, u0_0] 24, .sl v10 37 2 (x9.Taken.map TBlock.row)]] (Cls w [] [.sl (sv b63 1) 37 2 (([(⟨x30.At, a1⟩ : TBlock)]).map TBlock.row), .obj b31 [.int .i64 x30.At, .int .i64 x30.Order] 37, .obj b14 [.int .i64 x9.Order, v10] 24, .obj b1 [.int .i64 a0.Order, u0_0] 24, .sl v10 37 2 (x9.Taken.map TBlock.row)])) 4 (by kernel_rfl) (Sc.stay (fun _ hw => hw.sel [1, 2, 3, 4, 5, 6] (by decide) rfl) (Sc.stay (fun _ hw => hw) (Sc.stayD (fun _ hw => hw)))) (Sc.now (by kernel_rfl) (fun _ hw => hw)) ?_)
                  refine V2.eff (i := 11) (by kernel_rfl) rfl ?_
                  refine L.insRD (i := 0) (j := 2) (l := l74) (x1 := (⟨x30.At, a1⟩ : TBlock)) (a := gx5) h wInsR15 (fun _ => rfl) rfl en15 rfl rfl rfl rfl rfl (by decide) ?_
                  intro v78 l77 el77 h
                  refine L.nil (E.toV2 (stC [[14]] [Cls w [] [.sl v78 37 2 (l77.map TBlock.row), .obj b73 [.int .i64 0, .slice none 0 0] 24, .sl (sv b63 1) 37 2 (([(⟨x30.At, a1⟩ : TBlock)]).map TBlock.row), .obj b31 [.int .i64 x30.At, .int .i64 x30.Order] 37, .obj b14 [.int .i64 x9.Order, v10] 24, .obj b1 [.int .i64 a0.Order, u0_0] 24, .sl v10 37 2 (x9.Taken.map TBlock.row)]] (Cls w [] [.sl v78 37 2 (l77.map TBlock.row), .sl (sv b63 1) 37 2 (([(⟨x30.At, a1⟩ : TBlock)]).map TBlock.row), .obj b31 [.int .i64 x30.At, .int .i64 x30.Order] 37, .obj b14 [.int .i64 x9.Order, v10] 24, .obj b1 [.int .i64 a0.Order, u0_0] 24, .sl v10 37 2 (x9.Taken.map TBlock.row)])) 11 (by kernel_rfl) (Sc.past rfl (Sc.stay (fun _ hw => hw.sel [1, 2, 3, 4, 5, 6] (by decide) rfl) (Sc.stayD (fun _ hw => hw.sel [1, 2, 3, 4, 5] (by decide) rfl)))) (Sc.now (by kernel_rfl) (fun _ hw => hw)) ?_)
                  refine V2.y (i := 12) (Nx2.of (Z := Cls w [] [.sl v78 37 2 (l77.map TBlock.row), .sl (sv b63 1) 37 2 (([(⟨x30.At, a1⟩ : TBlock)]).map TBlock.row), .obj b31 [.int .i64 x30.At, .int .i64 x30.Order] 37, .obj b14 [.int .i64 x9.Order, v10] 24, .obj b1 [.int .i64 a0.Order, u0_0] 24, .sl v10 37 2 (x9.Taken.map TBlock.row)]) [] (by kernel_rfl) rfl (Zc.on (fun _ hw => hw.sel [0, 2, 3, 4, 5, 6] (by decide) rfl) (Zc.fin (fun _ hw => hw)))) rfl rfl rfl (Y.buildC (cells := #[.int .i64 a0.Order, v78]) rfl (fun w hw => by rcases ((As.at_ (hw.get (i := 0) rfl))).shape with ⟨h0, _⟩ | ⟨_, _, h0, _, _⟩ <;> simp only [h0] <;> kernel_rfl)) ?_
                  refine V2.eff (i := 14) (by kernel_rfl) rfl ?_
                  refine L.storeC (i := 1) sz24 rfl rfl rfl rfl (fun w hw => (all1 rfl (all1 (As.at_ (hw.get (i := 0) rfl)).one all0))) rfl (Nat.le_of_ble_eq_true rfl) ?_
                  refine L.nil (E.toV2 (stC [] [] (Cls w [] [.sl v78 37 2 (l77.map TBlock.row), .sl (sv b63 1) 37 2 (([(⟨x30.At, a1⟩ : TBlock)]).map TBlock.row), .obj b31 [.int .i64 x30.At, .int .i64 x30.Order] 37, .obj b14 [.int .i64 x9.Order, v10] 24, .obj b1 [.int .i64 a0.Order, u0_0] 24, .sl v10 37 2 (x9.Taken.map TBlock.row)])) 14 (by kernel_rfl) (Sc.past rfl (Sc.stayD (fun _ hw => hw))) (Sc.atD (fun _ hw => hw.sel [0, 2, 3, 4, 5, 6] (by decide) rfl)) ?_)
                  refine V2.done (by kernel_rfl) ?_
                  exact E.joinJ ⟨b73, v78, l77, rfl, rfl, h⟩ ⟨rfl, rfl, rfl, rfl, rfl, trivial⟩ (fun _ hw => hw.sel [3, 4, 0, 1, 6] (by decide) rfl)
                ·
                 refine L.alloc rfl ze24 ?_
                 intro b79
                 refine L.nil (E.toV2 (stC [[11, 14], [14]] [Cls w [] [.obj b79 [.int .i64 0, .slice none 0 0] 24, .obj b31 [.int .i64 x30.At, .int .i64 x30.Order] 37, .obj b14 [.int .i64 x9.Order, v10] 24, .obj b1 [.int .i64 a0.Order, u0_0] 24, .sl v10 37 2 (x9.Taken.map TBlock.row)], Cls w [] [.obj b79 [.int .i64 0, .slice none 0 0] 24, .obj b31 [.int .i64 x30.At, .int .i64 x30.Order] 37, .obj b14 [.int .i64 x9.Order, v10] 24, .obj b1 [.int .i64 a0.Order, u0_0] 24, .sl v10 37 2 (x9.Taken.map TBlock.row)]] (Cls w [] [.obj b31 [.int .i64 x30.At, .int .i64 x30.Order] 37, .obj b14 [.int .i64 x9.Order, v10] 24, .obj b1 [.int .i64 a0.Order, u0_0] 24, .sl v10 37 2 (x9.Taken.map TBlock.row)])) 13 (by kernel_rfl) (Sc.stay (fun _ hw => hw.sel [1, 2, 3, 4] (by decide) rfl) (Sc.stay (fun _ hw => hw.sel [1, 2, 3, 4] (by decide) rfl) (Sc.stayD (fun _ hw => hw)))) (Sc.now (by kernel_rfl) (fun _ hw => hw)) ?_)
                 refine V2.eff2 (i1 := 4) (i2 := 10) (by kernel_rfl) rfl rfl ?_ ?_
                 ·
                  obtain ⟨l80, e82, h⟩ := bind1S h
                  refine L.does rfl en16 rfl (fun w' hw => w16_api_Block a0.Taken u0_0 w' _ e82 (hA0_0.cls0 hw)) ?_
                  rintro v81 _ ⟨_, rfl, rfl⟩
                  refine L.nil (E.toV2 (stC [[11, 14], [14]] [Cls w [] [.sl v81 37 2 (l80.map TBlock.row), .obj b79 [.int .i64 0, .slice none 0 0] 24, .obj b31 [.int .i64 x30.At, .int .i64 x30.Order] 37, .obj b14 [.int .i64 x9.Order, v10] 24, .obj b1 [.int .i64 a0.Order, u0_0] 24, .sl v10 37 2 (x9.Taken.map TBlock.row)], Cls w [] [.obj b79 [.int .i64 0, .slice none 0 0] 24, .obj b31 [.int .i64 x30.At, .int .i64 x30.Order] 37, .obj b14 [.int .i64 x9.Order, v10] 24, .obj b1 [.int .i64 a0.Order, u0_0] 24, .sl v10 37 2 (x9.Taken.map TBlock.row)]] (Cls w [] [.obj b31 [.int .i64 x30.At, .int .i64 x30.Order] 37, .obj b14 [.int .i64 x9.Order, v10] 24, .obj b1 [.int .i64 a0.Order, u0_0] 24, .sl v10 37 2 (x9.Taken.map TBlock.row)])) 4 (by kernel_rfl) (Sc.stay (fun _ hw => hw.sel [1, 2, 3, 4, 5] (by decide) rfl) (Sc.stay (fun _ hw => hw) (Sc.stayD (fun _ hw => hw)))) (Sc.now (by kernel_rfl) (fun _ hw => hw)) ?_)
                  refine V2.eff (i := 10) (by kernel_rfl) rfl ?_
                  refine L.litAgg rfl Try.underlying22 eL37 rfl rfl rfl ?_
                  intro b83
                  refine L.nil (E.toV2 (stC [[11, 14], [14]] [Cls w [] [.sl (sv b83 1) 37 2 (([(⟨x30.At, a1⟩ : TBlock)]).map TBlock.row), .sl v81 37 2 (l80.map TBlock.row), .obj b79 [.int .i64 0, .slice none 0 0] 24, .obj b31 [.int .i64 x30.At, .int .i64 x30.Order] 37, .obj b14 [.int .i64 x9.Order, v10] 24, .obj b1 [.int .i64 a0.Order, u0_0] 24, .sl v10 37 2 (x9.Taken.map TBlock.row)], Cls w [] [.sl (sv b83 1) 37 2 (([(⟨x30.At, a1⟩ : TBlock)]).map TBlock.row), .obj b79 [.int .i64 0, .slice none 0 0] 24, .obj b31 [.int .i64 x30.At, .int .i64 x30.Order] 37, .obj b14 [.int .i64 x9.Order, v10] 24, .obj b1 [.int .i64 a0.Order, u0_0] 24, .sl v10 37 2 (x9.Taken.map TBlock.row)]] (Cls w [] [.sl (sv b83 1) 37 2 (([(⟨x30.At, a1⟩ : TBlock)]).map TBlock.row), .obj b31 [.int .i64 x30.At, .int .i64 x30.Order] 37, .obj b14 [.int .i64 x9.Order, v10] 24, .obj b1 [.int .i64 a0.Order, u0_0] 24, .sl v10 37 2 (x9.Taken.map TBlock.row)])) 10 (by kernel_rfl) (Sc.stay (fun _ hw => hw.sel [1, 2, 3, 4, 5, 6] (by decide) rfl) (Sc.stay (fun _ hw => hw.sel [1, 2, 3, 4, 5] (by decide) rfl) (Sc.stayD (fun _ hw => hw.sel [1, 2, 3, 4] (by decide) rfl)))) (Sc.now (by kernel_rfl) (fun _ hw => hw)) ?_)
                  refine V2.eff (i := 11) (by kernel_rfl) rfl ?_
                  refine L.insRD (i := 1) (j := 0) (l := l80) (x1 := (⟨x30.At, a1⟩ : TBlock)) (a := gx5) h wInsR15 (fun _ => rfl) rfl en15 rfl rfl rfl rfl rfl (by decide) ?_
                  intro v85 l84 el84 h
                  refine L.nil (E.toV2 (stC [[14]] [Cls w [] [.sl (sv b83 1) 37 2 (([(⟨x30.At, a1⟩ : TBlock)]).map TBlock.row), .sl v85 37 2 (l84.map TBlock.row), .obj b79 [.int .i64 0, .slice none 0 0] 24, .obj b31 [.int .i64 x30.At, .int .i64 x30.Order] 37, .obj b14 [.int .i64 x9.Order, v10] 24, .obj b1 [.int .i64 a0.Order, u0_0] 24, .sl v10 37 2 (x9.Taken.map TBlock.row)]] (Cls w [] [.sl (sv b83 1) 37 2 (([(⟨x30.At, a1⟩ : TBlock)]).map TBlock.row), .sl v85 37 2 (l84.map TBlock.row), .obj b31 [.int .i64 x30.At, .int .i64 x30.Order] 37, .obj b14 [.int .i64 x9.Order, v10] 24, .obj b1 [.int .i64 a0.Order, u0_0] 24, .sl v10 37 2 (x9.Taken.map TBlock.row)])) 11 (by kernel_rfl) (Sc.past rfl (Sc.stay (fun _ hw => hw.sel [0, 2, 3, 4, 5, 6] (by decide) rfl) (Sc.stayD (fun _ hw => hw.sel [0, 2, 3, 4, 5] (by decide) rfl)))) (Sc.now (by kernel_rfl) (fun _ hw => hw)) ?_)
                  refine V2.y (i := 12) (Nx2.of (Z := Cls w [] [.sl (sv b83 1) 37 2 (([(⟨x30.At, a1⟩ : TBlock)]).map TBlock.row), .sl v85 37 2 (l84.map TBlock.row), .obj b31 [.int .i64 x30.At, .int .i64 x30.Order] 37, .obj b14 [.int .i64 x9.Order, v10] 24, .obj b1 [.int .i64 a0.Order, u0_0] 24, .sl v10 37 2 (x9.Taken.map TBlock.row)]) [] (by kernel_rfl) rfl (Zc.on (fun _ hw => hw.sel [0, 1, 3, 4, 5, 6] (by decide) rfl) (Zc.fin (fun _ hw => hw)))) rfl rfl rfl (Y.buildC (cells := #[.int .i64 a0.Order, v85]) rfl (fun w hw => by rcases ((As.at_ (hw.get (i := 1) rfl))).shape with ⟨h0, _⟩ | ⟨_, _, h0, _, _⟩ <;> simp only [h0] <;> kernel_rfl)) ?_
                  refine V2.eff (i := 14) (by kernel_rfl) rfl ?_
                  refine L.storeC (i := 2) sz24 rfl rfl rfl rfl (fun w hw => (all1 rfl (all1 (As.at_ (hw.get (i := 1) rfl)).one all0))) rfl (Nat.le_of_ble_eq_true rfl) ?_
                  refine L.nil (E.toV2 (stC [] [] (Cls w [] [.sl (sv b83 1) 37 2 (([(⟨x30.At, a1⟩ : TBlock)]).map TBlock.row), .sl v85 37 2 (l84.map TBlock.row), .obj b31 [.int .i64 x30.At, .int .i64 x30.Order] 37, .obj b14 [.int .i64 x9.Order, v10] 24, .obj b1 [.int .i64 a0.Order, u0_0] 24, .sl v10 37 2 (x9.Taken.map TBlock.row)])) 14 (by kernel_rfl) (Sc.past rfl (Sc.stayD (fun _ hw => hw))) (Sc.atD (fun _ hw => hw.sel [0, 1, 3, 4, 5, 6] (by decide) rfl)) ?_)
                  refine V2.done (by kernel_rfl) ?_
                  exact E.joinJ ⟨b79, v85, l84, rfl, rfl, h⟩ ⟨rfl, rfl, rfl, rfl, rfl, trivial⟩ (fun _ hw => hw.sel [3, 4, 1, 2, 6] (by decide) rfl)
                 ·
                  refine L.litAgg rfl Try.underlying22 eL37 rfl rfl rfl ?_
                  intro b86
                  refine L.nil (E.toV2 (stC [[11, 14], [14]] [Cls w [] [.sl (sv b86 1) 37 2 (([(⟨x30.At, a1⟩ : TBlock)]).map TBlock.row), .obj b79 [.int .i64 0, .slice none 0 0] 24, .obj b31 [.int .i64 x30.At, .int .i64 x30.Order] 37, .obj b14 [.int .i64 x9.Order, v10] 24, .obj b1 [.int .i64 a0.Order, u0_0] 24, .sl v10 37 2 (x9.Taken.map TBlock.row)], Cls w [] [.sl (sv b86 1) 37 2 (([(⟨x30.At, a1⟩ : TBlock)]).map TBlock.row), .obj b79 [.int .i64 0, .slice none 0 0] 24, .obj b31 [.int .i64 x30.At, .int .i64 x30.Order] 37, .obj b14 [.int .i64 x9.Order, v10] 24, .obj b1 [.int .i64 a0.Order, u0_0] 24, .sl v10 37 2 (x9.Taken.map TBlock.row)]] (Cls w [] [.sl (sv b86 1) 37 2 (([(⟨x30.At, a1⟩ : TBlock)]).map TBlock.row), .obj b31 [.int .i64 x30.At, .int .i64 x30.Order] 37, .obj b14 [.int .i64 x9.Order, v10] 24, .obj b1 [.int .i64 a0.Order, u0_0] 24, .sl v10 37 2 (x9.Taken.map TBlock.row)])) 10 (by kernel_rfl) (Sc.stay (fun _ hw => hw.sel [1, 2, 3, 4, 5] (by decide) rfl) (Sc.stay (fun _ hw => hw.sel [1, 2, 3, 4, 5] (by decide) rfl) (Sc.stayD (fun _ hw => hw.sel [1, 2, 3, 4] (by decide) rfl)))) (Sc.now (by kernel_rfl) (fun _ hw => hw)) ?_)
                  refine V2.eff (i := 4) (by kernel_rfl) rfl ?_
                  obtain ⟨l87, e89, h⟩ := bind1S h
                  refine L.does rfl en16 rfl (fun w' hw => w16_api_Block a0.Taken u0_0 w' _ e89 (hA0_0.cls0 hw)) ?_
                  rintro v88 _ ⟨_, rfl, rfl⟩
                  refine L.nil (E.toV2 (stC [[11, 14], [14]] [Cls w [] [.sl v88 37 2 (l87.map TBlock.row), .sl (sv b86 1) 37 2 (([(⟨x30.At, a1⟩ : TBlock)]).map TBlock.row), .obj b79 [.int .i64 0, .slice none 0 0] 24, .obj b31 [.int .i64 x30.At, .int .i64 x30.Order] 37, .obj b14 [.int .i64 x9.Order, v10] 24, .obj b1 [.int .i64 a0.Order, u0_0] 24, .sl v10 37 2 (x9.Taken.map TBlock.row)], Cls w [] [.sl (sv b86 1) 37 2 (([(⟨x30.At, a1⟩ : TBlock)]).map TBlock.row), .obj b79 [.int .i64 0, .slice none 0 0] 24, .obj b31 [.int .i64 x30.At, .int .i64 x30.Order] 37, .obj b14 [.int .i64 x9.Order, v10] 24, .obj b1 [.int .i64 a0.Order, u0_0] 24, .sl v10 37 2 (x9.Taken.map TBlock.row)]] (Cls w [] [.sl (sv b86 1) 37 2 (([(⟨x30.At, a1⟩ : TBlock)]).map TBlock.row), .obj b31 [.int .i64 x30.At, .int .i64 x30.Order] 37, .obj b14 [.int .i64 x9.Order, v10] 24, .obj b1 [.int .i64 a0.Order, u0_0] 24, .sl v10 37 2 (x9.Taken.map TBlock.row)])) 4 (by kernel_rfl) (Sc.stay (fun _ hw => hw.sel [1, 2, 3, 4, 5, 6] (by decide) rfl) (Sc.stay (fun _ hw => hw) (Sc.stayD (fun _ hw => hw)))) (Sc.now (by kernel_rfl) (fun _ hw => hw)) ?_)
                  refine V2.eff (i := 11) (by kernel_rfl) rfl ?_
                  refine L.insRD (i := 0) (j := 1) (l := l87) (x1 := (⟨x30.At, a1⟩ : TBlock)) (a := gx5) h wInsR15 (fun _ => rfl) rfl en15 rfl rfl rfl rfl rfl (by decide) ?_
                  intro v91 l90 el90 h
                  refine L.nil (E.toV2 (stC [[14]] [Cls w [] [.sl v91 37 2 (l90.map TBlock.row), .sl (sv b86 1) 37 2 (([(⟨x30.At, a1⟩ : TBlock)]).map TBlock.row), .obj b79 [.int .i64 0, .slice none 0 0] 24, .obj b31 [.int .i64 x30.At, .int .i64 x30.Order] 37, .obj b14 [.int .i64 x9.Order, v10] 24, .obj b1 [.int .i64 a0.Order, u0_0] 24, .sl v10 37 2 (x9.Taken.map TBlock.row)]] (Cls w [] [.sl v91 37 2 (l90.map TBlock.row), .sl (sv b86 1) 37 2 (([(⟨x30.At, a1⟩ : TBlock)]).map TBlock.row), .obj b31 [.int .i64 x30.At, .int .i64 x30.Order] 37, .obj b14 [.int .i64 x9.Order, v10] 24, .obj b1 [.int .i64 a0.Order, u0_0] 24, .sl v10 37 2 (x9.Taken.map TBlock.row)])) 11 (by kernel_rfl) (Sc.past rfl (Sc.stay (fun _ hw => hw.sel [1, 2, 3, 4, 5, 6] (by decide) rfl) (Sc.stayD (fun _ hw => hw.sel [1, 2, 3, 4, 5] (by decide) rfl)))) (Sc.now (by kernel_rfl) (fun _ hw => hw)) ?_)
                  refine V2.y (i := 12) (Nx2.of (Z := Cls w [] [.sl v91 37 2 (l90.map TBlock.row), .sl (sv b86 1) 37 2 (([(⟨x30.At, a1⟩ : TBlock)]).map TBlock.row), .obj b31 [.int .i64 x30.At, .int .i64 x30.Order] 37, .obj b14 [.int .i64 x9.Order, v10] 24, .obj b1 [.int .i64 a0.Order, u0_0] 24, .sl v10 37 2 (x9.Taken.map TBlock.row)]) [] (by kernel_rfl) rfl (Zc.on (fun _ hw => hw.sel [0, 1, 3, 4, 5, 6] (by decide) rfl) (Zc.fin (fun _ hw => hw)))) rfl rfl rfl (Y.buildC (cells := #[.int .i64 a0.Order, v91]) rfl (fun w hw => by rcases ((As.at_ (hw.get (i := 0) rfl))).shape with ⟨h0, _⟩ | ⟨_, _, h0, _, _⟩ <;> simp only [h0] <;> kernel_rfl)) ?_
                  refine V2.eff (i := 14) (by kernel_rfl) rfl ?_
                  refine L.storeC (i := 2) sz24 rfl rfl rfl rfl (fun w hw => (all1 rfl (all1 (As.at_ (hw.get (i := 0) rfl)).one all0))) rfl (Nat.le_of_ble_eq_true rfl) ?_
                  refine L.nil (E.toV2 (stC [] [] (Cls w [] [.sl v91 37 2 (l90.map TBlock.row), .sl (sv b86 1) 37 2 (([(⟨x30.At, a1⟩ : TBlock)]).map TBlock.row), .obj b31 [.int .i64 x30.At, .int .i64 x30.Order] 37, .obj b14 [.int .i64 x9.Order, v10] 24, .obj b1 [.int .i64 a0.Order, u0_0] 24, .sl v10 37 2 (x9.Taken.map TBlock.row)])) 14 (by kernel_rfl) (Sc.past rfl (Sc.stayD (fun _ hw => hw))) (Sc.atD (fun _ hw => hw.sel [0, 1, 3, 4, 5, 6] (by decide) rfl)) ?_)
                  refine V2.done (by kernel_rfl) ?_
                  exact E.joinJ ⟨b79, v91, l90, rfl, rfl, h⟩ ⟨rfl, rfl, rfl, rfl, rfl, trivial⟩ (fun _ hw => hw.sel [3, 4, 0, 2, 6] (by decide) rfl)
               ·
                rintro _ _ ⟨gb6, gv7, gl8, rfl, rfl, h⟩
                rw [m3_quirlaw_BuddySays_K13] at h
                refine W.seq (W.region (L.cutJ 9 (fun gs D => ∃ (gb9 : Bool), gs = [(12, .int .i64 x12), (202, .bool gb9)] ∧ D = Cls w [] [] ∧ m3_quirlaw_BuddySays_K14 x12 gb9 = some r) ?_ ?_))
                ·
                 refine L.y rfl (Y.loadPW (i := 1) ag24 sz24 rfl rfl rfl) ?_
                 refine L.y rfl (Y.loadPW (i := 3) ag24 sz24 rfl rfl rfl) ?_
                 obtain ⟨b33, e34, h⟩ := bind1S h
                 refine L.y rfl (Y.does en9 rfl (fun w' hw => (w9_quirref_SameBuddy x9 (⟨a0.Order, gl8⟩ : TBuddy) v10 gv7 w' _ e34 (As.at_ (hw.get (i := 4) rfl)) (As.at_ (hw.get (i := 2) rfl))).mono (fun _ _ h => h.1))) ?_
                 rcases b33 with _ | _
                 ·
                  replace h := iteF h
                  refine L.y rfl (Y.move rfl) ?_
                  refine L.pass rfl rfl (by nofun) ?_
                  refine L.pass rfl rfl (by nofun) ?_
                  refine L.pass rfl rfl (by nofun) ?_
                  refine L.pass rfl rfl (by nofun) ?_
                  refine L.y rfl (Y.pickF rfl rfl) ?_
                  exact L.nil (E.joinJ ⟨false, rfl, rfl, h⟩ ⟨rfl, rfl, trivial⟩ (fun _ hw => hw.sel [] (by decide) rfl))
                 ·
                  replace h := iteT h
                  refine L.y rfl (Y.move rfl) ?_
                  refine L.take rfl (L.y rfl (Y.move rfl) ?_)
                  refine L.take rfl (L.y rfl (Y.fieldP fd37_0 rfl) ?_)
                  refine L.take rfl (L.y rfl (Y.loadP (i := 0) ag3 rfl rfl rfl) ?_)
                  refine L.take rfl (L.ite h rfl (Y.eql rfl rfl) (fun c35 h => ?_) (fun c35 h => ?_))
                  ·
                   refine L.y rfl (Y.pickT rfl rfl) ?_
                   exact L.nil (E.joinJ ⟨true, rfl, rfl, h⟩ ⟨rfl, rfl, trivial⟩ (fun _ hw => hw.sel [] (by decide) rfl))
                  ·
                   refine L.y rfl (Y.pickT rfl rfl) ?_
                   exact L.nil (E.joinJ ⟨false, rfl, rfl, h⟩ ⟨rfl, rfl, trivial⟩ (fun _ hw => hw.sel [] (by decide) rfl))
                ·
                 rintro _ _ ⟨gb9, rfl, rfl, h⟩
                 rw [m3_quirlaw_BuddySays_K14] at h
                 rcases gb9 with _ | _
                 ·
                  replace h := iteF h
                  refine L.y rfl (Y.move rfl) ?_
                  refine L.pass rfl rfl (by nofun) ?_
                  refine L.pass rfl rfl (by nofun) ?_
                  refine L.y rfl (Y.pickF rfl rfl) ?_
                  refine L.y rfl (Y.assign rfl) ?_
                  refine L.nil (E.thenN (W.ret (E.blockR (E.KSR (E.KLR (E.blockR (E.blockR (E.KSR (E.KLR (E.blockR (E.KSR (E.ret1 rfl rfl (fun w1 hw => ?_)))))))))))))
                  obtain rfl := Option.some.inj h
                  exact ⟨_, _, rfl, ⟨rfl, rfl⟩, hw⟩
                 ·
                  replace h := iteT h
                  refine L.y rfl (Y.move rfl) ?_
                  refine L.take rfl (L.y rfl (Y.move rfl) ?_)
                  refine L.take rfl (L.y rfl (Y.eql rfl rfl) ?_)
                  refine L.y rfl (Y.pickT rfl rfl) ?_
                  refine L.y rfl (Y.assign rfl) ?_
                  refine L.nil (E.thenN (W.ret (E.blockR (E.KSR (E.KLR (E.blockR (E.blockR (E.KSR (E.KLR (E.blockR (E.KSR (E.ret1 rfl rfl (fun w1 hw => ?_)))))))))))))
                  obtain rfl := Option.some.inj h
                  exact ⟨_, _, rfl, ⟨rfl, rfl⟩, hw⟩
             ·
              refine L.nil (E.thenN (W.condF rfl ?_))
              exact W.skip (E.blockN (E.joinJ ⟨rfl, rfl, h⟩ ⟨rfl, rfl, rfl, rfl, rfl, rfl, rfl, rfl, rfl, rfl, rfl, trivial⟩ (fun _ hw => hw.sel [1, 2, 3, 4, 5] (by decide) rfl)))
            ·
             rintro _ _ ⟨rfl, rfl, h⟩
             rw [m3_quirlaw_BuddySays_K11] at h
             refine W.region (L.m (V := fun x29 => .int .i64 x29) h rfl (Y.addM rfl rfl) (fun x29 ex29 h => ?_))
             refine L.y rfl (Y.move rfl) ?_
             exact L.nil (E.againJ ⟨x29, rfl, rfl, by rw [hg2]; exact h⟩ (Nat.lt_succ_self _) ⟨rfl, rfl, rfl, rfl, rfl, rfl, rfl, rfl, rfl, rfl, rfl, trivial⟩ (fun _ hw => hw))
           ·
            refine L.nil (E.thenN (W.seq (W.condF rfl ?_)))
            exact W.exit (E.thenX (E.KLX (E.blockX (E.blockN (E.joinJ ⟨rfl, rfl, h⟩ ⟨rfl, rfl, rfl, rfl, rfl, rfl, rfl, rfl, trivial⟩ (fun _ hw => hw))))))
          ·
           rintro _ _ ⟨rfl, rfl, h⟩
           rw [m3_quirlaw_BuddySays_K10] at h
           refine W.region (L.y rfl (Y.move rfl) ?_)
           refine L.m (V := fun x27 => .int .i64 x27) h rfl (Y.addM rfl rfl) (fun x27 ex27 h => ?_)
           refine L.y rfl (Y.assign rfl) ?_
           exact L.nil (E.againJ ⟨x27, rfl, rfl, by rw [hg1]; exact h⟩ (Nat.lt_succ_self _) ⟨rfl, rfl, rfl, rfl, rfl, rfl, rfl, rfl, trivial⟩ (fun _ hw => hw))
        ·
         rintro _ _ ⟨rfl, rfl, h⟩
         rw [m3_quirlaw_BuddySays_K7] at h
         refine W.seq (W.region (L.cutJ 7 (fun gs D => ∃ (gb2 : Bool), gs = [(12, .int .i64 x12), (214, .bool gb2)] ∧ D = Cls w [] [] ∧ m3_quirlaw_BuddySays_K8 x12 gb2 = some r) ?_ ?_))
         ·
          refine L.y rfl (Y.loadPW (i := 1) ag24 sz24 rfl rfl rfl) ?_
          refine L.y rfl (Y.loadPW (i := 0) ag24 sz24 rfl rfl rfl) ?_
          obtain ⟨b24, e25, h⟩ := bind1S h
          refine L.y rfl (Y.does en9 rfl (fun w' hw => (w9_quirref_SameBuddy x9 (⟨0, []⟩ : TBuddy) v10 (.slice none 0 0) w' _ e25 (As.at_ (hw.get (i := 2) rfl)) (At.nil w' _)).mono (fun _ _ h => h.1))) ?_
          rcases b24 with _ | _
          ·
           replace h := iteF h
           refine L.y rfl (Y.move rfl) ?_
           refine L.pass rfl rfl (by nofun) ?_
           refine L.pass rfl rfl (by nofun) ?_
           refine L.y rfl (Y.pickF rfl rfl) ?_
           exact L.nil (E.joinJ ⟨false, rfl, rfl, h⟩ ⟨rfl, rfl, trivial⟩ (fun _ hw => hw.sel [] (by decide) rfl))
          ·
           replace h := iteT h
           refine L.y rfl (Y.move rfl) ?_
           refine L.take rfl (L.y rfl (Y.move rfl) ?_)
           refine L.take rfl (L.ite h rfl (Y.eql rfl rfl) (fun c26 h => ?_) (fun c26 h => ?_))
           ·
            refine L.y rfl (Y.pickT rfl rfl) ?_
            exact L.nil (E.joinJ ⟨true, rfl, rfl, h⟩ ⟨rfl, rfl, trivial⟩ (fun _ hw => hw.sel [] (by decide) rfl))
           ·
            refine L.y rfl (Y.pickT rfl rfl) ?_
            exact L.nil (E.joinJ ⟨false, rfl, rfl, h⟩ ⟨rfl, rfl, trivial⟩ (fun _ hw => hw.sel [] (by decide) rfl))
         ·
          rintro _ _ ⟨gb2, rfl, rfl, h⟩
          rw [m3_quirlaw_BuddySays_K8] at h
          rcases gb2 with _ | _
          ·
           replace h := iteF h
           refine L.y rfl (Y.move rfl) ?_
           refine L.pass rfl rfl (by nofun) ?_
           refine L.pass rfl rfl (by nofun) ?_
           refine L.y rfl (Y.pickF rfl rfl) ?_
           refine L.y rfl (Y.assign rfl) ?_
           refine L.nil (E.thenN (W.ret (E.ret1 rfl rfl (fun w1 hw => ?_))))
           obtain rfl := Option.some.inj h
           exact ⟨_, _, rfl, ⟨rfl, rfl⟩, hw⟩
          ·
           replace h := iteT h
           refine L.y rfl (Y.move rfl) ?_
           refine L.take rfl (L.y rfl (Y.move rfl) ?_)
           refine L.take rfl (L.y rfl (Y.eql rfl rfl) ?_)
           refine L.y rfl (Y.pickT rfl rfl) ?_
           refine L.y rfl (Y.assign rfl) ?_
           refine L.nil (E.thenN (W.ret (E.ret1 rfl rfl (fun w1 hw => ?_))))
           obtain rfl := Option.some.inj h
           exact ⟨_, _, rfl, ⟨rfl, rfl⟩, hw⟩
end Go.Proofs.Ytanpiecpmmcaeaa
