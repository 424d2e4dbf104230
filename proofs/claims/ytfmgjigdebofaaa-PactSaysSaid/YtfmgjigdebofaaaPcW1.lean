/-
  Walks, printed by a program of mine.
  Conditions: none.
-/
import Derived.Test.YtfmgjigdebofaaaPcM
import Derived.Test.YtfmgjigdebofaaaChecked
import Derived.KernelRfl
namespace Go.Proofs.Ytfmgjigdebofaaa
open Go.S
set_option linter.unusedVariables false
set_option linter.unusedSimpArgs false
theorem mixed : Try.prog.follows .mixedOrders = true := by kernel_rfl
theorem ag3 : aggB Try.prog 3 false = true := by kernel_rfl
theorem ag24 : aggB Try.prog 24 false = true := by kernel_rfl
theorem ag111 : aggB Try.prog 111 true = true := by kernel_rfl
theorem ag113 : aggB Try.prog 113 true = true := by kernel_rfl
theorem el3 : elemB Try.prog 3 1 8 = true := by kernel_rfl
theorem en71 : entB Try.prog 71 = true := by kernel_rfl
theorem en72 : entB Try.prog 72 = true := by kernel_rfl
theorem en73 : entB Try.prog 73 = true := by kernel_rfl
theorem en74 : entB Try.prog 74 = true := by kernel_rfl
theorem en75 : entB Try.prog 75 = true := by kernel_rfl
theorem en76 : entB Try.prog 76 = true := by kernel_rfl
theorem en77 : entB Try.prog 77 = true := by kernel_rfl
theorem en78 : entB Try.prog 78 = true := by kernel_rfl
theorem en79 : entB Try.prog 79 = true := by kernel_rfl
theorem en80 : entB Try.prog 80 = true := by kernel_rfl
theorem en104 : entB Try.prog 104 = true := by kernel_rfl
theorem en121 : entB Try.prog 121 = true := by kernel_rfl
theorem en128 : entB Try.prog 128 = true := by kernel_rfl
theorem en129 : entB Try.prog 129 = true := by kernel_rfl
theorem en130 : entB Try.prog 130 = true := by kernel_rfl
theorem en131 : entB Try.prog 131 = true := by kernel_rfl
theorem en132 : entB Try.prog 132 = true := by kernel_rfl
theorem en133 : entB Try.prog 133 = true := by kernel_rfl
theorem en134 : entB Try.prog 134 = true := by kernel_rfl
theorem en135 : entB Try.prog 135 = true := by kernel_rfl
theorem fd111_0 : fieldB Try.prog 111 0 0 = true := by kernel_rfl
theorem fd111_1 : fieldB Try.prog 111 1 1 = true := by kernel_rfl
theorem fd111_2 : fieldB Try.prog 111 2 2 = true := by kernel_rfl
theorem fd113_0 : fieldB Try.prog 113 0 0 = true := by kernel_rfl
theorem fd113_1 : fieldB Try.prog 113 1 1 = true := by kernel_rfl
theorem fd113_2 : fieldB Try.prog 113 2 2 = true := by kernel_rfl
theorem sz3 : szB Try.prog 3 1 = true := by kernel_rfl
theorem sz24 : szB Try.prog 24 1 = true := by kernel_rfl
theorem sz111 : szB Try.prog 111 3 = true := by kernel_rfl
theorem sz113 : szB Try.prog 113 3 = true := by kernel_rfl
theorem ze3 : zeroB Try.prog 3 = some [.int .i64 0] := by kernel_rfl
theorem ze111 : zeroB Try.prog 111 = some [.int .i64 0, .slice none 0 0, .slice none 0 0] := by kernel_rfl
theorem plain_TBeat (l : List TBeat) : Plain (l.map TBeat.row) := by
  intro r hr u hu
  obtain ⟨x, _, rfl⟩ := List.mem_map.1 hr
  simp only [TBeat.row, List.mem_cons, List.not_mem_nil, or_false] at hu
  rcases hu with rfl | rfl | rfl <;> rfl
set_option maxRecDepth 100000 in
set_option maxHeartbeats 8000000 in
theorem w72_pact_New (a0 : Int) (w : World) (r : (TPact × Int)) (h : m72_pact_New a0 = some r) : Does Try.prog 72 [.int .i64 a0] w fun u m => ∃ v0 v1, u = .tuple #[.agg #[.int .i64 r.1.Lead, v0, v1], .int .i64 r.2] ∧ m = [.sl v0 3 1 (r.1.Votes.map I), .sl v1 3 1 (r.1.Parts.map I)] := by
  rw [m72_pact_New] at h
  refine body (n := 16) Try.func72 rfl rfl rfl (Cls.refl w) ?_
  refine W.seq ?_
  refine W.region ?_
  refine L.alloc rfl ze111 ?_
  intro b1
  refine L.y rfl (Y.assign rfl) ?_
  refine L.nil ?_
  refine E.thenN ?_
  refine W.seqJ (fun gs D => gs = [(0, .int .i64 a0), (2, pt b1 0)] ∧ D = Cls w [] [.obj b1 [.int .i64 0, .slice none 0 0, .slice none 0 0] 111] ∧ m72_pact_New_K1 a0 = some r) ?_ ?_
  ·
    refine W.seq ?_
    refine W.region ?_
    refine L.y rfl (Y.move rfl) ?_
    refine L.ite h rfl (Y.lss rfl rfl) (fun c16 h => ?_) (fun c16 h => ?_)
    ·
      refine L.y rfl (Y.move rfl) ?_
      refine L.pass rfl rfl (by nofun) ?_
      refine L.pass rfl rfl (by nofun) ?_
      refine L.y rfl (Y.pickT rfl rfl) ?_
      refine L.nil ?_
      refine E.thenN ?_
      refine W.condT rfl ?_
      refine W.seq ?_
      refine W.region ?_
      refine L.y rfl (Y.build (cells := #[.int .i64 0, .slice none 0 0, .slice none 0 0]) rfl (by kernel_rfl)) ?_
      refine L.store (i := 0) sz111 rfl rfl rfl rfl (by simp [Value.oneCell', Value.cells, st]) rfl (Nat.le_of_ble_eq_true rfl) ?_
      refine L.y rfl (Y.assign rfl) ?_
      refine L.nil ?_
      refine E.thenN ?_
      refine W.ret ?_
      refine E.KSR ?_
      refine E.retR2 rfl (Rv.cellW (i := 0) ag111 sz111 rfl rfl rfl) (Rv.tmp rfl) (fun w1 hw => ?_)
      obtain rfl := Option.some.inj h
      exact ⟨_, _, rfl, ⟨_, _, rfl, rfl⟩, ((hw.nilSl 3 1).nilSl 3 1).sel [1, 0] (by decide) rfl⟩
    ·
      refine L.y rfl (Y.move rfl) ?_
      refine L.take rfl ?_
      refine L.y rfl (Y.move rfl) ?_
      refine L.take rfl ?_
      refine L.ite h rfl (Y.gtr rfl rfl) (fun c17 h => ?_) (fun c17 h => ?_)
      ·
        refine L.y rfl (Y.pickF rfl rfl) ?_
        refine L.nil ?_
        refine E.thenN ?_
        refine W.condT rfl ?_
        refine W.seq ?_
        refine W.region ?_
        refine L.y rfl (Y.build (cells := #[.int .i64 0, .slice none 0 0, .slice none 0 0]) rfl (by kernel_rfl)) ?_
        refine L.store (i := 0) sz111 rfl rfl rfl rfl (by simp [Value.oneCell', Value.cells, st]) rfl (Nat.le_of_ble_eq_true rfl) ?_
        refine L.y rfl (Y.assign rfl) ?_
        refine L.nil ?_
        refine E.thenN ?_
        refine W.ret ?_
        refine E.KSR ?_
        refine E.retR2 rfl (Rv.cellW (i := 0) ag111 sz111 rfl rfl rfl) (Rv.tmp rfl) (fun w1 hw => ?_)
        obtain rfl := Option.some.inj h
        exact ⟨_, _, rfl, ⟨_, _, rfl, rfl⟩, ((hw.nilSl 3 1).nilSl 3 1).sel [1, 0] (by decide) rfl⟩
      ·
        refine L.y rfl (Y.pickF rfl rfl) ?_
        refine L.nil ?_
        refine E.thenN ?_
        refine W.condF rfl ?_
        refine W.skip ?_
        exact E.joinJ ⟨rfl, rfl, h⟩ ⟨rfl, rfl, trivial⟩ (fun _ hw => hw)
  ·
    rintro _ _ ⟨rfl, rfl, h⟩
    rw [m72_pact_New_K1] at h
    refine W.seqJ (fun gs D => ∃ (gv1 : Value) (gl2 : (List Int)) (gv3 : Value) (gl4 : (List Int)), gs = [(2, pt b1 0), (3, .int .i64 0)] ∧ D = Cls w [] [.obj b1 [.int .i64 0, gv1, gv3] 111, .sl gv1 3 1 (gl2.map I), .sl gv3 3 1 (gl4.map I)] ∧ m72_pact_New_K2 gl2 gl4 = some r) ?_ ?_
    ·
      refine W.drawn (k := 7) (D := Cls w [] []) rfl mixed (fun _ hw => hw.drew) (fun _ hw => hw.sel [] (by decide) rfl) ?_
      refine V.y (i := 0) (Nx.of (by kernel_rfl) rfl) rfl rfl rfl (Y.move rfl) ?_
      refine V.y (i := 2) (Nx.of (by kernel_rfl) rfl) rfl rfl rfl (Y.move rfl) ?_
      obtain ⟨y8, e9, h⟩ := bind1S h
      obtain ⟨y10, e11, h⟩ := bind1S h
      refine V.eff2 (i1 := 1) (i2 := 3) (by kernel_rfl) rfl rfl ?_ ?_
      ·
        refine L.makeE (row := I) (z0 := 0) e9 rfl Try.underlying24 el3 ze3 rfl rfl rfl ?_
        intro b12
        refine L.nil ?_
        refine E.toV (D' := Cls w [] [.sl (sv b12 a0.toNat) 3 1 (y8.map I)]) (fun _ hw => hw.sel [] (by decide) rfl) (fun _ hw => hw.sel [0] (by decide) rfl) ?_
        refine V.eff (i := 3) (by kernel_rfl) rfl ?_
        refine L.makeE (row := I) (z0 := 0) e11 rfl Try.underlying24 el3 ze3 rfl rfl rfl ?_
        intro b13
        refine L.nil ?_
        refine E.toV (D' := Cls w [] [.sl (sv b13 a0.toNat) 3 1 (y10.map I), .sl (sv b12 a0.toNat) 3 1 (y8.map I)]) (fun _ hw => hw.sel [1] (by decide) rfl) (fun _ hw => hw.sel [0, 1] (by decide) rfl) ?_
        refine V.y (i := 4) (Nx.of (by kernel_rfl) rfl) rfl rfl rfl (Y.buildC (cells := #[.int .i64 0, (sv b12 a0.toNat), (sv b13 a0.toNat)]) rfl (fun w hw => by rcases ((As.at_ (hw.get (i := 1) rfl))).shape with ⟨h0, _⟩ | ⟨_, _, h0, _, _⟩ <;> rcases ((As.at_ (hw.get (i := 0) rfl))).shape with ⟨h1, _⟩ | ⟨_, _, h1, _, _⟩ <;> simp only [h0, h1] <;> kernel_rfl)) ?_
        refine V.eff (i := 5) (by kernel_rfl) rfl ?_
        refine L.storeC (i := 2) sz111 rfl rfl rfl rfl (fun w hw => (all1 rfl (all1 (As.at_ (hw.get (i := 1) rfl)).one (all1 (As.at_ (hw.get (i := 0) rfl)).one all0)))) rfl (Nat.le_of_ble_eq_true rfl) ?_
        refine L.nil ?_
        refine E.toV (D' := Cls w [] [.sl (sv b13 a0.toNat) 3 1 (y10.map I), .sl (sv b12 a0.toNat) 3 1 (y8.map I)]) (fun _ hw => hw) (fun _ hw => hw.sel [0, 1] (by decide) rfl) ?_
        refine V.y (i := 6) (Nx.of (by kernel_rfl) rfl) rfl rfl rfl (Y.assign rfl) ?_
        refine V.done (by kernel_rfl) ?_
        exact E.joinJ ⟨(sv b12 a0.toNat), y8, (sv b13 a0.toNat), y10, rfl, rfl, h⟩ ⟨rfl, rfl, trivial⟩ (fun _ hw => hw.sel [2, 1, 0] (by decide) rfl)
      ·
        refine L.makeE (row := I) (z0 := 0) e11 rfl Try.underlying24 el3 ze3 rfl rfl rfl ?_
        intro b14
        refine L.nil ?_
        refine E.toV (D' := Cls w [] [.sl (sv b14 a0.toNat) 3 1 (y10.map I)]) (fun _ hw => hw.sel [] (by decide) rfl) (fun _ hw => hw.sel [0] (by decide) rfl) ?_
        refine V.eff (i := 1) (by kernel_rfl) rfl ?_
        refine L.makeE (row := I) (z0 := 0) e9 rfl Try.underlying24 el3 ze3 rfl rfl rfl ?_
        intro b15
        refine L.nil ?_
        refine E.toV (D' := Cls w [] [.sl (sv b15 a0.toNat) 3 1 (y8.map I), .sl (sv b14 a0.toNat) 3 1 (y10.map I)]) (fun _ hw => hw.sel [1] (by decide) rfl) (fun _ hw => hw.sel [0, 1] (by decide) rfl) ?_
        refine V.y (i := 4) (Nx.of (by kernel_rfl) rfl) rfl rfl rfl (Y.buildC (cells := #[.int .i64 0, (sv b15 a0.toNat), (sv b14 a0.toNat)]) rfl (fun w hw => by rcases ((As.at_ (hw.get (i := 0) rfl))).shape with ⟨h0, _⟩ | ⟨_, _, h0, _, _⟩ <;> rcases ((As.at_ (hw.get (i := 1) rfl))).shape with ⟨h1, _⟩ | ⟨_, _, h1, _, _⟩ <;> simp only [h0, h1] <;> kernel_rfl)) ?_
        refine V.eff (i := 5) (by kernel_rfl) rfl ?_
        refine L.storeC (i := 2) sz111 rfl rfl rfl rfl (fun w hw => (all1 rfl (all1 (As.at_ (hw.get (i := 0) rfl)).one (all1 (As.at_ (hw.get (i := 1) rfl)).one all0)))) rfl (Nat.le_of_ble_eq_true rfl) ?_
        refine L.nil ?_
        refine E.toV (D' := Cls w [] [.sl (sv b15 a0.toNat) 3 1 (y8.map I), .sl (sv b14 a0.toNat) 3 1 (y10.map I)]) (fun _ hw => hw) (fun _ hw => hw.sel [0, 1] (by decide) rfl) ?_
        refine V.y (i := 6) (Nx.of (by kernel_rfl) rfl) rfl rfl rfl (Y.assign rfl) ?_
        refine V.done (by kernel_rfl) ?_
        exact E.joinJ ⟨(sv b15 a0.toNat), y8, (sv b14 a0.toNat), y10, rfl, rfl, h⟩ ⟨rfl, rfl, trivial⟩ (fun _ hw => hw.sel [2, 0, 1] (by decide) rfl)
    ·
      rintro _ _ ⟨gv1, gl2, gv3, gl4, rfl, rfl, h⟩
      rw [m72_pact_New_K2] at h
      refine W.ret ?_
      refine E.retR2 rfl (Rv.cellW (i := 0) ag111 sz111 rfl rfl rfl) (Rv.tmp rfl) (fun w1 hw => ?_)
      obtain rfl := Option.some.inj h
      exact ⟨_, _, rfl, ⟨_, _, rfl, rfl⟩, hw.sel [1, 2] (by decide) rfl⟩
set_option maxRecDepth 100000 in
set_option maxHeartbeats 8000000 in
theorem w128_quirref_PactErr_1 (a0 : Int) (w : World) (r : Bool) (h : m128_quirref_PactErr_1 a0 = some r) : Does Try.prog 128 [.int .i64 a0] w fun u m => u = .bool r ∧ m = [] := by
  rw [m128_quirref_PactErr_1] at h
  refine body (n := 5) Try.func128 rfl rfl rfl (Cls.refl w) ?_
  refine W.seq ?_
  refine W.region ?_
  refine L.y rfl (Y.assign rfl) ?_
  refine L.nil ?_
  refine E.thenN ?_
  refine W.seq ?_
  refine W.region ?_
  refine L.y rfl (Y.move rfl) ?_
  refine L.y rfl (Y.neq rfl rfl) ?_
  refine L.y rfl (Y.assign rfl) ?_
  refine L.nil ?_
  refine E.thenN ?_
  refine W.ret ?_
  refine E.ret1 rfl rfl (fun w1 hw => ?_)
  obtain rfl := Option.some.inj h
  exact ⟨_, _, rfl, ⟨rfl, rfl⟩, hw⟩
set_option maxRecDepth 100000 in
set_option maxHeartbeats 8000000 in
theorem w73_quirref_PactErr (a0 : TPact) (u0_0 : Value) (u0_1 : Value) (w : World) (r : Int) (h : m73_quirref_PactErr a0 = some r) (hA0_0 : At w u0_0 1 (a0.Votes.map I)) (hA0_1 : At w u0_1 1 (a0.Parts.map I)) : Does Try.prog 73 [.agg #[.int .i64 a0.Lead, u0_0, u0_1]] w fun u m => u = .int .i64 r ∧ m = [] := by
  rw [m73_quirref_PactErr] at h
  refine body (n := 124) Try.func73 rfl rfl rfl (Cls.refl w) ?_
  refine W.seq ?_
  refine W.region ?_
  refine L.box rfl rfl ?_
  intro b1
  refine L.y rfl (Y.assign rfl) ?_
  refine L.nil ?_
  refine E.thenN ?_
  refine W.seq ?_
  refine W.region ?_
  refine L.y rfl (Y.fieldP fd111_2 rfl) ?_
  refine L.y rfl (Y.loadP (i := 0) ag24 rfl rfl rfl) ?_
  refine L.y rfl (Y.lenM (g := I) (l := a0.Parts) Try.underlying24 rfl (fun w' hw => hA0_1.cls0 hw)) ?_
  refine L.y rfl (Y.assign rfl) ?_
  refine L.nil ?_
  refine E.thenN ?_
  refine W.seqJ (fun gs D => gs = [(1, pt b1 0), (3, .int .i64 (a0.Parts.length : Int))] ∧ D = Cls w [] [.obj b1 [.int .i64 a0.Lead, u0_0, u0_1] 111] ∧ m73_quirref_PactErr_K1 a0 = some r) ?_ ?_
  ·
    refine W.seq ?_
    refine W.region ?_
    refine L.cutJ 6 (fun gs D => ∃ (gb20 : Bool), gs = [(1, pt b1 0), (3, .int .i64 (a0.Parts.length : Int)), (18, .bool gb20)] ∧ D = Cls w [] [.obj b1 [.int .i64 a0.Lead, u0_0, u0_1] 111] ∧ m73_quirref_PactErr_K19 a0 gb20 = some r) ?_ ?_
    ·
      refine L.y rfl (Y.move rfl) ?_
      refine L.ite h rfl (Y.lss rfl rfl) (fun c36 h => ?_) (fun c36 h => ?_)
      ·
        refine L.y rfl (Y.move rfl) ?_
        refine L.pass rfl rfl (by nofun) ?_
        refine L.pass rfl rfl (by nofun) ?_
        refine L.y rfl (Y.pickT rfl rfl) ?_
        refine L.nil ?_
        exact E.joinJ ⟨true, rfl, rfl, h⟩ ⟨rfl, rfl, rfl, trivial⟩ (fun _ hw => hw)
      ·
        refine L.y rfl (Y.move rfl) ?_
        refine L.take rfl ?_
        refine L.y rfl (Y.move rfl) ?_
        refine L.take rfl ?_
        refine L.ite h rfl (Y.gtr rfl rfl) (fun c37 h => ?_) (fun c37 h => ?_)
        ·
          refine L.y rfl (Y.pickF rfl rfl) ?_
          refine L.nil ?_
          exact E.joinJ ⟨true, rfl, rfl, h⟩ ⟨rfl, rfl, rfl, trivial⟩ (fun _ hw => hw)
        ·
          refine L.y rfl (Y.pickF rfl rfl) ?_
          refine L.nil ?_
          exact E.joinJ ⟨false, rfl, rfl, h⟩ ⟨rfl, rfl, rfl, trivial⟩ (fun _ hw => hw)
    ·
      rintro _ _ ⟨gb20, rfl, rfl, h⟩
      rw [m73_quirref_PactErr_K19] at h
      rcases gb20 with _ | _
      ·
        replace h := iteF h
        refine L.cutJ 12 (fun gs D => ∃ (gb21 : Bool), gs = [(1, pt b1 0), (3, .int .i64 (a0.Parts.length : Int)), (30, .bool gb21)] ∧ D = Cls w [] [.obj b1 [.int .i64 a0.Lead, u0_0, u0_1] 111] ∧ m73_quirref_PactErr_K20 a0 gb21 = some r) ?_ ?_
        ·
          refine L.y rfl (Y.move rfl) ?_
          refine L.take rfl ?_
          refine L.y rfl (Y.fieldP fd111_1 rfl) ?_
          refine L.take rfl ?_
          refine L.y rfl (Y.loadP (i := 0) ag24 rfl rfl rfl) ?_
          refine L.take rfl ?_
          refine L.y rfl (Y.lenM (g := I) (l := a0.Votes) Try.underlying24 rfl (fun w' hw => hA0_0.cls0 hw)) ?_
          refine L.take rfl ?_
          refine L.y rfl (Y.move rfl) ?_
          refine L.take rfl ?_
          refine L.ite h rfl (Y.neq rfl rfl) (fun c34 h => ?_) (fun c34 h => ?_)
          ·
            refine L.y rfl (Y.pickF rfl rfl) ?_
            refine L.y rfl (Y.move rfl) ?_
            refine L.pass rfl rfl (by nofun) ?_
            refine L.pass rfl rfl (by nofun) ?_
            refine L.pass rfl rfl (by nofun) ?_
            refine L.y rfl (Y.pickT rfl rfl) ?_
            refine L.nil ?_
            exact E.joinJ ⟨true, rfl, rfl, h⟩ ⟨rfl, rfl, rfl, trivial⟩ (fun _ hw => hw)
          ·
            refine L.y rfl (Y.pickF rfl rfl) ?_
            refine L.y rfl (Y.move rfl) ?_
            refine L.take rfl ?_
            refine L.y rfl (Y.fieldP fd111_0 rfl) ?_
            refine L.take rfl ?_
            refine L.y rfl (Y.loadP (i := 0) ag3 rfl rfl rfl) ?_
            refine L.take rfl ?_
            refine L.ite h rfl (Y.lss rfl rfl) (fun c35 h => ?_) (fun c35 h => ?_)
            ·
              refine L.y rfl (Y.pickF rfl rfl) ?_
              refine L.nil ?_
              exact E.joinJ ⟨true, rfl, rfl, h⟩ ⟨rfl, rfl, rfl, trivial⟩ (fun _ hw => hw)
            ·
              refine L.y rfl (Y.pickF rfl rfl) ?_
              refine L.nil ?_
              exact E.joinJ ⟨false, rfl, rfl, h⟩ ⟨rfl, rfl, rfl, trivial⟩ (fun _ hw => hw)
        ·
          rintro _ _ ⟨gb21, rfl, rfl, h⟩
          rw [m73_quirref_PactErr_K20] at h
          rcases gb21 with _ | _
          ·
            replace h := iteF h
            refine L.y rfl (Y.move rfl) ?_
            refine L.take rfl ?_
            refine L.y rfl (Y.fieldP fd111_0 rfl) ?_
            refine L.take rfl ?_
            refine L.y rfl (Y.loadP (i := 0) ag3 rfl rfl rfl) ?_
            refine L.take rfl ?_
            refine L.ite h rfl (Y.gtr rfl rfl) (fun c33 h => ?_) (fun c33 h => ?_)
            ·
              refine L.y rfl (Y.pickF rfl rfl) ?_
              refine L.nil ?_
              refine E.thenN ?_
              refine W.condT rfl ?_
              refine W.seq ?_
              refine W.region ?_
              refine L.y rfl (Y.assign rfl) ?_
              refine L.nil ?_
              refine E.thenN ?_
              refine W.ret ?_
              refine E.KSR ?_
              refine E.ret1 rfl rfl (fun w1 hw => ?_)
              obtain rfl := Option.some.inj h
              exact ⟨_, _, rfl, ⟨rfl, rfl⟩, hw.sel [] (by decide) rfl⟩
            ·
              refine L.y rfl (Y.pickF rfl rfl) ?_
              refine L.nil ?_
              refine E.thenN ?_
              refine W.condF rfl ?_
              refine W.skip ?_
              exact E.joinJ ⟨rfl, rfl, h⟩ ⟨rfl, rfl, trivial⟩ (fun _ hw => hw)
          ·
            replace h := iteT h
            refine L.y rfl (Y.move rfl) ?_
            refine L.pass rfl rfl (by nofun) ?_
            refine L.pass rfl rfl (by nofun) ?_
            refine L.pass rfl rfl (by nofun) ?_
            refine L.y rfl (Y.pickT rfl rfl) ?_
            refine L.nil ?_
            refine E.thenN ?_
            refine W.condT rfl ?_
            refine W.seq ?_
            refine W.region ?_
            refine L.y rfl (Y.assign rfl) ?_
            refine L.nil ?_
            refine E.thenN ?_
            refine W.ret ?_
            refine E.KSR ?_
            refine E.ret1 rfl rfl (fun w1 hw => ?_)
            obtain rfl := Option.some.inj h
            exact ⟨_, _, rfl, ⟨rfl, rfl⟩, hw.sel [] (by decide) rfl⟩
      ·
        replace h := iteT h
        refine L.y rfl (Y.move rfl) ?_
        refine L.pass rfl rfl (by nofun) ?_
        refine L.pass rfl rfl (by nofun) ?_
        refine L.pass rfl rfl (by nofun) ?_
        refine L.pass rfl rfl (by nofun) ?_
        refine L.pass rfl rfl (by nofun) ?_
        refine L.y rfl (Y.pickT rfl rfl) ?_
        refine L.y rfl (Y.move rfl) ?_
        refine L.pass rfl rfl (by nofun) ?_
        refine L.pass rfl rfl (by nofun) ?_
        refine L.pass rfl rfl (by nofun) ?_
        refine L.y rfl (Y.pickT rfl rfl) ?_
        refine L.y rfl (Y.move rfl) ?_
        refine L.pass rfl rfl (by nofun) ?_
        refine L.pass rfl rfl (by nofun) ?_
        refine L.pass rfl rfl (by nofun) ?_
        refine L.y rfl (Y.pickT rfl rfl) ?_
        refine L.nil ?_
        refine E.thenN ?_
        refine W.condT rfl ?_
        refine W.seq ?_
        refine W.region ?_
        refine L.y rfl (Y.assign rfl) ?_
        refine L.nil ?_
        refine E.thenN ?_
        refine W.ret ?_
        refine E.KSR ?_
        refine E.ret1 rfl rfl (fun w1 hw => ?_)
        obtain rfl := Option.some.inj h
        exact ⟨_, _, rfl, ⟨rfl, rfl⟩, hw.sel [] (by decide) rfl⟩
  ·
    rintro _ _ ⟨rfl, rfl, h⟩
    rw [m73_quirref_PactErr_K1] at h
    refine W.seq ?_
    refine W.region ?_
    refine L.y rfl (Y.assign rfl) ?_
    refine L.y rfl (Y.assign rfl) ?_
    refine L.nil ?_
    refine E.thenN ?_
    refine W.seqJ (fun gs D => ∃ (gx1 : Int) (gx2 : Int), gs = [(1, pt b1 0), (4, .int .i64 gx1), (5, .int .i64 gx2)] ∧ D = Cls w [] [.obj b1 [.int .i64 a0.Lead, u0_0, u0_1] 111] ∧ m73_quirref_PactErr_K2 a0 gx1 gx2 = some r) ?_ ?_
    ·
      refine W.seq ?_
      refine W.region ?_
      refine L.y rfl (Y.move rfl) ?_
      refine L.y rfl (Y.move rfl) ?_
      refine L.nil ?_
      refine E.thenN ?_
      refine W.block ?_
      refine W.loopJ (fun m gs D => ∃ (gx11 : Int) (gx12 : Int) (gx13 : Int), gs = [(1, pt b1 0), (4, .int .i64 gx11), (5, .int .i64 gx12), (36, .int .i64 (a0.Parts.length : Int)), (37, .int .i64 gx13)] ∧ D = Cls w [] [.obj b1 [.int .i64 a0.Lead, u0_0, u0_1] 111] ∧ m73_quirref_PactErr_L2 a0 m gx11 gx12 gx13 = some r) ⟨0, 0, 0, rfl, rfl, h⟩ ⟨rfl, rfl, rfl, rfl, rfl, trivial⟩ (fun _ hw => hw) ?_
      rintro m _ _ ⟨gx11, gx12, gx13, rfl, rfl, h⟩
      rcases m with _ | m
      · rw [m73_quirref_PactErr_L2] at h; cases h
      rw [m73_quirref_PactErr_L2] at h
      generalize hg2 : m73_quirref_PactErr_L2 a0 m = go2 at h
      rw [m73_quirref_PactErr_L2B] at h
      refine W.seq ?_
      refine W.region ?_
      refine L.ite h rfl (Y.lss rfl rfl) (fun c15 h => ?_) (fun c15 h => ?_)
      ·
        refine L.nil ?_
        refine E.thenN ?_
        refine W.seq ?_
        refine W.condT rfl ?_
        refine W.skip ?_
        refine E.thenN ?_
        refine W.seqJ (fun gs D => ∃ (gx14 : Int) (gx15 : Int), gs = [(1, pt b1 0), (4, .int .i64 gx14), (5, .int .i64 gx15), (36, .int .i64 (a0.Parts.length : Int)), (37, .int .i64 gx13)] ∧ D = Cls w [] [.obj b1 [.int .i64 a0.Lead, u0_0, u0_1] 111] ∧ m73_quirref_PactErr_K12 gx13 go2 gx14 gx15 = some r) ?_ ?_
        ·
          refine W.block ?_
          refine W.seq ?_
          refine W.region ?_
          refine L.y rfl (Y.move rfl) ?_
          refine L.y rfl (Y.assign rfl) ?_
          refine L.nil ?_
          refine E.thenN ?_
          refine W.seq ?_
          refine W.quietC mixed (by kernel_rfl) (fun _ hw => hw.drew) (fun hC => ?_)
          refine U.y rfl (Y.fieldP fd111_2 rfl) ?_
          refine U.y rfl (Y.loadP (i := 0) ag24 rfl rfl rfl) ?_
          refine U.y rfl (Y.move rfl) ?_
          refine U.m (V := fun _ => el u0_1 (gx13.toNat * 1)) h rfl (Y.indexM (g := I) (l := a0.Parts) Try.underlying24 sz3 rfl rfl (fun w' hw => hA0_1.cls0 hw)) (fun x17 ex17 h => ?_)
          refine U.y rfl (Y.loadE1 (u := .int .i64 x17) ag3 rfl (fun w' hw => hA0_1.cls0 hw) (idx_map ex17)) ?_
          refine U.y rfl (Y.fieldP fd111_1 rfl) ?_
          refine U.y rfl (Y.loadP (i := 0) ag24 rfl rfl rfl) ?_
          refine U.y rfl (Y.move rfl) ?_
          refine U.m (V := fun _ => el u0_0 (gx13.toNat * 1)) h rfl (Y.indexM (g := I) (l := a0.Votes) Try.underlying24 sz3 rfl rfl (fun w' hw => hA0_0.cls0 hw)) (fun x18 ex18 h => ?_)
          refine U.y rfl (Y.loadE1 (u := .int .i64 x18) ag3 rfl (fun w' hw => hA0_0.cls0 hw) (idx_map ex18)) ?_
          refine U.y rfl (Y.assign rfl) ?_
          refine U.y rfl (Y.assign rfl) ?_
          refine U.nil ?_
          refine E.thenN ?_
          refine W.seqJ (fun gs D => gs = [(1, pt b1 0), (4, .int .i64 gx11), (5, .int .i64 gx12), (7, .int .i64 x17), (8, .int .i64 x18), (36, .int .i64 (a0.Parts.length : Int)), (37, .int .i64 gx13)] ∧ D = Cls w [] [.obj b1 [.int .i64 a0.Lead, u0_0, u0_1] 111] ∧ m73_quirref_PactErr_K13 x18 x17 a0 gx11 gx12 gx13 go2 = some r) ?_ ?_
          ·
            refine W.seq ?_
            refine W.region ?_
            refine L.cutJ 6 (fun gs D => ∃ (gb19 : Bool), gs = [(1, pt b1 0), (4, .int .i64 gx11), (5, .int .i64 gx12), (7, .int .i64 x17), (8, .int .i64 x18), (36, .int .i64 (a0.Parts.length : Int)), (37, .int .i64 gx13), (55, .bool gb19)] ∧ D = Cls w [] [.obj b1 [.int .i64 a0.Lead, u0_0, u0_1] 111] ∧ m73_quirref_PactErr_K18 x18 x17 a0 gx11 gx12 gx13 go2 gb19 = some r) ?_ ?_
            ·
              refine L.y rfl (Y.move rfl) ?_
              refine L.ite h rfl (Y.lss rfl rfl) (fun c31 h => ?_) (fun c31 h => ?_)
              ·
                refine L.y rfl (Y.move rfl) ?_
                refine L.pass rfl rfl (by nofun) ?_
                refine L.pass rfl rfl (by nofun) ?_
                refine L.y rfl (Y.pickT rfl rfl) ?_
                refine L.nil ?_
                exact E.joinJ ⟨true, rfl, rfl, h⟩ ⟨rfl, rfl, rfl, rfl, rfl, rfl, rfl, rfl, trivial⟩ (fun _ hw => hw)
              ·
                refine L.y rfl (Y.move rfl) ?_
                refine L.take rfl ?_
                refine L.y rfl (Y.move rfl) ?_
                refine L.take rfl ?_
                refine L.ite h rfl (Y.gtr rfl rfl) (fun c32 h => ?_) (fun c32 h => ?_)
                ·
                  refine L.y rfl (Y.pickF rfl rfl) ?_
                  refine L.nil ?_
                  exact E.joinJ ⟨true, rfl, rfl, h⟩ ⟨rfl, rfl, rfl, rfl, rfl, rfl, rfl, rfl, trivial⟩ (fun _ hw => hw)
                ·
                  refine L.y rfl (Y.pickF rfl rfl) ?_
                  refine L.nil ?_
                  exact E.joinJ ⟨false, rfl, rfl, h⟩ ⟨rfl, rfl, rfl, rfl, rfl, rfl, rfl, rfl, trivial⟩ (fun _ hw => hw)
            ·
              rintro _ _ ⟨gb19, rfl, rfl, h⟩
              rw [m73_quirref_PactErr_K18] at h
              rcases gb19 with _ | _
              ·
                replace h := iteF h
                refine L.y rfl (Y.move rfl) ?_
                refine L.take rfl ?_
                refine L.y rfl (Y.move rfl) ?_
                refine L.take rfl ?_
                refine L.ite h rfl (Y.lss rfl rfl) (fun c29 h => ?_) (fun c29 h => ?_)
                ·
                  refine L.y rfl (Y.pickF rfl rfl) ?_
                  refine L.y rfl (Y.move rfl) ?_
                  refine L.pass rfl rfl (by nofun) ?_
                  refine L.pass rfl rfl (by nofun) ?_
                  refine L.y rfl (Y.pickT rfl rfl) ?_
                  refine L.nil ?_
                  refine E.thenN ?_
                  refine W.condT rfl ?_
                  refine W.seq ?_
                  refine W.region ?_
                  refine L.y rfl (Y.assign rfl) ?_
                  refine L.nil ?_
                  refine E.thenN ?_
                  refine W.ret ?_
                  refine E.KSR ?_
                  refine E.blockR ?_
                  refine E.KSR ?_
                  refine E.KLR ?_
                  refine E.blockR ?_
                  refine E.KSR ?_
                  refine E.ret1 rfl rfl (fun w1 hw => ?_)
                  obtain rfl := Option.some.inj h
                  exact ⟨_, _, rfl, ⟨rfl, rfl⟩, hw.sel [] (by decide) rfl⟩
                ·
                  refine L.y rfl (Y.pickF rfl rfl) ?_
                  refine L.y rfl (Y.move rfl) ?_
                  refine L.take rfl ?_
                  refine L.y rfl (Y.move rfl) ?_
                  refine L.take rfl ?_
                  refine L.ite h rfl (Y.gtr rfl rfl) (fun c30 h => ?_) (fun c30 h => ?_)
                  ·
                    refine L.y rfl (Y.pickF rfl rfl) ?_
                    refine L.nil ?_
                    refine E.thenN ?_
                    refine W.condT rfl ?_
                    refine W.seq ?_
                    refine W.region ?_
                    refine L.y rfl (Y.assign rfl) ?_
                    refine L.nil ?_
                    refine E.thenN ?_
                    refine W.ret ?_
                    refine E.KSR ?_
                    refine E.blockR ?_
                    refine E.KSR ?_
                    refine E.KLR ?_
                    refine E.blockR ?_
                    refine E.KSR ?_
                    refine E.ret1 rfl rfl (fun w1 hw => ?_)
                    obtain rfl := Option.some.inj h
                    exact ⟨_, _, rfl, ⟨rfl, rfl⟩, hw.sel [] (by decide) rfl⟩
                  ·
                    refine L.y rfl (Y.pickF rfl rfl) ?_
                    refine L.nil ?_
                    refine E.thenN ?_
                    refine W.condF rfl ?_
                    refine W.skip ?_
                    exact E.joinJ ⟨rfl, rfl, h⟩ ⟨rfl, rfl, rfl, rfl, rfl, rfl, rfl, trivial⟩ (fun _ hw => hw)
              ·
                replace h := iteT h
                refine L.y rfl (Y.move rfl) ?_
                refine L.pass rfl rfl (by nofun) ?_
                refine L.pass rfl rfl (by nofun) ?_
                refine L.y rfl (Y.pickT rfl rfl) ?_
                refine L.y rfl (Y.move rfl) ?_
                refine L.pass rfl rfl (by nofun) ?_
                refine L.pass rfl rfl (by nofun) ?_
                refine L.y rfl (Y.pickT rfl rfl) ?_
                refine L.nil ?_
                refine E.thenN ?_
                refine W.condT rfl ?_
                refine W.seq ?_
                refine W.region ?_
                refine L.y rfl (Y.assign rfl) ?_
                refine L.nil ?_
                refine E.thenN ?_
                refine W.ret ?_
                refine E.KSR ?_
                refine E.blockR ?_
                refine E.KSR ?_
                refine E.KLR ?_
                refine E.blockR ?_
                refine E.KSR ?_
                refine E.ret1 rfl rfl (fun w1 hw => ?_)
                obtain rfl := Option.some.inj h
                exact ⟨_, _, rfl, ⟨rfl, rfl⟩, hw.sel [] (by decide) rfl⟩
          ·
            rintro _ _ ⟨rfl, rfl, h⟩
            rw [m73_quirref_PactErr_K13] at h
            refine W.seqJ (fun gs D => gs = [(1, pt b1 0), (4, .int .i64 gx11), (5, .int .i64 gx12), (7, .int .i64 x17), (8, .int .i64 x18), (36, .int .i64 (a0.Parts.length : Int)), (37, .int .i64 gx13)] ∧ D = Cls w [] [.obj b1 [.int .i64 a0.Lead, u0_0, u0_1] 111] ∧ m73_quirref_PactErr_K14 x17 gx11 x18 gx12 gx13 go2 = some r) ?_ ?_
            ·
              refine W.seq ?_
              refine W.region ?_
              refine L.cutJ 6 (fun gs D => ∃ (gb16 : Bool), gs = [(1, pt b1 0), (4, .int .i64 gx11), (5, .int .i64 gx12), (7, .int .i64 x17), (8, .int .i64 x18), (36, .int .i64 (a0.Parts.length : Int)), (37, .int .i64 gx13), (69, .bool gb16)] ∧ D = Cls w [] [.obj b1 [.int .i64 a0.Lead, u0_0, u0_1] 111] ∧ m73_quirref_PactErr_K15 x18 x17 a0 gx11 gx12 gx13 go2 gb16 = some r) ?_ ?_
              ·
                refine L.y rfl (Y.move rfl) ?_
                refine L.ite h rfl (Y.eql rfl rfl) (fun c27 h => ?_) (fun c27 h => ?_)
                ·
                  refine L.y rfl (Y.move rfl) ?_
                  refine L.take rfl ?_
                  refine L.y rfl (Y.move rfl) ?_
                  refine L.take rfl ?_
                  refine L.ite h rfl (Y.neq rfl rfl) (fun c28 h => ?_) (fun c28 h => ?_)
                  ·
                    refine L.y rfl (Y.pickT rfl rfl) ?_
                    refine L.nil ?_
                    exact E.joinJ ⟨true, rfl, rfl, h⟩ ⟨rfl, rfl, rfl, rfl, rfl, rfl, rfl, rfl, trivial⟩ (fun _ hw => hw)
                  ·
                    refine L.y rfl (Y.pickT rfl rfl) ?_
                    refine L.nil ?_
                    exact E.joinJ ⟨false, rfl, rfl, h⟩ ⟨rfl, rfl, rfl, rfl, rfl, rfl, rfl, rfl, trivial⟩ (fun _ hw => hw)
                ·
                  refine L.y rfl (Y.move rfl) ?_
                  refine L.pass rfl rfl (by nofun) ?_
                  refine L.pass rfl rfl (by nofun) ?_
                  refine L.y rfl (Y.pickF rfl rfl) ?_
                  refine L.nil ?_
                  exact E.joinJ ⟨false, rfl, rfl, h⟩ ⟨rfl, rfl, rfl, rfl, rfl, rfl, rfl, rfl, trivial⟩ (fun _ hw => hw)
              ·
                rintro _ _ ⟨gb16, rfl, rfl, h⟩
                rw [m73_quirref_PactErr_K15] at h
                rcases gb16 with _ | _
                ·
                  replace h := iteF h
                  refine L.cutJ 7 (fun gs D => ∃ (gb17 : Bool), gs = [(1, pt b1 0), (4, .int .i64 gx11), (5, .int .i64 gx12), (7, .int .i64 x17), (8, .int .i64 x18), (36, .int .i64 (a0.Parts.length : Int)), (37, .int .i64 gx13), (70, .bool false), (76, .bool gb17)] ∧ D = Cls w [] [.obj b1 [.int .i64 a0.Lead, u0_0, u0_1] 111] ∧ m73_quirref_PactErr_K16 x17 a0 gx11 x18 gx12 gx13 go2 gb17 = some r) ?_ ?_
                  ·
                    refine L.y rfl (Y.move rfl) ?_
                    refine L.take rfl ?_
                    refine L.y rfl (Y.move rfl) ?_
                    refine L.take rfl ?_
                    refine L.ite h rfl (Y.eql rfl rfl) (fun c25 h => ?_) (fun c25 h => ?_)
                    ·
                      refine L.take rfl ?_
                      refine L.y rfl (Y.move rfl) ?_
                      refine L.take rfl ?_
                      refine L.y rfl (Y.move rfl) ?_
                      refine L.take rfl ?_
                      refine L.ite h rfl (Y.eql rfl rfl) (fun c26 h => ?_) (fun c26 h => ?_)
                      ·
                        refine L.take rfl ?_
                        refine L.y rfl (Y.pickT rfl rfl) ?_
                        refine L.nil ?_
                        exact E.joinJ ⟨true, rfl, rfl, h⟩ ⟨rfl, rfl, rfl, rfl, rfl, rfl, rfl, rfl, rfl, trivial⟩ (fun _ hw => hw)
                      ·
                        refine L.take rfl ?_
                        refine L.y rfl (Y.pickT rfl rfl) ?_
                        refine L.nil ?_
                        exact E.joinJ ⟨false, rfl, rfl, h⟩ ⟨rfl, rfl, rfl, rfl, rfl, rfl, rfl, rfl, rfl, trivial⟩ (fun _ hw => hw)
                    ·
                      refine L.take rfl ?_
                      refine L.y rfl (Y.move rfl) ?_
                      refine L.pass rfl rfl (by nofun) ?_
                      refine L.pass rfl rfl (by nofun) ?_
                      refine L.take rfl ?_
                      refine L.y rfl (Y.pickF rfl rfl) ?_
                      refine L.nil ?_
                      exact E.joinJ ⟨false, rfl, rfl, h⟩ ⟨rfl, rfl, rfl, rfl, rfl, rfl, rfl, rfl, rfl, trivial⟩ (fun _ hw => hw)
                  ·
                    rintro _ _ ⟨gb17, rfl, rfl, h⟩
                    rw [m73_quirref_PactErr_K16] at h
                    rcases gb17 with _ | _
                    ·
                      replace h := iteF h
                      refine L.cutJ 9 (fun gs D => ∃ (gb18 : Bool), gs = [(1, pt b1 0), (4, .int .i64 gx11), (5, .int .i64 gx12), (7, .int .i64 x17), (8, .int .i64 x18), (36, .int .i64 (a0.Parts.length : Int)), (37, .int .i64 gx13), (78, .bool false), (85, .bool gb18)] ∧ D = Cls w [] [.obj b1 [.int .i64 a0.Lead, u0_0, u0_1] 111] ∧ m73_quirref_PactErr_K17 x17 gx11 x18 gx12 gx13 go2 gb18 = some r) ?_ ?_
                      ·
                        refine L.y rfl (Y.pickF rfl rfl) ?_
                        refine L.y rfl (Y.move rfl) ?_
                        refine L.take rfl ?_
                        refine L.y rfl (Y.move rfl) ?_
                        refine L.take rfl ?_
                        refine L.ite h rfl (Y.eql rfl rfl) (fun c23 h => ?_) (fun c23 h => ?_)
                        ·
                          refine L.take rfl ?_
                          refine L.y rfl (Y.move rfl) ?_
                          refine L.take rfl ?_
                          refine L.y rfl (Y.fieldP fd111_0 rfl) ?_
                          refine L.take rfl ?_
                          refine L.y rfl (Y.loadP (i := 0) ag3 rfl rfl rfl) ?_
                          refine L.take rfl ?_
                          refine L.ite h rfl (Y.neq rfl rfl) (fun c24 h => ?_) (fun c24 h => ?_)
                          ·
                            refine L.take rfl ?_
                            refine L.y rfl (Y.pickT rfl rfl) ?_
                            refine L.nil ?_
                            exact E.joinJ ⟨true, rfl, rfl, h⟩ ⟨rfl, rfl, rfl, rfl, rfl, rfl, rfl, rfl, rfl, trivial⟩ (fun _ hw => hw)
                          ·
                            refine L.take rfl ?_
                            refine L.y rfl (Y.pickT rfl rfl) ?_
                            refine L.nil ?_
                            exact E.joinJ ⟨false, rfl, rfl, h⟩ ⟨rfl, rfl, rfl, rfl, rfl, rfl, rfl, rfl, rfl, trivial⟩ (fun _ hw => hw)
                        ·
                          refine L.take rfl ?_
                          refine L.y rfl (Y.move rfl) ?_
                          refine L.pass rfl rfl (by nofun) ?_
                          refine L.pass rfl rfl (by nofun) ?_
                          refine L.pass rfl rfl (by nofun) ?_
                          refine L.take rfl ?_
                          refine L.y rfl (Y.pickF rfl rfl) ?_
                          refine L.nil ?_
                          exact E.joinJ ⟨false, rfl, rfl, h⟩ ⟨rfl, rfl, rfl, rfl, rfl, rfl, rfl, rfl, rfl, trivial⟩ (fun _ hw => hw)
                      ·
                        rintro _ _ ⟨gb18, rfl, rfl, h⟩
                        rw [m73_quirref_PactErr_K17] at h
                        rcases gb18 with _ | _
                        ·
                          replace h := iteF h
                          refine L.y rfl (Y.pickF rfl rfl) ?_
                          refine L.nil ?_
                          refine E.thenN ?_
                          refine W.condF rfl ?_
                          refine W.skip ?_
                          exact E.joinJ ⟨rfl, rfl, h⟩ ⟨rfl, rfl, rfl, rfl, rfl, rfl, rfl, trivial⟩ (fun _ hw => hw)
                        ·
                          replace h := iteT h
                          refine L.y rfl (Y.pickF rfl rfl) ?_
                          refine L.nil ?_
                          refine E.thenN ?_
                          refine W.condT rfl ?_
                          refine W.seq ?_
                          refine W.region ?_
                          refine L.y rfl (Y.assign rfl) ?_
                          refine L.nil ?_
                          refine E.thenN ?_
                          refine W.ret ?_
                          refine E.KSR ?_
                          refine E.blockR ?_
                          refine E.KSR ?_
                          refine E.KLR ?_
                          refine E.blockR ?_
                          refine E.KSR ?_
                          refine E.ret1 rfl rfl (fun w1 hw => ?_)
                          obtain rfl := Option.some.inj h
                          exact ⟨_, _, rfl, ⟨rfl, rfl⟩, hw.sel [] (by decide) rfl⟩
                    ·
                      replace h := iteT h
                      refine L.y rfl (Y.pickF rfl rfl) ?_
                      refine L.y rfl (Y.move rfl) ?_
                      refine L.pass rfl rfl (by nofun) ?_
                      refine L.pass rfl rfl (by nofun) ?_
                      refine L.pass rfl rfl (by nofun) ?_
                      refine L.pass rfl rfl (by nofun) ?_
                      refine L.pass rfl rfl (by nofun) ?_
                      refine L.pass rfl rfl (by nofun) ?_
                      refine L.pass rfl rfl (by nofun) ?_
                      refine L.y rfl (Y.pickT rfl rfl) ?_
                      refine L.nil ?_
                      refine E.thenN ?_
                      refine W.condT rfl ?_
                      refine W.seq ?_
                      refine W.region ?_
                      refine L.y rfl (Y.assign rfl) ?_
                      refine L.nil ?_
                      refine E.thenN ?_
                      refine W.ret ?_
                      refine E.KSR ?_
                      refine E.blockR ?_
                      refine E.KSR ?_
                      refine E.KLR ?_
                      refine E.blockR ?_
                      refine E.KSR ?_
                      refine E.ret1 rfl rfl (fun w1 hw => ?_)
                      obtain rfl := Option.some.inj h
                      exact ⟨_, _, rfl, ⟨rfl, rfl⟩, hw.sel [] (by decide) rfl⟩
                ·
                  replace h := iteT h
                  refine L.y rfl (Y.move rfl) ?_
                  refine L.pass rfl rfl (by nofun) ?_
                  refine L.pass rfl rfl (by nofun) ?_
                  refine L.pass rfl rfl (by nofun) ?_
                  refine L.pass rfl rfl (by nofun) ?_
                  refine L.pass rfl rfl (by nofun) ?_
                  refine L.pass rfl rfl (by nofun) ?_
                  refine L.y rfl (Y.pickT rfl rfl) ?_
                  refine L.y rfl (Y.move rfl) ?_
                  refine L.pass rfl rfl (by nofun) ?_
                  refine L.pass rfl rfl (by nofun) ?_
                  refine L.pass rfl rfl (by nofun) ?_
                  refine L.pass rfl rfl (by nofun) ?_
                  refine L.pass rfl rfl (by nofun) ?_
                  refine L.pass rfl rfl (by nofun) ?_
                  refine L.pass rfl rfl (by nofun) ?_
                  refine L.y rfl (Y.pickT rfl rfl) ?_
                  refine L.nil ?_
                  refine E.thenN ?_
                  refine W.condT rfl ?_
                  refine W.seq ?_
                  refine W.region ?_
                  refine L.y rfl (Y.assign rfl) ?_
                  refine L.nil ?_
                  refine E.thenN ?_
                  refine W.ret ?_
                  refine E.KSR ?_
                  refine E.blockR ?_
                  refine E.KSR ?_
                  refine E.KLR ?_
                  refine E.blockR ?_
                  refine E.KSR ?_
                  refine E.ret1 rfl rfl (fun w1 hw => ?_)
                  obtain rfl := Option.some.inj h
                  exact ⟨_, _, rfl, ⟨rfl, rfl⟩, hw.sel [] (by decide) rfl⟩
            ·
              rintro _ _ ⟨rfl, rfl, h⟩
              rw [m73_quirref_PactErr_K14] at h
              refine W.seq ?_
              refine W.region ?_
              refine L.y rfl (Y.move rfl) ?_
              refine L.ite h rfl (Y.eql rfl rfl) (fun c19 h => ?_) (fun c19 h => ?_)
              ·
                refine L.nil ?_
                refine E.thenN ?_
                refine W.condT rfl ?_
                refine W.seq ?_
                refine W.region ?_
                refine L.y rfl (Y.move rfl) ?_
                refine L.m (V := fun x20 => .int .i64 x20) h rfl (Y.addM rfl rfl) (fun x20 ex20 h => ?_)
                refine L.y rfl (Y.assign rfl) ?_
                refine L.nil ?_
                refine E.thenN ?_
                refine W.seq ?_
                refine W.region ?_
                refine L.y rfl (Y.move rfl) ?_
                refine L.ite h rfl (Y.neq rfl rfl) (fun c21 h => ?_) (fun c21 h => ?_)
                ·
                  refine L.nil ?_
                  refine E.thenN ?_
                  refine W.condT rfl ?_
                  refine W.region ?_
                  refine L.y rfl (Y.move rfl) ?_
                  refine L.m (V := fun x22 => .int .i64 x22) h rfl (Y.addM rfl rfl) (fun x22 ex22 h => ?_)
                  refine L.y rfl (Y.assign rfl) ?_
                  refine L.nil ?_
                  refine E.blockN ?_
                  exact E.joinJ ⟨x20, x22, rfl, rfl, h⟩ ⟨rfl, rfl, rfl, rfl, rfl, trivial⟩ (fun _ hw => hw)
                ·
                  refine L.nil ?_
                  refine E.thenN ?_
                  refine W.condF rfl ?_
                  refine W.skip ?_
                  refine E.blockN ?_
                  exact E.joinJ ⟨x20, gx12, rfl, rfl, h⟩ ⟨rfl, rfl, rfl, rfl, rfl, trivial⟩ (fun _ hw => hw)
              ·
                refine L.nil ?_
                refine E.thenN ?_
                refine W.condF rfl ?_
                refine W.skip ?_
                refine E.blockN ?_
                exact E.joinJ ⟨gx11, gx12, rfl, rfl, h⟩ ⟨rfl, rfl, rfl, rfl, rfl, trivial⟩ (fun _ hw => hw)
        ·
          rintro _ _ ⟨gx14, gx15, rfl, rfl, h⟩
          rw [m73_quirref_PactErr_K12] at h
          refine W.region ?_
          refine L.m (V := fun x16 => .int .i64 x16) h rfl (Y.addM rfl rfl) (fun x16 ex16 h => ?_)
          refine L.y rfl (Y.move rfl) ?_
          refine L.nil ?_
          exact E.againJ ⟨gx14, gx15, x16, rfl, rfl, by rw [hg2]; exact h⟩ (Nat.lt_succ_self _) ⟨rfl, rfl, rfl, rfl, rfl, trivial⟩ (fun _ hw => hw)
      ·
        refine L.nil ?_
        refine E.thenN ?_
        refine W.seq ?_
        refine W.condF rfl ?_
        refine W.exit ?_
        refine E.thenX ?_
        refine E.KLX ?_
        refine E.blockX ?_
        exact E.joinJ ⟨gx11, gx12, rfl, rfl, h⟩ ⟨rfl, rfl, rfl, trivial⟩ (fun _ hw => hw)
    ·
      rintro _ _ ⟨gx1, gx2, rfl, rfl, h⟩
      rw [m73_quirref_PactErr_K2] at h
      refine W.seqJ (fun gs D => ∃ (gb3 : Bool), gs = [(1, pt b1 0), (4, .int .i64 gx1), (5, .int .i64 gx2), (9, .bool gb3)] ∧ D = Cls w [] [.obj b1 [.int .i64 a0.Lead, u0_0, u0_1] 111] ∧ m73_quirref_PactErr_K3 a0 gx1 gx2 gb3 = some r) ?_ ?_
      ·
        refine W.region ?_
        refine L.y rfl (Y.fieldP fd111_1 rfl) ?_
        refine L.y rfl (Y.loadP (i := 0) ag24 rfl rfl rfl) ?_
        refine L.callJ (fun v D => ∃ (gb8 : Bool), v = .bool gb8 ∧ D = Cls w [] [.obj b1 [.int .i64 a0.Lead, u0_0, u0_1] 111] ∧ m73_quirref_PactErr_K8 a0 gx1 gx2 gb8 = some r) rfl en78 rfl Try.func78 rfl rfl rfl ?_ ?_
        ·
          refine W.seq ?_
          refine W.region ?_
          refine L.y rfl (Y.assign rfl) ?_
          refine L.nil ?_
          refine E.thenN ?_
          refine W.seq ?_
          refine W.region ?_
          refine L.y rfl (Y.move rfl) ?_
          refine L.y rfl (Y.move rfl) ?_
          refine L.callJ (fun v D => ∃ (gx9 : Int), v = .int .i64 gx9 ∧ D = Cls w [] [.obj b1 [.int .i64 a0.Lead, u0_0, u0_1] 111] ∧ m73_quirref_PactErr_K9 a0 gx1 gx2 gx9 = some r) rfl en133 rfl Try.func133 rfl rfl rfl ?_ ?_
          ·
            refine W.seq ?_
            refine W.region ?_
            refine L.y rfl (Y.assign rfl) ?_
            refine L.nil ?_
            refine E.thenN ?_
            refine W.seqJ (fun gs D => gs = [] ∧ D = Cls w [] [.obj b1 [.int .i64 a0.Lead, u0_0, u0_1] 111] ∧ m73_quirref_PactErr_K10 a0 gx1 gx2 = some r) ?_ ?_
            ·
              refine W.seq ?_
              refine W.region ?_
              refine L.y rfl (Y.move rfl) ?_
              refine L.y rfl (Y.lenM (g := I) (l := a0.Votes) Try.underlying24 rfl (fun w' hw => hA0_0.cls0 hw)) ?_
              refine L.y rfl (Y.move rfl) ?_
              refine L.nil ?_
              refine E.thenN ?_
              refine W.block ?_
              refine W.loopJ (fun m gs D => ∃ (gx10 : Int), gs = [(0, u0_0), (1, .func (.func 128) #[] #[]), (7, .int .i64 (a0.Votes.length : Int)), (8, .int .i64 gx10)] ∧ D = Cls w [] [.obj b1 [.int .i64 a0.Lead, u0_0, u0_1] 111] ∧ m73_quirref_PactErr_L1 a0 gx1 gx2 m gx10 = some r) ⟨0, rfl, rfl, h⟩ ⟨rfl, rfl, rfl, rfl, trivial⟩ (fun _ hw => hw) ?_
              rintro m _ _ ⟨gx10, rfl, rfl, h⟩
              rcases m with _ | m
              · rw [m73_quirref_PactErr_L1] at h; cases h
              rw [m73_quirref_PactErr_L1] at h
              generalize hg1 : m73_quirref_PactErr_L1 a0 gx1 gx2 m = go1 at h
              rw [m73_quirref_PactErr_L1B] at h
              refine W.seq ?_
              refine W.region ?_
              refine L.ite h rfl (Y.lss rfl rfl) (fun c12 h => ?_) (fun c12 h => ?_)
              ·
                refine L.nil ?_
                refine E.thenN ?_
                refine W.seq ?_
                refine W.condT rfl ?_
                refine W.skip ?_
                refine E.thenN ?_
                refine W.seq ?_
                refine W.block ?_
                refine W.seq ?_
                refine W.region ?_
                refine L.y rfl (Y.move rfl) ?_
                refine L.y rfl (Y.assign rfl) ?_
                refine L.nil ?_
                refine E.thenN ?_
                refine W.seq ?_
                refine W.region ?_
                refine L.y rfl (Y.move rfl) ?_
                refine L.y rfl (Y.move rfl) ?_
                refine L.y rfl (Y.move rfl) ?_
                refine L.m (V := fun _ => el u0_0 (gx10.toNat * 1)) h rfl (Y.indexM (g := I) (l := a0.Votes) Try.underlying24 sz3 rfl rfl (fun w' hw => hA0_0.cls0 hw)) (fun x13 ex13 h => ?_)
                refine L.y rfl (Y.loadE1 (u := .int .i64 x13) ag3 rfl (fun w' hw => hA0_0.cls0 hw) (idx_map ex13)) ?_
                refine L.callVJ (fun v D => v = .bool (decide (x13 ≠ 1)) ∧ D = Cls w [] [.obj b1 [.int .i64 a0.Lead, u0_0, u0_1] 111] ∧ m73_quirref_PactErr_K11 x13 a0 gx1 gx2 gx10 go1 = some r) rfl en128 rfl rfl Try.func128 rfl rfl rfl ?_ ?_
                ·
                  refine W.seq ?_
                  refine W.region ?_
                  refine L.y rfl (Y.assign rfl) ?_
                  refine L.nil ?_
                  refine E.thenN ?_
                  refine W.seq ?_
                  refine W.region ?_
                  refine L.y rfl (Y.move rfl) ?_
                  refine L.y rfl (Y.neq rfl rfl) ?_
                  refine L.y rfl (Y.assign rfl) ?_
                  refine L.nil ?_
                  refine E.thenN ?_
                  refine W.ret ?_
                  refine E.ret1 rfl rfl (fun w1 hw => ?_)
                  exact ⟨_, _, rfl, ⟨rfl, rfl, h⟩, (fun _ hw => hw) _ hw⟩
                ·
                  rintro _ _ ⟨rfl, rfl, h⟩
                  rw [m73_quirref_PactErr_K11] at h
                  refine L.nil ?_
                  refine E.thenN ?_
                  refine W.caseB (q := 16) h rfl (fun h => ?_) (fun h => ?_)
                  ·
                    refine W.condT rfl ?_
                    refine W.seq ?_
                    refine W.region ?_
                    refine L.y rfl (Y.move rfl) ?_
                    refine L.y rfl (Y.assign rfl) ?_
                    refine L.nil ?_
                    refine E.thenN ?_
                    refine W.ret ?_
                    refine E.blockR ?_
                    refine E.thenR ?_
                    refine E.KLR ?_
                    refine E.blockR ?_
                    refine E.KSR ?_
                    refine E.ret1 rfl rfl (fun w1 hw => ?_)
                    exact ⟨_, _, rfl, ⟨gx10, rfl, rfl, h⟩, (fun _ hw => hw) _ hw⟩
                  ·
                    refine W.condF rfl ?_
                    refine W.skip ?_
                    refine E.blockN ?_
                    refine E.thenN ?_
                    refine W.region ?_
                    refine L.m (V := fun x14 => .int .i64 x14) h rfl (Y.addM rfl rfl) (fun x14 ex14 h => ?_)
                    refine L.y rfl (Y.move rfl) ?_
                    refine L.nil ?_
                    exact E.againJ ⟨x14, rfl, rfl, by rw [hg1]; exact h⟩ (Nat.lt_succ_self _) ⟨rfl, rfl, rfl, rfl, trivial⟩ (fun _ hw => hw)
              ·
                refine L.nil ?_
                refine E.thenN ?_
                refine W.seq ?_
                refine W.condF rfl ?_
                refine W.exit ?_
                refine E.thenX ?_
                refine E.KLX ?_
                refine E.blockX ?_
                exact E.joinJ ⟨rfl, rfl, h⟩ trivial (fun _ hw => hw)
            ·
              rintro _ _ ⟨rfl, rfl, h⟩
              rw [m73_quirref_PactErr_K10] at h
              refine W.seq ?_
              refine W.region ?_
              refine L.y rfl (Y.assign rfl) ?_
              refine L.nil ?_
              refine E.thenN ?_
              refine W.ret ?_
              refine E.ret1 rfl rfl (fun w1 hw => ?_)
              exact ⟨_, _, rfl, ⟨(-1), rfl, rfl, h⟩, (fun _ hw => hw) _ hw⟩
          ·
            rintro _ _ ⟨gx9, rfl, rfl, h⟩
            rw [m73_quirref_PactErr_K9] at h
            refine L.y rfl (Y.geq rfl rfl) ?_
            refine L.y rfl (Y.assign rfl) ?_
            refine L.nil ?_
            refine E.thenN ?_
            refine W.ret ?_
            refine E.ret1 rfl rfl (fun w1 hw => ?_)
            exact ⟨_, _, rfl, ⟨decide (0 ≤ gx9), rfl, rfl, h⟩, (fun _ hw => hw) _ hw⟩
        ·
          rintro _ _ ⟨gb8, rfl, rfl, h⟩
          rw [m73_quirref_PactErr_K8] at h
          rcases gb8 with _ | _
          ·
            replace h := iteF h
            refine L.y rfl (Y.not rfl) ?_
            refine L.y rfl (Y.assign rfl) ?_
            refine L.nil ?_
            exact E.joinJ ⟨true, rfl, rfl, h⟩ ⟨rfl, rfl, rfl, rfl, trivial⟩ (fun _ hw => hw)
          ·
            replace h := iteT h
            refine L.y rfl (Y.not rfl) ?_
            refine L.y rfl (Y.assign rfl) ?_
            refine L.nil ?_
            exact E.joinJ ⟨false, rfl, rfl, h⟩ ⟨rfl, rfl, rfl, rfl, trivial⟩ (fun _ hw => hw)
      ·
        rintro _ _ ⟨gb3, rfl, rfl, h⟩
        rw [m73_quirref_PactErr_K3] at h
        rcases gb3 with _ | _
        ·
          replace h := iteF h
          refine W.seq ?_
          refine W.seq ?_
          refine W.region ?_
          refine L.cutJ 11 (fun gs D => ∃ (gb4 : Bool), gs = [(1, pt b1 0), (4, .int .i64 gx1), (5, .int .i64 gx2), (110, .bool gb4)] ∧ D = Cls w [] [.obj b1 [.int .i64 a0.Lead, u0_0, u0_1] 111] ∧ m73_quirref_PactErr_K4 a0 gx1 gx2 gb4 = some r) ?_ ?_
          ·
            refine L.y rfl (Y.fieldP fd111_0 rfl) ?_
            refine L.y rfl (Y.loadP (i := 0) ag3 rfl rfl rfl) ?_
            refine L.ite h rfl (Y.eql rfl rfl) (fun c5 h => ?_) (fun c5 h => ?_)
            ·
              refine L.y rfl (Y.move rfl) ?_
              refine L.take rfl ?_
              refine L.y rfl (Y.move rfl) ?_
              refine L.take rfl ?_
              refine L.ite h rfl (Y.gtr rfl rfl) (fun c6 h => ?_) (fun c6 h => ?_)
              ·
                refine L.take rfl ?_
                refine L.y rfl (Y.move rfl) ?_
                refine L.pass rfl rfl (by nofun) ?_
                refine L.pass rfl rfl (by nofun) ?_
                refine L.take rfl ?_
                refine L.y rfl (Y.pickT rfl rfl) ?_
                refine L.y rfl (Y.pickT rfl rfl) ?_
                refine L.nil ?_
                exact E.joinJ ⟨true, rfl, rfl, h⟩ ⟨rfl, rfl, rfl, rfl, trivial⟩ (fun _ hw => hw)
              ·
                refine L.take rfl ?_
                refine L.y rfl (Y.move rfl) ?_
                refine L.take rfl ?_
                refine L.y rfl (Y.move rfl) ?_
                refine L.take rfl ?_
                refine L.y rfl (Y.not rfl) ?_
                refine L.take rfl ?_
                refine L.y rfl (Y.pickF rfl rfl) ?_
                refine L.y rfl (Y.pickT rfl rfl) ?_
                refine L.nil ?_
                exact E.joinJ ⟨true, rfl, rfl, h⟩ ⟨rfl, rfl, rfl, rfl, trivial⟩ (fun _ hw => hw)
            ·
              refine L.y rfl (Y.move rfl) ?_
              refine L.pass rfl rfl (by nofun) ?_
              refine L.pass rfl rfl (by nofun) ?_
              refine L.pass rfl rfl (by nofun) ?_
              refine L.pass rfl rfl (by nofun) ?_
              refine L.pass rfl rfl (by nofun) ?_
              refine L.pass rfl rfl (by nofun) ?_
              refine L.y rfl (Y.pickF rfl rfl) ?_
              refine L.nil ?_
              exact E.joinJ ⟨false, rfl, rfl, h⟩ ⟨rfl, rfl, rfl, rfl, trivial⟩ (fun _ hw => hw)
          ·
            rintro _ _ ⟨gb4, rfl, rfl, h⟩
            rw [m73_quirref_PactErr_K4] at h
            rcases gb4 with _ | _
            ·
              replace h := iteF h
              refine L.cutJ 8 (fun gs D => ∃ (gb5 : Bool), gs = [(5, .int .i64 gx2), (111, .bool false), (118, .bool gb5)] ∧ D = Cls w [] [] ∧ m73_quirref_PactErr_K5 gx2 gb5 = some r) ?_ ?_
              ·
                refine L.y rfl (Y.move rfl) ?_
                refine L.take rfl ?_
                refine L.y rfl (Y.fieldP fd111_0 rfl) ?_
                refine L.take rfl ?_
                refine L.y rfl (Y.loadP (i := 0) ag3 rfl rfl rfl) ?_
                refine L.take rfl ?_
                refine L.ite h rfl (Y.eql rfl rfl) (fun c3 h => ?_) (fun c3 h => ?_)
                ·
                  refine L.take rfl ?_
                  refine L.y rfl (Y.move rfl) ?_
                  refine L.take rfl ?_
                  refine L.y rfl (Y.move rfl) ?_
                  refine L.take rfl ?_
                  refine L.ite h rfl (Y.gtr rfl rfl) (fun c4 h => ?_) (fun c4 h => ?_)
                  ·
                    refine L.take rfl ?_
                    refine L.y rfl (Y.pickT rfl rfl) ?_
                    refine L.nil ?_
                    exact E.joinJ ⟨true, rfl, rfl, h⟩ ⟨rfl, rfl, rfl, trivial⟩ (fun _ hw => hw.sel [] (by decide) rfl)
                  ·
                    refine L.take rfl ?_
                    refine L.y rfl (Y.pickT rfl rfl) ?_
                    refine L.nil ?_
                    exact E.joinJ ⟨false, rfl, rfl, h⟩ ⟨rfl, rfl, rfl, trivial⟩ (fun _ hw => hw.sel [] (by decide) rfl)
                ·
                  refine L.take rfl ?_
                  refine L.y rfl (Y.move rfl) ?_
                  refine L.pass rfl rfl (by nofun) ?_
                  refine L.pass rfl rfl (by nofun) ?_
                  refine L.take rfl ?_
                  refine L.y rfl (Y.pickF rfl rfl) ?_
                  refine L.nil ?_
                  exact E.joinJ ⟨false, rfl, rfl, h⟩ ⟨rfl, rfl, rfl, trivial⟩ (fun _ hw => hw.sel [] (by decide) rfl)
              ·
                rintro _ _ ⟨gb5, rfl, rfl, h⟩
                rw [m73_quirref_PactErr_K5] at h
                rcases gb5 with _ | _
                ·
                  replace h := iteF h
                  refine L.take rfl ?_
                  refine L.y rfl (Y.move rfl) ?_
                  refine L.pass rfl rfl (by nofun) ?_
                  refine L.pass rfl rfl (by nofun) ?_
                  refine L.take rfl ?_
                  refine L.y rfl (Y.pickF rfl rfl) ?_
                  refine L.y rfl (Y.pickF rfl rfl) ?_
                  refine L.nil ?_
                  refine E.thenN ?_
                  refine W.condF rfl ?_
                  refine W.skip ?_
                  refine E.thenN ?_
                  refine W.seq ?_
                  refine W.region ?_
                  refine L.y rfl (Y.assign rfl) ?_
                  refine L.nil ?_
                  refine E.thenN ?_
                  refine W.ret ?_
                  refine E.ret1 rfl rfl (fun w1 hw => ?_)
                  obtain rfl := Option.some.inj h
                  exact ⟨_, _, rfl, ⟨rfl, rfl⟩, hw⟩
                ·
                  replace h := iteT h
                  refine L.take rfl ?_
                  refine L.y rfl (Y.move rfl) ?_
                  refine L.take rfl ?_
                  refine L.y rfl (Y.move rfl) ?_
                  refine L.take rfl ?_
                  refine L.ite h rfl (Y.eql rfl rfl) (fun c2 h => ?_) (fun c2 h => ?_)
                  ·
                    refine L.take rfl ?_
                    refine L.y rfl (Y.pickT rfl rfl) ?_
                    refine L.y rfl (Y.pickF rfl rfl) ?_
                    refine L.nil ?_
                    refine E.thenN ?_
                    refine W.condT rfl ?_
                    refine W.seq ?_
                    refine W.region ?_
                    refine L.y rfl (Y.assign rfl) ?_
                    refine L.nil ?_
                    refine E.thenN ?_
                    refine W.ret ?_
                    refine E.thenR ?_
                    refine E.ret1 rfl rfl (fun w1 hw => ?_)
                    obtain rfl := Option.some.inj h
                    exact ⟨_, _, rfl, ⟨rfl, rfl⟩, hw⟩
                  ·
                    refine L.take rfl ?_
                    refine L.y rfl (Y.pickT rfl rfl) ?_
                    refine L.y rfl (Y.pickF rfl rfl) ?_
                    refine L.nil ?_
                    refine E.thenN ?_
                    refine W.condF rfl ?_
                    refine W.skip ?_
                    refine E.thenN ?_
                    refine W.seq ?_
                    refine W.region ?_
                    refine L.y rfl (Y.assign rfl) ?_
                    refine L.nil ?_
                    refine E.thenN ?_
                    refine W.ret ?_
                    refine E.ret1 rfl rfl (fun w1 hw => ?_)
                    obtain rfl := Option.some.inj h
                    exact ⟨_, _, rfl, ⟨rfl, rfl⟩, hw⟩
            ·
              replace h := iteT h
              refine L.y rfl (Y.move rfl) ?_
              refine L.pass rfl rfl (by nofun) ?_
              refine L.pass rfl rfl (by nofun) ?_
              refine L.pass rfl rfl (by nofun) ?_
              refine L.pass rfl rfl (by nofun) ?_
              refine L.pass rfl rfl (by nofun) ?_
              refine L.pass rfl rfl (by nofun) ?_
              refine L.pass rfl rfl (by nofun) ?_
              refine L.pass rfl rfl (by nofun) ?_
              refine L.pass rfl rfl (by nofun) ?_
              refine L.pass rfl rfl (by nofun) ?_
              refine L.pass rfl rfl (by nofun) ?_
              refine L.y rfl (Y.pickT rfl rfl) ?_
              refine L.nil ?_
              refine E.thenN ?_
              refine W.condT rfl ?_
              refine W.seq ?_
              refine W.region ?_
              refine L.y rfl (Y.assign rfl) ?_
              refine L.nil ?_
              refine E.thenN ?_
              refine W.ret ?_
              refine E.thenR ?_
              refine E.ret1 rfl rfl (fun w1 hw => ?_)
              obtain rfl := Option.some.inj h
              exact ⟨_, _, rfl, ⟨rfl, rfl⟩, hw.sel [] (by decide) rfl⟩
        ·
          replace h := iteT h
          refine W.seq ?_
          refine W.seq ?_
          refine W.region ?_
          refine L.cutJ 11 (fun gs D => ∃ (gb6 : Bool), gs = [(1, pt b1 0), (4, .int .i64 gx1), (5, .int .i64 gx2), (110, .bool gb6)] ∧ D = Cls w [] [.obj b1 [.int .i64 a0.Lead, u0_0, u0_1] 111] ∧ m73_quirref_PactErr_K6 a0 gx1 gx2 gb6 = some r) ?_ ?_
          ·
            refine L.y rfl (Y.fieldP fd111_0 rfl) ?_
            refine L.y rfl (Y.loadP (i := 0) ag3 rfl rfl rfl) ?_
            refine L.ite h rfl (Y.eql rfl rfl) (fun c10 h => ?_) (fun c10 h => ?_)
            ·
              refine L.y rfl (Y.move rfl) ?_
              refine L.take rfl ?_
              refine L.y rfl (Y.move rfl) ?_
              refine L.take rfl ?_
              refine L.ite h rfl (Y.gtr rfl rfl) (fun c11 h => ?_) (fun c11 h => ?_)
              ·
                refine L.take rfl ?_
                refine L.y rfl (Y.move rfl) ?_
                refine L.pass rfl rfl (by nofun) ?_
                refine L.pass rfl rfl (by nofun) ?_
                refine L.take rfl ?_
                refine L.y rfl (Y.pickT rfl rfl) ?_
                refine L.y rfl (Y.pickT rfl rfl) ?_
                refine L.nil ?_
                exact E.joinJ ⟨true, rfl, rfl, h⟩ ⟨rfl, rfl, rfl, rfl, trivial⟩ (fun _ hw => hw)
              ·
                refine L.take rfl ?_
                refine L.y rfl (Y.move rfl) ?_
                refine L.take rfl ?_
                refine L.y rfl (Y.move rfl) ?_
                refine L.take rfl ?_
                refine L.y rfl (Y.not rfl) ?_
                refine L.take rfl ?_
                refine L.y rfl (Y.pickF rfl rfl) ?_
                refine L.y rfl (Y.pickT rfl rfl) ?_
                refine L.nil ?_
                exact E.joinJ ⟨false, rfl, rfl, h⟩ ⟨rfl, rfl, rfl, rfl, trivial⟩ (fun _ hw => hw)
            ·
              refine L.y rfl (Y.move rfl) ?_
              refine L.pass rfl rfl (by nofun) ?_
              refine L.pass rfl rfl (by nofun) ?_
              refine L.pass rfl rfl (by nofun) ?_
              refine L.pass rfl rfl (by nofun) ?_
              refine L.pass rfl rfl (by nofun) ?_
              refine L.pass rfl rfl (by nofun) ?_
              refine L.y rfl (Y.pickF rfl rfl) ?_
              refine L.nil ?_
              exact E.joinJ ⟨false, rfl, rfl, h⟩ ⟨rfl, rfl, rfl, rfl, trivial⟩ (fun _ hw => hw)
          ·
            rintro _ _ ⟨gb6, rfl, rfl, h⟩
            rw [m73_quirref_PactErr_K6] at h
            rcases gb6 with _ | _
            ·
              replace h := iteF h
              refine L.cutJ 8 (fun gs D => ∃ (gb7 : Bool), gs = [(5, .int .i64 gx2), (111, .bool false), (118, .bool gb7)] ∧ D = Cls w [] [] ∧ m73_quirref_PactErr_K7 gx2 gb7 = some r) ?_ ?_
              ·
                refine L.y rfl (Y.move rfl) ?_
                refine L.take rfl ?_
                refine L.y rfl (Y.fieldP fd111_0 rfl) ?_
                refine L.take rfl ?_
                refine L.y rfl (Y.loadP (i := 0) ag3 rfl rfl rfl) ?_
                refine L.take rfl ?_
                refine L.ite h rfl (Y.eql rfl rfl) (fun c8 h => ?_) (fun c8 h => ?_)
                ·
                  refine L.take rfl ?_
                  refine L.y rfl (Y.move rfl) ?_
                  refine L.take rfl ?_
                  refine L.y rfl (Y.move rfl) ?_
                  refine L.take rfl ?_
                  refine L.ite h rfl (Y.gtr rfl rfl) (fun c9 h => ?_) (fun c9 h => ?_)
                  ·
                    refine L.take rfl ?_
                    refine L.y rfl (Y.pickT rfl rfl) ?_
                    refine L.nil ?_
                    exact E.joinJ ⟨true, rfl, rfl, h⟩ ⟨rfl, rfl, rfl, trivial⟩ (fun _ hw => hw.sel [] (by decide) rfl)
                  ·
                    refine L.take rfl ?_
                    refine L.y rfl (Y.pickT rfl rfl) ?_
                    refine L.nil ?_
                    exact E.joinJ ⟨false, rfl, rfl, h⟩ ⟨rfl, rfl, rfl, trivial⟩ (fun _ hw => hw.sel [] (by decide) rfl)
                ·
                  refine L.take rfl ?_
                  refine L.y rfl (Y.move rfl) ?_
                  refine L.pass rfl rfl (by nofun) ?_
                  refine L.pass rfl rfl (by nofun) ?_
                  refine L.take rfl ?_
                  refine L.y rfl (Y.pickF rfl rfl) ?_
                  refine L.nil ?_
                  exact E.joinJ ⟨false, rfl, rfl, h⟩ ⟨rfl, rfl, rfl, trivial⟩ (fun _ hw => hw.sel [] (by decide) rfl)
              ·
                rintro _ _ ⟨gb7, rfl, rfl, h⟩
                rw [m73_quirref_PactErr_K7] at h
                rcases gb7 with _ | _
                ·
                  replace h := iteF h
                  refine L.take rfl ?_
                  refine L.y rfl (Y.move rfl) ?_
                  refine L.pass rfl rfl (by nofun) ?_
                  refine L.pass rfl rfl (by nofun) ?_
                  refine L.take rfl ?_
                  refine L.y rfl (Y.pickF rfl rfl) ?_
                  refine L.y rfl (Y.pickF rfl rfl) ?_
                  refine L.nil ?_
                  refine E.thenN ?_
                  refine W.condF rfl ?_
                  refine W.skip ?_
                  refine E.thenN ?_
                  refine W.seq ?_
                  refine W.region ?_
                  refine L.y rfl (Y.assign rfl) ?_
                  refine L.nil ?_
                  refine E.thenN ?_
                  refine W.ret ?_
                  refine E.ret1 rfl rfl (fun w1 hw => ?_)
                  obtain rfl := Option.some.inj h
                  exact ⟨_, _, rfl, ⟨rfl, rfl⟩, hw⟩
                ·
                  replace h := iteT h
                  refine L.take rfl ?_
                  refine L.y rfl (Y.move rfl) ?_
                  refine L.take rfl ?_
                  refine L.y rfl (Y.move rfl) ?_
                  refine L.take rfl ?_
                  refine L.ite h rfl (Y.eql rfl rfl) (fun c7 h => ?_) (fun c7 h => ?_)
                  ·
                    refine L.take rfl ?_
                    refine L.y rfl (Y.pickT rfl rfl) ?_
                    refine L.y rfl (Y.pickF rfl rfl) ?_
                    refine L.nil ?_
                    refine E.thenN ?_
                    refine W.condT rfl ?_
                    refine W.seq ?_
                    refine W.region ?_
                    refine L.y rfl (Y.assign rfl) ?_
                    refine L.nil ?_
                    refine E.thenN ?_
                    refine W.ret ?_
                    refine E.thenR ?_
                    refine E.ret1 rfl rfl (fun w1 hw => ?_)
                    obtain rfl := Option.some.inj h
                    exact ⟨_, _, rfl, ⟨rfl, rfl⟩, hw⟩
                  ·
                    refine L.take rfl ?_
                    refine L.y rfl (Y.pickT rfl rfl) ?_
                    refine L.y rfl (Y.pickF rfl rfl) ?_
                    refine L.nil ?_
                    refine E.thenN ?_
                    refine W.condF rfl ?_
                    refine W.skip ?_
                    refine E.thenN ?_
                    refine W.seq ?_
                    refine W.region ?_
                    refine L.y rfl (Y.assign rfl) ?_
                    refine L.nil ?_
                    refine E.thenN ?_
                    refine W.ret ?_
                    refine E.ret1 rfl rfl (fun w1 hw => ?_)
                    obtain rfl := Option.some.inj h
                    exact ⟨_, _, rfl, ⟨rfl, rfl⟩, hw⟩
            ·
              replace h := iteT h
              refine L.y rfl (Y.move rfl) ?_
              refine L.pass rfl rfl (by nofun) ?_
              refine L.pass rfl rfl (by nofun) ?_
              refine L.pass rfl rfl (by nofun) ?_
              refine L.pass rfl rfl (by nofun) ?_
              refine L.pass rfl rfl (by nofun) ?_
              refine L.pass rfl rfl (by nofun) ?_
              refine L.pass rfl rfl (by nofun) ?_
              refine L.pass rfl rfl (by nofun) ?_
              refine L.pass rfl rfl (by nofun) ?_
              refine L.pass rfl rfl (by nofun) ?_
              refine L.pass rfl rfl (by nofun) ?_
              refine L.y rfl (Y.pickT rfl rfl) ?_
              refine L.nil ?_
              refine E.thenN ?_
              refine W.condT rfl ?_
              refine W.seq ?_
              refine W.region ?_
              refine L.y rfl (Y.assign rfl) ?_
              refine L.nil ?_
              refine E.thenN ?_
              refine W.ret ?_
              refine E.thenR ?_
              refine E.ret1 rfl rfl (fun w1 hw => ?_)
              obtain rfl := Option.some.inj h
              exact ⟨_, _, rfl, ⟨rfl, rfl⟩, hw.sel [] (by decide) rfl⟩
set_option maxRecDepth 100000 in
set_option maxHeartbeats 8000000 in
theorem w77_pact_Check (a0 : TPact) (u0_0 : Value) (u0_1 : Value) (w : World) (r : Int) (h : m77_pact_Check a0 = some r) (hA0_0 : At w u0_0 1 (a0.Votes.map I)) (hA0_1 : At w u0_1 1 (a0.Parts.map I)) : Does Try.prog 77 [.agg #[.int .i64 a0.Lead, u0_0, u0_1]] w fun u m => u = .int .i64 r ∧ m = [] := by
  rw [m77_pact_Check] at h
  refine body (n := 128) Try.func77 rfl rfl rfl (Cls.refl w) ?_
  refine W.seq ?_
  refine W.region ?_
  refine L.box rfl rfl ?_
  intro b1
  refine L.y rfl (Y.assign rfl) ?_
  refine L.nil ?_
  refine E.thenN ?_
  refine W.seq ?_
  refine W.region ?_
  refine L.y rfl (Y.fieldP fd111_2 rfl) ?_
  refine L.y rfl (Y.loadP (i := 0) ag24 rfl rfl rfl) ?_
  refine L.y rfl (Y.lenM (g := I) (l := a0.Parts) Try.underlying24 rfl (fun w' hw => hA0_1.cls0 hw)) ?_
  refine L.y rfl (Y.assign rfl) ?_
  refine L.nil ?_
  refine E.thenN ?_
  refine W.seqJ (fun gs D => gs = [(1, pt b1 0)] ∧ D = Cls w [] [.obj b1 [.int .i64 a0.Lead, u0_0, u0_1] 111] ∧ m77_pact_Check_K1 a0 = some r) ?_ ?_
  ·
    refine W.seq ?_
    refine W.region ?_
    refine L.cutJ 6 (fun gs D => ∃ (gb24 : Bool), gs = [(1, pt b1 0), (3, .int .i64 (a0.Parts.length : Int)), (18, .bool gb24)] ∧ D = Cls w [] [.obj b1 [.int .i64 a0.Lead, u0_0, u0_1] 111] ∧ m77_pact_Check_K21 a0 gb24 = some r) ?_ ?_
    ·
      refine L.y rfl (Y.move rfl) ?_
      refine L.ite h rfl (Y.lss rfl rfl) (fun c50 h => ?_) (fun c50 h => ?_)
      ·
        refine L.y rfl (Y.move rfl) ?_
        refine L.pass rfl rfl (by nofun) ?_
        refine L.pass rfl rfl (by nofun) ?_
        refine L.y rfl (Y.pickT rfl rfl) ?_
        refine L.nil ?_
        exact E.joinJ ⟨true, rfl, rfl, h⟩ ⟨rfl, rfl, rfl, trivial⟩ (fun _ hw => hw)
      ·
        refine L.y rfl (Y.move rfl) ?_
        refine L.take rfl ?_
        refine L.y rfl (Y.move rfl) ?_
        refine L.take rfl ?_
        refine L.ite h rfl (Y.gtr rfl rfl) (fun c51 h => ?_) (fun c51 h => ?_)
        ·
          refine L.y rfl (Y.pickF rfl rfl) ?_
          refine L.nil ?_
          exact E.joinJ ⟨true, rfl, rfl, h⟩ ⟨rfl, rfl, rfl, trivial⟩ (fun _ hw => hw)
        ·
          refine L.y rfl (Y.pickF rfl rfl) ?_
          refine L.nil ?_
          exact E.joinJ ⟨false, rfl, rfl, h⟩ ⟨rfl, rfl, rfl, trivial⟩ (fun _ hw => hw)
    ·
      rintro _ _ ⟨gb24, rfl, rfl, h⟩
      rw [m77_pact_Check_K21] at h
      rcases gb24 with _ | _
      ·
        replace h := iteF h
        refine L.cutJ 12 (fun gs D => ∃ (gb25 : Bool), gs = [(1, pt b1 0), (30, .bool gb25)] ∧ D = Cls w [] [.obj b1 [.int .i64 a0.Lead, u0_0, u0_1] 111] ∧ m77_pact_Check_K22 a0 gb25 = some r) ?_ ?_
        ·
          refine L.y rfl (Y.move rfl) ?_
          refine L.take rfl ?_
          refine L.y rfl (Y.fieldP fd111_1 rfl) ?_
          refine L.take rfl ?_
          refine L.y rfl (Y.loadP (i := 0) ag24 rfl rfl rfl) ?_
          refine L.take rfl ?_
          refine L.y rfl (Y.lenM (g := I) (l := a0.Votes) Try.underlying24 rfl (fun w' hw => hA0_0.cls0 hw)) ?_
          refine L.take rfl ?_
          refine L.y rfl (Y.move rfl) ?_
          refine L.take rfl ?_
          refine L.ite h rfl (Y.neq rfl rfl) (fun c48 h => ?_) (fun c48 h => ?_)
          ·
            refine L.y rfl (Y.pickF rfl rfl) ?_
            refine L.y rfl (Y.move rfl) ?_
            refine L.pass rfl rfl (by nofun) ?_
            refine L.pass rfl rfl (by nofun) ?_
            refine L.pass rfl rfl (by nofun) ?_
            refine L.y rfl (Y.pickT rfl rfl) ?_
            refine L.nil ?_
            exact E.joinJ ⟨true, rfl, rfl, h⟩ ⟨rfl, rfl, trivial⟩ (fun _ hw => hw)
          ·
            refine L.y rfl (Y.pickF rfl rfl) ?_
            refine L.y rfl (Y.move rfl) ?_
            refine L.take rfl ?_
            refine L.y rfl (Y.fieldP fd111_0 rfl) ?_
            refine L.take rfl ?_
            refine L.y rfl (Y.loadP (i := 0) ag3 rfl rfl rfl) ?_
            refine L.take rfl ?_
            refine L.ite h rfl (Y.lss rfl rfl) (fun c49 h => ?_) (fun c49 h => ?_)
            ·
              refine L.y rfl (Y.pickF rfl rfl) ?_
              refine L.nil ?_
              exact E.joinJ ⟨true, rfl, rfl, h⟩ ⟨rfl, rfl, trivial⟩ (fun _ hw => hw)
            ·
              refine L.y rfl (Y.pickF rfl rfl) ?_
              refine L.nil ?_
              exact E.joinJ ⟨false, rfl, rfl, h⟩ ⟨rfl, rfl, trivial⟩ (fun _ hw => hw)
        ·
          rintro _ _ ⟨gb25, rfl, rfl, h⟩
          rw [m77_pact_Check_K22] at h
          rcases gb25 with _ | _
          ·
            replace h := iteF h
            refine L.y rfl (Y.move rfl) ?_
            refine L.take rfl ?_
            refine L.y rfl (Y.fieldP fd111_0 rfl) ?_
            refine L.take rfl ?_
            refine L.y rfl (Y.loadP (i := 0) ag3 rfl rfl rfl) ?_
            refine L.take rfl ?_
            refine L.ite h rfl (Y.gtr rfl rfl) (fun c47 h => ?_) (fun c47 h => ?_)
            ·
              refine L.y rfl (Y.pickF rfl rfl) ?_
              refine L.nil ?_
              refine E.thenN ?_
              refine W.condT rfl ?_
              refine W.seq ?_
              refine W.region ?_
              refine L.y rfl (Y.assign rfl) ?_
              refine L.nil ?_
              refine E.thenN ?_
              refine W.ret ?_
              refine E.KSR ?_
              refine E.ret1 rfl rfl (fun w1 hw => ?_)
              obtain rfl := Option.some.inj h
              exact ⟨_, _, rfl, ⟨rfl, rfl⟩, hw.sel [] (by decide) rfl⟩
            ·
              refine L.y rfl (Y.pickF rfl rfl) ?_
              refine L.nil ?_
              refine E.thenN ?_
              refine W.condF rfl ?_
              refine W.skip ?_
              exact E.joinJ ⟨rfl, rfl, h⟩ ⟨rfl, trivial⟩ (fun _ hw => hw)
          ·
            replace h := iteT h
            refine L.y rfl (Y.move rfl) ?_
            refine L.pass rfl rfl (by nofun) ?_
            refine L.pass rfl rfl (by nofun) ?_
            refine L.pass rfl rfl (by nofun) ?_
            refine L.y rfl (Y.pickT rfl rfl) ?_
            refine L.nil ?_
            refine E.thenN ?_
            refine W.condT rfl ?_
            refine W.seq ?_
            refine W.region ?_
            refine L.y rfl (Y.assign rfl) ?_
            refine L.nil ?_
            refine E.thenN ?_
            refine W.ret ?_
            refine E.KSR ?_
            refine E.ret1 rfl rfl (fun w1 hw => ?_)
            obtain rfl := Option.some.inj h
            exact ⟨_, _, rfl, ⟨rfl, rfl⟩, hw.sel [] (by decide) rfl⟩
      ·
        replace h := iteT h
        refine L.y rfl (Y.move rfl) ?_
        refine L.pass rfl rfl (by nofun) ?_
        refine L.pass rfl rfl (by nofun) ?_
        refine L.pass rfl rfl (by nofun) ?_
        refine L.pass rfl rfl (by nofun) ?_
        refine L.pass rfl rfl (by nofun) ?_
        refine L.y rfl (Y.pickT rfl rfl) ?_
        refine L.y rfl (Y.move rfl) ?_
        refine L.pass rfl rfl (by nofun) ?_
        refine L.pass rfl rfl (by nofun) ?_
        refine L.pass rfl rfl (by nofun) ?_
        refine L.y rfl (Y.pickT rfl rfl) ?_
        refine L.y rfl (Y.move rfl) ?_
        refine L.pass rfl rfl (by nofun) ?_
        refine L.pass rfl rfl (by nofun) ?_
        refine L.pass rfl rfl (by nofun) ?_
        refine L.y rfl (Y.pickT rfl rfl) ?_
        refine L.nil ?_
        refine E.thenN ?_
        refine W.condT rfl ?_
        refine W.seq ?_
        refine W.region ?_
        refine L.y rfl (Y.assign rfl) ?_
        refine L.nil ?_
        refine E.thenN ?_
        refine W.ret ?_
        refine E.KSR ?_
        refine E.ret1 rfl rfl (fun w1 hw => ?_)
        obtain rfl := Option.some.inj h
        exact ⟨_, _, rfl, ⟨rfl, rfl⟩, hw.sel [] (by decide) rfl⟩
  ·
    rintro _ _ ⟨rfl, rfl, h⟩
    rw [m77_pact_Check_K1] at h
    refine W.seq ?_
    refine W.region ?_
    refine L.y rfl (Y.assign rfl) ?_
    refine L.y rfl (Y.assign rfl) ?_
    refine L.y rfl (Y.assign rfl) ?_
    refine L.nil ?_
    refine E.thenN ?_
    refine W.seqJ (fun gs D => ∃ (gb1 : Bool) (gb2 : Bool) (gb3 : Bool), gs = [(1, pt b1 0), (4, .bool gb1), (5, .bool gb2), (6, .bool gb3)] ∧ D = Cls w [] [.obj b1 [.int .i64 a0.Lead, u0_0, u0_1] 111] ∧ m77_pact_Check_K2 a0 gb1 gb2 gb3 = some r) ?_ ?_
    ·
      refine W.seq ?_
      refine W.region ?_
      refine L.y rfl (Y.fieldP fd111_2 rfl) ?_
      refine L.y rfl (Y.loadP (i := 0) ag24 rfl rfl rfl) ?_
      refine L.y rfl (Y.lenM (g := I) (l := a0.Parts) Try.underlying24 rfl (fun w' hw => hA0_1.cls0 hw)) ?_
      refine L.y rfl (Y.move rfl) ?_
      refine L.nil ?_
      refine E.thenN ?_
      refine W.block ?_
      refine W.loopJ (fun m gs D => ∃ (gb6 : Bool) (gb7 : Bool) (gb8 : Bool) (gx9 : Int), gs = [(1, pt b1 0), (4, .bool gb6), (5, .bool gb7), (6, .bool gb8), (37, u0_1), (38, .int .i64 (a0.Parts.length : Int)), (39, .int .i64 gx9)] ∧ D = Cls w [] [.obj b1 [.int .i64 a0.Lead, u0_0, u0_1] 111] ∧ m77_pact_Check_L1 a0 m gb6 gb7 gb8 gx9 = some r) ⟨true, false, false, 0, rfl, rfl, h⟩ ⟨rfl, rfl, rfl, rfl, rfl, rfl, rfl, trivial⟩ (fun _ hw => hw) ?_
      rintro m _ _ ⟨gb6, gb7, gb8, gx9, rfl, rfl, h⟩
      rcases m with _ | m
      · rw [m77_pact_Check_L1] at h; cases h
      rw [m77_pact_Check_L1] at h
      generalize hg1 : m77_pact_Check_L1 a0 m = go1 at h
      rw [m77_pact_Check_L1B] at h
      refine W.seq ?_
      refine W.region ?_
      refine L.ite h rfl (Y.lss rfl rfl) (fun c8 h => ?_) (fun c8 h => ?_)
      ·
        refine L.nil ?_
        refine E.thenN ?_
        refine W.seq ?_
        refine W.condT rfl ?_
        refine W.skip ?_
        refine E.thenN ?_
        refine W.seq ?_
        refine W.block ?_
        refine W.seq ?_
        refine W.region ?_
        refine L.y rfl (Y.move rfl) ?_
        refine L.m (V := fun _ => el u0_1 (gx9.toNat * 1)) h rfl (Y.indexM (g := I) (l := a0.Parts) Try.underlying24 sz3 rfl rfl (fun w' hw => hA0_1.cls0 hw)) (fun x9 ex9 h => ?_)
        refine L.y rfl (Y.loadE1 (u := .int .i64 x9) ag3 rfl (fun w' hw => hA0_1.cls0 hw) (idx_map ex9)) ?_
        refine L.y rfl (Y.assign rfl) ?_
        refine L.y rfl (Y.assign rfl) ?_
        refine L.nil ?_
        refine E.thenN ?_
        refine W.seq ?_
        refine W.region ?_
        refine L.y rfl (Y.fieldP fd111_1 rfl) ?_
        refine L.y rfl (Y.loadP (i := 0) ag24 rfl rfl rfl) ?_
        refine L.y rfl (Y.move rfl) ?_
        refine L.m (V := fun _ => el u0_0 (gx9.toNat * 1)) h rfl (Y.indexM (g := I) (l := a0.Votes) Try.underlying24 sz3 rfl rfl (fun w' hw => hA0_0.cls0 hw)) (fun x10 ex10 h => ?_)
        refine L.y rfl (Y.loadE1 (u := .int .i64 x10) ag3 rfl (fun w' hw => hA0_0.cls0 hw) (idx_map ex10)) ?_
        refine L.y rfl (Y.assign rfl) ?_
        refine L.nil ?_
        refine E.thenN ?_
        refine W.seqJ (fun gs D => gs = [(1, pt b1 0), (4, .bool gb6), (5, .bool gb7), (6, .bool gb8), (8, .int .i64 x9), (9, .int .i64 x10), (37, u0_1), (38, .int .i64 (a0.Parts.length : Int)), (39, .int .i64 gx9)] ∧ D = Cls w [] [.obj b1 [.int .i64 a0.Lead, u0_0, u0_1] 111] ∧ m77_pact_Check_K5 x10 x9 a0 gb6 gb8 gb7 gx9 go1 = some r) ?_ ?_
        ·
          refine W.seq ?_
          refine W.region ?_
          refine L.cutJ 6 (fun gs D => ∃ (gb23 : Bool), gs = [(1, pt b1 0), (4, .bool gb6), (5, .bool gb7), (6, .bool gb8), (8, .int .i64 x9), (9, .int .i64 x10), (37, u0_1), (38, .int .i64 (a0.Parts.length : Int)), (39, .int .i64 gx9), (54, .bool gb23)] ∧ D = Cls w [] [.obj b1 [.int .i64 a0.Lead, u0_0, u0_1] 111] ∧ m77_pact_Check_K20 x10 x9 a0 gb6 gb8 gb7 gx9 go1 gb23 = some r) ?_ ?_
          ·
            refine L.y rfl (Y.move rfl) ?_
            refine L.ite h rfl (Y.lss rfl rfl) (fun c45 h => ?_) (fun c45 h => ?_)
            ·
              refine L.y rfl (Y.move rfl) ?_
              refine L.pass rfl rfl (by nofun) ?_
              refine L.pass rfl rfl (by nofun) ?_
              refine L.y rfl (Y.pickT rfl rfl) ?_
              refine L.nil ?_
              exact E.joinJ ⟨true, rfl, rfl, h⟩ ⟨rfl, rfl, rfl, rfl, rfl, rfl, rfl, rfl, rfl, rfl, trivial⟩ (fun _ hw => hw)
            ·
              refine L.y rfl (Y.move rfl) ?_
              refine L.take rfl ?_
              refine L.y rfl (Y.move rfl) ?_
              refine L.take rfl ?_
              refine L.ite h rfl (Y.gtr rfl rfl) (fun c46 h => ?_) (fun c46 h => ?_)
              ·
                refine L.y rfl (Y.pickF rfl rfl) ?_
                refine L.nil ?_
                exact E.joinJ ⟨true, rfl, rfl, h⟩ ⟨rfl, rfl, rfl, rfl, rfl, rfl, rfl, rfl, rfl, rfl, trivial⟩ (fun _ hw => hw)
              ·
                refine L.y rfl (Y.pickF rfl rfl) ?_
                refine L.nil ?_
                exact E.joinJ ⟨false, rfl, rfl, h⟩ ⟨rfl, rfl, rfl, rfl, rfl, rfl, rfl, rfl, rfl, rfl, trivial⟩ (fun _ hw => hw)
          ·
            rintro _ _ ⟨gb23, rfl, rfl, h⟩
            rw [m77_pact_Check_K20] at h
            rcases gb23 with _ | _
            ·
              replace h := iteF h
              refine L.y rfl (Y.move rfl) ?_
              refine L.take rfl ?_
              refine L.y rfl (Y.move rfl) ?_
              refine L.take rfl ?_
              refine L.ite h rfl (Y.lss rfl rfl) (fun c43 h => ?_) (fun c43 h => ?_)
              ·
                refine L.y rfl (Y.pickF rfl rfl) ?_
                refine L.y rfl (Y.move rfl) ?_
                refine L.pass rfl rfl (by nofun) ?_
                refine L.pass rfl rfl (by nofun) ?_
                refine L.y rfl (Y.pickT rfl rfl) ?_
                refine L.nil ?_
                refine E.thenN ?_
                refine W.condT rfl ?_
                refine W.seq ?_
                refine W.region ?_
                refine L.y rfl (Y.assign rfl) ?_
                refine L.nil ?_
                refine E.thenN ?_
                refine W.ret ?_
                refine E.KSR ?_
                refine E.blockR ?_
                refine E.thenR ?_
                refine E.KLR ?_
                refine E.blockR ?_
                refine E.KSR ?_
                refine E.ret1 rfl rfl (fun w1 hw => ?_)
                obtain rfl := Option.some.inj h
                exact ⟨_, _, rfl, ⟨rfl, rfl⟩, hw.sel [] (by decide) rfl⟩
              ·
                refine L.y rfl (Y.pickF rfl rfl) ?_
                refine L.y rfl (Y.move rfl) ?_
                refine L.take rfl ?_
                refine L.y rfl (Y.move rfl) ?_
                refine L.take rfl ?_
                refine L.ite h rfl (Y.gtr rfl rfl) (fun c44 h => ?_) (fun c44 h => ?_)
                ·
                  refine L.y rfl (Y.pickF rfl rfl) ?_
                  refine L.nil ?_
                  refine E.thenN ?_
                  refine W.condT rfl ?_
                  refine W.seq ?_
                  refine W.region ?_
                  refine L.y rfl (Y.assign rfl) ?_
                  refine L.nil ?_
                  refine E.thenN ?_
                  refine W.ret ?_
                  refine E.KSR ?_
                  refine E.blockR ?_
                  refine E.thenR ?_
                  refine E.KLR ?_
                  refine E.blockR ?_
                  refine E.KSR ?_
                  refine E.ret1 rfl rfl (fun w1 hw => ?_)
                  obtain rfl := Option.some.inj h
                  exact ⟨_, _, rfl, ⟨rfl, rfl⟩, hw.sel [] (by decide) rfl⟩
                ·
                  refine L.y rfl (Y.pickF rfl rfl) ?_
                  refine L.nil ?_
                  refine E.thenN ?_
                  refine W.condF rfl ?_
                  refine W.skip ?_
                  exact E.joinJ ⟨rfl, rfl, h⟩ ⟨rfl, rfl, rfl, rfl, rfl, rfl, rfl, rfl, rfl, trivial⟩ (fun _ hw => hw)
            ·
              replace h := iteT h
              refine L.y rfl (Y.move rfl) ?_
              refine L.pass rfl rfl (by nofun) ?_
              refine L.pass rfl rfl (by nofun) ?_
              refine L.y rfl (Y.pickT rfl rfl) ?_
              refine L.y rfl (Y.move rfl) ?_
              refine L.pass rfl rfl (by nofun) ?_
              refine L.pass rfl rfl (by nofun) ?_
              refine L.y rfl (Y.pickT rfl rfl) ?_
              refine L.nil ?_
              refine E.thenN ?_
              refine W.condT rfl ?_
              refine W.seq ?_
              refine W.region ?_
              refine L.y rfl (Y.assign rfl) ?_
              refine L.nil ?_
              refine E.thenN ?_
              refine W.ret ?_
              refine E.KSR ?_
              refine E.blockR ?_
              refine E.thenR ?_
              refine E.KLR ?_
              refine E.blockR ?_
              refine E.KSR ?_
              refine E.ret1 rfl rfl (fun w1 hw => ?_)
              obtain rfl := Option.some.inj h
              exact ⟨_, _, rfl, ⟨rfl, rfl⟩, hw.sel [] (by decide) rfl⟩
        ·
          rintro _ _ ⟨rfl, rfl, h⟩
          rw [m77_pact_Check_K5] at h
          refine W.seqJ (fun gs D => gs = [(1, pt b1 0), (4, .bool gb6), (5, .bool gb7), (6, .bool gb8), (8, .int .i64 x9), (9, .int .i64 x10), (37, u0_1), (38, .int .i64 (a0.Parts.length : Int)), (39, .int .i64 gx9)] ∧ D = Cls w [] [.obj b1 [.int .i64 a0.Lead, u0_0, u0_1] 111] ∧ m77_pact_Check_K6 gb6 x10 gb8 gb7 gx9 go1 x9 = some r) ?_ ?_
          ·
            refine W.seq ?_
            refine W.region ?_
            refine L.cutJ 6 (fun gs D => ∃ (gb20 : Bool), gs = [(1, pt b1 0), (4, .bool gb6), (5, .bool gb7), (6, .bool gb8), (8, .int .i64 x9), (9, .int .i64 x10), (37, u0_1), (38, .int .i64 (a0.Parts.length : Int)), (39, .int .i64 gx9), (68, .bool gb20)] ∧ D = Cls w [] [.obj b1 [.int .i64 a0.Lead, u0_0, u0_1] 111] ∧ m77_pact_Check_K17 x10 x9 a0 gb6 gb8 gb7 gx9 go1 gb20 = some r) ?_ ?_
            ·
              refine L.y rfl (Y.move rfl) ?_
              refine L.ite h rfl (Y.eql rfl rfl) (fun c41 h => ?_) (fun c41 h => ?_)
              ·
                refine L.y rfl (Y.move rfl) ?_
                refine L.take rfl ?_
                refine L.y rfl (Y.move rfl) ?_
                refine L.take rfl ?_
                refine L.ite h rfl (Y.neq rfl rfl) (fun c42 h => ?_) (fun c42 h => ?_)
                ·
                  refine L.y rfl (Y.pickT rfl rfl) ?_
                  refine L.nil ?_
                  exact E.joinJ ⟨true, rfl, rfl, h⟩ ⟨rfl, rfl, rfl, rfl, rfl, rfl, rfl, rfl, rfl, rfl, trivial⟩ (fun _ hw => hw)
                ·
                  refine L.y rfl (Y.pickT rfl rfl) ?_
                  refine L.nil ?_
                  exact E.joinJ ⟨false, rfl, rfl, h⟩ ⟨rfl, rfl, rfl, rfl, rfl, rfl, rfl, rfl, rfl, rfl, trivial⟩ (fun _ hw => hw)
              ·
                refine L.y rfl (Y.move rfl) ?_
                refine L.pass rfl rfl (by nofun) ?_
                refine L.pass rfl rfl (by nofun) ?_
                refine L.y rfl (Y.pickF rfl rfl) ?_
                refine L.nil ?_
                exact E.joinJ ⟨false, rfl, rfl, h⟩ ⟨rfl, rfl, rfl, rfl, rfl, rfl, rfl, rfl, rfl, rfl, trivial⟩ (fun _ hw => hw)
            ·
              rintro _ _ ⟨gb20, rfl, rfl, h⟩
              rw [m77_pact_Check_K17] at h
              rcases gb20 with _ | _
              ·
                replace h := iteF h
                refine L.cutJ 7 (fun gs D => ∃ (gb21 : Bool), gs = [(1, pt b1 0), (4, .bool gb6), (5, .bool gb7), (6, .bool gb8), (8, .int .i64 x9), (9, .int .i64 x10), (37, u0_1), (38, .int .i64 (a0.Parts.length : Int)), (39, .int .i64 gx9), (69, .bool false), (75, .bool gb21)] ∧ D = Cls w [] [.obj b1 [.int .i64 a0.Lead, u0_0, u0_1] 111] ∧ m77_pact_Check_K18 x9 a0 gb6 x10 gb8 gb7 gx9 go1 gb21 = some r) ?_ ?_
                ·
                  refine L.y rfl (Y.move rfl) ?_
                  refine L.take rfl ?_
                  refine L.y rfl (Y.move rfl) ?_
                  refine L.take rfl ?_
                  refine L.ite h rfl (Y.eql rfl rfl) (fun c39 h => ?_) (fun c39 h => ?_)
                  ·
                    refine L.take rfl ?_
                    refine L.y rfl (Y.move rfl) ?_
                    refine L.take rfl ?_
                    refine L.y rfl (Y.move rfl) ?_
                    refine L.take rfl ?_
                    refine L.ite h rfl (Y.eql rfl rfl) (fun c40 h => ?_) (fun c40 h => ?_)
                    ·
                      refine L.take rfl ?_
                      refine L.y rfl (Y.pickT rfl rfl) ?_
                      refine L.nil ?_
                      exact E.joinJ ⟨true, rfl, rfl, h⟩ ⟨rfl, rfl, rfl, rfl, rfl, rfl, rfl, rfl, rfl, rfl, rfl, trivial⟩ (fun _ hw => hw)
                    ·
                      refine L.take rfl ?_
                      refine L.y rfl (Y.pickT rfl rfl) ?_
                      refine L.nil ?_
                      exact E.joinJ ⟨false, rfl, rfl, h⟩ ⟨rfl, rfl, rfl, rfl, rfl, rfl, rfl, rfl, rfl, rfl, rfl, trivial⟩ (fun _ hw => hw)
                  ·
                    refine L.take rfl ?_
                    refine L.y rfl (Y.move rfl) ?_
                    refine L.pass rfl rfl (by nofun) ?_
                    refine L.pass rfl rfl (by nofun) ?_
                    refine L.take rfl ?_
                    refine L.y rfl (Y.pickF rfl rfl) ?_
                    refine L.nil ?_
                    exact E.joinJ ⟨false, rfl, rfl, h⟩ ⟨rfl, rfl, rfl, rfl, rfl, rfl, rfl, rfl, rfl, rfl, rfl, trivial⟩ (fun _ hw => hw)
                ·
                  rintro _ _ ⟨gb21, rfl, rfl, h⟩
                  rw [m77_pact_Check_K18] at h
                  rcases gb21 with _ | _
                  ·
                    replace h := iteF h
                    refine L.cutJ 9 (fun gs D => ∃ (gb22 : Bool), gs = [(1, pt b1 0), (4, .bool gb6), (5, .bool gb7), (6, .bool gb8), (8, .int .i64 x9), (9, .int .i64 x10), (37, u0_1), (38, .int .i64 (a0.Parts.length : Int)), (39, .int .i64 gx9), (77, .bool false), (84, .bool gb22)] ∧ D = Cls w [] [.obj b1 [.int .i64 a0.Lead, u0_0, u0_1] 111] ∧ m77_pact_Check_K19 gb6 x10 gb8 gb7 gx9 go1 x9 gb22 = some r) ?_ ?_
                    ·
                      refine L.y rfl (Y.pickF rfl rfl) ?_
                      refine L.y rfl (Y.move rfl) ?_
                      refine L.take rfl ?_
                      refine L.y rfl (Y.move rfl) ?_
                      refine L.take rfl ?_
                      refine L.ite h rfl (Y.eql rfl rfl) (fun c37 h => ?_) (fun c37 h => ?_)
                      ·
                        refine L.take rfl ?_
                        refine L.y rfl (Y.move rfl) ?_
                        refine L.take rfl ?_
                        refine L.y rfl (Y.fieldP fd111_0 rfl) ?_
                        refine L.take rfl ?_
                        refine L.y rfl (Y.loadP (i := 0) ag3 rfl rfl rfl) ?_
                        refine L.take rfl ?_
                        refine L.ite h rfl (Y.neq rfl rfl) (fun c38 h => ?_) (fun c38 h => ?_)
                        ·
                          refine L.take rfl ?_
                          refine L.y rfl (Y.pickT rfl rfl) ?_
                          refine L.nil ?_
                          exact E.joinJ ⟨true, rfl, rfl, h⟩ ⟨rfl, rfl, rfl, rfl, rfl, rfl, rfl, rfl, rfl, rfl, rfl, trivial⟩ (fun _ hw => hw)
                        ·
                          refine L.take rfl ?_
                          refine L.y rfl (Y.pickT rfl rfl) ?_
                          refine L.nil ?_
                          exact E.joinJ ⟨false, rfl, rfl, h⟩ ⟨rfl, rfl, rfl, rfl, rfl, rfl, rfl, rfl, rfl, rfl, rfl, trivial⟩ (fun _ hw => hw)
                      ·
                        refine L.take rfl ?_
                        refine L.y rfl (Y.move rfl) ?_
                        refine L.pass rfl rfl (by nofun) ?_
                        refine L.pass rfl rfl (by nofun) ?_
                        refine L.pass rfl rfl (by nofun) ?_
                        refine L.take rfl ?_
                        refine L.y rfl (Y.pickF rfl rfl) ?_
                        refine L.nil ?_
                        exact E.joinJ ⟨false, rfl, rfl, h⟩ ⟨rfl, rfl, rfl, rfl, rfl, rfl, rfl, rfl, rfl, rfl, rfl, trivial⟩ (fun _ hw => hw)
                    ·
                      rintro _ _ ⟨gb22, rfl, rfl, h⟩
                      rw [m77_pact_Check_K19] at h
                      rcases gb22 with _ | _
                      ·
                        replace h := iteF h
                        refine L.y rfl (Y.pickF rfl rfl) ?_
                        refine L.nil ?_
                        refine E.thenN ?_
                        refine W.condF rfl ?_
                        refine W.skip ?_
                        exact E.joinJ ⟨rfl, rfl, h⟩ ⟨rfl, rfl, rfl, rfl, rfl, rfl, rfl, rfl, rfl, trivial⟩ (fun _ hw => hw)
                      ·
                        replace h := iteT h
                        refine L.y rfl (Y.pickF rfl rfl) ?_
                        refine L.nil ?_
                        refine E.thenN ?_
                        refine W.condT rfl ?_
                        refine W.seq ?_
                        refine W.region ?_
                        refine L.y rfl (Y.assign rfl) ?_
                        refine L.nil ?_
                        refine E.thenN ?_
                        refine W.ret ?_
                        refine E.KSR ?_
                        refine E.blockR ?_
                        refine E.thenR ?_
                        refine E.KLR ?_
                        refine E.blockR ?_
                        refine E.KSR ?_
                        refine E.ret1 rfl rfl (fun w1 hw => ?_)
                        obtain rfl := Option.some.inj h
                        exact ⟨_, _, rfl, ⟨rfl, rfl⟩, hw.sel [] (by decide) rfl⟩
                  ·
                    replace h := iteT h
                    refine L.y rfl (Y.pickF rfl rfl) ?_
                    refine L.y rfl (Y.move rfl) ?_
                    refine L.pass rfl rfl (by nofun) ?_
                    refine L.pass rfl rfl (by nofun) ?_
                    refine L.pass rfl rfl (by nofun) ?_
                    refine L.pass rfl rfl (by nofun) ?_
                    refine L.pass rfl rfl (by nofun) ?_
                    refine L.pass rfl rfl (by nofun) ?_
                    refine L.pass rfl rfl (by nofun) ?_
                    refine L.y rfl (Y.pickT rfl rfl) ?_
                    refine L.nil ?_
                    refine E.thenN ?_
                    refine W.condT rfl ?_
                    refine W.seq ?_
                    refine W.region ?_
                    refine L.y rfl (Y.assign rfl) ?_
                    refine L.nil ?_
                    refine E.thenN ?_
                    refine W.ret ?_
                    refine E.KSR ?_
                    refine E.blockR ?_
                    refine E.thenR ?_
                    refine E.KLR ?_
                    refine E.blockR ?_
                    refine E.KSR ?_
                    refine E.ret1 rfl rfl (fun w1 hw => ?_)
                    obtain rfl := Option.some.inj h
                    exact ⟨_, _, rfl, ⟨rfl, rfl⟩, hw.sel [] (by decide) rfl⟩
              ·
                replace h := iteT h
                refine L.y rfl (Y.move rfl) ?_
                refine L.pass rfl rfl (by nofun) ?_
                refine L.pass rfl rfl (by nofun) ?_
                refine L.pass rfl rfl (by nofun) ?_
                refine L.pass rfl rfl (by nofun) ?_
                refine L.pass rfl rfl (by nofun) ?_
                refine L.pass rfl rfl (by nofun) ?_
                refine L.y rfl (Y.pickT rfl rfl) ?_
                refine L.y rfl (Y.move rfl) ?_
                refine L.pass rfl rfl (by nofun) ?_
                refine L.pass rfl rfl (by nofun) ?_
                refine L.pass rfl rfl (by nofun) ?_
                refine L.pass rfl rfl (by nofun) ?_
                refine L.pass rfl rfl (by nofun) ?_
                refine L.pass rfl rfl (by nofun) ?_
                refine L.pass rfl rfl (by nofun) ?_
                refine L.y rfl (Y.pickT rfl rfl) ?_
                refine L.nil ?_
                refine E.thenN ?_
                refine W.condT rfl ?_
                refine W.seq ?_
                refine W.region ?_
                refine L.y rfl (Y.assign rfl) ?_
                refine L.nil ?_
                refine E.thenN ?_
                refine W.ret ?_
                refine E.KSR ?_
                refine E.blockR ?_
                refine E.thenR ?_
                refine E.KLR ?_
                refine E.blockR ?_
                refine E.KSR ?_
                refine E.ret1 rfl rfl (fun w1 hw => ?_)
                obtain rfl := Option.some.inj h
                exact ⟨_, _, rfl, ⟨rfl, rfl⟩, hw.sel [] (by decide) rfl⟩
          ·
            rintro _ _ ⟨rfl, rfl, h⟩
            rw [m77_pact_Check_K6] at h
            refine W.seqJ (fun gs D => ∃ (gb10 : Bool), gs = [(1, pt b1 0), (4, .bool gb10), (5, .bool gb7), (6, .bool gb8), (8, .int .i64 x9), (9, .int .i64 x10), (37, u0_1), (38, .int .i64 (a0.Parts.length : Int)), (39, .int .i64 gx9)] ∧ D = Cls w [] [.obj b1 [.int .i64 a0.Lead, u0_0, u0_1] 111] ∧ m77_pact_Check_K7 gb8 gb7 gx9 go1 x9 x10 gb10 = some r) ?_ ?_
            ·
              refine W.region ?_
              refine L.cutJ 5 (fun gs D => ∃ (gb19 : Bool), gs = [(1, pt b1 0), (5, .bool gb7), (6, .bool gb8), (8, .int .i64 x9), (9, .int .i64 x10), (37, u0_1), (38, .int .i64 (a0.Parts.length : Int)), (39, .int .i64 gx9), (90, .bool gb19)] ∧ D = Cls w [] [.obj b1 [.int .i64 a0.Lead, u0_0, u0_1] 111] ∧ m77_pact_Check_K16 gb8 gb7 gx9 go1 x9 x10 gb19 = some r) ?_ ?_
              ·
                refine L.iteB h rfl (Y.move rfl) (fun c35 h => ?_) (fun c35 h => ?_)
                ·
                  refine L.y rfl (Y.move rfl) ?_
                  refine L.take rfl ?_
                  refine L.y rfl (Y.move rfl) ?_
                  refine L.take rfl ?_
                  refine L.ite h rfl (Y.eql rfl rfl) (fun c36 h => ?_) (fun c36 h => ?_)
                  ·
                    refine L.y rfl (Y.pickT rfl rfl) ?_
                    refine L.nil ?_
                    exact E.joinJ ⟨true, rfl, rfl, h⟩ ⟨rfl, rfl, rfl, rfl, rfl, rfl, rfl, rfl, rfl, trivial⟩ (fun _ hw => hw)
                  ·
                    refine L.y rfl (Y.pickT rfl rfl) ?_
                    refine L.nil ?_
                    exact E.joinJ ⟨false, rfl, rfl, h⟩ ⟨rfl, rfl, rfl, rfl, rfl, rfl, rfl, rfl, rfl, trivial⟩ (fun _ hw => hw)
                ·
                  refine L.y rfl (Y.move rfl) ?_
                  refine L.pass rfl rfl (by nofun) ?_
                  refine L.pass rfl rfl (by nofun) ?_
                  refine L.y rfl (Y.pickF rfl rfl) ?_
                  refine L.nil ?_
                  exact E.joinJ ⟨false, rfl, rfl, h⟩ ⟨rfl, rfl, rfl, rfl, rfl, rfl, rfl, rfl, rfl, trivial⟩ (fun _ hw => hw)
              ·
                rintro _ _ ⟨gb19, rfl, rfl, h⟩
                rw [m77_pact_Check_K16] at h
                rcases gb19 with _ | _
                ·
                  replace h := iteF h
                  refine L.y rfl (Y.assign rfl) ?_
                  refine L.nil ?_
                  exact E.joinJ ⟨false, rfl, rfl, h⟩ ⟨rfl, rfl, rfl, rfl, rfl, rfl, rfl, rfl, rfl, trivial⟩ (fun _ hw => hw)
                ·
                  replace h := iteT h
                  refine L.y rfl (Y.assign rfl) ?_
                  refine L.nil ?_
                  exact E.joinJ ⟨true, rfl, rfl, h⟩ ⟨rfl, rfl, rfl, rfl, rfl, rfl, rfl, rfl, rfl, trivial⟩ (fun _ hw => hw)
            ·
              rintro _ _ ⟨gb10, rfl, rfl, h⟩
              rw [m77_pact_Check_K7] at h
              rcases gb10 with _ | _
              ·
                replace h := iteF h
                refine W.seqJ (fun gs D => ∃ (gb11 : Bool), gs = [(1, pt b1 0), (4, .bool false), (5, .bool gb7), (6, .bool gb11), (8, .int .i64 x9), (9, .int .i64 x10), (37, u0_1), (38, .int .i64 (a0.Parts.length : Int)), (39, .int .i64 gx9)] ∧ D = Cls w [] [.obj b1 [.int .i64 a0.Lead, u0_0, u0_1] 111] ∧ m77_pact_Check_K8 gb7 gx9 go1 x9 x10 gb11 = some r) ?_ ?_
                ·
                  refine W.region ?_
                  refine L.cutJ 5 (fun gs D => ∃ (gb14 : Bool), gs = [(1, pt b1 0), (4, .bool false), (5, .bool gb7), (8, .int .i64 x9), (9, .int .i64 x10), (37, u0_1), (38, .int .i64 (a0.Parts.length : Int)), (39, .int .i64 gx9), (95, .bool gb14)] ∧ D = Cls w [] [.obj b1 [.int .i64 a0.Lead, u0_0, u0_1] 111] ∧ m77_pact_Check_K11 gb7 gx9 go1 x9 x10 gb14 = some r) ?_ ?_
                  ·
                    refine L.iteB h rfl (Y.move rfl) (fun c21 h => ?_) (fun c21 h => ?_)
                    ·
                      refine L.y rfl (Y.move rfl) ?_
                      refine L.pass rfl rfl (by nofun) ?_
                      refine L.pass rfl rfl (by nofun) ?_
                      refine L.y rfl (Y.pickT rfl rfl) ?_
                      refine L.nil ?_
                      exact E.joinJ ⟨true, rfl, rfl, h⟩ ⟨rfl, rfl, rfl, rfl, rfl, rfl, rfl, rfl, rfl, trivial⟩ (fun _ hw => hw)
                    ·
                      refine L.y rfl (Y.move rfl) ?_
                      refine L.take rfl ?_
                      refine L.y rfl (Y.move rfl) ?_
                      refine L.take rfl ?_
                      refine L.ite h rfl (Y.eql rfl rfl) (fun c22 h => ?_) (fun c22 h => ?_)
                      ·
                        refine L.y rfl (Y.pickF rfl rfl) ?_
                        refine L.nil ?_
                        exact E.joinJ ⟨true, rfl, rfl, h⟩ ⟨rfl, rfl, rfl, rfl, rfl, rfl, rfl, rfl, rfl, trivial⟩ (fun _ hw => hw)
                      ·
                        refine L.y rfl (Y.pickF rfl rfl) ?_
                        refine L.nil ?_
                        exact E.joinJ ⟨false, rfl, rfl, h⟩ ⟨rfl, rfl, rfl, rfl, rfl, rfl, rfl, rfl, rfl, trivial⟩ (fun _ hw => hw)
                  ·
                    rintro _ _ ⟨gb14, rfl, rfl, h⟩
                    rw [m77_pact_Check_K11] at h
                    rcases gb14 with _ | _
                    ·
                      replace h := iteF h
                      refine L.y rfl (Y.assign rfl) ?_
                      refine L.nil ?_
                      exact E.joinJ ⟨false, rfl, rfl, h⟩ ⟨rfl, rfl, rfl, rfl, rfl, rfl, rfl, rfl, rfl, trivial⟩ (fun _ hw => hw)
                    ·
                      replace h := iteT h
                      refine L.y rfl (Y.assign rfl) ?_
                      refine L.nil ?_
                      exact E.joinJ ⟨true, rfl, rfl, h⟩ ⟨rfl, rfl, rfl, rfl, rfl, rfl, rfl, rfl, rfl, trivial⟩ (fun _ hw => hw)
                ·
                  rintro _ _ ⟨gb11, rfl, rfl, h⟩
                  rw [m77_pact_Check_K8] at h
                  rcases gb11 with _ | _
                  ·
                    replace h := iteF h
                    refine W.region ?_
                    refine L.cutJ 9 (fun gs D => ∃ (gb12 : Bool), gs = [(1, pt b1 0), (4, .bool false), (6, .bool false), (37, u0_1), (38, .int .i64 (a0.Parts.length : Int)), (39, .int .i64 gx9), (104, .bool gb12)] ∧ D = Cls w [] [.obj b1 [.int .i64 a0.Lead, u0_0, u0_1] 111] ∧ m77_pact_Check_K9 gx9 go1 gb12 = some r) ?_ ?_
                    ·
                      refine L.iteB h rfl (Y.move rfl) (fun c13 h => ?_) (fun c13 h => ?_)
                      ·
                        refine L.y rfl (Y.move rfl) ?_
                        refine L.pass rfl rfl (by nofun) ?_
                        refine L.pass rfl rfl (by nofun) ?_
                        refine L.pass rfl rfl (by nofun) ?_
                        refine L.pass rfl rfl (by nofun) ?_
                        refine L.pass rfl rfl (by nofun) ?_
                        refine L.pass rfl rfl (by nofun) ?_
                        refine L.y rfl (Y.pickT rfl rfl) ?_
                        refine L.nil ?_
                        exact E.joinJ ⟨true, rfl, rfl, h⟩ ⟨rfl, rfl, rfl, rfl, rfl, rfl, rfl, trivial⟩ (fun _ hw => hw)
                      ·
                        refine L.y rfl (Y.move rfl) ?_
                        refine L.take rfl ?_
                        refine L.y rfl (Y.move rfl) ?_
                        refine L.take rfl ?_
                        refine L.ite h rfl (Y.eql rfl rfl) (fun c14 h => ?_) (fun c14 h => ?_)
                        ·
                          refine L.take rfl ?_
                          refine L.y rfl (Y.move rfl) ?_
                          refine L.take rfl ?_
                          refine L.y rfl (Y.move rfl) ?_
                          refine L.take rfl ?_
                          refine L.ite h rfl (Y.neq rfl rfl) (fun c15 h => ?_) (fun c15 h => ?_)
                          ·
                            refine L.take rfl ?_
                            refine L.y rfl (Y.pickT rfl rfl) ?_
                            refine L.y rfl (Y.pickF rfl rfl) ?_
                            refine L.nil ?_
                            exact E.joinJ ⟨true, rfl, rfl, h⟩ ⟨rfl, rfl, rfl, rfl, rfl, rfl, rfl, trivial⟩ (fun _ hw => hw)
                          ·
                            refine L.take rfl ?_
                            refine L.y rfl (Y.pickT rfl rfl) ?_
                            refine L.y rfl (Y.pickF rfl rfl) ?_
                            refine L.nil ?_
                            exact E.joinJ ⟨false, rfl, rfl, h⟩ ⟨rfl, rfl, rfl, rfl, rfl, rfl, rfl, trivial⟩ (fun _ hw => hw)
                        ·
                          refine L.take rfl ?_
                          refine L.y rfl (Y.move rfl) ?_
                          refine L.pass rfl rfl (by nofun) ?_
                          refine L.pass rfl rfl (by nofun) ?_
                          refine L.take rfl ?_
                          refine L.y rfl (Y.pickF rfl rfl) ?_
                          refine L.y rfl (Y.pickF rfl rfl) ?_
                          refine L.nil ?_
                          exact E.joinJ ⟨false, rfl, rfl, h⟩ ⟨rfl, rfl, rfl, rfl, rfl, rfl, rfl, trivial⟩ (fun _ hw => hw)
                    ·
                      rintro _ _ ⟨gb12, rfl, rfl, h⟩
                      rw [m77_pact_Check_K9] at h
                      rcases gb12 with _ | _
                      ·
                        replace h := iteF h
                        refine L.y rfl (Y.assign rfl) ?_
                        refine L.nil ?_
                        refine E.blockN ?_
                        refine E.thenN ?_
                        refine W.region ?_
                        refine L.m (V := fun x11 => .int .i64 x11) h rfl (Y.addM rfl rfl) (fun x11 ex11 h => ?_)
                        refine L.y rfl (Y.move rfl) ?_
                        refine L.nil ?_
                        exact E.againJ ⟨false, false, false, x11, rfl, rfl, by rw [hg1]; exact h⟩ (Nat.lt_succ_self _) ⟨rfl, rfl, rfl, rfl, rfl, rfl, rfl, trivial⟩ (fun _ hw => hw)
                      ·
                        replace h := iteT h
                        refine L.y rfl (Y.assign rfl) ?_
                        refine L.nil ?_
                        refine E.blockN ?_
                        refine E.thenN ?_
                        refine W.region ?_
                        refine L.m (V := fun x12 => .int .i64 x12) h rfl (Y.addM rfl rfl) (fun x12 ex12 h => ?_)
                        refine L.y rfl (Y.move rfl) ?_
                        refine L.nil ?_
                        exact E.againJ ⟨false, true, false, x12, rfl, rfl, by rw [hg1]; exact h⟩ (Nat.lt_succ_self _) ⟨rfl, rfl, rfl, rfl, rfl, rfl, rfl, trivial⟩ (fun _ hw => hw)
                  ·
                    replace h := iteT h
                    refine W.region ?_
                    refine L.cutJ 9 (fun gs D => ∃ (gb13 : Bool), gs = [(1, pt b1 0), (4, .bool false), (6, .bool true), (37, u0_1), (38, .int .i64 (a0.Parts.length : Int)), (39, .int .i64 gx9), (104, .bool gb13)] ∧ D = Cls w [] [.obj b1 [.int .i64 a0.Lead, u0_0, u0_1] 111] ∧ m77_pact_Check_K10 gx9 go1 gb13 = some r) ?_ ?_
                    ·
                      refine L.iteB h rfl (Y.move rfl) (fun c18 h => ?_) (fun c18 h => ?_)
                      ·
                        refine L.y rfl (Y.move rfl) ?_
                        refine L.pass rfl rfl (by nofun) ?_
                        refine L.pass rfl rfl (by nofun) ?_
                        refine L.pass rfl rfl (by nofun) ?_
                        refine L.pass rfl rfl (by nofun) ?_
                        refine L.pass rfl rfl (by nofun) ?_
                        refine L.pass rfl rfl (by nofun) ?_
                        refine L.y rfl (Y.pickT rfl rfl) ?_
                        refine L.nil ?_
                        exact E.joinJ ⟨true, rfl, rfl, h⟩ ⟨rfl, rfl, rfl, rfl, rfl, rfl, rfl, trivial⟩ (fun _ hw => hw)
                      ·
                        refine L.y rfl (Y.move rfl) ?_
                        refine L.take rfl ?_
                        refine L.y rfl (Y.move rfl) ?_
                        refine L.take rfl ?_
                        refine L.ite h rfl (Y.eql rfl rfl) (fun c19 h => ?_) (fun c19 h => ?_)
                        ·
                          refine L.take rfl ?_
                          refine L.y rfl (Y.move rfl) ?_
                          refine L.take rfl ?_
                          refine L.y rfl (Y.move rfl) ?_
                          refine L.take rfl ?_
                          refine L.ite h rfl (Y.neq rfl rfl) (fun c20 h => ?_) (fun c20 h => ?_)
                          ·
                            refine L.take rfl ?_
                            refine L.y rfl (Y.pickT rfl rfl) ?_
                            refine L.y rfl (Y.pickF rfl rfl) ?_
                            refine L.nil ?_
                            exact E.joinJ ⟨true, rfl, rfl, h⟩ ⟨rfl, rfl, rfl, rfl, rfl, rfl, rfl, trivial⟩ (fun _ hw => hw)
                          ·
                            refine L.take rfl ?_
                            refine L.y rfl (Y.pickT rfl rfl) ?_
                            refine L.y rfl (Y.pickF rfl rfl) ?_
                            refine L.nil ?_
                            exact E.joinJ ⟨false, rfl, rfl, h⟩ ⟨rfl, rfl, rfl, rfl, rfl, rfl, rfl, trivial⟩ (fun _ hw => hw)
                        ·
                          refine L.take rfl ?_
                          refine L.y rfl (Y.move rfl) ?_
                          refine L.pass rfl rfl (by nofun) ?_
                          refine L.pass rfl rfl (by nofun) ?_
                          refine L.take rfl ?_
                          refine L.y rfl (Y.pickF rfl rfl) ?_
                          refine L.y rfl (Y.pickF rfl rfl) ?_
                          refine L.nil ?_
                          exact E.joinJ ⟨false, rfl, rfl, h⟩ ⟨rfl, rfl, rfl, rfl, rfl, rfl, rfl, trivial⟩ (fun _ hw => hw)
                    ·
                      rintro _ _ ⟨gb13, rfl, rfl, h⟩
                      rw [m77_pact_Check_K10] at h
                      rcases gb13 with _ | _
                      ·
                        replace h := iteF h
                        refine L.y rfl (Y.assign rfl) ?_
                        refine L.nil ?_
                        refine E.blockN ?_
                        refine E.thenN ?_
                        refine W.region ?_
                        refine L.m (V := fun x16 => .int .i64 x16) h rfl (Y.addM rfl rfl) (fun x16 ex16 h => ?_)
                        refine L.y rfl (Y.move rfl) ?_
                        refine L.nil ?_
                        exact E.againJ ⟨false, false, true, x16, rfl, rfl, by rw [hg1]; exact h⟩ (Nat.lt_succ_self _) ⟨rfl, rfl, rfl, rfl, rfl, rfl, rfl, trivial⟩ (fun _ hw => hw)
                      ·
                        replace h := iteT h
                        refine L.y rfl (Y.assign rfl) ?_
                        refine L.nil ?_
                        refine E.blockN ?_
                        refine E.thenN ?_
                        refine W.region ?_
                        refine L.m (V := fun x17 => .int .i64 x17) h rfl (Y.addM rfl rfl) (fun x17 ex17 h => ?_)
                        refine L.y rfl (Y.move rfl) ?_
                        refine L.nil ?_
                        exact E.againJ ⟨false, true, true, x17, rfl, rfl, by rw [hg1]; exact h⟩ (Nat.lt_succ_self _) ⟨rfl, rfl, rfl, rfl, rfl, rfl, rfl, trivial⟩ (fun _ hw => hw)
              ·
                replace h := iteT h
                refine W.seqJ (fun gs D => ∃ (gb15 : Bool), gs = [(1, pt b1 0), (4, .bool true), (5, .bool gb7), (6, .bool gb15), (8, .int .i64 x9), (9, .int .i64 x10), (37, u0_1), (38, .int .i64 (a0.Parts.length : Int)), (39, .int .i64 gx9)] ∧ D = Cls w [] [.obj b1 [.int .i64 a0.Lead, u0_0, u0_1] 111] ∧ m77_pact_Check_K12 gb7 gx9 go1 x9 x10 gb15 = some r) ?_ ?_
                ·
                  refine W.region ?_
                  refine L.cutJ 5 (fun gs D => ∃ (gb18 : Bool), gs = [(1, pt b1 0), (4, .bool true), (5, .bool gb7), (8, .int .i64 x9), (9, .int .i64 x10), (37, u0_1), (38, .int .i64 (a0.Parts.length : Int)), (39, .int .i64 gx9), (95, .bool gb18)] ∧ D = Cls w [] [.obj b1 [.int .i64 a0.Lead, u0_0, u0_1] 111] ∧ m77_pact_Check_K15 gb7 gx9 go1 x9 x10 gb18 = some r) ?_ ?_
                  ·
                    refine L.iteB h rfl (Y.move rfl) (fun c33 h => ?_) (fun c33 h => ?_)
                    ·
                      refine L.y rfl (Y.move rfl) ?_
                      refine L.pass rfl rfl (by nofun) ?_
                      refine L.pass rfl rfl (by nofun) ?_
                      refine L.y rfl (Y.pickT rfl rfl) ?_
                      refine L.nil ?_
                      exact E.joinJ ⟨true, rfl, rfl, h⟩ ⟨rfl, rfl, rfl, rfl, rfl, rfl, rfl, rfl, rfl, trivial⟩ (fun _ hw => hw)
                    ·
                      refine L.y rfl (Y.move rfl) ?_
                      refine L.take rfl ?_
                      refine L.y rfl (Y.move rfl) ?_
                      refine L.take rfl ?_
                      refine L.ite h rfl (Y.eql rfl rfl) (fun c34 h => ?_) (fun c34 h => ?_)
                      ·
                        refine L.y rfl (Y.pickF rfl rfl) ?_
                        refine L.nil ?_
                        exact E.joinJ ⟨true, rfl, rfl, h⟩ ⟨rfl, rfl, rfl, rfl, rfl, rfl, rfl, rfl, rfl, trivial⟩ (fun _ hw => hw)
                      ·
                        refine L.y rfl (Y.pickF rfl rfl) ?_
                        refine L.nil ?_
                        exact E.joinJ ⟨false, rfl, rfl, h⟩ ⟨rfl, rfl, rfl, rfl, rfl, rfl, rfl, rfl, rfl, trivial⟩ (fun _ hw => hw)
                  ·
                    rintro _ _ ⟨gb18, rfl, rfl, h⟩
                    rw [m77_pact_Check_K15] at h
                    rcases gb18 with _ | _
                    ·
                      replace h := iteF h
                      refine L.y rfl (Y.assign rfl) ?_
                      refine L.nil ?_
                      exact E.joinJ ⟨false, rfl, rfl, h⟩ ⟨rfl, rfl, rfl, rfl, rfl, rfl, rfl, rfl, rfl, trivial⟩ (fun _ hw => hw)
                    ·
                      replace h := iteT h
                      refine L.y rfl (Y.assign rfl) ?_
                      refine L.nil ?_
                      exact E.joinJ ⟨true, rfl, rfl, h⟩ ⟨rfl, rfl, rfl, rfl, rfl, rfl, rfl, rfl, rfl, trivial⟩ (fun _ hw => hw)
                ·
                  rintro _ _ ⟨gb15, rfl, rfl, h⟩
                  rw [m77_pact_Check_K12] at h
                  rcases gb15 with _ | _
                  ·
                    replace h := iteF h
                    refine W.region ?_
                    refine L.cutJ 9 (fun gs D => ∃ (gb16 : Bool), gs = [(1, pt b1 0), (4, .bool true), (6, .bool false), (37, u0_1), (38, .int .i64 (a0.Parts.length : Int)), (39, .int .i64 gx9), (104, .bool gb16)] ∧ D = Cls w [] [.obj b1 [.int .i64 a0.Lead, u0_0, u0_1] 111] ∧ m77_pact_Check_K13 gx9 go1 gb16 = some r) ?_ ?_
                    ·
                      refine L.iteB h rfl (Y.move rfl) (fun c25 h => ?_) (fun c25 h => ?_)
                      ·
                        refine L.y rfl (Y.move rfl) ?_
                        refine L.pass rfl rfl (by nofun) ?_
                        refine L.pass rfl rfl (by nofun) ?_
                        refine L.pass rfl rfl (by nofun) ?_
                        refine L.pass rfl rfl (by nofun) ?_
                        refine L.pass rfl rfl (by nofun) ?_
                        refine L.pass rfl rfl (by nofun) ?_
                        refine L.y rfl (Y.pickT rfl rfl) ?_
                        refine L.nil ?_
                        exact E.joinJ ⟨true, rfl, rfl, h⟩ ⟨rfl, rfl, rfl, rfl, rfl, rfl, rfl, trivial⟩ (fun _ hw => hw)
                      ·
                        refine L.y rfl (Y.move rfl) ?_
                        refine L.take rfl ?_
                        refine L.y rfl (Y.move rfl) ?_
                        refine L.take rfl ?_
                        refine L.ite h rfl (Y.eql rfl rfl) (fun c26 h => ?_) (fun c26 h => ?_)
                        ·
                          refine L.take rfl ?_
                          refine L.y rfl (Y.move rfl) ?_
                          refine L.take rfl ?_
                          refine L.y rfl (Y.move rfl) ?_
                          refine L.take rfl ?_
                          refine L.ite h rfl (Y.neq rfl rfl) (fun c27 h => ?_) (fun c27 h => ?_)
                          ·
                            refine L.take rfl ?_
                            refine L.y rfl (Y.pickT rfl rfl) ?_
                            refine L.y rfl (Y.pickF rfl rfl) ?_
                            refine L.nil ?_
                            exact E.joinJ ⟨true, rfl, rfl, h⟩ ⟨rfl, rfl, rfl, rfl, rfl, rfl, rfl, trivial⟩ (fun _ hw => hw)
                          ·
                            refine L.take rfl ?_
                            refine L.y rfl (Y.pickT rfl rfl) ?_
                            refine L.y rfl (Y.pickF rfl rfl) ?_
                            refine L.nil ?_
                            exact E.joinJ ⟨false, rfl, rfl, h⟩ ⟨rfl, rfl, rfl, rfl, rfl, rfl, rfl, trivial⟩ (fun _ hw => hw)
                        ·
                          refine L.take rfl ?_
                          refine L.y rfl (Y.move rfl) ?_
                          refine L.pass rfl rfl (by nofun) ?_
                          refine L.pass rfl rfl (by nofun) ?_
                          refine L.take rfl ?_
                          refine L.y rfl (Y.pickF rfl rfl) ?_
                          refine L.y rfl (Y.pickF rfl rfl) ?_
                          refine L.nil ?_
                          exact E.joinJ ⟨false, rfl, rfl, h⟩ ⟨rfl, rfl, rfl, rfl, rfl, rfl, rfl, trivial⟩ (fun _ hw => hw)
                    ·
                      rintro _ _ ⟨gb16, rfl, rfl, h⟩
                      rw [m77_pact_Check_K13] at h
                      rcases gb16 with _ | _
                      ·
                        replace h := iteF h
                        refine L.y rfl (Y.assign rfl) ?_
                        refine L.nil ?_
                        refine E.blockN ?_
                        refine E.thenN ?_
                        refine W.region ?_
                        refine L.m (V := fun x23 => .int .i64 x23) h rfl (Y.addM rfl rfl) (fun x23 ex23 h => ?_)
                        refine L.y rfl (Y.move rfl) ?_
                        refine L.nil ?_
                        exact E.againJ ⟨true, false, false, x23, rfl, rfl, by rw [hg1]; exact h⟩ (Nat.lt_succ_self _) ⟨rfl, rfl, rfl, rfl, rfl, rfl, rfl, trivial⟩ (fun _ hw => hw)
                      ·
                        replace h := iteT h
                        refine L.y rfl (Y.assign rfl) ?_
                        refine L.nil ?_
                        refine E.blockN ?_
                        refine E.thenN ?_
                        refine W.region ?_
                        refine L.m (V := fun x24 => .int .i64 x24) h rfl (Y.addM rfl rfl) (fun x24 ex24 h => ?_)
                        refine L.y rfl (Y.move rfl) ?_
                        refine L.nil ?_
                        exact E.againJ ⟨true, true, false, x24, rfl, rfl, by rw [hg1]; exact h⟩ (Nat.lt_succ_self _) ⟨rfl, rfl, rfl, rfl, rfl, rfl, rfl, trivial⟩ (fun _ hw => hw)
                  ·
                    replace h := iteT h
                    refine W.region ?_
                    refine L.cutJ 9 (fun gs D => ∃ (gb17 : Bool), gs = [(1, pt b1 0), (4, .bool true), (6, .bool true), (37, u0_1), (38, .int .i64 (a0.Parts.length : Int)), (39, .int .i64 gx9), (104, .bool gb17)] ∧ D = Cls w [] [.obj b1 [.int .i64 a0.Lead, u0_0, u0_1] 111] ∧ m77_pact_Check_K14 gx9 go1 gb17 = some r) ?_ ?_
                    ·
                      refine L.iteB h rfl (Y.move rfl) (fun c30 h => ?_) (fun c30 h => ?_)
                      ·
                        refine L.y rfl (Y.move rfl) ?_
                        refine L.pass rfl rfl (by nofun) ?_
                        refine L.pass rfl rfl (by nofun) ?_
                        refine L.pass rfl rfl (by nofun) ?_
                        refine L.pass rfl rfl (by nofun) ?_
                        refine L.pass rfl rfl (by nofun) ?_
                        refine L.pass rfl rfl (by nofun) ?_
                        refine L.y rfl (Y.pickT rfl rfl) ?_
                        refine L.nil ?_
                        exact E.joinJ ⟨true, rfl, rfl, h⟩ ⟨rfl, rfl, rfl, rfl, rfl, rfl, rfl, trivial⟩ (fun _ hw => hw)
                      ·
                        refine L.y rfl (Y.move rfl) ?_
                        refine L.take rfl ?_
                        refine L.y rfl (Y.move rfl) ?_
                        refine L.take rfl ?_
                        refine L.ite h rfl (Y.eql rfl rfl) (fun c31 h => ?_) (fun c31 h => ?_)
                        ·
                          refine L.take rfl ?_
                          refine L.y rfl (Y.move rfl) ?_
                          refine L.take rfl ?_
                          refine L.y rfl (Y.move rfl) ?_
                          refine L.take rfl ?_
                          refine L.ite h rfl (Y.neq rfl rfl) (fun c32 h => ?_) (fun c32 h => ?_)
                          ·
                            refine L.take rfl ?_
                            refine L.y rfl (Y.pickT rfl rfl) ?_
                            refine L.y rfl (Y.pickF rfl rfl) ?_
                            refine L.nil ?_
                            exact E.joinJ ⟨true, rfl, rfl, h⟩ ⟨rfl, rfl, rfl, rfl, rfl, rfl, rfl, trivial⟩ (fun _ hw => hw)
                          ·
                            refine L.take rfl ?_
                            refine L.y rfl (Y.pickT rfl rfl) ?_
                            refine L.y rfl (Y.pickF rfl rfl) ?_
                            refine L.nil ?_
                            exact E.joinJ ⟨false, rfl, rfl, h⟩ ⟨rfl, rfl, rfl, rfl, rfl, rfl, rfl, trivial⟩ (fun _ hw => hw)
                        ·
                          refine L.take rfl ?_
                          refine L.y rfl (Y.move rfl) ?_
                          refine L.pass rfl rfl (by nofun) ?_
                          refine L.pass rfl rfl (by nofun) ?_
                          refine L.take rfl ?_
                          refine L.y rfl (Y.pickF rfl rfl) ?_
                          refine L.y rfl (Y.pickF rfl rfl) ?_
                          refine L.nil ?_
                          exact E.joinJ ⟨false, rfl, rfl, h⟩ ⟨rfl, rfl, rfl, rfl, rfl, rfl, rfl, trivial⟩ (fun _ hw => hw)
                    ·
                      rintro _ _ ⟨gb17, rfl, rfl, h⟩
                      rw [m77_pact_Check_K14] at h
                      rcases gb17 with _ | _
                      ·
                        replace h := iteF h
                        refine L.y rfl (Y.assign rfl) ?_
                        refine L.nil ?_
                        refine E.blockN ?_
                        refine E.thenN ?_
                        refine W.region ?_
                        refine L.m (V := fun x28 => .int .i64 x28) h rfl (Y.addM rfl rfl) (fun x28 ex28 h => ?_)
                        refine L.y rfl (Y.move rfl) ?_
                        refine L.nil ?_
                        exact E.againJ ⟨true, false, true, x28, rfl, rfl, by rw [hg1]; exact h⟩ (Nat.lt_succ_self _) ⟨rfl, rfl, rfl, rfl, rfl, rfl, rfl, trivial⟩ (fun _ hw => hw)
                      ·
                        replace h := iteT h
                        refine L.y rfl (Y.assign rfl) ?_
                        refine L.nil ?_
                        refine E.blockN ?_
                        refine E.thenN ?_
                        refine W.region ?_
                        refine L.m (V := fun x29 => .int .i64 x29) h rfl (Y.addM rfl rfl) (fun x29 ex29 h => ?_)
                        refine L.y rfl (Y.move rfl) ?_
                        refine L.nil ?_
                        exact E.againJ ⟨true, true, true, x29, rfl, rfl, by rw [hg1]; exact h⟩ (Nat.lt_succ_self _) ⟨rfl, rfl, rfl, rfl, rfl, rfl, rfl, trivial⟩ (fun _ hw => hw)
      ·
        refine L.nil ?_
        refine E.thenN ?_
        refine W.seq ?_
        refine W.condF rfl ?_
        refine W.exit ?_
        refine E.thenX ?_
        refine E.KLX ?_
        refine E.blockX ?_
        exact E.joinJ ⟨gb6, gb7, gb8, rfl, rfl, h⟩ ⟨rfl, rfl, rfl, rfl, trivial⟩ (fun _ hw => hw)
    ·
      rintro _ _ ⟨gb1, gb2, gb3, rfl, rfl, h⟩
      rw [m77_pact_Check_K2] at h
      refine W.seq ?_
      refine W.seq ?_
      refine W.region ?_
      refine L.cutJ 10 (fun gs D => ∃ (gb4 : Bool), gs = [(1, pt b1 0), (5, .bool gb2), (6, .bool gb3), (115, .bool gb4)] ∧ D = Cls w [] [.obj b1 [.int .i64 a0.Lead, u0_0, u0_1] 111] ∧ m77_pact_Check_K3 a0 gb3 gb2 gb4 = some r) ?_ ?_
      ·
        refine L.y rfl (Y.fieldP fd111_0 rfl) ?_
        refine L.y rfl (Y.loadP (i := 0) ag3 rfl rfl rfl) ?_
        refine L.ite h rfl (Y.eql rfl rfl) (fun c5 h => ?_) (fun c5 h => ?_)
        ·
          refine L.y rfl (Y.move rfl) ?_
          refine L.take rfl ?_
          refine L.iteB h rfl (Y.move rfl) (fun c6 h => ?_) (fun c6 h => ?_)
          ·
            refine L.take rfl ?_
            refine L.y rfl (Y.not rfl) ?_
            refine L.take rfl ?_
            refine L.y rfl (Y.move rfl) ?_
            refine L.take rfl ?_
            refine L.iteB h rfl (Y.move rfl) (fun c7 h => ?_) (fun c7 h => ?_)
            ·
              refine L.take rfl ?_
              refine L.y rfl (Y.pickF rfl rfl) ?_
              refine L.y rfl (Y.pickT rfl rfl) ?_
              refine L.nil ?_
              exact E.joinJ ⟨true, rfl, rfl, h⟩ ⟨rfl, rfl, rfl, rfl, trivial⟩ (fun _ hw => hw)
            ·
              refine L.take rfl ?_
              refine L.y rfl (Y.pickF rfl rfl) ?_
              refine L.y rfl (Y.pickT rfl rfl) ?_
              refine L.nil ?_
              exact E.joinJ ⟨false, rfl, rfl, h⟩ ⟨rfl, rfl, rfl, rfl, trivial⟩ (fun _ hw => hw)
          ·
            refine L.take rfl ?_
            refine L.y rfl (Y.not rfl) ?_
            refine L.take rfl ?_
            refine L.y rfl (Y.move rfl) ?_
            refine L.pass rfl rfl (by nofun) ?_
            refine L.take rfl ?_
            refine L.y rfl (Y.pickT rfl rfl) ?_
            refine L.y rfl (Y.pickT rfl rfl) ?_
            refine L.nil ?_
            exact E.joinJ ⟨true, rfl, rfl, h⟩ ⟨rfl, rfl, rfl, rfl, trivial⟩ (fun _ hw => hw)
        ·
          refine L.y rfl (Y.move rfl) ?_
          refine L.pass rfl rfl (by nofun) ?_
          refine L.pass rfl rfl (by nofun) ?_
          refine L.pass rfl rfl (by nofun) ?_
          refine L.pass rfl rfl (by nofun) ?_
          refine L.pass rfl rfl (by nofun) ?_
          refine L.y rfl (Y.pickF rfl rfl) ?_
          refine L.nil ?_
          exact E.joinJ ⟨false, rfl, rfl, h⟩ ⟨rfl, rfl, rfl, rfl, trivial⟩ (fun _ hw => hw)
      ·
        rintro _ _ ⟨gb4, rfl, rfl, h⟩
        rw [m77_pact_Check_K3] at h
        rcases gb4 with _ | _
        ·
          replace h := iteF h
          refine L.cutJ 7 (fun gs D => ∃ (gb5 : Bool), gs = [(5, .bool gb2), (116, .bool false), (122, .bool gb5)] ∧ D = Cls w [] [] ∧ m77_pact_Check_K4 gb2 gb5 = some r) ?_ ?_
          ·
            refine L.y rfl (Y.move rfl) ?_
            refine L.take rfl ?_
            refine L.y rfl (Y.fieldP fd111_0 rfl) ?_
            refine L.take rfl ?_
            refine L.y rfl (Y.loadP (i := 0) ag3 rfl rfl rfl) ?_
            refine L.take rfl ?_
            refine L.ite h rfl (Y.eql rfl rfl) (fun c3 h => ?_) (fun c3 h => ?_)
            ·
              refine L.take rfl ?_
              refine L.y rfl (Y.move rfl) ?_
              refine L.take rfl ?_
              refine L.iteB h rfl (Y.move rfl) (fun c4 h => ?_) (fun c4 h => ?_)
              ·
                refine L.take rfl ?_
                refine L.y rfl (Y.pickT rfl rfl) ?_
                refine L.nil ?_
                exact E.joinJ ⟨true, rfl, rfl, h⟩ ⟨rfl, rfl, rfl, trivial⟩ (fun _ hw => hw.sel [] (by decide) rfl)
              ·
                refine L.take rfl ?_
                refine L.y rfl (Y.pickT rfl rfl) ?_
                refine L.nil ?_
                exact E.joinJ ⟨false, rfl, rfl, h⟩ ⟨rfl, rfl, rfl, trivial⟩ (fun _ hw => hw.sel [] (by decide) rfl)
            ·
              refine L.take rfl ?_
              refine L.y rfl (Y.move rfl) ?_
              refine L.pass rfl rfl (by nofun) ?_
              refine L.take rfl ?_
              refine L.y rfl (Y.pickF rfl rfl) ?_
              refine L.nil ?_
              exact E.joinJ ⟨false, rfl, rfl, h⟩ ⟨rfl, rfl, rfl, trivial⟩ (fun _ hw => hw.sel [] (by decide) rfl)
          ·
            rintro _ _ ⟨gb5, rfl, rfl, h⟩
            rw [m77_pact_Check_K4] at h
            rcases gb5 with _ | _
            ·
              replace h := iteF h
              refine L.take rfl ?_
              refine L.y rfl (Y.move rfl) ?_
              refine L.pass rfl rfl (by nofun) ?_
              refine L.pass rfl rfl (by nofun) ?_
              refine L.take rfl ?_
              refine L.y rfl (Y.pickF rfl rfl) ?_
              refine L.y rfl (Y.pickF rfl rfl) ?_
              refine L.nil ?_
              refine E.thenN ?_
              refine W.condF rfl ?_
              refine W.skip ?_
              refine E.thenN ?_
              refine W.seq ?_
              refine W.region ?_
              refine L.y rfl (Y.assign rfl) ?_
              refine L.nil ?_
              refine E.thenN ?_
              refine W.ret ?_
              refine E.ret1 rfl rfl (fun w1 hw => ?_)
              obtain rfl := Option.some.inj h
              exact ⟨_, _, rfl, ⟨rfl, rfl⟩, hw⟩
            ·
              replace h := iteT h
              refine L.take rfl ?_
              refine L.y rfl (Y.move rfl) ?_
              refine L.take rfl ?_
              refine L.iteB h rfl (Y.move rfl) (fun c2 h => ?_) (fun c2 h => ?_)
              ·
                refine L.take rfl ?_
                refine L.y rfl (Y.not rfl) ?_
                refine L.take rfl ?_
                refine L.y rfl (Y.pickT rfl rfl) ?_
                refine L.y rfl (Y.pickF rfl rfl) ?_
                refine L.nil ?_
                refine E.thenN ?_
                refine W.condF rfl ?_
                refine W.skip ?_
                refine E.thenN ?_
                refine W.seq ?_
                refine W.region ?_
                refine L.y rfl (Y.assign rfl) ?_
                refine L.nil ?_
                refine E.thenN ?_
                refine W.ret ?_
                refine E.ret1 rfl rfl (fun w1 hw => ?_)
                obtain rfl := Option.some.inj h
                exact ⟨_, _, rfl, ⟨rfl, rfl⟩, hw⟩
              ·
                refine L.take rfl ?_
                refine L.y rfl (Y.not rfl) ?_
                refine L.take rfl ?_
                refine L.y rfl (Y.pickT rfl rfl) ?_
                refine L.y rfl (Y.pickF rfl rfl) ?_
                refine L.nil ?_
                refine E.thenN ?_
                refine W.condT rfl ?_
                refine W.seq ?_
                refine W.region ?_
                refine L.y rfl (Y.assign rfl) ?_
                refine L.nil ?_
                refine E.thenN ?_
                refine W.ret ?_
                refine E.thenR ?_
                refine E.ret1 rfl rfl (fun w1 hw => ?_)
                obtain rfl := Option.some.inj h
                exact ⟨_, _, rfl, ⟨rfl, rfl⟩, hw⟩
        ·
          replace h := iteT h
          refine L.y rfl (Y.move rfl) ?_
          refine L.pass rfl rfl (by nofun) ?_
          refine L.pass rfl rfl (by nofun) ?_
          refine L.pass rfl rfl (by nofun) ?_
          refine L.pass rfl rfl (by nofun) ?_
          refine L.pass rfl rfl (by nofun) ?_
          refine L.pass rfl rfl (by nofun) ?_
          refine L.pass rfl rfl (by nofun) ?_
          refine L.pass rfl rfl (by nofun) ?_
          refine L.pass rfl rfl (by nofun) ?_
          refine L.pass rfl rfl (by nofun) ?_
          refine L.y rfl (Y.pickT rfl rfl) ?_
          refine L.nil ?_
          refine E.thenN ?_
          refine W.condT rfl ?_
          refine W.seq ?_
          refine W.region ?_
          refine L.y rfl (Y.assign rfl) ?_
          refine L.nil ?_
          refine E.thenN ?_
          refine W.ret ?_
          refine E.thenR ?_
          refine E.ret1 rfl rfl (fun w1 hw => ?_)
          obtain rfl := Option.some.inj h
          exact ⟨_, _, rfl, ⟨rfl, rfl⟩, hw.sel [] (by decide) rfl⟩
set_option maxRecDepth 100000 in
set_option maxHeartbeats 8000000 in
theorem w104_slices_Clone_int (a0 : (List Int)) (u0 : Value) (w : World) (r : (List Int)) (h : m104_slices_Clone_int a0 = some r) (hA0 : At w u0 1 (a0.map I)) : Does Try.prog 104 [u0] w fun u m => ∃ v0, u = v0 ∧ m = [.sl v0 3 1 (r.map I)] := by
  rw [m104_slices_Clone_int] at h
  rcases hA0.shape with ⟨rfl, hn⟩ | ⟨ad, cap, rfl, hl, hm⟩
  ·
    obtain rfl : a0 = [] := by simpa using hn
    replace h : some ([] : List Int) = some r := by simpa [app] using h
    refine body (n := 8) Try.func104 rfl rfl rfl (Cls.refl w) ?_
    refine W.seq ?_
    refine W.region ?_
    refine L.y rfl (Y.assign rfl) ?_
    refine L.nil ?_
    refine E.thenN ?_
    refine W.seq ?_
    refine W.seq ?_
    refine W.region ?_
    refine L.y rfl (Y.move rfl) ?_
    refine L.y rfl (Y.eqlNil Try.underlying24 rfl rfl) ?_
    refine L.nil ?_
    refine E.thenN ?_
    refine W.condT rfl ?_
    refine W.seq ?_
    refine W.region ?_
    refine L.y rfl (Y.assign rfl) ?_
    refine L.nil ?_
    refine E.thenN ?_
    refine W.ret ?_
    refine E.thenR ?_
    refine E.ret1 rfl rfl (fun w1 hw => ?_)
    obtain rfl := Option.some.inj h
    exact ⟨_, _, rfl, ⟨_, rfl, rfl⟩, (hw.nilSl 3 1)⟩
  ·
    refine body (n := 8) Try.func104 rfl rfl rfl (Cls.refl w) ?_
    refine W.seq ?_
    refine W.region ?_
    refine L.y rfl (Y.assign rfl) ?_
    refine L.nil ?_
    refine E.thenN ?_
    refine W.seq ?_
    refine W.seq ?_
    refine W.region ?_
    refine L.y rfl (Y.move rfl) ?_
    refine L.y rfl (Y.eqlNil Try.underlying24 rfl rfl) ?_
    refine L.nil ?_
    refine E.thenN ?_
    refine W.condF rfl ?_
    refine W.skip ?_
    refine E.thenN ?_
    refine W.seq ?_
    refine W.region ?_
    refine L.lit0 rfl Try.underlying24 el3 ?_
    intro b1
    refine L.y rfl (Y.move rfl) ?_
    refine L.appM (i := 0) (g := I) (l := []) (more := a0) h rfl Try.underlying24 el3 rfl rfl rfl (fun w' hw => hA0.cls0 hw) (plain_ints _) rfl ?_
    intro v2 l3 el3 h
    refine L.y rfl (Y.assign rfl) ?_
    refine L.nil ?_
    refine E.thenN ?_
    refine W.ret ?_
    refine E.ret1 rfl rfl (fun w1 hw => ?_)
    obtain rfl := Option.some.inj h
    exact ⟨_, _, rfl, ⟨_, rfl, rfl⟩, hw⟩
set_option maxRecDepth 100000 in
set_option maxHeartbeats 8000000 in
theorem w121_slices_Index_int (a0 : (List Int)) (a1 : Int) (u0 : Value) (w : World) (r : Int) (h : m121_slices_Index_int a0 a1 = some r) (hA0 : At w u0 1 (a0.map I)) : Does Try.prog 121 [u0, .int .i64 a1] w fun u m => u = .int .i64 r ∧ m = [] := by
  rw [m121_slices_Index_int] at h
  refine body (n := 19) Try.func121 rfl rfl rfl (Cls.refl w) ?_
  refine W.seq ?_
  refine W.region ?_
  refine L.y rfl (Y.assign rfl) ?_
  refine L.nil ?_
  refine E.thenN ?_
  refine W.seqJ (fun gs D => gs = [] ∧ D = Cls w [] [] ∧ m121_slices_Index_int_K1 = some r) ?_ ?_
  ·
    refine W.seq ?_
    refine W.region ?_
    refine L.y rfl (Y.move rfl) ?_
    refine L.y rfl (Y.lenM (g := I) (l := a0) Try.underlying24 rfl (fun w' hw => hA0.cls0 hw)) ?_
    refine L.y rfl (Y.move rfl) ?_
    refine L.nil ?_
    refine E.thenN ?_
    refine W.block ?_
    refine W.loopJ (fun m gs D => ∃ (gx1 : Int), gs = [(0, u0), (1, .int .i64 a1), (7, .int .i64 (a0.length : Int)), (8, .int .i64 gx1)] ∧ D = Cls w [] [] ∧ m121_slices_Index_int_L1 a0 a1 m gx1 = some r) ⟨0, rfl, rfl, h⟩ ⟨rfl, rfl, rfl, rfl, trivial⟩ (fun _ hw => hw) ?_
    rintro m _ _ ⟨gx1, rfl, rfl, h⟩
    rcases m with _ | m
    · rw [m121_slices_Index_int_L1] at h; cases h
    rw [m121_slices_Index_int_L1] at h
    generalize hg1 : m121_slices_Index_int_L1 a0 a1 m = go1 at h
    rw [m121_slices_Index_int_L1B] at h
    refine W.seq ?_
    refine W.region ?_
    refine L.ite h rfl (Y.lss rfl rfl) (fun c1 h => ?_) (fun c1 h => ?_)
    ·
      refine L.nil ?_
      refine E.thenN ?_
      refine W.seq ?_
      refine W.condT rfl ?_
      refine W.skip ?_
      refine E.thenN ?_
      refine W.seq ?_
      refine W.block ?_
      refine W.seq ?_
      refine W.region ?_
      refine L.y rfl (Y.move rfl) ?_
      refine L.y rfl (Y.assign rfl) ?_
      refine L.nil ?_
      refine E.thenN ?_
      refine W.seq ?_
      refine W.region ?_
      refine L.y rfl (Y.move rfl) ?_
      refine L.y rfl (Y.move rfl) ?_
      refine L.y rfl (Y.move rfl) ?_
      refine L.m (V := fun _ => el u0 (gx1.toNat * 1)) h rfl (Y.indexM (g := I) (l := a0) Try.underlying24 sz3 rfl rfl (fun w' hw => hA0.cls0 hw)) (fun x2 ex2 h => ?_)
      refine L.y rfl (Y.loadE1 (u := .int .i64 x2) ag3 rfl (fun w' hw => hA0.cls0 hw) (idx_map ex2)) ?_
      refine L.ite h rfl (Y.eql rfl rfl) (fun c3 h => ?_) (fun c3 h => ?_)
      ·
        refine L.nil ?_
        refine E.thenN ?_
        refine W.condT rfl ?_
        refine W.seq ?_
        refine W.region ?_
        refine L.y rfl (Y.move rfl) ?_
        refine L.y rfl (Y.assign rfl) ?_
        refine L.nil ?_
        refine E.thenN ?_
        refine W.ret ?_
        refine E.blockR ?_
        refine E.thenR ?_
        refine E.KLR ?_
        refine E.blockR ?_
        refine E.KSR ?_
        refine E.ret1 rfl rfl (fun w1 hw => ?_)
        obtain rfl := Option.some.inj h
        exact ⟨_, _, rfl, ⟨rfl, rfl⟩, hw⟩
      ·
        refine L.nil ?_
        refine E.thenN ?_
        refine W.condF rfl ?_
        refine W.skip ?_
        refine E.blockN ?_
        refine E.thenN ?_
        refine W.region ?_
        refine L.m (V := fun x4 => .int .i64 x4) h rfl (Y.addM rfl rfl) (fun x4 ex4 h => ?_)
        refine L.y rfl (Y.move rfl) ?_
        refine L.nil ?_
        exact E.againJ ⟨x4, rfl, rfl, by rw [hg1]; exact h⟩ (Nat.lt_succ_self _) ⟨rfl, rfl, rfl, rfl, trivial⟩ (fun _ hw => hw)
    ·
      refine L.nil ?_
      refine E.thenN ?_
      refine W.seq ?_
      refine W.condF rfl ?_
      refine W.exit ?_
      refine E.thenX ?_
      refine E.KLX ?_
      refine E.blockX ?_
      exact E.joinJ ⟨rfl, rfl, h⟩ trivial (fun _ hw => hw)
  ·
    rintro _ _ ⟨rfl, rfl, h⟩
    rw [m121_slices_Index_int_K1] at h
    refine W.seq ?_
    refine W.region ?_
    refine L.y rfl (Y.assign rfl) ?_
    refine L.nil ?_
    refine E.thenN ?_
    refine W.ret ?_
    refine E.ret1 rfl rfl (fun w1 hw => ?_)
    obtain rfl := Option.some.inj h
    exact ⟨_, _, rfl, ⟨rfl, rfl⟩, hw⟩
set_option maxRecDepth 100000 in
set_option maxHeartbeats 8000000 in
theorem w134_slices_Contains_int (a0 : (List Int)) (a1 : Int) (u0 : Value) (w : World) (r : Bool) (h : m134_slices_Contains_int a0 a1 = some r) (hA0 : At w u0 1 (a0.map I)) : Does Try.prog 134 [u0, .int .i64 a1] w fun u m => u = .bool r ∧ m = [] := by
  rw [m134_slices_Contains_int] at h
  refine body (n := 9) Try.func134 rfl rfl rfl (Cls.refl w) ?_
  refine W.seq ?_
  refine W.region ?_
  refine L.y rfl (Y.assign rfl) ?_
  refine L.nil ?_
  refine E.thenN ?_
  refine W.seq ?_
  refine W.region ?_
  refine L.y rfl (Y.move rfl) ?_
  refine L.y rfl (Y.move rfl) ?_
  obtain ⟨x1, e2, h⟩ := bind1S h
  refine L.y rfl (Y.does en121 rfl (fun w' hw => (w121_slices_Index_int a0 a1 u0 w' _ e2 (hA0.cls0 hw)).mono (fun _ _ h => h.1))) ?_
  refine L.y rfl (Y.geq rfl rfl) ?_
  refine L.y rfl (Y.assign rfl) ?_
  refine L.nil ?_
  refine E.thenN ?_
  refine W.ret ?_
  refine E.ret1 rfl rfl (fun w1 hw => ?_)
  obtain rfl := Option.some.inj h
  exact ⟨_, _, rfl, ⟨rfl, rfl⟩, hw⟩
end Go.Proofs.Ytfmgjigdebofaaa
