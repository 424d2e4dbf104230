/-
  Walks, printed by a program of mine.
  Conditions: none.
-/
import Derived.Test.YtfmgjigdebofaaaPcW3
import Derived.Test.YtfmgjigdebofaaaChecked
import Derived.KernelRfl
namespace Go.Proofs.Ytfmgjigdebofaaa
open Go.S
set_option linter.unusedVariables false
set_option linter.unusedSimpArgs false
set_option maxRecDepth 100000 in
set_option maxHeartbeats 8000000 in
theorem w12_quirlaw_PactSays (a0 : Int) (a1 : TPact) (a2 : TBeat) (u1_0 : Value) (u1_1 : Value) (w : World) (r : Bool) (h : m12_quirlaw_PactSays a0 a1 a2 = some r) (hA1_0 : At w u1_0 1 (a1.Votes.map I)) (hA1_1 : At w u1_1 1 (a1.Parts.map I)) : Does Try.prog 12 [.int .i64 a0, .agg #[.int .i64 a1.Lead, u1_0, u1_1], .agg #[.int .i64 a2.Kind, .int .i64 a2.Who, .int .i64 a2.By]] w fun u m => u = .bool r ∧ m = [] := by
  rw [m12_quirlaw_PactSays] at h
  refine body (n := 163) Try.func12 rfl rfl rfl (Cls.refl w) ?_
  refine W.seq ?_
  refine W.region ?_
  refine L.box rfl rfl ?_
  intro b1
  refine L.box rfl rfl ?_
  intro b2
  refine L.y rfl (Y.assign rfl) ?_
  refine L.nil ?_
  refine E.thenN ?_
  refine W.seq ?_
  refine W.region ?_
  refine L.y rfl (Y.move rfl) ?_
  obtain ⟨x3, x6, e7, h⟩ := bind2S h
  refine L.does rfl en72 rfl (fun w' hw => w72_pact_New a0 w' _ e7) ?_
  rintro _ _ ⟨v4, v5, rfl, rfl⟩
  refine L.y rfl (Y.move rfl) ?_
  refine L.y rfl (Y.extract rfl rfl) ?_
  refine L.y rfl (Y.extract rfl rfl) ?_
  refine L.alloc rfl ze111 ?_
  intro b8
  refine L.storeC (i := 0) sz111 rfl rfl rfl rfl (fun w hw => (all1 rfl (all1 (As.at_ (hw.get (i := 1) rfl)).one (all1 (As.at_ (hw.get (i := 2) rfl)).one all0)))) rfl (Nat.le_of_ble_eq_true rfl) ?_
  refine L.y rfl (Y.assign rfl) ?_
  refine L.nil ?_
  refine E.thenN ?_
  refine W.seq ?_
  refine W.region ?_
  refine L.y rfl (Y.loadPW (i := 4) ag111 sz111 rfl rfl rfl) ?_
  obtain ⟨x9, e10, h⟩ := bind1S h
  refine L.y rfl (Y.does en73 rfl (fun w' hw => (w73_quirref_PactErr a1 u1_0 u1_1 w' _ e10 (hA1_0.cls0 hw) (hA1_1.cls0 hw)).mono (fun _ _ h => h.1))) ?_
  refine L.y rfl (Y.assign rfl) ?_
  refine L.nil ?_
  refine E.thenN ?_
  refine W.seq ?_
  refine W.region ?_
  refine L.y rfl (Y.loadPW (i := 4) ag111 sz111 rfl rfl rfl) ?_
  refine L.y rfl (Y.loadPW (i := 3) ag113 sz113 rfl rfl rfl) ?_
  obtain ⟨x11, x14, e15, h⟩ := bind2S h
  refine L.does rfl en74 rfl (fun w' hw => w74_pact_Step a1 a2 u1_0 u1_1 w' _ e15 (hA1_0.cls0 hw) (hA1_1.cls0 hw)) ?_
  rintro _ _ ⟨v12, v13, rfl, rfl⟩
  refine L.y rfl (Y.move rfl) ?_
  refine L.y rfl (Y.extract rfl rfl) ?_
  refine L.y rfl (Y.extract rfl rfl) ?_
  refine L.alloc rfl ze111 ?_
  intro b16
  refine L.storeC (i := 0) sz111 rfl rfl rfl rfl (fun w hw => (all1 rfl (all1 (As.at_ (hw.get (i := 1) rfl)).one (all1 (As.at_ (hw.get (i := 2) rfl)).one all0)))) rfl (Nat.le_of_ble_eq_true rfl) ?_
  refine L.y rfl (Y.assign rfl) ?_
  refine L.nil ?_
  refine E.thenN ?_
  refine W.seq ?_
  refine W.region ?_
  refine L.y rfl (Y.loadPW (i := 7) ag111 sz111 rfl rfl rfl) ?_
  obtain ⟨l17, x19, e20, h⟩ := bind2S h
  refine L.does rfl en75 rfl (fun w' hw => w75_pact_Stuck a1 u1_0 u1_1 w' _ e20 (hA1_0.cls0 hw) (hA1_1.cls0 hw)) ?_
  rintro _ _ ⟨v18, rfl, rfl⟩
  refine L.y rfl (Y.move rfl) ?_
  refine L.y rfl (Y.extract rfl rfl) ?_
  refine L.y rfl (Y.extract rfl rfl) ?_
  refine L.y rfl (Y.assign rfl) ?_
  refine L.y rfl (Y.assign rfl) ?_
  refine L.nil ?_
  refine E.thenN ?_
  refine W.seqJ (fun gs D => gs = [(4, pt b1 0), (5, pt b2 0), (9, .int .i64 x9), (10, pt b16 0), (11, .int .i64 x14), (12, v18), (13, .int .i64 x19)] ∧ D = Cls w [] [.obj b16 [.int .i64 x11.Lead, v12, v13] 111, .obj b2 [.int .i64 a2.Kind, .int .i64 a2.Who, .int .i64 a2.By] 113, .obj b1 [.int .i64 a1.Lead, u1_0, u1_1] 111, .sl v18 3 1 (l17.map I), .sl v12 3 1 (x11.Votes.map I), .sl v13 3 1 (x11.Parts.map I)] ∧ m12_quirlaw_PactSays_K1 a1 x9 x11 x14 l17 x19 a2 = some r) ?_ ?_
  ·
    refine W.seqJ (fun gs D => ∃ (gb14 : Bool), gs = [(0, .int .i64 a0), (4, pt b1 0), (5, pt b2 0), (7, pt b8 0), (8, .int .i64 x6), (9, .int .i64 x9), (10, pt b16 0), (11, .int .i64 x14), (12, v18), (13, .int .i64 x19), (40, .bool gb14)] ∧ D = Cls w [] [.obj b16 [.int .i64 x11.Lead, v12, v13] 111, .obj b8 [.int .i64 x3.Lead, v4, v5] 111, .obj b2 [.int .i64 a2.Kind, .int .i64 a2.Who, .int .i64 a2.By] 113, .obj b1 [.int .i64 a1.Lead, u1_0, u1_1] 111, .sl v18 3 1 (l17.map I), .sl v12 3 1 (x11.Votes.map I), .sl v13 3 1 (x11.Parts.map I), .sl v4 3 1 (x3.Votes.map I), .sl v5 3 1 (x3.Parts.map I)] ∧ m12_quirlaw_PactSays_K22 x3 x6 a1 x9 x11 x14 l17 x19 a2 a0 gb14 = some r) ?_ ?_
    ·
      refine W.region ?_
      refine L.y rfl (Y.move rfl) ?_
      refine L.ite h rfl (Y.lss rfl rfl) (fun c114 h => ?_) (fun c114 h => ?_)
      ·
        refine L.y rfl (Y.move rfl) ?_
        refine L.pass rfl rfl (by nofun) ?_
        refine L.pass rfl rfl (by nofun) ?_
        refine L.y rfl (Y.pickT rfl rfl) ?_
        refine L.nil ?_
        exact E.joinJ ⟨true, rfl, rfl, h⟩ ⟨rfl, rfl, rfl, rfl, rfl, rfl, rfl, rfl, rfl, rfl, rfl, trivial⟩ (fun _ hw => hw.sel [1, 4, 7, 8, 0, 2, 3, 5, 6] (by decide) rfl)
      ·
        refine L.y rfl (Y.move rfl) ?_
        refine L.take rfl ?_
        refine L.y rfl (Y.move rfl) ?_
        refine L.take rfl ?_
        refine L.ite h rfl (Y.gtr rfl rfl) (fun c115 h => ?_) (fun c115 h => ?_)
        ·
          refine L.y rfl (Y.pickF rfl rfl) ?_
          refine L.nil ?_
          exact E.joinJ ⟨true, rfl, rfl, h⟩ ⟨rfl, rfl, rfl, rfl, rfl, rfl, rfl, rfl, rfl, rfl, rfl, trivial⟩ (fun _ hw => hw.sel [1, 4, 7, 8, 0, 2, 3, 5, 6] (by decide) rfl)
        ·
          refine L.y rfl (Y.pickF rfl rfl) ?_
          refine L.nil ?_
          exact E.joinJ ⟨false, rfl, rfl, h⟩ ⟨rfl, rfl, rfl, rfl, rfl, rfl, rfl, rfl, rfl, rfl, rfl, trivial⟩ (fun _ hw => hw.sel [1, 4, 7, 8, 0, 2, 3, 5, 6] (by decide) rfl)
    ·
      rintro _ _ ⟨gb14, rfl, rfl, h⟩
      rw [m12_quirlaw_PactSays_K22] at h
      rcases gb14 with _ | _
      ·
        replace h := iteF h
        refine W.condF rfl ?_
        refine W.seqJ (fun gs D => ∃ (gb15 : Bool), gs = [(4, pt b1 0), (5, pt b2 0), (9, .int .i64 x9), (10, pt b16 0), (11, .int .i64 x14), (12, v18), (13, .int .i64 x19), (60, .bool gb15)] ∧ D = Cls w [] [.obj b16 [.int .i64 x11.Lead, v12, v13] 111, .obj b2 [.int .i64 a2.Kind, .int .i64 a2.Who, .int .i64 a2.By] 113, .obj b1 [.int .i64 a1.Lead, u1_0, u1_1] 111, .sl v18 3 1 (l17.map I), .sl v12 3 1 (x11.Votes.map I), .sl v13 3 1 (x11.Parts.map I)] ∧ m12_quirlaw_PactSays_K23 a1 x9 x11 x14 l17 x19 a2 gb15 = some r) ?_ ?_
        ·
          refine W.drawn (k := 12) (D := Cls w [] [.obj b16 [.int .i64 x11.Lead, v12, v13] 111, .obj b8 [.int .i64 x3.Lead, v4, v5] 111, .obj b2 [.int .i64 a2.Kind, .int .i64 a2.Who, .int .i64 a2.By] 113, .obj b1 [.int .i64 a1.Lead, u1_0, u1_1] 111, .sl v18 3 1 (l17.map I), .sl v12 3 1 (x11.Votes.map I), .sl v13 3 1 (x11.Parts.map I), .sl v4 3 1 (x3.Votes.map I), .sl v5 3 1 (x3.Parts.map I)]) rfl mixed (fun _ hw => hw.drew) (fun _ hw => hw) ?_
          refine V.y (i := 0) (Nx.of (by kernel_rfl) rfl) rfl rfl rfl (Y.loadPW (i := 1) ag111 sz111 rfl rfl rfl) ?_
          refine V.y (i := 1) (Nx.of (by kernel_rfl) rfl) rfl rfl rfl (Y.move rfl) ?_
          refine V.y (i := 3) (Nx.of (by kernel_rfl) rfl) rfl rfl rfl (Y.move rfl) ?_
          obtain ⟨y97, e98, h⟩ := bind1S h
          obtain ⟨y99, e100, h⟩ := bind1S h
          refine V.eff2 (i1 := 2) (i2 := 4) (by kernel_rfl) rfl rfl ?_ ?_
          ·
            refine L.makeE (row := I) (z0 := 0) e98 rfl Try.underlying24 el3 ze3 rfl rfl rfl ?_
            intro b101
            refine L.nil ?_
            refine E.toV (D' := Cls w [] [.obj b16 [.int .i64 x11.Lead, v12, v13] 111, .obj b8 [.int .i64 x3.Lead, v4, v5] 111, .obj b2 [.int .i64 a2.Kind, .int .i64 a2.Who, .int .i64 a2.By] 113, .obj b1 [.int .i64 a1.Lead, u1_0, u1_1] 111, .sl v18 3 1 (l17.map I), .sl v12 3 1 (x11.Votes.map I), .sl v13 3 1 (x11.Parts.map I), .sl v4 3 1 (x3.Votes.map I), .sl v5 3 1 (x3.Parts.map I)]) (fun _ hw => hw) (fun _ hw => hw.sel [1, 2, 3, 4, 5, 6, 7, 8, 9] (by decide) rfl) ?_
            refine V.eff (i := 4) (by kernel_rfl) rfl ?_
            refine L.makeE (row := I) (z0 := 0) e100 rfl Try.underlying24 el3 ze3 rfl rfl rfl ?_
            intro b102
            refine L.nil ?_
            refine E.toV (D' := Cls w [] [.obj b16 [.int .i64 x11.Lead, v12, v13] 111, .obj b8 [.int .i64 x3.Lead, v4, v5] 111, .obj b2 [.int .i64 a2.Kind, .int .i64 a2.Who, .int .i64 a2.By] 113, .obj b1 [.int .i64 a1.Lead, u1_0, u1_1] 111, .sl v18 3 1 (l17.map I), .sl v12 3 1 (x11.Votes.map I), .sl v13 3 1 (x11.Parts.map I), .sl v4 3 1 (x3.Votes.map I), .sl v5 3 1 (x3.Parts.map I)]) (fun _ hw => hw) (fun _ hw => hw.sel [2, 3, 4, 5, 6, 7, 8, 9, 10] (by decide) rfl) ?_
            refine V.eff (i := 5) (by kernel_rfl) rfl ?_
            refine L.y rfl (Y.buildC (cells := #[.int .i64 0, (sv b101 a0.toNat), (sv b102 a0.toNat)]) rfl (fun w hw => by rcases ((As.at_ (hw.get (i := 1) rfl))).shape with ⟨h0, _⟩ | ⟨_, _, h0, _, _⟩ <;> rcases ((As.at_ (hw.get (i := 0) rfl))).shape with ⟨h1, _⟩ | ⟨_, _, h1, _, _⟩ <;> simp only [h0, h1] <;> kernel_rfl)) ?_
            refine L.nil ?_
            refine E.toV (D' := Cls w [] [.obj b16 [.int .i64 x11.Lead, v12, v13] 111, .obj b8 [.int .i64 x3.Lead, v4, v5] 111, .obj b2 [.int .i64 a2.Kind, .int .i64 a2.Who, .int .i64 a2.By] 113, .obj b1 [.int .i64 a1.Lead, u1_0, u1_1] 111, .sl v18 3 1 (l17.map I), .sl v12 3 1 (x11.Votes.map I), .sl v13 3 1 (x11.Parts.map I), .sl v4 3 1 (x3.Votes.map I), .sl v5 3 1 (x3.Parts.map I)]) (fun _ hw => hw) (fun _ hw => hw.sel [2, 3, 4, 5, 6, 7, 8, 9, 10] (by decide) rfl) ?_
            refine V.eff (i := 6) (by kernel_rfl) rfl ?_
            obtain ⟨b103, e104, h⟩ := bind1S h
            refine L.y rfl (Y.does en76 rfl (fun w' hw => (w76_quirref_SamePact x3 (⟨0, y97, y99⟩ : TPact) v4 v5 (sv b101 a0.toNat) (sv b102 a0.toNat) w' _ e104 (As.at_ (hw.get (i := 9) rfl)) (As.at_ (hw.get (i := 10) rfl)) (As.at_ (hw.get (i := 1) rfl)) (As.at_ (hw.get (i := 0) rfl))).mono (fun _ _ h => h.1))) ?_
            rcases b103 with _ | _
            ·
              replace h := iteF h
              refine L.nil ?_
              refine E.toV (D' := Cls w [] [.obj b16 [.int .i64 x11.Lead, v12, v13] 111, .obj b8 [.int .i64 x3.Lead, v4, v5] 111, .obj b2 [.int .i64 a2.Kind, .int .i64 a2.Who, .int .i64 a2.By] 113, .obj b1 [.int .i64 a1.Lead, u1_0, u1_1] 111, .sl v18 3 1 (l17.map I), .sl v12 3 1 (x11.Votes.map I), .sl v13 3 1 (x11.Parts.map I), .sl v4 3 1 (x3.Votes.map I), .sl v5 3 1 (x3.Parts.map I)]) (fun _ hw => hw) (fun _ hw => hw.sel [2, 3, 4, 5, 6, 7, 8, 9, 10] (by decide) rfl) ?_
              refine V.y (i := 7) (Nx.of (by kernel_rfl) rfl) rfl rfl rfl (Y.not rfl) ?_
              refine V.y (i := 8) (Nx.of (by kernel_rfl) rfl) rfl rfl rfl (Y.move rfl) ?_
              refine V.pass (i := 9) (Nx.of (by kernel_rfl) rfl) rfl rfl ?_
              refine V.pass (i := 10) (Nx.of (by kernel_rfl) rfl) rfl rfl ?_
              refine V.y (i := 11) (Nx.of (by kernel_rfl) rfl) rfl rfl rfl (Y.pickT rfl rfl) ?_
              refine V.done (by kernel_rfl) ?_
              exact E.joinJ ⟨true, rfl, rfl, h⟩ ⟨rfl, rfl, rfl, rfl, rfl, rfl, rfl, rfl, trivial⟩ (fun _ hw => hw.sel [2, 4, 5, 6, 7, 8] (by decide) rfl)
            ·
              replace h := iteT h
              refine L.nil ?_
              refine E.toV (D' := Cls w [] [.obj b16 [.int .i64 x11.Lead, v12, v13] 111, .obj b8 [.int .i64 x3.Lead, v4, v5] 111, .obj b2 [.int .i64 a2.Kind, .int .i64 a2.Who, .int .i64 a2.By] 113, .obj b1 [.int .i64 a1.Lead, u1_0, u1_1] 111, .sl v18 3 1 (l17.map I), .sl v12 3 1 (x11.Votes.map I), .sl v13 3 1 (x11.Parts.map I), .sl v4 3 1 (x3.Votes.map I), .sl v5 3 1 (x3.Parts.map I)]) (fun _ hw => hw) (fun _ hw => hw.sel [2, 3, 4, 5, 6, 7, 8, 9, 10] (by decide) rfl) ?_
              refine V.y (i := 7) (Nx.of (by kernel_rfl) rfl) rfl rfl rfl (Y.not rfl) ?_
              refine V.y (i := 8) (Nx.of (by kernel_rfl) rfl) rfl rfl rfl (Y.move rfl) ?_
              refine V.y (i := 9) (Nx.of (by kernel_rfl) rfl) rfl rfl rfl (Y.move rfl) ?_
              refine V.ite (i := 10) h (Nx.of (by kernel_rfl) rfl) rfl rfl rfl (Y.neq rfl rfl) (fun c105 h => ?_) (fun c105 h => ?_)
              ·
                refine V.y (i := 11) (Nx.of (by kernel_rfl) rfl) rfl rfl rfl (Y.pickF rfl rfl) ?_
                refine V.done (by kernel_rfl) ?_
                exact E.joinJ ⟨true, rfl, rfl, h⟩ ⟨rfl, rfl, rfl, rfl, rfl, rfl, rfl, rfl, trivial⟩ (fun _ hw => hw.sel [2, 4, 5, 6, 7, 8] (by decide) rfl)
              ·
                refine V.y (i := 11) (Nx.of (by kernel_rfl) rfl) rfl rfl rfl (Y.pickF rfl rfl) ?_
                refine V.done (by kernel_rfl) ?_
                exact E.joinJ ⟨false, rfl, rfl, h⟩ ⟨rfl, rfl, rfl, rfl, rfl, rfl, rfl, rfl, trivial⟩ (fun _ hw => hw.sel [2, 4, 5, 6, 7, 8] (by decide) rfl)
          ·
            refine L.makeE (row := I) (z0 := 0) e100 rfl Try.underlying24 el3 ze3 rfl rfl rfl ?_
            intro b106
            refine L.nil ?_
            refine E.toV (D' := Cls w [] [.obj b16 [.int .i64 x11.Lead, v12, v13] 111, .obj b8 [.int .i64 x3.Lead, v4, v5] 111, .obj b2 [.int .i64 a2.Kind, .int .i64 a2.Who, .int .i64 a2.By] 113, .obj b1 [.int .i64 a1.Lead, u1_0, u1_1] 111, .sl v18 3 1 (l17.map I), .sl v12 3 1 (x11.Votes.map I), .sl v13 3 1 (x11.Parts.map I), .sl v4 3 1 (x3.Votes.map I), .sl v5 3 1 (x3.Parts.map I)]) (fun _ hw => hw) (fun _ hw => hw.sel [1, 2, 3, 4, 5, 6, 7, 8, 9] (by decide) rfl) ?_
            refine V.eff (i := 2) (by kernel_rfl) rfl ?_
            refine L.makeE (row := I) (z0 := 0) e98 rfl Try.underlying24 el3 ze3 rfl rfl rfl ?_
            intro b107
            refine L.nil ?_
            refine E.toV (D' := Cls w [] [.obj b16 [.int .i64 x11.Lead, v12, v13] 111, .obj b8 [.int .i64 x3.Lead, v4, v5] 111, .obj b2 [.int .i64 a2.Kind, .int .i64 a2.Who, .int .i64 a2.By] 113, .obj b1 [.int .i64 a1.Lead, u1_0, u1_1] 111, .sl v18 3 1 (l17.map I), .sl v12 3 1 (x11.Votes.map I), .sl v13 3 1 (x11.Parts.map I), .sl v4 3 1 (x3.Votes.map I), .sl v5 3 1 (x3.Parts.map I)]) (fun _ hw => hw) (fun _ hw => hw.sel [2, 3, 4, 5, 6, 7, 8, 9, 10] (by decide) rfl) ?_
            refine V.eff (i := 5) (by kernel_rfl) rfl ?_
            refine L.y rfl (Y.buildC (cells := #[.int .i64 0, (sv b107 a0.toNat), (sv b106 a0.toNat)]) rfl (fun w hw => by rcases ((As.at_ (hw.get (i := 0) rfl))).shape with ⟨h0, _⟩ | ⟨_, _, h0, _, _⟩ <;> rcases ((As.at_ (hw.get (i := 1) rfl))).shape with ⟨h1, _⟩ | ⟨_, _, h1, _, _⟩ <;> simp only [h0, h1] <;> kernel_rfl)) ?_
            refine L.nil ?_
            refine E.toV (D' := Cls w [] [.obj b16 [.int .i64 x11.Lead, v12, v13] 111, .obj b8 [.int .i64 x3.Lead, v4, v5] 111, .obj b2 [.int .i64 a2.Kind, .int .i64 a2.Who, .int .i64 a2.By] 113, .obj b1 [.int .i64 a1.Lead, u1_0, u1_1] 111, .sl v18 3 1 (l17.map I), .sl v12 3 1 (x11.Votes.map I), .sl v13 3 1 (x11.Parts.map I), .sl v4 3 1 (x3.Votes.map I), .sl v5 3 1 (x3.Parts.map I)]) (fun _ hw => hw) (fun _ hw => hw.sel [2, 3, 4, 5, 6, 7, 8, 9, 10] (by decide) rfl) ?_
            refine V.eff (i := 6) (by kernel_rfl) rfl ?_
            obtain ⟨b108, e109, h⟩ := bind1S h
            refine L.y rfl (Y.does en76 rfl (fun w' hw => (w76_quirref_SamePact x3 (⟨0, y97, y99⟩ : TPact) v4 v5 (sv b107 a0.toNat) (sv b106 a0.toNat) w' _ e109 (As.at_ (hw.get (i := 9) rfl)) (As.at_ (hw.get (i := 10) rfl)) (As.at_ (hw.get (i := 0) rfl)) (As.at_ (hw.get (i := 1) rfl))).mono (fun _ _ h => h.1))) ?_
            rcases b108 with _ | _
            ·
              replace h := iteF h
              refine L.nil ?_
              refine E.toV (D' := Cls w [] [.obj b16 [.int .i64 x11.Lead, v12, v13] 111, .obj b8 [.int .i64 x3.Lead, v4, v5] 111, .obj b2 [.int .i64 a2.Kind, .int .i64 a2.Who, .int .i64 a2.By] 113, .obj b1 [.int .i64 a1.Lead, u1_0, u1_1] 111, .sl v18 3 1 (l17.map I), .sl v12 3 1 (x11.Votes.map I), .sl v13 3 1 (x11.Parts.map I), .sl v4 3 1 (x3.Votes.map I), .sl v5 3 1 (x3.Parts.map I)]) (fun _ hw => hw) (fun _ hw => hw.sel [2, 3, 4, 5, 6, 7, 8, 9, 10] (by decide) rfl) ?_
              refine V.y (i := 7) (Nx.of (by kernel_rfl) rfl) rfl rfl rfl (Y.not rfl) ?_
              refine V.y (i := 8) (Nx.of (by kernel_rfl) rfl) rfl rfl rfl (Y.move rfl) ?_
              refine V.pass (i := 9) (Nx.of (by kernel_rfl) rfl) rfl rfl ?_
              refine V.pass (i := 10) (Nx.of (by kernel_rfl) rfl) rfl rfl ?_
              refine V.y (i := 11) (Nx.of (by kernel_rfl) rfl) rfl rfl rfl (Y.pickT rfl rfl) ?_
              refine V.done (by kernel_rfl) ?_
              exact E.joinJ ⟨true, rfl, rfl, h⟩ ⟨rfl, rfl, rfl, rfl, rfl, rfl, rfl, rfl, trivial⟩ (fun _ hw => hw.sel [2, 4, 5, 6, 7, 8] (by decide) rfl)
            ·
              replace h := iteT h
              refine L.nil ?_
              refine E.toV (D' := Cls w [] [.obj b16 [.int .i64 x11.Lead, v12, v13] 111, .obj b8 [.int .i64 x3.Lead, v4, v5] 111, .obj b2 [.int .i64 a2.Kind, .int .i64 a2.Who, .int .i64 a2.By] 113, .obj b1 [.int .i64 a1.Lead, u1_0, u1_1] 111, .sl v18 3 1 (l17.map I), .sl v12 3 1 (x11.Votes.map I), .sl v13 3 1 (x11.Parts.map I), .sl v4 3 1 (x3.Votes.map I), .sl v5 3 1 (x3.Parts.map I)]) (fun _ hw => hw) (fun _ hw => hw.sel [2, 3, 4, 5, 6, 7, 8, 9, 10] (by decide) rfl) ?_
              refine V.y (i := 7) (Nx.of (by kernel_rfl) rfl) rfl rfl rfl (Y.not rfl) ?_
              refine V.y (i := 8) (Nx.of (by kernel_rfl) rfl) rfl rfl rfl (Y.move rfl) ?_
              refine V.y (i := 9) (Nx.of (by kernel_rfl) rfl) rfl rfl rfl (Y.move rfl) ?_
              refine V.ite (i := 10) h (Nx.of (by kernel_rfl) rfl) rfl rfl rfl (Y.neq rfl rfl) (fun c110 h => ?_) (fun c110 h => ?_)
              ·
                refine V.y (i := 11) (Nx.of (by kernel_rfl) rfl) rfl rfl rfl (Y.pickF rfl rfl) ?_
                refine V.done (by kernel_rfl) ?_
                exact E.joinJ ⟨true, rfl, rfl, h⟩ ⟨rfl, rfl, rfl, rfl, rfl, rfl, rfl, rfl, trivial⟩ (fun _ hw => hw.sel [2, 4, 5, 6, 7, 8] (by decide) rfl)
              ·
                refine V.y (i := 11) (Nx.of (by kernel_rfl) rfl) rfl rfl rfl (Y.pickF rfl rfl) ?_
                refine V.done (by kernel_rfl) ?_
                exact E.joinJ ⟨false, rfl, rfl, h⟩ ⟨rfl, rfl, rfl, rfl, rfl, rfl, rfl, rfl, trivial⟩ (fun _ hw => hw.sel [2, 4, 5, 6, 7, 8] (by decide) rfl)
        ·
          rintro _ _ ⟨gb15, rfl, rfl, h⟩
          rw [m12_quirlaw_PactSays_K23] at h
          rcases gb15 with _ | _
          ·
            replace h := iteF h
            refine W.condF rfl ?_
            refine W.skip ?_
            exact E.joinJ ⟨rfl, rfl, h⟩ ⟨rfl, rfl, rfl, rfl, rfl, rfl, rfl, trivial⟩ (fun _ hw => hw)
          ·
            replace h := iteT h
            refine W.condT rfl ?_
            refine W.seq ?_
            refine W.region ?_
            refine L.y rfl (Y.assign rfl) ?_
            refine L.nil ?_
            refine E.thenN ?_
            refine W.ret ?_
            refine E.KSR ?_
            refine E.ret1 rfl rfl (fun w1 hw => ?_)
            obtain rfl := Option.some.inj h
            exact ⟨_, _, rfl, ⟨rfl, rfl⟩, hw.sel [] (by decide) rfl⟩
      ·
        replace h := iteT h
        refine W.condT rfl ?_
        refine W.seq ?_
        refine W.region ?_
        refine L.y rfl (Y.loadPW (i := 1) ag111 sz111 rfl rfl rfl) ?_
        refine L.y rfl (Y.build (cells := #[.int .i64 0, .slice none 0 0, .slice none 0 0]) rfl (by kernel_rfl)) ?_
        obtain ⟨b111, e112, h⟩ := bind1S h
        refine L.y rfl (Y.does en76 rfl (fun w' hw => (w76_quirref_SamePact x3 (⟨0, [], []⟩ : TPact) v4 v5 (.slice none 0 0) (.slice none 0 0) w' _ e112 (As.at_ (hw.get (i := 7) rfl)) (As.at_ (hw.get (i := 8) rfl)) (At.nil w' _) (At.nil w' _)).mono (fun _ _ h => h.1))) ?_
        rcases b111 with _ | _
        ·
          replace h := iteF h
          refine L.y rfl (Y.not rfl) ?_
          refine L.y rfl (Y.move rfl) ?_
          refine L.pass rfl rfl (by nofun) ?_
          refine L.pass rfl rfl (by nofun) ?_
          refine L.y rfl (Y.pickT rfl rfl) ?_
          refine L.nil ?_
          refine E.thenN ?_
          refine W.condT rfl ?_
          refine W.seq ?_
          refine W.region ?_
          refine L.y rfl (Y.assign rfl) ?_
          refine L.nil ?_
          refine E.thenN ?_
          refine W.ret ?_
          refine E.KSR ?_
          refine E.ret1 rfl rfl (fun w1 hw => ?_)
          obtain rfl := Option.some.inj h
          exact ⟨_, _, rfl, ⟨rfl, rfl⟩, hw.sel [] (by decide) rfl⟩
        ·
          replace h := iteT h
          refine L.y rfl (Y.not rfl) ?_
          refine L.y rfl (Y.move rfl) ?_
          refine L.take rfl ?_
          refine L.y rfl (Y.move rfl) ?_
          refine L.take rfl ?_
          refine L.ite h rfl (Y.neq rfl rfl) (fun c113 h => ?_) (fun c113 h => ?_)
          ·
            refine L.y rfl (Y.pickF rfl rfl) ?_
            refine L.nil ?_
            refine E.thenN ?_
            refine W.condT rfl ?_
            refine W.seq ?_
            refine W.region ?_
            refine L.y rfl (Y.assign rfl) ?_
            refine L.nil ?_
            refine E.thenN ?_
            refine W.ret ?_
            refine E.KSR ?_
            refine E.ret1 rfl rfl (fun w1 hw => ?_)
            obtain rfl := Option.some.inj h
            exact ⟨_, _, rfl, ⟨rfl, rfl⟩, hw.sel [] (by decide) rfl⟩
          ·
            refine L.y rfl (Y.pickF rfl rfl) ?_
            refine L.nil ?_
            refine E.thenN ?_
            refine W.condF rfl ?_
            refine W.skip ?_
            exact E.joinJ ⟨rfl, rfl, h⟩ ⟨rfl, rfl, rfl, rfl, rfl, rfl, rfl, trivial⟩ (fun _ hw => hw.sel [0, 2, 3, 4, 5, 6] (by decide) rfl)
  ·
    rintro _ _ ⟨rfl, rfl, h⟩
    rw [m12_quirlaw_PactSays_K1] at h
    refine W.seqJ (fun gs D => gs = [(4, pt b1 0), (5, pt b2 0), (9, .int .i64 x9), (10, pt b16 0), (11, .int .i64 x14), (12, v18), (13, .int .i64 x19)] ∧ D = Cls w [] [.obj b16 [.int .i64 x11.Lead, v12, v13] 111, .obj b2 [.int .i64 a2.Kind, .int .i64 a2.Who, .int .i64 a2.By] 113, .obj b1 [.int .i64 a1.Lead, u1_0, u1_1] 111, .sl v18 3 1 (l17.map I), .sl v12 3 1 (x11.Votes.map I), .sl v13 3 1 (x11.Parts.map I)] ∧ m12_quirlaw_PactSays_K2 x9 x11 x14 l17 x19 a1 a2 = some r) ?_ ?_
    ·
      refine W.seq ?_
      refine W.region ?_
      refine L.y rfl (Y.loadPW (i := 2) ag111 sz111 rfl rfl rfl) ?_
      obtain ⟨x78, e79, h⟩ := bind1S h
      refine L.y rfl (Y.does en77 rfl (fun w' hw => (w77_pact_Check a1 u1_0 u1_1 w' _ e79 (hA1_0.cls0 hw) (hA1_1.cls0 hw)).mono (fun _ _ h => h.1))) ?_
      refine L.y rfl (Y.move rfl) ?_
      refine L.ite h rfl (Y.neq rfl rfl) (fun c80 h => ?_) (fun c80 h => ?_)
      ·
        refine L.nil ?_
        refine E.thenN ?_
        refine W.condT rfl ?_
        refine W.seq ?_
        refine W.region ?_
        refine L.y rfl (Y.assign rfl) ?_
        refine L.nil ?_
        refine E.thenN ?_
        refine W.ret ?_
        refine E.KSR ?_
        refine E.ret1 rfl rfl (fun w1 hw => ?_)
        obtain rfl := Option.some.inj h
        exact ⟨_, _, rfl, ⟨rfl, rfl⟩, hw.sel [] (by decide) rfl⟩
      ·
        refine L.nil ?_
        refine E.thenN ?_
        refine W.condF rfl ?_
        refine W.skip ?_
        exact E.joinJ ⟨rfl, rfl, h⟩ ⟨rfl, rfl, rfl, rfl, rfl, rfl, rfl, trivial⟩ (fun _ hw => hw)
    ·
      rintro _ _ ⟨rfl, rfl, h⟩
      rw [m12_quirlaw_PactSays_K2] at h
      refine W.seqJ (fun gs D => gs = [(4, pt b1 0), (5, pt b2 0), (10, pt b16 0), (11, .int .i64 x14), (12, v18), (13, .int .i64 x19)] ∧ D = Cls w [] [.obj b16 [.int .i64 x11.Lead, v12, v13] 111, .obj b2 [.int .i64 a2.Kind, .int .i64 a2.Who, .int .i64 a2.By] 113, .obj b1 [.int .i64 a1.Lead, u1_0, u1_1] 111, .sl v18 3 1 (l17.map I), .sl v12 3 1 (x11.Votes.map I), .sl v13 3 1 (x11.Parts.map I)] ∧ m12_quirlaw_PactSays_K3 a1 x19 l17 a2 x11 x14 = some r) ?_ ?_
      ·
        refine W.seq ?_
        refine W.region ?_
        refine L.y rfl (Y.move rfl) ?_
        refine L.ite h rfl (Y.neq rfl rfl) (fun c73 h => ?_) (fun c73 h => ?_)
        ·
          refine L.nil ?_
          refine E.thenN ?_
          refine W.condT rfl ?_
          refine W.seq ?_
          refine W.region ?_
          refine L.cutJ 8 (fun gs D => ∃ (gb13 : Bool), gs = [(9, .int .i64 x9), (12, v18), (13, .int .i64 x19), (74, .bool gb13)] ∧ D = Cls w [] [.sl v18 3 1 (l17.map I)] ∧ m12_quirlaw_PactSays_K21 l17 x19 x9 gb13 = some r) ?_ ?_
          ·
            refine L.y rfl (Y.loadPW (i := 0) ag111 sz111 rfl rfl rfl) ?_
            refine L.y rfl (Y.build (cells := #[.int .i64 0, .slice none 0 0, .slice none 0 0]) rfl (by kernel_rfl)) ?_
            obtain ⟨b75, e76, h⟩ := bind1S h
            refine L.y rfl (Y.does en76 rfl (fun w' hw => (w76_quirref_SamePact x11 (⟨0, [], []⟩ : TPact) v12 v13 (.slice none 0 0) (.slice none 0 0) w' _ e76 (As.at_ (hw.get (i := 4) rfl)) (As.at_ (hw.get (i := 5) rfl)) (At.nil w' _) (At.nil w' _)).mono (fun _ _ h => h.1))) ?_
            rcases b75 with _ | _
            ·
              replace h := iteF h
              refine L.y rfl (Y.move rfl) ?_
              refine L.pass rfl rfl (by nofun) ?_
              refine L.pass rfl rfl (by nofun) ?_
              refine L.pass rfl rfl (by nofun) ?_
              refine L.y rfl (Y.pickF rfl rfl) ?_
              refine L.nil ?_
              exact E.joinJ ⟨false, rfl, rfl, h⟩ ⟨rfl, rfl, rfl, rfl, trivial⟩ (fun _ hw => hw.sel [3] (by decide) rfl)
            ·
              replace h := iteT h
              refine L.y rfl (Y.move rfl) ?_
              refine L.take rfl ?_
              refine L.y rfl (Y.move rfl) ?_
              refine L.take rfl ?_
              refine L.y rfl (Y.move rfl) ?_
              refine L.take rfl ?_
              refine L.ite h rfl (Y.eql rfl rfl) (fun c77 h => ?_) (fun c77 h => ?_)
              ·
                refine L.y rfl (Y.pickT rfl rfl) ?_
                refine L.nil ?_
                exact E.joinJ ⟨true, rfl, rfl, h⟩ ⟨rfl, rfl, rfl, rfl, trivial⟩ (fun _ hw => hw.sel [3] (by decide) rfl)
              ·
                refine L.y rfl (Y.pickT rfl rfl) ?_
                refine L.nil ?_
                exact E.joinJ ⟨false, rfl, rfl, h⟩ ⟨rfl, rfl, rfl, rfl, trivial⟩ (fun _ hw => hw.sel [3] (by decide) rfl)
          ·
            rintro _ _ ⟨gb13, rfl, rfl, h⟩
            rw [m12_quirlaw_PactSays_K21] at h
            rcases gb13 with _ | _
            ·
              replace h := iteF h
              refine L.y rfl (Y.move rfl) ?_
              refine L.pass rfl rfl (by nofun) ?_
              refine L.pass rfl rfl (by nofun) ?_
              refine L.pass rfl rfl (by nofun) ?_
              refine L.y rfl (Y.pickF rfl rfl) ?_
              refine L.y rfl (Y.move rfl) ?_
              refine L.pass rfl rfl (by nofun) ?_
              refine L.pass rfl rfl (by nofun) ?_
              refine L.pass rfl rfl (by nofun) ?_
              refine L.y rfl (Y.pickF rfl rfl) ?_
              refine L.y rfl (Y.assign rfl) ?_
              refine L.nil ?_
              refine E.thenN ?_
              refine W.ret ?_
              refine E.KSR ?_
              refine E.ret1 rfl rfl (fun w1 hw => ?_)
              obtain rfl := Option.some.inj h
              exact ⟨_, _, rfl, ⟨rfl, rfl⟩, hw.sel [] (by decide) rfl⟩
            ·
              replace h := iteT h
              refine L.y rfl (Y.move rfl) ?_
              refine L.take rfl ?_
              refine L.y rfl (Y.move rfl) ?_
              refine L.take rfl ?_
              refine L.y rfl (Y.lenM (g := I) (l := l17) Try.underlying24 rfl (fun w hw => As.at_ (hw.get (i := 0) rfl))) ?_
              refine L.take rfl ?_
              refine L.ite h rfl (Y.eql rfl rfl) (fun c74 h => ?_) (fun c74 h => ?_)
              ·
                refine L.y rfl (Y.pickT rfl rfl) ?_
                refine L.y rfl (Y.move rfl) ?_
                refine L.take rfl ?_
                refine L.y rfl (Y.move rfl) ?_
                refine L.take rfl ?_
                refine L.y rfl (Y.move rfl) ?_
                refine L.take rfl ?_
                refine L.y rfl (Y.eql rfl rfl) ?_
                refine L.y rfl (Y.pickT rfl rfl) ?_
                refine L.y rfl (Y.assign rfl) ?_
                refine L.nil ?_
                refine E.thenN ?_
                refine W.ret ?_
                refine E.KSR ?_
                refine E.ret1 rfl rfl (fun w1 hw => ?_)
                obtain rfl := Option.some.inj h
                exact ⟨_, _, rfl, ⟨rfl, rfl⟩, hw.sel [] (by decide) rfl⟩
              ·
                refine L.y rfl (Y.pickT rfl rfl) ?_
                refine L.y rfl (Y.move rfl) ?_
                refine L.pass rfl rfl (by nofun) ?_
                refine L.pass rfl rfl (by nofun) ?_
                refine L.pass rfl rfl (by nofun) ?_
                refine L.y rfl (Y.pickF rfl rfl) ?_
                refine L.y rfl (Y.assign rfl) ?_
                refine L.nil ?_
                refine E.thenN ?_
                refine W.ret ?_
                refine E.KSR ?_
                refine E.ret1 rfl rfl (fun w1 hw => ?_)
                obtain rfl := Option.some.inj h
                exact ⟨_, _, rfl, ⟨rfl, rfl⟩, hw.sel [] (by decide) rfl⟩
        ·
          refine L.nil ?_
          refine E.thenN ?_
          refine W.condF rfl ?_
          refine W.skip ?_
          exact E.joinJ ⟨rfl, rfl, h⟩ ⟨rfl, rfl, rfl, rfl, rfl, rfl, trivial⟩ (fun _ hw => hw)
      ·
        rintro _ _ ⟨rfl, rfl, h⟩
        rw [m12_quirlaw_PactSays_K3] at h
        refine W.seqJ (fun gs D => ∃ (gb1 : Bool), gs = [(4, pt b1 0), (5, pt b2 0), (10, pt b16 0), (11, .int .i64 x14), (12, v18), (13, .int .i64 x19), (14, .bool gb1)] ∧ D = Cls w [] [.obj b16 [.int .i64 x11.Lead, v12, v13] 111, .obj b2 [.int .i64 a2.Kind, .int .i64 a2.Who, .int .i64 a2.By] 113, .obj b1 [.int .i64 a1.Lead, u1_0, u1_1] 111, .sl v18 3 1 (l17.map I), .sl v12 3 1 (x11.Votes.map I), .sl v13 3 1 (x11.Parts.map I)] ∧ m12_quirlaw_PactSays_K4 x19 l17 a1 a2 x11 x14 gb1 = some r) ?_ ?_
        ·
          refine W.region ?_
          refine L.y rfl (Y.fieldP fd111_2 rfl) ?_
          refine L.y rfl (Y.loadP (i := 2) ag24 rfl rfl rfl) ?_
          refine L.callJ (fun v D => ∃ (gb10 : Bool), v = .bool gb10 ∧ D = Cls w [] [.obj b16 [.int .i64 x11.Lead, v12, v13] 111, .obj b2 [.int .i64 a2.Kind, .int .i64 a2.Who, .int .i64 a2.By] 113, .obj b1 [.int .i64 a1.Lead, u1_0, u1_1] 111, .sl v18 3 1 (l17.map I), .sl v12 3 1 (x11.Votes.map I), .sl v13 3 1 (x11.Parts.map I)] ∧ m12_quirlaw_PactSays_K17 x19 l17 a1 a2 x11 x14 gb10 = some r) rfl en78 rfl Try.func78 rfl rfl rfl ?_ ?_
          ·
            refine W.seq ?_
            refine W.region ?_
            refine L.y rfl (Y.assign rfl) ?_
            refine L.nil ?_
            refine E.thenN ?_
            refine W.seq ?_
            refine W.region ?_
            refine L.y rfl (Y.move rfl) ?_
            refine L.y rfl (Y.move rfl) ?_
            refine L.callJ (fun v D => ∃ (gx11 : Int), v = .int .i64 gx11 ∧ D = Cls w [] [.obj b16 [.int .i64 x11.Lead, v12, v13] 111, .obj b2 [.int .i64 a2.Kind, .int .i64 a2.Who, .int .i64 a2.By] 113, .obj b1 [.int .i64 a1.Lead, u1_0, u1_1] 111, .sl v18 3 1 (l17.map I), .sl v12 3 1 (x11.Votes.map I), .sl v13 3 1 (x11.Parts.map I)] ∧ m12_quirlaw_PactSays_K18 x19 l17 a1 a2 x11 x14 gx11 = some r) rfl en133 rfl Try.func133 rfl rfl rfl ?_ ?_
            ·
              refine W.seq ?_
              refine W.region ?_
              refine L.y rfl (Y.assign rfl) ?_
              refine L.nil ?_
              refine E.thenN ?_
              refine W.seqJ (fun gs D => gs = [] ∧ D = Cls w [] [.obj b16 [.int .i64 x11.Lead, v12, v13] 111, .obj b2 [.int .i64 a2.Kind, .int .i64 a2.Who, .int .i64 a2.By] 113, .obj b1 [.int .i64 a1.Lead, u1_0, u1_1] 111, .sl v18 3 1 (l17.map I), .sl v12 3 1 (x11.Votes.map I), .sl v13 3 1 (x11.Parts.map I)] ∧ m12_quirlaw_PactSays_K19 x19 l17 a1 a2 x11 x14 = some r) ?_ ?_
              ·
                refine W.seq ?_
                refine W.region ?_
                refine L.y rfl (Y.move rfl) ?_
                refine L.y rfl (Y.lenM (g := I) (l := a1.Parts) Try.underlying24 rfl (fun w' hw => hA1_1.cls0 hw)) ?_
                refine L.y rfl (Y.move rfl) ?_
                refine L.nil ?_
                refine E.thenN ?_
                refine W.block ?_
                refine W.loopJ (fun m gs D => ∃ (gx12 : Int), gs = [(0, u1_1), (1, .func (.func 79) #[] #[]), (7, .int .i64 (a1.Parts.length : Int)), (8, .int .i64 gx12)] ∧ D = Cls w [] [.obj b16 [.int .i64 x11.Lead, v12, v13] 111, .obj b2 [.int .i64 a2.Kind, .int .i64 a2.Who, .int .i64 a2.By] 113, .obj b1 [.int .i64 a1.Lead, u1_0, u1_1] 111, .sl v18 3 1 (l17.map I), .sl v12 3 1 (x11.Votes.map I), .sl v13 3 1 (x11.Parts.map I)] ∧ m12_quirlaw_PactSays_L3 a1 x19 l17 a2 x11 x14 m gx12 = some r) ⟨0, rfl, rfl, h⟩ ⟨rfl, rfl, rfl, rfl, trivial⟩ (fun _ hw => hw) ?_
                rintro m _ _ ⟨gx12, rfl, rfl, h⟩
                rcases m with _ | m
                · rw [m12_quirlaw_PactSays_L3] at h; cases h
                rw [m12_quirlaw_PactSays_L3] at h
                generalize hg3 : m12_quirlaw_PactSays_L3 a1 x19 l17 a2 x11 x14 m = go3 at h
                rw [m12_quirlaw_PactSays_L3B] at h
                refine W.seq ?_
                refine W.region ?_
                refine L.ite h rfl (Y.lss rfl rfl) (fun c70 h => ?_) (fun c70 h => ?_)
                ·
                  refine L.nil ?_
                  refine E.thenN ?_
                  refine W.seq ?_
                  refine W.condT rfl ?_
                  refine W.skip ?_
                  refine E.thenN ?_
                  refine W.seq ?_
                  refine W.block ?_
                  refine W.seq ?_
                  refine W.region ?_
                  refine L.y rfl (Y.move rfl) ?_
                  refine L.y rfl (Y.assign rfl) ?_
                  refine L.nil ?_
                  refine E.thenN ?_
                  refine W.seq ?_
                  refine W.region ?_
                  refine L.y rfl (Y.move rfl) ?_
                  refine L.y rfl (Y.move rfl) ?_
                  refine L.y rfl (Y.move rfl) ?_
                  refine L.m (V := fun _ => el u1_1 (gx12.toNat * 1)) h rfl (Y.indexM (g := I) (l := a1.Parts) Try.underlying24 sz3 rfl rfl (fun w' hw => hA1_1.cls0 hw)) (fun x71 ex71 h => ?_)
                  refine L.y rfl (Y.loadE1 (u := .int .i64 x71) ag3 rfl (fun w' hw => hA1_1.cls0 hw) (idx_map ex71)) ?_
                  refine L.callVJ (fun v D => v = .bool (decide (x71 ≠ 1)) ∧ D = Cls w [] [.obj b16 [.int .i64 x11.Lead, v12, v13] 111, .obj b2 [.int .i64 a2.Kind, .int .i64 a2.Who, .int .i64 a2.By] 113, .obj b1 [.int .i64 a1.Lead, u1_0, u1_1] 111, .sl v18 3 1 (l17.map I), .sl v12 3 1 (x11.Votes.map I), .sl v13 3 1 (x11.Parts.map I)] ∧ m12_quirlaw_PactSays_K20 x71 x19 l17 a1 a2 x11 x14 gx12 go3 = some r) rfl en79 rfl rfl Try.func79 rfl rfl rfl ?_ ?_
                  ·
                    refine W.seq ?_
                    refine W.region ?_
                    refine L.y rfl (Y.assign rfl) ?_
                    refine L.nil ?_
                    refine E.thenN ?_
                    refine W.seq ?_
                    refine W.region ?_
                    refine L.y rfl (Y.move rfl) ?_
                    refine L.y rfl (Y.neq rfl rfl) ?_
                    refine L.y rfl (Y.assign rfl) ?_
                    refine L.nil ?_
                    refine E.thenN ?_
                    refine W.ret ?_
                    refine E.ret1 rfl rfl (fun w1 hw => ?_)
                    exact ⟨_, _, rfl, ⟨rfl, rfl, h⟩, (fun _ hw => hw) _ hw⟩
                  ·
                    rintro _ _ ⟨rfl, rfl, h⟩
                    rw [m12_quirlaw_PactSays_K20] at h
                    refine L.nil ?_
                    refine E.thenN ?_
                    refine W.caseB (q := 16) h rfl (fun h => ?_) (fun h => ?_)
                    ·
                      refine W.condT rfl ?_
                      refine W.seq ?_
                      refine W.region ?_
                      refine L.y rfl (Y.move rfl) ?_
                      refine L.y rfl (Y.assign rfl) ?_
                      refine L.nil ?_
                      refine E.thenN ?_
                      refine W.ret ?_
                      refine E.blockR ?_
                      refine E.thenR ?_
                      refine E.KLR ?_
                      refine E.blockR ?_
                      refine E.KSR ?_
                      refine E.ret1 rfl rfl (fun w1 hw => ?_)
                      exact ⟨_, _, rfl, ⟨gx12, rfl, rfl, h⟩, (fun _ hw => hw) _ hw⟩
                    ·
                      refine W.condF rfl ?_
                      refine W.skip ?_
                      refine E.blockN ?_
                      refine E.thenN ?_
                      refine W.region ?_
                      refine L.m (V := fun x72 => .int .i64 x72) h rfl (Y.addM rfl rfl) (fun x72 ex72 h => ?_)
                      refine L.y rfl (Y.move rfl) ?_
                      refine L.nil ?_
                      exact E.againJ ⟨x72, rfl, rfl, by rw [hg3]; exact h⟩ (Nat.lt_succ_self _) ⟨rfl, rfl, rfl, rfl, trivial⟩ (fun _ hw => hw)
                ·
                  refine L.nil ?_
                  refine E.thenN ?_
                  refine W.seq ?_
                  refine W.condF rfl ?_
                  refine W.exit ?_
                  refine E.thenX ?_
                  refine E.KLX ?_
                  refine E.blockX ?_
                  exact E.joinJ ⟨rfl, rfl, h⟩ trivial (fun _ hw => hw)
              ·
                rintro _ _ ⟨rfl, rfl, h⟩
                rw [m12_quirlaw_PactSays_K19] at h
                refine W.seq ?_
                refine W.region ?_
                refine L.y rfl (Y.assign rfl) ?_
                refine L.nil ?_
                refine E.thenN ?_
                refine W.ret ?_
                refine E.ret1 rfl rfl (fun w1 hw => ?_)
                exact ⟨_, _, rfl, ⟨(-1), rfl, rfl, h⟩, (fun _ hw => hw) _ hw⟩
            ·
              rintro _ _ ⟨gx11, rfl, rfl, h⟩
              rw [m12_quirlaw_PactSays_K18] at h
              refine L.y rfl (Y.geq rfl rfl) ?_
              refine L.y rfl (Y.assign rfl) ?_
              refine L.nil ?_
              refine E.thenN ?_
              refine W.ret ?_
              refine E.ret1 rfl rfl (fun w1 hw => ?_)
              exact ⟨_, _, rfl, ⟨decide (0 ≤ gx11), rfl, rfl, h⟩, (fun _ hw => hw) _ hw⟩
          ·
            rintro _ _ ⟨gb10, rfl, rfl, h⟩
            rw [m12_quirlaw_PactSays_K17] at h
            rcases gb10 with _ | _
            ·
              replace h := iteF h
              refine L.y rfl (Y.not rfl) ?_
              refine L.y rfl (Y.assign rfl) ?_
              refine L.nil ?_
              exact E.joinJ ⟨true, rfl, rfl, h⟩ ⟨rfl, rfl, rfl, rfl, rfl, rfl, rfl, trivial⟩ (fun _ hw => hw)
            ·
              replace h := iteT h
              refine L.y rfl (Y.not rfl) ?_
              refine L.y rfl (Y.assign rfl) ?_
              refine L.nil ?_
              exact E.joinJ ⟨false, rfl, rfl, h⟩ ⟨rfl, rfl, rfl, rfl, rfl, rfl, rfl, trivial⟩ (fun _ hw => hw)
        ·
          rintro _ _ ⟨gb1, rfl, rfl, h⟩
          rw [m12_quirlaw_PactSays_K4] at h
          rcases gb1 with _ | _
          ·
            replace h := iteF h
            refine W.seqJ (fun gs D => gs = [(4, pt b1 0), (5, pt b2 0), (10, pt b16 0), (11, .int .i64 x14), (12, v18)] ∧ D = Cls w [] [.obj b16 [.int .i64 x11.Lead, v12, v13] 111, .obj b2 [.int .i64 a2.Kind, .int .i64 a2.Who, .int .i64 a2.By] 113, .obj b1 [.int .i64 a1.Lead, u1_0, u1_1] 111, .sl v18 3 1 (l17.map I), .sl v12 3 1 (x11.Votes.map I), .sl v13 3 1 (x11.Parts.map I)] ∧ m12_quirlaw_PactSays_K5 l17 a2 x11 x14 a1 = some r) ?_ ?_
            ·
              refine W.seq ?_
              refine W.region ?_
              refine L.cutJ 9 (fun gs D => ∃ (gb5 : Bool), gs = [(4, pt b1 0), (5, pt b2 0), (10, pt b16 0), (11, .int .i64 x14), (12, v18), (14, .bool false), (97, .bool gb5)] ∧ D = Cls w [] [.obj b16 [.int .i64 x11.Lead, v12, v13] 111, .obj b2 [.int .i64 a2.Kind, .int .i64 a2.Who, .int .i64 a2.By] 113, .obj b1 [.int .i64 a1.Lead, u1_0, u1_1] 111, .sl v18 3 1 (l17.map I), .sl v12 3 1 (x11.Votes.map I), .sl v13 3 1 (x11.Parts.map I)] ∧ m12_quirlaw_PactSays_K10 l17 a2 x11 x14 a1 gb5 = some r) ?_ ?_
              ·
                refine L.y rfl (Y.move rfl) ?_
                refine L.ite h rfl (Y.neq rfl rfl) (fun c43 h => ?_) (fun c43 h => ?_)
                ·
                  refine L.y rfl (Y.move rfl) ?_
                  refine L.pass rfl rfl (by nofun) ?_
                  refine L.pass rfl rfl (by nofun) ?_
                  refine L.pass rfl rfl (by nofun) ?_
                  refine L.pass rfl rfl (by nofun) ?_
                  refine L.pass rfl rfl (by nofun) ?_
                  refine L.y rfl (Y.pickT rfl rfl) ?_
                  refine L.nil ?_
                  exact E.joinJ ⟨true, rfl, rfl, h⟩ ⟨rfl, rfl, rfl, rfl, rfl, rfl, rfl, trivial⟩ (fun _ hw => hw)
                ·
                  refine L.y rfl (Y.move rfl) ?_
                  refine L.take rfl ?_
                  refine L.y rfl (Y.move rfl) ?_
                  refine L.take rfl ?_
                  refine L.y rfl (Y.move rfl) ?_
                  refine L.take rfl ?_
                  refine L.y rfl (Y.lenM (g := I) (l := l17) Try.underlying24 rfl (fun w hw => As.at_ (hw.get (i := 3) rfl))) ?_
                  refine L.take rfl ?_
                  refine L.y rfl (Y.gtr rfl rfl) ?_
                  refine L.take rfl ?_
                  refine L.iteB h rfl (Y.neqB Try.underlying4 rfl rfl) (fun c44 h => ?_) (fun c44 h => ?_)
                  ·
                    refine L.y rfl (Y.pickF rfl rfl) ?_
                    refine L.nil ?_
                    exact E.joinJ ⟨true, rfl, rfl, h⟩ ⟨rfl, rfl, rfl, rfl, rfl, rfl, rfl, trivial⟩ (fun _ hw => hw)
                  ·
                    refine L.y rfl (Y.pickF rfl rfl) ?_
                    refine L.nil ?_
                    exact E.joinJ ⟨false, rfl, rfl, h⟩ ⟨rfl, rfl, rfl, rfl, rfl, rfl, rfl, trivial⟩ (fun _ hw => hw)
              ·
                rintro _ _ ⟨gb5, rfl, rfl, h⟩
                rw [m12_quirlaw_PactSays_K10] at h
                rcases gb5 with _ | _
                ·
                  replace h := iteF h
                  refine L.y rfl (Y.move rfl) ?_
                  refine L.take rfl ?_
                  refine L.y rfl (Y.move rfl) ?_
                  refine L.take rfl ?_
                  refine L.y rfl (Y.move rfl) ?_
                  refine L.pass rfl rfl (by nofun) ?_
                  refine L.pass rfl rfl (by nofun) ?_
                  refine L.pass rfl rfl (by nofun) ?_
                  refine L.pass rfl rfl (by nofun) ?_
                  refine L.pass rfl rfl (by nofun) ?_
                  refine L.pass rfl rfl (by nofun) ?_
                  refine L.take rfl ?_
                  refine L.y rfl (Y.pickF rfl rfl) ?_
                  refine L.y rfl (Y.pickF rfl rfl) ?_
                  refine L.nil ?_
                  refine E.thenN ?_
                  refine W.condF rfl ?_
                  refine W.skip ?_
                  exact E.joinJ ⟨rfl, rfl, h⟩ ⟨rfl, rfl, rfl, rfl, rfl, trivial⟩ (fun _ hw => hw)
                ·
                  replace h := iteT h
                  refine L.y rfl (Y.move rfl) ?_
                  refine L.pass rfl rfl (by nofun) ?_
                  refine L.pass rfl rfl (by nofun) ?_
                  refine L.pass rfl rfl (by nofun) ?_
                  refine L.pass rfl rfl (by nofun) ?_
                  refine L.pass rfl rfl (by nofun) ?_
                  refine L.pass rfl rfl (by nofun) ?_
                  refine L.pass rfl rfl (by nofun) ?_
                  refine L.pass rfl rfl (by nofun) ?_
                  refine L.pass rfl rfl (by nofun) ?_
                  refine L.y rfl (Y.pickT rfl rfl) ?_
                  refine L.nil ?_
                  refine E.thenN ?_
                  refine W.condT rfl ?_
                  refine W.seq ?_
                  refine W.region ?_
                  refine L.y rfl (Y.assign rfl) ?_
                  refine L.nil ?_
                  refine E.thenN ?_
                  refine W.ret ?_
                  refine E.KSR ?_
                  refine E.ret1 rfl rfl (fun w1 hw => ?_)
                  obtain rfl := Option.some.inj h
                  exact ⟨_, _, rfl, ⟨rfl, rfl⟩, hw.sel [] (by decide) rfl⟩
            ·
              rintro _ _ ⟨rfl, rfl, h⟩
              rw [m12_quirlaw_PactSays_K5] at h
              refine W.seqJ (fun gs D => gs = [(4, pt b1 0), (5, pt b2 0), (10, pt b16 0), (11, .int .i64 x14)] ∧ D = Cls w [] [.obj b16 [.int .i64 x11.Lead, v12, v13] 111, .obj b2 [.int .i64 a2.Kind, .int .i64 a2.Who, .int .i64 a2.By] 113, .obj b1 [.int .i64 a1.Lead, u1_0, u1_1] 111, .sl v12 3 1 (x11.Votes.map I), .sl v13 3 1 (x11.Parts.map I)] ∧ m12_quirlaw_PactSays_K6 a2 x11 x14 a1 = some r) ?_ ?_
              ·
                refine W.seq ?_
                refine W.region ?_
                refine L.y rfl (Y.move rfl) ?_
                refine L.y rfl (Y.lenM (g := I) (l := l17) Try.underlying24 rfl (fun w hw => As.at_ (hw.get (i := 3) rfl))) ?_
                refine L.y rfl (Y.move rfl) ?_
                refine L.nil ?_
                refine E.thenN ?_
                refine W.block ?_
                refine W.loopJ (fun m gs D => ∃ (gx4 : Int), gs = [(4, pt b1 0), (5, pt b2 0), (10, pt b16 0), (11, .int .i64 x14), (109, v18), (110, .int .i64 (l17.length : Int)), (111, .int .i64 gx4)] ∧ D = Cls w [] [.obj b16 [.int .i64 x11.Lead, v12, v13] 111, .obj b2 [.int .i64 a2.Kind, .int .i64 a2.Who, .int .i64 a2.By] 113, .obj b1 [.int .i64 a1.Lead, u1_0, u1_1] 111, .sl v18 3 1 (l17.map I), .sl v12 3 1 (x11.Votes.map I), .sl v13 3 1 (x11.Parts.map I)] ∧ m12_quirlaw_PactSays_L1 l17 a2 x11 x14 a1 m gx4 = some r) ⟨0, rfl, rfl, h⟩ ⟨rfl, rfl, rfl, rfl, rfl, rfl, rfl, trivial⟩ (fun _ hw => hw) ?_
                rintro m _ _ ⟨gx4, rfl, rfl, h⟩
                rcases m with _ | m
                · rw [m12_quirlaw_PactSays_L1] at h; cases h
                rw [m12_quirlaw_PactSays_L1] at h
                generalize hg1 : m12_quirlaw_PactSays_L1 l17 a2 x11 x14 a1 m = go1 at h
                rw [m12_quirlaw_PactSays_L1B] at h
                refine W.seq ?_
                refine W.region ?_
                refine L.ite h rfl (Y.lss rfl rfl) (fun c39 h => ?_) (fun c39 h => ?_)
                ·
                  refine L.nil ?_
                  refine E.thenN ?_
                  refine W.seq ?_
                  refine W.condT rfl ?_
                  refine W.skip ?_
                  refine E.thenN ?_
                  refine W.seq ?_
                  refine W.block ?_
                  refine W.seq ?_
                  refine W.region ?_
                  refine L.y rfl (Y.move rfl) ?_
                  refine L.m (V := fun _ => el v18 (gx4.toNat * 1)) h rfl (Y.indexM (g := I) (l := l17) Try.underlying24 sz3 rfl rfl (fun w hw => As.at_ (hw.get (i := 3) rfl))) (fun x40 ex40 h => ?_)
                  refine L.y rfl (Y.loadE1 (u := .int .i64 x40) ag3 rfl (fun w hw => As.at_ (hw.get (i := 3) rfl)) (idx_map ex40)) ?_
                  refine L.y rfl (Y.assign rfl) ?_
                  refine L.y rfl (Y.assign rfl) ?_
                  refine L.nil ?_
                  refine E.thenN ?_
                  refine W.seq ?_
                  refine W.region ?_
                  refine L.y rfl (Y.move rfl) ?_
                  refine L.y rfl (Y.move rfl) ?_
                  refine L.ite h rfl (Y.neq rfl rfl) (fun c41 h => ?_) (fun c41 h => ?_)
                  ·
                    refine L.nil ?_
                    refine E.thenN ?_
                    refine W.condT rfl ?_
                    refine W.seq ?_
                    refine W.region ?_
                    refine L.y rfl (Y.assign rfl) ?_
                    refine L.nil ?_
                    refine E.thenN ?_
                    refine W.ret ?_
                    refine E.blockR ?_
                    refine E.thenR ?_
                    refine E.KLR ?_
                    refine E.blockR ?_
                    refine E.KSR ?_
                    refine E.ret1 rfl rfl (fun w1 hw => ?_)
                    obtain rfl := Option.some.inj h
                    exact ⟨_, _, rfl, ⟨rfl, rfl⟩, hw.sel [] (by decide) rfl⟩
                  ·
                    refine L.nil ?_
                    refine E.thenN ?_
                    refine W.condF rfl ?_
                    refine W.skip ?_
                    refine E.blockN ?_
                    refine E.thenN ?_
                    refine W.region ?_
                    refine L.m (V := fun x42 => .int .i64 x42) h rfl (Y.addM rfl rfl) (fun x42 ex42 h => ?_)
                    refine L.y rfl (Y.move rfl) ?_
                    refine L.nil ?_
                    exact E.againJ ⟨x42, rfl, rfl, by rw [hg1]; exact h⟩ (Nat.lt_succ_self _) ⟨rfl, rfl, rfl, rfl, rfl, rfl, rfl, trivial⟩ (fun _ hw => hw)
                ·
                  refine L.nil ?_
                  refine E.thenN ?_
                  refine W.seq ?_
                  refine W.condF rfl ?_
                  refine W.exit ?_
                  refine E.thenX ?_
                  refine E.KLX ?_
                  refine E.blockX ?_
                  exact E.joinJ ⟨rfl, rfl, h⟩ ⟨rfl, rfl, rfl, rfl, trivial⟩ (fun _ hw => hw.sel [0, 1, 2, 4, 5] (by decide) rfl)
              ·
                rintro _ _ ⟨rfl, rfl, h⟩
                rw [m12_quirlaw_PactSays_K6] at h
                refine W.seqJ (fun gs D => gs = [(4, pt b1 0), (5, pt b2 0), (10, pt b16 0), (11, .int .i64 x14)] ∧ D = Cls w [] [.obj b16 [.int .i64 x11.Lead, v12, v13] 111, .obj b2 [.int .i64 a2.Kind, .int .i64 a2.Who, .int .i64 a2.By] 113, .obj b1 [.int .i64 a1.Lead, u1_0, u1_1] 111, .sl v12 3 1 (x11.Votes.map I), .sl v13 3 1 (x11.Parts.map I)] ∧ m12_quirlaw_PactSays_K7 a1 a2 x11 x14 = some r) ?_ ?_
                ·
                  refine W.seqJ (fun gs D => ∃ (gb2 : Bool), gs = [(4, pt b1 0), (5, pt b2 0), (10, pt b16 0), (11, .int .i64 x14), (146, .bool gb2)] ∧ D = Cls w [] [.obj b16 [.int .i64 x11.Lead, v12, v13] 111, .obj b2 [.int .i64 a2.Kind, .int .i64 a2.Who, .int .i64 a2.By] 113, .obj b1 [.int .i64 a1.Lead, u1_0, u1_1] 111, .sl v12 3 1 (x11.Votes.map I), .sl v13 3 1 (x11.Parts.map I)] ∧ m12_quirlaw_PactSays_K8 x11 x14 a1 a2 gb2 = some r) ?_ ?_
                  ·
                    refine W.region ?_
                    refine L.cutJ 17 (fun gs D => ∃ (gb3 : Bool), gs = [(4, pt b1 0), (5, pt b2 0), (10, pt b16 0), (11, .int .i64 x14), (136, .bool gb3)] ∧ D = Cls w [] [.obj b16 [.int .i64 x11.Lead, v12, v13] 111, .obj b2 [.int .i64 a2.Kind, .int .i64 a2.Who, .int .i64 a2.By] 113, .obj b1 [.int .i64 a1.Lead, u1_0, u1_1] 111, .sl v12 3 1 (x11.Votes.map I), .sl v13 3 1 (x11.Parts.map I)] ∧ m12_quirlaw_PactSays_K9 x11 x14 a1 a2 gb3 = some r) ?_ ?_
                    ·
                      refine L.y rfl (Y.fieldP fd113_1 rfl) ?_
                      refine L.y rfl (Y.loadP (i := 1) ag3 rfl rfl rfl) ?_
                      refine L.y rfl (Y.fieldP fd113_2 rfl) ?_
                      refine L.y rfl (Y.loadP (i := 1) ag3 rfl rfl rfl) ?_
                      refine L.y rfl (Y.min2 rfl rfl) ?_
                      refine L.ite h rfl (Y.lss rfl rfl) (fun c37 h => ?_) (fun c37 h => ?_)
                      ·
                        refine L.y rfl (Y.move rfl) ?_
                        refine L.pass rfl rfl (by nofun) ?_
                        refine L.pass rfl rfl (by nofun) ?_
                        refine L.pass rfl rfl (by nofun) ?_
                        refine L.pass rfl rfl (by nofun) ?_
                        refine L.pass rfl rfl (by nofun) ?_
                        refine L.pass rfl rfl (by nofun) ?_
                        refine L.pass rfl rfl (by nofun) ?_
                        refine L.pass rfl rfl (by nofun) ?_
                        refine L.pass rfl rfl (by nofun) ?_
                        refine L.y rfl (Y.pickT rfl rfl) ?_
                        refine L.nil ?_
                        exact E.joinJ ⟨true, rfl, rfl, h⟩ ⟨rfl, rfl, rfl, rfl, rfl, trivial⟩ (fun _ hw => hw)
                      ·
                        refine L.y rfl (Y.move rfl) ?_
                        refine L.take rfl ?_
                        refine L.y rfl (Y.fieldP fd113_1 rfl) ?_
                        refine L.take rfl ?_
                        refine L.y rfl (Y.loadP (i := 1) ag3 rfl rfl rfl) ?_
                        refine L.take rfl ?_
                        refine L.y rfl (Y.fieldP fd113_2 rfl) ?_
                        refine L.take rfl ?_
                        refine L.y rfl (Y.loadP (i := 1) ag3 rfl rfl rfl) ?_
                        refine L.take rfl ?_
                        refine L.y rfl (Y.max2 rfl rfl) ?_
                        refine L.take rfl ?_
                        refine L.y rfl (Y.fieldP fd111_2 rfl) ?_
                        refine L.take rfl ?_
                        refine L.y rfl (Y.loadP (i := 2) ag24 rfl rfl rfl) ?_
                        refine L.take rfl ?_
                        refine L.y rfl (Y.lenM (g := I) (l := a1.Parts) Try.underlying24 rfl (fun w' hw => hA1_1.cls0 hw)) ?_
                        refine L.take rfl ?_
                        refine L.ite h rfl (Y.geq rfl rfl) (fun c38 h => ?_) (fun c38 h => ?_)
                        ·
                          refine L.y rfl (Y.pickF rfl rfl) ?_
                          refine L.nil ?_
                          exact E.joinJ ⟨true, rfl, rfl, h⟩ ⟨rfl, rfl, rfl, rfl, rfl, trivial⟩ (fun _ hw => hw)
                        ·
                          refine L.y rfl (Y.pickF rfl rfl) ?_
                          refine L.nil ?_
                          exact E.joinJ ⟨false, rfl, rfl, h⟩ ⟨rfl, rfl, rfl, rfl, rfl, trivial⟩ (fun _ hw => hw)
                    ·
                      rintro _ _ ⟨gb3, rfl, rfl, h⟩
                      rw [m12_quirlaw_PactSays_K9] at h
                      rcases gb3 with _ | _
                      ·
                        replace h := iteF h
                        refine L.y rfl (Y.move rfl) ?_
                        refine L.take rfl ?_
                        refine L.y rfl (Y.fieldP fd113_0 rfl) ?_
                        refine L.take rfl ?_
                        refine L.y rfl (Y.loadP (i := 1) ag3 rfl rfl rfl) ?_
                        refine L.take rfl ?_
                        refine L.ite h rfl (Y.lss rfl rfl) (fun c35 h => ?_) (fun c35 h => ?_)
                        ·
                          refine L.y rfl (Y.pickF rfl rfl) ?_
                          refine L.y rfl (Y.move rfl) ?_
                          refine L.pass rfl rfl (by nofun) ?_
                          refine L.pass rfl rfl (by nofun) ?_
                          refine L.pass rfl rfl (by nofun) ?_
                          refine L.y rfl (Y.pickT rfl rfl) ?_
                          refine L.nil ?_
                          exact E.joinJ ⟨true, rfl, rfl, h⟩ ⟨rfl, rfl, rfl, rfl, rfl, trivial⟩ (fun _ hw => hw)
                        ·
                          refine L.y rfl (Y.pickF rfl rfl) ?_
                          refine L.y rfl (Y.move rfl) ?_
                          refine L.take rfl ?_
                          refine L.y rfl (Y.fieldP fd113_0 rfl) ?_
                          refine L.take rfl ?_
                          refine L.y rfl (Y.loadP (i := 1) ag3 rfl rfl rfl) ?_
                          refine L.take rfl ?_
                          refine L.ite h rfl (Y.gtr rfl rfl) (fun c36 h => ?_) (fun c36 h => ?_)
                          ·
                            refine L.y rfl (Y.pickF rfl rfl) ?_
                            refine L.nil ?_
                            exact E.joinJ ⟨true, rfl, rfl, h⟩ ⟨rfl, rfl, rfl, rfl, rfl, trivial⟩ (fun _ hw => hw)
                          ·
                            refine L.y rfl (Y.pickF rfl rfl) ?_
                            refine L.nil ?_
                            exact E.joinJ ⟨false, rfl, rfl, h⟩ ⟨rfl, rfl, rfl, rfl, rfl, trivial⟩ (fun _ hw => hw)
                      ·
                        replace h := iteT h
                        refine L.y rfl (Y.move rfl) ?_
                        refine L.pass rfl rfl (by nofun) ?_
                        refine L.pass rfl rfl (by nofun) ?_
                        refine L.pass rfl rfl (by nofun) ?_
                        refine L.y rfl (Y.pickT rfl rfl) ?_
                        refine L.y rfl (Y.move rfl) ?_
                        refine L.pass rfl rfl (by nofun) ?_
                        refine L.pass rfl rfl (by nofun) ?_
                        refine L.pass rfl rfl (by nofun) ?_
                        refine L.y rfl (Y.pickT rfl rfl) ?_
                        refine L.nil ?_
                        exact E.joinJ ⟨true, rfl, rfl, h⟩ ⟨rfl, rfl, rfl, rfl, rfl, trivial⟩ (fun _ hw => hw)
                  ·
                    rintro _ _ ⟨gb2, rfl, rfl, h⟩
                    rw [m12_quirlaw_PactSays_K8] at h
                    rcases gb2 with _ | _
                    ·
                      replace h := iteF h
                      refine W.condF rfl ?_
                      refine W.skip ?_
                      exact E.joinJ ⟨rfl, rfl, h⟩ ⟨rfl, rfl, rfl, rfl, trivial⟩ (fun _ hw => hw)
                    ·
                      replace h := iteT h
                      refine W.condT rfl ?_
                      refine W.seq ?_
                      refine W.region ?_
                      refine L.y rfl (Y.loadPW (i := 0) ag111 sz111 rfl rfl rfl) ?_
                      refine L.y rfl (Y.build (cells := #[.int .i64 0, .slice none 0 0, .slice none 0 0]) rfl (by kernel_rfl)) ?_
                      obtain ⟨b33, e34, h⟩ := bind1S h
                      refine L.y rfl (Y.does en76 rfl (fun w' hw => (w76_quirref_SamePact x11 (⟨0, [], []⟩ : TPact) v12 v13 (.slice none 0 0) (.slice none 0 0) w' _ e34 (As.at_ (hw.get (i := 3) rfl)) (As.at_ (hw.get (i := 4) rfl)) (At.nil w' _) (At.nil w' _)).mono (fun _ _ h => h.1))) ?_
                      rcases b33 with _ | _
                      ·
                        replace h := iteF h
                        refine L.y rfl (Y.move rfl) ?_
                        refine L.pass rfl rfl (by nofun) ?_
                        refine L.pass rfl rfl (by nofun) ?_
                        refine L.y rfl (Y.pickF rfl rfl) ?_
                        refine L.y rfl (Y.assign rfl) ?_
                        refine L.nil ?_
                        refine E.thenN ?_
                        refine W.ret ?_
                        refine E.KSR ?_
                        refine E.ret1 rfl rfl (fun w1 hw => ?_)
                        obtain rfl := Option.some.inj h
                        exact ⟨_, _, rfl, ⟨rfl, rfl⟩, hw.sel [] (by decide) rfl⟩
                      ·
                        replace h := iteT h
                        refine L.y rfl (Y.move rfl) ?_
                        refine L.take rfl ?_
                        refine L.y rfl (Y.move rfl) ?_
                        refine L.take rfl ?_
                        refine L.y rfl (Y.eql rfl rfl) ?_
                        refine L.y rfl (Y.pickT rfl rfl) ?_
                        refine L.y rfl (Y.assign rfl) ?_
                        refine L.nil ?_
                        refine E.thenN ?_
                        refine W.ret ?_
                        refine E.KSR ?_
                        refine E.ret1 rfl rfl (fun w1 hw => ?_)
                        obtain rfl := Option.some.inj h
                        exact ⟨_, _, rfl, ⟨rfl, rfl⟩, hw.sel [] (by decide) rfl⟩
                ·
                  rintro _ _ ⟨rfl, rfl, h⟩
                  rw [m12_quirlaw_PactSays_K7] at h
                  refine W.seq ?_
                  refine W.drawn (k := 10) (D := Cls w [] [.obj b16 [.int .i64 x11.Lead, v12, v13] 111, .obj b2 [.int .i64 a2.Kind, .int .i64 a2.Who, .int .i64 a2.By] 113, .obj b1 [.int .i64 a1.Lead, u1_0, u1_1] 111, .sl v12 3 1 (x11.Votes.map I), .sl v13 3 1 (x11.Parts.map I)]) rfl mixed (fun _ hw => hw.drew) (fun _ hw => hw) ?_
                  refine V.y (i := 0) (Nx.of (by kernel_rfl) rfl) rfl rfl rfl (Y.loadPW (i := 0) ag111 sz111 rfl rfl rfl) ?_
                  refine V.y (i := 1) (Nx.of (by kernel_rfl) rfl) rfl rfl rfl (Y.loadPW (i := 2) ag111 sz111 rfl rfl rfl) ?_
                  refine V.y (i := 2) (Nx.of (by kernel_rfl) rfl) rfl rfl rfl (Y.loadPW (i := 1) ag113 sz113 rfl rfl rfl) ?_
                  refine V.eff (i := 3) (by kernel_rfl) rfl ?_
                  obtain ⟨x27, e30, h⟩ := bind1S h
                  refine L.does rfl en80 rfl (fun w' hw => w80_quirref_PactStep a1 a2 u1_0 u1_1 w' _ e30 (hA1_0.cls0 hw) (hA1_1.cls0 hw)) ?_
                  rintro _ _ ⟨v28, v29, rfl, rfl⟩
                  refine L.nil ?_
                  refine E.toV (D' := Cls w [] [.obj b16 [.int .i64 x11.Lead, v12, v13] 111, .obj b2 [.int .i64 a2.Kind, .int .i64 a2.Who, .int .i64 a2.By] 113, .obj b1 [.int .i64 a1.Lead, u1_0, u1_1] 111, .sl v12 3 1 (x11.Votes.map I), .sl v13 3 1 (x11.Parts.map I)]) (fun _ hw => hw) (fun _ hw => hw.sel [2, 3, 4, 5, 6] (by decide) rfl) ?_
                  refine V.eff (i := 4) (by kernel_rfl) rfl ?_
                  obtain ⟨b31, e32, h⟩ := bind1S h
                  refine L.y rfl (Y.does en76 rfl (fun w' hw => (w76_quirref_SamePact x11 x27 v12 v13 v28 v29 w' _ e32 (As.at_ (hw.get (i := 5) rfl)) (As.at_ (hw.get (i := 6) rfl)) (As.at_ (hw.get (i := 0) rfl)) (As.at_ (hw.get (i := 1) rfl))).mono (fun _ _ h => h.1))) ?_
                  rcases b31 with _ | _
                  ·
                    replace h := iteF h
                    refine L.nil ?_
                    refine E.toV (D' := Cls w [] [.obj b16 [.int .i64 x11.Lead, v12, v13] 111, .obj b2 [.int .i64 a2.Kind, .int .i64 a2.Who, .int .i64 a2.By] 113, .obj b1 [.int .i64 a1.Lead, u1_0, u1_1] 111, .sl v12 3 1 (x11.Votes.map I), .sl v13 3 1 (x11.Parts.map I)]) (fun _ hw => hw) (fun _ hw => hw.sel [2, 3, 4, 5, 6] (by decide) rfl) ?_
                    refine V.y (i := 5) (Nx.of (by kernel_rfl) rfl) rfl rfl rfl (Y.move rfl) ?_
                    refine V.pass (i := 6) (Nx.of (by kernel_rfl) rfl) rfl rfl ?_
                    refine V.pass (i := 7) (Nx.of (by kernel_rfl) rfl) rfl rfl ?_
                    refine V.y (i := 8) (Nx.of (by kernel_rfl) rfl) rfl rfl rfl (Y.pickF rfl rfl) ?_
                    refine V.y (i := 9) (Nx.of (by kernel_rfl) rfl) rfl rfl rfl (Y.assign rfl) ?_
                    refine V.done (by kernel_rfl) ?_
                    refine E.thenN ?_
                    refine W.ret ?_
                    refine E.ret1 rfl rfl (fun w1 hw => ?_)
                    obtain rfl := Option.some.inj h
                    exact ⟨_, _, rfl, ⟨rfl, rfl⟩, hw.sel [] (by decide) rfl⟩
                  ·
                    replace h := iteT h
                    refine L.nil ?_
                    refine E.toV (D' := Cls w [] [.obj b16 [.int .i64 x11.Lead, v12, v13] 111, .obj b2 [.int .i64 a2.Kind, .int .i64 a2.Who, .int .i64 a2.By] 113, .obj b1 [.int .i64 a1.Lead, u1_0, u1_1] 111, .sl v12 3 1 (x11.Votes.map I), .sl v13 3 1 (x11.Parts.map I)]) (fun _ hw => hw) (fun _ hw => hw.sel [2, 3, 4, 5, 6] (by decide) rfl) ?_
                    refine V.y (i := 5) (Nx.of (by kernel_rfl) rfl) rfl rfl rfl (Y.move rfl) ?_
                    refine V.y (i := 6) (Nx.of (by kernel_rfl) rfl) rfl rfl rfl (Y.move rfl) ?_
                    refine V.y (i := 7) (Nx.of (by kernel_rfl) rfl) rfl rfl rfl (Y.eql rfl rfl) ?_
                    refine V.y (i := 8) (Nx.of (by kernel_rfl) rfl) rfl rfl rfl (Y.pickT rfl rfl) ?_
                    refine V.y (i := 9) (Nx.of (by kernel_rfl) rfl) rfl rfl rfl (Y.assign rfl) ?_
                    refine V.done (by kernel_rfl) ?_
                    refine E.thenN ?_
                    refine W.ret ?_
                    refine E.ret1 rfl rfl (fun w1 hw => ?_)
                    obtain rfl := Option.some.inj h
                    exact ⟨_, _, rfl, ⟨rfl, rfl⟩, hw.sel [] (by decide) rfl⟩
          ·
            replace h := iteT h
            refine W.seqJ (fun gs D => gs = [(4, pt b1 0), (5, pt b2 0), (10, pt b16 0), (11, .int .i64 x14), (12, v18)] ∧ D = Cls w [] [.obj b16 [.int .i64 x11.Lead, v12, v13] 111, .obj b2 [.int .i64 a2.Kind, .int .i64 a2.Who, .int .i64 a2.By] 113, .obj b1 [.int .i64 a1.Lead, u1_0, u1_1] 111, .sl v18 3 1 (l17.map I), .sl v12 3 1 (x11.Votes.map I), .sl v13 3 1 (x11.Parts.map I)] ∧ m12_quirlaw_PactSays_K11 l17 a2 x11 x14 a1 = some r) ?_ ?_
            ·
              refine W.seq ?_
              refine W.region ?_
              refine L.cutJ 9 (fun gs D => ∃ (gb9 : Bool), gs = [(4, pt b1 0), (5, pt b2 0), (10, pt b16 0), (11, .int .i64 x14), (12, v18), (14, .bool true), (97, .bool gb9)] ∧ D = Cls w [] [.obj b16 [.int .i64 x11.Lead, v12, v13] 111, .obj b2 [.int .i64 a2.Kind, .int .i64 a2.Who, .int .i64 a2.By] 113, .obj b1 [.int .i64 a1.Lead, u1_0, u1_1] 111, .sl v18 3 1 (l17.map I), .sl v12 3 1 (x11.Votes.map I), .sl v13 3 1 (x11.Parts.map I)] ∧ m12_quirlaw_PactSays_K16 l17 a1 a2 x11 x14 gb9 = some r) ?_ ?_
              ·
                refine L.y rfl (Y.move rfl) ?_
                refine L.ite h rfl (Y.neq rfl rfl) (fun c68 h => ?_) (fun c68 h => ?_)
                ·
                  refine L.y rfl (Y.move rfl) ?_
                  refine L.pass rfl rfl (by nofun) ?_
                  refine L.pass rfl rfl (by nofun) ?_
                  refine L.pass rfl rfl (by nofun) ?_
                  refine L.pass rfl rfl (by nofun) ?_
                  refine L.pass rfl rfl (by nofun) ?_
                  refine L.y rfl (Y.pickT rfl rfl) ?_
                  refine L.nil ?_
                  exact E.joinJ ⟨true, rfl, rfl, h⟩ ⟨rfl, rfl, rfl, rfl, rfl, rfl, rfl, trivial⟩ (fun _ hw => hw)
                ·
                  refine L.y rfl (Y.move rfl) ?_
                  refine L.take rfl ?_
                  refine L.y rfl (Y.move rfl) ?_
                  refine L.take rfl ?_
                  refine L.y rfl (Y.move rfl) ?_
                  refine L.take rfl ?_
                  refine L.y rfl (Y.lenM (g := I) (l := l17) Try.underlying24 rfl (fun w hw => As.at_ (hw.get (i := 3) rfl))) ?_
                  refine L.take rfl ?_
                  refine L.y rfl (Y.gtr rfl rfl) ?_
                  refine L.take rfl ?_
                  refine L.iteB h rfl (Y.neqB Try.underlying4 rfl rfl) (fun c69 h => ?_) (fun c69 h => ?_)
                  ·
                    refine L.y rfl (Y.pickF rfl rfl) ?_
                    refine L.nil ?_
                    exact E.joinJ ⟨true, rfl, rfl, h⟩ ⟨rfl, rfl, rfl, rfl, rfl, rfl, rfl, trivial⟩ (fun _ hw => hw)
                  ·
                    refine L.y rfl (Y.pickF rfl rfl) ?_
                    refine L.nil ?_
                    exact E.joinJ ⟨false, rfl, rfl, h⟩ ⟨rfl, rfl, rfl, rfl, rfl, rfl, rfl, trivial⟩ (fun _ hw => hw)
              ·
                rintro _ _ ⟨gb9, rfl, rfl, h⟩
                rw [m12_quirlaw_PactSays_K16] at h
                rcases gb9 with _ | _
                ·
                  replace h := iteF h
                  refine L.y rfl (Y.move rfl) ?_
                  refine L.take rfl ?_
                  refine L.y rfl (Y.move rfl) ?_
                  refine L.take rfl ?_
                  refine L.y rfl (Y.move rfl) ?_
                  refine L.take rfl ?_
                  refine L.y rfl (Y.move rfl) ?_
                  refine L.take rfl ?_
                  refine L.y rfl (Y.lenM (g := I) (l := l17) Try.underlying24 rfl (fun w hw => As.at_ (hw.get (i := 3) rfl))) ?_
                  refine L.take rfl ?_
                  refine L.y rfl (Y.fieldP fd111_2 rfl) ?_
                  refine L.take rfl ?_
                  refine L.y rfl (Y.loadP (i := 2) ag24 rfl rfl rfl) ?_
                  refine L.take rfl ?_
                  refine L.y rfl (Y.lenM (g := I) (l := a1.Parts) Try.underlying24 rfl (fun w' hw => hA1_1.cls0 hw)) ?_
                  refine L.take rfl ?_
                  refine L.ite h rfl (Y.neq rfl rfl) (fun c67 h => ?_) (fun c67 h => ?_)
                  ·
                    refine L.take rfl ?_
                    refine L.y rfl (Y.pickT rfl rfl) ?_
                    refine L.y rfl (Y.pickF rfl rfl) ?_
                    refine L.nil ?_
                    refine E.thenN ?_
                    refine W.condT rfl ?_
                    refine W.seq ?_
                    refine W.region ?_
                    refine L.y rfl (Y.assign rfl) ?_
                    refine L.nil ?_
                    refine E.thenN ?_
                    refine W.ret ?_
                    refine E.KSR ?_
                    refine E.ret1 rfl rfl (fun w1 hw => ?_)
                    obtain rfl := Option.some.inj h
                    exact ⟨_, _, rfl, ⟨rfl, rfl⟩, hw.sel [] (by decide) rfl⟩
                  ·
                    refine L.take rfl ?_
                    refine L.y rfl (Y.pickT rfl rfl) ?_
                    refine L.y rfl (Y.pickF rfl rfl) ?_
                    refine L.nil ?_
                    refine E.thenN ?_
                    refine W.condF rfl ?_
                    refine W.skip ?_
                    exact E.joinJ ⟨rfl, rfl, h⟩ ⟨rfl, rfl, rfl, rfl, rfl, trivial⟩ (fun _ hw => hw)
                ·
                  replace h := iteT h
                  refine L.y rfl (Y.move rfl) ?_
                  refine L.pass rfl rfl (by nofun) ?_
                  refine L.pass rfl rfl (by nofun) ?_
                  refine L.pass rfl rfl (by nofun) ?_
                  refine L.pass rfl rfl (by nofun) ?_
                  refine L.pass rfl rfl (by nofun) ?_
                  refine L.pass rfl rfl (by nofun) ?_
                  refine L.pass rfl rfl (by nofun) ?_
                  refine L.pass rfl rfl (by nofun) ?_
                  refine L.pass rfl rfl (by nofun) ?_
                  refine L.y rfl (Y.pickT rfl rfl) ?_
                  refine L.nil ?_
                  refine E.thenN ?_
                  refine W.condT rfl ?_
                  refine W.seq ?_
                  refine W.region ?_
                  refine L.y rfl (Y.assign rfl) ?_
                  refine L.nil ?_
                  refine E.thenN ?_
                  refine W.ret ?_
                  refine E.KSR ?_
                  refine E.ret1 rfl rfl (fun w1 hw => ?_)
                  obtain rfl := Option.some.inj h
                  exact ⟨_, _, rfl, ⟨rfl, rfl⟩, hw.sel [] (by decide) rfl⟩
            ·
              rintro _ _ ⟨rfl, rfl, h⟩
              rw [m12_quirlaw_PactSays_K11] at h
              refine W.seqJ (fun gs D => gs = [(4, pt b1 0), (5, pt b2 0), (10, pt b16 0), (11, .int .i64 x14)] ∧ D = Cls w [] [.obj b16 [.int .i64 x11.Lead, v12, v13] 111, .obj b2 [.int .i64 a2.Kind, .int .i64 a2.Who, .int .i64 a2.By] 113, .obj b1 [.int .i64 a1.Lead, u1_0, u1_1] 111, .sl v12 3 1 (x11.Votes.map I), .sl v13 3 1 (x11.Parts.map I)] ∧ m12_quirlaw_PactSays_K12 a2 x11 x14 a1 = some r) ?_ ?_
              ·
                refine W.seq ?_
                refine W.region ?_
                refine L.y rfl (Y.move rfl) ?_
                refine L.y rfl (Y.lenM (g := I) (l := l17) Try.underlying24 rfl (fun w hw => As.at_ (hw.get (i := 3) rfl))) ?_
                refine L.y rfl (Y.move rfl) ?_
                refine L.nil ?_
                refine E.thenN ?_
                refine W.block ?_
                refine W.loopJ (fun m gs D => ∃ (gx8 : Int), gs = [(4, pt b1 0), (5, pt b2 0), (10, pt b16 0), (11, .int .i64 x14), (109, v18), (110, .int .i64 (l17.length : Int)), (111, .int .i64 gx8)] ∧ D = Cls w [] [.obj b16 [.int .i64 x11.Lead, v12, v13] 111, .obj b2 [.int .i64 a2.Kind, .int .i64 a2.Who, .int .i64 a2.By] 113, .obj b1 [.int .i64 a1.Lead, u1_0, u1_1] 111, .sl v18 3 1 (l17.map I), .sl v12 3 1 (x11.Votes.map I), .sl v13 3 1 (x11.Parts.map I)] ∧ m12_quirlaw_PactSays_L2 l17 a2 x11 x14 a1 m gx8 = some r) ⟨0, rfl, rfl, h⟩ ⟨rfl, rfl, rfl, rfl, rfl, rfl, rfl, trivial⟩ (fun _ hw => hw) ?_
                rintro m _ _ ⟨gx8, rfl, rfl, h⟩
                rcases m with _ | m
                · rw [m12_quirlaw_PactSays_L2] at h; cases h
                rw [m12_quirlaw_PactSays_L2] at h
                generalize hg2 : m12_quirlaw_PactSays_L2 l17 a2 x11 x14 a1 m = go2 at h
                rw [m12_quirlaw_PactSays_L2B] at h
                refine W.seq ?_
                refine W.region ?_
                refine L.ite h rfl (Y.lss rfl rfl) (fun c63 h => ?_) (fun c63 h => ?_)
                ·
                  refine L.nil ?_
                  refine E.thenN ?_
                  refine W.seq ?_
                  refine W.condT rfl ?_
                  refine W.skip ?_
                  refine E.thenN ?_
                  refine W.seq ?_
                  refine W.block ?_
                  refine W.seq ?_
                  refine W.region ?_
                  refine L.y rfl (Y.move rfl) ?_
                  refine L.m (V := fun _ => el v18 (gx8.toNat * 1)) h rfl (Y.indexM (g := I) (l := l17) Try.underlying24 sz3 rfl rfl (fun w hw => As.at_ (hw.get (i := 3) rfl))) (fun x64 ex64 h => ?_)
                  refine L.y rfl (Y.loadE1 (u := .int .i64 x64) ag3 rfl (fun w hw => As.at_ (hw.get (i := 3) rfl)) (idx_map ex64)) ?_
                  refine L.y rfl (Y.assign rfl) ?_
                  refine L.y rfl (Y.assign rfl) ?_
                  refine L.nil ?_
                  refine E.thenN ?_
                  refine W.seq ?_
                  refine W.region ?_
                  refine L.y rfl (Y.move rfl) ?_
                  refine L.y rfl (Y.move rfl) ?_
                  refine L.ite h rfl (Y.neq rfl rfl) (fun c65 h => ?_) (fun c65 h => ?_)
                  ·
                    refine L.nil ?_
                    refine E.thenN ?_
                    refine W.condT rfl ?_
                    refine W.seq ?_
                    refine W.region ?_
                    refine L.y rfl (Y.assign rfl) ?_
                    refine L.nil ?_
                    refine E.thenN ?_
                    refine W.ret ?_
                    refine E.blockR ?_
                    refine E.thenR ?_
                    refine E.KLR ?_
                    refine E.blockR ?_
                    refine E.KSR ?_
                    refine E.ret1 rfl rfl (fun w1 hw => ?_)
                    obtain rfl := Option.some.inj h
                    exact ⟨_, _, rfl, ⟨rfl, rfl⟩, hw.sel [] (by decide) rfl⟩
                  ·
                    refine L.nil ?_
                    refine E.thenN ?_
                    refine W.condF rfl ?_
                    refine W.skip ?_
                    refine E.blockN ?_
                    refine E.thenN ?_
                    refine W.region ?_
                    refine L.m (V := fun x66 => .int .i64 x66) h rfl (Y.addM rfl rfl) (fun x66 ex66 h => ?_)
                    refine L.y rfl (Y.move rfl) ?_
                    refine L.nil ?_
                    exact E.againJ ⟨x66, rfl, rfl, by rw [hg2]; exact h⟩ (Nat.lt_succ_self _) ⟨rfl, rfl, rfl, rfl, rfl, rfl, rfl, trivial⟩ (fun _ hw => hw)
                ·
                  refine L.nil ?_
                  refine E.thenN ?_
                  refine W.seq ?_
                  refine W.condF rfl ?_
                  refine W.exit ?_
                  refine E.thenX ?_
                  refine E.KLX ?_
                  refine E.blockX ?_
                  exact E.joinJ ⟨rfl, rfl, h⟩ ⟨rfl, rfl, rfl, rfl, trivial⟩ (fun _ hw => hw.sel [0, 1, 2, 4, 5] (by decide) rfl)
              ·
                rintro _ _ ⟨rfl, rfl, h⟩
                rw [m12_quirlaw_PactSays_K12] at h
                refine W.seqJ (fun gs D => gs = [(4, pt b1 0), (5, pt b2 0), (10, pt b16 0), (11, .int .i64 x14)] ∧ D = Cls w [] [.obj b16 [.int .i64 x11.Lead, v12, v13] 111, .obj b2 [.int .i64 a2.Kind, .int .i64 a2.Who, .int .i64 a2.By] 113, .obj b1 [.int .i64 a1.Lead, u1_0, u1_1] 111, .sl v12 3 1 (x11.Votes.map I), .sl v13 3 1 (x11.Parts.map I)] ∧ m12_quirlaw_PactSays_K13 a1 a2 x11 x14 = some r) ?_ ?_
                ·
                  refine W.seqJ (fun gs D => ∃ (gb6 : Bool), gs = [(4, pt b1 0), (5, pt b2 0), (10, pt b16 0), (11, .int .i64 x14), (146, .bool gb6)] ∧ D = Cls w [] [.obj b16 [.int .i64 x11.Lead, v12, v13] 111, .obj b2 [.int .i64 a2.Kind, .int .i64 a2.Who, .int .i64 a2.By] 113, .obj b1 [.int .i64 a1.Lead, u1_0, u1_1] 111, .sl v12 3 1 (x11.Votes.map I), .sl v13 3 1 (x11.Parts.map I)] ∧ m12_quirlaw_PactSays_K14 x11 x14 a1 a2 gb6 = some r) ?_ ?_
                  ·
                    refine W.region ?_
                    refine L.cutJ 17 (fun gs D => ∃ (gb7 : Bool), gs = [(4, pt b1 0), (5, pt b2 0), (10, pt b16 0), (11, .int .i64 x14), (136, .bool gb7)] ∧ D = Cls w [] [.obj b16 [.int .i64 x11.Lead, v12, v13] 111, .obj b2 [.int .i64 a2.Kind, .int .i64 a2.Who, .int .i64 a2.By] 113, .obj b1 [.int .i64 a1.Lead, u1_0, u1_1] 111, .sl v12 3 1 (x11.Votes.map I), .sl v13 3 1 (x11.Parts.map I)] ∧ m12_quirlaw_PactSays_K15 x11 x14 a1 a2 gb7 = some r) ?_ ?_
                    ·
                      refine L.y rfl (Y.fieldP fd113_1 rfl) ?_
                      refine L.y rfl (Y.loadP (i := 1) ag3 rfl rfl rfl) ?_
                      refine L.y rfl (Y.fieldP fd113_2 rfl) ?_
                      refine L.y rfl (Y.loadP (i := 1) ag3 rfl rfl rfl) ?_
                      refine L.y rfl (Y.min2 rfl rfl) ?_
                      refine L.ite h rfl (Y.lss rfl rfl) (fun c61 h => ?_) (fun c61 h => ?_)
                      ·
                        refine L.y rfl (Y.move rfl) ?_
                        refine L.pass rfl rfl (by nofun) ?_
                        refine L.pass rfl rfl (by nofun) ?_
                        refine L.pass rfl rfl (by nofun) ?_
                        refine L.pass rfl rfl (by nofun) ?_
                        refine L.pass rfl rfl (by nofun) ?_
                        refine L.pass rfl rfl (by nofun) ?_
                        refine L.pass rfl rfl (by nofun) ?_
                        refine L.pass rfl rfl (by nofun) ?_
                        refine L.pass rfl rfl (by nofun) ?_
                        refine L.y rfl (Y.pickT rfl rfl) ?_
                        refine L.nil ?_
                        exact E.joinJ ⟨true, rfl, rfl, h⟩ ⟨rfl, rfl, rfl, rfl, rfl, trivial⟩ (fun _ hw => hw)
                      ·
                        refine L.y rfl (Y.move rfl) ?_
                        refine L.take rfl ?_
                        refine L.y rfl (Y.fieldP fd113_1 rfl) ?_
                        refine L.take rfl ?_
                        refine L.y rfl (Y.loadP (i := 1) ag3 rfl rfl rfl) ?_
                        refine L.take rfl ?_
                        refine L.y rfl (Y.fieldP fd113_2 rfl) ?_
                        refine L.take rfl ?_
                        refine L.y rfl (Y.loadP (i := 1) ag3 rfl rfl rfl) ?_
                        refine L.take rfl ?_
                        refine L.y rfl (Y.max2 rfl rfl) ?_
                        refine L.take rfl ?_
                        refine L.y rfl (Y.fieldP fd111_2 rfl) ?_
                        refine L.take rfl ?_
                        refine L.y rfl (Y.loadP (i := 2) ag24 rfl rfl rfl) ?_
                        refine L.take rfl ?_
                        refine L.y rfl (Y.lenM (g := I) (l := a1.Parts) Try.underlying24 rfl (fun w' hw => hA1_1.cls0 hw)) ?_
                        refine L.take rfl ?_
                        refine L.ite h rfl (Y.geq rfl rfl) (fun c62 h => ?_) (fun c62 h => ?_)
                        ·
                          refine L.y rfl (Y.pickF rfl rfl) ?_
                          refine L.nil ?_
                          exact E.joinJ ⟨true, rfl, rfl, h⟩ ⟨rfl, rfl, rfl, rfl, rfl, trivial⟩ (fun _ hw => hw)
                        ·
                          refine L.y rfl (Y.pickF rfl rfl) ?_
                          refine L.nil ?_
                          exact E.joinJ ⟨false, rfl, rfl, h⟩ ⟨rfl, rfl, rfl, rfl, rfl, trivial⟩ (fun _ hw => hw)
                    ·
                      rintro _ _ ⟨gb7, rfl, rfl, h⟩
                      rw [m12_quirlaw_PactSays_K15] at h
                      rcases gb7 with _ | _
                      ·
                        replace h := iteF h
                        refine L.y rfl (Y.move rfl) ?_
                        refine L.take rfl ?_
                        refine L.y rfl (Y.fieldP fd113_0 rfl) ?_
                        refine L.take rfl ?_
                        refine L.y rfl (Y.loadP (i := 1) ag3 rfl rfl rfl) ?_
                        refine L.take rfl ?_
                        refine L.ite h rfl (Y.lss rfl rfl) (fun c59 h => ?_) (fun c59 h => ?_)
                        ·
                          refine L.y rfl (Y.pickF rfl rfl) ?_
                          refine L.y rfl (Y.move rfl) ?_
                          refine L.pass rfl rfl (by nofun) ?_
                          refine L.pass rfl rfl (by nofun) ?_
                          refine L.pass rfl rfl (by nofun) ?_
                          refine L.y rfl (Y.pickT rfl rfl) ?_
                          refine L.nil ?_
                          exact E.joinJ ⟨true, rfl, rfl, h⟩ ⟨rfl, rfl, rfl, rfl, rfl, trivial⟩ (fun _ hw => hw)
                        ·
                          refine L.y rfl (Y.pickF rfl rfl) ?_
                          refine L.y rfl (Y.move rfl) ?_
                          refine L.take rfl ?_
                          refine L.y rfl (Y.fieldP fd113_0 rfl) ?_
                          refine L.take rfl ?_
                          refine L.y rfl (Y.loadP (i := 1) ag3 rfl rfl rfl) ?_
                          refine L.take rfl ?_
                          refine L.ite h rfl (Y.gtr rfl rfl) (fun c60 h => ?_) (fun c60 h => ?_)
                          ·
                            refine L.y rfl (Y.pickF rfl rfl) ?_
                            refine L.nil ?_
                            exact E.joinJ ⟨true, rfl, rfl, h⟩ ⟨rfl, rfl, rfl, rfl, rfl, trivial⟩ (fun _ hw => hw)
                          ·
                            refine L.y rfl (Y.pickF rfl rfl) ?_
                            refine L.nil ?_
                            exact E.joinJ ⟨false, rfl, rfl, h⟩ ⟨rfl, rfl, rfl, rfl, rfl, trivial⟩ (fun _ hw => hw)
                      ·
                        replace h := iteT h
                        refine L.y rfl (Y.move rfl) ?_
                        refine L.pass rfl rfl (by nofun) ?_
                        refine L.pass rfl rfl (by nofun) ?_
                        refine L.pass rfl rfl (by nofun) ?_
                        refine L.y rfl (Y.pickT rfl rfl) ?_
                        refine L.y rfl (Y.move rfl) ?_
                        refine L.pass rfl rfl (by nofun) ?_
                        refine L.pass rfl rfl (by nofun) ?_
                        refine L.pass rfl rfl (by nofun) ?_
                        refine L.y rfl (Y.pickT rfl rfl) ?_
                        refine L.nil ?_
                        exact E.joinJ ⟨true, rfl, rfl, h⟩ ⟨rfl, rfl, rfl, rfl, rfl, trivial⟩ (fun _ hw => hw)
                  ·
                    rintro _ _ ⟨gb6, rfl, rfl, h⟩
                    rw [m12_quirlaw_PactSays_K14] at h
                    rcases gb6 with _ | _
                    ·
                      replace h := iteF h
                      refine W.condF rfl ?_
                      refine W.skip ?_
                      exact E.joinJ ⟨rfl, rfl, h⟩ ⟨rfl, rfl, rfl, rfl, trivial⟩ (fun _ hw => hw)
                    ·
                      replace h := iteT h
                      refine W.condT rfl ?_
                      refine W.seq ?_
                      refine W.region ?_
                      refine L.y rfl (Y.loadPW (i := 0) ag111 sz111 rfl rfl rfl) ?_
                      refine L.y rfl (Y.build (cells := #[.int .i64 0, .slice none 0 0, .slice none 0 0]) rfl (by kernel_rfl)) ?_
                      obtain ⟨b57, e58, h⟩ := bind1S h
                      refine L.y rfl (Y.does en76 rfl (fun w' hw => (w76_quirref_SamePact x11 (⟨0, [], []⟩ : TPact) v12 v13 (.slice none 0 0) (.slice none 0 0) w' _ e58 (As.at_ (hw.get (i := 3) rfl)) (As.at_ (hw.get (i := 4) rfl)) (At.nil w' _) (At.nil w' _)).mono (fun _ _ h => h.1))) ?_
                      rcases b57 with _ | _
                      ·
                        replace h := iteF h
                        refine L.y rfl (Y.move rfl) ?_
                        refine L.pass rfl rfl (by nofun) ?_
                        refine L.pass rfl rfl (by nofun) ?_
                        refine L.y rfl (Y.pickF rfl rfl) ?_
                        refine L.y rfl (Y.assign rfl) ?_
                        refine L.nil ?_
                        refine E.thenN ?_
                        refine W.ret ?_
                        refine E.KSR ?_
                        refine E.ret1 rfl rfl (fun w1 hw => ?_)
                        obtain rfl := Option.some.inj h
                        exact ⟨_, _, rfl, ⟨rfl, rfl⟩, hw.sel [] (by decide) rfl⟩
                      ·
                        replace h := iteT h
                        refine L.y rfl (Y.move rfl) ?_
                        refine L.take rfl ?_
                        refine L.y rfl (Y.move rfl) ?_
                        refine L.take rfl ?_
                        refine L.y rfl (Y.eql rfl rfl) ?_
                        refine L.y rfl (Y.pickT rfl rfl) ?_
                        refine L.y rfl (Y.assign rfl) ?_
                        refine L.nil ?_
                        refine E.thenN ?_
                        refine W.ret ?_
                        refine E.KSR ?_
                        refine E.ret1 rfl rfl (fun w1 hw => ?_)
                        obtain rfl := Option.some.inj h
                        exact ⟨_, _, rfl, ⟨rfl, rfl⟩, hw.sel [] (by decide) rfl⟩
                ·
                  rintro _ _ ⟨rfl, rfl, h⟩
                  rw [m12_quirlaw_PactSays_K13] at h
                  refine W.seq ?_
                  refine W.drawn (k := 10) (D := Cls w [] [.obj b16 [.int .i64 x11.Lead, v12, v13] 111, .obj b2 [.int .i64 a2.Kind, .int .i64 a2.Who, .int .i64 a2.By] 113, .obj b1 [.int .i64 a1.Lead, u1_0, u1_1] 111, .sl v12 3 1 (x11.Votes.map I), .sl v13 3 1 (x11.Parts.map I)]) rfl mixed (fun _ hw => hw.drew) (fun _ hw => hw) ?_
                  refine V.y (i := 0) (Nx.of (by kernel_rfl) rfl) rfl rfl rfl (Y.loadPW (i := 0) ag111 sz111 rfl rfl rfl) ?_
                  refine V.y (i := 1) (Nx.of (by kernel_rfl) rfl) rfl rfl rfl (Y.loadPW (i := 2) ag111 sz111 rfl rfl rfl) ?_
                  refine V.y (i := 2) (Nx.of (by kernel_rfl) rfl) rfl rfl rfl (Y.loadPW (i := 1) ag113 sz113 rfl rfl rfl) ?_
                  refine V.eff (i := 3) (by kernel_rfl) rfl ?_
                  obtain ⟨x51, e54, h⟩ := bind1S h
                  refine L.does rfl en80 rfl (fun w' hw => w80_quirref_PactStep a1 a2 u1_0 u1_1 w' _ e54 (hA1_0.cls0 hw) (hA1_1.cls0 hw)) ?_
                  rintro _ _ ⟨v52, v53, rfl, rfl⟩
                  refine L.nil ?_
                  refine E.toV (D' := Cls w [] [.obj b16 [.int .i64 x11.Lead, v12, v13] 111, .obj b2 [.int .i64 a2.Kind, .int .i64 a2.Who, .int .i64 a2.By] 113, .obj b1 [.int .i64 a1.Lead, u1_0, u1_1] 111, .sl v12 3 1 (x11.Votes.map I), .sl v13 3 1 (x11.Parts.map I)]) (fun _ hw => hw) (fun _ hw => hw.sel [2, 3, 4, 5, 6] (by decide) rfl) ?_
                  refine V.eff (i := 4) (by kernel_rfl) rfl ?_
                  obtain ⟨b55, e56, h⟩ := bind1S h
                  refine L.y rfl (Y.does en76 rfl (fun w' hw => (w76_quirref_SamePact x11 x51 v12 v13 v52 v53 w' _ e56 (As.at_ (hw.get (i := 5) rfl)) (As.at_ (hw.get (i := 6) rfl)) (As.at_ (hw.get (i := 0) rfl)) (As.at_ (hw.get (i := 1) rfl))).mono (fun _ _ h => h.1))) ?_
                  rcases b55 with _ | _
                  ·
                    replace h := iteF h
                    refine L.nil ?_
                    refine E.toV (D' := Cls w [] [.obj b16 [.int .i64 x11.Lead, v12, v13] 111, .obj b2 [.int .i64 a2.Kind, .int .i64 a2.Who, .int .i64 a2.By] 113, .obj b1 [.int .i64 a1.Lead, u1_0, u1_1] 111, .sl v12 3 1 (x11.Votes.map I), .sl v13 3 1 (x11.Parts.map I)]) (fun _ hw => hw) (fun _ hw => hw.sel [2, 3, 4, 5, 6] (by decide) rfl) ?_
                    refine V.y (i := 5) (Nx.of (by kernel_rfl) rfl) rfl rfl rfl (Y.move rfl) ?_
                    refine V.pass (i := 6) (Nx.of (by kernel_rfl) rfl) rfl rfl ?_
                    refine V.pass (i := 7) (Nx.of (by kernel_rfl) rfl) rfl rfl ?_
                    refine V.y (i := 8) (Nx.of (by kernel_rfl) rfl) rfl rfl rfl (Y.pickF rfl rfl) ?_
                    refine V.y (i := 9) (Nx.of (by kernel_rfl) rfl) rfl rfl rfl (Y.assign rfl) ?_
                    refine V.done (by kernel_rfl) ?_
                    refine E.thenN ?_
                    refine W.ret ?_
                    refine E.ret1 rfl rfl (fun w1 hw => ?_)
                    obtain rfl := Option.some.inj h
                    exact ⟨_, _, rfl, ⟨rfl, rfl⟩, hw.sel [] (by decide) rfl⟩
                  ·
                    replace h := iteT h
                    refine L.nil ?_
                    refine E.toV (D' := Cls w [] [.obj b16 [.int .i64 x11.Lead, v12, v13] 111, .obj b2 [.int .i64 a2.Kind, .int .i64 a2.Who, .int .i64 a2.By] 113, .obj b1 [.int .i64 a1.Lead, u1_0, u1_1] 111, .sl v12 3 1 (x11.Votes.map I), .sl v13 3 1 (x11.Parts.map I)]) (fun _ hw => hw) (fun _ hw => hw.sel [2, 3, 4, 5, 6] (by decide) rfl) ?_
                    refine V.y (i := 5) (Nx.of (by kernel_rfl) rfl) rfl rfl rfl (Y.move rfl) ?_
                    refine V.y (i := 6) (Nx.of (by kernel_rfl) rfl) rfl rfl rfl (Y.move rfl) ?_
                    refine V.y (i := 7) (Nx.of (by kernel_rfl) rfl) rfl rfl rfl (Y.eql rfl rfl) ?_
                    refine V.y (i := 8) (Nx.of (by kernel_rfl) rfl) rfl rfl rfl (Y.pickT rfl rfl) ?_
                    refine V.y (i := 9) (Nx.of (by kernel_rfl) rfl) rfl rfl rfl (Y.assign rfl) ?_
                    refine V.done (by kernel_rfl) ?_
                    refine E.thenN ?_
                    refine W.ret ?_
                    refine E.ret1 rfl rfl (fun w1 hw => ?_)
                    obtain rfl := Option.some.inj h
                    exact ⟨_, _, rfl, ⟨rfl, rfl⟩, hw.sel [] (by decide) rfl⟩
end Go.Proofs.Ytfmgjigdebofaaa
