/-
  Walks, printed by a program of mine.
  Conditions: none.
-/
import Derived.Test.YtjhcdmcikodgkaaGrW1
import Derived.Test.YtjhcdmcikodgkaaChecked
import Derived.KernelRfl
import Derived.Test.YtjhcdmcikodgkaaSo
import Derived.Test.YtjhcdmcikodgkaaGrO
namespace Go.Proofs.Ytjhcdmcikodgkaa
open Go.S
set_option linter.unusedVariables false
set_option linter.unusedSimpArgs false
set_option maxRecDepth 100000 in
set_option maxHeartbeats 8000000 in
theorem w3_quirlaw_GraphSays (a0 : Int) (a1 : (List TEdge)) (a2 : Int) (u1 : Value) (w : World) (r : Bool) (h : m3_quirlaw_GraphSays a0 a1 a2 = some r) (hA1 : At w u1 2 (a1.map TEdge.row)) : Does Try.prog 3 [.int .i64 a0, u1, .int .i64 a2] w fun u m => u = .bool r ∧ m = [] := by
  rw [m3_quirlaw_GraphSays] at h
  refine body (n := 148) Try.func3 rfl rfl rfl (Cls.refl w) ?_
  refine W.seq (W.region (L.y rfl (Y.assign rfl) ?_))
  refine L.nil (E.thenN (W.seq (W.region (L.y rfl (Y.move rfl) ?_))))
  refine L.y rfl (Y.move rfl) ?_
  obtain ⟨x1, e2, h⟩ := bind1S h
  refine L.y rfl (Y.does en5 rfl (fun w' hw => (w5_quirref_GraphErr a0 a1 u1 w' _ e2 (hA1.cls0 hw)).mono (fun _ _ h => h.1))) ?_
  refine L.y rfl (Y.assign rfl) ?_
  refine L.nil (E.thenN (W.seq (W.region (L.y rfl (Y.move rfl) ?_))))
  refine L.y rfl (Y.move rfl) ?_
  obtain ⟨l3, x5, e6, h⟩ := bind2S h
  refine L.does rfl en6 rfl (fun w' hw => w6_graph_Order a0 a1 u1 w' _ e6 (hA1.cls0 hw)) ?_
  rintro _ _ ⟨v4, rfl, rfl⟩
  refine L.y rfl (Y.move rfl) ?_
  refine L.y rfl (Y.extract rfl rfl) ?_
  refine L.y rfl (Y.extract rfl rfl) ?_
  refine L.y rfl (Y.assign rfl) ?_
  refine L.y rfl (Y.assign rfl) ?_
  refine L.nil (E.thenN (W.seq (W.region (L.y rfl (Y.move rfl) ?_))))
  refine L.y rfl (Y.move rfl) ?_
  obtain ⟨l7, x10, e11, h⟩ := bind2S h
  refine L.does rfl en7 rfl (fun w' hw => w7_graph_Parts a0 a1 u1 w' _ e11 (hA1.cls0 hw)) ?_
  rintro _ _ ⟨v8, q9, rfl, rfl⟩
  refine L.y rfl (Y.move rfl) ?_
  refine L.y rfl (Y.extract rfl rfl) ?_
  refine L.y rfl (Y.extract rfl rfl) ?_
  refine L.y rfl (Y.assign rfl) ?_
  refine L.y rfl (Y.assign rfl) ?_
  refine L.nil (E.thenN (W.seq (W.region (L.y rfl (Y.move rfl) ?_))))
  refine L.y rfl (Y.move rfl) ?_
  refine L.y rfl (Y.move rfl) ?_
  obtain ⟨l12, x14, e15, h⟩ := bind2S h
  refine L.does rfl en8 rfl (fun w' hw => w8_graph_Reach a0 a1 a2 u1 w' _ e15 (hA1.cls0 hw)) ?_
  rintro _ _ ⟨v13, rfl, rfl⟩
  refine L.y rfl (Y.move rfl) ?_
  refine L.y rfl (Y.extract rfl rfl) ?_
  refine L.y rfl (Y.extract rfl rfl) ?_
  refine L.y rfl (Y.assign rfl) ?_
  refine L.y rfl (Y.assign rfl) ?_
  refine L.nil (E.thenN (W.seqJ (fun gs D => gs = [(0, .int .i64 a0), (1, u1), (2, .int .i64 a2), (7, .int .i64 x1), (8, v4), (9, .int .i64 x5), (10, v8), (11, .int .i64 x10), (12, v13), (13, .int .i64 x14)] ∧ D = Cls w [] [.sl v4 3 1 (l3.map I), .sl v8 25 1 (zr svRow q9 l7), .ss (zs (svSd 3 1 I) q9 l7), .sl v13 3 1 (l12.map I)] ∧ m3_quirlaw_GraphSays_K1 x1 l3 x5 l7 x10 l12 x14 a0 a1 a2 = some r) ?_ ?_))
  ·
   refine W.seq (W.region (L.y rfl (Y.move rfl) ?_))
   refine L.y rfl (Y.move rfl) ?_
   obtain ⟨x100, e101, h⟩ := bind1S h
   refine L.y rfl (Y.does en9 rfl (fun w' hw => (w9_graph_Check a0 a1 u1 w' _ e101 (hA1.cls0 hw)).mono (fun _ _ h => h.1))) ?_
   refine L.y rfl (Y.move rfl) ?_
   refine L.ite h rfl (Y.neq rfl rfl) (fun c102 h => ?_) (fun c102 h => ?_)
   ·
    refine L.nil (E.thenN (W.condT rfl ?_))
    refine W.seq (W.region (L.y rfl (Y.assign rfl) ?_))
    refine L.nil (E.thenN (W.ret (E.KSR (E.ret1 rfl rfl (fun w1 hw => ?_)))))
    obtain rfl := Option.some.inj h
    exact ⟨_, _, rfl, ⟨rfl, rfl⟩, hw.sel [] (by decide) rfl⟩
   ·
    refine L.nil (E.thenN (W.condF rfl ?_))
    exact W.skip (E.joinJ ⟨rfl, rfl, h⟩ ⟨rfl, rfl, rfl, rfl, rfl, rfl, rfl, rfl, rfl, rfl, trivial⟩ (fun _ hw => hw.sel [3, 1, 2, 0] (by decide) rfl))
  ·
   rintro _ _ ⟨rfl, rfl, h⟩
   rw [m3_quirlaw_GraphSays_K1] at h
   refine W.seqJ (fun gs D => gs = [(0, .int .i64 a0), (1, u1), (2, .int .i64 a2), (8, v4), (9, .int .i64 x5), (10, v8), (11, .int .i64 x10), (12, v13), (13, .int .i64 x14)] ∧ D = Cls w [] [.sl v4 3 1 (l3.map I), .sl v8 25 1 (zr svRow q9 l7), .ss (zs (svSd 3 1 I) q9 l7), .sl v13 3 1 (l12.map I)] ∧ m3_quirlaw_GraphSays_K2 a0 a1 l3 x5 l7 x10 a2 l12 x14 = some r) ?_ ?_
   ·
    refine W.seq (W.region (L.y rfl (Y.move rfl) ?_))
    refine L.ite h rfl (Y.neq rfl rfl) (fun c94 h => ?_) (fun c94 h => ?_)
    ·
     refine L.nil (E.thenN (W.condT rfl ?_))
     refine W.seq (W.region (L.cutJ 8 (fun gs D => ∃ (gb24 : Bool), gs = [(7, .int .i64 x1), (10, v8), (11, .int .i64 x10), (12, v13), (13, .int .i64 x14), (55, .bool gb24)] ∧ D = Cls w [] [.sl v8 25 1 (zr svRow q9 l7), .ss (zs (svSd 3 1 I) q9 l7), .sl v13 3 1 (l12.map I)] ∧ m3_quirlaw_GraphSays_K26 l7 x10 x1 l12 x14 gb24 = some r) ?_ ?_))
     ·
      refine L.y rfl (Y.move rfl) ?_
      refine L.y rfl (Y.lenM (g := I) (l := l3) Try.underlying25 rfl (fun w hw => As.at_ (hw.get (i := 0) rfl))) ?_
      refine L.ite h rfl (Y.eql rfl rfl) (fun c98 h => ?_) (fun c98 h => ?_)
      ·
       refine L.y rfl (Y.move rfl) ?_
       refine L.take rfl (L.y rfl (Y.move rfl) ?_)
       refine L.take rfl (L.y rfl (Y.move rfl) ?_)
       refine L.take rfl (L.ite h rfl (Y.eql rfl rfl) (fun c99 h => ?_) (fun c99 h => ?_))
       ·
        refine L.y rfl (Y.pickT rfl rfl) ?_
        exact L.nil (E.joinJ ⟨true, rfl, rfl, h⟩ ⟨rfl, rfl, rfl, rfl, rfl, rfl, trivial⟩ (fun _ hw => hw.sel [1, 2, 3] (by decide) rfl))
       ·
        refine L.y rfl (Y.pickT rfl rfl) ?_
        exact L.nil (E.joinJ ⟨false, rfl, rfl, h⟩ ⟨rfl, rfl, rfl, rfl, rfl, rfl, trivial⟩ (fun _ hw => hw.sel [1, 2, 3] (by decide) rfl))
      ·
       refine L.y rfl (Y.move rfl) ?_
       refine L.pass rfl rfl (by nofun) ?_
       refine L.pass rfl rfl (by nofun) ?_
       refine L.pass rfl rfl (by nofun) ?_
       refine L.y rfl (Y.pickF rfl rfl) ?_
       exact L.nil (E.joinJ ⟨false, rfl, rfl, h⟩ ⟨rfl, rfl, rfl, rfl, rfl, rfl, trivial⟩ (fun _ hw => hw.sel [1, 2, 3] (by decide) rfl))
     ·
      rintro _ _ ⟨gb24, rfl, rfl, h⟩
      rw [m3_quirlaw_GraphSays_K26] at h
      rcases gb24 with _ | _
      ·
       replace h := iteF h
       refine L.y rfl (Y.move rfl) ?_
       refine L.pass rfl rfl (by nofun) ?_
       refine L.pass rfl rfl (by nofun) ?_
       refine L.pass rfl rfl (by nofun) ?_
       refine L.y rfl (Y.pickF rfl rfl) ?_
       refine L.y rfl (Y.move rfl) ?_
       refine L.pass rfl rfl (by nofun) ?_
       refine L.pass rfl rfl (by nofun) ?_
       refine L.pass rfl rfl (by nofun) ?_
       refine L.y rfl (Y.pickF rfl rfl) ?_
       refine L.y rfl (Y.move rfl) ?_
       refine L.pass rfl rfl (by nofun) ?_
       refine L.pass rfl rfl (by nofun) ?_
       refine L.pass rfl rfl (by nofun) ?_
       refine L.y rfl (Y.pickF rfl rfl) ?_
       refine L.y rfl (Y.move rfl) ?_
       refine L.pass rfl rfl (by nofun) ?_
       refine L.pass rfl rfl (by nofun) ?_
       refine L.pass rfl rfl (by nofun) ?_
       refine L.y rfl (Y.pickF rfl rfl) ?_
       refine L.y rfl (Y.assign rfl) ?_
       refine L.nil (E.thenN (W.ret (E.KSR (E.ret1 rfl rfl (fun w1 hw => ?_)))))
       obtain rfl := Option.some.inj h
       exact ⟨_, _, rfl, ⟨rfl, rfl⟩, hw.sel [] (by decide) rfl⟩
      ·
       replace h := iteT h
       refine L.cutJ 10 (fun gs D => ∃ (gb25 : Bool), gs = [(7, .int .i64 x1), (12, v13), (13, .int .i64 x14), (65, .bool gb25)] ∧ D = Cls w [] [.sl v13 3 1 (l12.map I)] ∧ m3_quirlaw_GraphSays_K27 l12 x14 x1 gb25 = some r) ?_ ?_
       ·
        refine L.y rfl (Y.move rfl) ?_
        refine L.take rfl (L.y rfl (Y.move rfl) ?_)
        refine L.take rfl (L.y rfl (Y.lenMZ (row := svRow) (vs := q9) (l := l7) Try.underlying28 rfl (fun w hw => As.at_ (hw.get (i := 0) rfl))) ?_)
        refine L.take rfl (L.ite h rfl (Y.eql rfl rfl) (fun c96 h => ?_) (fun c96 h => ?_))
        ·
         refine L.y rfl (Y.pickT rfl rfl) ?_
         refine L.y rfl (Y.move rfl) ?_
         refine L.take rfl (L.y rfl (Y.move rfl) ?_)
         refine L.take rfl (L.y rfl (Y.move rfl) ?_)
         refine L.take rfl (L.ite h rfl (Y.eql rfl rfl) (fun c97 h => ?_) (fun c97 h => ?_))
         ·
          refine L.y rfl (Y.pickT rfl rfl) ?_
          exact L.nil (E.joinJ ⟨true, rfl, rfl, h⟩ ⟨rfl, rfl, rfl, rfl, trivial⟩ (fun _ hw => hw.sel [2] (by decide) rfl))
         ·
          refine L.y rfl (Y.pickT rfl rfl) ?_
          exact L.nil (E.joinJ ⟨false, rfl, rfl, h⟩ ⟨rfl, rfl, rfl, rfl, trivial⟩ (fun _ hw => hw.sel [2] (by decide) rfl))
        ·
         refine L.y rfl (Y.pickT rfl rfl) ?_
         refine L.y rfl (Y.move rfl) ?_
         refine L.pass rfl rfl (by nofun) ?_
         refine L.pass rfl rfl (by nofun) ?_
         refine L.pass rfl rfl (by nofun) ?_
         refine L.y rfl (Y.pickF rfl rfl) ?_
         exact L.nil (E.joinJ ⟨false, rfl, rfl, h⟩ ⟨rfl, rfl, rfl, rfl, trivial⟩ (fun _ hw => hw.sel [2] (by decide) rfl))
       ·
        rintro _ _ ⟨gb25, rfl, rfl, h⟩
        rw [m3_quirlaw_GraphSays_K27] at h
        rcases gb25 with _ | _
        ·
         replace h := iteF h
         refine L.y rfl (Y.move rfl) ?_
         refine L.pass rfl rfl (by nofun) ?_
         refine L.pass rfl rfl (by nofun) ?_
         refine L.pass rfl rfl (by nofun) ?_
         refine L.y rfl (Y.pickF rfl rfl) ?_
         refine L.y rfl (Y.move rfl) ?_
         refine L.pass rfl rfl (by nofun) ?_
         refine L.pass rfl rfl (by nofun) ?_
         refine L.pass rfl rfl (by nofun) ?_
         refine L.y rfl (Y.pickF rfl rfl) ?_
         refine L.y rfl (Y.assign rfl) ?_
         refine L.nil (E.thenN (W.ret (E.KSR (E.ret1 rfl rfl (fun w1 hw => ?_)))))
         obtain rfl := Option.some.inj h
         exact ⟨_, _, rfl, ⟨rfl, rfl⟩, hw.sel [] (by decide) rfl⟩
        ·
         replace h := iteT h
         refine L.y rfl (Y.move rfl) ?_
         refine L.take rfl (L.y rfl (Y.move rfl) ?_)
         refine L.take rfl (L.y rfl (Y.lenM (g := I) (l := l12) Try.underlying25 rfl (fun w hw => As.at_ (hw.get (i := 0) rfl))) ?_)
         refine L.take rfl (L.ite h rfl (Y.eql rfl rfl) (fun c95 h => ?_) (fun c95 h => ?_))
         ·
          refine L.y rfl (Y.pickT rfl rfl) ?_
          refine L.y rfl (Y.move rfl) ?_
          refine L.take rfl (L.y rfl (Y.move rfl) ?_)
          refine L.take rfl (L.y rfl (Y.move rfl) ?_)
          refine L.take rfl (L.y rfl (Y.eql rfl rfl) ?_)
          refine L.y rfl (Y.pickT rfl rfl) ?_
          refine L.y rfl (Y.assign rfl) ?_
          refine L.nil (E.thenN (W.ret (E.KSR (E.ret1 rfl rfl (fun w1 hw => ?_)))))
          obtain rfl := Option.some.inj h
          exact ⟨_, _, rfl, ⟨rfl, rfl⟩, hw.sel [] (by decide) rfl⟩
         ·
          refine L.y rfl (Y.pickT rfl rfl) ?_
          refine L.y rfl (Y.move rfl) ?_
          refine L.pass rfl rfl (by nofun) ?_
          refine L.pass rfl rfl (by nofun) ?_
          refine L.pass rfl rfl (by nofun) ?_
          refine L.y rfl (Y.pickF rfl rfl) ?_
          refine L.y rfl (Y.assign rfl) ?_
          refine L.nil (E.thenN (W.ret (E.KSR (E.ret1 rfl rfl (fun w1 hw => ?_)))))
          obtain rfl := Option.some.inj h
          exact ⟨_, _, rfl, ⟨rfl, rfl⟩, hw.sel [] (by decide) rfl⟩
    ·
     refine L.nil (E.thenN (W.condF rfl ?_))
     exact W.skip (E.joinJ ⟨rfl, rfl, h⟩ ⟨rfl, rfl, rfl, rfl, rfl, rfl, rfl, rfl, rfl, trivial⟩ (fun _ hw => hw))
   ·
    rintro _ _ ⟨rfl, rfl, h⟩
    rw [m3_quirlaw_GraphSays_K2] at h
    refine W.seqJ (fun gs D => ∃ (gv1 : Value) (gl2 : (List Int)) (gb3 : Bool), gs = [(0, .int .i64 a0), (1, u1), (2, .int .i64 a2), (8, v4), (9, .int .i64 x5), (10, v8), (11, .int .i64 x10), (12, v13), (13, .int .i64 x14), (14, gv1), (15, .bool gb3)] ∧ D = Cls w [] [.sl v4 3 1 (l3.map I), .sl v8 25 1 (zr svRow q9 l7), .ss (zs (svSd 3 1 I) q9 l7), .sl v13 3 1 (l12.map I), .sl gv1 3 1 (gl2.map I)] ∧ m3_quirlaw_GraphSays_K3 l3 x5 a0 a1 l7 x10 a2 l12 x14 gl2 gb3 = some r) ?_ ?_
    ·
     refine W.region (L.y rfl (Y.move rfl) ?_)
     refine L.y rfl (Y.move rfl) ?_
     obtain ⟨l89, b91, e92, h⟩ := bind2S h
     refine L.does rfl en10 rfl (fun w' hw => w10_quirref_Order a0 a1 u1 w' _ e92 (hA1.cls0 hw)) ?_
     rintro _ _ ⟨v90, rfl, rfl⟩
     refine L.y rfl (Y.move rfl) ?_
     refine L.y rfl (Y.extract rfl rfl) ?_
     refine L.iteB h rfl (Y.extract rfl rfl) (fun c93 h => ?_) (fun c93 h => ?_)
     ·
      refine L.y rfl (Y.assign rfl) ?_
      refine L.y rfl (Y.assign rfl) ?_
      exact L.nil (E.joinJ ⟨v90, l89, true, rfl, rfl, h⟩ ⟨rfl, rfl, rfl, rfl, rfl, rfl, rfl, rfl, rfl, rfl, rfl, trivial⟩ (fun _ hw => hw.sel [1, 2, 3, 4, 0] (by decide) rfl))
     ·
      refine L.y rfl (Y.assign rfl) ?_
      refine L.y rfl (Y.assign rfl) ?_
      exact L.nil (E.joinJ ⟨v90, l89, false, rfl, rfl, h⟩ ⟨rfl, rfl, rfl, rfl, rfl, rfl, rfl, rfl, rfl, rfl, rfl, trivial⟩ (fun _ hw => hw.sel [1, 2, 3, 4, 0] (by decide) rfl))
    ·
     rintro _ _ ⟨gv1, gl2, gb3, rfl, rfl, h⟩
     rw [m3_quirlaw_GraphSays_K3] at h
     rcases gb3 with _ | _
     ·
      replace h := iteF h
      refine W.seqJ (fun gs D => gs = [(0, .int .i64 a0), (1, u1), (2, .int .i64 a2), (10, v8), (11, .int .i64 x10), (12, v13), (13, .int .i64 x14)] ∧ D = Cls w [] [.sl v8 25 1 (zr svRow q9 l7), .ss (zs (svSd 3 1 I) q9 l7), .sl v13 3 1 (l12.map I)] ∧ m3_quirlaw_GraphSays_K4 a0 a1 l7 x10 a2 l12 x14 = some r) ?_ ?_
      ·
       refine W.seq (W.region (L.y rfl (Y.move rfl) ?_))
       refine L.y rfl (Y.not rfl) ?_
       refine L.nil (E.thenN (W.condT rfl ?_))
       refine W.seq (W.region (L.y rfl (Y.move rfl) ?_))
       refine L.y rfl (Y.lenM (g := I) (l := l3) Try.underlying25 rfl (fun w hw => As.at_ (hw.get (i := 0) rfl))) ?_
       refine L.ite h rfl (Y.gtr rfl rfl) (fun c50 h => ?_) (fun c50 h => ?_)
       ·
        refine L.y rfl (Y.move rfl) ?_
        refine L.pass rfl rfl (by nofun) ?_
        refine L.pass rfl rfl (by nofun) ?_
        refine L.y rfl (Y.pickT rfl rfl) ?_
        refine L.nil (E.thenN (W.condT rfl ?_))
        refine W.seq (W.region (L.y rfl (Y.assign rfl) ?_))
        refine L.nil (E.thenN (W.ret (E.KSR (E.ret1 rfl rfl (fun w1 hw => ?_)))))
        obtain rfl := Option.some.inj h
        exact ⟨_, _, rfl, ⟨rfl, rfl⟩, hw.sel [] (by decide) rfl⟩
       ·
        refine L.y rfl (Y.move rfl) ?_
        refine L.take rfl (L.y rfl (Y.move rfl) ?_)
        refine L.take rfl (L.ite h rfl (Y.neq rfl rfl) (fun c51 h => ?_) (fun c51 h => ?_))
        ·
         refine L.y rfl (Y.pickF rfl rfl) ?_
         refine L.nil (E.thenN (W.condT rfl ?_))
         refine W.seq (W.region (L.y rfl (Y.assign rfl) ?_))
         refine L.nil (E.thenN (W.ret (E.KSR (E.ret1 rfl rfl (fun w1 hw => ?_)))))
         obtain rfl := Option.some.inj h
         exact ⟨_, _, rfl, ⟨rfl, rfl⟩, hw.sel [] (by decide) rfl⟩
        ·
         refine L.y rfl (Y.pickF rfl rfl) ?_
         refine L.nil (E.thenN (W.condF rfl ?_))
         exact W.skip (E.joinJ ⟨rfl, rfl, h⟩ ⟨rfl, rfl, rfl, rfl, rfl, rfl, rfl, trivial⟩ (fun _ hw => hw.sel [1, 2, 3] (by decide) rfl))
      ·
       rintro _ _ ⟨rfl, rfl, h⟩
       rw [m3_quirlaw_GraphSays_K4] at h
       refine W.seqJ (fun gs D => gs = [(0, .int .i64 a0), (1, u1), (2, .int .i64 a2), (12, v13), (13, .int .i64 x14)] ∧ D = Cls w [] [.sl v13 3 1 (l12.map I)] ∧ m3_quirlaw_GraphSays_K5 a2 l12 x14 a0 a1 = some r) ?_ ?_
       ·
        refine W.seq (W.region (L.y rfl (Y.move rfl) ?_))
        refine L.y rfl (Y.move rfl) ?_
        refine L.y rfl (Y.move rfl) ?_
        obtain ⟨l34, e37, h⟩ := bind1S h
        refine L.does rfl en13 rfl (fun w' hw => w13_quirref_Parts a0 a1 u1 w' _ e37 (hA1.cls0 hw)) ?_
        rintro v35 _ ⟨_, q36, rfl, rfl⟩
        refine L.callJ (fun v D => ∃ (gb10 : Bool), v = .bool gb10 ∧ D = Cls w [] [.sl v13 3 1 (l12.map I)] ∧ m3_quirlaw_GraphSays_K9 x10 a2 l12 x14 a0 a1 gb10 = some r) rfl en12 rfl Try.func12 rfl rfl rfl ?_ ?_
        ·
         refine W.seq (W.region (L.y rfl (Y.assign rfl) ?_))
         refine L.nil (E.thenN (W.seqJ (fun gs D => gs = [(0, v8), (1, v35), (2, .func (.func 11) #[] #[])] ∧ D = Cls w [] [.sl v8 25 1 (zr svRow q9 l7), .ss (zs (svSd 3 1 I) q9 l7), .sl v35 25 1 (zr svRow q36 l34), .ss (zs (svSd 3 1 I) q36 l34), .sl v13 3 1 (l12.map I)] ∧ m3_quirlaw_GraphSays_K10 l7 l34 x10 a2 l12 x14 a0 a1 = some r) ?_ ?_))
         ·
          refine W.seq (W.region (L.y rfl (Y.move rfl) ?_))
          refine L.y rfl (Y.lenMZ (row := svRow) (vs := q9) (l := l7) Try.underlying28 rfl (fun w hw => As.at_ (hw.get (i := 2) rfl))) ?_
          refine L.y rfl (Y.move rfl) ?_
          refine L.y rfl (Y.lenMZ (row := svRow) (vs := q36) (l := l34) Try.underlying28 rfl (fun w hw => As.at_ (hw.get (i := 0) rfl))) ?_
          refine L.ite h rfl (Y.neq rfl rfl) (fun c49 h => ?_) (fun c49 h => ?_)
          ·
           refine L.nil (E.thenN (W.condT rfl ?_))
           refine W.seq (W.region (L.y rfl (Y.assign rfl) ?_))
           refine L.nil (E.thenN (W.ret (E.KSR (E.ret1 rfl rfl (fun w1 hw => ?_)))))
           exact ⟨_, _, rfl, ⟨false, rfl, rfl, h⟩, hw.sel [4] (by decide) rfl⟩
          ·
           refine L.nil (E.thenN (W.condF rfl ?_))
           exact W.skip (E.joinJ ⟨rfl, rfl, h⟩ ⟨rfl, rfl, rfl, trivial⟩ (fun _ hw => hw.sel [2, 3, 0, 1, 4] (by decide) rfl))
         ·
          rintro _ _ ⟨rfl, rfl, h⟩
          rw [m3_quirlaw_GraphSays_K10] at h
          refine W.seqJ (fun gs D => gs = [] ∧ D = Cls w [] [.sl v13 3 1 (l12.map I)] ∧ m3_quirlaw_GraphSays_K11 x10 a2 l12 x14 a0 a1 = some r) ?_ ?_
          ·
           refine W.seq (W.region (L.y rfl (Y.move rfl) ?_))
           refine L.y rfl (Y.lenMZ (row := svRow) (vs := q9) (l := l7) Try.underlying28 rfl (fun w hw => As.at_ (hw.get (i := 0) rfl))) ?_
           refine L.y rfl (Y.move rfl) ?_
           refine L.nil (E.thenN (W.block (W.loopJ (fun m gs D => ∃ (gx11 : Int), gs = [(1, v35), (2, .func (.func 11) #[] #[]), (15, v8), (16, .int .i64 (l7.length : Int)), (17, .int .i64 gx11)] ∧ D = Cls w [] [.sl v35 25 1 (zr svRow q36 l34), .ss (zs (svSd 3 1 I) q36 l34), .sl v8 25 1 (zr svRow q9 l7), .ss (zs (svSd 3 1 I) q9 l7), .sl v13 3 1 (l12.map I)] ∧ m3_quirlaw_GraphSays_L2 l7 l34 x10 a2 l12 x14 a0 a1 m gx11 = some r) ⟨0, rfl, rfl, h⟩ ⟨rfl, rfl, rfl, rfl, rfl, trivial⟩ (fun _ hw => hw.sel [2, 3, 0, 1, 4] (by decide) rfl) ?_)))
           rintro m _ _ ⟨gx11, rfl, rfl, h⟩
           rcases m with _ | m
           · rw [m3_quirlaw_GraphSays_L2] at h; cases h
           rw [m3_quirlaw_GraphSays_L2] at h
           generalize hg2 : m3_quirlaw_GraphSays_L2 l7 l34 x10 a2 l12 x14 a0 a1 m = go2 at h
           rw [m3_quirlaw_GraphSays_L2B] at h
           refine W.seq (W.region (L.ite h rfl (Y.lss rfl rfl) (fun c39 h => ?_) (fun c39 h => ?_)))
           ·
            refine L.nil (E.thenN (W.seq (W.condT rfl ?_)))
            refine W.skip (E.thenN (W.seq (W.block (W.seq (W.region (L.y rfl (Y.move rfl) ?_))))))
            refine L.m (V := fun _ => el v8 (gx11.toNat * 1)) h rfl (Y.indexMZ (row := svRow) (vs := q9) (l := l7) Try.underlying28 sz25 rfl rfl (fun w hw => As.at_ (hw.get (i := 2) rfl))) (fun x40 ex40 h => ?_)
            refine L.y rfl (Y.loadE1 (u := gv (q9 gx11.toNat) 0) ag25 rfl (fun w hw => As.at_ (hw.get (i := 2) rfl)) (zr_idx (vs := q9) ex40)) ?_
            refine L.y rfl (Y.assign rfl) ?_
            refine L.y rfl (Y.assign rfl) ?_
            refine L.nil (E.thenN (W.seq (W.region (L.y rfl (Y.move rfl) ?_))))
            refine L.y rfl (Y.move rfl) ?_
            refine L.m (V := fun _ => el v35 (gx11.toNat * 1)) h rfl (Y.indexMZ (row := svRow) (vs := q36) (l := l34) Try.underlying28 sz25 rfl rfl (fun w hw => As.at_ (hw.get (i := 0) rfl))) (fun x41 ex41 h => ?_)
            refine L.y rfl (Y.loadE1 (u := gv (q36 gx11.toNat) 0) ag25 rfl (fun w hw => As.at_ (hw.get (i := 0) rfl)) (zr_idx (vs := q36) ex41)) ?_
            refine L.y rfl (Y.assign rfl) ?_
            refine L.nil (E.thenN (W.seq (W.region (L.y rfl (Y.move rfl) ?_))))
            refine L.y rfl (Y.move rfl) ?_
            refine L.y rfl (Y.move rfl) ?_
            refine L.callVJ (fun v D => ∃ (gb12 : Bool), v = .bool gb12 ∧ D = Cls w [] [.sl v35 25 1 (zr svRow q36 l34), .ss (zs (svSd 3 1 I) q36 l34), .sl v8 25 1 (zr svRow q9 l7), .ss (zs (svSd 3 1 I) q9 l7), .sl v13 3 1 (l12.map I)] ∧ m3_quirlaw_GraphSays_K12 gx11 go2 x10 a2 l12 x14 a0 a1 gb12 = some r) rfl en11 rfl rfl Try.func11 rfl rfl rfl ?_ ?_
            ·
             refine W.seq (W.region (L.y rfl (Y.assign rfl) ?_))
             refine L.nil (E.thenN (W.seqJ (fun gs D => gs = [(0, gv (q9 gx11.toNat) 0), (1, gv (q36 gx11.toNat) 0)] ∧ D = Cls w [] [.sl v8 25 1 (zr svRow q9 l7), .ss (zs (svSd 3 1 I) q9 l7), .sl v35 25 1 (zr svRow q36 l34), .ss (zs (svSd 3 1 I) q36 l34), .sl v13 3 1 (l12.map I)] ∧ m3_quirlaw_GraphSays_K13 x40 x41 gx11 go2 x10 a2 l12 x14 a0 a1 = some r) ?_ ?_))
             ·
              refine W.seq (W.region (L.y rfl (Y.move rfl) ?_))
              refine L.y rfl (Y.lenM (g := I) (l := x40) Try.underlying25 rfl (fun w hw => As.atZ (sds := (svSd 3 1 I)) (vs := q9) (j := 0) (c := 1) (hw.get (i := 3) rfl) (fun _ _ => rfl) ex40 rfl)) ?_
              refine L.y rfl (Y.move rfl) ?_
              refine L.y rfl (Y.lenM (g := I) (l := x41) Try.underlying25 rfl (fun w hw => As.atZ (sds := (svSd 3 1 I)) (vs := q36) (j := 0) (c := 1) (hw.get (i := 1) rfl) (fun _ _ => rfl) ex41 rfl)) ?_
              refine L.ite h rfl (Y.neq rfl rfl) (fun c48 h => ?_) (fun c48 h => ?_)
              ·
               refine L.nil (E.thenN (W.condT rfl ?_))
               refine W.seq (W.region (L.y rfl (Y.assign rfl) ?_))
               refine L.nil (E.thenN (W.ret (E.KSR (E.ret1 rfl rfl (fun w1 hw => ?_)))))
               exact ⟨_, _, rfl, ⟨false, rfl, rfl, h⟩, hw⟩
              ·
               refine L.nil (E.thenN (W.condF rfl ?_))
               exact W.skip (E.joinJ ⟨rfl, rfl, h⟩ ⟨rfl, rfl, trivial⟩ (fun _ hw => hw.sel [2, 3, 0, 1, 4] (by decide) rfl))
             ·
              rintro _ _ ⟨rfl, rfl, h⟩
              rw [m3_quirlaw_GraphSays_K13] at h
              refine W.seqJ (fun gs D => gs = [] ∧ D = Cls w [] [.sl v13 3 1 (l12.map I), .sl v35 25 1 (zr svRow q36 l34), .ss (zs (svSd 3 1 I) q36 l34), .sl v8 25 1 (zr svRow q9 l7), .ss (zs (svSd 3 1 I) q9 l7)] ∧ m3_quirlaw_GraphSays_K14 gx11 go2 x10 a2 l12 x14 a0 a1 = some r) ?_ ?_
              ·
               refine W.seq (W.region (L.y rfl (Y.move rfl) ?_))
               refine L.y rfl (Y.lenM (g := I) (l := x40) Try.underlying25 rfl (fun w hw => As.atZ (sds := (svSd 3 1 I)) (vs := q9) (j := 0) (c := 1) (hw.get (i := 1) rfl) (fun _ _ => rfl) ex40 rfl)) ?_
               refine L.y rfl (Y.move rfl) ?_
               refine L.nil (E.thenN (W.block (W.loopJ (fun m gs D => ∃ (gx13 : Int), gs = [(0, gv (q9 gx11.toNat) 0), (1, gv (q36 gx11.toNat) 0), (12, .int .i64 (x40.length : Int)), (13, .int .i64 gx13)] ∧ D = Cls w [] [.sl v8 25 1 (zr svRow q9 l7), .ss (zs (svSd 3 1 I) q9 l7), .sl v35 25 1 (zr svRow q36 l34), .ss (zs (svSd 3 1 I) q36 l34), .sl v13 3 1 (l12.map I)] ∧ m3_quirlaw_GraphSays_L3 x40 x41 gx11 go2 x10 a2 l12 x14 a0 a1 m gx13 = some r) ⟨0, rfl, rfl, h⟩ ⟨rfl, rfl, rfl, rfl, trivial⟩ (fun _ hw => hw) ?_)))
               rintro m _ _ ⟨gx13, rfl, rfl, h⟩
               rcases m with _ | m
               · rw [m3_quirlaw_GraphSays_L3] at h; cases h
               rw [m3_quirlaw_GraphSays_L3] at h
               generalize hg3 : m3_quirlaw_GraphSays_L3 x40 x41 gx11 go2 x10 a2 l12 x14 a0 a1 m = go3 at h
               rw [m3_quirlaw_GraphSays_L3B] at h
               refine W.seq (W.region (L.ite h rfl (Y.lss rfl rfl) (fun c43 h => ?_) (fun c43 h => ?_)))
               ·
                refine L.nil (E.thenN (W.seq (W.condT rfl ?_)))
                refine W.skip (E.thenN (W.seq (W.block (W.seq (W.region (L.y rfl (Y.move rfl) ?_))))))
                refine L.y rfl (Y.assign rfl) ?_
                refine L.nil (E.thenN (W.seq (W.quietC mixed (by kernel_rfl) (fun _ hw => hw.drew) (fun hC => ?_))))
                refine U.y rfl (Y.move rfl) ?_
                refine U.y rfl (Y.move rfl) ?_
                refine U.m (V := fun _ => el (gv (q9 gx11.toNat) 0) (gx13.toNat * 1)) h rfl (Y.indexM (g := I) (l := x40) Try.underlying25 sz3 rfl rfl (fun w hw => As.atZ (sds := (svSd 3 1 I)) (vs := q9) (j := 0) (c := 1) (hw.get (i := 1) rfl) (fun _ _ => rfl) ex40 rfl)) (fun x44 ex44 h => ?_)
                refine U.y rfl (Y.loadE1 (u := .int .i64 x44) ag3 rfl (fun w hw => As.atZ (sds := (svSd 3 1 I)) (vs := q9) (j := 0) (c := 1) (hw.get (i := 1) rfl) (fun _ _ => rfl) ex40 rfl) (idx_map ex44)) ?_
                refine U.y rfl (Y.move rfl) ?_
                refine U.y rfl (Y.move rfl) ?_
                refine U.m (V := fun _ => el (gv (q36 gx11.toNat) 0) (gx13.toNat * 1)) h rfl (Y.indexM (g := I) (l := x41) Try.underlying25 sz3 rfl rfl (fun w hw => As.atZ (sds := (svSd 3 1 I)) (vs := q36) (j := 0) (c := 1) (hw.get (i := 3) rfl) (fun _ _ => rfl) ex41 rfl)) (fun x45 ex45 h => ?_)
                refine U.y rfl (Y.loadE1 (u := .int .i64 x45) ag3 rfl (fun w hw => As.atZ (sds := (svSd 3 1 I)) (vs := q36) (j := 0) (c := 1) (hw.get (i := 3) rfl) (fun _ _ => rfl) ex41 rfl) (idx_map ex45)) ?_
                refine U.ite h rfl (Y.neq rfl rfl) (fun c46 h => ?_) (fun c46 h => ?_)
                ·
                 refine U.nil (E.thenN (W.condT rfl ?_))
                 refine W.seq (W.region (L.y rfl (Y.assign rfl) ?_))
                 refine L.nil (E.thenN (W.ret (E.blockR (E.thenR (E.KLR (E.blockR (E.KSR (E.ret1 rfl rfl (fun w1 hw => ?_)))))))))
                 exact ⟨_, _, rfl, ⟨false, rfl, rfl, h⟩, hw.sel [2, 3, 0, 1, 4] (by decide) rfl⟩
                ·
                 refine U.nil (E.thenN (W.condF rfl ?_))
                 refine W.skip (E.blockN (E.thenN (W.region (L.m (V := fun x47 => .int .i64 x47) h rfl (Y.addM rfl rfl) (fun x47 ex47 h => ?_)))))
                 refine L.y rfl (Y.move rfl) ?_
                 exact L.nil (E.againJ ⟨x47, rfl, rfl, by rw [hg3]; exact h⟩ (Nat.lt_succ_self _) ⟨rfl, rfl, rfl, rfl, trivial⟩ (fun _ hw => hw))
               ·
                refine L.nil (E.thenN (W.seq (W.condF rfl ?_)))
                exact W.exit (E.thenX (E.KLX (E.blockX (E.joinJ ⟨rfl, rfl, h⟩ trivial (fun _ hw => hw.sel [4, 2, 3, 0, 1] (by decide) rfl)))))
              ·
               rintro _ _ ⟨rfl, rfl, h⟩
               rw [m3_quirlaw_GraphSays_K14] at h
               refine W.seq (W.region (L.y rfl (Y.assign rfl) ?_))
               refine L.nil (E.thenN (W.ret (E.ret1 rfl rfl (fun w1 hw => ?_))))
               exact ⟨_, _, rfl, ⟨true, rfl, rfl, h⟩, hw.sel [1, 2, 3, 4, 0] (by decide) rfl⟩
            ·
             rintro _ _ ⟨gb12, rfl, rfl, h⟩
             rw [m3_quirlaw_GraphSays_K12] at h
             rcases gb12 with _ | _
             ·
              replace h := iteF h
              refine L.y rfl (Y.not rfl) ?_
              refine L.nil (E.thenN (W.condT rfl ?_))
              refine W.seq (W.region (L.y rfl (Y.assign rfl) ?_))
              refine L.nil (E.thenN (W.ret (E.blockR (E.thenR (E.KLR (E.blockR (E.KSR (E.ret1 rfl rfl (fun w1 hw => ?_)))))))))
              exact ⟨_, _, rfl, ⟨false, rfl, rfl, h⟩, hw.sel [4] (by decide) rfl⟩
             ·
              replace h := iteT h
              refine L.y rfl (Y.not rfl) ?_
              refine L.nil (E.thenN (W.condF rfl ?_))
              refine W.skip (E.blockN (E.thenN (W.region (L.m (V := fun x42 => .int .i64 x42) h rfl (Y.addM rfl rfl) (fun x42 ex42 h => ?_)))))
              refine L.y rfl (Y.move rfl) ?_
              exact L.nil (E.againJ ⟨x42, rfl, rfl, by rw [hg2]; exact h⟩ (Nat.lt_succ_self _) ⟨rfl, rfl, rfl, rfl, rfl, trivial⟩ (fun _ hw => hw))
           ·
            refine L.nil (E.thenN (W.seq (W.condF rfl ?_)))
            exact W.exit (E.thenX (E.KLX (E.blockX (E.joinJ ⟨rfl, rfl, h⟩ trivial (fun _ hw => hw.sel [4] (by decide) rfl)))))
          ·
           rintro _ _ ⟨rfl, rfl, h⟩
           rw [m3_quirlaw_GraphSays_K11] at h
           refine W.seq (W.region (L.y rfl (Y.assign rfl) ?_))
           refine L.nil (E.thenN (W.ret (E.ret1 rfl rfl (fun w1 hw => ?_))))
           exact ⟨_, _, rfl, ⟨true, rfl, rfl, h⟩, hw⟩
        ·
         rintro _ _ ⟨gb10, rfl, rfl, h⟩
         rw [m3_quirlaw_GraphSays_K9] at h
         rcases gb10 with _ | _
         ·
          replace h := iteF h
          refine L.y rfl (Y.not rfl) ?_
          refine L.y rfl (Y.move rfl) ?_
          refine L.pass rfl rfl (by nofun) ?_
          refine L.pass rfl rfl (by nofun) ?_
          refine L.y rfl (Y.pickT rfl rfl) ?_
          refine L.nil (E.thenN (W.condT rfl ?_))
          refine W.seq (W.region (L.y rfl (Y.assign rfl) ?_))
          refine L.nil (E.thenN (W.ret (E.KSR (E.ret1 rfl rfl (fun w1 hw => ?_)))))
          obtain rfl := Option.some.inj h
          exact ⟨_, _, rfl, ⟨rfl, rfl⟩, hw.sel [] (by decide) rfl⟩
         ·
          replace h := iteT h
          refine L.y rfl (Y.not rfl) ?_
          refine L.y rfl (Y.move rfl) ?_
          refine L.take rfl (L.y rfl (Y.move rfl) ?_)
          refine L.take rfl (L.ite h rfl (Y.neq rfl rfl) (fun c38 h => ?_) (fun c38 h => ?_))
          ·
           refine L.y rfl (Y.pickF rfl rfl) ?_
           refine L.nil (E.thenN (W.condT rfl ?_))
           refine W.seq (W.region (L.y rfl (Y.assign rfl) ?_))
           refine L.nil (E.thenN (W.ret (E.KSR (E.ret1 rfl rfl (fun w1 hw => ?_)))))
           obtain rfl := Option.some.inj h
           exact ⟨_, _, rfl, ⟨rfl, rfl⟩, hw.sel [] (by decide) rfl⟩
          ·
           refine L.y rfl (Y.pickF rfl rfl) ?_
           refine L.nil (E.thenN (W.condF rfl ?_))
           exact W.skip (E.joinJ ⟨rfl, rfl, h⟩ ⟨rfl, rfl, rfl, rfl, rfl, trivial⟩ (fun _ hw => hw))
       ·
        rintro _ _ ⟨rfl, rfl, h⟩
        rw [m3_quirlaw_GraphSays_K5] at h
        refine W.seqJ (fun gs D => gs = [(0, .int .i64 a0), (1, u1), (2, .int .i64 a2), (12, v13), (13, .int .i64 x14)] ∧ D = Cls w [] [.sl v13 3 1 (l12.map I)] ∧ m3_quirlaw_GraphSays_K6 a0 a1 a2 l12 x14 = some r) ?_ ?_
        ·
         refine W.seqJ (fun gs D => ∃ (gb9 : Bool), gs = [(0, .int .i64 a0), (1, u1), (2, .int .i64 a2), (12, v13), (13, .int .i64 x14), (115, .bool gb9)] ∧ D = Cls w [] [.sl v13 3 1 (l12.map I)] ∧ m3_quirlaw_GraphSays_K8 l12 x14 a0 a1 a2 gb9 = some r) ?_ ?_
         ·
          refine W.region (L.y rfl (Y.move rfl) ?_)
          refine L.ite h rfl (Y.lss rfl rfl) (fun c32 h => ?_) (fun c32 h => ?_)
          ·
           refine L.y rfl (Y.move rfl) ?_
           refine L.pass rfl rfl (by nofun) ?_
           refine L.pass rfl rfl (by nofun) ?_
           refine L.pass rfl rfl (by nofun) ?_
           refine L.y rfl (Y.pickT rfl rfl) ?_
           exact L.nil (E.joinJ ⟨true, rfl, rfl, h⟩ ⟨rfl, rfl, rfl, rfl, rfl, rfl, trivial⟩ (fun _ hw => hw))
          ·
           refine L.y rfl (Y.move rfl) ?_
           refine L.take rfl (L.y rfl (Y.move rfl) ?_)
           refine L.take rfl (L.y rfl (Y.move rfl) ?_)
           refine L.take rfl (L.ite h rfl (Y.geq rfl rfl) (fun c33 h => ?_) (fun c33 h => ?_))
           ·
            refine L.y rfl (Y.pickF rfl rfl) ?_
            exact L.nil (E.joinJ ⟨true, rfl, rfl, h⟩ ⟨rfl, rfl, rfl, rfl, rfl, rfl, trivial⟩ (fun _ hw => hw))
           ·
            refine L.y rfl (Y.pickF rfl rfl) ?_
            exact L.nil (E.joinJ ⟨false, rfl, rfl, h⟩ ⟨rfl, rfl, rfl, rfl, rfl, rfl, trivial⟩ (fun _ hw => hw))
         ·
          rintro _ _ ⟨gb9, rfl, rfl, h⟩
          rw [m3_quirlaw_GraphSays_K8] at h
          rcases gb9 with _ | _
          ·
           replace h := iteF h
           refine W.condF rfl ?_
           exact W.skip (E.joinJ ⟨rfl, rfl, h⟩ ⟨rfl, rfl, rfl, rfl, rfl, trivial⟩ (fun _ hw => hw))
          ·
           replace h := iteT h
           refine W.condT rfl ?_
           refine W.seq (W.region (L.y rfl (Y.move rfl) ?_))
           refine L.y rfl (Y.lenM (g := I) (l := l12) Try.underlying25 rfl (fun w hw => As.at_ (hw.get (i := 0) rfl))) ?_
           refine L.ite h rfl (Y.eql rfl rfl) (fun c31 h => ?_) (fun c31 h => ?_)
           ·
            refine L.y rfl (Y.move rfl) ?_
            refine L.take rfl (L.y rfl (Y.move rfl) ?_)
            refine L.take rfl (L.y rfl (Y.eql rfl rfl) ?_)
            refine L.y rfl (Y.pickT rfl rfl) ?_
            refine L.y rfl (Y.assign rfl) ?_
            refine L.nil (E.thenN (W.ret (E.KSR (E.ret1 rfl rfl (fun w1 hw => ?_)))))
            obtain rfl := Option.some.inj h
            exact ⟨_, _, rfl, ⟨rfl, rfl⟩, hw.sel [] (by decide) rfl⟩
           ·
            refine L.y rfl (Y.move rfl) ?_
            refine L.pass rfl rfl (by nofun) ?_
            refine L.pass rfl rfl (by nofun) ?_
            refine L.y rfl (Y.pickF rfl rfl) ?_
            refine L.y rfl (Y.assign rfl) ?_
            refine L.nil (E.thenN (W.ret (E.KSR (E.ret1 rfl rfl (fun w1 hw => ?_)))))
            obtain rfl := Option.some.inj h
            exact ⟨_, _, rfl, ⟨rfl, rfl⟩, hw.sel [] (by decide) rfl⟩
        ·
         rintro _ _ ⟨rfl, rfl, h⟩
         rw [m3_quirlaw_GraphSays_K6] at h
         refine W.seq (W.region (L.y rfl (Y.assign rfl) ?_))
         refine L.nil (E.thenN (W.seqJ (fun gs D => ∃ (gv4 : Value) (gl5 : (List Int)), gs = [(12, v13), (13, .int .i64 x14), (16, gv4)] ∧ D = Cls w [] [.sl v13 3 1 (l12.map I), .sl gv4 3 1 (gl5.map I)] ∧ m3_quirlaw_GraphSays_K7 l12 x14 gl5 = some r) ?_ ?_))
         ·
          refine W.seq (W.region (L.y rfl (Y.move rfl) ?_))
          refine L.y rfl (Y.move rfl) ?_
          obtain ⟨l18, e21, h⟩ := bind1S h
          refine L.does rfl en14 rfl (fun w' hw => w14_quirref_Closure a0 a1 u1 w' _ e21 (hA1.cls0 hw)) ?_
          rintro v19 _ ⟨_, q20, rfl, rfl⟩
          refine L.y rfl (Y.move rfl) ?_
          refine L.m (V := fun _ => el v19 (a2.toNat * 1)) h rfl (Y.indexMZ (row := svRow) (vs := q20) (l := l18) Try.underlying38 sz37 rfl rfl (fun w hw => As.at_ (hw.get (i := 0) rfl))) (fun x22 ex22 h => ?_)
          refine L.y rfl (Y.loadE1 (u := gv (q20 a2.toNat) 0) ag37 rfl (fun w hw => As.at_ (hw.get (i := 0) rfl)) (zr_idx (vs := q20) ex22)) ?_
          refine L.y rfl (Y.lenM (g := B) (l := x22) Try.underlying37 rfl (fun w hw => As.atZ (sds := (svSd 4 1 B)) (vs := q20) (j := 0) (c := 1) (hw.get (i := 1) rfl) (fun _ _ => rfl) ex22 rfl)) ?_
          refine L.y rfl (Y.move rfl) ?_
          refine L.nil (E.thenN (W.block (W.nilSl 3 1 ?_)))
          refine W.loopJ (fun m gs D => ∃ (gv6 : Value) (gl7 : (List Int)) (gx8 : Int), gs = [(12, v13), (13, .int .i64 x14), (16, gv6), (128, gv (q20 a2.toNat) 0), (129, .int .i64 (x22.length : Int)), (130, .int .i64 gx8)] ∧ D = Cls w [] [.sl v13 3 1 (l12.map I), .sl gv6 3 1 (gl7.map I), .sl v19 37 1 (zr svRow q20 l18), .ss (zs (svSd 4 1 B) q20 l18)] ∧ m3_quirlaw_GraphSays_L1 x22 l12 x14 m gl7 gx8 = some r) ⟨.slice none 0 0, [], 0, rfl, rfl, h⟩ ⟨rfl, rfl, rfl, rfl, rfl, rfl, trivial⟩ (fun _ hw => hw.sel [3, 0, 1, 2] (by decide) rfl) ?_
          rintro m _ _ ⟨gv6, gl7, gx8, rfl, rfl, h⟩
          rcases m with _ | m
          · rw [m3_quirlaw_GraphSays_L1] at h; cases h
          rw [m3_quirlaw_GraphSays_L1] at h
          generalize hg1 : m3_quirlaw_GraphSays_L1 x22 l12 x14 m = go1 at h
          rw [m3_quirlaw_GraphSays_L1B] at h
          refine W.seq (W.region (L.ite h rfl (Y.lss rfl rfl) (fun c23 h => ?_) (fun c23 h => ?_)))
          ·
           refine L.nil (E.thenN (W.seq (W.condT rfl ?_)))
           refine W.skip (E.thenN (W.seq (W.block (W.seq (W.region (L.y rfl (Y.move rfl) ?_))))))
           refine L.m (V := fun _ => el (gv (q20 a2.toNat) 0) (gx8.toNat * 1)) h rfl (Y.indexM (g := B) (l := x22) Try.underlying37 sz4 rfl rfl (fun w hw => As.atZ (sds := (svSd 4 1 B)) (vs := q20) (j := 0) (c := 1) (hw.get (i := 3) rfl) (fun _ _ => rfl) ex22 rfl)) (fun x24 ex24 h => ?_)
           refine L.iteB h rfl (Y.loadE1 (u := .bool x24) ag4 rfl (fun w hw => As.atZ (sds := (svSd 4 1 B)) (vs := q20) (j := 0) (c := 1) (hw.get (i := 3) rfl) (fun _ _ => rfl) ex22 rfl) (idx_map ex24)) (fun c25 h => ?_) (fun c25 h => ?_)
           ·
            refine L.y rfl (Y.assign rfl) ?_
            refine L.y rfl (Y.assign rfl) ?_
            refine L.nil (E.thenN (W.seq (W.region (L.y rfl (Y.move rfl) ?_))))
            refine L.nil (E.thenN (W.condT rfl ?_))
            refine W.region (L.y rfl (Y.move rfl) ?_)
            refine L.y rfl (Y.move rfl) ?_
            refine L.litOne rfl Try.underlying25 eL3 rfl rfl ?_
            intro b26
            refine L.appM (i := 2) (g := I) (l := gl7) (more := [gx8]) h rfl Try.underlying25 eL3 rfl rfl rfl (fun w hw => As.at_ (hw.get (i := 0) rfl)) (plain_ints _) rfl ?_
            intro v27 l28 el28 h
            refine L.y rfl (Y.assign rfl) ?_
            refine L.nil (E.blockN (E.thenN (W.region (L.m (V := fun x29 => .int .i64 x29) h rfl (Y.addM rfl rfl) (fun x29 ex29 h => ?_)))))
            refine L.y rfl (Y.move rfl) ?_
            exact L.nil (E.againJ ⟨v27, l28, x29, rfl, rfl, by rw [hg1]; exact h⟩ (Nat.lt_succ_self _) ⟨rfl, rfl, rfl, rfl, rfl, rfl, trivial⟩ (fun _ hw => hw.sel [2, 0, 3, 4] (by decide) rfl))
           ·
            refine L.y rfl (Y.assign rfl) ?_
            refine L.y rfl (Y.assign rfl) ?_
            refine L.nil (E.thenN (W.seq (W.region (L.y rfl (Y.move rfl) ?_))))
            refine L.nil (E.thenN (W.condF rfl ?_))
            refine W.skip (E.blockN (E.thenN (W.region (L.m (V := fun x30 => .int .i64 x30) h rfl (Y.addM rfl rfl) (fun x30 ex30 h => ?_)))))
            refine L.y rfl (Y.move rfl) ?_
            exact L.nil (E.againJ ⟨gv6, gl7, x30, rfl, rfl, by rw [hg1]; exact h⟩ (Nat.lt_succ_self _) ⟨rfl, rfl, rfl, rfl, rfl, rfl, trivial⟩ (fun _ hw => hw))
          ·
           refine L.nil (E.thenN (W.seq (W.condF rfl ?_)))
           exact W.exit (E.thenX (E.KLX (E.blockX (E.joinJ ⟨gv6, gl7, rfl, rfl, h⟩ ⟨rfl, rfl, rfl, trivial⟩ (fun _ hw => hw.sel [0, 1] (by decide) rfl)))))
         ·
          rintro _ _ ⟨gv4, gl5, rfl, rfl, h⟩
          rw [m3_quirlaw_GraphSays_K7] at h
          refine W.seq (W.region (L.y rfl (Y.move rfl) ?_))
          refine L.y rfl (Y.move rfl) ?_
          obtain ⟨b16, e17, h⟩ := bind1S h
          refine L.y rfl (Y.does en11 rfl (fun w' hw => (w11_slices_Equal_int l12 gl5 v13 gv4 w' _ e17 (As.at_ (hw.get (i := 0) rfl)) (As.at_ (hw.get (i := 1) rfl))).mono (fun _ _ h => h.1))) ?_
          rcases b16 with _ | _
          ·
           replace h := iteF h
           refine L.y rfl (Y.move rfl) ?_
           refine L.pass rfl rfl (by nofun) ?_
           refine L.pass rfl rfl (by nofun) ?_
           refine L.y rfl (Y.pickF rfl rfl) ?_
           refine L.y rfl (Y.assign rfl) ?_
           refine L.nil (E.thenN (W.ret (E.ret1 rfl rfl (fun w1 hw => ?_))))
           obtain rfl := Option.some.inj h
           exact ⟨_, _, rfl, ⟨rfl, rfl⟩, hw.sel [] (by decide) rfl⟩
          ·
           replace h := iteT h
           refine L.y rfl (Y.move rfl) ?_
           refine L.take rfl (L.y rfl (Y.move rfl) ?_)
           refine L.take rfl (L.y rfl (Y.eql rfl rfl) ?_)
           refine L.y rfl (Y.pickT rfl rfl) ?_
           refine L.y rfl (Y.assign rfl) ?_
           refine L.nil (E.thenN (W.ret (E.ret1 rfl rfl (fun w1 hw => ?_))))
           obtain rfl := Option.some.inj h
           exact ⟨_, _, rfl, ⟨rfl, rfl⟩, hw.sel [] (by decide) rfl⟩
     ·
      replace h := iteT h
      refine W.seqJ (fun gs D => gs = [(0, .int .i64 a0), (1, u1), (2, .int .i64 a2), (10, v8), (11, .int .i64 x10), (12, v13), (13, .int .i64 x14)] ∧ D = Cls w [] [.sl v8 25 1 (zr svRow q9 l7), .ss (zs (svSd 3 1 I) q9 l7), .sl v13 3 1 (l12.map I)] ∧ m3_quirlaw_GraphSays_K15 a0 a1 l7 x10 a2 l12 x14 = some r) ?_ ?_
      ·
       refine W.seq (W.region (L.y rfl (Y.move rfl) ?_))
       refine L.y rfl (Y.not rfl) ?_
       refine L.nil (E.thenN (W.condF rfl ?_))
       refine W.seq (W.region (L.y rfl (Y.move rfl) ?_))
       refine L.y rfl (Y.move rfl) ?_
       obtain ⟨b86, e87, h⟩ := bind1S h
       refine L.y rfl (Y.does en11 rfl (fun w' hw => (w11_slices_Equal_int l3 gl2 v4 gv1 w' _ e87 (As.at_ (hw.get (i := 0) rfl)) (As.at_ (hw.get (i := 4) rfl))).mono (fun _ _ h => h.1))) ?_
       rcases b86 with _ | _
       ·
        replace h := iteF h
        refine L.y rfl (Y.not rfl) ?_
        refine L.y rfl (Y.move rfl) ?_
        refine L.pass rfl rfl (by nofun) ?_
        refine L.pass rfl rfl (by nofun) ?_
        refine L.y rfl (Y.pickT rfl rfl) ?_
        refine L.nil (E.thenN (W.condT rfl ?_))
        refine W.seq (W.region (L.y rfl (Y.assign rfl) ?_))
        refine L.nil (E.thenN (W.ret (E.KSR (E.ret1 rfl rfl (fun w1 hw => ?_)))))
        obtain rfl := Option.some.inj h
        exact ⟨_, _, rfl, ⟨rfl, rfl⟩, hw.sel [] (by decide) rfl⟩
       ·
        replace h := iteT h
        refine L.y rfl (Y.not rfl) ?_
        refine L.y rfl (Y.move rfl) ?_
        refine L.take rfl (L.y rfl (Y.move rfl) ?_)
        refine L.take rfl (L.ite h rfl (Y.neq rfl rfl) (fun c88 h => ?_) (fun c88 h => ?_))
        ·
         refine L.y rfl (Y.pickF rfl rfl) ?_
         refine L.nil (E.thenN (W.condT rfl ?_))
         refine W.seq (W.region (L.y rfl (Y.assign rfl) ?_))
         refine L.nil (E.thenN (W.ret (E.KSR (E.ret1 rfl rfl (fun w1 hw => ?_)))))
         obtain rfl := Option.some.inj h
         exact ⟨_, _, rfl, ⟨rfl, rfl⟩, hw.sel [] (by decide) rfl⟩
        ·
         refine L.y rfl (Y.pickF rfl rfl) ?_
         refine L.nil (E.thenN (W.condF rfl ?_))
         exact W.skip (E.joinJ ⟨rfl, rfl, h⟩ ⟨rfl, rfl, rfl, rfl, rfl, rfl, rfl, trivial⟩ (fun _ hw => hw.sel [1, 2, 3] (by decide) rfl))
      ·
       rintro _ _ ⟨rfl, rfl, h⟩
       rw [m3_quirlaw_GraphSays_K15] at h
       refine W.seqJ (fun gs D => gs = [(0, .int .i64 a0), (1, u1), (2, .int .i64 a2), (12, v13), (13, .int .i64 x14)] ∧ D = Cls w [] [.sl v13 3 1 (l12.map I)] ∧ m3_quirlaw_GraphSays_K16 a2 l12 x14 a0 a1 = some r) ?_ ?_
       ·
        refine W.seq (W.region (L.y rfl (Y.move rfl) ?_))
        refine L.y rfl (Y.move rfl) ?_
        refine L.y rfl (Y.move rfl) ?_
        obtain ⟨l70, e73, h⟩ := bind1S h
        refine L.does rfl en13 rfl (fun w' hw => w13_quirref_Parts a0 a1 u1 w' _ e73 (hA1.cls0 hw)) ?_
        rintro v71 _ ⟨_, q72, rfl, rfl⟩
        refine L.callJ (fun v D => ∃ (gb20 : Bool), v = .bool gb20 ∧ D = Cls w [] [.sl v13 3 1 (l12.map I)] ∧ m3_quirlaw_GraphSays_K20 x10 a2 l12 x14 a0 a1 gb20 = some r) rfl en12 rfl Try.func12 rfl rfl rfl ?_ ?_
        ·
         refine W.seq (W.region (L.y rfl (Y.assign rfl) ?_))
         refine L.nil (E.thenN (W.seqJ (fun gs D => gs = [(0, v8), (1, v71), (2, .func (.func 11) #[] #[])] ∧ D = Cls w [] [.sl v8 25 1 (zr svRow q9 l7), .ss (zs (svSd 3 1 I) q9 l7), .sl v71 25 1 (zr svRow q72 l70), .ss (zs (svSd 3 1 I) q72 l70), .sl v13 3 1 (l12.map I)] ∧ m3_quirlaw_GraphSays_K21 l7 l70 x10 a2 l12 x14 a0 a1 = some r) ?_ ?_))
         ·
          refine W.seq (W.region (L.y rfl (Y.move rfl) ?_))
          refine L.y rfl (Y.lenMZ (row := svRow) (vs := q9) (l := l7) Try.underlying28 rfl (fun w hw => As.at_ (hw.get (i := 2) rfl))) ?_
          refine L.y rfl (Y.move rfl) ?_
          refine L.y rfl (Y.lenMZ (row := svRow) (vs := q72) (l := l70) Try.underlying28 rfl (fun w hw => As.at_ (hw.get (i := 0) rfl))) ?_
          refine L.ite h rfl (Y.neq rfl rfl) (fun c85 h => ?_) (fun c85 h => ?_)
          ·
           refine L.nil (E.thenN (W.condT rfl ?_))
           refine W.seq (W.region (L.y rfl (Y.assign rfl) ?_))
           refine L.nil (E.thenN (W.ret (E.KSR (E.ret1 rfl rfl (fun w1 hw => ?_)))))
           exact ⟨_, _, rfl, ⟨false, rfl, rfl, h⟩, hw.sel [4] (by decide) rfl⟩
          ·
           refine L.nil (E.thenN (W.condF rfl ?_))
           exact W.skip (E.joinJ ⟨rfl, rfl, h⟩ ⟨rfl, rfl, rfl, trivial⟩ (fun _ hw => hw.sel [2, 3, 0, 1, 4] (by decide) rfl))
         ·
          rintro _ _ ⟨rfl, rfl, h⟩
          rw [m3_quirlaw_GraphSays_K21] at h
          refine W.seqJ (fun gs D => gs = [] ∧ D = Cls w [] [.sl v13 3 1 (l12.map I)] ∧ m3_quirlaw_GraphSays_K22 x10 a2 l12 x14 a0 a1 = some r) ?_ ?_
          ·
           refine W.seq (W.region (L.y rfl (Y.move rfl) ?_))
           refine L.y rfl (Y.lenMZ (row := svRow) (vs := q9) (l := l7) Try.underlying28 rfl (fun w hw => As.at_ (hw.get (i := 0) rfl))) ?_
           refine L.y rfl (Y.move rfl) ?_
           refine L.nil (E.thenN (W.block (W.loopJ (fun m gs D => ∃ (gx21 : Int), gs = [(1, v71), (2, .func (.func 11) #[] #[]), (15, v8), (16, .int .i64 (l7.length : Int)), (17, .int .i64 gx21)] ∧ D = Cls w [] [.sl v71 25 1 (zr svRow q72 l70), .ss (zs (svSd 3 1 I) q72 l70), .sl v8 25 1 (zr svRow q9 l7), .ss (zs (svSd 3 1 I) q9 l7), .sl v13 3 1 (l12.map I)] ∧ m3_quirlaw_GraphSays_L5 l7 l70 x10 a2 l12 x14 a0 a1 m gx21 = some r) ⟨0, rfl, rfl, h⟩ ⟨rfl, rfl, rfl, rfl, rfl, trivial⟩ (fun _ hw => hw.sel [2, 3, 0, 1, 4] (by decide) rfl) ?_)))
           rintro m _ _ ⟨gx21, rfl, rfl, h⟩
           rcases m with _ | m
           · rw [m3_quirlaw_GraphSays_L5] at h; cases h
           rw [m3_quirlaw_GraphSays_L5] at h
           generalize hg5 : m3_quirlaw_GraphSays_L5 l7 l70 x10 a2 l12 x14 a0 a1 m = go5 at h
           rw [m3_quirlaw_GraphSays_L5B] at h
           refine W.seq (W.region (L.ite h rfl (Y.lss rfl rfl) (fun c75 h => ?_) (fun c75 h => ?_)))
           ·
            refine L.nil (E.thenN (W.seq (W.condT rfl ?_)))
            refine W.skip (E.thenN (W.seq (W.block (W.seq (W.region (L.y rfl (Y.move rfl) ?_))))))
            refine L.m (V := fun _ => el v8 (gx21.toNat * 1)) h rfl (Y.indexMZ (row := svRow) (vs := q9) (l := l7) Try.underlying28 sz25 rfl rfl (fun w hw => As.at_ (hw.get (i := 2) rfl))) (fun x76 ex76 h => ?_)
            refine L.y rfl (Y.loadE1 (u := gv (q9 gx21.toNat) 0) ag25 rfl (fun w hw => As.at_ (hw.get (i := 2) rfl)) (zr_idx (vs := q9) ex76)) ?_
            refine L.y rfl (Y.assign rfl) ?_
            refine L.y rfl (Y.assign rfl) ?_
            refine L.nil (E.thenN (W.seq (W.region (L.y rfl (Y.move rfl) ?_))))
            refine L.y rfl (Y.move rfl) ?_
            refine L.m (V := fun _ => el v71 (gx21.toNat * 1)) h rfl (Y.indexMZ (row := svRow) (vs := q72) (l := l70) Try.underlying28 sz25 rfl rfl (fun w hw => As.at_ (hw.get (i := 0) rfl))) (fun x77 ex77 h => ?_)
            refine L.y rfl (Y.loadE1 (u := gv (q72 gx21.toNat) 0) ag25 rfl (fun w hw => As.at_ (hw.get (i := 0) rfl)) (zr_idx (vs := q72) ex77)) ?_
            refine L.y rfl (Y.assign rfl) ?_
            refine L.nil (E.thenN (W.seq (W.region (L.y rfl (Y.move rfl) ?_))))
            refine L.y rfl (Y.move rfl) ?_
            refine L.y rfl (Y.move rfl) ?_
            refine L.callVJ (fun v D => ∃ (gb22 : Bool), v = .bool gb22 ∧ D = Cls w [] [.sl v71 25 1 (zr svRow q72 l70), .ss (zs (svSd 3 1 I) q72 l70), .sl v8 25 1 (zr svRow q9 l7), .ss (zs (svSd 3 1 I) q9 l7), .sl v13 3 1 (l12.map I)] ∧ m3_quirlaw_GraphSays_K23 gx21 go5 x10 a2 l12 x14 a0 a1 gb22 = some r) rfl en11 rfl rfl Try.func11 rfl rfl rfl ?_ ?_
            ·
             refine W.seq (W.region (L.y rfl (Y.assign rfl) ?_))
             refine L.nil (E.thenN (W.seqJ (fun gs D => gs = [(0, gv (q9 gx21.toNat) 0), (1, gv (q72 gx21.toNat) 0)] ∧ D = Cls w [] [.sl v8 25 1 (zr svRow q9 l7), .ss (zs (svSd 3 1 I) q9 l7), .sl v71 25 1 (zr svRow q72 l70), .ss (zs (svSd 3 1 I) q72 l70), .sl v13 3 1 (l12.map I)] ∧ m3_quirlaw_GraphSays_K24 x76 x77 gx21 go5 x10 a2 l12 x14 a0 a1 = some r) ?_ ?_))
             ·
              refine W.seq (W.region (L.y rfl (Y.move rfl) ?_))
              refine L.y rfl (Y.lenM (g := I) (l := x76) Try.underlying25 rfl (fun w hw => As.atZ (sds := (svSd 3 1 I)) (vs := q9) (j := 0) (c := 1) (hw.get (i := 3) rfl) (fun _ _ => rfl) ex76 rfl)) ?_
              refine L.y rfl (Y.move rfl) ?_
              refine L.y rfl (Y.lenM (g := I) (l := x77) Try.underlying25 rfl (fun w hw => As.atZ (sds := (svSd 3 1 I)) (vs := q72) (j := 0) (c := 1) (hw.get (i := 1) rfl) (fun _ _ => rfl) ex77 rfl)) ?_
              refine L.ite h rfl (Y.neq rfl rfl) (fun c84 h => ?_) (fun c84 h => ?_)
              ·
               refine L.nil (E.thenN (W.condT rfl ?_))
               refine W.seq (W.region (L.y rfl (Y.assign rfl) ?_))
               refine L.nil (E.thenN (W.ret (E.KSR (E.ret1 rfl rfl (fun w1 hw => ?_)))))
               exact ⟨_, _, rfl, ⟨false, rfl, rfl, h⟩, hw⟩
              ·
               refine L.nil (E.thenN (W.condF rfl ?_))
               exact W.skip (E.joinJ ⟨rfl, rfl, h⟩ ⟨rfl, rfl, trivial⟩ (fun _ hw => hw.sel [2, 3, 0, 1, 4] (by decide) rfl))
             ·
              rintro _ _ ⟨rfl, rfl, h⟩
              rw [m3_quirlaw_GraphSays_K24] at h
              refine W.seqJ (fun gs D => gs = [] ∧ D = Cls w [] [.sl v13 3 1 (l12.map I), .sl v71 25 1 (zr svRow q72 l70), .ss (zs (svSd 3 1 I) q72 l70), .sl v8 25 1 (zr svRow q9 l7), .ss (zs (svSd 3 1 I) q9 l7)] ∧ m3_quirlaw_GraphSays_K25 gx21 go5 x10 a2 l12 x14 a0 a1 = some r) ?_ ?_
              ·
               refine W.seq (W.region (L.y rfl (Y.move rfl) ?_))
               refine L.y rfl (Y.lenM (g := I) (l := x76) Try.underlying25 rfl (fun w hw => As.atZ (sds := (svSd 3 1 I)) (vs := q9) (j := 0) (c := 1) (hw.get (i := 1) rfl) (fun _ _ => rfl) ex76 rfl)) ?_
               refine L.y rfl (Y.move rfl) ?_
               refine L.nil (E.thenN (W.block (W.loopJ (fun m gs D => ∃ (gx23 : Int), gs = [(0, gv (q9 gx21.toNat) 0), (1, gv (q72 gx21.toNat) 0), (12, .int .i64 (x76.length : Int)), (13, .int .i64 gx23)] ∧ D = Cls w [] [.sl v8 25 1 (zr svRow q9 l7), .ss (zs (svSd 3 1 I) q9 l7), .sl v71 25 1 (zr svRow q72 l70), .ss (zs (svSd 3 1 I) q72 l70), .sl v13 3 1 (l12.map I)] ∧ m3_quirlaw_GraphSays_L6 x76 x77 gx21 go5 x10 a2 l12 x14 a0 a1 m gx23 = some r) ⟨0, rfl, rfl, h⟩ ⟨rfl, rfl, rfl, rfl, trivial⟩ (fun _ hw => hw) ?_)))
               rintro m _ _ ⟨gx23, rfl, rfl, h⟩
               rcases m with _ | m
               · rw [m3_quirlaw_GraphSays_L6] at h; cases h
               rw [m3_quirlaw_GraphSays_L6] at h
               generalize hg6 : m3_quirlaw_GraphSays_L6 x76 x77 gx21 go5 x10 a2 l12 x14 a0 a1 m = go6 at h
               rw [m3_quirlaw_GraphSays_L6B] at h
               refine W.seq (W.region (L.ite h rfl (Y.lss rfl rfl) (fun c79 h => ?_) (fun c79 h => ?_)))
               ·
                refine L.nil (E.thenN (W.seq (W.condT rfl ?_)))
                refine W.skip (E.thenN (W.seq (W.block (W.seq (W.region (L.y rfl (Y.move rfl) ?_))))))
                refine L.y rfl (Y.assign rfl) ?_
                refine L.nil (E.thenN (W.seq (W.quietC mixed (by kernel_rfl) (fun _ hw => hw.drew) (fun hC => ?_))))
                refine U.y rfl (Y.move rfl) ?_
                refine U.y rfl (Y.move rfl) ?_
                refine U.m (V := fun _ => el (gv (q9 gx21.toNat) 0) (gx23.toNat * 1)) h rfl (Y.indexM (g := I) (l := x76) Try.underlying25 sz3 rfl rfl (fun w hw => As.atZ (sds := (svSd 3 1 I)) (vs := q9) (j := 0) (c := 1) (hw.get (i := 1) rfl) (fun _ _ => rfl) ex76 rfl)) (fun x80 ex80 h => ?_)
                refine U.y rfl (Y.loadE1 (u := .int .i64 x80) ag3 rfl (fun w hw => As.atZ (sds := (svSd 3 1 I)) (vs := q9) (j := 0) (c := 1) (hw.get (i := 1) rfl) (fun _ _ => rfl) ex76 rfl) (idx_map ex80)) ?_
                refine U.y rfl (Y.move rfl) ?_
                refine U.y rfl (Y.move rfl) ?_
                refine U.m (V := fun _ => el (gv (q72 gx21.toNat) 0) (gx23.toNat * 1)) h rfl (Y.indexM (g := I) (l := x77) Try.underlying25 sz3 rfl rfl (fun w hw => As.atZ (sds := (svSd 3 1 I)) (vs := q72) (j := 0) (c := 1) (hw.get (i := 3) rfl) (fun _ _ => rfl) ex77 rfl)) (fun x81 ex81 h => ?_)
                refine U.y rfl (Y.loadE1 (u := .int .i64 x81) ag3 rfl (fun w hw => As.atZ (sds := (svSd 3 1 I)) (vs := q72) (j := 0) (c := 1) (hw.get (i := 3) rfl) (fun _ _ => rfl) ex77 rfl) (idx_map ex81)) ?_
                refine U.ite h rfl (Y.neq rfl rfl) (fun c82 h => ?_) (fun c82 h => ?_)
                ·
                 refine U.nil (E.thenN (W.condT rfl ?_))
                 refine W.seq (W.region (L.y rfl (Y.assign rfl) ?_))
                 refine L.nil (E.thenN (W.ret (E.blockR (E.thenR (E.KLR (E.blockR (E.KSR (E.ret1 rfl rfl (fun w1 hw => ?_)))))))))
                 exact ⟨_, _, rfl, ⟨false, rfl, rfl, h⟩, hw.sel [2, 3, 0, 1, 4] (by decide) rfl⟩
                ·
                 refine U.nil (E.thenN (W.condF rfl ?_))
                 refine W.skip (E.blockN (E.thenN (W.region (L.m (V := fun x83 => .int .i64 x83) h rfl (Y.addM rfl rfl) (fun x83 ex83 h => ?_)))))
                 refine L.y rfl (Y.move rfl) ?_
                 exact L.nil (E.againJ ⟨x83, rfl, rfl, by rw [hg6]; exact h⟩ (Nat.lt_succ_self _) ⟨rfl, rfl, rfl, rfl, trivial⟩ (fun _ hw => hw))
               ·
                refine L.nil (E.thenN (W.seq (W.condF rfl ?_)))
                exact W.exit (E.thenX (E.KLX (E.blockX (E.joinJ ⟨rfl, rfl, h⟩ trivial (fun _ hw => hw.sel [4, 2, 3, 0, 1] (by decide) rfl)))))
              ·
               rintro _ _ ⟨rfl, rfl, h⟩
               rw [m3_quirlaw_GraphSays_K25] at h
               refine W.seq (W.region (L.y rfl (Y.assign rfl) ?_))
               refine L.nil (E.thenN (W.ret (E.ret1 rfl rfl (fun w1 hw => ?_))))
               exact ⟨_, _, rfl, ⟨true, rfl, rfl, h⟩, hw.sel [1, 2, 3, 4, 0] (by decide) rfl⟩
            ·
             rintro _ _ ⟨gb22, rfl, rfl, h⟩
             rw [m3_quirlaw_GraphSays_K23] at h
             rcases gb22 with _ | _
             ·
              replace h := iteF h
              refine L.y rfl (Y.not rfl) ?_
              refine L.nil (E.thenN (W.condT rfl ?_))
              refine W.seq (W.region (L.y rfl (Y.assign rfl) ?_))
              refine L.nil (E.thenN (W.ret (E.blockR (E.thenR (E.KLR (E.blockR (E.KSR (E.ret1 rfl rfl (fun w1 hw => ?_)))))))))
              exact ⟨_, _, rfl, ⟨false, rfl, rfl, h⟩, hw.sel [4] (by decide) rfl⟩
             ·
              replace h := iteT h
              refine L.y rfl (Y.not rfl) ?_
              refine L.nil (E.thenN (W.condF rfl ?_))
              refine W.skip (E.blockN (E.thenN (W.region (L.m (V := fun x78 => .int .i64 x78) h rfl (Y.addM rfl rfl) (fun x78 ex78 h => ?_)))))
              refine L.y rfl (Y.move rfl) ?_
              exact L.nil (E.againJ ⟨x78, rfl, rfl, by rw [hg5]; exact h⟩ (Nat.lt_succ_self _) ⟨rfl, rfl, rfl, rfl, rfl, trivial⟩ (fun _ hw => hw))
           ·
            refine L.nil (E.thenN (W.seq (W.condF rfl ?_)))
            exact W.exit (E.thenX (E.KLX (E.blockX (E.joinJ ⟨rfl, rfl, h⟩ trivial (fun _ hw => hw.sel [4] (by decide) rfl)))))
          ·
           rintro _ _ ⟨rfl, rfl, h⟩
           rw [m3_quirlaw_GraphSays_K22] at h
           refine W.seq (W.region (L.y rfl (Y.assign rfl) ?_))
           refine L.nil (E.thenN (W.ret (E.ret1 rfl rfl (fun w1 hw => ?_))))
           exact ⟨_, _, rfl, ⟨true, rfl, rfl, h⟩, hw⟩
        ·
         rintro _ _ ⟨gb20, rfl, rfl, h⟩
         rw [m3_quirlaw_GraphSays_K20] at h
         rcases gb20 with _ | _
         ·
          replace h := iteF h
          refine L.y rfl (Y.not rfl) ?_
          refine L.y rfl (Y.move rfl) ?_
          refine L.pass rfl rfl (by nofun) ?_
          refine L.pass rfl rfl (by nofun) ?_
          refine L.y rfl (Y.pickT rfl rfl) ?_
          refine L.nil (E.thenN (W.condT rfl ?_))
          refine W.seq (W.region (L.y rfl (Y.assign rfl) ?_))
          refine L.nil (E.thenN (W.ret (E.KSR (E.ret1 rfl rfl (fun w1 hw => ?_)))))
          obtain rfl := Option.some.inj h
          exact ⟨_, _, rfl, ⟨rfl, rfl⟩, hw.sel [] (by decide) rfl⟩
         ·
          replace h := iteT h
          refine L.y rfl (Y.not rfl) ?_
          refine L.y rfl (Y.move rfl) ?_
          refine L.take rfl (L.y rfl (Y.move rfl) ?_)
          refine L.take rfl (L.ite h rfl (Y.neq rfl rfl) (fun c74 h => ?_) (fun c74 h => ?_))
          ·
           refine L.y rfl (Y.pickF rfl rfl) ?_
           refine L.nil (E.thenN (W.condT rfl ?_))
           refine W.seq (W.region (L.y rfl (Y.assign rfl) ?_))
           refine L.nil (E.thenN (W.ret (E.KSR (E.ret1 rfl rfl (fun w1 hw => ?_)))))
           obtain rfl := Option.some.inj h
           exact ⟨_, _, rfl, ⟨rfl, rfl⟩, hw.sel [] (by decide) rfl⟩
          ·
           refine L.y rfl (Y.pickF rfl rfl) ?_
           refine L.nil (E.thenN (W.condF rfl ?_))
           exact W.skip (E.joinJ ⟨rfl, rfl, h⟩ ⟨rfl, rfl, rfl, rfl, rfl, trivial⟩ (fun _ hw => hw))
       ·
        rintro _ _ ⟨rfl, rfl, h⟩
        rw [m3_quirlaw_GraphSays_K16] at h
        refine W.seqJ (fun gs D => gs = [(0, .int .i64 a0), (1, u1), (2, .int .i64 a2), (12, v13), (13, .int .i64 x14)] ∧ D = Cls w [] [.sl v13 3 1 (l12.map I)] ∧ m3_quirlaw_GraphSays_K17 a0 a1 a2 l12 x14 = some r) ?_ ?_
        ·
         refine W.seqJ (fun gs D => ∃ (gb19 : Bool), gs = [(0, .int .i64 a0), (1, u1), (2, .int .i64 a2), (12, v13), (13, .int .i64 x14), (115, .bool gb19)] ∧ D = Cls w [] [.sl v13 3 1 (l12.map I)] ∧ m3_quirlaw_GraphSays_K19 l12 x14 a0 a1 a2 gb19 = some r) ?_ ?_
         ·
          refine W.region (L.y rfl (Y.move rfl) ?_)
          refine L.ite h rfl (Y.lss rfl rfl) (fun c68 h => ?_) (fun c68 h => ?_)
          ·
           refine L.y rfl (Y.move rfl) ?_
           refine L.pass rfl rfl (by nofun) ?_
           refine L.pass rfl rfl (by nofun) ?_
           refine L.pass rfl rfl (by nofun) ?_
           refine L.y rfl (Y.pickT rfl rfl) ?_
           exact L.nil (E.joinJ ⟨true, rfl, rfl, h⟩ ⟨rfl, rfl, rfl, rfl, rfl, rfl, trivial⟩ (fun _ hw => hw))
          ·
           refine L.y rfl (Y.move rfl) ?_
           refine L.take rfl (L.y rfl (Y.move rfl) ?_)
           refine L.take rfl (L.y rfl (Y.move rfl) ?_)
           refine L.take rfl (L.ite h rfl (Y.geq rfl rfl) (fun c69 h => ?_) (fun c69 h => ?_))
           ·
            refine L.y rfl (Y.pickF rfl rfl) ?_
            exact L.nil (E.joinJ ⟨true, rfl, rfl, h⟩ ⟨rfl, rfl, rfl, rfl, rfl, rfl, trivial⟩ (fun _ hw => hw))
           ·
            refine L.y rfl (Y.pickF rfl rfl) ?_
            exact L.nil (E.joinJ ⟨false, rfl, rfl, h⟩ ⟨rfl, rfl, rfl, rfl, rfl, rfl, trivial⟩ (fun _ hw => hw))
         ·
          rintro _ _ ⟨gb19, rfl, rfl, h⟩
          rw [m3_quirlaw_GraphSays_K19] at h
          rcases gb19 with _ | _
          ·
           replace h := iteF h
           refine W.condF rfl ?_
           exact W.skip (E.joinJ ⟨rfl, rfl, h⟩ ⟨rfl, rfl, rfl, rfl, rfl, trivial⟩ (fun _ hw => hw))
          ·
           replace h := iteT h
           refine W.condT rfl ?_
           refine W.seq (W.region (L.y rfl (Y.move rfl) ?_))
           refine L.y rfl (Y.lenM (g := I) (l := l12) Try.underlying25 rfl (fun w hw => As.at_ (hw.get (i := 0) rfl))) ?_
           refine L.ite h rfl (Y.eql rfl rfl) (fun c67 h => ?_) (fun c67 h => ?_)
           ·
            refine L.y rfl (Y.move rfl) ?_
            refine L.take rfl (L.y rfl (Y.move rfl) ?_)
            refine L.take rfl (L.y rfl (Y.eql rfl rfl) ?_)
            refine L.y rfl (Y.pickT rfl rfl) ?_
            refine L.y rfl (Y.assign rfl) ?_
            refine L.nil (E.thenN (W.ret (E.KSR (E.ret1 rfl rfl (fun w1 hw => ?_)))))
            obtain rfl := Option.some.inj h
            exact ⟨_, _, rfl, ⟨rfl, rfl⟩, hw.sel [] (by decide) rfl⟩
           ·
            refine L.y rfl (Y.move rfl) ?_
            refine L.pass rfl rfl (by nofun) ?_
            refine L.pass rfl rfl (by nofun) ?_
            refine L.y rfl (Y.pickF rfl rfl) ?_
            refine L.y rfl (Y.assign rfl) ?_
            refine L.nil (E.thenN (W.ret (E.KSR (E.ret1 rfl rfl (fun w1 hw => ?_)))))
            obtain rfl := Option.some.inj h
            exact ⟨_, _, rfl, ⟨rfl, rfl⟩, hw.sel [] (by decide) rfl⟩
        ·
         rintro _ _ ⟨rfl, rfl, h⟩
         rw [m3_quirlaw_GraphSays_K17] at h
         refine W.seq (W.region (L.y rfl (Y.assign rfl) ?_))
         refine L.nil (E.thenN (W.seqJ (fun gs D => ∃ (gv14 : Value) (gl15 : (List Int)), gs = [(12, v13), (13, .int .i64 x14), (16, gv14)] ∧ D = Cls w [] [.sl v13 3 1 (l12.map I), .sl gv14 3 1 (gl15.map I)] ∧ m3_quirlaw_GraphSays_K18 l12 x14 gl15 = some r) ?_ ?_))
         ·
          refine W.seq (W.region (L.y rfl (Y.move rfl) ?_))
          refine L.y rfl (Y.move rfl) ?_
          obtain ⟨l54, e57, h⟩ := bind1S h
          refine L.does rfl en14 rfl (fun w' hw => w14_quirref_Closure a0 a1 u1 w' _ e57 (hA1.cls0 hw)) ?_
          rintro v55 _ ⟨_, q56, rfl, rfl⟩
          refine L.y rfl (Y.move rfl) ?_
          refine L.m (V := fun _ => el v55 (a2.toNat * 1)) h rfl (Y.indexMZ (row := svRow) (vs := q56) (l := l54) Try.underlying38 sz37 rfl rfl (fun w hw => As.at_ (hw.get (i := 0) rfl))) (fun x58 ex58 h => ?_)
          refine L.y rfl (Y.loadE1 (u := gv (q56 a2.toNat) 0) ag37 rfl (fun w hw => As.at_ (hw.get (i := 0) rfl)) (zr_idx (vs := q56) ex58)) ?_
          refine L.y rfl (Y.lenM (g := B) (l := x58) Try.underlying37 rfl (fun w hw => As.atZ (sds := (svSd 4 1 B)) (vs := q56) (j := 0) (c := 1) (hw.get (i := 1) rfl) (fun _ _ => rfl) ex58 rfl)) ?_
          refine L.y rfl (Y.move rfl) ?_
          refine L.nil (E.thenN (W.block (W.nilSl 3 1 ?_)))
          refine W.loopJ (fun m gs D => ∃ (gv16 : Value) (gl17 : (List Int)) (gx18 : Int), gs = [(12, v13), (13, .int .i64 x14), (16, gv16), (128, gv (q56 a2.toNat) 0), (129, .int .i64 (x58.length : Int)), (130, .int .i64 gx18)] ∧ D = Cls w [] [.sl v13 3 1 (l12.map I), .sl gv16 3 1 (gl17.map I), .sl v55 37 1 (zr svRow q56 l54), .ss (zs (svSd 4 1 B) q56 l54)] ∧ m3_quirlaw_GraphSays_L4 x58 l12 x14 m gl17 gx18 = some r) ⟨.slice none 0 0, [], 0, rfl, rfl, h⟩ ⟨rfl, rfl, rfl, rfl, rfl, rfl, trivial⟩ (fun _ hw => hw.sel [3, 0, 1, 2] (by decide) rfl) ?_
          rintro m _ _ ⟨gv16, gl17, gx18, rfl, rfl, h⟩
          rcases m with _ | m
          · rw [m3_quirlaw_GraphSays_L4] at h; cases h
          rw [m3_quirlaw_GraphSays_L4] at h
          generalize hg4 : m3_quirlaw_GraphSays_L4 x58 l12 x14 m = go4 at h
          rw [m3_quirlaw_GraphSays_L4B] at h
          refine W.seq (W.region (L.ite h rfl (Y.lss rfl rfl) (fun c59 h => ?_) (fun c59 h => ?_)))
          ·
           refine L.nil (E.thenN (W.seq (W.condT rfl ?_)))
           refine W.skip (E.thenN (W.seq (W.block (W.seq (W.region (L.y rfl (Y.move rfl) ?_))))))
           refine L.m (V := fun _ => el (gv (q56 a2.toNat) 0) (gx18.toNat * 1)) h rfl (Y.indexM (g := B) (l := x58) Try.underlying37 sz4 rfl rfl (fun w hw => As.atZ (sds := (svSd 4 1 B)) (vs := q56) (j := 0) (c := 1) (hw.get (i := 3) rfl) (fun _ _ => rfl) ex58 rfl)) (fun x60 ex60 h => ?_)
           refine L.iteB h rfl (Y.loadE1 (u := .bool x60) ag4 rfl (fun w hw => As.atZ (sds := (svSd 4 1 B)) (vs := q56) (j := 0) (c := 1) (hw.get (i := 3) rfl) (fun _ _ => rfl) ex58 rfl) (idx_map ex60)) (fun c61 h => ?_) (fun c61 h => ?_)
           ·
            refine L.y rfl (Y.assign rfl) ?_
            refine L.y rfl (Y.assign rfl) ?_
            refine L.nil (E.thenN (W.seq (W.region (L.y rfl (Y.move rfl) ?_))))
            refine L.nil (E.thenN (W.condT rfl ?_))
            refine W.region (L.y rfl (Y.move rfl) ?_)
            refine L.y rfl (Y.move rfl) ?_
            refine L.litOne rfl Try.underlying25 eL3 rfl rfl ?_
            intro b62
            refine L.appM (i := 2) (g := I) (l := gl17) (more := [gx18]) h rfl Try.underlying25 eL3 rfl rfl rfl (fun w hw => As.at_ (hw.get (i := 0) rfl)) (plain_ints _) rfl ?_
            intro v63 l64 el64 h
            refine L.y rfl (Y.assign rfl) ?_
            refine L.nil (E.blockN (E.thenN (W.region (L.m (V := fun x65 => .int .i64 x65) h rfl (Y.addM rfl rfl) (fun x65 ex65 h => ?_)))))
            refine L.y rfl (Y.move rfl) ?_
            exact L.nil (E.againJ ⟨v63, l64, x65, rfl, rfl, by rw [hg4]; exact h⟩ (Nat.lt_succ_self _) ⟨rfl, rfl, rfl, rfl, rfl, rfl, trivial⟩ (fun _ hw => hw.sel [2, 0, 3, 4] (by decide) rfl))
           ·
            refine L.y rfl (Y.assign rfl) ?_
            refine L.y rfl (Y.assign rfl) ?_
            refine L.nil (E.thenN (W.seq (W.region (L.y rfl (Y.move rfl) ?_))))
            refine L.nil (E.thenN (W.condF rfl ?_))
            refine W.skip (E.blockN (E.thenN (W.region (L.m (V := fun x66 => .int .i64 x66) h rfl (Y.addM rfl rfl) (fun x66 ex66 h => ?_)))))
            refine L.y rfl (Y.move rfl) ?_
            exact L.nil (E.againJ ⟨gv16, gl17, x66, rfl, rfl, by rw [hg4]; exact h⟩ (Nat.lt_succ_self _) ⟨rfl, rfl, rfl, rfl, rfl, rfl, trivial⟩ (fun _ hw => hw))
          ·
           refine L.nil (E.thenN (W.seq (W.condF rfl ?_)))
           exact W.exit (E.thenX (E.KLX (E.blockX (E.joinJ ⟨gv16, gl17, rfl, rfl, h⟩ ⟨rfl, rfl, rfl, trivial⟩ (fun _ hw => hw.sel [0, 1] (by decide) rfl)))))
         ·
          rintro _ _ ⟨gv14, gl15, rfl, rfl, h⟩
          rw [m3_quirlaw_GraphSays_K18] at h
          refine W.seq (W.region (L.y rfl (Y.move rfl) ?_))
          refine L.y rfl (Y.move rfl) ?_
          obtain ⟨b52, e53, h⟩ := bind1S h
          refine L.y rfl (Y.does en11 rfl (fun w' hw => (w11_slices_Equal_int l12 gl15 v13 gv14 w' _ e53 (As.at_ (hw.get (i := 0) rfl)) (As.at_ (hw.get (i := 1) rfl))).mono (fun _ _ h => h.1))) ?_
          rcases b52 with _ | _
          ·
           replace h := iteF h
           refine L.y rfl (Y.move rfl) ?_
           refine L.pass rfl rfl (by nofun) ?_
           refine L.pass rfl rfl (by nofun) ?_
           refine L.y rfl (Y.pickF rfl rfl) ?_
           refine L.y rfl (Y.assign rfl) ?_
           refine L.nil (E.thenN (W.ret (E.ret1 rfl rfl (fun w1 hw => ?_))))
           obtain rfl := Option.some.inj h
           exact ⟨_, _, rfl, ⟨rfl, rfl⟩, hw.sel [] (by decide) rfl⟩
          ·
           replace h := iteT h
           refine L.y rfl (Y.move rfl) ?_
           refine L.take rfl (L.y rfl (Y.move rfl) ?_)
           refine L.take rfl (L.y rfl (Y.eql rfl rfl) ?_)
           refine L.y rfl (Y.pickT rfl rfl) ?_
           refine L.y rfl (Y.assign rfl) ?_
           refine L.nil (E.thenN (W.ret (E.ret1 rfl rfl (fun w1 hw => ?_))))
           obtain rfl := Option.some.inj h
           exact ⟨_, _, rfl, ⟨rfl, rfl⟩, hw.sel [] (by decide) rfl⟩
end Go.Proofs.Ytjhcdmcikodgkaa
