/-
  Walks, printed by a program of mine.
  Conditions: none.
-/
import Derived.Test.YtkhlapdkomnldaaRuW1
import Derived.Test.YtkhlapdkomnldaaChecked
import Derived.KernelRfl
import Derived.Test.YtkhlapdkomnldaaSo
namespace Go.Proofs.Ytkhlapdkomnldaa
open Go.S
set_option linter.unusedVariables false
set_option linter.unusedSimpArgs false
set_option maxRecDepth 100000 in
set_option maxHeartbeats 8000000 in
theorem w16_quirref_Edges (a0 : (List TOp)) (u0 : Value) (w : World) (r : (List TEdge)) (h : m16_quirref_Edges a0 = some r) (hA0 : At w u0 3 (a0.map TOp.row)) : Does Try.prog 16 [u0] w fun u m => ∃ v0, u = v0 ∧ m = [.sl v0 40 2 (r.map TEdge.row)] := by
  rw [m16_quirref_Edges] at h
  refine body (n := 78) Try.func16 rfl rfl rfl (Cls.refl w) ?_
  refine W.seq (W.region (L.y rfl (Y.assign rfl) ?_))
  refine L.nil (E.thenN (W.seq (W.region (L.y rfl (Y.assign rfl) ?_))))
  refine L.nil (E.thenN (W.seqJ (fun gs D => ∃ (gv1 : Value) (gl2 : (List TEdge)), gs = [(3, gv1)] ∧ D = Cls w [] [.sl gv1 40 2 (gl2.map TEdge.row)] ∧ m16_quirref_Edges_K1 gl2 = some r) ?_ ?_))
  ·
   refine W.seq (W.region (L.y rfl (Y.move rfl) ?_))
   refine L.nil (E.thenN (W.block (W.nilSl 40 2 ?_)))
   refine W.loopJ (fun m gs D => ∃ (gv3 : Value) (gl4 : (List TEdge)) (gx5 : Int), gs = [(0, u0), (3, gv3), (11, .int .i64 gx5)] ∧ D = Cls w [] [.sl gv3 40 2 (gl4.map TEdge.row)] ∧ m16_quirref_Edges_L1 a0 m gl4 gx5 = some r) ⟨.slice none 0 0, [], 0, rfl, rfl, h⟩ ⟨rfl, rfl, rfl, trivial⟩ (fun _ hw => hw) ?_
   rintro m _ _ ⟨gv3, gl4, gx5, rfl, rfl, h⟩
   rcases m with _ | m
   · rw [m16_quirref_Edges_L1] at h; cases h
   rw [m16_quirref_Edges_L1] at h
   generalize hg1 : m16_quirref_Edges_L1 a0 m = go1 at h
   rw [m16_quirref_Edges_L1B] at h
   refine W.seq (W.region (L.ite h rfl (Y.lss rfl rfl) (fun c1 h => ?_) (fun c1 h => ?_)))
   ·
    refine L.nil (E.thenN (W.seq (W.condT rfl ?_)))
    refine W.skip (E.thenN (W.seqJ (fun gs D => ∃ (gv6 : Value) (gl7 : (List TEdge)), gs = [(0, u0), (3, gv6), (11, .int .i64 gx5)] ∧ D = Cls w [] [.sl gv6 40 2 (gl7.map TEdge.row)] ∧ m16_quirref_Edges_K2 gx5 go1 gl7 = some r) ?_ ?_))
    ·
     refine W.block (W.seq (W.region (L.y rfl (Y.move rfl) ?_)))
     refine L.y rfl (Y.assign rfl) ?_
     refine L.nil (E.thenN (W.seq (W.region (L.y rfl (Y.move rfl) ?_))))
     refine L.nil (E.thenN (W.block (W.loopJ (fun m gs D => ∃ (gv8 : Value) (gl9 : (List TEdge)) (gx10 : Int), gs = [(0, u0), (3, gv8), (4, .int .i64 gx5), (11, .int .i64 gx5), (14, .int .i64 gx10)] ∧ D = Cls w [] [.sl gv8 40 2 (gl9.map TEdge.row)] ∧ m16_quirref_Edges_L2 gx5 a0 go1 m gl9 gx10 = some r) ⟨gv3, gl4, 0, rfl, rfl, h⟩ ⟨rfl, rfl, rfl, rfl, rfl, trivial⟩ (fun _ hw => hw) ?_)))
     rintro m _ _ ⟨gv8, gl9, gx10, rfl, rfl, h⟩
     rcases m with _ | m
     · rw [m16_quirref_Edges_L2] at h; cases h
     rw [m16_quirref_Edges_L2] at h
     generalize hg2 : m16_quirref_Edges_L2 gx5 a0 go1 m = go2 at h
     rw [m16_quirref_Edges_L2B] at h
     refine W.seq (W.region (L.ite h rfl (Y.lss rfl rfl) (fun c3 h => ?_) (fun c3 h => ?_)))
     ·
      refine L.nil (E.thenN (W.seq (W.condT rfl ?_)))
      refine W.skip (E.thenN (W.seqJ (fun gs D => ∃ (gv11 : Value) (gl12 : (List TEdge)), gs = [(0, u0), (3, gv11), (4, .int .i64 gx5), (11, .int .i64 gx5), (14, .int .i64 gx10)] ∧ D = Cls w [] [.sl gv11 40 2 (gl12.map TEdge.row)] ∧ m16_quirref_Edges_K3 gx10 go2 gl12 = some r) ?_ ?_))
      ·
       refine W.block (W.seq (W.region (L.y rfl (Y.move rfl) ?_)))
       refine L.y rfl (Y.assign rfl) ?_
       refine L.nil (E.thenN (W.seqJ (fun gs D => gs = [(0, u0), (3, gv8), (4, .int .i64 gx5), (5, .int .i64 gx10), (11, .int .i64 gx5), (14, .int .i64 gx10)] ∧ D = Cls w [] [.sl gv8 40 2 (gl9.map TEdge.row)] ∧ m16_quirref_Edges_K4 a0 gx5 gx10 gl9 go2 = some r) ?_ ?_))
       ·
        refine W.seq (W.region (L.cutJ 9 (fun gs D => ∃ (gb20 : Bool), gs = [(0, u0), (3, gv8), (4, .int .i64 gx5), (5, .int .i64 gx10), (11, .int .i64 gx5), (14, .int .i64 gx10), (25, .bool gb20)] ∧ D = Cls w [] [.sl gv8 40 2 (gl9.map TEdge.row)] ∧ m16_quirref_Edges_K8 gx10 go2 gl9 a0 gx5 gb20 = some r) ?_ ?_))
        ·
         refine L.y rfl (Y.move rfl) ?_
         refine L.y rfl (Y.move rfl) ?_
         refine L.ite h rfl (Y.eql rfl rfl) (fun c27 h => ?_) (fun c27 h => ?_)
         ·
          refine L.y rfl (Y.move rfl) ?_
          refine L.pass rfl rfl (by nofun) ?_
          refine L.pass rfl rfl (by nofun) ?_
          refine L.pass rfl rfl (by nofun) ?_
          refine L.pass rfl rfl (by nofun) ?_
          refine L.y rfl (Y.pickT rfl rfl) ?_
          exact L.nil (E.joinJ ⟨true, rfl, rfl, h⟩ ⟨rfl, rfl, rfl, rfl, rfl, rfl, rfl, trivial⟩ (fun _ hw => hw))
         ·
          refine L.y rfl (Y.move rfl) ?_
          refine L.take rfl (L.y rfl (Y.move rfl) ?_)
          refine L.take rfl (L.y rfl (Y.move rfl) ?_)
          refine L.take rfl ?_
          obtain ⟨b28, e29, h⟩ := bind1S h
          refine L.y rfl (Y.does en49 rfl (fun w' hw => (w49_quirref_has a0 gx5 3 u0 w' _ e29 (hA0.cls0 hw)).mono (fun _ _ h => h.1))) ?_
          rcases b28 with _ | _
          ·
           replace h := iteF h
           refine L.take rfl (L.y rfl (Y.not rfl) ?_)
           refine L.y rfl (Y.pickF rfl rfl) ?_
           exact L.nil (E.joinJ ⟨true, rfl, rfl, h⟩ ⟨rfl, rfl, rfl, rfl, rfl, rfl, rfl, trivial⟩ (fun _ hw => hw))
          ·
           replace h := iteT h
           refine L.take rfl (L.y rfl (Y.not rfl) ?_)
           refine L.y rfl (Y.pickF rfl rfl) ?_
           exact L.nil (E.joinJ ⟨false, rfl, rfl, h⟩ ⟨rfl, rfl, rfl, rfl, rfl, rfl, rfl, trivial⟩ (fun _ hw => hw))
        ·
         rintro _ _ ⟨gb20, rfl, rfl, h⟩
         rw [m16_quirref_Edges_K8] at h
         rcases gb20 with _ | _
         ·
          replace h := iteF h
          refine L.y rfl (Y.move rfl) ?_
          refine L.take rfl (L.y rfl (Y.move rfl) ?_)
          refine L.take rfl (L.y rfl (Y.move rfl) ?_)
          refine L.take rfl ?_
          obtain ⟨b25, e26, h⟩ := bind1S h
          refine L.y rfl (Y.does en49 rfl (fun w' hw => (w49_quirref_has a0 gx10 3 u0 w' _ e26 (hA0.cls0 hw)).mono (fun _ _ h => h.1))) ?_
          rcases b25 with _ | _
          ·
           replace h := iteF h
           refine L.take rfl (L.y rfl (Y.not rfl) ?_)
           refine L.y rfl (Y.pickF rfl rfl) ?_
           refine L.nil (E.thenN (W.condT rfl ?_))
           exact W.exit (E.KSX (E.blockX (E.joinJ ⟨gv8, gl9, rfl, rfl, h⟩ ⟨rfl, rfl, rfl, rfl, rfl, trivial⟩ (fun _ hw => hw))))
          ·
           replace h := iteT h
           refine L.take rfl (L.y rfl (Y.not rfl) ?_)
           refine L.y rfl (Y.pickF rfl rfl) ?_
           refine L.nil (E.thenN (W.condF rfl ?_))
           exact W.skip (E.joinJ ⟨rfl, rfl, h⟩ ⟨rfl, rfl, rfl, rfl, rfl, rfl, trivial⟩ (fun _ hw => hw))
         ·
          replace h := iteT h
          refine L.y rfl (Y.move rfl) ?_
          refine L.pass rfl rfl (by nofun) ?_
          refine L.pass rfl rfl (by nofun) ?_
          refine L.pass rfl rfl (by nofun) ?_
          refine L.pass rfl rfl (by nofun) ?_
          refine L.y rfl (Y.pickT rfl rfl) ?_
          refine L.nil (E.thenN (W.condT rfl ?_))
          exact W.exit (E.KSX (E.blockX (E.joinJ ⟨gv8, gl9, rfl, rfl, h⟩ ⟨rfl, rfl, rfl, rfl, rfl, trivial⟩ (fun _ hw => hw))))
       ·
        rintro _ _ ⟨rfl, rfl, h⟩
        rw [m16_quirref_Edges_K4] at h
        refine W.seq (W.region (L.y rfl (Y.assign rfl) ?_))
        refine L.nil (E.thenN (W.seqJ (fun gs D => ∃ (gb13 : Bool), gs = [(0, u0), (3, gv8), (4, .int .i64 gx5), (5, .int .i64 gx10), (6, .bool gb13), (11, .int .i64 gx5), (14, .int .i64 gx10)] ∧ D = Cls w [] [.sl gv8 40 2 (gl9.map TEdge.row)] ∧ m16_quirref_Edges_K5 gl9 gx5 gx10 go2 gb13 = some r) ?_ ?_))
        ·
         refine W.seq (W.region (L.y rfl (Y.move rfl) ?_))
         refine L.y rfl (Y.lenM (g := TOp.row) (l := a0) Try.underlying22 rfl (fun w' hw => hA0.cls0 hw)) ?_
         refine L.y rfl (Y.move rfl) ?_
         refine L.nil (E.thenN (W.block (W.loopJ (fun m gs D => ∃ (gb14 : Bool) (gx15 : Int), gs = [(0, u0), (3, gv8), (4, .int .i64 gx5), (5, .int .i64 gx10), (6, .bool gb14), (11, .int .i64 gx5), (14, .int .i64 gx10), (32, u0), (33, .int .i64 (a0.length : Int)), (34, .int .i64 gx15)] ∧ D = Cls w [] [.sl gv8 40 2 (gl9.map TEdge.row)] ∧ m16_quirref_Edges_L3 a0 gx5 gx10 gl9 go2 m gb14 gx15 = some r) ⟨false, 0, rfl, rfl, h⟩ ⟨rfl, rfl, rfl, rfl, rfl, rfl, rfl, rfl, rfl, rfl, trivial⟩ (fun _ hw => hw) ?_)))
         rintro m _ _ ⟨gb14, gx15, rfl, rfl, h⟩
         rcases m with _ | m
         · rw [m16_quirref_Edges_L3] at h; cases h
         rw [m16_quirref_Edges_L3] at h
         generalize hg3 : m16_quirref_Edges_L3 a0 gx5 gx10 gl9 go2 m = go3 at h
         rw [m16_quirref_Edges_L3B] at h
         refine W.seq (W.region (L.ite h rfl (Y.lss rfl rfl) (fun c8 h => ?_) (fun c8 h => ?_)))
         ·
          refine L.nil (E.thenN (W.seq (W.condT rfl ?_)))
          refine W.skip (E.thenN (W.seqJ (fun gs D => ∃ (gb16 : Bool), gs = [(0, u0), (3, gv8), (4, .int .i64 gx5), (5, .int .i64 gx10), (6, .bool gb16), (11, .int .i64 gx5), (14, .int .i64 gx10), (32, u0), (33, .int .i64 (a0.length : Int)), (34, .int .i64 gx15)] ∧ D = Cls w [] [.sl gv8 40 2 (gl9.map TEdge.row)] ∧ m16_quirref_Edges_K6 gx15 go3 gb16 = some r) ?_ ?_))
          ·
           refine W.block (W.seq (W.region (L.y rfl (Y.move rfl) ?_)))
           refine L.m (V := fun _ => el u0 (gx15.toNat * 3)) h rfl (Y.indexM (g := TOp.row) (l := a0) Try.underlying22 sz83 rfl rfl (fun w' hw => hA0.cls0 hw)) (fun x11 ex11 h => ?_)
           refine L.y rfl (Y.loadEN (r := [.int .i64 x11.Tx, .int .i64 x11.Kind, .int .i64 x11.Item]) ag83 sz83 rfl (fun w' hw => hA0.cls0 hw) (idx_map ex11) rfl) ?_
           refine L.alloc rfl ze83 ?_
           intro b12
           refine L.y rfl (Y.assign rfl) ?_
           refine L.store (i := 0) sz83 rfl rfl rfl rfl (by simp [Value.oneCell', Value.cells, st]) rfl (Nat.le_of_ble_eq_true rfl) ?_
           refine L.nil (E.thenN (W.seq (W.region (L.y rfl (Y.move rfl) ?_))))
           refine L.y rfl (Y.move rfl) ?_
           refine L.m (V := fun x13 => .int .i64 x13) h rfl (Y.addM rfl rfl) (fun x13 ex13 h => ?_)
           refine L.m (V := fun _ => dropv u0 x13.toNat 3) h rfl (Y.dropM (g := TOp.row) Try.underlying22 sz83 rfl rfl (fun w' hw => hA0.cls0 hw)) (fun l14 el14 h => ?_)
           refine L.y rfl (Y.lenM (g := TOp.row) (l := l14) Try.underlying22 rfl (fun w' hw => (At.dropM hA0 el14).cls0 hw)) ?_
           refine L.y rfl (Y.move rfl) ?_
           refine L.nil (E.thenN (W.block (W.loopJ (fun m gs D => ∃ (gb17 : Bool) (gx18 : Int), gs = [(0, u0), (3, gv8), (4, .int .i64 gx5), (5, .int .i64 gx10), (6, .bool gb17), (8, pt b12 0), (11, .int .i64 gx5), (14, .int .i64 gx10), (32, u0), (33, .int .i64 (a0.length : Int)), (34, .int .i64 gx15), (42, dropv u0 x13.toNat 3), (43, .int .i64 (l14.length : Int)), (44, .int .i64 gx18)] ∧ D = Cls w [] [.obj b12 [.int .i64 x11.Tx, .int .i64 x11.Kind, .int .i64 x11.Item] 83, .sl gv8 40 2 (gl9.map TEdge.row)] ∧ m16_quirref_Edges_L4 l14 x11 gx5 gx10 gx15 go3 m gb17 gx18 = some r) ⟨gb14, 0, rfl, rfl, h⟩ ⟨rfl, rfl, rfl, rfl, rfl, rfl, rfl, rfl, rfl, rfl, rfl, rfl, rfl, rfl, trivial⟩ (fun _ hw => hw) ?_)))
           rintro m _ _ ⟨gb17, gx18, rfl, rfl, h⟩
           rcases m with _ | m
           · rw [m16_quirref_Edges_L4] at h; cases h
           rw [m16_quirref_Edges_L4] at h
           generalize hg4 : m16_quirref_Edges_L4 l14 x11 gx5 gx10 gx15 go3 m = go4 at h
           rw [m16_quirref_Edges_L4B] at h
           refine W.seq (W.region (L.ite h rfl (Y.lss rfl rfl) (fun c15 h => ?_) (fun c15 h => ?_)))
           ·
            refine L.nil (E.thenN (W.seq (W.condT rfl ?_)))
            refine W.skip (E.thenN (W.seq (W.block (W.seq (W.region (L.m (V := fun _ => el (dropv u0 x13.toNat 3) (gx18.toNat * 3)) h rfl (Y.indexM (g := TOp.row) (l := l14) Try.underlying22 sz83 rfl rfl (fun w' hw => (At.dropM hA0 el14).cls0 hw)) (fun x16 ex16 h => ?_)))))))
            refine L.y rfl (Y.loadEN (r := [.int .i64 x16.Tx, .int .i64 x16.Kind, .int .i64 x16.Item]) ag83 sz83 rfl (fun w' hw => (At.dropM hA0 el14).cls0 hw) (idx_map ex16) rfl) ?_
            refine L.alloc rfl ze83 ?_
            intro b17
            refine L.store (i := 0) sz83 rfl rfl rfl rfl (by simp [Value.oneCell', Value.cells, st]) rfl (Nat.le_of_ble_eq_true rfl) ?_
            refine L.nil (E.thenN (W.region (L.cutJ 18 (fun gs D => ∃ (gb19 : Bool), gs = [(0, u0), (3, gv8), (4, .int .i64 gx5), (5, .int .i64 gx10), (8, pt b12 0), (11, .int .i64 gx5), (14, .int .i64 gx10), (32, u0), (33, .int .i64 (a0.length : Int)), (34, .int .i64 gx15), (42, dropv u0 x13.toNat 3), (43, .int .i64 (l14.length : Int)), (44, .int .i64 gx18), (65, .bool gb19)] ∧ D = Cls w [] [.obj b12 [.int .i64 x11.Tx, .int .i64 x11.Kind, .int .i64 x11.Item] 83, .sl gv8 40 2 (gl9.map TEdge.row)] ∧ m16_quirref_Edges_K7 gx18 go4 gb19 = some r) ?_ ?_)))
            ·
             refine L.iteB h rfl (Y.move rfl) (fun c20 h => ?_) (fun c20 h => ?_)
             ·
              refine L.y rfl (Y.move rfl) ?_
              refine L.pass rfl rfl (by nofun) ?_
              refine L.pass rfl rfl (by nofun) ?_
              refine L.pass rfl rfl (by nofun) ?_
              refine L.pass rfl rfl (by nofun) ?_
              refine L.pass rfl rfl (by nofun) ?_
              refine L.pass rfl rfl (by nofun) ?_
              refine L.pass rfl rfl (by nofun) ?_
              refine L.pass rfl rfl (by nofun) ?_
              refine L.pass rfl rfl (by nofun) ?_
              refine L.pass rfl rfl (by nofun) ?_
              refine L.pass rfl rfl (by nofun) ?_
              refine L.pass rfl rfl (by nofun) ?_
              refine L.pass rfl rfl (by nofun) ?_
              refine L.pass rfl rfl (by nofun) ?_
              refine L.pass rfl rfl (by nofun) ?_
              refine L.y rfl (Y.pickT rfl rfl) ?_
              exact L.nil (E.joinJ ⟨true, rfl, rfl, h⟩ ⟨rfl, rfl, rfl, rfl, rfl, rfl, rfl, rfl, rfl, rfl, rfl, rfl, rfl, rfl, trivial⟩ (fun _ hw => hw.sel [1, 2] (by decide) rfl))
             ·
              refine L.y rfl (Y.move rfl) ?_
              refine L.take rfl (L.y rfl (Y.fieldP fd83_0 rfl) ?_)
              refine L.take rfl (L.y rfl (Y.loadP (i := 1) ag3 rfl rfl rfl) ?_)
              refine L.take rfl (L.y rfl (Y.move rfl) ?_)
              refine L.take rfl (L.ite h rfl (Y.eql rfl rfl) (fun c21 h => ?_) (fun c21 h => ?_))
              ·
               refine L.take rfl (L.y rfl (Y.move rfl) ?_)
               refine L.take rfl (L.y rfl (Y.fieldP fd83_0 rfl) ?_)
               refine L.take rfl (L.y rfl (Y.loadP (i := 0) ag3 rfl rfl rfl) ?_)
               refine L.take rfl (L.y rfl (Y.move rfl) ?_)
               refine L.take rfl (L.ite h rfl (Y.eql rfl rfl) (fun c22 h => ?_) (fun c22 h => ?_))
               ·
                refine L.take rfl (L.y rfl (Y.pickT rfl rfl) ?_)
                refine L.take rfl (L.y rfl (Y.move rfl) ?_)
                refine L.take rfl (L.y rfl (Y.loadPW (i := 1) ag83 sz83 rfl rfl rfl) ?_)
                refine L.take rfl (L.y rfl (Y.loadPW (i := 0) ag83 sz83 rfl rfl rfl) ?_)
                refine L.take rfl ?_
                obtain ⟨b23, e24, h⟩ := bind1S h
                refine L.y rfl (Y.does en50 rfl (fun w' hw => (w50_quirref_clash x11 x16 w' _ e24).mono (fun _ _ h => h.1))) ?_
                rcases b23 with _ | _
                ·
                 replace h := iteF h
                 refine L.take rfl (L.y rfl (Y.pickT rfl rfl) ?_)
                 refine L.y rfl (Y.pickF rfl rfl) ?_
                 exact L.nil (E.joinJ ⟨false, rfl, rfl, h⟩ ⟨rfl, rfl, rfl, rfl, rfl, rfl, rfl, rfl, rfl, rfl, rfl, rfl, rfl, rfl, trivial⟩ (fun _ hw => hw.sel [1, 2] (by decide) rfl))
                ·
                 replace h := iteT h
                 refine L.take rfl (L.y rfl (Y.pickT rfl rfl) ?_)
                 refine L.y rfl (Y.pickF rfl rfl) ?_
                 exact L.nil (E.joinJ ⟨true, rfl, rfl, h⟩ ⟨rfl, rfl, rfl, rfl, rfl, rfl, rfl, rfl, rfl, rfl, rfl, rfl, rfl, rfl, trivial⟩ (fun _ hw => hw.sel [1, 2] (by decide) rfl))
               ·
                refine L.take rfl (L.y rfl (Y.pickT rfl rfl) ?_)
                refine L.take rfl (L.y rfl (Y.move rfl) ?_)
                refine L.pass rfl rfl (by nofun) ?_
                refine L.pass rfl rfl (by nofun) ?_
                refine L.pass rfl rfl (by nofun) ?_
                refine L.take rfl (L.y rfl (Y.pickF rfl rfl) ?_)
                refine L.y rfl (Y.pickF rfl rfl) ?_
                exact L.nil (E.joinJ ⟨false, rfl, rfl, h⟩ ⟨rfl, rfl, rfl, rfl, rfl, rfl, rfl, rfl, rfl, rfl, rfl, rfl, rfl, rfl, trivial⟩ (fun _ hw => hw.sel [1, 2] (by decide) rfl))
              ·
               refine L.take rfl (L.y rfl (Y.move rfl) ?_)
               refine L.pass rfl rfl (by nofun) ?_
               refine L.pass rfl rfl (by nofun) ?_
               refine L.pass rfl rfl (by nofun) ?_
               refine L.pass rfl rfl (by nofun) ?_
               refine L.take rfl (L.y rfl (Y.pickF rfl rfl) ?_)
               refine L.take rfl (L.y rfl (Y.move rfl) ?_)
               refine L.pass rfl rfl (by nofun) ?_
               refine L.pass rfl rfl (by nofun) ?_
               refine L.pass rfl rfl (by nofun) ?_
               refine L.take rfl (L.y rfl (Y.pickF rfl rfl) ?_)
               refine L.y rfl (Y.pickF rfl rfl) ?_
               exact L.nil (E.joinJ ⟨false, rfl, rfl, h⟩ ⟨rfl, rfl, rfl, rfl, rfl, rfl, rfl, rfl, rfl, rfl, rfl, rfl, rfl, rfl, trivial⟩ (fun _ hw => hw.sel [1, 2] (by decide) rfl))
            ·
             rintro _ _ ⟨gb19, rfl, rfl, h⟩
             rw [m16_quirref_Edges_K7] at h
             rcases gb19 with _ | _
             ·
              replace h := iteF h
              refine L.y rfl (Y.assign rfl) ?_
              refine L.nil (E.blockN (E.thenN (W.region (L.m (V := fun x18 => .int .i64 x18) h rfl (Y.addM rfl rfl) (fun x18 ex18 h => ?_)))))
              refine L.y rfl (Y.move rfl) ?_
              exact L.nil (E.againJ ⟨false, x18, rfl, rfl, by rw [hg4]; exact h⟩ (Nat.lt_succ_self _) ⟨rfl, rfl, rfl, rfl, rfl, rfl, rfl, rfl, rfl, rfl, rfl, rfl, rfl, rfl, trivial⟩ (fun _ hw => hw))
             ·
              replace h := iteT h
              refine L.y rfl (Y.assign rfl) ?_
              refine L.nil (E.blockN (E.thenN (W.region (L.m (V := fun x19 => .int .i64 x19) h rfl (Y.addM rfl rfl) (fun x19 ex19 h => ?_)))))
              refine L.y rfl (Y.move rfl) ?_
              exact L.nil (E.againJ ⟨true, x19, rfl, rfl, by rw [hg4]; exact h⟩ (Nat.lt_succ_self _) ⟨rfl, rfl, rfl, rfl, rfl, rfl, rfl, rfl, rfl, rfl, rfl, rfl, rfl, rfl, trivial⟩ (fun _ hw => hw))
           ·
            refine L.nil (E.thenN (W.seq (W.condF rfl ?_)))
            exact W.exit (E.thenX (E.KLX (E.blockX (E.blockN (E.joinJ ⟨gb17, rfl, rfl, h⟩ ⟨rfl, rfl, rfl, rfl, rfl, rfl, rfl, rfl, rfl, rfl, trivial⟩ (fun _ hw => hw.sel [1] (by decide) rfl))))))
          ·
           rintro _ _ ⟨gb16, rfl, rfl, h⟩
           rw [m16_quirref_Edges_K6] at h
           rcases gb16 with _ | _
           ·
            replace h := iteF h
            refine W.region (L.m (V := fun x9 => .int .i64 x9) h rfl (Y.addM rfl rfl) (fun x9 ex9 h => ?_))
            refine L.y rfl (Y.move rfl) ?_
            exact L.nil (E.againJ ⟨false, x9, rfl, rfl, by rw [hg3]; exact h⟩ (Nat.lt_succ_self _) ⟨rfl, rfl, rfl, rfl, rfl, rfl, rfl, rfl, rfl, rfl, trivial⟩ (fun _ hw => hw))
           ·
            replace h := iteT h
            refine W.region (L.m (V := fun x10 => .int .i64 x10) h rfl (Y.addM rfl rfl) (fun x10 ex10 h => ?_))
            refine L.y rfl (Y.move rfl) ?_
            exact L.nil (E.againJ ⟨true, x10, rfl, rfl, by rw [hg3]; exact h⟩ (Nat.lt_succ_self _) ⟨rfl, rfl, rfl, rfl, rfl, rfl, rfl, rfl, rfl, rfl, trivial⟩ (fun _ hw => hw))
         ·
          refine L.nil (E.thenN (W.seq (W.condF rfl ?_)))
          exact W.exit (E.thenX (E.KLX (E.blockX (E.joinJ ⟨gb14, rfl, rfl, h⟩ ⟨rfl, rfl, rfl, rfl, rfl, rfl, rfl, trivial⟩ (fun _ hw => hw)))))
        ·
         rintro _ _ ⟨gb13, rfl, rfl, h⟩
         rw [m16_quirref_Edges_K5] at h
         rcases gb13 with _ | _
         ·
          replace h := iteF h
          refine W.seq (W.region (L.y rfl (Y.move rfl) ?_))
          refine L.nil (E.thenN (W.condF rfl ?_))
          exact W.skip (E.blockN (E.joinJ ⟨gv8, gl9, rfl, rfl, h⟩ ⟨rfl, rfl, rfl, rfl, rfl, trivial⟩ (fun _ hw => hw)))
         ·
          replace h := iteT h
          refine W.seq (W.region (L.y rfl (Y.move rfl) ?_))
          refine L.nil (E.thenN (W.condT rfl ?_))
          refine W.region (L.y rfl (Y.move rfl) ?_)
          refine L.y rfl (Y.move rfl) ?_
          refine L.y rfl (Y.move rfl) ?_
          refine L.y rfl (Y.build (cells := #[.int .i64 gx5, .int .i64 gx10]) rfl (by kernel_rfl)) ?_
          refine L.litAgg rfl Try.underlying25 el40 rfl rfl rfl ?_
          intro b5
          refine L.appM (i := 1) (g := TEdge.row) (l := gl9) (more := [(⟨gx5, gx10⟩ : TEdge)]) h rfl Try.underlying25 el40 rfl rfl rfl (fun w hw => As.at_ (hw.get (i := 0) rfl)) (plain_TEdge _) rfl ?_
          intro v6 l7 el7 h
          refine L.y rfl (Y.assign rfl) ?_
          exact L.nil (E.blockN (E.joinJ ⟨v6, l7, rfl, rfl, h⟩ ⟨rfl, rfl, rfl, rfl, rfl, trivial⟩ (fun _ hw => hw.sel [0] (by decide) rfl)))
      ·
       rintro _ _ ⟨gv11, gl12, rfl, rfl, h⟩
       rw [m16_quirref_Edges_K3] at h
       refine W.region (L.m (V := fun x4 => .int .i64 x4) h rfl (Y.addM rfl rfl) (fun x4 ex4 h => ?_))
       refine L.y rfl (Y.move rfl) ?_
       exact L.nil (E.againJ ⟨gv11, gl12, x4, rfl, rfl, by rw [hg2]; exact h⟩ (Nat.lt_succ_self _) ⟨rfl, rfl, rfl, rfl, rfl, trivial⟩ (fun _ hw => hw))
     ·
      refine L.nil (E.thenN (W.seq (W.condF rfl ?_)))
      exact W.exit (E.thenX (E.KLX (E.blockX (E.blockN (E.joinJ ⟨gv8, gl9, rfl, rfl, h⟩ ⟨rfl, rfl, rfl, trivial⟩ (fun _ hw => hw))))))
    ·
     rintro _ _ ⟨gv6, gl7, rfl, rfl, h⟩
     rw [m16_quirref_Edges_K2] at h
     refine W.region (L.m (V := fun x2 => .int .i64 x2) h rfl (Y.addM rfl rfl) (fun x2 ex2 h => ?_))
     refine L.y rfl (Y.move rfl) ?_
     exact L.nil (E.againJ ⟨gv6, gl7, x2, rfl, rfl, by rw [hg1]; exact h⟩ (Nat.lt_succ_self _) ⟨rfl, rfl, rfl, trivial⟩ (fun _ hw => hw))
   ·
    refine L.nil (E.thenN (W.seq (W.condF rfl ?_)))
    exact W.exit (E.thenX (E.KLX (E.blockX (E.joinJ ⟨gv3, gl4, rfl, rfl, h⟩ ⟨rfl, trivial⟩ (fun _ hw => hw)))))
  ·
   rintro _ _ ⟨gv1, gl2, rfl, rfl, h⟩
   rw [m16_quirref_Edges_K1] at h
   refine W.seq (W.region (L.y rfl (Y.move rfl) ?_))
   refine L.y rfl (Y.assign rfl) ?_
   refine L.nil (E.thenN (W.ret (E.ret1 rfl rfl (fun w1 hw => ?_))))
   obtain rfl := Option.some.inj h
   exact ⟨_, _, rfl, ⟨_, rfl, rfl⟩, hw⟩
set_option maxRecDepth 100000 in
set_option maxHeartbeats 8000000 in
theorem w112_quirref_Closure (a0 : Int) (a1 : (List TEdge)) (u1 : Value) (w : World) (r : (List (List Bool))) (h : m112_quirref_Closure a0 a1 = some r) (hA1 : At w u1 2 (a1.map TEdge.row)) : Does Try.prog 112 [.int .i64 a0, u1] w fun u m => ∃ v0 q0, u = v0 ∧ m = [.sl v0 164 1 (zr svRow q0 r), .ss (zs (svSd 4 1 B) q0 r)] := by
  rw [m112_quirref_Closure] at h
  refine body (n := 87) Try.func112 rfl rfl rfl (Cls.refl w) ?_
  refine W.seq (W.region (L.y rfl (Y.assign rfl) ?_))
  refine L.nil (E.thenN (W.seq (W.region (L.y rfl (Y.move rfl) ?_))))
  obtain ⟨l1, el1, h⟩ := bind1S h
  refine L.makeZ (row := svRow) (sds := (svSd 4 1 B)) (nv := [nilV]) (z0 := ([] : (List Bool))) el1 rfl Try.underlying162 el164 ze164 rfl rfl rfl (gall1 rfl rfl gall0) ?_
  intro b2
  refine L.y rfl (Y.assign rfl) ?_
  refine L.nil (E.thenN (W.seqJ (fun gs D => ∃ (gl1 : (List (List Bool))) (gq2 : Nat → List Value), gs = [(0, .int .i64 a0), (1, u1), (5, (sv b2 a0.toNat))] ∧ D = Cls w [] [.sl (sv b2 a0.toNat) 164 1 (zr svRow gq2 gl1), .ss (zs (svSd 4 1 B) gq2 gl1)] ∧ m112_quirref_Closure_K1 a1 a0 gl1 = some r) ?_ ?_))
  ·
   refine W.seq (W.region (L.y rfl (Y.move rfl) ?_))
   refine L.y rfl (Y.lenMZ (row := svRow) (vs := (fun _ => [nilV])) (l := l1) Try.underlying162 rfl (fun w hw => As.at_ (hw.get (i := 0) rfl))) ?_
   refine L.y rfl (Y.move rfl) ?_
   refine L.nil (E.thenN (W.block (W.loopJ (fun m gs D => ∃ (gl15 : (List (List Bool))) (gq16 : Nat → List Value) (gx17 : Int), gs = [(0, .int .i64 a0), (1, u1), (5, (sv b2 a0.toNat)), (15, .int .i64 (l1.length : Int)), (16, .int .i64 gx17)] ∧ D = Cls w [] [.sl (sv b2 a0.toNat) 164 1 (zr svRow gq16 gl15), .ss (zs (svSd 4 1 B) gq16 gl15)] ∧ m112_quirref_Closure_L5 l1 a0 a1 m gl15 gx17 = some r) ⟨l1, (fun _ => [nilV]), 0, rfl, rfl, h⟩ ⟨rfl, rfl, rfl, rfl, rfl, trivial⟩ (fun _ hw => hw) ?_)))
   rintro m _ _ ⟨gl15, gq16, gx17, rfl, rfl, h⟩
   rcases m with _ | m
   · rw [m112_quirref_Closure_L5] at h; cases h
   rw [m112_quirref_Closure_L5] at h
   generalize hg5 : m112_quirref_Closure_L5 l1 a0 a1 m = go5 at h
   rw [m112_quirref_Closure_L5B] at h
   refine W.seq (W.region (L.ite h rfl (Y.lss rfl rfl) (fun c59 h => ?_) (fun c59 h => ?_)))
   ·
    refine L.nil (E.thenN (W.seq (W.condT rfl ?_)))
    refine W.skip (E.thenN (W.seq (W.block (W.seq (W.region (L.y rfl (Y.move rfl) ?_))))))
    refine L.y rfl (Y.assign rfl) ?_
    refine L.nil (E.thenN (W.region (L.y rfl (Y.move rfl) ?_)))
    refine L.y rfl (Y.move rfl) ?_
    refine L.y rfl (Y.move rfl) ?_
    obtain ⟨l60, el60, h⟩ := bind1S h
    refine L.makeE (row := B) (z0 := false) el60 rfl Try.underlying164 el4 ze4 rfl rfl rfl ?_
    intro b61
    refine L.m (V := fun _ => el (sv b2 a0.toNat) (gx17.toNat * 1)) h rfl (Y.indexMZ (row := svRow) (vs := gq16) (l := gl15) Try.underlying162 sz164 rfl rfl (fun w hw => As.at_ (hw.get (i := 1) rfl))) (fun x62 ex62 h => ?_)
    refine L.storeSlZS (row := svRow) (sds := (svSd 4 1 B)) (vs := gq16) (q := 1) (p := 0) (s := 2) (c := 1) (jj := 0) (u1 := l60) (v1 := [(sv b61 a0.toNat)]) (j := 0) h sz164 rfl rfl rfl rfl rfl rfl (.inl rfl) (fun _ _ => rfl) (fun _ _ => rfl) ex62 rfl rfl rfl rfl (by decide) ?_
    intro l63 q64 el63 h
    refine L.nil (E.blockN (E.thenN (W.region (L.m (V := fun x65 => .int .i64 x65) h rfl (Y.addM rfl rfl) (fun x65 ex65 h => ?_)))))
    refine L.y rfl (Y.move rfl) ?_
    exact L.nil (E.againJ ⟨l63, q64, x65, rfl, rfl, by rw [hg5]; exact h⟩ (Nat.lt_succ_self _) ⟨rfl, rfl, rfl, rfl, rfl, trivial⟩ (fun _ hw => hw))
   ·
    refine L.nil (E.thenN (W.seq (W.condF rfl ?_)))
    exact W.exit (E.thenX (E.KLX (E.blockX (E.joinJ ⟨gl15, gq16, rfl, rfl, h⟩ ⟨rfl, rfl, rfl, trivial⟩ (fun _ hw => hw)))))
  ·
   rintro _ _ ⟨gl1, gq2, rfl, rfl, h⟩
   rw [m112_quirref_Closure_K1] at h
   refine W.seqJ (fun gs D => ∃ (gl3 : (List (List Bool))), gs = [(0, .int .i64 a0), (5, (sv b2 a0.toNat))] ∧ D = Cls w [] [.sl (sv b2 a0.toNat) 164 1 (zr svRow gq2 gl3), .ss (zs (svSd 4 1 B) gq2 gl3)] ∧ m112_quirref_Closure_K2 a0 gl3 = some r) ?_ ?_
   ·
    refine W.seq (W.region (L.y rfl (Y.move rfl) ?_))
    refine L.y rfl (Y.lenM (g := TEdge.row) (l := a1) Try.underlying25 rfl (fun w' hw => hA1.cls0 hw)) ?_
    refine L.y rfl (Y.move rfl) ?_
    refine L.nil (E.thenN (W.block (W.loopJ (fun m gs D => ∃ (gl13 : (List (List Bool))) (gx14 : Int), gs = [(0, .int .i64 a0), (5, (sv b2 a0.toNat)), (25, u1), (26, .int .i64 (a1.length : Int)), (27, .int .i64 gx14)] ∧ D = Cls w [] [.sl (sv b2 a0.toNat) 164 1 (zr svRow gq2 gl13), .ss (zs (svSd 4 1 B) gq2 gl13)] ∧ m112_quirref_Closure_L4 a1 a0 m gl13 gx14 = some r) ⟨gl1, 0, rfl, rfl, h⟩ ⟨rfl, rfl, rfl, rfl, rfl, trivial⟩ (fun _ hw => hw) ?_)))
    rintro m _ _ ⟨gl13, gx14, rfl, rfl, h⟩
    rcases m with _ | m
    · rw [m112_quirref_Closure_L4] at h; cases h
    rw [m112_quirref_Closure_L4] at h
    generalize hg4 : m112_quirref_Closure_L4 a1 a0 m = go4 at h
    rw [m112_quirref_Closure_L4B] at h
    refine W.seq (W.region (L.ite h rfl (Y.lss rfl rfl) (fun c43 h => ?_) (fun c43 h => ?_)))
    ·
     refine L.nil (E.thenN (W.seq (W.condT rfl ?_)))
     refine W.skip (E.thenN (W.seq (W.block (W.seq (W.region (L.m (V := fun _ => el u1 (gx14.toNat * 2)) h rfl (Y.indexM (g := TEdge.row) (l := a1) Try.underlying25 sz40 rfl rfl (fun w' hw => hA1.cls0 hw)) (fun x44 ex44 h => ?_)))))))
     refine L.y rfl (Y.loadEN (r := [.int .i64 x44.From, .int .i64 x44.To]) ag40 sz40 rfl (fun w' hw => hA1.cls0 hw) (idx_map ex44) rfl) ?_
     refine L.alloc rfl ze40 ?_
     intro b45
     refine L.store (i := 0) sz40 rfl rfl rfl rfl (by simp [Value.oneCell', Value.cells, st]) rfl (Nat.le_of_ble_eq_true rfl) ?_
     refine L.nil (E.thenN (W.drawn2 (k := 9) (stC [[8]] [Cls w [] [.obj b45 [.int .i64 x44.From, .int .i64 x44.To] 40, .sl (sv b2 a0.toNat) 164 1 (zr svRow gq2 gl13), .ss (zs (svSd 4 1 B) gq2 gl13)]] (Cls w [] [.obj b45 [.int .i64 x44.From, .int .i64 x44.To] 40])) rfl mixed (fun _ hw => hw.drew) (Sc.now (by kernel_rfl) (fun _ hw => hw)) ?_))
     refine V2.y (i := 0) (Nx2.of (Z := Cls w [] [.obj b45 [.int .i64 x44.From, .int .i64 x44.To] 40]) [] (by kernel_rfl) rfl (Zc.on (fun _ hw => hw.sel [0] (by decide) rfl) (Zc.fin (fun _ hw => hw)))) rfl rfl rfl (Y.move rfl) ?_
     refine V2.y (i := 1) (Nx2.of (Z := Cls w [] [.obj b45 [.int .i64 x44.From, .int .i64 x44.To] 40]) [] (by kernel_rfl) rfl (Zc.on (fun _ hw => hw.sel [0] (by decide) rfl) (Zc.fin (fun _ hw => hw)))) rfl rfl rfl (Y.fieldP fd40_0 rfl) ?_
     refine V2.y (i := 2) (Nx2.of (Z := Cls w [] [.obj b45 [.int .i64 x44.From, .int .i64 x44.To] 40]) [] (by kernel_rfl) rfl (Zc.on (fun _ hw => hw.sel [0] (by decide) rfl) (Zc.fin (fun _ hw => hw)))) rfl rfl rfl (Y.loadP (i := 0) ag3 rfl rfl rfl) ?_
     refine V2.m (i := 3) (V' := fun _ => el (sv b2 a0.toNat) (x44.From.toNat * 1)) h (Nx2.of (Z := Cls w [] [.obj b45 [.int .i64 x44.From, .int .i64 x44.To] 40, .sl (sv b2 a0.toNat) 164 1 (zr svRow gq2 gl13), .ss (zs (svSd 4 1 B) gq2 gl13)]) [8] (by kernel_rfl) rfl (Zc.at1 (fun _ hw => hw))) rfl rfl rfl (Y.indexMZ (row := svRow) (vs := gq2) (l := gl13) Try.underlying162 sz164 rfl rfl (fun w hw => As.at_ (hw.get (i := 1) rfl))) (fun x54 ex54 h => ?_)
     refine V2.y (i := 4) (Nx2.of (Z := Cls w [] [.obj b45 [.int .i64 x44.From, .int .i64 x44.To] 40, .sl (sv b2 a0.toNat) 164 1 (zr svRow gq2 gl13), .ss (zs (svSd 4 1 B) gq2 gl13)]) [8] (by kernel_rfl) rfl (Zc.at1 (fun _ hw => hw))) rfl rfl rfl (Y.loadE1 (u := gv (gq2 x44.From.toNat) 0) ag164 rfl (fun w hw => As.at_ (hw.get (i := 1) rfl)) (zr_idx (vs := gq2) ex54)) ?_
     refine V2.y (i := 5) (Nx2.of (Z := Cls w [] [.obj b45 [.int .i64 x44.From, .int .i64 x44.To] 40]) [] (by kernel_rfl) rfl (Zc.on (fun _ hw => hw.sel [0] (by decide) rfl) (Zc.fin (fun _ hw => hw)))) rfl rfl rfl (Y.fieldP fd40_1 rfl) ?_
     refine V2.y (i := 6) (Nx2.of (Z := Cls w [] [.obj b45 [.int .i64 x44.From, .int .i64 x44.To] 40]) [] (by kernel_rfl) rfl (Zc.on (fun _ hw => hw.sel [0] (by decide) rfl) (Zc.fin (fun _ hw => hw)))) rfl rfl rfl (Y.loadP (i := 0) ag3 rfl rfl rfl) ?_
     refine V2.m (i := 7) (V' := fun _ => el (gv (gq2 x44.From.toNat) 0) (x44.To.toNat * 1)) h (Nx2.of (Z := Cls w [] [.obj b45 [.int .i64 x44.From, .int .i64 x44.To] 40, .sl (sv b2 a0.toNat) 164 1 (zr svRow gq2 gl13), .ss (zs (svSd 4 1 B) gq2 gl13)]) [8] (by kernel_rfl) rfl (Zc.at1 (fun _ hw => hw))) rfl rfl rfl (Y.indexM (g := B) (l := x54) Try.underlying164 sz4 rfl rfl (fun w hw => As.atZ (sds := (svSd 4 1 B)) (vs := gq2) (j := 0) (hw.get (i := 2) rfl) (fun _ _ => rfl) ex54 rfl)) (fun x55 ex55 h => ?_)
     refine V2.eff (i := 8) (by kernel_rfl) rfl ?_
     refine L.ssOut (sds := (svSd 4 1 B)) (vs := gq2) (s := 2) (j := 0) (c := 1) rfl (fun _ _ => rfl) ex54 rfl ?_
     refine L.storeSlM (q := 0) (row := B) (vs := [.bool true]) (j := 0) (u1 := true) h sz4 rfl rfl rfl rfl rfl (all1 rfl all0) rfl ex55 rfl rfl ?_
     intro l56 el56 h
     refine L.ssBack (row := svRow) (sds := (svSd 4 1 B)) (vs := gq2) (p := 0) (s := 3) (q := 2) (c := 1) (jj := 0) (u1 := l56) (fun z => .sl (sv b2 a0.toNat) 164 1 z) h rfl rfl rfl (fun _ _ => rfl) ex54 rfl rfl rfl ?_
     intro l57 el57 h
     refine L.nil (E.toV2 (stC [] [] (Cls w [] [.obj b45 [.int .i64 x44.From, .int .i64 x44.To] 40])) 8 (by kernel_rfl) (Sc.past rfl (Sc.stayD (fun _ hw => hw))) (Sc.atD (fun _ hw => hw.sel [0] (by decide) rfl)) ?_)
     refine V2.done (by kernel_rfl) ?_
     refine E.blockN (E.thenN (W.region (L.m (V := fun x58 => .int .i64 x58) h rfl (Y.addM rfl rfl) (fun x58 ex58 h => ?_))))
     refine L.y rfl (Y.move rfl) ?_
     exact L.nil (E.againJ ⟨l57, x58, rfl, rfl, by rw [hg4]; exact h⟩ (Nat.lt_succ_self _) ⟨rfl, rfl, rfl, rfl, rfl, trivial⟩ (fun _ hw => hw.sel [1, 2] (by decide) rfl))
    ·
     refine L.nil (E.thenN (W.seq (W.condF rfl ?_)))
     exact W.exit (E.thenX (E.KLX (E.blockX (E.joinJ ⟨gl13, rfl, rfl, h⟩ ⟨rfl, rfl, trivial⟩ (fun _ hw => hw)))))
   ·
    rintro _ _ ⟨gl3, rfl, rfl, h⟩
    rw [m112_quirref_Closure_K2] at h
    refine W.seqJ (fun gs D => ∃ (gl4 : (List (List Bool))), gs = [(5, (sv b2 a0.toNat))] ∧ D = Cls w [] [.sl (sv b2 a0.toNat) 164 1 (zr svRow gq2 gl4), .ss (zs (svSd 4 1 B) gq2 gl4)] ∧ m112_quirref_Closure_K3 gl4 = some r) ?_ ?_
    ·
     refine W.seq (W.region (L.y rfl (Y.move rfl) ?_))
     refine L.y rfl (Y.move rfl) ?_
     refine L.nil (E.thenN (W.block (W.loopJ (fun m gs D => ∃ (gl5 : (List (List Bool))) (gx6 : Int), gs = [(0, .int .i64 a0), (5, (sv b2 a0.toNat)), (40, .int .i64 a0), (41, .int .i64 gx6)] ∧ D = Cls w [] [.sl (sv b2 a0.toNat) 164 1 (zr svRow gq2 gl5), .ss (zs (svSd 4 1 B) gq2 gl5)] ∧ m112_quirref_Closure_L1 a0 m gl5 gx6 = some r) ⟨gl3, 0, rfl, rfl, h⟩ ⟨rfl, rfl, rfl, rfl, trivial⟩ (fun _ hw => hw) ?_)))
     rintro m _ _ ⟨gl5, gx6, rfl, rfl, h⟩
     rcases m with _ | m
     · rw [m112_quirref_Closure_L1] at h; cases h
     rw [m112_quirref_Closure_L1] at h
     generalize hg1 : m112_quirref_Closure_L1 a0 m = go1 at h
     rw [m112_quirref_Closure_L1B] at h
     refine W.seq (W.region (L.ite h rfl (Y.lss rfl rfl) (fun c3 h => ?_) (fun c3 h => ?_)))
     ·
      refine L.nil (E.thenN (W.seq (W.condT rfl ?_)))
      refine W.skip (E.thenN (W.seqJ (fun gs D => ∃ (gl7 : (List (List Bool))), gs = [(0, .int .i64 a0), (5, (sv b2 a0.toNat)), (40, .int .i64 a0), (41, .int .i64 gx6)] ∧ D = Cls w [] [.sl (sv b2 a0.toNat) 164 1 (zr svRow gq2 gl7), .ss (zs (svSd 4 1 B) gq2 gl7)] ∧ m112_quirref_Closure_K4 gx6 go1 gl7 = some r) ?_ ?_))
      ·
       refine W.block (W.seq (W.region (L.y rfl (Y.move rfl) ?_)))
       refine L.y rfl (Y.assign rfl) ?_
       refine L.nil (E.thenN (W.seq (W.region (L.y rfl (Y.move rfl) ?_))))
       refine L.y rfl (Y.move rfl) ?_
       refine L.nil (E.thenN (W.block (W.loopJ (fun m gs D => ∃ (gl8 : (List (List Bool))) (gx9 : Int), gs = [(0, .int .i64 a0), (5, (sv b2 a0.toNat)), (9, .int .i64 gx6), (40, .int .i64 a0), (41, .int .i64 gx6), (44, .int .i64 a0), (45, .int .i64 gx9)] ∧ D = Cls w [] [.sl (sv b2 a0.toNat) 164 1 (zr svRow gq2 gl8), .ss (zs (svSd 4 1 B) gq2 gl8)] ∧ m112_quirref_Closure_L2 a0 gx6 go1 m gl8 gx9 = some r) ⟨gl5, 0, rfl, rfl, h⟩ ⟨rfl, rfl, rfl, rfl, rfl, rfl, rfl, trivial⟩ (fun _ hw => hw) ?_)))
       rintro m _ _ ⟨gl8, gx9, rfl, rfl, h⟩
       rcases m with _ | m
       · rw [m112_quirref_Closure_L2] at h; cases h
       rw [m112_quirref_Closure_L2] at h
       generalize hg2 : m112_quirref_Closure_L2 a0 gx6 go1 m = go2 at h
       rw [m112_quirref_Closure_L2B] at h
       refine W.seq (W.region (L.ite h rfl (Y.lss rfl rfl) (fun c5 h => ?_) (fun c5 h => ?_)))
       ·
        refine L.nil (E.thenN (W.seq (W.condT rfl ?_)))
        refine W.skip (E.thenN (W.seqJ (fun gs D => ∃ (gl10 : (List (List Bool))), gs = [(0, .int .i64 a0), (5, (sv b2 a0.toNat)), (9, .int .i64 gx6), (40, .int .i64 a0), (41, .int .i64 gx6), (44, .int .i64 a0), (45, .int .i64 gx9)] ∧ D = Cls w [] [.sl (sv b2 a0.toNat) 164 1 (zr svRow gq2 gl10), .ss (zs (svSd 4 1 B) gq2 gl10)] ∧ m112_quirref_Closure_K5 gx9 go2 gl10 = some r) ?_ ?_))
        ·
         refine W.block (W.seq (W.region (L.y rfl (Y.move rfl) ?_)))
         refine L.y rfl (Y.assign rfl) ?_
         refine L.nil (E.thenN (W.seq (W.region (L.y rfl (Y.move rfl) ?_))))
         refine L.y rfl (Y.move rfl) ?_
         refine L.nil (E.thenN (W.block (W.loopJ (fun m gs D => ∃ (gl11 : (List (List Bool))) (gx12 : Int), gs = [(0, .int .i64 a0), (5, (sv b2 a0.toNat)), (9, .int .i64 gx6), (10, .int .i64 gx9), (40, .int .i64 a0), (41, .int .i64 gx6), (44, .int .i64 a0), (45, .int .i64 gx9), (48, .int .i64 a0), (49, .int .i64 gx12)] ∧ D = Cls w [] [.sl (sv b2 a0.toNat) 164 1 (zr svRow gq2 gl11), .ss (zs (svSd 4 1 B) gq2 gl11)] ∧ m112_quirref_Closure_L3 a0 gx9 gx6 go2 m gl11 gx12 = some r) ⟨gl8, 0, rfl, rfl, h⟩ ⟨rfl, rfl, rfl, rfl, rfl, rfl, rfl, rfl, rfl, rfl, trivial⟩ (fun _ hw => hw) ?_)))
         rintro m _ _ ⟨gl11, gx12, rfl, rfl, h⟩
         rcases m with _ | m
         · rw [m112_quirref_Closure_L3] at h; cases h
         rw [m112_quirref_Closure_L3] at h
         generalize hg3 : m112_quirref_Closure_L3 a0 gx9 gx6 go2 m = go3 at h
         rw [m112_quirref_Closure_L3B] at h
         refine W.seq (W.region (L.ite h rfl (Y.lss rfl rfl) (fun c7 h => ?_) (fun c7 h => ?_)))
         ·
          refine L.nil (E.thenN (W.seq (W.condT rfl ?_)))
          refine W.skip (E.thenN (W.seq (W.block (W.seq (W.region (L.y rfl (Y.move rfl) ?_))))))
          refine L.y rfl (Y.assign rfl) ?_
          refine L.nil (E.thenN (W.drawn2 (k := 32) (stC [[31]] [Cls w [] [.sl (sv b2 a0.toNat) 164 1 (zr svRow gq2 gl11), .ss (zs (svSd 4 1 B) gq2 gl11)]] (Cls w [] [])) rfl mixed (fun _ hw => hw.drew) (Sc.now (by kernel_rfl) (fun _ hw => hw)) ?_))
          refine V2.y (i := 0) (Nx2.of (Z := Cls w [] []) [] (by kernel_rfl) rfl (Zc.on (fun _ hw => hw.sel [] (by decide) rfl) (Zc.fin (fun _ hw => hw)))) rfl rfl rfl (Y.move rfl) ?_
          refine V2.y (i := 1) (Nx2.of (Z := Cls w [] []) [] (by kernel_rfl) rfl (Zc.on (fun _ hw => hw.sel [] (by decide) rfl) (Zc.fin (fun _ hw => hw)))) rfl rfl rfl (Y.move rfl) ?_
          refine V2.m (i := 2) (V' := fun _ => el (sv b2 a0.toNat) (gx9.toNat * 1)) h (Nx2.of (Z := Cls w [] [.sl (sv b2 a0.toNat) 164 1 (zr svRow gq2 gl11), .ss (zs (svSd 4 1 B) gq2 gl11)]) [31] (by kernel_rfl) rfl (Zc.at1 (fun _ hw => hw))) rfl rfl rfl (Y.indexMZ (row := svRow) (vs := gq2) (l := gl11) Try.underlying162 sz164 rfl rfl (fun w hw => As.at_ (hw.get (i := 0) rfl))) (fun x22 ex22 h => ?_)
          refine V2.y (i := 3) (Nx2.of (Z := Cls w [] [.sl (sv b2 a0.toNat) 164 1 (zr svRow gq2 gl11), .ss (zs (svSd 4 1 B) gq2 gl11)]) [31] (by kernel_rfl) rfl (Zc.at1 (fun _ hw => hw))) rfl rfl rfl (Y.loadE1 (u := gv (gq2 gx9.toNat) 0) ag164 rfl (fun w hw => As.at_ (hw.get (i := 0) rfl)) (zr_idx (vs := gq2) ex22)) ?_
          refine V2.y (i := 4) (Nx2.of (Z := Cls w [] []) [] (by kernel_rfl) rfl (Zc.on (fun _ hw => hw.sel [] (by decide) rfl) (Zc.fin (fun _ hw => hw)))) rfl rfl rfl (Y.move rfl) ?_
          refine V2.y (i := 5) (Nx2.of (Z := Cls w [] []) [] (by kernel_rfl) rfl (Zc.on (fun _ hw => hw.sel [] (by decide) rfl) (Zc.fin (fun _ hw => hw)))) rfl rfl rfl (Y.move rfl) ?_
          refine V2.y (i := 6) (Nx2.of (Z := Cls w [] []) [] (by kernel_rfl) rfl (Zc.on (fun _ hw => hw.sel [] (by decide) rfl) (Zc.fin (fun _ hw => hw)))) rfl rfl rfl (Y.move rfl) ?_
          refine V2.m (i := 7) (V' := fun _ => el (sv b2 a0.toNat) (gx9.toNat * 1)) h (Nx2.of (Z := Cls w [] [.sl (sv b2 a0.toNat) 164 1 (zr svRow gq2 gl11), .ss (zs (svSd 4 1 B) gq2 gl11)]) [31] (by kernel_rfl) rfl (Zc.at1 (fun _ hw => hw))) rfl rfl rfl (Y.indexMZ (row := svRow) (vs := gq2) (l := gl11) Try.underlying162 sz164 rfl rfl (fun w hw => As.at_ (hw.get (i := 0) rfl))) (fun x23 ex23 h => ?_)
          refine V2.y (i := 8) (Nx2.of (Z := Cls w [] [.sl (sv b2 a0.toNat) 164 1 (zr svRow gq2 gl11), .ss (zs (svSd 4 1 B) gq2 gl11)]) [31] (by kernel_rfl) rfl (Zc.at1 (fun _ hw => hw))) rfl rfl rfl (Y.loadE1 (u := gv (gq2 gx9.toNat) 0) ag164 rfl (fun w hw => As.at_ (hw.get (i := 0) rfl)) (zr_idx (vs := gq2) ex23)) ?_
          refine V2.y (i := 9) (Nx2.of (Z := Cls w [] []) [] (by kernel_rfl) rfl (Zc.on (fun _ hw => hw.sel [] (by decide) rfl) (Zc.fin (fun _ hw => hw)))) rfl rfl rfl (Y.move rfl) ?_
          refine V2.m (i := 10) (V' := fun _ => el (gv (gq2 gx9.toNat) 0) (gx12.toNat * 1)) h (Nx2.of (Z := Cls w [] [.sl (sv b2 a0.toNat) 164 1 (zr svRow gq2 gl11), .ss (zs (svSd 4 1 B) gq2 gl11)]) [31] (by kernel_rfl) rfl (Zc.at1 (fun _ hw => hw))) rfl rfl rfl (Y.indexM (g := B) (l := x23) Try.underlying164 sz4 rfl rfl (fun w hw => As.atZ (sds := (svSd 4 1 B)) (vs := gq2) (j := 0) (hw.get (i := 1) rfl) (fun _ _ => rfl) ex23 rfl)) (fun x24 ex24 h => ?_)
          refine V2.iteB (i := 11) h (Nx2.of (Z := Cls w [] [.sl (sv b2 a0.toNat) 164 1 (zr svRow gq2 gl11), .ss (zs (svSd 4 1 B) gq2 gl11)]) [31] (by kernel_rfl) rfl (Zc.at1 (fun _ hw => hw))) rfl rfl rfl (Y.loadE1 (u := .bool x24) ag4 rfl (fun w hw => As.atZ (sds := (svSd 4 1 B)) (vs := gq2) (j := 0) (hw.get (i := 1) rfl) (fun _ _ => rfl) ex23 rfl) (idx_map ex24)) (fun c25 h => ?_) (fun c25 h => ?_)
          ·
           refine V2.y (i := 12) (Nx2.of (Z := Cls w [] []) [] (by kernel_rfl) rfl (Zc.on (fun _ hw => hw.sel [] (by decide) rfl) (Zc.fin (fun _ hw => hw)))) rfl rfl rfl (Y.move rfl) ?_
           refine V2.pass (i := 13) (Nx2.of (Z := Cls w [] []) [] (by kernel_rfl) rfl (Zc.on (fun _ hw => hw.sel [] (by decide) rfl) (Zc.fin (fun _ hw => hw)))) rfl rfl ?_
           refine V2.pass (i := 14) (Nx2.of (Z := Cls w [] []) [] (by kernel_rfl) rfl (Zc.on (fun _ hw => hw.sel [] (by decide) rfl) (Zc.fin (fun _ hw => hw)))) rfl rfl ?_
           refine V2.pass (i := 15) (Nx2.of (Z := Cls w [] []) [] (by kernel_rfl) rfl (Zc.on (fun _ hw => hw.sel [] (by decide) rfl) (Zc.fin (fun _ hw => hw)))) rfl rfl ?_
           refine V2.pass (i := 16) (Nx2.of (Z := Cls w [] []) [] (by kernel_rfl) rfl (Zc.on (fun _ hw => hw.sel [] (by decide) rfl) (Zc.fin (fun _ hw => hw)))) rfl rfl ?_
           refine V2.pass (i := 17) (Nx2.of (Z := Cls w [] []) [] (by kernel_rfl) rfl (Zc.on (fun _ hw => hw.sel [] (by decide) rfl) (Zc.fin (fun _ hw => hw)))) rfl rfl ?_
           refine V2.pass (i := 18) (Nx2.of (Z := Cls w [] []) [] (by kernel_rfl) rfl (Zc.on (fun _ hw => hw.sel [] (by decide) rfl) (Zc.fin (fun _ hw => hw)))) rfl rfl ?_
           refine V2.pass (i := 19) (Nx2.of (Z := Cls w [] []) [] (by kernel_rfl) rfl (Zc.on (fun _ hw => hw.sel [] (by decide) rfl) (Zc.fin (fun _ hw => hw)))) rfl rfl ?_
           refine V2.pass (i := 20) (Nx2.of (Z := Cls w [] []) [] (by kernel_rfl) rfl (Zc.on (fun _ hw => hw.sel [] (by decide) rfl) (Zc.fin (fun _ hw => hw)))) rfl rfl ?_
           refine V2.pass (i := 21) (Nx2.of (Z := Cls w [] []) [] (by kernel_rfl) rfl (Zc.on (fun _ hw => hw.sel [] (by decide) rfl) (Zc.fin (fun _ hw => hw)))) rfl rfl ?_
           refine V2.pass (i := 22) (Nx2.of (Z := Cls w [] []) [] (by kernel_rfl) rfl (Zc.on (fun _ hw => hw.sel [] (by decide) rfl) (Zc.fin (fun _ hw => hw)))) rfl rfl ?_
           refine V2.pass (i := 23) (Nx2.of (Z := Cls w [] []) [] (by kernel_rfl) rfl (Zc.on (fun _ hw => hw.sel [] (by decide) rfl) (Zc.fin (fun _ hw => hw)))) rfl rfl ?_
           refine V2.pass (i := 24) (Nx2.of (Z := Cls w [] []) [] (by kernel_rfl) rfl (Zc.on (fun _ hw => hw.sel [] (by decide) rfl) (Zc.fin (fun _ hw => hw)))) rfl rfl ?_
           refine V2.pass (i := 25) (Nx2.of (Z := Cls w [] []) [] (by kernel_rfl) rfl (Zc.on (fun _ hw => hw.sel [] (by decide) rfl) (Zc.fin (fun _ hw => hw)))) rfl rfl ?_
           refine V2.pass (i := 26) (Nx2.of (Z := Cls w [] []) [] (by kernel_rfl) rfl (Zc.on (fun _ hw => hw.sel [] (by decide) rfl) (Zc.fin (fun _ hw => hw)))) rfl rfl ?_
           refine V2.pass (i := 27) (Nx2.of (Z := Cls w [] []) [] (by kernel_rfl) rfl (Zc.on (fun _ hw => hw.sel [] (by decide) rfl) (Zc.fin (fun _ hw => hw)))) rfl rfl ?_
           refine V2.pass (i := 28) (Nx2.of (Z := Cls w [] []) [] (by kernel_rfl) rfl (Zc.on (fun _ hw => hw.sel [] (by decide) rfl) (Zc.fin (fun _ hw => hw)))) rfl rfl ?_
           refine V2.y (i := 29) (Nx2.of (Z := Cls w [] []) [] (by kernel_rfl) rfl (Zc.on (fun _ hw => hw.sel [] (by decide) rfl) (Zc.fin (fun _ hw => hw)))) rfl rfl rfl (Y.pickT rfl rfl) ?_
           refine V2.m (i := 30) (V' := fun _ => el (gv (gq2 gx9.toNat) 0) (gx12.toNat * 1)) h (Nx2.of (Z := Cls w [] [.sl (sv b2 a0.toNat) 164 1 (zr svRow gq2 gl11), .ss (zs (svSd 4 1 B) gq2 gl11)]) [31] (by kernel_rfl) rfl (Zc.at1 (fun _ hw => hw))) rfl rfl rfl (Y.indexM (g := B) (l := x22) Try.underlying164 sz4 rfl rfl (fun w hw => As.atZ (sds := (svSd 4 1 B)) (vs := gq2) (j := 0) (hw.get (i := 1) rfl) (fun _ _ => rfl) ex22 rfl)) (fun x26 ex26 h => ?_)
           refine V2.eff (i := 31) (by kernel_rfl) rfl ?_
           refine L.ssOut (sds := (svSd 4 1 B)) (vs := gq2) (s := 1) (j := 0) (c := 1) rfl (fun _ _ => rfl) ex22 rfl ?_
           refine L.storeSlM (q := 0) (row := B) (vs := [.bool true]) (j := 0) (u1 := true) h sz4 rfl rfl rfl rfl rfl (all1 rfl all0) rfl ex26 rfl rfl ?_
           intro l27 el27 h
           refine L.ssBack (row := svRow) (sds := (svSd 4 1 B)) (vs := gq2) (p := 0) (s := 2) (q := 1) (c := 1) (jj := 0) (u1 := l27) (fun z => .sl (sv b2 a0.toNat) 164 1 z) h rfl rfl rfl (fun _ _ => rfl) ex22 rfl rfl rfl ?_
           intro l28 el28 h
           refine L.nil (E.toV2 (stC [] [] (Cls w [] [])) 31 (by kernel_rfl) (Sc.past rfl (Sc.stayD (fun _ hw => hw))) (Sc.atD (fun _ hw => hw.sel [] (by decide) rfl)) ?_)
           refine V2.done (by kernel_rfl) ?_
           refine E.blockN (E.thenN (W.region (L.m (V := fun x29 => .int .i64 x29) h rfl (Y.addM rfl rfl) (fun x29 ex29 h => ?_))))
           refine L.y rfl (Y.move rfl) ?_
           exact L.nil (E.againJ ⟨l28, x29, rfl, rfl, by rw [hg3]; exact h⟩ (Nat.lt_succ_self _) ⟨rfl, rfl, rfl, rfl, rfl, rfl, rfl, rfl, rfl, rfl, trivial⟩ (fun _ hw => hw))
          ·
           refine V2.y (i := 12) (Nx2.of (Z := Cls w [] []) [] (by kernel_rfl) rfl (Zc.on (fun _ hw => hw.sel [] (by decide) rfl) (Zc.fin (fun _ hw => hw)))) rfl rfl rfl (Y.move rfl) ?_
           refine V2.y (i := 13) (Nx2.of (Z := Cls w [] []) [] (by kernel_rfl) rfl (Zc.on (fun _ hw => hw.sel [] (by decide) rfl) (Zc.fin (fun _ hw => hw)))) rfl rfl rfl (Y.move rfl) ?_
           refine V2.y (i := 14) (Nx2.of (Z := Cls w [] []) [] (by kernel_rfl) rfl (Zc.on (fun _ hw => hw.sel [] (by decide) rfl) (Zc.fin (fun _ hw => hw)))) rfl rfl rfl (Y.move rfl) ?_
           refine V2.m (i := 15) (V' := fun _ => el (sv b2 a0.toNat) (gx9.toNat * 1)) h (Nx2.of (Z := Cls w [] [.sl (sv b2 a0.toNat) 164 1 (zr svRow gq2 gl11), .ss (zs (svSd 4 1 B) gq2 gl11)]) [31] (by kernel_rfl) rfl (Zc.at1 (fun _ hw => hw))) rfl rfl rfl (Y.indexMZ (row := svRow) (vs := gq2) (l := gl11) Try.underlying162 sz164 rfl rfl (fun w hw => As.at_ (hw.get (i := 0) rfl))) (fun x30 ex30 h => ?_)
           refine V2.y (i := 16) (Nx2.of (Z := Cls w [] [.sl (sv b2 a0.toNat) 164 1 (zr svRow gq2 gl11), .ss (zs (svSd 4 1 B) gq2 gl11)]) [31] (by kernel_rfl) rfl (Zc.at1 (fun _ hw => hw))) rfl rfl rfl (Y.loadE1 (u := gv (gq2 gx9.toNat) 0) ag164 rfl (fun w hw => As.at_ (hw.get (i := 0) rfl)) (zr_idx (vs := gq2) ex30)) ?_
           refine V2.y (i := 17) (Nx2.of (Z := Cls w [] []) [] (by kernel_rfl) rfl (Zc.on (fun _ hw => hw.sel [] (by decide) rfl) (Zc.fin (fun _ hw => hw)))) rfl rfl rfl (Y.move rfl) ?_
           refine V2.m (i := 18) (V' := fun _ => el (gv (gq2 gx9.toNat) 0) (gx6.toNat * 1)) h (Nx2.of (Z := Cls w [] [.sl (sv b2 a0.toNat) 164 1 (zr svRow gq2 gl11), .ss (zs (svSd 4 1 B) gq2 gl11)]) [31] (by kernel_rfl) rfl (Zc.at1 (fun _ hw => hw))) rfl rfl rfl (Y.indexM (g := B) (l := x30) Try.underlying164 sz4 rfl rfl (fun w hw => As.atZ (sds := (svSd 4 1 B)) (vs := gq2) (j := 0) (hw.get (i := 1) rfl) (fun _ _ => rfl) ex30 rfl)) (fun x31 ex31 h => ?_)
           refine V2.iteB (i := 19) h (Nx2.of (Z := Cls w [] [.sl (sv b2 a0.toNat) 164 1 (zr svRow gq2 gl11), .ss (zs (svSd 4 1 B) gq2 gl11)]) [31] (by kernel_rfl) rfl (Zc.at1 (fun _ hw => hw))) rfl rfl rfl (Y.loadE1 (u := .bool x31) ag4 rfl (fun w hw => As.atZ (sds := (svSd 4 1 B)) (vs := gq2) (j := 0) (hw.get (i := 1) rfl) (fun _ _ => rfl) ex30 rfl) (idx_map ex31)) (fun c32 h => ?_) (fun c32 h => ?_)
           ·
            refine V2.y (i := 20) (Nx2.of (Z := Cls w [] []) [] (by kernel_rfl) rfl (Zc.on (fun _ hw => hw.sel [] (by decide) rfl) (Zc.fin (fun _ hw => hw)))) rfl rfl rfl (Y.move rfl) ?_
            refine V2.y (i := 21) (Nx2.of (Z := Cls w [] []) [] (by kernel_rfl) rfl (Zc.on (fun _ hw => hw.sel [] (by decide) rfl) (Zc.fin (fun _ hw => hw)))) rfl rfl rfl (Y.move rfl) ?_
            refine V2.y (i := 22) (Nx2.of (Z := Cls w [] []) [] (by kernel_rfl) rfl (Zc.on (fun _ hw => hw.sel [] (by decide) rfl) (Zc.fin (fun _ hw => hw)))) rfl rfl rfl (Y.move rfl) ?_
            refine V2.m (i := 23) (V' := fun _ => el (sv b2 a0.toNat) (gx6.toNat * 1)) h (Nx2.of (Z := Cls w [] [.sl (sv b2 a0.toNat) 164 1 (zr svRow gq2 gl11), .ss (zs (svSd 4 1 B) gq2 gl11)]) [31] (by kernel_rfl) rfl (Zc.at1 (fun _ hw => hw))) rfl rfl rfl (Y.indexMZ (row := svRow) (vs := gq2) (l := gl11) Try.underlying162 sz164 rfl rfl (fun w hw => As.at_ (hw.get (i := 0) rfl))) (fun x33 ex33 h => ?_)
            refine V2.y (i := 24) (Nx2.of (Z := Cls w [] [.sl (sv b2 a0.toNat) 164 1 (zr svRow gq2 gl11), .ss (zs (svSd 4 1 B) gq2 gl11)]) [31] (by kernel_rfl) rfl (Zc.at1 (fun _ hw => hw))) rfl rfl rfl (Y.loadE1 (u := gv (gq2 gx6.toNat) 0) ag164 rfl (fun w hw => As.at_ (hw.get (i := 0) rfl)) (zr_idx (vs := gq2) ex33)) ?_
            refine V2.y (i := 25) (Nx2.of (Z := Cls w [] []) [] (by kernel_rfl) rfl (Zc.on (fun _ hw => hw.sel [] (by decide) rfl) (Zc.fin (fun _ hw => hw)))) rfl rfl rfl (Y.move rfl) ?_
            refine V2.m (i := 26) (V' := fun _ => el (gv (gq2 gx6.toNat) 0) (gx12.toNat * 1)) h (Nx2.of (Z := Cls w [] [.sl (sv b2 a0.toNat) 164 1 (zr svRow gq2 gl11), .ss (zs (svSd 4 1 B) gq2 gl11)]) [31] (by kernel_rfl) rfl (Zc.at1 (fun _ hw => hw))) rfl rfl rfl (Y.indexM (g := B) (l := x33) Try.underlying164 sz4 rfl rfl (fun w hw => As.atZ (sds := (svSd 4 1 B)) (vs := gq2) (j := 0) (hw.get (i := 1) rfl) (fun _ _ => rfl) ex33 rfl)) (fun x34 ex34 h => ?_)
            refine V2.y (i := 27) (Nx2.of (Z := Cls w [] [.sl (sv b2 a0.toNat) 164 1 (zr svRow gq2 gl11), .ss (zs (svSd 4 1 B) gq2 gl11)]) [31] (by kernel_rfl) rfl (Zc.at1 (fun _ hw => hw))) rfl rfl rfl (Y.loadE1 (u := .bool x34) ag4 rfl (fun w hw => As.atZ (sds := (svSd 4 1 B)) (vs := gq2) (j := 0) (hw.get (i := 1) rfl) (fun _ _ => rfl) ex33 rfl) (idx_map ex34)) ?_
            refine V2.y (i := 28) (Nx2.of (Z := Cls w [] []) [] (by kernel_rfl) rfl (Zc.on (fun _ hw => hw.sel [] (by decide) rfl) (Zc.fin (fun _ hw => hw)))) rfl rfl rfl (Y.pickT rfl rfl) ?_
            refine V2.y (i := 29) (Nx2.of (Z := Cls w [] []) [] (by kernel_rfl) rfl (Zc.on (fun _ hw => hw.sel [] (by decide) rfl) (Zc.fin (fun _ hw => hw)))) rfl rfl rfl (Y.pickF rfl rfl) ?_
            refine V2.m (i := 30) (V' := fun _ => el (gv (gq2 gx9.toNat) 0) (gx12.toNat * 1)) h (Nx2.of (Z := Cls w [] [.sl (sv b2 a0.toNat) 164 1 (zr svRow gq2 gl11), .ss (zs (svSd 4 1 B) gq2 gl11)]) [31] (by kernel_rfl) rfl (Zc.at1 (fun _ hw => hw))) rfl rfl rfl (Y.indexM (g := B) (l := x22) Try.underlying164 sz4 rfl rfl (fun w hw => As.atZ (sds := (svSd 4 1 B)) (vs := gq2) (j := 0) (hw.get (i := 1) rfl) (fun _ _ => rfl) ex22 rfl)) (fun x35 ex35 h => ?_)
            refine V2.eff (i := 31) (by kernel_rfl) rfl ?_
            refine L.ssOut (sds := (svSd 4 1 B)) (vs := gq2) (s := 1) (j := 0) (c := 1) rfl (fun _ _ => rfl) ex22 rfl ?_
            refine L.storeSlM (q := 0) (row := B) (vs := [.bool x34]) (j := 0) (u1 := x34) h sz4 rfl rfl rfl rfl rfl (all1 rfl all0) rfl ex35 rfl rfl ?_
            intro l36 el36 h
            refine L.ssBack (row := svRow) (sds := (svSd 4 1 B)) (vs := gq2) (p := 0) (s := 2) (q := 1) (c := 1) (jj := 0) (u1 := l36) (fun z => .sl (sv b2 a0.toNat) 164 1 z) h rfl rfl rfl (fun _ _ => rfl) ex22 rfl rfl rfl ?_
            intro l37 el37 h
            refine L.nil (E.toV2 (stC [] [] (Cls w [] [])) 31 (by kernel_rfl) (Sc.past rfl (Sc.stayD (fun _ hw => hw))) (Sc.atD (fun _ hw => hw.sel [] (by decide) rfl)) ?_)
            refine V2.done (by kernel_rfl) ?_
            refine E.blockN (E.thenN (W.region (L.m (V := fun x38 => .int .i64 x38) h rfl (Y.addM rfl rfl) (fun x38 ex38 h => ?_))))
            refine L.y rfl (Y.move rfl) ?_
            exact L.nil (E.againJ ⟨l37, x38, rfl, rfl, by rw [hg3]; exact h⟩ (Nat.lt_succ_self _) ⟨rfl, rfl, rfl, rfl, rfl, rfl, rfl, rfl, rfl, rfl, trivial⟩ (fun _ hw => hw))
           ·
            refine V2.y (i := 20) (Nx2.of (Z := Cls w [] []) [] (by kernel_rfl) rfl (Zc.on (fun _ hw => hw.sel [] (by decide) rfl) (Zc.fin (fun _ hw => hw)))) rfl rfl rfl (Y.move rfl) ?_
            refine V2.pass (i := 21) (Nx2.of (Z := Cls w [] []) [] (by kernel_rfl) rfl (Zc.on (fun _ hw => hw.sel [] (by decide) rfl) (Zc.fin (fun _ hw => hw)))) rfl rfl ?_
            refine V2.pass (i := 22) (Nx2.of (Z := Cls w [] []) [] (by kernel_rfl) rfl (Zc.on (fun _ hw => hw.sel [] (by decide) rfl) (Zc.fin (fun _ hw => hw)))) rfl rfl ?_
            refine V2.pass (i := 23) (Nx2.of (Z := Cls w [] []) [] (by kernel_rfl) rfl (Zc.on (fun _ hw => hw.sel [] (by decide) rfl) (Zc.fin (fun _ hw => hw)))) rfl rfl ?_
            refine V2.pass (i := 24) (Nx2.of (Z := Cls w [] []) [] (by kernel_rfl) rfl (Zc.on (fun _ hw => hw.sel [] (by decide) rfl) (Zc.fin (fun _ hw => hw)))) rfl rfl ?_
            refine V2.pass (i := 25) (Nx2.of (Z := Cls w [] []) [] (by kernel_rfl) rfl (Zc.on (fun _ hw => hw.sel [] (by decide) rfl) (Zc.fin (fun _ hw => hw)))) rfl rfl ?_
            refine V2.pass (i := 26) (Nx2.of (Z := Cls w [] []) [] (by kernel_rfl) rfl (Zc.on (fun _ hw => hw.sel [] (by decide) rfl) (Zc.fin (fun _ hw => hw)))) rfl rfl ?_
            refine V2.pass (i := 27) (Nx2.of (Z := Cls w [] []) [] (by kernel_rfl) rfl (Zc.on (fun _ hw => hw.sel [] (by decide) rfl) (Zc.fin (fun _ hw => hw)))) rfl rfl ?_
            refine V2.y (i := 28) (Nx2.of (Z := Cls w [] []) [] (by kernel_rfl) rfl (Zc.on (fun _ hw => hw.sel [] (by decide) rfl) (Zc.fin (fun _ hw => hw)))) rfl rfl rfl (Y.pickF rfl rfl) ?_
            refine V2.y (i := 29) (Nx2.of (Z := Cls w [] []) [] (by kernel_rfl) rfl (Zc.on (fun _ hw => hw.sel [] (by decide) rfl) (Zc.fin (fun _ hw => hw)))) rfl rfl rfl (Y.pickF rfl rfl) ?_
            refine V2.m (i := 30) (V' := fun _ => el (gv (gq2 gx9.toNat) 0) (gx12.toNat * 1)) h (Nx2.of (Z := Cls w [] [.sl (sv b2 a0.toNat) 164 1 (zr svRow gq2 gl11), .ss (zs (svSd 4 1 B) gq2 gl11)]) [31] (by kernel_rfl) rfl (Zc.at1 (fun _ hw => hw))) rfl rfl rfl (Y.indexM (g := B) (l := x22) Try.underlying164 sz4 rfl rfl (fun w hw => As.atZ (sds := (svSd 4 1 B)) (vs := gq2) (j := 0) (hw.get (i := 1) rfl) (fun _ _ => rfl) ex22 rfl)) (fun x39 ex39 h => ?_)
            refine V2.eff (i := 31) (by kernel_rfl) rfl ?_
            refine L.ssOut (sds := (svSd 4 1 B)) (vs := gq2) (s := 1) (j := 0) (c := 1) rfl (fun _ _ => rfl) ex22 rfl ?_
            refine L.storeSlM (q := 0) (row := B) (vs := [.bool false]) (j := 0) (u1 := false) h sz4 rfl rfl rfl rfl rfl (all1 rfl all0) rfl ex39 rfl rfl ?_
            intro l40 el40 h
            refine L.ssBack (row := svRow) (sds := (svSd 4 1 B)) (vs := gq2) (p := 0) (s := 2) (q := 1) (c := 1) (jj := 0) (u1 := l40) (fun z => .sl (sv b2 a0.toNat) 164 1 z) h rfl rfl rfl (fun _ _ => rfl) ex22 rfl rfl rfl ?_
            intro l41 el41 h
            refine L.nil (E.toV2 (stC [] [] (Cls w [] [])) 31 (by kernel_rfl) (Sc.past rfl (Sc.stayD (fun _ hw => hw))) (Sc.atD (fun _ hw => hw.sel [] (by decide) rfl)) ?_)
            refine V2.done (by kernel_rfl) ?_
            refine E.blockN (E.thenN (W.region (L.m (V := fun x42 => .int .i64 x42) h rfl (Y.addM rfl rfl) (fun x42 ex42 h => ?_))))
            refine L.y rfl (Y.move rfl) ?_
            exact L.nil (E.againJ ⟨l41, x42, rfl, rfl, by rw [hg3]; exact h⟩ (Nat.lt_succ_self _) ⟨rfl, rfl, rfl, rfl, rfl, rfl, rfl, rfl, rfl, rfl, trivial⟩ (fun _ hw => hw))
         ·
          refine L.nil (E.thenN (W.seq (W.condF rfl ?_)))
          exact W.exit (E.thenX (E.KLX (E.blockX (E.blockN (E.joinJ ⟨gl11, rfl, rfl, h⟩ ⟨rfl, rfl, rfl, rfl, rfl, rfl, rfl, trivial⟩ (fun _ hw => hw))))))
        ·
         rintro _ _ ⟨gl10, rfl, rfl, h⟩
         rw [m112_quirref_Closure_K5] at h
         refine W.region (L.m (V := fun x6 => .int .i64 x6) h rfl (Y.addM rfl rfl) (fun x6 ex6 h => ?_))
         refine L.y rfl (Y.move rfl) ?_
         exact L.nil (E.againJ ⟨gl10, x6, rfl, rfl, by rw [hg2]; exact h⟩ (Nat.lt_succ_self _) ⟨rfl, rfl, rfl, rfl, rfl, rfl, rfl, trivial⟩ (fun _ hw => hw))
       ·
        refine L.nil (E.thenN (W.seq (W.condF rfl ?_)))
        exact W.exit (E.thenX (E.KLX (E.blockX (E.blockN (E.joinJ ⟨gl8, rfl, rfl, h⟩ ⟨rfl, rfl, rfl, rfl, trivial⟩ (fun _ hw => hw))))))
      ·
       rintro _ _ ⟨gl7, rfl, rfl, h⟩
       rw [m112_quirref_Closure_K4] at h
       refine W.region (L.m (V := fun x4 => .int .i64 x4) h rfl (Y.addM rfl rfl) (fun x4 ex4 h => ?_))
       refine L.y rfl (Y.move rfl) ?_
       exact L.nil (E.againJ ⟨gl7, x4, rfl, rfl, by rw [hg1]; exact h⟩ (Nat.lt_succ_self _) ⟨rfl, rfl, rfl, rfl, trivial⟩ (fun _ hw => hw))
     ·
      refine L.nil (E.thenN (W.seq (W.condF rfl ?_)))
      exact W.exit (E.thenX (E.KLX (E.blockX (E.joinJ ⟨gl5, rfl, rfl, h⟩ ⟨rfl, trivial⟩ (fun _ hw => hw)))))
    ·
     rintro _ _ ⟨gl4, rfl, rfl, h⟩
     rw [m112_quirref_Closure_K3] at h
     refine W.seq (W.region (L.y rfl (Y.move rfl) ?_))
     refine L.y rfl (Y.assign rfl) ?_
     refine L.nil (E.thenN (W.ret (E.ret1 rfl rfl (fun w1 hw => ?_))))
     obtain rfl := Option.some.inj h
     exact ⟨_, _, rfl, ⟨_, _, rfl, rfl⟩, hw⟩
set_option maxRecDepth 100000 in
set_option maxHeartbeats 8000000 in
theorem w46_quirref_Order (a0 : Int) (a1 : (List TEdge)) (u1 : Value) (w : World) (r : ((List Int) × Bool)) (h : m46_quirref_Order a0 a1 = some r) (hA1 : At w u1 2 (a1.map TEdge.row)) : Does Try.prog 46 [.int .i64 a0, u1] w fun u m => ∃ v0, u = .tuple #[v0, .bool r.2] ∧ m = [.sl v0 3 1 (r.1.map I)] := by
  rw [m46_quirref_Order] at h
  refine body (n := 66) Try.func46 rfl rfl rfl (Cls.refl w) ?_
  refine W.seq (W.region (L.y rfl (Y.assign rfl) ?_))
  refine L.y rfl (Y.assign rfl) ?_
  refine L.nil (E.thenN (W.seq (W.region (L.y rfl (Y.move rfl) ?_))))
  refine L.y rfl (Y.move rfl) ?_
  obtain ⟨l1, e4, h⟩ := bind1S h
  refine L.does rfl en112 rfl (fun w' hw => w112_quirref_Closure a0 a1 u1 w' _ e4 (hA1.cls0 hw)) ?_
  rintro v2 _ ⟨_, q3, rfl, rfl⟩
  refine L.y rfl (Y.assign rfl) ?_
  refine L.nil (E.thenN (W.seq (W.region (L.y rfl (Y.move rfl) ?_))))
  obtain ⟨l5, el5, h⟩ := bind1S h
  refine L.makeE (row := B) (z0 := false) el5 rfl Try.underlying164 el4 ze4 rfl rfl rfl ?_
  intro b6
  refine L.y rfl (Y.assign rfl) ?_
  refine L.nil (E.thenN (W.seq (W.region (L.y rfl (Y.assign rfl) ?_))))
  refine L.nil (E.thenN (W.seqJ (fun gs D => ∃ (gv1 : Value) (gl2 : (List Int)), gs = [(8, gv1)] ∧ D = Cls w [] [.sl gv1 3 1 (gl2.map I)] ∧ m46_quirref_Order_K1 gl2 = some r) ?_ ?_))
  ·
   refine W.block (W.nilSl 3 1 ?_)
   refine W.loopJ (fun m gs D => ∃ (gl3 : (List Bool)) (gv4 : Value) (gl5 : (List Int)), gs = [(0, .int .i64 a0), (6, v2), (7, (sv b6 a0.toNat)), (8, gv4)] ∧ D = Cls w [] [.sl v2 164 1 (zr svRow q3 l1), .ss (zs (svSd 4 1 B) q3 l1), .sl (sv b6 a0.toNat) 4 1 (gl3.map B), .sl gv4 3 1 (gl5.map I)] ∧ m46_quirref_Order_L1 a0 l1 m gl3 gl5 = some r) ⟨l5, .slice none 0 0, [], rfl, rfl, h⟩ ⟨rfl, rfl, rfl, rfl, trivial⟩ (fun _ hw => hw.sel [2, 3, 1, 0] (by decide) rfl) ?_
   rintro m _ _ ⟨gl3, gv4, gl5, rfl, rfl, h⟩
   rcases m with _ | m
   · rw [m46_quirref_Order_L1] at h; cases h
   rw [m46_quirref_Order_L1] at h
   generalize hg1 : m46_quirref_Order_L1 a0 l1 m = go1 at h
   rw [m46_quirref_Order_L1B] at h
   refine W.seqJ (fun gs D => gs = [(0, .int .i64 a0), (6, v2), (7, (sv b6 a0.toNat)), (8, gv4)] ∧ D = Cls w [] [.sl v2 164 1 (zr svRow q3 l1), .ss (zs (svSd 4 1 B) q3 l1), .sl (sv b6 a0.toNat) 4 1 (gl3.map B), .sl gv4 3 1 (gl5.map I)] ∧ m46_quirref_Order_K2 a0 gl3 l1 gl5 go1 = some r) ?_ ?_
   ·
    refine W.seq (W.region (L.y rfl (Y.move rfl) ?_))
    refine L.y rfl (Y.lenM (g := I) (l := gl5) Try.underlying28 rfl (fun w hw => As.at_ (hw.get (i := 3) rfl))) ?_
    refine L.y rfl (Y.move rfl) ?_
    refine L.ite h rfl (Y.lss rfl rfl) (fun c28 h => ?_) (fun c28 h => ?_)
    ·
     refine L.nil (E.thenN (W.condT rfl ?_))
     exact W.skip (E.joinJ ⟨rfl, rfl, h⟩ ⟨rfl, rfl, rfl, rfl, trivial⟩ (fun _ hw => hw))
    ·
     refine L.nil (E.thenN (W.condF rfl ?_))
     exact W.exit (E.KSX (E.KLX (E.blockX (E.joinJ ⟨gv4, gl5, rfl, rfl, h⟩ ⟨rfl, trivial⟩ (fun _ hw => hw.sel [3] (by decide) rfl)))))
   ·
    rintro _ _ ⟨rfl, rfl, h⟩
    rw [m46_quirref_Order_K2] at h
    refine W.block (W.seq (W.region (L.y rfl (Y.assign rfl) ?_)))
    refine L.nil (E.thenN (W.seqJ (fun gs D => ∃ (gx6 : Int), gs = [(0, .int .i64 a0), (6, v2), (7, (sv b6 a0.toNat)), (8, gv4), (9, .int .i64 gx6)] ∧ D = Cls w [] [.sl v2 164 1 (zr svRow q3 l1), .ss (zs (svSd 4 1 B) q3 l1), .sl (sv b6 a0.toNat) 4 1 (gl3.map B), .sl gv4 3 1 (gl5.map I)] ∧ m46_quirref_Order_K3 gl3 gl5 go1 gx6 = some r) ?_ ?_))
    ·
     refine W.seq (W.region (L.y rfl (Y.move rfl) ?_))
     refine L.y rfl (Y.move rfl) ?_
     refine L.nil (E.thenN (W.block (W.loopJ (fun m gs D => ∃ (gx7 : Int), gs = [(0, .int .i64 a0), (6, v2), (7, (sv b6 a0.toNat)), (8, gv4), (9, .int .i64 (-1)), (22, .int .i64 a0), (23, .int .i64 gx7)] ∧ D = Cls w [] [.sl v2 164 1 (zr svRow q3 l1), .ss (zs (svSd 4 1 B) q3 l1), .sl (sv b6 a0.toNat) 4 1 (gl3.map B), .sl gv4 3 1 (gl5.map I)] ∧ m46_quirref_Order_L2 a0 gl3 l1 gl5 go1 m gx7 = some r) ⟨0, rfl, rfl, h⟩ ⟨rfl, rfl, rfl, rfl, rfl, rfl, rfl, trivial⟩ (fun _ hw => hw) ?_)))
     rintro m _ _ ⟨gx7, rfl, rfl, h⟩
     rcases m with _ | m
     · rw [m46_quirref_Order_L2] at h; cases h
     rw [m46_quirref_Order_L2] at h
     generalize hg2 : m46_quirref_Order_L2 a0 gl3 l1 gl5 go1 m = go2 at h
     rw [m46_quirref_Order_L2B] at h
     refine W.seq (W.region (L.ite h rfl (Y.lss rfl rfl) (fun c13 h => ?_) (fun c13 h => ?_)))
     ·
      refine L.nil (E.thenN (W.seq (W.condT rfl ?_)))
      refine W.skip (E.thenN (W.seqJ (fun gs D => gs = [(0, .int .i64 a0), (6, v2), (7, (sv b6 a0.toNat)), (8, gv4), (9, .int .i64 (-1)), (22, .int .i64 a0), (23, .int .i64 gx7)] ∧ D = Cls w [] [.sl v2 164 1 (zr svRow q3 l1), .ss (zs (svSd 4 1 B) q3 l1), .sl (sv b6 a0.toNat) 4 1 (gl3.map B), .sl gv4 3 1 (gl5.map I)] ∧ m46_quirref_Order_K4 gx7 go2 = some r) ?_ ?_))
      ·
       refine W.block (W.seq (W.region (L.y rfl (Y.move rfl) ?_)))
       refine L.y rfl (Y.assign rfl) ?_
       refine L.nil (E.thenN (W.seqJ (fun gs D => ∃ (gb8 : Bool), gs = [(0, .int .i64 a0), (6, v2), (7, (sv b6 a0.toNat)), (8, gv4), (9, .int .i64 (-1)), (10, .int .i64 gx7), (11, .bool gb8), (22, .int .i64 a0), (23, .int .i64 gx7)] ∧ D = Cls w [] [.sl v2 164 1 (zr svRow q3 l1), .ss (zs (svSd 4 1 B) q3 l1), .sl (sv b6 a0.toNat) 4 1 (gl3.map B), .sl gv4 3 1 (gl5.map I)] ∧ m46_quirref_Order_K5 a0 gl3 l1 gx7 gl5 go1 go2 gb8 = some r) ?_ ?_))
       ·
        refine W.region (L.y rfl (Y.move rfl) ?_)
        refine L.y rfl (Y.move rfl) ?_
        refine L.m (V := fun _ => el (sv b6 a0.toNat) (gx7.toNat * 1)) h rfl (Y.indexM (g := B) (l := gl3) Try.underlying164 sz4 rfl rfl (fun w hw => As.at_ (hw.get (i := 2) rfl))) (fun x26 ex26 h => ?_)
        refine L.iteB h rfl (Y.loadE1 (u := .bool x26) ag4 rfl (fun w hw => As.at_ (hw.get (i := 2) rfl)) (idx_map ex26)) (fun c27 h => ?_) (fun c27 h => ?_)
        ·
         refine L.y rfl (Y.not rfl) ?_
         refine L.y rfl (Y.assign rfl) ?_
         exact L.nil (E.joinJ ⟨false, rfl, rfl, h⟩ ⟨rfl, rfl, rfl, rfl, rfl, rfl, rfl, rfl, rfl, trivial⟩ (fun _ hw => hw))
        ·
         refine L.y rfl (Y.not rfl) ?_
         refine L.y rfl (Y.assign rfl) ?_
         exact L.nil (E.joinJ ⟨true, rfl, rfl, h⟩ ⟨rfl, rfl, rfl, rfl, rfl, rfl, rfl, rfl, rfl, trivial⟩ (fun _ hw => hw))
       ·
        rintro _ _ ⟨gb8, rfl, rfl, h⟩
        rw [m46_quirref_Order_K5] at h
        rcases gb8 with _ | _
        ·
         replace h := iteF h
         refine W.seqJ (fun gs D => gs = [(0, .int .i64 a0), (6, v2), (7, (sv b6 a0.toNat)), (8, gv4), (9, .int .i64 (-1)), (10, .int .i64 gx7), (11, .bool false), (22, .int .i64 a0), (23, .int .i64 gx7)] ∧ D = Cls w [] [.sl v2 164 1 (zr svRow q3 l1), .ss (zs (svSd 4 1 B) q3 l1), .sl (sv b6 a0.toNat) 4 1 (gl3.map B), .sl gv4 3 1 (gl5.map I)] ∧ m46_quirref_Order_K6 gx7 go2 = some r) ?_ ?_
         ·
          refine W.seq (W.region (L.y rfl (Y.move rfl) ?_))
          refine L.y rfl (Y.move rfl) ?_
          refine L.nil (E.thenN (W.block (W.loopJ (fun m gs D => ∃ (gx9 : Int), gs = [(0, .int .i64 a0), (6, v2), (7, (sv b6 a0.toNat)), (8, gv4), (9, .int .i64 (-1)), (10, .int .i64 gx7), (11, .bool false), (22, .int .i64 a0), (23, .int .i64 gx7), (31, .int .i64 a0), (32, .int .i64 gx9)] ∧ D = Cls w [] [.sl v2 164 1 (zr svRow q3 l1), .ss (zs (svSd 4 1 B) q3 l1), .sl (sv b6 a0.toNat) 4 1 (gl3.map B), .sl gv4 3 1 (gl5.map I)] ∧ m46_quirref_Order_L3 a0 gx7 go2 m gx9 = some r) ⟨0, rfl, rfl, h⟩ ⟨rfl, rfl, rfl, rfl, rfl, rfl, rfl, rfl, rfl, rfl, rfl, trivial⟩ (fun _ hw => hw) ?_)))
          rintro m _ _ ⟨gx9, rfl, rfl, h⟩
          rcases m with _ | m
          · rw [m46_quirref_Order_L3] at h; cases h
          rw [m46_quirref_Order_L3] at h
          generalize hg3 : m46_quirref_Order_L3 a0 gx7 go2 m = go3 at h
          rw [m46_quirref_Order_L3B] at h
          refine W.seq (W.region (L.ite h rfl (Y.lss rfl rfl) (fun c15 h => ?_) (fun c15 h => ?_)))
          ·
           refine L.nil (E.thenN (W.seq (W.condT rfl ?_)))
           refine W.skip (E.thenN (W.seq (W.block (W.seq (W.region (L.y rfl (Y.move rfl) ?_))))))
           refine L.y rfl (Y.assign rfl) ?_
           refine L.nil (E.thenN (W.region (L.y rfl (Y.move rfl) ?_)))
           refine L.y rfl (Y.move rfl) ?_
           refine L.pass rfl rfl (by nofun) ?_
           refine L.pass rfl rfl (by nofun) ?_
           refine L.pass rfl rfl (by nofun) ?_
           refine L.pass rfl rfl (by nofun) ?_
           refine L.pass rfl rfl (by nofun) ?_
           refine L.pass rfl rfl (by nofun) ?_
           refine L.pass rfl rfl (by nofun) ?_
           refine L.pass rfl rfl (by nofun) ?_
           refine L.pass rfl rfl (by nofun) ?_
           refine L.pass rfl rfl (by nofun) ?_
           refine L.pass rfl rfl (by nofun) ?_
           refine L.pass rfl rfl (by nofun) ?_
           refine L.pass rfl rfl (by nofun) ?_
           refine L.pass rfl rfl (by nofun) ?_
           refine L.y rfl (Y.pickF rfl rfl) ?_
           refine L.y rfl (Y.assign rfl) ?_
           refine L.nil (E.blockN (E.thenN (W.region (L.m (V := fun x16 => .int .i64 x16) h rfl (Y.addM rfl rfl) (fun x16 ex16 h => ?_)))))
           refine L.y rfl (Y.move rfl) ?_
           exact L.nil (E.againJ ⟨x16, rfl, rfl, by rw [hg3]; exact h⟩ (Nat.lt_succ_self _) ⟨rfl, rfl, rfl, rfl, rfl, rfl, rfl, rfl, rfl, rfl, rfl, trivial⟩ (fun _ hw => hw))
          ·
           refine L.nil (E.thenN (W.seq (W.condF rfl ?_)))
           exact W.exit (E.thenX (E.KLX (E.blockX (E.joinJ ⟨rfl, rfl, h⟩ ⟨rfl, rfl, rfl, rfl, rfl, rfl, rfl, rfl, rfl, trivial⟩ (fun _ hw => hw)))))
         ·
          rintro _ _ ⟨rfl, rfl, h⟩
          rw [m46_quirref_Order_K6] at h
          refine W.seq (W.region (L.y rfl (Y.move rfl) ?_))
          refine L.nil (E.thenN (W.condF rfl ?_))
          exact W.skip (E.blockN (E.joinJ ⟨rfl, rfl, h⟩ ⟨rfl, rfl, rfl, rfl, rfl, rfl, rfl, trivial⟩ (fun _ hw => hw)))
        ·
         replace h := iteT h
         refine W.seqJ (fun gs D => ∃ (gb10 : Bool), gs = [(0, .int .i64 a0), (6, v2), (7, (sv b6 a0.toNat)), (8, gv4), (9, .int .i64 (-1)), (10, .int .i64 gx7), (11, .bool gb10), (22, .int .i64 a0), (23, .int .i64 gx7)] ∧ D = Cls w [] [.sl v2 164 1 (zr svRow q3 l1), .ss (zs (svSd 4 1 B) q3 l1), .sl (sv b6 a0.toNat) 4 1 (gl3.map B), .sl gv4 3 1 (gl5.map I)] ∧ m46_quirref_Order_K7 gl3 gl5 go1 gx7 go2 gb10 = some r) ?_ ?_
         ·
          refine W.seq (W.region (L.y rfl (Y.move rfl) ?_))
          refine L.y rfl (Y.move rfl) ?_
          refine L.nil (E.thenN (W.block (W.loopJ (fun m gs D => ∃ (gb11 : Bool) (gx12 : Int), gs = [(0, .int .i64 a0), (6, v2), (7, (sv b6 a0.toNat)), (8, gv4), (9, .int .i64 (-1)), (10, .int .i64 gx7), (11, .bool gb11), (22, .int .i64 a0), (23, .int .i64 gx7), (31, .int .i64 a0), (32, .int .i64 gx12)] ∧ D = Cls w [] [.sl v2 164 1 (zr svRow q3 l1), .ss (zs (svSd 4 1 B) q3 l1), .sl (sv b6 a0.toNat) 4 1 (gl3.map B), .sl gv4 3 1 (gl5.map I)] ∧ m46_quirref_Order_L4 a0 gl3 l1 gx7 gl5 go1 go2 m gb11 gx12 = some r) ⟨true, 0, rfl, rfl, h⟩ ⟨rfl, rfl, rfl, rfl, rfl, rfl, rfl, rfl, rfl, rfl, rfl, trivial⟩ (fun _ hw => hw) ?_)))
          rintro m _ _ ⟨gb11, gx12, rfl, rfl, h⟩
          rcases m with _ | m
          · rw [m46_quirref_Order_L4] at h; cases h
          rw [m46_quirref_Order_L4] at h
          generalize hg4 : m46_quirref_Order_L4 a0 gl3 l1 gx7 gl5 go1 go2 m = go4 at h
          rw [m46_quirref_Order_L4B] at h
          refine W.seq (W.region (L.ite h rfl (Y.lss rfl rfl) (fun c17 h => ?_) (fun c17 h => ?_)))
          ·
           refine L.nil (E.thenN (W.seq (W.condT rfl ?_)))
           refine W.skip (E.thenN (W.seq (W.block (W.seq (W.region (L.y rfl (Y.move rfl) ?_))))))
           refine L.y rfl (Y.assign rfl) ?_
           refine L.nil (E.thenN (W.region (L.cutJ 17 (fun gs D => ∃ (gb13 : Bool), gs = [(0, .int .i64 a0), (6, v2), (7, (sv b6 a0.toNat)), (8, gv4), (9, .int .i64 (-1)), (10, .int .i64 gx7), (22, .int .i64 a0), (23, .int .i64 gx7), (31, .int .i64 a0), (32, .int .i64 gx12), (51, .bool gb13)] ∧ D = Cls w [] [.sl v2 164 1 (zr svRow q3 l1), .ss (zs (svSd 4 1 B) q3 l1), .sl (sv b6 a0.toNat) 4 1 (gl3.map B), .sl gv4 3 1 (gl5.map I)] ∧ m46_quirref_Order_K8 gx12 go4 gb13 = some r) ?_ ?_)))
           ·
            refine L.iteB h rfl (Y.move rfl) (fun c20 h => ?_) (fun c20 h => ?_)
            ·
             refine L.y rfl (Y.move rfl) ?_
             refine L.take rfl (L.y rfl (Y.move rfl) ?_)
             refine L.take rfl (L.y rfl (Y.move rfl) ?_)
             refine L.take rfl (L.m (V := fun _ => el (sv b6 a0.toNat) (gx12.toNat * 1)) h rfl (Y.indexM (g := B) (l := gl3) Try.underlying164 sz4 rfl rfl (fun w hw => As.at_ (hw.get (i := 2) rfl))) (fun x21 ex21 h => ?_))
             refine L.take rfl (L.iteB h rfl (Y.loadE1 (u := .bool x21) ag4 rfl (fun w hw => As.at_ (hw.get (i := 2) rfl)) (idx_map ex21)) (fun c22 h => ?_) (fun c22 h => ?_))
             ·
              refine L.take rfl (L.y rfl (Y.move rfl) ?_)
              refine L.pass rfl rfl (by nofun) ?_
              refine L.pass rfl rfl (by nofun) ?_
              refine L.pass rfl rfl (by nofun) ?_
              refine L.pass rfl rfl (by nofun) ?_
              refine L.pass rfl rfl (by nofun) ?_
              refine L.pass rfl rfl (by nofun) ?_
              refine L.pass rfl rfl (by nofun) ?_
              refine L.pass rfl rfl (by nofun) ?_
              refine L.take rfl (L.y rfl (Y.pickT rfl rfl) ?_)
              refine L.y rfl (Y.pickT rfl rfl) ?_
              exact L.nil (E.joinJ ⟨true, rfl, rfl, h⟩ ⟨rfl, rfl, rfl, rfl, rfl, rfl, rfl, rfl, rfl, rfl, rfl, trivial⟩ (fun _ hw => hw))
             ·
              refine L.take rfl (L.y rfl (Y.move rfl) ?_)
              refine L.take rfl (L.y rfl (Y.move rfl) ?_)
              refine L.take rfl (L.y rfl (Y.move rfl) ?_)
              refine L.take rfl (L.m (V := fun _ => el v2 (gx12.toNat * 1)) h rfl (Y.indexMZ (row := svRow) (vs := q3) (l := l1) Try.underlying162 sz164 rfl rfl (fun w hw => As.at_ (hw.get (i := 0) rfl))) (fun x23 ex23 h => ?_))
              refine L.take rfl (L.y rfl (Y.loadE1 (u := gv (q3 gx12.toNat) 0) ag164 rfl (fun w hw => As.at_ (hw.get (i := 0) rfl)) (zr_idx (vs := q3) ex23)) ?_)
              refine L.take rfl (L.y rfl (Y.move rfl) ?_)
              refine L.take rfl (L.m (V := fun _ => el (gv (q3 gx12.toNat) 0) (gx7.toNat * 1)) h rfl (Y.indexM (g := B) (l := x23) Try.underlying164 sz4 rfl rfl (fun w hw => As.atZ (sds := (svSd 4 1 B)) (vs := q3) (j := 0) (hw.get (i := 1) rfl) (fun _ _ => rfl) ex23 rfl)) (fun x24 ex24 h => ?_))
              refine L.take rfl (L.iteB h rfl (Y.loadE1 (u := .bool x24) ag4 rfl (fun w hw => As.atZ (sds := (svSd 4 1 B)) (vs := q3) (j := 0) (hw.get (i := 1) rfl) (fun _ _ => rfl) ex23 rfl) (idx_map ex24)) (fun c25 h => ?_) (fun c25 h => ?_))
              ·
               refine L.take rfl (L.y rfl (Y.not rfl) ?_)
               refine L.take rfl (L.y rfl (Y.pickF rfl rfl) ?_)
               refine L.y rfl (Y.pickT rfl rfl) ?_
               exact L.nil (E.joinJ ⟨false, rfl, rfl, h⟩ ⟨rfl, rfl, rfl, rfl, rfl, rfl, rfl, rfl, rfl, rfl, rfl, trivial⟩ (fun _ hw => hw))
              ·
               refine L.take rfl (L.y rfl (Y.not rfl) ?_)
               refine L.take rfl (L.y rfl (Y.pickF rfl rfl) ?_)
               refine L.y rfl (Y.pickT rfl rfl) ?_
               exact L.nil (E.joinJ ⟨true, rfl, rfl, h⟩ ⟨rfl, rfl, rfl, rfl, rfl, rfl, rfl, rfl, rfl, rfl, rfl, trivial⟩ (fun _ hw => hw))
            ·
             refine L.y rfl (Y.move rfl) ?_
             refine L.pass rfl rfl (by nofun) ?_
             refine L.pass rfl rfl (by nofun) ?_
             refine L.pass rfl rfl (by nofun) ?_
             refine L.pass rfl rfl (by nofun) ?_
             refine L.pass rfl rfl (by nofun) ?_
             refine L.pass rfl rfl (by nofun) ?_
             refine L.pass rfl rfl (by nofun) ?_
             refine L.pass rfl rfl (by nofun) ?_
             refine L.pass rfl rfl (by nofun) ?_
             refine L.pass rfl rfl (by nofun) ?_
             refine L.pass rfl rfl (by nofun) ?_
             refine L.pass rfl rfl (by nofun) ?_
             refine L.pass rfl rfl (by nofun) ?_
             refine L.pass rfl rfl (by nofun) ?_
             refine L.y rfl (Y.pickF rfl rfl) ?_
             exact L.nil (E.joinJ ⟨false, rfl, rfl, h⟩ ⟨rfl, rfl, rfl, rfl, rfl, rfl, rfl, rfl, rfl, rfl, rfl, trivial⟩ (fun _ hw => hw))
           ·
            rintro _ _ ⟨gb13, rfl, rfl, h⟩
            rw [m46_quirref_Order_K8] at h
            rcases gb13 with _ | _
            ·
             replace h := iteF h
             refine L.y rfl (Y.assign rfl) ?_
             refine L.nil (E.blockN (E.thenN (W.region (L.m (V := fun x18 => .int .i64 x18) h rfl (Y.addM rfl rfl) (fun x18 ex18 h => ?_)))))
             refine L.y rfl (Y.move rfl) ?_
             exact L.nil (E.againJ ⟨false, x18, rfl, rfl, by rw [hg4]; exact h⟩ (Nat.lt_succ_self _) ⟨rfl, rfl, rfl, rfl, rfl, rfl, rfl, rfl, rfl, rfl, rfl, trivial⟩ (fun _ hw => hw))
            ·
             replace h := iteT h
             refine L.y rfl (Y.assign rfl) ?_
             refine L.nil (E.blockN (E.thenN (W.region (L.m (V := fun x19 => .int .i64 x19) h rfl (Y.addM rfl rfl) (fun x19 ex19 h => ?_)))))
             refine L.y rfl (Y.move rfl) ?_
             exact L.nil (E.againJ ⟨true, x19, rfl, rfl, by rw [hg4]; exact h⟩ (Nat.lt_succ_self _) ⟨rfl, rfl, rfl, rfl, rfl, rfl, rfl, rfl, rfl, rfl, rfl, trivial⟩ (fun _ hw => hw))
          ·
           refine L.nil (E.thenN (W.seq (W.condF rfl ?_)))
           exact W.exit (E.thenX (E.KLX (E.blockX (E.joinJ ⟨gb11, rfl, rfl, h⟩ ⟨rfl, rfl, rfl, rfl, rfl, rfl, rfl, rfl, rfl, trivial⟩ (fun _ hw => hw)))))
         ·
          rintro _ _ ⟨gb10, rfl, rfl, h⟩
          rw [m46_quirref_Order_K7] at h
          rcases gb10 with _ | _
          ·
           replace h := iteF h
           refine W.seq (W.region (L.y rfl (Y.move rfl) ?_))
           refine L.nil (E.thenN (W.condF rfl ?_))
           exact W.skip (E.blockN (E.joinJ ⟨rfl, rfl, h⟩ ⟨rfl, rfl, rfl, rfl, rfl, rfl, rfl, trivial⟩ (fun _ hw => hw)))
          ·
           replace h := iteT h
           refine W.seq (W.region (L.y rfl (Y.move rfl) ?_))
           refine L.nil (E.thenN (W.condT rfl ?_))
           refine W.seq (W.region (L.y rfl (Y.move rfl) ?_))
           refine L.y rfl (Y.assign rfl) ?_
           exact L.nil (E.thenN (W.exit (E.blockY rfl (E.KSX (E.KLX (E.blockX (E.joinJ ⟨gx7, rfl, rfl, h⟩ ⟨rfl, rfl, rfl, rfl, rfl, trivial⟩ (fun _ hw => hw))))))))
      ·
       rintro _ _ ⟨rfl, rfl, h⟩
       rw [m46_quirref_Order_K4] at h
       refine W.region (L.m (V := fun x14 => .int .i64 x14) h rfl (Y.addM rfl rfl) (fun x14 ex14 h => ?_))
       refine L.y rfl (Y.move rfl) ?_
       exact L.nil (E.againJ ⟨x14, rfl, rfl, by rw [hg2]; exact h⟩ (Nat.lt_succ_self _) ⟨rfl, rfl, rfl, rfl, rfl, rfl, rfl, trivial⟩ (fun _ hw => hw))
     ·
      refine L.nil (E.thenN (W.seq (W.condF rfl ?_)))
      exact W.exit (E.thenX (E.KLX (E.blockX (E.joinJ ⟨(-1), rfl, rfl, h⟩ ⟨rfl, rfl, rfl, rfl, rfl, trivial⟩ (fun _ hw => hw)))))
    ·
     rintro _ _ ⟨gx6, rfl, rfl, h⟩
     rw [m46_quirref_Order_K3] at h
     refine W.seq (W.seq (W.region (L.y rfl (Y.move rfl) ?_)))
     refine L.ite h rfl (Y.lss rfl rfl) (fun c7 h => ?_) (fun c7 h => ?_)
     ·
      refine L.nil (E.thenN (W.condT rfl ?_))
      refine W.seq (W.region (L.y rfl (Y.assign rfl) ?_))
      refine L.y rfl (Y.assign rfl) ?_
      refine L.nil (E.thenN (W.ret (E.thenR (E.blockR (E.KLR (E.blockR (E.KSR (E.ret2 rfl rfl rfl (fun w1 hw => ?_)))))))))
      obtain rfl := Option.some.inj h
      exact ⟨_, _, rfl, ⟨_, rfl, rfl⟩, (hw.nilSl 3 1).sel [0] (by decide) rfl⟩
     ·
      refine L.nil (E.thenN (W.condF rfl ?_))
      refine W.skip (E.thenN (W.seq (W.region (L.y rfl (Y.move rfl) ?_))))
      refine L.y rfl (Y.move rfl) ?_
      refine L.m (V := fun _ => el (sv b6 a0.toNat) (gx6.toNat * 1)) h rfl (Y.indexM (g := B) (l := gl3) Try.underlying164 sz4 rfl rfl (fun w hw => As.at_ (hw.get (i := 2) rfl))) (fun x8 ex8 h => ?_)
      refine L.storeSlM (q := 2) (row := B) (vs := [.bool true]) (j := 0) (u1 := true) h sz4 rfl rfl rfl rfl rfl (all1 rfl all0) rfl ex8 rfl rfl ?_
      intro l9 el9 h
      refine L.nil (E.thenN (W.region (L.y rfl (Y.move rfl) ?_)))
      refine L.y rfl (Y.move rfl) ?_
      refine L.litOne rfl Try.underlying28 el3 rfl rfl ?_
      intro b10
      refine L.appM (i := 4) (g := I) (l := gl5) (more := [gx6]) h rfl Try.underlying28 el3 rfl rfl rfl (fun w hw => As.at_ (hw.get (i := 0) rfl)) (plain_ints _) rfl ?_
      intro v11 l12 el12 h
      refine L.y rfl (Y.assign rfl) ?_
      exact L.nil (E.blockN (E.againJ ⟨l9, v11, l12, rfl, rfl, by rw [hg1]; exact h⟩ (Nat.lt_succ_self _) ⟨rfl, rfl, rfl, rfl, trivial⟩ (fun _ hw => hw.sel [2, 3, 4, 0] (by decide) rfl)))
  ·
   rintro _ _ ⟨gv1, gl2, rfl, rfl, h⟩
   rw [m46_quirref_Order_K1] at h
   refine W.seq (W.region (L.y rfl (Y.move rfl) ?_))
   refine L.y rfl (Y.assign rfl) ?_
   refine L.y rfl (Y.assign rfl) ?_
   refine L.nil (E.thenN (W.ret (E.ret2 rfl rfl rfl (fun w1 hw => ?_))))
   obtain rfl := Option.some.inj h
   exact ⟨_, _, rfl, ⟨_, rfl, rfl⟩, hw⟩
set_option maxRecDepth 100000 in
set_option maxHeartbeats 8000000 in
theorem w13_quirref_Serial (a0 : (List TOp)) (u0 : Value) (w : World) (r : ((List Int) × Bool)) (h : m13_quirref_Serial a0 = some r) (hA0 : At w u0 3 (a0.map TOp.row)) : Does Try.prog 13 [u0] w fun u m => ∃ v0, u = .tuple #[v0, .bool r.2] ∧ m = [.sl v0 3 1 (r.1.map I)] := by
  rw [m13_quirref_Serial] at h
  refine body (n := 16) Try.func13 rfl rfl rfl (Cls.refl w) ?_
  refine W.seq (W.region (L.boxV rfl rfl (fun _ hw => (At.cls0 hA0 hw).one) ?_))
  intro b1
  refine L.y rfl (Y.assign rfl) ?_
  refine L.y rfl (Y.assign rfl) ?_
  refine L.nil (E.thenN (W.seq (W.region (L.y rfl (Y.loadP (i := 0) ag22 rfl rfl rfl) ?_))))
  obtain ⟨l2, e4, h⟩ := bind1S h
  refine L.does rfl en16 rfl (fun w' hw => w16_quirref_Edges a0 u0 w' _ e4 (hA0.cls0 hw)) ?_
  rintro v3 _ ⟨_, rfl, rfl⟩
  obtain ⟨l5, b7, e8, h⟩ := bind2S h
  refine L.does rfl en46 rfl (fun w' hw => w46_quirref_Order 12 l2 v3 w' _ e8 (As.at_ (hw.get (i := 0) rfl))) ?_
  rintro _ _ ⟨v6, rfl, rfl⟩
  refine L.y rfl (Y.move rfl) ?_
  refine L.y rfl (Y.extract rfl rfl) ?_
  refine L.y rfl (Y.extract rfl rfl) ?_
  refine L.y rfl (Y.assign rfl) ?_
  refine L.y rfl (Y.assign rfl) ?_
  refine L.nil (E.thenN (W.seq (W.region (L.y rfl (Y.move rfl) ?_))))
  refine L.y rfl (Y.func rfl) ?_
  refine L.callJ (fun v D => ∃ (gv1 : Value) (gl2 : (List Int)), v = gv1 ∧ D = Cls w [] [.obj b1 [u0] 22, .sl gv1 3 1 (gl2.map I), .sl v6 3 1 (l5.map I), .sl v3 40 2 (l2.map TEdge.row)] ∧ m13_quirref_Serial_K1 b7 gl2 = some r) rfl en47 rfl Try.func47 rfl rfl rfl ?_ ?_
  ·
   refine W.seq (W.region (L.y rfl (Y.assign rfl) ?_))
   refine L.nil (E.thenN (W.seq (W.region (L.y rfl (Y.assign rfl) ?_))))
   refine L.nil (E.thenN (W.seqJ (fun gs D => ∃ (gv3 : Value) (gl4 : (List Int)), gs = [(5, gv3)] ∧ D = Cls w [] [.obj b1 [u0] 22, .sl gv3 3 1 (gl4.map I), .sl v6 3 1 (l5.map I), .sl v3 40 2 (l2.map TEdge.row)] ∧ m13_quirref_Serial_K2 b7 gl4 = some r) ?_ ?_))
   ·
    refine W.seq (W.region (L.y rfl (Y.move rfl) ?_))
    refine L.y rfl (Y.lenM (g := I) (l := l5) Try.underlying28 rfl (fun w hw => As.at_ (hw.get (i := 0) rfl))) ?_
    refine L.y rfl (Y.move rfl) ?_
    refine L.nil (E.thenN (W.block (W.nilSl 3 1 ?_)))
    refine W.loopJ (fun m gs D => ∃ (gv5 : Value) (gl6 : (List Int)) (gx7 : Int), gs = [(1, .func (.func 48) #[] #[pt b1 0]), (5, gv5), (8, v6), (9, .int .i64 (l5.length : Int)), (10, .int .i64 gx7)] ∧ D = Cls w [] [.obj b1 [u0] 22, .sl gv5 3 1 (gl6.map I), .sl v6 3 1 (l5.map I), .sl v3 40 2 (l2.map TEdge.row)] ∧ m13_quirref_Serial_L1 l5 a0 b7 m gl6 gx7 = some r) ⟨.slice none 0 0, [], 0, rfl, rfl, h⟩ ⟨rfl, rfl, rfl, rfl, rfl, trivial⟩ (fun _ hw => hw.sel [3, 0, 1, 2] (by decide) rfl) ?_
    rintro m _ _ ⟨gv5, gl6, gx7, rfl, rfl, h⟩
    rcases m with _ | m
    · rw [m13_quirref_Serial_L1] at h; cases h
    rw [m13_quirref_Serial_L1] at h
    generalize hg1 : m13_quirref_Serial_L1 l5 a0 b7 m = go1 at h
    rw [m13_quirref_Serial_L1B] at h
    refine W.seq (W.region (L.ite h rfl (Y.lss rfl rfl) (fun c9 h => ?_) (fun c9 h => ?_)))
    ·
     refine L.nil (E.thenN (W.seq (W.condT rfl ?_)))
     refine W.skip (E.thenN (W.seq (W.block (W.seq (W.region (L.m (V := fun _ => el v6 (gx7.toNat * 1)) h rfl (Y.indexM (g := I) (l := l5) Try.underlying28 sz3 rfl rfl (fun w hw => As.at_ (hw.get (i := 2) rfl))) (fun x10 ex10 h => ?_)))))))
     refine L.y rfl (Y.loadE1 (u := .int .i64 x10) ag3 rfl (fun w hw => As.at_ (hw.get (i := 2) rfl)) (idx_map ex10)) ?_
     refine L.y rfl (Y.assign rfl) ?_
     refine L.nil (E.thenN (W.seq (W.region (L.y rfl (Y.move rfl) ?_))))
     refine L.y rfl (Y.move rfl) ?_
     refine L.callVJ (fun v D => ∃ (gb8 : Bool), v = .bool gb8 ∧ D = Cls w [] [.obj b1 [u0] 22, .sl gv5 3 1 (gl6.map I), .sl v6 3 1 (l5.map I), .sl v3 40 2 (l2.map TEdge.row)] ∧ m13_quirref_Serial_K3 gl6 x10 gx7 go1 gb8 = some r) rfl en48 rfl rfl Try.func48 rfl rfl rfl ?_ ?_
     ·
      refine W.seq (W.region (L.y rfl (Y.assign rfl) ?_))
      refine L.nil (E.thenN (W.seq (W.region (L.y rfl (Y.loadP (i := 0) ag22 rfl rfl rfl) ?_))))
      refine L.y rfl (Y.move rfl) ?_
      obtain ⟨b16, e17, h⟩ := bind1S h
      refine L.y rfl (Y.does en49 rfl (fun w' hw => (w49_quirref_has a0 x10 3 u0 w' _ e17 (hA0.cls0 hw)).mono (fun _ _ h => h.1))) ?_
      refine L.y rfl (Y.assign rfl) ?_
      refine L.nil (E.thenN (W.ret (E.ret1 rfl rfl (fun w1 hw => ?_))))
      exact ⟨_, _, rfl, ⟨b16, rfl, rfl, h⟩, hw⟩
     ·
      rintro _ _ ⟨gb8, rfl, rfl, h⟩
      rw [m13_quirref_Serial_K3] at h
      rcases gb8 with _ | _
      ·
       replace h := iteF h
       refine L.nil (E.thenN (W.condF rfl ?_))
       refine W.skip (E.blockN (E.thenN (W.region (L.m (V := fun x11 => .int .i64 x11) h rfl (Y.addM rfl rfl) (fun x11 ex11 h => ?_)))))
       refine L.y rfl (Y.move rfl) ?_
       exact L.nil (E.againJ ⟨gv5, gl6, x11, rfl, rfl, by rw [hg1]; exact h⟩ (Nat.lt_succ_self _) ⟨rfl, rfl, rfl, rfl, rfl, trivial⟩ (fun _ hw => hw))
      ·
       replace h := iteT h
       refine L.nil (E.thenN (W.condT rfl ?_))
       refine W.region (L.y rfl (Y.move rfl) ?_)
       refine L.y rfl (Y.move rfl) ?_
       refine L.litOne rfl Try.underlying28 el3 rfl rfl ?_
       intro b12
       refine L.appM (i := 2) (g := I) (l := gl6) (more := [x10]) h rfl Try.underlying28 el3 rfl rfl rfl (fun w hw => As.at_ (hw.get (i := 0) rfl)) (plain_ints _) rfl ?_
       intro v13 l14 el14 h
       refine L.y rfl (Y.assign rfl) ?_
       refine L.nil (E.blockN (E.thenN (W.region (L.m (V := fun x15 => .int .i64 x15) h rfl (Y.addM rfl rfl) (fun x15 ex15 h => ?_)))))
       refine L.y rfl (Y.move rfl) ?_
       exact L.nil (E.againJ ⟨v13, l14, x15, rfl, rfl, by rw [hg1]; exact h⟩ (Nat.lt_succ_self _) ⟨rfl, rfl, rfl, rfl, rfl, trivial⟩ (fun _ hw => hw.sel [2, 0, 3, 4] (by decide) rfl))
    ·
     refine L.nil (E.thenN (W.seq (W.condF rfl ?_)))
     exact W.exit (E.thenX (E.KLX (E.blockX (E.joinJ ⟨gv5, gl6, rfl, rfl, h⟩ ⟨rfl, trivial⟩ (fun _ hw => hw)))))
   ·
    rintro _ _ ⟨gv3, gl4, rfl, rfl, h⟩
    rw [m13_quirref_Serial_K2] at h
    refine W.seq (W.region (L.y rfl (Y.move rfl) ?_))
    refine L.y rfl (Y.assign rfl) ?_
    refine L.nil (E.thenN (W.ret (E.ret1 rfl rfl (fun w1 hw => ?_))))
    exact ⟨_, _, rfl, ⟨gv3, gl4, rfl, rfl, h⟩, hw⟩
  ·
   rintro gv1 _ ⟨_, gl2, rfl, rfl, h⟩
   rw [m13_quirref_Serial_K1] at h
   refine L.y rfl (Y.move rfl) ?_
   refine L.y rfl (Y.assign rfl) ?_
   refine L.y rfl (Y.assign rfl) ?_
   refine L.nil (E.thenN (W.ret (E.ret2 rfl rfl rfl (fun w1 hw => ?_))))
   obtain rfl := Option.some.inj h
   exact ⟨_, _, rfl, ⟨_, rfl, rfl⟩, hw.sel [1] (by decide) rfl⟩
set_option maxRecDepth 100000 in
set_option maxHeartbeats 8000000 in
theorem w14_slices_Equal_int (a0 : (List Int)) (a1 : (List Int)) (u0 : Value) (u1 : Value) (w : World) (r : Bool) (h : m14_slices_Equal_int a0 a1 = some r) (hA0 : At w u0 1 (a0.map I)) (hA1 : At w u1 1 (a1.map I)) : Does Try.prog 14 [u0, u1] w fun u m => u = .bool r ∧ m = [] := by
  rw [m14_slices_Equal_int] at h
  refine body (n := 26) Try.func14 rfl rfl rfl (Cls.refl w) ?_
  refine W.seq (W.region (L.y rfl (Y.assign rfl) ?_))
  refine L.nil (E.thenN (W.seqJ (fun gs D => gs = [(0, u0), (1, u1)] ∧ D = Cls w [] [] ∧ m14_slices_Equal_int_K1 a0 a1 = some r) ?_ ?_))
  ·
   refine W.seq (W.region (L.y rfl (Y.move rfl) ?_))
   refine L.y rfl (Y.lenM (g := I) (l := a0) Try.underlying28 rfl (fun w' hw => hA0.cls0 hw)) ?_
   refine L.y rfl (Y.move rfl) ?_
   refine L.y rfl (Y.lenM (g := I) (l := a1) Try.underlying28 rfl (fun w' hw => hA1.cls0 hw)) ?_
   refine L.ite h rfl (Y.neq rfl rfl) (fun c6 h => ?_) (fun c6 h => ?_)
   ·
    refine L.nil (E.thenN (W.condT rfl ?_))
    refine W.seq (W.region (L.y rfl (Y.assign rfl) ?_))
    refine L.nil (E.thenN (W.ret (E.KSR (E.ret1 rfl rfl (fun w1 hw => ?_)))))
    obtain rfl := Option.some.inj h
    exact ⟨_, _, rfl, ⟨rfl, rfl⟩, hw⟩
   ·
    refine L.nil (E.thenN (W.condF rfl ?_))
    exact W.skip (E.joinJ ⟨rfl, rfl, h⟩ ⟨rfl, rfl, trivial⟩ (fun _ hw => hw))
  ·
   rintro _ _ ⟨rfl, rfl, h⟩
   rw [m14_slices_Equal_int_K1] at h
   refine W.seqJ (fun gs D => gs = [] ∧ D = Cls w [] [] ∧ m14_slices_Equal_int_K2 = some r) ?_ ?_
   ·
    refine W.seq (W.region (L.y rfl (Y.move rfl) ?_))
    refine L.y rfl (Y.lenM (g := I) (l := a0) Try.underlying28 rfl (fun w' hw => hA0.cls0 hw)) ?_
    refine L.y rfl (Y.move rfl) ?_
    refine L.nil (E.thenN (W.block (W.loopJ (fun m gs D => ∃ (gx1 : Int), gs = [(0, u0), (1, u1), (12, .int .i64 (a0.length : Int)), (13, .int .i64 gx1)] ∧ D = Cls w [] [] ∧ m14_slices_Equal_int_L1 a0 a1 m gx1 = some r) ⟨0, rfl, rfl, h⟩ ⟨rfl, rfl, rfl, rfl, trivial⟩ (fun _ hw => hw) ?_)))
    rintro m _ _ ⟨gx1, rfl, rfl, h⟩
    rcases m with _ | m
    · rw [m14_slices_Equal_int_L1] at h; cases h
    rw [m14_slices_Equal_int_L1] at h
    generalize hg1 : m14_slices_Equal_int_L1 a0 a1 m = go1 at h
    rw [m14_slices_Equal_int_L1B] at h
    refine W.seq (W.region (L.ite h rfl (Y.lss rfl rfl) (fun c1 h => ?_) (fun c1 h => ?_)))
    ·
     refine L.nil (E.thenN (W.seq (W.condT rfl ?_)))
     refine W.skip (E.thenN (W.seq (W.block (W.seq (W.region (L.y rfl (Y.move rfl) ?_))))))
     refine L.y rfl (Y.assign rfl) ?_
     refine L.nil (E.thenN (W.seq (W.quietC mixed (by kernel_rfl) (fun _ hw => hw.drew) (fun hC => ?_))))
     refine U.y rfl (Y.move rfl) ?_
     refine U.y rfl (Y.move rfl) ?_
     refine U.m (V := fun _ => el u0 (gx1.toNat * 1)) h rfl (Y.indexM (g := I) (l := a0) Try.underlying28 sz3 rfl rfl (fun w' hw => hA0.cls0 hw)) (fun x2 ex2 h => ?_)
     refine U.y rfl (Y.loadE1 (u := .int .i64 x2) ag3 rfl (fun w' hw => hA0.cls0 hw) (idx_map ex2)) ?_
     refine U.y rfl (Y.move rfl) ?_
     refine U.y rfl (Y.move rfl) ?_
     refine U.m (V := fun _ => el u1 (gx1.toNat * 1)) h rfl (Y.indexM (g := I) (l := a1) Try.underlying28 sz3 rfl rfl (fun w' hw => hA1.cls0 hw)) (fun x3 ex3 h => ?_)
     refine U.y rfl (Y.loadE1 (u := .int .i64 x3) ag3 rfl (fun w' hw => hA1.cls0 hw) (idx_map ex3)) ?_
     refine U.ite h rfl (Y.neq rfl rfl) (fun c4 h => ?_) (fun c4 h => ?_)
     ·
      refine U.nil (E.thenN (W.condT rfl ?_))
      refine W.seq (W.region (L.y rfl (Y.assign rfl) ?_))
      refine L.nil (E.thenN (W.ret (E.blockR (E.thenR (E.KLR (E.blockR (E.KSR (E.ret1 rfl rfl (fun w1 hw => ?_)))))))))
      obtain rfl := Option.some.inj h
      exact ⟨_, _, rfl, ⟨rfl, rfl⟩, hw⟩
     ·
      refine U.nil (E.thenN (W.condF rfl ?_))
      refine W.skip (E.blockN (E.thenN (W.region (L.m (V := fun x5 => .int .i64 x5) h rfl (Y.addM rfl rfl) (fun x5 ex5 h => ?_)))))
      refine L.y rfl (Y.move rfl) ?_
      exact L.nil (E.againJ ⟨x5, rfl, rfl, by rw [hg1]; exact h⟩ (Nat.lt_succ_self _) ⟨rfl, rfl, rfl, rfl, trivial⟩ (fun _ hw => hw))
    ·
     refine L.nil (E.thenN (W.seq (W.condF rfl ?_)))
     exact W.exit (E.thenX (E.KLX (E.blockX (E.joinJ ⟨rfl, rfl, h⟩ trivial (fun _ hw => hw)))))
   ·
    rintro _ _ ⟨rfl, rfl, h⟩
    rw [m14_slices_Equal_int_K2] at h
    refine W.seq (W.region (L.y rfl (Y.assign rfl) ?_))
    refine L.nil (E.thenN (W.ret (E.ret1 rfl rfl (fun w1 hw => ?_))))
    obtain rfl := Option.some.inj h
    exact ⟨_, _, rfl, ⟨rfl, rfl⟩, hw⟩
set_option maxRecDepth 100000 in
set_option maxHeartbeats 8000000 in
theorem w15_api_Edge (a0 : (List TEdge)) (a1 : (List TEdge)) (u0 : Value) (u1 : Value) (w : World) (r : Bool) (h : m15_api_Edge a0 a1 = some r) (hA0 : At w u0 2 (a0.map TEdge.row)) (hA1 : At w u1 2 (a1.map TEdge.row)) : Does Try.prog 15 [u0, u1] w fun u m => u = .bool r ∧ m = [] := by
  rw [m15_api_Edge] at h
  refine body (n := 26) Try.func15 rfl rfl rfl (Cls.refl w) ?_
  refine W.seq (W.region (L.y rfl (Y.assign rfl) ?_))
  refine L.nil (E.thenN (W.seqJ (fun gs D => gs = [(0, u0), (1, u1)] ∧ D = Cls w [] [] ∧ m15_api_Edge_K1 a0 a1 = some r) ?_ ?_))
  ·
   refine W.seq (W.region (L.y rfl (Y.move rfl) ?_))
   refine L.y rfl (Y.lenM (g := TEdge.row) (l := a0) Try.underlying25 rfl (fun w' hw => hA0.cls0 hw)) ?_
   refine L.y rfl (Y.move rfl) ?_
   refine L.y rfl (Y.lenM (g := TEdge.row) (l := a1) Try.underlying25 rfl (fun w' hw => hA1.cls0 hw)) ?_
   refine L.ite h rfl (Y.neq rfl rfl) (fun c6 h => ?_) (fun c6 h => ?_)
   ·
    refine L.nil (E.thenN (W.condT rfl ?_))
    refine W.seq (W.region (L.y rfl (Y.assign rfl) ?_))
    refine L.nil (E.thenN (W.ret (E.KSR (E.ret1 rfl rfl (fun w1 hw => ?_)))))
    obtain rfl := Option.some.inj h
    exact ⟨_, _, rfl, ⟨rfl, rfl⟩, hw⟩
   ·
    refine L.nil (E.thenN (W.condF rfl ?_))
    exact W.skip (E.joinJ ⟨rfl, rfl, h⟩ ⟨rfl, rfl, trivial⟩ (fun _ hw => hw))
  ·
   rintro _ _ ⟨rfl, rfl, h⟩
   rw [m15_api_Edge_K1] at h
   refine W.seqJ (fun gs D => gs = [] ∧ D = Cls w [] [] ∧ m15_api_Edge_K2 = some r) ?_ ?_
   ·
    refine W.seq (W.region (L.y rfl (Y.move rfl) ?_))
    refine L.y rfl (Y.lenM (g := TEdge.row) (l := a0) Try.underlying25 rfl (fun w' hw => hA0.cls0 hw)) ?_
    refine L.y rfl (Y.move rfl) ?_
    refine L.nil (E.thenN (W.block (W.loopJ (fun m gs D => ∃ (gx1 : Int), gs = [(0, u0), (1, u1), (12, .int .i64 (a0.length : Int)), (13, .int .i64 gx1)] ∧ D = Cls w [] [] ∧ m15_api_Edge_L1 a0 a1 m gx1 = some r) ⟨0, rfl, rfl, h⟩ ⟨rfl, rfl, rfl, rfl, trivial⟩ (fun _ hw => hw) ?_)))
    rintro m _ _ ⟨gx1, rfl, rfl, h⟩
    rcases m with _ | m
    · rw [m15_api_Edge_L1] at h; cases h
    rw [m15_api_Edge_L1] at h
    generalize hg1 : m15_api_Edge_L1 a0 a1 m = go1 at h
    rw [m15_api_Edge_L1B] at h
    refine W.seq (W.region (L.ite h rfl (Y.lss rfl rfl) (fun c1 h => ?_) (fun c1 h => ?_)))
    ·
     refine L.nil (E.thenN (W.seq (W.condT rfl ?_)))
     refine W.skip (E.thenN (W.seq (W.block (W.seq (W.region (L.y rfl (Y.move rfl) ?_))))))
     refine L.y rfl (Y.assign rfl) ?_
     refine L.nil (E.thenN (W.seq (W.quietC mixed (by kernel_rfl) (fun _ hw => hw.drew) (fun hC => ?_))))
     refine U.y rfl (Y.move rfl) ?_
     refine U.y rfl (Y.move rfl) ?_
     refine U.m (V := fun _ => el u0 (gx1.toNat * 2)) h rfl (Y.indexM (g := TEdge.row) (l := a0) Try.underlying25 sz40 rfl rfl (fun w' hw => hA0.cls0 hw)) (fun x2 ex2 h => ?_)
     refine U.y rfl (Y.loadEN (r := [.int .i64 x2.From, .int .i64 x2.To]) ag40 sz40 rfl (fun w' hw => hA0.cls0 hw) (idx_map ex2) rfl) ?_
     refine U.y rfl (Y.move rfl) ?_
     refine U.y rfl (Y.move rfl) ?_
     refine U.m (V := fun _ => el u1 (gx1.toNat * 2)) h rfl (Y.indexM (g := TEdge.row) (l := a1) Try.underlying25 sz40 rfl rfl (fun w' hw => hA1.cls0 hw)) (fun x3 ex3 h => ?_)
     refine U.y rfl (Y.loadEN (r := [.int .i64 x3.From, .int .i64 x3.To]) ag40 sz40 rfl (fun w' hw => hA1.cls0 hw) (idx_map ex3) rfl) ?_
     refine U.ite h rfl (Y.neqA (row := TEdge.row) (a := x2) (b := x3) eg40 ag40 (sh40 _) (sh40 _) (inj40 _ _) rfl rfl) (fun c4 h => ?_) (fun c4 h => ?_)
     ·
      refine U.nil (E.thenN (W.condT rfl ?_))
      refine W.seq (W.region (L.y rfl (Y.assign rfl) ?_))
      refine L.nil (E.thenN (W.ret (E.blockR (E.thenR (E.KLR (E.blockR (E.KSR (E.ret1 rfl rfl (fun w1 hw => ?_)))))))))
      obtain rfl := Option.some.inj h
      exact ⟨_, _, rfl, ⟨rfl, rfl⟩, hw⟩
     ·
      refine U.nil (E.thenN (W.condF rfl ?_))
      refine W.skip (E.blockN (E.thenN (W.region (L.m (V := fun x5 => .int .i64 x5) h rfl (Y.addM rfl rfl) (fun x5 ex5 h => ?_)))))
      refine L.y rfl (Y.move rfl) ?_
      exact L.nil (E.againJ ⟨x5, rfl, rfl, by rw [hg1]; exact h⟩ (Nat.lt_succ_self _) ⟨rfl, rfl, rfl, rfl, trivial⟩ (fun _ hw => hw))
    ·
     refine L.nil (E.thenN (W.seq (W.condF rfl ?_)))
     exact W.exit (E.thenX (E.KLX (E.blockX (E.joinJ ⟨rfl, rfl, h⟩ trivial (fun _ hw => hw)))))
   ·
    rintro _ _ ⟨rfl, rfl, h⟩
    rw [m15_api_Edge_K2] at h
    refine W.seq (W.region (L.y rfl (Y.assign rfl) ?_))
    refine L.nil (E.thenN (W.ret (E.ret1 rfl rfl (fun w1 hw => ?_))))
    obtain rfl := Option.some.inj h
    exact ⟨_, _, rfl, ⟨rfl, rfl⟩, hw⟩
set_option maxRecDepth 100000 in
set_option maxHeartbeats 8000000 in
theorem w51_quirref_writer (a0 : (List TOp)) (a1 : Int) (a2 : Int) (u0 : Value) (w : World) (r : Int) (h : m51_quirref_writer a0 a1 a2 = some r) (hA0 : At w u0 3 (a0.map TOp.row)) : Does Try.prog 51 [u0, .int .i64 a1, .int .i64 a2] w fun u m => u = .int .i64 r ∧ m = [] := by
  rw [m51_quirref_writer] at h
  refine body (n := 38) Try.func51 rfl rfl rfl (Cls.refl w) ?_
  refine W.seq (W.region (L.y rfl (Y.assign rfl) ?_))
  refine L.nil (E.thenN (W.seqJ (fun gs D => gs = [] ∧ D = Cls w [] [] ∧ m51_quirref_writer_K1 = some r) ?_ ?_))
  ·
   refine W.seq (W.region (L.y rfl (Y.move rfl) ?_))
   refine L.m (V := fun x1 => .int .i64 x1) h rfl (Y.subM rfl rfl) (fun x1 ex1 h => ?_)
   refine L.y rfl (Y.assign rfl) ?_
   refine L.nil (E.thenN (W.block (W.loopJ (fun m gs D => ∃ (gx1 : Int), gs = [(0, u0), (1, .int .i64 a1), (2, .int .i64 a2), (7, .int .i64 gx1)] ∧ D = Cls w [] [] ∧ m51_quirref_writer_L1 a0 a2 a1 m gx1 = some r) ⟨x1, rfl, rfl, h⟩ ⟨rfl, rfl, rfl, rfl, trivial⟩ (fun _ hw => hw) ?_)))
   rintro m _ _ ⟨gx1, rfl, rfl, h⟩
   rcases m with _ | m
   · rw [m51_quirref_writer_L1] at h; cases h
   rw [m51_quirref_writer_L1] at h
   generalize hg1 : m51_quirref_writer_L1 a0 a2 a1 m = go1 at h
   rw [m51_quirref_writer_L1B] at h
   refine W.seqJ (fun gs D => gs = [(0, u0), (1, .int .i64 a1), (2, .int .i64 a2), (7, .int .i64 gx1)] ∧ D = Cls w [] [] ∧ m51_quirref_writer_K2 a0 gx1 a2 a1 go1 = some r) ?_ ?_
   ·
    refine W.seq (W.region (L.y rfl (Y.move rfl) ?_))
    refine L.ite h rfl (Y.geq rfl rfl) (fun c11 h => ?_) (fun c11 h => ?_)
    ·
     refine L.nil (E.thenN (W.condT rfl ?_))
     exact W.skip (E.joinJ ⟨rfl, rfl, h⟩ ⟨rfl, rfl, rfl, rfl, trivial⟩ (fun _ hw => hw))
    ·
     refine L.nil (E.thenN (W.condF rfl ?_))
     exact W.exit (E.KSX (E.KLX (E.blockX (E.joinJ ⟨rfl, rfl, h⟩ trivial (fun _ hw => hw)))))
   ·
    rintro _ _ ⟨rfl, rfl, h⟩
    rw [m51_quirref_writer_K2] at h
    refine W.seq (W.block (W.seq (W.region (L.y rfl (Y.move rfl) ?_))))
    refine L.y rfl (Y.move rfl) ?_
    refine L.m (V := fun _ => el u0 (gx1.toNat * 3)) h rfl (Y.indexM (g := TOp.row) (l := a0) Try.underlying22 sz83 rfl rfl (fun w' hw => hA0.cls0 hw)) (fun x2 ex2 h => ?_)
    refine L.y rfl (Y.loadEN (r := [.int .i64 x2.Tx, .int .i64 x2.Kind, .int .i64 x2.Item]) ag83 sz83 rfl (fun w' hw => hA0.cls0 hw) (idx_map ex2) rfl) ?_
    refine L.alloc rfl ze83 ?_
    intro b3
    refine L.store (i := 0) sz83 rfl rfl rfl rfl (by simp [Value.oneCell', Value.cells, st]) rfl (Nat.le_of_ble_eq_true rfl) ?_
    refine L.nil (E.thenN (W.seq (W.quietC mixed (by kernel_rfl) (fun _ hw => hw.drew) (fun hC => ?_))))
    refine U.cutJ hC 9 (fun gs => ∃ (gb2 : Bool), gs = [(0, u0), (1, .int .i64 a1), (2, .int .i64 a2), (7, .int .i64 gx1), (8, pt b3 0), (27, .bool gb2)] ∧ m51_quirref_writer_K3 a0 a1 x2 gx1 go1 gb2 = some r) ?_ ?_
    ·
     refine U.y rfl (Y.fieldP fd83_1 rfl) ?_
     refine U.y rfl (Y.loadP (i := 0) ag3 rfl rfl rfl) ?_
     refine U.ite h rfl (Y.eql rfl rfl) (fun c9 h => ?_) (fun c9 h => ?_)
     ·
      refine U.y rfl (Y.move rfl) ?_
      refine U.take rfl (U.y rfl (Y.fieldP fd83_2 rfl) ?_)
      refine U.take rfl (U.y rfl (Y.loadP (i := 0) ag3 rfl rfl rfl) ?_)
      refine U.take rfl (U.y rfl (Y.move rfl) ?_)
      refine U.take rfl (U.ite h rfl (Y.eql rfl rfl) (fun c10 h => ?_) (fun c10 h => ?_))
      ·
       refine U.y rfl (Y.pickT rfl rfl) ?_
       exact U.nil (E.joinU ⟨true, rfl, h⟩ ⟨rfl, rfl, rfl, rfl, rfl, rfl, trivial⟩)
      ·
       refine U.y rfl (Y.pickT rfl rfl) ?_
       exact U.nil (E.joinU ⟨false, rfl, h⟩ ⟨rfl, rfl, rfl, rfl, rfl, rfl, trivial⟩)
     ·
      refine U.y rfl (Y.move rfl) ?_
      refine U.pass rfl rfl (by nofun) ?_
      refine U.pass rfl rfl (by nofun) ?_
      refine U.pass rfl rfl (by nofun) ?_
      refine U.pass rfl rfl (by nofun) ?_
      refine U.y rfl (Y.pickF rfl rfl) ?_
      exact U.nil (E.joinU ⟨false, rfl, h⟩ ⟨rfl, rfl, rfl, rfl, rfl, rfl, trivial⟩)
    ·
     rintro _ ⟨gb2, rfl, h⟩
     rw [m51_quirref_writer_K3] at h
     rcases gb2 with _ | _
     ·
      replace h := iteF h
      refine U.y rfl (Y.move rfl) ?_
      refine U.pass rfl rfl (by nofun) ?_
      refine U.pass rfl rfl (by nofun) ?_
      refine U.pass rfl rfl (by nofun) ?_
      refine U.pass rfl rfl (by nofun) ?_
      refine U.pass rfl rfl (by nofun) ?_
      refine U.pass rfl rfl (by nofun) ?_
      refine U.pass rfl rfl (by nofun) ?_
      refine U.y rfl (Y.pickF rfl rfl) ?_
      refine U.nil (E.thenN (W.condF rfl ?_))
      refine W.skip (E.blockN (E.thenN (W.region (L.y rfl (Y.move rfl) ?_))))
      refine L.m (V := fun x4 => .int .i64 x4) h rfl (Y.subM rfl rfl) (fun x4 ex4 h => ?_)
      refine L.y rfl (Y.assign rfl) ?_
      exact L.nil (E.againJ ⟨x4, rfl, rfl, by rw [hg1]; exact h⟩ (Nat.lt_succ_self _) ⟨rfl, rfl, rfl, rfl, trivial⟩ (fun _ hw => hw.sel [] (by decide) rfl))
     ·
      replace h := iteT h
      refine U.y rfl (Y.move rfl) ?_
      refine U.take rfl (U.y rfl (Y.move rfl) ?_)
      refine U.take rfl (U.y rfl (Y.move rfl) ?_)
      refine U.take rfl (U.m (V := fun _ => cutv u0 a1.toNat) h rfl (Y.cutM (g := TOp.row) Try.underlying22 sz83 rfl rfl (fun w' hw => hA0.cls0 hw)) (fun l5 el5 h => ?_))
      refine U.take rfl (U.y rfl (Y.fieldP fd83_0 rfl) ?_)
      refine U.take rfl (U.y rfl (Y.loadP (i := 0) ag3 rfl rfl rfl) ?_)
      refine U.take rfl ?_
      obtain ⟨b6, e7, h⟩ := bind1S h
      refine U.y rfl (Y.does en49 rfl (fun w' hw => (w49_quirref_has l5 x2.Tx 4 (cutv u0 a1.toNat) w' _ e7 ((At.cutM hA0 el5).cls0 hw)).mono (fun _ _ h => h.1))) ?_
      rcases b6 with _ | _
      ·
       replace h := iteF h
       refine U.take rfl (U.y rfl (Y.not rfl) ?_)
       refine U.y rfl (Y.pickT rfl rfl) ?_
       refine U.nil (E.thenN (W.condT rfl ?_))
       refine W.seq (W.region (L.y rfl (Y.move rfl) ?_))
       refine L.y rfl (Y.assign rfl) ?_
       refine L.nil (E.thenN (W.ret (E.blockR (E.thenR (E.KLR (E.blockR (E.KSR (E.ret1 rfl rfl (fun w1 hw => ?_)))))))))
       obtain rfl := Option.some.inj h
       exact ⟨_, _, rfl, ⟨rfl, rfl⟩, hw.sel [] (by decide) rfl⟩
      ·
       replace h := iteT h
       refine U.take rfl (U.y rfl (Y.not rfl) ?_)
       refine U.y rfl (Y.pickT rfl rfl) ?_
       refine U.nil (E.thenN (W.condF rfl ?_))
       refine W.skip (E.blockN (E.thenN (W.region (L.y rfl (Y.move rfl) ?_))))
       refine L.m (V := fun x8 => .int .i64 x8) h rfl (Y.subM rfl rfl) (fun x8 ex8 h => ?_)
       refine L.y rfl (Y.assign rfl) ?_
       exact L.nil (E.againJ ⟨x8, rfl, rfl, by rw [hg1]; exact h⟩ (Nat.lt_succ_self _) ⟨rfl, rfl, rfl, rfl, trivial⟩ (fun _ hw => hw.sel [] (by decide) rfl))
  ·
   rintro _ _ ⟨rfl, rfl, h⟩
   rw [m51_quirref_writer_K1] at h
   refine W.seq (W.region (L.y rfl (Y.assign rfl) ?_))
   refine L.nil (E.thenN (W.ret (E.ret1 rfl rfl (fun w1 hw => ?_))))
   obtain rfl := Option.some.inj h
   exact ⟨_, _, rfl, ⟨rfl, rfl⟩, hw⟩
set_option maxRecDepth 100000 in
set_option maxHeartbeats 8000000 in
theorem w17_quirref_Kinds (a0 : (List TOp)) (u0 : Value) (w : World) (r : TRunKind) (h : m17_quirref_Kinds a0 = some r) (hA0 : At w u0 3 (a0.map TOp.row)) : Does Try.prog 17 [u0] w fun u m => u = .agg #[.bool r.Recoverable, .bool r.Cascadeless, .bool r.Strict] ∧ m = [] := by
  rw [m17_quirref_Kinds] at h
  refine body (n := 112) Try.func17 rfl rfl rfl (Cls.refl w) ?_
  refine W.seq (W.region (L.alloc rfl ze32 ?_))
  intro b1
  refine L.nil (E.thenN (W.seq (W.region (L.y rfl (Y.build (cells := #[.bool true, .bool true, .bool true]) rfl (by kernel_rfl)) ?_))))
  refine L.alloc rfl ze32 ?_
  intro b2
  refine L.store (i := 0) sz32 rfl rfl rfl rfl (by simp [Value.oneCell', Value.cells, st]) rfl (Nat.le_of_ble_eq_true rfl) ?_
  refine L.nil (E.thenN (W.seqJ (fun gs D => ∃ (gb1 : Bool) (gb2 : Bool) (gb3 : Bool), gs = [(2, pt b1 0), (3, pt b2 0)] ∧ D = Cls w [] [.obj b2 [.bool gb1, .bool gb2, .bool gb3] 32, .obj b1 [.bool false, .bool false, .bool false] 32] ∧ m17_quirref_Kinds_K1 gb1 gb2 gb3 = some r) ?_ ?_))
  ·
   refine W.seq (W.region (L.y rfl (Y.move rfl) ?_))
   refine L.y rfl (Y.lenM (g := TOp.row) (l := a0) Try.underlying22 rfl (fun w' hw => hA0.cls0 hw)) ?_
   refine L.y rfl (Y.move rfl) ?_
   refine L.nil (E.thenN (W.block (W.loopJ (fun m gs D => ∃ (gx4 : Int) (gb5 : Bool) (gb6 : Bool) (gb7 : Bool), gs = [(0, u0), (2, pt b1 0), (3, pt b2 0), (11, u0), (12, .int .i64 (a0.length : Int)), (13, .int .i64 gx4)] ∧ D = Cls w [] [.obj b2 [.bool gb5, .bool gb6, .bool gb7] 32, .obj b1 [.bool false, .bool false, .bool false] 32] ∧ m17_quirref_Kinds_L1 a0 m gx4 gb5 gb6 gb7 = some r) ⟨0, true, true, true, rfl, rfl, h⟩ ⟨rfl, rfl, rfl, rfl, rfl, rfl, trivial⟩ (fun _ hw => hw) ?_)))
   rintro m _ _ ⟨gx4, gb5, gb6, gb7, rfl, rfl, h⟩
   rcases m with _ | m
   · rw [m17_quirref_Kinds_L1] at h; cases h
   rw [m17_quirref_Kinds_L1] at h
   generalize hg1 : m17_quirref_Kinds_L1 a0 m = go1 at h
   rw [m17_quirref_Kinds_L1B] at h
   refine W.seq (W.region (L.ite h rfl (Y.lss rfl rfl) (fun c3 h => ?_) (fun c3 h => ?_)))
   ·
    refine L.nil (E.thenN (W.seq (W.condT rfl ?_)))
    refine W.skip (E.thenN (W.seqJ (fun gs D => ∃ (gb8 : Bool) (gb9 : Bool) (gb10 : Bool), gs = [(0, u0), (2, pt b1 0), (3, pt b2 0), (11, u0), (12, .int .i64 (a0.length : Int)), (13, .int .i64 gx4)] ∧ D = Cls w [] [.obj b2 [.bool gb8, .bool gb9, .bool gb10] 32, .obj b1 [.bool false, .bool false, .bool false] 32] ∧ m17_quirref_Kinds_K2 gx4 go1 gb8 gb9 gb10 = some r) ?_ ?_))
    ·
     refine W.block (W.seq (W.region (L.y rfl (Y.move rfl) ?_)))
     refine L.m (V := fun _ => el u0 (gx4.toNat * 3)) h rfl (Y.indexM (g := TOp.row) (l := a0) Try.underlying22 sz83 rfl rfl (fun w' hw => hA0.cls0 hw)) (fun x5 ex5 h => ?_)
     refine L.y rfl (Y.loadEN (r := [.int .i64 x5.Tx, .int .i64 x5.Kind, .int .i64 x5.Item]) ag83 sz83 rfl (fun w' hw => hA0.cls0 hw) (idx_map ex5) rfl) ?_
     refine L.alloc rfl ze83 ?_
     intro b6
     refine L.y rfl (Y.assign rfl) ?_
     refine L.store (i := 0) sz83 rfl rfl rfl rfl (by simp [Value.oneCell', Value.cells, st]) rfl (Nat.le_of_ble_eq_true rfl) ?_
     refine L.nil (E.thenN (W.seqJ (fun gs D => ∃ (gb11 : Bool), gs = [(0, u0), (2, pt b1 0), (3, pt b2 0), (4, .int .i64 gx4), (5, pt b6 0), (11, u0), (12, .int .i64 (a0.length : Int)), (13, .int .i64 gx4)] ∧ D = Cls w [] [.obj b6 [.int .i64 x5.Tx, .int .i64 x5.Kind, .int .i64 x5.Item] 83, .obj b2 [.bool gb11, .bool gb6, .bool gb7] 32, .obj b1 [.bool false, .bool false, .bool false] 32] ∧ m17_quirref_Kinds_K3 x5 gx4 go1 gb6 gb7 a0 gb11 = some r) ?_ ?_))
     ·
      refine W.seq (W.region (L.y rfl (Y.fieldP fd83_1 rfl) ?_))
      refine L.y rfl (Y.loadP (i := 0) ag3 rfl rfl rfl) ?_
      refine L.ite h rfl (Y.eql rfl rfl) (fun c18 h => ?_) (fun c18 h => ?_)
      ·
       refine L.nil (E.thenN (W.condT rfl ?_))
       refine W.seq (W.region (L.y rfl (Y.move rfl) ?_))
       refine L.y rfl (Y.move rfl) ?_
       refine L.m (V := fun _ => cutv u0 gx4.toNat) h rfl (Y.cutM (g := TOp.row) Try.underlying22 sz83 rfl rfl (fun w' hw => hA0.cls0 hw)) (fun l19 el19 h => ?_)
       refine L.y rfl (Y.lenM (g := TOp.row) (l := l19) Try.underlying22 rfl (fun w' hw => (At.cutM hA0 el19).cls0 hw)) ?_
       refine L.y rfl (Y.move rfl) ?_
       refine L.nil (E.thenN (W.block (W.loopJ (fun m gs D => ∃ (gx12 : Int) (gb13 : Bool), gs = [(0, u0), (2, pt b1 0), (3, pt b2 0), (4, .int .i64 gx4), (5, pt b6 0), (11, u0), (12, .int .i64 (a0.length : Int)), (13, .int .i64 gx4), (23, cutv u0 gx4.toNat), (24, .int .i64 (l19.length : Int)), (25, .int .i64 gx12)] ∧ D = Cls w [] [.obj b6 [.int .i64 x5.Tx, .int .i64 x5.Kind, .int .i64 x5.Item] 83, .obj b2 [.bool gb13, .bool gb6, .bool gb7] 32, .obj b1 [.bool false, .bool false, .bool false] 32] ∧ m17_quirref_Kinds_L2 l19 x5 a0 gx4 go1 gb6 gb7 m gx12 gb13 = some r) ⟨0, gb5, rfl, rfl, h⟩ ⟨rfl, rfl, rfl, rfl, rfl, rfl, rfl, rfl, rfl, rfl, rfl, trivial⟩ (fun _ hw => hw) ?_)))
       rintro m _ _ ⟨gx12, gb13, rfl, rfl, h⟩
       rcases m with _ | m
       · rw [m17_quirref_Kinds_L2] at h; cases h
       rw [m17_quirref_Kinds_L2] at h
       generalize hg2 : m17_quirref_Kinds_L2 l19 x5 a0 gx4 go1 gb6 gb7 m = go2 at h
       rw [m17_quirref_Kinds_L2B] at h
       refine W.seq (W.region (L.ite h rfl (Y.lss rfl rfl) (fun c20 h => ?_) (fun c20 h => ?_)))
       ·
        refine L.nil (E.thenN (W.seq (W.condT rfl ?_)))
        refine W.skip (E.thenN (W.seq (W.block (W.seq (W.region (L.y rfl (Y.move rfl) ?_))))))
        refine L.m (V := fun _ => el (cutv u0 gx4.toNat) (gx12.toNat * 3)) h rfl (Y.indexM (g := TOp.row) (l := l19) Try.underlying22 sz83 rfl rfl (fun w' hw => (At.cutM hA0 el19).cls0 hw)) (fun x21 ex21 h => ?_)
        refine L.y rfl (Y.loadEN (r := [.int .i64 x21.Tx, .int .i64 x21.Kind, .int .i64 x21.Item]) ag83 sz83 rfl (fun w' hw => (At.cutM hA0 el19).cls0 hw) (idx_map ex21) rfl) ?_
        refine L.alloc rfl ze83 ?_
        intro b22
        refine L.y rfl (Y.assign rfl) ?_
        refine L.store (i := 0) sz83 rfl rfl rfl rfl (by simp [Value.oneCell', Value.cells, st]) rfl (Nat.le_of_ble_eq_true rfl) ?_
        refine L.nil (E.thenN (W.seqJ (fun gs D => gs = [(0, u0), (2, pt b1 0), (3, pt b2 0), (4, .int .i64 gx4), (5, pt b6 0), (6, .int .i64 gx12), (7, pt b22 0), (11, u0), (12, .int .i64 (a0.length : Int)), (13, .int .i64 gx4), (23, cutv u0 gx4.toNat), (24, .int .i64 (l19.length : Int)), (25, .int .i64 gx12)] ∧ D = Cls w [] [.obj b22 [.int .i64 x21.Tx, .int .i64 x21.Kind, .int .i64 x21.Item] 83, .obj b6 [.int .i64 x5.Tx, .int .i64 x5.Kind, .int .i64 x5.Item] 83, .obj b2 [.bool gb13, .bool gb6, .bool gb7] 32, .obj b1 [.bool false, .bool false, .bool false] 32] ∧ m17_quirref_Kinds_K6 a0 gx12 x21 x5 gx4 go2 gb13 = some r) ?_ ?_))
        ·
         refine W.seq (W.region (L.y rfl (Y.fieldP fd83_0 rfl) ?_))
         refine L.y rfl (Y.loadP (i := 0) ag3 rfl rfl rfl) ?_
         refine L.y rfl (Y.fieldP fd83_0 rfl) ?_
         refine L.y rfl (Y.loadP (i := 1) ag3 rfl rfl rfl) ?_
         refine L.ite h rfl (Y.neq rfl rfl) (fun c35 h => ?_) (fun c35 h => ?_)
         ·
          refine L.y rfl (Y.move rfl) ?_
          refine L.pass rfl rfl (by nofun) ?_
          refine L.pass rfl rfl (by nofun) ?_
          refine L.pass rfl rfl (by nofun) ?_
          refine L.y rfl (Y.pickT rfl rfl) ?_
          refine L.nil (E.thenN (W.condT rfl ?_))
          refine W.exit (E.KSX (E.blockX (E.thenN (W.region (L.m (V := fun x36 => .int .i64 x36) h rfl (Y.addM rfl rfl) (fun x36 ex36 h => ?_))))))
          refine L.y rfl (Y.move rfl) ?_
          exact L.nil (E.againJ ⟨x36, gb13, rfl, rfl, by rw [hg2]; exact h⟩ (Nat.lt_succ_self _) ⟨rfl, rfl, rfl, rfl, rfl, rfl, rfl, rfl, rfl, rfl, rfl, trivial⟩ (fun _ hw => hw.sel [1, 2, 3] (by decide) rfl))
         ·
          refine L.y rfl (Y.move rfl) ?_
          refine L.take rfl (L.y rfl (Y.fieldP fd83_1 rfl) ?_)
          refine L.take rfl (L.y rfl (Y.loadP (i := 0) ag3 rfl rfl rfl) ?_)
          refine L.take rfl (L.ite h rfl (Y.neq rfl rfl) (fun c37 h => ?_) (fun c37 h => ?_))
          ·
           refine L.y rfl (Y.pickF rfl rfl) ?_
           refine L.nil (E.thenN (W.condT rfl ?_))
           refine W.exit (E.KSX (E.blockX (E.thenN (W.region (L.m (V := fun x38 => .int .i64 x38) h rfl (Y.addM rfl rfl) (fun x38 ex38 h => ?_))))))
           refine L.y rfl (Y.move rfl) ?_
           exact L.nil (E.againJ ⟨x38, gb13, rfl, rfl, by rw [hg2]; exact h⟩ (Nat.lt_succ_self _) ⟨rfl, rfl, rfl, rfl, rfl, rfl, rfl, rfl, rfl, rfl, rfl, trivial⟩ (fun _ hw => hw.sel [1, 2, 3] (by decide) rfl))
          ·
           refine L.y rfl (Y.pickF rfl rfl) ?_
           refine L.nil (E.thenN (W.condF rfl ?_))
           exact W.skip (E.joinJ ⟨rfl, rfl, h⟩ ⟨rfl, rfl, rfl, rfl, rfl, rfl, rfl, rfl, rfl, rfl, rfl, rfl, rfl, trivial⟩ (fun _ hw => hw))
        ·
         rintro _ _ ⟨rfl, rfl, h⟩
         rw [m17_quirref_Kinds_K6] at h
         refine W.seq (W.region (L.y rfl (Y.move rfl) ?_))
         refine L.y rfl (Y.move rfl) ?_
         refine L.y rfl (Y.fieldP fd83_2 rfl) ?_
         refine L.y rfl (Y.loadP (i := 0) ag3 rfl rfl rfl) ?_
         obtain ⟨x23, e24, h⟩ := bind1S h
         refine L.y rfl (Y.does en51 rfl (fun w' hw => (w51_quirref_writer a0 gx12 x21.Item u0 w' _ e24 (hA0.cls0 hw)).mono (fun _ _ h => h.1))) ?_
         refine L.y rfl (Y.assign rfl) ?_
         refine L.nil (E.thenN (W.seq (W.quietC mixed (by kernel_rfl) (fun _ hw => hw.drew) (fun hC => ?_))))
         refine U.cutJ hC 12 (fun gs => ∃ (gb14 : Bool), gs = [(0, u0), (2, pt b1 0), (3, pt b2 0), (4, .int .i64 gx4), (5, pt b6 0), (8, .int .i64 x23), (11, u0), (12, .int .i64 (a0.length : Int)), (13, .int .i64 gx4), (23, cutv u0 gx4.toNat), (24, .int .i64 (l19.length : Int)), (25, .int .i64 gx12), (56, .bool gb14)] ∧ m17_quirref_Kinds_K7 a0 gx4 x23 gx12 go2 gb13 gb14 = some r) ?_ ?_
         ·
          refine U.y rfl (Y.move rfl) ?_
          refine U.ite h rfl (Y.geq rfl rfl) (fun c32 h => ?_) (fun c32 h => ?_)
          ·
           refine U.y rfl (Y.move rfl) ?_
           refine U.take rfl (U.y rfl (Y.move rfl) ?_)
           refine U.take rfl (U.y rfl (Y.move rfl) ?_)
           refine U.take rfl (U.m (V := fun _ => el u0 (x23.toNat * 3)) h rfl (Y.indexM (g := TOp.row) (l := a0) Try.underlying22 sz83 rfl rfl (fun w' hw => hA0.cls0 hw)) (fun x33 ex33 h => ?_))
           refine U.take rfl (U.y rfl (Y.fieldE fd83_0 rfl) ?_)
           refine U.take rfl (U.y rfl (Y.loadE (u := .int .i64 x33.Tx) ag3 rfl (fun w' hw => hA0.cls0 hw) (idx_map ex33) rfl) ?_)
           refine U.take rfl (U.y rfl (Y.fieldP fd83_0 rfl) ?_)
           refine U.take rfl (U.y rfl (Y.loadP (i := 1) ag3 rfl rfl rfl) ?_)
           refine U.take rfl (U.ite h rfl (Y.neq rfl rfl) (fun c34 h => ?_) (fun c34 h => ?_))
           ·
            refine U.y rfl (Y.pickT rfl rfl) ?_
            exact U.nil (E.joinU ⟨true, rfl, h⟩ ⟨rfl, rfl, rfl, rfl, rfl, rfl, rfl, rfl, rfl, rfl, rfl, rfl, rfl, trivial⟩)
           ·
            refine U.y rfl (Y.pickT rfl rfl) ?_
            exact U.nil (E.joinU ⟨false, rfl, h⟩ ⟨rfl, rfl, rfl, rfl, rfl, rfl, rfl, rfl, rfl, rfl, rfl, rfl, rfl, trivial⟩)
          ·
           refine U.y rfl (Y.move rfl) ?_
           refine U.pass rfl rfl (by nofun) ?_
           refine U.pass rfl rfl (by nofun) ?_
           refine U.pass rfl rfl (by nofun) ?_
           refine U.pass rfl rfl (by nofun) ?_
           refine U.pass rfl rfl (by nofun) ?_
           refine U.pass rfl rfl (by nofun) ?_
           refine U.pass rfl rfl (by nofun) ?_
           refine U.pass rfl rfl (by nofun) ?_
           refine U.y rfl (Y.pickF rfl rfl) ?_
           exact U.nil (E.joinU ⟨false, rfl, h⟩ ⟨rfl, rfl, rfl, rfl, rfl, rfl, rfl, rfl, rfl, rfl, rfl, rfl, rfl, trivial⟩)
         ·
          rintro _ ⟨gb14, rfl, h⟩
          rw [m17_quirref_Kinds_K7] at h
          rcases gb14 with _ | _
          ·
           replace h := iteF h
           refine U.y rfl (Y.move rfl) ?_
           refine U.pass rfl rfl (by nofun) ?_
           refine U.pass rfl rfl (by nofun) ?_
           refine U.pass rfl rfl (by nofun) ?_
           refine U.pass rfl rfl (by nofun) ?_
           refine U.pass rfl rfl (by nofun) ?_
           refine U.pass rfl rfl (by nofun) ?_
           refine U.pass rfl rfl (by nofun) ?_
           refine U.pass rfl rfl (by nofun) ?_
           refine U.pass rfl rfl (by nofun) ?_
           refine U.pass rfl rfl (by nofun) ?_
           refine U.y rfl (Y.pickF rfl rfl) ?_
           refine U.nil (E.thenN (W.condF rfl ?_))
           refine W.skip (E.blockN (E.thenN (W.region (L.m (V := fun x25 => .int .i64 x25) h rfl (Y.addM rfl rfl) (fun x25 ex25 h => ?_)))))
           refine L.y rfl (Y.move rfl) ?_
           exact L.nil (E.againJ ⟨x25, gb13, rfl, rfl, by rw [hg2]; exact h⟩ (Nat.lt_succ_self _) ⟨rfl, rfl, rfl, rfl, rfl, rfl, rfl, rfl, rfl, rfl, rfl, trivial⟩ (fun _ hw => hw.sel [1, 2, 3] (by decide) rfl))
          ·
           replace h := iteT h
           refine U.y rfl (Y.move rfl) ?_
           refine U.take rfl (U.y rfl (Y.move rfl) ?_)
           refine U.take rfl (U.y rfl (Y.move rfl) ?_)
           refine U.take rfl (U.m (V := fun _ => cutv u0 gx4.toNat) h rfl (Y.cutM (g := TOp.row) Try.underlying22 sz83 rfl rfl (fun w' hw => hA0.cls0 hw)) (fun l26 el26 h => ?_))
           refine U.take rfl (U.y rfl (Y.move rfl) ?_)
           refine U.take rfl (U.y rfl (Y.move rfl) ?_)
           refine U.take rfl (U.m (V := fun _ => el u0 (x23.toNat * 3)) h rfl (Y.indexM (g := TOp.row) (l := a0) Try.underlying22 sz83 rfl rfl (fun w' hw => hA0.cls0 hw)) (fun x27 ex27 h => ?_))
           refine U.take rfl (U.y rfl (Y.fieldE fd83_0 rfl) ?_)
           refine U.take rfl (U.y rfl (Y.loadE (u := .int .i64 x27.Tx) ag3 rfl (fun w' hw => hA0.cls0 hw) (idx_map ex27) rfl) ?_)
           refine U.take rfl ?_
           obtain ⟨b28, e29, h⟩ := bind1S h
           refine U.y rfl (Y.does en49 rfl (fun w' hw => (w49_quirref_has l26 x27.Tx 3 (cutv u0 gx4.toNat) w' _ e29 ((At.cutM hA0 el26).cls0 hw)).mono (fun _ _ h => h.1))) ?_
           rcases b28 with _ | _
           ·
            replace h := iteF h
            refine U.take rfl (U.y rfl (Y.not rfl) ?_)
            refine U.y rfl (Y.pickT rfl rfl) ?_
            refine U.nil (E.thenN (W.condT rfl ?_))
            refine W.region (L.y rfl (Y.fieldP fd32_0 rfl) ?_)
            refine L.store (i := 2) sz4 rfl rfl rfl rfl (by simp [Value.oneCell', Value.cells, st]) rfl (Nat.le_of_ble_eq_true rfl) ?_
            refine L.nil (E.blockN (E.thenN (W.region (L.m (V := fun x30 => .int .i64 x30) h rfl (Y.addM rfl rfl) (fun x30 ex30 h => ?_)))))
            refine L.y rfl (Y.move rfl) ?_
            exact L.nil (E.againJ ⟨x30, false, rfl, rfl, by rw [hg2]; exact h⟩ (Nat.lt_succ_self _) ⟨rfl, rfl, rfl, rfl, rfl, rfl, rfl, rfl, rfl, rfl, rfl, trivial⟩ (fun _ hw => hw.sel [1, 2, 3] (by decide) rfl))
           ·
            replace h := iteT h
            refine U.take rfl (U.y rfl (Y.not rfl) ?_)
            refine U.y rfl (Y.pickT rfl rfl) ?_
            refine U.nil (E.thenN (W.condF rfl ?_))
            refine W.skip (E.blockN (E.thenN (W.region (L.m (V := fun x31 => .int .i64 x31) h rfl (Y.addM rfl rfl) (fun x31 ex31 h => ?_)))))
            refine L.y rfl (Y.move rfl) ?_
            exact L.nil (E.againJ ⟨x31, gb13, rfl, rfl, by rw [hg2]; exact h⟩ (Nat.lt_succ_self _) ⟨rfl, rfl, rfl, rfl, rfl, rfl, rfl, rfl, rfl, rfl, rfl, trivial⟩ (fun _ hw => hw.sel [1, 2, 3] (by decide) rfl))
       ·
        refine L.nil (E.thenN (W.seq (W.condF rfl ?_)))
        exact W.exit (E.thenX (E.KLX (E.blockX (E.joinJ ⟨gb13, rfl, rfl, h⟩ ⟨rfl, rfl, rfl, rfl, rfl, rfl, rfl, rfl, trivial⟩ (fun _ hw => hw)))))
      ·
       refine L.nil (E.thenN (W.condF rfl ?_))
       exact W.skip (E.joinJ ⟨gb5, rfl, rfl, h⟩ ⟨rfl, rfl, rfl, rfl, rfl, rfl, rfl, rfl, trivial⟩ (fun _ hw => hw))
     ·
      rintro _ _ ⟨gb11, rfl, rfl, h⟩
      rw [m17_quirref_Kinds_K3] at h
      refine W.seqJ (fun gs D => gs = [(0, u0), (2, pt b1 0), (3, pt b2 0), (4, .int .i64 gx4), (5, pt b6 0), (11, u0), (12, .int .i64 (a0.length : Int)), (13, .int .i64 gx4)] ∧ D = Cls w [] [.obj b6 [.int .i64 x5.Tx, .int .i64 x5.Kind, .int .i64 x5.Item] 83, .obj b2 [.bool gb11, .bool gb6, .bool gb7] 32, .obj b1 [.bool false, .bool false, .bool false] 32] ∧ m17_quirref_Kinds_K4 a0 gx4 x5 go1 gb11 gb6 gb7 = some r) ?_ ?_
      ·
       refine W.seq (W.region (L.y rfl (Y.fieldP fd83_1 rfl) ?_))
       refine L.y rfl (Y.loadP (i := 0) ag3 rfl rfl rfl) ?_
       refine L.ite h rfl (Y.gtr rfl rfl) (fun c17 h => ?_) (fun c17 h => ?_)
       ·
        refine L.nil (E.thenN (W.condT rfl ?_))
        exact W.exit (E.KSX (E.blockX (E.joinJ ⟨gb11, gb6, gb7, rfl, rfl, h⟩ ⟨rfl, rfl, rfl, rfl, rfl, rfl, trivial⟩ (fun _ hw => hw.sel [1, 2] (by decide) rfl))))
       ·
        refine L.nil (E.thenN (W.condF rfl ?_))
        exact W.skip (E.joinJ ⟨rfl, rfl, h⟩ ⟨rfl, rfl, rfl, rfl, rfl, rfl, rfl, rfl, trivial⟩ (fun _ hw => hw))
      ·
       rintro _ _ ⟨rfl, rfl, h⟩
       rw [m17_quirref_Kinds_K4] at h
       refine W.seq (W.region (L.y rfl (Y.move rfl) ?_))
       refine L.y rfl (Y.move rfl) ?_
       refine L.y rfl (Y.fieldP fd83_2 rfl) ?_
       refine L.y rfl (Y.loadP (i := 0) ag3 rfl rfl rfl) ?_
       obtain ⟨x7, e8, h⟩ := bind1S h
       refine L.y rfl (Y.does en51 rfl (fun w' hw => (w51_quirref_writer a0 gx4 x5.Item u0 w' _ e8 (hA0.cls0 hw)).mono (fun _ _ h => h.1))) ?_
       refine L.y rfl (Y.assign rfl) ?_
       refine L.nil (E.thenN (W.seqJ (fun gs D => gs = [(0, u0), (2, pt b1 0), (3, pt b2 0), (4, .int .i64 gx4), (5, pt b6 0), (9, .int .i64 x7), (11, u0), (12, .int .i64 (a0.length : Int)), (13, .int .i64 gx4)] ∧ D = Cls w [] [.obj b6 [.int .i64 x5.Tx, .int .i64 x5.Kind, .int .i64 x5.Item] 83, .obj b2 [.bool gb11, .bool gb6, .bool gb7] 32, .obj b1 [.bool false, .bool false, .bool false] 32] ∧ m17_quirref_Kinds_K5 a0 gx4 x7 go1 gb11 gb6 gb7 x5 = some r) ?_ ?_))
       ·
        refine W.seq (W.quietC mixed (by kernel_rfl) (fun _ hw => hw.drew) (fun hC => ?_))
        refine U.y rfl (Y.move rfl) ?_
        refine U.ite h rfl (Y.lss rfl rfl) (fun c14 h => ?_) (fun c14 h => ?_)
        ·
         refine U.y rfl (Y.move rfl) ?_
         refine U.pass rfl rfl (by nofun) ?_
         refine U.pass rfl rfl (by nofun) ?_
         refine U.pass rfl rfl (by nofun) ?_
         refine U.pass rfl rfl (by nofun) ?_
         refine U.pass rfl rfl (by nofun) ?_
         refine U.pass rfl rfl (by nofun) ?_
         refine U.pass rfl rfl (by nofun) ?_
         refine U.pass rfl rfl (by nofun) ?_
         refine U.y rfl (Y.pickT rfl rfl) ?_
         refine U.nil (E.thenN (W.condT rfl ?_))
         exact W.exit (E.KSX (E.blockX (E.joinJ ⟨gb11, gb6, gb7, rfl, rfl, h⟩ ⟨rfl, rfl, rfl, rfl, rfl, rfl, trivial⟩ (fun _ hw => hw.sel [1, 2] (by decide) rfl))))
        ·
         refine U.y rfl (Y.move rfl) ?_
         refine U.take rfl (U.y rfl (Y.move rfl) ?_)
         refine U.take rfl (U.y rfl (Y.move rfl) ?_)
         refine U.take rfl (U.m (V := fun _ => el u0 (x7.toNat * 3)) h rfl (Y.indexM (g := TOp.row) (l := a0) Try.underlying22 sz83 rfl rfl (fun w' hw => hA0.cls0 hw)) (fun x15 ex15 h => ?_))
         refine U.take rfl (U.y rfl (Y.fieldE fd83_0 rfl) ?_)
         refine U.take rfl (U.y rfl (Y.loadE (u := .int .i64 x15.Tx) ag3 rfl (fun w' hw => hA0.cls0 hw) (idx_map ex15) rfl) ?_)
         refine U.take rfl (U.y rfl (Y.fieldP fd83_0 rfl) ?_)
         refine U.take rfl (U.y rfl (Y.loadP (i := 0) ag3 rfl rfl rfl) ?_)
         refine U.take rfl (U.ite h rfl (Y.eql rfl rfl) (fun c16 h => ?_) (fun c16 h => ?_))
         ·
          refine U.y rfl (Y.pickF rfl rfl) ?_
          refine U.nil (E.thenN (W.condT rfl ?_))
          exact W.exit (E.KSX (E.blockX (E.joinJ ⟨gb11, gb6, gb7, rfl, rfl, h⟩ ⟨rfl, rfl, rfl, rfl, rfl, rfl, trivial⟩ (fun _ hw => hw.sel [1, 2] (by decide) rfl))))
         ·
          refine U.y rfl (Y.pickF rfl rfl) ?_
          refine U.nil (E.thenN (W.condF rfl ?_))
          exact W.skip (E.joinJ ⟨rfl, rfl, h⟩ ⟨rfl, rfl, rfl, rfl, rfl, rfl, rfl, rfl, rfl, trivial⟩ (fun _ hw => hw))
       ·
        rintro _ _ ⟨rfl, rfl, h⟩
        rw [m17_quirref_Kinds_K5] at h
        refine W.seq (W.quietC mixed (by kernel_rfl) (fun _ hw => hw.drew) (fun hC => ?_))
        refine U.y rfl (Y.move rfl) ?_
        refine U.y rfl (Y.move rfl) ?_
        refine U.m (V := fun _ => cutv u0 gx4.toNat) h rfl (Y.cutM (g := TOp.row) Try.underlying22 sz83 rfl rfl (fun w' hw => hA0.cls0 hw)) (fun l9 el9 h => ?_)
        refine U.y rfl (Y.move rfl) ?_
        refine U.y rfl (Y.move rfl) ?_
        refine U.m (V := fun _ => el u0 (x7.toNat * 3)) h rfl (Y.indexM (g := TOp.row) (l := a0) Try.underlying22 sz83 rfl rfl (fun w' hw => hA0.cls0 hw)) (fun x10 ex10 h => ?_)
        refine U.y rfl (Y.fieldE fd83_0 rfl) ?_
        refine U.y rfl (Y.loadE (u := .int .i64 x10.Tx) ag3 rfl (fun w' hw => hA0.cls0 hw) (idx_map ex10) rfl) ?_
        obtain ⟨b11, e12, h⟩ := bind1S h
        refine U.y rfl (Y.does en49 rfl (fun w' hw => (w49_quirref_has l9 x10.Tx 3 (cutv u0 gx4.toNat) w' _ e12 ((At.cutM hA0 el9).cls0 hw)).mono (fun _ _ h => h.1))) ?_
        rcases b11 with _ | _
        ·
         replace h := iteF h
         refine U.y rfl (Y.not rfl) ?_
         refine U.nil (E.thenN (W.condT rfl ?_))
         refine W.seq (W.region (L.y rfl (Y.fieldP fd32_2 rfl) ?_))
         refine L.store (i := 1) sz4 rfl rfl rfl rfl (by simp [Value.oneCell', Value.cells, st]) rfl (Nat.le_of_ble_eq_true rfl) ?_
         refine L.nil (E.thenN (W.region (L.y rfl (Y.fieldP fd32_1 rfl) ?_)))
         refine L.iteB h rfl (Y.loadP (i := 1) ag4 rfl rfl rfl) (fun c13 h => ?_) (fun c13 h => ?_)
         ·
          refine L.y rfl (Y.move rfl) ?_
          refine L.take rfl (L.y rfl (Y.fieldP fd83_1 rfl) ?_)
          refine L.take rfl (L.y rfl (Y.loadP (i := 0) ag3 rfl rfl rfl) ?_)
          refine L.take rfl (L.y rfl (Y.neq rfl rfl) ?_)
          refine L.y rfl (Y.pickT rfl rfl) ?_
          refine L.y rfl (Y.fieldP fd32_1 rfl) ?_
          refine L.store (i := 1) sz4 rfl rfl rfl rfl (by simp [Value.oneCell', Value.cells, st]) rfl (Nat.le_of_ble_eq_true rfl) ?_
          exact L.nil (E.blockN (E.joinJ ⟨gb11, decide (x5.Kind ≠ 1), false, rfl, rfl, h⟩ ⟨rfl, rfl, rfl, rfl, rfl, rfl, trivial⟩ (fun _ hw => hw.sel [1, 2] (by decide) rfl)))
         ·
          refine L.y rfl (Y.move rfl) ?_
          refine L.pass rfl rfl (by nofun) ?_
          refine L.pass rfl rfl (by nofun) ?_
          refine L.pass rfl rfl (by nofun) ?_
          refine L.y rfl (Y.pickF rfl rfl) ?_
          refine L.y rfl (Y.fieldP fd32_1 rfl) ?_
          refine L.store (i := 1) sz4 rfl rfl rfl rfl (by simp [Value.oneCell', Value.cells, st]) rfl (Nat.le_of_ble_eq_true rfl) ?_
          exact L.nil (E.blockN (E.joinJ ⟨gb11, false, false, rfl, rfl, h⟩ ⟨rfl, rfl, rfl, rfl, rfl, rfl, trivial⟩ (fun _ hw => hw.sel [1, 2] (by decide) rfl)))
        ·
         replace h := iteT h
         refine U.y rfl (Y.not rfl) ?_
         refine U.nil (E.thenN (W.condF rfl ?_))
         exact W.skip (E.blockN (E.joinJ ⟨gb11, gb6, gb7, rfl, rfl, h⟩ ⟨rfl, rfl, rfl, rfl, rfl, rfl, trivial⟩ (fun _ hw => hw.sel [1, 2] (by decide) rfl)))
    ·
     rintro _ _ ⟨gb8, gb9, gb10, rfl, rfl, h⟩
     rw [m17_quirref_Kinds_K2] at h
     refine W.region (L.m (V := fun x4 => .int .i64 x4) h rfl (Y.addM rfl rfl) (fun x4 ex4 h => ?_))
     refine L.y rfl (Y.move rfl) ?_
     exact L.nil (E.againJ ⟨x4, gb8, gb9, gb10, rfl, rfl, by rw [hg1]; exact h⟩ (Nat.lt_succ_self _) ⟨rfl, rfl, rfl, rfl, rfl, rfl, trivial⟩ (fun _ hw => hw))
   ·
    refine L.nil (E.thenN (W.seq (W.condF rfl ?_)))
    exact W.exit (E.thenX (E.KLX (E.blockX (E.joinJ ⟨gb5, gb6, gb7, rfl, rfl, h⟩ ⟨rfl, rfl, trivial⟩ (fun _ hw => hw)))))
  ·
   rintro _ _ ⟨gb1, gb2, gb3, rfl, rfl, h⟩
   rw [m17_quirref_Kinds_K1] at h
   refine W.seq (W.region (L.y rfl (Y.loadPW (i := 0) ag32 sz32 rfl rfl rfl) ?_))
   refine L.store (i := 1) sz32 rfl rfl rfl rfl (by simp [Value.oneCell', Value.cells, st]) rfl (Nat.le_of_ble_eq_true rfl) ?_
   refine L.nil (E.thenN (W.ret (E.retR1 rfl (Rv.cellW (i := 1) ag32 sz32 rfl rfl rfl) (fun w1 hw => ?_))))
   obtain rfl := Option.some.inj h
   exact ⟨_, _, rfl, ⟨rfl, rfl⟩, hw.sel [] (by decide) rfl⟩
set_option maxRecDepth 100000 in
set_option maxHeartbeats 8000000 in
theorem w3_quirlaw_RunSays (a0 : (List TOp)) (u0 : Value) (w : World) (r : Bool) (h : m3_quirlaw_RunSays a0 = some r) (hA0 : At w u0 3 (a0.map TOp.row)) : Does Try.prog 3 [u0] w fun u m => u = .bool r ∧ m = [] := by
  rw [m3_quirlaw_RunSays] at h
  refine body (n := 113) Try.func3 rfl rfl rfl (Cls.refl w) ?_
  refine W.seq (W.region (L.y rfl (Y.assign rfl) ?_))
  refine L.nil (E.thenN (W.seq (W.region (L.y rfl (Y.move rfl) ?_))))
  obtain ⟨x1, e2, h⟩ := bind1S h
  refine L.y rfl (Y.does en8 rfl (fun w' hw => (w8_quirref_RunErr a0 u0 w' _ e2 (hA0.cls0 hw)).mono (fun _ _ h => h.1))) ?_
  refine L.y rfl (Y.assign rfl) ?_
  refine L.nil (E.thenN (W.seq (W.region (L.y rfl (Y.move rfl) ?_))))
  obtain ⟨l3, x5, e6, h⟩ := bind2S h
  refine L.does rfl en9 rfl (fun w' hw => w9_run_Edges a0 u0 w' _ e6 (hA0.cls0 hw)) ?_
  rintro _ _ ⟨v4, rfl, rfl⟩
  refine L.y rfl (Y.move rfl) ?_
  refine L.y rfl (Y.extract rfl rfl) ?_
  refine L.y rfl (Y.extract rfl rfl) ?_
  refine L.y rfl (Y.assign rfl) ?_
  refine L.y rfl (Y.assign rfl) ?_
  refine L.nil (E.thenN (W.seq (W.region (L.y rfl (Y.move rfl) ?_))))
  obtain ⟨l7, x9, e10, h⟩ := bind2S h
  refine L.does rfl en10 rfl (fun w' hw => w10_run_Serial a0 u0 w' _ e10 (hA0.cls0 hw)) ?_
  rintro _ _ ⟨v8, rfl, rfl⟩
  refine L.y rfl (Y.move rfl) ?_
  refine L.y rfl (Y.extract rfl rfl) ?_
  refine L.y rfl (Y.extract rfl rfl) ?_
  refine L.y rfl (Y.assign rfl) ?_
  refine L.y rfl (Y.assign rfl) ?_
  refine L.nil (E.thenN (W.seq (W.region (L.y rfl (Y.move rfl) ?_))))
  obtain ⟨x11, x12, e13, h⟩ := bind2S h
  refine L.y rfl (Y.does en11 rfl (fun w' hw => (w11_run_Kinds a0 u0 w' _ e13 (hA0.cls0 hw)).mono (fun _ _ h => h.1))) ?_
  refine L.y rfl (Y.move rfl) ?_
  refine L.y rfl (Y.extract rfl rfl) ?_
  refine L.y rfl (Y.extract rfl rfl) ?_
  refine L.alloc rfl ze32 ?_
  intro b14
  refine L.store (i := 0) sz32 rfl rfl rfl rfl (by simp [Value.oneCell', Value.cells, st]) rfl (Nat.le_of_ble_eq_true rfl) ?_
  refine L.y rfl (Y.assign rfl) ?_
  refine L.nil (E.thenN (W.seqJ (fun gs D => gs = [(0, u0), (3, .int .i64 x1), (4, v4), (5, .int .i64 x5), (6, v8), (7, .int .i64 x9), (8, pt b14 0), (9, .int .i64 x12)] ∧ D = Cls w [] [.obj b14 [.bool x11.Recoverable, .bool x11.Cascadeless, .bool x11.Strict] 32, .sl v4 40 2 (l3.map TEdge.row), .sl v8 3 1 (l7.map I)] ∧ m3_quirlaw_RunSays_K1 x1 l3 x5 l7 x9 x11 x12 a0 = some r) ?_ ?_))
  ·
   refine W.seq (W.region (L.y rfl (Y.move rfl) ?_))
   obtain ⟨x81, e82, h⟩ := bind1S h
   refine L.y rfl (Y.does en12 rfl (fun w' hw => (w12_run_Check a0 u0 w' _ e82 (hA0.cls0 hw)).mono (fun _ _ h => h.1))) ?_
   refine L.y rfl (Y.move rfl) ?_
   refine L.ite h rfl (Y.neq rfl rfl) (fun c83 h => ?_) (fun c83 h => ?_)
   ·
    refine L.nil (E.thenN (W.condT rfl ?_))
    refine W.seq (W.region (L.y rfl (Y.assign rfl) ?_))
    refine L.nil (E.thenN (W.ret (E.KSR (E.ret1 rfl rfl (fun w1 hw => ?_)))))
    obtain rfl := Option.some.inj h
    exact ⟨_, _, rfl, ⟨rfl, rfl⟩, hw.sel [] (by decide) rfl⟩
   ·
    refine L.nil (E.thenN (W.condF rfl ?_))
    exact W.skip (E.joinJ ⟨rfl, rfl, h⟩ ⟨rfl, rfl, rfl, rfl, rfl, rfl, rfl, rfl, trivial⟩ (fun _ hw => hw.sel [0, 2, 1] (by decide) rfl))
  ·
   rintro _ _ ⟨rfl, rfl, h⟩
   rw [m3_quirlaw_RunSays_K1] at h
   refine W.seqJ (fun gs D => gs = [(0, u0), (4, v4), (5, .int .i64 x5), (6, v8), (7, .int .i64 x9), (8, pt b14 0), (9, .int .i64 x12)] ∧ D = Cls w [] [.obj b14 [.bool x11.Recoverable, .bool x11.Cascadeless, .bool x11.Strict] 32, .sl v4 40 2 (l3.map TEdge.row), .sl v8 3 1 (l7.map I)] ∧ m3_quirlaw_RunSays_K2 a0 l7 x9 l3 x5 x11 x12 = some r) ?_ ?_
   ·
    refine W.seq (W.region (L.y rfl (Y.move rfl) ?_))
    refine L.ite h rfl (Y.neq rfl rfl) (fun c75 h => ?_) (fun c75 h => ?_)
    ·
     refine L.nil (E.thenN (W.condT rfl ?_))
     refine W.seq (W.region (L.cutJ 8 (fun gs D => ∃ (gb8 : Bool), gs = [(3, .int .i64 x1), (6, v8), (7, .int .i64 x9), (8, pt b14 0), (9, .int .i64 x12), (43, .bool gb8)] ∧ D = Cls w [] [.obj b14 [.bool x11.Recoverable, .bool x11.Cascadeless, .bool x11.Strict] 32, .sl v8 3 1 (l7.map I)] ∧ m3_quirlaw_RunSays_K8 l7 x9 x1 x11 x12 gb8 = some r) ?_ ?_))
     ·
      refine L.y rfl (Y.move rfl) ?_
      refine L.y rfl (Y.lenM (g := TEdge.row) (l := l3) Try.underlying25 rfl (fun w hw => As.at_ (hw.get (i := 1) rfl))) ?_
      refine L.ite h rfl (Y.eql rfl rfl) (fun c79 h => ?_) (fun c79 h => ?_)
      ·
       refine L.y rfl (Y.move rfl) ?_
       refine L.take rfl (L.y rfl (Y.move rfl) ?_)
       refine L.take rfl (L.y rfl (Y.move rfl) ?_)
       refine L.take rfl (L.ite h rfl (Y.eql rfl rfl) (fun c80 h => ?_) (fun c80 h => ?_))
       ·
        refine L.y rfl (Y.pickT rfl rfl) ?_
        exact L.nil (E.joinJ ⟨true, rfl, rfl, h⟩ ⟨rfl, rfl, rfl, rfl, rfl, rfl, trivial⟩ (fun _ hw => hw.sel [0, 2] (by decide) rfl))
       ·
        refine L.y rfl (Y.pickT rfl rfl) ?_
        exact L.nil (E.joinJ ⟨false, rfl, rfl, h⟩ ⟨rfl, rfl, rfl, rfl, rfl, rfl, trivial⟩ (fun _ hw => hw.sel [0, 2] (by decide) rfl))
      ·
       refine L.y rfl (Y.move rfl) ?_
       refine L.pass rfl rfl (by nofun) ?_
       refine L.pass rfl rfl (by nofun) ?_
       refine L.pass rfl rfl (by nofun) ?_
       refine L.y rfl (Y.pickF rfl rfl) ?_
       exact L.nil (E.joinJ ⟨false, rfl, rfl, h⟩ ⟨rfl, rfl, rfl, rfl, rfl, rfl, trivial⟩ (fun _ hw => hw.sel [0, 2] (by decide) rfl))
     ·
      rintro _ _ ⟨gb8, rfl, rfl, h⟩
      rw [m3_quirlaw_RunSays_K8] at h
      rcases gb8 with _ | _
      ·
       replace h := iteF h
       refine L.y rfl (Y.move rfl) ?_
       refine L.pass rfl rfl (by nofun) ?_
       refine L.pass rfl rfl (by nofun) ?_
       refine L.pass rfl rfl (by nofun) ?_
       refine L.y rfl (Y.pickF rfl rfl) ?_
       refine L.y rfl (Y.move rfl) ?_
       refine L.pass rfl rfl (by nofun) ?_
       refine L.pass rfl rfl (by nofun) ?_
       refine L.pass rfl rfl (by nofun) ?_
       refine L.y rfl (Y.pickF rfl rfl) ?_
       refine L.y rfl (Y.move rfl) ?_
       refine L.pass rfl rfl (by nofun) ?_
       refine L.pass rfl rfl (by nofun) ?_
       refine L.pass rfl rfl (by nofun) ?_
       refine L.y rfl (Y.pickF rfl rfl) ?_
       refine L.y rfl (Y.move rfl) ?_
       refine L.pass rfl rfl (by nofun) ?_
       refine L.pass rfl rfl (by nofun) ?_
       refine L.pass rfl rfl (by nofun) ?_
       refine L.y rfl (Y.pickF rfl rfl) ?_
       refine L.y rfl (Y.assign rfl) ?_
       refine L.nil (E.thenN (W.ret (E.KSR (E.ret1 rfl rfl (fun w1 hw => ?_)))))
       obtain rfl := Option.some.inj h
       exact ⟨_, _, rfl, ⟨rfl, rfl⟩, hw.sel [] (by decide) rfl⟩
      ·
       replace h := iteT h
       refine L.cutJ 10 (fun gs D => ∃ (gb9 : Bool), gs = [(3, .int .i64 x1), (8, pt b14 0), (9, .int .i64 x12), (53, .bool gb9)] ∧ D = Cls w [] [.obj b14 [.bool x11.Recoverable, .bool x11.Cascadeless, .bool x11.Strict] 32] ∧ m3_quirlaw_RunSays_K9 x11 x12 x1 gb9 = some r) ?_ ?_
       ·
        refine L.y rfl (Y.move rfl) ?_
        refine L.take rfl (L.y rfl (Y.move rfl) ?_)
        refine L.take rfl (L.y rfl (Y.lenM (g := I) (l := l7) Try.underlying28 rfl (fun w hw => As.at_ (hw.get (i := 1) rfl))) ?_)
        refine L.take rfl (L.ite h rfl (Y.eql rfl rfl) (fun c77 h => ?_) (fun c77 h => ?_))
        ·
         refine L.y rfl (Y.pickT rfl rfl) ?_
         refine L.y rfl (Y.move rfl) ?_
         refine L.take rfl (L.y rfl (Y.move rfl) ?_)
         refine L.take rfl (L.y rfl (Y.move rfl) ?_)
         refine L.take rfl (L.ite h rfl (Y.eql rfl rfl) (fun c78 h => ?_) (fun c78 h => ?_))
         ·
          refine L.y rfl (Y.pickT rfl rfl) ?_
          exact L.nil (E.joinJ ⟨true, rfl, rfl, h⟩ ⟨rfl, rfl, rfl, rfl, trivial⟩ (fun _ hw => hw.sel [0] (by decide) rfl))
         ·
          refine L.y rfl (Y.pickT rfl rfl) ?_
          exact L.nil (E.joinJ ⟨false, rfl, rfl, h⟩ ⟨rfl, rfl, rfl, rfl, trivial⟩ (fun _ hw => hw.sel [0] (by decide) rfl))
        ·
         refine L.y rfl (Y.pickT rfl rfl) ?_
         refine L.y rfl (Y.move rfl) ?_
         refine L.pass rfl rfl (by nofun) ?_
         refine L.pass rfl rfl (by nofun) ?_
         refine L.pass rfl rfl (by nofun) ?_
         refine L.y rfl (Y.pickF rfl rfl) ?_
         exact L.nil (E.joinJ ⟨false, rfl, rfl, h⟩ ⟨rfl, rfl, rfl, rfl, trivial⟩ (fun _ hw => hw.sel [0] (by decide) rfl))
       ·
        rintro _ _ ⟨gb9, rfl, rfl, h⟩
        rw [m3_quirlaw_RunSays_K9] at h
        rcases gb9 with _ | _
        ·
         replace h := iteF h
         refine L.y rfl (Y.move rfl) ?_
         refine L.pass rfl rfl (by nofun) ?_
         refine L.pass rfl rfl (by nofun) ?_
         refine L.pass rfl rfl (by nofun) ?_
         refine L.y rfl (Y.pickF rfl rfl) ?_
         refine L.y rfl (Y.move rfl) ?_
         refine L.pass rfl rfl (by nofun) ?_
         refine L.pass rfl rfl (by nofun) ?_
         refine L.pass rfl rfl (by nofun) ?_
         refine L.y rfl (Y.pickF rfl rfl) ?_
         refine L.y rfl (Y.assign rfl) ?_
         refine L.nil (E.thenN (W.ret (E.KSR (E.ret1 rfl rfl (fun w1 hw => ?_)))))
         obtain rfl := Option.some.inj h
         exact ⟨_, _, rfl, ⟨rfl, rfl⟩, hw.sel [] (by decide) rfl⟩
        ·
         replace h := iteT h
         refine L.y rfl (Y.move rfl) ?_
         refine L.take rfl (L.y rfl (Y.loadPW (i := 0) ag32 sz32 rfl rfl rfl) ?_)
         refine L.take rfl (L.y rfl (Y.build (cells := #[.bool false, .bool false, .bool false]) rfl (by kernel_rfl)) ?_)
         refine L.take rfl (L.ite h rfl (Y.eqlA (row := TRunKind.row) (a := x11) (b := (⟨false, false, false⟩ : TRunKind)) eg32 ag32 (sh32 _) (sh32 _) (inj32 _ _) rfl rfl) (fun c76 h => ?_) (fun c76 h => ?_))
         ·
          refine L.y rfl (Y.pickT rfl rfl) ?_
          refine L.y rfl (Y.move rfl) ?_
          refine L.take rfl (L.y rfl (Y.move rfl) ?_)
          refine L.take rfl (L.y rfl (Y.move rfl) ?_)
          refine L.take rfl (L.y rfl (Y.eql rfl rfl) ?_)
          refine L.y rfl (Y.pickT rfl rfl) ?_
          refine L.y rfl (Y.assign rfl) ?_
          refine L.nil (E.thenN (W.ret (E.KSR (E.ret1 rfl rfl (fun w1 hw => ?_)))))
          obtain rfl := Option.some.inj h
          exact ⟨_, _, rfl, ⟨rfl, rfl⟩, hw.sel [] (by decide) rfl⟩
         ·
          refine L.y rfl (Y.pickT rfl rfl) ?_
          refine L.y rfl (Y.move rfl) ?_
          refine L.pass rfl rfl (by nofun) ?_
          refine L.pass rfl rfl (by nofun) ?_
          refine L.pass rfl rfl (by nofun) ?_
          refine L.y rfl (Y.pickF rfl rfl) ?_
          refine L.y rfl (Y.assign rfl) ?_
          refine L.nil (E.thenN (W.ret (E.KSR (E.ret1 rfl rfl (fun w1 hw => ?_)))))
          obtain rfl := Option.some.inj h
          exact ⟨_, _, rfl, ⟨rfl, rfl⟩, hw.sel [] (by decide) rfl⟩
    ·
     refine L.nil (E.thenN (W.condF rfl ?_))
     exact W.skip (E.joinJ ⟨rfl, rfl, h⟩ ⟨rfl, rfl, rfl, rfl, rfl, rfl, rfl, trivial⟩ (fun _ hw => hw))
   ·
    rintro _ _ ⟨rfl, rfl, h⟩
    rw [m3_quirlaw_RunSays_K2] at h
    refine W.seqJ (fun gs D => ∃ (gv1 : Value) (gl2 : (List Int)) (gb3 : Bool), gs = [(0, u0), (4, v4), (5, .int .i64 x5), (6, v8), (7, .int .i64 x9), (8, pt b14 0), (9, .int .i64 x12), (10, gv1), (11, .bool gb3)] ∧ D = Cls w [] [.obj b14 [.bool x11.Recoverable, .bool x11.Cascadeless, .bool x11.Strict] 32, .sl v4 40 2 (l3.map TEdge.row), .sl v8 3 1 (l7.map I), .sl gv1 3 1 (gl2.map I)] ∧ m3_quirlaw_RunSays_K3 l7 x9 a0 l3 x5 x11 x12 gl2 gb3 = some r) ?_ ?_
    ·
     refine W.region (L.y rfl (Y.move rfl) ?_)
     obtain ⟨l70, b72, e73, h⟩ := bind2S h
     refine L.does rfl en13 rfl (fun w' hw => w13_quirref_Serial a0 u0 w' _ e73 (hA0.cls0 hw)) ?_
     rintro _ _ ⟨v71, rfl, rfl⟩
     refine L.y rfl (Y.move rfl) ?_
     refine L.y rfl (Y.extract rfl rfl) ?_
     refine L.iteB h rfl (Y.extract rfl rfl) (fun c74 h => ?_) (fun c74 h => ?_)
     ·
      refine L.y rfl (Y.assign rfl) ?_
      refine L.y rfl (Y.assign rfl) ?_
      exact L.nil (E.joinJ ⟨v71, l70, true, rfl, rfl, h⟩ ⟨rfl, rfl, rfl, rfl, rfl, rfl, rfl, rfl, rfl, trivial⟩ (fun _ hw => hw.sel [1, 2, 3, 0] (by decide) rfl))
     ·
      refine L.y rfl (Y.assign rfl) ?_
      refine L.y rfl (Y.assign rfl) ?_
      exact L.nil (E.joinJ ⟨v71, l70, false, rfl, rfl, h⟩ ⟨rfl, rfl, rfl, rfl, rfl, rfl, rfl, rfl, rfl, trivial⟩ (fun _ hw => hw.sel [1, 2, 3, 0] (by decide) rfl))
    ·
     rintro _ _ ⟨gv1, gl2, gb3, rfl, rfl, h⟩
     rw [m3_quirlaw_RunSays_K3] at h
     rcases gb3 with _ | _
     ·
      replace h := iteF h
      refine W.seqJ (fun gs D => ∃ (gb4 : Bool), gs = [(0, u0), (4, v4), (5, .int .i64 x5), (8, pt b14 0), (9, .int .i64 x12), (12, .bool gb4)] ∧ D = Cls w [] [.obj b14 [.bool x11.Recoverable, .bool x11.Cascadeless, .bool x11.Strict] 32, .sl v4 40 2 (l3.map TEdge.row)] ∧ m3_quirlaw_RunSays_K4 a0 l3 x5 x11 x12 gb4 = some r) ?_ ?_
      ·
       refine W.region (L.cutJ 22 (fun gs D => ∃ (gb5 : Bool), gs = [(0, u0), (4, v4), (5, .int .i64 x5), (8, pt b14 0), (9, .int .i64 x12), (79, .bool false), (90, .bool gb5)] ∧ D = Cls w [] [.obj b14 [.bool x11.Recoverable, .bool x11.Cascadeless, .bool x11.Strict] 32, .sl v4 40 2 (l3.map TEdge.row)] ∧ m3_quirlaw_RunSays_K5 a0 l3 x5 x11 x12 gb5 = some r) ?_ ?_)
       ·
        refine L.y rfl (Y.move rfl) ?_
        refine L.y rfl (Y.move rfl) ?_
        refine L.pass rfl rfl (by nofun) ?_
        refine L.pass rfl rfl (by nofun) ?_
        refine L.pass rfl rfl (by nofun) ?_
        refine L.y rfl (Y.pickF rfl rfl) ?_
        refine L.y rfl (Y.move rfl) ?_
        refine L.pass rfl rfl (by nofun) ?_
        refine L.pass rfl rfl (by nofun) ?_
        refine L.y rfl (Y.pickF rfl rfl) ?_
        refine L.y rfl (Y.move rfl) ?_
        refine L.take rfl (L.y rfl (Y.move rfl) ?_)
        refine L.take rfl (L.y rfl (Y.not rfl) ?_)
        refine L.take rfl (L.y rfl (Y.move rfl) ?_)
        refine L.take rfl (L.y rfl (Y.move rfl) ?_)
        refine L.take rfl (L.y rfl (Y.lenM (g := I) (l := l7) Try.underlying28 rfl (fun w hw => As.at_ (hw.get (i := 2) rfl))) ?_)
        refine L.take rfl (L.ite h rfl (Y.eql rfl rfl) (fun c40 h => ?_) (fun c40 h => ?_))
        ·
         refine L.take rfl (L.y rfl (Y.pickT rfl rfl) ?_)
         refine L.take rfl (L.y rfl (Y.move rfl) ?_)
         refine L.take rfl (L.y rfl (Y.move rfl) ?_)
         refine L.take rfl (L.ite h rfl (Y.eql rfl rfl) (fun c41 h => ?_) (fun c41 h => ?_))
         ·
          refine L.take rfl (L.y rfl (Y.pickT rfl rfl) ?_)
          exact L.nil (E.joinJ ⟨true, rfl, rfl, h⟩ ⟨rfl, rfl, rfl, rfl, rfl, rfl, rfl, trivial⟩ (fun _ hw => hw.sel [0, 1] (by decide) rfl))
         ·
          refine L.take rfl (L.y rfl (Y.pickT rfl rfl) ?_)
          exact L.nil (E.joinJ ⟨false, rfl, rfl, h⟩ ⟨rfl, rfl, rfl, rfl, rfl, rfl, rfl, trivial⟩ (fun _ hw => hw.sel [0, 1] (by decide) rfl))
        ·
         refine L.take rfl (L.y rfl (Y.pickT rfl rfl) ?_)
         refine L.take rfl (L.y rfl (Y.move rfl) ?_)
         refine L.pass rfl rfl (by nofun) ?_
         refine L.pass rfl rfl (by nofun) ?_
         refine L.take rfl (L.y rfl (Y.pickF rfl rfl) ?_)
         exact L.nil (E.joinJ ⟨false, rfl, rfl, h⟩ ⟨rfl, rfl, rfl, rfl, rfl, rfl, rfl, trivial⟩ (fun _ hw => hw.sel [0, 1] (by decide) rfl))
       ·
        rintro _ _ ⟨gb5, rfl, rfl, h⟩
        rw [m3_quirlaw_RunSays_K5] at h
        rcases gb5 with _ | _
        ·
         replace h := iteF h
         refine L.y rfl (Y.pickF rfl rfl) ?_
         refine L.y rfl (Y.assign rfl) ?_
         exact L.nil (E.joinJ ⟨false, rfl, rfl, h⟩ ⟨rfl, rfl, rfl, rfl, rfl, rfl, trivial⟩ (fun _ hw => hw))
        ·
         replace h := iteT h
         refine L.y rfl (Y.pickF rfl rfl) ?_
         refine L.y rfl (Y.assign rfl) ?_
         exact L.nil (E.joinJ ⟨true, rfl, rfl, h⟩ ⟨rfl, rfl, rfl, rfl, rfl, rfl, trivial⟩ (fun _ hw => hw))
      ·
       rintro _ _ ⟨gb4, rfl, rfl, h⟩
       rw [m3_quirlaw_RunSays_K4] at h
       rcases gb4 with _ | _
       ·
        replace h := iteF h
        refine W.seq (W.drawn2 (k := 22) (stC [[3]] [Cls w [] [.obj b14 [.bool x11.Recoverable, .bool x11.Cascadeless, .bool x11.Strict] 32, .sl v4 40 2 (l3.map TEdge.row)]] (Cls w [] [.obj b14 [.bool x11.Recoverable, .bool x11.Cascadeless, .bool x11.Strict] 32, .sl v4 40 2 (l3.map TEdge.row)])) rfl mixed (fun _ hw => hw.drew) (Sc.now (by kernel_rfl) (fun _ hw => hw)) ?_)
        refine V2.y (i := 0) (Nx2.of (Z := Cls w [] [.obj b14 [.bool x11.Recoverable, .bool x11.Cascadeless, .bool x11.Strict] 32, .sl v4 40 2 (l3.map TEdge.row)]) [] (by kernel_rfl) rfl (Zc.on (fun _ hw => hw) (Zc.fin (fun _ hw => hw)))) rfl rfl rfl (Y.move rfl) ?_
        refine V2.y (i := 1) (Nx2.of (Z := Cls w [] [.obj b14 [.bool x11.Recoverable, .bool x11.Cascadeless, .bool x11.Strict] 32, .sl v4 40 2 (l3.map TEdge.row)]) [] (by kernel_rfl) rfl (Zc.on (fun _ hw => hw) (Zc.fin (fun _ hw => hw)))) rfl rfl rfl (Y.move rfl) ?_
        refine V2.eff (i := 2) (by kernel_rfl) rfl ?_
        obtain ⟨l20, e22, h⟩ := bind1S h
        refine L.does rfl en16 rfl (fun w' hw => w16_quirref_Edges a0 u0 w' _ e22 (hA0.cls0 hw)) ?_
        rintro v21 _ ⟨_, rfl, rfl⟩
        refine L.nil (E.toV2 (stC [[3]] [Cls w [] [.sl v21 40 2 (l20.map TEdge.row), .obj b14 [.bool x11.Recoverable, .bool x11.Cascadeless, .bool x11.Strict] 32, .sl v4 40 2 (l3.map TEdge.row)]] (Cls w [] [.obj b14 [.bool x11.Recoverable, .bool x11.Cascadeless, .bool x11.Strict] 32, .sl v4 40 2 (l3.map TEdge.row)])) 2 (by kernel_rfl) (Sc.stay (fun _ hw => hw.sel [1, 2] (by decide) rfl) (Sc.stayD (fun _ hw => hw))) (Sc.now (by kernel_rfl) (fun _ hw => hw)) ?_)
        refine V2.eff (i := 3) (by kernel_rfl) rfl ?_
        obtain ⟨b23, e24, h⟩ := bind1S h
        refine L.y rfl (Y.does en15 rfl (fun w' hw => (w15_api_Edge l3 l20 v4 v21 w' _ e24 (As.at_ (hw.get (i := 2) rfl)) (As.at_ (hw.get (i := 0) rfl))).mono (fun _ _ h => h.1))) ?_
        rcases b23 with _ | _
        ·
         replace h := iteF h
         refine L.nil (E.toV2 (stC [] [] (Cls w [] [.obj b14 [.bool x11.Recoverable, .bool x11.Cascadeless, .bool x11.Strict] 32, .sl v4 40 2 (l3.map TEdge.row)])) 3 (by kernel_rfl) (Sc.past rfl (Sc.stayD (fun _ hw => hw))) (Sc.atD (fun _ hw => hw.sel [1, 2] (by decide) rfl)) ?_)
         refine V2.y (i := 4) (Nx2.of (Z := Cls w [] [.obj b14 [.bool x11.Recoverable, .bool x11.Cascadeless, .bool x11.Strict] 32, .sl v4 40 2 (l3.map TEdge.row)]) [] (by kernel_rfl) rfl (Zc.fin (fun _ hw => hw))) rfl rfl rfl (Y.move rfl) ?_
         refine V2.pass (i := 5) (Nx2.of (Z := Cls w [] [.obj b14 [.bool x11.Recoverable, .bool x11.Cascadeless, .bool x11.Strict] 32, .sl v4 40 2 (l3.map TEdge.row)]) [] (by kernel_rfl) rfl (Zc.fin (fun _ hw => hw))) rfl rfl ?_
         refine V2.pass (i := 6) (Nx2.of (Z := Cls w [] [.obj b14 [.bool x11.Recoverable, .bool x11.Cascadeless, .bool x11.Strict] 32, .sl v4 40 2 (l3.map TEdge.row)]) [] (by kernel_rfl) rfl (Zc.fin (fun _ hw => hw))) rfl rfl ?_
         refine V2.y (i := 7) (Nx2.of (Z := Cls w [] [.obj b14 [.bool x11.Recoverable, .bool x11.Cascadeless, .bool x11.Strict] 32, .sl v4 40 2 (l3.map TEdge.row)]) [] (by kernel_rfl) rfl (Zc.fin (fun _ hw => hw))) rfl rfl rfl (Y.pickF rfl rfl) ?_
         refine V2.y (i := 8) (Nx2.of (Z := Cls w [] [.obj b14 [.bool x11.Recoverable, .bool x11.Cascadeless, .bool x11.Strict] 32, .sl v4 40 2 (l3.map TEdge.row)]) [] (by kernel_rfl) rfl (Zc.fin (fun _ hw => hw))) rfl rfl rfl (Y.move rfl) ?_
         refine V2.pass (i := 9) (Nx2.of (Z := Cls w [] [.obj b14 [.bool x11.Recoverable, .bool x11.Cascadeless, .bool x11.Strict] 32, .sl v4 40 2 (l3.map TEdge.row)]) [] (by kernel_rfl) rfl (Zc.fin (fun _ hw => hw))) rfl rfl ?_
         refine V2.y (i := 10) (Nx2.of (Z := Cls w [] [.obj b14 [.bool x11.Recoverable, .bool x11.Cascadeless, .bool x11.Strict] 32, .sl v4 40 2 (l3.map TEdge.row)]) [] (by kernel_rfl) rfl (Zc.fin (fun _ hw => hw))) rfl rfl rfl (Y.pickF rfl rfl) ?_
         refine V2.y (i := 11) (Nx2.of (Z := Cls w [] [.obj b14 [.bool x11.Recoverable, .bool x11.Cascadeless, .bool x11.Strict] 32, .sl v4 40 2 (l3.map TEdge.row)]) [] (by kernel_rfl) rfl (Zc.fin (fun _ hw => hw))) rfl rfl rfl (Y.move rfl) ?_
         refine V2.pass (i := 12) (Nx2.of (Z := Cls w [] [.obj b14 [.bool x11.Recoverable, .bool x11.Cascadeless, .bool x11.Strict] 32, .sl v4 40 2 (l3.map TEdge.row)]) [] (by kernel_rfl) rfl (Zc.fin (fun _ hw => hw))) rfl rfl ?_
         refine V2.pass (i := 13) (Nx2.of (Z := Cls w [] [.obj b14 [.bool x11.Recoverable, .bool x11.Cascadeless, .bool x11.Strict] 32, .sl v4 40 2 (l3.map TEdge.row)]) [] (by kernel_rfl) rfl (Zc.fin (fun _ hw => hw))) rfl rfl ?_
         refine V2.pass (i := 14) (Nx2.of (Z := Cls w [] [.obj b14 [.bool x11.Recoverable, .bool x11.Cascadeless, .bool x11.Strict] 32, .sl v4 40 2 (l3.map TEdge.row)]) [] (by kernel_rfl) rfl (Zc.fin (fun _ hw => hw))) rfl rfl ?_
         refine V2.pass (i := 15) (Nx2.of (Z := Cls w [] [.obj b14 [.bool x11.Recoverable, .bool x11.Cascadeless, .bool x11.Strict] 32, .sl v4 40 2 (l3.map TEdge.row)]) [] (by kernel_rfl) rfl (Zc.fin (fun _ hw => hw))) rfl rfl ?_
         refine V2.y (i := 16) (Nx2.of (Z := Cls w [] [.obj b14 [.bool x11.Recoverable, .bool x11.Cascadeless, .bool x11.Strict] 32, .sl v4 40 2 (l3.map TEdge.row)]) [] (by kernel_rfl) rfl (Zc.fin (fun _ hw => hw))) rfl rfl rfl (Y.pickF rfl rfl) ?_
         refine V2.y (i := 17) (Nx2.of (Z := Cls w [] [.obj b14 [.bool x11.Recoverable, .bool x11.Cascadeless, .bool x11.Strict] 32, .sl v4 40 2 (l3.map TEdge.row)]) [] (by kernel_rfl) rfl (Zc.fin (fun _ hw => hw))) rfl rfl rfl (Y.move rfl) ?_
         refine V2.pass (i := 18) (Nx2.of (Z := Cls w [] [.obj b14 [.bool x11.Recoverable, .bool x11.Cascadeless, .bool x11.Strict] 32, .sl v4 40 2 (l3.map TEdge.row)]) [] (by kernel_rfl) rfl (Zc.fin (fun _ hw => hw))) rfl rfl ?_
         refine V2.pass (i := 19) (Nx2.of (Z := Cls w [] [.obj b14 [.bool x11.Recoverable, .bool x11.Cascadeless, .bool x11.Strict] 32, .sl v4 40 2 (l3.map TEdge.row)]) [] (by kernel_rfl) rfl (Zc.fin (fun _ hw => hw))) rfl rfl ?_
         refine V2.y (i := 20) (Nx2.of (Z := Cls w [] [.obj b14 [.bool x11.Recoverable, .bool x11.Cascadeless, .bool x11.Strict] 32, .sl v4 40 2 (l3.map TEdge.row)]) [] (by kernel_rfl) rfl (Zc.fin (fun _ hw => hw))) rfl rfl rfl (Y.pickF rfl rfl) ?_
         refine V2.y (i := 21) (Nx2.of (Z := Cls w [] [.obj b14 [.bool x11.Recoverable, .bool x11.Cascadeless, .bool x11.Strict] 32, .sl v4 40 2 (l3.map TEdge.row)]) [] (by kernel_rfl) rfl (Zc.fin (fun _ hw => hw))) rfl rfl rfl (Y.assign rfl) ?_
         refine V2.done (by kernel_rfl) ?_
         refine E.thenN (W.ret (E.ret1 rfl rfl (fun w1 hw => ?_)))
         obtain rfl := Option.some.inj h
         exact ⟨_, _, rfl, ⟨rfl, rfl⟩, hw.sel [] (by decide) rfl⟩
        ·
         replace h := iteT h
         refine L.nil (E.toV2 (stC [] [] (Cls w [] [.obj b14 [.bool x11.Recoverable, .bool x11.Cascadeless, .bool x11.Strict] 32, .sl v4 40 2 (l3.map TEdge.row)])) 3 (by kernel_rfl) (Sc.past rfl (Sc.stayD (fun _ hw => hw))) (Sc.atD (fun _ hw => hw.sel [1, 2] (by decide) rfl)) ?_)
         refine V2.y (i := 4) (Nx2.of (Z := Cls w [] [.obj b14 [.bool x11.Recoverable, .bool x11.Cascadeless, .bool x11.Strict] 32, .sl v4 40 2 (l3.map TEdge.row)]) [] (by kernel_rfl) rfl (Zc.fin (fun _ hw => hw))) rfl rfl rfl (Y.move rfl) ?_
         refine V2.y (i := 5) (Nx2.of (Z := Cls w [] [.obj b14 [.bool x11.Recoverable, .bool x11.Cascadeless, .bool x11.Strict] 32, .sl v4 40 2 (l3.map TEdge.row)]) [] (by kernel_rfl) rfl (Zc.fin (fun _ hw => hw))) rfl rfl rfl (Y.move rfl) ?_
         refine V2.ite (i := 6) h (Nx2.of (Z := Cls w [] [.obj b14 [.bool x11.Recoverable, .bool x11.Cascadeless, .bool x11.Strict] 32, .sl v4 40 2 (l3.map TEdge.row)]) [] (by kernel_rfl) rfl (Zc.fin (fun _ hw => hw))) rfl rfl rfl (Y.eql rfl rfl) (fun c25 h => ?_) (fun c25 h => ?_)
         ·
          refine V2.y (i := 7) (Nx2.of (Z := Cls w [] [.obj b14 [.bool x11.Recoverable, .bool x11.Cascadeless, .bool x11.Strict] 32, .sl v4 40 2 (l3.map TEdge.row)]) [] (by kernel_rfl) rfl (Zc.fin (fun _ hw => hw))) rfl rfl rfl (Y.pickT rfl rfl) ?_
          refine V2.y (i := 8) (Nx2.of (Z := Cls w [] [.obj b14 [.bool x11.Recoverable, .bool x11.Cascadeless, .bool x11.Strict] 32, .sl v4 40 2 (l3.map TEdge.row)]) [] (by kernel_rfl) rfl (Zc.fin (fun _ hw => hw))) rfl rfl rfl (Y.move rfl) ?_
          refine V2.y (i := 9) (Nx2.of (Z := Cls w [] [.obj b14 [.bool x11.Recoverable, .bool x11.Cascadeless, .bool x11.Strict] 32, .sl v4 40 2 (l3.map TEdge.row)]) [] (by kernel_rfl) rfl (Zc.fin (fun _ hw => hw))) rfl rfl rfl (Y.move rfl) ?_
          refine V2.y (i := 10) (Nx2.of (Z := Cls w [] [.obj b14 [.bool x11.Recoverable, .bool x11.Cascadeless, .bool x11.Strict] 32, .sl v4 40 2 (l3.map TEdge.row)]) [] (by kernel_rfl) rfl (Zc.fin (fun _ hw => hw))) rfl rfl rfl (Y.pickT rfl rfl) ?_
          refine V2.y (i := 11) (Nx2.of (Z := Cls w [] [.obj b14 [.bool x11.Recoverable, .bool x11.Cascadeless, .bool x11.Strict] 32, .sl v4 40 2 (l3.map TEdge.row)]) [] (by kernel_rfl) rfl (Zc.fin (fun _ hw => hw))) rfl rfl rfl (Y.move rfl) ?_
          refine V2.pass (i := 12) (Nx2.of (Z := Cls w [] [.obj b14 [.bool x11.Recoverable, .bool x11.Cascadeless, .bool x11.Strict] 32, .sl v4 40 2 (l3.map TEdge.row)]) [] (by kernel_rfl) rfl (Zc.fin (fun _ hw => hw))) rfl rfl ?_
          refine V2.pass (i := 13) (Nx2.of (Z := Cls w [] [.obj b14 [.bool x11.Recoverable, .bool x11.Cascadeless, .bool x11.Strict] 32, .sl v4 40 2 (l3.map TEdge.row)]) [] (by kernel_rfl) rfl (Zc.fin (fun _ hw => hw))) rfl rfl ?_
          refine V2.pass (i := 14) (Nx2.of (Z := Cls w [] [.obj b14 [.bool x11.Recoverable, .bool x11.Cascadeless, .bool x11.Strict] 32, .sl v4 40 2 (l3.map TEdge.row)]) [] (by kernel_rfl) rfl (Zc.fin (fun _ hw => hw))) rfl rfl ?_
          refine V2.pass (i := 15) (Nx2.of (Z := Cls w [] [.obj b14 [.bool x11.Recoverable, .bool x11.Cascadeless, .bool x11.Strict] 32, .sl v4 40 2 (l3.map TEdge.row)]) [] (by kernel_rfl) rfl (Zc.fin (fun _ hw => hw))) rfl rfl ?_
          refine V2.y (i := 16) (Nx2.of (Z := Cls w [] [.obj b14 [.bool x11.Recoverable, .bool x11.Cascadeless, .bool x11.Strict] 32, .sl v4 40 2 (l3.map TEdge.row)]) [] (by kernel_rfl) rfl (Zc.fin (fun _ hw => hw))) rfl rfl rfl (Y.pickF rfl rfl) ?_
          refine V2.y (i := 17) (Nx2.of (Z := Cls w [] [.obj b14 [.bool x11.Recoverable, .bool x11.Cascadeless, .bool x11.Strict] 32, .sl v4 40 2 (l3.map TEdge.row)]) [] (by kernel_rfl) rfl (Zc.fin (fun _ hw => hw))) rfl rfl rfl (Y.move rfl) ?_
          refine V2.pass (i := 18) (Nx2.of (Z := Cls w [] [.obj b14 [.bool x11.Recoverable, .bool x11.Cascadeless, .bool x11.Strict] 32, .sl v4 40 2 (l3.map TEdge.row)]) [] (by kernel_rfl) rfl (Zc.fin (fun _ hw => hw))) rfl rfl ?_
          refine V2.pass (i := 19) (Nx2.of (Z := Cls w [] [.obj b14 [.bool x11.Recoverable, .bool x11.Cascadeless, .bool x11.Strict] 32, .sl v4 40 2 (l3.map TEdge.row)]) [] (by kernel_rfl) rfl (Zc.fin (fun _ hw => hw))) rfl rfl ?_
          refine V2.y (i := 20) (Nx2.of (Z := Cls w [] [.obj b14 [.bool x11.Recoverable, .bool x11.Cascadeless, .bool x11.Strict] 32, .sl v4 40 2 (l3.map TEdge.row)]) [] (by kernel_rfl) rfl (Zc.fin (fun _ hw => hw))) rfl rfl rfl (Y.pickF rfl rfl) ?_
          refine V2.y (i := 21) (Nx2.of (Z := Cls w [] [.obj b14 [.bool x11.Recoverable, .bool x11.Cascadeless, .bool x11.Strict] 32, .sl v4 40 2 (l3.map TEdge.row)]) [] (by kernel_rfl) rfl (Zc.fin (fun _ hw => hw))) rfl rfl rfl (Y.assign rfl) ?_
          refine V2.done (by kernel_rfl) ?_
          refine E.thenN (W.ret (E.ret1 rfl rfl (fun w1 hw => ?_)))
          obtain rfl := Option.some.inj h
          exact ⟨_, _, rfl, ⟨rfl, rfl⟩, hw.sel [] (by decide) rfl⟩
         ·
          refine V2.y (i := 7) (Nx2.of (Z := Cls w [] [.obj b14 [.bool x11.Recoverable, .bool x11.Cascadeless, .bool x11.Strict] 32, .sl v4 40 2 (l3.map TEdge.row)]) [] (by kernel_rfl) rfl (Zc.fin (fun _ hw => hw))) rfl rfl rfl (Y.pickT rfl rfl) ?_
          refine V2.y (i := 8) (Nx2.of (Z := Cls w [] [.obj b14 [.bool x11.Recoverable, .bool x11.Cascadeless, .bool x11.Strict] 32, .sl v4 40 2 (l3.map TEdge.row)]) [] (by kernel_rfl) rfl (Zc.fin (fun _ hw => hw))) rfl rfl rfl (Y.move rfl) ?_
          refine V2.pass (i := 9) (Nx2.of (Z := Cls w [] [.obj b14 [.bool x11.Recoverable, .bool x11.Cascadeless, .bool x11.Strict] 32, .sl v4 40 2 (l3.map TEdge.row)]) [] (by kernel_rfl) rfl (Zc.fin (fun _ hw => hw))) rfl rfl ?_
          refine V2.y (i := 10) (Nx2.of (Z := Cls w [] [.obj b14 [.bool x11.Recoverable, .bool x11.Cascadeless, .bool x11.Strict] 32, .sl v4 40 2 (l3.map TEdge.row)]) [] (by kernel_rfl) rfl (Zc.fin (fun _ hw => hw))) rfl rfl rfl (Y.pickF rfl rfl) ?_
          refine V2.y (i := 11) (Nx2.of (Z := Cls w [] [.obj b14 [.bool x11.Recoverable, .bool x11.Cascadeless, .bool x11.Strict] 32, .sl v4 40 2 (l3.map TEdge.row)]) [] (by kernel_rfl) rfl (Zc.fin (fun _ hw => hw))) rfl rfl rfl (Y.move rfl) ?_
          refine V2.pass (i := 12) (Nx2.of (Z := Cls w [] [.obj b14 [.bool x11.Recoverable, .bool x11.Cascadeless, .bool x11.Strict] 32, .sl v4 40 2 (l3.map TEdge.row)]) [] (by kernel_rfl) rfl (Zc.fin (fun _ hw => hw))) rfl rfl ?_
          refine V2.pass (i := 13) (Nx2.of (Z := Cls w [] [.obj b14 [.bool x11.Recoverable, .bool x11.Cascadeless, .bool x11.Strict] 32, .sl v4 40 2 (l3.map TEdge.row)]) [] (by kernel_rfl) rfl (Zc.fin (fun _ hw => hw))) rfl rfl ?_
          refine V2.pass (i := 14) (Nx2.of (Z := Cls w [] [.obj b14 [.bool x11.Recoverable, .bool x11.Cascadeless, .bool x11.Strict] 32, .sl v4 40 2 (l3.map TEdge.row)]) [] (by kernel_rfl) rfl (Zc.fin (fun _ hw => hw))) rfl rfl ?_
          refine V2.pass (i := 15) (Nx2.of (Z := Cls w [] [.obj b14 [.bool x11.Recoverable, .bool x11.Cascadeless, .bool x11.Strict] 32, .sl v4 40 2 (l3.map TEdge.row)]) [] (by kernel_rfl) rfl (Zc.fin (fun _ hw => hw))) rfl rfl ?_
          refine V2.y (i := 16) (Nx2.of (Z := Cls w [] [.obj b14 [.bool x11.Recoverable, .bool x11.Cascadeless, .bool x11.Strict] 32, .sl v4 40 2 (l3.map TEdge.row)]) [] (by kernel_rfl) rfl (Zc.fin (fun _ hw => hw))) rfl rfl rfl (Y.pickF rfl rfl) ?_
          refine V2.y (i := 17) (Nx2.of (Z := Cls w [] [.obj b14 [.bool x11.Recoverable, .bool x11.Cascadeless, .bool x11.Strict] 32, .sl v4 40 2 (l3.map TEdge.row)]) [] (by kernel_rfl) rfl (Zc.fin (fun _ hw => hw))) rfl rfl rfl (Y.move rfl) ?_
          refine V2.pass (i := 18) (Nx2.of (Z := Cls w [] [.obj b14 [.bool x11.Recoverable, .bool x11.Cascadeless, .bool x11.Strict] 32, .sl v4 40 2 (l3.map TEdge.row)]) [] (by kernel_rfl) rfl (Zc.fin (fun _ hw => hw))) rfl rfl ?_
          refine V2.pass (i := 19) (Nx2.of (Z := Cls w [] [.obj b14 [.bool x11.Recoverable, .bool x11.Cascadeless, .bool x11.Strict] 32, .sl v4 40 2 (l3.map TEdge.row)]) [] (by kernel_rfl) rfl (Zc.fin (fun _ hw => hw))) rfl rfl ?_
          refine V2.y (i := 20) (Nx2.of (Z := Cls w [] [.obj b14 [.bool x11.Recoverable, .bool x11.Cascadeless, .bool x11.Strict] 32, .sl v4 40 2 (l3.map TEdge.row)]) [] (by kernel_rfl) rfl (Zc.fin (fun _ hw => hw))) rfl rfl rfl (Y.pickF rfl rfl) ?_
          refine V2.y (i := 21) (Nx2.of (Z := Cls w [] [.obj b14 [.bool x11.Recoverable, .bool x11.Cascadeless, .bool x11.Strict] 32, .sl v4 40 2 (l3.map TEdge.row)]) [] (by kernel_rfl) rfl (Zc.fin (fun _ hw => hw))) rfl rfl rfl (Y.assign rfl) ?_
          refine V2.done (by kernel_rfl) ?_
          refine E.thenN (W.ret (E.ret1 rfl rfl (fun w1 hw => ?_)))
          obtain rfl := Option.some.inj h
          exact ⟨_, _, rfl, ⟨rfl, rfl⟩, hw.sel [] (by decide) rfl⟩
       ·
        replace h := iteT h
        refine W.seq (W.drawn2 (k := 22) (stC [[3]] [Cls w [] [.obj b14 [.bool x11.Recoverable, .bool x11.Cascadeless, .bool x11.Strict] 32, .sl v4 40 2 (l3.map TEdge.row)]] (Cls w [] [.obj b14 [.bool x11.Recoverable, .bool x11.Cascadeless, .bool x11.Strict] 32, .sl v4 40 2 (l3.map TEdge.row)])) rfl mixed (fun _ hw => hw.drew) (Sc.now (by kernel_rfl) (fun _ hw => hw)) ?_)
        refine V2.y (i := 0) (Nx2.of (Z := Cls w [] [.obj b14 [.bool x11.Recoverable, .bool x11.Cascadeless, .bool x11.Strict] 32, .sl v4 40 2 (l3.map TEdge.row)]) [] (by kernel_rfl) rfl (Zc.on (fun _ hw => hw) (Zc.fin (fun _ hw => hw)))) rfl rfl rfl (Y.move rfl) ?_
        refine V2.y (i := 1) (Nx2.of (Z := Cls w [] [.obj b14 [.bool x11.Recoverable, .bool x11.Cascadeless, .bool x11.Strict] 32, .sl v4 40 2 (l3.map TEdge.row)]) [] (by kernel_rfl) rfl (Zc.on (fun _ hw => hw) (Zc.fin (fun _ hw => hw)))) rfl rfl rfl (Y.move rfl) ?_
        refine V2.eff (i := 2) (by kernel_rfl) rfl ?_
        obtain ⟨l31, e33, h⟩ := bind1S h
        refine L.does rfl en16 rfl (fun w' hw => w16_quirref_Edges a0 u0 w' _ e33 (hA0.cls0 hw)) ?_
        rintro v32 _ ⟨_, rfl, rfl⟩
        refine L.nil (E.toV2 (stC [[3]] [Cls w [] [.sl v32 40 2 (l31.map TEdge.row), .obj b14 [.bool x11.Recoverable, .bool x11.Cascadeless, .bool x11.Strict] 32, .sl v4 40 2 (l3.map TEdge.row)]] (Cls w [] [.obj b14 [.bool x11.Recoverable, .bool x11.Cascadeless, .bool x11.Strict] 32, .sl v4 40 2 (l3.map TEdge.row)])) 2 (by kernel_rfl) (Sc.stay (fun _ hw => hw.sel [1, 2] (by decide) rfl) (Sc.stayD (fun _ hw => hw))) (Sc.now (by kernel_rfl) (fun _ hw => hw)) ?_)
        refine V2.eff (i := 3) (by kernel_rfl) rfl ?_
        obtain ⟨b34, e35, h⟩ := bind1S h
        refine L.y rfl (Y.does en15 rfl (fun w' hw => (w15_api_Edge l3 l31 v4 v32 w' _ e35 (As.at_ (hw.get (i := 2) rfl)) (As.at_ (hw.get (i := 0) rfl))).mono (fun _ _ h => h.1))) ?_
        rcases b34 with _ | _
        ·
         replace h := iteF h
         refine L.nil (E.toV2 (stC [] [] (Cls w [] [.obj b14 [.bool x11.Recoverable, .bool x11.Cascadeless, .bool x11.Strict] 32, .sl v4 40 2 (l3.map TEdge.row)])) 3 (by kernel_rfl) (Sc.past rfl (Sc.stayD (fun _ hw => hw))) (Sc.atD (fun _ hw => hw.sel [1, 2] (by decide) rfl)) ?_)
         refine V2.y (i := 4) (Nx2.of (Z := Cls w [] [.obj b14 [.bool x11.Recoverable, .bool x11.Cascadeless, .bool x11.Strict] 32, .sl v4 40 2 (l3.map TEdge.row)]) [] (by kernel_rfl) rfl (Zc.fin (fun _ hw => hw))) rfl rfl rfl (Y.move rfl) ?_
         refine V2.pass (i := 5) (Nx2.of (Z := Cls w [] [.obj b14 [.bool x11.Recoverable, .bool x11.Cascadeless, .bool x11.Strict] 32, .sl v4 40 2 (l3.map TEdge.row)]) [] (by kernel_rfl) rfl (Zc.fin (fun _ hw => hw))) rfl rfl ?_
         refine V2.pass (i := 6) (Nx2.of (Z := Cls w [] [.obj b14 [.bool x11.Recoverable, .bool x11.Cascadeless, .bool x11.Strict] 32, .sl v4 40 2 (l3.map TEdge.row)]) [] (by kernel_rfl) rfl (Zc.fin (fun _ hw => hw))) rfl rfl ?_
         refine V2.y (i := 7) (Nx2.of (Z := Cls w [] [.obj b14 [.bool x11.Recoverable, .bool x11.Cascadeless, .bool x11.Strict] 32, .sl v4 40 2 (l3.map TEdge.row)]) [] (by kernel_rfl) rfl (Zc.fin (fun _ hw => hw))) rfl rfl rfl (Y.pickF rfl rfl) ?_
         refine V2.y (i := 8) (Nx2.of (Z := Cls w [] [.obj b14 [.bool x11.Recoverable, .bool x11.Cascadeless, .bool x11.Strict] 32, .sl v4 40 2 (l3.map TEdge.row)]) [] (by kernel_rfl) rfl (Zc.fin (fun _ hw => hw))) rfl rfl rfl (Y.move rfl) ?_
         refine V2.pass (i := 9) (Nx2.of (Z := Cls w [] [.obj b14 [.bool x11.Recoverable, .bool x11.Cascadeless, .bool x11.Strict] 32, .sl v4 40 2 (l3.map TEdge.row)]) [] (by kernel_rfl) rfl (Zc.fin (fun _ hw => hw))) rfl rfl ?_
         refine V2.y (i := 10) (Nx2.of (Z := Cls w [] [.obj b14 [.bool x11.Recoverable, .bool x11.Cascadeless, .bool x11.Strict] 32, .sl v4 40 2 (l3.map TEdge.row)]) [] (by kernel_rfl) rfl (Zc.fin (fun _ hw => hw))) rfl rfl rfl (Y.pickF rfl rfl) ?_
         refine V2.y (i := 11) (Nx2.of (Z := Cls w [] [.obj b14 [.bool x11.Recoverable, .bool x11.Cascadeless, .bool x11.Strict] 32, .sl v4 40 2 (l3.map TEdge.row)]) [] (by kernel_rfl) rfl (Zc.fin (fun _ hw => hw))) rfl rfl rfl (Y.move rfl) ?_
         refine V2.pass (i := 12) (Nx2.of (Z := Cls w [] [.obj b14 [.bool x11.Recoverable, .bool x11.Cascadeless, .bool x11.Strict] 32, .sl v4 40 2 (l3.map TEdge.row)]) [] (by kernel_rfl) rfl (Zc.fin (fun _ hw => hw))) rfl rfl ?_
         refine V2.pass (i := 13) (Nx2.of (Z := Cls w [] [.obj b14 [.bool x11.Recoverable, .bool x11.Cascadeless, .bool x11.Strict] 32, .sl v4 40 2 (l3.map TEdge.row)]) [] (by kernel_rfl) rfl (Zc.fin (fun _ hw => hw))) rfl rfl ?_
         refine V2.pass (i := 14) (Nx2.of (Z := Cls w [] [.obj b14 [.bool x11.Recoverable, .bool x11.Cascadeless, .bool x11.Strict] 32, .sl v4 40 2 (l3.map TEdge.row)]) [] (by kernel_rfl) rfl (Zc.fin (fun _ hw => hw))) rfl rfl ?_
         refine V2.pass (i := 15) (Nx2.of (Z := Cls w [] [.obj b14 [.bool x11.Recoverable, .bool x11.Cascadeless, .bool x11.Strict] 32, .sl v4 40 2 (l3.map TEdge.row)]) [] (by kernel_rfl) rfl (Zc.fin (fun _ hw => hw))) rfl rfl ?_
         refine V2.y (i := 16) (Nx2.of (Z := Cls w [] [.obj b14 [.bool x11.Recoverable, .bool x11.Cascadeless, .bool x11.Strict] 32, .sl v4 40 2 (l3.map TEdge.row)]) [] (by kernel_rfl) rfl (Zc.fin (fun _ hw => hw))) rfl rfl rfl (Y.pickF rfl rfl) ?_
         refine V2.y (i := 17) (Nx2.of (Z := Cls w [] [.obj b14 [.bool x11.Recoverable, .bool x11.Cascadeless, .bool x11.Strict] 32, .sl v4 40 2 (l3.map TEdge.row)]) [] (by kernel_rfl) rfl (Zc.fin (fun _ hw => hw))) rfl rfl rfl (Y.move rfl) ?_
         refine V2.pass (i := 18) (Nx2.of (Z := Cls w [] [.obj b14 [.bool x11.Recoverable, .bool x11.Cascadeless, .bool x11.Strict] 32, .sl v4 40 2 (l3.map TEdge.row)]) [] (by kernel_rfl) rfl (Zc.fin (fun _ hw => hw))) rfl rfl ?_
         refine V2.pass (i := 19) (Nx2.of (Z := Cls w [] [.obj b14 [.bool x11.Recoverable, .bool x11.Cascadeless, .bool x11.Strict] 32, .sl v4 40 2 (l3.map TEdge.row)]) [] (by kernel_rfl) rfl (Zc.fin (fun _ hw => hw))) rfl rfl ?_
         refine V2.y (i := 20) (Nx2.of (Z := Cls w [] [.obj b14 [.bool x11.Recoverable, .bool x11.Cascadeless, .bool x11.Strict] 32, .sl v4 40 2 (l3.map TEdge.row)]) [] (by kernel_rfl) rfl (Zc.fin (fun _ hw => hw))) rfl rfl rfl (Y.pickF rfl rfl) ?_
         refine V2.y (i := 21) (Nx2.of (Z := Cls w [] [.obj b14 [.bool x11.Recoverable, .bool x11.Cascadeless, .bool x11.Strict] 32, .sl v4 40 2 (l3.map TEdge.row)]) [] (by kernel_rfl) rfl (Zc.fin (fun _ hw => hw))) rfl rfl rfl (Y.assign rfl) ?_
         refine V2.done (by kernel_rfl) ?_
         refine E.thenN (W.ret (E.ret1 rfl rfl (fun w1 hw => ?_)))
         obtain rfl := Option.some.inj h
         exact ⟨_, _, rfl, ⟨rfl, rfl⟩, hw.sel [] (by decide) rfl⟩
        ·
         replace h := iteT h
         refine L.nil (E.toV2 (stC [] [] (Cls w [] [.obj b14 [.bool x11.Recoverable, .bool x11.Cascadeless, .bool x11.Strict] 32, .sl v4 40 2 (l3.map TEdge.row)])) 3 (by kernel_rfl) (Sc.past rfl (Sc.stayD (fun _ hw => hw))) (Sc.atD (fun _ hw => hw.sel [1, 2] (by decide) rfl)) ?_)
         refine V2.y (i := 4) (Nx2.of (Z := Cls w [] [.obj b14 [.bool x11.Recoverable, .bool x11.Cascadeless, .bool x11.Strict] 32, .sl v4 40 2 (l3.map TEdge.row)]) [] (by kernel_rfl) rfl (Zc.fin (fun _ hw => hw))) rfl rfl rfl (Y.move rfl) ?_
         refine V2.y (i := 5) (Nx2.of (Z := Cls w [] [.obj b14 [.bool x11.Recoverable, .bool x11.Cascadeless, .bool x11.Strict] 32, .sl v4 40 2 (l3.map TEdge.row)]) [] (by kernel_rfl) rfl (Zc.fin (fun _ hw => hw))) rfl rfl rfl (Y.move rfl) ?_
         refine V2.ite (i := 6) h (Nx2.of (Z := Cls w [] [.obj b14 [.bool x11.Recoverable, .bool x11.Cascadeless, .bool x11.Strict] 32, .sl v4 40 2 (l3.map TEdge.row)]) [] (by kernel_rfl) rfl (Zc.fin (fun _ hw => hw))) rfl rfl rfl (Y.eql rfl rfl) (fun c36 h => ?_) (fun c36 h => ?_)
         ·
          refine V2.y (i := 7) (Nx2.of (Z := Cls w [] [.obj b14 [.bool x11.Recoverable, .bool x11.Cascadeless, .bool x11.Strict] 32, .sl v4 40 2 (l3.map TEdge.row)]) [] (by kernel_rfl) rfl (Zc.fin (fun _ hw => hw))) rfl rfl rfl (Y.pickT rfl rfl) ?_
          refine V2.y (i := 8) (Nx2.of (Z := Cls w [] [.obj b14 [.bool x11.Recoverable, .bool x11.Cascadeless, .bool x11.Strict] 32, .sl v4 40 2 (l3.map TEdge.row)]) [] (by kernel_rfl) rfl (Zc.fin (fun _ hw => hw))) rfl rfl rfl (Y.move rfl) ?_
          refine V2.y (i := 9) (Nx2.of (Z := Cls w [] [.obj b14 [.bool x11.Recoverable, .bool x11.Cascadeless, .bool x11.Strict] 32, .sl v4 40 2 (l3.map TEdge.row)]) [] (by kernel_rfl) rfl (Zc.fin (fun _ hw => hw))) rfl rfl rfl (Y.move rfl) ?_
          refine V2.y (i := 10) (Nx2.of (Z := Cls w [] [.obj b14 [.bool x11.Recoverable, .bool x11.Cascadeless, .bool x11.Strict] 32, .sl v4 40 2 (l3.map TEdge.row)]) [] (by kernel_rfl) rfl (Zc.fin (fun _ hw => hw))) rfl rfl rfl (Y.pickT rfl rfl) ?_
          refine V2.y (i := 11) (Nx2.of (Z := Cls w [] [.obj b14 [.bool x11.Recoverable, .bool x11.Cascadeless, .bool x11.Strict] 32, .sl v4 40 2 (l3.map TEdge.row)]) [] (by kernel_rfl) rfl (Zc.fin (fun _ hw => hw))) rfl rfl rfl (Y.move rfl) ?_
          refine V2.y (i := 12) (Nx2.of (Z := Cls w [] [.obj b14 [.bool x11.Recoverable, .bool x11.Cascadeless, .bool x11.Strict] 32, .sl v4 40 2 (l3.map TEdge.row)]) [] (by kernel_rfl) rfl (Zc.fin (fun _ hw => hw))) rfl rfl rfl (Y.loadPW (i := 0) ag32 sz32 rfl rfl rfl) ?_
          refine V2.y (i := 13) (Nx2.of (Z := Cls w [] [.obj b14 [.bool x11.Recoverable, .bool x11.Cascadeless, .bool x11.Strict] 32, .sl v4 40 2 (l3.map TEdge.row)]) [] (by kernel_rfl) rfl (Zc.fin (fun _ hw => hw))) rfl rfl rfl (Y.move rfl) ?_
          refine V2.eff (i := 14) (by kernel_rfl) rfl ?_
          refine L.take rfl ?_
          obtain ⟨x37, e38, h⟩ := bind1S h
          refine L.y rfl (Y.does en17 rfl (fun w' hw => (w17_quirref_Kinds a0 u0 w' _ e38 (hA0.cls0 hw)).mono (fun _ _ h => h.1))) ?_
          refine L.nil (E.toV2 (stC [] [] (Cls w [] [.obj b14 [.bool x11.Recoverable, .bool x11.Cascadeless, .bool x11.Strict] 32, .sl v4 40 2 (l3.map TEdge.row)])) 14 (by kernel_rfl) (Sc.stayD (fun _ hw => hw)) (Sc.atD (fun _ hw => hw.sel [1, 2] (by decide) rfl)) ?_)
          refine V2.ite (i := 15) h (Nx2.of (Z := Cls w [] [.obj b14 [.bool x11.Recoverable, .bool x11.Cascadeless, .bool x11.Strict] 32, .sl v4 40 2 (l3.map TEdge.row)]) [] (by kernel_rfl) rfl (Zc.fin (fun _ hw => hw))) rfl rfl rfl (Y.eqlA (row := TRunKind.row) (a := x11) (b := x37) eg32 ag32 (sh32 _) (sh32 _) (inj32 _ _) rfl rfl) (fun c39 h => ?_) (fun c39 h => ?_)
          ·
           refine V2.y (i := 16) (Nx2.of (Z := Cls w [] [.obj b14 [.bool x11.Recoverable, .bool x11.Cascadeless, .bool x11.Strict] 32, .sl v4 40 2 (l3.map TEdge.row)]) [] (by kernel_rfl) rfl (Zc.fin (fun _ hw => hw))) rfl rfl rfl (Y.pickT rfl rfl) ?_
           refine V2.y (i := 17) (Nx2.of (Z := Cls w [] [.obj b14 [.bool x11.Recoverable, .bool x11.Cascadeless, .bool x11.Strict] 32, .sl v4 40 2 (l3.map TEdge.row)]) [] (by kernel_rfl) rfl (Zc.fin (fun _ hw => hw))) rfl rfl rfl (Y.move rfl) ?_
           refine V2.y (i := 18) (Nx2.of (Z := Cls w [] [.obj b14 [.bool x11.Recoverable, .bool x11.Cascadeless, .bool x11.Strict] 32, .sl v4 40 2 (l3.map TEdge.row)]) [] (by kernel_rfl) rfl (Zc.fin (fun _ hw => hw))) rfl rfl rfl (Y.move rfl) ?_
           refine V2.y (i := 19) (Nx2.of (Z := Cls w [] [.obj b14 [.bool x11.Recoverable, .bool x11.Cascadeless, .bool x11.Strict] 32, .sl v4 40 2 (l3.map TEdge.row)]) [] (by kernel_rfl) rfl (Zc.fin (fun _ hw => hw))) rfl rfl rfl (Y.eql rfl rfl) ?_
           refine V2.y (i := 20) (Nx2.of (Z := Cls w [] [.obj b14 [.bool x11.Recoverable, .bool x11.Cascadeless, .bool x11.Strict] 32, .sl v4 40 2 (l3.map TEdge.row)]) [] (by kernel_rfl) rfl (Zc.fin (fun _ hw => hw))) rfl rfl rfl (Y.pickT rfl rfl) ?_
           refine V2.y (i := 21) (Nx2.of (Z := Cls w [] [.obj b14 [.bool x11.Recoverable, .bool x11.Cascadeless, .bool x11.Strict] 32, .sl v4 40 2 (l3.map TEdge.row)]) [] (by kernel_rfl) rfl (Zc.fin (fun _ hw => hw))) rfl rfl rfl (Y.assign rfl) ?_
           refine V2.done (by kernel_rfl) ?_
           refine E.thenN (W.ret (E.ret1 rfl rfl (fun w1 hw => ?_)))
           obtain rfl := Option.some.inj h
           exact ⟨_, _, rfl, ⟨rfl, rfl⟩, hw.sel [] (by decide) rfl⟩
          ·
           refine V2.y (i := 16) (Nx2.of (Z := Cls w [] [.obj b14 [.bool x11.Recoverable, .bool x11.Cascadeless, .bool x11.Strict] 32, .sl v4 40 2 (l3.map TEdge.row)]) [] (by kernel_rfl) rfl (Zc.fin (fun _ hw => hw))) rfl rfl rfl (Y.pickT rfl rfl) ?_
           refine V2.y (i := 17) (Nx2.of (Z := Cls w [] [.obj b14 [.bool x11.Recoverable, .bool x11.Cascadeless, .bool x11.Strict] 32, .sl v4 40 2 (l3.map TEdge.row)]) [] (by kernel_rfl) rfl (Zc.fin (fun _ hw => hw))) rfl rfl rfl (Y.move rfl) ?_
           refine V2.pass (i := 18) (Nx2.of (Z := Cls w [] [.obj b14 [.bool x11.Recoverable, .bool x11.Cascadeless, .bool x11.Strict] 32, .sl v4 40 2 (l3.map TEdge.row)]) [] (by kernel_rfl) rfl (Zc.fin (fun _ hw => hw))) rfl rfl ?_
           refine V2.pass (i := 19) (Nx2.of (Z := Cls w [] [.obj b14 [.bool x11.Recoverable, .bool x11.Cascadeless, .bool x11.Strict] 32, .sl v4 40 2 (l3.map TEdge.row)]) [] (by kernel_rfl) rfl (Zc.fin (fun _ hw => hw))) rfl rfl ?_
           refine V2.y (i := 20) (Nx2.of (Z := Cls w [] [.obj b14 [.bool x11.Recoverable, .bool x11.Cascadeless, .bool x11.Strict] 32, .sl v4 40 2 (l3.map TEdge.row)]) [] (by kernel_rfl) rfl (Zc.fin (fun _ hw => hw))) rfl rfl rfl (Y.pickF rfl rfl) ?_
           refine V2.y (i := 21) (Nx2.of (Z := Cls w [] [.obj b14 [.bool x11.Recoverable, .bool x11.Cascadeless, .bool x11.Strict] 32, .sl v4 40 2 (l3.map TEdge.row)]) [] (by kernel_rfl) rfl (Zc.fin (fun _ hw => hw))) rfl rfl rfl (Y.assign rfl) ?_
           refine V2.done (by kernel_rfl) ?_
           refine E.thenN (W.ret (E.ret1 rfl rfl (fun w1 hw => ?_)))
           obtain rfl := Option.some.inj h
           exact ⟨_, _, rfl, ⟨rfl, rfl⟩, hw.sel [] (by decide) rfl⟩
         ·
          refine V2.y (i := 7) (Nx2.of (Z := Cls w [] [.obj b14 [.bool x11.Recoverable, .bool x11.Cascadeless, .bool x11.Strict] 32, .sl v4 40 2 (l3.map TEdge.row)]) [] (by kernel_rfl) rfl (Zc.fin (fun _ hw => hw))) rfl rfl rfl (Y.pickT rfl rfl) ?_
          refine V2.y (i := 8) (Nx2.of (Z := Cls w [] [.obj b14 [.bool x11.Recoverable, .bool x11.Cascadeless, .bool x11.Strict] 32, .sl v4 40 2 (l3.map TEdge.row)]) [] (by kernel_rfl) rfl (Zc.fin (fun _ hw => hw))) rfl rfl rfl (Y.move rfl) ?_
          refine V2.pass (i := 9) (Nx2.of (Z := Cls w [] [.obj b14 [.bool x11.Recoverable, .bool x11.Cascadeless, .bool x11.Strict] 32, .sl v4 40 2 (l3.map TEdge.row)]) [] (by kernel_rfl) rfl (Zc.fin (fun _ hw => hw))) rfl rfl ?_
          refine V2.y (i := 10) (Nx2.of (Z := Cls w [] [.obj b14 [.bool x11.Recoverable, .bool x11.Cascadeless, .bool x11.Strict] 32, .sl v4 40 2 (l3.map TEdge.row)]) [] (by kernel_rfl) rfl (Zc.fin (fun _ hw => hw))) rfl rfl rfl (Y.pickF rfl rfl) ?_
          refine V2.y (i := 11) (Nx2.of (Z := Cls w [] [.obj b14 [.bool x11.Recoverable, .bool x11.Cascadeless, .bool x11.Strict] 32, .sl v4 40 2 (l3.map TEdge.row)]) [] (by kernel_rfl) rfl (Zc.fin (fun _ hw => hw))) rfl rfl rfl (Y.move rfl) ?_
          refine V2.pass (i := 12) (Nx2.of (Z := Cls w [] [.obj b14 [.bool x11.Recoverable, .bool x11.Cascadeless, .bool x11.Strict] 32, .sl v4 40 2 (l3.map TEdge.row)]) [] (by kernel_rfl) rfl (Zc.fin (fun _ hw => hw))) rfl rfl ?_
          refine V2.pass (i := 13) (Nx2.of (Z := Cls w [] [.obj b14 [.bool x11.Recoverable, .bool x11.Cascadeless, .bool x11.Strict] 32, .sl v4 40 2 (l3.map TEdge.row)]) [] (by kernel_rfl) rfl (Zc.fin (fun _ hw => hw))) rfl rfl ?_
          refine V2.pass (i := 14) (Nx2.of (Z := Cls w [] [.obj b14 [.bool x11.Recoverable, .bool x11.Cascadeless, .bool x11.Strict] 32, .sl v4 40 2 (l3.map TEdge.row)]) [] (by kernel_rfl) rfl (Zc.fin (fun _ hw => hw))) rfl rfl ?_
          refine V2.pass (i := 15) (Nx2.of (Z := Cls w [] [.obj b14 [.bool x11.Recoverable, .bool x11.Cascadeless, .bool x11.Strict] 32, .sl v4 40 2 (l3.map TEdge.row)]) [] (by kernel_rfl) rfl (Zc.fin (fun _ hw => hw))) rfl rfl ?_
          refine V2.y (i := 16) (Nx2.of (Z := Cls w [] [.obj b14 [.bool x11.Recoverable, .bool x11.Cascadeless, .bool x11.Strict] 32, .sl v4 40 2 (l3.map TEdge.row)]) [] (by kernel_rfl) rfl (Zc.fin (fun _ hw => hw))) rfl rfl rfl (Y.pickF rfl rfl) ?_
          refine V2.y (i := 17) (Nx2.of (Z := Cls w [] [.obj b14 [.bool x11.Recoverable, .bool x11.Cascadeless, .bool x11.Strict] 32, .sl v4 40 2 (l3.map TEdge.row)]) [] (by kernel_rfl) rfl (Zc.fin (fun _ hw => hw))) rfl rfl rfl (Y.move rfl) ?_
          refine V2.pass (i := 18) (Nx2.of (Z := Cls w [] [.obj b14 [.bool x11.Recoverable, .bool x11.Cascadeless, .bool x11.Strict] 32, .sl v4 40 2 (l3.map TEdge.row)]) [] (by kernel_rfl) rfl (Zc.fin (fun _ hw => hw))) rfl rfl ?_
          refine V2.pass (i := 19) (Nx2.of (Z := Cls w [] [.obj b14 [.bool x11.Recoverable, .bool x11.Cascadeless, .bool x11.Strict] 32, .sl v4 40 2 (l3.map TEdge.row)]) [] (by kernel_rfl) rfl (Zc.fin (fun _ hw => hw))) rfl rfl ?_
          refine V2.y (i := 20) (Nx2.of (Z := Cls w [] [.obj b14 [.bool x11.Recoverable, .bool x11.Cascadeless, .bool x11.Strict] 32, .sl v4 40 2 (l3.map TEdge.row)]) [] (by kernel_rfl) rfl (Zc.fin (fun _ hw => hw))) rfl rfl rfl (Y.pickF rfl rfl) ?_
          refine V2.y (i := 21) (Nx2.of (Z := Cls w [] [.obj b14 [.bool x11.Recoverable, .bool x11.Cascadeless, .bool x11.Strict] 32, .sl v4 40 2 (l3.map TEdge.row)]) [] (by kernel_rfl) rfl (Zc.fin (fun _ hw => hw))) rfl rfl rfl (Y.assign rfl) ?_
          refine V2.done (by kernel_rfl) ?_
          refine E.thenN (W.ret (E.ret1 rfl rfl (fun w1 hw => ?_)))
          obtain rfl := Option.some.inj h
          exact ⟨_, _, rfl, ⟨rfl, rfl⟩, hw.sel [] (by decide) rfl⟩
     ·
      replace h := iteT h
      refine W.seqJ (fun gs D => ∃ (gb6 : Bool), gs = [(0, u0), (4, v4), (5, .int .i64 x5), (8, pt b14 0), (9, .int .i64 x12), (12, .bool gb6)] ∧ D = Cls w [] [.obj b14 [.bool x11.Recoverable, .bool x11.Cascadeless, .bool x11.Strict] 32, .sl v4 40 2 (l3.map TEdge.row)] ∧ m3_quirlaw_RunSays_K6 a0 l3 x5 x11 x12 gb6 = some r) ?_ ?_
      ·
       refine W.region (L.cutJ 10 (fun gs D => ∃ (gb7 : Bool), gs = [(0, u0), (4, v4), (5, .int .i64 x5), (6, v8), (7, .int .i64 x9), (8, pt b14 0), (9, .int .i64 x12), (11, .bool true), (78, .bool gb7)] ∧ D = Cls w [] [.obj b14 [.bool x11.Recoverable, .bool x11.Cascadeless, .bool x11.Strict] 32, .sl v4 40 2 (l3.map TEdge.row), .sl v8 3 1 (l7.map I)] ∧ m3_quirlaw_RunSays_K7 a0 l3 x5 x11 x12 gb7 = some r) ?_ ?_)
       ·
        refine L.y rfl (Y.move rfl) ?_
        refine L.y rfl (Y.move rfl) ?_
        refine L.take rfl (L.y rfl (Y.move rfl) ?_)
        refine L.take rfl (L.y rfl (Y.move rfl) ?_)
        refine L.take rfl ?_
        obtain ⟨b67, e68, h⟩ := bind1S h
        refine L.y rfl (Y.does en14 rfl (fun w' hw => (w14_slices_Equal_int l7 gl2 v8 gv1 w' _ e68 (As.at_ (hw.get (i := 2) rfl)) (As.at_ (hw.get (i := 3) rfl))).mono (fun _ _ h => h.1))) ?_
        rcases b67 with _ | _
        ·
         replace h := iteF h
         refine L.y rfl (Y.pickT rfl rfl) ?_
         refine L.y rfl (Y.move rfl) ?_
         refine L.pass rfl rfl (by nofun) ?_
         refine L.pass rfl rfl (by nofun) ?_
         refine L.y rfl (Y.pickF rfl rfl) ?_
         exact L.nil (E.joinJ ⟨false, rfl, rfl, h⟩ ⟨rfl, rfl, rfl, rfl, rfl, rfl, rfl, rfl, rfl, trivial⟩ (fun _ hw => hw.sel [0, 1, 2] (by decide) rfl))
        ·
         replace h := iteT h
         refine L.y rfl (Y.pickT rfl rfl) ?_
         refine L.y rfl (Y.move rfl) ?_
         refine L.take rfl (L.y rfl (Y.move rfl) ?_)
         refine L.take rfl (L.ite h rfl (Y.eql rfl rfl) (fun c69 h => ?_) (fun c69 h => ?_))
         ·
          refine L.y rfl (Y.pickT rfl rfl) ?_
          exact L.nil (E.joinJ ⟨true, rfl, rfl, h⟩ ⟨rfl, rfl, rfl, rfl, rfl, rfl, rfl, rfl, rfl, trivial⟩ (fun _ hw => hw.sel [0, 1, 2] (by decide) rfl))
         ·
          refine L.y rfl (Y.pickT rfl rfl) ?_
          exact L.nil (E.joinJ ⟨false, rfl, rfl, h⟩ ⟨rfl, rfl, rfl, rfl, rfl, rfl, rfl, rfl, rfl, trivial⟩ (fun _ hw => hw.sel [0, 1, 2] (by decide) rfl))
       ·
        rintro _ _ ⟨gb7, rfl, rfl, h⟩
        rw [m3_quirlaw_RunSays_K7] at h
        rcases gb7 with _ | _
        ·
         replace h := iteF h
         refine L.y rfl (Y.move rfl) ?_
         refine L.take rfl (L.y rfl (Y.move rfl) ?_)
         refine L.take rfl (L.y rfl (Y.not rfl) ?_)
         refine L.take rfl (L.y rfl (Y.move rfl) ?_)
         refine L.pass rfl rfl (by nofun) ?_
         refine L.pass rfl rfl (by nofun) ?_
         refine L.pass rfl rfl (by nofun) ?_
         refine L.take rfl (L.y rfl (Y.pickF rfl rfl) ?_)
         refine L.take rfl (L.y rfl (Y.move rfl) ?_)
         refine L.pass rfl rfl (by nofun) ?_
         refine L.pass rfl rfl (by nofun) ?_
         refine L.take rfl (L.y rfl (Y.pickF rfl rfl) ?_)
         refine L.y rfl (Y.pickF rfl rfl) ?_
         refine L.y rfl (Y.assign rfl) ?_
         exact L.nil (E.joinJ ⟨false, rfl, rfl, h⟩ ⟨rfl, rfl, rfl, rfl, rfl, rfl, trivial⟩ (fun _ hw => hw.sel [0, 1] (by decide) rfl))
        ·
         replace h := iteT h
         refine L.y rfl (Y.move rfl) ?_
         refine L.pass rfl rfl (by nofun) ?_
         refine L.pass rfl rfl (by nofun) ?_
         refine L.pass rfl rfl (by nofun) ?_
         refine L.pass rfl rfl (by nofun) ?_
         refine L.pass rfl rfl (by nofun) ?_
         refine L.pass rfl rfl (by nofun) ?_
         refine L.pass rfl rfl (by nofun) ?_
         refine L.pass rfl rfl (by nofun) ?_
         refine L.pass rfl rfl (by nofun) ?_
         refine L.pass rfl rfl (by nofun) ?_
         refine L.pass rfl rfl (by nofun) ?_
         refine L.y rfl (Y.pickT rfl rfl) ?_
         refine L.y rfl (Y.assign rfl) ?_
         exact L.nil (E.joinJ ⟨true, rfl, rfl, h⟩ ⟨rfl, rfl, rfl, rfl, rfl, rfl, trivial⟩ (fun _ hw => hw.sel [0, 1] (by decide) rfl))
      ·
       rintro _ _ ⟨gb6, rfl, rfl, h⟩
       rw [m3_quirlaw_RunSays_K6] at h
       rcases gb6 with _ | _
       ·
        replace h := iteF h
        refine W.seq (W.drawn2 (k := 22) (stC [[3]] [Cls w [] [.obj b14 [.bool x11.Recoverable, .bool x11.Cascadeless, .bool x11.Strict] 32, .sl v4 40 2 (l3.map TEdge.row)]] (Cls w [] [.obj b14 [.bool x11.Recoverable, .bool x11.Cascadeless, .bool x11.Strict] 32, .sl v4 40 2 (l3.map TEdge.row)])) rfl mixed (fun _ hw => hw.drew) (Sc.now (by kernel_rfl) (fun _ hw => hw)) ?_)
        refine V2.y (i := 0) (Nx2.of (Z := Cls w [] [.obj b14 [.bool x11.Recoverable, .bool x11.Cascadeless, .bool x11.Strict] 32, .sl v4 40 2 (l3.map TEdge.row)]) [] (by kernel_rfl) rfl (Zc.on (fun _ hw => hw) (Zc.fin (fun _ hw => hw)))) rfl rfl rfl (Y.move rfl) ?_
        refine V2.y (i := 1) (Nx2.of (Z := Cls w [] [.obj b14 [.bool x11.Recoverable, .bool x11.Cascadeless, .bool x11.Strict] 32, .sl v4 40 2 (l3.map TEdge.row)]) [] (by kernel_rfl) rfl (Zc.on (fun _ hw => hw) (Zc.fin (fun _ hw => hw)))) rfl rfl rfl (Y.move rfl) ?_
        refine V2.eff (i := 2) (by kernel_rfl) rfl ?_
        obtain ⟨l47, e49, h⟩ := bind1S h
        refine L.does rfl en16 rfl (fun w' hw => w16_quirref_Edges a0 u0 w' _ e49 (hA0.cls0 hw)) ?_
        rintro v48 _ ⟨_, rfl, rfl⟩
        refine L.nil (E.toV2 (stC [[3]] [Cls w [] [.sl v48 40 2 (l47.map TEdge.row), .obj b14 [.bool x11.Recoverable, .bool x11.Cascadeless, .bool x11.Strict] 32, .sl v4 40 2 (l3.map TEdge.row)]] (Cls w [] [.obj b14 [.bool x11.Recoverable, .bool x11.Cascadeless, .bool x11.Strict] 32, .sl v4 40 2 (l3.map TEdge.row)])) 2 (by kernel_rfl) (Sc.stay (fun _ hw => hw.sel [1, 2] (by decide) rfl) (Sc.stayD (fun _ hw => hw))) (Sc.now (by kernel_rfl) (fun _ hw => hw)) ?_)
        refine V2.eff (i := 3) (by kernel_rfl) rfl ?_
        obtain ⟨b50, e51, h⟩ := bind1S h
        refine L.y rfl (Y.does en15 rfl (fun w' hw => (w15_api_Edge l3 l47 v4 v48 w' _ e51 (As.at_ (hw.get (i := 2) rfl)) (As.at_ (hw.get (i := 0) rfl))).mono (fun _ _ h => h.1))) ?_
        rcases b50 with _ | _
        ·
         replace h := iteF h
         refine L.nil (E.toV2 (stC [] [] (Cls w [] [.obj b14 [.bool x11.Recoverable, .bool x11.Cascadeless, .bool x11.Strict] 32, .sl v4 40 2 (l3.map TEdge.row)])) 3 (by kernel_rfl) (Sc.past rfl (Sc.stayD (fun _ hw => hw))) (Sc.atD (fun _ hw => hw.sel [1, 2] (by decide) rfl)) ?_)
         refine V2.y (i := 4) (Nx2.of (Z := Cls w [] [.obj b14 [.bool x11.Recoverable, .bool x11.Cascadeless, .bool x11.Strict] 32, .sl v4 40 2 (l3.map TEdge.row)]) [] (by kernel_rfl) rfl (Zc.fin (fun _ hw => hw))) rfl rfl rfl (Y.move rfl) ?_
         refine V2.pass (i := 5) (Nx2.of (Z := Cls w [] [.obj b14 [.bool x11.Recoverable, .bool x11.Cascadeless, .bool x11.Strict] 32, .sl v4 40 2 (l3.map TEdge.row)]) [] (by kernel_rfl) rfl (Zc.fin (fun _ hw => hw))) rfl rfl ?_
         refine V2.pass (i := 6) (Nx2.of (Z := Cls w [] [.obj b14 [.bool x11.Recoverable, .bool x11.Cascadeless, .bool x11.Strict] 32, .sl v4 40 2 (l3.map TEdge.row)]) [] (by kernel_rfl) rfl (Zc.fin (fun _ hw => hw))) rfl rfl ?_
         refine V2.y (i := 7) (Nx2.of (Z := Cls w [] [.obj b14 [.bool x11.Recoverable, .bool x11.Cascadeless, .bool x11.Strict] 32, .sl v4 40 2 (l3.map TEdge.row)]) [] (by kernel_rfl) rfl (Zc.fin (fun _ hw => hw))) rfl rfl rfl (Y.pickF rfl rfl) ?_
         refine V2.y (i := 8) (Nx2.of (Z := Cls w [] [.obj b14 [.bool x11.Recoverable, .bool x11.Cascadeless, .bool x11.Strict] 32, .sl v4 40 2 (l3.map TEdge.row)]) [] (by kernel_rfl) rfl (Zc.fin (fun _ hw => hw))) rfl rfl rfl (Y.move rfl) ?_
         refine V2.pass (i := 9) (Nx2.of (Z := Cls w [] [.obj b14 [.bool x11.Recoverable, .bool x11.Cascadeless, .bool x11.Strict] 32, .sl v4 40 2 (l3.map TEdge.row)]) [] (by kernel_rfl) rfl (Zc.fin (fun _ hw => hw))) rfl rfl ?_
         refine V2.y (i := 10) (Nx2.of (Z := Cls w [] [.obj b14 [.bool x11.Recoverable, .bool x11.Cascadeless, .bool x11.Strict] 32, .sl v4 40 2 (l3.map TEdge.row)]) [] (by kernel_rfl) rfl (Zc.fin (fun _ hw => hw))) rfl rfl rfl (Y.pickF rfl rfl) ?_
         refine V2.y (i := 11) (Nx2.of (Z := Cls w [] [.obj b14 [.bool x11.Recoverable, .bool x11.Cascadeless, .bool x11.Strict] 32, .sl v4 40 2 (l3.map TEdge.row)]) [] (by kernel_rfl) rfl (Zc.fin (fun _ hw => hw))) rfl rfl rfl (Y.move rfl) ?_
         refine V2.pass (i := 12) (Nx2.of (Z := Cls w [] [.obj b14 [.bool x11.Recoverable, .bool x11.Cascadeless, .bool x11.Strict] 32, .sl v4 40 2 (l3.map TEdge.row)]) [] (by kernel_rfl) rfl (Zc.fin (fun _ hw => hw))) rfl rfl ?_
         refine V2.pass (i := 13) (Nx2.of (Z := Cls w [] [.obj b14 [.bool x11.Recoverable, .bool x11.Cascadeless, .bool x11.Strict] 32, .sl v4 40 2 (l3.map TEdge.row)]) [] (by kernel_rfl) rfl (Zc.fin (fun _ hw => hw))) rfl rfl ?_
         refine V2.pass (i := 14) (Nx2.of (Z := Cls w [] [.obj b14 [.bool x11.Recoverable, .bool x11.Cascadeless, .bool x11.Strict] 32, .sl v4 40 2 (l3.map TEdge.row)]) [] (by kernel_rfl) rfl (Zc.fin (fun _ hw => hw))) rfl rfl ?_
         refine V2.pass (i := 15) (Nx2.of (Z := Cls w [] [.obj b14 [.bool x11.Recoverable, .bool x11.Cascadeless, .bool x11.Strict] 32, .sl v4 40 2 (l3.map TEdge.row)]) [] (by kernel_rfl) rfl (Zc.fin (fun _ hw => hw))) rfl rfl ?_
         refine V2.y (i := 16) (Nx2.of (Z := Cls w [] [.obj b14 [.bool x11.Recoverable, .bool x11.Cascadeless, .bool x11.Strict] 32, .sl v4 40 2 (l3.map TEdge.row)]) [] (by kernel_rfl) rfl (Zc.fin (fun _ hw => hw))) rfl rfl rfl (Y.pickF rfl rfl) ?_
         refine V2.y (i := 17) (Nx2.of (Z := Cls w [] [.obj b14 [.bool x11.Recoverable, .bool x11.Cascadeless, .bool x11.Strict] 32, .sl v4 40 2 (l3.map TEdge.row)]) [] (by kernel_rfl) rfl (Zc.fin (fun _ hw => hw))) rfl rfl rfl (Y.move rfl) ?_
         refine V2.pass (i := 18) (Nx2.of (Z := Cls w [] [.obj b14 [.bool x11.Recoverable, .bool x11.Cascadeless, .bool x11.Strict] 32, .sl v4 40 2 (l3.map TEdge.row)]) [] (by kernel_rfl) rfl (Zc.fin (fun _ hw => hw))) rfl rfl ?_
         refine V2.pass (i := 19) (Nx2.of (Z := Cls w [] [.obj b14 [.bool x11.Recoverable, .bool x11.Cascadeless, .bool x11.Strict] 32, .sl v4 40 2 (l3.map TEdge.row)]) [] (by kernel_rfl) rfl (Zc.fin (fun _ hw => hw))) rfl rfl ?_
         refine V2.y (i := 20) (Nx2.of (Z := Cls w [] [.obj b14 [.bool x11.Recoverable, .bool x11.Cascadeless, .bool x11.Strict] 32, .sl v4 40 2 (l3.map TEdge.row)]) [] (by kernel_rfl) rfl (Zc.fin (fun _ hw => hw))) rfl rfl rfl (Y.pickF rfl rfl) ?_
         refine V2.y (i := 21) (Nx2.of (Z := Cls w [] [.obj b14 [.bool x11.Recoverable, .bool x11.Cascadeless, .bool x11.Strict] 32, .sl v4 40 2 (l3.map TEdge.row)]) [] (by kernel_rfl) rfl (Zc.fin (fun _ hw => hw))) rfl rfl rfl (Y.assign rfl) ?_
         refine V2.done (by kernel_rfl) ?_
         refine E.thenN (W.ret (E.ret1 rfl rfl (fun w1 hw => ?_)))
         obtain rfl := Option.some.inj h
         exact ⟨_, _, rfl, ⟨rfl, rfl⟩, hw.sel [] (by decide) rfl⟩
        ·
         replace h := iteT h
         refine L.nil (E.toV2 (stC [] [] (Cls w [] [.obj b14 [.bool x11.Recoverable, .bool x11.Cascadeless, .bool x11.Strict] 32, .sl v4 40 2 (l3.map TEdge.row)])) 3 (by kernel_rfl) (Sc.past rfl (Sc.stayD (fun _ hw => hw))) (Sc.atD (fun _ hw => hw.sel [1, 2] (by decide) rfl)) ?_)
         refine V2.y (i := 4) (Nx2.of (Z := Cls w [] [.obj b14 [.bool x11.Recoverable, .bool x11.Cascadeless, .bool x11.Strict] 32, .sl v4 40 2 (l3.map TEdge.row)]) [] (by kernel_rfl) rfl (Zc.fin (fun _ hw => hw))) rfl rfl rfl (Y.move rfl) ?_
         refine V2.y (i := 5) (Nx2.of (Z := Cls w [] [.obj b14 [.bool x11.Recoverable, .bool x11.Cascadeless, .bool x11.Strict] 32, .sl v4 40 2 (l3.map TEdge.row)]) [] (by kernel_rfl) rfl (Zc.fin (fun _ hw => hw))) rfl rfl rfl (Y.move rfl) ?_
         refine V2.ite (i := 6) h (Nx2.of (Z := Cls w [] [.obj b14 [.bool x11.Recoverable, .bool x11.Cascadeless, .bool x11.Strict] 32, .sl v4 40 2 (l3.map TEdge.row)]) [] (by kernel_rfl) rfl (Zc.fin (fun _ hw => hw))) rfl rfl rfl (Y.eql rfl rfl) (fun c52 h => ?_) (fun c52 h => ?_)
         ·
          refine V2.y (i := 7) (Nx2.of (Z := Cls w [] [.obj b14 [.bool x11.Recoverable, .bool x11.Cascadeless, .bool x11.Strict] 32, .sl v4 40 2 (l3.map TEdge.row)]) [] (by kernel_rfl) rfl (Zc.fin (fun _ hw => hw))) rfl rfl rfl (Y.pickT rfl rfl) ?_
          refine V2.y (i := 8) (Nx2.of (Z := Cls w [] [.obj b14 [.bool x11.Recoverable, .bool x11.Cascadeless, .bool x11.Strict] 32, .sl v4 40 2 (l3.map TEdge.row)]) [] (by kernel_rfl) rfl (Zc.fin (fun _ hw => hw))) rfl rfl rfl (Y.move rfl) ?_
          refine V2.y (i := 9) (Nx2.of (Z := Cls w [] [.obj b14 [.bool x11.Recoverable, .bool x11.Cascadeless, .bool x11.Strict] 32, .sl v4 40 2 (l3.map TEdge.row)]) [] (by kernel_rfl) rfl (Zc.fin (fun _ hw => hw))) rfl rfl rfl (Y.move rfl) ?_
          refine V2.y (i := 10) (Nx2.of (Z := Cls w [] [.obj b14 [.bool x11.Recoverable, .bool x11.Cascadeless, .bool x11.Strict] 32, .sl v4 40 2 (l3.map TEdge.row)]) [] (by kernel_rfl) rfl (Zc.fin (fun _ hw => hw))) rfl rfl rfl (Y.pickT rfl rfl) ?_
          refine V2.y (i := 11) (Nx2.of (Z := Cls w [] [.obj b14 [.bool x11.Recoverable, .bool x11.Cascadeless, .bool x11.Strict] 32, .sl v4 40 2 (l3.map TEdge.row)]) [] (by kernel_rfl) rfl (Zc.fin (fun _ hw => hw))) rfl rfl rfl (Y.move rfl) ?_
          refine V2.pass (i := 12) (Nx2.of (Z := Cls w [] [.obj b14 [.bool x11.Recoverable, .bool x11.Cascadeless, .bool x11.Strict] 32, .sl v4 40 2 (l3.map TEdge.row)]) [] (by kernel_rfl) rfl (Zc.fin (fun _ hw => hw))) rfl rfl ?_
          refine V2.pass (i := 13) (Nx2.of (Z := Cls w [] [.obj b14 [.bool x11.Recoverable, .bool x11.Cascadeless, .bool x11.Strict] 32, .sl v4 40 2 (l3.map TEdge.row)]) [] (by kernel_rfl) rfl (Zc.fin (fun _ hw => hw))) rfl rfl ?_
          refine V2.pass (i := 14) (Nx2.of (Z := Cls w [] [.obj b14 [.bool x11.Recoverable, .bool x11.Cascadeless, .bool x11.Strict] 32, .sl v4 40 2 (l3.map TEdge.row)]) [] (by kernel_rfl) rfl (Zc.fin (fun _ hw => hw))) rfl rfl ?_
          refine V2.pass (i := 15) (Nx2.of (Z := Cls w [] [.obj b14 [.bool x11.Recoverable, .bool x11.Cascadeless, .bool x11.Strict] 32, .sl v4 40 2 (l3.map TEdge.row)]) [] (by kernel_rfl) rfl (Zc.fin (fun _ hw => hw))) rfl rfl ?_
          refine V2.y (i := 16) (Nx2.of (Z := Cls w [] [.obj b14 [.bool x11.Recoverable, .bool x11.Cascadeless, .bool x11.Strict] 32, .sl v4 40 2 (l3.map TEdge.row)]) [] (by kernel_rfl) rfl (Zc.fin (fun _ hw => hw))) rfl rfl rfl (Y.pickF rfl rfl) ?_
          refine V2.y (i := 17) (Nx2.of (Z := Cls w [] [.obj b14 [.bool x11.Recoverable, .bool x11.Cascadeless, .bool x11.Strict] 32, .sl v4 40 2 (l3.map TEdge.row)]) [] (by kernel_rfl) rfl (Zc.fin (fun _ hw => hw))) rfl rfl rfl (Y.move rfl) ?_
          refine V2.pass (i := 18) (Nx2.of (Z := Cls w [] [.obj b14 [.bool x11.Recoverable, .bool x11.Cascadeless, .bool x11.Strict] 32, .sl v4 40 2 (l3.map TEdge.row)]) [] (by kernel_rfl) rfl (Zc.fin (fun _ hw => hw))) rfl rfl ?_
          refine V2.pass (i := 19) (Nx2.of (Z := Cls w [] [.obj b14 [.bool x11.Recoverable, .bool x11.Cascadeless, .bool x11.Strict] 32, .sl v4 40 2 (l3.map TEdge.row)]) [] (by kernel_rfl) rfl (Zc.fin (fun _ hw => hw))) rfl rfl ?_
          refine V2.y (i := 20) (Nx2.of (Z := Cls w [] [.obj b14 [.bool x11.Recoverable, .bool x11.Cascadeless, .bool x11.Strict] 32, .sl v4 40 2 (l3.map TEdge.row)]) [] (by kernel_rfl) rfl (Zc.fin (fun _ hw => hw))) rfl rfl rfl (Y.pickF rfl rfl) ?_
          refine V2.y (i := 21) (Nx2.of (Z := Cls w [] [.obj b14 [.bool x11.Recoverable, .bool x11.Cascadeless, .bool x11.Strict] 32, .sl v4 40 2 (l3.map TEdge.row)]) [] (by kernel_rfl) rfl (Zc.fin (fun _ hw => hw))) rfl rfl rfl (Y.assign rfl) ?_
          refine V2.done (by kernel_rfl) ?_
          refine E.thenN (W.ret (E.ret1 rfl rfl (fun w1 hw => ?_)))
          obtain rfl := Option.some.inj h
          exact ⟨_, _, rfl, ⟨rfl, rfl⟩, hw.sel [] (by decide) rfl⟩
         ·
          refine V2.y (i := 7) (Nx2.of (Z := Cls w [] [.obj b14 [.bool x11.Recoverable, .bool x11.Cascadeless, .bool x11.Strict] 32, .sl v4 40 2 (l3.map TEdge.row)]) [] (by kernel_rfl) rfl (Zc.fin (fun _ hw => hw))) rfl rfl rfl (Y.pickT rfl rfl) ?_
          refine V2.y (i := 8) (Nx2.of (Z := Cls w [] [.obj b14 [.bool x11.Recoverable, .bool x11.Cascadeless, .bool x11.Strict] 32, .sl v4 40 2 (l3.map TEdge.row)]) [] (by kernel_rfl) rfl (Zc.fin (fun _ hw => hw))) rfl rfl rfl (Y.move rfl) ?_
          refine V2.pass (i := 9) (Nx2.of (Z := Cls w [] [.obj b14 [.bool x11.Recoverable, .bool x11.Cascadeless, .bool x11.Strict] 32, .sl v4 40 2 (l3.map TEdge.row)]) [] (by kernel_rfl) rfl (Zc.fin (fun _ hw => hw))) rfl rfl ?_
          refine V2.y (i := 10) (Nx2.of (Z := Cls w [] [.obj b14 [.bool x11.Recoverable, .bool x11.Cascadeless, .bool x11.Strict] 32, .sl v4 40 2 (l3.map TEdge.row)]) [] (by kernel_rfl) rfl (Zc.fin (fun _ hw => hw))) rfl rfl rfl (Y.pickF rfl rfl) ?_
          refine V2.y (i := 11) (Nx2.of (Z := Cls w [] [.obj b14 [.bool x11.Recoverable, .bool x11.Cascadeless, .bool x11.Strict] 32, .sl v4 40 2 (l3.map TEdge.row)]) [] (by kernel_rfl) rfl (Zc.fin (fun _ hw => hw))) rfl rfl rfl (Y.move rfl) ?_
          refine V2.pass (i := 12) (Nx2.of (Z := Cls w [] [.obj b14 [.bool x11.Recoverable, .bool x11.Cascadeless, .bool x11.Strict] 32, .sl v4 40 2 (l3.map TEdge.row)]) [] (by kernel_rfl) rfl (Zc.fin (fun _ hw => hw))) rfl rfl ?_
          refine V2.pass (i := 13) (Nx2.of (Z := Cls w [] [.obj b14 [.bool x11.Recoverable, .bool x11.Cascadeless, .bool x11.Strict] 32, .sl v4 40 2 (l3.map TEdge.row)]) [] (by kernel_rfl) rfl (Zc.fin (fun _ hw => hw))) rfl rfl ?_
          refine V2.pass (i := 14) (Nx2.of (Z := Cls w [] [.obj b14 [.bool x11.Recoverable, .bool x11.Cascadeless, .bool x11.Strict] 32, .sl v4 40 2 (l3.map TEdge.row)]) [] (by kernel_rfl) rfl (Zc.fin (fun _ hw => hw))) rfl rfl ?_
          refine V2.pass (i := 15) (Nx2.of (Z := Cls w [] [.obj b14 [.bool x11.Recoverable, .bool x11.Cascadeless, .bool x11.Strict] 32, .sl v4 40 2 (l3.map TEdge.row)]) [] (by kernel_rfl) rfl (Zc.fin (fun _ hw => hw))) rfl rfl ?_
          refine V2.y (i := 16) (Nx2.of (Z := Cls w [] [.obj b14 [.bool x11.Recoverable, .bool x11.Cascadeless, .bool x11.Strict] 32, .sl v4 40 2 (l3.map TEdge.row)]) [] (by kernel_rfl) rfl (Zc.fin (fun _ hw => hw))) rfl rfl rfl (Y.pickF rfl rfl) ?_
          refine V2.y (i := 17) (Nx2.of (Z := Cls w [] [.obj b14 [.bool x11.Recoverable, .bool x11.Cascadeless, .bool x11.Strict] 32, .sl v4 40 2 (l3.map TEdge.row)]) [] (by kernel_rfl) rfl (Zc.fin (fun _ hw => hw))) rfl rfl rfl (Y.move rfl) ?_
          refine V2.pass (i := 18) (Nx2.of (Z := Cls w [] [.obj b14 [.bool x11.Recoverable, .bool x11.Cascadeless, .bool x11.Strict] 32, .sl v4 40 2 (l3.map TEdge.row)]) [] (by kernel_rfl) rfl (Zc.fin (fun _ hw => hw))) rfl rfl ?_
          refine V2.pass (i := 19) (Nx2.of (Z := Cls w [] [.obj b14 [.bool x11.Recoverable, .bool x11.Cascadeless, .bool x11.Strict] 32, .sl v4 40 2 (l3.map TEdge.row)]) [] (by kernel_rfl) rfl (Zc.fin (fun _ hw => hw))) rfl rfl ?_
          refine V2.y (i := 20) (Nx2.of (Z := Cls w [] [.obj b14 [.bool x11.Recoverable, .bool x11.Cascadeless, .bool x11.Strict] 32, .sl v4 40 2 (l3.map TEdge.row)]) [] (by kernel_rfl) rfl (Zc.fin (fun _ hw => hw))) rfl rfl rfl (Y.pickF rfl rfl) ?_
          refine V2.y (i := 21) (Nx2.of (Z := Cls w [] [.obj b14 [.bool x11.Recoverable, .bool x11.Cascadeless, .bool x11.Strict] 32, .sl v4 40 2 (l3.map TEdge.row)]) [] (by kernel_rfl) rfl (Zc.fin (fun _ hw => hw))) rfl rfl rfl (Y.assign rfl) ?_
          refine V2.done (by kernel_rfl) ?_
          refine E.thenN (W.ret (E.ret1 rfl rfl (fun w1 hw => ?_)))
          obtain rfl := Option.some.inj h
          exact ⟨_, _, rfl, ⟨rfl, rfl⟩, hw.sel [] (by decide) rfl⟩
       ·
        replace h := iteT h
        refine W.seq (W.drawn2 (k := 22) (stC [[3]] [Cls w [] [.obj b14 [.bool x11.Recoverable, .bool x11.Cascadeless, .bool x11.Strict] 32, .sl v4 40 2 (l3.map TEdge.row)]] (Cls w [] [.obj b14 [.bool x11.Recoverable, .bool x11.Cascadeless, .bool x11.Strict] 32, .sl v4 40 2 (l3.map TEdge.row)])) rfl mixed (fun _ hw => hw.drew) (Sc.now (by kernel_rfl) (fun _ hw => hw)) ?_)
        refine V2.y (i := 0) (Nx2.of (Z := Cls w [] [.obj b14 [.bool x11.Recoverable, .bool x11.Cascadeless, .bool x11.Strict] 32, .sl v4 40 2 (l3.map TEdge.row)]) [] (by kernel_rfl) rfl (Zc.on (fun _ hw => hw) (Zc.fin (fun _ hw => hw)))) rfl rfl rfl (Y.move rfl) ?_
        refine V2.y (i := 1) (Nx2.of (Z := Cls w [] [.obj b14 [.bool x11.Recoverable, .bool x11.Cascadeless, .bool x11.Strict] 32, .sl v4 40 2 (l3.map TEdge.row)]) [] (by kernel_rfl) rfl (Zc.on (fun _ hw => hw) (Zc.fin (fun _ hw => hw)))) rfl rfl rfl (Y.move rfl) ?_
        refine V2.eff (i := 2) (by kernel_rfl) rfl ?_
        obtain ⟨l58, e60, h⟩ := bind1S h
        refine L.does rfl en16 rfl (fun w' hw => w16_quirref_Edges a0 u0 w' _ e60 (hA0.cls0 hw)) ?_
        rintro v59 _ ⟨_, rfl, rfl⟩
        refine L.nil (E.toV2 (stC [[3]] [Cls w [] [.sl v59 40 2 (l58.map TEdge.row), .obj b14 [.bool x11.Recoverable, .bool x11.Cascadeless, .bool x11.Strict] 32, .sl v4 40 2 (l3.map TEdge.row)]] (Cls w [] [.obj b14 [.bool x11.Recoverable, .bool x11.Cascadeless, .bool x11.Strict] 32, .sl v4 40 2 (l3.map TEdge.row)])) 2 (by kernel_rfl) (Sc.stay (fun _ hw => hw.sel [1, 2] (by decide) rfl) (Sc.stayD (fun _ hw => hw))) (Sc.now (by kernel_rfl) (fun _ hw => hw)) ?_)
        refine V2.eff (i := 3) (by kernel_rfl) rfl ?_
        obtain ⟨b61, e62, h⟩ := bind1S h
        refine L.y rfl (Y.does en15 rfl (fun w' hw => (w15_api_Edge l3 l58 v4 v59 w' _ e62 (As.at_ (hw.get (i := 2) rfl)) (As.at_ (hw.get (i := 0) rfl))).mono (fun _ _ h => h.1))) ?_
        rcases b61 with _ | _
        ·
         replace h := iteF h
         refine L.nil (E.toV2 (stC [] [] (Cls w [] [.obj b14 [.bool x11.Recoverable, .bool x11.Cascadeless, .bool x11.Strict] 32, .sl v4 40 2 (l3.map TEdge.row)])) 3 (by kernel_rfl) (Sc.past rfl (Sc.stayD (fun _ hw => hw))) (Sc.atD (fun _ hw => hw.sel [1, 2] (by decide) rfl)) ?_)
         refine V2.y (i := 4) (Nx2.of (Z := Cls w [] [.obj b14 [.bool x11.Recoverable, .bool x11.Cascadeless, .bool x11.Strict] 32, .sl v4 40 2 (l3.map TEdge.row)]) [] (by kernel_rfl) rfl (Zc.fin (fun _ hw => hw))) rfl rfl rfl (Y.move rfl) ?_
         refine V2.pass (i := 5) (Nx2.of (Z := Cls w [] [.obj b14 [.bool x11.Recoverable, .bool x11.Cascadeless, .bool x11.Strict] 32, .sl v4 40 2 (l3.map TEdge.row)]) [] (by kernel_rfl) rfl (Zc.fin (fun _ hw => hw))) rfl rfl ?_
         refine V2.pass (i := 6) (Nx2.of (Z := Cls w [] [.obj b14 [.bool x11.Recoverable, .bool x11.Cascadeless, .bool x11.Strict] 32, .sl v4 40 2 (l3.map TEdge.row)]) [] (by kernel_rfl) rfl (Zc.fin (fun _ hw => hw))) rfl rfl ?_
         refine V2.y (i := 7) (Nx2.of (Z := Cls w [] [.obj b14 [.bool x11.Recoverable, .bool x11.Cascadeless, .bool x11.Strict] 32, .sl v4 40 2 (l3.map TEdge.row)]) [] (by kernel_rfl) rfl (Zc.fin (fun _ hw => hw))) rfl rfl rfl (Y.pickF rfl rfl) ?_
         refine V2.y (i := 8) (Nx2.of (Z := Cls w [] [.obj b14 [.bool x11.Recoverable, .bool x11.Cascadeless, .bool x11.Strict] 32, .sl v4 40 2 (l3.map TEdge.row)]) [] (by kernel_rfl) rfl (Zc.fin (fun _ hw => hw))) rfl rfl rfl (Y.move rfl) ?_
         refine V2.pass (i := 9) (Nx2.of (Z := Cls w [] [.obj b14 [.bool x11.Recoverable, .bool x11.Cascadeless, .bool x11.Strict] 32, .sl v4 40 2 (l3.map TEdge.row)]) [] (by kernel_rfl) rfl (Zc.fin (fun _ hw => hw))) rfl rfl ?_
         refine V2.y (i := 10) (Nx2.of (Z := Cls w [] [.obj b14 [.bool x11.Recoverable, .bool x11.Cascadeless, .bool x11.Strict] 32, .sl v4 40 2 (l3.map TEdge.row)]) [] (by kernel_rfl) rfl (Zc.fin (fun _ hw => hw))) rfl rfl rfl (Y.pickF rfl rfl) ?_
         refine V2.y (i := 11) (Nx2.of (Z := Cls w [] [.obj b14 [.bool x11.Recoverable, .bool x11.Cascadeless, .bool x11.Strict] 32, .sl v4 40 2 (l3.map TEdge.row)]) [] (by kernel_rfl) rfl (Zc.fin (fun _ hw => hw))) rfl rfl rfl (Y.move rfl) ?_
         refine V2.pass (i := 12) (Nx2.of (Z := Cls w [] [.obj b14 [.bool x11.Recoverable, .bool x11.Cascadeless, .bool x11.Strict] 32, .sl v4 40 2 (l3.map TEdge.row)]) [] (by kernel_rfl) rfl (Zc.fin (fun _ hw => hw))) rfl rfl ?_
         refine V2.pass (i := 13) (Nx2.of (Z := Cls w [] [.obj b14 [.bool x11.Recoverable, .bool x11.Cascadeless, .bool x11.Strict] 32, .sl v4 40 2 (l3.map TEdge.row)]) [] (by kernel_rfl) rfl (Zc.fin (fun _ hw => hw))) rfl rfl ?_
         refine V2.pass (i := 14) (Nx2.of (Z := Cls w [] [.obj b14 [.bool x11.Recoverable, .bool x11.Cascadeless, .bool x11.Strict] 32, .sl v4 40 2 (l3.map TEdge.row)]) [] (by kernel_rfl) rfl (Zc.fin (fun _ hw => hw))) rfl rfl ?_
         refine V2.pass (i := 15) (Nx2.of (Z := Cls w [] [.obj b14 [.bool x11.Recoverable, .bool x11.Cascadeless, .bool x11.Strict] 32, .sl v4 40 2 (l3.map TEdge.row)]) [] (by kernel_rfl) rfl (Zc.fin (fun _ hw => hw))) rfl rfl ?_
         refine V2.y (i := 16) (Nx2.of (Z := Cls w [] [.obj b14 [.bool x11.Recoverable, .bool x11.Cascadeless, .bool x11.Strict] 32, .sl v4 40 2 (l3.map TEdge.row)]) [] (by kernel_rfl) rfl (Zc.fin (fun _ hw => hw))) rfl rfl rfl (Y.pickF rfl rfl) ?_
         refine V2.y (i := 17) (Nx2.of (Z := Cls w [] [.obj b14 [.bool x11.Recoverable, .bool x11.Cascadeless, .bool x11.Strict] 32, .sl v4 40 2 (l3.map TEdge.row)]) [] (by kernel_rfl) rfl (Zc.fin (fun _ hw => hw))) rfl rfl rfl (Y.move rfl) ?_
         refine V2.pass (i := 18) (Nx2.of (Z := Cls w [] [.obj b14 [.bool x11.Recoverable, .bool x11.Cascadeless, .bool x11.Strict] 32, .sl v4 40 2 (l3.map TEdge.row)]) [] (by kernel_rfl) rfl (Zc.fin (fun _ hw => hw))) rfl rfl ?_
         refine V2.pass (i := 19) (Nx2.of (Z := Cls w [] [.obj b14 [.bool x11.Recoverable, .bool x11.Cascadeless, .bool x11.Strict] 32, .sl v4 40 2 (l3.map TEdge.row)]) [] (by kernel_rfl) rfl (Zc.fin (fun _ hw => hw))) rfl rfl ?_
         refine V2.y (i := 20) (Nx2.of (Z := Cls w [] [.obj b14 [.bool x11.Recoverable, .bool x11.Cascadeless, .bool x11.Strict] 32, .sl v4 40 2 (l3.map TEdge.row)]) [] (by kernel_rfl) rfl (Zc.fin (fun _ hw => hw))) rfl rfl rfl (Y.pickF rfl rfl) ?_
         refine V2.y (i := 21) (Nx2.of (Z := Cls w [] [.obj b14 [.bool x11.Recoverable, .bool x11.Cascadeless, .bool x11.Strict] 32, .sl v4 40 2 (l3.map TEdge.row)]) [] (by kernel_rfl) rfl (Zc.fin (fun _ hw => hw))) rfl rfl rfl (Y.assign rfl) ?_
         refine V2.done (by kernel_rfl) ?_
         refine E.thenN (W.ret (E.ret1 rfl rfl (fun w1 hw => ?_)))
         obtain rfl := Option.some.inj h
         exact ⟨_, _, rfl, ⟨rfl, rfl⟩, hw.sel [] (by decide) rfl⟩
        ·
         replace h := iteT h
         refine L.nil (E.toV2 (stC [] [] (Cls w [] [.obj b14 [.bool x11.Recoverable, .bool x11.Cascadeless, .bool x11.Strict] 32, .sl v4 40 2 (l3.map TEdge.row)])) 3 (by kernel_rfl) (Sc.past rfl (Sc.stayD (fun _ hw => hw))) (Sc.atD (fun _ hw => hw.sel [1, 2] (by decide) rfl)) ?_)
         refine V2.y (i := 4) (Nx2.of (Z := Cls w [] [.obj b14 [.bool x11.Recoverable, .bool x11.Cascadeless, .bool x11.Strict] 32, .sl v4 40 2 (l3.map TEdge.row)]) [] (by kernel_rfl) rfl (Zc.fin (fun _ hw => hw))) rfl rfl rfl (Y.move rfl) ?_
         refine V2.y (i := 5) (Nx2.of (Z := Cls w [] [.obj b14 [.bool x11.Recoverable, .bool x11.Cascadeless, .bool x11.Strict] 32, .sl v4 40 2 (l3.map TEdge.row)]) [] (by kernel_rfl) rfl (Zc.fin (fun _ hw => hw))) rfl rfl rfl (Y.move rfl) ?_
         refine V2.ite (i := 6) h (Nx2.of (Z := Cls w [] [.obj b14 [.bool x11.Recoverable, .bool x11.Cascadeless, .bool x11.Strict] 32, .sl v4 40 2 (l3.map TEdge.row)]) [] (by kernel_rfl) rfl (Zc.fin (fun _ hw => hw))) rfl rfl rfl (Y.eql rfl rfl) (fun c63 h => ?_) (fun c63 h => ?_)
         ·
          refine V2.y (i := 7) (Nx2.of (Z := Cls w [] [.obj b14 [.bool x11.Recoverable, .bool x11.Cascadeless, .bool x11.Strict] 32, .sl v4 40 2 (l3.map TEdge.row)]) [] (by kernel_rfl) rfl (Zc.fin (fun _ hw => hw))) rfl rfl rfl (Y.pickT rfl rfl) ?_
          refine V2.y (i := 8) (Nx2.of (Z := Cls w [] [.obj b14 [.bool x11.Recoverable, .bool x11.Cascadeless, .bool x11.Strict] 32, .sl v4 40 2 (l3.map TEdge.row)]) [] (by kernel_rfl) rfl (Zc.fin (fun _ hw => hw))) rfl rfl rfl (Y.move rfl) ?_
          refine V2.y (i := 9) (Nx2.of (Z := Cls w [] [.obj b14 [.bool x11.Recoverable, .bool x11.Cascadeless, .bool x11.Strict] 32, .sl v4 40 2 (l3.map TEdge.row)]) [] (by kernel_rfl) rfl (Zc.fin (fun _ hw => hw))) rfl rfl rfl (Y.move rfl) ?_
          refine V2.y (i := 10) (Nx2.of (Z := Cls w [] [.obj b14 [.bool x11.Recoverable, .bool x11.Cascadeless, .bool x11.Strict] 32, .sl v4 40 2 (l3.map TEdge.row)]) [] (by kernel_rfl) rfl (Zc.fin (fun _ hw => hw))) rfl rfl rfl (Y.pickT rfl rfl) ?_
          refine V2.y (i := 11) (Nx2.of (Z := Cls w [] [.obj b14 [.bool x11.Recoverable, .bool x11.Cascadeless, .bool x11.Strict] 32, .sl v4 40 2 (l3.map TEdge.row)]) [] (by kernel_rfl) rfl (Zc.fin (fun _ hw => hw))) rfl rfl rfl (Y.move rfl) ?_
          refine V2.y (i := 12) (Nx2.of (Z := Cls w [] [.obj b14 [.bool x11.Recoverable, .bool x11.Cascadeless, .bool x11.Strict] 32, .sl v4 40 2 (l3.map TEdge.row)]) [] (by kernel_rfl) rfl (Zc.fin (fun _ hw => hw))) rfl rfl rfl (Y.loadPW (i := 0) ag32 sz32 rfl rfl rfl) ?_
          refine V2.y (i := 13) (Nx2.of (Z := Cls w [] [.obj b14 [.bool x11.Recoverable, .bool x11.Cascadeless, .bool x11.Strict] 32, .sl v4 40 2 (l3.map TEdge.row)]) [] (by kernel_rfl) rfl (Zc.fin (fun _ hw => hw))) rfl rfl rfl (Y.move rfl) ?_
          refine V2.eff (i := 14) (by kernel_rfl) rfl ?_
          refine L.take rfl ?_
          obtain ⟨x64, e65, h⟩ := bind1S h
          refine L.y rfl (Y.does en17 rfl (fun w' hw => (w17_quirref_Kinds a0 u0 w' _ e65 (hA0.cls0 hw)).mono (fun _ _ h => h.1))) ?_
          refine L.nil (E.toV2 (stC [] [] (Cls w [] [.obj b14 [.bool x11.Recoverable, .bool x11.Cascadeless, .bool x11.Strict] 32, .sl v4 40 2 (l3.map TEdge.row)])) 14 (by kernel_rfl) (Sc.stayD (fun _ hw => hw)) (Sc.atD (fun _ hw => hw.sel [1, 2] (by decide) rfl)) ?_)
          refine V2.ite (i := 15) h (Nx2.of (Z := Cls w [] [.obj b14 [.bool x11.Recoverable, .bool x11.Cascadeless, .bool x11.Strict] 32, .sl v4 40 2 (l3.map TEdge.row)]) [] (by kernel_rfl) rfl (Zc.fin (fun _ hw => hw))) rfl rfl rfl (Y.eqlA (row := TRunKind.row) (a := x11) (b := x64) eg32 ag32 (sh32 _) (sh32 _) (inj32 _ _) rfl rfl) (fun c66 h => ?_) (fun c66 h => ?_)
          ·
           refine V2.y (i := 16) (Nx2.of (Z := Cls w [] [.obj b14 [.bool x11.Recoverable, .bool x11.Cascadeless, .bool x11.Strict] 32, .sl v4 40 2 (l3.map TEdge.row)]) [] (by kernel_rfl) rfl (Zc.fin (fun _ hw => hw))) rfl rfl rfl (Y.pickT rfl rfl) ?_
           refine V2.y (i := 17) (Nx2.of (Z := Cls w [] [.obj b14 [.bool x11.Recoverable, .bool x11.Cascadeless, .bool x11.Strict] 32, .sl v4 40 2 (l3.map TEdge.row)]) [] (by kernel_rfl) rfl (Zc.fin (fun _ hw => hw))) rfl rfl rfl (Y.move rfl) ?_
           refine V2.y (i := 18) (Nx2.of (Z := Cls w [] [.obj b14 [.bool x11.Recoverable, .bool x11.Cascadeless, .bool x11.Strict] 32, .sl v4 40 2 (l3.map TEdge.row)]) [] (by kernel_rfl) rfl (Zc.fin (fun _ hw => hw))) rfl rfl rfl (Y.move rfl) ?_
           refine V2.y (i := 19) (Nx2.of (Z := Cls w [] [.obj b14 [.bool x11.Recoverable, .bool x11.Cascadeless, .bool x11.Strict] 32, .sl v4 40 2 (l3.map TEdge.row)]) [] (by kernel_rfl) rfl (Zc.fin (fun _ hw => hw))) rfl rfl rfl (Y.eql rfl rfl) ?_
           refine V2.y (i := 20) (Nx2.of (Z := Cls w [] [.obj b14 [.bool x11.Recoverable, .bool x11.Cascadeless, .bool x11.Strict] 32, .sl v4 40 2 (l3.map TEdge.row)]) [] (by kernel_rfl) rfl (Zc.fin (fun _ hw => hw))) rfl rfl rfl (Y.pickT rfl rfl) ?_
           refine V2.y (i := 21) (Nx2.of (Z := Cls w [] [.obj b14 [.bool x11.Recoverable, .bool x11.Cascadeless, .bool x11.Strict] 32, .sl v4 40 2 (l3.map TEdge.row)]) [] (by kernel_rfl) rfl (Zc.fin (fun _ hw => hw))) rfl rfl rfl (Y.assign rfl) ?_
           refine V2.done (by kernel_rfl) ?_
           refine E.thenN (W.ret (E.ret1 rfl rfl (fun w1 hw => ?_)))
           obtain rfl := Option.some.inj h
           exact ⟨_, _, rfl, ⟨rfl, rfl⟩, hw.sel [] (by decide) rfl⟩
          ·
           refine V2.y (i := 16) (Nx2.of (Z := Cls w [] [.obj b14 [.bool x11.Recoverable, .bool x11.Cascadeless, .bool x11.Strict] 32, .sl v4 40 2 (l3.map TEdge.row)]) [] (by kernel_rfl) rfl (Zc.fin (fun _ hw => hw))) rfl rfl rfl (Y.pickT rfl rfl) ?_
           refine V2.y (i := 17) (Nx2.of (Z := Cls w [] [.obj b14 [.bool x11.Recoverable, .bool x11.Cascadeless, .bool x11.Strict] 32, .sl v4 40 2 (l3.map TEdge.row)]) [] (by kernel_rfl) rfl (Zc.fin (fun _ hw => hw))) rfl rfl rfl (Y.move rfl) ?_
           refine V2.pass (i := 18) (Nx2.of (Z := Cls w [] [.obj b14 [.bool x11.Recoverable, .bool x11.Cascadeless, .bool x11.Strict] 32, .sl v4 40 2 (l3.map TEdge.row)]) [] (by kernel_rfl) rfl (Zc.fin (fun _ hw => hw))) rfl rfl ?_
           refine V2.pass (i := 19) (Nx2.of (Z := Cls w [] [.obj b14 [.bool x11.Recoverable, .bool x11.Cascadeless, .bool x11.Strict] 32, .sl v4 40 2 (l3.map TEdge.row)]) [] (by kernel_rfl) rfl (Zc.fin (fun _ hw => hw))) rfl rfl ?_
           refine V2.y (i := 20) (Nx2.of (Z := Cls w [] [.obj b14 [.bool x11.Recoverable, .bool x11.Cascadeless, .bool x11.Strict] 32, .sl v4 40 2 (l3.map TEdge.row)]) [] (by kernel_rfl) rfl (Zc.fin (fun _ hw => hw))) rfl rfl rfl (Y.pickF rfl rfl) ?_
           refine V2.y (i := 21) (Nx2.of (Z := Cls w [] [.obj b14 [.bool x11.Recoverable, .bool x11.Cascadeless, .bool x11.Strict] 32, .sl v4 40 2 (l3.map TEdge.row)]) [] (by kernel_rfl) rfl (Zc.fin (fun _ hw => hw))) rfl rfl rfl (Y.assign rfl) ?_
           refine V2.done (by kernel_rfl) ?_
           refine E.thenN (W.ret (E.ret1 rfl rfl (fun w1 hw => ?_)))
           obtain rfl := Option.some.inj h
           exact ⟨_, _, rfl, ⟨rfl, rfl⟩, hw.sel [] (by decide) rfl⟩
         ·
          refine V2.y (i := 7) (Nx2.of (Z := Cls w [] [.obj b14 [.bool x11.Recoverable, .bool x11.Cascadeless, .bool x11.Strict] 32, .sl v4 40 2 (l3.map TEdge.row)]) [] (by kernel_rfl) rfl (Zc.fin (fun _ hw => hw))) rfl rfl rfl (Y.pickT rfl rfl) ?_
          refine V2.y (i := 8) (Nx2.of (Z := Cls w [] [.obj b14 [.bool x11.Recoverable, .bool x11.Cascadeless, .bool x11.Strict] 32, .sl v4 40 2 (l3.map TEdge.row)]) [] (by kernel_rfl) rfl (Zc.fin (fun _ hw => hw))) rfl rfl rfl (Y.move rfl) ?_
          refine V2.pass (i := 9) (Nx2.of (Z := Cls w [] [.obj b14 [.bool x11.Recoverable, .bool x11.Cascadeless, .bool x11.Strict] 32, .sl v4 40 2 (l3.map TEdge.row)]) [] (by kernel_rfl) rfl (Zc.fin (fun _ hw => hw))) rfl rfl ?_
          refine V2.y (i := 10) (Nx2.of (Z := Cls w [] [.obj b14 [.bool x11.Recoverable, .bool x11.Cascadeless, .bool x11.Strict] 32, .sl v4 40 2 (l3.map TEdge.row)]) [] (by kernel_rfl) rfl (Zc.fin (fun _ hw => hw))) rfl rfl rfl (Y.pickF rfl rfl) ?_
          refine V2.y (i := 11) (Nx2.of (Z := Cls w [] [.obj b14 [.bool x11.Recoverable, .bool x11.Cascadeless, .bool x11.Strict] 32, .sl v4 40 2 (l3.map TEdge.row)]) [] (by kernel_rfl) rfl (Zc.fin (fun _ hw => hw))) rfl rfl rfl (Y.move rfl) ?_
          refine V2.pass (i := 12) (Nx2.of (Z := Cls w [] [.obj b14 [.bool x11.Recoverable, .bool x11.Cascadeless, .bool x11.Strict] 32, .sl v4 40 2 (l3.map TEdge.row)]) [] (by kernel_rfl) rfl (Zc.fin (fun _ hw => hw))) rfl rfl ?_
          refine V2.pass (i := 13) (Nx2.of (Z := Cls w [] [.obj b14 [.bool x11.Recoverable, .bool x11.Cascadeless, .bool x11.Strict] 32, .sl v4 40 2 (l3.map TEdge.row)]) [] (by kernel_rfl) rfl (Zc.fin (fun _ hw => hw))) rfl rfl ?_
          refine V2.pass (i := 14) (Nx2.of (Z := Cls w [] [.obj b14 [.bool x11.Recoverable, .bool x11.Cascadeless, .bool x11.Strict] 32, .sl v4 40 2 (l3.map TEdge.row)]) [] (by kernel_rfl) rfl (Zc.fin (fun _ hw => hw))) rfl rfl ?_
          refine V2.pass (i := 15) (Nx2.of (Z := Cls w [] [.obj b14 [.bool x11.Recoverable, .bool x11.Cascadeless, .bool x11.Strict] 32, .sl v4 40 2 (l3.map TEdge.row)]) [] (by kernel_rfl) rfl (Zc.fin (fun _ hw => hw))) rfl rfl ?_
          refine V2.y (i := 16) (Nx2.of (Z := Cls w [] [.obj b14 [.bool x11.Recoverable, .bool x11.Cascadeless, .bool x11.Strict] 32, .sl v4 40 2 (l3.map TEdge.row)]) [] (by kernel_rfl) rfl (Zc.fin (fun _ hw => hw))) rfl rfl rfl (Y.pickF rfl rfl) ?_
          refine V2.y (i := 17) (Nx2.of (Z := Cls w [] [.obj b14 [.bool x11.Recoverable, .bool x11.Cascadeless, .bool x11.Strict] 32, .sl v4 40 2 (l3.map TEdge.row)]) [] (by kernel_rfl) rfl (Zc.fin (fun _ hw => hw))) rfl rfl rfl (Y.move rfl) ?_
          refine V2.pass (i := 18) (Nx2.of (Z := Cls w [] [.obj b14 [.bool x11.Recoverable, .bool x11.Cascadeless, .bool x11.Strict] 32, .sl v4 40 2 (l3.map TEdge.row)]) [] (by kernel_rfl) rfl (Zc.fin (fun _ hw => hw))) rfl rfl ?_
          refine V2.pass (i := 19) (Nx2.of (Z := Cls w [] [.obj b14 [.bool x11.Recoverable, .bool x11.Cascadeless, .bool x11.Strict] 32, .sl v4 40 2 (l3.map TEdge.row)]) [] (by kernel_rfl) rfl (Zc.fin (fun _ hw => hw))) rfl rfl ?_
          refine V2.y (i := 20) (Nx2.of (Z := Cls w [] [.obj b14 [.bool x11.Recoverable, .bool x11.Cascadeless, .bool x11.Strict] 32, .sl v4 40 2 (l3.map TEdge.row)]) [] (by kernel_rfl) rfl (Zc.fin (fun _ hw => hw))) rfl rfl rfl (Y.pickF rfl rfl) ?_
          refine V2.y (i := 21) (Nx2.of (Z := Cls w [] [.obj b14 [.bool x11.Recoverable, .bool x11.Cascadeless, .bool x11.Strict] 32, .sl v4 40 2 (l3.map TEdge.row)]) [] (by kernel_rfl) rfl (Zc.fin (fun _ hw => hw))) rfl rfl rfl (Y.assign rfl) ?_
          refine V2.done (by kernel_rfl) ?_
          refine E.thenN (W.ret (E.ret1 rfl rfl (fun w1 hw => ?_)))
          obtain rfl := Option.some.inj h
          exact ⟨_, _, rfl, ⟨rfl, rfl⟩, hw.sel [] (by decide) rfl⟩
end Go.Proofs.Ytkhlapdkomnldaa
