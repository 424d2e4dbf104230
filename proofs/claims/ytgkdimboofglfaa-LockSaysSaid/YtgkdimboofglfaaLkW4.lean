/-
  Walks, printed by a program of mine.
  Conditions: none.
-/
import Derived.Test.YtgkdimboofglfaaLkW3
import Derived.Test.YtgkdimboofglfaaChecked
import Derived.KernelRfl
import Derived.Test.YtgkdimboofglfaaLkO
namespace Go.Proofs.Ytgkdimboofglfaa
open Go.S
set_option linter.unusedVariables false
set_option linter.unusedSimpArgs false
set_option maxRecDepth 100000 in
set_option maxHeartbeats 8000000 in
theorem w11_quirref_WaitEdges (a0 : (List TLockItem)) (u0 : Value) (q0 : Nat → List Value) (w : World) (r : (List TEdge)) (h : m11_quirref_WaitEdges a0 = some r) (hA0 : At w u0 3 (zr TLockItem.rowv q0 a0)) (hD0 : ∀ d ∈ zs TLockItem.sds q0 a0, At w d.v d.k d.rows) : Does Try.prog 11 [u0] w fun u m => ∃ v0, u = v0 ∧ m = [.sl v0 36 2 (r.map TEdge.row)] := by
  rw [m11_quirref_WaitEdges] at h
  refine body (n := 75) Try.func11 rfl rfl rfl (Cls.refl w) ?_
  refine W.seq (W.region (L.y rfl (Y.assign rfl) ?_))
  refine L.nil (E.thenN (W.seq (W.region (L.y rfl (Y.assign rfl) ?_))))
  refine L.nil (E.thenN (W.seqJ (fun gs D => ∃ (gv1 : Value) (gl2 : (List TEdge)), gs = [(3, gv1)] ∧ D = Cls w [] [.sl gv1 36 2 (gl2.map TEdge.row)] ∧ m11_quirref_WaitEdges_K1 gl2 = some r) ?_ ?_))
  ·
   refine W.seq (W.region (L.y rfl (Y.move rfl) ?_))
   refine L.nil (E.thenN (W.block (W.nilSl 36 2 ?_)))
   refine W.loopJ (fun m gs D => ∃ (gv3 : Value) (gl4 : (List TEdge)) (gx5 : Int), gs = [(0, u0), (3, gv3), (11, .int .i64 gx5)] ∧ D = Cls w [] [.sl gv3 36 2 (gl4.map TEdge.row)] ∧ m11_quirref_WaitEdges_L1 a0 m gl4 gx5 = some r) ⟨.slice none 0 0, [], 0, rfl, rfl, h⟩ ⟨rfl, rfl, rfl, trivial⟩ (fun _ hw => hw) ?_
   rintro m _ _ ⟨gv3, gl4, gx5, rfl, rfl, h⟩
   rcases m with _ | m
   · rw [m11_quirref_WaitEdges_L1] at h; cases h
   rw [m11_quirref_WaitEdges_L1] at h
   generalize hg1 : m11_quirref_WaitEdges_L1 a0 m = go1 at h
   rw [m11_quirref_WaitEdges_L1B] at h
   refine W.seq (W.region (L.ite h rfl (Y.lss rfl rfl) (fun c1 h => ?_) (fun c1 h => ?_)))
   ·
    refine L.nil (E.thenN (W.seq (W.condT rfl ?_)))
    refine W.skip (E.thenN (W.seqJ (fun gs D => ∃ (gv6 : Value) (gl7 : (List TEdge)), gs = [(0, u0), (3, gv6), (11, .int .i64 gx5)] ∧ D = Cls w [] [.sl gv6 36 2 (gl7.map TEdge.row)] ∧ m11_quirref_WaitEdges_K2 gx5 go1 gl7 = some r) ?_ ?_))
    ·
     refine W.block (W.seq (W.region (L.y rfl (Y.move rfl) ?_)))
     refine L.alloc rfl ze3 ?_
     intro b3
     refine L.store (i := 0) (vs := [.int .i64 gx5]) sz3 rfl rfl rfl rfl (by simp [Value.oneCell', Value.cells, st, pt, el]) rfl (Nat.le_of_ble_eq_true rfl) ?_
     refine L.nil (E.thenN (W.seq (W.region (L.y rfl (Y.move rfl) ?_))))
     refine L.nil (E.thenN (W.block (W.loopJ (fun m gs D => ∃ (gv8 : Value) (gl9 : (List TEdge)) (gx10 : Int), gs = [(0, u0), (3, gv8), (4, pt b3 0), (11, .int .i64 gx5), (14, .int .i64 gx10)] ∧ D = Cls w [] [.obj b3 [.int .i64 gx5] 3, .sl gv8 36 2 (gl9.map TEdge.row)] ∧ m11_quirref_WaitEdges_L2 a0 gx5 go1 m gl9 gx10 = some r) ⟨gv3, gl4, 0, rfl, rfl, h⟩ ⟨rfl, rfl, rfl, rfl, rfl, trivial⟩ (fun _ hw => hw) ?_)))
     rintro m _ _ ⟨gv8, gl9, gx10, rfl, rfl, h⟩
     rcases m with _ | m
     · rw [m11_quirref_WaitEdges_L2] at h; cases h
     rw [m11_quirref_WaitEdges_L2] at h
     generalize hg2 : m11_quirref_WaitEdges_L2 a0 gx5 go1 m = go2 at h
     rw [m11_quirref_WaitEdges_L2B] at h
     refine W.seq (W.region (L.ite h rfl (Y.lss rfl rfl) (fun c4 h => ?_) (fun c4 h => ?_)))
     ·
      refine L.nil (E.thenN (W.seq (W.condT rfl ?_)))
      refine W.skip (E.thenN (W.seqJ (fun gs D => ∃ (gv11 : Value) (gl12 : (List TEdge)), gs = [(0, u0), (3, gv11), (4, pt b3 0), (11, .int .i64 gx5), (14, .int .i64 gx10)] ∧ D = Cls w [] [.obj b3 [.int .i64 gx5] 3, .sl gv11 36 2 (gl12.map TEdge.row)] ∧ m11_quirref_WaitEdges_K3 gx10 go2 gl12 = some r) ?_ ?_))
      ·
       refine W.block (W.seq (W.region (L.y rfl (Y.move rfl) ?_)))
       refine L.y rfl (Y.assign rfl) ?_
       refine L.nil (E.thenN (W.seq (W.region (L.y rfl (Y.assign rfl) ?_))))
       refine L.nil (E.thenN (W.seqJ (fun gs D => ∃ (gb13 : Bool), gs = [(0, u0), (3, gv8), (4, pt b3 0), (5, .int .i64 gx10), (6, .bool gb13), (11, .int .i64 gx5), (14, .int .i64 gx10)] ∧ D = Cls w [] [.obj b3 [.int .i64 gx5] 3, .sl gv8 36 2 (gl9.map TEdge.row)] ∧ m11_quirref_WaitEdges_K4 gl9 gx5 gx10 go2 gb13 = some r) ?_ ?_))
       ·
        refine W.seq (W.region (L.y rfl (Y.move rfl) ?_))
        refine L.y rfl (Y.lenMZ (row := TLockItem.rowv) (vs := q0) (l := a0) Try.underlying23 rfl (fun w' hw => hA0.cls0 hw)) ?_
        refine L.y rfl (Y.move rfl) ?_
        refine L.nil (E.thenN (W.block (W.loopJ (fun m gs D => ∃ (gb14 : Bool) (gx15 : Int), gs = [(0, u0), (3, gv8), (4, pt b3 0), (5, .int .i64 gx10), (6, .bool gb14), (11, .int .i64 gx5), (14, .int .i64 gx10), (17, u0), (18, .int .i64 (a0.length : Int)), (19, .int .i64 gx15)] ∧ D = Cls w [] [.obj b3 [.int .i64 gx5] 3, .sl gv8 36 2 (gl9.map TEdge.row)] ∧ m11_quirref_WaitEdges_L3 a0 gx5 gx10 gl9 go2 m gb14 gx15 = some r) ⟨false, 0, rfl, rfl, h⟩ ⟨rfl, rfl, rfl, rfl, rfl, rfl, rfl, rfl, rfl, rfl, trivial⟩ (fun _ hw => hw) ?_)))
        rintro m _ _ ⟨gb14, gx15, rfl, rfl, h⟩
        rcases m with _ | m
        · rw [m11_quirref_WaitEdges_L3] at h; cases h
        rw [m11_quirref_WaitEdges_L3] at h
        generalize hg3 : m11_quirref_WaitEdges_L3 a0 gx5 gx10 gl9 go2 m = go3 at h
        rw [m11_quirref_WaitEdges_L3B] at h
        refine W.seq (W.region (L.ite h rfl (Y.lss rfl rfl) (fun c9 h => ?_) (fun c9 h => ?_)))
        ·
         refine L.nil (E.thenN (W.seq (W.condT rfl ?_)))
         refine W.skip (E.thenN (W.seq (W.block (W.seq (W.region (L.m (V := fun _ => el u0 (gx15.toNat * 3)) h rfl (Y.indexMZ (row := TLockItem.rowv) (vs := q0) (l := a0) Try.underlying23 sz50 rfl rfl (fun w' hw => hA0.cls0 hw)) (fun x10 ex10 h => ?_)))))))
         refine L.y rfl (Y.loadEN (r := [.int .i64 x10.Item, gv (q0 gx15.toNat) 0, gv (q0 gx15.toNat) 1]) ag50 sz50 rfl (fun w' hw => hA0.cls0 hw) (zr_idx (vs := q0) ex10) rfl) ?_
         refine L.alloc rfl ze50 ?_
         intro b11
         refine L.storeC (i := 0) sz50 rfl rfl rfl rfl (fun w hw => (all1 rfl (all1 ((zAt (sds := TLockItem.sds) (vs := q0) (j := 0) (c := 2) hD0 (fun _ _ => rfl) ex10 rfl).cls0 hw).one (all1 ((zAt (sds := TLockItem.sds) (vs := q0) (j := 1) (c := 2) hD0 (fun _ _ => rfl) ex10 rfl).cls0 hw).one all0)))) rfl (Nat.le_of_ble_eq_true rfl) ?_
         refine L.nil (E.thenN (W.seq (W.region (L.y rfl (Y.fieldP fd50_2 rfl) ?_))))
         refine L.y rfl (Y.loadP (i := 0) ag48 rfl rfl rfl) ?_
         refine L.y rfl (Y.func rfl) ?_
         refine L.callJ (fun v D => ∃ (gx16 : Int), v = .int .i64 gx16 ∧ D = Cls w [] [.obj b11 [.int .i64 x10.Item, gv (q0 gx15.toNat) 0, gv (q0 gx15.toNat) 1] 50, .obj b3 [.int .i64 gx5] 3, .sl gv8 36 2 (gl9.map TEdge.row)] ∧ m11_quirref_WaitEdges_K5 gx15 go3 gb14 gx5 gx10 x10 gx16 = some r) rfl en35 rfl Try.func35 rfl rfl rfl ?_ ?_
         ·
          refine W.seq (W.region (L.y rfl (Y.assign rfl) ?_))
          refine L.nil (E.thenN (W.seqJ (fun gs D => gs = [] ∧ D = Cls w [] [.obj b11 [.int .i64 x10.Item, gv (q0 gx15.toNat) 0, gv (q0 gx15.toNat) 1] 50, .obj b3 [.int .i64 gx5] 3, .sl gv8 36 2 (gl9.map TEdge.row)] ∧ m11_quirref_WaitEdges_K9 gx15 go3 gb14 gx5 gx10 x10 = some r) ?_ ?_))
          ·
           refine W.seq (W.region (L.y rfl (Y.move rfl) ?_))
           refine L.y rfl (Y.lenM (g := TLock.row) (l := x10.Queue) Try.underlying48 rfl (fun w' hw => (zAt (sds := TLockItem.sds) (vs := q0) (j := 1) (c := 2) hD0 (fun _ _ => rfl) ex10 rfl).cls0 hw)) ?_
           refine L.y rfl (Y.move rfl) ?_
           refine L.nil (E.thenN (W.block (W.loopJ (fun m gs D => ∃ (gx19 : Int), gs = [(0, gv (q0 gx15.toNat) 1), (1, .func (.func 36) #[] #[pt b3 0]), (7, .int .i64 (x10.Queue.length : Int)), (8, .int .i64 gx19)] ∧ D = Cls w [] [.obj b11 [.int .i64 x10.Item, gv (q0 gx15.toNat) 0, gv (q0 gx15.toNat) 1] 50, .obj b3 [.int .i64 gx5] 3, .sl gv8 36 2 (gl9.map TEdge.row)] ∧ m11_quirref_WaitEdges_L4 x10 gx5 gx15 go3 gb14 gx10 m gx19 = some r) ⟨0, rfl, rfl, h⟩ ⟨rfl, rfl, rfl, rfl, trivial⟩ (fun _ hw => hw) ?_)))
           rintro m _ _ ⟨gx19, rfl, rfl, h⟩
           rcases m with _ | m
           · rw [m11_quirref_WaitEdges_L4] at h; cases h
           rw [m11_quirref_WaitEdges_L4] at h
           generalize hg4 : m11_quirref_WaitEdges_L4 x10 gx5 gx15 go3 gb14 gx10 m = go4 at h
           rw [m11_quirref_WaitEdges_L4B] at h
           refine W.seq (W.region (L.ite h rfl (Y.lss rfl rfl) (fun c32 h => ?_) (fun c32 h => ?_)))
           ·
            refine L.nil (E.thenN (W.seq (W.condT rfl ?_)))
            refine W.skip (E.thenN (W.seq (W.block (W.seq (W.region (L.y rfl (Y.move rfl) ?_))))))
            refine L.y rfl (Y.assign rfl) ?_
            refine L.nil (E.thenN (W.seq (W.region (L.y rfl (Y.move rfl) ?_))))
            refine L.y rfl (Y.move rfl) ?_
            refine L.y rfl (Y.move rfl) ?_
            refine L.m (V := fun _ => el (gv (q0 gx15.toNat) 1) (gx19.toNat * 2)) h rfl (Y.indexM (g := TLock.row) (l := x10.Queue) Try.underlying48 sz55 rfl rfl (fun w' hw => (zAt (sds := TLockItem.sds) (vs := q0) (j := 1) (c := 2) hD0 (fun _ _ => rfl) ex10 rfl).cls0 hw)) (fun x33 ex33 h => ?_)
            refine L.y rfl (Y.loadEN (r := [.int .i64 x33.Tx, .int .i64 x33.Mode]) ag55 sz55 rfl (fun w' hw => (zAt (sds := TLockItem.sds) (vs := q0) (j := 1) (c := 2) hD0 (fun _ _ => rfl) ex10 rfl).cls0 hw) (idx_map ex33) rfl) ?_
            refine L.callVJ (fun v D => v = .bool (decide (x33.Tx = gx5)) ∧ D = Cls w [] [.obj b11 [.int .i64 x10.Item, gv (q0 gx15.toNat) 0, gv (q0 gx15.toNat) 1] 50, .obj b3 [.int .i64 gx5] 3, .sl gv8 36 2 (gl9.map TEdge.row)] ∧ m11_quirref_WaitEdges_K10 x33 gx5 gx15 go3 gb14 gx10 x10 gx19 go4 = some r) rfl en36 rfl rfl Try.func36 rfl rfl rfl ?_ ?_
            ·
             refine W.seq (W.region (L.box rfl rfl ?_))
             intro b35
             refine L.y rfl (Y.assign rfl) ?_
             refine L.nil (E.thenN (W.seq (W.region (L.y rfl (Y.fieldP fd55_0 rfl) ?_))))
             refine L.y rfl (Y.loadP (i := 0) ag3 rfl rfl rfl) ?_
             refine L.y rfl (Y.loadP (i := 2) ag3 rfl rfl rfl) ?_
             refine L.y rfl (Y.eql rfl rfl) ?_
             refine L.y rfl (Y.assign rfl) ?_
             refine L.nil (E.thenN (W.ret (E.ret1 rfl rfl (fun w1 hw => ?_))))
             exact ⟨_, _, rfl, ⟨rfl, rfl, h⟩, hw.sel [1, 2, 3] (by decide) rfl⟩
            ·
             rintro _ _ ⟨rfl, rfl, h⟩
             rw [m11_quirref_WaitEdges_K10] at h
             refine L.nil (E.thenN (W.caseB (q := 16) h rfl (fun h => ?_) (fun h => ?_)))
             ·
              refine W.condT rfl ?_
              refine W.seq (W.region (L.y rfl (Y.move rfl) ?_))
              refine L.y rfl (Y.assign rfl) ?_
              refine L.nil (E.thenN (W.ret (E.blockR (E.thenR (E.KLR (E.blockR (E.KSR (E.ret1 rfl rfl (fun w1 hw => ?_)))))))))
              exact ⟨_, _, rfl, ⟨gx19, rfl, rfl, h⟩, hw⟩
             ·
              refine W.condF rfl ?_
              refine W.skip (E.blockN (E.thenN (W.region (L.m (V := fun x34 => .int .i64 x34) h rfl (Y.addM rfl rfl) (fun x34 ex34 h => ?_)))))
              refine L.y rfl (Y.move rfl) ?_
              exact L.nil (E.againJ ⟨x34, rfl, rfl, by rw [hg4]; exact h⟩ (Nat.lt_succ_self _) ⟨rfl, rfl, rfl, rfl, trivial⟩ (fun _ hw => hw))
           ·
            refine L.nil (E.thenN (W.seq (W.condF rfl ?_)))
            exact W.exit (E.thenX (E.KLX (E.blockX (E.joinJ ⟨rfl, rfl, h⟩ trivial (fun _ hw => hw)))))
          ·
           rintro _ _ ⟨rfl, rfl, h⟩
           rw [m11_quirref_WaitEdges_K9] at h
           refine W.seq (W.region (L.y rfl (Y.assign rfl) ?_))
           refine L.nil (E.thenN (W.ret (E.ret1 rfl rfl (fun w1 hw => ?_))))
           exact ⟨_, _, rfl, ⟨(-1), rfl, rfl, h⟩, hw⟩
         ·
          rintro _ _ ⟨gx16, rfl, rfl, h⟩
          rw [m11_quirref_WaitEdges_K5] at h
          refine L.y rfl (Y.assign rfl) ?_
          refine L.nil (E.thenN (W.seqJ (fun gs D => gs = [(0, u0), (3, gv8), (4, pt b3 0), (5, .int .i64 gx10), (6, .bool gb14), (8, pt b11 0), (9, .int .i64 gx16), (11, .int .i64 gx5), (14, .int .i64 gx10), (17, u0), (18, .int .i64 (a0.length : Int)), (19, .int .i64 gx15)] ∧ D = Cls w [] [.obj b11 [.int .i64 x10.Item, gv (q0 gx15.toNat) 0, gv (q0 gx15.toNat) 1] 50, .obj b3 [.int .i64 gx5] 3, .sl gv8 36 2 (gl9.map TEdge.row)] ∧ m11_quirref_WaitEdges_K6 x10 gx10 gb14 gx15 go3 gx16 = some r) ?_ ?_))
          ·
           refine W.seq (W.region (L.y rfl (Y.move rfl) ?_))
           refine L.ite h rfl (Y.lss rfl rfl) (fun c28 h => ?_) (fun c28 h => ?_)
           ·
            refine L.y rfl (Y.move rfl) ?_
            refine L.pass rfl rfl (by nofun) ?_
            refine L.pass rfl rfl (by nofun) ?_
            refine L.pass rfl rfl (by nofun) ?_
            refine L.y rfl (Y.pickT rfl rfl) ?_
            refine L.nil (E.thenN (W.condT rfl ?_))
            refine W.exit (E.KSX (E.blockX (E.thenN (W.region (L.m (V := fun x29 => .int .i64 x29) h rfl (Y.addM rfl rfl) (fun x29 ex29 h => ?_))))))
            refine L.y rfl (Y.move rfl) ?_
            exact L.nil (E.againJ ⟨gb14, x29, rfl, rfl, by rw [hg3]; exact h⟩ (Nat.lt_succ_self _) ⟨rfl, rfl, rfl, rfl, rfl, rfl, rfl, rfl, rfl, rfl, trivial⟩ (fun _ hw => hw.sel [1, 2] (by decide) rfl))
           ·
            refine L.y rfl (Y.move rfl) ?_
            refine L.take rfl (L.y rfl (Y.loadP (i := 1) ag3 rfl rfl rfl) ?_)
            refine L.take rfl (L.y rfl (Y.move rfl) ?_)
            refine L.take rfl (L.ite h rfl (Y.eql rfl rfl) (fun c30 h => ?_) (fun c30 h => ?_))
            ·
             refine L.y rfl (Y.pickF rfl rfl) ?_
             refine L.nil (E.thenN (W.condT rfl ?_))
             refine W.exit (E.KSX (E.blockX (E.thenN (W.region (L.m (V := fun x31 => .int .i64 x31) h rfl (Y.addM rfl rfl) (fun x31 ex31 h => ?_))))))
             refine L.y rfl (Y.move rfl) ?_
             exact L.nil (E.againJ ⟨gb14, x31, rfl, rfl, by rw [hg3]; exact h⟩ (Nat.lt_succ_self _) ⟨rfl, rfl, rfl, rfl, rfl, rfl, rfl, rfl, rfl, rfl, trivial⟩ (fun _ hw => hw.sel [1, 2] (by decide) rfl))
            ·
             refine L.y rfl (Y.pickF rfl rfl) ?_
             refine L.nil (E.thenN (W.condF rfl ?_))
             exact W.skip (E.joinJ ⟨rfl, rfl, h⟩ ⟨rfl, rfl, rfl, rfl, rfl, rfl, rfl, rfl, rfl, rfl, rfl, rfl, trivial⟩ (fun _ hw => hw))
          ·
           rintro _ _ ⟨rfl, rfl, h⟩
           rw [m11_quirref_WaitEdges_K6] at h
           refine W.seq (W.region (L.y rfl (Y.fieldP fd50_1 rfl) ?_))
           refine L.y rfl (Y.loadP (i := 0) ag48 rfl rfl rfl) ?_
           refine L.y rfl (Y.move rfl) ?_
           obtain ⟨x12, e13, h⟩ := bind1S h
           refine L.y rfl (Y.does en37 rfl (fun w' hw => (w37_quirref_holds x10.Held gx10 (gv (q0 gx15.toNat) 0) w' _ e13 ((zAt (sds := TLockItem.sds) (vs := q0) (j := 0) (c := 2) hD0 (fun _ _ => rfl) ex10 rfl).cls0 hw)).mono (fun _ _ h => h.1))) ?_
           refine L.y rfl (Y.assign rfl) ?_
           refine L.nil (E.thenN (W.quietC mixed (by kernel_rfl) (fun _ hw => hw.drew) (fun hC => ?_)))
           refine U.cutJ hC 10 (fun gs => ∃ (gb17 : Bool), gs = [(0, u0), (3, gv8), (4, pt b3 0), (5, .int .i64 gx10), (8, pt b11 0), (9, .int .i64 gx16), (10, .int .i64 x12), (11, .int .i64 gx5), (14, .int .i64 gx10), (17, u0), (18, .int .i64 (a0.length : Int)), (19, .int .i64 gx15), (47, .bool gb17)] ∧ m11_quirref_WaitEdges_K7 gx15 go3 x12 x10 gx16 gb17 = some r) ?_ ?_
           ·
            refine U.iteB h rfl (Y.move rfl) (fun c23 h => ?_) (fun c23 h => ?_)
            ·
             refine U.y rfl (Y.move rfl) ?_
             refine U.pass rfl rfl (by nofun) ?_
             refine U.pass rfl rfl (by nofun) ?_
             refine U.pass rfl rfl (by nofun) ?_
             refine U.pass rfl rfl (by nofun) ?_
             refine U.pass rfl rfl (by nofun) ?_
             refine U.pass rfl rfl (by nofun) ?_
             refine U.pass rfl rfl (by nofun) ?_
             refine U.y rfl (Y.pickT rfl rfl) ?_
             exact U.nil (E.joinU ⟨true, rfl, h⟩ ⟨rfl, rfl, rfl, rfl, rfl, rfl, rfl, rfl, rfl, rfl, rfl, rfl, rfl, trivial⟩)
            ·
             refine U.y rfl (Y.move rfl) ?_
             refine U.take rfl (U.y rfl (Y.fieldP fd50_2 rfl) ?_)
             refine U.take rfl (U.y rfl (Y.loadP (i := 0) ag48 rfl rfl rfl) ?_)
             refine U.take rfl (U.y rfl (Y.move rfl) ?_)
             refine U.take rfl (U.m (V := fun _ => cutv (gv (q0 gx15.toNat) 1) gx16.toNat) h rfl (Y.cutM (g := TLock.row) Try.underlying48 sz55 rfl rfl (fun w' hw => (zAt (sds := TLockItem.sds) (vs := q0) (j := 1) (c := 2) hD0 (fun _ _ => rfl) ex10 rfl).cls0 hw)) (fun l24 el24 h => ?_))
             refine U.take rfl (U.y rfl (Y.move rfl) ?_)
             refine U.take rfl ?_
             obtain ⟨x25, e26, h⟩ := bind1S h
             refine U.y rfl (Y.does en37 rfl (fun w' hw => (w37_quirref_holds l24 gx10 (cutv (gv (q0 gx15.toNat) 1) gx16.toNat) w' _ e26 (((zAt (sds := TLockItem.sds) (vs := q0) (j := 1) (c := 2) hD0 (fun _ _ => rfl) ex10 rfl).cutM el24).cls0 hw)).mono (fun _ _ h => h.1))) ?_
             refine U.take rfl (U.ite h rfl (Y.gtr rfl rfl) (fun c27 h => ?_) (fun c27 h => ?_))
             ·
              refine U.y rfl (Y.pickF rfl rfl) ?_
              exact U.nil (E.joinU ⟨true, rfl, h⟩ ⟨rfl, rfl, rfl, rfl, rfl, rfl, rfl, rfl, rfl, rfl, rfl, rfl, rfl, trivial⟩)
             ·
              refine U.y rfl (Y.pickF rfl rfl) ?_
              exact U.nil (E.joinU ⟨false, rfl, h⟩ ⟨rfl, rfl, rfl, rfl, rfl, rfl, rfl, rfl, rfl, rfl, rfl, rfl, rfl, trivial⟩)
           ·
            rintro _ ⟨gb17, rfl, h⟩
            rw [m11_quirref_WaitEdges_K7] at h
            rcases gb17 with _ | _
            ·
             replace h := iteF h
             refine U.cutJ hC 15 (fun gs => ∃ (gb18 : Bool), gs = [(0, u0), (3, gv8), (4, pt b3 0), (5, .int .i64 gx10), (11, .int .i64 gx5), (14, .int .i64 gx10), (17, u0), (18, .int .i64 (a0.length : Int)), (19, .int .i64 gx15), (48, .bool false), (62, .bool gb18)] ∧ m11_quirref_WaitEdges_K8 gx15 go3 gb18 = some r) ?_ ?_
             ·
              refine U.y rfl (Y.move rfl) ?_
              refine U.take rfl (U.y rfl (Y.move rfl) ?_)
              refine U.take rfl (U.ite h rfl (Y.gtr rfl rfl) (fun c16 h => ?_) (fun c16 h => ?_))
              ·
               refine U.take rfl (U.y rfl (Y.move rfl) ?_)
               refine U.take rfl (U.y rfl (Y.loadPW (i := 0) ag50 sz50 rfl rfl rfl) ?_)
               refine U.take rfl (U.y rfl (Y.fieldP fd50_2 rfl) ?_)
               refine U.take rfl (U.y rfl (Y.loadP (i := 0) ag48 rfl rfl rfl) ?_)
               refine U.take rfl (U.y rfl (Y.move rfl) ?_)
               refine U.take rfl (U.m (V := fun _ => el (gv (q0 gx15.toNat) 1) (gx16.toNat * 2)) h rfl (Y.indexM (g := TLock.row) (l := x10.Queue) Try.underlying48 sz55 rfl rfl (fun w' hw => (zAt (sds := TLockItem.sds) (vs := q0) (j := 1) (c := 2) hD0 (fun _ _ => rfl) ex10 rfl).cls0 hw)) (fun x17 ex17 h => ?_))
               refine U.take rfl (U.y rfl (Y.loadEN (r := [.int .i64 x17.Tx, .int .i64 x17.Mode]) ag55 sz55 rfl (fun w' hw => (zAt (sds := TLockItem.sds) (vs := q0) (j := 1) (c := 2) hD0 (fun _ _ => rfl) ex10 rfl).cls0 hw) (idx_map ex17) rfl) ?_)
               refine U.take rfl ?_
               obtain ⟨x18, e19, h⟩ := bind1S h
               refine U.y rfl (Y.does en39 rfl (fun w' hw => (w39_quirref_wish x10 x17 (gv (q0 gx15.toNat) 0) (gv (q0 gx15.toNat) 1) w' _ e19 ((zAt (sds := TLockItem.sds) (vs := q0) (j := 0) (c := 2) hD0 (fun _ _ => rfl) ex10 rfl).cls0 hw) ((zAt (sds := TLockItem.sds) (vs := q0) (j := 1) (c := 2) hD0 (fun _ _ => rfl) ex10 rfl).cls0 hw)).mono (fun _ _ h => h.1))) ?_
               refine U.take rfl (U.y rfl (Y.move rfl) ?_)
               refine U.take rfl ?_
               obtain ⟨b20, e21, h⟩ := bind1S h
               refine U.y rfl (Y.does en38 rfl (fun w' hw => (w38_quirref_Fits x18 x12 w' _ e21).mono (fun _ _ h => h.1))) ?_
               rcases b20 with _ | _
               ·
                replace h := iteF h
                refine U.take rfl (U.y rfl (Y.not rfl) ?_)
                refine U.take rfl (U.y rfl (Y.pickT rfl rfl) ?_)
                exact U.nil (E.joinU ⟨true, rfl, h⟩ ⟨rfl, rfl, rfl, rfl, rfl, rfl, rfl, rfl, rfl, rfl, rfl, trivial⟩)
               ·
                replace h := iteT h
                refine U.take rfl (U.y rfl (Y.not rfl) ?_)
                refine U.take rfl (U.y rfl (Y.pickT rfl rfl) ?_)
                exact U.nil (E.joinU ⟨false, rfl, h⟩ ⟨rfl, rfl, rfl, rfl, rfl, rfl, rfl, rfl, rfl, rfl, rfl, trivial⟩)
              ·
               refine U.take rfl (U.y rfl (Y.move rfl) ?_)
               refine U.pass rfl rfl (by nofun) ?_
               refine U.pass rfl rfl (by nofun) ?_
               refine U.pass rfl rfl (by nofun) ?_
               refine U.pass rfl rfl (by nofun) ?_
               refine U.pass rfl rfl (by nofun) ?_
               refine U.pass rfl rfl (by nofun) ?_
               refine U.pass rfl rfl (by nofun) ?_
               refine U.pass rfl rfl (by nofun) ?_
               refine U.pass rfl rfl (by nofun) ?_
               refine U.pass rfl rfl (by nofun) ?_
               refine U.take rfl (U.y rfl (Y.pickF rfl rfl) ?_)
               exact U.nil (E.joinU ⟨false, rfl, h⟩ ⟨rfl, rfl, rfl, rfl, rfl, rfl, rfl, rfl, rfl, rfl, rfl, trivial⟩)
             ·
              rintro _ ⟨gb18, rfl, h⟩
              rw [m11_quirref_WaitEdges_K8] at h
              rcases gb18 with _ | _
              ·
               replace h := iteF h
               refine U.y rfl (Y.pickF rfl rfl) ?_
               refine U.y rfl (Y.assign rfl) ?_
               refine U.nil (E.blockN (E.thenN (W.region (L.m (V := fun x14 => .int .i64 x14) h rfl (Y.addM rfl rfl) (fun x14 ex14 h => ?_)))))
               refine L.y rfl (Y.move rfl) ?_
               exact L.nil (E.againJ ⟨false, x14, rfl, rfl, by rw [hg3]; exact h⟩ (Nat.lt_succ_self _) ⟨rfl, rfl, rfl, rfl, rfl, rfl, rfl, rfl, rfl, rfl, trivial⟩ (fun _ hw => hw.sel [1, 2] (by decide) rfl))
              ·
               replace h := iteT h
               refine U.y rfl (Y.pickF rfl rfl) ?_
               refine U.y rfl (Y.assign rfl) ?_
               refine U.nil (E.blockN (E.thenN (W.region (L.m (V := fun x15 => .int .i64 x15) h rfl (Y.addM rfl rfl) (fun x15 ex15 h => ?_)))))
               refine L.y rfl (Y.move rfl) ?_
               exact L.nil (E.againJ ⟨true, x15, rfl, rfl, by rw [hg3]; exact h⟩ (Nat.lt_succ_self _) ⟨rfl, rfl, rfl, rfl, rfl, rfl, rfl, rfl, rfl, rfl, trivial⟩ (fun _ hw => hw.sel [1, 2] (by decide) rfl))
            ·
             replace h := iteT h
             refine U.y rfl (Y.move rfl) ?_
             refine U.pass rfl rfl (by nofun) ?_
             refine U.pass rfl rfl (by nofun) ?_
             refine U.pass rfl rfl (by nofun) ?_
             refine U.pass rfl rfl (by nofun) ?_
             refine U.pass rfl rfl (by nofun) ?_
             refine U.pass rfl rfl (by nofun) ?_
             refine U.pass rfl rfl (by nofun) ?_
             refine U.pass rfl rfl (by nofun) ?_
             refine U.pass rfl rfl (by nofun) ?_
             refine U.pass rfl rfl (by nofun) ?_
             refine U.pass rfl rfl (by nofun) ?_
             refine U.pass rfl rfl (by nofun) ?_
             refine U.pass rfl rfl (by nofun) ?_
             refine U.pass rfl rfl (by nofun) ?_
             refine U.y rfl (Y.pickT rfl rfl) ?_
             refine U.y rfl (Y.assign rfl) ?_
             refine U.nil (E.blockN (E.thenN (W.region (L.m (V := fun x22 => .int .i64 x22) h rfl (Y.addM rfl rfl) (fun x22 ex22 h => ?_)))))
             refine L.y rfl (Y.move rfl) ?_
             exact L.nil (E.againJ ⟨true, x22, rfl, rfl, by rw [hg3]; exact h⟩ (Nat.lt_succ_self _) ⟨rfl, rfl, rfl, rfl, rfl, rfl, rfl, rfl, rfl, rfl, trivial⟩ (fun _ hw => hw.sel [1, 2] (by decide) rfl))
        ·
         refine L.nil (E.thenN (W.seq (W.condF rfl ?_)))
         exact W.exit (E.thenX (E.KLX (E.blockX (E.joinJ ⟨gb14, rfl, rfl, h⟩ ⟨rfl, rfl, rfl, rfl, rfl, rfl, rfl, trivial⟩ (fun _ hw => hw)))))
       ·
        rintro _ _ ⟨gb13, rfl, rfl, h⟩
        rw [m11_quirref_WaitEdges_K4] at h
        rcases gb13 with _ | _
        ·
         replace h := iteF h
         refine W.seq (W.region (L.y rfl (Y.move rfl) ?_))
         refine L.nil (E.thenN (W.condF rfl ?_))
         exact W.skip (E.blockN (E.joinJ ⟨gv8, gl9, rfl, rfl, h⟩ ⟨rfl, rfl, rfl, rfl, rfl, trivial⟩ (fun _ hw => hw)))
        ·
         replace h := iteT h
         refine W.seq (W.region (L.y rfl (Y.move rfl) ?_))
         refine L.nil (E.thenN (W.condT rfl ?_))
         refine W.region (L.y rfl (Y.move rfl) ?_)
         refine L.y rfl (Y.loadP (i := 0) ag3 rfl rfl rfl) ?_
         refine L.y rfl (Y.move rfl) ?_
         refine L.y rfl (Y.build (cells := #[.int .i64 gx5, .int .i64 gx10]) rfl (by kernel_rfl)) ?_
         refine L.litAgg rfl Try.underlying31 eL36 rfl rfl rfl ?_
         intro b6
         refine L.appM (i := 2) (g := TEdge.row) (l := gl9) (more := [(⟨gx5, gx10⟩ : TEdge)]) h rfl Try.underlying31 eL36 rfl rfl rfl (fun w hw => As.at_ (hw.get (i := 0) rfl)) (plain_TEdge _) rfl ?_
         intro v7 l8 el8 h
         refine L.y rfl (Y.assign rfl) ?_
         exact L.nil (E.blockN (E.joinJ ⟨v7, l8, rfl, rfl, h⟩ ⟨rfl, rfl, rfl, rfl, rfl, trivial⟩ (fun _ hw => hw.sel [2, 0] (by decide) rfl)))
      ·
       rintro _ _ ⟨gv11, gl12, rfl, rfl, h⟩
       rw [m11_quirref_WaitEdges_K3] at h
       refine W.region (L.m (V := fun x5 => .int .i64 x5) h rfl (Y.addM rfl rfl) (fun x5 ex5 h => ?_))
       refine L.y rfl (Y.move rfl) ?_
       exact L.nil (E.againJ ⟨gv11, gl12, x5, rfl, rfl, by rw [hg2]; exact h⟩ (Nat.lt_succ_self _) ⟨rfl, rfl, rfl, rfl, rfl, trivial⟩ (fun _ hw => hw))
     ·
      refine L.nil (E.thenN (W.seq (W.condF rfl ?_)))
      exact W.exit (E.thenX (E.KLX (E.blockX (E.blockN (E.joinJ ⟨gv8, gl9, rfl, rfl, h⟩ ⟨rfl, rfl, rfl, trivial⟩ (fun _ hw => hw.sel [1] (by decide) rfl))))))
    ·
     rintro _ _ ⟨gv6, gl7, rfl, rfl, h⟩
     rw [m11_quirref_WaitEdges_K2] at h
     refine W.region (L.m (V := fun x2 => .int .i64 x2) h rfl (Y.addM rfl rfl) (fun x2 ex2 h => ?_))
     refine L.y rfl (Y.move rfl) ?_
     exact L.nil (E.againJ ⟨gv6, gl7, x2, rfl, rfl, by rw [hg1]; exact h⟩ (Nat.lt_succ_self _) ⟨rfl, rfl, rfl, trivial⟩ (fun _ hw => hw))
   ·
    refine L.nil (E.thenN (W.seq (W.condF rfl ?_)))
    exact W.exit (E.thenX (E.KLX (E.blockX (E.joinJ ⟨gv3, gl4, rfl, rfl, h⟩ ⟨rfl, trivial⟩ (fun _ hw => hw)))))
  ·
   rintro _ _ ⟨gv1, gl2, rfl, rfl, h⟩
   rw [m11_quirref_WaitEdges_K1] at h
   refine W.seq (W.region (L.y rfl (Y.move rfl) ?_))
   refine L.y rfl (Y.assign rfl) ?_
   refine L.nil (E.thenN (W.ret (E.ret1 rfl rfl (fun w1 hw => ?_))))
   obtain rfl := Option.some.inj h
   exact ⟨_, _, rfl, ⟨_, rfl, rfl⟩, hw⟩
set_option maxRecDepth 100000 in
set_option maxHeartbeats 8000000 in
theorem w10_api_Edge (a0 : (List TEdge)) (a1 : (List TEdge)) (u0 : Value) (u1 : Value) (w : World) (r : Bool) (h : m10_api_Edge a0 a1 = some r) (hA0 : At w u0 2 (a0.map TEdge.row)) (hA1 : At w u1 2 (a1.map TEdge.row)) : Does Try.prog 10 [u0, u1] w fun u m => u = .bool r ∧ m = [] := by
  rw [m10_api_Edge] at h
  refine body (n := 26) Try.func10 rfl rfl rfl (Cls.refl w) ?_
  refine W.seq (W.region (L.y rfl (Y.assign rfl) ?_))
  refine L.nil (E.thenN (W.seqJ (fun gs D => gs = [(0, u0), (1, u1)] ∧ D = Cls w [] [] ∧ m10_api_Edge_K1 a0 a1 = some r) ?_ ?_))
  ·
   refine W.seq (W.region (L.y rfl (Y.move rfl) ?_))
   refine L.y rfl (Y.lenM (g := TEdge.row) (l := a0) Try.underlying31 rfl (fun w' hw => hA0.cls0 hw)) ?_
   refine L.y rfl (Y.move rfl) ?_
   refine L.y rfl (Y.lenM (g := TEdge.row) (l := a1) Try.underlying31 rfl (fun w' hw => hA1.cls0 hw)) ?_
   refine L.ite h rfl (Y.neq rfl rfl) (fun c6 h => ?_) (fun c6 h => ?_)
   ·
    refine L.nil (E.thenN (W.condT rfl ?_))
    refine W.seq (W.region (L.y rfl (Y.assign rfl) ?_))
    refine L.nil (E.thenN (W.ret (E.KSR (E.ret1 rfl rfl (fun w1 hw => ?_)))))
    obtain rfl := Option.some.inj h
    exact ⟨_, _, rfl, ⟨rfl, rfl⟩, hw⟩
   ·
    refine L.nil (E.thenN (W.condF rfl ?_))
    exact W.skip (E.joinJ ⟨rfl, rfl, h⟩ ⟨rfl, rfl, trivial⟩ (fun _ hw => hw))
  ·
   rintro _ _ ⟨rfl, rfl, h⟩
   rw [m10_api_Edge_K1] at h
   refine W.seqJ (fun gs D => gs = [] ∧ D = Cls w [] [] ∧ m10_api_Edge_K2 = some r) ?_ ?_
   ·
    refine W.seq (W.region (L.y rfl (Y.move rfl) ?_))
    refine L.y rfl (Y.lenM (g := TEdge.row) (l := a0) Try.underlying31 rfl (fun w' hw => hA0.cls0 hw)) ?_
    refine L.y rfl (Y.move rfl) ?_
    refine L.nil (E.thenN (W.block (W.loopJ (fun m gs D => ∃ (gx1 : Int), gs = [(0, u0), (1, u1), (12, .int .i64 (a0.length : Int)), (13, .int .i64 gx1)] ∧ D = Cls w [] [] ∧ m10_api_Edge_L1 a0 a1 m gx1 = some r) ⟨0, rfl, rfl, h⟩ ⟨rfl, rfl, rfl, rfl, trivial⟩ (fun _ hw => hw) ?_)))
    rintro m _ _ ⟨gx1, rfl, rfl, h⟩
    rcases m with _ | m
    · rw [m10_api_Edge_L1] at h; cases h
    rw [m10_api_Edge_L1] at h
    generalize hg1 : m10_api_Edge_L1 a0 a1 m = go1 at h
    rw [m10_api_Edge_L1B] at h
    refine W.seq (W.region (L.ite h rfl (Y.lss rfl rfl) (fun c1 h => ?_) (fun c1 h => ?_)))
    ·
     refine L.nil (E.thenN (W.seq (W.condT rfl ?_)))
     refine W.skip (E.thenN (W.seq (W.block (W.seq (W.region (L.y rfl (Y.move rfl) ?_))))))
     refine L.y rfl (Y.assign rfl) ?_
     refine L.nil (E.thenN (W.seq (W.quietC mixed (by kernel_rfl) (fun _ hw => hw.drew) (fun hC => ?_))))
     refine U.y rfl (Y.move rfl) ?_
     refine U.y rfl (Y.move rfl) ?_
     refine U.m (V := fun _ => el u0 (gx1.toNat * 2)) h rfl (Y.indexM (g := TEdge.row) (l := a0) Try.underlying31 sz36 rfl rfl (fun w' hw => hA0.cls0 hw)) (fun x2 ex2 h => ?_)
     refine U.y rfl (Y.loadEN (r := [.int .i64 x2.From, .int .i64 x2.To]) ag36 sz36 rfl (fun w' hw => hA0.cls0 hw) (idx_map ex2) rfl) ?_
     refine U.y rfl (Y.move rfl) ?_
     refine U.y rfl (Y.move rfl) ?_
     refine U.m (V := fun _ => el u1 (gx1.toNat * 2)) h rfl (Y.indexM (g := TEdge.row) (l := a1) Try.underlying31 sz36 rfl rfl (fun w' hw => hA1.cls0 hw)) (fun x3 ex3 h => ?_)
     refine U.y rfl (Y.loadEN (r := [.int .i64 x3.From, .int .i64 x3.To]) ag36 sz36 rfl (fun w' hw => hA1.cls0 hw) (idx_map ex3) rfl) ?_
     refine U.ite h rfl (Y.neqA (row := TEdge.row) (a := x2) (b := x3) eg36 ag36 (sh36 _) (sh36 _) (inj36 _ _) rfl rfl) (fun c4 h => ?_) (fun c4 h => ?_)
     ·
      refine U.nil (E.thenN (W.condT rfl ?_))
      refine W.seq (W.region (L.y rfl (Y.assign rfl) ?_))
      refine L.nil (E.thenN (W.ret (E.blockR (E.thenR (E.KLR (E.blockR (E.KSR (E.ret1 rfl rfl (fun w1 hw => ?_)))))))))
      obtain rfl := Option.some.inj h
      exact ⟨_, _, rfl, ⟨rfl, rfl⟩, hw⟩
     ·
      refine U.nil (E.thenN (W.condF rfl ?_))
      refine W.skip (E.blockN (E.thenN (W.region (L.m (V := fun x5 => .int .i64 x5) h rfl (Y.addM rfl rfl) (fun x5 ex5 h => ?_)))))
      refine L.y rfl (Y.move rfl) ?_
      exact L.nil (E.againJ ⟨x5, rfl, rfl, by rw [hg1]; exact h⟩ (Nat.lt_succ_self _) ⟨rfl, rfl, rfl, rfl, trivial⟩ (fun _ hw => hw))
    ·
     refine L.nil (E.thenN (W.seq (W.condF rfl ?_)))
     exact W.exit (E.thenX (E.KLX (E.blockX (E.joinJ ⟨rfl, rfl, h⟩ trivial (fun _ hw => hw)))))
   ·
    rintro _ _ ⟨rfl, rfl, h⟩
    rw [m10_api_Edge_K2] at h
    refine W.seq (W.region (L.y rfl (Y.assign rfl) ?_))
    refine L.nil (E.thenN (W.ret (E.ret1 rfl rfl (fun w1 hw => ?_))))
    obtain rfl := Option.some.inj h
    exact ⟨_, _, rfl, ⟨rfl, rfl⟩, hw⟩
set_option maxRecDepth 100000 in
set_option maxHeartbeats 8000000 in
theorem w42_quirref_given (a0 : TLockItem) (a1 : TLock) (u0_0 : Value) (u0_1 : Value) (K : World → Prop) (w : World) (hK : Stb K w) (r : TLockItem) (h : m42_quirref_given a0 a1 = some r) (hA0_0 : Fz K [] u0_0 2 (a0.Held.map TLock.row)) (hA0_1 : Fz K [] u0_1 2 (a0.Queue.map TLock.row)) : Does Try.prog 42 [.agg #[.int .i64 a0.Item, u0_0, u0_1], .agg #[.int .i64 a1.Tx, .int .i64 a1.Mode]] w fun u m => ∃ c, m = [.os c] ∧ ∃ v0 v1, u = .agg #[.int .i64 r.Item, v0, v1] ∧ Fz K c v0 2 (r.Held.map TLock.row) ∧ Fz K c v1 2 (r.Queue.map TLock.row) := by
  rw [m42_quirref_given] at h
  refine body (n := 54) Try.func42 rfl rfl rfl (Cls.reflF w) ?_
  refine W.seq (W.region (L.box rfl rfl ?_))
  intro b1
  refine L.box rfl rfl ?_
  intro b2
  refine L.alloc rfl ze50 ?_
  intro b3
  refine L.nil (E.thenN (W.seq (W.region (L.y rfl (Y.loadPW (i := 2) ag50 sz50 rfl rfl rfl) ?_))))
  refine L.y rfl (Y.loadPW (i := 1) ag55 sz55 rfl rfl rfl) ?_
  obtain ⟨x4, e5, h⟩ := bind1S h
  refine L.y rfl (Y.does en39 rfl (fun w' hw => (w39_quirref_wish a0 a1 u0_0 u0_1 w' _ e5 (hA0_0.up.clsF hK hw rfl) (hA0_1.up.clsF hK hw rfl)).mono (fun _ _ h => h.1))) ?_
  refine L.y rfl (Y.assign rfl) ?_
  refine L.nil (E.thenN (W.seq (W.region (L.y rfl (Y.fieldP fd50_0 rfl) ?_))))
  refine L.y rfl (Y.loadP (i := 2) ag3 rfl rfl rfl) ?_
  refine L.y rfl (Y.fieldP fd50_2 rfl) ?_
  refine L.y rfl (Y.loadP (i := 2) ag48 rfl rfl rfl) ?_
  refine L.y rfl (Y.buildC (cells := #[.int .i64 a0.Item, .slice none 0 0, u0_1]) rfl (fun w hw => by rcases ((hA0_1.up.clsF hK hw rfl)).shape with ⟨h0, _⟩ | ⟨_, _, h0, _, _⟩ <;> simp only [h0] <;> kernel_rfl)) ?_
  refine L.alloc rfl ze50 ?_
  intro b6
  refine L.storeC (i := 0) sz50 rfl rfl rfl rfl (fun w hw => (all1 rfl (all1 rfl (all1 (hA0_1.up.clsF hK hw rfl).one all0)))) rfl (Nat.le_of_ble_eq_true rfl) ?_
  refine L.nil (E.thenN (W.seqJ (fun gs D => ∃ (gv1 : Value) (gl2 : (List TLock)), gs = [(2, pt b1 0), (3, pt b2 0), (4, pt b3 0), (5, .int .i64 x4), (6, pt b6 0)] ∧ D = Cls w [] [.obj b6 [.int .i64 a0.Item, gv1, u0_1] 50, .obj b3 [.int .i64 0, .slice none 0 0, .slice none 0 0] 50, .obj b2 [.int .i64 a1.Tx, .int .i64 a1.Mode] 55, .obj b1 [.int .i64 a0.Item, u0_0, u0_1] 50, .sl gv1 55 2 (gl2.map TLock.row), .os []] ∧ m42_quirref_given_K1 a0 a1 x4 gl2 = some r) ?_ ?_))
  ·
   refine W.seq (W.region (L.y rfl (Y.fieldP fd50_1 rfl) ?_))
   refine L.y rfl (Y.loadP (i := 3) ag48 rfl rfl rfl) ?_
   refine L.y rfl (Y.lenM (g := TLock.row) (l := a0.Held) Try.underlying48 rfl (fun w' hw => (hA0_0.up.clsF hK hw rfl))) ?_
   refine L.y rfl (Y.move rfl) ?_
   refine L.nil (E.thenN (W.block (W.nilSl 55 2 ?_)))
   refine W.loopJ (fun m gs D => ∃ (gx3 : Int) (gv4 : Value) (gl5 : (List TLock)), gs = [(2, pt b1 0), (3, pt b2 0), (4, pt b3 0), (5, .int .i64 x4), (6, pt b6 0), (18, u0_0), (19, .int .i64 (a0.Held.length : Int)), (20, .int .i64 gx3)] ∧ D = Cls w [] [.obj b6 [.int .i64 a0.Item, gv4, u0_1] 50, .obj b3 [.int .i64 0, .slice none 0 0, .slice none 0 0] 50, .obj b2 [.int .i64 a1.Tx, .int .i64 a1.Mode] 55, .obj b1 [.int .i64 a0.Item, u0_0, u0_1] 50, .sl gv4 55 2 (gl5.map TLock.row), .os []] ∧ m42_quirref_given_L1 a0 a1 x4 m gx3 gl5 = some r) ⟨0, .slice none 0 0, [], rfl, rfl, h⟩ ⟨rfl, rfl, rfl, rfl, rfl, rfl, rfl, rfl, trivial⟩ (fun _ hw => hw.sel [1, 2, 3, 4, 0, 5] (by decide) rfl) ?_
   rintro m _ _ ⟨gx3, gv4, gl5, rfl, rfl, h⟩
   rcases m with _ | m
   · rw [m42_quirref_given_L1] at h; cases h
   rw [m42_quirref_given_L1] at h
   generalize hg1 : m42_quirref_given_L1 a0 a1 x4 m = go1 at h
   rw [m42_quirref_given_L1B] at h
   refine W.seq (W.region (L.ite h rfl (Y.lss rfl rfl) (fun c19 h => ?_) (fun c19 h => ?_)))
   ·
    refine L.nil (E.thenN (W.seq (W.condT rfl ?_)))
    refine W.skip (E.thenN (W.seq (W.block (W.seq (W.region (L.m (V := fun _ => el u0_0 (gx3.toNat * 2)) h rfl (Y.indexM (g := TLock.row) (l := a0.Held) Try.underlying48 sz55 rfl rfl (fun w' hw => (hA0_0.up.clsF hK hw rfl))) (fun x20 ex20 h => ?_)))))))
    refine L.y rfl (Y.loadEN (r := [.int .i64 x20.Tx, .int .i64 x20.Mode]) ag55 sz55 rfl (fun w' hw => (hA0_0.up.clsF hK hw rfl)) (idx_map ex20) rfl) ?_
    refine L.alloc rfl ze55 ?_
    intro b21
    refine L.store (i := 0) (vs := [.int .i64 x20.Tx, .int .i64 x20.Mode]) sz55 rfl rfl rfl rfl (by simp [Value.oneCell', Value.cells, st, pt, el]) rfl (Nat.le_of_ble_eq_true rfl) ?_
    refine L.nil (E.thenN (W.seqJ (fun gs D => ∃ (gx6 : Int), gs = [(2, pt b1 0), (3, pt b2 0), (4, pt b3 0), (5, .int .i64 x4), (6, pt b6 0), (8, pt b21 0), (18, u0_0), (19, .int .i64 (a0.Held.length : Int)), (20, .int .i64 gx3)] ∧ D = Cls w [] [.obj b21 [.int .i64 x20.Tx, .int .i64 gx6] 55, .obj b6 [.int .i64 a0.Item, gv4, u0_1] 50, .obj b3 [.int .i64 0, .slice none 0 0, .slice none 0 0] 50, .obj b2 [.int .i64 a1.Tx, .int .i64 a1.Mode] 55, .obj b1 [.int .i64 a0.Item, u0_0, u0_1] 50, .sl gv4 55 2 (gl5.map TLock.row), .os []] ∧ m42_quirref_given_K2 gl5 x20 gx3 go1 gx6 = some r) ?_ ?_))
    ·
     refine W.seq (W.region (L.y rfl (Y.fieldP fd55_0 rfl) ?_))
     refine L.y rfl (Y.loadP (i := 0) ag3 rfl rfl rfl) ?_
     refine L.y rfl (Y.fieldP fd55_0 rfl) ?_
     refine L.y rfl (Y.loadP (i := 3) ag3 rfl rfl rfl) ?_
     refine L.ite h rfl (Y.eql rfl rfl) (fun c26 h => ?_) (fun c26 h => ?_)
     ·
      refine L.nil (E.thenN (W.condT rfl ?_))
      refine W.region (L.y rfl (Y.move rfl) ?_)
      refine L.y rfl (Y.fieldP fd55_1 rfl) ?_
      refine L.store (i := 0) (vs := [.int .i64 x4]) sz3 rfl rfl rfl rfl (by simp [Value.oneCell', Value.cells, st, pt, el]) rfl (Nat.le_of_ble_eq_true rfl) ?_
      exact L.nil (E.joinJ ⟨x4, rfl, rfl, h⟩ ⟨rfl, rfl, rfl, rfl, rfl, rfl, rfl, rfl, rfl, trivial⟩ (fun _ hw => hw))
     ·
      refine L.nil (E.thenN (W.condF rfl ?_))
      exact W.skip (E.joinJ ⟨x20.Mode, rfl, rfl, h⟩ ⟨rfl, rfl, rfl, rfl, rfl, rfl, rfl, rfl, rfl, trivial⟩ (fun _ hw => hw))
    ·
     rintro _ _ ⟨gx6, rfl, rfl, h⟩
     rw [m42_quirref_given_K2] at h
     refine W.region (L.y rfl (Y.fieldP fd50_1 rfl) ?_)
     refine L.y rfl (Y.loadP (i := 1) ag48 rfl rfl rfl) ?_
     refine L.y rfl (Y.loadPW (i := 0) ag55 sz55 rfl rfl rfl) ?_
     refine L.litAgg rfl Try.underlying48 eL55 rfl rfl rfl ?_
     intro b22
     refine L.appM (i := 6) (g := TLock.row) (l := gl5) (more := [(⟨x20.Tx, gx6⟩ : TLock)]) h rfl Try.underlying48 eL55 rfl rfl rfl (fun w hw => As.at_ (hw.get (i := 0) rfl)) (plain_TLock _) rfl ?_
     intro v23 l24 el24 h
     refine L.y rfl (Y.fieldP fd50_1 rfl) ?_
     refine L.storeV (i := 3) sz48 rfl rfl (fun _ hw => (As.at_ (hw.get (i := 0) rfl)).one) rfl (Nat.le_of_ble_eq_true rfl) ?_
     refine L.nil (E.blockN (E.thenN (W.region (L.m (V := fun x25 => .int .i64 x25) h rfl (Y.addM rfl rfl) (fun x25 ex25 h => ?_)))))
     refine L.y rfl (Y.move rfl) ?_
     exact L.nil (E.againJ ⟨x25, v23, l24, rfl, rfl, by rw [hg1]; exact h⟩ (Nat.lt_succ_self _) ⟨rfl, rfl, rfl, rfl, rfl, rfl, rfl, rfl, trivial⟩ (fun _ hw => hw.sel [3, 4, 5, 6, 0, 7] (by decide) rfl))
   ·
    refine L.nil (E.thenN (W.seq (W.condF rfl ?_)))
    exact W.exit (E.thenX (E.KLX (E.blockX (E.joinJ ⟨gv4, gl5, rfl, rfl, h⟩ ⟨rfl, rfl, rfl, rfl, rfl, trivial⟩ (fun _ hw => hw)))))
  ·
   rintro _ _ ⟨gv1, gl2, rfl, rfl, h⟩
   rw [m42_quirref_given_K1] at h
   refine W.seq (W.seq (W.region (L.y rfl (Y.fieldP fd50_1 rfl) ?_)))
   refine L.y rfl (Y.loadP (i := 3) ag48 rfl rfl rfl) ?_
   refine L.y rfl (Y.fieldP fd55_0 rfl) ?_
   refine L.y rfl (Y.loadP (i := 2) ag3 rfl rfl rfl) ?_
   obtain ⟨x7, e8, h⟩ := bind1S h
   refine L.y rfl (Y.does en37 rfl (fun w' hw => (w37_quirref_holds a0.Held a1.Tx u0_0 w' _ e8 (hA0_0.up.clsF hK hw rfl)).mono (fun _ _ h => h.1))) ?_
   refine L.ite h rfl (Y.eql rfl rfl) (fun c9 h => ?_) (fun c9 h => ?_)
   ·
    refine L.nil (E.thenN (W.condT rfl ?_))
    refine W.region (L.y rfl (Y.fieldP fd50_1 rfl) ?_)
    refine L.y rfl (Y.loadP (i := 0) ag48 rfl rfl rfl) ?_
    refine L.y rfl (Y.fieldP fd55_0 rfl) ?_
    refine L.y rfl (Y.loadP (i := 2) ag3 rfl rfl rfl) ?_
    refine L.y rfl (Y.move rfl) ?_
    refine L.y rfl (Y.build (cells := #[.int .i64 a1.Tx, .int .i64 x4]) rfl (by kernel_rfl)) ?_
    refine L.litAgg rfl Try.underlying48 eL55 rfl rfl rfl ?_
    intro b10
    refine L.appM (i := 5) (g := TLock.row) (l := gl2) (more := [(⟨a1.Tx, x4⟩ : TLock)]) h rfl Try.underlying48 eL55 rfl rfl rfl (fun w hw => As.at_ (hw.get (i := 0) rfl)) (plain_TLock _) rfl ?_
    intro v11 l12 el12 h
    refine L.y rfl (Y.fieldP fd50_1 rfl) ?_
    refine L.storeV (i := 2) sz48 rfl rfl (fun _ hw => (As.at_ (hw.get (i := 0) rfl)).one) rfl (Nat.le_of_ble_eq_true rfl) ?_
    refine L.nil (E.thenN (W.seq (W.region (L.y rfl (Y.loadPW (i := 2) ag50 sz50 rfl rfl rfl) ?_))))
    refine L.storeC (i := 3) sz50 rfl rfl rfl rfl (fun w hw => (all1 rfl (all1 (As.at_ (hw.get (i := 0) rfl)).one (all1 (hA0_1.up.clsF hK hw rfl).one all0)))) rfl (Nat.le_of_ble_eq_true rfl) ?_
    refine L.nil (E.thenN (W.ret (E.frz (i := 0) rfl rfl rfl ?_)))
    intro c13 mo14 hf15
    refine E.retR1 rfl (Rv.cellW (i := 2) ag50 sz50 rfl rfl rfl) (fun w1 hw => ?_)
    obtain rfl := Option.some.inj h
    exact ⟨_, _, rfl, ⟨c13, rfl, v11, u0_1, rfl, (hf15 K), hA0_1.up⟩, hw.sel [5] (by decide) rfl⟩
   ·
    refine L.nil (E.thenN (W.condF rfl ?_))
    refine W.skip (E.thenN (W.seq (W.region (L.y rfl (Y.loadPW (i := 0) ag50 sz50 rfl rfl rfl) ?_))))
    refine L.storeC (i := 1) sz50 rfl rfl rfl rfl (fun w hw => (all1 rfl (all1 (As.at_ (hw.get (i := 4) rfl)).one (all1 (hA0_1.up.clsF hK hw rfl).one all0)))) rfl (Nat.le_of_ble_eq_true rfl) ?_
    refine L.nil (E.thenN (W.ret (E.frz (i := 4) rfl rfl rfl ?_)))
    intro c16 mo17 hf18
    refine E.retR1 rfl (Rv.cellW (i := 1) ag50 sz50 rfl rfl rfl) (fun w1 hw => ?_)
    obtain rfl := Option.some.inj h
    exact ⟨_, _, rfl, ⟨c16, rfl, gv1, u0_1, rfl, (hf18 K), hA0_1.up⟩, hw.sel [4] (by decide) rfl⟩
set_option maxRecDepth 100000 in
set_option maxHeartbeats 8000000 in
theorem w12_quirref_DropLocks (a0 : (List TLockItem)) (a1 : Int) (u0 : Value) (q0 : Nat → List Value) (K : World → Prop) (w : World) (hK : Stb K w) (r : ((List TLockItem) × (List Int))) (h : m12_quirref_DropLocks a0 a1 = some r) (hA0 : Fz K [] u0 3 (zr TLockItem.rowv q0 a0)) (hD0 : FzA K [] (zs TLockItem.sds q0 a0)) : Does Try.prog 12 [u0, .int .i64 a1] w fun u m => ∃ c, m = [.os c] ∧ ∃ v0 q0 v1, u = .tuple #[v0, v1] ∧ Fz K c v0 3 (zr TLockItem.rowv q0 r.1) ∧ FzA K c (zs TLockItem.sds q0 r.1) ∧ Fz K c v1 1 (r.2.map I) := by
  rw [m12_quirref_DropLocks] at h
  refine body (n := 70) Try.func12 rfl rfl rfl (Cls.reflF w) ?_
  refine W.seq (W.region (L.box rfl rfl ?_))
  intro b1
  refine L.y rfl (Y.assign rfl) ?_
  refine L.y rfl (Y.assign rfl) ?_
  refine L.nil (E.thenN (W.seq (W.region (L.y rfl (Y.assign rfl) ?_))))
  refine L.nil (E.thenN (W.seq (W.region (L.y rfl (Y.assign rfl) ?_))))
  refine L.nil (E.thenN (W.seq (W.region (L.y rfl (Y.func rfl) ?_))))
  refine L.y rfl (Y.assign rfl) ?_
  refine L.nil (E.thenN (W.seqJ (fun gs D => ∃ (gc1 : List Ob) (gv2 : Value) (gl3 : (List TLockItem)) (gq4 : Nat → List Value) (gu6 : Unit) (gv7 : Value) (gl8 : (List Int)), gs = [(6, gv2), (7, gv7)] ∧ D = Cls w [] [.sl gv2 50 3 (zr TLockItem.rowv gq4 gl3), .sl gv7 3 1 (gl8.map I), .os gc1] ∧ FzA K gc1 (zs TLockItem.sds gq4 gl3) ∧ m12_quirref_DropLocks_K1 gl3 gl8 = some r) ?_ ?_))
  ·
   refine W.seq (W.region (L.y rfl (Y.move rfl) ?_))
   refine L.y rfl (Y.lenMZ (row := TLockItem.rowv) (vs := q0) (l := a0) Try.underlying23 rfl (fun w' hw => (hA0.up.clsF hK hw rfl))) ?_
   refine L.y rfl (Y.move rfl) ?_
   refine L.nil (E.thenN (W.block (W.nilSl 50 3 ?_)))
   refine W.nilSl 3 1 ?_
   refine W.loopJ (fun m gs D => ∃ (gc9 : List Ob) (gv10 : Value) (gl11 : (List TLockItem)) (gq12 : Nat → List Value) (gu14 : Unit) (gv15 : Value) (gl16 : (List Int)) (gx17 : Int), gs = [(6, gv10), (7, gv15), (8, .func (.func 40) #[] #[pt b1 0]), (12, u0), (13, .int .i64 (a0.length : Int)), (14, .int .i64 gx17)] ∧ D = Cls w [] [.obj b1 [.int .i64 a1] 3, .sl gv10 50 3 (zr TLockItem.rowv gq12 gl11), .sl gv15 3 1 (gl16.map I), .os gc9] ∧ FzA K gc9 (zs TLockItem.sds gq12 gl11) ∧ m12_quirref_DropLocks_L1 a0 a1 m gl11 gl16 gx17 = some r) ⟨[], .slice none 0 0, [], (fun _ => []), (), .slice none 0 0, [], 0, rfl, rfl, FzA.nil, h⟩ ⟨rfl, rfl, rfl, rfl, rfl, rfl, trivial⟩ (fun _ hw => hw.sel [2, 1, 0, 3] (by decide) rfl) ?_
   rintro m _ _ ⟨gc9, gv10, gl11, gq12, gu14, gv15, gl16, gx17, rfl, rfl, hG13, h⟩
   rcases m with _ | m
   · rw [m12_quirref_DropLocks_L1] at h; cases h
   rw [m12_quirref_DropLocks_L1] at h
   generalize hg1 : m12_quirref_DropLocks_L1 a0 a1 m = go1 at h
   rw [m12_quirref_DropLocks_L1B] at h
   refine W.seq (W.region (L.ite h rfl (Y.lss rfl rfl) (fun c8 h => ?_) (fun c8 h => ?_)))
   ·
    refine L.nil (E.thenN (W.seq (W.condT rfl ?_)))
    refine W.skip (E.thenN (W.seqJ (fun gs D => ∃ (gc18 : List Ob) (gv19 : Value) (gl20 : (List TLockItem)) (gq21 : Nat → List Value) (gu23 : Unit) (gv24 : Value) (gl25 : (List Int)), gs = [(6, gv19), (7, gv24), (8, .func (.func 40) #[] #[pt b1 0]), (12, u0), (13, .int .i64 (a0.length : Int)), (14, .int .i64 gx17)] ∧ D = Cls w [] [.obj b1 [.int .i64 a1] 3, .sl gv19 50 3 (zr TLockItem.rowv gq21 gl20), .sl gv24 3 1 (gl25.map I), .os gc18] ∧ FzA K gc18 (zs TLockItem.sds gq21 gl20) ∧ m12_quirref_DropLocks_K2 gx17 go1 gl20 gl25 = some r) ?_ ?_))
    ·
     refine W.block (W.seq (W.region (L.m (V := fun _ => el u0 (gx17.toNat * 3)) h rfl (Y.indexMZ (row := TLockItem.rowv) (vs := q0) (l := a0) Try.underlying23 sz50 rfl rfl (fun w' hw => (hA0.up.clsF hK hw rfl))) (fun x10 ex10 h => ?_))))
     refine L.y rfl (Y.loadEN (r := [.int .i64 x10.Item, gv (q0 gx17.toNat) 0, gv (q0 gx17.toNat) 1]) ag50 sz50 rfl (fun w' hw => (hA0.up.clsF hK hw rfl)) (zr_idx (vs := q0) ex10) rfl) ?_
     refine L.alloc rfl ze50 ?_
     intro b11
     refine L.storeC (i := 0) sz50 rfl rfl rfl rfl (fun w hw => (all1 rfl (all1 (((FzA.at (sds := TLockItem.sds) (vs := q0) (j := 0) (nl := 2) hD0 (fun _ _ => rfl) ex10 rfl).up).clsF hK hw rfl).one (all1 (((FzA.at (sds := TLockItem.sds) (vs := q0) (j := 1) (nl := 2) hD0 (fun _ _ => rfl) ex10 rfl).up).clsF hK hw rfl).one all0)))) rfl (Nat.le_of_ble_eq_true rfl) ?_
     refine L.nil (E.thenN (W.seq (W.drawn2 (k := 12) (stC [[5, 11], [11]] [Cls w [] [.obj b11 [.int .i64 x10.Item, gv (q0 gx17.toNat) 0, gv (q0 gx17.toNat) 1] 50, .obj b1 [.int .i64 a1] 3, .sl gv10 50 3 (zr TLockItem.rowv gq12 gl11), .sl gv15 3 1 (gl16.map I), .os gc9], Cls w [] [.obj b11 [.int .i64 x10.Item, gv (q0 gx17.toNat) 0, gv (q0 gx17.toNat) 1] 50, .obj b1 [.int .i64 a1] 3, .sl gv15 3 1 (gl16.map I), .os gc9]] (Cls w [] [.obj b1 [.int .i64 a1] 3, .sl gv15 3 1 (gl16.map I), .os gc9])) rfl mixed (fun _ hw => hw.drew) (Sc.now (by kernel_rfl) (fun _ hw => hw)) ?_)))
     refine V2.y (i := 0) (Nx2.of (Z := Cls w [] [.obj b1 [.int .i64 a1] 3, .sl gv15 3 1 (gl16.map I), .os gc9]) [] (by kernel_rfl) rfl (Zc.on (fun _ hw => hw.sel [1, 3, 4] (by decide) rfl) (Zc.on (fun _ hw => hw.sel [1, 2, 3] (by decide) rfl) (Zc.fin (fun _ hw => hw))))) rfl rfl rfl (Y.fieldP fd50_0 rfl) ?_
     refine V2.y (i := 1) (Nx2.of (Z := Cls w [] [.obj b11 [.int .i64 x10.Item, gv (q0 gx17.toNat) 0, gv (q0 gx17.toNat) 1] 50, .obj b1 [.int .i64 a1] 3, .sl gv15 3 1 (gl16.map I), .os gc9]) [11] (by kernel_rfl) rfl (Zc.on (fun _ hw => hw.sel [0, 1, 3, 4] (by decide) rfl) (Zc.at1 (fun _ hw => hw)))) rfl rfl rfl (Y.loadP (i := 0) ag3 rfl rfl rfl) ?_
     refine V2.y (i := 2) (Nx2.of (Z := Cls w [] [.obj b1 [.int .i64 a1] 3, .sl gv15 3 1 (gl16.map I), .os gc9]) [] (by kernel_rfl) rfl (Zc.on (fun _ hw => hw.sel [1, 3, 4] (by decide) rfl) (Zc.on (fun _ hw => hw.sel [1, 2, 3] (by decide) rfl) (Zc.fin (fun _ hw => hw))))) rfl rfl rfl (Y.move rfl) ?_
     refine V2.y (i := 3) (Nx2.of (Z := Cls w [] [.obj b1 [.int .i64 a1] 3, .sl gv15 3 1 (gl16.map I), .os gc9]) [] (by kernel_rfl) rfl (Zc.on (fun _ hw => hw.sel [1, 3, 4] (by decide) rfl) (Zc.on (fun _ hw => hw.sel [1, 2, 3] (by decide) rfl) (Zc.fin (fun _ hw => hw))))) rfl rfl rfl (Y.fieldP fd50_1 rfl) ?_
     refine V2.y (i := 4) (Nx2.of (Z := Cls w [] [.obj b11 [.int .i64 x10.Item, gv (q0 gx17.toNat) 0, gv (q0 gx17.toNat) 1] 50, .obj b1 [.int .i64 a1] 3, .sl gv15 3 1 (gl16.map I), .os gc9]) [11] (by kernel_rfl) rfl (Zc.on (fun _ hw => hw.sel [0, 1, 3, 4] (by decide) rfl) (Zc.at1 (fun _ hw => hw)))) rfl rfl rfl (Y.loadP (i := 0) ag48 rfl rfl rfl) ?_
     refine V2.y (i := 6) (Nx2.of (Z := Cls w [] [.obj b1 [.int .i64 a1] 3, .sl gv15 3 1 (gl16.map I), .os gc9]) [] (by kernel_rfl) rfl (Zc.on (fun _ hw => hw.sel [1, 3, 4] (by decide) rfl) (Zc.on (fun _ hw => hw.sel [1, 2, 3] (by decide) rfl) (Zc.fin (fun _ hw => hw))))) rfl rfl rfl (Y.move rfl) ?_
     refine V2.y (i := 7) (Nx2.of (Z := Cls w [] [.obj b1 [.int .i64 a1] 3, .sl gv15 3 1 (gl16.map I), .os gc9]) [] (by kernel_rfl) rfl (Zc.on (fun _ hw => hw.sel [1, 3, 4] (by decide) rfl) (Zc.on (fun _ hw => hw.sel [1, 2, 3] (by decide) rfl) (Zc.fin (fun _ hw => hw))))) rfl rfl rfl (Y.fieldP fd50_2 rfl) ?_
     refine V2.y (i := 8) (Nx2.of (Z := Cls w [] [.obj b11 [.int .i64 x10.Item, gv (q0 gx17.toNat) 0, gv (q0 gx17.toNat) 1] 50, .obj b1 [.int .i64 a1] 3, .sl gv15 3 1 (gl16.map I), .os gc9]) [11] (by kernel_rfl) rfl (Zc.on (fun _ hw => hw.sel [0, 1, 3, 4] (by decide) rfl) (Zc.at1 (fun _ hw => hw)))) rfl rfl rfl (Y.loadP (i := 0) ag48 rfl rfl rfl) ?_
     refine V2.eff (i := 5) (by kernel_rfl) rfl ?_
     refine L.callVJ (fun v D => ∃ (gu39 : Unit) (gv40 : Value) (gl41 : (List TLock)), v = gv40 ∧ D = Cls w [] [.obj b11 [.int .i64 x10.Item, gv (q0 gx17.toNat) 0, gv (q0 gx17.toNat) 1] 50, .obj b1 [.int .i64 a1] 3, .sl gv10 50 3 (zr TLockItem.rowv gq12 gl11), .sl gv15 3 1 (gl16.map I), .sl gv40 55 2 (gl41.map TLock.row), .os gc9] ∧ FzA K gc9 (zs TLockItem.sds gq12 gl11) ∧ m12_quirref_DropLocks_K3 x10 a1 gl11 gx17 go1 gl16 gl41 = some r) rfl en40 rfl rfl Try.func40 rfl rfl rfl ?_ ?_
     ·
      refine W.seq (W.region (L.y rfl (Y.assign rfl) ?_))
      refine L.nil (E.thenN (W.seq (W.region (L.y rfl (Y.assign rfl) ?_))))
      refine L.nil (E.thenN (W.seqJ (fun gs D => ∃ (gv89 : Value) (gl90 : (List TLock)) (gu92 : Unit), gs = [(4, gv89)] ∧ D = Cls w [] [.obj b11 [.int .i64 x10.Item, gv (q0 gx17.toNat) 0, gv (q0 gx17.toNat) 1] 50, .obj b1 [.int .i64 a1] 3, .sl gv89 55 2 (gl90.map TLock.row), .sl gv10 50 3 (zr TLockItem.rowv gq12 gl11), .sl gv15 3 1 (gl16.map I), .os gc9] ∧ FzA K gc9 (zs TLockItem.sds gq12 gl11) ∧ m12_quirref_DropLocks_K8 x10 a1 gl11 gx17 go1 gl16 gl90 = some r) ?_ ?_))
      ·
       refine W.seq (W.region (L.y rfl (Y.move rfl) ?_))
       refine L.y rfl (Y.lenM (g := TLock.row) (l := x10.Held) Try.underlying48 rfl (fun w' hw => (((FzA.at (sds := TLockItem.sds) (vs := q0) (j := 0) (nl := 2) hD0 (fun _ _ => rfl) ex10 rfl).up).clsF hK hw rfl))) ?_
       refine L.y rfl (Y.move rfl) ?_
       refine L.nil (E.thenN (W.block (W.nilSl 55 2 ?_)))
       refine W.loopJ (fun m gs D => ∃ (gv95 : Value) (gl96 : (List TLock)) (gx97 : Int) (gu99 : Unit), gs = [(1, pt b1 0), (4, gv95), (7, gv (q0 gx17.toNat) 0), (8, .int .i64 (x10.Held.length : Int)), (9, .int .i64 gx97)] ∧ D = Cls w [] [.obj b11 [.int .i64 x10.Item, gv (q0 gx17.toNat) 0, gv (q0 gx17.toNat) 1] 50, .obj b1 [.int .i64 a1] 3, .sl gv95 55 2 (gl96.map TLock.row), .sl gv10 50 3 (zr TLockItem.rowv gq12 gl11), .sl gv15 3 1 (gl16.map I), .os gc9] ∧ FzA K gc9 (zs TLockItem.sds gq12 gl11) ∧ m12_quirref_DropLocks_L4 x10 a1 gl11 gx17 go1 gl16 m gl96 gx97 = some r) ⟨.slice none 0 0, [], 0, (), rfl, rfl, hG13, h⟩ ⟨rfl, rfl, rfl, rfl, rfl, trivial⟩ (fun _ hw => hw.sel [1, 2, 0, 3, 4, 5] (by decide) rfl) ?_
       rintro m _ _ ⟨gv95, gl96, gx97, gu99, rfl, rfl, hG98, h⟩
       rcases m with _ | m
       · rw [m12_quirref_DropLocks_L4] at h; cases h
       rw [m12_quirref_DropLocks_L4] at h
       generalize hg4 : m12_quirref_DropLocks_L4 x10 a1 gl11 gx17 go1 gl16 m = go4 at h
       rw [m12_quirref_DropLocks_L4B] at h
       refine W.seq (W.region (L.ite h rfl (Y.lss rfl rfl) (fun c92 h => ?_) (fun c92 h => ?_)))
       ·
        refine L.nil (E.thenN (W.seq (W.condT rfl ?_)))
        refine W.skip (E.thenN (W.seq (W.block (W.seq (W.region (L.m (V := fun _ => el (gv (q0 gx17.toNat) 0) (gx97.toNat * 2)) h rfl (Y.indexM (g := TLock.row) (l := x10.Held) Try.underlying48 sz55 rfl rfl (fun w' hw => (((FzA.at (sds := TLockItem.sds) (vs := q0) (j := 0) (nl := 2) hD0 (fun _ _ => rfl) ex10 rfl).up).clsF hK hw rfl))) (fun x93 ex93 h => ?_)))))))
        refine L.y rfl (Y.loadEN (r := [.int .i64 x93.Tx, .int .i64 x93.Mode]) ag55 sz55 rfl (fun w' hw => (((FzA.at (sds := TLockItem.sds) (vs := q0) (j := 0) (nl := 2) hD0 (fun _ _ => rfl) ex10 rfl).up).clsF hK hw rfl)) (idx_map ex93) rfl) ?_
        refine L.alloc rfl ze55 ?_
        intro b94
        refine L.store (i := 0) (vs := [.int .i64 x93.Tx, .int .i64 x93.Mode]) sz55 rfl rfl rfl rfl (by simp [Value.oneCell', Value.cells, st, pt, el]) rfl (Nat.le_of_ble_eq_true rfl) ?_
        refine L.nil (E.thenN (W.seq (W.region (L.y rfl (Y.fieldP fd55_0 rfl) ?_))))
        refine L.y rfl (Y.loadP (i := 0) ag3 rfl rfl rfl) ?_
        refine L.y rfl (Y.loadP (i := 2) ag3 rfl rfl rfl) ?_
        refine L.ite h rfl (Y.neq rfl rfl) (fun c95 h => ?_) (fun c95 h => ?_)
        ·
         refine L.nil (E.thenN (W.condT rfl ?_))
         refine W.region (L.y rfl (Y.move rfl) ?_)
         refine L.y rfl (Y.loadPW (i := 0) ag55 sz55 rfl rfl rfl) ?_
         refine L.litAgg rfl Try.underlying48 eL55 rfl rfl rfl ?_
         intro b96
         refine L.appM (i := 4) (g := TLock.row) (l := gl96) (more := [x93]) h rfl Try.underlying48 eL55 rfl rfl rfl (fun w hw => As.at_ (hw.get (i := 0) rfl)) (plain_TLock _) rfl ?_
         intro v97 l98 el98 h
         refine L.y rfl (Y.assign rfl) ?_
         refine L.nil (E.blockN (E.thenN (W.region (L.m (V := fun x99 => .int .i64 x99) h rfl (Y.addM rfl rfl) (fun x99 ex99 h => ?_)))))
         refine L.y rfl (Y.move rfl) ?_
         exact L.nil (E.againJ ⟨v97, l98, x99, (), rfl, rfl, hG98, by rw [hg4]; exact h⟩ (Nat.lt_succ_self _) ⟨rfl, rfl, rfl, rfl, rfl, trivial⟩ (fun _ hw => hw.sel [3, 4, 0, 5, 6, 7] (by decide) rfl))
        ·
         refine L.nil (E.thenN (W.condF rfl ?_))
         refine W.skip (E.blockN (E.thenN (W.region (L.m (V := fun x100 => .int .i64 x100) h rfl (Y.addM rfl rfl) (fun x100 ex100 h => ?_)))))
         refine L.y rfl (Y.move rfl) ?_
         exact L.nil (E.againJ ⟨gv95, gl96, x100, (), rfl, rfl, hG98, by rw [hg4]; exact h⟩ (Nat.lt_succ_self _) ⟨rfl, rfl, rfl, rfl, rfl, trivial⟩ (fun _ hw => hw.sel [1, 2, 3, 4, 5, 6] (by decide) rfl))
       ·
        refine L.nil (E.thenN (W.seq (W.condF rfl ?_)))
        exact W.exit (E.thenX (E.KLX (E.blockX (E.joinJ ⟨gv95, gl96, (), rfl, rfl, hG98, h⟩ ⟨rfl, trivial⟩ (fun _ hw => hw)))))
      ·
       rintro _ _ ⟨gv89, gl90, gu92, rfl, rfl, hG91, h⟩
       rw [m12_quirref_DropLocks_K8] at h
       refine W.seq (W.region (L.y rfl (Y.move rfl) ?_))
       refine L.y rfl (Y.assign rfl) ?_
       refine L.nil (E.thenN (W.ret (E.ret1 rfl rfl (fun w1 hw => ?_))))
       exact ⟨_, _, rfl, ⟨(), gv89, gl90, rfl, rfl, hG91, h⟩, hw.sel [0, 1, 3, 4, 2, 5] (by decide) rfl⟩
     ·
      rintro gv40 _ ⟨gu39, _, gl41, rfl, rfl, hG38, h⟩
      rw [m12_quirref_DropLocks_K3] at h
      refine L.nil (E.toV2 (stC [[11]] [Cls w [] [.obj b11 [.int .i64 x10.Item, gv (q0 gx17.toNat) 0, gv (q0 gx17.toNat) 1] 50, .obj b1 [.int .i64 a1] 3, .sl gv15 3 1 (gl16.map I), .sl gv40 55 2 (gl41.map TLock.row), .os gc9]] (Cls w [] [.obj b1 [.int .i64 a1] 3, .sl gv15 3 1 (gl16.map I), .sl gv40 55 2 (gl41.map TLock.row), .os gc9])) 5 (by kernel_rfl) (Sc.past rfl (Sc.stay (fun _ hw => hw.sel [0, 1, 2, 4] (by decide) rfl) (Sc.stayD (fun _ hw => hw.sel [0, 1, 3] (by decide) rfl)))) (Sc.now (by kernel_rfl) (fun _ hw => hw.sel [0, 1, 3, 4, 5] (by decide) rfl)) ?_)
      refine V2.eff (i := 9) (by kernel_rfl) rfl ?_
      refine L.callVJ (fun v D => ∃ (gu43 : Unit) (gv44 : Value) (gl45 : (List TLock)), v = gv44 ∧ D = Cls w [] [.obj b11 [.int .i64 x10.Item, gv (q0 gx17.toNat) 0, gv (q0 gx17.toNat) 1] 50, .obj b1 [.int .i64 a1] 3, .sl gv10 50 3 (zr TLockItem.rowv gq12 gl11), .sl gv15 3 1 (gl16.map I), .sl gv40 55 2 (gl41.map TLock.row), .sl gv44 55 2 (gl45.map TLock.row), .os gc9] ∧ FzA K gc9 (zs TLockItem.sds gq12 gl11) ∧ m12_quirref_DropLocks_K4 gl11 gx17 go1 gl16 x10 gl41 gl45 = some r) rfl en40 rfl rfl Try.func40 rfl rfl rfl ?_ ?_
      ·
       refine W.seq (W.region (L.y rfl (Y.assign rfl) ?_))
       refine L.nil (E.thenN (W.seq (W.region (L.y rfl (Y.assign rfl) ?_))))
       refine L.nil (E.thenN (W.seqJ (fun gs D => ∃ (gv78 : Value) (gl79 : (List TLock)) (gu81 : Unit), gs = [(4, gv78)] ∧ D = Cls w [] [.obj b11 [.int .i64 x10.Item, gv (q0 gx17.toNat) 0, gv (q0 gx17.toNat) 1] 50, .obj b1 [.int .i64 a1] 3, .sl gv78 55 2 (gl79.map TLock.row), .sl gv10 50 3 (zr TLockItem.rowv gq12 gl11), .sl gv15 3 1 (gl16.map I), .sl gv40 55 2 (gl41.map TLock.row), .os gc9] ∧ FzA K gc9 (zs TLockItem.sds gq12 gl11) ∧ m12_quirref_DropLocks_K7 gl11 gx17 go1 gl16 x10 gl41 gl79 = some r) ?_ ?_))
       ·
        refine W.seq (W.region (L.y rfl (Y.move rfl) ?_))
        refine L.y rfl (Y.lenM (g := TLock.row) (l := x10.Queue) Try.underlying48 rfl (fun w' hw => (((FzA.at (sds := TLockItem.sds) (vs := q0) (j := 1) (nl := 2) hD0 (fun _ _ => rfl) ex10 rfl).up).clsF hK hw rfl))) ?_
        refine L.y rfl (Y.move rfl) ?_
        refine L.nil (E.thenN (W.block (W.nilSl 55 2 ?_)))
        refine W.loopJ (fun m gs D => ∃ (gv84 : Value) (gl85 : (List TLock)) (gx86 : Int) (gu88 : Unit), gs = [(1, pt b1 0), (4, gv84), (7, gv (q0 gx17.toNat) 1), (8, .int .i64 (x10.Queue.length : Int)), (9, .int .i64 gx86)] ∧ D = Cls w [] [.obj b11 [.int .i64 x10.Item, gv (q0 gx17.toNat) 0, gv (q0 gx17.toNat) 1] 50, .obj b1 [.int .i64 a1] 3, .sl gv84 55 2 (gl85.map TLock.row), .sl gv10 50 3 (zr TLockItem.rowv gq12 gl11), .sl gv15 3 1 (gl16.map I), .sl gv40 55 2 (gl41.map TLock.row), .os gc9] ∧ FzA K gc9 (zs TLockItem.sds gq12 gl11) ∧ m12_quirref_DropLocks_L3 x10 a1 gl11 gx17 go1 gl16 gl41 m gl85 gx86 = some r) ⟨.slice none 0 0, [], 0, (), rfl, rfl, hG38, h⟩ ⟨rfl, rfl, rfl, rfl, rfl, trivial⟩ (fun _ hw => hw.sel [1, 2, 0, 3, 4, 5, 6] (by decide) rfl) ?_
        rintro m _ _ ⟨gv84, gl85, gx86, gu88, rfl, rfl, hG87, h⟩
        rcases m with _ | m
        · rw [m12_quirref_DropLocks_L3] at h; cases h
        rw [m12_quirref_DropLocks_L3] at h
        generalize hg3 : m12_quirref_DropLocks_L3 x10 a1 gl11 gx17 go1 gl16 gl41 m = go3 at h
        rw [m12_quirref_DropLocks_L3B] at h
        refine W.seq (W.region (L.ite h rfl (Y.lss rfl rfl) (fun c83 h => ?_) (fun c83 h => ?_)))
        ·
         refine L.nil (E.thenN (W.seq (W.condT rfl ?_)))
         refine W.skip (E.thenN (W.seq (W.block (W.seq (W.region (L.m (V := fun _ => el (gv (q0 gx17.toNat) 1) (gx86.toNat * 2)) h rfl (Y.indexM (g := TLock.row) (l := x10.Queue) Try.underlying48 sz55 rfl rfl (fun w' hw => (((FzA.at (sds := TLockItem.sds) (vs := q0) (j := 1) (nl := 2) hD0 (fun _ _ => rfl) ex10 rfl).up).clsF hK hw rfl))) (fun x84 ex84 h => ?_)))))))
         refine L.y rfl (Y.loadEN (r := [.int .i64 x84.Tx, .int .i64 x84.Mode]) ag55 sz55 rfl (fun w' hw => (((FzA.at (sds := TLockItem.sds) (vs := q0) (j := 1) (nl := 2) hD0 (fun _ _ => rfl) ex10 rfl).up).clsF hK hw rfl)) (idx_map ex84) rfl) ?_
         refine L.alloc rfl ze55 ?_
         intro b85
         refine L.store (i := 0) (vs := [.int .i64 x84.Tx, .int .i64 x84.Mode]) sz55 rfl rfl rfl rfl (by simp [Value.oneCell', Value.cells, st, pt, el]) rfl (Nat.le_of_ble_eq_true rfl) ?_
         refine L.nil (E.thenN (W.seq (W.region (L.y rfl (Y.fieldP fd55_0 rfl) ?_))))
         refine L.y rfl (Y.loadP (i := 0) ag3 rfl rfl rfl) ?_
         refine L.y rfl (Y.loadP (i := 2) ag3 rfl rfl rfl) ?_
         refine L.ite h rfl (Y.neq rfl rfl) (fun c86 h => ?_) (fun c86 h => ?_)
         ·
          refine L.nil (E.thenN (W.condT rfl ?_))
          refine W.region (L.y rfl (Y.move rfl) ?_)
          refine L.y rfl (Y.loadPW (i := 0) ag55 sz55 rfl rfl rfl) ?_
          refine L.litAgg rfl Try.underlying48 eL55 rfl rfl rfl ?_
          intro b87
          refine L.appM (i := 4) (g := TLock.row) (l := gl85) (more := [x84]) h rfl Try.underlying48 eL55 rfl rfl rfl (fun w hw => As.at_ (hw.get (i := 0) rfl)) (plain_TLock _) rfl ?_
          intro v88 l89 el89 h
          refine L.y rfl (Y.assign rfl) ?_
          refine L.nil (E.blockN (E.thenN (W.region (L.m (V := fun x90 => .int .i64 x90) h rfl (Y.addM rfl rfl) (fun x90 ex90 h => ?_)))))
          refine L.y rfl (Y.move rfl) ?_
          exact L.nil (E.againJ ⟨v88, l89, x90, (), rfl, rfl, hG87, by rw [hg3]; exact h⟩ (Nat.lt_succ_self _) ⟨rfl, rfl, rfl, rfl, rfl, trivial⟩ (fun _ hw => hw.sel [3, 4, 0, 5, 6, 7, 8] (by decide) rfl))
         ·
          refine L.nil (E.thenN (W.condF rfl ?_))
          refine W.skip (E.blockN (E.thenN (W.region (L.m (V := fun x91 => .int .i64 x91) h rfl (Y.addM rfl rfl) (fun x91 ex91 h => ?_)))))
          refine L.y rfl (Y.move rfl) ?_
          exact L.nil (E.againJ ⟨gv84, gl85, x91, (), rfl, rfl, hG87, by rw [hg3]; exact h⟩ (Nat.lt_succ_self _) ⟨rfl, rfl, rfl, rfl, rfl, trivial⟩ (fun _ hw => hw.sel [1, 2, 3, 4, 5, 6, 7] (by decide) rfl))
        ·
         refine L.nil (E.thenN (W.seq (W.condF rfl ?_)))
         exact W.exit (E.thenX (E.KLX (E.blockX (E.joinJ ⟨gv84, gl85, (), rfl, rfl, hG87, h⟩ ⟨rfl, trivial⟩ (fun _ hw => hw)))))
       ·
        rintro _ _ ⟨gv78, gl79, gu81, rfl, rfl, hG80, h⟩
        rw [m12_quirref_DropLocks_K7] at h
        refine W.seq (W.region (L.y rfl (Y.move rfl) ?_))
        refine L.y rfl (Y.assign rfl) ?_
        refine L.nil (E.thenN (W.ret (E.ret1 rfl rfl (fun w1 hw => ?_))))
        exact ⟨_, _, rfl, ⟨(), gv78, gl79, rfl, rfl, hG80, h⟩, hw.sel [0, 1, 3, 4, 5, 2, 6] (by decide) rfl⟩
      ·
       rintro gv44 _ ⟨gu43, _, gl45, rfl, rfl, hG42, h⟩
       rw [m12_quirref_DropLocks_K4] at h
       refine L.nil (E.toV2 (stC [[11]] [Cls w [] [.obj b11 [.int .i64 x10.Item, gv (q0 gx17.toNat) 0, gv (q0 gx17.toNat) 1] 50, .obj b1 [.int .i64 a1] 3, .sl gv15 3 1 (gl16.map I), .sl gv40 55 2 (gl41.map TLock.row), .sl gv44 55 2 (gl45.map TLock.row), .os gc9]] (Cls w [] [.obj b1 [.int .i64 a1] 3, .sl gv15 3 1 (gl16.map I), .sl gv40 55 2 (gl41.map TLock.row), .sl gv44 55 2 (gl45.map TLock.row), .os gc9])) 9 (by kernel_rfl) (Sc.stay (fun _ hw => hw.sel [0, 1, 2, 3, 5] (by decide) rfl) (Sc.stayD (fun _ hw => hw.sel [0, 1, 2, 4] (by decide) rfl))) (Sc.now (by kernel_rfl) (fun _ hw => hw.sel [0, 1, 3, 4, 5, 6] (by decide) rfl)) ?_)
       refine V2.y (i := 10) (Nx2.of (Z := Cls w [] [.obj b1 [.int .i64 a1] 3, .sl gv15 3 1 (gl16.map I), .sl gv40 55 2 (gl41.map TLock.row), .sl gv44 55 2 (gl45.map TLock.row), .os gc9]) [] (by kernel_rfl) rfl (Zc.on (fun _ hw => hw.sel [1, 2, 3, 4, 5] (by decide) rfl) (Zc.fin (fun _ hw => hw)))) rfl rfl rfl (Y.buildC (cells := #[.int .i64 x10.Item, gv40, gv44]) rfl (fun w hw => by rcases ((As.at_ (hw.get (i := 2) rfl))).shape with ⟨h0, _⟩ | ⟨_, _, h0, _, _⟩ <;> rcases ((As.at_ (hw.get (i := 3) rfl))).shape with ⟨h1, _⟩ | ⟨_, _, h1, _, _⟩ <;> simp only [h0, h1] <;> kernel_rfl)) ?_
       refine V2.eff (i := 11) (by kernel_rfl) rfl ?_
       refine L.storeC (i := 0) sz50 rfl rfl rfl rfl (fun w hw => (all1 rfl (all1 (As.at_ (hw.get (i := 4) rfl)).one (all1 (As.at_ (hw.get (i := 5) rfl)).one all0)))) rfl (Nat.le_of_ble_eq_true rfl) ?_
       refine L.nil (E.toV2 (stC [] [] (Cls w [] [.obj b1 [.int .i64 a1] 3, .sl gv15 3 1 (gl16.map I), .sl gv40 55 2 (gl41.map TLock.row), .sl gv44 55 2 (gl45.map TLock.row), .os gc9])) 11 (by kernel_rfl) (Sc.past rfl (Sc.stayD (fun _ hw => hw))) (Sc.atD (fun _ hw => hw.sel [1, 3, 4, 5, 6] (by decide) rfl)) ?_)
       refine V2.done (by kernel_rfl) ?_
       refine E.thenN (W.seqJ (fun gs D => ∃ (gc46 : List Ob) (gu48 : Unit) (gv49 : Value) (gl50 : (List Int)) (gx51 : Int) (gv52 : Value) (gl53 : (List TLock)) (gu55 : Unit) (gv56 : Value) (gl57 : (List TLock)) (gu59 : Unit), gs = [(6, gv10), (7, gv49), (8, .func (.func 40) #[] #[pt b1 0]), (10, pt b11 0), (12, u0), (13, .int .i64 (a0.length : Int)), (14, .int .i64 gx17)] ∧ D = Cls w [] [.obj b11 [.int .i64 gx51, gv52, gv56] 50, .obj b1 [.int .i64 a1] 3, .sl gv10 50 3 (zr TLockItem.rowv gq12 gl11), .sl gv49 3 1 (gl50.map I), .os gc46] ∧ FzA K gc46 (zs TLockItem.sds gq12 gl11) ∧ Fz K gc46 gv52 2 (gl53.map TLock.row) ∧ Fz K gc46 gv56 2 (gl57.map TLock.row) ∧ m12_quirref_DropLocks_K5 gl11 gx17 go1 gl50 gx51 gl53 gl57 = some r) ?_ ?_)
       ·
        refine W.block (W.frz (i := 4) rfl rfl rfl ?_)
        intro c77 mo78 hf79
        refine W.frz (i := 4) rfl rfl rfl ?_
        intro c80 mo81 hf82
        refine W.loopJ (fun m gs D => ∃ (gc62 : List Ob) (gu64 : Unit) (gv65 : Value) (gl66 : (List Int)) (gx67 : Int) (gv68 : Value) (gl69 : (List TLock)) (gu71 : Unit) (gv72 : Value) (gl73 : (List TLock)) (gu75 : Unit), gs = [(6, gv10), (7, gv65), (8, .func (.func 40) #[] #[pt b1 0]), (10, pt b11 0), (12, u0), (13, .int .i64 (a0.length : Int)), (14, .int .i64 gx17)] ∧ D = Cls w [] [.obj b11 [.int .i64 gx67, gv68, gv72] 50, .obj b1 [.int .i64 a1] 3, .sl gv10 50 3 (zr TLockItem.rowv gq12 gl11), .sl gv65 3 1 (gl66.map I), .os gc62] ∧ FzA K gc62 (zs TLockItem.sds gq12 gl11) ∧ Fz K gc62 gv68 2 (gl69.map TLock.row) ∧ Fz K gc62 gv72 2 (gl73.map TLock.row) ∧ m12_quirref_DropLocks_L2 gl11 gx17 go1 m gl66 gx67 gl69 gl73 = some r) ⟨c80, (), gv15, gl16, x10.Item, gv40, gl41, (), gv44, gl45, (), rfl, rfl, ((hG42.mo mo78).mo mo81), ((hf79 K).mo mo81), (hf82 K), h⟩ ⟨rfl, rfl, rfl, rfl, rfl, rfl, rfl, trivial⟩ (fun _ hw => hw) ?_
        rintro m _ _ ⟨gc62, gu64, gv65, gl66, gx67, gv68, gl69, gu71, gv72, gl73, gu75, rfl, rfl, hG63, hG70, hG74, h⟩
        rcases m with _ | m
        · rw [m12_quirref_DropLocks_L2] at h; cases h
        rw [m12_quirref_DropLocks_L2] at h
        generalize hg2 : m12_quirref_DropLocks_L2 gl11 gx17 go1 m = go2 at h
        rw [m12_quirref_DropLocks_L2B] at h
        refine W.seqJ (fun gs D => ∃ (gu77 : Unit), gs = [(6, gv10), (7, gv65), (8, .func (.func 40) #[] #[pt b1 0]), (10, pt b11 0), (12, u0), (13, .int .i64 (a0.length : Int)), (14, .int .i64 gx17)] ∧ D = Cls w [] [.obj b11 [.int .i64 gx67, gv68, gv72] 50, .obj b1 [.int .i64 a1] 3, .sl gv10 50 3 (zr TLockItem.rowv gq12 gl11), .sl gv65 3 1 (gl66.map I), .os gc62] ∧ FzA K gc62 (zs TLockItem.sds gq12 gl11) ∧ m12_quirref_DropLocks_K6 gl73 gl66 gx67 gl69 go2 = some r) ?_ ?_
        ·
         refine W.seq (W.quietC mixed (by kernel_rfl) (fun _ hw => hw.drew) (fun hC => ?_))
         refine U.y rfl (Y.fieldP fd50_2 rfl) ?_
         refine U.y rfl (Y.loadP (i := 0) ag48 rfl rfl rfl) ?_
         refine U.y rfl (Y.lenM (g := TLock.row) (l := gl73) Try.underlying48 rfl (fun w' hw => (hG74.clsF hK hw rfl))) ?_
         refine U.ite h rfl (Y.gtr rfl rfl) (fun c73 h => ?_) (fun c73 h => ?_)
         ·
          refine U.y rfl (Y.move rfl) ?_
          refine U.take rfl (U.y rfl (Y.loadPW (i := 0) ag50 sz50 rfl rfl rfl) ?_)
          refine U.take rfl (U.y rfl (Y.fieldP fd50_2 rfl) ?_)
          refine U.take rfl (U.y rfl (Y.loadP (i := 0) ag48 rfl rfl rfl) ?_)
          refine U.take rfl (U.m (V := fun _ => el gv72 ((0 : Int).toNat * 2)) h rfl (Y.indexM (g := TLock.row) (l := gl73) Try.underlying48 sz55 rfl rfl (fun w' hw => (hG74.clsF hK hw rfl))) (fun x74 ex74 h => ?_))
          refine U.take rfl (U.y rfl (Y.loadEN (r := [.int .i64 x74.Tx, .int .i64 x74.Mode]) ag55 sz55 rfl (fun w' hw => (hG74.clsF hK hw rfl)) (idx_map ex74) rfl) ?_)
          refine U.take rfl ?_
          obtain ⟨b75, e76, h⟩ := bind1S h
          refine U.y rfl (Y.does en41 rfl (fun w' hw => (w41_quirref_can (⟨gx67, gl69, gl73⟩ : TLockItem) x74 gv68 gv72 w' _ e76 (hG70.clsF hK hw rfl) (hG74.clsF hK hw rfl)).mono (fun _ _ h => h.1))) ?_
          rcases b75 with _ | _
          ·
           replace h := iteF h
           refine U.y rfl (Y.pickT rfl rfl) ?_
           refine U.nil (E.thenN (W.condF rfl ?_))
           exact W.exit (E.KSX (E.KLX (E.blockX (E.joinJ ⟨gc62, (), gv65, gl66, gx67, gv68, gl69, (), gv72, gl73, (), rfl, rfl, hG63, hG70, hG74, h⟩ ⟨rfl, rfl, rfl, rfl, rfl, rfl, rfl, trivial⟩ (fun _ hw => hw)))))
          ·
           replace h := iteT h
           refine U.y rfl (Y.pickT rfl rfl) ?_
           refine U.nil (E.thenN (W.condT rfl ?_))
           exact W.skip (E.joinJ ⟨(), rfl, rfl, hG63, h⟩ ⟨rfl, rfl, rfl, rfl, rfl, rfl, rfl, trivial⟩ (fun _ hw => hw))
         ·
          refine U.y rfl (Y.move rfl) ?_
          refine U.pass rfl rfl (by nofun) ?_
          refine U.pass rfl rfl (by nofun) ?_
          refine U.pass rfl rfl (by nofun) ?_
          refine U.pass rfl rfl (by nofun) ?_
          refine U.pass rfl rfl (by nofun) ?_
          refine U.pass rfl rfl (by nofun) ?_
          refine U.y rfl (Y.pickF rfl rfl) ?_
          refine U.nil (E.thenN (W.condF rfl ?_))
          exact W.exit (E.KSX (E.KLX (E.blockX (E.joinJ ⟨gc62, (), gv65, gl66, gx67, gv68, gl69, (), gv72, gl73, (), rfl, rfl, hG63, hG70, hG74, h⟩ ⟨rfl, rfl, rfl, rfl, rfl, rfl, rfl, trivial⟩ (fun _ hw => hw)))))
        ·
         rintro _ _ ⟨gu77, rfl, rfl, hG76, h⟩
         rw [m12_quirref_DropLocks_K6] at h
         refine W.block (W.seq (W.region (L.y rfl (Y.move rfl) ?_)))
         refine L.y rfl (Y.fieldP fd50_2 rfl) ?_
         refine L.y rfl (Y.loadP (i := 0) ag48 rfl rfl rfl) ?_
         refine L.m (V := fun _ => el gv72 ((0 : Int).toNat * 2)) h rfl (Y.indexM (g := TLock.row) (l := gl73) Try.underlying48 sz55 rfl rfl (fun w' hw => (hG74.clsF hK hw rfl))) (fun x20 ex20 h => ?_)
         refine L.y rfl (Y.fieldE fd55_0 rfl) ?_
         refine L.y rfl (Y.loadE (u := .int .i64 x20.Tx) ag3 rfl (fun w' hw => (hG74.clsF hK hw rfl)) (idx_map ex20) rfl) ?_
         refine L.litOne rfl Try.underlying28 eL3 rfl rfl ?_
         intro b21
         refine L.appM (i := 4) (g := I) (l := gl66) (more := [x20.Tx]) h rfl Try.underlying28 eL3 rfl rfl rfl (fun w hw => As.at_ (hw.get (i := 0) rfl)) (plain_ints _) rfl ?_
         intro v22 l23 el23 h
         refine L.y rfl (Y.assign rfl) ?_
         refine L.nil (E.thenN (W.seq (W.drawn2 (k := 7) (stC [[5]] [Cls w [] [.sl v22 3 1 (l23.map I), .sl (sv b21 1) 3 1 (([x20.Tx]).map I), .obj b11 [.int .i64 gx67, gv68, gv72] 50, .obj b1 [.int .i64 a1] 3, .sl gv10 50 3 (zr TLockItem.rowv gq12 gl11), .os gc62]] (Cls w [] [.sl v22 3 1 (l23.map I), .sl (sv b21 1) 3 1 (([x20.Tx]).map I), .obj b1 [.int .i64 a1] 3])) rfl mixed (fun _ hw => hw.drew) (Sc.now (by kernel_rfl) (fun _ hw => hw)) ?_)))
         refine V2.y (i := 0) (Nx2.of (Z := Cls w [] [.sl v22 3 1 (l23.map I), .sl (sv b21 1) 3 1 (([x20.Tx]).map I), .obj b11 [.int .i64 gx67, gv68, gv72] 50, .obj b1 [.int .i64 a1] 3, .sl gv10 50 3 (zr TLockItem.rowv gq12 gl11), .os gc62]) [5] (by kernel_rfl) rfl (Zc.at1 (fun _ hw => hw))) rfl rfl rfl (Y.loadPW (i := 2) ag50 sz50 rfl rfl rfl) ?_
         refine V2.y (i := 1) (Nx2.of (Z := Cls w [] [.sl v22 3 1 (l23.map I), .sl (sv b21 1) 3 1 (([x20.Tx]).map I), .obj b1 [.int .i64 a1] 3]) [] (by kernel_rfl) rfl (Zc.on (fun _ hw => hw.sel [0, 1, 3] (by decide) rfl) (Zc.fin (fun _ hw => hw)))) rfl rfl rfl (Y.fieldP fd50_2 rfl) ?_
         refine V2.eff (i := 2) (by kernel_rfl) rfl ?_
         refine L.y rfl (Y.loadP (i := 2) ag48 rfl rfl rfl) ?_
         refine L.nil (E.toV2 (stC [[5]] [Cls w [] [.sl v22 3 1 (l23.map I), .sl (sv b21 1) 3 1 (([x20.Tx]).map I), .obj b11 [.int .i64 gx67, gv68, gv72] 50, .obj b1 [.int .i64 a1] 3, .sl gv10 50 3 (zr TLockItem.rowv gq12 gl11), .os gc62]] (Cls w [] [.sl v22 3 1 (l23.map I), .sl (sv b21 1) 3 1 (([x20.Tx]).map I), .obj b1 [.int .i64 a1] 3])) 2 (by kernel_rfl) (Sc.stay (fun _ hw => hw) (Sc.stayD (fun _ hw => hw))) (Sc.now (by kernel_rfl) (fun _ hw => hw)) ?_)
         refine V2.eff (i := 3) (by kernel_rfl) rfl ?_
         refine L.m (V := fun _ => el gv72 ((0 : Int).toNat * 2)) h rfl (Y.indexM (g := TLock.row) (l := gl73) Try.underlying48 sz55 rfl rfl (fun w' hw => (hG74.clsF hK hw rfl))) (fun x60 ex60 h => ?_)
         refine L.nil (E.toV2 (stC [[5]] [Cls w [] [.sl v22 3 1 (l23.map I), .sl (sv b21 1) 3 1 (([x20.Tx]).map I), .obj b11 [.int .i64 gx67, gv68, gv72] 50, .obj b1 [.int .i64 a1] 3, .sl gv10 50 3 (zr TLockItem.rowv gq12 gl11), .os gc62]] (Cls w [] [.sl v22 3 1 (l23.map I), .sl (sv b21 1) 3 1 (([x20.Tx]).map I), .obj b1 [.int .i64 a1] 3])) 3 (by kernel_rfl) (Sc.stay (fun _ hw => hw) (Sc.stayD (fun _ hw => hw))) (Sc.now (by kernel_rfl) (fun _ hw => hw)) ?_)
         refine V2.y (i := 4) (Nx2.of (Z := Cls w [] [.sl v22 3 1 (l23.map I), .sl (sv b21 1) 3 1 (([x20.Tx]).map I), .obj b11 [.int .i64 gx67, gv68, gv72] 50, .obj b1 [.int .i64 a1] 3, .sl gv10 50 3 (zr TLockItem.rowv gq12 gl11), .os gc62]) [5] (by kernel_rfl) rfl (Zc.at1 (fun _ hw => hw))) rfl rfl rfl (Y.loadEN (r := [.int .i64 x60.Tx, .int .i64 x60.Mode]) ag55 sz55 rfl (fun w' hw => (hG74.clsF hK hw rfl)) (idx_map ex60) rfl) ?_
         refine V2.eff (i := 5) (by kernel_rfl) rfl ?_
         obtain ⟨x61, e66, h⟩ := bind1S h
         refine L.doesF rfl en42 rfl rfl hK (fun w' hw hs => w42_quirref_given (⟨gx67, gl69, gl73⟩ : TLockItem) x60 gv68 gv72 _ w' hs _ e66 hG70.tok hG74.tok) ?_
         rintro _ c67 c68 mo69 mn70 ma71 ⟨v62, v64, rfl, f63, f65⟩
         refine L.nil (E.toV2 (stC [] [] (Cls w [] [.sl v22 3 1 (l23.map I), .sl (sv b21 1) 3 1 (([x20.Tx]).map I), .obj b1 [.int .i64 a1] 3])) 5 (by kernel_rfl) (Sc.past rfl (Sc.stayD (fun _ hw => hw))) (Sc.atD (fun _ hw => hw.sel [0, 1, 3] (by decide) rfl)) ?_)
         refine V2.eff (i := 6) (by kernel_rfl) rfl ?_
         refine L.storeC (i := 2) sz50 rfl rfl rfl rfl (fun w hw => (all1 rfl (all1 ((mn70 f63).clsF hK hw rfl).one (all1 ((mn70 f65).clsF hK hw rfl).one all0)))) rfl (Nat.le_of_ble_eq_true rfl) ?_
         refine L.nil (E.toV2 (stC [] [] (Cls w [] [.sl v22 3 1 (l23.map I), .sl (sv b21 1) 3 1 (([x20.Tx]).map I), .obj b1 [.int .i64 a1] 3])) 6 (by kernel_rfl) (Sc.stayD (fun _ hw => hw)) (Sc.atD (fun _ hw => hw.sel [0, 1, 3] (by decide) rfl)) ?_)
         refine V2.done (by kernel_rfl) ?_
         refine E.thenN (W.region (L.y rfl (Y.fieldP fd50_2 rfl) ?_))
         refine L.y rfl (Y.loadP (i := 2) ag48 rfl rfl rfl) ?_
         refine L.m (V := fun _ => dropv v64 (1 : Int).toNat 2) h rfl (Y.dropM (g := TLock.row) Try.underlying48 sz55 rfl rfl (fun w' hw => ((mn70 f65).clsF hK hw rfl))) (fun l72 el72 h => ?_)
         refine L.y rfl (Y.fieldP fd50_2 rfl) ?_
         refine L.storeV (i := 2) sz48 rfl rfl (fun _ hw => (((mn70 f65).dropM el72).clsF hK hw rfl).one) rfl (Nat.le_of_ble_eq_true rfl) ?_
         exact L.nil (E.blockN (E.againJ ⟨c68, (), v22, l23, x61.Item, v62, x61.Held, (), dropv v64 (1 : Int).toNat 2, l72, (), rfl, rfl, (hG76.mo mo69), (mn70 f63), ((mn70 f65).dropM el72), by rw [hg2]; exact h⟩ (Nat.lt_succ_self _) ⟨rfl, rfl, rfl, rfl, rfl, rfl, rfl, trivial⟩ (fun _ hw => hw.sel [2, 3, 4, 0, 5] (by decide) rfl)))
       ·
        rintro _ _ ⟨gc46, gu48, gv49, gl50, gx51, gv52, gl53, gu55, gv56, gl57, gu59, rfl, rfl, hG47, hG54, hG58, h⟩
        rw [m12_quirref_DropLocks_K5] at h
        refine W.seq (W.region (L.y rfl (Y.fieldP fd50_1 rfl) ?_))
        refine L.y rfl (Y.loadP (i := 0) ag48 rfl rfl rfl) ?_
        refine L.y rfl (Y.lenM (g := TLock.row) (l := gl53) Try.underlying48 rfl (fun w' hw => (hG54.clsF hK hw rfl))) ?_
        refine L.ite h rfl (Y.gtr rfl rfl) (fun c12 h => ?_) (fun c12 h => ?_)
        ·
         refine L.nil (E.thenN (W.condT rfl ?_))
         refine W.region (L.y rfl (Y.move rfl) ?_)
         refine L.y rfl (Y.loadPW (i := 0) ag50 sz50 rfl rfl rfl) ?_
         refine L.litAgg rfl Try.underlying23 eL50 rfl rfl rfl ?_
         intro b14
         have hz15 : FzA K gc46 (zs TLockItem.sds (fun _ => [gv52, gv56]) [(⟨gx51, gl53, gl57⟩ : TLockItem)]) := FzA.app (FzA.cons hG54 (FzA.cons hG58 FzA.nil)) FzA.nil
         refine L.to (D := Cls w [] [.sl (sv b14 1) 50 3 (zr TLockItem.rowv (fun _ => [gv52, gv56]) ([(⟨gx51, gl53, gl57⟩ : TLockItem)])), .obj b11 [.int .i64 gx51, gv52, gv56] 50, .obj b1 [.int .i64 a1] 3, .sl gv10 50 3 (zr TLockItem.rowv gq12 gl11), .sl gv49 3 1 (gl50.map I), .os gc46]) (fun _ hw => hw) ?_
         refine L.appHz (i := 3) (row := TLockItem.rowv) (sds := TLockItem.sds) (vs := gq12) (vs2 := (fun _ => [gv52, gv56])) (l := gl11) (l2 := [(⟨gx51, gl53, gl57⟩ : TLockItem)]) h rfl Try.underlying23 eL50 rfl rfl rfl rfl (fun w hw => As.at_ (hw.get (i := 0) rfl)) plz_TLockItem hK rfl hG47 hz15 ?_
         intro v17 q18 l16 el16 h hz19
         refine L.y rfl (Y.assign rfl) ?_
         exact L.nil (E.blockN (E.joinJ ⟨gc46, v17, l16, q18, (), gv49, gl50, rfl, rfl, hz19, h⟩ ⟨rfl, rfl, rfl, rfl, rfl, rfl, trivial⟩ (fun _ hw => hw.sel [3, 0, 4, 5] (by decide) rfl)))
        ·
         refine L.nil (E.thenN (W.condF rfl ?_))
         exact W.skip (E.blockN (E.joinJ ⟨gc46, gv10, gl11, gq12, (), gv49, gl50, rfl, rfl, hG47, h⟩ ⟨rfl, rfl, rfl, rfl, rfl, rfl, trivial⟩ (fun _ hw => hw.sel [1, 2, 3, 4] (by decide) rfl)))
    ·
     rintro _ _ ⟨gc18, gv19, gl20, gq21, gu23, gv24, gl25, rfl, rfl, hG22, h⟩
     rw [m12_quirref_DropLocks_K2] at h
     refine W.region (L.m (V := fun x9 => .int .i64 x9) h rfl (Y.addM rfl rfl) (fun x9 ex9 h => ?_))
     refine L.y rfl (Y.move rfl) ?_
     exact L.nil (E.againJ ⟨gc18, gv19, gl20, gq21, (), gv24, gl25, x9, rfl, rfl, hG22, by rw [hg1]; exact h⟩ (Nat.lt_succ_self _) ⟨rfl, rfl, rfl, rfl, rfl, rfl, trivial⟩ (fun _ hw => hw))
   ·
    refine L.nil (E.thenN (W.seq (W.condF rfl ?_)))
    exact W.exit (E.thenX (E.KLX (E.blockX (E.joinJ ⟨gc9, gv10, gl11, gq12, (), gv15, gl16, rfl, rfl, hG13, h⟩ ⟨rfl, rfl, trivial⟩ (fun _ hw => hw.sel [1, 2, 3] (by decide) rfl)))))
  ·
   rintro _ _ ⟨gc1, gv2, gl3, gq4, gu6, gv7, gl8, rfl, rfl, hG5, h⟩
   rw [m12_quirref_DropLocks_K1] at h
   refine W.seq (W.region (L.y rfl (Y.move rfl) ?_))
   refine L.y rfl (Y.move rfl) ?_
   refine L.y rfl (Y.assign rfl) ?_
   refine L.y rfl (Y.assign rfl) ?_
   refine L.nil (E.thenN (W.ret (E.frz (i := 0) rfl rfl rfl ?_)))
   intro c2 mo3 hf4
   refine E.frz (i := 0) rfl rfl rfl ?_
   intro c5 mo6 hf7
   refine E.ret2 rfl rfl rfl (fun w1 hw => ?_)
   obtain rfl := Option.some.inj h
   exact ⟨_, _, rfl, ⟨c5, rfl, gv2, gq4, gv7, rfl, ((hf4 K).mo mo6), ((hG5.mo mo3).mo mo6), (hf7 K)⟩, hw⟩
set_option maxRecDepth 100000 in
set_option maxHeartbeats 8000000 in
theorem w45_api_Lock (a0 : (List TLock)) (a1 : (List TLock)) (u0 : Value) (u1 : Value) (w : World) (r : Bool) (h : m45_api_Lock a0 a1 = some r) (hA0 : At w u0 2 (a0.map TLock.row)) (hA1 : At w u1 2 (a1.map TLock.row)) : Does Try.prog 45 [u0, u1] w fun u m => u = .bool r ∧ m = [] := by
  rw [m45_api_Lock] at h
  refine body (n := 26) Try.func45 rfl rfl rfl (Cls.refl w) ?_
  refine W.seq (W.region (L.y rfl (Y.assign rfl) ?_))
  refine L.nil (E.thenN (W.seqJ (fun gs D => gs = [(0, u0), (1, u1)] ∧ D = Cls w [] [] ∧ m45_api_Lock_K1 a0 a1 = some r) ?_ ?_))
  ·
   refine W.seq (W.region (L.y rfl (Y.move rfl) ?_))
   refine L.y rfl (Y.lenM (g := TLock.row) (l := a0) Try.underlying48 rfl (fun w' hw => hA0.cls0 hw)) ?_
   refine L.y rfl (Y.move rfl) ?_
   refine L.y rfl (Y.lenM (g := TLock.row) (l := a1) Try.underlying48 rfl (fun w' hw => hA1.cls0 hw)) ?_
   refine L.ite h rfl (Y.neq rfl rfl) (fun c6 h => ?_) (fun c6 h => ?_)
   ·
    refine L.nil (E.thenN (W.condT rfl ?_))
    refine W.seq (W.region (L.y rfl (Y.assign rfl) ?_))
    refine L.nil (E.thenN (W.ret (E.KSR (E.ret1 rfl rfl (fun w1 hw => ?_)))))
    obtain rfl := Option.some.inj h
    exact ⟨_, _, rfl, ⟨rfl, rfl⟩, hw⟩
   ·
    refine L.nil (E.thenN (W.condF rfl ?_))
    exact W.skip (E.joinJ ⟨rfl, rfl, h⟩ ⟨rfl, rfl, trivial⟩ (fun _ hw => hw))
  ·
   rintro _ _ ⟨rfl, rfl, h⟩
   rw [m45_api_Lock_K1] at h
   refine W.seqJ (fun gs D => gs = [] ∧ D = Cls w [] [] ∧ m45_api_Lock_K2 = some r) ?_ ?_
   ·
    refine W.seq (W.region (L.y rfl (Y.move rfl) ?_))
    refine L.y rfl (Y.lenM (g := TLock.row) (l := a0) Try.underlying48 rfl (fun w' hw => hA0.cls0 hw)) ?_
    refine L.y rfl (Y.move rfl) ?_
    refine L.nil (E.thenN (W.block (W.loopJ (fun m gs D => ∃ (gx1 : Int), gs = [(0, u0), (1, u1), (12, .int .i64 (a0.length : Int)), (13, .int .i64 gx1)] ∧ D = Cls w [] [] ∧ m45_api_Lock_L1 a0 a1 m gx1 = some r) ⟨0, rfl, rfl, h⟩ ⟨rfl, rfl, rfl, rfl, trivial⟩ (fun _ hw => hw) ?_)))
    rintro m _ _ ⟨gx1, rfl, rfl, h⟩
    rcases m with _ | m
    · rw [m45_api_Lock_L1] at h; cases h
    rw [m45_api_Lock_L1] at h
    generalize hg1 : m45_api_Lock_L1 a0 a1 m = go1 at h
    rw [m45_api_Lock_L1B] at h
    refine W.seq (W.region (L.ite h rfl (Y.lss rfl rfl) (fun c1 h => ?_) (fun c1 h => ?_)))
    ·
     refine L.nil (E.thenN (W.seq (W.condT rfl ?_)))
     refine W.skip (E.thenN (W.seq (W.block (W.seq (W.region (L.y rfl (Y.move rfl) ?_))))))
     refine L.y rfl (Y.assign rfl) ?_
     refine L.nil (E.thenN (W.seq (W.quietC mixed (by kernel_rfl) (fun _ hw => hw.drew) (fun hC => ?_))))
     refine U.y rfl (Y.move rfl) ?_
     refine U.y rfl (Y.move rfl) ?_
     refine U.m (V := fun _ => el u0 (gx1.toNat * 2)) h rfl (Y.indexM (g := TLock.row) (l := a0) Try.underlying48 sz55 rfl rfl (fun w' hw => hA0.cls0 hw)) (fun x2 ex2 h => ?_)
     refine U.y rfl (Y.loadEN (r := [.int .i64 x2.Tx, .int .i64 x2.Mode]) ag55 sz55 rfl (fun w' hw => hA0.cls0 hw) (idx_map ex2) rfl) ?_
     refine U.y rfl (Y.move rfl) ?_
     refine U.y rfl (Y.move rfl) ?_
     refine U.m (V := fun _ => el u1 (gx1.toNat * 2)) h rfl (Y.indexM (g := TLock.row) (l := a1) Try.underlying48 sz55 rfl rfl (fun w' hw => hA1.cls0 hw)) (fun x3 ex3 h => ?_)
     refine U.y rfl (Y.loadEN (r := [.int .i64 x3.Tx, .int .i64 x3.Mode]) ag55 sz55 rfl (fun w' hw => hA1.cls0 hw) (idx_map ex3) rfl) ?_
     refine U.ite h rfl (Y.neqA (row := TLock.row) (a := x2) (b := x3) eg55 ag55 (sh55 _) (sh55 _) (inj55 _ _) rfl rfl) (fun c4 h => ?_) (fun c4 h => ?_)
     ·
      refine U.nil (E.thenN (W.condT rfl ?_))
      refine W.seq (W.region (L.y rfl (Y.assign rfl) ?_))
      refine L.nil (E.thenN (W.ret (E.blockR (E.thenR (E.KLR (E.blockR (E.KSR (E.ret1 rfl rfl (fun w1 hw => ?_)))))))))
      obtain rfl := Option.some.inj h
      exact ⟨_, _, rfl, ⟨rfl, rfl⟩, hw⟩
     ·
      refine U.nil (E.thenN (W.condF rfl ?_))
      refine W.skip (E.blockN (E.thenN (W.region (L.m (V := fun x5 => .int .i64 x5) h rfl (Y.addM rfl rfl) (fun x5 ex5 h => ?_)))))
      refine L.y rfl (Y.move rfl) ?_
      exact L.nil (E.againJ ⟨x5, rfl, rfl, by rw [hg1]; exact h⟩ (Nat.lt_succ_self _) ⟨rfl, rfl, rfl, rfl, trivial⟩ (fun _ hw => hw))
    ·
     refine L.nil (E.thenN (W.seq (W.condF rfl ?_)))
     exact W.exit (E.thenX (E.KLX (E.blockX (E.joinJ ⟨rfl, rfl, h⟩ trivial (fun _ hw => hw)))))
   ·
    rintro _ _ ⟨rfl, rfl, h⟩
    rw [m45_api_Lock_K2] at h
    refine W.seq (W.region (L.y rfl (Y.assign rfl) ?_))
    refine L.nil (E.thenN (W.ret (E.ret1 rfl rfl (fun w1 hw => ?_))))
    obtain rfl := Option.some.inj h
    exact ⟨_, _, rfl, ⟨rfl, rfl⟩, hw⟩
set_option maxRecDepth 100000 in
set_option maxHeartbeats 8000000 in
theorem w44_quirref_SameLocks_1 (a0 : TLockItem) (a1 : TLockItem) (u0_0 : Value) (u0_1 : Value) (u1_2 : Value) (u1_3 : Value) (w : World) (r : Bool) (h : m44_quirref_SameLocks_1 a0 a1 = some r) (hA0_0 : At w u0_0 2 (a0.Held.map TLock.row)) (hA0_1 : At w u0_1 2 (a0.Queue.map TLock.row)) (hA1_2 : At w u1_2 2 (a1.Held.map TLock.row)) (hA1_3 : At w u1_3 2 (a1.Queue.map TLock.row)) : Does Try.prog 44 [.agg #[.int .i64 a0.Item, u0_0, u0_1], .agg #[.int .i64 a1.Item, u1_2, u1_3]] w fun u m => u = .bool r ∧ m = [] := by
  rw [m44_quirref_SameLocks_1] at h
  refine body (n := 24) Try.func44 rfl rfl rfl (Cls.refl w) ?_
  refine W.seq (W.region (L.box rfl rfl ?_))
  intro b1
  refine L.box rfl rfl ?_
  intro b2
  refine L.y rfl (Y.assign rfl) ?_
  refine L.nil (E.thenN (W.seq (W.region (L.cutJ 12 (fun gs D => ∃ (gb1 : Bool), gs = [(2, pt b1 0), (3, pt b2 0), (16, .bool gb1)] ∧ D = Cls w [] [.obj b2 [.int .i64 a1.Item, u1_2, u1_3] 50, .obj b1 [.int .i64 a0.Item, u0_0, u0_1] 50] ∧ m44_quirref_SameLocks_1_K1 a0 a1 gb1 = some r) ?_ ?_))))
  ·
   refine L.y rfl (Y.fieldP fd50_0 rfl) ?_
   refine L.y rfl (Y.loadP (i := 1) ag3 rfl rfl rfl) ?_
   refine L.y rfl (Y.fieldP fd50_0 rfl) ?_
   refine L.y rfl (Y.loadP (i := 0) ag3 rfl rfl rfl) ?_
   refine L.ite h rfl (Y.eql rfl rfl) (fun c5 h => ?_) (fun c5 h => ?_)
   ·
    refine L.y rfl (Y.move rfl) ?_
    refine L.take rfl (L.y rfl (Y.fieldP fd50_1 rfl) ?_)
    refine L.take rfl (L.y rfl (Y.loadP (i := 1) ag48 rfl rfl rfl) ?_)
    refine L.take rfl (L.y rfl (Y.fieldP fd50_1 rfl) ?_)
    refine L.take rfl (L.y rfl (Y.loadP (i := 0) ag48 rfl rfl rfl) ?_)
    refine L.take rfl ?_
    obtain ⟨b6, e7, h⟩ := bind1S h
    refine L.y rfl (Y.does en45 rfl (fun w' hw => (w45_api_Lock a0.Held a1.Held u0_0 u1_2 w' _ e7 (hA0_0.cls0 hw) (hA1_2.cls0 hw)).mono (fun _ _ h => h.1))) ?_
    rcases b6 with _ | _
    ·
     replace h := iteF h
     refine L.y rfl (Y.pickT rfl rfl) ?_
     exact L.nil (E.joinJ ⟨false, rfl, rfl, h⟩ ⟨rfl, rfl, rfl, trivial⟩ (fun _ hw => hw))
    ·
     replace h := iteT h
     refine L.y rfl (Y.pickT rfl rfl) ?_
     exact L.nil (E.joinJ ⟨true, rfl, rfl, h⟩ ⟨rfl, rfl, rfl, trivial⟩ (fun _ hw => hw))
   ·
    refine L.y rfl (Y.move rfl) ?_
    refine L.pass rfl rfl (by nofun) ?_
    refine L.pass rfl rfl (by nofun) ?_
    refine L.pass rfl rfl (by nofun) ?_
    refine L.pass rfl rfl (by nofun) ?_
    refine L.pass rfl rfl (by nofun) ?_
    refine L.y rfl (Y.pickF rfl rfl) ?_
    exact L.nil (E.joinJ ⟨false, rfl, rfl, h⟩ ⟨rfl, rfl, rfl, trivial⟩ (fun _ hw => hw))
  ·
   rintro _ _ ⟨gb1, rfl, rfl, h⟩
   rw [m44_quirref_SameLocks_1_K1] at h
   rcases gb1 with _ | _
   ·
    replace h := iteF h
    refine L.y rfl (Y.move rfl) ?_
    refine L.pass rfl rfl (by nofun) ?_
    refine L.pass rfl rfl (by nofun) ?_
    refine L.pass rfl rfl (by nofun) ?_
    refine L.pass rfl rfl (by nofun) ?_
    refine L.pass rfl rfl (by nofun) ?_
    refine L.y rfl (Y.pickF rfl rfl) ?_
    refine L.y rfl (Y.assign rfl) ?_
    refine L.nil (E.thenN (W.ret (E.ret1 rfl rfl (fun w1 hw => ?_))))
    obtain rfl := Option.some.inj h
    exact ⟨_, _, rfl, ⟨rfl, rfl⟩, hw.sel [] (by decide) rfl⟩
   ·
    replace h := iteT h
    refine L.y rfl (Y.move rfl) ?_
    refine L.take rfl (L.y rfl (Y.fieldP fd50_2 rfl) ?_)
    refine L.take rfl (L.y rfl (Y.loadP (i := 1) ag48 rfl rfl rfl) ?_)
    refine L.take rfl (L.y rfl (Y.fieldP fd50_2 rfl) ?_)
    refine L.take rfl (L.y rfl (Y.loadP (i := 0) ag48 rfl rfl rfl) ?_)
    refine L.take rfl ?_
    obtain ⟨b3, e4, h⟩ := bind1S h
    refine L.y rfl (Y.does en45 rfl (fun w' hw => (w45_api_Lock a0.Queue a1.Queue u0_1 u1_3 w' _ e4 (hA0_1.cls0 hw) (hA1_3.cls0 hw)).mono (fun _ _ h => h.1))) ?_
    refine L.y rfl (Y.pickT rfl rfl) ?_
    refine L.y rfl (Y.assign rfl) ?_
    refine L.nil (E.thenN (W.ret (E.ret1 rfl rfl (fun w1 hw => ?_))))
    obtain rfl := Option.some.inj h
    exact ⟨_, _, rfl, ⟨rfl, rfl⟩, hw.sel [] (by decide) rfl⟩
set_option maxRecDepth 100000 in
set_option maxHeartbeats 8000000 in
theorem w13_quirref_SameLocks (a0 : (List TLockItem)) (a1 : (List TLockItem)) (u0 : Value) (q0 : Nat → List Value) (u1 : Value) (q1 : Nat → List Value) (w : World) (r : Bool) (h : m13_quirref_SameLocks a0 a1 = some r) (hA0 : At w u0 3 (zr TLockItem.rowv q0 a0)) (hD0 : ∀ d ∈ zs TLockItem.sds q0 a0, At w d.v d.k d.rows) (hA1 : At w u1 3 (zr TLockItem.rowv q1 a1)) (hD1 : ∀ d ∈ zs TLockItem.sds q1 a1, At w d.v d.k d.rows) : Does Try.prog 13 [u0, u1] w fun u m => u = .bool r ∧ m = [] := by
  rw [m13_quirref_SameLocks] at h
  refine body (n := 8) Try.func13 rfl rfl rfl (Cls.refl w) ?_
  refine W.seq (W.region (L.y rfl (Y.assign rfl) ?_))
  refine L.nil (E.thenN (W.seq (W.region (L.y rfl (Y.move rfl) ?_))))
  refine L.y rfl (Y.move rfl) ?_
  refine L.callJ (fun v D => ∃ (gb1 : Bool), v = .bool gb1 ∧ D = Cls w [] [] ∧ m13_quirref_SameLocks_K1 gb1 = some r) rfl en43 rfl Try.func43 rfl rfl rfl ?_ ?_
  ·
   refine W.seq (W.region (L.y rfl (Y.assign rfl) ?_))
   refine L.nil (E.thenN (W.seqJ (fun gs D => gs = [(0, u0), (1, u1), (2, .func (.func 44) #[] #[])] ∧ D = Cls w [] [] ∧ m13_quirref_SameLocks_K2 a0 a1 = some r) ?_ ?_))
   ·
    refine W.seq (W.region (L.y rfl (Y.move rfl) ?_))
    refine L.y rfl (Y.lenMZ (row := TLockItem.rowv) (vs := q0) (l := a0) Try.underlying23 rfl (fun w' hw => hA0.cls0 hw)) ?_
    refine L.y rfl (Y.move rfl) ?_
    refine L.y rfl (Y.lenMZ (row := TLockItem.rowv) (vs := q1) (l := a1) Try.underlying23 rfl (fun w' hw => hA1.cls0 hw)) ?_
    refine L.ite h rfl (Y.neq rfl rfl) (fun c14 h => ?_) (fun c14 h => ?_)
    ·
     refine L.nil (E.thenN (W.condT rfl ?_))
     refine W.seq (W.region (L.y rfl (Y.assign rfl) ?_))
     refine L.nil (E.thenN (W.ret (E.KSR (E.ret1 rfl rfl (fun w1 hw => ?_)))))
     exact ⟨_, _, rfl, ⟨false, rfl, rfl, h⟩, hw⟩
    ·
     refine L.nil (E.thenN (W.condF rfl ?_))
     exact W.skip (E.joinJ ⟨rfl, rfl, h⟩ ⟨rfl, rfl, rfl, trivial⟩ (fun _ hw => hw))
   ·
    rintro _ _ ⟨rfl, rfl, h⟩
    rw [m13_quirref_SameLocks_K2] at h
    refine W.seqJ (fun gs D => gs = [] ∧ D = Cls w [] [] ∧ m13_quirref_SameLocks_K3 = some r) ?_ ?_
    ·
     refine W.seq (W.region (L.y rfl (Y.move rfl) ?_))
     refine L.y rfl (Y.lenMZ (row := TLockItem.rowv) (vs := q0) (l := a0) Try.underlying23 rfl (fun w' hw => hA0.cls0 hw)) ?_
     refine L.y rfl (Y.move rfl) ?_
     refine L.nil (E.thenN (W.block (W.loopJ (fun m gs D => ∃ (gx2 : Int), gs = [(1, u1), (2, .func (.func 44) #[] #[]), (15, u0), (16, .int .i64 (a0.length : Int)), (17, .int .i64 gx2)] ∧ D = Cls w [] [] ∧ m13_quirref_SameLocks_L1 a0 a1 m gx2 = some r) ⟨0, rfl, rfl, h⟩ ⟨rfl, rfl, rfl, rfl, rfl, trivial⟩ (fun _ hw => hw) ?_)))
     rintro m _ _ ⟨gx2, rfl, rfl, h⟩
     rcases m with _ | m
     · rw [m13_quirref_SameLocks_L1] at h; cases h
     rw [m13_quirref_SameLocks_L1] at h
     generalize hg1 : m13_quirref_SameLocks_L1 a0 a1 m = go1 at h
     rw [m13_quirref_SameLocks_L1B] at h
     refine W.seq (W.region (L.ite h rfl (Y.lss rfl rfl) (fun c1 h => ?_) (fun c1 h => ?_)))
     ·
      refine L.nil (E.thenN (W.seq (W.condT rfl ?_)))
      refine W.skip (E.thenN (W.seq (W.block (W.seq (W.region (L.y rfl (Y.move rfl) ?_))))))
      refine L.m (V := fun _ => el u0 (gx2.toNat * 3)) h rfl (Y.indexMZ (row := TLockItem.rowv) (vs := q0) (l := a0) Try.underlying23 sz50 rfl rfl (fun w' hw => hA0.cls0 hw)) (fun x2 ex2 h => ?_)
      refine L.y rfl (Y.loadEN (r := [.int .i64 x2.Item, gv (q0 gx2.toNat) 0, gv (q0 gx2.toNat) 1]) ag50 sz50 rfl (fun w' hw => hA0.cls0 hw) (zr_idx (vs := q0) ex2) rfl) ?_
      refine L.alloc rfl ze50 ?_
      intro b3
      refine L.y rfl (Y.assign rfl) ?_
      refine L.storeC (i := 0) sz50 rfl rfl rfl rfl (fun w hw => (all1 rfl (all1 ((zAt (sds := TLockItem.sds) (vs := q0) (j := 0) (c := 2) hD0 (fun _ _ => rfl) ex2 rfl).cls0 hw).one (all1 ((zAt (sds := TLockItem.sds) (vs := q0) (j := 1) (c := 2) hD0 (fun _ _ => rfl) ex2 rfl).cls0 hw).one all0)))) rfl (Nat.le_of_ble_eq_true rfl) ?_
      refine L.nil (E.thenN (W.seq (W.region (L.y rfl (Y.move rfl) ?_))))
      refine L.y rfl (Y.move rfl) ?_
      refine L.m (V := fun _ => el u1 (gx2.toNat * 3)) h rfl (Y.indexMZ (row := TLockItem.rowv) (vs := q1) (l := a1) Try.underlying23 sz50 rfl rfl (fun w' hw => hA1.cls0 hw)) (fun x4 ex4 h => ?_)
      refine L.y rfl (Y.loadEN (r := [.int .i64 x4.Item, gv (q1 gx2.toNat) 0, gv (q1 gx2.toNat) 1]) ag50 sz50 rfl (fun w' hw => hA1.cls0 hw) (zr_idx (vs := q1) ex4) rfl) ?_
      refine L.alloc rfl ze50 ?_
      intro b5
      refine L.storeC (i := 0) sz50 rfl rfl rfl rfl (fun w hw => (all1 rfl (all1 ((zAt (sds := TLockItem.sds) (vs := q1) (j := 0) (c := 2) hD1 (fun _ _ => rfl) ex4 rfl).cls0 hw).one (all1 ((zAt (sds := TLockItem.sds) (vs := q1) (j := 1) (c := 2) hD1 (fun _ _ => rfl) ex4 rfl).cls0 hw).one all0)))) rfl (Nat.le_of_ble_eq_true rfl) ?_
      refine L.nil (E.thenN (W.seq (W.region (L.y rfl (Y.move rfl) ?_))))
      refine L.y rfl (Y.loadPW (i := 1) ag50 sz50 rfl rfl rfl) ?_
      refine L.y rfl (Y.loadPW (i := 0) ag50 sz50 rfl rfl rfl) ?_
      refine L.callVJ (fun v D => ∃ (gb3 : Bool), v = .bool gb3 ∧ D = Cls w [] [] ∧ m13_quirref_SameLocks_K4 gx2 go1 gb3 = some r) rfl en44 rfl rfl Try.func44 rfl rfl rfl ?_ ?_
      ·
       refine W.seq (W.region (L.box rfl rfl ?_))
       intro b7
       refine L.box rfl rfl ?_
       intro b8
       refine L.y rfl (Y.assign rfl) ?_
       refine L.nil (E.thenN (W.seq (W.region (L.cutJ 12 (fun gs D => ∃ (gb4 : Bool), gs = [(2, pt b7 0), (3, pt b8 0), (16, .bool gb4)] ∧ D = Cls w [] [.obj b8 [.int .i64 x4.Item, gv (q1 gx2.toNat) 0, gv (q1 gx2.toNat) 1] 50, .obj b7 [.int .i64 x2.Item, gv (q0 gx2.toNat) 0, gv (q0 gx2.toNat) 1] 50] ∧ m13_quirref_SameLocks_K5 x2 x4 gx2 go1 gb4 = some r) ?_ ?_))))
       ·
        refine L.y rfl (Y.fieldP fd50_0 rfl) ?_
        refine L.y rfl (Y.loadP (i := 1) ag3 rfl rfl rfl) ?_
        refine L.y rfl (Y.fieldP fd50_0 rfl) ?_
        refine L.y rfl (Y.loadP (i := 0) ag3 rfl rfl rfl) ?_
        refine L.ite h rfl (Y.eql rfl rfl) (fun c11 h => ?_) (fun c11 h => ?_)
        ·
         refine L.y rfl (Y.move rfl) ?_
         refine L.take rfl (L.y rfl (Y.fieldP fd50_1 rfl) ?_)
         refine L.take rfl (L.y rfl (Y.loadP (i := 1) ag48 rfl rfl rfl) ?_)
         refine L.take rfl (L.y rfl (Y.fieldP fd50_1 rfl) ?_)
         refine L.take rfl (L.y rfl (Y.loadP (i := 0) ag48 rfl rfl rfl) ?_)
         refine L.take rfl ?_
         obtain ⟨b12, e13, h⟩ := bind1S h
         refine L.y rfl (Y.does en45 rfl (fun w' hw => (w45_api_Lock x2.Held x4.Held (gv (q0 gx2.toNat) 0) (gv (q1 gx2.toNat) 0) w' _ e13 ((zAt (sds := TLockItem.sds) (vs := q0) (j := 0) (c := 2) hD0 (fun _ _ => rfl) ex2 rfl).cls0 hw) ((zAt (sds := TLockItem.sds) (vs := q1) (j := 0) (c := 2) hD1 (fun _ _ => rfl) ex4 rfl).cls0 hw)).mono (fun _ _ h => h.1))) ?_
         rcases b12 with _ | _
         ·
          replace h := iteF h
          refine L.y rfl (Y.pickT rfl rfl) ?_
          exact L.nil (E.joinJ ⟨false, rfl, rfl, h⟩ ⟨rfl, rfl, rfl, trivial⟩ (fun _ hw => hw.sel [0, 1] (by decide) rfl))
         ·
          replace h := iteT h
          refine L.y rfl (Y.pickT rfl rfl) ?_
          exact L.nil (E.joinJ ⟨true, rfl, rfl, h⟩ ⟨rfl, rfl, rfl, trivial⟩ (fun _ hw => hw.sel [0, 1] (by decide) rfl))
        ·
         refine L.y rfl (Y.move rfl) ?_
         refine L.pass rfl rfl (by nofun) ?_
         refine L.pass rfl rfl (by nofun) ?_
         refine L.pass rfl rfl (by nofun) ?_
         refine L.pass rfl rfl (by nofun) ?_
         refine L.pass rfl rfl (by nofun) ?_
         refine L.y rfl (Y.pickF rfl rfl) ?_
         exact L.nil (E.joinJ ⟨false, rfl, rfl, h⟩ ⟨rfl, rfl, rfl, trivial⟩ (fun _ hw => hw.sel [0, 1] (by decide) rfl))
       ·
        rintro _ _ ⟨gb4, rfl, rfl, h⟩
        rw [m13_quirref_SameLocks_K5] at h
        rcases gb4 with _ | _
        ·
         replace h := iteF h
         refine L.y rfl (Y.move rfl) ?_
         refine L.pass rfl rfl (by nofun) ?_
         refine L.pass rfl rfl (by nofun) ?_
         refine L.pass rfl rfl (by nofun) ?_
         refine L.pass rfl rfl (by nofun) ?_
         refine L.pass rfl rfl (by nofun) ?_
         refine L.y rfl (Y.pickF rfl rfl) ?_
         refine L.y rfl (Y.assign rfl) ?_
         refine L.nil (E.thenN (W.ret (E.ret1 rfl rfl (fun w1 hw => ?_))))
         exact ⟨_, _, rfl, ⟨false, rfl, rfl, h⟩, hw.sel [] (by decide) rfl⟩
        ·
         replace h := iteT h
         refine L.y rfl (Y.move rfl) ?_
         refine L.take rfl (L.y rfl (Y.fieldP fd50_2 rfl) ?_)
         refine L.take rfl (L.y rfl (Y.loadP (i := 1) ag48 rfl rfl rfl) ?_)
         refine L.take rfl (L.y rfl (Y.fieldP fd50_2 rfl) ?_)
         refine L.take rfl (L.y rfl (Y.loadP (i := 0) ag48 rfl rfl rfl) ?_)
         refine L.take rfl ?_
         obtain ⟨b9, e10, h⟩ := bind1S h
         refine L.y rfl (Y.does en45 rfl (fun w' hw => (w45_api_Lock x2.Queue x4.Queue (gv (q0 gx2.toNat) 1) (gv (q1 gx2.toNat) 1) w' _ e10 ((zAt (sds := TLockItem.sds) (vs := q0) (j := 1) (c := 2) hD0 (fun _ _ => rfl) ex2 rfl).cls0 hw) ((zAt (sds := TLockItem.sds) (vs := q1) (j := 1) (c := 2) hD1 (fun _ _ => rfl) ex4 rfl).cls0 hw)).mono (fun _ _ h => h.1))) ?_
         refine L.y rfl (Y.pickT rfl rfl) ?_
         refine L.y rfl (Y.assign rfl) ?_
         refine L.nil (E.thenN (W.ret (E.ret1 rfl rfl (fun w1 hw => ?_))))
         exact ⟨_, _, rfl, ⟨b9, rfl, rfl, h⟩, hw.sel [] (by decide) rfl⟩
      ·
       rintro _ _ ⟨gb3, rfl, rfl, h⟩
       rw [m13_quirref_SameLocks_K4] at h
       rcases gb3 with _ | _
       ·
        replace h := iteF h
        refine L.y rfl (Y.not rfl) ?_
        refine L.nil (E.thenN (W.condT rfl ?_))
        refine W.seq (W.region (L.y rfl (Y.assign rfl) ?_))
        refine L.nil (E.thenN (W.ret (E.blockR (E.thenR (E.KLR (E.blockR (E.KSR (E.ret1 rfl rfl (fun w1 hw => ?_)))))))))
        exact ⟨_, _, rfl, ⟨false, rfl, rfl, h⟩, hw⟩
       ·
        replace h := iteT h
        refine L.y rfl (Y.not rfl) ?_
        refine L.nil (E.thenN (W.condF rfl ?_))
        refine W.skip (E.blockN (E.thenN (W.region (L.m (V := fun x6 => .int .i64 x6) h rfl (Y.addM rfl rfl) (fun x6 ex6 h => ?_)))))
        refine L.y rfl (Y.move rfl) ?_
        exact L.nil (E.againJ ⟨x6, rfl, rfl, by rw [hg1]; exact h⟩ (Nat.lt_succ_self _) ⟨rfl, rfl, rfl, rfl, rfl, trivial⟩ (fun _ hw => hw))
     ·
      refine L.nil (E.thenN (W.seq (W.condF rfl ?_)))
      exact W.exit (E.thenX (E.KLX (E.blockX (E.joinJ ⟨rfl, rfl, h⟩ trivial (fun _ hw => hw)))))
    ·
     rintro _ _ ⟨rfl, rfl, h⟩
     rw [m13_quirref_SameLocks_K3] at h
     refine W.seq (W.region (L.y rfl (Y.assign rfl) ?_))
     refine L.nil (E.thenN (W.ret (E.ret1 rfl rfl (fun w1 hw => ?_))))
     exact ⟨_, _, rfl, ⟨true, rfl, rfl, h⟩, hw⟩
  ·
   rintro _ _ ⟨gb1, rfl, rfl, h⟩
   rw [m13_quirref_SameLocks_K1] at h
   refine L.y rfl (Y.assign rfl) ?_
   refine L.nil (E.thenN (W.ret (E.ret1 rfl rfl (fun w1 hw => ?_))))
   obtain rfl := Option.some.inj h
   exact ⟨_, _, rfl, ⟨rfl, rfl⟩, hw⟩
set_option maxRecDepth 100000 in
set_option maxHeartbeats 8000000 in
theorem w14_slices_Equal_int (a0 : (List Int)) (a1 : (List Int)) (u0 : Value) (u1 : Value) (w : World) (r : Bool) (h : m14_slices_Equal_int a0 a1 = some r) (hA0 : At w u0 1 (a0.map I)) (hA1 : At w u1 1 (a1.map I)) : Does Try.prog 14 [u0, u1] w fun u m => u = .bool r ∧ m = [] := by
  rw [m14_slices_Equal_int] at h
  refine body (n := 26) Try.func14 rfl rfl rfl (Cls.refl w) ?_
  refine W.seq (W.region (L.y rfl (Y.assign rfl) ?_))
  refine L.nil (E.thenN (W.seqJ (fun gs D => gs = [(0, u0), (1, u1)] ∧ D = Cls w [] [] ∧ m14_slices_Equal_int_K1 a0 a1 = some r) ?_ ?_))
  ·
   refine W.seq (W.region (L.y rfl (Y.move rfl) ?_))
   refine L.y rfl (Y.lenM (g := I) (l := a0) Try.underlying28 rfl (fun w' hw => hA0.cls0 hw)) ?_
   refine L.y rfl (Y.move rfl) ?_
   refine L.y rfl (Y.lenM (g := I) (l := a1) Try.underlying28 rfl (fun w' hw => hA1.cls0 hw)) ?_
   refine L.ite h rfl (Y.neq rfl rfl) (fun c6 h => ?_) (fun c6 h => ?_)
   ·
    refine L.nil (E.thenN (W.condT rfl ?_))
    refine W.seq (W.region (L.y rfl (Y.assign rfl) ?_))
    refine L.nil (E.thenN (W.ret (E.KSR (E.ret1 rfl rfl (fun w1 hw => ?_)))))
    obtain rfl := Option.some.inj h
    exact ⟨_, _, rfl, ⟨rfl, rfl⟩, hw⟩
   ·
    refine L.nil (E.thenN (W.condF rfl ?_))
    exact W.skip (E.joinJ ⟨rfl, rfl, h⟩ ⟨rfl, rfl, trivial⟩ (fun _ hw => hw))
  ·
   rintro _ _ ⟨rfl, rfl, h⟩
   rw [m14_slices_Equal_int_K1] at h
   refine W.seqJ (fun gs D => gs = [] ∧ D = Cls w [] [] ∧ m14_slices_Equal_int_K2 = some r) ?_ ?_
   ·
    refine W.seq (W.region (L.y rfl (Y.move rfl) ?_))
    refine L.y rfl (Y.lenM (g := I) (l := a0) Try.underlying28 rfl (fun w' hw => hA0.cls0 hw)) ?_
    refine L.y rfl (Y.move rfl) ?_
    refine L.nil (E.thenN (W.block (W.loopJ (fun m gs D => ∃ (gx1 : Int), gs = [(0, u0), (1, u1), (12, .int .i64 (a0.length : Int)), (13, .int .i64 gx1)] ∧ D = Cls w [] [] ∧ m14_slices_Equal_int_L1 a0 a1 m gx1 = some r) ⟨0, rfl, rfl, h⟩ ⟨rfl, rfl, rfl, rfl, trivial⟩ (fun _ hw => hw) ?_)))
    rintro m _ _ ⟨gx1, rfl, rfl, h⟩
    rcases m with _ | m
    · rw [m14_slices_Equal_int_L1] at h; cases h
    rw [m14_slices_Equal_int_L1] at h
    generalize hg1 : m14_slices_Equal_int_L1 a0 a1 m = go1 at h
    rw [m14_slices_Equal_int_L1B] at h
    refine W.seq (W.region (L.ite h rfl (Y.lss rfl rfl) (fun c1 h => ?_) (fun c1 h => ?_)))
    ·
     refine L.nil (E.thenN (W.seq (W.condT rfl ?_)))
     refine W.skip (E.thenN (W.seq (W.block (W.seq (W.region (L.y rfl (Y.move rfl) ?_))))))
     refine L.y rfl (Y.assign rfl) ?_
     refine L.nil (E.thenN (W.seq (W.quietC mixed (by kernel_rfl) (fun _ hw => hw.drew) (fun hC => ?_))))
     refine U.y rfl (Y.move rfl) ?_
     refine U.y rfl (Y.move rfl) ?_
     refine U.m (V := fun _ => el u0 (gx1.toNat * 1)) h rfl (Y.indexM (g := I) (l := a0) Try.underlying28 sz3 rfl rfl (fun w' hw => hA0.cls0 hw)) (fun x2 ex2 h => ?_)
     refine U.y rfl (Y.loadE1 (u := .int .i64 x2) ag3 rfl (fun w' hw => hA0.cls0 hw) (idx_map ex2)) ?_
     refine U.y rfl (Y.move rfl) ?_
     refine U.y rfl (Y.move rfl) ?_
     refine U.m (V := fun _ => el u1 (gx1.toNat * 1)) h rfl (Y.indexM (g := I) (l := a1) Try.underlying28 sz3 rfl rfl (fun w' hw => hA1.cls0 hw)) (fun x3 ex3 h => ?_)
     refine U.y rfl (Y.loadE1 (u := .int .i64 x3) ag3 rfl (fun w' hw => hA1.cls0 hw) (idx_map ex3)) ?_
     refine U.ite h rfl (Y.neq rfl rfl) (fun c4 h => ?_) (fun c4 h => ?_)
     ·
      refine U.nil (E.thenN (W.condT rfl ?_))
      refine W.seq (W.region (L.y rfl (Y.assign rfl) ?_))
      refine L.nil (E.thenN (W.ret (E.blockR (E.thenR (E.KLR (E.blockR (E.KSR (E.ret1 rfl rfl (fun w1 hw => ?_)))))))))
      obtain rfl := Option.some.inj h
      exact ⟨_, _, rfl, ⟨rfl, rfl⟩, hw⟩
     ·
      refine U.nil (E.thenN (W.condF rfl ?_))
      refine W.skip (E.blockN (E.thenN (W.region (L.m (V := fun x5 => .int .i64 x5) h rfl (Y.addM rfl rfl) (fun x5 ex5 h => ?_)))))
      refine L.y rfl (Y.move rfl) ?_
      exact L.nil (E.againJ ⟨x5, rfl, rfl, by rw [hg1]; exact h⟩ (Nat.lt_succ_self _) ⟨rfl, rfl, rfl, rfl, trivial⟩ (fun _ hw => hw))
    ·
     refine L.nil (E.thenN (W.seq (W.condF rfl ?_)))
     exact W.exit (E.thenX (E.KLX (E.blockX (E.joinJ ⟨rfl, rfl, h⟩ trivial (fun _ hw => hw)))))
   ·
    rintro _ _ ⟨rfl, rfl, h⟩
    rw [m14_slices_Equal_int_K2] at h
    refine W.seq (W.region (L.y rfl (Y.assign rfl) ?_))
    refine L.nil (E.thenN (W.ret (E.ret1 rfl rfl (fun w1 hw => ?_))))
    obtain rfl := Option.some.inj h
    exact ⟨_, _, rfl, ⟨rfl, rfl⟩, hw⟩
set_option maxRecDepth 100000 in
set_option maxHeartbeats 8000000 in
theorem w46_quirref_asked (a0 : TLockItem) (a1 : TLock) (u0_0 : Value) (u0_1 : Value) (K : World → Prop) (w : World) (hK : Stb K w) (r : (TLockItem × Bool)) (h : m46_quirref_asked a0 a1 = some r) (hA0_0 : Fz K [] u0_0 2 (a0.Held.map TLock.row)) (hA0_1 : Fz K [] u0_1 2 (a0.Queue.map TLock.row)) : Does Try.prog 46 [.agg #[.int .i64 a0.Item, u0_0, u0_1], .agg #[.int .i64 a1.Tx, .int .i64 a1.Mode]] w fun u m => ∃ c, m = [.os c] ∧ ∃ v0 v1, u = .tuple #[.agg #[.int .i64 r.1.Item, v0, v1], .bool r.2] ∧ Fz K c v0 2 (r.1.Held.map TLock.row) ∧ Fz K c v1 2 (r.1.Queue.map TLock.row) := by
  rw [m46_quirref_asked] at h
  refine body (n := 61) Try.func46 rfl rfl rfl (Cls.reflF w) ?_
  refine W.seq (W.region (L.box rfl rfl ?_))
  intro b1
  refine L.box rfl rfl ?_
  intro b2
  refine L.alloc rfl ze50 ?_
  intro b3
  refine L.y rfl (Y.assign rfl) ?_
  refine L.nil (E.thenN (W.seqJ (fun gs D => ∃ (gb1 : Bool), gs = [(2, pt b1 0), (3, pt b2 0), (4, pt b3 0), (6, .bool gb1)] ∧ D = Cls w [] [.obj b3 [.int .i64 0, .slice none 0 0, .slice none 0 0] 50, .obj b2 [.int .i64 a1.Tx, .int .i64 a1.Mode] 55, .obj b1 [.int .i64 a0.Item, u0_0, u0_1] 50, .os []] ∧ m46_quirref_asked_K1 a0 a1 gb1 = some r) ?_ ?_))
  ·
   refine W.region (L.y rfl (Y.fieldP fd50_1 rfl) ?_)
   refine L.y rfl (Y.loadP (i := 2) ag48 rfl rfl rfl) ?_
   refine L.y rfl (Y.fieldP fd55_0 rfl) ?_
   refine L.y rfl (Y.loadP (i := 1) ag3 rfl rfl rfl) ?_
   obtain ⟨x91, e92, h⟩ := bind1S h
   refine L.y rfl (Y.does en37 rfl (fun w' hw => (w37_quirref_holds a0.Held a1.Tx u0_0 w' _ e92 (hA0_0.up.clsF hK hw rfl)).mono (fun _ _ h => h.1))) ?_
   refine L.ite h rfl (Y.gtr rfl rfl) (fun c93 h => ?_) (fun c93 h => ?_)
   ·
    refine L.y rfl (Y.assign rfl) ?_
    exact L.nil (E.joinJ ⟨true, rfl, rfl, h⟩ ⟨rfl, rfl, rfl, rfl, trivial⟩ (fun _ hw => hw))
   ·
    refine L.y rfl (Y.assign rfl) ?_
    exact L.nil (E.joinJ ⟨false, rfl, rfl, h⟩ ⟨rfl, rfl, rfl, rfl, trivial⟩ (fun _ hw => hw))
  ·
   rintro _ _ ⟨gb1, rfl, rfl, h⟩
   rw [m46_quirref_asked_K1] at h
   rcases gb1 with _ | _
   ·
    replace h := iteF h
    refine W.seqJ (fun gs D => gs = [(2, pt b1 0), (3, pt b2 0), (4, pt b3 0), (6, .bool false)] ∧ D = Cls w [] [.obj b3 [.int .i64 0, .slice none 0 0, .slice none 0 0] 50, .obj b2 [.int .i64 a1.Tx, .int .i64 a1.Mode] 55, .obj b1 [.int .i64 a0.Item, u0_0, u0_1] 50, .os []] ∧ m46_quirref_asked_K2 a0 a1 = some r) ?_ ?_
    ·
     refine W.seq (W.region (L.y rfl (Y.loadPW (i := 2) ag50 sz50 rfl rfl rfl) ?_))
     refine L.y rfl (Y.loadPW (i := 1) ag55 sz55 rfl rfl rfl) ?_
     obtain ⟨b31, e32, h⟩ := bind1S h
     refine L.y rfl (Y.does en41 rfl (fun w' hw => (w41_quirref_can a0 a1 u0_0 u0_1 w' _ e32 (hA0_0.up.clsF hK hw rfl) (hA0_1.up.clsF hK hw rfl)).mono (fun _ _ h => h.1))) ?_
     rcases b31 with _ | _
     ·
      replace h := iteF h
      refine L.y rfl (Y.move rfl) ?_
      refine L.pass rfl rfl (by nofun) ?_
      refine L.pass rfl rfl (by nofun) ?_
      refine L.pass rfl rfl (by nofun) ?_
      refine L.pass rfl rfl (by nofun) ?_
      refine L.pass rfl rfl (by nofun) ?_
      refine L.pass rfl rfl (by nofun) ?_
      refine L.pass rfl rfl (by nofun) ?_
      refine L.y rfl (Y.pickF rfl rfl) ?_
      refine L.nil (E.thenN (W.condF rfl ?_))
      exact W.skip (E.joinJ ⟨rfl, rfl, h⟩ ⟨rfl, rfl, rfl, rfl, trivial⟩ (fun _ hw => hw))
     ·
      replace h := iteT h
      refine L.y rfl (Y.move rfl) ?_
      refine L.take rfl (L.y rfl (Y.move rfl) ?_)
      refine L.take rfl (L.y rfl (Y.move rfl) ?_)
      refine L.take rfl (L.y rfl (Y.fieldP fd50_2 rfl) ?_)
      refine L.take rfl (L.y rfl (Y.loadP (i := 2) ag48 rfl rfl rfl) ?_)
      refine L.take rfl (L.y rfl (Y.lenM (g := TLock.row) (l := a0.Queue) Try.underlying48 rfl (fun w' hw => (hA0_1.up.clsF hK hw rfl))) ?_)
      refine L.take rfl (L.ite h rfl (Y.eql rfl rfl) (fun c33 h => ?_) (fun c33 h => ?_))
      ·
       refine L.take rfl (L.y rfl (Y.pickF rfl rfl) ?_)
       refine L.y rfl (Y.pickT rfl rfl) ?_
       refine L.nil (E.thenN (W.condT rfl ?_))
       refine W.seq (W.region (L.y rfl (Y.loadPW (i := 2) ag50 sz50 rfl rfl rfl) ?_))
       refine L.y rfl (Y.loadPW (i := 1) ag55 sz55 rfl rfl rfl) ?_
       obtain ⟨x34, e39, h⟩ := bind1S h
       refine L.doesF rfl en42 rfl rfl hK (fun w' hw hs => w42_quirref_given a0 a1 u0_0 u0_1 _ w' hs _ e39 hA0_0.up.tok hA0_1.up.tok) ?_
       rintro _ c40 c41 mo42 mn43 ma44 ⟨v35, v37, rfl, f36, f38⟩
       refine L.storeC (i := 0) sz50 rfl rfl rfl rfl (fun w hw => (all1 rfl (all1 ((mn43 f36).clsF hK hw rfl).one (all1 ((mn43 f38).clsF hK hw rfl).one all0)))) rfl (Nat.le_of_ble_eq_true rfl) ?_
       refine L.y rfl (Y.assign rfl) ?_
       refine L.nil (E.thenN (W.ret (E.KSR (E.retR2 rfl (Rv.cellW (i := 0) ag50 sz50 rfl rfl rfl) (Rv.tmp rfl) (fun w1 hw => ?_)))))
       obtain rfl := Option.some.inj h
       exact ⟨_, _, rfl, ⟨c41, rfl, v35, v37, rfl, (mn43 f36), (mn43 f38)⟩, hw.sel [3] (by decide) rfl⟩
      ·
       refine L.take rfl (L.y rfl (Y.pickF rfl rfl) ?_)
       refine L.y rfl (Y.pickT rfl rfl) ?_
       refine L.nil (E.thenN (W.condF rfl ?_))
       exact W.skip (E.joinJ ⟨rfl, rfl, h⟩ ⟨rfl, rfl, rfl, rfl, trivial⟩ (fun _ hw => hw))
    ·
     rintro _ _ ⟨rfl, rfl, h⟩
     rw [m46_quirref_asked_K2] at h
     refine W.seq (W.region (L.y rfl (Y.fieldP fd50_2 rfl) ?_))
     refine L.y rfl (Y.loadP (i := 2) ag48 rfl rfl rfl) ?_
     refine L.y rfl (Y.lenM (g := TLock.row) (l := a0.Queue) Try.underlying48 rfl (fun w' hw => (hA0_1.up.clsF hK hw rfl))) ?_
     refine L.y rfl (Y.assign rfl) ?_
     refine L.nil (E.thenN (W.seqJ (fun gs D => gs = [(2, pt b1 0), (3, pt b2 0), (4, pt b3 0), (7, .int .i64 (a0.Queue.length : Int))] ∧ D = Cls w [] [.obj b3 [.int .i64 0, .slice none 0 0, .slice none 0 0] 50, .obj b2 [.int .i64 a1.Tx, .int .i64 a1.Mode] 55, .obj b1 [.int .i64 a0.Item, u0_0, u0_1] 50, .os []] ∧ m46_quirref_asked_K3 a0 a1 = some r) ?_ ?_))
     ·
      refine W.seq (W.region (L.y rfl (Y.move rfl) ?_))
      refine L.nil (E.thenN (W.condF rfl ?_))
      exact W.skip (E.joinJ ⟨rfl, rfl, h⟩ ⟨rfl, rfl, rfl, rfl, trivial⟩ (fun _ hw => hw))
     ·
      rintro _ _ ⟨rfl, rfl, h⟩
      rw [m46_quirref_asked_K3] at h
      refine W.seqJ (fun gs D => ∃ (gv2 : Value) (gl3 : (List TLock)), gs = [(2, pt b1 0), (4, pt b3 0)] ∧ D = Cls w [] [.obj b3 [.int .i64 0, .slice none 0 0, .slice none 0 0] 50, .obj b1 [.int .i64 a0.Item, u0_0, gv2] 50, .sl gv2 55 2 (gl3.map TLock.row), .os []] ∧ m46_quirref_asked_K4 a0 gl3 = some r) ?_ ?_
      ·
       refine W.drawn2 (k := 9) (stC [[6, 8], [8]] [Cls w [] [.obj b3 [.int .i64 0, .slice none 0 0, .slice none 0 0] 50, .obj b2 [.int .i64 a1.Tx, .int .i64 a1.Mode] 55, .obj b1 [.int .i64 a0.Item, u0_0, u0_1] 50, .os []], Cls w [] [.obj b3 [.int .i64 0, .slice none 0 0, .slice none 0 0] 50, .obj b2 [.int .i64 a1.Tx, .int .i64 a1.Mode] 55, .obj b1 [.int .i64 a0.Item, u0_0, u0_1] 50, .os []]] (Cls w [] [.obj b3 [.int .i64 0, .slice none 0 0, .slice none 0 0] 50, .obj b2 [.int .i64 a1.Tx, .int .i64 a1.Mode] 55, .os []])) rfl mixed (fun _ hw => hw.drew) (Sc.now (by kernel_rfl) (fun _ hw => hw)) ?_
       refine V2.y (i := 0) (Nx2.of (Z := Cls w [] [.obj b3 [.int .i64 0, .slice none 0 0, .slice none 0 0] 50, .obj b2 [.int .i64 a1.Tx, .int .i64 a1.Mode] 55, .os []]) [] (by kernel_rfl) rfl (Zc.on (fun _ hw => hw.sel [0, 1, 3] (by decide) rfl) (Zc.on (fun _ hw => hw.sel [0, 1, 3] (by decide) rfl) (Zc.fin (fun _ hw => hw))))) rfl rfl rfl (Y.fieldP fd50_2 rfl) ?_
       refine V2.y (i := 1) (Nx2.of (Z := Cls w [] [.obj b3 [.int .i64 0, .slice none 0 0, .slice none 0 0] 50, .obj b2 [.int .i64 a1.Tx, .int .i64 a1.Mode] 55, .obj b1 [.int .i64 a0.Item, u0_0, u0_1] 50, .os []]) [8] (by kernel_rfl) rfl (Zc.on (fun _ hw => hw) (Zc.at1 (fun _ hw => hw)))) rfl rfl rfl (Y.loadP (i := 2) ag48 rfl rfl rfl) ?_
       refine V2.y (i := 3) (Nx2.of (Z := Cls w [] [.obj b3 [.int .i64 0, .slice none 0 0, .slice none 0 0] 50, .obj b2 [.int .i64 a1.Tx, .int .i64 a1.Mode] 55, .os []]) [] (by kernel_rfl) rfl (Zc.on (fun _ hw => hw.sel [0, 1, 3] (by decide) rfl) (Zc.on (fun _ hw => hw.sel [0, 1, 3] (by decide) rfl) (Zc.fin (fun _ hw => hw))))) rfl rfl rfl (Y.move rfl) ?_
       refine V2.y (i := 4) (Nx2.of (Z := Cls w [] [.obj b3 [.int .i64 0, .slice none 0 0, .slice none 0 0] 50, .obj b2 [.int .i64 a1.Tx, .int .i64 a1.Mode] 55, .os []]) [] (by kernel_rfl) rfl (Zc.on (fun _ hw => hw.sel [0, 1, 3] (by decide) rfl) (Zc.on (fun _ hw => hw.sel [0, 1, 3] (by decide) rfl) (Zc.fin (fun _ hw => hw))))) rfl rfl rfl (Y.loadPW (i := 1) ag55 sz55 rfl rfl rfl) ?_
       refine V2.eff2 (i1 := 2) (i2 := 5) (by kernel_rfl) rfl rfl ?_ ?_
       ·
        obtain ⟨l19, e21, h⟩ := bind1S h
        refine L.does rfl en47 rfl (fun w' hw => w47_api_Lock a0.Queue u0_1 w' _ e21 (hA0_1.up.clsF hK hw rfl)) ?_
        rintro v20 _ ⟨_, rfl, rfl⟩
        refine L.nil (E.toV2 (stC [[6, 8], [8]] [Cls w [] [.sl v20 55 2 (l19.map TLock.row), .obj b3 [.int .i64 0, .slice none 0 0, .slice none 0 0] 50, .obj b2 [.int .i64 a1.Tx, .int .i64 a1.Mode] 55, .obj b1 [.int .i64 a0.Item, u0_0, u0_1] 50, .os []], Cls w [] [.obj b3 [.int .i64 0, .slice none 0 0, .slice none 0 0] 50, .obj b2 [.int .i64 a1.Tx, .int .i64 a1.Mode] 55, .obj b1 [.int .i64 a0.Item, u0_0, u0_1] 50, .os []]] (Cls w [] [.obj b3 [.int .i64 0, .slice none 0 0, .slice none 0 0] 50, .obj b2 [.int .i64 a1.Tx, .int .i64 a1.Mode] 55, .os []])) 2 (by kernel_rfl) (Sc.stay (fun _ hw => hw.sel [1, 2, 3, 4] (by decide) rfl) (Sc.stay (fun _ hw => hw) (Sc.stayD (fun _ hw => hw)))) (Sc.now (by kernel_rfl) (fun _ hw => hw)) ?_)
        refine V2.eff (i := 5) (by kernel_rfl) rfl ?_
        refine L.litAgg rfl Try.underlying48 eL55 rfl rfl rfl ?_
        intro b22
        refine L.nil (E.toV2 (stC [[6, 8], [8]] [Cls w [] [.sl (sv b22 1) 55 2 (([a1]).map TLock.row), .sl v20 55 2 (l19.map TLock.row), .obj b3 [.int .i64 0, .slice none 0 0, .slice none 0 0] 50, .obj b2 [.int .i64 a1.Tx, .int .i64 a1.Mode] 55, .obj b1 [.int .i64 a0.Item, u0_0, u0_1] 50, .os []], Cls w [] [.sl (sv b22 1) 55 2 (([a1]).map TLock.row), .obj b3 [.int .i64 0, .slice none 0 0, .slice none 0 0] 50, .obj b2 [.int .i64 a1.Tx, .int .i64 a1.Mode] 55, .obj b1 [.int .i64 a0.Item, u0_0, u0_1] 50, .os []]] (Cls w [] [.sl (sv b22 1) 55 2 (([a1]).map TLock.row), .obj b3 [.int .i64 0, .slice none 0 0, .slice none 0 0] 50, .obj b2 [.int .i64 a1.Tx, .int .i64 a1.Mode] 55, .os []])) 5 (by kernel_rfl) (Sc.stay (fun _ hw => hw.sel [1, 2, 3, 4, 5] (by decide) rfl) (Sc.stay (fun _ hw => hw.sel [1, 2, 3, 4] (by decide) rfl) (Sc.stayD (fun _ hw => hw.sel [1, 2, 3] (by decide) rfl)))) (Sc.now (by kernel_rfl) (fun _ hw => hw)) ?_)
        refine V2.eff (i := 6) (by kernel_rfl) rfl ?_
        refine L.insRD (i := 1) (j := 0) (l := l19) (x1 := a1) (a := (a0.Queue.length : Int)) h wInsR29 (fun _ => rfl) rfl en29 rfl rfl rfl rfl rfl (by decide) ?_
        intro v24 l23 el23 h
        refine L.nil (E.toV2 (stC [[8]] [Cls w [] [.sl (sv b22 1) 55 2 (([a1]).map TLock.row), .sl v24 55 2 (l23.map TLock.row), .obj b3 [.int .i64 0, .slice none 0 0, .slice none 0 0] 50, .obj b2 [.int .i64 a1.Tx, .int .i64 a1.Mode] 55, .obj b1 [.int .i64 a0.Item, u0_0, u0_1] 50, .os []]] (Cls w [] [.sl (sv b22 1) 55 2 (([a1]).map TLock.row), .sl v24 55 2 (l23.map TLock.row), .obj b3 [.int .i64 0, .slice none 0 0, .slice none 0 0] 50, .obj b2 [.int .i64 a1.Tx, .int .i64 a1.Mode] 55, .os []])) 6 (by kernel_rfl) (Sc.past rfl (Sc.stay (fun _ hw => hw.sel [0, 2, 3, 4, 5] (by decide) rfl) (Sc.stayD (fun _ hw => hw.sel [0, 2, 3, 4] (by decide) rfl)))) (Sc.now (by kernel_rfl) (fun _ hw => hw)) ?_)
        refine V2.y (i := 7) (Nx2.of (Z := Cls w [] [.sl (sv b22 1) 55 2 (([a1]).map TLock.row), .sl v24 55 2 (l23.map TLock.row), .obj b3 [.int .i64 0, .slice none 0 0, .slice none 0 0] 50, .obj b2 [.int .i64 a1.Tx, .int .i64 a1.Mode] 55, .os []]) [] (by kernel_rfl) rfl (Zc.on (fun _ hw => hw.sel [0, 1, 2, 3, 5] (by decide) rfl) (Zc.fin (fun _ hw => hw)))) rfl rfl rfl (Y.fieldP fd50_2 rfl) ?_
        refine V2.eff (i := 8) (by kernel_rfl) rfl ?_
        refine L.storeV (i := 4) sz48 rfl rfl (fun _ hw => (As.at_ (hw.get (i := 1) rfl)).one) rfl (Nat.le_of_ble_eq_true rfl) ?_
        refine L.nil (E.toV2 (stC [] [] (Cls w [] [.sl (sv b22 1) 55 2 (([a1]).map TLock.row), .sl v24 55 2 (l23.map TLock.row), .obj b3 [.int .i64 0, .slice none 0 0, .slice none 0 0] 50, .obj b2 [.int .i64 a1.Tx, .int .i64 a1.Mode] 55, .os []])) 8 (by kernel_rfl) (Sc.past rfl (Sc.stayD (fun _ hw => hw))) (Sc.atD (fun _ hw => hw.sel [0, 1, 2, 3, 5] (by decide) rfl)) ?_)
        refine V2.done (by kernel_rfl) ?_
        exact E.joinJ ⟨v24, l23, rfl, rfl, h⟩ ⟨rfl, rfl, trivial⟩ (fun _ hw => hw.sel [2, 4, 1, 5] (by decide) rfl)
       ·
        refine L.litAgg rfl Try.underlying48 eL55 rfl rfl rfl ?_
        intro b25
        refine L.nil (E.toV2 (stC [[6, 8], [8]] [Cls w [] [.sl (sv b25 1) 55 2 (([a1]).map TLock.row), .obj b3 [.int .i64 0, .slice none 0 0, .slice none 0 0] 50, .obj b2 [.int .i64 a1.Tx, .int .i64 a1.Mode] 55, .obj b1 [.int .i64 a0.Item, u0_0, u0_1] 50, .os []], Cls w [] [.sl (sv b25 1) 55 2 (([a1]).map TLock.row), .obj b3 [.int .i64 0, .slice none 0 0, .slice none 0 0] 50, .obj b2 [.int .i64 a1.Tx, .int .i64 a1.Mode] 55, .obj b1 [.int .i64 a0.Item, u0_0, u0_1] 50, .os []]] (Cls w [] [.sl (sv b25 1) 55 2 (([a1]).map TLock.row), .obj b3 [.int .i64 0, .slice none 0 0, .slice none 0 0] 50, .obj b2 [.int .i64 a1.Tx, .int .i64 a1.Mode] 55, .os []])) 5 (by kernel_rfl) (Sc.stay (fun _ hw => hw.sel [1, 2, 3, 4] (by decide) rfl) (Sc.stay (fun _ hw => hw.sel [1, 2, 3, 4] (by decide) rfl) (Sc.stayD (fun _ hw => hw.sel [1, 2, 3] (by decide) rfl)))) (Sc.now (by kernel_rfl) (fun _ hw => hw)) ?_)
        refine V2.eff (i := 2) (by kernel_rfl) rfl ?_
        obtain ⟨l26, e28, h⟩ := bind1S h
        refine L.does rfl en47 rfl (fun w' hw => w47_api_Lock a0.Queue u0_1 w' _ e28 (hA0_1.up.clsF hK hw rfl)) ?_
        rintro v27 _ ⟨_, rfl, rfl⟩
        refine L.nil (E.toV2 (stC [[6, 8], [8]] [Cls w [] [.sl v27 55 2 (l26.map TLock.row), .sl (sv b25 1) 55 2 (([a1]).map TLock.row), .obj b3 [.int .i64 0, .slice none 0 0, .slice none 0 0] 50, .obj b2 [.int .i64 a1.Tx, .int .i64 a1.Mode] 55, .obj b1 [.int .i64 a0.Item, u0_0, u0_1] 50, .os []], Cls w [] [.sl (sv b25 1) 55 2 (([a1]).map TLock.row), .obj b3 [.int .i64 0, .slice none 0 0, .slice none 0 0] 50, .obj b2 [.int .i64 a1.Tx, .int .i64 a1.Mode] 55, .obj b1 [.int .i64 a0.Item, u0_0, u0_1] 50, .os []]] (Cls w [] [.sl (sv b25 1) 55 2 (([a1]).map TLock.row), .obj b3 [.int .i64 0, .slice none 0 0, .slice none 0 0] 50, .obj b2 [.int .i64 a1.Tx, .int .i64 a1.Mode] 55, .os []])) 2 (by kernel_rfl) (Sc.stay (fun _ hw => hw.sel [1, 2, 3, 4, 5] (by decide) rfl) (Sc.stay (fun _ hw => hw) (Sc.stayD (fun _ hw => hw)))) (Sc.now (by kernel_rfl) (fun _ hw => hw)) ?_)
        refine V2.eff (i := 6) (by kernel_rfl) rfl ?_
        refine L.insRD (i := 0) (j := 1) (l := l26) (x1 := a1) (a := (a0.Queue.length : Int)) h wInsR29 (fun _ => rfl) rfl en29 rfl rfl rfl rfl rfl (by decide) ?_
        intro v30 l29 el29 h
        refine L.nil (E.toV2 (stC [[8]] [Cls w [] [.sl v30 55 2 (l29.map TLock.row), .sl (sv b25 1) 55 2 (([a1]).map TLock.row), .obj b3 [.int .i64 0, .slice none 0 0, .slice none 0 0] 50, .obj b2 [.int .i64 a1.Tx, .int .i64 a1.Mode] 55, .obj b1 [.int .i64 a0.Item, u0_0, u0_1] 50, .os []]] (Cls w [] [.sl v30 55 2 (l29.map TLock.row), .sl (sv b25 1) 55 2 (([a1]).map TLock.row), .obj b3 [.int .i64 0, .slice none 0 0, .slice none 0 0] 50, .obj b2 [.int .i64 a1.Tx, .int .i64 a1.Mode] 55, .os []])) 6 (by kernel_rfl) (Sc.past rfl (Sc.stay (fun _ hw => hw.sel [1, 2, 3, 4, 5] (by decide) rfl) (Sc.stayD (fun _ hw => hw.sel [1, 2, 3, 4] (by decide) rfl)))) (Sc.now (by kernel_rfl) (fun _ hw => hw)) ?_)
        refine V2.y (i := 7) (Nx2.of (Z := Cls w [] [.sl v30 55 2 (l29.map TLock.row), .sl (sv b25 1) 55 2 (([a1]).map TLock.row), .obj b3 [.int .i64 0, .slice none 0 0, .slice none 0 0] 50, .obj b2 [.int .i64 a1.Tx, .int .i64 a1.Mode] 55, .os []]) [] (by kernel_rfl) rfl (Zc.on (fun _ hw => hw.sel [0, 1, 2, 3, 5] (by decide) rfl) (Zc.fin (fun _ hw => hw)))) rfl rfl rfl (Y.fieldP fd50_2 rfl) ?_
        refine V2.eff (i := 8) (by kernel_rfl) rfl ?_
        refine L.storeV (i := 4) sz48 rfl rfl (fun _ hw => (As.at_ (hw.get (i := 0) rfl)).one) rfl (Nat.le_of_ble_eq_true rfl) ?_
        refine L.nil (E.toV2 (stC [] [] (Cls w [] [.sl v30 55 2 (l29.map TLock.row), .sl (sv b25 1) 55 2 (([a1]).map TLock.row), .obj b3 [.int .i64 0, .slice none 0 0, .slice none 0 0] 50, .obj b2 [.int .i64 a1.Tx, .int .i64 a1.Mode] 55, .os []])) 8 (by kernel_rfl) (Sc.past rfl (Sc.stayD (fun _ hw => hw))) (Sc.atD (fun _ hw => hw.sel [0, 1, 2, 3, 5] (by decide) rfl)) ?_)
        refine V2.done (by kernel_rfl) ?_
        exact E.joinJ ⟨v30, l29, rfl, rfl, h⟩ ⟨rfl, rfl, trivial⟩ (fun _ hw => hw.sel [2, 4, 0, 5] (by decide) rfl)
      ·
       rintro _ _ ⟨gv2, gl3, rfl, rfl, h⟩
       rw [m46_quirref_asked_K4] at h
       refine W.seq (W.region (L.y rfl (Y.loadPW (i := 1) ag50 sz50 rfl rfl rfl) ?_))
       refine L.storeC (i := 0) sz50 rfl rfl rfl rfl (fun w hw => (all1 rfl (all1 (hA0_0.up.clsF hK hw rfl).one (all1 (As.at_ (hw.get (i := 2) rfl)).one all0)))) rfl (Nat.le_of_ble_eq_true rfl) ?_
       refine L.y rfl (Y.assign rfl) ?_
       refine L.nil (E.thenN (W.ret (E.frz (i := 2) rfl rfl rfl ?_)))
       intro c4 mo5 hf6
       refine E.retR2 rfl (Rv.cellW (i := 0) ag50 sz50 rfl rfl rfl) (Rv.tmp rfl) (fun w1 hw => ?_)
       obtain rfl := Option.some.inj h
       exact ⟨_, _, rfl, ⟨c4, rfl, u0_0, gv2, rfl, hA0_0.up, (hf6 K)⟩, hw.sel [2] (by decide) rfl⟩
   ·
    replace h := iteT h
    refine W.seqJ (fun gs D => gs = [(2, pt b1 0), (3, pt b2 0), (4, pt b3 0), (6, .bool true)] ∧ D = Cls w [] [.obj b3 [.int .i64 0, .slice none 0 0, .slice none 0 0] 50, .obj b2 [.int .i64 a1.Tx, .int .i64 a1.Mode] 55, .obj b1 [.int .i64 a0.Item, u0_0, u0_1] 50, .os []] ∧ m46_quirref_asked_K5 a0 a1 = some r) ?_ ?_
    ·
     refine W.seq (W.region (L.y rfl (Y.loadPW (i := 2) ag50 sz50 rfl rfl rfl) ?_))
     refine L.y rfl (Y.loadPW (i := 1) ag55 sz55 rfl rfl rfl) ?_
     obtain ⟨b78, e79, h⟩ := bind1S h
     refine L.y rfl (Y.does en41 rfl (fun w' hw => (w41_quirref_can a0 a1 u0_0 u0_1 w' _ e79 (hA0_0.up.clsF hK hw rfl) (hA0_1.up.clsF hK hw rfl)).mono (fun _ _ h => h.1))) ?_
     rcases b78 with _ | _
     ·
      replace h := iteF h
      refine L.y rfl (Y.move rfl) ?_
      refine L.pass rfl rfl (by nofun) ?_
      refine L.pass rfl rfl (by nofun) ?_
      refine L.pass rfl rfl (by nofun) ?_
      refine L.pass rfl rfl (by nofun) ?_
      refine L.pass rfl rfl (by nofun) ?_
      refine L.pass rfl rfl (by nofun) ?_
      refine L.pass rfl rfl (by nofun) ?_
      refine L.y rfl (Y.pickF rfl rfl) ?_
      refine L.nil (E.thenN (W.condF rfl ?_))
      exact W.skip (E.joinJ ⟨rfl, rfl, h⟩ ⟨rfl, rfl, rfl, rfl, trivial⟩ (fun _ hw => hw))
     ·
      replace h := iteT h
      refine L.y rfl (Y.move rfl) ?_
      refine L.take rfl (L.y rfl (Y.move rfl) ?_)
      refine L.take rfl (L.y rfl (Y.move rfl) ?_)
      refine L.pass rfl rfl (by nofun) ?_
      refine L.pass rfl rfl (by nofun) ?_
      refine L.pass rfl rfl (by nofun) ?_
      refine L.pass rfl rfl (by nofun) ?_
      refine L.take rfl (L.y rfl (Y.pickT rfl rfl) ?_)
      refine L.y rfl (Y.pickT rfl rfl) ?_
      refine L.nil (E.thenN (W.condT rfl ?_))
      refine W.seq (W.region (L.y rfl (Y.loadPW (i := 2) ag50 sz50 rfl rfl rfl) ?_))
      refine L.y rfl (Y.loadPW (i := 1) ag55 sz55 rfl rfl rfl) ?_
      obtain ⟨x80, e85, h⟩ := bind1S h
      refine L.doesF rfl en42 rfl rfl hK (fun w' hw hs => w42_quirref_given a0 a1 u0_0 u0_1 _ w' hs _ e85 hA0_0.up.tok hA0_1.up.tok) ?_
      rintro _ c86 c87 mo88 mn89 ma90 ⟨v81, v83, rfl, f82, f84⟩
      refine L.storeC (i := 0) sz50 rfl rfl rfl rfl (fun w hw => (all1 rfl (all1 ((mn89 f82).clsF hK hw rfl).one (all1 ((mn89 f84).clsF hK hw rfl).one all0)))) rfl (Nat.le_of_ble_eq_true rfl) ?_
      refine L.y rfl (Y.assign rfl) ?_
      refine L.nil (E.thenN (W.ret (E.KSR (E.retR2 rfl (Rv.cellW (i := 0) ag50 sz50 rfl rfl rfl) (Rv.tmp rfl) (fun w1 hw => ?_)))))
      obtain rfl := Option.some.inj h
      exact ⟨_, _, rfl, ⟨c87, rfl, v81, v83, rfl, (mn89 f82), (mn89 f84)⟩, hw.sel [3] (by decide) rfl⟩
    ·
     rintro _ _ ⟨rfl, rfl, h⟩
     rw [m46_quirref_asked_K5] at h
     refine W.seq (W.region (L.y rfl (Y.fieldP fd50_2 rfl) ?_))
     refine L.y rfl (Y.loadP (i := 2) ag48 rfl rfl rfl) ?_
     refine L.y rfl (Y.lenM (g := TLock.row) (l := a0.Queue) Try.underlying48 rfl (fun w' hw => (hA0_1.up.clsF hK hw rfl))) ?_
     refine L.y rfl (Y.assign rfl) ?_
     refine L.nil (E.thenN (W.seqJ (fun gs D => ∃ (gx4 : Int), gs = [(2, pt b1 0), (3, pt b2 0), (4, pt b3 0), (7, .int .i64 gx4)] ∧ D = Cls w [] [.obj b3 [.int .i64 0, .slice none 0 0, .slice none 0 0] 50, .obj b2 [.int .i64 a1.Tx, .int .i64 a1.Mode] 55, .obj b1 [.int .i64 a0.Item, u0_0, u0_1] 50, .os []] ∧ m46_quirref_asked_K6 a0 a1 gx4 = some r) ?_ ?_))
     ·
      refine W.seq (W.region (L.y rfl (Y.move rfl) ?_))
      refine L.nil (E.thenN (W.condT rfl ?_))
      refine W.seq (W.region (L.y rfl (Y.assign rfl) ?_))
      refine L.nil (E.thenN (W.block (W.loopJ (fun m gs D => ∃ (gx7 : Int), gs = [(2, pt b1 0), (3, pt b2 0), (4, pt b3 0), (7, .int .i64 gx7)] ∧ D = Cls w [] [.obj b3 [.int .i64 0, .slice none 0 0, .slice none 0 0] 50, .obj b2 [.int .i64 a1.Tx, .int .i64 a1.Mode] 55, .obj b1 [.int .i64 a0.Item, u0_0, u0_1] 50, .os []] ∧ m46_quirref_asked_L1 a0 a1 m gx7 = some r) ⟨0, rfl, rfl, h⟩ ⟨rfl, rfl, rfl, rfl, trivial⟩ (fun _ hw => hw) ?_)))
      rintro m _ _ ⟨gx7, rfl, rfl, h⟩
      rcases m with _ | m
      · rw [m46_quirref_asked_L1] at h; cases h
      rw [m46_quirref_asked_L1] at h
      generalize hg1 : m46_quirref_asked_L1 a0 a1 m = go1 at h
      rw [m46_quirref_asked_L1B] at h
      refine W.seq (W.seq (W.quietC mixed (by kernel_rfl) (fun _ hw => hw.drew) (fun hC => ?_)))
      refine U.y rfl (Y.move rfl) ?_
      refine U.y rfl (Y.fieldP fd50_2 rfl) ?_
      refine U.y rfl (Y.loadP (i := 2) ag48 rfl rfl rfl) ?_
      refine U.y rfl (Y.lenM (g := TLock.row) (l := a0.Queue) Try.underlying48 rfl (fun w' hw => (hA0_1.up.clsF hK hw rfl))) ?_
      refine U.ite h rfl (Y.lss rfl rfl) (fun c72 h => ?_) (fun c72 h => ?_)
      ·
       refine U.y rfl (Y.move rfl) ?_
       refine U.take rfl (U.y rfl (Y.fieldP fd50_1 rfl) ?_)
       refine U.take rfl (U.y rfl (Y.loadP (i := 2) ag48 rfl rfl rfl) ?_)
       refine U.take rfl (U.y rfl (Y.fieldP fd50_2 rfl) ?_)
       refine U.take rfl (U.y rfl (Y.loadP (i := 2) ag48 rfl rfl rfl) ?_)
       refine U.take rfl (U.y rfl (Y.move rfl) ?_)
       refine U.take rfl (U.m (V := fun _ => el u0_1 (gx7.toNat * 2)) h rfl (Y.indexM (g := TLock.row) (l := a0.Queue) Try.underlying48 sz55 rfl rfl (fun w' hw => (hA0_1.up.clsF hK hw rfl))) (fun x73 ex73 h => ?_))
       refine U.take rfl (U.y rfl (Y.fieldE fd55_0 rfl) ?_)
       refine U.take rfl (U.y rfl (Y.loadE (u := .int .i64 x73.Tx) ag3 rfl (fun w' hw => (hA0_1.up.clsF hK hw rfl)) (idx_map ex73) rfl) ?_)
       refine U.take rfl ?_
       obtain ⟨x74, e75, h⟩ := bind1S h
       refine U.y rfl (Y.does en37 rfl (fun w' hw => (w37_quirref_holds a0.Held x73.Tx u0_0 w' _ e75 (hA0_0.up.clsF hK hw rfl)).mono (fun _ _ h => h.1))) ?_
       refine U.take rfl (U.ite h rfl (Y.gtr rfl rfl) (fun c76 h => ?_) (fun c76 h => ?_))
       ·
        refine U.y rfl (Y.pickT rfl rfl) ?_
        refine U.nil (E.thenN (W.condT rfl ?_))
        refine W.skip (E.thenN (W.block (W.region (L.y rfl (Y.move rfl) ?_))))
        refine L.m (V := fun x77 => .int .i64 x77) h rfl (Y.addM rfl rfl) (fun x77 ex77 h => ?_)
        refine L.y rfl (Y.assign rfl) ?_
        exact L.nil (E.blockN (E.againJ ⟨x77, rfl, rfl, by rw [hg1]; exact h⟩ (Nat.lt_succ_self _) ⟨rfl, rfl, rfl, rfl, trivial⟩ (fun _ hw => hw)))
       ·
        refine U.y rfl (Y.pickT rfl rfl) ?_
        refine U.nil (E.thenN (W.condF rfl ?_))
        exact W.exit (E.thenX (E.KLX (E.blockX (E.joinJ ⟨gx7, rfl, rfl, h⟩ ⟨rfl, rfl, rfl, rfl, trivial⟩ (fun _ hw => hw)))))
      ·
       refine U.y rfl (Y.move rfl) ?_
       refine U.pass rfl rfl (by nofun) ?_
       refine U.pass rfl rfl (by nofun) ?_
       refine U.pass rfl rfl (by nofun) ?_
       refine U.pass rfl rfl (by nofun) ?_
       refine U.pass rfl rfl (by nofun) ?_
       refine U.pass rfl rfl (by nofun) ?_
       refine U.pass rfl rfl (by nofun) ?_
       refine U.pass rfl rfl (by nofun) ?_
       refine U.pass rfl rfl (by nofun) ?_
       refine U.pass rfl rfl (by nofun) ?_
       refine U.y rfl (Y.pickF rfl rfl) ?_
       refine U.nil (E.thenN (W.condF rfl ?_))
       exact W.exit (E.thenX (E.KLX (E.blockX (E.joinJ ⟨gx7, rfl, rfl, h⟩ ⟨rfl, rfl, rfl, rfl, trivial⟩ (fun _ hw => hw)))))
     ·
      rintro _ _ ⟨gx4, rfl, rfl, h⟩
      rw [m46_quirref_asked_K6] at h
      refine W.seqJ (fun gs D => ∃ (gv5 : Value) (gl6 : (List TLock)), gs = [(2, pt b1 0), (4, pt b3 0)] ∧ D = Cls w [] [.obj b3 [.int .i64 0, .slice none 0 0, .slice none 0 0] 50, .obj b1 [.int .i64 a0.Item, u0_0, gv5] 50, .sl gv5 55 2 (gl6.map TLock.row), .os []] ∧ m46_quirref_asked_K7 a0 gl6 = some r) ?_ ?_
      ·
       refine W.drawn2 (k := 9) (stC [[6, 8], [8]] [Cls w [] [.obj b3 [.int .i64 0, .slice none 0 0, .slice none 0 0] 50, .obj b2 [.int .i64 a1.Tx, .int .i64 a1.Mode] 55, .obj b1 [.int .i64 a0.Item, u0_0, u0_1] 50, .os []], Cls w [] [.obj b3 [.int .i64 0, .slice none 0 0, .slice none 0 0] 50, .obj b2 [.int .i64 a1.Tx, .int .i64 a1.Mode] 55, .obj b1 [.int .i64 a0.Item, u0_0, u0_1] 50, .os []]] (Cls w [] [.obj b3 [.int .i64 0, .slice none 0 0, .slice none 0 0] 50, .obj b2 [.int .i64 a1.Tx, .int .i64 a1.Mode] 55, .os []])) rfl mixed (fun _ hw => hw.drew) (Sc.now (by kernel_rfl) (fun _ hw => hw)) ?_
       refine V2.y (i := 0) (Nx2.of (Z := Cls w [] [.obj b3 [.int .i64 0, .slice none 0 0, .slice none 0 0] 50, .obj b2 [.int .i64 a1.Tx, .int .i64 a1.Mode] 55, .os []]) [] (by kernel_rfl) rfl (Zc.on (fun _ hw => hw.sel [0, 1, 3] (by decide) rfl) (Zc.on (fun _ hw => hw.sel [0, 1, 3] (by decide) rfl) (Zc.fin (fun _ hw => hw))))) rfl rfl rfl (Y.fieldP fd50_2 rfl) ?_
       refine V2.y (i := 1) (Nx2.of (Z := Cls w [] [.obj b3 [.int .i64 0, .slice none 0 0, .slice none 0 0] 50, .obj b2 [.int .i64 a1.Tx, .int .i64 a1.Mode] 55, .obj b1 [.int .i64 a0.Item, u0_0, u0_1] 50, .os []]) [8] (by kernel_rfl) rfl (Zc.on (fun _ hw => hw) (Zc.at1 (fun _ hw => hw)))) rfl rfl rfl (Y.loadP (i := 2) ag48 rfl rfl rfl) ?_
       refine V2.y (i := 3) (Nx2.of (Z := Cls w [] [.obj b3 [.int .i64 0, .slice none 0 0, .slice none 0 0] 50, .obj b2 [.int .i64 a1.Tx, .int .i64 a1.Mode] 55, .os []]) [] (by kernel_rfl) rfl (Zc.on (fun _ hw => hw.sel [0, 1, 3] (by decide) rfl) (Zc.on (fun _ hw => hw.sel [0, 1, 3] (by decide) rfl) (Zc.fin (fun _ hw => hw))))) rfl rfl rfl (Y.move rfl) ?_
       refine V2.y (i := 4) (Nx2.of (Z := Cls w [] [.obj b3 [.int .i64 0, .slice none 0 0, .slice none 0 0] 50, .obj b2 [.int .i64 a1.Tx, .int .i64 a1.Mode] 55, .os []]) [] (by kernel_rfl) rfl (Zc.on (fun _ hw => hw.sel [0, 1, 3] (by decide) rfl) (Zc.on (fun _ hw => hw.sel [0, 1, 3] (by decide) rfl) (Zc.fin (fun _ hw => hw))))) rfl rfl rfl (Y.loadPW (i := 1) ag55 sz55 rfl rfl rfl) ?_
       refine V2.eff2 (i1 := 2) (i2 := 5) (by kernel_rfl) rfl rfl ?_ ?_
       ·
        obtain ⟨l60, e62, h⟩ := bind1S h
        refine L.does rfl en47 rfl (fun w' hw => w47_api_Lock a0.Queue u0_1 w' _ e62 (hA0_1.up.clsF hK hw rfl)) ?_
        rintro v61 _ ⟨_, rfl, rfl⟩
        refine L.nil (E.toV2 (stC [[6, 8], [8]] [Cls w [] [.sl v61 55 2 (l60.map TLock.row), .obj b3 [.int .i64 0, .slice none 0 0, .slice none 0 0] 50, .obj b2 [.int .i64 a1.Tx, .int .i64 a1.Mode] 55, .obj b1 [.int .i64 a0.Item, u0_0, u0_1] 50, .os []], Cls w [] [.obj b3 [.int .i64 0, .slice none 0 0, .slice none 0 0] 50, .obj b2 [.int .i64 a1.Tx, .int .i64 a1.Mode] 55, .obj b1 [.int .i64 a0.Item, u0_0, u0_1] 50, .os []]] (Cls w [] [.obj b3 [.int .i64 0, .slice none 0 0, .slice none 0 0] 50, .obj b2 [.int .i64 a1.Tx, .int .i64 a1.Mode] 55, .os []])) 2 (by kernel_rfl) (Sc.stay (fun _ hw => hw.sel [1, 2, 3, 4] (by decide) rfl) (Sc.stay (fun _ hw => hw) (Sc.stayD (fun _ hw => hw)))) (Sc.now (by kernel_rfl) (fun _ hw => hw)) ?_)
        refine V2.eff (i := 5) (by kernel_rfl) rfl ?_
        refine L.litAgg rfl Try.underlying48 eL55 rfl rfl rfl ?_
        intro b63
        refine L.nil (E.toV2 (stC [[6, 8], [8]] [Cls w [] [.sl (sv b63 1) 55 2 (([a1]).map TLock.row), .sl v61 55 2 (l60.map TLock.row), .obj b3 [.int .i64 0, .slice none 0 0, .slice none 0 0] 50, .obj b2 [.int .i64 a1.Tx, .int .i64 a1.Mode] 55, .obj b1 [.int .i64 a0.Item, u0_0, u0_1] 50, .os []], Cls w [] [.sl (sv b63 1) 55 2 (([a1]).map TLock.row), .obj b3 [.int .i64 0, .slice none 0 0, .slice none 0 0] 50, .obj b2 [.int .i64 a1.Tx, .int .i64 a1.Mode] 55, .obj b1 [.int .i64 a0.Item, u0_0, u0_1] 50, .os []]] (Cls w [] [.sl (sv b63 1) 55 2 (([a1]).map TLock.row), .obj b3 [.int .i64 0, .slice none 0 0, .slice none 0 0] 50, .obj b2 [.int .i64 a1.Tx, .int .i64 a1.Mode] 55, .os []])) 5 (by kernel_rfl) (Sc.stay (fun _ hw => hw.sel [1, 2, 3, 4, 5] (by decide) rfl) (Sc.stay (fun _ hw => hw.sel [1, 2, 3, 4] (by decide) rfl) (Sc.stayD (fun _ hw => hw.sel [1, 2, 3] (by decide) rfl)))) (Sc.now (by kernel_rfl) (fun _ hw => hw)) ?_)
        refine V2.eff (i := 6) (by kernel_rfl) rfl ?_
        refine L.insRD (i := 1) (j := 0) (l := l60) (x1 := a1) (a := gx4) h wInsR29 (fun _ => rfl) rfl en29 rfl rfl rfl rfl rfl (by decide) ?_
        intro v65 l64 el64 h
        refine L.nil (E.toV2 (stC [[8]] [Cls w [] [.sl (sv b63 1) 55 2 (([a1]).map TLock.row), .sl v65 55 2 (l64.map TLock.row), .obj b3 [.int .i64 0, .slice none 0 0, .slice none 0 0] 50, .obj b2 [.int .i64 a1.Tx, .int .i64 a1.Mode] 55, .obj b1 [.int .i64 a0.Item, u0_0, u0_1] 50, .os []]] (Cls w [] [.sl (sv b63 1) 55 2 (([a1]).map TLock.row), .sl v65 55 2 (l64.map TLock.row), .obj b3 [.int .i64 0, .slice none 0 0, .slice none 0 0] 50, .obj b2 [.int .i64 a1.Tx, .int .i64 a1.Mode] 55, .os []])) 6 (by kernel_rfl) (Sc.past rfl (Sc.stay (fun _ hw => hw.sel [0, 2, 3, 4, 5] (by decide) rfl) (Sc.stayD (fun _ hw => hw.sel [0, 2, 3, 4] (by decide) rfl)))) (Sc.now (by kernel_rfl) (fun _ hw => hw)) ?_)
        refine V2.y (i := 7) (Nx2.of (Z := Cls w [] [.sl (sv b63 1) 55 2 (([a1]).map TLock.row), .sl v65 55 2 (l64.map TLock.row), .obj b3 [.int .i64 0, .slice none 0 0, .slice none 0 0] 50, .obj b2 [.int .i64 a1.Tx, .int .i64 a1.Mode] 55, .os []]) [] (by kernel_rfl) rfl (Zc.on (fun _ hw => hw.sel [0, 1, 2, 3, 5] (by decide) rfl) (Zc.fin (fun _ hw => hw)))) rfl rfl rfl (Y.fieldP fd50_2 rfl) ?_
        refine V2.eff (i := 8) (by kernel_rfl) rfl ?_
        refine L.storeV (i := 4) sz48 rfl rfl (fun _ hw => (As.at_ (hw.get (i := 1) rfl)).one) rfl (Nat.le_of_ble_eq_true rfl) ?_
        refine L.nil (E.toV2 (stC [] [] (Cls w [] [.sl (sv b63 1) 55 2 (([a1]).map TLock.row), .sl v65 55 2 (l64.map TLock.row), .obj b3 [.int .i64 0, .slice none 0 0, .slice none 0 0] 50, .obj b2 [.int .i64 a1.Tx, .int .i64 a1.Mode] 55, .os []])) 8 (by kernel_rfl) (Sc.past rfl (Sc.stayD (fun _ hw => hw))) (Sc.atD (fun _ hw => hw.sel [0, 1, 2, 3, 5] (by decide) rfl)) ?_)
        refine V2.done (by kernel_rfl) ?_
        exact E.joinJ ⟨v65, l64, rfl, rfl, h⟩ ⟨rfl, rfl, trivial⟩ (fun _ hw => hw.sel [2, 4, 1, 5] (by decide) rfl)
       ·
        refine L.litAgg rfl Try.underlying48 eL55 rfl rfl rfl ?_
        intro b66
        refine L.nil (E.toV2 (stC [[6, 8], [8]] [Cls w [] [.sl (sv b66 1) 55 2 (([a1]).map TLock.row), .obj b3 [.int .i64 0, .slice none 0 0, .slice none 0 0] 50, .obj b2 [.int .i64 a1.Tx, .int .i64 a1.Mode] 55, .obj b1 [.int .i64 a0.Item, u0_0, u0_1] 50, .os []], Cls w [] [.sl (sv b66 1) 55 2 (([a1]).map TLock.row), .obj b3 [.int .i64 0, .slice none 0 0, .slice none 0 0] 50, .obj b2 [.int .i64 a1.Tx, .int .i64 a1.Mode] 55, .obj b1 [.int .i64 a0.Item, u0_0, u0_1] 50, .os []]] (Cls w [] [.sl (sv b66 1) 55 2 (([a1]).map TLock.row), .obj b3 [.int .i64 0, .slice none 0 0, .slice none 0 0] 50, .obj b2 [.int .i64 a1.Tx, .int .i64 a1.Mode] 55, .os []])) 5 (by kernel_rfl) (Sc.stay (fun _ hw => hw.sel [1, 2, 3, 4] (by decide) rfl) (Sc.stay (fun _ hw => hw.sel [1, 2, 3, 4] (by decide) rfl) (Sc.stayD (fun _ hw => hw.sel [1, 2, 3] (by decide) rfl)))) (Sc.now (by kernel_rfl) (fun _ hw => hw)) ?_)
        refine V2.eff (i := 2) (by kernel_rfl) rfl ?_
        obtain ⟨l67, e69, h⟩ := bind1S h
        refine L.does rfl en47 rfl (fun w' hw => w47_api_Lock a0.Queue u0_1 w' _ e69 (hA0_1.up.clsF hK hw rfl)) ?_
        rintro v68 _ ⟨_, rfl, rfl⟩
        refine L.nil (E.toV2 (stC [[6, 8], [8]] [Cls w [] [.sl v68 55 2 (l67.map TLock.row), .sl (sv b66 1) 55 2 (([a1]).map TLock.row), .obj b3 [.int .i64 0, .slice none 0 0, .slice none 0 0] 50, .obj b2 [.int .i64 a1.Tx, .int .i64 a1.Mode] 55, .obj b1 [.int .i64 a0.Item, u0_0, u0_1] 50, .os []], Cls w [] [.sl (sv b66 1) 55 2 (([a1]).map TLock.row), .obj b3 [.int .i64 0, .slice none 0 0, .slice none 0 0] 50, .obj b2 [.int .i64 a1.Tx, .int .i64 a1.Mode] 55, .obj b1 [.int .i64 a0.Item, u0_0, u0_1] 50, .os []]] (Cls w [] [.sl (sv b66 1) 55 2 (([a1]).map TLock.row), .obj b3 [.int .i64 0, .slice none 0 0, .slice none 0 0] 50, .obj b2 [.int .i64 a1.Tx, .int .i64 a1.Mode] 55, .os []])) 2 (by kernel_rfl) (Sc.stay (fun _ hw => hw.sel [1, 2, 3, 4, 5] (by decide) rfl) (Sc.stay (fun _ hw => hw) (Sc.stayD (fun _ hw => hw)))) (Sc.now (by kernel_rfl) (fun _ hw => hw)) ?_)
        refine V2.eff (i := 6) (by kernel_rfl) rfl ?_
        refine L.insRD (i := 0) (j := 1) (l := l67) (x1 := a1) (a := gx4) h wInsR29 (fun _ => rfl) rfl en29 rfl rfl rfl rfl rfl (by decide) ?_
        intro v71 l70 el70 h
        refine L.nil (E.toV2 (stC [[8]] [Cls w [] [.sl v71 55 2 (l70.map TLock.row), .sl (sv b66 1) 55 2 (([a1]).map TLock.row), .obj b3 [.int .i64 0, .slice none 0 0, .slice none 0 0] 50, .obj b2 [.int .i64 a1.Tx, .int .i64 a1.Mode] 55, .obj b1 [.int .i64 a0.Item, u0_0, u0_1] 50, .os []]] (Cls w [] [.sl v71 55 2 (l70.map TLock.row), .sl (sv b66 1) 55 2 (([a1]).map TLock.row), .obj b3 [.int .i64 0, .slice none 0 0, .slice none 0 0] 50, .obj b2 [.int .i64 a1.Tx, .int .i64 a1.Mode] 55, .os []])) 6 (by kernel_rfl) (Sc.past rfl (Sc.stay (fun _ hw => hw.sel [1, 2, 3, 4, 5] (by decide) rfl) (Sc.stayD (fun _ hw => hw.sel [1, 2, 3, 4] (by decide) rfl)))) (Sc.now (by kernel_rfl) (fun _ hw => hw)) ?_)
        refine V2.y (i := 7) (Nx2.of (Z := Cls w [] [.sl v71 55 2 (l70.map TLock.row), .sl (sv b66 1) 55 2 (([a1]).map TLock.row), .obj b3 [.int .i64 0, .slice none 0 0, .slice none 0 0] 50, .obj b2 [.int .i64 a1.Tx, .int .i64 a1.Mode] 55, .os []]) [] (by kernel_rfl) rfl (Zc.on (fun _ hw => hw.sel [0, 1, 2, 3, 5] (by decide) rfl) (Zc.fin (fun _ hw => hw)))) rfl rfl rfl (Y.fieldP fd50_2 rfl) ?_
        refine V2.eff (i := 8) (by kernel_rfl) rfl ?_
        refine L.storeV (i := 4) sz48 rfl rfl (fun _ hw => (As.at_ (hw.get (i := 0) rfl)).one) rfl (Nat.le_of_ble_eq_true rfl) ?_
        refine L.nil (E.toV2 (stC [] [] (Cls w [] [.sl v71 55 2 (l70.map TLock.row), .sl (sv b66 1) 55 2 (([a1]).map TLock.row), .obj b3 [.int .i64 0, .slice none 0 0, .slice none 0 0] 50, .obj b2 [.int .i64 a1.Tx, .int .i64 a1.Mode] 55, .os []])) 8 (by kernel_rfl) (Sc.past rfl (Sc.stayD (fun _ hw => hw))) (Sc.atD (fun _ hw => hw.sel [0, 1, 2, 3, 5] (by decide) rfl)) ?_)
        refine V2.done (by kernel_rfl) ?_
        exact E.joinJ ⟨v71, l70, rfl, rfl, h⟩ ⟨rfl, rfl, trivial⟩ (fun _ hw => hw.sel [2, 4, 0, 5] (by decide) rfl)
      ·
       rintro _ _ ⟨gv5, gl6, rfl, rfl, h⟩
       rw [m46_quirref_asked_K7] at h
       refine W.seq (W.region (L.y rfl (Y.loadPW (i := 1) ag50 sz50 rfl rfl rfl) ?_))
       refine L.storeC (i := 0) sz50 rfl rfl rfl rfl (fun w hw => (all1 rfl (all1 (hA0_0.up.clsF hK hw rfl).one (all1 (As.at_ (hw.get (i := 2) rfl)).one all0)))) rfl (Nat.le_of_ble_eq_true rfl) ?_
       refine L.y rfl (Y.assign rfl) ?_
       refine L.nil (E.thenN (W.ret (E.frz (i := 2) rfl rfl rfl ?_)))
       intro c45 mo46 hf47
       refine E.retR2 rfl (Rv.cellW (i := 0) ag50 sz50 rfl rfl rfl) (Rv.tmp rfl) (fun w1 hw => ?_)
       obtain rfl := Option.some.inj h
       exact ⟨_, _, rfl, ⟨c45, rfl, u0_0, gv5, rfl, hA0_0.up, (hf47 K)⟩, hw.sel [2] (by decide) rfl⟩
set_option maxRecDepth 100000 in
set_option maxHeartbeats 8000000 in
theorem w15_quirref_AskLock (a0 : (List TLockItem)) (a1 : Int) (a2 : Int) (a3 : Int) (u0 : Value) (q0 : Nat → List Value) (K : World → Prop) (w : World) (hK : Stb K w) (r : ((List TLockItem) × Bool × Int)) (h : m15_quirref_AskLock a0 a1 a2 a3 = some r) (hA0 : Fz K [] u0 3 (zr TLockItem.rowv q0 a0)) (hD0 : FzA K [] (zs TLockItem.sds q0 a0)) : Does Try.prog 15 [u0, .int .i64 a1, .int .i64 a2, .int .i64 a3] w fun u m => ∃ c, m = [.os c] ∧ ∃ v0 q0, u = .tuple #[v0, .bool r.2.1, .int .i64 r.2.2] ∧ Fz K c v0 3 (zr TLockItem.rowv q0 r.1) ∧ FzA K c (zs TLockItem.sds q0 r.1) := by
  rw [m15_quirref_AskLock] at h
  refine body (n := 81) Try.func15 rfl rfl rfl (Cls.reflF w) ?_
  refine W.seq (W.region (L.y rfl (Y.assign rfl) ?_))
  refine L.y rfl (Y.assign rfl) ?_
  refine L.y rfl (Y.assign rfl) ?_
  refine L.nil (E.thenN (W.seqJ (fun gs D => gs = [(0, u0), (1, .int .i64 a1), (2, .int .i64 a2), (3, .int .i64 a3)] ∧ D = Cls w [] [.os []] ∧ m15_quirref_AskLock_K1 a0 a2 a1 a3 = some r) ?_ ?_))
  ·
   refine W.seq (W.region (L.y rfl (Y.move rfl) ?_))
   refine L.y rfl (Y.lenMZ (row := TLockItem.rowv) (vs := q0) (l := a0) Try.underlying23 rfl (fun w' hw => (hA0.up.clsF hK hw rfl))) ?_
   refine L.y rfl (Y.move rfl) ?_
   refine L.nil (E.thenN (W.block (W.loopJ (fun m gs D => ∃ (gx35 : Int), gs = [(0, u0), (1, .int .i64 a1), (2, .int .i64 a2), (3, .int .i64 a3), (19, u0), (20, .int .i64 (a0.length : Int)), (21, .int .i64 gx35)] ∧ D = Cls w [] [.os []] ∧ m15_quirref_AskLock_L2 a0 a1 a2 a3 m gx35 = some r) ⟨0, rfl, rfl, h⟩ ⟨rfl, rfl, rfl, rfl, rfl, rfl, rfl, trivial⟩ (fun _ hw => hw) ?_)))
   rintro m _ _ ⟨gx35, rfl, rfl, h⟩
   rcases m with _ | m
   · rw [m15_quirref_AskLock_L2] at h; cases h
   rw [m15_quirref_AskLock_L2] at h
   generalize hg2 : m15_quirref_AskLock_L2 a0 a1 a2 a3 m = go2 at h
   rw [m15_quirref_AskLock_L2B] at h
   refine W.seq (W.region (L.ite h rfl (Y.lss rfl rfl) (fun c64 h => ?_) (fun c64 h => ?_)))
   ·
    refine L.nil (E.thenN (W.seq (W.condT rfl ?_)))
    refine W.skip (E.thenN (W.seq (W.block (W.seq (W.region (L.m (V := fun _ => el u0 (gx35.toNat * 3)) h rfl (Y.indexMZ (row := TLockItem.rowv) (vs := q0) (l := a0) Try.underlying23 sz50 rfl rfl (fun w' hw => (hA0.up.clsF hK hw rfl))) (fun x65 ex65 h => ?_)))))))
    refine L.y rfl (Y.loadEN (r := [.int .i64 x65.Item, gv (q0 gx35.toNat) 0, gv (q0 gx35.toNat) 1]) ag50 sz50 rfl (fun w' hw => (hA0.up.clsF hK hw rfl)) (zr_idx (vs := q0) ex65) rfl) ?_
    refine L.alloc rfl ze50 ?_
    intro b66
    refine L.storeC (i := 0) sz50 rfl rfl rfl rfl (fun w hw => (all1 rfl (all1 (((FzA.at (sds := TLockItem.sds) (vs := q0) (j := 0) (nl := 2) hD0 (fun _ _ => rfl) ex65 rfl).up).clsF hK hw rfl).one (all1 (((FzA.at (sds := TLockItem.sds) (vs := q0) (j := 1) (nl := 2) hD0 (fun _ _ => rfl) ex65 rfl).up).clsF hK hw rfl).one all0)))) rfl (Nat.le_of_ble_eq_true rfl) ?_
    refine L.nil (E.thenN (W.seq (W.region (L.y rfl (Y.fieldP fd50_2 rfl) ?_))))
    refine L.y rfl (Y.loadP (i := 0) ag48 rfl rfl rfl) ?_
    refine L.y rfl (Y.move rfl) ?_
    obtain ⟨x67, e68, h⟩ := bind1S h
    refine L.y rfl (Y.does en37 rfl (fun w' hw => (w37_quirref_holds x65.Queue a1 (gv (q0 gx35.toNat) 1) w' _ e68 (((FzA.at (sds := TLockItem.sds) (vs := q0) (j := 1) (nl := 2) hD0 (fun _ _ => rfl) ex65 rfl).up).clsF hK hw rfl)).mono (fun _ _ h => h.1))) ?_
    refine L.ite h rfl (Y.gtr rfl rfl) (fun c69 h => ?_) (fun c69 h => ?_)
    ·
     refine L.nil (E.thenN (W.condT rfl ?_))
     refine W.seq (W.region (L.y rfl (Y.assign rfl) ?_))
     refine L.y rfl (Y.assign rfl) ?_
     refine L.y rfl (Y.assign rfl) ?_
     refine L.nil (E.thenN (W.ret (E.blockR (E.thenR (E.KLR (E.blockR (E.KSR (E.ret3 rfl rfl rfl rfl (fun w1 hw => ?_)))))))))
     obtain rfl := Option.some.inj h
     exact ⟨_, _, rfl, ⟨[], rfl, (.slice none 0 0), (fun _ => []), rfl, Fz.nil, FzA.nil⟩, hw.sel [1] (by decide) rfl⟩
    ·
     refine L.nil (E.thenN (W.condF rfl ?_))
     refine W.skip (E.blockN (E.thenN (W.region (L.m (V := fun x70 => .int .i64 x70) h rfl (Y.addM rfl rfl) (fun x70 ex70 h => ?_)))))
     refine L.y rfl (Y.move rfl) ?_
     exact L.nil (E.againJ ⟨x70, rfl, rfl, by rw [hg2]; exact h⟩ (Nat.lt_succ_self _) ⟨rfl, rfl, rfl, rfl, rfl, rfl, rfl, trivial⟩ (fun _ hw => hw.sel [1] (by decide) rfl))
   ·
    refine L.nil (E.thenN (W.seq (W.condF rfl ?_)))
    exact W.exit (E.thenX (E.KLX (E.blockX (E.joinJ ⟨rfl, rfl, h⟩ ⟨rfl, rfl, rfl, rfl, trivial⟩ (fun _ hw => hw)))))
  ·
   rintro _ _ ⟨rfl, rfl, h⟩
   rw [m15_quirref_AskLock_K1] at h
   refine W.seq (W.region (L.y rfl (Y.move rfl) ?_))
   refine L.y rfl (Y.move rfl) ?_
   refine L.y rfl (Y.build (cells := #[.int .i64 a1, .int .i64 a3]) rfl (by kernel_rfl)) ?_
   refine L.alloc rfl ze55 ?_
   intro b1
   refine L.store (i := 0) (vs := [.int .i64 a1, .int .i64 a3]) sz55 rfl rfl rfl rfl (by simp [Value.oneCell', Value.cells, st, pt, el]) rfl (Nat.le_of_ble_eq_true rfl) ?_
   refine L.nil (E.thenN (W.seq (W.region (L.y rfl (Y.assign rfl) ?_))))
   refine L.nil (E.thenN (W.seq (W.region (L.y rfl (Y.assign rfl) ?_))))
   refine L.y rfl (Y.assign rfl) ?_
   refine L.nil (E.thenN (W.seqJ (fun gs D => ∃ (gc1 : List Ob) (gv2 : Value) (gl3 : (List TLockItem)) (gq4 : Nat → List Value) (gu6 : Unit) (gb7 : Bool) (gb8 : Bool), gs = [(2, .int .i64 a2), (13, pt b1 0), (14, gv2), (15, .bool gb7), (16, .bool gb8)] ∧ D = Cls w [] [.obj b1 [.int .i64 a1, .int .i64 a3] 55, .sl gv2 50 3 (zr TLockItem.rowv gq4 gl3), .os gc1] ∧ FzA K gc1 (zs TLockItem.sds gq4 gl3) ∧ m15_quirref_AskLock_K2 a2 a1 a3 gl3 gb7 gb8 = some r) ?_ ?_))
   ·
    refine W.seq (W.region (L.y rfl (Y.move rfl) ?_))
    refine L.y rfl (Y.lenMZ (row := TLockItem.rowv) (vs := q0) (l := a0) Try.underlying23 rfl (fun w' hw => (hA0.up.clsF hK hw rfl))) ?_
    refine L.y rfl (Y.move rfl) ?_
    refine L.nil (E.thenN (W.block (W.nilSl 50 3 ?_)))
    refine W.loopJ (fun m gs D => ∃ (gc9 : List Ob) (gv10 : Value) (gl11 : (List TLockItem)) (gq12 : Nat → List Value) (gu14 : Unit) (gb15 : Bool) (gb16 : Bool) (gx17 : Int), gs = [(2, .int .i64 a2), (13, pt b1 0), (14, gv10), (15, .bool gb15), (16, .bool gb16), (34, u0), (35, .int .i64 (a0.length : Int)), (36, .int .i64 gx17)] ∧ D = Cls w [] [.obj b1 [.int .i64 a1, .int .i64 a3] 55, .sl gv10 50 3 (zr TLockItem.rowv gq12 gl11), .os gc9] ∧ FzA K gc9 (zs TLockItem.sds gq12 gl11) ∧ m15_quirref_AskLock_L1 a0 a2 a1 a3 m gl11 gb15 gb16 gx17 = some r) ⟨[], .slice none 0 0, [], (fun _ => []), (), false, false, 0, rfl, rfl, FzA.nil, h⟩ ⟨rfl, rfl, rfl, rfl, rfl, rfl, rfl, rfl, trivial⟩ (fun _ hw => hw.sel [1, 0, 2] (by decide) rfl) ?_
    rintro m _ _ ⟨gc9, gv10, gl11, gq12, gu14, gb15, gb16, gx17, rfl, rfl, hG13, h⟩
    rcases m with _ | m
    · rw [m15_quirref_AskLock_L1] at h; cases h
    rw [m15_quirref_AskLock_L1] at h
    generalize hg1 : m15_quirref_AskLock_L1 a0 a2 a1 a3 m = go1 at h
    rw [m15_quirref_AskLock_L1B] at h
    refine W.seq (W.region (L.ite h rfl (Y.lss rfl rfl) (fun c19 h => ?_) (fun c19 h => ?_)))
    ·
     refine L.nil (E.thenN (W.seq (W.condT rfl ?_)))
     refine W.skip (E.thenN (W.seq (W.block (W.seq (W.region (L.m (V := fun _ => el u0 (gx17.toNat * 3)) h rfl (Y.indexMZ (row := TLockItem.rowv) (vs := q0) (l := a0) Try.underlying23 sz50 rfl rfl (fun w' hw => (hA0.up.clsF hK hw rfl))) (fun x20 ex20 h => ?_)))))))
     refine L.y rfl (Y.loadEN (r := [.int .i64 x20.Item, gv (q0 gx17.toNat) 0, gv (q0 gx17.toNat) 1]) ag50 sz50 rfl (fun w' hw => (hA0.up.clsF hK hw rfl)) (zr_idx (vs := q0) ex20) rfl) ?_
     refine L.alloc rfl ze50 ?_
     intro b21
     refine L.storeC (i := 0) sz50 rfl rfl rfl rfl (fun w hw => (all1 rfl (all1 (((FzA.at (sds := TLockItem.sds) (vs := q0) (j := 0) (nl := 2) hD0 (fun _ _ => rfl) ex20 rfl).up).clsF hK hw rfl).one (all1 (((FzA.at (sds := TLockItem.sds) (vs := q0) (j := 1) (nl := 2) hD0 (fun _ _ => rfl) ex20 rfl).up).clsF hK hw rfl).one all0)))) rfl (Nat.le_of_ble_eq_true rfl) ?_
     refine L.nil (E.thenN (W.seqJ (fun gs D => ∃ (gc18 : List Ob) (gv19 : Value) (gl20 : (List TLockItem)) (gq21 : Nat → List Value) (gu23 : Unit) (gb24 : Bool) (gb25 : Bool) (gx26 : Int) (gv27 : Value) (gl28 : (List TLock)) (gu30 : Unit) (gv31 : Value) (gl32 : (List TLock)) (gu34 : Unit), gs = [(2, .int .i64 a2), (13, pt b1 0), (14, gv19), (15, .bool gb24), (16, .bool gb25), (18, pt b21 0), (34, u0), (35, .int .i64 (a0.length : Int)), (36, .int .i64 gx17)] ∧ D = Cls w [] [.obj b21 [.int .i64 gx26, gv27, gv31] 50, .obj b1 [.int .i64 a1, .int .i64 a3] 55, .sl gv19 50 3 (zr TLockItem.rowv gq21 gl20), .os gc18] ∧ FzA K gc18 (zs TLockItem.sds gq21 gl20) ∧ Fz K gc18 gv27 2 (gl28.map TLock.row) ∧ Fz K gc18 gv31 2 (gl32.map TLock.row) ∧ m15_quirref_AskLock_K3 gx17 go1 gl20 gb24 gb25 gx26 gl28 gl32 = some r) ?_ ?_))
     ·
      refine W.seq (W.region (L.iteB h rfl (Y.move rfl) (fun c38 h => ?_) (fun c38 h => ?_)))
      ·
       refine L.y rfl (Y.not rfl) ?_
       refine L.y rfl (Y.move rfl) ?_
       refine L.pass rfl rfl (by nofun) ?_
       refine L.pass rfl rfl (by nofun) ?_
       refine L.pass rfl rfl (by nofun) ?_
       refine L.pass rfl rfl (by nofun) ?_
       refine L.y rfl (Y.pickF rfl rfl) ?_
       refine L.nil (E.thenN (W.condF rfl ?_))
       exact W.skip (E.joinJ ⟨gc9, gv10, gl11, gq12, (), gb15, gb16, x20.Item, gv (q0 gx17.toNat) 0, x20.Held, (), gv (q0 gx17.toNat) 1, x20.Queue, (), rfl, rfl, hG13, (FzA.at (sds := TLockItem.sds) (vs := q0) (j := 0) (nl := 2) hD0 (fun _ _ => rfl) ex20 rfl).up, (FzA.at (sds := TLockItem.sds) (vs := q0) (j := 1) (nl := 2) hD0 (fun _ _ => rfl) ex20 rfl).up, h⟩ ⟨rfl, rfl, rfl, rfl, rfl, rfl, rfl, rfl, rfl, trivial⟩ (fun _ hw => hw))
      ·
       refine L.y rfl (Y.not rfl) ?_
       refine L.y rfl (Y.move rfl) ?_
       refine L.take rfl (L.y rfl (Y.fieldP fd50_0 rfl) ?_)
       refine L.take rfl (L.y rfl (Y.loadP (i := 0) ag3 rfl rfl rfl) ?_)
       refine L.take rfl (L.y rfl (Y.move rfl) ?_)
       refine L.take rfl (L.ite h rfl (Y.geq rfl rfl) (fun c39 h => ?_) (fun c39 h => ?_))
       ·
        refine L.y rfl (Y.pickT rfl rfl) ?_
        refine L.nil (E.thenN (W.condT rfl ?_))
        refine W.seq (W.region (L.y rfl (Y.assign rfl) ?_))
        refine L.nil (E.thenN (W.seq (W.region (L.y rfl (Y.fieldP fd50_0 rfl) ?_))))
        refine L.y rfl (Y.loadP (i := 0) ag3 rfl rfl rfl) ?_
        refine L.y rfl (Y.move rfl) ?_
        refine L.ite h rfl (Y.gtr rfl rfl) (fun c40 h => ?_) (fun c40 h => ?_)
        ·
         refine L.nil (E.thenN (W.condT rfl ?_))
         refine W.seq (W.region (L.y rfl (Y.move rfl) ?_))
         refine L.y rfl (Y.move rfl) ?_
         refine L.y rfl (Y.loadPW (i := 1) ag55 sz55 rfl rfl rfl) ?_
         refine L.litAgg rfl Try.underlying48 eL55 rfl rfl rfl ?_
         intro b41
         refine L.y rfl (Y.buildC (cells := #[.int .i64 a2, (sv b41 1), .slice none 0 0]) rfl (fun w hw => by rcases ((As.at_ (hw.get (i := 0) rfl))).shape with ⟨h0, _⟩ | ⟨_, _, h0, _, _⟩ <;> simp only [h0] <;> kernel_rfl)) ?_
         refine L.frz (i := 0) rfl rfl rfl ?_
         intro c43 mo44 hf45
         refine L.litAgg rfl Try.underlying23 eL50 rfl rfl rfl ?_
         intro b46
         have hz47 : FzA K c43 (zs TLockItem.sds (fun _ => [(sv b41 1), .slice none 0 0]) [(⟨a2, [(⟨a1, a3⟩ : TLock)], []⟩ : TLockItem)]) := FzA.app (FzA.cons (hf45 K) (FzA.cons Fz.nil FzA.nil)) FzA.nil
         refine L.to (D := Cls w [] [.sl (sv b46 1) 50 3 (zr TLockItem.rowv (fun _ => [(sv b41 1), .slice none 0 0]) ([(⟨a2, [(⟨a1, a3⟩ : TLock)], []⟩ : TLockItem)])), .obj b21 [.int .i64 x20.Item, gv (q0 gx17.toNat) 0, gv (q0 gx17.toNat) 1] 50, .obj b1 [.int .i64 a1, .int .i64 a3] 55, .sl gv10 50 3 (zr TLockItem.rowv gq12 gl11), .os c43]) (fun _ hw => hw) ?_
         refine L.appHz (i := 3) (row := TLockItem.rowv) (sds := TLockItem.sds) (vs := gq12) (vs2 := (fun _ => [(sv b41 1), .slice none 0 0])) (l := gl11) (l2 := [(⟨a2, [(⟨a1, a3⟩ : TLock)], []⟩ : TLockItem)]) h rfl Try.underlying23 eL50 rfl rfl rfl rfl (fun w hw => As.at_ (hw.get (i := 0) rfl)) plz_TLockItem hK rfl (hG13.mo mo44) hz47 ?_
         intro v49 q50 l48 el48 h hz51
         refine L.y rfl (Y.assign rfl) ?_
         refine L.nil (E.thenN (W.region (L.y rfl (Y.assign rfl) ?_)))
         exact L.nil (E.joinJ ⟨c43, v49, l48, q50, (), true, true, x20.Item, gv (q0 gx17.toNat) 0, x20.Held, (), gv (q0 gx17.toNat) 1, x20.Queue, (), rfl, rfl, hz51, (FzA.at (sds := TLockItem.sds) (vs := q0) (j := 0) (nl := 2) hD0 (fun _ _ => rfl) ex20 rfl).up, (FzA.at (sds := TLockItem.sds) (vs := q0) (j := 1) (nl := 2) hD0 (fun _ _ => rfl) ex20 rfl).up, h⟩ ⟨rfl, rfl, rfl, rfl, rfl, rfl, rfl, rfl, rfl, trivial⟩ (fun _ hw => hw.sel [2, 3, 0, 4] (by decide) rfl))
        ·
         refine L.nil (E.thenN (W.condF rfl ?_))
         refine W.region (L.y rfl (Y.loadPW (i := 0) ag50 sz50 rfl rfl rfl) ?_)
         refine L.y rfl (Y.loadPW (i := 1) ag55 sz55 rfl rfl rfl) ?_
         obtain ⟨x52, b57, e58, h⟩ := bind2S h
         refine L.doesF rfl en46 rfl rfl hK (fun w' hw hs => w46_quirref_asked x20 (⟨a1, a3⟩ : TLock) (gv (q0 gx17.toNat) 0) (gv (q0 gx17.toNat) 1) _ w' hs _ e58 ((FzA.at (sds := TLockItem.sds) (vs := q0) (j := 0) (nl := 2) hD0 (fun _ _ => rfl) ex20 rfl).up).tok ((FzA.at (sds := TLockItem.sds) (vs := q0) (j := 1) (nl := 2) hD0 (fun _ _ => rfl) ex20 rfl).up).tok) ?_
         rintro _ c59 c60 mo61 mn62 ma63 ⟨v53, v55, rfl, f54, f56⟩
         refine L.y rfl (Y.move rfl) ?_
         refine L.y rfl (Y.extract rfl rfl) ?_
         refine L.y rfl (Y.extract rfl rfl) ?_
         refine L.storeC (i := 0) sz50 rfl rfl rfl rfl (fun w hw => (all1 rfl (all1 ((mn62 f54).clsF hK hw rfl).one (all1 ((mn62 f56).clsF hK hw rfl).one all0)))) rfl (Nat.le_of_ble_eq_true rfl) ?_
         refine L.y rfl (Y.assign rfl) ?_
         exact L.nil (E.joinJ ⟨c60, gv10, gl11, gq12, (), true, b57, x52.Item, v53, x52.Held, (), v55, x52.Queue, (), rfl, rfl, (hG13.mo mo61), (mn62 f54), (mn62 f56), h⟩ ⟨rfl, rfl, rfl, rfl, rfl, rfl, rfl, rfl, rfl, trivial⟩ (fun _ hw => hw))
       ·
        refine L.y rfl (Y.pickT rfl rfl) ?_
        refine L.nil (E.thenN (W.condF rfl ?_))
        exact W.skip (E.joinJ ⟨gc9, gv10, gl11, gq12, (), gb15, gb16, x20.Item, gv (q0 gx17.toNat) 0, x20.Held, (), gv (q0 gx17.toNat) 1, x20.Queue, (), rfl, rfl, hG13, (FzA.at (sds := TLockItem.sds) (vs := q0) (j := 0) (nl := 2) hD0 (fun _ _ => rfl) ex20 rfl).up, (FzA.at (sds := TLockItem.sds) (vs := q0) (j := 1) (nl := 2) hD0 (fun _ _ => rfl) ex20 rfl).up, h⟩ ⟨rfl, rfl, rfl, rfl, rfl, rfl, rfl, rfl, rfl, trivial⟩ (fun _ hw => hw))
     ·
      rintro _ _ ⟨gc18, gv19, gl20, gq21, gu23, gb24, gb25, gx26, gv27, gl28, gu30, gv31, gl32, gu34, rfl, rfl, hG22, hG29, hG33, h⟩
      rw [m15_quirref_AskLock_K3] at h
      rcases gb24 with _ | _
      ·
       replace h := iteF h
       refine W.region (L.y rfl (Y.move rfl) ?_)
       refine L.y rfl (Y.loadPW (i := 0) ag50 sz50 rfl rfl rfl) ?_
       refine L.litAgg rfl Try.underlying23 eL50 rfl rfl rfl ?_
       intro b23
       have hz24 : FzA K gc18 (zs TLockItem.sds (fun _ => [gv27, gv31]) [(⟨gx26, gl28, gl32⟩ : TLockItem)]) := FzA.app (FzA.cons hG29 (FzA.cons hG33 FzA.nil)) FzA.nil
       refine L.to (D := Cls w [] [.sl (sv b23 1) 50 3 (zr TLockItem.rowv (fun _ => [gv27, gv31]) ([(⟨gx26, gl28, gl32⟩ : TLockItem)])), .obj b21 [.int .i64 gx26, gv27, gv31] 50, .obj b1 [.int .i64 a1, .int .i64 a3] 55, .sl gv19 50 3 (zr TLockItem.rowv gq21 gl20), .os gc18]) (fun _ hw => hw) ?_
       refine L.appHz (i := 3) (row := TLockItem.rowv) (sds := TLockItem.sds) (vs := gq21) (vs2 := (fun _ => [gv27, gv31])) (l := gl20) (l2 := [(⟨gx26, gl28, gl32⟩ : TLockItem)]) h rfl Try.underlying23 eL50 rfl rfl rfl rfl (fun w hw => As.at_ (hw.get (i := 0) rfl)) plz_TLockItem hK rfl hG22 hz24 ?_
       intro v26 q27 l25 el25 h hz28
       refine L.y rfl (Y.assign rfl) ?_
       refine L.nil (E.blockN (E.thenN (W.region (L.m (V := fun x29 => .int .i64 x29) h rfl (Y.addM rfl rfl) (fun x29 ex29 h => ?_)))))
       refine L.y rfl (Y.move rfl) ?_
       exact L.nil (E.againJ ⟨gc18, v26, l25, q27, (), false, gb25, x29, rfl, rfl, hz28, by rw [hg1]; exact h⟩ (Nat.lt_succ_self _) ⟨rfl, rfl, rfl, rfl, rfl, rfl, rfl, rfl, trivial⟩ (fun _ hw => hw.sel [3, 0, 4] (by decide) rfl))
      ·
       replace h := iteT h
       refine W.region (L.y rfl (Y.move rfl) ?_)
       refine L.y rfl (Y.loadPW (i := 0) ag50 sz50 rfl rfl rfl) ?_
       refine L.litAgg rfl Try.underlying23 eL50 rfl rfl rfl ?_
       intro b31
       have hz32 : FzA K gc18 (zs TLockItem.sds (fun _ => [gv27, gv31]) [(⟨gx26, gl28, gl32⟩ : TLockItem)]) := FzA.app (FzA.cons hG29 (FzA.cons hG33 FzA.nil)) FzA.nil
       refine L.to (D := Cls w [] [.sl (sv b31 1) 50 3 (zr TLockItem.rowv (fun _ => [gv27, gv31]) ([(⟨gx26, gl28, gl32⟩ : TLockItem)])), .obj b21 [.int .i64 gx26, gv27, gv31] 50, .obj b1 [.int .i64 a1, .int .i64 a3] 55, .sl gv19 50 3 (zr TLockItem.rowv gq21 gl20), .os gc18]) (fun _ hw => hw) ?_
       refine L.appHz (i := 3) (row := TLockItem.rowv) (sds := TLockItem.sds) (vs := gq21) (vs2 := (fun _ => [gv27, gv31])) (l := gl20) (l2 := [(⟨gx26, gl28, gl32⟩ : TLockItem)]) h rfl Try.underlying23 eL50 rfl rfl rfl rfl (fun w hw => As.at_ (hw.get (i := 0) rfl)) plz_TLockItem hK rfl hG22 hz32 ?_
       intro v34 q35 l33 el33 h hz36
       refine L.y rfl (Y.assign rfl) ?_
       refine L.nil (E.blockN (E.thenN (W.region (L.m (V := fun x37 => .int .i64 x37) h rfl (Y.addM rfl rfl) (fun x37 ex37 h => ?_)))))
       refine L.y rfl (Y.move rfl) ?_
       exact L.nil (E.againJ ⟨gc18, v34, l33, q35, (), true, gb25, x37, rfl, rfl, hz36, by rw [hg1]; exact h⟩ (Nat.lt_succ_self _) ⟨rfl, rfl, rfl, rfl, rfl, rfl, rfl, rfl, trivial⟩ (fun _ hw => hw.sel [3, 0, 4] (by decide) rfl))
    ·
     refine L.nil (E.thenN (W.seq (W.condF rfl ?_)))
     exact W.exit (E.thenX (E.KLX (E.blockX (E.joinJ ⟨gc9, gv10, gl11, gq12, (), gb15, gb16, rfl, rfl, hG13, h⟩ ⟨rfl, rfl, rfl, rfl, rfl, trivial⟩ (fun _ hw => hw)))))
   ·
    rintro _ _ ⟨gc1, gv2, gl3, gq4, gu6, gb7, gb8, rfl, rfl, hG5, h⟩
    rw [m15_quirref_AskLock_K2] at h
    rcases gb7 with _ | _
    ·
     replace h := iteF h
     refine W.seq (W.seq (W.region (L.y rfl (Y.move rfl) ?_)))
     refine L.y rfl (Y.not rfl) ?_
     refine L.nil (E.thenN (W.condT rfl ?_))
     refine W.seq (W.region (L.y rfl (Y.move rfl) ?_))
     refine L.y rfl (Y.move rfl) ?_
     refine L.y rfl (Y.loadPW (i := 0) ag55 sz55 rfl rfl rfl) ?_
     refine L.litAgg rfl Try.underlying48 eL55 rfl rfl rfl ?_
     intro b2
     refine L.y rfl (Y.buildC (cells := #[.int .i64 a2, (sv b2 1), .slice none 0 0]) rfl (fun w hw => by rcases ((As.at_ (hw.get (i := 0) rfl))).shape with ⟨h0, _⟩ | ⟨_, _, h0, _, _⟩ <;> simp only [h0] <;> kernel_rfl)) ?_
     refine L.frz (i := 0) rfl rfl rfl ?_
     intro c4 mo5 hf6
     refine L.litAgg rfl Try.underlying23 eL50 rfl rfl rfl ?_
     intro b7
     have hz8 : FzA K c4 (zs TLockItem.sds (fun _ => [(sv b2 1), .slice none 0 0]) [(⟨a2, [(⟨a1, a3⟩ : TLock)], []⟩ : TLockItem)]) := FzA.app (FzA.cons (hf6 K) (FzA.cons Fz.nil FzA.nil)) FzA.nil
     refine L.to (D := Cls w [] [.sl (sv b7 1) 50 3 (zr TLockItem.rowv (fun _ => [(sv b2 1), .slice none 0 0]) ([(⟨a2, [(⟨a1, a3⟩ : TLock)], []⟩ : TLockItem)])), .obj b1 [.int .i64 a1, .int .i64 a3] 55, .sl gv2 50 3 (zr TLockItem.rowv gq4 gl3), .os c4]) (fun _ hw => hw) ?_
     refine L.appHz (i := 2) (row := TLockItem.rowv) (sds := TLockItem.sds) (vs := gq4) (vs2 := (fun _ => [(sv b2 1), .slice none 0 0])) (l := gl3) (l2 := [(⟨a2, [(⟨a1, a3⟩ : TLock)], []⟩ : TLockItem)]) h rfl Try.underlying23 eL50 rfl rfl rfl rfl (fun w hw => As.at_ (hw.get (i := 0) rfl)) plz_TLockItem hK rfl (hG5.mo mo5) hz8 ?_
     intro v10 q11 l9 el9 h hz12
     refine L.y rfl (Y.assign rfl) ?_
     refine L.y rfl (Y.assign rfl) ?_
     refine L.y rfl (Y.assign rfl) ?_
     refine L.nil (E.thenN (W.ret (E.thenR (E.frz (i := 0) rfl rfl rfl ?_))))
     intro c13 mo14 hf15
     refine E.ret3 rfl rfl rfl rfl (fun w1 hw => ?_)
     obtain rfl := Option.some.inj h
     exact ⟨_, _, rfl, ⟨c13, rfl, v10, q11, rfl, (hf15 K), (hz12.mo mo14)⟩, hw.sel [2] (by decide) rfl⟩
    ·
     replace h := iteT h
     refine W.seq (W.seq (W.region (L.y rfl (Y.move rfl) ?_)))
     refine L.y rfl (Y.not rfl) ?_
     refine L.nil (E.thenN (W.condF rfl ?_))
     refine W.skip (E.thenN (W.seq (W.region (L.y rfl (Y.move rfl) ?_))))
     refine L.y rfl (Y.move rfl) ?_
     refine L.y rfl (Y.assign rfl) ?_
     refine L.y rfl (Y.assign rfl) ?_
     refine L.y rfl (Y.assign rfl) ?_
     refine L.nil (E.thenN (W.ret (E.frz (i := 1) rfl rfl rfl ?_)))
     intro c16 mo17 hf18
     refine E.ret3 rfl rfl rfl rfl (fun w1 hw => ?_)
     obtain rfl := Option.some.inj h
     exact ⟨_, _, rfl, ⟨c16, rfl, gv2, gq4, rfl, (hf18 K), (hG5.mo mo17)⟩, hw.sel [1] (by decide) rfl⟩
end Go.Proofs.Ytgkdimboofglfaa
