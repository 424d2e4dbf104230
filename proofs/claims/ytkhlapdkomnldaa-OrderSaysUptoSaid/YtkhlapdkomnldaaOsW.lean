/-
  Walks, printed by a program of mine.
  Conditions: none.
-/
import Derived.Test.YtkhlapdkomnldaaOsW1
import Derived.Test.YtkhlapdkomnldaaChecked
import Derived.KernelRfl
import Derived.Test.YtkhlapdkomnldaaSo
import Derived.Test.YtkhlapdkomnldaaOsO
namespace Go.Proofs.Ytkhlapdkomnldaa
open Go.S
set_option linter.unusedVariables false
set_option linter.unusedSimpArgs false
set_option maxRecDepth 100000 in
set_option maxHeartbeats 8000000 in
theorem w70_quirref_hangs (a0 : TStory) (a1 : Int) (a2 : Int) (a3 : Int) (u0_0 : Value) (q0_0 : Nat → List Value) (u0_2 : Value) (q0_2 : Nat → List Value) (w : World) (r : Bool) (h : m70_quirref_hangs a0 a1 a2 a3 = some r) (hA0_0 : At w u0_0 2 (zr TTale.rowv q0_0 a0.Tales)) (hD0_0 : ∀ d ∈ zs TTale.sds q0_0 a0.Tales, At w d.v d.k d.rows) (hA0_2 : At w u0_2 1 (zr svRow q0_2 a0.Versions)) (hD0_2 : ∀ d ∈ zs (svSd 3 1 I) q0_2 a0.Versions, At w d.v d.k d.rows) : Does Try.prog 70 [.agg #[u0_0, u0_2], .int .i64 a1, .int .i64 a2, .int .i64 a3] w fun u m => u = .bool r ∧ m = [] := by
  rw [m70_quirref_hangs] at h
  refine body (n := 104) Try.func70 rfl rfl rfl (Cls.refl w) ?_
  refine W.seq (W.region (L.box rfl rfl ?_))
  intro b1
  refine L.y rfl (Y.assign rfl) ?_
  refine L.nil (E.thenN (W.seqJ (fun gs D => gs = [(1, .int .i64 a1), (2, .int .i64 a2), (3, .int .i64 a3), (4, pt b1 0)] ∧ D = Cls w [] [.obj b1 [u0_0, u0_2] 47] ∧ m70_quirref_hangs_K1 a0 a3 a2 a1 = some r) ?_ ?_))
  ·
   refine W.seq (W.region (L.y rfl (Y.move rfl) ?_))
   refine L.ite h rfl (Y.eql rfl rfl) (fun c29 h => ?_) (fun c29 h => ?_)
   ·
    refine L.nil (E.thenN (W.condT rfl ?_))
    refine W.seqJ (fun gs D => gs = [] ∧ D = Cls w [] [] ∧ m70_quirref_hangs_K6 = some r) ?_ ?_
    ·
     refine W.seq (W.region (L.y rfl (Y.fieldP fd47_1 rfl) ?_))
     refine L.y rfl (Y.loadP (i := 0) ag45 rfl rfl rfl) ?_
     refine L.y rfl (Y.lenMZ (row := svRow) (vs := q0_2) (l := a0.Versions) Try.underlying45 rfl (fun w' hw => hA0_2.cls0 hw)) ?_
     refine L.y rfl (Y.move rfl) ?_
     refine L.nil (E.thenN (W.block (W.loopJ (fun m gs D => ∃ (gx5 : Int), gs = [(1, .int .i64 a1), (2, .int .i64 a2), (19, u0_2), (20, .int .i64 (a0.Versions.length : Int)), (21, .int .i64 gx5)] ∧ D = Cls w [] [] ∧ m70_quirref_hangs_L3 a0 a1 a2 m gx5 = some r) ⟨0, rfl, rfl, h⟩ ⟨rfl, rfl, rfl, rfl, rfl, trivial⟩ (fun _ hw => hw.sel [] (by decide) rfl) ?_)))
     rintro m _ _ ⟨gx5, rfl, rfl, h⟩
     rcases m with _ | m
     · rw [m70_quirref_hangs_L3] at h; cases h
     rw [m70_quirref_hangs_L3] at h
     generalize hg3 : m70_quirref_hangs_L3 a0 a1 a2 m = go3 at h
     rw [m70_quirref_hangs_L3B] at h
     refine W.seq (W.region (L.ite h rfl (Y.lss rfl rfl) (fun c30 h => ?_) (fun c30 h => ?_)))
     ·
      refine L.nil (E.thenN (W.seq (W.condT rfl ?_)))
      refine W.skip (E.thenN (W.seqJ (fun gs D => gs = [(1, .int .i64 a1), (2, .int .i64 a2), (19, u0_2), (20, .int .i64 (a0.Versions.length : Int)), (21, .int .i64 gx5)] ∧ D = Cls w [] [] ∧ m70_quirref_hangs_K7 gx5 go3 = some r) ?_ ?_))
      ·
       refine W.block (W.seq (W.region (L.m (V := fun _ => el u0_2 (gx5.toNat * 1)) h rfl (Y.indexMZ (row := svRow) (vs := q0_2) (l := a0.Versions) Try.underlying45 sz28 rfl rfl (fun w' hw => hA0_2.cls0 hw)) (fun x32 ex32 h => ?_))))
       refine L.y rfl (Y.loadE1 (u := gv (q0_2 gx5.toNat) 0) ag28 rfl (fun w' hw => hA0_2.cls0 hw) (zr_idx (vs := q0_2) ex32)) ?_
       refine L.y rfl (Y.assign rfl) ?_
       refine L.nil (E.thenN (W.seq (W.region (L.y rfl (Y.move rfl) ?_))))
       refine L.y rfl (Y.lenM (g := I) (l := x32) Try.underlying28 rfl (fun w' hw => (zAt (sds := (svSd 3 1 I)) (vs := q0_2) (j := 0) hD0_2 (fun _ _ => rfl) ex32 rfl).cls0 hw)) ?_
       refine L.y rfl (Y.move rfl) ?_
       refine L.nil (E.thenN (W.block (W.loopJ (fun m gs D => ∃ (gx6 : Int), gs = [(1, .int .i64 a1), (2, .int .i64 a2), (10, gv (q0_2 gx5.toNat) 0), (19, u0_2), (20, .int .i64 (a0.Versions.length : Int)), (21, .int .i64 gx5), (26, .int .i64 (x32.length : Int)), (27, .int .i64 gx6)] ∧ D = Cls w [] [] ∧ m70_quirref_hangs_L4 x32 a1 a2 gx5 go3 m gx6 = some r) ⟨0, rfl, rfl, h⟩ ⟨rfl, rfl, rfl, rfl, rfl, rfl, rfl, rfl, trivial⟩ (fun _ hw => hw) ?_)))
       rintro m _ _ ⟨gx6, rfl, rfl, h⟩
       rcases m with _ | m
       · rw [m70_quirref_hangs_L4] at h; cases h
       rw [m70_quirref_hangs_L4] at h
       generalize hg4 : m70_quirref_hangs_L4 x32 a1 a2 gx5 go3 m = go4 at h
       rw [m70_quirref_hangs_L4B] at h
       refine W.seq (W.region (L.ite h rfl (Y.lss rfl rfl) (fun c33 h => ?_) (fun c33 h => ?_)))
       ·
        refine L.nil (E.thenN (W.seq (W.condT rfl ?_)))
        refine W.skip (E.thenN (W.seq (W.block (W.seq (W.region (L.y rfl (Y.move rfl) ?_))))))
        refine L.y rfl (Y.assign rfl) ?_
        refine L.nil (E.thenN (W.seq (W.region (L.cutJ 11 (fun gs D => ∃ (gb7 : Bool), gs = [(1, .int .i64 a1), (2, .int .i64 a2), (10, gv (q0_2 gx5.toNat) 0), (11, .int .i64 gx6), (19, u0_2), (20, .int .i64 (a0.Versions.length : Int)), (21, .int .i64 gx5), (26, .int .i64 (x32.length : Int)), (27, .int .i64 gx6), (40, .bool gb7)] ∧ D = Cls w [] [] ∧ m70_quirref_hangs_K8 x32 gx6 a2 go4 gb7 = some r) ?_ ?_))))
        ·
         refine L.y rfl (Y.move rfl) ?_
         refine L.ite h rfl (Y.gtr rfl rfl) (fun c38 h => ?_) (fun c38 h => ?_)
         ·
          refine L.y rfl (Y.move rfl) ?_
          refine L.take rfl (L.y rfl (Y.move rfl) ?_)
          refine L.take rfl (L.y rfl (Y.move rfl) ?_)
          refine L.take rfl (L.m (V := fun x39 => .int .i64 x39) h rfl (Y.subM rfl rfl) (fun x39 ex39 h => ?_))
          refine L.take rfl (L.m (V := fun _ => el (gv (q0_2 gx5.toNat) 0) (x39.toNat * 1)) h rfl (Y.indexM (g := I) (l := x32) Try.underlying28 sz3 rfl rfl (fun w' hw => (zAt (sds := (svSd 3 1 I)) (vs := q0_2) (j := 0) hD0_2 (fun _ _ => rfl) ex32 rfl).cls0 hw)) (fun x40 ex40 h => ?_))
          refine L.take rfl (L.y rfl (Y.loadE1 (u := .int .i64 x40) ag3 rfl (fun w' hw => (zAt (sds := (svSd 3 1 I)) (vs := q0_2) (j := 0) hD0_2 (fun _ _ => rfl) ex32 rfl).cls0 hw) (idx_map ex40)) ?_)
          refine L.take rfl (L.y rfl (Y.move rfl) ?_)
          refine L.take rfl (L.ite h rfl (Y.eql rfl rfl) (fun c41 h => ?_) (fun c41 h => ?_))
          ·
           refine L.y rfl (Y.pickT rfl rfl) ?_
           exact L.nil (E.joinJ ⟨true, rfl, rfl, h⟩ ⟨rfl, rfl, rfl, rfl, rfl, rfl, rfl, rfl, rfl, rfl, trivial⟩ (fun _ hw => hw))
          ·
           refine L.y rfl (Y.pickT rfl rfl) ?_
           exact L.nil (E.joinJ ⟨false, rfl, rfl, h⟩ ⟨rfl, rfl, rfl, rfl, rfl, rfl, rfl, rfl, rfl, rfl, trivial⟩ (fun _ hw => hw))
         ·
          refine L.y rfl (Y.move rfl) ?_
          refine L.pass rfl rfl (by nofun) ?_
          refine L.pass rfl rfl (by nofun) ?_
          refine L.pass rfl rfl (by nofun) ?_
          refine L.pass rfl rfl (by nofun) ?_
          refine L.pass rfl rfl (by nofun) ?_
          refine L.pass rfl rfl (by nofun) ?_
          refine L.pass rfl rfl (by nofun) ?_
          refine L.y rfl (Y.pickF rfl rfl) ?_
          exact L.nil (E.joinJ ⟨false, rfl, rfl, h⟩ ⟨rfl, rfl, rfl, rfl, rfl, rfl, rfl, rfl, rfl, rfl, trivial⟩ (fun _ hw => hw))
        ·
         rintro _ _ ⟨gb7, rfl, rfl, h⟩
         rw [m70_quirref_hangs_K8] at h
         rcases gb7 with _ | _
         ·
          replace h := iteF h
          refine L.y rfl (Y.move rfl) ?_
          refine L.pass rfl rfl (by nofun) ?_
          refine L.pass rfl rfl (by nofun) ?_
          refine L.pass rfl rfl (by nofun) ?_
          refine L.pass rfl rfl (by nofun) ?_
          refine L.pass rfl rfl (by nofun) ?_
          refine L.pass rfl rfl (by nofun) ?_
          refine L.y rfl (Y.pickF rfl rfl) ?_
          refine L.nil (E.thenN (W.condF rfl ?_))
          refine W.skip (E.blockN (E.thenN (W.region (L.m (V := fun x34 => .int .i64 x34) h rfl (Y.addM rfl rfl) (fun x34 ex34 h => ?_)))))
          refine L.y rfl (Y.move rfl) ?_
          exact L.nil (E.againJ ⟨x34, rfl, rfl, by rw [hg4]; exact h⟩ (Nat.lt_succ_self _) ⟨rfl, rfl, rfl, rfl, rfl, rfl, rfl, rfl, trivial⟩ (fun _ hw => hw))
         ·
          replace h := iteT h
          refine L.y rfl (Y.move rfl) ?_
          refine L.take rfl (L.y rfl (Y.move rfl) ?_)
          refine L.take rfl (L.y rfl (Y.move rfl) ?_)
          refine L.take rfl (L.m (V := fun _ => el (gv (q0_2 gx5.toNat) 0) (gx6.toNat * 1)) h rfl (Y.indexM (g := I) (l := x32) Try.underlying28 sz3 rfl rfl (fun w' hw => (zAt (sds := (svSd 3 1 I)) (vs := q0_2) (j := 0) hD0_2 (fun _ _ => rfl) ex32 rfl).cls0 hw)) (fun x35 ex35 h => ?_))
          refine L.take rfl (L.y rfl (Y.loadE1 (u := .int .i64 x35) ag3 rfl (fun w' hw => (zAt (sds := (svSd 3 1 I)) (vs := q0_2) (j := 0) hD0_2 (fun _ _ => rfl) ex32 rfl).cls0 hw) (idx_map ex35)) ?_)
          refine L.take rfl (L.y rfl (Y.move rfl) ?_)
          refine L.take rfl (L.ite h rfl (Y.eql rfl rfl) (fun c36 h => ?_) (fun c36 h => ?_))
          ·
           refine L.y rfl (Y.pickT rfl rfl) ?_
           refine L.nil (E.thenN (W.condT rfl ?_))
           refine W.seq (W.region (L.y rfl (Y.assign rfl) ?_))
           refine L.nil (E.thenN (W.ret (E.blockR (E.thenR (E.KLR (E.blockR (E.blockR (E.KSR (E.KLR (E.blockR (E.KSR (E.KSR (E.ret1 rfl rfl (fun w1 hw => ?_))))))))))))))
           obtain rfl := Option.some.inj h
           exact ⟨_, _, rfl, ⟨rfl, rfl⟩, hw⟩
          ·
           refine L.y rfl (Y.pickT rfl rfl) ?_
           refine L.nil (E.thenN (W.condF rfl ?_))
           refine W.skip (E.blockN (E.thenN (W.region (L.m (V := fun x37 => .int .i64 x37) h rfl (Y.addM rfl rfl) (fun x37 ex37 h => ?_)))))
           refine L.y rfl (Y.move rfl) ?_
           exact L.nil (E.againJ ⟨x37, rfl, rfl, by rw [hg4]; exact h⟩ (Nat.lt_succ_self _) ⟨rfl, rfl, rfl, rfl, rfl, rfl, rfl, rfl, trivial⟩ (fun _ hw => hw))
       ·
        refine L.nil (E.thenN (W.seq (W.condF rfl ?_)))
        exact W.exit (E.thenX (E.KLX (E.blockX (E.blockN (E.joinJ ⟨rfl, rfl, h⟩ ⟨rfl, rfl, rfl, rfl, rfl, trivial⟩ (fun _ hw => hw))))))
      ·
       rintro _ _ ⟨rfl, rfl, h⟩
       rw [m70_quirref_hangs_K7] at h
       refine W.region (L.m (V := fun x31 => .int .i64 x31) h rfl (Y.addM rfl rfl) (fun x31 ex31 h => ?_))
       refine L.y rfl (Y.move rfl) ?_
       exact L.nil (E.againJ ⟨x31, rfl, rfl, by rw [hg3]; exact h⟩ (Nat.lt_succ_self _) ⟨rfl, rfl, rfl, rfl, rfl, trivial⟩ (fun _ hw => hw))
     ·
      refine L.nil (E.thenN (W.seq (W.condF rfl ?_)))
      exact W.exit (E.thenX (E.KLX (E.blockX (E.joinJ ⟨rfl, rfl, h⟩ trivial (fun _ hw => hw)))))
    ·
     rintro _ _ ⟨rfl, rfl, h⟩
     rw [m70_quirref_hangs_K6] at h
     refine W.seq (W.region (L.y rfl (Y.assign rfl) ?_))
     refine L.nil (E.thenN (W.ret (E.KSR (E.ret1 rfl rfl (fun w1 hw => ?_)))))
     obtain rfl := Option.some.inj h
     exact ⟨_, _, rfl, ⟨rfl, rfl⟩, hw⟩
   ·
    refine L.nil (E.thenN (W.condF rfl ?_))
    exact W.skip (E.joinJ ⟨rfl, rfl, h⟩ ⟨rfl, rfl, rfl, rfl, trivial⟩ (fun _ hw => hw))
  ·
   rintro _ _ ⟨rfl, rfl, h⟩
   rw [m70_quirref_hangs_K1] at h
   refine W.seqJ (fun gs D => gs = [] ∧ D = Cls w [] [] ∧ m70_quirref_hangs_K2 = some r) ?_ ?_
   ·
    refine W.seq (W.region (L.y rfl (Y.fieldP fd47_0 rfl) ?_))
    refine L.y rfl (Y.loadP (i := 0) ag44 rfl rfl rfl) ?_
    refine L.y rfl (Y.lenMZ (row := TTale.rowv) (vs := q0_0) (l := a0.Tales) Try.underlying44 rfl (fun w' hw => hA0_0.cls0 hw)) ?_
    refine L.y rfl (Y.move rfl) ?_
    refine L.nil (E.thenN (W.block (W.loopJ (fun m gs D => ∃ (gx1 : Int), gs = [(1, .int .i64 a1), (2, .int .i64 a2), (3, .int .i64 a3), (4, pt b1 0), (52, u0_0), (53, .int .i64 (a0.Tales.length : Int)), (54, .int .i64 gx1)] ∧ D = Cls w [] [.obj b1 [u0_0, u0_2] 47] ∧ m70_quirref_hangs_L1 a0 a3 a2 a1 m gx1 = some r) ⟨0, rfl, rfl, h⟩ ⟨rfl, rfl, rfl, rfl, rfl, rfl, rfl, trivial⟩ (fun _ hw => hw) ?_)))
    rintro m _ _ ⟨gx1, rfl, rfl, h⟩
    rcases m with _ | m
    · rw [m70_quirref_hangs_L1] at h; cases h
    rw [m70_quirref_hangs_L1] at h
    generalize hg1 : m70_quirref_hangs_L1 a0 a3 a2 a1 m = go1 at h
    rw [m70_quirref_hangs_L1B] at h
    refine W.seq (W.region (L.ite h rfl (Y.lss rfl rfl) (fun c2 h => ?_) (fun c2 h => ?_)))
    ·
     refine L.nil (E.thenN (W.seq (W.condT rfl ?_)))
     refine W.skip (E.thenN (W.seqJ (fun gs D => gs = [(1, .int .i64 a1), (2, .int .i64 a2), (3, .int .i64 a3), (4, pt b1 0), (52, u0_0), (53, .int .i64 (a0.Tales.length : Int)), (54, .int .i64 gx1)] ∧ D = Cls w [] [.obj b1 [u0_0, u0_2] 47] ∧ m70_quirref_hangs_K3 gx1 go1 = some r) ?_ ?_))
     ·
      refine W.block (W.seq (W.region (L.m (V := fun _ => el u0_0 (gx1.toNat * 2)) h rfl (Y.indexMZ (row := TTale.rowv) (vs := q0_0) (l := a0.Tales) Try.underlying44 sz101 rfl rfl (fun w' hw => hA0_0.cls0 hw)) (fun x4 ex4 h => ?_))))
      refine L.y rfl (Y.loadEN (r := [.int .i64 x4.Tx, gv (q0_0 gx1.toNat) 0]) ag101 sz101 rfl (fun w' hw => hA0_0.cls0 hw) (zr_idx (vs := q0_0) ex4) rfl) ?_
      refine L.alloc rfl ze101 ?_
      intro b5
      refine L.storeC (i := 0) sz101 rfl rfl rfl rfl (fun w hw => (all1 rfl (all1 (At.cls0 (zAt (sds := TTale.sds) (vs := q0_0) (j := 0) hD0_0 (fun _ _ => rfl) ex4 rfl) hw).one all0))) rfl (Nat.le_of_ble_eq_true rfl) ?_
      refine L.nil (E.thenN (W.seq (W.region (L.y rfl (Y.fieldP fd101_1 rfl) ?_))))
      refine L.y rfl (Y.loadP (i := 0) ag99 rfl rfl rfl) ?_
      refine L.y rfl (Y.lenM (g := TGot.row) (l := x4.Reads) Try.underlying99 rfl (fun w' hw => (zAt (sds := TTale.sds) (vs := q0_0) (j := 0) hD0_0 (fun _ _ => rfl) ex4 rfl).cls0 hw)) ?_
      refine L.y rfl (Y.move rfl) ?_
      refine L.nil (E.thenN (W.block (W.loopJ (fun m gs D => ∃ (gx2 : Int), gs = [(1, .int .i64 a1), (2, .int .i64 a2), (3, .int .i64 a3), (4, pt b1 0), (13, pt b5 0), (52, u0_0), (53, .int .i64 (a0.Tales.length : Int)), (54, .int .i64 gx1), (59, gv (q0_0 gx1.toNat) 0), (60, .int .i64 (x4.Reads.length : Int)), (61, .int .i64 gx2)] ∧ D = Cls w [] [.obj b5 [.int .i64 x4.Tx, gv (q0_0 gx1.toNat) 0] 101, .obj b1 [u0_0, u0_2] 47] ∧ m70_quirref_hangs_L2 x4 a3 a2 a1 a0 gx1 go1 m gx2 = some r) ⟨0, rfl, rfl, h⟩ ⟨rfl, rfl, rfl, rfl, rfl, rfl, rfl, rfl, rfl, rfl, rfl, trivial⟩ (fun _ hw => hw) ?_)))
      rintro m _ _ ⟨gx2, rfl, rfl, h⟩
      rcases m with _ | m
      · rw [m70_quirref_hangs_L2] at h; cases h
      rw [m70_quirref_hangs_L2] at h
      generalize hg2 : m70_quirref_hangs_L2 x4 a3 a2 a1 a0 gx1 go1 m = go2 at h
      rw [m70_quirref_hangs_L2B] at h
      refine W.seq (W.region (L.ite h rfl (Y.lss rfl rfl) (fun c6 h => ?_) (fun c6 h => ?_)))
      ·
       refine L.nil (E.thenN (W.seq (W.condT rfl ?_)))
       refine W.skip (E.thenN (W.seq (W.block (W.seq (W.region (L.m (V := fun _ => el (gv (q0_0 gx1.toNat) 0) (gx2.toNat * 2)) h rfl (Y.indexM (g := TGot.row) (l := x4.Reads) Try.underlying99 sz104 rfl rfl (fun w' hw => (zAt (sds := TTale.sds) (vs := q0_0) (j := 0) hD0_0 (fun _ _ => rfl) ex4 rfl).cls0 hw)) (fun x7 ex7 h => ?_)))))))
       refine L.y rfl (Y.loadEN (r := [.int .i64 x7.Item, .int .i64 x7.From]) ag104 sz104 rfl (fun w' hw => (zAt (sds := TTale.sds) (vs := q0_0) (j := 0) hD0_0 (fun _ _ => rfl) ex4 rfl).cls0 hw) (idx_map ex7) rfl) ?_
       refine L.alloc rfl ze104 ?_
       intro b8
       refine L.store (i := 0) sz104 rfl rfl rfl rfl (by simp [Value.oneCell', Value.cells, st]) rfl (Nat.le_of_ble_eq_true rfl) ?_
       refine L.nil (E.thenN (W.seq (W.quietC mixed (by kernel_rfl) (fun _ hw => hw.drew) (fun hC => ?_))))
       refine U.cutJ hC 8 (fun gs => ∃ (gb3 : Bool), gs = [(1, .int .i64 a1), (2, .int .i64 a2), (3, .int .i64 a3), (4, pt b1 0), (13, pt b5 0), (15, pt b8 0), (52, u0_0), (53, .int .i64 (a0.Tales.length : Int)), (54, .int .i64 gx1), (59, gv (q0_0 gx1.toNat) 0), (60, .int .i64 (x4.Reads.length : Int)), (61, .int .i64 gx2), (72, .bool gb3)] ∧ m70_quirref_hangs_K4 x7 a1 a3 x4 a0 a2 gx2 go2 gb3 = some r) ?_ ?_
       ·
        refine U.y rfl (Y.move rfl) ?_
        refine U.ite h rfl (Y.eql rfl rfl) (fun c27 h => ?_) (fun c27 h => ?_)
        ·
         refine U.y rfl (Y.move rfl) ?_
         refine U.take rfl (U.y rfl (Y.fieldP fd101_0 rfl) ?_)
         refine U.take rfl (U.y rfl (Y.loadP (i := 1) ag3 rfl rfl rfl) ?_)
         refine U.take rfl (U.y rfl (Y.move rfl) ?_)
         refine U.take rfl (U.ite h rfl (Y.eql rfl rfl) (fun c28 h => ?_) (fun c28 h => ?_))
         ·
          refine U.y rfl (Y.pickT rfl rfl) ?_
          exact U.nil (E.joinU ⟨true, rfl, h⟩ ⟨rfl, rfl, rfl, rfl, rfl, rfl, rfl, rfl, rfl, rfl, rfl, rfl, rfl, trivial⟩)
         ·
          refine U.y rfl (Y.pickT rfl rfl) ?_
          exact U.nil (E.joinU ⟨false, rfl, h⟩ ⟨rfl, rfl, rfl, rfl, rfl, rfl, rfl, rfl, rfl, rfl, rfl, rfl, rfl, trivial⟩)
        ·
         refine U.y rfl (Y.move rfl) ?_
         refine U.pass rfl rfl (by nofun) ?_
         refine U.pass rfl rfl (by nofun) ?_
         refine U.pass rfl rfl (by nofun) ?_
         refine U.pass rfl rfl (by nofun) ?_
         refine U.y rfl (Y.pickF rfl rfl) ?_
         exact U.nil (E.joinU ⟨false, rfl, h⟩ ⟨rfl, rfl, rfl, rfl, rfl, rfl, rfl, rfl, rfl, rfl, rfl, rfl, rfl, trivial⟩)
       ·
        rintro _ ⟨gb3, rfl, h⟩
        rw [m70_quirref_hangs_K4] at h
        rcases gb3 with _ | _
        ·
         replace h := iteF h
         refine U.cutJ hC 15 (fun gs => ∃ (gb4 : Bool), gs = [(1, .int .i64 a1), (2, .int .i64 a2), (3, .int .i64 a3), (4, pt b1 0), (13, pt b5 0), (15, pt b8 0), (52, u0_0), (53, .int .i64 (a0.Tales.length : Int)), (54, .int .i64 gx1), (59, gv (q0_0 gx1.toNat) 0), (60, .int .i64 (x4.Reads.length : Int)), (61, .int .i64 gx2), (79, .bool false), (87, .bool gb4)] ∧ m70_quirref_hangs_K5 a0 x7 a2 gx2 go2 gb4 = some r) ?_ ?_
         ·
          refine U.y rfl (Y.move rfl) ?_
          refine U.pass rfl rfl (by nofun) ?_
          refine U.pass rfl rfl (by nofun) ?_
          refine U.pass rfl rfl (by nofun) ?_
          refine U.pass rfl rfl (by nofun) ?_
          refine U.y rfl (Y.pickF rfl rfl) ?_
          refine U.y rfl (Y.move rfl) ?_
          refine U.take rfl (U.y rfl (Y.move rfl) ?_)
          refine U.take rfl (U.ite h rfl (Y.eql rfl rfl) (fun c15 h => ?_) (fun c15 h => ?_))
          ·
           refine U.take rfl (U.y rfl (Y.move rfl) ?_)
           refine U.take rfl (U.y rfl (Y.fieldP fd101_0 rfl) ?_)
           refine U.take rfl (U.y rfl (Y.loadP (i := 1) ag3 rfl rfl rfl) ?_)
           refine U.take rfl (U.y rfl (Y.move rfl) ?_)
           refine U.take rfl (U.ite h rfl (Y.eql rfl rfl) (fun c16 h => ?_) (fun c16 h => ?_))
           ·
            refine U.take rfl (U.y rfl (Y.pickT rfl rfl) ?_)
            exact U.nil (E.joinU ⟨true, rfl, h⟩ ⟨rfl, rfl, rfl, rfl, rfl, rfl, rfl, rfl, rfl, rfl, rfl, rfl, rfl, rfl, trivial⟩)
           ·
            refine U.take rfl (U.y rfl (Y.pickT rfl rfl) ?_)
            exact U.nil (E.joinU ⟨false, rfl, h⟩ ⟨rfl, rfl, rfl, rfl, rfl, rfl, rfl, rfl, rfl, rfl, rfl, rfl, rfl, rfl, trivial⟩)
          ·
           refine U.take rfl (U.y rfl (Y.move rfl) ?_)
           refine U.pass rfl rfl (by nofun) ?_
           refine U.pass rfl rfl (by nofun) ?_
           refine U.pass rfl rfl (by nofun) ?_
           refine U.pass rfl rfl (by nofun) ?_
           refine U.take rfl (U.y rfl (Y.pickF rfl rfl) ?_)
           exact U.nil (E.joinU ⟨false, rfl, h⟩ ⟨rfl, rfl, rfl, rfl, rfl, rfl, rfl, rfl, rfl, rfl, rfl, rfl, rfl, rfl, trivial⟩)
         ·
          rintro _ ⟨gb4, rfl, h⟩
          rw [m70_quirref_hangs_K5] at h
          rcases gb4 with _ | _
          ·
           replace h := iteF h
           refine U.take rfl (U.y rfl (Y.move rfl) ?_)
           refine U.pass rfl rfl (by nofun) ?_
           refine U.pass rfl rfl (by nofun) ?_
           refine U.pass rfl rfl (by nofun) ?_
           refine U.pass rfl rfl (by nofun) ?_
           refine U.pass rfl rfl (by nofun) ?_
           refine U.pass rfl rfl (by nofun) ?_
           refine U.pass rfl rfl (by nofun) ?_
           refine U.pass rfl rfl (by nofun) ?_
           refine U.pass rfl rfl (by nofun) ?_
           refine U.pass rfl rfl (by nofun) ?_
           refine U.pass rfl rfl (by nofun) ?_
           refine U.take rfl (U.y rfl (Y.pickF rfl rfl) ?_)
           refine U.y rfl (Y.pickF rfl rfl) ?_
           refine U.nil (E.thenN (W.condF rfl ?_))
           refine W.skip (E.blockN (E.thenN (W.region (L.m (V := fun x9 => .int .i64 x9) h rfl (Y.addM rfl rfl) (fun x9 ex9 h => ?_)))))
           refine L.y rfl (Y.move rfl) ?_
           exact L.nil (E.againJ ⟨x9, rfl, rfl, by rw [hg2]; exact h⟩ (Nat.lt_succ_self _) ⟨rfl, rfl, rfl, rfl, rfl, rfl, rfl, rfl, rfl, rfl, rfl, trivial⟩ (fun _ hw => hw.sel [1, 2] (by decide) rfl))
          ·
           replace h := iteT h
           refine U.take rfl (U.y rfl (Y.move rfl) ?_)
           refine U.take rfl (U.y rfl (Y.fieldP fd47_1 rfl) ?_)
           refine U.take rfl (U.y rfl (Y.loadP (i := 2) ag45 rfl rfl rfl) ?_)
           refine U.take rfl (U.y rfl (Y.fieldP fd104_0 rfl) ?_)
           refine U.take rfl (U.y rfl (Y.loadP (i := 0) ag3 rfl rfl rfl) ?_)
           refine U.take rfl (U.m (V := fun _ => el u0_2 (x7.Item.toNat * 1)) h rfl (Y.indexMZ (row := svRow) (vs := q0_2) (l := a0.Versions) Try.underlying45 sz28 rfl rfl (fun w' hw => hA0_2.cls0 hw)) (fun x10 ex10 h => ?_))
           refine U.take rfl (U.y rfl (Y.loadE1 (u := gv (q0_2 x7.Item.toNat) 0) ag28 rfl (fun w' hw => hA0_2.cls0 hw) (zr_idx (vs := q0_2) ex10)) ?_)
           refine U.take rfl (U.y rfl (Y.fieldP fd104_1 rfl) ?_)
           refine U.take rfl (U.y rfl (Y.loadP (i := 0) ag3 rfl rfl rfl) ?_)
           refine U.take rfl ?_
           obtain ⟨x11, e12, h⟩ := bind1S h
           refine U.y rfl (Y.does en118 rfl (fun w' hw => (w118_quirref_nextWriter x10 x7.From (gv (q0_2 x7.Item.toNat) 0) w' _ e12 ((zAt (sds := (svSd 3 1 I)) (vs := q0_2) (j := 0) hD0_2 (fun _ _ => rfl) ex10 rfl).cls0 hw)).mono (fun _ _ h => h.1))) ?_
           refine U.take rfl (U.y rfl (Y.move rfl) ?_)
           refine U.take rfl (U.ite h rfl (Y.eql rfl rfl) (fun c13 h => ?_) (fun c13 h => ?_))
           ·
            refine U.take rfl (U.y rfl (Y.pickT rfl rfl) ?_)
            refine U.y rfl (Y.pickF rfl rfl) ?_
            refine U.nil (E.thenN (W.condT rfl ?_))
            refine W.seq (W.region (L.y rfl (Y.assign rfl) ?_))
            refine L.nil (E.thenN (W.ret (E.blockR (E.thenR (E.KLR (E.blockR (E.blockR (E.KSR (E.KLR (E.blockR (E.KSR (E.ret1 rfl rfl (fun w1 hw => ?_)))))))))))))
            obtain rfl := Option.some.inj h
            exact ⟨_, _, rfl, ⟨rfl, rfl⟩, hw.sel [] (by decide) rfl⟩
           ·
            refine U.take rfl (U.y rfl (Y.pickT rfl rfl) ?_)
            refine U.y rfl (Y.pickF rfl rfl) ?_
            refine U.nil (E.thenN (W.condF rfl ?_))
            refine W.skip (E.blockN (E.thenN (W.region (L.m (V := fun x14 => .int .i64 x14) h rfl (Y.addM rfl rfl) (fun x14 ex14 h => ?_)))))
            refine L.y rfl (Y.move rfl) ?_
            exact L.nil (E.againJ ⟨x14, rfl, rfl, by rw [hg2]; exact h⟩ (Nat.lt_succ_self _) ⟨rfl, rfl, rfl, rfl, rfl, rfl, rfl, rfl, rfl, rfl, rfl, trivial⟩ (fun _ hw => hw.sel [1, 2] (by decide) rfl))
        ·
         replace h := iteT h
         refine U.y rfl (Y.move rfl) ?_
         refine U.take rfl (U.y rfl (Y.fieldP fd104_1 rfl) ?_)
         refine U.take rfl (U.y rfl (Y.loadP (i := 0) ag3 rfl rfl rfl) ?_)
         refine U.take rfl (U.y rfl (Y.move rfl) ?_)
         refine U.take rfl (U.ite h rfl (Y.eql rfl rfl) (fun c17 h => ?_) (fun c17 h => ?_))
         ·
          refine U.y rfl (Y.pickT rfl rfl) ?_
          refine U.y rfl (Y.move rfl) ?_
          refine U.pass rfl rfl (by nofun) ?_
          refine U.pass rfl rfl (by nofun) ?_
          refine U.pass rfl rfl (by nofun) ?_
          refine U.pass rfl rfl (by nofun) ?_
          refine U.pass rfl rfl (by nofun) ?_
          refine U.pass rfl rfl (by nofun) ?_
          refine U.pass rfl rfl (by nofun) ?_
          refine U.pass rfl rfl (by nofun) ?_
          refine U.pass rfl rfl (by nofun) ?_
          refine U.pass rfl rfl (by nofun) ?_
          refine U.pass rfl rfl (by nofun) ?_
          refine U.pass rfl rfl (by nofun) ?_
          refine U.pass rfl rfl (by nofun) ?_
          refine U.pass rfl rfl (by nofun) ?_
          refine U.pass rfl rfl (by nofun) ?_
          refine U.pass rfl rfl (by nofun) ?_
          refine U.pass rfl rfl (by nofun) ?_
          refine U.pass rfl rfl (by nofun) ?_
          refine U.pass rfl rfl (by nofun) ?_
          refine U.pass rfl rfl (by nofun) ?_
          refine U.pass rfl rfl (by nofun) ?_
          refine U.y rfl (Y.pickT rfl rfl) ?_
          refine U.nil (E.thenN (W.condT rfl ?_))
          refine W.seq (W.region (L.y rfl (Y.assign rfl) ?_))
          refine L.nil (E.thenN (W.ret (E.blockR (E.thenR (E.KLR (E.blockR (E.blockR (E.KSR (E.KLR (E.blockR (E.KSR (E.ret1 rfl rfl (fun w1 hw => ?_)))))))))))))
          obtain rfl := Option.some.inj h
          exact ⟨_, _, rfl, ⟨rfl, rfl⟩, hw.sel [] (by decide) rfl⟩
         ·
          refine U.y rfl (Y.pickT rfl rfl) ?_
          refine U.y rfl (Y.move rfl) ?_
          refine U.take rfl (U.y rfl (Y.move rfl) ?_)
          refine U.take rfl (U.ite h rfl (Y.eql rfl rfl) (fun c18 h => ?_) (fun c18 h => ?_))
          ·
           refine U.take rfl (U.y rfl (Y.move rfl) ?_)
           refine U.take rfl (U.y rfl (Y.fieldP fd101_0 rfl) ?_)
           refine U.take rfl (U.y rfl (Y.loadP (i := 1) ag3 rfl rfl rfl) ?_)
           refine U.take rfl (U.y rfl (Y.move rfl) ?_)
           refine U.take rfl (U.ite h rfl (Y.eql rfl rfl) (fun c19 h => ?_) (fun c19 h => ?_))
           ·
            refine U.take rfl (U.y rfl (Y.pickT rfl rfl) ?_)
            refine U.take rfl (U.y rfl (Y.move rfl) ?_)
            refine U.take rfl (U.y rfl (Y.fieldP fd47_1 rfl) ?_)
            refine U.take rfl (U.y rfl (Y.loadP (i := 2) ag45 rfl rfl rfl) ?_)
            refine U.take rfl (U.y rfl (Y.fieldP fd104_0 rfl) ?_)
            refine U.take rfl (U.y rfl (Y.loadP (i := 0) ag3 rfl rfl rfl) ?_)
            refine U.take rfl (U.m (V := fun _ => el u0_2 (x7.Item.toNat * 1)) h rfl (Y.indexMZ (row := svRow) (vs := q0_2) (l := a0.Versions) Try.underlying45 sz28 rfl rfl (fun w' hw => hA0_2.cls0 hw)) (fun x20 ex20 h => ?_))
            refine U.take rfl (U.y rfl (Y.loadE1 (u := gv (q0_2 x7.Item.toNat) 0) ag28 rfl (fun w' hw => hA0_2.cls0 hw) (zr_idx (vs := q0_2) ex20)) ?_)
            refine U.take rfl (U.y rfl (Y.fieldP fd104_1 rfl) ?_)
            refine U.take rfl (U.y rfl (Y.loadP (i := 0) ag3 rfl rfl rfl) ?_)
            refine U.take rfl ?_
            obtain ⟨x21, e22, h⟩ := bind1S h
            refine U.y rfl (Y.does en118 rfl (fun w' hw => (w118_quirref_nextWriter x20 x7.From (gv (q0_2 x7.Item.toNat) 0) w' _ e22 ((zAt (sds := (svSd 3 1 I)) (vs := q0_2) (j := 0) hD0_2 (fun _ _ => rfl) ex20 rfl).cls0 hw)).mono (fun _ _ h => h.1))) ?_
            refine U.take rfl (U.y rfl (Y.move rfl) ?_)
            refine U.take rfl (U.ite h rfl (Y.eql rfl rfl) (fun c23 h => ?_) (fun c23 h => ?_))
            ·
             refine U.take rfl (U.y rfl (Y.pickT rfl rfl) ?_)
             refine U.y rfl (Y.pickF rfl rfl) ?_
             refine U.nil (E.thenN (W.condT rfl ?_))
             refine W.seq (W.region (L.y rfl (Y.assign rfl) ?_))
             refine L.nil (E.thenN (W.ret (E.blockR (E.thenR (E.KLR (E.blockR (E.blockR (E.KSR (E.KLR (E.blockR (E.KSR (E.ret1 rfl rfl (fun w1 hw => ?_)))))))))))))
             obtain rfl := Option.some.inj h
             exact ⟨_, _, rfl, ⟨rfl, rfl⟩, hw.sel [] (by decide) rfl⟩
            ·
             refine U.take rfl (U.y rfl (Y.pickT rfl rfl) ?_)
             refine U.y rfl (Y.pickF rfl rfl) ?_
             refine U.nil (E.thenN (W.condF rfl ?_))
             refine W.skip (E.blockN (E.thenN (W.region (L.m (V := fun x24 => .int .i64 x24) h rfl (Y.addM rfl rfl) (fun x24 ex24 h => ?_)))))
             refine L.y rfl (Y.move rfl) ?_
             exact L.nil (E.againJ ⟨x24, rfl, rfl, by rw [hg2]; exact h⟩ (Nat.lt_succ_self _) ⟨rfl, rfl, rfl, rfl, rfl, rfl, rfl, rfl, rfl, rfl, rfl, trivial⟩ (fun _ hw => hw.sel [1, 2] (by decide) rfl))
           ·
            refine U.take rfl (U.y rfl (Y.pickT rfl rfl) ?_)
            refine U.take rfl (U.y rfl (Y.move rfl) ?_)
            refine U.pass rfl rfl (by nofun) ?_
            refine U.pass rfl rfl (by nofun) ?_
            refine U.pass rfl rfl (by nofun) ?_
            refine U.pass rfl rfl (by nofun) ?_
            refine U.pass rfl rfl (by nofun) ?_
            refine U.pass rfl rfl (by nofun) ?_
            refine U.pass rfl rfl (by nofun) ?_
            refine U.pass rfl rfl (by nofun) ?_
            refine U.pass rfl rfl (by nofun) ?_
            refine U.pass rfl rfl (by nofun) ?_
            refine U.pass rfl rfl (by nofun) ?_
            refine U.take rfl (U.y rfl (Y.pickF rfl rfl) ?_)
            refine U.y rfl (Y.pickF rfl rfl) ?_
            refine U.nil (E.thenN (W.condF rfl ?_))
            refine W.skip (E.blockN (E.thenN (W.region (L.m (V := fun x25 => .int .i64 x25) h rfl (Y.addM rfl rfl) (fun x25 ex25 h => ?_)))))
            refine L.y rfl (Y.move rfl) ?_
            exact L.nil (E.againJ ⟨x25, rfl, rfl, by rw [hg2]; exact h⟩ (Nat.lt_succ_self _) ⟨rfl, rfl, rfl, rfl, rfl, rfl, rfl, rfl, rfl, rfl, rfl, trivial⟩ (fun _ hw => hw.sel [1, 2] (by decide) rfl))
          ·
           refine U.take rfl (U.y rfl (Y.move rfl) ?_)
           refine U.pass rfl rfl (by nofun) ?_
           refine U.pass rfl rfl (by nofun) ?_
           refine U.pass rfl rfl (by nofun) ?_
           refine U.pass rfl rfl (by nofun) ?_
           refine U.take rfl (U.y rfl (Y.pickF rfl rfl) ?_)
           refine U.take rfl (U.y rfl (Y.move rfl) ?_)
           refine U.pass rfl rfl (by nofun) ?_
           refine U.pass rfl rfl (by nofun) ?_
           refine U.pass rfl rfl (by nofun) ?_
           refine U.pass rfl rfl (by nofun) ?_
           refine U.pass rfl rfl (by nofun) ?_
           refine U.pass rfl rfl (by nofun) ?_
           refine U.pass rfl rfl (by nofun) ?_
           refine U.pass rfl rfl (by nofun) ?_
           refine U.pass rfl rfl (by nofun) ?_
           refine U.pass rfl rfl (by nofun) ?_
           refine U.pass rfl rfl (by nofun) ?_
           refine U.take rfl (U.y rfl (Y.pickF rfl rfl) ?_)
           refine U.y rfl (Y.pickF rfl rfl) ?_
           refine U.nil (E.thenN (W.condF rfl ?_))
           refine W.skip (E.blockN (E.thenN (W.region (L.m (V := fun x26 => .int .i64 x26) h rfl (Y.addM rfl rfl) (fun x26 ex26 h => ?_)))))
           refine L.y rfl (Y.move rfl) ?_
           exact L.nil (E.againJ ⟨x26, rfl, rfl, by rw [hg2]; exact h⟩ (Nat.lt_succ_self _) ⟨rfl, rfl, rfl, rfl, rfl, rfl, rfl, rfl, rfl, rfl, rfl, trivial⟩ (fun _ hw => hw.sel [1, 2] (by decide) rfl))
      ·
       refine L.nil (E.thenN (W.seq (W.condF rfl ?_)))
       exact W.exit (E.thenX (E.KLX (E.blockX (E.blockN (E.joinJ ⟨rfl, rfl, h⟩ ⟨rfl, rfl, rfl, rfl, rfl, rfl, rfl, trivial⟩ (fun _ hw => hw.sel [1] (by decide) rfl))))))
     ·
      rintro _ _ ⟨rfl, rfl, h⟩
      rw [m70_quirref_hangs_K3] at h
      refine W.region (L.m (V := fun x3 => .int .i64 x3) h rfl (Y.addM rfl rfl) (fun x3 ex3 h => ?_))
      refine L.y rfl (Y.move rfl) ?_
      exact L.nil (E.againJ ⟨x3, rfl, rfl, by rw [hg1]; exact h⟩ (Nat.lt_succ_self _) ⟨rfl, rfl, rfl, rfl, rfl, rfl, rfl, trivial⟩ (fun _ hw => hw))
    ·
     refine L.nil (E.thenN (W.seq (W.condF rfl ?_)))
     exact W.exit (E.thenX (E.KLX (E.blockX (E.joinJ ⟨rfl, rfl, h⟩ trivial (fun _ hw => hw.sel [] (by decide) rfl)))))
   ·
    rintro _ _ ⟨rfl, rfl, h⟩
    rw [m70_quirref_hangs_K2] at h
    refine W.seq (W.region (L.y rfl (Y.assign rfl) ?_))
    refine L.nil (E.thenN (W.ret (E.ret1 rfl rfl (fun w1 hw => ?_))))
    obtain rfl := Option.some.inj h
    exact ⟨_, _, rfl, ⟨rfl, rfl⟩, hw⟩
set_option maxRecDepth 100000 in
set_option maxHeartbeats 8000000 in
theorem w25_quirref_Deps (a0 : TStory) (u0_0 : Value) (q0_0 : Nat → List Value) (u0_2 : Value) (q0_2 : Nat → List Value) (w : World) (r : (List TDep)) (h : m25_quirref_Deps a0 = some r) (hA0_0 : At w u0_0 2 (zr TTale.rowv q0_0 a0.Tales)) (hD0_0 : ∀ d ∈ zs TTale.sds q0_0 a0.Tales, At w d.v d.k d.rows) (hA0_2 : At w u0_2 1 (zr svRow q0_2 a0.Versions)) (hD0_2 : ∀ d ∈ zs (svSd 3 1 I) q0_2 a0.Versions, At w d.v d.k d.rows) : Does Try.prog 25 [.agg #[u0_0, u0_2]] w fun u m => ∃ v0, u = v0 ∧ m = [.sl v0 60 3 (r.map TDep.row)] := by
  rw [m25_quirref_Deps] at h
  refine body (n := 37) Try.func25 rfl rfl rfl (Cls.refl w) ?_
  refine W.seq (W.region (L.box rfl rfl ?_))
  intro b1
  refine L.y rfl (Y.assign rfl) ?_
  refine L.nil (E.thenN (W.seq (W.region (L.y rfl (Y.assign rfl) ?_))))
  refine L.nil (E.thenN (W.seqJ (fun gs D => ∃ (gv1 : Value) (gl2 : (List TDep)), gs = [(3, gv1)] ∧ D = Cls w [] [.sl gv1 60 3 (gl2.map TDep.row)] ∧ m25_quirref_Deps_K1 gl2 = some r) ?_ ?_))
  ·
   refine W.seq (W.region (L.y rfl (Y.move rfl) ?_))
   refine L.nil (E.thenN (W.block (W.nilSl 60 3 ?_)))
   refine W.loopJ (fun m gs D => ∃ (gv3 : Value) (gl4 : (List TDep)) (gx5 : Int), gs = [(1, pt b1 0), (3, gv3), (7, .int .i64 gx5)] ∧ D = Cls w [] [.obj b1 [u0_0, u0_2] 47, .sl gv3 60 3 (gl4.map TDep.row)] ∧ m25_quirref_Deps_L1 a0 m gl4 gx5 = some r) ⟨.slice none 0 0, [], 0, rfl, rfl, h⟩ ⟨rfl, rfl, rfl, trivial⟩ (fun _ hw => hw.sel [1, 0] (by decide) rfl) ?_
   rintro m _ _ ⟨gv3, gl4, gx5, rfl, rfl, h⟩
   rcases m with _ | m
   · rw [m25_quirref_Deps_L1] at h; cases h
   rw [m25_quirref_Deps_L1] at h
   generalize hg1 : m25_quirref_Deps_L1 a0 m = go1 at h
   rw [m25_quirref_Deps_L1B] at h
   refine W.seq (W.region (L.ite h rfl (Y.lss rfl rfl) (fun c2 h => ?_) (fun c2 h => ?_)))
   ·
    refine L.nil (E.thenN (W.seq (W.condT rfl ?_)))
    refine W.skip (E.thenN (W.seqJ (fun gs D => ∃ (gv6 : Value) (gl7 : (List TDep)), gs = [(1, pt b1 0), (3, gv6), (7, .int .i64 gx5)] ∧ D = Cls w [] [.obj b1 [u0_0, u0_2] 47, .sl gv6 60 3 (gl7.map TDep.row)] ∧ m25_quirref_Deps_K2 gx5 go1 gl7 = some r) ?_ ?_))
    ·
     refine W.block (W.seq (W.region (L.y rfl (Y.move rfl) ?_)))
     refine L.y rfl (Y.assign rfl) ?_
     refine L.nil (E.thenN (W.seq (W.region (L.y rfl (Y.move rfl) ?_))))
     refine L.nil (E.thenN (W.block (W.loopJ (fun m gs D => ∃ (gv8 : Value) (gl9 : (List TDep)) (gx10 : Int), gs = [(1, pt b1 0), (3, gv8), (4, .int .i64 gx5), (7, .int .i64 gx5), (10, .int .i64 gx10)] ∧ D = Cls w [] [.obj b1 [u0_0, u0_2] 47, .sl gv8 60 3 (gl9.map TDep.row)] ∧ m25_quirref_Deps_L2 gx5 a0 go1 m gl9 gx10 = some r) ⟨gv3, gl4, 0, rfl, rfl, h⟩ ⟨rfl, rfl, rfl, rfl, rfl, trivial⟩ (fun _ hw => hw) ?_)))
     rintro m _ _ ⟨gv8, gl9, gx10, rfl, rfl, h⟩
     rcases m with _ | m
     · rw [m25_quirref_Deps_L2] at h; cases h
     rw [m25_quirref_Deps_L2] at h
     generalize hg2 : m25_quirref_Deps_L2 gx5 a0 go1 m = go2 at h
     rw [m25_quirref_Deps_L2B] at h
     refine W.seq (W.region (L.ite h rfl (Y.lss rfl rfl) (fun c4 h => ?_) (fun c4 h => ?_)))
     ·
      refine L.nil (E.thenN (W.seq (W.condT rfl ?_)))
      refine W.skip (E.thenN (W.seqJ (fun gs D => ∃ (gv11 : Value) (gl12 : (List TDep)), gs = [(1, pt b1 0), (3, gv11), (4, .int .i64 gx5), (7, .int .i64 gx5), (10, .int .i64 gx10)] ∧ D = Cls w [] [.obj b1 [u0_0, u0_2] 47, .sl gv11 60 3 (gl12.map TDep.row)] ∧ m25_quirref_Deps_K3 gx10 go2 gl12 = some r) ?_ ?_))
      ·
       refine W.block (W.seq (W.region (L.y rfl (Y.move rfl) ?_)))
       refine L.y rfl (Y.assign rfl) ?_
       refine L.nil (E.thenN (W.seq (W.region (L.y rfl (Y.assign rfl) ?_))))
       refine L.nil (E.thenN (W.block (W.loopJ (fun m gs D => ∃ (gv13 : Value) (gl14 : (List TDep)) (gx15 : Int), gs = [(1, pt b1 0), (3, gv13), (4, .int .i64 gx5), (5, .int .i64 gx10), (6, .int .i64 gx15), (7, .int .i64 gx5), (10, .int .i64 gx10)] ∧ D = Cls w [] [.obj b1 [u0_0, u0_2] 47, .sl gv13 60 3 (gl14.map TDep.row)] ∧ m25_quirref_Deps_L3 gx5 gx10 a0 go2 m gl14 gx15 = some r) ⟨gv8, gl9, 1, rfl, rfl, h⟩ ⟨rfl, rfl, rfl, rfl, rfl, rfl, rfl, trivial⟩ (fun _ hw => hw) ?_)))
       rintro m _ _ ⟨gv13, gl14, gx15, rfl, rfl, h⟩
       rcases m with _ | m
       · rw [m25_quirref_Deps_L3] at h; cases h
       rw [m25_quirref_Deps_L3] at h
       generalize hg3 : m25_quirref_Deps_L3 gx5 gx10 a0 go2 m = go3 at h
       rw [m25_quirref_Deps_L3B] at h
       refine W.seqJ (fun gs D => gs = [(1, pt b1 0), (3, gv13), (4, .int .i64 gx5), (5, .int .i64 gx10), (6, .int .i64 gx15), (7, .int .i64 gx5), (10, .int .i64 gx10)] ∧ D = Cls w [] [.obj b1 [u0_0, u0_2] 47, .sl gv13 60 3 (gl14.map TDep.row)] ∧ m25_quirref_Deps_K4 gx5 gx10 a0 gx15 gl14 go3 = some r) ?_ ?_
       ·
        refine W.seq (W.region (L.y rfl (Y.move rfl) ?_))
        refine L.ite h rfl (Y.leq rfl rfl) (fun c15 h => ?_) (fun c15 h => ?_)
        ·
         refine L.nil (E.thenN (W.condT rfl ?_))
         exact W.skip (E.joinJ ⟨rfl, rfl, h⟩ ⟨rfl, rfl, rfl, rfl, rfl, rfl, rfl, trivial⟩ (fun _ hw => hw))
        ·
         refine L.nil (E.thenN (W.condF rfl ?_))
         exact W.exit (E.KSX (E.KLX (E.blockX (E.blockN (E.joinJ ⟨gv13, gl14, rfl, rfl, h⟩ ⟨rfl, rfl, rfl, rfl, rfl, trivial⟩ (fun _ hw => hw))))))
       ·
        rintro _ _ ⟨rfl, rfl, h⟩
        rw [m25_quirref_Deps_K4] at h
        refine W.seq (W.block (W.seq (W.region (L.y rfl (Y.move rfl) ?_))))
        refine L.y rfl (Y.move rfl) ?_
        refine L.ite h rfl (Y.neq rfl rfl) (fun c6 h => ?_) (fun c6 h => ?_)
        ·
         refine L.y rfl (Y.move rfl) ?_
         refine L.take rfl (L.y rfl (Y.loadPW (i := 0) ag47 sz47 rfl rfl rfl) ?_)
         refine L.take rfl (L.y rfl (Y.move rfl) ?_)
         refine L.take rfl (L.y rfl (Y.move rfl) ?_)
         refine L.take rfl (L.y rfl (Y.move rfl) ?_)
         refine L.take rfl ?_
         obtain ⟨b7, e8, h⟩ := bind1S h
         refine L.y rfl (Y.does en70 rfl (fun w' hw => (w70_quirref_hangs a0 gx5 gx10 gx15 u0_0 q0_0 u0_2 q0_2 w' _ e8 (hA0_0.cls0 hw) (fun d hd => (hD0_0 d hd).cls0 hw) (hA0_2.cls0 hw) (fun d hd => (hD0_2 d hd).cls0 hw)).mono (fun _ _ h => h.1))) ?_
         rcases b7 with _ | _
         ·
          replace h := iteF h
          refine L.y rfl (Y.pickT rfl rfl) ?_
          refine L.nil (E.thenN (W.condF rfl ?_))
          refine W.skip (E.blockN (E.thenN (W.region (L.y rfl (Y.move rfl) ?_))))
          refine L.m (V := fun x9 => .int .i64 x9) h rfl (Y.addM rfl rfl) (fun x9 ex9 h => ?_)
          refine L.y rfl (Y.assign rfl) ?_
          exact L.nil (E.againJ ⟨gv13, gl14, x9, rfl, rfl, by rw [hg3]; exact h⟩ (Nat.lt_succ_self _) ⟨rfl, rfl, rfl, rfl, rfl, rfl, rfl, trivial⟩ (fun _ hw => hw))
         ·
          replace h := iteT h
          refine L.y rfl (Y.pickT rfl rfl) ?_
          refine L.nil (E.thenN (W.condT rfl ?_))
          refine W.region (L.y rfl (Y.move rfl) ?_)
          refine L.y rfl (Y.move rfl) ?_
          refine L.y rfl (Y.move rfl) ?_
          refine L.y rfl (Y.move rfl) ?_
          refine L.y rfl (Y.build (cells := #[.int .i64 gx5, .int .i64 gx10, .int .i64 gx15]) rfl (by kernel_rfl)) ?_
          refine L.litAgg rfl Try.underlying49 el60 rfl rfl rfl ?_
          intro b10
          refine L.appM (i := 2) (g := TDep.row) (l := gl14) (more := [(⟨gx5, gx10, gx15⟩ : TDep)]) h rfl Try.underlying49 el60 rfl rfl rfl (fun w hw => As.at_ (hw.get (i := 0) rfl)) (plain_TDep _) rfl ?_
          intro v11 l12 el12 h
          refine L.y rfl (Y.assign rfl) ?_
          refine L.nil (E.blockN (E.thenN (W.region (L.y rfl (Y.move rfl) ?_))))
          refine L.m (V := fun x13 => .int .i64 x13) h rfl (Y.addM rfl rfl) (fun x13 ex13 h => ?_)
          refine L.y rfl (Y.assign rfl) ?_
          exact L.nil (E.againJ ⟨v11, l12, x13, rfl, rfl, by rw [hg3]; exact h⟩ (Nat.lt_succ_self _) ⟨rfl, rfl, rfl, rfl, rfl, rfl, rfl, trivial⟩ (fun _ hw => hw.sel [2, 0] (by decide) rfl))
        ·
         refine L.y rfl (Y.move rfl) ?_
         refine L.pass rfl rfl (by nofun) ?_
         refine L.pass rfl rfl (by nofun) ?_
         refine L.pass rfl rfl (by nofun) ?_
         refine L.pass rfl rfl (by nofun) ?_
         refine L.pass rfl rfl (by nofun) ?_
         refine L.y rfl (Y.pickF rfl rfl) ?_
         refine L.nil (E.thenN (W.condF rfl ?_))
         refine W.skip (E.blockN (E.thenN (W.region (L.y rfl (Y.move rfl) ?_))))
         refine L.m (V := fun x14 => .int .i64 x14) h rfl (Y.addM rfl rfl) (fun x14 ex14 h => ?_)
         refine L.y rfl (Y.assign rfl) ?_
         exact L.nil (E.againJ ⟨gv13, gl14, x14, rfl, rfl, by rw [hg3]; exact h⟩ (Nat.lt_succ_self _) ⟨rfl, rfl, rfl, rfl, rfl, rfl, rfl, trivial⟩ (fun _ hw => hw))
      ·
       rintro _ _ ⟨gv11, gl12, rfl, rfl, h⟩
       rw [m25_quirref_Deps_K3] at h
       refine W.region (L.m (V := fun x5 => .int .i64 x5) h rfl (Y.addM rfl rfl) (fun x5 ex5 h => ?_))
       refine L.y rfl (Y.move rfl) ?_
       exact L.nil (E.againJ ⟨gv11, gl12, x5, rfl, rfl, by rw [hg2]; exact h⟩ (Nat.lt_succ_self _) ⟨rfl, rfl, rfl, rfl, rfl, trivial⟩ (fun _ hw => hw))
     ·
      refine L.nil (E.thenN (W.seq (W.condF rfl ?_)))
      exact W.exit (E.thenX (E.KLX (E.blockX (E.blockN (E.joinJ ⟨gv8, gl9, rfl, rfl, h⟩ ⟨rfl, rfl, rfl, trivial⟩ (fun _ hw => hw))))))
    ·
     rintro _ _ ⟨gv6, gl7, rfl, rfl, h⟩
     rw [m25_quirref_Deps_K2] at h
     refine W.region (L.m (V := fun x3 => .int .i64 x3) h rfl (Y.addM rfl rfl) (fun x3 ex3 h => ?_))
     refine L.y rfl (Y.move rfl) ?_
     exact L.nil (E.againJ ⟨gv6, gl7, x3, rfl, rfl, by rw [hg1]; exact h⟩ (Nat.lt_succ_self _) ⟨rfl, rfl, rfl, trivial⟩ (fun _ hw => hw))
   ·
    refine L.nil (E.thenN (W.seq (W.condF rfl ?_)))
    exact W.exit (E.thenX (E.KLX (E.blockX (E.joinJ ⟨gv3, gl4, rfl, rfl, h⟩ ⟨rfl, trivial⟩ (fun _ hw => hw.sel [1] (by decide) rfl)))))
  ·
   rintro _ _ ⟨gv1, gl2, rfl, rfl, h⟩
   rw [m25_quirref_Deps_K1] at h
   refine W.seq (W.region (L.y rfl (Y.move rfl) ?_))
   refine L.y rfl (Y.assign rfl) ?_
   refine L.nil (E.thenN (W.ret (E.ret1 rfl rfl (fun w1 hw => ?_))))
   obtain rfl := Option.some.inj h
   exact ⟨_, _, rfl, ⟨_, rfl, rfl⟩, hw⟩
set_option maxRecDepth 100000 in
set_option maxHeartbeats 8000000 in
theorem w67_quirref_edgesOf (a0 : TStory) (a1 : Int) (u0_0 : Value) (q0_0 : Nat → List Value) (u0_2 : Value) (q0_2 : Nat → List Value) (w : World) (r : (List TEdge)) (h : m67_quirref_edgesOf a0 a1 = some r) (hA0_0 : At w u0_0 2 (zr TTale.rowv q0_0 a0.Tales)) (hD0_0 : ∀ d ∈ zs TTale.sds q0_0 a0.Tales, At w d.v d.k d.rows) (hA0_2 : At w u0_2 1 (zr svRow q0_2 a0.Versions)) (hD0_2 : ∀ d ∈ zs (svSd 3 1 I) q0_2 a0.Versions, At w d.v d.k d.rows) : Does Try.prog 67 [.agg #[u0_0, u0_2], .int .i64 a1] w fun u m => ∃ v0, u = v0 ∧ m = [.sl v0 40 2 (r.map TEdge.row)] := by
  rw [m67_quirref_edgesOf] at h
  refine body (n := 29) Try.func67 rfl rfl rfl (Cls.refl w) ?_
  refine W.seq (W.region (L.box rfl rfl ?_))
  intro b1
  refine L.y rfl (Y.assign rfl) ?_
  refine L.nil (E.thenN (W.seq (W.region (L.y rfl (Y.assign rfl) ?_))))
  refine L.nil (E.thenN (W.seqJ (fun gs D => ∃ (gv1 : Value) (gl2 : (List TEdge)), gs = [(5, gv1)] ∧ D = Cls w [] [.sl gv1 40 2 (gl2.map TEdge.row)] ∧ m67_quirref_edgesOf_K1 gl2 = some r) ?_ ?_))
  ·
   refine W.seq (W.region (L.y rfl (Y.loadPW (i := 0) ag47 sz47 rfl rfl rfl) ?_))
   obtain ⟨l2, e4, h⟩ := bind1S h
   refine L.does rfl en25 rfl (fun w' hw => w25_quirref_Deps a0 u0_0 q0_0 u0_2 q0_2 w' _ e4 (hA0_0.cls0 hw) (fun d hd => (hD0_0 d hd).cls0 hw) (hA0_2.cls0 hw) (fun d hd => (hD0_2 d hd).cls0 hw)) ?_
   rintro v3 _ ⟨_, rfl, rfl⟩
   refine L.y rfl (Y.lenM (g := TDep.row) (l := l2) Try.underlying49 rfl (fun w hw => As.at_ (hw.get (i := 0) rfl))) ?_
   refine L.y rfl (Y.move rfl) ?_
   refine L.nil (E.thenN (W.block (W.nilSl 40 2 ?_)))
   refine W.loopJ (fun m gs D => ∃ (gv3 : Value) (gl4 : (List TEdge)) (gx5 : Int), gs = [(1, .int .i64 a1), (5, gv3), (9, v3), (10, .int .i64 (l2.length : Int)), (11, .int .i64 gx5)] ∧ D = Cls w [] [.sl gv3 40 2 (gl4.map TEdge.row), .sl v3 60 3 (l2.map TDep.row)] ∧ m67_quirref_edgesOf_L1 l2 a1 m gl4 gx5 = some r) ⟨.slice none 0 0, [], 0, rfl, rfl, h⟩ ⟨rfl, rfl, rfl, rfl, rfl, trivial⟩ (fun _ hw => hw.sel [0, 1] (by decide) rfl) ?_
   rintro m _ _ ⟨gv3, gl4, gx5, rfl, rfl, h⟩
   rcases m with _ | m
   · rw [m67_quirref_edgesOf_L1] at h; cases h
   rw [m67_quirref_edgesOf_L1] at h
   generalize hg1 : m67_quirref_edgesOf_L1 l2 a1 m = go1 at h
   rw [m67_quirref_edgesOf_L1B] at h
   refine W.seq (W.region (L.ite h rfl (Y.lss rfl rfl) (fun c5 h => ?_) (fun c5 h => ?_)))
   ·
    refine L.nil (E.thenN (W.seq (W.condT rfl ?_)))
    refine W.skip (E.thenN (W.seq (W.block (W.seq (W.region (L.m (V := fun _ => el v3 (gx5.toNat * 3)) h rfl (Y.indexM (g := TDep.row) (l := l2) Try.underlying49 sz60 rfl rfl (fun w hw => As.at_ (hw.get (i := 1) rfl))) (fun x6 ex6 h => ?_)))))))
    refine L.y rfl (Y.loadEN (r := [.int .i64 x6.From, .int .i64 x6.To, .int .i64 x6.Kind]) ag60 sz60 rfl (fun w hw => As.at_ (hw.get (i := 1) rfl)) (idx_map ex6) rfl) ?_
    refine L.alloc rfl ze60 ?_
    intro b7
    refine L.store (i := 0) sz60 rfl rfl rfl rfl (by simp [Value.oneCell', Value.cells, st]) rfl (Nat.le_of_ble_eq_true rfl) ?_
    refine L.nil (E.thenN (W.seq (W.region (L.y rfl (Y.fieldP fd60_2 rfl) ?_))))
    refine L.y rfl (Y.loadP (i := 0) ag3 rfl rfl rfl) ?_
    refine L.y rfl (Y.move rfl) ?_
    refine L.ite h rfl (Y.leq rfl rfl) (fun c8 h => ?_) (fun c8 h => ?_)
    ·
     refine L.nil (E.thenN (W.condT rfl ?_))
     refine W.region (L.y rfl (Y.move rfl) ?_)
     refine L.y rfl (Y.fieldP fd60_0 rfl) ?_
     refine L.y rfl (Y.loadP (i := 0) ag3 rfl rfl rfl) ?_
     refine L.y rfl (Y.fieldP fd60_1 rfl) ?_
     refine L.y rfl (Y.loadP (i := 0) ag3 rfl rfl rfl) ?_
     refine L.y rfl (Y.build (cells := #[.int .i64 x6.From, .int .i64 x6.To]) rfl (by kernel_rfl)) ?_
     refine L.litAgg rfl Try.underlying25 el40 rfl rfl rfl ?_
     intro b9
     refine L.appM (i := 2) (g := TEdge.row) (l := gl4) (more := [(⟨x6.From, x6.To⟩ : TEdge)]) h rfl Try.underlying25 el40 rfl rfl rfl (fun w hw => As.at_ (hw.get (i := 0) rfl)) (plain_TEdge _) rfl ?_
     intro v10 l11 el11 h
     refine L.y rfl (Y.assign rfl) ?_
     refine L.nil (E.blockN (E.thenN (W.region (L.m (V := fun x12 => .int .i64 x12) h rfl (Y.addM rfl rfl) (fun x12 ex12 h => ?_)))))
     refine L.y rfl (Y.move rfl) ?_
     exact L.nil (E.againJ ⟨v10, l11, x12, rfl, rfl, by rw [hg1]; exact h⟩ (Nat.lt_succ_self _) ⟨rfl, rfl, rfl, rfl, rfl, trivial⟩ (fun _ hw => hw.sel [0, 3] (by decide) rfl))
    ·
     refine L.nil (E.thenN (W.condF rfl ?_))
     refine W.skip (E.blockN (E.thenN (W.region (L.m (V := fun x13 => .int .i64 x13) h rfl (Y.addM rfl rfl) (fun x13 ex13 h => ?_)))))
     refine L.y rfl (Y.move rfl) ?_
     exact L.nil (E.againJ ⟨gv3, gl4, x13, rfl, rfl, by rw [hg1]; exact h⟩ (Nat.lt_succ_self _) ⟨rfl, rfl, rfl, rfl, rfl, trivial⟩ (fun _ hw => hw.sel [1, 2] (by decide) rfl))
   ·
    refine L.nil (E.thenN (W.seq (W.condF rfl ?_)))
    exact W.exit (E.thenX (E.KLX (E.blockX (E.joinJ ⟨gv3, gl4, rfl, rfl, h⟩ ⟨rfl, trivial⟩ (fun _ hw => hw.sel [0] (by decide) rfl)))))
  ·
   rintro _ _ ⟨gv1, gl2, rfl, rfl, h⟩
   rw [m67_quirref_edgesOf_K1] at h
   refine W.seq (W.region (L.y rfl (Y.move rfl) ?_))
   refine L.y rfl (Y.assign rfl) ?_
   refine L.nil (E.thenN (W.ret (E.ret1 rfl rfl (fun w1 hw => ?_))))
   obtain rfl := Option.some.inj h
   exact ⟨_, _, rfl, ⟨_, rfl, rfl⟩, hw⟩
set_option maxRecDepth 100000 in
set_option maxHeartbeats 8000000 in
theorem w112_quirref_Closure (a0 : Int) (a1 : (List TEdge)) (u1 : Value) (w : World) (r : (List (List Bool))) (h : m112_quirref_Closure a0 a1 = some r) (hA1 : At w u1 2 (a1.map TEdge.row)) : Does Try.prog 112 [.int .i64 a0, u1] w fun u m => ∃ v0 q0, u = v0 ∧ m = [.sl v0 164 1 (zr svRow q0 r), .ss (zs (svSd 4 1 B) q0 r)] := by
  rw [m112_quirref_Closure] at h
  refine body (n := 87) Try.func112 rfl rfl rfl (Cls.refl w) ?_
  refine W.seq (W.region (L.y rfl (Y.assign rfl) ?_))
  refine L.nil (E.thenN (W.seq (W.region (L.y rfl (Y.move rfl) ?_))))
  obtain ⟨l1, el1, h⟩ := bind1S h
  refine L.makeZ (row := svRow) (sds := (svSd 4 1 B)) (nv := [nilV]) (z0 := ([] : (List Bool))) el1 rfl Try.underlying162 el164 ze164 rfl rfl rfl (gall1 rfl rfl gall0) ?_
  intro b2
  refine L.y rfl (Y.assign rfl) ?_
  refine L.nil (E.thenN (W.seqJ (fun gs D => ∃ (gl1 : (List (List Bool))) (gq2 : Nat → List Value), gs = [(0, .int .i64 a0), (1, u1), (5, (sv b2 a0.toNat))] ∧ D = Cls w [] [.sl (sv b2 a0.toNat) 164 1 (zr svRow gq2 gl1), .ss (zs (svSd 4 1 B) gq2 gl1)] ∧ m112_quirref_Closure_K1 a1 a0 gl1 = some r) ?_ ?_))
  ·
   refine W.seq (W.region (L.y rfl (Y.move rfl) ?_))
   refine L.y rfl (Y.lenMZ (row := svRow) (vs := (fun _ => [nilV])) (l := l1) Try.underlying162 rfl (fun w hw => As.at_ (hw.get (i := 0) rfl))) ?_
   refine L.y rfl (Y.move rfl) ?_
   refine L.nil (E.thenN (W.block (W.loopJ (fun m gs D => ∃ (gl15 : (List (List Bool))) (gq16 : Nat → List Value) (gx17 : Int), gs = [(0, .int .i64 a0), (1, u1), (5, (sv b2 a0.toNat)), (15, .int .i64 (l1.length : Int)), (16, .int .i64 gx17)] ∧ D = Cls w [] [.sl (sv b2 a0.toNat) 164 1 (zr svRow gq16 gl15), .ss (zs (svSd 4 1 B) gq16 gl15)] ∧ m112_quirref_Closure_L5 l1 a0 a1 m gl15 gx17 = some r) ⟨l1, (fun _ => [nilV]), 0, rfl, rfl, h⟩ ⟨rfl, rfl, rfl, rfl, rfl, trivial⟩ (fun _ hw => hw) ?_)))
   rintro m _ _ ⟨gl15, gq16, gx17, rfl, rfl, h⟩
   rcases m with _ | m
   · rw [m112_quirref_Closure_L5] at h; cases h
   rw [m112_quirref_Closure_L5] at h
   generalize hg5 : m112_quirref_Closure_L5 l1 a0 a1 m = go5 at h
   rw [m112_quirref_Closure_L5B] at h
   refine W.seq (W.region (L.ite h rfl (Y.lss rfl rfl) (fun c59 h => ?_) (fun c59 h => ?_)))
   ·
    refine L.nil (E.thenN (W.seq (W.condT rfl ?_)))
    refine W.skip (E.thenN (W.seq (W.block (W.seq (W.region (L.y rfl (Y.move rfl) ?_))))))
    refine L.y rfl (Y.assign rfl) ?_
    refine L.nil (E.thenN (W.region (L.y rfl (Y.move rfl) ?_)))
    refine L.y rfl (Y.move rfl) ?_
    refine L.y rfl (Y.move rfl) ?_
    obtain ⟨l60, el60, h⟩ := bind1S h
    refine L.makeE (row := B) (z0 := false) el60 rfl Try.underlying164 el4 ze4 rfl rfl rfl ?_
    intro b61
    refine L.m (V := fun _ => el (sv b2 a0.toNat) (gx17.toNat * 1)) h rfl (Y.indexMZ (row := svRow) (vs := gq16) (l := gl15) Try.underlying162 sz164 rfl rfl (fun w hw => As.at_ (hw.get (i := 1) rfl))) (fun x62 ex62 h => ?_)
    refine L.storeSlZS (row := svRow) (sds := (svSd 4 1 B)) (vs := gq16) (q := 1) (p := 0) (s := 2) (c := 1) (jj := 0) (u1 := l60) (v1 := [(sv b61 a0.toNat)]) (j := 0) h sz164 rfl rfl rfl rfl rfl rfl (.inl rfl) (fun _ _ => rfl) (fun _ _ => rfl) ex62 rfl rfl rfl rfl (by decide) ?_
    intro l63 q64 el63 h
    refine L.nil (E.blockN (E.thenN (W.region (L.m (V := fun x65 => .int .i64 x65) h rfl (Y.addM rfl rfl) (fun x65 ex65 h => ?_)))))
    refine L.y rfl (Y.move rfl) ?_
    exact L.nil (E.againJ ⟨l63, q64, x65, rfl, rfl, by rw [hg5]; exact h⟩ (Nat.lt_succ_self _) ⟨rfl, rfl, rfl, rfl, rfl, trivial⟩ (fun _ hw => hw))
   ·
    refine L.nil (E.thenN (W.seq (W.condF rfl ?_)))
    exact W.exit (E.thenX (E.KLX (E.blockX (E.joinJ ⟨gl15, gq16, rfl, rfl, h⟩ ⟨rfl, rfl, rfl, trivial⟩ (fun _ hw => hw)))))
  ·
   rintro _ _ ⟨gl1, gq2, rfl, rfl, h⟩
   rw [m112_quirref_Closure_K1] at h
   refine W.seqJ (fun gs D => ∃ (gl3 : (List (List Bool))), gs = [(0, .int .i64 a0), (5, (sv b2 a0.toNat))] ∧ D = Cls w [] [.sl (sv b2 a0.toNat) 164 1 (zr svRow gq2 gl3), .ss (zs (svSd 4 1 B) gq2 gl3)] ∧ m112_quirref_Closure_K2 a0 gl3 = some r) ?_ ?_
   ·
    refine W.seq (W.region (L.y rfl (Y.move rfl) ?_))
    refine L.y rfl (Y.lenM (g := TEdge.row) (l := a1) Try.underlying25 rfl (fun w' hw => hA1.cls0 hw)) ?_
    refine L.y rfl (Y.move rfl) ?_
    refine L.nil (E.thenN (W.block (W.loopJ (fun m gs D => ∃ (gl13 : (List (List Bool))) (gx14 : Int), gs = [(0, .int .i64 a0), (5, (sv b2 a0.toNat)), (25, u1), (26, .int .i64 (a1.length : Int)), (27, .int .i64 gx14)] ∧ D = Cls w [] [.sl (sv b2 a0.toNat) 164 1 (zr svRow gq2 gl13), .ss (zs (svSd 4 1 B) gq2 gl13)] ∧ m112_quirref_Closure_L4 a1 a0 m gl13 gx14 = some r) ⟨gl1, 0, rfl, rfl, h⟩ ⟨rfl, rfl, rfl, rfl, rfl, trivial⟩ (fun _ hw => hw) ?_)))
    rintro m _ _ ⟨gl13, gx14, rfl, rfl, h⟩
    rcases m with _ | m
    · rw [m112_quirref_Closure_L4] at h; cases h
    rw [m112_quirref_Closure_L4] at h
    generalize hg4 : m112_quirref_Closure_L4 a1 a0 m = go4 at h
    rw [m112_quirref_Closure_L4B] at h
    refine W.seq (W.region (L.ite h rfl (Y.lss rfl rfl) (fun c43 h => ?_) (fun c43 h => ?_)))
    ·
     refine L.nil (E.thenN (W.seq (W.condT rfl ?_)))
     refine W.skip (E.thenN (W.seq (W.block (W.seq (W.region (L.m (V := fun _ => el u1 (gx14.toNat * 2)) h rfl (Y.indexM (g := TEdge.row) (l := a1) Try.underlying25 sz40 rfl rfl (fun w' hw => hA1.cls0 hw)) (fun x44 ex44 h => ?_)))))))
     refine L.y rfl (Y.loadEN (r := [.int .i64 x44.From, .int .i64 x44.To]) ag40 sz40 rfl (fun w' hw => hA1.cls0 hw) (idx_map ex44) rfl) ?_
     refine L.alloc rfl ze40 ?_
     intro b45
     refine L.store (i := 0) sz40 rfl rfl rfl rfl (by simp [Value.oneCell', Value.cells, st]) rfl (Nat.le_of_ble_eq_true rfl) ?_
     refine L.nil (E.thenN (W.drawn2 (k := 9) (stC [[8]] [Cls w [] [.obj b45 [.int .i64 x44.From, .int .i64 x44.To] 40, .sl (sv b2 a0.toNat) 164 1 (zr svRow gq2 gl13), .ss (zs (svSd 4 1 B) gq2 gl13)]] (Cls w [] [.obj b45 [.int .i64 x44.From, .int .i64 x44.To] 40])) rfl mixed (fun _ hw => hw.drew) (Sc.now (by kernel_rfl) (fun _ hw => hw)) ?_))
     refine V2.y (i := 0) (Nx2.of (Z := Cls w [] [.obj b45 [.int .i64 x44.From, .int .i64 x44.To] 40]) [] (by kernel_rfl) rfl (Zc.on (fun _ hw => hw.sel [0] (by decide) rfl) (Zc.fin (fun _ hw => hw)))) rfl rfl rfl (Y.move rfl) ?_
     refine V2.y (i := 1) (Nx2.of (Z := Cls w [] [.obj b45 [.int .i64 x44.From, .int .i64 x44.To] 40]) [] (by kernel_rfl) rfl (Zc.on (fun _ hw => hw.sel [0] (by decide) rfl) (Zc.fin (fun _ hw => hw)))) rfl rfl rfl (Y.fieldP fd40_0 rfl) ?_
     refine V2.y (i := 2) (Nx2.of (Z := Cls w [] [.obj b45 [.int .i64 x44.From, .int .i64 x44.To] 40]) [] (by kernel_rfl) rfl (Zc.on (fun _ hw => hw.sel [0] (by decide) rfl) (Zc.fin (fun _ hw => hw)))) rfl rfl rfl (Y.loadP (i := 0) ag3 rfl rfl rfl) ?_
     refine V2.m (i := 3) (V' := fun _ => el (sv b2 a0.toNat) (x44.From.toNat * 1)) h (Nx2.of (Z := Cls w [] [.obj b45 [.int .i64 x44.From, .int .i64 x44.To] 40, .sl (sv b2 a0.toNat) 164 1 (zr svRow gq2 gl13), .ss (zs (svSd 4 1 B) gq2 gl13)]) [8] (by kernel_rfl) rfl (Zc.at1 (fun _ hw => hw))) rfl rfl rfl (Y.indexMZ (row := svRow) (vs := gq2) (l := gl13) Try.underlying162 sz164 rfl rfl (fun w hw => As.at_ (hw.get (i := 1) rfl))) (fun x54 ex54 h => ?_)
     refine V2.y (i := 4) (Nx2.of (Z := Cls w [] [.obj b45 [.int .i64 x44.From, .int .i64 x44.To] 40, .sl (sv b2 a0.toNat) 164 1 (zr svRow gq2 gl13), .ss (zs (svSd 4 1 B) gq2 gl13)]) [8] (by kernel_rfl) rfl (Zc.at1 (fun _ hw => hw))) rfl rfl rfl (Y.loadE1 (u := gv (gq2 x44.From.toNat) 0) ag164 rfl (fun w hw => As.at_ (hw.get (i := 1) rfl)) (zr_idx (vs := gq2) ex54)) ?_
     refine V2.y (i := 5) (Nx2.of (Z := Cls w [] [.obj b45 [.int .i64 x44.From, .int .i64 x44.To] 40]) [] (by kernel_rfl) rfl (Zc.on (fun _ hw => hw.sel [0] (by decide) rfl) (Zc.fin (fun _ hw => hw)))) rfl rfl rfl (Y.fieldP fd40_1 rfl) ?_
     refine V2.y (i := 6) (Nx2.of (Z := Cls w [] [.obj b45 [.int .i64 x44.From, .int .i64 x44.To] 40]) [] (by kernel_rfl) rfl (Zc.on (fun _ hw => hw.sel [0] (by decide) rfl) (Zc.fin (fun _ hw => hw)))) rfl rfl rfl (Y.loadP (i := 0) ag3 rfl rfl rfl) ?_
     refine V2.m (i := 7) (V' := fun _ => el (gv (gq2 x44.From.toNat) 0) (x44.To.toNat * 1)) h (Nx2.of (Z := Cls w [] [.obj b45 [.int .i64 x44.From, .int .i64 x44.To] 40, .sl (sv b2 a0.toNat) 164 1 (zr svRow gq2 gl13), .ss (zs (svSd 4 1 B) gq2 gl13)]) [8] (by kernel_rfl) rfl (Zc.at1 (fun _ hw => hw))) rfl rfl rfl (Y.indexM (g := B) (l := x54) Try.underlying164 sz4 rfl rfl (fun w hw => As.atZ (sds := (svSd 4 1 B)) (vs := gq2) (j := 0) (hw.get (i := 2) rfl) (fun _ _ => rfl) ex54 rfl)) (fun x55 ex55 h => ?_)
     refine V2.eff (i := 8) (by kernel_rfl) rfl ?_
     refine L.ssOut (sds := (svSd 4 1 B)) (vs := gq2) (s := 2) (j := 0) (c := 1) rfl (fun _ _ => rfl) ex54 rfl ?_
     refine L.storeSlM (q := 0) (row := B) (vs := [.bool true]) (j := 0) (u1 := true) h sz4 rfl rfl rfl rfl rfl (all1 rfl all0) rfl ex55 rfl rfl ?_
     intro l56 el56 h
     refine L.ssBack (row := svRow) (sds := (svSd 4 1 B)) (vs := gq2) (p := 0) (s := 3) (q := 2) (c := 1) (jj := 0) (u1 := l56) (fun z => .sl (sv b2 a0.toNat) 164 1 z) h rfl rfl rfl (fun _ _ => rfl) ex54 rfl rfl rfl ?_
     intro l57 el57 h
     refine L.nil (E.toV2 (stC [] [] (Cls w [] [.obj b45 [.int .i64 x44.From, .int .i64 x44.To] 40])) 8 (by kernel_rfl) (Sc.past rfl (Sc.stayD (fun _ hw => hw))) (Sc.atD (fun _ hw => hw.sel [0] (by decide) rfl)) ?_)
     refine V2.done (by kernel_rfl) ?_
     refine E.blockN (E.thenN (W.region (L.m (V := fun x58 => .int .i64 x58) h rfl (Y.addM rfl rfl) (fun x58 ex58 h => ?_))))
     refine L.y rfl (Y.move rfl) ?_
     exact L.nil (E.againJ ⟨l57, x58, rfl, rfl, by rw [hg4]; exact h⟩ (Nat.lt_succ_self _) ⟨rfl, rfl, rfl, rfl, rfl, trivial⟩ (fun _ hw => hw.sel [1, 2] (by decide) rfl))
    ·
     refine L.nil (E.thenN (W.seq (W.condF rfl ?_)))
     exact W.exit (E.thenX (E.KLX (E.blockX (E.joinJ ⟨gl13, rfl, rfl, h⟩ ⟨rfl, rfl, trivial⟩ (fun _ hw => hw)))))
   ·
    rintro _ _ ⟨gl3, rfl, rfl, h⟩
    rw [m112_quirref_Closure_K2] at h
    refine W.seqJ (fun gs D => ∃ (gl4 : (List (List Bool))), gs = [(5, (sv b2 a0.toNat))] ∧ D = Cls w [] [.sl (sv b2 a0.toNat) 164 1 (zr svRow gq2 gl4), .ss (zs (svSd 4 1 B) gq2 gl4)] ∧ m112_quirref_Closure_K3 gl4 = some r) ?_ ?_
    ·
     refine W.seq (W.region (L.y rfl (Y.move rfl) ?_))
     refine L.y rfl (Y.move rfl) ?_
     refine L.nil (E.thenN (W.block (W.loopJ (fun m gs D => ∃ (gl5 : (List (List Bool))) (gx6 : Int), gs = [(0, .int .i64 a0), (5, (sv b2 a0.toNat)), (40, .int .i64 a0), (41, .int .i64 gx6)] ∧ D = Cls w [] [.sl (sv b2 a0.toNat) 164 1 (zr svRow gq2 gl5), .ss (zs (svSd 4 1 B) gq2 gl5)] ∧ m112_quirref_Closure_L1 a0 m gl5 gx6 = some r) ⟨gl3, 0, rfl, rfl, h⟩ ⟨rfl, rfl, rfl, rfl, trivial⟩ (fun _ hw => hw) ?_)))
     rintro m _ _ ⟨gl5, gx6, rfl, rfl, h⟩
     rcases m with _ | m
     · rw [m112_quirref_Closure_L1] at h; cases h
     rw [m112_quirref_Closure_L1] at h
     generalize hg1 : m112_quirref_Closure_L1 a0 m = go1 at h
     rw [m112_quirref_Closure_L1B] at h
     refine W.seq (W.region (L.ite h rfl (Y.lss rfl rfl) (fun c3 h => ?_) (fun c3 h => ?_)))
     ·
      refine L.nil (E.thenN (W.seq (W.condT rfl ?_)))
      refine W.skip (E.thenN (W.seqJ (fun gs D => ∃ (gl7 : (List (List Bool))), gs = [(0, .int .i64 a0), (5, (sv b2 a0.toNat)), (40, .int .i64 a0), (41, .int .i64 gx6)] ∧ D = Cls w [] [.sl (sv b2 a0.toNat) 164 1 (zr svRow gq2 gl7), .ss (zs (svSd 4 1 B) gq2 gl7)] ∧ m112_quirref_Closure_K4 gx6 go1 gl7 = some r) ?_ ?_))
      ·
       refine W.block (W.seq (W.region (L.y rfl (Y.move rfl) ?_)))
       refine L.y rfl (Y.assign rfl) ?_
       refine L.nil (E.thenN (W.seq (W.region (L.y rfl (Y.move rfl) ?_))))
       refine L.y rfl (Y.move rfl) ?_
       refine L.nil (E.thenN (W.block (W.loopJ (fun m gs D => ∃ (gl8 : (List (List Bool))) (gx9 : Int), gs = [(0, .int .i64 a0), (5, (sv b2 a0.toNat)), (9, .int .i64 gx6), (40, .int .i64 a0), (41, .int .i64 gx6), (44, .int .i64 a0), (45, .int .i64 gx9)] ∧ D = Cls w [] [.sl (sv b2 a0.toNat) 164 1 (zr svRow gq2 gl8), .ss (zs (svSd 4 1 B) gq2 gl8)] ∧ m112_quirref_Closure_L2 a0 gx6 go1 m gl8 gx9 = some r) ⟨gl5, 0, rfl, rfl, h⟩ ⟨rfl, rfl, rfl, rfl, rfl, rfl, rfl, trivial⟩ (fun _ hw => hw) ?_)))
       rintro m _ _ ⟨gl8, gx9, rfl, rfl, h⟩
       rcases m with _ | m
       · rw [m112_quirref_Closure_L2] at h; cases h
       rw [m112_quirref_Closure_L2] at h
       generalize hg2 : m112_quirref_Closure_L2 a0 gx6 go1 m = go2 at h
       rw [m112_quirref_Closure_L2B] at h
       refine W.seq (W.region (L.ite h rfl (Y.lss rfl rfl) (fun c5 h => ?_) (fun c5 h => ?_)))
       ·
        refine L.nil (E.thenN (W.seq (W.condT rfl ?_)))
        refine W.skip (E.thenN (W.seqJ (fun gs D => ∃ (gl10 : (List (List Bool))), gs = [(0, .int .i64 a0), (5, (sv b2 a0.toNat)), (9, .int .i64 gx6), (40, .int .i64 a0), (41, .int .i64 gx6), (44, .int .i64 a0), (45, .int .i64 gx9)] ∧ D = Cls w [] [.sl (sv b2 a0.toNat) 164 1 (zr svRow gq2 gl10), .ss (zs (svSd 4 1 B) gq2 gl10)] ∧ m112_quirref_Closure_K5 gx9 go2 gl10 = some r) ?_ ?_))
        ·
         refine W.block (W.seq (W.region (L.y rfl (Y.move rfl) ?_)))
         refine L.y rfl (Y.assign rfl) ?_
         refine L.nil (E.thenN (W.seq (W.region (L.y rfl (Y.move rfl) ?_))))
         refine L.y rfl (Y.move rfl) ?_
         refine L.nil (E.thenN (W.block (W.loopJ (fun m gs D => ∃ (gl11 : (List (List Bool))) (gx12 : Int), gs = [(0, .int .i64 a0), (5, (sv b2 a0.toNat)), (9, .int .i64 gx6), (10, .int .i64 gx9), (40, .int .i64 a0), (41, .int .i64 gx6), (44, .int .i64 a0), (45, .int .i64 gx9), (48, .int .i64 a0), (49, .int .i64 gx12)] ∧ D = Cls w [] [.sl (sv b2 a0.toNat) 164 1 (zr svRow gq2 gl11), .ss (zs (svSd 4 1 B) gq2 gl11)] ∧ m112_quirref_Closure_L3 a0 gx9 gx6 go2 m gl11 gx12 = some r) ⟨gl8, 0, rfl, rfl, h⟩ ⟨rfl, rfl, rfl, rfl, rfl, rfl, rfl, rfl, rfl, rfl, trivial⟩ (fun _ hw => hw) ?_)))
         rintro m _ _ ⟨gl11, gx12, rfl, rfl, h⟩
         rcases m with _ | m
         · rw [m112_quirref_Closure_L3] at h; cases h
         rw [m112_quirref_Closure_L3] at h
         generalize hg3 : m112_quirref_Closure_L3 a0 gx9 gx6 go2 m = go3 at h
         rw [m112_quirref_Closure_L3B] at h
         refine W.seq (W.region (L.ite h rfl (Y.lss rfl rfl) (fun c7 h => ?_) (fun c7 h => ?_)))
         ·
          refine L.nil (E.thenN (W.seq (W.condT rfl ?_)))
          refine W.skip (E.thenN (W.seq (W.block (W.seq (W.region (L.y rfl (Y.move rfl) ?_))))))
          refine L.y rfl (Y.assign rfl) ?_
          refine L.nil (E.thenN (W.drawn2 (k := 32) (stC [[31]] [Cls w [] [.sl (sv b2 a0.toNat) 164 1 (zr svRow gq2 gl11), .ss (zs (svSd 4 1 B) gq2 gl11)]] (Cls w [] [])) rfl mixed (fun _ hw => hw.drew) (Sc.now (by kernel_rfl) (fun _ hw => hw)) ?_))
          refine V2.y (i := 0) (Nx2.of (Z := Cls w [] []) [] (by kernel_rfl) rfl (Zc.on (fun _ hw => hw.sel [] (by decide) rfl) (Zc.fin (fun _ hw => hw)))) rfl rfl rfl (Y.move rfl) ?_
          refine V2.y (i := 1) (Nx2.of (Z := Cls w [] []) [] (by kernel_rfl) rfl (Zc.on (fun _ hw => hw.sel [] (by decide) rfl) (Zc.fin (fun _ hw => hw)))) rfl rfl rfl (Y.move rfl) ?_
          refine V2.m (i := 2) (V' := fun _ => el (sv b2 a0.toNat) (gx9.toNat * 1)) h (Nx2.of (Z := Cls w [] [.sl (sv b2 a0.toNat) 164 1 (zr svRow gq2 gl11), .ss (zs (svSd 4 1 B) gq2 gl11)]) [31] (by kernel_rfl) rfl (Zc.at1 (fun _ hw => hw))) rfl rfl rfl (Y.indexMZ (row := svRow) (vs := gq2) (l := gl11) Try.underlying162 sz164 rfl rfl (fun w hw => As.at_ (hw.get (i := 0) rfl))) (fun x22 ex22 h => ?_)
          refine V2.y (i := 3) (Nx2.of (Z := Cls w [] [.sl (sv b2 a0.toNat) 164 1 (zr svRow gq2 gl11), .ss (zs (svSd 4 1 B) gq2 gl11)]) [31] (by kernel_rfl) rfl (Zc.at1 (fun _ hw => hw))) rfl rfl rfl (Y.loadE1 (u := gv (gq2 gx9.toNat) 0) ag164 rfl (fun w hw => As.at_ (hw.get (i := 0) rfl)) (zr_idx (vs := gq2) ex22)) ?_
          refine V2.y (i := 4) (Nx2.of (Z := Cls w [] []) [] (by kernel_rfl) rfl (Zc.on (fun _ hw => hw.sel [] (by decide) rfl) (Zc.fin (fun _ hw => hw)))) rfl rfl rfl (Y.move rfl) ?_
          refine V2.y (i := 5) (Nx2.of (Z := Cls w [] []) [] (by kernel_rfl) rfl (Zc.on (fun _ hw => hw.sel [] (by decide) rfl) (Zc.fin (fun _ hw => hw)))) rfl rfl rfl (Y.move rfl) ?_
          refine V2.y (i := 6) (Nx2.of (Z := Cls w [] []) [] (by kernel_rfl) rfl (Zc.on (fun _ hw => hw.sel [] (by decide) rfl) (Zc.fin (fun _ hw => hw)))) rfl rfl rfl (Y.move rfl) ?_
          refine V2.m (i := 7) (V' := fun _ => el (sv b2 a0.toNat) (gx9.toNat * 1)) h (Nx2.of (Z := Cls w [] [.sl (sv b2 a0.toNat) 164 1 (zr svRow gq2 gl11), .ss (zs (svSd 4 1 B) gq2 gl11)]) [31] (by kernel_rfl) rfl (Zc.at1 (fun _ hw => hw))) rfl rfl rfl (Y.indexMZ (row := svRow) (vs := gq2) (l := gl11) Try.underlying162 sz164 rfl rfl (fun w hw => As.at_ (hw.get (i := 0) rfl))) (fun x23 ex23 h => ?_)
          refine V2.y (i := 8) (Nx2.of (Z := Cls w [] [.sl (sv b2 a0.toNat) 164 1 (zr svRow gq2 gl11), .ss (zs (svSd 4 1 B) gq2 gl11)]) [31] (by kernel_rfl) rfl (Zc.at1 (fun _ hw => hw))) rfl rfl rfl (Y.loadE1 (u := gv (gq2 gx9.toNat) 0) ag164 rfl (fun w hw => As.at_ (hw.get (i := 0) rfl)) (zr_idx (vs := gq2) ex23)) ?_
          refine V2.y (i := 9) (Nx2.of (Z := Cls w [] []) [] (by kernel_rfl) rfl (Zc.on (fun _ hw => hw.sel [] (by decide) rfl) (Zc.fin (fun _ hw => hw)))) rfl rfl rfl (Y.move rfl) ?_
          refine V2.m (i := 10) (V' := fun _ => el (gv (gq2 gx9.toNat) 0) (gx12.toNat * 1)) h (Nx2.of (Z := Cls w [] [.sl (sv b2 a0.toNat) 164 1 (zr svRow gq2 gl11), .ss (zs (svSd 4 1 B) gq2 gl11)]) [31] (by kernel_rfl) rfl (Zc.at1 (fun _ hw => hw))) rfl rfl rfl (Y.indexM (g := B) (l := x23) Try.underlying164 sz4 rfl rfl (fun w hw => As.atZ (sds := (svSd 4 1 B)) (vs := gq2) (j := 0) (hw.get (i := 1) rfl) (fun _ _ => rfl) ex23 rfl)) (fun x24 ex24 h => ?_)
          refine V2.iteB (i := 11) h (Nx2.of (Z := Cls w [] [.sl (sv b2 a0.toNat) 164 1 (zr svRow gq2 gl11), .ss (zs (svSd 4 1 B) gq2 gl11)]) [31] (by kernel_rfl) rfl (Zc.at1 (fun _ hw => hw))) rfl rfl rfl (Y.loadE1 (u := .bool x24) ag4 rfl (fun w hw => As.atZ (sds := (svSd 4 1 B)) (vs := gq2) (j := 0) (hw.get (i := 1) rfl) (fun _ _ => rfl) ex23 rfl) (idx_map ex24)) (fun c25 h => ?_) (fun c25 h => ?_)
          ·
           refine V2.y (i := 12) (Nx2.of (Z := Cls w [] []) [] (by kernel_rfl) rfl (Zc.on (fun _ hw => hw.sel [] (by decide) rfl) (Zc.fin (fun _ hw => hw)))) rfl rfl rfl (Y.move rfl) ?_
           refine V2.pass (i := 13) (Nx2.of (Z := Cls w [] []) [] (by kernel_rfl) rfl (Zc.on (fun _ hw => hw.sel [] (by decide) rfl) (Zc.fin (fun _ hw => hw)))) rfl rfl ?_
           refine V2.pass (i := 14) (Nx2.of (Z := Cls w [] []) [] (by kernel_rfl) rfl (Zc.on (fun _ hw => hw.sel [] (by decide) rfl) (Zc.fin (fun _ hw => hw)))) rfl rfl ?_
           refine V2.pass (i := 15) (Nx2.of (Z := Cls w [] []) [] (by kernel_rfl) rfl (Zc.on (fun _ hw => hw.sel [] (by decide) rfl) (Zc.fin (fun _ hw => hw)))) rfl rfl ?_
           refine V2.pass (i := 16) (Nx2.of (Z := Cls w [] []) [] (by kernel_rfl) rfl (Zc.on (fun _ hw => hw.sel [] (by decide) rfl) (Zc.fin (fun _ hw => hw)))) rfl rfl ?_
           refine V2.pass (i := 17) (Nx2.of (Z := Cls w [] []) [] (by kernel_rfl) rfl (Zc.on (fun _ hw => hw.sel [] (by decide) rfl) (Zc.fin (fun _ hw => hw)))) rfl rfl ?_
           refine V2.pass (i := 18) (Nx2.of (Z := Cls w [] []) [] (by kernel_rfl) rfl (Zc.on (fun _ hw => hw.sel [] (by decide) rfl) (Zc.fin (fun _ hw => hw)))) rfl rfl ?_
           refine V2.pass (i := 19) (Nx2.of (Z := Cls w [] []) [] (by kernel_rfl) rfl (Zc.on (fun _ hw => hw.sel [] (by decide) rfl) (Zc.fin (fun _ hw => hw)))) rfl rfl ?_
           refine V2.pass (i := 20) (Nx2.of (Z := Cls w [] []) [] (by kernel_rfl) rfl (Zc.on (fun _ hw => hw.sel [] (by decide) rfl) (Zc.fin (fun _ hw => hw)))) rfl rfl ?_
           refine V2.pass (i := 21) (Nx2.of (Z := Cls w [] []) [] (by kernel_rfl) rfl (Zc.on (fun _ hw => hw.sel [] (by decide) rfl) (Zc.fin (fun _ hw => hw)))) rfl rfl ?_
           refine V2.pass (i := 22) (Nx2.of (Z := Cls w [] []) [] (by kernel_rfl) rfl (Zc.on (fun _ hw => hw.sel [] (by decide) rfl) (Zc.fin (fun _ hw => hw)))) rfl rfl ?_
           refine V2.pass (i := 23) (Nx2.of (Z := Cls w [] []) [] (by kernel_rfl) rfl (Zc.on (fun _ hw => hw.sel [] (by decide) rfl) (Zc.fin (fun _ hw => hw)))) rfl rfl ?_
           refine V2.pass (i := 24) (Nx2.of (Z := Cls w [] []) [] (by kernel_rfl) rfl (Zc.on (fun _ hw => hw.sel [] (by decide) rfl) (Zc.fin (fun _ hw => hw)))) rfl rfl ?_
           refine V2.pass (i := 25) (Nx2.of (Z := Cls w [] []) [] (by kernel_rfl) rfl (Zc.on (fun _ hw => hw.sel [] (by decide) rfl) (Zc.fin (fun _ hw => hw)))) rfl rfl ?_
           refine V2.pass (i := 26) (Nx2.of (Z := Cls w [] []) [] (by kernel_rfl) rfl (Zc.on (fun _ hw => hw.sel [] (by decide) rfl) (Zc.fin (fun _ hw => hw)))) rfl rfl ?_
           refine V2.pass (i := 27) (Nx2.of (Z := Cls w [] []) [] (by kernel_rfl) rfl (Zc.on (fun _ hw => hw.sel [] (by decide) rfl) (Zc.fin (fun _ hw => hw)))) rfl rfl ?_
           refine V2.pass (i := 28) (Nx2.of (Z := Cls w [] []) [] (by kernel_rfl) rfl (Zc.on (fun _ hw => hw.sel [] (by decide) rfl) (Zc.fin (fun _ hw => hw)))) rfl rfl ?_
           refine V2.y (i := 29) (Nx2.of (Z := Cls w [] []) [] (by kernel_rfl) rfl (Zc.on (fun _ hw => hw.sel [] (by decide) rfl) (Zc.fin (fun _ hw => hw)))) rfl rfl rfl (Y.pickT rfl rfl) ?_
           refine V2.m (i := 30) (V' := fun _ => el (gv (gq2 gx9.toNat) 0) (gx12.toNat * 1)) h (Nx2.of (Z := Cls w [] [.sl (sv b2 a0.toNat) 164 1 (zr svRow gq2 gl11), .ss (zs (svSd 4 1 B) gq2 gl11)]) [31] (by kernel_rfl) rfl (Zc.at1 (fun _ hw => hw))) rfl rfl rfl (Y.indexM (g := B) (l := x22) Try.underlying164 sz4 rfl rfl (fun w hw => As.atZ (sds := (svSd 4 1 B)) (vs := gq2) (j := 0) (hw.get (i := 1) rfl) (fun _ _ => rfl) ex22 rfl)) (fun x26 ex26 h => ?_)
           refine V2.eff (i := 31) (by kernel_rfl) rfl ?_
           refine L.ssOut (sds := (svSd 4 1 B)) (vs := gq2) (s := 1) (j := 0) (c := 1) rfl (fun _ _ => rfl) ex22 rfl ?_
           refine L.storeSlM (q := 0) (row := B) (vs := [.bool true]) (j := 0) (u1 := true) h sz4 rfl rfl rfl rfl rfl (all1 rfl all0) rfl ex26 rfl rfl ?_
           intro l27 el27 h
           refine L.ssBack (row := svRow) (sds := (svSd 4 1 B)) (vs := gq2) (p := 0) (s := 2) (q := 1) (c := 1) (jj := 0) (u1 := l27) (fun z => .sl (sv b2 a0.toNat) 164 1 z) h rfl rfl rfl (fun _ _ => rfl) ex22 rfl rfl rfl ?_
           intro l28 el28 h
           refine L.nil (E.toV2 (stC [] [] (Cls w [] [])) 31 (by kernel_rfl) (Sc.past rfl (Sc.stayD (fun _ hw => hw))) (Sc.atD (fun _ hw => hw.sel [] (by decide) rfl)) ?_)
           refine V2.done (by kernel_rfl) ?_
           refine E.blockN (E.thenN (W.region (L.m (V := fun x29 => .int .i64 x29) h rfl (Y.addM rfl rfl) (fun x29 ex29 h => ?_))))
           refine L.y rfl (Y.move rfl) ?_
           exact L.nil (E.againJ ⟨l28, x29, rfl, rfl, by rw [hg3]; exact h⟩ (Nat.lt_succ_self _) ⟨rfl, rfl, rfl, rfl, rfl, rfl, rfl, rfl, rfl, rfl, trivial⟩ (fun _ hw => hw))
          ·
           refine V2.y (i := 12) (Nx2.of (Z := Cls w [] []) [] (by kernel_rfl) rfl (Zc.on (fun _ hw => hw.sel [] (by decide) rfl) (Zc.fin (fun _ hw => hw)))) rfl rfl rfl (Y.move rfl) ?_
           refine V2.y (i := 13) (Nx2.of (Z := Cls w [] []) [] (by kernel_rfl) rfl (Zc.on (fun _ hw => hw.sel [] (by decide) rfl) (Zc.fin (fun _ hw => hw)))) rfl rfl rfl (Y.move rfl) ?_
           refine V2.y (i := 14) (Nx2.of (Z := Cls w [] []) [] (by kernel_rfl) rfl (Zc.on (fun _ hw => hw.sel [] (by decide) rfl) (Zc.fin (fun _ hw => hw)))) rfl rfl rfl (Y.move rfl) ?_
           refine V2.m (i := 15) (V' := fun _ => el (sv b2 a0.toNat) (gx9.toNat * 1)) h (Nx2.of (Z := Cls w [] [.sl (sv b2 a0.toNat) 164 1 (zr svRow gq2 gl11), .ss (zs (svSd 4 1 B) gq2 gl11)]) [31] (by kernel_rfl) rfl (Zc.at1 (fun _ hw => hw))) rfl rfl rfl (Y.indexMZ (row := svRow) (vs := gq2) (l := gl11) Try.underlying162 sz164 rfl rfl (fun w hw => As.at_ (hw.get (i := 0) rfl))) (fun x30 ex30 h => ?_)
           refine V2.y (i := 16) (Nx2.of (Z := Cls w [] [.sl (sv b2 a0.toNat) 164 1 (zr svRow gq2 gl11), .ss (zs (svSd 4 1 B) gq2 gl11)]) [31] (by kernel_rfl) rfl (Zc.at1 (fun _ hw => hw))) rfl rfl rfl (Y.loadE1 (u := gv (gq2 gx9.toNat) 0) ag164 rfl (fun w hw => As.at_ (hw.get (i := 0) rfl)) (zr_idx (vs := gq2) ex30)) ?_
           refine V2.y (i := 17) (Nx2.of (Z := Cls w [] []) [] (by kernel_rfl) rfl (Zc.on (fun _ hw => hw.sel [] (by decide) rfl) (Zc.fin (fun _ hw => hw)))) rfl rfl rfl (Y.move rfl) ?_
           refine V2.m (i := 18) (V' := fun _ => el (gv (gq2 gx9.toNat) 0) (gx6.toNat * 1)) h (Nx2.of (Z := Cls w [] [.sl (sv b2 a0.toNat) 164 1 (zr svRow gq2 gl11), .ss (zs (svSd 4 1 B) gq2 gl11)]) [31] (by kernel_rfl) rfl (Zc.at1 (fun _ hw => hw))) rfl rfl rfl (Y.indexM (g := B) (l := x30) Try.underlying164 sz4 rfl rfl (fun w hw => As.atZ (sds := (svSd 4 1 B)) (vs := gq2) (j := 0) (hw.get (i := 1) rfl) (fun _ _ => rfl) ex30 rfl)) (fun x31 ex31 h => ?_)
           refine V2.iteB (i := 19) h (Nx2.of (Z := Cls w [] [.sl (sv b2 a0.toNat) 164 1 (zr svRow gq2 gl11), .ss (zs (svSd 4 1 B) gq2 gl11)]) [31] (by kernel_rfl) rfl (Zc.at1 (fun _ hw => hw))) rfl rfl rfl (Y.loadE1 (u := .bool x31) ag4 rfl (fun w hw => As.atZ (sds := (svSd 4 1 B)) (vs := gq2) (j := 0) (hw.get (i := 1) rfl) (fun _ _ => rfl) ex30 rfl) (idx_map ex31)) (fun c32 h => ?_) (fun c32 h => ?_)
           ·
            refine V2.y (i := 20) (Nx2.of (Z := Cls w [] []) [] (by kernel_rfl) rfl (Zc.on (fun _ hw => hw.sel [] (by decide) rfl) (Zc.fin (fun _ hw => hw)))) rfl rfl rfl (Y.move rfl) ?_
            refine V2.y (i := 21) (Nx2.of (Z := Cls w [] []) [] (by kernel_rfl) rfl (Zc.on (fun _ hw => hw.sel [] (by decide) rfl) (Zc.fin (fun _ hw => hw)))) rfl rfl rfl (Y.move rfl) ?_
            refine V2.y (i := 22) (Nx2.of (Z := Cls w [] []) [] (by kernel_rfl) rfl (Zc.on (fun _ hw => hw.sel [] (by decide) rfl) (Zc.fin (fun _ hw => hw)))) rfl rfl rfl (Y.move rfl) ?_
            refine V2.m (i := 23) (V' := fun _ => el (sv b2 a0.toNat) (gx6.toNat * 1)) h (Nx2.of (Z := Cls w [] [.sl (sv b2 a0.toNat) 164 1 (zr svRow gq2 gl11), .ss (zs (svSd 4 1 B) gq2 gl11)]) [31] (by kernel_rfl) rfl (Zc.at1 (fun _ hw => hw))) rfl rfl rfl (Y.indexMZ (row := svRow) (vs := gq2) (l := gl11) Try.underlying162 sz164 rfl rfl (fun w hw => As.at_ (hw.get (i := 0) rfl))) (fun x33 ex33 h => ?_)
            refine V2.y (i := 24) (Nx2.of (Z := Cls w [] [.sl (sv b2 a0.toNat) 164 1 (zr svRow gq2 gl11), .ss (zs (svSd 4 1 B) gq2 gl11)]) [31] (by kernel_rfl) rfl (Zc.at1 (fun _ hw => hw))) rfl rfl rfl (Y.loadE1 (u := gv (gq2 gx6.toNat) 0) ag164 rfl (fun w hw => As.at_ (hw.get (i := 0) rfl)) (zr_idx (vs := gq2) ex33)) ?_
            refine V2.y (i := 25) (Nx2.of (Z := Cls w [] []) [] (by kernel_rfl) rfl (Zc.on (fun _ hw => hw.sel [] (by decide) rfl) (Zc.fin (fun _ hw => hw)))) rfl rfl rfl (Y.move rfl) ?_
            refine V2.m (i := 26) (V' := fun _ => el (gv (gq2 gx6.toNat) 0) (gx12.toNat * 1)) h (Nx2.of (Z := Cls w [] [.sl (sv b2 a0.toNat) 164 1 (zr svRow gq2 gl11), .ss (zs (svSd 4 1 B) gq2 gl11)]) [31] (by kernel_rfl) rfl (Zc.at1 (fun _ hw => hw))) rfl rfl rfl (Y.indexM (g := B) (l := x33) Try.underlying164 sz4 rfl rfl (fun w hw => As.atZ (sds := (svSd 4 1 B)) (vs := gq2) (j := 0) (hw.get (i := 1) rfl) (fun _ _ => rfl) ex33 rfl)) (fun x34 ex34 h => ?_)
            refine V2.y (i := 27) (Nx2.of (Z := Cls w [] [.sl (sv b2 a0.toNat) 164 1 (zr svRow gq2 gl11), .ss (zs (svSd 4 1 B) gq2 gl11)]) [31] (by kernel_rfl) rfl (Zc.at1 (fun _ hw => hw))) rfl rfl rfl (Y.loadE1 (u := .bool x34) ag4 rfl (fun w hw => As.atZ (sds := (svSd 4 1 B)) (vs := gq2) (j := 0) (hw.get (i := 1) rfl) (fun _ _ => rfl) ex33 rfl) (idx_map ex34)) ?_
            refine V2.y (i := 28) (Nx2.of (Z := Cls w [] []) [] (by kernel_rfl) rfl (Zc.on (fun _ hw => hw.sel [] (by decide) rfl) (Zc.fin (fun _ hw => hw)))) rfl rfl rfl (Y.pickT rfl rfl) ?_
            refine V2.y (i := 29) (Nx2.of (Z := Cls w [] []) [] (by kernel_rfl) rfl (Zc.on (fun _ hw => hw.sel [] (by decide) rfl) (Zc.fin (fun _ hw => hw)))) rfl rfl rfl (Y.pickF rfl rfl) ?_
            refine V2.m (i := 30) (V' := fun _ => el (gv (gq2 gx9.toNat) 0) (gx12.toNat * 1)) h (Nx2.of (Z := Cls w [] [.sl (sv b2 a0.toNat) 164 1 (zr svRow gq2 gl11), .ss (zs (svSd 4 1 B) gq2 gl11)]) [31] (by kernel_rfl) rfl (Zc.at1 (fun _ hw => hw))) rfl rfl rfl (Y.indexM (g := B) (l := x22) Try.underlying164 sz4 rfl rfl (fun w hw => As.atZ (sds := (svSd 4 1 B)) (vs := gq2) (j := 0) (hw.get (i := 1) rfl) (fun _ _ => rfl) ex22 rfl)) (fun x35 ex35 h => ?_)
            refine V2.eff (i := 31) (by kernel_rfl) rfl ?_
            refine L.ssOut (sds := (svSd 4 1 B)) (vs := gq2) (s := 1) (j := 0) (c := 1) rfl (fun _ _ => rfl) ex22 rfl ?_
            refine L.storeSlM (q := 0) (row := B) (vs := [.bool x34]) (j := 0) (u1 := x34) h sz4 rfl rfl rfl rfl rfl (all1 rfl all0) rfl ex35 rfl rfl ?_
            intro l36 el36 h
            refine L.ssBack (row := svRow) (sds := (svSd 4 1 B)) (vs := gq2) (p := 0) (s := 2) (q := 1) (c := 1) (jj := 0) (u1 := l36) (fun z => .sl (sv b2 a0.toNat) 164 1 z) h rfl rfl rfl (fun _ _ => rfl) ex22 rfl rfl rfl ?_
            intro l37 el37 h
            refine L.nil (E.toV2 (stC [] [] (Cls w [] [])) 31 (by kernel_rfl) (Sc.past rfl (Sc.stayD (fun _ hw => hw))) (Sc.atD (fun _ hw => hw.sel [] (by decide) rfl)) ?_)
            refine V2.done (by kernel_rfl) ?_
            refine E.blockN (E.thenN (W.region (L.m (V := fun x38 => .int .i64 x38) h rfl (Y.addM rfl rfl) (fun x38 ex38 h => ?_))))
            refine L.y rfl (Y.move rfl) ?_
            exact L.nil (E.againJ ⟨l37, x38, rfl, rfl, by rw [hg3]; exact h⟩ (Nat.lt_succ_self _) ⟨rfl, rfl, rfl, rfl, rfl, rfl, rfl, rfl, rfl, rfl, trivial⟩ (fun _ hw => hw))
           ·
            refine V2.y (i := 20) (Nx2.of (Z := Cls w [] []) [] (by kernel_rfl) rfl (Zc.on (fun _ hw => hw.sel [] (by decide) rfl) (Zc.fin (fun _ hw => hw)))) rfl rfl rfl (Y.move rfl) ?_
            refine V2.pass (i := 21) (Nx2.of (Z := Cls w [] []) [] (by kernel_rfl) rfl (Zc.on (fun _ hw => hw.sel [] (by decide) rfl) (Zc.fin (fun _ hw => hw)))) rfl rfl ?_
            refine V2.pass (i := 22) (Nx2.of (Z := Cls w [] []) [] (by kernel_rfl) rfl (Zc.on (fun _ hw => hw.sel [] (by decide) rfl) (Zc.fin (fun _ hw => hw)))) rfl rfl ?_
            refine V2.pass (i := 23) (Nx2.of (Z := Cls w [] []) [] (by kernel_rfl) rfl (Zc.on (fun _ hw => hw.sel [] (by decide) rfl) (Zc.fin (fun _ hw => hw)))) rfl rfl ?_
            refine V2.pass (i := 24) (Nx2.of (Z := Cls w [] []) [] (by kernel_rfl) rfl (Zc.on (fun _ hw => hw.sel [] (by decide) rfl) (Zc.fin (fun _ hw => hw)))) rfl rfl ?_
            refine V2.pass (i := 25) (Nx2.of (Z := Cls w [] []) [] (by kernel_rfl) rfl (Zc.on (fun _ hw => hw.sel [] (by decide) rfl) (Zc.fin (fun _ hw => hw)))) rfl rfl ?_
            refine V2.pass (i := 26) (Nx2.of (Z := Cls w [] []) [] (by kernel_rfl) rfl (Zc.on (fun _ hw => hw.sel [] (by decide) rfl) (Zc.fin (fun _ hw => hw)))) rfl rfl ?_
            refine V2.pass (i := 27) (Nx2.of (Z := Cls w [] []) [] (by kernel_rfl) rfl (Zc.on (fun _ hw => hw.sel [] (by decide) rfl) (Zc.fin (fun _ hw => hw)))) rfl rfl ?_
            refine V2.y (i := 28) (Nx2.of (Z := Cls w [] []) [] (by kernel_rfl) rfl (Zc.on (fun _ hw => hw.sel [] (by decide) rfl) (Zc.fin (fun _ hw => hw)))) rfl rfl rfl (Y.pickF rfl rfl) ?_
            refine V2.y (i := 29) (Nx2.of (Z := Cls w [] []) [] (by kernel_rfl) rfl (Zc.on (fun _ hw => hw.sel [] (by decide) rfl) (Zc.fin (fun _ hw => hw)))) rfl rfl rfl (Y.pickF rfl rfl) ?_
            refine V2.m (i := 30) (V' := fun _ => el (gv (gq2 gx9.toNat) 0) (gx12.toNat * 1)) h (Nx2.of (Z := Cls w [] [.sl (sv b2 a0.toNat) 164 1 (zr svRow gq2 gl11), .ss (zs (svSd 4 1 B) gq2 gl11)]) [31] (by kernel_rfl) rfl (Zc.at1 (fun _ hw => hw))) rfl rfl rfl (Y.indexM (g := B) (l := x22) Try.underlying164 sz4 rfl rfl (fun w hw => As.atZ (sds := (svSd 4 1 B)) (vs := gq2) (j := 0) (hw.get (i := 1) rfl) (fun _ _ => rfl) ex22 rfl)) (fun x39 ex39 h => ?_)
            refine V2.eff (i := 31) (by kernel_rfl) rfl ?_
            refine L.ssOut (sds := (svSd 4 1 B)) (vs := gq2) (s := 1) (j := 0) (c := 1) rfl (fun _ _ => rfl) ex22 rfl ?_
            refine L.storeSlM (q := 0) (row := B) (vs := [.bool false]) (j := 0) (u1 := false) h sz4 rfl rfl rfl rfl rfl (all1 rfl all0) rfl ex39 rfl rfl ?_
            intro l40 el40 h
            refine L.ssBack (row := svRow) (sds := (svSd 4 1 B)) (vs := gq2) (p := 0) (s := 2) (q := 1) (c := 1) (jj := 0) (u1 := l40) (fun z => .sl (sv b2 a0.toNat) 164 1 z) h rfl rfl rfl (fun _ _ => rfl) ex22 rfl rfl rfl ?_
            intro l41 el41 h
            refine L.nil (E.toV2 (stC [] [] (Cls w [] [])) 31 (by kernel_rfl) (Sc.past rfl (Sc.stayD (fun _ hw => hw))) (Sc.atD (fun _ hw => hw.sel [] (by decide) rfl)) ?_)
            refine V2.done (by kernel_rfl) ?_
            refine E.blockN (E.thenN (W.region (L.m (V := fun x42 => .int .i64 x42) h rfl (Y.addM rfl rfl) (fun x42 ex42 h => ?_))))
            refine L.y rfl (Y.move rfl) ?_
            exact L.nil (E.againJ ⟨l41, x42, rfl, rfl, by rw [hg3]; exact h⟩ (Nat.lt_succ_self _) ⟨rfl, rfl, rfl, rfl, rfl, rfl, rfl, rfl, rfl, rfl, trivial⟩ (fun _ hw => hw))
         ·
          refine L.nil (E.thenN (W.seq (W.condF rfl ?_)))
          exact W.exit (E.thenX (E.KLX (E.blockX (E.blockN (E.joinJ ⟨gl11, rfl, rfl, h⟩ ⟨rfl, rfl, rfl, rfl, rfl, rfl, rfl, trivial⟩ (fun _ hw => hw))))))
        ·
         rintro _ _ ⟨gl10, rfl, rfl, h⟩
         rw [m112_quirref_Closure_K5] at h
         refine W.region (L.m (V := fun x6 => .int .i64 x6) h rfl (Y.addM rfl rfl) (fun x6 ex6 h => ?_))
         refine L.y rfl (Y.move rfl) ?_
         exact L.nil (E.againJ ⟨gl10, x6, rfl, rfl, by rw [hg2]; exact h⟩ (Nat.lt_succ_self _) ⟨rfl, rfl, rfl, rfl, rfl, rfl, rfl, trivial⟩ (fun _ hw => hw))
       ·
        refine L.nil (E.thenN (W.seq (W.condF rfl ?_)))
        exact W.exit (E.thenX (E.KLX (E.blockX (E.blockN (E.joinJ ⟨gl8, rfl, rfl, h⟩ ⟨rfl, rfl, rfl, rfl, trivial⟩ (fun _ hw => hw))))))
      ·
       rintro _ _ ⟨gl7, rfl, rfl, h⟩
       rw [m112_quirref_Closure_K4] at h
       refine W.region (L.m (V := fun x4 => .int .i64 x4) h rfl (Y.addM rfl rfl) (fun x4 ex4 h => ?_))
       refine L.y rfl (Y.move rfl) ?_
       exact L.nil (E.againJ ⟨gl7, x4, rfl, rfl, by rw [hg1]; exact h⟩ (Nat.lt_succ_self _) ⟨rfl, rfl, rfl, rfl, trivial⟩ (fun _ hw => hw))
     ·
      refine L.nil (E.thenN (W.seq (W.condF rfl ?_)))
      exact W.exit (E.thenX (E.KLX (E.blockX (E.joinJ ⟨gl5, rfl, rfl, h⟩ ⟨rfl, trivial⟩ (fun _ hw => hw)))))
    ·
     rintro _ _ ⟨gl4, rfl, rfl, h⟩
     rw [m112_quirref_Closure_K3] at h
     refine W.seq (W.region (L.y rfl (Y.move rfl) ?_))
     refine L.y rfl (Y.assign rfl) ?_
     refine L.nil (E.thenN (W.ret (E.ret1 rfl rfl (fun w1 hw => ?_))))
     obtain rfl := Option.some.inj h
     exact ⟨_, _, rfl, ⟨_, _, rfl, rfl⟩, hw⟩
set_option maxRecDepth 100000 in
set_option maxHeartbeats 8000000 in
theorem w46_quirref_Order (a0 : Int) (a1 : (List TEdge)) (u1 : Value) (w : World) (r : ((List Int) × Bool)) (h : m46_quirref_Order a0 a1 = some r) (hA1 : At w u1 2 (a1.map TEdge.row)) : Does Try.prog 46 [.int .i64 a0, u1] w fun u m => ∃ v0, u = .tuple #[v0, .bool r.2] ∧ m = [.sl v0 3 1 (r.1.map I)] := by
  rw [m46_quirref_Order] at h
  refine body (n := 66) Try.func46 rfl rfl rfl (Cls.refl w) ?_
  refine W.seq (W.region (L.y rfl (Y.assign rfl) ?_))
  refine L.y rfl (Y.assign rfl) ?_
  refine L.nil (E.thenN (W.seq (W.region (L.y rfl (Y.move rfl) ?_))))
  refine L.y rfl (Y.move rfl) ?_
  obtain ⟨l1, e4, h⟩ := bind1S h
  refine L.does rfl en112 rfl (fun w' hw => w112_quirref_Closure a0 a1 u1 w' _ e4 (hA1.cls0 hw)) ?_
  rintro v2 _ ⟨_, q3, rfl, rfl⟩
  refine L.y rfl (Y.assign rfl) ?_
  refine L.nil (E.thenN (W.seq (W.region (L.y rfl (Y.move rfl) ?_))))
  obtain ⟨l5, el5, h⟩ := bind1S h
  refine L.makeE (row := B) (z0 := false) el5 rfl Try.underlying164 el4 ze4 rfl rfl rfl ?_
  intro b6
  refine L.y rfl (Y.assign rfl) ?_
  refine L.nil (E.thenN (W.seq (W.region (L.y rfl (Y.assign rfl) ?_))))
  refine L.nil (E.thenN (W.seqJ (fun gs D => ∃ (gv1 : Value) (gl2 : (List Int)), gs = [(8, gv1)] ∧ D = Cls w [] [.sl gv1 3 1 (gl2.map I)] ∧ m46_quirref_Order_K1 gl2 = some r) ?_ ?_))
  ·
   refine W.block (W.nilSl 3 1 ?_)
   refine W.loopJ (fun m gs D => ∃ (gl3 : (List Bool)) (gv4 : Value) (gl5 : (List Int)), gs = [(0, .int .i64 a0), (6, v2), (7, (sv b6 a0.toNat)), (8, gv4)] ∧ D = Cls w [] [.sl v2 164 1 (zr svRow q3 l1), .ss (zs (svSd 4 1 B) q3 l1), .sl (sv b6 a0.toNat) 4 1 (gl3.map B), .sl gv4 3 1 (gl5.map I)] ∧ m46_quirref_Order_L1 a0 l1 m gl3 gl5 = some r) ⟨l5, .slice none 0 0, [], rfl, rfl, h⟩ ⟨rfl, rfl, rfl, rfl, trivial⟩ (fun _ hw => hw.sel [2, 3, 1, 0] (by decide) rfl) ?_
   rintro m _ _ ⟨gl3, gv4, gl5, rfl, rfl, h⟩
   rcases m with _ | m
   · rw [m46_quirref_Order_L1] at h; cases h
   rw [m46_quirref_Order_L1] at h
   generalize hg1 : m46_quirref_Order_L1 a0 l1 m = go1 at h
   rw [m46_quirref_Order_L1B] at h
   refine W.seqJ (fun gs D => gs = [(0, .int .i64 a0), (6, v2), (7, (sv b6 a0.toNat)), (8, gv4)] ∧ D = Cls w [] [.sl v2 164 1 (zr svRow q3 l1), .ss (zs (svSd 4 1 B) q3 l1), .sl (sv b6 a0.toNat) 4 1 (gl3.map B), .sl gv4 3 1 (gl5.map I)] ∧ m46_quirref_Order_K2 a0 gl3 l1 gl5 go1 = some r) ?_ ?_
   ·
    refine W.seq (W.region (L.y rfl (Y.move rfl) ?_))
    refine L.y rfl (Y.lenM (g := I) (l := gl5) Try.underlying28 rfl (fun w hw => As.at_ (hw.get (i := 3) rfl))) ?_
    refine L.y rfl (Y.move rfl) ?_
    refine L.ite h rfl (Y.lss rfl rfl) (fun c28 h => ?_) (fun c28 h => ?_)
    ·
     refine L.nil (E.thenN (W.condT rfl ?_))
     exact W.skip (E.joinJ ⟨rfl, rfl, h⟩ ⟨rfl, rfl, rfl, rfl, trivial⟩ (fun _ hw => hw))
    ·
     refine L.nil (E.thenN (W.condF rfl ?_))
     exact W.exit (E.KSX (E.KLX (E.blockX (E.joinJ ⟨gv4, gl5, rfl, rfl, h⟩ ⟨rfl, trivial⟩ (fun _ hw => hw.sel [3] (by decide) rfl)))))
   ·
    rintro _ _ ⟨rfl, rfl, h⟩
    rw [m46_quirref_Order_K2] at h
    refine W.block (W.seq (W.region (L.y rfl (Y.assign rfl) ?_)))
    refine L.nil (E.thenN (W.seqJ (fun gs D => ∃ (gx6 : Int), gs = [(0, .int .i64 a0), (6, v2), (7, (sv b6 a0.toNat)), (8, gv4), (9, .int .i64 gx6)] ∧ D = Cls w [] [.sl v2 164 1 (zr svRow q3 l1), .ss (zs (svSd 4 1 B) q3 l1), .sl (sv b6 a0.toNat) 4 1 (gl3.map B), .sl gv4 3 1 (gl5.map I)] ∧ m46_quirref_Order_K3 gl3 gl5 go1 gx6 = some r) ?_ ?_))
    ·
     refine W.seq (W.region (L.y rfl (Y.move rfl) ?_))
     refine L.y rfl (Y.move rfl) ?_
     refine L.nil (E.thenN (W.block (W.loopJ (fun m gs D => ∃ (gx7 : Int), gs = [(0, .int .i64 a0), (6, v2), (7, (sv b6 a0.toNat)), (8, gv4), (9, .int .i64 (-1)), (22, .int .i64 a0), (23, .int .i64 gx7)] ∧ D = Cls w [] [.sl v2 164 1 (zr svRow q3 l1), .ss (zs (svSd 4 1 B) q3 l1), .sl (sv b6 a0.toNat) 4 1 (gl3.map B), .sl gv4 3 1 (gl5.map I)] ∧ m46_quirref_Order_L2 a0 gl3 l1 gl5 go1 m gx7 = some r) ⟨0, rfl, rfl, h⟩ ⟨rfl, rfl, rfl, rfl, rfl, rfl, rfl, trivial⟩ (fun _ hw => hw) ?_)))
     rintro m _ _ ⟨gx7, rfl, rfl, h⟩
     rcases m with _ | m
     · rw [m46_quirref_Order_L2] at h; cases h
     rw [m46_quirref_Order_L2] at h
     generalize hg2 : m46_quirref_Order_L2 a0 gl3 l1 gl5 go1 m = go2 at h
     rw [m46_quirref_Order_L2B] at h
     refine W.seq (W.region (L.ite h rfl (Y.lss rfl rfl) (fun c13 h => ?_) (fun c13 h => ?_)))
     ·
      refine L.nil (E.thenN (W.seq (W.condT rfl ?_)))
      refine W.skip (E.thenN (W.seqJ (fun gs D => gs = [(0, .int .i64 a0), (6, v2), (7, (sv b6 a0.toNat)), (8, gv4), (9, .int .i64 (-1)), (22, .int .i64 a0), (23, .int .i64 gx7)] ∧ D = Cls w [] [.sl v2 164 1 (zr svRow q3 l1), .ss (zs (svSd 4 1 B) q3 l1), .sl (sv b6 a0.toNat) 4 1 (gl3.map B), .sl gv4 3 1 (gl5.map I)] ∧ m46_quirref_Order_K4 gx7 go2 = some r) ?_ ?_))
      ·
       refine W.block (W.seq (W.region (L.y rfl (Y.move rfl) ?_)))
       refine L.y rfl (Y.assign rfl) ?_
       refine L.nil (E.thenN (W.seqJ (fun gs D => ∃ (gb8 : Bool), gs = [(0, .int .i64 a0), (6, v2), (7, (sv b6 a0.toNat)), (8, gv4), (9, .int .i64 (-1)), (10, .int .i64 gx7), (11, .bool gb8), (22, .int .i64 a0), (23, .int .i64 gx7)] ∧ D = Cls w [] [.sl v2 164 1 (zr svRow q3 l1), .ss (zs (svSd 4 1 B) q3 l1), .sl (sv b6 a0.toNat) 4 1 (gl3.map B), .sl gv4 3 1 (gl5.map I)] ∧ m46_quirref_Order_K5 a0 gl3 l1 gx7 gl5 go1 go2 gb8 = some r) ?_ ?_))
       ·
        refine W.region (L.y rfl (Y.move rfl) ?_)
        refine L.y rfl (Y.move rfl) ?_
        refine L.m (V := fun _ => el (sv b6 a0.toNat) (gx7.toNat * 1)) h rfl (Y.indexM (g := B) (l := gl3) Try.underlying164 sz4 rfl rfl (fun w hw => As.at_ (hw.get (i := 2) rfl))) (fun x26 ex26 h => ?_)
        refine L.iteB h rfl (Y.loadE1 (u := .bool x26) ag4 rfl (fun w hw => As.at_ (hw.get (i := 2) rfl)) (idx_map ex26)) (fun c27 h => ?_) (fun c27 h => ?_)
        ·
         refine L.y rfl (Y.not rfl) ?_
         refine L.y rfl (Y.assign rfl) ?_
         exact L.nil (E.joinJ ⟨false, rfl, rfl, h⟩ ⟨rfl, rfl, rfl, rfl, rfl, rfl, rfl, rfl, rfl, trivial⟩ (fun _ hw => hw))
        ·
         refine L.y rfl (Y.not rfl) ?_
         refine L.y rfl (Y.assign rfl) ?_
         exact L.nil (E.joinJ ⟨true, rfl, rfl, h⟩ ⟨rfl, rfl, rfl, rfl, rfl, rfl, rfl, rfl, rfl, trivial⟩ (fun _ hw => hw))
       ·
        rintro _ _ ⟨gb8, rfl, rfl, h⟩
        rw [m46_quirref_Order_K5] at h
        rcases gb8 with _ | _
        ·
         replace h := iteF h
         refine W.seqJ (fun gs D => gs = [(0, .int .i64 a0), (6, v2), (7, (sv b6 a0.toNat)), (8, gv4), (9, .int .i64 (-1)), (10, .int .i64 gx7), (11, .bool false), (22, .int .i64 a0), (23, .int .i64 gx7)] ∧ D = Cls w [] [.sl v2 164 1 (zr svRow q3 l1), .ss (zs (svSd 4 1 B) q3 l1), .sl (sv b6 a0.toNat) 4 1 (gl3.map B), .sl gv4 3 1 (gl5.map I)] ∧ m46_quirref_Order_K6 gx7 go2 = some r) ?_ ?_
         ·
          refine W.seq (W.region (L.y rfl (Y.move rfl) ?_))
          refine L.y rfl (Y.move rfl) ?_
          refine L.nil (E.thenN (W.block (W.loopJ (fun m gs D => ∃ (gx9 : Int), gs = [(0, .int .i64 a0), (6, v2), (7, (sv b6 a0.toNat)), (8, gv4), (9, .int .i64 (-1)), (10, .int .i64 gx7), (11, .bool false), (22, .int .i64 a0), (23, .int .i64 gx7), (31, .int .i64 a0), (32, .int .i64 gx9)] ∧ D = Cls w [] [.sl v2 164 1 (zr svRow q3 l1), .ss (zs (svSd 4 1 B) q3 l1), .sl (sv b6 a0.toNat) 4 1 (gl3.map B), .sl gv4 3 1 (gl5.map I)] ∧ m46_quirref_Order_L3 a0 gx7 go2 m gx9 = some r) ⟨0, rfl, rfl, h⟩ ⟨rfl, rfl, rfl, rfl, rfl, rfl, rfl, rfl, rfl, rfl, rfl, trivial⟩ (fun _ hw => hw) ?_)))
          rintro m _ _ ⟨gx9, rfl, rfl, h⟩
          rcases m with _ | m
          · rw [m46_quirref_Order_L3] at h; cases h
          rw [m46_quirref_Order_L3] at h
          generalize hg3 : m46_quirref_Order_L3 a0 gx7 go2 m = go3 at h
          rw [m46_quirref_Order_L3B] at h
          refine W.seq (W.region (L.ite h rfl (Y.lss rfl rfl) (fun c15 h => ?_) (fun c15 h => ?_)))
          ·
           refine L.nil (E.thenN (W.seq (W.condT rfl ?_)))
           refine W.skip (E.thenN (W.seq (W.block (W.seq (W.region (L.y rfl (Y.move rfl) ?_))))))
           refine L.y rfl (Y.assign rfl) ?_
           refine L.nil (E.thenN (W.region (L.y rfl (Y.move rfl) ?_)))
           refine L.y rfl (Y.move rfl) ?_
           refine L.pass rfl rfl (by nofun) ?_
           refine L.pass rfl rfl (by nofun) ?_
           refine L.pass rfl rfl (by nofun) ?_
           refine L.pass rfl rfl (by nofun) ?_
           refine L.pass rfl rfl (by nofun) ?_
           refine L.pass rfl rfl (by nofun) ?_
           refine L.pass rfl rfl (by nofun) ?_
           refine L.pass rfl rfl (by nofun) ?_
           refine L.pass rfl rfl (by nofun) ?_
           refine L.pass rfl rfl (by nofun) ?_
           refine L.pass rfl rfl (by nofun) ?_
           refine L.pass rfl rfl (by nofun) ?_
           refine L.pass rfl rfl (by nofun) ?_
           refine L.pass rfl rfl (by nofun) ?_
           refine L.y rfl (Y.pickF rfl rfl) ?_
           refine L.y rfl (Y.assign rfl) ?_
           refine L.nil (E.blockN (E.thenN (W.region (L.m (V := fun x16 => .int .i64 x16) h rfl (Y.addM rfl rfl) (fun x16 ex16 h => ?_)))))
           refine L.y rfl (Y.move rfl) ?_
           exact L.nil (E.againJ ⟨x16, rfl, rfl, by rw [hg3]; exact h⟩ (Nat.lt_succ_self _) ⟨rfl, rfl, rfl, rfl, rfl, rfl, rfl, rfl, rfl, rfl, rfl, trivial⟩ (fun _ hw => hw))
          ·
           refine L.nil (E.thenN (W.seq (W.condF rfl ?_)))
           exact W.exit (E.thenX (E.KLX (E.blockX (E.joinJ ⟨rfl, rfl, h⟩ ⟨rfl, rfl, rfl, rfl, rfl, rfl, rfl, rfl, rfl, trivial⟩ (fun _ hw => hw)))))
         ·
          rintro _ _ ⟨rfl, rfl, h⟩
          rw [m46_quirref_Order_K6] at h
          refine W.seq (W.region (L.y rfl (Y.move rfl) ?_))
          refine L.nil (E.thenN (W.condF rfl ?_))
          exact W.skip (E.blockN (E.joinJ ⟨rfl, rfl, h⟩ ⟨rfl, rfl, rfl, rfl, rfl, rfl, rfl, trivial⟩ (fun _ hw => hw)))
        ·
         replace h := iteT h
         refine W.seqJ (fun gs D => ∃ (gb10 : Bool), gs = [(0, .int .i64 a0), (6, v2), (7, (sv b6 a0.toNat)), (8, gv4), (9, .int .i64 (-1)), (10, .int .i64 gx7), (11, .bool gb10), (22, .int .i64 a0), (23, .int .i64 gx7)] ∧ D = Cls w [] [.sl v2 164 1 (zr svRow q3 l1), .ss (zs (svSd 4 1 B) q3 l1), .sl (sv b6 a0.toNat) 4 1 (gl3.map B), .sl gv4 3 1 (gl5.map I)] ∧ m46_quirref_Order_K7 gl3 gl5 go1 gx7 go2 gb10 = some r) ?_ ?_
         ·
          refine W.seq (W.region (L.y rfl (Y.move rfl) ?_))
          refine L.y rfl (Y.move rfl) ?_
          refine L.nil (E.thenN (W.block (W.loopJ (fun m gs D => ∃ (gb11 : Bool) (gx12 : Int), gs = [(0, .int .i64 a0), (6, v2), (7, (sv b6 a0.toNat)), (8, gv4), (9, .int .i64 (-1)), (10, .int .i64 gx7), (11, .bool gb11), (22, .int .i64 a0), (23, .int .i64 gx7), (31, .int .i64 a0), (32, .int .i64 gx12)] ∧ D = Cls w [] [.sl v2 164 1 (zr svRow q3 l1), .ss (zs (svSd 4 1 B) q3 l1), .sl (sv b6 a0.toNat) 4 1 (gl3.map B), .sl gv4 3 1 (gl5.map I)] ∧ m46_quirref_Order_L4 a0 gl3 l1 gx7 gl5 go1 go2 m gb11 gx12 = some r) ⟨true, 0, rfl, rfl, h⟩ ⟨rfl, rfl, rfl, rfl, rfl, rfl, rfl, rfl, rfl, rfl, rfl, trivial⟩ (fun _ hw => hw) ?_)))
          rintro m _ _ ⟨gb11, gx12, rfl, rfl, h⟩
          rcases m with _ | m
          · rw [m46_quirref_Order_L4] at h; cases h
          rw [m46_quirref_Order_L4] at h
          generalize hg4 : m46_quirref_Order_L4 a0 gl3 l1 gx7 gl5 go1 go2 m = go4 at h
          rw [m46_quirref_Order_L4B] at h
          refine W.seq (W.region (L.ite h rfl (Y.lss rfl rfl) (fun c17 h => ?_) (fun c17 h => ?_)))
          ·
           refine L.nil (E.thenN (W.seq (W.condT rfl ?_)))
           refine W.skip (E.thenN (W.seq (W.block (W.seq (W.region (L.y rfl (Y.move rfl) ?_))))))
           refine L.y rfl (Y.assign rfl) ?_
           refine L.nil (E.thenN (W.region (L.cutJ 17 (fun gs D => ∃ (gb13 : Bool), gs = [(0, .int .i64 a0), (6, v2), (7, (sv b6 a0.toNat)), (8, gv4), (9, .int .i64 (-1)), (10, .int .i64 gx7), (22, .int .i64 a0), (23, .int .i64 gx7), (31, .int .i64 a0), (32, .int .i64 gx12), (51, .bool gb13)] ∧ D = Cls w [] [.sl v2 164 1 (zr svRow q3 l1), .ss (zs (svSd 4 1 B) q3 l1), .sl (sv b6 a0.toNat) 4 1 (gl3.map B), .sl gv4 3 1 (gl5.map I)] ∧ m46_quirref_Order_K8 gx12 go4 gb13 = some r) ?_ ?_)))
           ·
            refine L.iteB h rfl (Y.move rfl) (fun c20 h => ?_) (fun c20 h => ?_)
            ·
             refine L.y rfl (Y.move rfl) ?_
             refine L.take rfl (L.y rfl (Y.move rfl) ?_)
             refine L.take rfl (L.y rfl (Y.move rfl) ?_)
             refine L.take rfl (L.m (V := fun _ => el (sv b6 a0.toNat) (gx12.toNat * 1)) h rfl (Y.indexM (g := B) (l := gl3) Try.underlying164 sz4 rfl rfl (fun w hw => As.at_ (hw.get (i := 2) rfl))) (fun x21 ex21 h => ?_))
             refine L.take rfl (L.iteB h rfl (Y.loadE1 (u := .bool x21) ag4 rfl (fun w hw => As.at_ (hw.get (i := 2) rfl)) (idx_map ex21)) (fun c22 h => ?_) (fun c22 h => ?_))
             ·
              refine L.take rfl (L.y rfl (Y.move rfl) ?_)
              refine L.pass rfl rfl (by nofun) ?_
              refine L.pass rfl rfl (by nofun) ?_
              refine L.pass rfl rfl (by nofun) ?_
              refine L.pass rfl rfl (by nofun) ?_
              refine L.pass rfl rfl (by nofun) ?_
              refine L.pass rfl rfl (by nofun) ?_
              refine L.pass rfl rfl (by nofun) ?_
              refine L.pass rfl rfl (by nofun) ?_
              refine L.take rfl (L.y rfl (Y.pickT rfl rfl) ?_)
              refine L.y rfl (Y.pickT rfl rfl) ?_
              exact L.nil (E.joinJ ⟨true, rfl, rfl, h⟩ ⟨rfl, rfl, rfl, rfl, rfl, rfl, rfl, rfl, rfl, rfl, rfl, trivial⟩ (fun _ hw => hw))
             ·
              refine L.take rfl (L.y rfl (Y.move rfl) ?_)
              refine L.take rfl (L.y rfl (Y.move rfl) ?_)
              refine L.take rfl (L.y rfl (Y.move rfl) ?_)
              refine L.take rfl (L.m (V := fun _ => el v2 (gx12.toNat * 1)) h rfl (Y.indexMZ (row := svRow) (vs := q3) (l := l1) Try.underlying162 sz164 rfl rfl (fun w hw => As.at_ (hw.get (i := 0) rfl))) (fun x23 ex23 h => ?_))
              refine L.take rfl (L.y rfl (Y.loadE1 (u := gv (q3 gx12.toNat) 0) ag164 rfl (fun w hw => As.at_ (hw.get (i := 0) rfl)) (zr_idx (vs := q3) ex23)) ?_)
              refine L.take rfl (L.y rfl (Y.move rfl) ?_)
              refine L.take rfl (L.m (V := fun _ => el (gv (q3 gx12.toNat) 0) (gx7.toNat * 1)) h rfl (Y.indexM (g := B) (l := x23) Try.underlying164 sz4 rfl rfl (fun w hw => As.atZ (sds := (svSd 4 1 B)) (vs := q3) (j := 0) (hw.get (i := 1) rfl) (fun _ _ => rfl) ex23 rfl)) (fun x24 ex24 h => ?_))
              refine L.take rfl (L.iteB h rfl (Y.loadE1 (u := .bool x24) ag4 rfl (fun w hw => As.atZ (sds := (svSd 4 1 B)) (vs := q3) (j := 0) (hw.get (i := 1) rfl) (fun _ _ => rfl) ex23 rfl) (idx_map ex24)) (fun c25 h => ?_) (fun c25 h => ?_))
              ·
               refine L.take rfl (L.y rfl (Y.not rfl) ?_)
               refine L.take rfl (L.y rfl (Y.pickF rfl rfl) ?_)
               refine L.y rfl (Y.pickT rfl rfl) ?_
               exact L.nil (E.joinJ ⟨false, rfl, rfl, h⟩ ⟨rfl, rfl, rfl, rfl, rfl, rfl, rfl, rfl, rfl, rfl, rfl, trivial⟩ (fun _ hw => hw))
              ·
               refine L.take rfl (L.y rfl (Y.not rfl) ?_)
               refine L.take rfl (L.y rfl (Y.pickF rfl rfl) ?_)
               refine L.y rfl (Y.pickT rfl rfl) ?_
               exact L.nil (E.joinJ ⟨true, rfl, rfl, h⟩ ⟨rfl, rfl, rfl, rfl, rfl, rfl, rfl, rfl, rfl, rfl, rfl, trivial⟩ (fun _ hw => hw))
            ·
             refine L.y rfl (Y.move rfl) ?_
             refine L.pass rfl rfl (by nofun) ?_
             refine L.pass rfl rfl (by nofun) ?_
             refine L.pass rfl rfl (by nofun) ?_
             refine L.pass rfl rfl (by nofun) ?_
             refine L.pass rfl rfl (by nofun) ?_
             refine L.pass rfl rfl (by nofun) ?_
             refine L.pass rfl rfl (by nofun) ?_
             refine L.pass rfl rfl (by nofun) ?_
             refine L.pass rfl rfl (by nofun) ?_
             refine L.pass rfl rfl (by nofun) ?_
             refine L.pass rfl rfl (by nofun) ?_
             refine L.pass rfl rfl (by nofun) ?_
             refine L.pass rfl rfl (by nofun) ?_
             refine L.pass rfl rfl (by nofun) ?_
             refine L.y rfl (Y.pickF rfl rfl) ?_
             exact L.nil (E.joinJ ⟨false, rfl, rfl, h⟩ ⟨rfl, rfl, rfl, rfl, rfl, rfl, rfl, rfl, rfl, rfl, rfl, trivial⟩ (fun _ hw => hw))
           ·
            rintro _ _ ⟨gb13, rfl, rfl, h⟩
            rw [m46_quirref_Order_K8] at h
            rcases gb13 with _ | _
            ·
             replace h := iteF h
             refine L.y rfl (Y.assign rfl) ?_
             refine L.nil (E.blockN (E.thenN (W.region (L.m (V := fun x18 => .int .i64 x18) h rfl (Y.addM rfl rfl) (fun x18 ex18 h => ?_)))))
             refine L.y rfl (Y.move rfl) ?_
             exact L.nil (E.againJ ⟨false, x18, rfl, rfl, by rw [hg4]; exact h⟩ (Nat.lt_succ_self _) ⟨rfl, rfl, rfl, rfl, rfl, rfl, rfl, rfl, rfl, rfl, rfl, trivial⟩ (fun _ hw => hw))
            ·
             replace h := iteT h
             refine L.y rfl (Y.assign rfl) ?_
             refine L.nil (E.blockN (E.thenN (W.region (L.m (V := fun x19 => .int .i64 x19) h rfl (Y.addM rfl rfl) (fun x19 ex19 h => ?_)))))
             refine L.y rfl (Y.move rfl) ?_
             exact L.nil (E.againJ ⟨true, x19, rfl, rfl, by rw [hg4]; exact h⟩ (Nat.lt_succ_self _) ⟨rfl, rfl, rfl, rfl, rfl, rfl, rfl, rfl, rfl, rfl, rfl, trivial⟩ (fun _ hw => hw))
          ·
           refine L.nil (E.thenN (W.seq (W.condF rfl ?_)))
           exact W.exit (E.thenX (E.KLX (E.blockX (E.joinJ ⟨gb11, rfl, rfl, h⟩ ⟨rfl, rfl, rfl, rfl, rfl, rfl, rfl, rfl, rfl, trivial⟩ (fun _ hw => hw)))))
         ·
          rintro _ _ ⟨gb10, rfl, rfl, h⟩
          rw [m46_quirref_Order_K7] at h
          rcases gb10 with _ | _
          ·
           replace h := iteF h
           refine W.seq (W.region (L.y rfl (Y.move rfl) ?_))
           refine L.nil (E.thenN (W.condF rfl ?_))
           exact W.skip (E.blockN (E.joinJ ⟨rfl, rfl, h⟩ ⟨rfl, rfl, rfl, rfl, rfl, rfl, rfl, trivial⟩ (fun _ hw => hw)))
          ·
           replace h := iteT h
           refine W.seq (W.region (L.y rfl (Y.move rfl) ?_))
           refine L.nil (E.thenN (W.condT rfl ?_))
           refine W.seq (W.region (L.y rfl (Y.move rfl) ?_))
           refine L.y rfl (Y.assign rfl) ?_
           exact L.nil (E.thenN (W.exit (E.blockY rfl (E.KSX (E.KLX (E.blockX (E.joinJ ⟨gx7, rfl, rfl, h⟩ ⟨rfl, rfl, rfl, rfl, rfl, trivial⟩ (fun _ hw => hw))))))))
      ·
       rintro _ _ ⟨rfl, rfl, h⟩
       rw [m46_quirref_Order_K4] at h
       refine W.region (L.m (V := fun x14 => .int .i64 x14) h rfl (Y.addM rfl rfl) (fun x14 ex14 h => ?_))
       refine L.y rfl (Y.move rfl) ?_
       exact L.nil (E.againJ ⟨x14, rfl, rfl, by rw [hg2]; exact h⟩ (Nat.lt_succ_self _) ⟨rfl, rfl, rfl, rfl, rfl, rfl, rfl, trivial⟩ (fun _ hw => hw))
     ·
      refine L.nil (E.thenN (W.seq (W.condF rfl ?_)))
      exact W.exit (E.thenX (E.KLX (E.blockX (E.joinJ ⟨(-1), rfl, rfl, h⟩ ⟨rfl, rfl, rfl, rfl, rfl, trivial⟩ (fun _ hw => hw)))))
    ·
     rintro _ _ ⟨gx6, rfl, rfl, h⟩
     rw [m46_quirref_Order_K3] at h
     refine W.seq (W.seq (W.region (L.y rfl (Y.move rfl) ?_)))
     refine L.ite h rfl (Y.lss rfl rfl) (fun c7 h => ?_) (fun c7 h => ?_)
     ·
      refine L.nil (E.thenN (W.condT rfl ?_))
      refine W.seq (W.region (L.y rfl (Y.assign rfl) ?_))
      refine L.y rfl (Y.assign rfl) ?_
      refine L.nil (E.thenN (W.ret (E.thenR (E.blockR (E.KLR (E.blockR (E.KSR (E.ret2 rfl rfl rfl (fun w1 hw => ?_)))))))))
      obtain rfl := Option.some.inj h
      exact ⟨_, _, rfl, ⟨_, rfl, rfl⟩, (hw.nilSl 3 1).sel [0] (by decide) rfl⟩
     ·
      refine L.nil (E.thenN (W.condF rfl ?_))
      refine W.skip (E.thenN (W.seq (W.region (L.y rfl (Y.move rfl) ?_))))
      refine L.y rfl (Y.move rfl) ?_
      refine L.m (V := fun _ => el (sv b6 a0.toNat) (gx6.toNat * 1)) h rfl (Y.indexM (g := B) (l := gl3) Try.underlying164 sz4 rfl rfl (fun w hw => As.at_ (hw.get (i := 2) rfl))) (fun x8 ex8 h => ?_)
      refine L.storeSlM (q := 2) (row := B) (vs := [.bool true]) (j := 0) (u1 := true) h sz4 rfl rfl rfl rfl rfl (all1 rfl all0) rfl ex8 rfl rfl ?_
      intro l9 el9 h
      refine L.nil (E.thenN (W.region (L.y rfl (Y.move rfl) ?_)))
      refine L.y rfl (Y.move rfl) ?_
      refine L.litOne rfl Try.underlying28 el3 rfl rfl ?_
      intro b10
      refine L.appM (i := 4) (g := I) (l := gl5) (more := [gx6]) h rfl Try.underlying28 el3 rfl rfl rfl (fun w hw => As.at_ (hw.get (i := 0) rfl)) (plain_ints _) rfl ?_
      intro v11 l12 el12 h
      refine L.y rfl (Y.assign rfl) ?_
      exact L.nil (E.blockN (E.againJ ⟨l9, v11, l12, rfl, rfl, by rw [hg1]; exact h⟩ (Nat.lt_succ_self _) ⟨rfl, rfl, rfl, rfl, trivial⟩ (fun _ hw => hw.sel [2, 3, 4, 0] (by decide) rfl)))
  ·
   rintro _ _ ⟨gv1, gl2, rfl, rfl, h⟩
   rw [m46_quirref_Order_K1] at h
   refine W.seq (W.region (L.y rfl (Y.move rfl) ?_))
   refine L.y rfl (Y.assign rfl) ?_
   refine L.y rfl (Y.assign rfl) ?_
   refine L.nil (E.thenN (W.ret (E.ret2 rfl rfl rfl (fun w1 hw => ?_))))
   obtain rfl := Option.some.inj h
   exact ⟨_, _, rfl, ⟨_, rfl, rfl⟩, hw⟩
set_option maxRecDepth 100000 in
set_option maxHeartbeats 8000000 in
theorem w23_quirref_StorySerial (a0 : TStory) (u0_0 : Value) (q0_0 : Nat → List Value) (u0_2 : Value) (q0_2 : Nat → List Value) (w : World) (r : ((List Int) × Bool)) (h : m23_quirref_StorySerial a0 = some r) (hA0_0 : At w u0_0 2 (zr TTale.rowv q0_0 a0.Tales)) (hD0_0 : ∀ d ∈ zs TTale.sds q0_0 a0.Tales, At w d.v d.k d.rows) (hA0_2 : At w u0_2 1 (zr svRow q0_2 a0.Versions)) (hD0_2 : ∀ d ∈ zs (svSd 3 1 I) q0_2 a0.Versions, At w d.v d.k d.rows) : Does Try.prog 23 [.agg #[u0_0, u0_2]] w fun u m => ∃ v0, u = .tuple #[v0, .bool r.2] ∧ m = [.sl v0 3 1 (r.1.map I)] := by
  rw [m23_quirref_StorySerial] at h
  refine body (n := 16) Try.func23 rfl rfl rfl (Cls.refl w) ?_
  refine W.seq (W.region (L.box rfl rfl ?_))
  intro b1
  refine L.y rfl (Y.assign rfl) ?_
  refine L.y rfl (Y.assign rfl) ?_
  refine L.nil (E.thenN (W.seq (W.region (L.y rfl (Y.loadPW (i := 0) ag47 sz47 rfl rfl rfl) ?_))))
  obtain ⟨l2, e4, h⟩ := bind1S h
  refine L.does rfl en67 rfl (fun w' hw => w67_quirref_edgesOf a0 3 u0_0 q0_0 u0_2 q0_2 w' _ e4 (hA0_0.cls0 hw) (fun d hd => (hD0_0 d hd).cls0 hw) (hA0_2.cls0 hw) (fun d hd => (hD0_2 d hd).cls0 hw)) ?_
  rintro v3 _ ⟨_, rfl, rfl⟩
  obtain ⟨l5, b7, e8, h⟩ := bind2S h
  refine L.does rfl en46 rfl (fun w' hw => w46_quirref_Order 12 l2 v3 w' _ e8 (As.at_ (hw.get (i := 0) rfl))) ?_
  rintro _ _ ⟨v6, rfl, rfl⟩
  refine L.y rfl (Y.move rfl) ?_
  refine L.y rfl (Y.extract rfl rfl) ?_
  refine L.y rfl (Y.extract rfl rfl) ?_
  refine L.y rfl (Y.assign rfl) ?_
  refine L.y rfl (Y.assign rfl) ?_
  refine L.nil (E.thenN (W.seq (W.region (L.y rfl (Y.move rfl) ?_))))
  refine L.y rfl (Y.func rfl) ?_
  refine L.callJ (fun v D => ∃ (gv1 : Value) (gl2 : (List Int)), v = gv1 ∧ D = Cls w [] [.sl gv1 3 1 (gl2.map I)] ∧ m23_quirref_StorySerial_K1 b7 gl2 = some r) rfl en47 rfl Try.func47 rfl rfl rfl ?_ ?_
  ·
   refine W.seq (W.region (L.y rfl (Y.assign rfl) ?_))
   refine L.nil (E.thenN (W.seq (W.region (L.y rfl (Y.assign rfl) ?_))))
   refine L.nil (E.thenN (W.seqJ (fun gs D => ∃ (gv3 : Value) (gl4 : (List Int)), gs = [(5, gv3)] ∧ D = Cls w [] [.sl gv3 3 1 (gl4.map I)] ∧ m23_quirref_StorySerial_K2 b7 gl4 = some r) ?_ ?_))
   ·
    refine W.seq (W.region (L.y rfl (Y.move rfl) ?_))
    refine L.y rfl (Y.lenM (g := I) (l := l5) Try.underlying28 rfl (fun w hw => As.at_ (hw.get (i := 0) rfl))) ?_
    refine L.y rfl (Y.move rfl) ?_
    refine L.nil (E.thenN (W.block (W.nilSl 3 1 ?_)))
    refine W.loopJ (fun m gs D => ∃ (gv5 : Value) (gl6 : (List Int)) (gx7 : Int), gs = [(1, .func (.func 68) #[] #[pt b1 0]), (5, gv5), (8, v6), (9, .int .i64 (l5.length : Int)), (10, .int .i64 gx7)] ∧ D = Cls w [] [.obj b1 [u0_0, u0_2] 47, .sl gv5 3 1 (gl6.map I), .sl v6 3 1 (l5.map I)] ∧ m23_quirref_StorySerial_L1 l5 a0 b7 m gl6 gx7 = some r) ⟨.slice none 0 0, [], 0, rfl, rfl, h⟩ ⟨rfl, rfl, rfl, rfl, rfl, trivial⟩ (fun _ hw => hw.sel [3, 0, 1] (by decide) rfl) ?_
    rintro m _ _ ⟨gv5, gl6, gx7, rfl, rfl, h⟩
    rcases m with _ | m
    · rw [m23_quirref_StorySerial_L1] at h; cases h
    rw [m23_quirref_StorySerial_L1] at h
    generalize hg1 : m23_quirref_StorySerial_L1 l5 a0 b7 m = go1 at h
    rw [m23_quirref_StorySerial_L1B] at h
    refine W.seq (W.region (L.ite h rfl (Y.lss rfl rfl) (fun c9 h => ?_) (fun c9 h => ?_)))
    ·
     refine L.nil (E.thenN (W.seq (W.condT rfl ?_)))
     refine W.skip (E.thenN (W.seq (W.block (W.seq (W.region (L.m (V := fun _ => el v6 (gx7.toNat * 1)) h rfl (Y.indexM (g := I) (l := l5) Try.underlying28 sz3 rfl rfl (fun w hw => As.at_ (hw.get (i := 2) rfl))) (fun x10 ex10 h => ?_)))))))
     refine L.y rfl (Y.loadE1 (u := .int .i64 x10) ag3 rfl (fun w hw => As.at_ (hw.get (i := 2) rfl)) (idx_map ex10)) ?_
     refine L.y rfl (Y.assign rfl) ?_
     refine L.nil (E.thenN (W.seq (W.region (L.y rfl (Y.move rfl) ?_))))
     refine L.y rfl (Y.move rfl) ?_
     refine L.callVJ (fun v D => ∃ (gb8 : Bool), v = .bool gb8 ∧ D = Cls w [] [.obj b1 [u0_0, u0_2] 47, .sl gv5 3 1 (gl6.map I), .sl v6 3 1 (l5.map I)] ∧ m23_quirref_StorySerial_K3 gl6 x10 gx7 go1 gb8 = some r) rfl en68 rfl rfl Try.func68 rfl rfl rfl ?_ ?_
     ·
      refine W.seq (W.region (L.box rfl rfl ?_))
      intro b16
      refine L.y rfl (Y.assign rfl) ?_
      refine L.nil (E.thenN (W.seq (W.region (L.y rfl (Y.fieldP fd47_0 rfl) ?_))))
      refine L.y rfl (Y.loadP (i := 1) ag44 rfl rfl rfl) ?_
      refine L.y rfl (Y.func rfl) ?_
      refine L.callJ (fun v D => ∃ (gb9 : Bool), v = .bool gb9 ∧ D = Cls w [] [.obj b1 [u0_0, u0_2] 47, .sl gv5 3 1 (gl6.map I), .sl v6 3 1 (l5.map I)] ∧ m23_quirref_StorySerial_K4 gl6 x10 gx7 go1 gb9 = some r) rfl en53 rfl Try.func53 rfl rfl rfl ?_ ?_
      ·
       refine W.seq (W.region (L.y rfl (Y.assign rfl) ?_))
       refine L.nil (E.thenN (W.seq (W.region (L.y rfl (Y.move rfl) ?_))))
       refine L.y rfl (Y.move rfl) ?_
       refine L.callJ (fun v D => ∃ (gx10 : Int), v = .int .i64 gx10 ∧ D = Cls w [] [.obj b1 [u0_0, u0_2] 47, .sl gv5 3 1 (gl6.map I), .sl v6 3 1 (l5.map I)] ∧ m23_quirref_StorySerial_K5 gl6 x10 gx7 go1 gx10 = some r) rfl en114 rfl Try.func114 rfl rfl rfl ?_ ?_
       ·
        refine W.seq (W.region (L.y rfl (Y.assign rfl) ?_))
        refine L.nil (E.thenN (W.seqJ (fun gs D => gs = [] ∧ D = Cls w [] [.obj b1 [u0_0, u0_2] 47, .sl gv5 3 1 (gl6.map I), .sl v6 3 1 (l5.map I)] ∧ m23_quirref_StorySerial_K6 gl6 x10 gx7 go1 = some r) ?_ ?_))
        ·
         refine W.seq (W.region (L.y rfl (Y.move rfl) ?_))
         refine L.y rfl (Y.lenMZ (row := TTale.rowv) (vs := q0_0) (l := a0.Tales) Try.underlying44 rfl (fun w' hw => hA0_0.cls0 hw)) ?_
         refine L.y rfl (Y.move rfl) ?_
         refine L.nil (E.thenN (W.block (W.loopJ (fun m gs D => ∃ (gx11 : Int), gs = [(0, u0_0), (1, .func (.func 69) #[] #[pt b16 0]), (7, .int .i64 (a0.Tales.length : Int)), (8, .int .i64 gx11)] ∧ D = Cls w [] [.obj b16 [.int .i64 x10] 3, .obj b1 [u0_0, u0_2] 47, .sl gv5 3 1 (gl6.map I), .sl v6 3 1 (l5.map I)] ∧ m23_quirref_StorySerial_L2 a0 x10 gl6 gx7 go1 m gx11 = some r) ⟨0, rfl, rfl, h⟩ ⟨rfl, rfl, rfl, rfl, trivial⟩ (fun _ hw => hw) ?_)))
         rintro m _ _ ⟨gx11, rfl, rfl, h⟩
         rcases m with _ | m
         · rw [m23_quirref_StorySerial_L2] at h; cases h
         rw [m23_quirref_StorySerial_L2] at h
         generalize hg2 : m23_quirref_StorySerial_L2 a0 x10 gl6 gx7 go1 m = go2 at h
         rw [m23_quirref_StorySerial_L2B] at h
         refine W.seq (W.region (L.ite h rfl (Y.lss rfl rfl) (fun c17 h => ?_) (fun c17 h => ?_)))
         ·
          refine L.nil (E.thenN (W.seq (W.condT rfl ?_)))
          refine W.skip (E.thenN (W.seq (W.block (W.seq (W.region (L.y rfl (Y.move rfl) ?_))))))
          refine L.y rfl (Y.assign rfl) ?_
          refine L.nil (E.thenN (W.seq (W.region (L.y rfl (Y.move rfl) ?_))))
          refine L.y rfl (Y.move rfl) ?_
          refine L.y rfl (Y.move rfl) ?_
          refine L.m (V := fun _ => el u0_0 (gx11.toNat * 2)) h rfl (Y.indexMZ (row := TTale.rowv) (vs := q0_0) (l := a0.Tales) Try.underlying44 sz101 rfl rfl (fun w' hw => hA0_0.cls0 hw)) (fun x18 ex18 h => ?_)
          refine L.y rfl (Y.loadEN (r := [.int .i64 x18.Tx, gv (q0_0 gx11.toNat) 0]) ag101 sz101 rfl (fun w' hw => hA0_0.cls0 hw) (zr_idx (vs := q0_0) ex18) rfl) ?_
          refine L.callVJ (fun v D => v = .bool (decide (x18.Tx = x10)) ∧ D = Cls w [] [.obj b16 [.int .i64 x10] 3, .obj b1 [u0_0, u0_2] 47, .sl gv5 3 1 (gl6.map I), .sl v6 3 1 (l5.map I)] ∧ m23_quirref_StorySerial_K7 x18 x10 gl6 gx7 go1 gx11 go2 = some r) rfl en69 rfl rfl Try.func69 rfl rfl rfl ?_ ?_
          ·
           refine W.seq (W.region (L.box rfl rfl ?_))
           intro b20
           refine L.y rfl (Y.assign rfl) ?_
           refine L.nil (E.thenN (W.seq (W.region (L.y rfl (Y.fieldP fd101_0 rfl) ?_))))
           refine L.y rfl (Y.loadP (i := 0) ag3 rfl rfl rfl) ?_
           refine L.y rfl (Y.loadP (i := 1) ag3 rfl rfl rfl) ?_
           refine L.y rfl (Y.eql rfl rfl) ?_
           refine L.y rfl (Y.assign rfl) ?_
           refine L.nil (E.thenN (W.ret (E.ret1 rfl rfl (fun w1 hw => ?_))))
           exact ⟨_, _, rfl, ⟨rfl, rfl, h⟩, hw.sel [1, 2, 3, 4] (by decide) rfl⟩
          ·
           rintro _ _ ⟨rfl, rfl, h⟩
           rw [m23_quirref_StorySerial_K7] at h
           refine L.nil (E.thenN (W.caseB (q := 16) h rfl (fun h => ?_) (fun h => ?_)))
           ·
            refine W.condT rfl ?_
            refine W.seq (W.region (L.y rfl (Y.move rfl) ?_))
            refine L.y rfl (Y.assign rfl) ?_
            refine L.nil (E.thenN (W.ret (E.blockR (E.thenR (E.KLR (E.blockR (E.KSR (E.ret1 rfl rfl (fun w1 hw => ?_)))))))))
            exact ⟨_, _, rfl, ⟨gx11, rfl, rfl, h⟩, hw.sel [1, 2, 3] (by decide) rfl⟩
           ·
            refine W.condF rfl ?_
            refine W.skip (E.blockN (E.thenN (W.region (L.m (V := fun x19 => .int .i64 x19) h rfl (Y.addM rfl rfl) (fun x19 ex19 h => ?_)))))
            refine L.y rfl (Y.move rfl) ?_
            exact L.nil (E.againJ ⟨x19, rfl, rfl, by rw [hg2]; exact h⟩ (Nat.lt_succ_self _) ⟨rfl, rfl, rfl, rfl, trivial⟩ (fun _ hw => hw))
         ·
          refine L.nil (E.thenN (W.seq (W.condF rfl ?_)))
          exact W.exit (E.thenX (E.KLX (E.blockX (E.joinJ ⟨rfl, rfl, h⟩ trivial (fun _ hw => hw.sel [1, 2, 3] (by decide) rfl)))))
        ·
         rintro _ _ ⟨rfl, rfl, h⟩
         rw [m23_quirref_StorySerial_K6] at h
         refine W.seq (W.region (L.y rfl (Y.assign rfl) ?_))
         refine L.nil (E.thenN (W.ret (E.ret1 rfl rfl (fun w1 hw => ?_))))
         exact ⟨_, _, rfl, ⟨(-1), rfl, rfl, h⟩, hw⟩
       ·
        rintro _ _ ⟨gx10, rfl, rfl, h⟩
        rw [m23_quirref_StorySerial_K5] at h
        refine L.y rfl (Y.geq rfl rfl) ?_
        refine L.y rfl (Y.assign rfl) ?_
        refine L.nil (E.thenN (W.ret (E.ret1 rfl rfl (fun w1 hw => ?_))))
        exact ⟨_, _, rfl, ⟨decide (0 ≤ gx10), rfl, rfl, h⟩, hw⟩
      ·
       rintro _ _ ⟨gb9, rfl, rfl, h⟩
       rw [m23_quirref_StorySerial_K4] at h
       refine L.y rfl (Y.assign rfl) ?_
       refine L.nil (E.thenN (W.ret (E.ret1 rfl rfl (fun w1 hw => ?_))))
       exact ⟨_, _, rfl, ⟨gb9, rfl, rfl, h⟩, hw⟩
     ·
      rintro _ _ ⟨gb8, rfl, rfl, h⟩
      rw [m23_quirref_StorySerial_K3] at h
      rcases gb8 with _ | _
      ·
       replace h := iteF h
       refine L.nil (E.thenN (W.condF rfl ?_))
       refine W.skip (E.blockN (E.thenN (W.region (L.m (V := fun x11 => .int .i64 x11) h rfl (Y.addM rfl rfl) (fun x11 ex11 h => ?_)))))
       refine L.y rfl (Y.move rfl) ?_
       exact L.nil (E.againJ ⟨gv5, gl6, x11, rfl, rfl, by rw [hg1]; exact h⟩ (Nat.lt_succ_self _) ⟨rfl, rfl, rfl, rfl, rfl, trivial⟩ (fun _ hw => hw))
      ·
       replace h := iteT h
       refine L.nil (E.thenN (W.condT rfl ?_))
       refine W.region (L.y rfl (Y.move rfl) ?_)
       refine L.y rfl (Y.move rfl) ?_
       refine L.litOne rfl Try.underlying28 el3 rfl rfl ?_
       intro b12
       refine L.appM (i := 2) (g := I) (l := gl6) (more := [x10]) h rfl Try.underlying28 el3 rfl rfl rfl (fun w hw => As.at_ (hw.get (i := 0) rfl)) (plain_ints _) rfl ?_
       intro v13 l14 el14 h
       refine L.y rfl (Y.assign rfl) ?_
       refine L.nil (E.blockN (E.thenN (W.region (L.m (V := fun x15 => .int .i64 x15) h rfl (Y.addM rfl rfl) (fun x15 ex15 h => ?_)))))
       refine L.y rfl (Y.move rfl) ?_
       exact L.nil (E.againJ ⟨v13, l14, x15, rfl, rfl, by rw [hg1]; exact h⟩ (Nat.lt_succ_self _) ⟨rfl, rfl, rfl, rfl, rfl, trivial⟩ (fun _ hw => hw.sel [2, 0, 3] (by decide) rfl))
    ·
     refine L.nil (E.thenN (W.seq (W.condF rfl ?_)))
     exact W.exit (E.thenX (E.KLX (E.blockX (E.joinJ ⟨gv5, gl6, rfl, rfl, h⟩ ⟨rfl, trivial⟩ (fun _ hw => hw.sel [1] (by decide) rfl)))))
   ·
    rintro _ _ ⟨gv3, gl4, rfl, rfl, h⟩
    rw [m23_quirref_StorySerial_K2] at h
    refine W.seq (W.region (L.y rfl (Y.move rfl) ?_))
    refine L.y rfl (Y.assign rfl) ?_
    refine L.nil (E.thenN (W.ret (E.ret1 rfl rfl (fun w1 hw => ?_))))
    exact ⟨_, _, rfl, ⟨gv3, gl4, rfl, rfl, h⟩, hw⟩
  ·
   rintro gv1 _ ⟨_, gl2, rfl, rfl, h⟩
   rw [m23_quirref_StorySerial_K1] at h
   refine L.y rfl (Y.move rfl) ?_
   refine L.y rfl (Y.assign rfl) ?_
   refine L.y rfl (Y.assign rfl) ?_
   refine L.nil (E.thenN (W.ret (E.ret2 rfl rfl rfl (fun w1 hw => ?_))))
   obtain rfl := Option.some.inj h
   exact ⟨_, _, rfl, ⟨_, rfl, rfl⟩, hw⟩
set_option maxRecDepth 100000 in
set_option maxHeartbeats 8000000 in
theorem w14_slices_Equal_int (a0 : (List Int)) (a1 : (List Int)) (u0 : Value) (u1 : Value) (w : World) (r : Bool) (h : m14_slices_Equal_int a0 a1 = some r) (hA0 : At w u0 1 (a0.map I)) (hA1 : At w u1 1 (a1.map I)) : Does Try.prog 14 [u0, u1] w fun u m => u = .bool r ∧ m = [] := by
  rw [m14_slices_Equal_int] at h
  refine body (n := 26) Try.func14 rfl rfl rfl (Cls.refl w) ?_
  refine W.seq (W.region (L.y rfl (Y.assign rfl) ?_))
  refine L.nil (E.thenN (W.seqJ (fun gs D => gs = [(0, u0), (1, u1)] ∧ D = Cls w [] [] ∧ m14_slices_Equal_int_K1 a0 a1 = some r) ?_ ?_))
  ·
   refine W.seq (W.region (L.y rfl (Y.move rfl) ?_))
   refine L.y rfl (Y.lenM (g := I) (l := a0) Try.underlying28 rfl (fun w' hw => hA0.cls0 hw)) ?_
   refine L.y rfl (Y.move rfl) ?_
   refine L.y rfl (Y.lenM (g := I) (l := a1) Try.underlying28 rfl (fun w' hw => hA1.cls0 hw)) ?_
   refine L.ite h rfl (Y.neq rfl rfl) (fun c6 h => ?_) (fun c6 h => ?_)
   ·
    refine L.nil (E.thenN (W.condT rfl ?_))
    refine W.seq (W.region (L.y rfl (Y.assign rfl) ?_))
    refine L.nil (E.thenN (W.ret (E.KSR (E.ret1 rfl rfl (fun w1 hw => ?_)))))
    obtain rfl := Option.some.inj h
    exact ⟨_, _, rfl, ⟨rfl, rfl⟩, hw⟩
   ·
    refine L.nil (E.thenN (W.condF rfl ?_))
    exact W.skip (E.joinJ ⟨rfl, rfl, h⟩ ⟨rfl, rfl, trivial⟩ (fun _ hw => hw))
  ·
   rintro _ _ ⟨rfl, rfl, h⟩
   rw [m14_slices_Equal_int_K1] at h
   refine W.seqJ (fun gs D => gs = [] ∧ D = Cls w [] [] ∧ m14_slices_Equal_int_K2 = some r) ?_ ?_
   ·
    refine W.seq (W.region (L.y rfl (Y.move rfl) ?_))
    refine L.y rfl (Y.lenM (g := I) (l := a0) Try.underlying28 rfl (fun w' hw => hA0.cls0 hw)) ?_
    refine L.y rfl (Y.move rfl) ?_
    refine L.nil (E.thenN (W.block (W.loopJ (fun m gs D => ∃ (gx1 : Int), gs = [(0, u0), (1, u1), (12, .int .i64 (a0.length : Int)), (13, .int .i64 gx1)] ∧ D = Cls w [] [] ∧ m14_slices_Equal_int_L1 a0 a1 m gx1 = some r) ⟨0, rfl, rfl, h⟩ ⟨rfl, rfl, rfl, rfl, trivial⟩ (fun _ hw => hw) ?_)))
    rintro m _ _ ⟨gx1, rfl, rfl, h⟩
    rcases m with _ | m
    · rw [m14_slices_Equal_int_L1] at h; cases h
    rw [m14_slices_Equal_int_L1] at h
    generalize hg1 : m14_slices_Equal_int_L1 a0 a1 m = go1 at h
    rw [m14_slices_Equal_int_L1B] at h
    refine W.seq (W.region (L.ite h rfl (Y.lss rfl rfl) (fun c1 h => ?_) (fun c1 h => ?_)))
    ·
     refine L.nil (E.thenN (W.seq (W.condT rfl ?_)))
     refine W.skip (E.thenN (W.seq (W.block (W.seq (W.region (L.y rfl (Y.move rfl) ?_))))))
     refine L.y rfl (Y.assign rfl) ?_
     refine L.nil (E.thenN (W.seq (W.quietC mixed (by kernel_rfl) (fun _ hw => hw.drew) (fun hC => ?_))))
     refine U.y rfl (Y.move rfl) ?_
     refine U.y rfl (Y.move rfl) ?_
     refine U.m (V := fun _ => el u0 (gx1.toNat * 1)) h rfl (Y.indexM (g := I) (l := a0) Try.underlying28 sz3 rfl rfl (fun w' hw => hA0.cls0 hw)) (fun x2 ex2 h => ?_)
     refine U.y rfl (Y.loadE1 (u := .int .i64 x2) ag3 rfl (fun w' hw => hA0.cls0 hw) (idx_map ex2)) ?_
     refine U.y rfl (Y.move rfl) ?_
     refine U.y rfl (Y.move rfl) ?_
     refine U.m (V := fun _ => el u1 (gx1.toNat * 1)) h rfl (Y.indexM (g := I) (l := a1) Try.underlying28 sz3 rfl rfl (fun w' hw => hA1.cls0 hw)) (fun x3 ex3 h => ?_)
     refine U.y rfl (Y.loadE1 (u := .int .i64 x3) ag3 rfl (fun w' hw => hA1.cls0 hw) (idx_map ex3)) ?_
     refine U.ite h rfl (Y.neq rfl rfl) (fun c4 h => ?_) (fun c4 h => ?_)
     ·
      refine U.nil (E.thenN (W.condT rfl ?_))
      refine W.seq (W.region (L.y rfl (Y.assign rfl) ?_))
      refine L.nil (E.thenN (W.ret (E.blockR (E.thenR (E.KLR (E.blockR (E.KSR (E.ret1 rfl rfl (fun w1 hw => ?_)))))))))
      obtain rfl := Option.some.inj h
      exact ⟨_, _, rfl, ⟨rfl, rfl⟩, hw⟩
     ·
      refine U.nil (E.thenN (W.condF rfl ?_))
      refine W.skip (E.blockN (E.thenN (W.region (L.m (V := fun x5 => .int .i64 x5) h rfl (Y.addM rfl rfl) (fun x5 ex5 h => ?_)))))
      refine L.y rfl (Y.move rfl) ?_
      exact L.nil (E.againJ ⟨x5, rfl, rfl, by rw [hg1]; exact h⟩ (Nat.lt_succ_self _) ⟨rfl, rfl, rfl, rfl, trivial⟩ (fun _ hw => hw))
    ·
     refine L.nil (E.thenN (W.seq (W.condF rfl ?_)))
     exact W.exit (E.thenX (E.KLX (E.blockX (E.joinJ ⟨rfl, rfl, h⟩ trivial (fun _ hw => hw)))))
   ·
    rintro _ _ ⟨rfl, rfl, h⟩
    rw [m14_slices_Equal_int_K2] at h
    refine W.seq (W.region (L.y rfl (Y.assign rfl) ?_))
    refine L.nil (E.thenN (W.ret (E.ret1 rfl rfl (fun w1 hw => ?_))))
    obtain rfl := Option.some.inj h
    exact ⟨_, _, rfl, ⟨rfl, rfl⟩, hw⟩
set_option maxRecDepth 100000 in
set_option maxHeartbeats 8000000 in
theorem w24_api_Dep (a0 : (List TDep)) (a1 : (List TDep)) (u0 : Value) (u1 : Value) (w : World) (r : Bool) (h : m24_api_Dep a0 a1 = some r) (hA0 : At w u0 3 (a0.map TDep.row)) (hA1 : At w u1 3 (a1.map TDep.row)) : Does Try.prog 24 [u0, u1] w fun u m => u = .bool r ∧ m = [] := by
  rw [m24_api_Dep] at h
  refine body (n := 26) Try.func24 rfl rfl rfl (Cls.refl w) ?_
  refine W.seq (W.region (L.y rfl (Y.assign rfl) ?_))
  refine L.nil (E.thenN (W.seqJ (fun gs D => gs = [(0, u0), (1, u1)] ∧ D = Cls w [] [] ∧ m24_api_Dep_K1 a0 a1 = some r) ?_ ?_))
  ·
   refine W.seq (W.region (L.y rfl (Y.move rfl) ?_))
   refine L.y rfl (Y.lenM (g := TDep.row) (l := a0) Try.underlying49 rfl (fun w' hw => hA0.cls0 hw)) ?_
   refine L.y rfl (Y.move rfl) ?_
   refine L.y rfl (Y.lenM (g := TDep.row) (l := a1) Try.underlying49 rfl (fun w' hw => hA1.cls0 hw)) ?_
   refine L.ite h rfl (Y.neq rfl rfl) (fun c6 h => ?_) (fun c6 h => ?_)
   ·
    refine L.nil (E.thenN (W.condT rfl ?_))
    refine W.seq (W.region (L.y rfl (Y.assign rfl) ?_))
    refine L.nil (E.thenN (W.ret (E.KSR (E.ret1 rfl rfl (fun w1 hw => ?_)))))
    obtain rfl := Option.some.inj h
    exact ⟨_, _, rfl, ⟨rfl, rfl⟩, hw⟩
   ·
    refine L.nil (E.thenN (W.condF rfl ?_))
    exact W.skip (E.joinJ ⟨rfl, rfl, h⟩ ⟨rfl, rfl, trivial⟩ (fun _ hw => hw))
  ·
   rintro _ _ ⟨rfl, rfl, h⟩
   rw [m24_api_Dep_K1] at h
   refine W.seqJ (fun gs D => gs = [] ∧ D = Cls w [] [] ∧ m24_api_Dep_K2 = some r) ?_ ?_
   ·
    refine W.seq (W.region (L.y rfl (Y.move rfl) ?_))
    refine L.y rfl (Y.lenM (g := TDep.row) (l := a0) Try.underlying49 rfl (fun w' hw => hA0.cls0 hw)) ?_
    refine L.y rfl (Y.move rfl) ?_
    refine L.nil (E.thenN (W.block (W.loopJ (fun m gs D => ∃ (gx1 : Int), gs = [(0, u0), (1, u1), (12, .int .i64 (a0.length : Int)), (13, .int .i64 gx1)] ∧ D = Cls w [] [] ∧ m24_api_Dep_L1 a0 a1 m gx1 = some r) ⟨0, rfl, rfl, h⟩ ⟨rfl, rfl, rfl, rfl, trivial⟩ (fun _ hw => hw) ?_)))
    rintro m _ _ ⟨gx1, rfl, rfl, h⟩
    rcases m with _ | m
    · rw [m24_api_Dep_L1] at h; cases h
    rw [m24_api_Dep_L1] at h
    generalize hg1 : m24_api_Dep_L1 a0 a1 m = go1 at h
    rw [m24_api_Dep_L1B] at h
    refine W.seq (W.region (L.ite h rfl (Y.lss rfl rfl) (fun c1 h => ?_) (fun c1 h => ?_)))
    ·
     refine L.nil (E.thenN (W.seq (W.condT rfl ?_)))
     refine W.skip (E.thenN (W.seq (W.block (W.seq (W.region (L.y rfl (Y.move rfl) ?_))))))
     refine L.y rfl (Y.assign rfl) ?_
     refine L.nil (E.thenN (W.seq (W.quietC mixed (by kernel_rfl) (fun _ hw => hw.drew) (fun hC => ?_))))
     refine U.y rfl (Y.move rfl) ?_
     refine U.y rfl (Y.move rfl) ?_
     refine U.m (V := fun _ => el u0 (gx1.toNat * 3)) h rfl (Y.indexM (g := TDep.row) (l := a0) Try.underlying49 sz60 rfl rfl (fun w' hw => hA0.cls0 hw)) (fun x2 ex2 h => ?_)
     refine U.y rfl (Y.loadEN (r := [.int .i64 x2.From, .int .i64 x2.To, .int .i64 x2.Kind]) ag60 sz60 rfl (fun w' hw => hA0.cls0 hw) (idx_map ex2) rfl) ?_
     refine U.y rfl (Y.move rfl) ?_
     refine U.y rfl (Y.move rfl) ?_
     refine U.m (V := fun _ => el u1 (gx1.toNat * 3)) h rfl (Y.indexM (g := TDep.row) (l := a1) Try.underlying49 sz60 rfl rfl (fun w' hw => hA1.cls0 hw)) (fun x3 ex3 h => ?_)
     refine U.y rfl (Y.loadEN (r := [.int .i64 x3.From, .int .i64 x3.To, .int .i64 x3.Kind]) ag60 sz60 rfl (fun w' hw => hA1.cls0 hw) (idx_map ex3) rfl) ?_
     refine U.ite h rfl (Y.neqA (row := TDep.row) (a := x2) (b := x3) eg60 ag60 (sh60 _) (sh60 _) (inj60 _ _) rfl rfl) (fun c4 h => ?_) (fun c4 h => ?_)
     ·
      refine U.nil (E.thenN (W.condT rfl ?_))
      refine W.seq (W.region (L.y rfl (Y.assign rfl) ?_))
      refine L.nil (E.thenN (W.ret (E.blockR (E.thenR (E.KLR (E.blockR (E.KSR (E.ret1 rfl rfl (fun w1 hw => ?_)))))))))
      obtain rfl := Option.some.inj h
      exact ⟨_, _, rfl, ⟨rfl, rfl⟩, hw⟩
     ·
      refine U.nil (E.thenN (W.condF rfl ?_))
      refine W.skip (E.blockN (E.thenN (W.region (L.m (V := fun x5 => .int .i64 x5) h rfl (Y.addM rfl rfl) (fun x5 ex5 h => ?_)))))
      refine L.y rfl (Y.move rfl) ?_
      exact L.nil (E.againJ ⟨x5, rfl, rfl, by rw [hg1]; exact h⟩ (Nat.lt_succ_self _) ⟨rfl, rfl, rfl, rfl, trivial⟩ (fun _ hw => hw))
    ·
     refine L.nil (E.thenN (W.seq (W.condF rfl ?_)))
     exact W.exit (E.thenX (E.KLX (E.blockX (E.joinJ ⟨rfl, rfl, h⟩ trivial (fun _ hw => hw)))))
   ·
    rintro _ _ ⟨rfl, rfl, h⟩
    rw [m24_api_Dep_K2] at h
    refine W.seq (W.region (L.y rfl (Y.assign rfl) ?_))
    refine L.nil (E.thenN (W.ret (E.ret1 rfl rfl (fun w1 hw => ?_))))
    obtain rfl := Option.some.inj h
    exact ⟨_, _, rfl, ⟨rfl, rfl⟩, hw⟩
set_option maxRecDepth 100000 in
set_option maxHeartbeats 8000000 in
theorem w26_quirref_Faults (a0 : TStory) (u0_0 : Value) (q0_0 : Nat → List Value) (u0_2 : Value) (q0_2 : Nat → List Value) (w : World) (r : TFault) (h : m26_quirref_Faults a0 = some r) (hA0_0 : At w u0_0 2 (zr TTale.rowv q0_0 a0.Tales)) (hD0_0 : ∀ d ∈ zs TTale.sds q0_0 a0.Tales, At w d.v d.k d.rows) (hA0_2 : At w u0_2 1 (zr svRow q0_2 a0.Versions)) (hD0_2 : ∀ d ∈ zs (svSd 3 1 I) q0_2 a0.Versions, At w d.v d.k d.rows) : Does Try.prog 26 [.agg #[u0_0, u0_2]] w fun u m => u = .agg #[.bool r.Writes, .bool r.Flow, .bool r.Any] ∧ m = [] := by
  rw [m26_quirref_Faults] at h
  refine body (n := 30) Try.func26 rfl rfl rfl (Cls.refl w) ?_
  refine W.seq (W.region (L.box rfl rfl ?_))
  intro b1
  refine L.alloc rfl ze53 ?_
  intro b2
  refine L.nil (E.thenN (W.seq (W.region (L.alloc rfl ze116 ?_))))
  intro b3
  refine L.to (D := Cls w [] [.obj b3 (((List.replicate 3 (false : Bool)).map B).flatten) 116, .obj b2 [.bool false, .bool false, .bool false] 53, .obj b1 [u0_0, u0_2] 47]) (fun _ hw => by first | exact hw | simpa [I, B, SR] using hw) ?_
  refine L.nil (E.thenN (W.seqJ (fun gs D => ∃ (gl1 : (List Bool)), gs = [(2, pt b2 0), (3, pt b3 0)] ∧ D = Cls w [] [.obj b3 ((gl1.map B).flatten) 116, .obj b2 [.bool false, .bool false, .bool false] 53] ∧ m26_quirref_Faults_K1 gl1 = some r) ?_ ?_))
  ·
   refine W.seq (W.region (L.y rfl (Y.move rfl) ?_))
   refine L.nil (E.thenN (W.block (W.loopJ (fun m gs D => ∃ (gx2 : Int) (gl3 : (List Bool)), gs = [(1, pt b1 0), (2, pt b2 0), (3, pt b3 0), (7, .int .i64 gx2)] ∧ D = Cls w [] [.obj b3 ((gl3.map B).flatten) 116, .obj b2 [.bool false, .bool false, .bool false] 53, .obj b1 [u0_0, u0_2] 47] ∧ m26_quirref_Faults_L1 a0 m gx2 gl3 = some r) ⟨0, (List.replicate 3 (false : Bool)), rfl, rfl, h⟩ ⟨rfl, rfl, rfl, rfl, trivial⟩ (fun _ hw => hw) ?_)))
   rintro m _ _ ⟨gx2, gl3, rfl, rfl, h⟩
   rcases m with _ | m
   · rw [m26_quirref_Faults_L1] at h; cases h
   rw [m26_quirref_Faults_L1] at h
   generalize hg1 : m26_quirref_Faults_L1 a0 m = go1 at h
   rw [m26_quirref_Faults_L1B] at h
   refine W.seq (W.region (L.ite h rfl (Y.lss rfl rfl) (fun c7 h => ?_) (fun c7 h => ?_)))
   ·
    refine L.nil (E.thenN (W.seq (W.condT rfl ?_)))
    refine W.skip (E.thenN (W.seq (W.block (W.seq (W.region (L.y rfl (Y.move rfl) ?_))))))
    refine L.y rfl (Y.assign rfl) ?_
    refine L.nil (E.thenN (W.seq (W.region (L.y rfl (Y.loadPW (i := 2) ag47 sz47 rfl rfl rfl) ?_))))
    refine L.y rfl (Y.move rfl) ?_
    refine L.m (V := fun x8 => .int .i64 x8) h rfl (Y.addM rfl rfl) (fun x8 ex8 h => ?_)
    obtain ⟨l9, e11, h⟩ := bind1S h
    refine L.does rfl en67 rfl (fun w' hw => w67_quirref_edgesOf a0 x8 u0_0 q0_0 u0_2 q0_2 w' _ e11 (hA0_0.cls0 hw) (fun d hd => (hD0_0 d hd).cls0 hw) (hA0_2.cls0 hw) (fun d hd => (hD0_2 d hd).cls0 hw)) ?_
    rintro v10 _ ⟨_, rfl, rfl⟩
    obtain ⟨l12, b14, e15, h⟩ := bind2S h
    refine L.does rfl en46 rfl (fun w' hw => w46_quirref_Order 12 l9 v10 w' _ e15 (As.at_ (hw.get (i := 0) rfl))) ?_
    rintro _ _ ⟨v13, rfl, rfl⟩
    refine L.y rfl (Y.move rfl) ?_
    refine L.y rfl (Y.extract rfl rfl) ?_
    refine L.y rfl (Y.extract rfl rfl) ?_
    refine L.y rfl (Y.assign rfl) ?_
    refine L.y rfl (Y.assign rfl) ?_
    refine L.nil (E.thenN (W.region (L.y rfl (Y.move rfl) ?_)))
    refine L.y rfl (Y.move rfl) ?_
    refine L.y rfl (Y.not rfl) ?_
    refine L.m (V := fun _ => pt b3 (0 + gx2.toNat * 1)) h rfl (Y.indexAM (l := gl3) Try.underlying116 sz4 rfl rfl) (fun x16 ex16 h => ?_)
    refine L.storeArM (q := 2) (row := B) (vs := [.bool (!b14)]) (j := 0) (u1 := (!b14)) h sz4 rfl rfl rfl rfl rfl (all1 rfl all0) rfl (fun _ => rfl) (idxA_idx ex16) rfl rfl ?_
    intro l17 el17 h
    refine L.nil (E.blockN (E.thenN (W.region (L.m (V := fun x18 => .int .i64 x18) h rfl (Y.addM rfl rfl) (fun x18 ex18 h => ?_)))))
    refine L.y rfl (Y.move rfl) ?_
    exact L.nil (E.againJ ⟨x18, l17, rfl, rfl, by rw [hg1]; exact h⟩ (Nat.lt_succ_self _) ⟨rfl, rfl, rfl, rfl, trivial⟩ (fun _ hw => hw.sel [2, 3, 4] (by decide) rfl))
   ·
    refine L.nil (E.thenN (W.seq (W.condF rfl ?_)))
    exact W.exit (E.thenX (E.KLX (E.blockX (E.joinJ ⟨gl3, rfl, rfl, h⟩ ⟨rfl, rfl, trivial⟩ (fun _ hw => hw.sel [0, 1] (by decide) rfl)))))
  ·
   rintro _ _ ⟨gl1, rfl, rfl, h⟩
   rw [m26_quirref_Faults_K1] at h
   refine W.seq (W.region (L.m (V := fun _ => pt b3 (0 + (0 : Int).toNat * 1)) h rfl (Y.indexAM (l := gl1) Try.underlying116 sz4 rfl rfl) (fun x4 ex4 h => ?_)))
   refine L.y rfl (Y.loadAr (q := 0) (row := B) (j := 0) (p := .bool x4) ag4 rfl rfl rfl (fun _ => rfl) (idxA_idx ex4) rfl) ?_
   refine L.m (V := fun _ => pt b3 (0 + (1 : Int).toNat * 1)) h rfl (Y.indexAM (l := gl1) Try.underlying116 sz4 rfl rfl) (fun x5 ex5 h => ?_)
   refine L.y rfl (Y.loadAr (q := 0) (row := B) (j := 0) (p := .bool x5) ag4 rfl rfl rfl (fun _ => rfl) (idxA_idx ex5) rfl) ?_
   refine L.m (V := fun _ => pt b3 (0 + (2 : Int).toNat * 1)) h rfl (Y.indexAM (l := gl1) Try.underlying116 sz4 rfl rfl) (fun x6 ex6 h => ?_)
   refine L.y rfl (Y.loadAr (q := 0) (row := B) (j := 0) (p := .bool x6) ag4 rfl rfl rfl (fun _ => rfl) (idxA_idx ex6) rfl) ?_
   refine L.y rfl (Y.build (cells := #[.bool x4, .bool x5, .bool x6]) rfl (by kernel_rfl)) ?_
   refine L.store (i := 1) sz53 rfl rfl rfl rfl (by simp [Value.oneCell', Value.cells, st]) rfl (Nat.le_of_ble_eq_true rfl) ?_
   refine L.nil (E.thenN (W.ret (E.retR1 rfl (Rv.cellW (i := 1) ag53 sz53 rfl rfl rfl) (fun w1 hw => ?_))))
   obtain rfl := Option.some.inj h
   exact ⟨_, _, rfl, ⟨rfl, rfl⟩, hw.sel [] (by decide) rfl⟩
set_option maxRecDepth 100000 in
set_option maxHeartbeats 8000000 in
theorem w4_quirlaw_OrderSays (a0 : TStory) (u0_0 : Value) (q0_0 : Nat → List Value) (u0_2 : Value) (q0_2 : Nat → List Value) (w : World) (r : Bool) (h : m4_quirlaw_OrderSays a0 = some r) (hA0_0 : At w u0_0 2 (zr TTale.rowv q0_0 a0.Tales)) (hD0_0 : ∀ d ∈ zs TTale.sds q0_0 a0.Tales, At w d.v d.k d.rows) (hA0_2 : At w u0_2 1 (zr svRow q0_2 a0.Versions)) (hD0_2 : ∀ d ∈ zs (svSd 3 1 I) q0_2 a0.Versions, At w d.v d.k d.rows) : Does Try.prog 4 [.agg #[u0_0, u0_2]] w fun u m => u = .bool r ∧ m = [] := by
  rw [m4_quirlaw_OrderSays] at h
  refine body (n := 113) Try.func4 rfl rfl rfl (Cls.refl w) ?_
  refine W.seq (W.region (L.box rfl rfl ?_))
  intro b1
  refine L.y rfl (Y.assign rfl) ?_
  refine L.nil (E.thenN (W.seq (W.region (L.y rfl (Y.loadPW (i := 0) ag47 sz47 rfl rfl rfl) ?_))))
  obtain ⟨x2, e3, h⟩ := bind1S h
  refine L.y rfl (Y.does en18 rfl (fun w' hw => (w18_quirref_StoryErr a0 u0_0 q0_0 u0_2 q0_2 w' _ e3 (hA0_0.cls0 hw) (fun d hd => (hD0_0 d hd).cls0 hw) (hA0_2.cls0 hw) (fun d hd => (hD0_2 d hd).cls0 hw)).mono (fun _ _ h => h.1))) ?_
  refine L.y rfl (Y.assign rfl) ?_
  refine L.nil (E.thenN (W.seq (W.region (L.y rfl (Y.loadPW (i := 0) ag47 sz47 rfl rfl rfl) ?_))))
  obtain ⟨l4, x6, e7, h⟩ := bind2S h
  refine L.does rfl en19 rfl (fun w' hw => w19_order_Deps a0 u0_0 q0_0 u0_2 q0_2 w' _ e7 (hA0_0.cls0 hw) (fun d hd => (hD0_0 d hd).cls0 hw) (hA0_2.cls0 hw) (fun d hd => (hD0_2 d hd).cls0 hw)) ?_
  rintro _ _ ⟨v5, rfl, rfl⟩
  refine L.y rfl (Y.move rfl) ?_
  refine L.y rfl (Y.extract rfl rfl) ?_
  refine L.y rfl (Y.extract rfl rfl) ?_
  refine L.y rfl (Y.assign rfl) ?_
  refine L.y rfl (Y.assign rfl) ?_
  refine L.nil (E.thenN (W.seq (W.region (L.y rfl (Y.loadPW (i := 1) ag47 sz47 rfl rfl rfl) ?_))))
  obtain ⟨x8, x9, e10, h⟩ := bind2S h
  refine L.y rfl (Y.does en20 rfl (fun w' hw => (w20_order_Faults a0 u0_0 q0_0 u0_2 q0_2 w' _ e10 (hA0_0.cls0 hw) (fun d hd => (hD0_0 d hd).cls0 hw) (hA0_2.cls0 hw) (fun d hd => (hD0_2 d hd).cls0 hw)).mono (fun _ _ h => h.1))) ?_
  refine L.y rfl (Y.move rfl) ?_
  refine L.y rfl (Y.extract rfl rfl) ?_
  refine L.y rfl (Y.extract rfl rfl) ?_
  refine L.alloc rfl ze53 ?_
  intro b11
  refine L.store (i := 0) sz53 rfl rfl rfl rfl (by simp [Value.oneCell', Value.cells, st]) rfl (Nat.le_of_ble_eq_true rfl) ?_
  refine L.y rfl (Y.assign rfl) ?_
  refine L.nil (E.thenN (W.seq (W.region (L.y rfl (Y.loadPW (i := 2) ag47 sz47 rfl rfl rfl) ?_))))
  obtain ⟨l12, x14, e15, h⟩ := bind2S h
  refine L.does rfl en21 rfl (fun w' hw => w21_order_Serial a0 u0_0 q0_0 u0_2 q0_2 w' _ e15 (hA0_0.cls0 hw) (fun d hd => (hD0_0 d hd).cls0 hw) (hA0_2.cls0 hw) (fun d hd => (hD0_2 d hd).cls0 hw)) ?_
  rintro _ _ ⟨v13, rfl, rfl⟩
  refine L.y rfl (Y.move rfl) ?_
  refine L.y rfl (Y.extract rfl rfl) ?_
  refine L.y rfl (Y.extract rfl rfl) ?_
  refine L.y rfl (Y.assign rfl) ?_
  refine L.y rfl (Y.assign rfl) ?_
  refine L.nil (E.thenN (W.seqJ (fun gs D => gs = [(1, pt b1 0), (3, .int .i64 x2), (4, v5), (5, .int .i64 x6), (6, pt b11 0), (7, .int .i64 x9), (8, v13), (9, .int .i64 x14)] ∧ D = Cls w [] [.obj b11 [.bool x8.Writes, .bool x8.Flow, .bool x8.Any] 53, .obj b1 [u0_0, u0_2] 47, .sl v5 60 3 (l4.map TDep.row), .sl v13 3 1 (l12.map I)] ∧ m4_quirlaw_OrderSays_K1 x2 l4 x6 x8 x9 l12 x14 a0 = some r) ?_ ?_))
  ·
   refine W.seq (W.region (L.y rfl (Y.loadPW (i := 3) ag47 sz47 rfl rfl rfl) ?_))
   obtain ⟨x61, e62, h⟩ := bind1S h
   refine L.y rfl (Y.does en22 rfl (fun w' hw => (w22_order_Check a0 u0_0 q0_0 u0_2 q0_2 w' _ e62 (hA0_0.cls0 hw) (fun d hd => (hD0_0 d hd).cls0 hw) (hA0_2.cls0 hw) (fun d hd => (hD0_2 d hd).cls0 hw)).mono (fun _ _ h => h.1))) ?_
   refine L.y rfl (Y.move rfl) ?_
   refine L.ite h rfl (Y.neq rfl rfl) (fun c63 h => ?_) (fun c63 h => ?_)
   ·
    refine L.nil (E.thenN (W.condT rfl ?_))
    refine W.seq (W.region (L.y rfl (Y.assign rfl) ?_))
    refine L.nil (E.thenN (W.ret (E.KSR (E.ret1 rfl rfl (fun w1 hw => ?_)))))
    obtain rfl := Option.some.inj h
    exact ⟨_, _, rfl, ⟨rfl, rfl⟩, hw.sel [] (by decide) rfl⟩
   ·
    refine L.nil (E.thenN (W.condF rfl ?_))
    exact W.skip (E.joinJ ⟨rfl, rfl, h⟩ ⟨rfl, rfl, rfl, rfl, rfl, rfl, rfl, rfl, trivial⟩ (fun _ hw => hw.sel [1, 3, 2, 0] (by decide) rfl))
  ·
   rintro _ _ ⟨rfl, rfl, h⟩
   rw [m4_quirlaw_OrderSays_K1] at h
   refine W.seqJ (fun gs D => gs = [(1, pt b1 0), (4, v5), (5, .int .i64 x6), (6, pt b11 0), (7, .int .i64 x9), (8, v13), (9, .int .i64 x14)] ∧ D = Cls w [] [.obj b11 [.bool x8.Writes, .bool x8.Flow, .bool x8.Any] 53, .obj b1 [u0_0, u0_2] 47, .sl v5 60 3 (l4.map TDep.row), .sl v13 3 1 (l12.map I)] ∧ m4_quirlaw_OrderSays_K2 a0 l12 x14 l4 x6 x8 x9 = some r) ?_ ?_
   ·
    refine W.seq (W.region (L.y rfl (Y.move rfl) ?_))
    refine L.ite h rfl (Y.neq rfl rfl) (fun c55 h => ?_) (fun c55 h => ?_)
    ·
     refine L.nil (E.thenN (W.condT rfl ?_))
     refine W.seq (W.region (L.cutJ 8 (fun gs D => ∃ (gb7 : Bool), gs = [(3, .int .i64 x2), (6, pt b11 0), (7, .int .i64 x9), (8, v13), (9, .int .i64 x14), (43, .bool gb7)] ∧ D = Cls w [] [.obj b11 [.bool x8.Writes, .bool x8.Flow, .bool x8.Any] 53, .sl v13 3 1 (l12.map I)] ∧ m4_quirlaw_OrderSays_K7 x8 x9 x2 l12 x14 gb7 = some r) ?_ ?_))
     ·
      refine L.y rfl (Y.move rfl) ?_
      refine L.y rfl (Y.lenM (g := TDep.row) (l := l4) Try.underlying49 rfl (fun w hw => As.at_ (hw.get (i := 2) rfl))) ?_
      refine L.ite h rfl (Y.eql rfl rfl) (fun c59 h => ?_) (fun c59 h => ?_)
      ·
       refine L.y rfl (Y.move rfl) ?_
       refine L.take rfl (L.y rfl (Y.move rfl) ?_)
       refine L.take rfl (L.y rfl (Y.move rfl) ?_)
       refine L.take rfl (L.ite h rfl (Y.eql rfl rfl) (fun c60 h => ?_) (fun c60 h => ?_))
       ·
        refine L.y rfl (Y.pickT rfl rfl) ?_
        exact L.nil (E.joinJ ⟨true, rfl, rfl, h⟩ ⟨rfl, rfl, rfl, rfl, rfl, rfl, trivial⟩ (fun _ hw => hw.sel [0, 3] (by decide) rfl))
       ·
        refine L.y rfl (Y.pickT rfl rfl) ?_
        exact L.nil (E.joinJ ⟨false, rfl, rfl, h⟩ ⟨rfl, rfl, rfl, rfl, rfl, rfl, trivial⟩ (fun _ hw => hw.sel [0, 3] (by decide) rfl))
      ·
       refine L.y rfl (Y.move rfl) ?_
       refine L.pass rfl rfl (by nofun) ?_
       refine L.pass rfl rfl (by nofun) ?_
       refine L.pass rfl rfl (by nofun) ?_
       refine L.y rfl (Y.pickF rfl rfl) ?_
       exact L.nil (E.joinJ ⟨false, rfl, rfl, h⟩ ⟨rfl, rfl, rfl, rfl, rfl, rfl, trivial⟩ (fun _ hw => hw.sel [0, 3] (by decide) rfl))
     ·
      rintro _ _ ⟨gb7, rfl, rfl, h⟩
      rw [m4_quirlaw_OrderSays_K7] at h
      rcases gb7 with _ | _
      ·
       replace h := iteF h
       refine L.y rfl (Y.move rfl) ?_
       refine L.pass rfl rfl (by nofun) ?_
       refine L.pass rfl rfl (by nofun) ?_
       refine L.pass rfl rfl (by nofun) ?_
       refine L.y rfl (Y.pickF rfl rfl) ?_
       refine L.y rfl (Y.move rfl) ?_
       refine L.pass rfl rfl (by nofun) ?_
       refine L.pass rfl rfl (by nofun) ?_
       refine L.pass rfl rfl (by nofun) ?_
       refine L.y rfl (Y.pickF rfl rfl) ?_
       refine L.y rfl (Y.move rfl) ?_
       refine L.pass rfl rfl (by nofun) ?_
       refine L.pass rfl rfl (by nofun) ?_
       refine L.pass rfl rfl (by nofun) ?_
       refine L.y rfl (Y.pickF rfl rfl) ?_
       refine L.y rfl (Y.move rfl) ?_
       refine L.pass rfl rfl (by nofun) ?_
       refine L.pass rfl rfl (by nofun) ?_
       refine L.pass rfl rfl (by nofun) ?_
       refine L.y rfl (Y.pickF rfl rfl) ?_
       refine L.y rfl (Y.assign rfl) ?_
       refine L.nil (E.thenN (W.ret (E.KSR (E.ret1 rfl rfl (fun w1 hw => ?_)))))
       obtain rfl := Option.some.inj h
       exact ⟨_, _, rfl, ⟨rfl, rfl⟩, hw.sel [] (by decide) rfl⟩
      ·
       replace h := iteT h
       refine L.cutJ 10 (fun gs D => ∃ (gb8 : Bool), gs = [(3, .int .i64 x2), (8, v13), (9, .int .i64 x14), (53, .bool gb8)] ∧ D = Cls w [] [.sl v13 3 1 (l12.map I)] ∧ m4_quirlaw_OrderSays_K8 l12 x14 x2 gb8 = some r) ?_ ?_
       ·
        refine L.y rfl (Y.move rfl) ?_
        refine L.take rfl (L.y rfl (Y.loadPW (i := 0) ag53 sz53 rfl rfl rfl) ?_)
        refine L.take rfl (L.y rfl (Y.build (cells := #[.bool false, .bool false, .bool false]) rfl (by kernel_rfl)) ?_)
        refine L.take rfl (L.ite h rfl (Y.eqlA (row := TFault.row) (a := x8) (b := (⟨false, false, false⟩ : TFault)) eg53 ag53 (sh53 _) (sh53 _) (inj53 _ _) rfl rfl) (fun c57 h => ?_) (fun c57 h => ?_))
        ·
         refine L.y rfl (Y.pickT rfl rfl) ?_
         refine L.y rfl (Y.move rfl) ?_
         refine L.take rfl (L.y rfl (Y.move rfl) ?_)
         refine L.take rfl (L.y rfl (Y.move rfl) ?_)
         refine L.take rfl (L.ite h rfl (Y.eql rfl rfl) (fun c58 h => ?_) (fun c58 h => ?_))
         ·
          refine L.y rfl (Y.pickT rfl rfl) ?_
          exact L.nil (E.joinJ ⟨true, rfl, rfl, h⟩ ⟨rfl, rfl, rfl, rfl, trivial⟩ (fun _ hw => hw.sel [1] (by decide) rfl))
         ·
          refine L.y rfl (Y.pickT rfl rfl) ?_
          exact L.nil (E.joinJ ⟨false, rfl, rfl, h⟩ ⟨rfl, rfl, rfl, rfl, trivial⟩ (fun _ hw => hw.sel [1] (by decide) rfl))
        ·
         refine L.y rfl (Y.pickT rfl rfl) ?_
         refine L.y rfl (Y.move rfl) ?_
         refine L.pass rfl rfl (by nofun) ?_
         refine L.pass rfl rfl (by nofun) ?_
         refine L.pass rfl rfl (by nofun) ?_
         refine L.y rfl (Y.pickF rfl rfl) ?_
         exact L.nil (E.joinJ ⟨false, rfl, rfl, h⟩ ⟨rfl, rfl, rfl, rfl, trivial⟩ (fun _ hw => hw.sel [1] (by decide) rfl))
       ·
        rintro _ _ ⟨gb8, rfl, rfl, h⟩
        rw [m4_quirlaw_OrderSays_K8] at h
        rcases gb8 with _ | _
        ·
         replace h := iteF h
         refine L.y rfl (Y.move rfl) ?_
         refine L.pass rfl rfl (by nofun) ?_
         refine L.pass rfl rfl (by nofun) ?_
         refine L.pass rfl rfl (by nofun) ?_
         refine L.y rfl (Y.pickF rfl rfl) ?_
         refine L.y rfl (Y.move rfl) ?_
         refine L.pass rfl rfl (by nofun) ?_
         refine L.pass rfl rfl (by nofun) ?_
         refine L.pass rfl rfl (by nofun) ?_
         refine L.y rfl (Y.pickF rfl rfl) ?_
         refine L.y rfl (Y.assign rfl) ?_
         refine L.nil (E.thenN (W.ret (E.KSR (E.ret1 rfl rfl (fun w1 hw => ?_)))))
         obtain rfl := Option.some.inj h
         exact ⟨_, _, rfl, ⟨rfl, rfl⟩, hw.sel [] (by decide) rfl⟩
        ·
         replace h := iteT h
         refine L.y rfl (Y.move rfl) ?_
         refine L.take rfl (L.y rfl (Y.move rfl) ?_)
         refine L.take rfl (L.y rfl (Y.lenM (g := I) (l := l12) Try.underlying28 rfl (fun w hw => As.at_ (hw.get (i := 0) rfl))) ?_)
         refine L.take rfl (L.ite h rfl (Y.eql rfl rfl) (fun c56 h => ?_) (fun c56 h => ?_))
         ·
          refine L.y rfl (Y.pickT rfl rfl) ?_
          refine L.y rfl (Y.move rfl) ?_
          refine L.take rfl (L.y rfl (Y.move rfl) ?_)
          refine L.take rfl (L.y rfl (Y.move rfl) ?_)
          refine L.take rfl (L.y rfl (Y.eql rfl rfl) ?_)
          refine L.y rfl (Y.pickT rfl rfl) ?_
          refine L.y rfl (Y.assign rfl) ?_
          refine L.nil (E.thenN (W.ret (E.KSR (E.ret1 rfl rfl (fun w1 hw => ?_)))))
          obtain rfl := Option.some.inj h
          exact ⟨_, _, rfl, ⟨rfl, rfl⟩, hw.sel [] (by decide) rfl⟩
         ·
          refine L.y rfl (Y.pickT rfl rfl) ?_
          refine L.y rfl (Y.move rfl) ?_
          refine L.pass rfl rfl (by nofun) ?_
          refine L.pass rfl rfl (by nofun) ?_
          refine L.pass rfl rfl (by nofun) ?_
          refine L.y rfl (Y.pickF rfl rfl) ?_
          refine L.y rfl (Y.assign rfl) ?_
          refine L.nil (E.thenN (W.ret (E.KSR (E.ret1 rfl rfl (fun w1 hw => ?_)))))
          obtain rfl := Option.some.inj h
          exact ⟨_, _, rfl, ⟨rfl, rfl⟩, hw.sel [] (by decide) rfl⟩
    ·
     refine L.nil (E.thenN (W.condF rfl ?_))
     exact W.skip (E.joinJ ⟨rfl, rfl, h⟩ ⟨rfl, rfl, rfl, rfl, rfl, rfl, rfl, trivial⟩ (fun _ hw => hw))
   ·
    rintro _ _ ⟨rfl, rfl, h⟩
    rw [m4_quirlaw_OrderSays_K2] at h
    refine W.seqJ (fun gs D => ∃ (gv1 : Value) (gl2 : (List Int)) (gb3 : Bool), gs = [(1, pt b1 0), (4, v5), (5, .int .i64 x6), (6, pt b11 0), (7, .int .i64 x9), (8, v13), (9, .int .i64 x14), (10, gv1), (11, .bool gb3)] ∧ D = Cls w [] [.obj b11 [.bool x8.Writes, .bool x8.Flow, .bool x8.Any] 53, .obj b1 [u0_0, u0_2] 47, .sl v5 60 3 (l4.map TDep.row), .sl v13 3 1 (l12.map I), .sl gv1 3 1 (gl2.map I)] ∧ m4_quirlaw_OrderSays_K3 l12 x14 a0 l4 x6 x8 x9 gl2 gb3 = some r) ?_ ?_
    ·
     refine W.region (L.y rfl (Y.loadPW (i := 1) ag47 sz47 rfl rfl rfl) ?_)
     obtain ⟨l50, b52, e53, h⟩ := bind2S h
     refine L.does rfl en23 rfl (fun w' hw => w23_quirref_StorySerial a0 u0_0 q0_0 u0_2 q0_2 w' _ e53 (hA0_0.cls0 hw) (fun d hd => (hD0_0 d hd).cls0 hw) (hA0_2.cls0 hw) (fun d hd => (hD0_2 d hd).cls0 hw)) ?_
     rintro _ _ ⟨v51, rfl, rfl⟩
     refine L.y rfl (Y.move rfl) ?_
     refine L.y rfl (Y.extract rfl rfl) ?_
     refine L.iteB h rfl (Y.extract rfl rfl) (fun c54 h => ?_) (fun c54 h => ?_)
     ·
      refine L.y rfl (Y.assign rfl) ?_
      refine L.y rfl (Y.assign rfl) ?_
      exact L.nil (E.joinJ ⟨v51, l50, true, rfl, rfl, h⟩ ⟨rfl, rfl, rfl, rfl, rfl, rfl, rfl, rfl, rfl, trivial⟩ (fun _ hw => hw.sel [1, 2, 3, 4, 0] (by decide) rfl))
     ·
      refine L.y rfl (Y.assign rfl) ?_
      refine L.y rfl (Y.assign rfl) ?_
      exact L.nil (E.joinJ ⟨v51, l50, false, rfl, rfl, h⟩ ⟨rfl, rfl, rfl, rfl, rfl, rfl, rfl, rfl, rfl, trivial⟩ (fun _ hw => hw.sel [1, 2, 3, 4, 0] (by decide) rfl))
    ·
     rintro _ _ ⟨gv1, gl2, gb3, rfl, rfl, h⟩
     rw [m4_quirlaw_OrderSays_K3] at h
     rcases gb3 with _ | _
     ·
      replace h := iteF h
      refine W.seqJ (fun gs D => ∃ (gb4 : Bool), gs = [(1, pt b1 0), (4, v5), (5, .int .i64 x6), (6, pt b11 0), (7, .int .i64 x9), (12, .bool gb4)] ∧ D = Cls w [] [.obj b11 [.bool x8.Writes, .bool x8.Flow, .bool x8.Any] 53, .obj b1 [u0_0, u0_2] 47, .sl v5 60 3 (l4.map TDep.row)] ∧ m4_quirlaw_OrderSays_K4 a0 l4 x6 x8 x9 gb4 = some r) ?_ ?_
      ·
       refine W.region (L.y rfl (Y.move rfl) ?_)
       refine L.y rfl (Y.move rfl) ?_
       refine L.pass rfl rfl (by nofun) ?_
       refine L.pass rfl rfl (by nofun) ?_
       refine L.pass rfl rfl (by nofun) ?_
       refine L.y rfl (Y.pickF rfl rfl) ?_
       refine L.y rfl (Y.move rfl) ?_
       refine L.pass rfl rfl (by nofun) ?_
       refine L.pass rfl rfl (by nofun) ?_
       refine L.y rfl (Y.pickF rfl rfl) ?_
       refine L.y rfl (Y.move rfl) ?_
       refine L.take rfl (L.y rfl (Y.move rfl) ?_)
       refine L.take rfl (L.y rfl (Y.not rfl) ?_)
       refine L.take rfl (L.y rfl (Y.move rfl) ?_)
       refine L.take rfl (L.y rfl (Y.move rfl) ?_)
       refine L.take rfl (L.y rfl (Y.lenM (g := I) (l := l12) Try.underlying28 rfl (fun w hw => As.at_ (hw.get (i := 3) rfl))) ?_)
       refine L.take rfl (L.ite h rfl (Y.eql rfl rfl) (fun c31 h => ?_) (fun c31 h => ?_))
       ·
        refine L.take rfl (L.y rfl (Y.pickT rfl rfl) ?_)
        refine L.take rfl (L.y rfl (Y.move rfl) ?_)
        refine L.take rfl (L.y rfl (Y.move rfl) ?_)
        refine L.take rfl (L.y rfl (Y.eql rfl rfl) ?_)
        refine L.take rfl (L.y rfl (Y.pickT rfl rfl) ?_)
        refine L.y rfl (Y.pickF rfl rfl) ?_
        refine L.y rfl (Y.assign rfl) ?_
        exact L.nil (E.joinJ ⟨decide (x14 = 11), rfl, rfl, h⟩ ⟨rfl, rfl, rfl, rfl, rfl, rfl, trivial⟩ (fun _ hw => hw.sel [0, 1, 2] (by decide) rfl))
       ·
        refine L.take rfl (L.y rfl (Y.pickT rfl rfl) ?_)
        refine L.take rfl (L.y rfl (Y.move rfl) ?_)
        refine L.pass rfl rfl (by nofun) ?_
        refine L.pass rfl rfl (by nofun) ?_
        refine L.take rfl (L.y rfl (Y.pickF rfl rfl) ?_)
        refine L.y rfl (Y.pickF rfl rfl) ?_
        refine L.y rfl (Y.assign rfl) ?_
        exact L.nil (E.joinJ ⟨false, rfl, rfl, h⟩ ⟨rfl, rfl, rfl, rfl, rfl, rfl, trivial⟩ (fun _ hw => hw.sel [0, 1, 2] (by decide) rfl))
      ·
       rintro _ _ ⟨gb4, rfl, rfl, h⟩
       rw [m4_quirlaw_OrderSays_K4] at h
       refine W.seq (W.drawn2 (k := 22) (stC [[3]] [Cls w [] [.obj b11 [.bool x8.Writes, .bool x8.Flow, .bool x8.Any] 53, .obj b1 [u0_0, u0_2] 47, .sl v5 60 3 (l4.map TDep.row)]] (Cls w [] [.obj b11 [.bool x8.Writes, .bool x8.Flow, .bool x8.Any] 53, .obj b1 [u0_0, u0_2] 47, .sl v5 60 3 (l4.map TDep.row)])) rfl mixed (fun _ hw => hw.drew) (Sc.now (by kernel_rfl) (fun _ hw => hw)) ?_)
       refine V2.y (i := 0) (Nx2.of (Z := Cls w [] [.obj b11 [.bool x8.Writes, .bool x8.Flow, .bool x8.Any] 53, .obj b1 [u0_0, u0_2] 47, .sl v5 60 3 (l4.map TDep.row)]) [] (by kernel_rfl) rfl (Zc.on (fun _ hw => hw) (Zc.fin (fun _ hw => hw)))) rfl rfl rfl (Y.move rfl) ?_
       refine V2.y (i := 1) (Nx2.of (Z := Cls w [] [.obj b11 [.bool x8.Writes, .bool x8.Flow, .bool x8.Any] 53, .obj b1 [u0_0, u0_2] 47, .sl v5 60 3 (l4.map TDep.row)]) [] (by kernel_rfl) rfl (Zc.on (fun _ hw => hw) (Zc.fin (fun _ hw => hw)))) rfl rfl rfl (Y.loadPW (i := 1) ag47 sz47 rfl rfl rfl) ?_
       refine V2.eff (i := 2) (by kernel_rfl) rfl ?_
       obtain ⟨l21, e23, h⟩ := bind1S h
       refine L.does rfl en25 rfl (fun w' hw => w25_quirref_Deps a0 u0_0 q0_0 u0_2 q0_2 w' _ e23 (hA0_0.cls0 hw) (fun d hd => (hD0_0 d hd).cls0 hw) (hA0_2.cls0 hw) (fun d hd => (hD0_2 d hd).cls0 hw)) ?_
       rintro v22 _ ⟨_, rfl, rfl⟩
       refine L.nil (E.toV2 (stC [[3]] [Cls w [] [.sl v22 60 3 (l21.map TDep.row), .obj b11 [.bool x8.Writes, .bool x8.Flow, .bool x8.Any] 53, .obj b1 [u0_0, u0_2] 47, .sl v5 60 3 (l4.map TDep.row)]] (Cls w [] [.obj b11 [.bool x8.Writes, .bool x8.Flow, .bool x8.Any] 53, .obj b1 [u0_0, u0_2] 47, .sl v5 60 3 (l4.map TDep.row)])) 2 (by kernel_rfl) (Sc.stay (fun _ hw => hw.sel [1, 2, 3] (by decide) rfl) (Sc.stayD (fun _ hw => hw))) (Sc.now (by kernel_rfl) (fun _ hw => hw)) ?_)
       refine V2.eff (i := 3) (by kernel_rfl) rfl ?_
       obtain ⟨b24, e25, h⟩ := bind1S h
       refine L.y rfl (Y.does en24 rfl (fun w' hw => (w24_api_Dep l4 l21 v5 v22 w' _ e25 (As.at_ (hw.get (i := 3) rfl)) (As.at_ (hw.get (i := 0) rfl))).mono (fun _ _ h => h.1))) ?_
       rcases b24 with _ | _
       ·
        replace h := iteF h
        refine L.nil (E.toV2 (stC [] [] (Cls w [] [.obj b11 [.bool x8.Writes, .bool x8.Flow, .bool x8.Any] 53, .obj b1 [u0_0, u0_2] 47, .sl v5 60 3 (l4.map TDep.row)])) 3 (by kernel_rfl) (Sc.past rfl (Sc.stayD (fun _ hw => hw))) (Sc.atD (fun _ hw => hw.sel [1, 2, 3] (by decide) rfl)) ?_)
        refine V2.y (i := 4) (Nx2.of (Z := Cls w [] [.obj b11 [.bool x8.Writes, .bool x8.Flow, .bool x8.Any] 53, .obj b1 [u0_0, u0_2] 47, .sl v5 60 3 (l4.map TDep.row)]) [] (by kernel_rfl) rfl (Zc.fin (fun _ hw => hw))) rfl rfl rfl (Y.move rfl) ?_
        refine V2.pass (i := 5) (Nx2.of (Z := Cls w [] [.obj b11 [.bool x8.Writes, .bool x8.Flow, .bool x8.Any] 53, .obj b1 [u0_0, u0_2] 47, .sl v5 60 3 (l4.map TDep.row)]) [] (by kernel_rfl) rfl (Zc.fin (fun _ hw => hw))) rfl rfl ?_
        refine V2.pass (i := 6) (Nx2.of (Z := Cls w [] [.obj b11 [.bool x8.Writes, .bool x8.Flow, .bool x8.Any] 53, .obj b1 [u0_0, u0_2] 47, .sl v5 60 3 (l4.map TDep.row)]) [] (by kernel_rfl) rfl (Zc.fin (fun _ hw => hw))) rfl rfl ?_
        refine V2.y (i := 7) (Nx2.of (Z := Cls w [] [.obj b11 [.bool x8.Writes, .bool x8.Flow, .bool x8.Any] 53, .obj b1 [u0_0, u0_2] 47, .sl v5 60 3 (l4.map TDep.row)]) [] (by kernel_rfl) rfl (Zc.fin (fun _ hw => hw))) rfl rfl rfl (Y.pickF rfl rfl) ?_
        refine V2.y (i := 8) (Nx2.of (Z := Cls w [] [.obj b11 [.bool x8.Writes, .bool x8.Flow, .bool x8.Any] 53, .obj b1 [u0_0, u0_2] 47, .sl v5 60 3 (l4.map TDep.row)]) [] (by kernel_rfl) rfl (Zc.fin (fun _ hw => hw))) rfl rfl rfl (Y.move rfl) ?_
        refine V2.pass (i := 9) (Nx2.of (Z := Cls w [] [.obj b11 [.bool x8.Writes, .bool x8.Flow, .bool x8.Any] 53, .obj b1 [u0_0, u0_2] 47, .sl v5 60 3 (l4.map TDep.row)]) [] (by kernel_rfl) rfl (Zc.fin (fun _ hw => hw))) rfl rfl ?_
        refine V2.pass (i := 10) (Nx2.of (Z := Cls w [] [.obj b11 [.bool x8.Writes, .bool x8.Flow, .bool x8.Any] 53, .obj b1 [u0_0, u0_2] 47, .sl v5 60 3 (l4.map TDep.row)]) [] (by kernel_rfl) rfl (Zc.fin (fun _ hw => hw))) rfl rfl ?_
        refine V2.pass (i := 11) (Nx2.of (Z := Cls w [] [.obj b11 [.bool x8.Writes, .bool x8.Flow, .bool x8.Any] 53, .obj b1 [u0_0, u0_2] 47, .sl v5 60 3 (l4.map TDep.row)]) [] (by kernel_rfl) rfl (Zc.fin (fun _ hw => hw))) rfl rfl ?_
        refine V2.pass (i := 12) (Nx2.of (Z := Cls w [] [.obj b11 [.bool x8.Writes, .bool x8.Flow, .bool x8.Any] 53, .obj b1 [u0_0, u0_2] 47, .sl v5 60 3 (l4.map TDep.row)]) [] (by kernel_rfl) rfl (Zc.fin (fun _ hw => hw))) rfl rfl ?_
        refine V2.y (i := 13) (Nx2.of (Z := Cls w [] [.obj b11 [.bool x8.Writes, .bool x8.Flow, .bool x8.Any] 53, .obj b1 [u0_0, u0_2] 47, .sl v5 60 3 (l4.map TDep.row)]) [] (by kernel_rfl) rfl (Zc.fin (fun _ hw => hw))) rfl rfl rfl (Y.pickF rfl rfl) ?_
        refine V2.y (i := 14) (Nx2.of (Z := Cls w [] [.obj b11 [.bool x8.Writes, .bool x8.Flow, .bool x8.Any] 53, .obj b1 [u0_0, u0_2] 47, .sl v5 60 3 (l4.map TDep.row)]) [] (by kernel_rfl) rfl (Zc.fin (fun _ hw => hw))) rfl rfl rfl (Y.move rfl) ?_
        refine V2.pass (i := 15) (Nx2.of (Z := Cls w [] [.obj b11 [.bool x8.Writes, .bool x8.Flow, .bool x8.Any] 53, .obj b1 [u0_0, u0_2] 47, .sl v5 60 3 (l4.map TDep.row)]) [] (by kernel_rfl) rfl (Zc.fin (fun _ hw => hw))) rfl rfl ?_
        refine V2.pass (i := 16) (Nx2.of (Z := Cls w [] [.obj b11 [.bool x8.Writes, .bool x8.Flow, .bool x8.Any] 53, .obj b1 [u0_0, u0_2] 47, .sl v5 60 3 (l4.map TDep.row)]) [] (by kernel_rfl) rfl (Zc.fin (fun _ hw => hw))) rfl rfl ?_
        refine V2.y (i := 17) (Nx2.of (Z := Cls w [] [.obj b11 [.bool x8.Writes, .bool x8.Flow, .bool x8.Any] 53, .obj b1 [u0_0, u0_2] 47, .sl v5 60 3 (l4.map TDep.row)]) [] (by kernel_rfl) rfl (Zc.fin (fun _ hw => hw))) rfl rfl rfl (Y.pickF rfl rfl) ?_
        refine V2.y (i := 18) (Nx2.of (Z := Cls w [] [.obj b11 [.bool x8.Writes, .bool x8.Flow, .bool x8.Any] 53, .obj b1 [u0_0, u0_2] 47, .sl v5 60 3 (l4.map TDep.row)]) [] (by kernel_rfl) rfl (Zc.fin (fun _ hw => hw))) rfl rfl rfl (Y.move rfl) ?_
        refine V2.pass (i := 19) (Nx2.of (Z := Cls w [] [.obj b11 [.bool x8.Writes, .bool x8.Flow, .bool x8.Any] 53, .obj b1 [u0_0, u0_2] 47, .sl v5 60 3 (l4.map TDep.row)]) [] (by kernel_rfl) rfl (Zc.fin (fun _ hw => hw))) rfl rfl ?_
        refine V2.y (i := 20) (Nx2.of (Z := Cls w [] [.obj b11 [.bool x8.Writes, .bool x8.Flow, .bool x8.Any] 53, .obj b1 [u0_0, u0_2] 47, .sl v5 60 3 (l4.map TDep.row)]) [] (by kernel_rfl) rfl (Zc.fin (fun _ hw => hw))) rfl rfl rfl (Y.pickF rfl rfl) ?_
        refine V2.y (i := 21) (Nx2.of (Z := Cls w [] [.obj b11 [.bool x8.Writes, .bool x8.Flow, .bool x8.Any] 53, .obj b1 [u0_0, u0_2] 47, .sl v5 60 3 (l4.map TDep.row)]) [] (by kernel_rfl) rfl (Zc.fin (fun _ hw => hw))) rfl rfl rfl (Y.assign rfl) ?_
        refine V2.done (by kernel_rfl) ?_
        refine E.thenN (W.ret (E.ret1 rfl rfl (fun w1 hw => ?_)))
        obtain rfl := Option.some.inj h
        exact ⟨_, _, rfl, ⟨rfl, rfl⟩, hw.sel [] (by decide) rfl⟩
       ·
        replace h := iteT h
        refine L.nil (E.toV2 (stC [] [] (Cls w [] [.obj b11 [.bool x8.Writes, .bool x8.Flow, .bool x8.Any] 53, .obj b1 [u0_0, u0_2] 47, .sl v5 60 3 (l4.map TDep.row)])) 3 (by kernel_rfl) (Sc.past rfl (Sc.stayD (fun _ hw => hw))) (Sc.atD (fun _ hw => hw.sel [1, 2, 3] (by decide) rfl)) ?_)
        refine V2.y (i := 4) (Nx2.of (Z := Cls w [] [.obj b11 [.bool x8.Writes, .bool x8.Flow, .bool x8.Any] 53, .obj b1 [u0_0, u0_2] 47, .sl v5 60 3 (l4.map TDep.row)]) [] (by kernel_rfl) rfl (Zc.fin (fun _ hw => hw))) rfl rfl rfl (Y.move rfl) ?_
        refine V2.y (i := 5) (Nx2.of (Z := Cls w [] [.obj b11 [.bool x8.Writes, .bool x8.Flow, .bool x8.Any] 53, .obj b1 [u0_0, u0_2] 47, .sl v5 60 3 (l4.map TDep.row)]) [] (by kernel_rfl) rfl (Zc.fin (fun _ hw => hw))) rfl rfl rfl (Y.move rfl) ?_
        refine V2.ite (i := 6) h (Nx2.of (Z := Cls w [] [.obj b11 [.bool x8.Writes, .bool x8.Flow, .bool x8.Any] 53, .obj b1 [u0_0, u0_2] 47, .sl v5 60 3 (l4.map TDep.row)]) [] (by kernel_rfl) rfl (Zc.fin (fun _ hw => hw))) rfl rfl rfl (Y.eql rfl rfl) (fun c26 h => ?_) (fun c26 h => ?_)
        ·
         refine V2.y (i := 7) (Nx2.of (Z := Cls w [] [.obj b11 [.bool x8.Writes, .bool x8.Flow, .bool x8.Any] 53, .obj b1 [u0_0, u0_2] 47, .sl v5 60 3 (l4.map TDep.row)]) [] (by kernel_rfl) rfl (Zc.fin (fun _ hw => hw))) rfl rfl rfl (Y.pickT rfl rfl) ?_
         refine V2.y (i := 8) (Nx2.of (Z := Cls w [] [.obj b11 [.bool x8.Writes, .bool x8.Flow, .bool x8.Any] 53, .obj b1 [u0_0, u0_2] 47, .sl v5 60 3 (l4.map TDep.row)]) [] (by kernel_rfl) rfl (Zc.fin (fun _ hw => hw))) rfl rfl rfl (Y.move rfl) ?_
         refine V2.y (i := 9) (Nx2.of (Z := Cls w [] [.obj b11 [.bool x8.Writes, .bool x8.Flow, .bool x8.Any] 53, .obj b1 [u0_0, u0_2] 47, .sl v5 60 3 (l4.map TDep.row)]) [] (by kernel_rfl) rfl (Zc.fin (fun _ hw => hw))) rfl rfl rfl (Y.loadPW (i := 0) ag53 sz53 rfl rfl rfl) ?_
         refine V2.y (i := 10) (Nx2.of (Z := Cls w [] [.obj b11 [.bool x8.Writes, .bool x8.Flow, .bool x8.Any] 53, .obj b1 [u0_0, u0_2] 47, .sl v5 60 3 (l4.map TDep.row)]) [] (by kernel_rfl) rfl (Zc.fin (fun _ hw => hw))) rfl rfl rfl (Y.loadPW (i := 1) ag47 sz47 rfl rfl rfl) ?_
         refine V2.eff (i := 11) (by kernel_rfl) rfl ?_
         refine L.take rfl ?_
         obtain ⟨x27, e28, h⟩ := bind1S h
         refine L.y rfl (Y.does en26 rfl (fun w' hw => (w26_quirref_Faults a0 u0_0 q0_0 u0_2 q0_2 w' _ e28 (hA0_0.cls0 hw) (fun d hd => (hD0_0 d hd).cls0 hw) (hA0_2.cls0 hw) (fun d hd => (hD0_2 d hd).cls0 hw)).mono (fun _ _ h => h.1))) ?_
         refine L.nil (E.toV2 (stC [] [] (Cls w [] [.obj b11 [.bool x8.Writes, .bool x8.Flow, .bool x8.Any] 53, .obj b1 [u0_0, u0_2] 47, .sl v5 60 3 (l4.map TDep.row)])) 11 (by kernel_rfl) (Sc.stayD (fun _ hw => hw)) (Sc.atD (fun _ hw => hw.sel [1, 2, 3] (by decide) rfl)) ?_)
         refine V2.ite (i := 12) h (Nx2.of (Z := Cls w [] [.obj b11 [.bool x8.Writes, .bool x8.Flow, .bool x8.Any] 53, .obj b1 [u0_0, u0_2] 47, .sl v5 60 3 (l4.map TDep.row)]) [] (by kernel_rfl) rfl (Zc.fin (fun _ hw => hw))) rfl rfl rfl (Y.eqlA (row := TFault.row) (a := x8) (b := x27) eg53 ag53 (sh53 _) (sh53 _) (inj53 _ _) rfl rfl) (fun c29 h => ?_) (fun c29 h => ?_)
         ·
          refine V2.y (i := 13) (Nx2.of (Z := Cls w [] [.obj b11 [.bool x8.Writes, .bool x8.Flow, .bool x8.Any] 53, .obj b1 [u0_0, u0_2] 47, .sl v5 60 3 (l4.map TDep.row)]) [] (by kernel_rfl) rfl (Zc.fin (fun _ hw => hw))) rfl rfl rfl (Y.pickT rfl rfl) ?_
          refine V2.y (i := 14) (Nx2.of (Z := Cls w [] [.obj b11 [.bool x8.Writes, .bool x8.Flow, .bool x8.Any] 53, .obj b1 [u0_0, u0_2] 47, .sl v5 60 3 (l4.map TDep.row)]) [] (by kernel_rfl) rfl (Zc.fin (fun _ hw => hw))) rfl rfl rfl (Y.move rfl) ?_
          refine V2.y (i := 15) (Nx2.of (Z := Cls w [] [.obj b11 [.bool x8.Writes, .bool x8.Flow, .bool x8.Any] 53, .obj b1 [u0_0, u0_2] 47, .sl v5 60 3 (l4.map TDep.row)]) [] (by kernel_rfl) rfl (Zc.fin (fun _ hw => hw))) rfl rfl rfl (Y.move rfl) ?_
          refine V2.ite (i := 16) h (Nx2.of (Z := Cls w [] [.obj b11 [.bool x8.Writes, .bool x8.Flow, .bool x8.Any] 53, .obj b1 [u0_0, u0_2] 47, .sl v5 60 3 (l4.map TDep.row)]) [] (by kernel_rfl) rfl (Zc.fin (fun _ hw => hw))) rfl rfl rfl (Y.eql rfl rfl) (fun c30 h => ?_) (fun c30 h => ?_)
          ·
           refine V2.y (i := 17) (Nx2.of (Z := Cls w [] [.obj b11 [.bool x8.Writes, .bool x8.Flow, .bool x8.Any] 53, .obj b1 [u0_0, u0_2] 47, .sl v5 60 3 (l4.map TDep.row)]) [] (by kernel_rfl) rfl (Zc.fin (fun _ hw => hw))) rfl rfl rfl (Y.pickT rfl rfl) ?_
           refine V2.y (i := 18) (Nx2.of (Z := Cls w [] [.obj b11 [.bool x8.Writes, .bool x8.Flow, .bool x8.Any] 53, .obj b1 [u0_0, u0_2] 47, .sl v5 60 3 (l4.map TDep.row)]) [] (by kernel_rfl) rfl (Zc.fin (fun _ hw => hw))) rfl rfl rfl (Y.move rfl) ?_
           refine V2.y (i := 19) (Nx2.of (Z := Cls w [] [.obj b11 [.bool x8.Writes, .bool x8.Flow, .bool x8.Any] 53, .obj b1 [u0_0, u0_2] 47, .sl v5 60 3 (l4.map TDep.row)]) [] (by kernel_rfl) rfl (Zc.fin (fun _ hw => hw))) rfl rfl rfl (Y.move rfl) ?_
           refine V2.y (i := 20) (Nx2.of (Z := Cls w [] [.obj b11 [.bool x8.Writes, .bool x8.Flow, .bool x8.Any] 53, .obj b1 [u0_0, u0_2] 47, .sl v5 60 3 (l4.map TDep.row)]) [] (by kernel_rfl) rfl (Zc.fin (fun _ hw => hw))) rfl rfl rfl (Y.pickT rfl rfl) ?_
           refine V2.y (i := 21) (Nx2.of (Z := Cls w [] [.obj b11 [.bool x8.Writes, .bool x8.Flow, .bool x8.Any] 53, .obj b1 [u0_0, u0_2] 47, .sl v5 60 3 (l4.map TDep.row)]) [] (by kernel_rfl) rfl (Zc.fin (fun _ hw => hw))) rfl rfl rfl (Y.assign rfl) ?_
           refine V2.done (by kernel_rfl) ?_
           refine E.thenN (W.ret (E.ret1 rfl rfl (fun w1 hw => ?_)))
           obtain rfl := Option.some.inj h
           exact ⟨_, _, rfl, ⟨rfl, rfl⟩, hw.sel [] (by decide) rfl⟩
          ·
           refine V2.y (i := 17) (Nx2.of (Z := Cls w [] [.obj b11 [.bool x8.Writes, .bool x8.Flow, .bool x8.Any] 53, .obj b1 [u0_0, u0_2] 47, .sl v5 60 3 (l4.map TDep.row)]) [] (by kernel_rfl) rfl (Zc.fin (fun _ hw => hw))) rfl rfl rfl (Y.pickT rfl rfl) ?_
           refine V2.y (i := 18) (Nx2.of (Z := Cls w [] [.obj b11 [.bool x8.Writes, .bool x8.Flow, .bool x8.Any] 53, .obj b1 [u0_0, u0_2] 47, .sl v5 60 3 (l4.map TDep.row)]) [] (by kernel_rfl) rfl (Zc.fin (fun _ hw => hw))) rfl rfl rfl (Y.move rfl) ?_
           refine V2.pass (i := 19) (Nx2.of (Z := Cls w [] [.obj b11 [.bool x8.Writes, .bool x8.Flow, .bool x8.Any] 53, .obj b1 [u0_0, u0_2] 47, .sl v5 60 3 (l4.map TDep.row)]) [] (by kernel_rfl) rfl (Zc.fin (fun _ hw => hw))) rfl rfl ?_
           refine V2.y (i := 20) (Nx2.of (Z := Cls w [] [.obj b11 [.bool x8.Writes, .bool x8.Flow, .bool x8.Any] 53, .obj b1 [u0_0, u0_2] 47, .sl v5 60 3 (l4.map TDep.row)]) [] (by kernel_rfl) rfl (Zc.fin (fun _ hw => hw))) rfl rfl rfl (Y.pickF rfl rfl) ?_
           refine V2.y (i := 21) (Nx2.of (Z := Cls w [] [.obj b11 [.bool x8.Writes, .bool x8.Flow, .bool x8.Any] 53, .obj b1 [u0_0, u0_2] 47, .sl v5 60 3 (l4.map TDep.row)]) [] (by kernel_rfl) rfl (Zc.fin (fun _ hw => hw))) rfl rfl rfl (Y.assign rfl) ?_
           refine V2.done (by kernel_rfl) ?_
           refine E.thenN (W.ret (E.ret1 rfl rfl (fun w1 hw => ?_)))
           obtain rfl := Option.some.inj h
           exact ⟨_, _, rfl, ⟨rfl, rfl⟩, hw.sel [] (by decide) rfl⟩
         ·
          refine V2.y (i := 13) (Nx2.of (Z := Cls w [] [.obj b11 [.bool x8.Writes, .bool x8.Flow, .bool x8.Any] 53, .obj b1 [u0_0, u0_2] 47, .sl v5 60 3 (l4.map TDep.row)]) [] (by kernel_rfl) rfl (Zc.fin (fun _ hw => hw))) rfl rfl rfl (Y.pickT rfl rfl) ?_
          refine V2.y (i := 14) (Nx2.of (Z := Cls w [] [.obj b11 [.bool x8.Writes, .bool x8.Flow, .bool x8.Any] 53, .obj b1 [u0_0, u0_2] 47, .sl v5 60 3 (l4.map TDep.row)]) [] (by kernel_rfl) rfl (Zc.fin (fun _ hw => hw))) rfl rfl rfl (Y.move rfl) ?_
          refine V2.pass (i := 15) (Nx2.of (Z := Cls w [] [.obj b11 [.bool x8.Writes, .bool x8.Flow, .bool x8.Any] 53, .obj b1 [u0_0, u0_2] 47, .sl v5 60 3 (l4.map TDep.row)]) [] (by kernel_rfl) rfl (Zc.fin (fun _ hw => hw))) rfl rfl ?_
          refine V2.pass (i := 16) (Nx2.of (Z := Cls w [] [.obj b11 [.bool x8.Writes, .bool x8.Flow, .bool x8.Any] 53, .obj b1 [u0_0, u0_2] 47, .sl v5 60 3 (l4.map TDep.row)]) [] (by kernel_rfl) rfl (Zc.fin (fun _ hw => hw))) rfl rfl ?_
          refine V2.y (i := 17) (Nx2.of (Z := Cls w [] [.obj b11 [.bool x8.Writes, .bool x8.Flow, .bool x8.Any] 53, .obj b1 [u0_0, u0_2] 47, .sl v5 60 3 (l4.map TDep.row)]) [] (by kernel_rfl) rfl (Zc.fin (fun _ hw => hw))) rfl rfl rfl (Y.pickF rfl rfl) ?_
          refine V2.y (i := 18) (Nx2.of (Z := Cls w [] [.obj b11 [.bool x8.Writes, .bool x8.Flow, .bool x8.Any] 53, .obj b1 [u0_0, u0_2] 47, .sl v5 60 3 (l4.map TDep.row)]) [] (by kernel_rfl) rfl (Zc.fin (fun _ hw => hw))) rfl rfl rfl (Y.move rfl) ?_
          refine V2.pass (i := 19) (Nx2.of (Z := Cls w [] [.obj b11 [.bool x8.Writes, .bool x8.Flow, .bool x8.Any] 53, .obj b1 [u0_0, u0_2] 47, .sl v5 60 3 (l4.map TDep.row)]) [] (by kernel_rfl) rfl (Zc.fin (fun _ hw => hw))) rfl rfl ?_
          refine V2.y (i := 20) (Nx2.of (Z := Cls w [] [.obj b11 [.bool x8.Writes, .bool x8.Flow, .bool x8.Any] 53, .obj b1 [u0_0, u0_2] 47, .sl v5 60 3 (l4.map TDep.row)]) [] (by kernel_rfl) rfl (Zc.fin (fun _ hw => hw))) rfl rfl rfl (Y.pickF rfl rfl) ?_
          refine V2.y (i := 21) (Nx2.of (Z := Cls w [] [.obj b11 [.bool x8.Writes, .bool x8.Flow, .bool x8.Any] 53, .obj b1 [u0_0, u0_2] 47, .sl v5 60 3 (l4.map TDep.row)]) [] (by kernel_rfl) rfl (Zc.fin (fun _ hw => hw))) rfl rfl rfl (Y.assign rfl) ?_
          refine V2.done (by kernel_rfl) ?_
          refine E.thenN (W.ret (E.ret1 rfl rfl (fun w1 hw => ?_)))
          obtain rfl := Option.some.inj h
          exact ⟨_, _, rfl, ⟨rfl, rfl⟩, hw.sel [] (by decide) rfl⟩
        ·
         refine V2.y (i := 7) (Nx2.of (Z := Cls w [] [.obj b11 [.bool x8.Writes, .bool x8.Flow, .bool x8.Any] 53, .obj b1 [u0_0, u0_2] 47, .sl v5 60 3 (l4.map TDep.row)]) [] (by kernel_rfl) rfl (Zc.fin (fun _ hw => hw))) rfl rfl rfl (Y.pickT rfl rfl) ?_
         refine V2.y (i := 8) (Nx2.of (Z := Cls w [] [.obj b11 [.bool x8.Writes, .bool x8.Flow, .bool x8.Any] 53, .obj b1 [u0_0, u0_2] 47, .sl v5 60 3 (l4.map TDep.row)]) [] (by kernel_rfl) rfl (Zc.fin (fun _ hw => hw))) rfl rfl rfl (Y.move rfl) ?_
         refine V2.pass (i := 9) (Nx2.of (Z := Cls w [] [.obj b11 [.bool x8.Writes, .bool x8.Flow, .bool x8.Any] 53, .obj b1 [u0_0, u0_2] 47, .sl v5 60 3 (l4.map TDep.row)]) [] (by kernel_rfl) rfl (Zc.fin (fun _ hw => hw))) rfl rfl ?_
         refine V2.pass (i := 10) (Nx2.of (Z := Cls w [] [.obj b11 [.bool x8.Writes, .bool x8.Flow, .bool x8.Any] 53, .obj b1 [u0_0, u0_2] 47, .sl v5 60 3 (l4.map TDep.row)]) [] (by kernel_rfl) rfl (Zc.fin (fun _ hw => hw))) rfl rfl ?_
         refine V2.pass (i := 11) (Nx2.of (Z := Cls w [] [.obj b11 [.bool x8.Writes, .bool x8.Flow, .bool x8.Any] 53, .obj b1 [u0_0, u0_2] 47, .sl v5 60 3 (l4.map TDep.row)]) [] (by kernel_rfl) rfl (Zc.fin (fun _ hw => hw))) rfl rfl ?_
         refine V2.pass (i := 12) (Nx2.of (Z := Cls w [] [.obj b11 [.bool x8.Writes, .bool x8.Flow, .bool x8.Any] 53, .obj b1 [u0_0, u0_2] 47, .sl v5 60 3 (l4.map TDep.row)]) [] (by kernel_rfl) rfl (Zc.fin (fun _ hw => hw))) rfl rfl ?_
         refine V2.y (i := 13) (Nx2.of (Z := Cls w [] [.obj b11 [.bool x8.Writes, .bool x8.Flow, .bool x8.Any] 53, .obj b1 [u0_0, u0_2] 47, .sl v5 60 3 (l4.map TDep.row)]) [] (by kernel_rfl) rfl (Zc.fin (fun _ hw => hw))) rfl rfl rfl (Y.pickF rfl rfl) ?_
         refine V2.y (i := 14) (Nx2.of (Z := Cls w [] [.obj b11 [.bool x8.Writes, .bool x8.Flow, .bool x8.Any] 53, .obj b1 [u0_0, u0_2] 47, .sl v5 60 3 (l4.map TDep.row)]) [] (by kernel_rfl) rfl (Zc.fin (fun _ hw => hw))) rfl rfl rfl (Y.move rfl) ?_
         refine V2.pass (i := 15) (Nx2.of (Z := Cls w [] [.obj b11 [.bool x8.Writes, .bool x8.Flow, .bool x8.Any] 53, .obj b1 [u0_0, u0_2] 47, .sl v5 60 3 (l4.map TDep.row)]) [] (by kernel_rfl) rfl (Zc.fin (fun _ hw => hw))) rfl rfl ?_
         refine V2.pass (i := 16) (Nx2.of (Z := Cls w [] [.obj b11 [.bool x8.Writes, .bool x8.Flow, .bool x8.Any] 53, .obj b1 [u0_0, u0_2] 47, .sl v5 60 3 (l4.map TDep.row)]) [] (by kernel_rfl) rfl (Zc.fin (fun _ hw => hw))) rfl rfl ?_
         refine V2.y (i := 17) (Nx2.of (Z := Cls w [] [.obj b11 [.bool x8.Writes, .bool x8.Flow, .bool x8.Any] 53, .obj b1 [u0_0, u0_2] 47, .sl v5 60 3 (l4.map TDep.row)]) [] (by kernel_rfl) rfl (Zc.fin (fun _ hw => hw))) rfl rfl rfl (Y.pickF rfl rfl) ?_
         refine V2.y (i := 18) (Nx2.of (Z := Cls w [] [.obj b11 [.bool x8.Writes, .bool x8.Flow, .bool x8.Any] 53, .obj b1 [u0_0, u0_2] 47, .sl v5 60 3 (l4.map TDep.row)]) [] (by kernel_rfl) rfl (Zc.fin (fun _ hw => hw))) rfl rfl rfl (Y.move rfl) ?_
         refine V2.pass (i := 19) (Nx2.of (Z := Cls w [] [.obj b11 [.bool x8.Writes, .bool x8.Flow, .bool x8.Any] 53, .obj b1 [u0_0, u0_2] 47, .sl v5 60 3 (l4.map TDep.row)]) [] (by kernel_rfl) rfl (Zc.fin (fun _ hw => hw))) rfl rfl ?_
         refine V2.y (i := 20) (Nx2.of (Z := Cls w [] [.obj b11 [.bool x8.Writes, .bool x8.Flow, .bool x8.Any] 53, .obj b1 [u0_0, u0_2] 47, .sl v5 60 3 (l4.map TDep.row)]) [] (by kernel_rfl) rfl (Zc.fin (fun _ hw => hw))) rfl rfl rfl (Y.pickF rfl rfl) ?_
         refine V2.y (i := 21) (Nx2.of (Z := Cls w [] [.obj b11 [.bool x8.Writes, .bool x8.Flow, .bool x8.Any] 53, .obj b1 [u0_0, u0_2] 47, .sl v5 60 3 (l4.map TDep.row)]) [] (by kernel_rfl) rfl (Zc.fin (fun _ hw => hw))) rfl rfl rfl (Y.assign rfl) ?_
         refine V2.done (by kernel_rfl) ?_
         refine E.thenN (W.ret (E.ret1 rfl rfl (fun w1 hw => ?_)))
         obtain rfl := Option.some.inj h
         exact ⟨_, _, rfl, ⟨rfl, rfl⟩, hw.sel [] (by decide) rfl⟩
     ·
      replace h := iteT h
      refine W.seqJ (fun gs D => ∃ (gb5 : Bool), gs = [(1, pt b1 0), (4, v5), (5, .int .i64 x6), (6, pt b11 0), (7, .int .i64 x9), (12, .bool gb5)] ∧ D = Cls w [] [.obj b11 [.bool x8.Writes, .bool x8.Flow, .bool x8.Any] 53, .obj b1 [u0_0, u0_2] 47, .sl v5 60 3 (l4.map TDep.row)] ∧ m4_quirlaw_OrderSays_K5 a0 l4 x6 x8 x9 gb5 = some r) ?_ ?_
      ·
       refine W.region (L.cutJ 10 (fun gs D => ∃ (gb6 : Bool), gs = [(1, pt b1 0), (4, v5), (5, .int .i64 x6), (6, pt b11 0), (7, .int .i64 x9), (8, v13), (9, .int .i64 x14), (11, .bool true), (78, .bool gb6)] ∧ D = Cls w [] [.obj b11 [.bool x8.Writes, .bool x8.Flow, .bool x8.Any] 53, .obj b1 [u0_0, u0_2] 47, .sl v5 60 3 (l4.map TDep.row), .sl v13 3 1 (l12.map I)] ∧ m4_quirlaw_OrderSays_K6 a0 l4 x6 x8 x9 gb6 = some r) ?_ ?_)
       ·
        refine L.y rfl (Y.move rfl) ?_
        refine L.y rfl (Y.move rfl) ?_
        refine L.take rfl (L.y rfl (Y.move rfl) ?_)
        refine L.take rfl (L.y rfl (Y.move rfl) ?_)
        refine L.take rfl ?_
        obtain ⟨b47, e48, h⟩ := bind1S h
        refine L.y rfl (Y.does en14 rfl (fun w' hw => (w14_slices_Equal_int l12 gl2 v13 gv1 w' _ e48 (As.at_ (hw.get (i := 3) rfl)) (As.at_ (hw.get (i := 4) rfl))).mono (fun _ _ h => h.1))) ?_
        rcases b47 with _ | _
        ·
         replace h := iteF h
         refine L.y rfl (Y.pickT rfl rfl) ?_
         refine L.y rfl (Y.move rfl) ?_
         refine L.pass rfl rfl (by nofun) ?_
         refine L.pass rfl rfl (by nofun) ?_
         refine L.y rfl (Y.pickF rfl rfl) ?_
         exact L.nil (E.joinJ ⟨false, rfl, rfl, h⟩ ⟨rfl, rfl, rfl, rfl, rfl, rfl, rfl, rfl, rfl, trivial⟩ (fun _ hw => hw.sel [0, 1, 2, 3] (by decide) rfl))
        ·
         replace h := iteT h
         refine L.y rfl (Y.pickT rfl rfl) ?_
         refine L.y rfl (Y.move rfl) ?_
         refine L.take rfl (L.y rfl (Y.move rfl) ?_)
         refine L.take rfl (L.ite h rfl (Y.eql rfl rfl) (fun c49 h => ?_) (fun c49 h => ?_))
         ·
          refine L.y rfl (Y.pickT rfl rfl) ?_
          exact L.nil (E.joinJ ⟨true, rfl, rfl, h⟩ ⟨rfl, rfl, rfl, rfl, rfl, rfl, rfl, rfl, rfl, trivial⟩ (fun _ hw => hw.sel [0, 1, 2, 3] (by decide) rfl))
         ·
          refine L.y rfl (Y.pickT rfl rfl) ?_
          exact L.nil (E.joinJ ⟨false, rfl, rfl, h⟩ ⟨rfl, rfl, rfl, rfl, rfl, rfl, rfl, rfl, rfl, trivial⟩ (fun _ hw => hw.sel [0, 1, 2, 3] (by decide) rfl))
       ·
        rintro _ _ ⟨gb6, rfl, rfl, h⟩
        rw [m4_quirlaw_OrderSays_K6] at h
        rcases gb6 with _ | _
        ·
         replace h := iteF h
         refine L.y rfl (Y.move rfl) ?_
         refine L.take rfl (L.y rfl (Y.move rfl) ?_)
         refine L.take rfl (L.y rfl (Y.not rfl) ?_)
         refine L.take rfl (L.y rfl (Y.move rfl) ?_)
         refine L.pass rfl rfl (by nofun) ?_
         refine L.pass rfl rfl (by nofun) ?_
         refine L.pass rfl rfl (by nofun) ?_
         refine L.take rfl (L.y rfl (Y.pickF rfl rfl) ?_)
         refine L.take rfl (L.y rfl (Y.move rfl) ?_)
         refine L.pass rfl rfl (by nofun) ?_
         refine L.pass rfl rfl (by nofun) ?_
         refine L.take rfl (L.y rfl (Y.pickF rfl rfl) ?_)
         refine L.y rfl (Y.pickF rfl rfl) ?_
         refine L.y rfl (Y.assign rfl) ?_
         exact L.nil (E.joinJ ⟨false, rfl, rfl, h⟩ ⟨rfl, rfl, rfl, rfl, rfl, rfl, trivial⟩ (fun _ hw => hw.sel [0, 1, 2] (by decide) rfl))
        ·
         replace h := iteT h
         refine L.y rfl (Y.move rfl) ?_
         refine L.pass rfl rfl (by nofun) ?_
         refine L.pass rfl rfl (by nofun) ?_
         refine L.pass rfl rfl (by nofun) ?_
         refine L.pass rfl rfl (by nofun) ?_
         refine L.pass rfl rfl (by nofun) ?_
         refine L.pass rfl rfl (by nofun) ?_
         refine L.pass rfl rfl (by nofun) ?_
         refine L.pass rfl rfl (by nofun) ?_
         refine L.pass rfl rfl (by nofun) ?_
         refine L.pass rfl rfl (by nofun) ?_
         refine L.pass rfl rfl (by nofun) ?_
         refine L.y rfl (Y.pickT rfl rfl) ?_
         refine L.y rfl (Y.assign rfl) ?_
         exact L.nil (E.joinJ ⟨true, rfl, rfl, h⟩ ⟨rfl, rfl, rfl, rfl, rfl, rfl, trivial⟩ (fun _ hw => hw.sel [0, 1, 2] (by decide) rfl))
      ·
       rintro _ _ ⟨gb5, rfl, rfl, h⟩
       rw [m4_quirlaw_OrderSays_K5] at h
       refine W.seq (W.drawn2 (k := 22) (stC [[3]] [Cls w [] [.obj b11 [.bool x8.Writes, .bool x8.Flow, .bool x8.Any] 53, .obj b1 [u0_0, u0_2] 47, .sl v5 60 3 (l4.map TDep.row)]] (Cls w [] [.obj b11 [.bool x8.Writes, .bool x8.Flow, .bool x8.Any] 53, .obj b1 [u0_0, u0_2] 47, .sl v5 60 3 (l4.map TDep.row)])) rfl mixed (fun _ hw => hw.drew) (Sc.now (by kernel_rfl) (fun _ hw => hw)) ?_)
       refine V2.y (i := 0) (Nx2.of (Z := Cls w [] [.obj b11 [.bool x8.Writes, .bool x8.Flow, .bool x8.Any] 53, .obj b1 [u0_0, u0_2] 47, .sl v5 60 3 (l4.map TDep.row)]) [] (by kernel_rfl) rfl (Zc.on (fun _ hw => hw) (Zc.fin (fun _ hw => hw)))) rfl rfl rfl (Y.move rfl) ?_
       refine V2.y (i := 1) (Nx2.of (Z := Cls w [] [.obj b11 [.bool x8.Writes, .bool x8.Flow, .bool x8.Any] 53, .obj b1 [u0_0, u0_2] 47, .sl v5 60 3 (l4.map TDep.row)]) [] (by kernel_rfl) rfl (Zc.on (fun _ hw => hw) (Zc.fin (fun _ hw => hw)))) rfl rfl rfl (Y.loadPW (i := 1) ag47 sz47 rfl rfl rfl) ?_
       refine V2.eff (i := 2) (by kernel_rfl) rfl ?_
       obtain ⟨l37, e39, h⟩ := bind1S h
       refine L.does rfl en25 rfl (fun w' hw => w25_quirref_Deps a0 u0_0 q0_0 u0_2 q0_2 w' _ e39 (hA0_0.cls0 hw) (fun d hd => (hD0_0 d hd).cls0 hw) (hA0_2.cls0 hw) (fun d hd => (hD0_2 d hd).cls0 hw)) ?_
       rintro v38 _ ⟨_, rfl, rfl⟩
       refine L.nil (E.toV2 (stC [[3]] [Cls w [] [.sl v38 60 3 (l37.map TDep.row), .obj b11 [.bool x8.Writes, .bool x8.Flow, .bool x8.Any] 53, .obj b1 [u0_0, u0_2] 47, .sl v5 60 3 (l4.map TDep.row)]] (Cls w [] [.obj b11 [.bool x8.Writes, .bool x8.Flow, .bool x8.Any] 53, .obj b1 [u0_0, u0_2] 47, .sl v5 60 3 (l4.map TDep.row)])) 2 (by kernel_rfl) (Sc.stay (fun _ hw => hw.sel [1, 2, 3] (by decide) rfl) (Sc.stayD (fun _ hw => hw))) (Sc.now (by kernel_rfl) (fun _ hw => hw)) ?_)
       refine V2.eff (i := 3) (by kernel_rfl) rfl ?_
       obtain ⟨b40, e41, h⟩ := bind1S h
       refine L.y rfl (Y.does en24 rfl (fun w' hw => (w24_api_Dep l4 l37 v5 v38 w' _ e41 (As.at_ (hw.get (i := 3) rfl)) (As.at_ (hw.get (i := 0) rfl))).mono (fun _ _ h => h.1))) ?_
       rcases b40 with _ | _
       ·
        replace h := iteF h
        refine L.nil (E.toV2 (stC [] [] (Cls w [] [.obj b11 [.bool x8.Writes, .bool x8.Flow, .bool x8.Any] 53, .obj b1 [u0_0, u0_2] 47, .sl v5 60 3 (l4.map TDep.row)])) 3 (by kernel_rfl) (Sc.past rfl (Sc.stayD (fun _ hw => hw))) (Sc.atD (fun _ hw => hw.sel [1, 2, 3] (by decide) rfl)) ?_)
        refine V2.y (i := 4) (Nx2.of (Z := Cls w [] [.obj b11 [.bool x8.Writes, .bool x8.Flow, .bool x8.Any] 53, .obj b1 [u0_0, u0_2] 47, .sl v5 60 3 (l4.map TDep.row)]) [] (by kernel_rfl) rfl (Zc.fin (fun _ hw => hw))) rfl rfl rfl (Y.move rfl) ?_
        refine V2.pass (i := 5) (Nx2.of (Z := Cls w [] [.obj b11 [.bool x8.Writes, .bool x8.Flow, .bool x8.Any] 53, .obj b1 [u0_0, u0_2] 47, .sl v5 60 3 (l4.map TDep.row)]) [] (by kernel_rfl) rfl (Zc.fin (fun _ hw => hw))) rfl rfl ?_
        refine V2.pass (i := 6) (Nx2.of (Z := Cls w [] [.obj b11 [.bool x8.Writes, .bool x8.Flow, .bool x8.Any] 53, .obj b1 [u0_0, u0_2] 47, .sl v5 60 3 (l4.map TDep.row)]) [] (by kernel_rfl) rfl (Zc.fin (fun _ hw => hw))) rfl rfl ?_
        refine V2.y (i := 7) (Nx2.of (Z := Cls w [] [.obj b11 [.bool x8.Writes, .bool x8.Flow, .bool x8.Any] 53, .obj b1 [u0_0, u0_2] 47, .sl v5 60 3 (l4.map TDep.row)]) [] (by kernel_rfl) rfl (Zc.fin (fun _ hw => hw))) rfl rfl rfl (Y.pickF rfl rfl) ?_
        refine V2.y (i := 8) (Nx2.of (Z := Cls w [] [.obj b11 [.bool x8.Writes, .bool x8.Flow, .bool x8.Any] 53, .obj b1 [u0_0, u0_2] 47, .sl v5 60 3 (l4.map TDep.row)]) [] (by kernel_rfl) rfl (Zc.fin (fun _ hw => hw))) rfl rfl rfl (Y.move rfl) ?_
        refine V2.pass (i := 9) (Nx2.of (Z := Cls w [] [.obj b11 [.bool x8.Writes, .bool x8.Flow, .bool x8.Any] 53, .obj b1 [u0_0, u0_2] 47, .sl v5 60 3 (l4.map TDep.row)]) [] (by kernel_rfl) rfl (Zc.fin (fun _ hw => hw))) rfl rfl ?_
        refine V2.pass (i := 10) (Nx2.of (Z := Cls w [] [.obj b11 [.bool x8.Writes, .bool x8.Flow, .bool x8.Any] 53, .obj b1 [u0_0, u0_2] 47, .sl v5 60 3 (l4.map TDep.row)]) [] (by kernel_rfl) rfl (Zc.fin (fun _ hw => hw))) rfl rfl ?_
        refine V2.pass (i := 11) (Nx2.of (Z := Cls w [] [.obj b11 [.bool x8.Writes, .bool x8.Flow, .bool x8.Any] 53, .obj b1 [u0_0, u0_2] 47, .sl v5 60 3 (l4.map TDep.row)]) [] (by kernel_rfl) rfl (Zc.fin (fun _ hw => hw))) rfl rfl ?_
        refine V2.pass (i := 12) (Nx2.of (Z := Cls w [] [.obj b11 [.bool x8.Writes, .bool x8.Flow, .bool x8.Any] 53, .obj b1 [u0_0, u0_2] 47, .sl v5 60 3 (l4.map TDep.row)]) [] (by kernel_rfl) rfl (Zc.fin (fun _ hw => hw))) rfl rfl ?_
        refine V2.y (i := 13) (Nx2.of (Z := Cls w [] [.obj b11 [.bool x8.Writes, .bool x8.Flow, .bool x8.Any] 53, .obj b1 [u0_0, u0_2] 47, .sl v5 60 3 (l4.map TDep.row)]) [] (by kernel_rfl) rfl (Zc.fin (fun _ hw => hw))) rfl rfl rfl (Y.pickF rfl rfl) ?_
        refine V2.y (i := 14) (Nx2.of (Z := Cls w [] [.obj b11 [.bool x8.Writes, .bool x8.Flow, .bool x8.Any] 53, .obj b1 [u0_0, u0_2] 47, .sl v5 60 3 (l4.map TDep.row)]) [] (by kernel_rfl) rfl (Zc.fin (fun _ hw => hw))) rfl rfl rfl (Y.move rfl) ?_
        refine V2.pass (i := 15) (Nx2.of (Z := Cls w [] [.obj b11 [.bool x8.Writes, .bool x8.Flow, .bool x8.Any] 53, .obj b1 [u0_0, u0_2] 47, .sl v5 60 3 (l4.map TDep.row)]) [] (by kernel_rfl) rfl (Zc.fin (fun _ hw => hw))) rfl rfl ?_
        refine V2.pass (i := 16) (Nx2.of (Z := Cls w [] [.obj b11 [.bool x8.Writes, .bool x8.Flow, .bool x8.Any] 53, .obj b1 [u0_0, u0_2] 47, .sl v5 60 3 (l4.map TDep.row)]) [] (by kernel_rfl) rfl (Zc.fin (fun _ hw => hw))) rfl rfl ?_
        refine V2.y (i := 17) (Nx2.of (Z := Cls w [] [.obj b11 [.bool x8.Writes, .bool x8.Flow, .bool x8.Any] 53, .obj b1 [u0_0, u0_2] 47, .sl v5 60 3 (l4.map TDep.row)]) [] (by kernel_rfl) rfl (Zc.fin (fun _ hw => hw))) rfl rfl rfl (Y.pickF rfl rfl) ?_
        refine V2.y (i := 18) (Nx2.of (Z := Cls w [] [.obj b11 [.bool x8.Writes, .bool x8.Flow, .bool x8.Any] 53, .obj b1 [u0_0, u0_2] 47, .sl v5 60 3 (l4.map TDep.row)]) [] (by kernel_rfl) rfl (Zc.fin (fun _ hw => hw))) rfl rfl rfl (Y.move rfl) ?_
        refine V2.pass (i := 19) (Nx2.of (Z := Cls w [] [.obj b11 [.bool x8.Writes, .bool x8.Flow, .bool x8.Any] 53, .obj b1 [u0_0, u0_2] 47, .sl v5 60 3 (l4.map TDep.row)]) [] (by kernel_rfl) rfl (Zc.fin (fun _ hw => hw))) rfl rfl ?_
        refine V2.y (i := 20) (Nx2.of (Z := Cls w [] [.obj b11 [.bool x8.Writes, .bool x8.Flow, .bool x8.Any] 53, .obj b1 [u0_0, u0_2] 47, .sl v5 60 3 (l4.map TDep.row)]) [] (by kernel_rfl) rfl (Zc.fin (fun _ hw => hw))) rfl rfl rfl (Y.pickF rfl rfl) ?_
        refine V2.y (i := 21) (Nx2.of (Z := Cls w [] [.obj b11 [.bool x8.Writes, .bool x8.Flow, .bool x8.Any] 53, .obj b1 [u0_0, u0_2] 47, .sl v5 60 3 (l4.map TDep.row)]) [] (by kernel_rfl) rfl (Zc.fin (fun _ hw => hw))) rfl rfl rfl (Y.assign rfl) ?_
        refine V2.done (by kernel_rfl) ?_
        refine E.thenN (W.ret (E.ret1 rfl rfl (fun w1 hw => ?_)))
        obtain rfl := Option.some.inj h
        exact ⟨_, _, rfl, ⟨rfl, rfl⟩, hw.sel [] (by decide) rfl⟩
       ·
        replace h := iteT h
        refine L.nil (E.toV2 (stC [] [] (Cls w [] [.obj b11 [.bool x8.Writes, .bool x8.Flow, .bool x8.Any] 53, .obj b1 [u0_0, u0_2] 47, .sl v5 60 3 (l4.map TDep.row)])) 3 (by kernel_rfl) (Sc.past rfl (Sc.stayD (fun _ hw => hw))) (Sc.atD (fun _ hw => hw.sel [1, 2, 3] (by decide) rfl)) ?_)
        refine V2.y (i := 4) (Nx2.of (Z := Cls w [] [.obj b11 [.bool x8.Writes, .bool x8.Flow, .bool x8.Any] 53, .obj b1 [u0_0, u0_2] 47, .sl v5 60 3 (l4.map TDep.row)]) [] (by kernel_rfl) rfl (Zc.fin (fun _ hw => hw))) rfl rfl rfl (Y.move rfl) ?_
        refine V2.y (i := 5) (Nx2.of (Z := Cls w [] [.obj b11 [.bool x8.Writes, .bool x8.Flow, .bool x8.Any] 53, .obj b1 [u0_0, u0_2] 47, .sl v5 60 3 (l4.map TDep.row)]) [] (by kernel_rfl) rfl (Zc.fin (fun _ hw => hw))) rfl rfl rfl (Y.move rfl) ?_
        refine V2.ite (i := 6) h (Nx2.of (Z := Cls w [] [.obj b11 [.bool x8.Writes, .bool x8.Flow, .bool x8.Any] 53, .obj b1 [u0_0, u0_2] 47, .sl v5 60 3 (l4.map TDep.row)]) [] (by kernel_rfl) rfl (Zc.fin (fun _ hw => hw))) rfl rfl rfl (Y.eql rfl rfl) (fun c42 h => ?_) (fun c42 h => ?_)
        ·
         refine V2.y (i := 7) (Nx2.of (Z := Cls w [] [.obj b11 [.bool x8.Writes, .bool x8.Flow, .bool x8.Any] 53, .obj b1 [u0_0, u0_2] 47, .sl v5 60 3 (l4.map TDep.row)]) [] (by kernel_rfl) rfl (Zc.fin (fun _ hw => hw))) rfl rfl rfl (Y.pickT rfl rfl) ?_
         refine V2.y (i := 8) (Nx2.of (Z := Cls w [] [.obj b11 [.bool x8.Writes, .bool x8.Flow, .bool x8.Any] 53, .obj b1 [u0_0, u0_2] 47, .sl v5 60 3 (l4.map TDep.row)]) [] (by kernel_rfl) rfl (Zc.fin (fun _ hw => hw))) rfl rfl rfl (Y.move rfl) ?_
         refine V2.y (i := 9) (Nx2.of (Z := Cls w [] [.obj b11 [.bool x8.Writes, .bool x8.Flow, .bool x8.Any] 53, .obj b1 [u0_0, u0_2] 47, .sl v5 60 3 (l4.map TDep.row)]) [] (by kernel_rfl) rfl (Zc.fin (fun _ hw => hw))) rfl rfl rfl (Y.loadPW (i := 0) ag53 sz53 rfl rfl rfl) ?_
         refine V2.y (i := 10) (Nx2.of (Z := Cls w [] [.obj b11 [.bool x8.Writes, .bool x8.Flow, .bool x8.Any] 53, .obj b1 [u0_0, u0_2] 47, .sl v5 60 3 (l4.map TDep.row)]) [] (by kernel_rfl) rfl (Zc.fin (fun _ hw => hw))) rfl rfl rfl (Y.loadPW (i := 1) ag47 sz47 rfl rfl rfl) ?_
         refine V2.eff (i := 11) (by kernel_rfl) rfl ?_
         refine L.take rfl ?_
         obtain ⟨x43, e44, h⟩ := bind1S h
         refine L.y rfl (Y.does en26 rfl (fun w' hw => (w26_quirref_Faults a0 u0_0 q0_0 u0_2 q0_2 w' _ e44 (hA0_0.cls0 hw) (fun d hd => (hD0_0 d hd).cls0 hw) (hA0_2.cls0 hw) (fun d hd => (hD0_2 d hd).cls0 hw)).mono (fun _ _ h => h.1))) ?_
         refine L.nil (E.toV2 (stC [] [] (Cls w [] [.obj b11 [.bool x8.Writes, .bool x8.Flow, .bool x8.Any] 53, .obj b1 [u0_0, u0_2] 47, .sl v5 60 3 (l4.map TDep.row)])) 11 (by kernel_rfl) (Sc.stayD (fun _ hw => hw)) (Sc.atD (fun _ hw => hw.sel [1, 2, 3] (by decide) rfl)) ?_)
         refine V2.ite (i := 12) h (Nx2.of (Z := Cls w [] [.obj b11 [.bool x8.Writes, .bool x8.Flow, .bool x8.Any] 53, .obj b1 [u0_0, u0_2] 47, .sl v5 60 3 (l4.map TDep.row)]) [] (by kernel_rfl) rfl (Zc.fin (fun _ hw => hw))) rfl rfl rfl (Y.eqlA (row := TFault.row) (a := x8) (b := x43) eg53 ag53 (sh53 _) (sh53 _) (inj53 _ _) rfl rfl) (fun c45 h => ?_) (fun c45 h => ?_)
         ·
          refine V2.y (i := 13) (Nx2.of (Z := Cls w [] [.obj b11 [.bool x8.Writes, .bool x8.Flow, .bool x8.Any] 53, .obj b1 [u0_0, u0_2] 47, .sl v5 60 3 (l4.map TDep.row)]) [] (by kernel_rfl) rfl (Zc.fin (fun _ hw => hw))) rfl rfl rfl (Y.pickT rfl rfl) ?_
          refine V2.y (i := 14) (Nx2.of (Z := Cls w [] [.obj b11 [.bool x8.Writes, .bool x8.Flow, .bool x8.Any] 53, .obj b1 [u0_0, u0_2] 47, .sl v5 60 3 (l4.map TDep.row)]) [] (by kernel_rfl) rfl (Zc.fin (fun _ hw => hw))) rfl rfl rfl (Y.move rfl) ?_
          refine V2.y (i := 15) (Nx2.of (Z := Cls w [] [.obj b11 [.bool x8.Writes, .bool x8.Flow, .bool x8.Any] 53, .obj b1 [u0_0, u0_2] 47, .sl v5 60 3 (l4.map TDep.row)]) [] (by kernel_rfl) rfl (Zc.fin (fun _ hw => hw))) rfl rfl rfl (Y.move rfl) ?_
          refine V2.ite (i := 16) h (Nx2.of (Z := Cls w [] [.obj b11 [.bool x8.Writes, .bool x8.Flow, .bool x8.Any] 53, .obj b1 [u0_0, u0_2] 47, .sl v5 60 3 (l4.map TDep.row)]) [] (by kernel_rfl) rfl (Zc.fin (fun _ hw => hw))) rfl rfl rfl (Y.eql rfl rfl) (fun c46 h => ?_) (fun c46 h => ?_)
          ·
           refine V2.y (i := 17) (Nx2.of (Z := Cls w [] [.obj b11 [.bool x8.Writes, .bool x8.Flow, .bool x8.Any] 53, .obj b1 [u0_0, u0_2] 47, .sl v5 60 3 (l4.map TDep.row)]) [] (by kernel_rfl) rfl (Zc.fin (fun _ hw => hw))) rfl rfl rfl (Y.pickT rfl rfl) ?_
           refine V2.y (i := 18) (Nx2.of (Z := Cls w [] [.obj b11 [.bool x8.Writes, .bool x8.Flow, .bool x8.Any] 53, .obj b1 [u0_0, u0_2] 47, .sl v5 60 3 (l4.map TDep.row)]) [] (by kernel_rfl) rfl (Zc.fin (fun _ hw => hw))) rfl rfl rfl (Y.move rfl) ?_
           refine V2.y (i := 19) (Nx2.of (Z := Cls w [] [.obj b11 [.bool x8.Writes, .bool x8.Flow, .bool x8.Any] 53, .obj b1 [u0_0, u0_2] 47, .sl v5 60 3 (l4.map TDep.row)]) [] (by kernel_rfl) rfl (Zc.fin (fun _ hw => hw))) rfl rfl rfl (Y.move rfl) ?_
           refine V2.y (i := 20) (Nx2.of (Z := Cls w [] [.obj b11 [.bool x8.Writes, .bool x8.Flow, .bool x8.Any] 53, .obj b1 [u0_0, u0_2] 47, .sl v5 60 3 (l4.map TDep.row)]) [] (by kernel_rfl) rfl (Zc.fin (fun _ hw => hw))) rfl rfl rfl (Y.pickT rfl rfl) ?_
           refine V2.y (i := 21) (Nx2.of (Z := Cls w [] [.obj b11 [.bool x8.Writes, .bool x8.Flow, .bool x8.Any] 53, .obj b1 [u0_0, u0_2] 47, .sl v5 60 3 (l4.map TDep.row)]) [] (by kernel_rfl) rfl (Zc.fin (fun _ hw => hw))) rfl rfl rfl (Y.assign rfl) ?_
           refine V2.done (by kernel_rfl) ?_
           refine E.thenN (W.ret (E.ret1 rfl rfl (fun w1 hw => ?_)))
           obtain rfl := Option.some.inj h
           exact ⟨_, _, rfl, ⟨rfl, rfl⟩, hw.sel [] (by decide) rfl⟩
          ·
           refine V2.y (i := 17) (Nx2.of (Z := Cls w [] [.obj b11 [.bool x8.Writes, .bool x8.Flow, .bool x8.Any] 53, .obj b1 [u0_0, u0_2] 47, .sl v5 60 3 (l4.map TDep.row)]) [] (by kernel_rfl) rfl (Zc.fin (fun _ hw => hw))) rfl rfl rfl (Y.pickT rfl rfl) ?_
           refine V2.y (i := 18) (Nx2.of (Z := Cls w [] [.obj b11 [.bool x8.Writes, .bool x8.Flow, .bool x8.Any] 53, .obj b1 [u0_0, u0_2] 47, .sl v5 60 3 (l4.map TDep.row)]) [] (by kernel_rfl) rfl (Zc.fin (fun _ hw => hw))) rfl rfl rfl (Y.move rfl) ?_
           refine V2.pass (i := 19) (Nx2.of (Z := Cls w [] [.obj b11 [.bool x8.Writes, .bool x8.Flow, .bool x8.Any] 53, .obj b1 [u0_0, u0_2] 47, .sl v5 60 3 (l4.map TDep.row)]) [] (by kernel_rfl) rfl (Zc.fin (fun _ hw => hw))) rfl rfl ?_
           refine V2.y (i := 20) (Nx2.of (Z := Cls w [] [.obj b11 [.bool x8.Writes, .bool x8.Flow, .bool x8.Any] 53, .obj b1 [u0_0, u0_2] 47, .sl v5 60 3 (l4.map TDep.row)]) [] (by kernel_rfl) rfl (Zc.fin (fun _ hw => hw))) rfl rfl rfl (Y.pickF rfl rfl) ?_
           refine V2.y (i := 21) (Nx2.of (Z := Cls w [] [.obj b11 [.bool x8.Writes, .bool x8.Flow, .bool x8.Any] 53, .obj b1 [u0_0, u0_2] 47, .sl v5 60 3 (l4.map TDep.row)]) [] (by kernel_rfl) rfl (Zc.fin (fun _ hw => hw))) rfl rfl rfl (Y.assign rfl) ?_
           refine V2.done (by kernel_rfl) ?_
           refine E.thenN (W.ret (E.ret1 rfl rfl (fun w1 hw => ?_)))
           obtain rfl := Option.some.inj h
           exact ⟨_, _, rfl, ⟨rfl, rfl⟩, hw.sel [] (by decide) rfl⟩
         ·
          refine V2.y (i := 13) (Nx2.of (Z := Cls w [] [.obj b11 [.bool x8.Writes, .bool x8.Flow, .bool x8.Any] 53, .obj b1 [u0_0, u0_2] 47, .sl v5 60 3 (l4.map TDep.row)]) [] (by kernel_rfl) rfl (Zc.fin (fun _ hw => hw))) rfl rfl rfl (Y.pickT rfl rfl) ?_
          refine V2.y (i := 14) (Nx2.of (Z := Cls w [] [.obj b11 [.bool x8.Writes, .bool x8.Flow, .bool x8.Any] 53, .obj b1 [u0_0, u0_2] 47, .sl v5 60 3 (l4.map TDep.row)]) [] (by kernel_rfl) rfl (Zc.fin (fun _ hw => hw))) rfl rfl rfl (Y.move rfl) ?_
          refine V2.pass (i := 15) (Nx2.of (Z := Cls w [] [.obj b11 [.bool x8.Writes, .bool x8.Flow, .bool x8.Any] 53, .obj b1 [u0_0, u0_2] 47, .sl v5 60 3 (l4.map TDep.row)]) [] (by kernel_rfl) rfl (Zc.fin (fun _ hw => hw))) rfl rfl ?_
          refine V2.pass (i := 16) (Nx2.of (Z := Cls w [] [.obj b11 [.bool x8.Writes, .bool x8.Flow, .bool x8.Any] 53, .obj b1 [u0_0, u0_2] 47, .sl v5 60 3 (l4.map TDep.row)]) [] (by kernel_rfl) rfl (Zc.fin (fun _ hw => hw))) rfl rfl ?_
          refine V2.y (i := 17) (Nx2.of (Z := Cls w [] [.obj b11 [.bool x8.Writes, .bool x8.Flow, .bool x8.Any] 53, .obj b1 [u0_0, u0_2] 47, .sl v5 60 3 (l4.map TDep.row)]) [] (by kernel_rfl) rfl (Zc.fin (fun _ hw => hw))) rfl rfl rfl (Y.pickF rfl rfl) ?_
          refine V2.y (i := 18) (Nx2.of (Z := Cls w [] [.obj b11 [.bool x8.Writes, .bool x8.Flow, .bool x8.Any] 53, .obj b1 [u0_0, u0_2] 47, .sl v5 60 3 (l4.map TDep.row)]) [] (by kernel_rfl) rfl (Zc.fin (fun _ hw => hw))) rfl rfl rfl (Y.move rfl) ?_
          refine V2.pass (i := 19) (Nx2.of (Z := Cls w [] [.obj b11 [.bool x8.Writes, .bool x8.Flow, .bool x8.Any] 53, .obj b1 [u0_0, u0_2] 47, .sl v5 60 3 (l4.map TDep.row)]) [] (by kernel_rfl) rfl (Zc.fin (fun _ hw => hw))) rfl rfl ?_
          refine V2.y (i := 20) (Nx2.of (Z := Cls w [] [.obj b11 [.bool x8.Writes, .bool x8.Flow, .bool x8.Any] 53, .obj b1 [u0_0, u0_2] 47, .sl v5 60 3 (l4.map TDep.row)]) [] (by kernel_rfl) rfl (Zc.fin (fun _ hw => hw))) rfl rfl rfl (Y.pickF rfl rfl) ?_
          refine V2.y (i := 21) (Nx2.of (Z := Cls w [] [.obj b11 [.bool x8.Writes, .bool x8.Flow, .bool x8.Any] 53, .obj b1 [u0_0, u0_2] 47, .sl v5 60 3 (l4.map TDep.row)]) [] (by kernel_rfl) rfl (Zc.fin (fun _ hw => hw))) rfl rfl rfl (Y.assign rfl) ?_
          refine V2.done (by kernel_rfl) ?_
          refine E.thenN (W.ret (E.ret1 rfl rfl (fun w1 hw => ?_)))
          obtain rfl := Option.some.inj h
          exact ⟨_, _, rfl, ⟨rfl, rfl⟩, hw.sel [] (by decide) rfl⟩
        ·
         refine V2.y (i := 7) (Nx2.of (Z := Cls w [] [.obj b11 [.bool x8.Writes, .bool x8.Flow, .bool x8.Any] 53, .obj b1 [u0_0, u0_2] 47, .sl v5 60 3 (l4.map TDep.row)]) [] (by kernel_rfl) rfl (Zc.fin (fun _ hw => hw))) rfl rfl rfl (Y.pickT rfl rfl) ?_
         refine V2.y (i := 8) (Nx2.of (Z := Cls w [] [.obj b11 [.bool x8.Writes, .bool x8.Flow, .bool x8.Any] 53, .obj b1 [u0_0, u0_2] 47, .sl v5 60 3 (l4.map TDep.row)]) [] (by kernel_rfl) rfl (Zc.fin (fun _ hw => hw))) rfl rfl rfl (Y.move rfl) ?_
         refine V2.pass (i := 9) (Nx2.of (Z := Cls w [] [.obj b11 [.bool x8.Writes, .bool x8.Flow, .bool x8.Any] 53, .obj b1 [u0_0, u0_2] 47, .sl v5 60 3 (l4.map TDep.row)]) [] (by kernel_rfl) rfl (Zc.fin (fun _ hw => hw))) rfl rfl ?_
         refine V2.pass (i := 10) (Nx2.of (Z := Cls w [] [.obj b11 [.bool x8.Writes, .bool x8.Flow, .bool x8.Any] 53, .obj b1 [u0_0, u0_2] 47, .sl v5 60 3 (l4.map TDep.row)]) [] (by kernel_rfl) rfl (Zc.fin (fun _ hw => hw))) rfl rfl ?_
         refine V2.pass (i := 11) (Nx2.of (Z := Cls w [] [.obj b11 [.bool x8.Writes, .bool x8.Flow, .bool x8.Any] 53, .obj b1 [u0_0, u0_2] 47, .sl v5 60 3 (l4.map TDep.row)]) [] (by kernel_rfl) rfl (Zc.fin (fun _ hw => hw))) rfl rfl ?_
         refine V2.pass (i := 12) (Nx2.of (Z := Cls w [] [.obj b11 [.bool x8.Writes, .bool x8.Flow, .bool x8.Any] 53, .obj b1 [u0_0, u0_2] 47, .sl v5 60 3 (l4.map TDep.row)]) [] (by kernel_rfl) rfl (Zc.fin (fun _ hw => hw))) rfl rfl ?_
         refine V2.y (i := 13) (Nx2.of (Z := Cls w [] [.obj b11 [.bool x8.Writes, .bool x8.Flow, .bool x8.Any] 53, .obj b1 [u0_0, u0_2] 47, .sl v5 60 3 (l4.map TDep.row)]) [] (by kernel_rfl) rfl (Zc.fin (fun _ hw => hw))) rfl rfl rfl (Y.pickF rfl rfl) ?_
         refine V2.y (i := 14) (Nx2.of (Z := Cls w [] [.obj b11 [.bool x8.Writes, .bool x8.Flow, .bool x8.Any] 53, .obj b1 [u0_0, u0_2] 47, .sl v5 60 3 (l4.map TDep.row)]) [] (by kernel_rfl) rfl (Zc.fin (fun _ hw => hw))) rfl rfl rfl (Y.move rfl) ?_
         refine V2.pass (i := 15) (Nx2.of (Z := Cls w [] [.obj b11 [.bool x8.Writes, .bool x8.Flow, .bool x8.Any] 53, .obj b1 [u0_0, u0_2] 47, .sl v5 60 3 (l4.map TDep.row)]) [] (by kernel_rfl) rfl (Zc.fin (fun _ hw => hw))) rfl rfl ?_
         refine V2.pass (i := 16) (Nx2.of (Z := Cls w [] [.obj b11 [.bool x8.Writes, .bool x8.Flow, .bool x8.Any] 53, .obj b1 [u0_0, u0_2] 47, .sl v5 60 3 (l4.map TDep.row)]) [] (by kernel_rfl) rfl (Zc.fin (fun _ hw => hw))) rfl rfl ?_
         refine V2.y (i := 17) (Nx2.of (Z := Cls w [] [.obj b11 [.bool x8.Writes, .bool x8.Flow, .bool x8.Any] 53, .obj b1 [u0_0, u0_2] 47, .sl v5 60 3 (l4.map TDep.row)]) [] (by kernel_rfl) rfl (Zc.fin (fun _ hw => hw))) rfl rfl rfl (Y.pickF rfl rfl) ?_
         refine V2.y (i := 18) (Nx2.of (Z := Cls w [] [.obj b11 [.bool x8.Writes, .bool x8.Flow, .bool x8.Any] 53, .obj b1 [u0_0, u0_2] 47, .sl v5 60 3 (l4.map TDep.row)]) [] (by kernel_rfl) rfl (Zc.fin (fun _ hw => hw))) rfl rfl rfl (Y.move rfl) ?_
         refine V2.pass (i := 19) (Nx2.of (Z := Cls w [] [.obj b11 [.bool x8.Writes, .bool x8.Flow, .bool x8.Any] 53, .obj b1 [u0_0, u0_2] 47, .sl v5 60 3 (l4.map TDep.row)]) [] (by kernel_rfl) rfl (Zc.fin (fun _ hw => hw))) rfl rfl ?_
         refine V2.y (i := 20) (Nx2.of (Z := Cls w [] [.obj b11 [.bool x8.Writes, .bool x8.Flow, .bool x8.Any] 53, .obj b1 [u0_0, u0_2] 47, .sl v5 60 3 (l4.map TDep.row)]) [] (by kernel_rfl) rfl (Zc.fin (fun _ hw => hw))) rfl rfl rfl (Y.pickF rfl rfl) ?_
         refine V2.y (i := 21) (Nx2.of (Z := Cls w [] [.obj b11 [.bool x8.Writes, .bool x8.Flow, .bool x8.Any] 53, .obj b1 [u0_0, u0_2] 47, .sl v5 60 3 (l4.map TDep.row)]) [] (by kernel_rfl) rfl (Zc.fin (fun _ hw => hw))) rfl rfl rfl (Y.assign rfl) ?_
         refine V2.done (by kernel_rfl) ?_
         refine E.thenN (W.ret (E.ret1 rfl rfl (fun w1 hw => ?_)))
         obtain rfl := Option.some.inj h
         exact ⟨_, _, rfl, ⟨rfl, rfl⟩, hw.sel [] (by decide) rfl⟩
end Go.Proofs.Ytkhlapdkomnldaa
