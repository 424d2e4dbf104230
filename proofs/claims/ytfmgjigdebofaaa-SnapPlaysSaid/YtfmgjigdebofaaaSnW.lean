/-
  Walks, printed by a program of mine.
  Conditions: none.
-/
import Derived.Test.YtfmgjigdebofaaaSnW2
import Derived.Test.YtfmgjigdebofaaaChecked
import Derived.KernelRfl
namespace Go.Proofs.Ytfmgjigdebofaaa
open Go.S
set_option linter.unusedVariables false
set_option linter.unusedSimpArgs false
set_option maxRecDepth 100000 in
set_option maxHeartbeats 8000000 in
theorem w51_quirref_RunErr (a0 : (List TOp)) (u0 : Value) (w : World) (r : Int) (h : m51_quirref_RunErr a0 = some r) (hA0 : At w u0 3 (a0.map TOp.row)) : Does Try.prog 51 [u0] w fun u m => u = .int .i64 r ∧ m = [] := by
  rw [m51_quirref_RunErr] at h
  refine body (n := 73) Try.func51 rfl rfl rfl (Cls.refl w) ?_
  refine W.seq (W.region (L.y rfl (Y.assign rfl) ?_))
  refine L.nil (E.thenN (W.seqJ (fun gs D => gs = [(0, u0)] ∧ D = Cls w [] [] ∧ m51_quirref_RunErr_K1 a0 = some r) ?_ ?_))
  ·
   refine W.seq (W.region (L.y rfl (Y.move rfl) ?_))
   refine L.y rfl (Y.lenM (g := TOp.row) (l := a0) Try.underlying71 rfl (fun w' hw => hA0.cls0 hw)) ?_
   refine L.ite h rfl (Y.gtr rfl rfl) (fun c21 h => ?_) (fun c21 h => ?_)
   ·
    refine L.nil (E.thenN (W.condT rfl ?_))
    refine W.seq (W.region (L.y rfl (Y.assign rfl) ?_))
    refine L.nil (E.thenN (W.ret (E.KSR (E.ret1 rfl rfl (fun w1 hw => ?_)))))
    obtain rfl := Option.some.inj h
    exact ⟨_, _, rfl, ⟨rfl, rfl⟩, hw⟩
   ·
    refine L.nil (E.thenN (W.condF rfl ?_))
    exact W.skip (E.joinJ ⟨rfl, rfl, h⟩ ⟨rfl, trivial⟩ (fun _ hw => hw))
  ·
   rintro _ _ ⟨rfl, rfl, h⟩
   rw [m51_quirref_RunErr_K1] at h
   refine W.seqJ (fun gs D => gs = [] ∧ D = Cls w [] [] ∧ m51_quirref_RunErr_K2 = some r) ?_ ?_
   ·
    refine W.seq (W.region (L.y rfl (Y.move rfl) ?_))
    refine L.y rfl (Y.lenM (g := TOp.row) (l := a0) Try.underlying71 rfl (fun w' hw => hA0.cls0 hw)) ?_
    refine L.y rfl (Y.move rfl) ?_
    refine L.nil (E.thenN (W.block (W.loopJ (fun m gs D => ∃ (gx1 : Int), gs = [(0, u0), (10, u0), (11, .int .i64 (a0.length : Int)), (12, .int .i64 gx1)] ∧ D = Cls w [] [] ∧ m51_quirref_RunErr_L1 a0 m gx1 = some r) ⟨0, rfl, rfl, h⟩ ⟨rfl, rfl, rfl, rfl, trivial⟩ (fun _ hw => hw) ?_)))
    rintro m _ _ ⟨gx1, rfl, rfl, h⟩
    rcases m with _ | m
    · rw [m51_quirref_RunErr_L1] at h; cases h
    rw [m51_quirref_RunErr_L1] at h
    generalize hg1 : m51_quirref_RunErr_L1 a0 m = go1 at h
    rw [m51_quirref_RunErr_L1B] at h
    refine W.seq (W.region (L.ite h rfl (Y.lss rfl rfl) (fun c1 h => ?_) (fun c1 h => ?_)))
    ·
     refine L.nil (E.thenN (W.seq (W.condT rfl ?_)))
     refine W.skip (E.thenN (W.seqJ (fun gs D => gs = [(0, u0), (10, u0), (11, .int .i64 (a0.length : Int)), (12, .int .i64 gx1)] ∧ D = Cls w [] [] ∧ m51_quirref_RunErr_K3 gx1 go1 = some r) ?_ ?_))
     ·
      refine W.block (W.seq (W.region (L.y rfl (Y.move rfl) ?_)))
      refine L.m (V := fun _ => el u0 (gx1.toNat * 3)) h rfl (Y.indexM (g := TOp.row) (l := a0) Try.underlying71 sz164 rfl rfl (fun w' hw => hA0.cls0 hw)) (fun x3 ex3 h => ?_)
      refine L.y rfl (Y.loadEN (r := [.int .i64 x3.Tx, .int .i64 x3.Kind, .int .i64 x3.Item]) ag164 sz164 rfl (fun w' hw => hA0.cls0 hw) (idx_map ex3) rfl) ?_
      refine L.alloc rfl ze164 ?_
      intro b4
      refine L.y rfl (Y.assign rfl) ?_
      refine L.store (i := 0) sz164 rfl rfl rfl rfl (by simp [Value.oneCell', Value.cells, st, pt]) rfl (Nat.le_of_ble_eq_true rfl) ?_
      refine L.nil (E.thenN (W.seqJ (fun gs D => gs = [(0, u0), (3, .int .i64 gx1), (4, pt b4 0), (10, u0), (11, .int .i64 (a0.length : Int)), (12, .int .i64 gx1)] ∧ D = Cls w [] [.obj b4 [.int .i64 x3.Tx, .int .i64 x3.Kind, .int .i64 x3.Item] 164] ∧ m51_quirref_RunErr_K4 x3 a0 gx1 go1 = some r) ?_ ?_))
      ·
       refine W.seq (W.region (L.cutJ 8 (fun gs D => ∃ (gb5 : Bool), gs = [(0, u0), (3, .int .i64 gx1), (4, pt b4 0), (10, u0), (11, .int .i64 (a0.length : Int)), (12, .int .i64 gx1), (24, .bool gb5)] ∧ D = Cls w [] [.obj b4 [.int .i64 x3.Tx, .int .i64 x3.Kind, .int .i64 x3.Item] 164] ∧ m51_quirref_RunErr_K8 x3 a0 gx1 go1 gb5 = some r) ?_ ?_))
       ·
        refine L.y rfl (Y.fieldP fd164_0 rfl) ?_
        refine L.y rfl (Y.loadP (i := 0) ag3 rfl rfl rfl) ?_
        refine L.ite h rfl (Y.lss rfl rfl) (fun c19 h => ?_) (fun c19 h => ?_)
        ·
         refine L.y rfl (Y.move rfl) ?_
         refine L.pass rfl rfl (by nofun) ?_
         refine L.pass rfl rfl (by nofun) ?_
         refine L.pass rfl rfl (by nofun) ?_
         refine L.y rfl (Y.pickT rfl rfl) ?_
         exact L.nil (E.joinJ ⟨true, rfl, rfl, h⟩ ⟨rfl, rfl, rfl, rfl, rfl, rfl, rfl, trivial⟩ (fun _ hw => hw))
        ·
         refine L.y rfl (Y.move rfl) ?_
         refine L.take rfl (L.y rfl (Y.fieldP fd164_0 rfl) ?_)
         refine L.take rfl (L.y rfl (Y.loadP (i := 0) ag3 rfl rfl rfl) ?_)
         refine L.take rfl (L.ite h rfl (Y.gtr rfl rfl) (fun c20 h => ?_) (fun c20 h => ?_))
         ·
          refine L.y rfl (Y.pickF rfl rfl) ?_
          exact L.nil (E.joinJ ⟨true, rfl, rfl, h⟩ ⟨rfl, rfl, rfl, rfl, rfl, rfl, rfl, trivial⟩ (fun _ hw => hw))
         ·
          refine L.y rfl (Y.pickF rfl rfl) ?_
          exact L.nil (E.joinJ ⟨false, rfl, rfl, h⟩ ⟨rfl, rfl, rfl, rfl, rfl, rfl, rfl, trivial⟩ (fun _ hw => hw))
       ·
        rintro _ _ ⟨gb5, rfl, rfl, h⟩
        rw [m51_quirref_RunErr_K8] at h
        rcases gb5 with _ | _
        ·
         replace h := iteF h
         refine L.y rfl (Y.move rfl) ?_
         refine L.take rfl (L.y rfl (Y.fieldP fd164_2 rfl) ?_)
         refine L.take rfl (L.y rfl (Y.loadP (i := 0) ag3 rfl rfl rfl) ?_)
         refine L.take rfl (L.ite h rfl (Y.lss rfl rfl) (fun c17 h => ?_) (fun c17 h => ?_))
         ·
          refine L.y rfl (Y.pickF rfl rfl) ?_
          refine L.y rfl (Y.move rfl) ?_
          refine L.pass rfl rfl (by nofun) ?_
          refine L.pass rfl rfl (by nofun) ?_
          refine L.pass rfl rfl (by nofun) ?_
          refine L.y rfl (Y.pickT rfl rfl) ?_
          refine L.nil (E.thenN (W.condT rfl ?_))
          refine W.seq (W.region (L.y rfl (Y.assign rfl) ?_))
          refine L.nil (E.thenN (W.ret (E.KSR (E.blockR (E.KSR (E.KLR (E.blockR (E.KSR (E.ret1 rfl rfl (fun w1 hw => ?_))))))))))
          obtain rfl := Option.some.inj h
          exact ⟨_, _, rfl, ⟨rfl, rfl⟩, hw.sel [] (by decide) rfl⟩
         ·
          refine L.y rfl (Y.pickF rfl rfl) ?_
          refine L.y rfl (Y.move rfl) ?_
          refine L.take rfl (L.y rfl (Y.fieldP fd164_2 rfl) ?_)
          refine L.take rfl (L.y rfl (Y.loadP (i := 0) ag3 rfl rfl rfl) ?_)
          refine L.take rfl (L.ite h rfl (Y.gtr rfl rfl) (fun c18 h => ?_) (fun c18 h => ?_))
          ·
           refine L.y rfl (Y.pickF rfl rfl) ?_
           refine L.nil (E.thenN (W.condT rfl ?_))
           refine W.seq (W.region (L.y rfl (Y.assign rfl) ?_))
           refine L.nil (E.thenN (W.ret (E.KSR (E.blockR (E.KSR (E.KLR (E.blockR (E.KSR (E.ret1 rfl rfl (fun w1 hw => ?_))))))))))
           obtain rfl := Option.some.inj h
           exact ⟨_, _, rfl, ⟨rfl, rfl⟩, hw.sel [] (by decide) rfl⟩
          ·
           refine L.y rfl (Y.pickF rfl rfl) ?_
           refine L.nil (E.thenN (W.condF rfl ?_))
           exact W.skip (E.joinJ ⟨rfl, rfl, h⟩ ⟨rfl, rfl, rfl, rfl, rfl, rfl, trivial⟩ (fun _ hw => hw))
        ·
         replace h := iteT h
         refine L.y rfl (Y.move rfl) ?_
         refine L.pass rfl rfl (by nofun) ?_
         refine L.pass rfl rfl (by nofun) ?_
         refine L.pass rfl rfl (by nofun) ?_
         refine L.y rfl (Y.pickT rfl rfl) ?_
         refine L.y rfl (Y.move rfl) ?_
         refine L.pass rfl rfl (by nofun) ?_
         refine L.pass rfl rfl (by nofun) ?_
         refine L.pass rfl rfl (by nofun) ?_
         refine L.y rfl (Y.pickT rfl rfl) ?_
         refine L.nil (E.thenN (W.condT rfl ?_))
         refine W.seq (W.region (L.y rfl (Y.assign rfl) ?_))
         refine L.nil (E.thenN (W.ret (E.KSR (E.blockR (E.KSR (E.KLR (E.blockR (E.KSR (E.ret1 rfl rfl (fun w1 hw => ?_))))))))))
         obtain rfl := Option.some.inj h
         exact ⟨_, _, rfl, ⟨rfl, rfl⟩, hw.sel [] (by decide) rfl⟩
      ·
       rintro _ _ ⟨rfl, rfl, h⟩
       rw [m51_quirref_RunErr_K4] at h
       refine W.seqJ (fun gs D => gs = [(0, u0), (3, .int .i64 gx1), (4, pt b4 0), (10, u0), (11, .int .i64 (a0.length : Int)), (12, .int .i64 gx1)] ∧ D = Cls w [] [.obj b4 [.int .i64 x3.Tx, .int .i64 x3.Kind, .int .i64 x3.Item] 164] ∧ m51_quirref_RunErr_K5 a0 gx1 x3 go1 = some r) ?_ ?_
       ·
        refine W.seq (W.region (L.cutJ 8 (fun gs D => ∃ (gb3 : Bool), gs = [(0, u0), (3, .int .i64 gx1), (4, pt b4 0), (10, u0), (11, .int .i64 (a0.length : Int)), (12, .int .i64 gx1), (42, .bool gb3)] ∧ D = Cls w [] [.obj b4 [.int .i64 x3.Tx, .int .i64 x3.Kind, .int .i64 x3.Item] 164] ∧ m51_quirref_RunErr_K6 x3 a0 gx1 go1 gb3 = some r) ?_ ?_))
        ·
         refine L.y rfl (Y.fieldP fd164_1 rfl) ?_
         refine L.y rfl (Y.loadP (i := 0) ag3 rfl rfl rfl) ?_
         refine L.ite h rfl (Y.lss rfl rfl) (fun c15 h => ?_) (fun c15 h => ?_)
         ·
          refine L.y rfl (Y.move rfl) ?_
          refine L.pass rfl rfl (by nofun) ?_
          refine L.pass rfl rfl (by nofun) ?_
          refine L.pass rfl rfl (by nofun) ?_
          refine L.y rfl (Y.pickT rfl rfl) ?_
          exact L.nil (E.joinJ ⟨true, rfl, rfl, h⟩ ⟨rfl, rfl, rfl, rfl, rfl, rfl, rfl, trivial⟩ (fun _ hw => hw))
         ·
          refine L.y rfl (Y.move rfl) ?_
          refine L.take rfl (L.y rfl (Y.fieldP fd164_1 rfl) ?_)
          refine L.take rfl (L.y rfl (Y.loadP (i := 0) ag3 rfl rfl rfl) ?_)
          refine L.take rfl (L.ite h rfl (Y.gtr rfl rfl) (fun c16 h => ?_) (fun c16 h => ?_))
          ·
           refine L.y rfl (Y.pickF rfl rfl) ?_
           exact L.nil (E.joinJ ⟨true, rfl, rfl, h⟩ ⟨rfl, rfl, rfl, rfl, rfl, rfl, rfl, trivial⟩ (fun _ hw => hw))
          ·
           refine L.y rfl (Y.pickF rfl rfl) ?_
           exact L.nil (E.joinJ ⟨false, rfl, rfl, h⟩ ⟨rfl, rfl, rfl, rfl, rfl, rfl, rfl, trivial⟩ (fun _ hw => hw))
        ·
         rintro _ _ ⟨gb3, rfl, rfl, h⟩
         rw [m51_quirref_RunErr_K6] at h
         rcases gb3 with _ | _
         ·
          replace h := iteF h
          refine L.cutJ 9 (fun gs D => ∃ (gb4 : Bool), gs = [(0, u0), (3, .int .i64 gx1), (4, pt b4 0), (10, u0), (11, .int .i64 (a0.length : Int)), (12, .int .i64 gx1), (43, .bool false), (51, .bool gb4)] ∧ D = Cls w [] [.obj b4 [.int .i64 x3.Tx, .int .i64 x3.Kind, .int .i64 x3.Item] 164] ∧ m51_quirref_RunErr_K7 a0 gx1 x3 go1 gb4 = some r) ?_ ?_
          ·
           refine L.y rfl (Y.move rfl) ?_
           refine L.take rfl (L.y rfl (Y.fieldP fd164_1 rfl) ?_)
           refine L.take rfl (L.y rfl (Y.loadP (i := 0) ag3 rfl rfl rfl) ?_)
           refine L.take rfl (L.ite h rfl (Y.gtr rfl rfl) (fun c13 h => ?_) (fun c13 h => ?_))
           ·
            refine L.take rfl (L.y rfl (Y.move rfl) ?_)
            refine L.take rfl (L.y rfl (Y.fieldP fd164_2 rfl) ?_)
            refine L.take rfl (L.y rfl (Y.loadP (i := 0) ag3 rfl rfl rfl) ?_)
            refine L.take rfl (L.ite h rfl (Y.neq rfl rfl) (fun c14 h => ?_) (fun c14 h => ?_))
            ·
             refine L.take rfl (L.y rfl (Y.pickT rfl rfl) ?_)
             exact L.nil (E.joinJ ⟨true, rfl, rfl, h⟩ ⟨rfl, rfl, rfl, rfl, rfl, rfl, rfl, rfl, trivial⟩ (fun _ hw => hw))
            ·
             refine L.take rfl (L.y rfl (Y.pickT rfl rfl) ?_)
             exact L.nil (E.joinJ ⟨false, rfl, rfl, h⟩ ⟨rfl, rfl, rfl, rfl, rfl, rfl, rfl, rfl, trivial⟩ (fun _ hw => hw))
           ·
            refine L.take rfl (L.y rfl (Y.move rfl) ?_)
            refine L.pass rfl rfl (by nofun) ?_
            refine L.pass rfl rfl (by nofun) ?_
            refine L.pass rfl rfl (by nofun) ?_
            refine L.take rfl (L.y rfl (Y.pickF rfl rfl) ?_)
            exact L.nil (E.joinJ ⟨false, rfl, rfl, h⟩ ⟨rfl, rfl, rfl, rfl, rfl, rfl, rfl, rfl, trivial⟩ (fun _ hw => hw))
          ·
           rintro _ _ ⟨gb4, rfl, rfl, h⟩
           rw [m51_quirref_RunErr_K7] at h
           rcases gb4 with _ | _
           ·
            replace h := iteF h
            refine L.y rfl (Y.pickF rfl rfl) ?_
            refine L.nil (E.thenN (W.condF rfl ?_))
            exact W.skip (E.joinJ ⟨rfl, rfl, h⟩ ⟨rfl, rfl, rfl, rfl, rfl, rfl, trivial⟩ (fun _ hw => hw))
           ·
            replace h := iteT h
            refine L.y rfl (Y.pickF rfl rfl) ?_
            refine L.nil (E.thenN (W.condT rfl ?_))
            refine W.seq (W.region (L.y rfl (Y.assign rfl) ?_))
            refine L.nil (E.thenN (W.ret (E.KSR (E.blockR (E.KSR (E.KLR (E.blockR (E.KSR (E.ret1 rfl rfl (fun w1 hw => ?_))))))))))
            obtain rfl := Option.some.inj h
            exact ⟨_, _, rfl, ⟨rfl, rfl⟩, hw.sel [] (by decide) rfl⟩
         ·
          replace h := iteT h
          refine L.y rfl (Y.move rfl) ?_
          refine L.pass rfl rfl (by nofun) ?_
          refine L.pass rfl rfl (by nofun) ?_
          refine L.pass rfl rfl (by nofun) ?_
          refine L.pass rfl rfl (by nofun) ?_
          refine L.pass rfl rfl (by nofun) ?_
          refine L.pass rfl rfl (by nofun) ?_
          refine L.pass rfl rfl (by nofun) ?_
          refine L.pass rfl rfl (by nofun) ?_
          refine L.y rfl (Y.pickT rfl rfl) ?_
          refine L.nil (E.thenN (W.condT rfl ?_))
          refine W.seq (W.region (L.y rfl (Y.assign rfl) ?_))
          refine L.nil (E.thenN (W.ret (E.KSR (E.blockR (E.KSR (E.KLR (E.blockR (E.KSR (E.ret1 rfl rfl (fun w1 hw => ?_))))))))))
          obtain rfl := Option.some.inj h
          exact ⟨_, _, rfl, ⟨rfl, rfl⟩, hw.sel [] (by decide) rfl⟩
       ·
        rintro _ _ ⟨rfl, rfl, h⟩
        rw [m51_quirref_RunErr_K5] at h
        refine W.seq (W.region (L.y rfl (Y.move rfl) ?_))
        refine L.y rfl (Y.move rfl) ?_
        refine L.m (V := fun _ => cutv u0 gx1.toNat) h rfl (Y.cutM (g := TOp.row) Try.underlying71 sz164 rfl rfl (fun w' hw => hA0.cls0 hw)) (fun l5 el5 h => ?_)
        refine L.y rfl (Y.lenM (g := TOp.row) (l := l5) Try.underlying71 rfl (fun w' hw => (At.cutM hA0 el5).cls0 hw)) ?_
        refine L.y rfl (Y.move rfl) ?_
        refine L.nil (E.thenN (W.block (W.loopJ (fun m gs D => ∃ (gx2 : Int), gs = [(0, u0), (4, pt b4 0), (10, u0), (11, .int .i64 (a0.length : Int)), (12, .int .i64 gx1), (55, cutv u0 gx1.toNat), (56, .int .i64 (l5.length : Int)), (57, .int .i64 gx2)] ∧ D = Cls w [] [.obj b4 [.int .i64 x3.Tx, .int .i64 x3.Kind, .int .i64 x3.Item] 164] ∧ m51_quirref_RunErr_L2 l5 x3 gx1 go1 m gx2 = some r) ⟨0, rfl, rfl, h⟩ ⟨rfl, rfl, rfl, rfl, rfl, rfl, rfl, rfl, trivial⟩ (fun _ hw => hw) ?_)))
        rintro m _ _ ⟨gx2, rfl, rfl, h⟩
        rcases m with _ | m
        · rw [m51_quirref_RunErr_L2] at h; cases h
        rw [m51_quirref_RunErr_L2] at h
        generalize hg2 : m51_quirref_RunErr_L2 l5 x3 gx1 go1 m = go2 at h
        rw [m51_quirref_RunErr_L2B] at h
        refine W.seq (W.region (L.ite h rfl (Y.lss rfl rfl) (fun c6 h => ?_) (fun c6 h => ?_)))
        ·
         refine L.nil (E.thenN (W.seq (W.condT rfl ?_)))
         refine W.skip (E.thenN (W.seq (W.block (W.seq (W.region (L.m (V := fun _ => el (cutv u0 gx1.toNat) (gx2.toNat * 3)) h rfl (Y.indexM (g := TOp.row) (l := l5) Try.underlying71 sz164 rfl rfl (fun w' hw => (At.cutM hA0 el5).cls0 hw)) (fun x7 ex7 h => ?_)))))))
         refine L.y rfl (Y.loadEN (r := [.int .i64 x7.Tx, .int .i64 x7.Kind, .int .i64 x7.Item]) ag164 sz164 rfl (fun w' hw => (At.cutM hA0 el5).cls0 hw) (idx_map ex7) rfl) ?_
         refine L.alloc rfl ze164 ?_
         intro b8
         refine L.store (i := 0) sz164 rfl rfl rfl rfl (by simp [Value.oneCell', Value.cells, st, pt]) rfl (Nat.le_of_ble_eq_true rfl) ?_
         refine L.nil (E.thenN (W.seq (W.region (L.y rfl (Y.fieldP fd164_0 rfl) ?_))))
         refine L.y rfl (Y.loadP (i := 0) ag3 rfl rfl rfl) ?_
         refine L.y rfl (Y.fieldP fd164_0 rfl) ?_
         refine L.y rfl (Y.loadP (i := 1) ag3 rfl rfl rfl) ?_
         refine L.ite h rfl (Y.eql rfl rfl) (fun c9 h => ?_) (fun c9 h => ?_)
         ·
          refine L.y rfl (Y.move rfl) ?_
          refine L.take rfl (L.y rfl (Y.fieldP fd164_1 rfl) ?_)
          refine L.take rfl (L.y rfl (Y.loadP (i := 0) ag3 rfl rfl rfl) ?_)
          refine L.take rfl (L.ite h rfl (Y.gtr rfl rfl) (fun c10 h => ?_) (fun c10 h => ?_))
          ·
           refine L.y rfl (Y.pickT rfl rfl) ?_
           refine L.nil (E.thenN (W.condT rfl ?_))
           refine W.seq (W.region (L.y rfl (Y.assign rfl) ?_))
           refine L.nil (E.thenN (W.ret (E.blockR (E.thenR (E.KLR (E.blockR (E.blockR (E.KSR (E.KLR (E.blockR (E.KSR (E.ret1 rfl rfl (fun w1 hw => ?_)))))))))))))
           obtain rfl := Option.some.inj h
           exact ⟨_, _, rfl, ⟨rfl, rfl⟩, hw.sel [] (by decide) rfl⟩
          ·
           refine L.y rfl (Y.pickT rfl rfl) ?_
           refine L.nil (E.thenN (W.condF rfl ?_))
           refine W.skip (E.blockN (E.thenN (W.region (L.m (V := fun x11 => .int .i64 x11) h rfl (Y.addM rfl rfl) (fun x11 ex11 h => ?_)))))
           refine L.y rfl (Y.move rfl) ?_
           exact L.nil (E.againJ ⟨x11, rfl, rfl, by rw [hg2]; exact h⟩ (Nat.lt_succ_self _) ⟨rfl, rfl, rfl, rfl, rfl, rfl, rfl, rfl, trivial⟩ (fun _ hw => hw.sel [1] (by decide) rfl))
         ·
          refine L.y rfl (Y.move rfl) ?_
          refine L.pass rfl rfl (by nofun) ?_
          refine L.pass rfl rfl (by nofun) ?_
          refine L.pass rfl rfl (by nofun) ?_
          refine L.y rfl (Y.pickF rfl rfl) ?_
          refine L.nil (E.thenN (W.condF rfl ?_))
          refine W.skip (E.blockN (E.thenN (W.region (L.m (V := fun x12 => .int .i64 x12) h rfl (Y.addM rfl rfl) (fun x12 ex12 h => ?_)))))
          refine L.y rfl (Y.move rfl) ?_
          exact L.nil (E.againJ ⟨x12, rfl, rfl, by rw [hg2]; exact h⟩ (Nat.lt_succ_self _) ⟨rfl, rfl, rfl, rfl, rfl, rfl, rfl, rfl, trivial⟩ (fun _ hw => hw.sel [1] (by decide) rfl))
        ·
         refine L.nil (E.thenN (W.seq (W.condF rfl ?_)))
         exact W.exit (E.thenX (E.KLX (E.blockX (E.blockN (E.joinJ ⟨rfl, rfl, h⟩ ⟨rfl, rfl, rfl, rfl, trivial⟩ (fun _ hw => hw.sel [] (by decide) rfl))))))
     ·
      rintro _ _ ⟨rfl, rfl, h⟩
      rw [m51_quirref_RunErr_K3] at h
      refine W.region (L.m (V := fun x2 => .int .i64 x2) h rfl (Y.addM rfl rfl) (fun x2 ex2 h => ?_))
      refine L.y rfl (Y.move rfl) ?_
      exact L.nil (E.againJ ⟨x2, rfl, rfl, by rw [hg1]; exact h⟩ (Nat.lt_succ_self _) ⟨rfl, rfl, rfl, rfl, trivial⟩ (fun _ hw => hw))
    ·
     refine L.nil (E.thenN (W.seq (W.condF rfl ?_)))
     exact W.exit (E.thenX (E.KLX (E.blockX (E.joinJ ⟨rfl, rfl, h⟩ trivial (fun _ hw => hw)))))
   ·
    rintro _ _ ⟨rfl, rfl, h⟩
    rw [m51_quirref_RunErr_K2] at h
    refine W.seq (W.region (L.y rfl (Y.assign rfl) ?_))
    refine L.nil (E.thenN (W.ret (E.ret1 rfl rfl (fun w1 hw => ?_))))
    obtain rfl := Option.some.inj h
    exact ⟨_, _, rfl, ⟨rfl, rfl⟩, hw⟩
set_option maxRecDepth 100000 in
set_option maxHeartbeats 8000000 in
theorem w161_api_Op (a0 : (List TOp)) (a1 : TOp) (u0 : Value) (w : World) (r : Int) (h : m161_api_Op a0 a1 = some r) (hA0 : At w u0 3 (a0.map TOp.row)) : Does Try.prog 161 [u0, .agg #[.int .i64 a1.Tx, .int .i64 a1.Kind, .int .i64 a1.Item]] w fun u m => u = .int .i64 r ∧ m = [] := by
  rw [m161_api_Op] at h
  refine body (n := 19) Try.func161 rfl rfl rfl (Cls.refl w) ?_
  refine W.seq (W.region (L.box rfl rfl ?_))
  intro b1
  refine L.y rfl (Y.assign rfl) ?_
  refine L.nil (E.thenN (W.seqJ (fun gs D => gs = [] ∧ D = Cls w [] [] ∧ m161_api_Op_K1 = some r) ?_ ?_))
  ·
   refine W.seq (W.region (L.y rfl (Y.move rfl) ?_))
   refine L.y rfl (Y.lenM (g := TOp.row) (l := a0) Try.underlying71 rfl (fun w' hw => hA0.cls0 hw)) ?_
   refine L.y rfl (Y.move rfl) ?_
   refine L.nil (E.thenN (W.block (W.loopJ (fun m gs D => ∃ (gx1 : Int), gs = [(0, u0), (3, pt b1 0), (7, .int .i64 (a0.length : Int)), (8, .int .i64 gx1)] ∧ D = Cls w [] [.obj b1 [.int .i64 a1.Tx, .int .i64 a1.Kind, .int .i64 a1.Item] 164] ∧ m161_api_Op_L1 a0 a1 m gx1 = some r) ⟨0, rfl, rfl, h⟩ ⟨rfl, rfl, rfl, rfl, trivial⟩ (fun _ hw => hw) ?_)))
   rintro m _ _ ⟨gx1, rfl, rfl, h⟩
   rcases m with _ | m
   · rw [m161_api_Op_L1] at h; cases h
   rw [m161_api_Op_L1] at h
   generalize hg1 : m161_api_Op_L1 a0 a1 m = go1 at h
   rw [m161_api_Op_L1B] at h
   refine W.seq (W.region (L.ite h rfl (Y.lss rfl rfl) (fun c2 h => ?_) (fun c2 h => ?_)))
   ·
    refine L.nil (E.thenN (W.seq (W.condT rfl ?_)))
    refine W.skip (E.thenN (W.seq (W.block (W.seq (W.region (L.y rfl (Y.move rfl) ?_))))))
    refine L.y rfl (Y.assign rfl) ?_
    refine L.nil (E.thenN (W.seq (W.quietC mixed (by kernel_rfl) (fun _ hw => hw.drew) (fun hC => ?_))))
    refine U.y rfl (Y.loadPW (i := 0) ag164 sz164 rfl rfl rfl) ?_
    refine U.y rfl (Y.move rfl) ?_
    refine U.y rfl (Y.move rfl) ?_
    refine U.m (V := fun _ => el u0 (gx1.toNat * 3)) h rfl (Y.indexM (g := TOp.row) (l := a0) Try.underlying71 sz164 rfl rfl (fun w' hw => hA0.cls0 hw)) (fun x3 ex3 h => ?_)
    refine U.y rfl (Y.loadEN (r := [.int .i64 x3.Tx, .int .i64 x3.Kind, .int .i64 x3.Item]) ag164 sz164 rfl (fun w' hw => hA0.cls0 hw) (idx_map ex3) rfl) ?_
    refine U.ite h rfl (Y.eqlA (row := TOp.row) (a := a1) (b := x3) eg164 ag164 (sh164 _) (sh164 _) (inj164 _ _) rfl rfl) (fun c4 h => ?_) (fun c4 h => ?_)
    ·
     refine U.nil (E.thenN (W.condT rfl ?_))
     refine W.seq (W.region (L.y rfl (Y.move rfl) ?_))
     refine L.y rfl (Y.assign rfl) ?_
     refine L.nil (E.thenN (W.ret (E.blockR (E.thenR (E.KLR (E.blockR (E.KSR (E.ret1 rfl rfl (fun w1 hw => ?_)))))))))
     obtain rfl := Option.some.inj h
     exact ⟨_, _, rfl, ⟨rfl, rfl⟩, hw.sel [] (by decide) rfl⟩
    ·
     refine U.nil (E.thenN (W.condF rfl ?_))
     refine W.skip (E.blockN (E.thenN (W.region (L.m (V := fun x5 => .int .i64 x5) h rfl (Y.addM rfl rfl) (fun x5 ex5 h => ?_)))))
     refine L.y rfl (Y.move rfl) ?_
     exact L.nil (E.againJ ⟨x5, rfl, rfl, by rw [hg1]; exact h⟩ (Nat.lt_succ_self _) ⟨rfl, rfl, rfl, rfl, trivial⟩ (fun _ hw => hw))
   ·
    refine L.nil (E.thenN (W.seq (W.condF rfl ?_)))
    exact W.exit (E.thenX (E.KLX (E.blockX (E.joinJ ⟨rfl, rfl, h⟩ trivial (fun _ hw => hw.sel [] (by decide) rfl)))))
  ·
   rintro _ _ ⟨rfl, rfl, h⟩
   rw [m161_api_Op_K1] at h
   refine W.seq (W.region (L.y rfl (Y.assign rfl) ?_))
   refine L.nil (E.thenN (W.ret (E.ret1 rfl rfl (fun w1 hw => ?_))))
   obtain rfl := Option.some.inj h
   exact ⟨_, _, rfl, ⟨rfl, rfl⟩, hw⟩
set_option maxRecDepth 100000 in
set_option maxHeartbeats 8000000 in
theorem w148_api_Op (a0 : (List TOp)) (a1 : TOp) (u0 : Value) (w : World) (r : Bool) (h : m148_api_Op a0 a1 = some r) (hA0 : At w u0 3 (a0.map TOp.row)) : Does Try.prog 148 [u0, .agg #[.int .i64 a1.Tx, .int .i64 a1.Kind, .int .i64 a1.Item]] w fun u m => u = .bool r ∧ m = [] := by
  rw [m148_api_Op] at h
  refine body (n := 9) Try.func148 rfl rfl rfl (Cls.refl w) ?_
  refine W.seq (W.region (L.box rfl rfl ?_))
  intro b1
  refine L.y rfl (Y.assign rfl) ?_
  refine L.nil (E.thenN (W.seq (W.region (L.y rfl (Y.move rfl) ?_))))
  refine L.y rfl (Y.loadPW (i := 0) ag164 sz164 rfl rfl rfl) ?_
  obtain ⟨x2, e3, h⟩ := bind1S h
  refine L.y rfl (Y.does en161 rfl (fun w' hw => (w161_api_Op a0 a1 u0 w' _ e3 (hA0.cls0 hw)).mono (fun _ _ h => h.1))) ?_
  refine L.y rfl (Y.geq rfl rfl) ?_
  refine L.y rfl (Y.assign rfl) ?_
  refine L.nil (E.thenN (W.ret (E.ret1 rfl rfl (fun w1 hw => ?_))))
  obtain rfl := Option.some.inj h
  exact ⟨_, _, rfl, ⟨rfl, rfl⟩, hw.sel [] (by decide) rfl⟩
set_option maxRecDepth 100000 in
set_option maxHeartbeats 8000000 in
theorem w157_quirref_wrote (a0 : (List TOp)) (a1 : Int) (a2 : Int) (u0 : Value) (w : World) (r : Bool) (h : m157_quirref_wrote a0 a1 a2 = some r) (hA0 : At w u0 3 (a0.map TOp.row)) : Does Try.prog 157 [u0, .int .i64 a1, .int .i64 a2] w fun u m => u = .bool r ∧ m = [] := by
  rw [m157_quirref_wrote] at h
  refine body (n := 12) Try.func157 rfl rfl rfl (Cls.refl w) ?_
  refine W.seq (W.region (L.y rfl (Y.assign rfl) ?_))
  refine L.nil (E.thenN (W.seq (W.region (L.y rfl (Y.move rfl) ?_))))
  refine L.y rfl (Y.move rfl) ?_
  refine L.y rfl (Y.move rfl) ?_
  refine L.y rfl (Y.build (cells := #[.int .i64 a1, .int .i64 2, .int .i64 a2]) rfl (by kernel_rfl)) ?_
  obtain ⟨b1, e2, h⟩ := bind1S h
  refine L.y rfl (Y.does en148 rfl (fun w' hw => (w148_api_Op a0 (⟨a1, 2, a2⟩ : TOp) u0 w' _ e2 (hA0.cls0 hw)).mono (fun _ _ h => h.1))) ?_
  refine L.y rfl (Y.assign rfl) ?_
  refine L.nil (E.thenN (W.ret (E.ret1 rfl rfl (fun w1 hw => ?_))))
  obtain rfl := Option.some.inj h
  exact ⟨_, _, rfl, ⟨rfl, rfl⟩, hw⟩
set_option maxRecDepth 100000 in
set_option maxHeartbeats 8000000 in
theorem w158_quirref_commits (a0 : (List TOp)) (a1 : (List TDid)) (u0 : Value) (u1 : Value) (w : World) (r : (List Int)) (h : m158_quirref_commits a0 a1 = some r) (hA0 : At w u0 3 (a0.map TOp.row)) (hA1 : At w u1 2 (a1.map TDid.row)) : Does Try.prog 158 [u0, u1] w fun u m => ∃ v0, u = v0 ∧ m = [.sl v0 3 1 (r.map I)] := by
  rw [m158_quirref_commits] at h
  refine body (n := 31) Try.func158 rfl rfl rfl (Cls.refl w) ?_
  refine W.seq (W.region (L.y rfl (Y.assign rfl) ?_))
  refine L.nil (E.thenN (W.seq (W.region (L.y rfl (Y.assign rfl) ?_))))
  refine L.nil (E.thenN (W.seqJ (fun gs D => ∃ (gv1 : Value) (gl2 : (List Int)), gs = [(5, gv1)] ∧ D = Cls w [] [.sl gv1 3 1 (gl2.map I)] ∧ m158_quirref_commits_K1 gl2 = some r) ?_ ?_))
  ·
   refine W.seq (W.region (L.y rfl (Y.move rfl) ?_))
   refine L.y rfl (Y.lenM (g := TDid.row) (l := a1) Try.underlying147 rfl (fun w' hw => hA1.cls0 hw)) ?_
   refine L.y rfl (Y.move rfl) ?_
   refine L.nil (E.thenN (W.block (W.nilSl 3 1 ?_)))
   refine W.loopJ (fun m gs D => ∃ (gv3 : Value) (gl4 : (List Int)) (gx5 : Int), gs = [(0, u0), (5, gv3), (8, u1), (9, .int .i64 (a1.length : Int)), (10, .int .i64 gx5)] ∧ D = Cls w [] [.sl gv3 3 1 (gl4.map I)] ∧ m158_quirref_commits_L1 a1 a0 m gl4 gx5 = some r) ⟨.slice none 0 0, [], 0, rfl, rfl, h⟩ ⟨rfl, rfl, rfl, rfl, rfl, trivial⟩ (fun _ hw => hw) ?_
   rintro m _ _ ⟨gv3, gl4, gx5, rfl, rfl, h⟩
   rcases m with _ | m
   · rw [m158_quirref_commits_L1] at h; cases h
   rw [m158_quirref_commits_L1] at h
   generalize hg1 : m158_quirref_commits_L1 a1 a0 m = go1 at h
   rw [m158_quirref_commits_L1B] at h
   refine W.seq (W.region (L.ite h rfl (Y.lss rfl rfl) (fun c1 h => ?_) (fun c1 h => ?_)))
   ·
    refine L.nil (E.thenN (W.seq (W.condT rfl ?_)))
    refine W.skip (E.thenN (W.seq (W.block (W.seq (W.region (L.y rfl (Y.move rfl) ?_))))))
    refine L.m (V := fun _ => el u1 (gx5.toNat * 2)) h rfl (Y.indexM (g := TDid.row) (l := a1) Try.underlying147 sz152 rfl rfl (fun w' hw => hA1.cls0 hw)) (fun x2 ex2 h => ?_)
    refine L.y rfl (Y.loadEN (r := [.bool x2.OK, .int .i64 x2.From]) ag152 sz152 rfl (fun w' hw => hA1.cls0 hw) (idx_map ex2) rfl) ?_
    refine L.alloc rfl ze152 ?_
    intro b3
    refine L.y rfl (Y.assign rfl) ?_
    refine L.store (i := 0) sz152 rfl rfl rfl rfl (by simp [Value.oneCell', Value.cells, st, pt]) rfl (Nat.le_of_ble_eq_true rfl) ?_
    refine L.nil (E.thenN (W.seq (W.region (L.y rfl (Y.move rfl) ?_))))
    refine L.y rfl (Y.move rfl) ?_
    refine L.m (V := fun _ => el u0 (gx5.toNat * 3)) h rfl (Y.indexM (g := TOp.row) (l := a0) Try.underlying71 sz164 rfl rfl (fun w' hw => hA0.cls0 hw)) (fun x4 ex4 h => ?_)
    refine L.y rfl (Y.fieldE fd164_1 rfl) ?_
    refine L.y rfl (Y.loadE (u := .int .i64 x4.Kind) ag3 rfl (fun w' hw => hA0.cls0 hw) (idx_map ex4) rfl) ?_
    refine L.ite h rfl (Y.eql rfl rfl) (fun c5 h => ?_) (fun c5 h => ?_)
    ·
     refine L.y rfl (Y.move rfl) ?_
     refine L.take rfl (L.y rfl (Y.fieldP fd152_0 rfl) ?_)
     refine L.take rfl (L.iteB h rfl (Y.loadP (i := 0) ag4 rfl rfl rfl) (fun c6 h => ?_) (fun c6 h => ?_))
     ·
      refine L.y rfl (Y.pickT rfl rfl) ?_
      refine L.nil (E.thenN (W.condT rfl ?_))
      refine W.region (L.y rfl (Y.move rfl) ?_)
      refine L.y rfl (Y.move rfl) ?_
      refine L.litOne rfl Try.underlying24 el3 rfl rfl ?_
      intro b7
      refine L.appM (i := 2) (g := I) (l := gl4) (more := [gx5]) h rfl Try.underlying24 el3 rfl rfl rfl (fun w hw => As.at_ (hw.get (i := 0) rfl)) (plain_ints _) rfl ?_
      intro v8 l9 el9 h
      refine L.y rfl (Y.assign rfl) ?_
      refine L.nil (E.blockN (E.thenN (W.region (L.m (V := fun x10 => .int .i64 x10) h rfl (Y.addM rfl rfl) (fun x10 ex10 h => ?_)))))
      refine L.y rfl (Y.move rfl) ?_
      exact L.nil (E.againJ ⟨v8, l9, x10, rfl, rfl, by rw [hg1]; exact h⟩ (Nat.lt_succ_self _) ⟨rfl, rfl, rfl, rfl, rfl, trivial⟩ (fun _ hw => hw.sel [0] (by decide) rfl))
     ·
      refine L.y rfl (Y.pickT rfl rfl) ?_
      refine L.nil (E.thenN (W.condF rfl ?_))
      refine W.skip (E.blockN (E.thenN (W.region (L.m (V := fun x11 => .int .i64 x11) h rfl (Y.addM rfl rfl) (fun x11 ex11 h => ?_)))))
      refine L.y rfl (Y.move rfl) ?_
      exact L.nil (E.againJ ⟨gv3, gl4, x11, rfl, rfl, by rw [hg1]; exact h⟩ (Nat.lt_succ_self _) ⟨rfl, rfl, rfl, rfl, rfl, trivial⟩ (fun _ hw => hw.sel [1] (by decide) rfl))
    ·
     refine L.y rfl (Y.move rfl) ?_
     refine L.pass rfl rfl (by nofun) ?_
     refine L.pass rfl rfl (by nofun) ?_
     refine L.y rfl (Y.pickF rfl rfl) ?_
     refine L.nil (E.thenN (W.condF rfl ?_))
     refine W.skip (E.blockN (E.thenN (W.region (L.m (V := fun x12 => .int .i64 x12) h rfl (Y.addM rfl rfl) (fun x12 ex12 h => ?_)))))
     refine L.y rfl (Y.move rfl) ?_
     exact L.nil (E.againJ ⟨gv3, gl4, x12, rfl, rfl, by rw [hg1]; exact h⟩ (Nat.lt_succ_self _) ⟨rfl, rfl, rfl, rfl, rfl, trivial⟩ (fun _ hw => hw.sel [1] (by decide) rfl))
   ·
    refine L.nil (E.thenN (W.seq (W.condF rfl ?_)))
    exact W.exit (E.thenX (E.KLX (E.blockX (E.joinJ ⟨gv3, gl4, rfl, rfl, h⟩ ⟨rfl, trivial⟩ (fun _ hw => hw)))))
  ·
   rintro _ _ ⟨gv1, gl2, rfl, rfl, h⟩
   rw [m158_quirref_commits_K1] at h
   refine W.seq (W.region (L.y rfl (Y.move rfl) ?_))
   refine L.y rfl (Y.assign rfl) ?_
   refine L.nil (E.thenN (W.ret (E.ret1 rfl rfl (fun w1 hw => ?_))))
   obtain rfl := Option.some.inj h
   exact ⟨_, _, rfl, ⟨_, rfl, rfl⟩, hw⟩
set_option maxRecDepth 100000 in
set_option maxHeartbeats 8000000 in
theorem w166_quirref_nth (a0 : (List TOp)) (a1 : Int) (a2 : Int) (u0 : Value) (w : World) (r : Int) (h : m166_quirref_nth a0 a1 a2 = some r) (hA0 : At w u0 3 (a0.map TOp.row)) : Does Try.prog 166 [u0, .int .i64 a1, .int .i64 a2] w fun u m => u = .int .i64 r ∧ m = [] := by
  rw [m166_quirref_nth] at h
  refine body (n := 26) Try.func166 rfl rfl rfl (Cls.refl w) ?_
  refine W.seq (W.region (L.y rfl (Y.assign rfl) ?_))
  refine L.nil (E.thenN (W.seqJ (fun gs D => gs = [] ∧ D = Cls w [] [] ∧ m166_quirref_nth_K1 = some r) ?_ ?_))
  ·
   refine W.seq (W.region (L.y rfl (Y.move rfl) ?_))
   refine L.y rfl (Y.lenM (g := TOp.row) (l := a0) Try.underlying71 rfl (fun w' hw => hA0.cls0 hw)) ?_
   refine L.y rfl (Y.move rfl) ?_
   refine L.nil (E.thenN (W.block (W.loopJ (fun m gs D => ∃ (gx1 : Int) (gx2 : Int), gs = [(1, .int .i64 a1), (2, .int .i64 gx1), (9, u0), (10, .int .i64 (a0.length : Int)), (11, .int .i64 gx2)] ∧ D = Cls w [] [] ∧ m166_quirref_nth_L1 a0 a1 m gx1 gx2 = some r) ⟨a2, 0, rfl, rfl, h⟩ ⟨rfl, rfl, rfl, rfl, rfl, trivial⟩ (fun _ hw => hw) ?_)))
   rintro m _ _ ⟨gx1, gx2, rfl, rfl, h⟩
   rcases m with _ | m
   · rw [m166_quirref_nth_L1] at h; cases h
   rw [m166_quirref_nth_L1] at h
   generalize hg1 : m166_quirref_nth_L1 a0 a1 m = go1 at h
   rw [m166_quirref_nth_L1B] at h
   refine W.seq (W.region (L.ite h rfl (Y.lss rfl rfl) (fun c1 h => ?_) (fun c1 h => ?_)))
   ·
    refine L.nil (E.thenN (W.seq (W.condT rfl ?_)))
    refine W.skip (E.thenN (W.seqJ (fun gs D => ∃ (gx3 : Int), gs = [(1, .int .i64 a1), (2, .int .i64 gx3), (9, u0), (10, .int .i64 (a0.length : Int)), (11, .int .i64 gx2)] ∧ D = Cls w [] [] ∧ m166_quirref_nth_K2 gx2 go1 gx3 = some r) ?_ ?_))
    ·
     refine W.block (W.seq (W.region (L.y rfl (Y.move rfl) ?_)))
     refine L.m (V := fun _ => el u0 (gx2.toNat * 3)) h rfl (Y.indexM (g := TOp.row) (l := a0) Try.underlying71 sz164 rfl rfl (fun w' hw => hA0.cls0 hw)) (fun x3 ex3 h => ?_)
     refine L.y rfl (Y.loadEN (r := [.int .i64 x3.Tx, .int .i64 x3.Kind, .int .i64 x3.Item]) ag164 sz164 rfl (fun w' hw => hA0.cls0 hw) (idx_map ex3) rfl) ?_
     refine L.alloc rfl ze164 ?_
     intro b4
     refine L.y rfl (Y.assign rfl) ?_
     refine L.store (i := 0) sz164 rfl rfl rfl rfl (by simp [Value.oneCell', Value.cells, st, pt]) rfl (Nat.le_of_ble_eq_true rfl) ?_
     refine L.nil (E.thenN (W.seq (W.seq (W.region (L.y rfl (Y.fieldP fd164_0 rfl) ?_)))))
     refine L.y rfl (Y.loadP (i := 0) ag3 rfl rfl rfl) ?_
     refine L.y rfl (Y.move rfl) ?_
     refine L.ite h rfl (Y.neq rfl rfl) (fun c5 h => ?_) (fun c5 h => ?_)
     ·
      refine L.nil (E.thenN (W.condT rfl ?_))
      exact W.exit (E.thenX (E.blockX (E.joinJ ⟨gx1, rfl, rfl, h⟩ ⟨rfl, rfl, rfl, rfl, rfl, trivial⟩ (fun _ hw => hw.sel [] (by decide) rfl))))
     ·
      refine L.nil (E.thenN (W.condF rfl ?_))
      refine W.skip (E.thenN (W.seq (W.seq (W.region (L.y rfl (Y.move rfl) ?_)))))
      refine L.ite h rfl (Y.eql rfl rfl) (fun c6 h => ?_) (fun c6 h => ?_)
      ·
       refine L.nil (E.thenN (W.condT rfl ?_))
       refine W.seq (W.region (L.y rfl (Y.move rfl) ?_))
       refine L.y rfl (Y.assign rfl) ?_
       refine L.nil (E.thenN (W.ret (E.thenR (E.blockR (E.KSR (E.KLR (E.blockR (E.KSR (E.ret1 rfl rfl (fun w1 hw => ?_))))))))))
       obtain rfl := Option.some.inj h
       exact ⟨_, _, rfl, ⟨rfl, rfl⟩, hw.sel [] (by decide) rfl⟩
      ·
       refine L.nil (E.thenN (W.condF rfl ?_))
       refine W.skip (E.thenN (W.region (L.y rfl (Y.move rfl) ?_)))
       refine L.m (V := fun x7 => .int .i64 x7) h rfl (Y.subM rfl rfl) (fun x7 ex7 h => ?_)
       refine L.y rfl (Y.assign rfl) ?_
       exact L.nil (E.blockN (E.joinJ ⟨x7, rfl, rfl, h⟩ ⟨rfl, rfl, rfl, rfl, rfl, trivial⟩ (fun _ hw => hw.sel [] (by decide) rfl)))
    ·
     rintro _ _ ⟨gx3, rfl, rfl, h⟩
     rw [m166_quirref_nth_K2] at h
     refine W.region (L.m (V := fun x2 => .int .i64 x2) h rfl (Y.addM rfl rfl) (fun x2 ex2 h => ?_))
     refine L.y rfl (Y.move rfl) ?_
     exact L.nil (E.againJ ⟨gx3, x2, rfl, rfl, by rw [hg1]; exact h⟩ (Nat.lt_succ_self _) ⟨rfl, rfl, rfl, rfl, rfl, trivial⟩ (fun _ hw => hw))
   ·
    refine L.nil (E.thenN (W.seq (W.condF rfl ?_)))
    exact W.exit (E.thenX (E.KLX (E.blockX (E.joinJ ⟨rfl, rfl, h⟩ trivial (fun _ hw => hw)))))
  ·
   rintro _ _ ⟨rfl, rfl, h⟩
   rw [m166_quirref_nth_K1] at h
   refine W.seq (W.region (L.y rfl (Y.assign rfl) ?_))
   refine L.nil (E.thenN (W.ret (E.ret1 rfl rfl (fun w1 hw => ?_))))
   obtain rfl := Option.some.inj h
   exact ⟨_, _, rfl, ⟨rfl, rfl⟩, hw⟩
set_option maxRecDepth 100000 in
set_option maxHeartbeats 8000000 in
theorem w159_quirref_begins (a0 : (List TOp)) (a1 : Int) (u0 : Value) (w : World) (r : Int) (h : m159_quirref_begins a0 a1 = some r) (hA0 : At w u0 3 (a0.map TOp.row)) : Does Try.prog 159 [u0, .int .i64 a1] w fun u m => u = .int .i64 r ∧ m = [] := by
  rw [m159_quirref_begins] at h
  refine body (n := 8) Try.func159 rfl rfl rfl (Cls.refl w) ?_
  refine W.seq (W.region (L.y rfl (Y.assign rfl) ?_))
  refine L.nil (E.thenN (W.seq (W.region (L.y rfl (Y.move rfl) ?_))))
  refine L.y rfl (Y.move rfl) ?_
  obtain ⟨x1, e2, h⟩ := bind1S h
  refine L.y rfl (Y.does en166 rfl (fun w' hw => (w166_quirref_nth a0 a1 0 u0 w' _ e2 (hA0.cls0 hw)).mono (fun _ _ h => h.1))) ?_
  refine L.y rfl (Y.assign rfl) ?_
  refine L.nil (E.thenN (W.ret (E.ret1 rfl rfl (fun w1 hw => ?_))))
  obtain rfl := Option.some.inj h
  exact ⟨_, _, rfl, ⟨rfl, rfl⟩, hw⟩
set_option maxRecDepth 100000 in
set_option maxHeartbeats 8000000 in
theorem w141_quirref_snapFrom (a0 : (List TOp)) (a1 : (List TDid)) (a2 : Int) (u0 : Value) (u1 : Value) (w : World) (r : Int) (h : m141_quirref_snapFrom a0 a1 a2 = some r) (hA0 : At w u0 3 (a0.map TOp.row)) (hA1 : At w u1 2 (a1.map TDid.row)) : Does Try.prog 141 [u0, u1, .int .i64 a2] w fun u m => u = .int .i64 r ∧ m = [] := by
  rw [m141_quirref_snapFrom] at h
  refine body (n := 59) Try.func141 rfl rfl rfl (Cls.refl w) ?_
  refine W.seq (W.region (L.y rfl (Y.assign rfl) ?_))
  refine L.nil (E.thenN (W.seq (W.region (L.y rfl (Y.move rfl) ?_))))
  refine L.y rfl (Y.move rfl) ?_
  refine L.m (V := fun _ => el u0 (a2.toNat * 3)) h rfl (Y.indexM (g := TOp.row) (l := a0) Try.underlying71 sz164 rfl rfl (fun w' hw => hA0.cls0 hw)) (fun x1 ex1 h => ?_)
  refine L.y rfl (Y.loadEN (r := [.int .i64 x1.Tx, .int .i64 x1.Kind, .int .i64 x1.Item]) ag164 sz164 rfl (fun w' hw => hA0.cls0 hw) (idx_map ex1) rfl) ?_
  refine L.alloc rfl ze164 ?_
  intro b2
  refine L.store (i := 0) sz164 rfl rfl rfl rfl (by simp [Value.oneCell', Value.cells, st, pt]) rfl (Nat.le_of_ble_eq_true rfl) ?_
  refine L.nil (E.thenN (W.seqJ (fun gs D => gs = [(0, u0), (1, u1), (7, pt b2 0)] ∧ D = Cls w [] [.obj b2 [.int .i64 x1.Tx, .int .i64 x1.Kind, .int .i64 x1.Item] 164] ∧ m141_quirref_snapFrom_K1 a0 a1 x1 = some r) ?_ ?_))
  ·
   refine W.seq (W.quietC mixed (by kernel_rfl) (fun _ hw => hw.drew) (fun hC => ?_))
   refine U.y rfl (Y.move rfl) ?_
   refine U.y rfl (Y.move rfl) ?_
   refine U.m (V := fun _ => cutv u0 a2.toNat) h rfl (Y.cutM (g := TOp.row) Try.underlying71 sz164 rfl rfl (fun w' hw => hA0.cls0 hw)) (fun l19 el19 h => ?_)
   refine U.y rfl (Y.fieldP fd164_0 rfl) ?_
   refine U.y rfl (Y.loadP (i := 0) ag3 rfl rfl rfl) ?_
   refine U.y rfl (Y.fieldP fd164_2 rfl) ?_
   refine U.y rfl (Y.loadP (i := 0) ag3 rfl rfl rfl) ?_
   obtain ⟨b20, e21, h⟩ := bind1S h
   refine U.y rfl (Y.does en157 rfl (fun w' hw => (w157_quirref_wrote l19 x1.Tx x1.Item (cutv u0 a2.toNat) w' _ e21 ((At.cutM hA0 el19).cls0 hw)).mono (fun _ _ h => h.1))) ?_
   rcases b20 with _ | _
   ·
    replace h := iteF h
    refine U.nil (E.thenN (W.condF rfl ?_))
    exact W.skip (E.joinJ ⟨rfl, rfl, h⟩ ⟨rfl, rfl, rfl, trivial⟩ (fun _ hw => hw))
   ·
    replace h := iteT h
    refine U.nil (E.thenN (W.condT rfl ?_))
    refine W.seq (W.region (L.y rfl (Y.fieldP fd164_0 rfl) ?_))
    refine L.y rfl (Y.loadP (i := 0) ag3 rfl rfl rfl) ?_
    refine L.y rfl (Y.assign rfl) ?_
    refine L.nil (E.thenN (W.ret (E.KSR (E.ret1 rfl rfl (fun w1 hw => ?_)))))
    obtain rfl := Option.some.inj h
    exact ⟨_, _, rfl, ⟨rfl, rfl⟩, hw.sel [] (by decide) rfl⟩
  ·
   rintro _ _ ⟨rfl, rfl, h⟩
   rw [m141_quirref_snapFrom_K1] at h
   refine W.seq (W.region (L.y rfl (Y.assign rfl) ?_))
   refine L.nil (E.thenN (W.seqJ (fun gs D => ∃ (gx1 : Int), gs = [(8, .int .i64 gx1)] ∧ D = Cls w [] [] ∧ m141_quirref_snapFrom_K2 gx1 = some r) ?_ ?_))
   ·
    refine W.seq (W.region (L.y rfl (Y.move rfl) ?_))
    refine L.y rfl (Y.move rfl) ?_
    obtain ⟨l3, e5, h⟩ := bind1S h
    refine L.does rfl en158 rfl (fun w' hw => w158_quirref_commits a0 a1 u0 u1 w' _ e5 (hA0.cls0 hw) (hA1.cls0 hw)) ?_
    rintro v4 _ ⟨_, rfl, rfl⟩
    refine L.y rfl (Y.lenM (g := I) (l := l3) Try.underlying24 rfl (fun w hw => As.at_ (hw.get (i := 0) rfl))) ?_
    refine L.y rfl (Y.move rfl) ?_
    refine L.nil (E.thenN (W.block (W.loopJ (fun m gs D => ∃ (gx2 : Int) (gx3 : Int), gs = [(0, u0), (7, pt b2 0), (8, .int .i64 gx2), (27, v4), (28, .int .i64 (l3.length : Int)), (29, .int .i64 gx3)] ∧ D = Cls w [] [.obj b2 [.int .i64 x1.Tx, .int .i64 x1.Kind, .int .i64 x1.Item] 164, .sl v4 3 1 (l3.map I)] ∧ m141_quirref_snapFrom_L1 l3 a0 x1 m gx2 gx3 = some r) ⟨(-1), 0, rfl, rfl, h⟩ ⟨rfl, rfl, rfl, rfl, rfl, rfl, trivial⟩ (fun _ hw => hw.sel [1, 0] (by decide) rfl) ?_)))
    rintro m _ _ ⟨gx2, gx3, rfl, rfl, h⟩
    rcases m with _ | m
    · rw [m141_quirref_snapFrom_L1] at h; cases h
    rw [m141_quirref_snapFrom_L1] at h
    generalize hg1 : m141_quirref_snapFrom_L1 l3 a0 x1 m = go1 at h
    rw [m141_quirref_snapFrom_L1B] at h
    refine W.seq (W.region (L.ite h rfl (Y.lss rfl rfl) (fun c6 h => ?_) (fun c6 h => ?_)))
    ·
     refine L.nil (E.thenN (W.seq (W.condT rfl ?_)))
     refine W.skip (E.thenN (W.seq (W.block (W.seq (W.region (L.m (V := fun _ => el v4 (gx3.toNat * 1)) h rfl (Y.indexM (g := I) (l := l3) Try.underlying24 sz3 rfl rfl (fun w hw => As.at_ (hw.get (i := 1) rfl))) (fun x7 ex7 h => ?_)))))))
     refine L.y rfl (Y.loadE1 (u := .int .i64 x7) ag3 rfl (fun w hw => As.at_ (hw.get (i := 1) rfl)) (idx_map ex7)) ?_
     refine L.y rfl (Y.assign rfl) ?_
     refine L.nil (E.thenN (W.seq (W.quietC mixed (by kernel_rfl) (fun _ hw => hw.drew) (fun hC => ?_))))
     refine U.y rfl (Y.move rfl) ?_
     refine U.y rfl (Y.move rfl) ?_
     refine U.y rfl (Y.fieldP fd164_0 rfl) ?_
     refine U.y rfl (Y.loadP (i := 0) ag3 rfl rfl rfl) ?_
     obtain ⟨x8, e9, h⟩ := bind1S h
     refine U.y rfl (Y.does en159 rfl (fun w' hw => (w159_quirref_begins a0 x1.Tx u0 w' _ e9 (hA0.cls0 hw)).mono (fun _ _ h => h.1))) ?_
     refine U.ite h rfl (Y.lss rfl rfl) (fun c10 h => ?_) (fun c10 h => ?_)
     ·
      refine U.y rfl (Y.move rfl) ?_
      refine U.take rfl (U.y rfl (Y.move rfl) ?_)
      refine U.take rfl (U.y rfl (Y.move rfl) ?_)
      refine U.take rfl (U.m (V := fun _ => cutv u0 x7.toNat) h rfl (Y.cutM (g := TOp.row) Try.underlying71 sz164 rfl rfl (fun w' hw => hA0.cls0 hw)) (fun l11 el11 h => ?_))
      refine U.take rfl (U.y rfl (Y.move rfl) ?_)
      refine U.take rfl (U.y rfl (Y.move rfl) ?_)
      refine U.take rfl (U.m (V := fun _ => el u0 (x7.toNat * 3)) h rfl (Y.indexM (g := TOp.row) (l := a0) Try.underlying71 sz164 rfl rfl (fun w' hw => hA0.cls0 hw)) (fun x12 ex12 h => ?_))
      refine U.take rfl (U.y rfl (Y.fieldE fd164_0 rfl) ?_)
      refine U.take rfl (U.y rfl (Y.loadE (u := .int .i64 x12.Tx) ag3 rfl (fun w' hw => hA0.cls0 hw) (idx_map ex12) rfl) ?_)
      refine U.take rfl (U.y rfl (Y.fieldP fd164_2 rfl) ?_)
      refine U.take rfl (U.y rfl (Y.loadP (i := 0) ag3 rfl rfl rfl) ?_)
      refine U.take rfl ?_
      obtain ⟨b13, e14, h⟩ := bind1S h
      refine U.y rfl (Y.does en157 rfl (fun w' hw => (w157_quirref_wrote l11 x12.Tx x1.Item (cutv u0 x7.toNat) w' _ e14 ((At.cutM hA0 el11).cls0 hw)).mono (fun _ _ h => h.1))) ?_
      rcases b13 with _ | _
      ·
       replace h := iteF h
       refine U.y rfl (Y.pickT rfl rfl) ?_
       refine U.nil (E.thenN (W.condF rfl ?_))
       refine W.skip (E.blockN (E.thenN (W.region (L.m (V := fun x15 => .int .i64 x15) h rfl (Y.addM rfl rfl) (fun x15 ex15 h => ?_)))))
       refine L.y rfl (Y.move rfl) ?_
       exact L.nil (E.againJ ⟨gx2, x15, rfl, rfl, by rw [hg1]; exact h⟩ (Nat.lt_succ_self _) ⟨rfl, rfl, rfl, rfl, rfl, rfl, trivial⟩ (fun _ hw => hw))
      ·
       replace h := iteT h
       refine U.y rfl (Y.pickT rfl rfl) ?_
       refine U.nil (E.thenN (W.condT rfl ?_))
       refine W.region (L.y rfl (Y.move rfl) ?_)
       refine L.y rfl (Y.move rfl) ?_
       refine L.m (V := fun _ => el u0 (x7.toNat * 3)) h rfl (Y.indexM (g := TOp.row) (l := a0) Try.underlying71 sz164 rfl rfl (fun w' hw => hA0.cls0 hw)) (fun x16 ex16 h => ?_)
       refine L.y rfl (Y.fieldE fd164_0 rfl) ?_
       refine L.y rfl (Y.loadE (u := .int .i64 x16.Tx) ag3 rfl (fun w' hw => hA0.cls0 hw) (idx_map ex16) rfl) ?_
       refine L.y rfl (Y.assign rfl) ?_
       refine L.nil (E.blockN (E.thenN (W.region (L.m (V := fun x17 => .int .i64 x17) h rfl (Y.addM rfl rfl) (fun x17 ex17 h => ?_)))))
       refine L.y rfl (Y.move rfl) ?_
       exact L.nil (E.againJ ⟨x16.Tx, x17, rfl, rfl, by rw [hg1]; exact h⟩ (Nat.lt_succ_self _) ⟨rfl, rfl, rfl, rfl, rfl, rfl, trivial⟩ (fun _ hw => hw))
     ·
      refine U.y rfl (Y.move rfl) ?_
      refine U.pass rfl rfl (by nofun) ?_
      refine U.pass rfl rfl (by nofun) ?_
      refine U.pass rfl rfl (by nofun) ?_
      refine U.pass rfl rfl (by nofun) ?_
      refine U.pass rfl rfl (by nofun) ?_
      refine U.pass rfl rfl (by nofun) ?_
      refine U.pass rfl rfl (by nofun) ?_
      refine U.pass rfl rfl (by nofun) ?_
      refine U.pass rfl rfl (by nofun) ?_
      refine U.pass rfl rfl (by nofun) ?_
      refine U.pass rfl rfl (by nofun) ?_
      refine U.y rfl (Y.pickF rfl rfl) ?_
      refine U.nil (E.thenN (W.condF rfl ?_))
      refine W.skip (E.blockN (E.thenN (W.region (L.m (V := fun x18 => .int .i64 x18) h rfl (Y.addM rfl rfl) (fun x18 ex18 h => ?_)))))
      refine L.y rfl (Y.move rfl) ?_
      exact L.nil (E.againJ ⟨gx2, x18, rfl, rfl, by rw [hg1]; exact h⟩ (Nat.lt_succ_self _) ⟨rfl, rfl, rfl, rfl, rfl, rfl, trivial⟩ (fun _ hw => hw))
    ·
     refine L.nil (E.thenN (W.seq (W.condF rfl ?_)))
     exact W.exit (E.thenX (E.KLX (E.blockX (E.joinJ ⟨gx2, rfl, rfl, h⟩ ⟨rfl, trivial⟩ (fun _ hw => hw.sel [] (by decide) rfl)))))
   ·
    rintro _ _ ⟨gx1, rfl, rfl, h⟩
    rw [m141_quirref_snapFrom_K2] at h
    refine W.seq (W.region (L.y rfl (Y.move rfl) ?_))
    refine L.y rfl (Y.assign rfl) ?_
    refine L.nil (E.thenN (W.ret (E.ret1 rfl rfl (fun w1 hw => ?_))))
    obtain rfl := Option.some.inj h
    exact ⟨_, _, rfl, ⟨rfl, rfl⟩, hw⟩
set_option maxRecDepth 100000 in
set_option maxHeartbeats 8000000 in
theorem w142_quirref_lost (a0 : (List TOp)) (a1 : (List TDid)) (a2 : Int) (u0 : Value) (u1 : Value) (w : World) (r : Bool) (h : m142_quirref_lost a0 a1 a2 = some r) (hA0 : At w u0 3 (a0.map TOp.row)) (hA1 : At w u1 2 (a1.map TDid.row)) : Does Try.prog 142 [u0, u1, .int .i64 a2] w fun u m => u = .bool r ∧ m = [] := by
  rw [m142_quirref_lost] at h
  refine body (n := 54) Try.func142 rfl rfl rfl (Cls.refl w) ?_
  refine W.seq (W.region (L.y rfl (Y.assign rfl) ?_))
  refine L.nil (E.thenN (W.seq (W.region (L.y rfl (Y.move rfl) ?_))))
  refine L.y rfl (Y.move rfl) ?_
  refine L.m (V := fun _ => el u0 (a2.toNat * 3)) h rfl (Y.indexM (g := TOp.row) (l := a0) Try.underlying71 sz164 rfl rfl (fun w' hw => hA0.cls0 hw)) (fun x1 ex1 h => ?_)
  refine L.y rfl (Y.fieldE fd164_0 rfl) ?_
  refine L.y rfl (Y.loadE (u := .int .i64 x1.Tx) ag3 rfl (fun w' hw => hA0.cls0 hw) (idx_map ex1) rfl) ?_
  refine L.y rfl (Y.assign rfl) ?_
  refine L.nil (E.thenN (W.seqJ (fun gs D => gs = [] ∧ D = Cls w [] [] ∧ m142_quirref_lost_K1 = some r) ?_ ?_))
  ·
   refine W.seq (W.region (L.y rfl (Y.move rfl) ?_))
   refine L.y rfl (Y.move rfl) ?_
   obtain ⟨l2, e4, h⟩ := bind1S h
   refine L.does rfl en158 rfl (fun w' hw => w158_quirref_commits a0 a1 u0 u1 w' _ e4 (hA0.cls0 hw) (hA1.cls0 hw)) ?_
   rintro v3 _ ⟨_, rfl, rfl⟩
   refine L.y rfl (Y.lenM (g := I) (l := l2) Try.underlying24 rfl (fun w hw => As.at_ (hw.get (i := 0) rfl))) ?_
   refine L.y rfl (Y.move rfl) ?_
   refine L.nil (E.thenN (W.block (W.loopJ (fun m gs D => ∃ (gx1 : Int), gs = [(0, u0), (2, .int .i64 a2), (7, .int .i64 x1.Tx), (18, v3), (19, .int .i64 (l2.length : Int)), (20, .int .i64 gx1)] ∧ D = Cls w [] [.sl v3 3 1 (l2.map I)] ∧ m142_quirref_lost_L1 l2 a0 x1 a2 m gx1 = some r) ⟨0, rfl, rfl, h⟩ ⟨rfl, rfl, rfl, rfl, rfl, rfl, trivial⟩ (fun _ hw => hw) ?_)))
   rintro m _ _ ⟨gx1, rfl, rfl, h⟩
   rcases m with _ | m
   · rw [m142_quirref_lost_L1] at h; cases h
   rw [m142_quirref_lost_L1] at h
   generalize hg1 : m142_quirref_lost_L1 l2 a0 x1 a2 m = go1 at h
   rw [m142_quirref_lost_L1B] at h
   refine W.seq (W.region (L.ite h rfl (Y.lss rfl rfl) (fun c5 h => ?_) (fun c5 h => ?_)))
   ·
    refine L.nil (E.thenN (W.seq (W.condT rfl ?_)))
    refine W.skip (E.thenN (W.seqJ (fun gs D => gs = [(0, u0), (2, .int .i64 a2), (7, .int .i64 x1.Tx), (18, v3), (19, .int .i64 (l2.length : Int)), (20, .int .i64 gx1)] ∧ D = Cls w [] [.sl v3 3 1 (l2.map I)] ∧ m142_quirref_lost_K2 gx1 go1 = some r) ?_ ?_))
    ·
     refine W.block (W.seq (W.region (L.m (V := fun _ => el v3 (gx1.toNat * 1)) h rfl (Y.indexM (g := I) (l := l2) Try.underlying24 sz3 rfl rfl (fun w hw => As.at_ (hw.get (i := 0) rfl))) (fun x7 ex7 h => ?_))))
     refine L.y rfl (Y.loadE1 (u := .int .i64 x7) ag3 rfl (fun w hw => As.at_ (hw.get (i := 0) rfl)) (idx_map ex7)) ?_
     refine L.y rfl (Y.assign rfl) ?_
     refine L.nil (E.thenN (W.seq (W.region (L.y rfl (Y.move rfl) ?_))))
     refine L.nil (E.thenN (W.block (W.loopJ (fun m gs D => ∃ (gx2 : Int), gs = [(0, u0), (2, .int .i64 a2), (7, .int .i64 x1.Tx), (9, .int .i64 x7), (18, v3), (19, .int .i64 (l2.length : Int)), (20, .int .i64 gx1), (24, .int .i64 gx2)] ∧ D = Cls w [] [.sl v3 3 1 (l2.map I)] ∧ m142_quirref_lost_L2 a0 x1 x7 a2 gx1 go1 m gx2 = some r) ⟨0, rfl, rfl, h⟩ ⟨rfl, rfl, rfl, rfl, rfl, rfl, rfl, rfl, trivial⟩ (fun _ hw => hw) ?_)))
     rintro m _ _ ⟨gx2, rfl, rfl, h⟩
     rcases m with _ | m
     · rw [m142_quirref_lost_L2] at h; cases h
     rw [m142_quirref_lost_L2] at h
     generalize hg2 : m142_quirref_lost_L2 a0 x1 x7 a2 gx1 go1 m = go2 at h
     rw [m142_quirref_lost_L2B] at h
     refine W.seq (W.region (L.ite h rfl (Y.lss rfl rfl) (fun c8 h => ?_) (fun c8 h => ?_)))
     ·
      refine L.nil (E.thenN (W.seq (W.condT rfl ?_)))
      refine W.skip (E.thenN (W.seq (W.block (W.seq (W.region (L.y rfl (Y.move rfl) ?_))))))
      refine L.y rfl (Y.assign rfl) ?_
      refine L.nil (E.thenN (W.seq (W.quietC mixed (by kernel_rfl) (fun _ hw => hw.drew) (fun hC => ?_))))
      refine U.cutJ hC 17 (fun gs => ∃ (gb3 : Bool), gs = [(0, u0), (2, .int .i64 a2), (7, .int .i64 x1.Tx), (9, .int .i64 x7), (10, .int .i64 gx2), (18, v3), (19, .int .i64 (l2.length : Int)), (20, .int .i64 gx1), (24, .int .i64 gx2), (43, .bool gb3)] ∧ m142_quirref_lost_K3 a0 a2 x1 gx2 go2 gb3 = some r) ?_ ?_
      ·
       refine U.y rfl (Y.move rfl) ?_
       refine U.y rfl (Y.move rfl) ?_
       refine U.y rfl (Y.move rfl) ?_
       obtain ⟨x14, e15, h⟩ := bind1S h
       refine U.y rfl (Y.does en159 rfl (fun w' hw => (w159_quirref_begins a0 x1.Tx u0 w' _ e15 (hA0.cls0 hw)).mono (fun _ _ h => h.1))) ?_
       refine U.ite h rfl (Y.gtr rfl rfl) (fun c16 h => ?_) (fun c16 h => ?_)
       ·
        refine U.y rfl (Y.move rfl) ?_
        refine U.take rfl (U.y rfl (Y.move rfl) ?_)
        refine U.take rfl (U.y rfl (Y.move rfl) ?_)
        refine U.take rfl (U.m (V := fun _ => cutv u0 x7.toNat) h rfl (Y.cutM (g := TOp.row) Try.underlying71 sz164 rfl rfl (fun w' hw => hA0.cls0 hw)) (fun l17 el17 h => ?_))
        refine U.take rfl (U.y rfl (Y.move rfl) ?_)
        refine U.take rfl (U.y rfl (Y.move rfl) ?_)
        refine U.take rfl (U.m (V := fun _ => el u0 (x7.toNat * 3)) h rfl (Y.indexM (g := TOp.row) (l := a0) Try.underlying71 sz164 rfl rfl (fun w' hw => hA0.cls0 hw)) (fun x18 ex18 h => ?_))
        refine U.take rfl (U.y rfl (Y.fieldE fd164_0 rfl) ?_)
        refine U.take rfl (U.y rfl (Y.loadE (u := .int .i64 x18.Tx) ag3 rfl (fun w' hw => hA0.cls0 hw) (idx_map ex18) rfl) ?_)
        refine U.take rfl (U.y rfl (Y.move rfl) ?_)
        refine U.take rfl ?_
        obtain ⟨b19, e20, h⟩ := bind1S h
        refine U.y rfl (Y.does en157 rfl (fun w' hw => (w157_quirref_wrote l17 x18.Tx gx2 (cutv u0 x7.toNat) w' _ e20 ((At.cutM hA0 el17).cls0 hw)).mono (fun _ _ h => h.1))) ?_
        rcases b19 with _ | _
        ·
         replace h := iteF h
         refine U.y rfl (Y.pickT rfl rfl) ?_
         exact U.nil (E.joinU ⟨false, rfl, h⟩ ⟨rfl, rfl, rfl, rfl, rfl, rfl, rfl, rfl, rfl, rfl, trivial⟩)
        ·
         replace h := iteT h
         refine U.y rfl (Y.pickT rfl rfl) ?_
         exact U.nil (E.joinU ⟨true, rfl, h⟩ ⟨rfl, rfl, rfl, rfl, rfl, rfl, rfl, rfl, rfl, rfl, trivial⟩)
       ·
        refine U.y rfl (Y.move rfl) ?_
        refine U.pass rfl rfl (by nofun) ?_
        refine U.pass rfl rfl (by nofun) ?_
        refine U.pass rfl rfl (by nofun) ?_
        refine U.pass rfl rfl (by nofun) ?_
        refine U.pass rfl rfl (by nofun) ?_
        refine U.pass rfl rfl (by nofun) ?_
        refine U.pass rfl rfl (by nofun) ?_
        refine U.pass rfl rfl (by nofun) ?_
        refine U.pass rfl rfl (by nofun) ?_
        refine U.pass rfl rfl (by nofun) ?_
        refine U.y rfl (Y.pickF rfl rfl) ?_
        exact U.nil (E.joinU ⟨false, rfl, h⟩ ⟨rfl, rfl, rfl, rfl, rfl, rfl, rfl, rfl, rfl, rfl, trivial⟩)
      ·
       rintro _ ⟨gb3, rfl, h⟩
       rw [m142_quirref_lost_K3] at h
       rcases gb3 with _ | _
       ·
        replace h := iteF h
        refine U.y rfl (Y.move rfl) ?_
        refine U.pass rfl rfl (by nofun) ?_
        refine U.pass rfl rfl (by nofun) ?_
        refine U.pass rfl rfl (by nofun) ?_
        refine U.pass rfl rfl (by nofun) ?_
        refine U.pass rfl rfl (by nofun) ?_
        refine U.pass rfl rfl (by nofun) ?_
        refine U.y rfl (Y.pickF rfl rfl) ?_
        refine U.nil (E.thenN (W.condF rfl ?_))
        refine W.skip (E.blockN (E.thenN (W.region (L.m (V := fun x9 => .int .i64 x9) h rfl (Y.addM rfl rfl) (fun x9 ex9 h => ?_)))))
        refine L.y rfl (Y.move rfl) ?_
        exact L.nil (E.againJ ⟨x9, rfl, rfl, by rw [hg2]; exact h⟩ (Nat.lt_succ_self _) ⟨rfl, rfl, rfl, rfl, rfl, rfl, rfl, rfl, trivial⟩ (fun _ hw => hw))
       ·
        replace h := iteT h
        refine U.y rfl (Y.move rfl) ?_
        refine U.take rfl (U.y rfl (Y.move rfl) ?_)
        refine U.take rfl (U.y rfl (Y.move rfl) ?_)
        refine U.take rfl (U.m (V := fun _ => cutv u0 a2.toNat) h rfl (Y.cutM (g := TOp.row) Try.underlying71 sz164 rfl rfl (fun w' hw => hA0.cls0 hw)) (fun l10 el10 h => ?_))
        refine U.take rfl (U.y rfl (Y.move rfl) ?_)
        refine U.take rfl (U.y rfl (Y.move rfl) ?_)
        refine U.take rfl ?_
        obtain ⟨b11, e12, h⟩ := bind1S h
        refine U.y rfl (Y.does en157 rfl (fun w' hw => (w157_quirref_wrote l10 x1.Tx gx2 (cutv u0 a2.toNat) w' _ e12 ((At.cutM hA0 el10).cls0 hw)).mono (fun _ _ h => h.1))) ?_
        rcases b11 with _ | _
        ·
         replace h := iteF h
         refine U.y rfl (Y.pickT rfl rfl) ?_
         refine U.nil (E.thenN (W.condF rfl ?_))
         refine W.skip (E.blockN (E.thenN (W.region (L.m (V := fun x13 => .int .i64 x13) h rfl (Y.addM rfl rfl) (fun x13 ex13 h => ?_)))))
         refine L.y rfl (Y.move rfl) ?_
         exact L.nil (E.againJ ⟨x13, rfl, rfl, by rw [hg2]; exact h⟩ (Nat.lt_succ_self _) ⟨rfl, rfl, rfl, rfl, rfl, rfl, rfl, rfl, trivial⟩ (fun _ hw => hw))
        ·
         replace h := iteT h
         refine U.y rfl (Y.pickT rfl rfl) ?_
         refine U.nil (E.thenN (W.condT rfl ?_))
         refine W.seq (W.region (L.y rfl (Y.assign rfl) ?_))
         refine L.nil (E.thenN (W.ret (E.blockR (E.thenR (E.KLR (E.blockR (E.blockR (E.KSR (E.KLR (E.blockR (E.KSR (E.ret1 rfl rfl (fun w1 hw => ?_)))))))))))))
         obtain rfl := Option.some.inj h
         exact ⟨_, _, rfl, ⟨rfl, rfl⟩, hw.sel [] (by decide) rfl⟩
     ·
      refine L.nil (E.thenN (W.seq (W.condF rfl ?_)))
      exact W.exit (E.thenX (E.KLX (E.blockX (E.blockN (E.joinJ ⟨rfl, rfl, h⟩ ⟨rfl, rfl, rfl, rfl, rfl, rfl, trivial⟩ (fun _ hw => hw))))))
    ·
     rintro _ _ ⟨rfl, rfl, h⟩
     rw [m142_quirref_lost_K2] at h
     refine W.region (L.m (V := fun x6 => .int .i64 x6) h rfl (Y.addM rfl rfl) (fun x6 ex6 h => ?_))
     refine L.y rfl (Y.move rfl) ?_
     exact L.nil (E.againJ ⟨x6, rfl, rfl, by rw [hg1]; exact h⟩ (Nat.lt_succ_self _) ⟨rfl, rfl, rfl, rfl, rfl, rfl, trivial⟩ (fun _ hw => hw))
   ·
    refine L.nil (E.thenN (W.seq (W.condF rfl ?_)))
    exact W.exit (E.thenX (E.KLX (E.blockX (E.joinJ ⟨rfl, rfl, h⟩ trivial (fun _ hw => hw.sel [] (by decide) rfl)))))
  ·
   rintro _ _ ⟨rfl, rfl, h⟩
   rw [m142_quirref_lost_K1] at h
   refine W.seq (W.region (L.y rfl (Y.assign rfl) ?_))
   refine L.nil (E.thenN (W.ret (E.ret1 rfl rfl (fun w1 hw => ?_))))
   obtain rfl := Option.some.inj h
   exact ⟨_, _, rfl, ⟨rfl, rfl⟩, hw⟩
set_option maxRecDepth 100000 in
set_option maxHeartbeats 8000000 in
theorem w160_quirref_skips (a0 : (List TOp)) (a1 : (List TDid)) (a2 : Int) (a3 : Int) (u0 : Value) (u1 : Value) (w : World) (r : Bool) (h : m160_quirref_skips a0 a1 a2 a3 = some r) (hA0 : At w u0 3 (a0.map TOp.row)) (hA1 : At w u1 2 (a1.map TDid.row)) : Does Try.prog 160 [u0, u1, .int .i64 a2, .int .i64 a3] w fun u m => u = .bool r ∧ m = [] := by
  rw [m160_quirref_skips] at h
  refine body (n := 72) Try.func160 rfl rfl rfl (Cls.refl w) ?_
  refine W.seq (W.region (L.y rfl (Y.assign rfl) ?_))
  refine L.nil (E.thenN (W.seq (W.quietC mixed (by kernel_rfl) (fun _ hw => hw.drew) (fun hC => ?_))))
  refine U.y rfl (Y.move rfl) ?_
  refine U.y rfl (Y.move rfl) ?_
  refine U.m (V := fun _ => el u0 (a2.toNat * 3)) h rfl (Y.indexM (g := TOp.row) (l := a0) Try.underlying71 sz164 rfl rfl (fun w' hw => hA0.cls0 hw)) (fun x1 ex1 h => ?_)
  refine U.y rfl (Y.fieldE fd164_0 rfl) ?_
  refine U.y rfl (Y.loadE (u := .int .i64 x1.Tx) ag3 rfl (fun w' hw => hA0.cls0 hw) (idx_map ex1) rfl) ?_
  refine U.y rfl (Y.move rfl) ?_
  refine U.y rfl (Y.move rfl) ?_
  refine U.m (V := fun _ => el u0 (a3.toNat * 3)) h rfl (Y.indexM (g := TOp.row) (l := a0) Try.underlying71 sz164 rfl rfl (fun w' hw => hA0.cls0 hw)) (fun x2 ex2 h => ?_)
  refine U.y rfl (Y.fieldE fd164_0 rfl) ?_
  refine U.y rfl (Y.loadE (u := .int .i64 x2.Tx) ag3 rfl (fun w' hw => hA0.cls0 hw) (idx_map ex2) rfl) ?_
  refine U.y rfl (Y.assign rfl) ?_
  refine U.y rfl (Y.assign rfl) ?_
  refine U.nil (E.thenN (W.seqJ (fun gs D => gs = [(0, u0), (1, u1), (2, .int .i64 a2), (3, .int .i64 a3), (9, .int .i64 x1.Tx), (10, .int .i64 x2.Tx)] ∧ D = Cls w [] [] ∧ m160_quirref_skips_K1 a0 a2 x1 a1 a3 x2 = some r) ?_ ?_))
  ·
   refine W.seq (W.region (L.y rfl (Y.move rfl) ?_))
   refine L.y rfl (Y.move rfl) ?_
   refine L.y rfl (Y.move rfl) ?_
   obtain ⟨x17, e18, h⟩ := bind1S h
   refine L.y rfl (Y.does en159 rfl (fun w' hw => (w159_quirref_begins a0 x1.Tx u0 w' _ e18 (hA0.cls0 hw)).mono (fun _ _ h => h.1))) ?_
   refine L.ite h rfl (Y.lss rfl rfl) (fun c19 h => ?_) (fun c19 h => ?_)
   ·
    refine L.y rfl (Y.move rfl) ?_
    refine L.pass rfl rfl (by nofun) ?_
    refine L.pass rfl rfl (by nofun) ?_
    refine L.pass rfl rfl (by nofun) ?_
    refine L.pass rfl rfl (by nofun) ?_
    refine L.pass rfl rfl (by nofun) ?_
    refine L.y rfl (Y.pickT rfl rfl) ?_
    refine L.nil (E.thenN (W.condT rfl ?_))
    refine W.seq (W.region (L.y rfl (Y.assign rfl) ?_))
    refine L.nil (E.thenN (W.ret (E.KSR (E.ret1 rfl rfl (fun w1 hw => ?_)))))
    obtain rfl := Option.some.inj h
    exact ⟨_, _, rfl, ⟨rfl, rfl⟩, hw⟩
   ·
    refine L.y rfl (Y.move rfl) ?_
    refine L.take rfl (L.y rfl (Y.move rfl) ?_)
    refine L.take rfl (L.y rfl (Y.move rfl) ?_)
    refine L.take rfl (L.y rfl (Y.move rfl) ?_)
    refine L.take rfl ?_
    obtain ⟨x20, e21, h⟩ := bind1S h
    refine L.y rfl (Y.does en159 rfl (fun w' hw => (w159_quirref_begins a0 x2.Tx u0 w' _ e21 (hA0.cls0 hw)).mono (fun _ _ h => h.1))) ?_
    refine L.take rfl (L.ite h rfl (Y.lss rfl rfl) (fun c22 h => ?_) (fun c22 h => ?_))
    ·
     refine L.y rfl (Y.pickF rfl rfl) ?_
     refine L.nil (E.thenN (W.condT rfl ?_))
     refine W.seq (W.region (L.y rfl (Y.assign rfl) ?_))
     refine L.nil (E.thenN (W.ret (E.KSR (E.ret1 rfl rfl (fun w1 hw => ?_)))))
     obtain rfl := Option.some.inj h
     exact ⟨_, _, rfl, ⟨rfl, rfl⟩, hw⟩
    ·
     refine L.y rfl (Y.pickF rfl rfl) ?_
     refine L.nil (E.thenN (W.condF rfl ?_))
     exact W.skip (E.joinJ ⟨rfl, rfl, h⟩ ⟨rfl, rfl, rfl, rfl, rfl, rfl, trivial⟩ (fun _ hw => hw))
  ·
   rintro _ _ ⟨rfl, rfl, h⟩
   rw [m160_quirref_skips_K1] at h
   refine W.seqJ (fun gs D => gs = [] ∧ D = Cls w [] [] ∧ m160_quirref_skips_K2 = some r) ?_ ?_
   ·
    refine W.seq (W.region (L.y rfl (Y.move rfl) ?_))
    refine L.y rfl (Y.move rfl) ?_
    refine L.m (V := fun _ => cutv u0 a2.toNat) h rfl (Y.cutM (g := TOp.row) Try.underlying71 sz164 rfl rfl (fun w' hw => hA0.cls0 hw)) (fun l3 el3 h => ?_)
    refine L.y rfl (Y.lenM (g := TOp.row) (l := l3) Try.underlying71 rfl (fun w' hw => (At.cutM hA0 el3).cls0 hw)) ?_
    refine L.y rfl (Y.move rfl) ?_
    refine L.nil (E.thenN (W.block (W.loopJ (fun m gs D => ∃ (gx1 : Int), gs = [(0, u0), (1, u1), (3, .int .i64 a3), (9, .int .i64 x1.Tx), (10, .int .i64 x2.Tx), (37, cutv u0 a2.toNat), (38, .int .i64 (l3.length : Int)), (39, .int .i64 gx1)] ∧ D = Cls w [] [] ∧ m160_quirref_skips_L1 l3 x1 a1 a0 a3 x2 m gx1 = some r) ⟨0, rfl, rfl, h⟩ ⟨rfl, rfl, rfl, rfl, rfl, rfl, rfl, rfl, trivial⟩ (fun _ hw => hw) ?_)))
    rintro m _ _ ⟨gx1, rfl, rfl, h⟩
    rcases m with _ | m
    · rw [m160_quirref_skips_L1] at h; cases h
    rw [m160_quirref_skips_L1] at h
    generalize hg1 : m160_quirref_skips_L1 l3 x1 a1 a0 a3 x2 m = go1 at h
    rw [m160_quirref_skips_L1B] at h
    refine W.seq (W.region (L.ite h rfl (Y.lss rfl rfl) (fun c4 h => ?_) (fun c4 h => ?_)))
    ·
     refine L.nil (E.thenN (W.seq (W.condT rfl ?_)))
     refine W.skip (E.thenN (W.seq (W.block (W.seq (W.region (L.y rfl (Y.move rfl) ?_))))))
     refine L.m (V := fun _ => el (cutv u0 a2.toNat) (gx1.toNat * 3)) h rfl (Y.indexM (g := TOp.row) (l := l3) Try.underlying71 sz164 rfl rfl (fun w' hw => (At.cutM hA0 el3).cls0 hw)) (fun x5 ex5 h => ?_)
     refine L.y rfl (Y.loadEN (r := [.int .i64 x5.Tx, .int .i64 x5.Kind, .int .i64 x5.Item]) ag164 sz164 rfl (fun w' hw => (At.cutM hA0 el3).cls0 hw) (idx_map ex5) rfl) ?_
     refine L.alloc rfl ze164 ?_
     intro b6
     refine L.y rfl (Y.assign rfl) ?_
     refine L.store (i := 0) sz164 rfl rfl rfl rfl (by simp [Value.oneCell', Value.cells, st, pt]) rfl (Nat.le_of_ble_eq_true rfl) ?_
     refine L.nil (E.thenN (W.seq (W.quietC mixed (by kernel_rfl) (fun _ hw => hw.drew) (fun hC => ?_))))
     refine U.cutJ hC 9 (fun gs => ∃ (gb2 : Bool), gs = [(0, u0), (1, u1), (3, .int .i64 a3), (9, .int .i64 x1.Tx), (10, .int .i64 x2.Tx), (11, .int .i64 gx1), (12, pt b6 0), (37, cutv u0 a2.toNat), (38, .int .i64 (l3.length : Int)), (39, .int .i64 gx1), (52, .bool gb2)] ∧ m160_quirref_skips_K3 a1 gx1 x1 a0 a3 x2 x5 go1 gb2 = some r) ?_ ?_
     ·
      refine U.y rfl (Y.fieldP fd164_1 rfl) ?_
      refine U.y rfl (Y.loadP (i := 0) ag3 rfl rfl rfl) ?_
      refine U.ite h rfl (Y.eql rfl rfl) (fun c15 h => ?_) (fun c15 h => ?_)
      ·
       refine U.y rfl (Y.move rfl) ?_
       refine U.take rfl (U.y rfl (Y.fieldP fd164_0 rfl) ?_)
       refine U.take rfl (U.y rfl (Y.loadP (i := 0) ag3 rfl rfl rfl) ?_)
       refine U.take rfl (U.y rfl (Y.move rfl) ?_)
       refine U.take rfl (U.ite h rfl (Y.eql rfl rfl) (fun c16 h => ?_) (fun c16 h => ?_))
       ·
        refine U.y rfl (Y.pickT rfl rfl) ?_
        exact U.nil (E.joinU ⟨true, rfl, h⟩ ⟨rfl, rfl, rfl, rfl, rfl, rfl, rfl, rfl, rfl, rfl, rfl, trivial⟩)
       ·
        refine U.y rfl (Y.pickT rfl rfl) ?_
        exact U.nil (E.joinU ⟨false, rfl, h⟩ ⟨rfl, rfl, rfl, rfl, rfl, rfl, rfl, rfl, rfl, rfl, rfl, trivial⟩)
      ·
       refine U.y rfl (Y.move rfl) ?_
       refine U.pass rfl rfl (by nofun) ?_
       refine U.pass rfl rfl (by nofun) ?_
       refine U.pass rfl rfl (by nofun) ?_
       refine U.pass rfl rfl (by nofun) ?_
       refine U.y rfl (Y.pickF rfl rfl) ?_
       exact U.nil (E.joinU ⟨false, rfl, h⟩ ⟨rfl, rfl, rfl, rfl, rfl, rfl, rfl, rfl, rfl, rfl, rfl, trivial⟩)
     ·
      rintro _ ⟨gb2, rfl, h⟩
      rw [m160_quirref_skips_K3] at h
      rcases gb2 with _ | _
      ·
       replace h := iteF h
       refine U.y rfl (Y.move rfl) ?_
       refine U.pass rfl rfl (by nofun) ?_
       refine U.pass rfl rfl (by nofun) ?_
       refine U.pass rfl rfl (by nofun) ?_
       refine U.pass rfl rfl (by nofun) ?_
       refine U.pass rfl rfl (by nofun) ?_
       refine U.pass rfl rfl (by nofun) ?_
       refine U.pass rfl rfl (by nofun) ?_
       refine U.y rfl (Y.pickF rfl rfl) ?_
       refine U.y rfl (Y.move rfl) ?_
       refine U.pass rfl rfl (by nofun) ?_
       refine U.pass rfl rfl (by nofun) ?_
       refine U.pass rfl rfl (by nofun) ?_
       refine U.pass rfl rfl (by nofun) ?_
       refine U.pass rfl rfl (by nofun) ?_
       refine U.pass rfl rfl (by nofun) ?_
       refine U.pass rfl rfl (by nofun) ?_
       refine U.y rfl (Y.pickF rfl rfl) ?_
       refine U.nil (E.thenN (W.condF rfl ?_))
       refine W.skip (E.blockN (E.thenN (W.region (L.m (V := fun x7 => .int .i64 x7) h rfl (Y.addM rfl rfl) (fun x7 ex7 h => ?_)))))
       refine L.y rfl (Y.move rfl) ?_
       exact L.nil (E.againJ ⟨x7, rfl, rfl, by rw [hg1]; exact h⟩ (Nat.lt_succ_self _) ⟨rfl, rfl, rfl, rfl, rfl, rfl, rfl, rfl, trivial⟩ (fun _ hw => hw.sel [] (by decide) rfl))
      ·
       replace h := iteT h
       refine U.y rfl (Y.move rfl) ?_
       refine U.take rfl (U.y rfl (Y.move rfl) ?_)
       refine U.take rfl (U.y rfl (Y.move rfl) ?_)
       refine U.take rfl (U.m (V := fun _ => el u1 (gx1.toNat * 2)) h rfl (Y.indexM (g := TDid.row) (l := a1) Try.underlying147 sz152 rfl rfl (fun w' hw => hA1.cls0 hw)) (fun x8 ex8 h => ?_))
       refine U.take rfl (U.y rfl (Y.fieldE fd152_1 rfl) ?_)
       refine U.take rfl (U.y rfl (Y.loadE (u := .int .i64 x8.From) ag3 rfl (fun w' hw => hA1.cls0 hw) (idx_map ex8) rfl) ?_)
       refine U.take rfl (U.y rfl (Y.move rfl) ?_)
       refine U.take rfl (U.ite h rfl (Y.neq rfl rfl) (fun c9 h => ?_) (fun c9 h => ?_))
       ·
        refine U.y rfl (Y.pickT rfl rfl) ?_
        refine U.y rfl (Y.move rfl) ?_
        refine U.take rfl (U.y rfl (Y.move rfl) ?_)
        refine U.take rfl (U.y rfl (Y.move rfl) ?_)
        refine U.take rfl (U.m (V := fun _ => cutv u0 a3.toNat) h rfl (Y.cutM (g := TOp.row) Try.underlying71 sz164 rfl rfl (fun w' hw => hA0.cls0 hw)) (fun l10 el10 h => ?_))
        refine U.take rfl (U.y rfl (Y.move rfl) ?_)
        refine U.take rfl (U.y rfl (Y.fieldP fd164_2 rfl) ?_)
        refine U.take rfl (U.y rfl (Y.loadP (i := 0) ag3 rfl rfl rfl) ?_)
        refine U.take rfl ?_
        obtain ⟨b11, e12, h⟩ := bind1S h
        refine U.y rfl (Y.does en157 rfl (fun w' hw => (w157_quirref_wrote l10 x2.Tx x5.Item (cutv u0 a3.toNat) w' _ e12 ((At.cutM hA0 el10).cls0 hw)).mono (fun _ _ h => h.1))) ?_
        rcases b11 with _ | _
        ·
         replace h := iteF h
         refine U.y rfl (Y.pickT rfl rfl) ?_
         refine U.nil (E.thenN (W.condF rfl ?_))
         refine W.skip (E.blockN (E.thenN (W.region (L.m (V := fun x13 => .int .i64 x13) h rfl (Y.addM rfl rfl) (fun x13 ex13 h => ?_)))))
         refine L.y rfl (Y.move rfl) ?_
         exact L.nil (E.againJ ⟨x13, rfl, rfl, by rw [hg1]; exact h⟩ (Nat.lt_succ_self _) ⟨rfl, rfl, rfl, rfl, rfl, rfl, rfl, rfl, trivial⟩ (fun _ hw => hw.sel [] (by decide) rfl))
        ·
         replace h := iteT h
         refine U.y rfl (Y.pickT rfl rfl) ?_
         refine U.nil (E.thenN (W.condT rfl ?_))
         refine W.seq (W.region (L.y rfl (Y.assign rfl) ?_))
         refine L.nil (E.thenN (W.ret (E.blockR (E.thenR (E.KLR (E.blockR (E.KSR (E.ret1 rfl rfl (fun w1 hw => ?_)))))))))
         obtain rfl := Option.some.inj h
         exact ⟨_, _, rfl, ⟨rfl, rfl⟩, hw.sel [] (by decide) rfl⟩
       ·
        refine U.y rfl (Y.pickT rfl rfl) ?_
        refine U.y rfl (Y.move rfl) ?_
        refine U.pass rfl rfl (by nofun) ?_
        refine U.pass rfl rfl (by nofun) ?_
        refine U.pass rfl rfl (by nofun) ?_
        refine U.pass rfl rfl (by nofun) ?_
        refine U.pass rfl rfl (by nofun) ?_
        refine U.pass rfl rfl (by nofun) ?_
        refine U.pass rfl rfl (by nofun) ?_
        refine U.y rfl (Y.pickF rfl rfl) ?_
        refine U.nil (E.thenN (W.condF rfl ?_))
        refine W.skip (E.blockN (E.thenN (W.region (L.m (V := fun x14 => .int .i64 x14) h rfl (Y.addM rfl rfl) (fun x14 ex14 h => ?_)))))
        refine L.y rfl (Y.move rfl) ?_
        exact L.nil (E.againJ ⟨x14, rfl, rfl, by rw [hg1]; exact h⟩ (Nat.lt_succ_self _) ⟨rfl, rfl, rfl, rfl, rfl, rfl, rfl, rfl, trivial⟩ (fun _ hw => hw.sel [] (by decide) rfl))
    ·
     refine L.nil (E.thenN (W.seq (W.condF rfl ?_)))
     exact W.exit (E.thenX (E.KLX (E.blockX (E.joinJ ⟨rfl, rfl, h⟩ trivial (fun _ hw => hw)))))
   ·
    rintro _ _ ⟨rfl, rfl, h⟩
    rw [m160_quirref_skips_K2] at h
    refine W.seq (W.region (L.y rfl (Y.assign rfl) ?_))
    refine L.nil (E.thenN (W.ret (E.ret1 rfl rfl (fun w1 hw => ?_))))
    obtain rfl := Option.some.inj h
    exact ⟨_, _, rfl, ⟨rfl, rfl⟩, hw⟩
set_option maxRecDepth 100000 in
set_option maxHeartbeats 8000000 in
theorem w143_quirref_between (a0 : (List TOp)) (a1 : (List TDid)) (a2 : Int) (u0 : Value) (u1 : Value) (w : World) (r : Bool) (h : m143_quirref_between a0 a1 a2 = some r) (hA0 : At w u0 3 (a0.map TOp.row)) (hA1 : At w u1 2 (a1.map TDid.row)) : Does Try.prog 143 [u0, u1, .int .i64 a2] w fun u m => u = .bool r ∧ m = [] := by
  rw [m143_quirref_between] at h
  refine body (n := 57) Try.func143 rfl rfl rfl (Cls.refl w) ?_
  refine W.seq (W.region (L.y rfl (Y.assign rfl) ?_))
  refine L.nil (E.thenN (W.seq (W.region (L.y rfl (Y.move rfl) ?_))))
  refine L.y rfl (Y.move rfl) ?_
  obtain ⟨l1, e3, h⟩ := bind1S h
  refine L.does rfl en158 rfl (fun w' hw => w158_quirref_commits a0 a1 u0 u1 w' _ e3 (hA0.cls0 hw) (hA1.cls0 hw)) ?_
  rintro v2 _ ⟨_, rfl, rfl⟩
  refine L.y rfl (Y.move rfl) ?_
  refine L.litOne rfl Try.underlying24 el3 rfl rfl ?_
  intro b4
  refine L.appM (i := 1) (g := I) (l := l1) (more := [a2]) h rfl Try.underlying24 el3 rfl rfl rfl (fun w hw => As.at_ (hw.get (i := 0) rfl)) (plain_ints _) rfl ?_
  intro v5 l6 el6 h
  refine L.y rfl (Y.assign rfl) ?_
  refine L.nil (E.thenN (W.seqJ (fun gs D => gs = [] ∧ D = Cls w [] [] ∧ m143_quirref_between_K1 = some r) ?_ ?_))
  ·
   refine W.seq (W.region (L.y rfl (Y.move rfl) ?_))
   refine L.y rfl (Y.lenM (g := I) (l := l6) Try.underlying24 rfl (fun w hw => As.at_ (hw.get (i := 0) rfl))) ?_
   refine L.y rfl (Y.move rfl) ?_
   refine L.nil (E.thenN (W.block (W.loopJ (fun m gs D => ∃ (gx1 : Int), gs = [(0, u0), (1, u1), (7, v5), (20, v5), (21, .int .i64 (l6.length : Int)), (22, .int .i64 gx1)] ∧ D = Cls w [] [.sl v5 3 1 (l6.map I)] ∧ m143_quirref_between_L1 l6 a0 a1 m gx1 = some r) ⟨0, rfl, rfl, h⟩ ⟨rfl, rfl, rfl, rfl, rfl, rfl, trivial⟩ (fun _ hw => hw.sel [0] (by decide) rfl) ?_)))
   rintro m _ _ ⟨gx1, rfl, rfl, h⟩
   rcases m with _ | m
   · rw [m143_quirref_between_L1] at h; cases h
   rw [m143_quirref_between_L1] at h
   generalize hg1 : m143_quirref_between_L1 l6 a0 a1 m = go1 at h
   rw [m143_quirref_between_L1B] at h
   refine W.seq (W.region (L.ite h rfl (Y.lss rfl rfl) (fun c7 h => ?_) (fun c7 h => ?_)))
   ·
    refine L.nil (E.thenN (W.seq (W.condT rfl ?_)))
    refine W.skip (E.thenN (W.seqJ (fun gs D => gs = [(0, u0), (1, u1), (7, v5), (20, v5), (21, .int .i64 (l6.length : Int)), (22, .int .i64 gx1)] ∧ D = Cls w [] [.sl v5 3 1 (l6.map I)] ∧ m143_quirref_between_K2 gx1 go1 = some r) ?_ ?_))
    ·
     refine W.block (W.seq (W.region (L.m (V := fun _ => el v5 (gx1.toNat * 1)) h rfl (Y.indexM (g := I) (l := l6) Try.underlying24 sz3 rfl rfl (fun w hw => As.at_ (hw.get (i := 0) rfl))) (fun x9 ex9 h => ?_))))
     refine L.y rfl (Y.loadE1 (u := .int .i64 x9) ag3 rfl (fun w hw => As.at_ (hw.get (i := 0) rfl)) (idx_map ex9)) ?_
     refine L.y rfl (Y.assign rfl) ?_
     refine L.nil (E.thenN (W.seq (W.region (L.y rfl (Y.assign rfl) ?_))))
     refine L.y rfl (Y.assign rfl) ?_
     refine L.nil (E.thenN (W.seqJ (fun gs D => ∃ (gb2 : Bool) (gb3 : Bool), gs = [(0, u0), (1, u1), (7, v5), (10, .bool gb2), (11, .bool gb3), (20, v5), (21, .int .i64 (l6.length : Int)), (22, .int .i64 gx1)] ∧ D = Cls w [] [.sl v5 3 1 (l6.map I)] ∧ m143_quirref_between_K3 gx1 go1 gb2 gb3 = some r) ?_ ?_))
     ·
      refine W.seq (W.region (L.y rfl (Y.move rfl) ?_))
      refine L.y rfl (Y.lenM (g := I) (l := l6) Try.underlying24 rfl (fun w hw => As.at_ (hw.get (i := 0) rfl))) ?_
      refine L.y rfl (Y.move rfl) ?_
      refine L.nil (E.thenN (W.block (W.loopJ (fun m gs D => ∃ (gb4 : Bool) (gb5 : Bool) (gx6 : Int), gs = [(0, u0), (1, u1), (7, v5), (9, .int .i64 x9), (10, .bool gb4), (11, .bool gb5), (20, v5), (21, .int .i64 (l6.length : Int)), (22, .int .i64 gx1), (26, v5), (27, .int .i64 (l6.length : Int)), (28, .int .i64 gx6)] ∧ D = Cls w [] [.sl v5 3 1 (l6.map I)] ∧ m143_quirref_between_L2 l6 x9 a0 a1 gx1 go1 m gb4 gb5 gx6 = some r) ⟨false, false, 0, rfl, rfl, h⟩ ⟨rfl, rfl, rfl, rfl, rfl, rfl, rfl, rfl, rfl, rfl, rfl, rfl, trivial⟩ (fun _ hw => hw) ?_)))
      rintro m _ _ ⟨gb4, gb5, gx6, rfl, rfl, h⟩
      rcases m with _ | m
      · rw [m143_quirref_between_L2] at h; cases h
      rw [m143_quirref_between_L2] at h
      generalize hg2 : m143_quirref_between_L2 l6 x9 a0 a1 gx1 go1 m = go2 at h
      rw [m143_quirref_between_L2B] at h
      refine W.seq (W.region (L.ite h rfl (Y.lss rfl rfl) (fun c12 h => ?_) (fun c12 h => ?_)))
      ·
       refine L.nil (E.thenN (W.seq (W.condT rfl ?_)))
       refine W.skip (E.thenN (W.seq (W.block (W.seq (W.region (L.m (V := fun _ => el v5 (gx6.toNat * 1)) h rfl (Y.indexM (g := I) (l := l6) Try.underlying24 sz3 rfl rfl (fun w hw => As.at_ (hw.get (i := 0) rfl))) (fun x13 ex13 h => ?_)))))))
       refine L.y rfl (Y.loadE1 (u := .int .i64 x13) ag3 rfl (fun w hw => As.at_ (hw.get (i := 0) rfl)) (idx_map ex13)) ?_
       refine L.y rfl (Y.assign rfl) ?_
       refine L.nil (E.thenN (W.seq (W.region (L.y rfl (Y.move rfl) ?_))))
       refine L.y rfl (Y.move rfl) ?_
       refine L.ite h rfl (Y.neq rfl rfl) (fun c14 h => ?_) (fun c14 h => ?_)
       ·
        refine L.nil (E.thenN (W.condT rfl ?_))
        refine W.region (L.cutJ 8 (fun gs D => ∃ (gb7 : Bool), gs = [(0, u0), (1, u1), (7, v5), (9, .int .i64 x9), (11, .bool gb5), (13, .int .i64 x13), (20, v5), (21, .int .i64 (l6.length : Int)), (22, .int .i64 gx1), (26, v5), (27, .int .i64 (l6.length : Int)), (28, .int .i64 gx6), (42, .bool gb7)] ∧ D = Cls w [] [.sl v5 3 1 (l6.map I)] ∧ m143_quirref_between_K4 gb5 gx6 go2 a0 a1 x9 x13 gb7 = some r) ?_ ?_)
        ·
         refine L.iteB h rfl (Y.move rfl) (fun c25 h => ?_) (fun c25 h => ?_)
         ·
          refine L.y rfl (Y.move rfl) ?_
          refine L.pass rfl rfl (by nofun) ?_
          refine L.pass rfl rfl (by nofun) ?_
          refine L.pass rfl rfl (by nofun) ?_
          refine L.pass rfl rfl (by nofun) ?_
          refine L.pass rfl rfl (by nofun) ?_
          refine L.y rfl (Y.pickT rfl rfl) ?_
          exact L.nil (E.joinJ ⟨true, rfl, rfl, h⟩ ⟨rfl, rfl, rfl, rfl, rfl, rfl, rfl, rfl, rfl, rfl, rfl, rfl, rfl, trivial⟩ (fun _ hw => hw))
         ·
          refine L.y rfl (Y.move rfl) ?_
          refine L.take rfl (L.y rfl (Y.move rfl) ?_)
          refine L.take rfl (L.y rfl (Y.move rfl) ?_)
          refine L.take rfl (L.y rfl (Y.move rfl) ?_)
          refine L.take rfl (L.y rfl (Y.move rfl) ?_)
          refine L.take rfl ?_
          obtain ⟨b26, e27, h⟩ := bind1S h
          refine L.y rfl (Y.does en160 rfl (fun w' hw => (w160_quirref_skips a0 a1 x13 x9 u0 u1 w' _ e27 (hA0.cls0 hw) (hA1.cls0 hw)).mono (fun _ _ h => h.1))) ?_
          rcases b26 with _ | _
          ·
           replace h := iteF h
           refine L.y rfl (Y.pickF rfl rfl) ?_
           exact L.nil (E.joinJ ⟨false, rfl, rfl, h⟩ ⟨rfl, rfl, rfl, rfl, rfl, rfl, rfl, rfl, rfl, rfl, rfl, rfl, rfl, trivial⟩ (fun _ hw => hw))
          ·
           replace h := iteT h
           refine L.y rfl (Y.pickF rfl rfl) ?_
           exact L.nil (E.joinJ ⟨true, rfl, rfl, h⟩ ⟨rfl, rfl, rfl, rfl, rfl, rfl, rfl, rfl, rfl, rfl, rfl, rfl, rfl, trivial⟩ (fun _ hw => hw))
        ·
         rintro _ _ ⟨gb7, rfl, rfl, h⟩
         rw [m143_quirref_between_K4] at h
         rcases gb7 with _ | _
         ·
          replace h := iteF h
          refine L.cutJ 8 (fun gs D => ∃ (gb8 : Bool), gs = [(0, u0), (1, u1), (7, v5), (9, .int .i64 x9), (20, v5), (21, .int .i64 (l6.length : Int)), (22, .int .i64 gx1), (26, v5), (27, .int .i64 (l6.length : Int)), (28, .int .i64 gx6), (42, .bool false), (50, .bool gb8)] ∧ D = Cls w [] [.sl v5 3 1 (l6.map I)] ∧ m143_quirref_between_K5 gx6 go2 gb8 = some r) ?_ ?_
          ·
           refine L.iteB h rfl (Y.move rfl) (fun c17 h => ?_) (fun c17 h => ?_)
           ·
            refine L.y rfl (Y.move rfl) ?_
            refine L.pass rfl rfl (by nofun) ?_
            refine L.pass rfl rfl (by nofun) ?_
            refine L.pass rfl rfl (by nofun) ?_
            refine L.pass rfl rfl (by nofun) ?_
            refine L.pass rfl rfl (by nofun) ?_
            refine L.y rfl (Y.pickT rfl rfl) ?_
            exact L.nil (E.joinJ ⟨true, rfl, rfl, h⟩ ⟨rfl, rfl, rfl, rfl, rfl, rfl, rfl, rfl, rfl, rfl, rfl, rfl, trivial⟩ (fun _ hw => hw))
           ·
            refine L.y rfl (Y.move rfl) ?_
            refine L.take rfl (L.y rfl (Y.move rfl) ?_)
            refine L.take rfl (L.y rfl (Y.move rfl) ?_)
            refine L.take rfl (L.y rfl (Y.move rfl) ?_)
            refine L.take rfl (L.y rfl (Y.move rfl) ?_)
            refine L.take rfl ?_
            obtain ⟨b18, e19, h⟩ := bind1S h
            refine L.y rfl (Y.does en160 rfl (fun w' hw => (w160_quirref_skips a0 a1 x9 x13 u0 u1 w' _ e19 (hA0.cls0 hw) (hA1.cls0 hw)).mono (fun _ _ h => h.1))) ?_
            rcases b18 with _ | _
            ·
             replace h := iteF h
             refine L.y rfl (Y.pickF rfl rfl) ?_
             exact L.nil (E.joinJ ⟨false, rfl, rfl, h⟩ ⟨rfl, rfl, rfl, rfl, rfl, rfl, rfl, rfl, rfl, rfl, rfl, rfl, trivial⟩ (fun _ hw => hw))
            ·
             replace h := iteT h
             refine L.y rfl (Y.pickF rfl rfl) ?_
             exact L.nil (E.joinJ ⟨true, rfl, rfl, h⟩ ⟨rfl, rfl, rfl, rfl, rfl, rfl, rfl, rfl, rfl, rfl, rfl, rfl, trivial⟩ (fun _ hw => hw))
          ·
           rintro _ _ ⟨gb8, rfl, rfl, h⟩
           rw [m143_quirref_between_K5] at h
           rcases gb8 with _ | _
           ·
            replace h := iteF h
            refine L.y rfl (Y.assign rfl) ?_
            refine L.y rfl (Y.assign rfl) ?_
            refine L.nil (E.blockN (E.thenN (W.region (L.m (V := fun x15 => .int .i64 x15) h rfl (Y.addM rfl rfl) (fun x15 ex15 h => ?_)))))
            refine L.y rfl (Y.move rfl) ?_
            exact L.nil (E.againJ ⟨false, false, x15, rfl, rfl, by rw [hg2]; exact h⟩ (Nat.lt_succ_self _) ⟨rfl, rfl, rfl, rfl, rfl, rfl, rfl, rfl, rfl, rfl, rfl, rfl, trivial⟩ (fun _ hw => hw))
           ·
            replace h := iteT h
            refine L.y rfl (Y.assign rfl) ?_
            refine L.y rfl (Y.assign rfl) ?_
            refine L.nil (E.blockN (E.thenN (W.region (L.m (V := fun x16 => .int .i64 x16) h rfl (Y.addM rfl rfl) (fun x16 ex16 h => ?_)))))
            refine L.y rfl (Y.move rfl) ?_
            exact L.nil (E.againJ ⟨false, true, x16, rfl, rfl, by rw [hg2]; exact h⟩ (Nat.lt_succ_self _) ⟨rfl, rfl, rfl, rfl, rfl, rfl, rfl, rfl, rfl, rfl, rfl, rfl, trivial⟩ (fun _ hw => hw))
         ·
          replace h := iteT h
          refine L.cutJ 8 (fun gs D => ∃ (gb9 : Bool), gs = [(0, u0), (1, u1), (7, v5), (9, .int .i64 x9), (20, v5), (21, .int .i64 (l6.length : Int)), (22, .int .i64 gx1), (26, v5), (27, .int .i64 (l6.length : Int)), (28, .int .i64 gx6), (42, .bool true), (50, .bool gb9)] ∧ D = Cls w [] [.sl v5 3 1 (l6.map I)] ∧ m143_quirref_between_K6 gx6 go2 gb9 = some r) ?_ ?_
          ·
           refine L.iteB h rfl (Y.move rfl) (fun c22 h => ?_) (fun c22 h => ?_)
           ·
            refine L.y rfl (Y.move rfl) ?_
            refine L.pass rfl rfl (by nofun) ?_
            refine L.pass rfl rfl (by nofun) ?_
            refine L.pass rfl rfl (by nofun) ?_
            refine L.pass rfl rfl (by nofun) ?_
            refine L.pass rfl rfl (by nofun) ?_
            refine L.y rfl (Y.pickT rfl rfl) ?_
            exact L.nil (E.joinJ ⟨true, rfl, rfl, h⟩ ⟨rfl, rfl, rfl, rfl, rfl, rfl, rfl, rfl, rfl, rfl, rfl, rfl, trivial⟩ (fun _ hw => hw))
           ·
            refine L.y rfl (Y.move rfl) ?_
            refine L.take rfl (L.y rfl (Y.move rfl) ?_)
            refine L.take rfl (L.y rfl (Y.move rfl) ?_)
            refine L.take rfl (L.y rfl (Y.move rfl) ?_)
            refine L.take rfl (L.y rfl (Y.move rfl) ?_)
            refine L.take rfl ?_
            obtain ⟨b23, e24, h⟩ := bind1S h
            refine L.y rfl (Y.does en160 rfl (fun w' hw => (w160_quirref_skips a0 a1 x9 x13 u0 u1 w' _ e24 (hA0.cls0 hw) (hA1.cls0 hw)).mono (fun _ _ h => h.1))) ?_
            rcases b23 with _ | _
            ·
             replace h := iteF h
             refine L.y rfl (Y.pickF rfl rfl) ?_
             exact L.nil (E.joinJ ⟨false, rfl, rfl, h⟩ ⟨rfl, rfl, rfl, rfl, rfl, rfl, rfl, rfl, rfl, rfl, rfl, rfl, trivial⟩ (fun _ hw => hw))
            ·
             replace h := iteT h
             refine L.y rfl (Y.pickF rfl rfl) ?_
             exact L.nil (E.joinJ ⟨true, rfl, rfl, h⟩ ⟨rfl, rfl, rfl, rfl, rfl, rfl, rfl, rfl, rfl, rfl, rfl, rfl, trivial⟩ (fun _ hw => hw))
          ·
           rintro _ _ ⟨gb9, rfl, rfl, h⟩
           rw [m143_quirref_between_K6] at h
           rcases gb9 with _ | _
           ·
            replace h := iteF h
            refine L.y rfl (Y.assign rfl) ?_
            refine L.y rfl (Y.assign rfl) ?_
            refine L.nil (E.blockN (E.thenN (W.region (L.m (V := fun x20 => .int .i64 x20) h rfl (Y.addM rfl rfl) (fun x20 ex20 h => ?_)))))
            refine L.y rfl (Y.move rfl) ?_
            exact L.nil (E.againJ ⟨true, false, x20, rfl, rfl, by rw [hg2]; exact h⟩ (Nat.lt_succ_self _) ⟨rfl, rfl, rfl, rfl, rfl, rfl, rfl, rfl, rfl, rfl, rfl, rfl, trivial⟩ (fun _ hw => hw))
           ·
            replace h := iteT h
            refine L.y rfl (Y.assign rfl) ?_
            refine L.y rfl (Y.assign rfl) ?_
            refine L.nil (E.blockN (E.thenN (W.region (L.m (V := fun x21 => .int .i64 x21) h rfl (Y.addM rfl rfl) (fun x21 ex21 h => ?_)))))
            refine L.y rfl (Y.move rfl) ?_
            exact L.nil (E.againJ ⟨true, true, x21, rfl, rfl, by rw [hg2]; exact h⟩ (Nat.lt_succ_self _) ⟨rfl, rfl, rfl, rfl, rfl, rfl, rfl, rfl, rfl, rfl, rfl, rfl, trivial⟩ (fun _ hw => hw))
       ·
        refine L.nil (E.thenN (W.condF rfl ?_))
        refine W.skip (E.blockN (E.thenN (W.region (L.m (V := fun x28 => .int .i64 x28) h rfl (Y.addM rfl rfl) (fun x28 ex28 h => ?_)))))
        refine L.y rfl (Y.move rfl) ?_
        exact L.nil (E.againJ ⟨gb4, gb5, x28, rfl, rfl, by rw [hg2]; exact h⟩ (Nat.lt_succ_self _) ⟨rfl, rfl, rfl, rfl, rfl, rfl, rfl, rfl, rfl, rfl, rfl, rfl, trivial⟩ (fun _ hw => hw))
      ·
       refine L.nil (E.thenN (W.seq (W.condF rfl ?_)))
       exact W.exit (E.thenX (E.KLX (E.blockX (E.joinJ ⟨gb4, gb5, rfl, rfl, h⟩ ⟨rfl, rfl, rfl, rfl, rfl, rfl, rfl, rfl, trivial⟩ (fun _ hw => hw)))))
     ·
      rintro _ _ ⟨gb2, gb3, rfl, rfl, h⟩
      rw [m143_quirref_between_K3] at h
      refine W.seq (W.region (L.iteB h rfl (Y.move rfl) (fun c10 h => ?_) (fun c10 h => ?_)))
      ·
       refine L.y rfl (Y.move rfl) ?_
       refine L.take rfl (L.iteB h rfl (Y.move rfl) (fun c11 h => ?_) (fun c11 h => ?_))
       ·
        refine L.y rfl (Y.pickT rfl rfl) ?_
        refine L.nil (E.thenN (W.condT rfl ?_))
        refine W.seq (W.region (L.y rfl (Y.assign rfl) ?_))
        refine L.nil (E.thenN (W.ret (E.blockR (E.KSR (E.KLR (E.blockR (E.KSR (E.ret1 rfl rfl (fun w1 hw => ?_)))))))))
        obtain rfl := Option.some.inj h
        exact ⟨_, _, rfl, ⟨rfl, rfl⟩, hw.sel [] (by decide) rfl⟩
       ·
        refine L.y rfl (Y.pickT rfl rfl) ?_
        refine L.nil (E.thenN (W.condF rfl ?_))
        exact W.skip (E.blockN (E.joinJ ⟨rfl, rfl, h⟩ ⟨rfl, rfl, rfl, rfl, rfl, rfl, trivial⟩ (fun _ hw => hw)))
      ·
       refine L.y rfl (Y.move rfl) ?_
       refine L.pass rfl rfl (by nofun) ?_
       refine L.y rfl (Y.pickF rfl rfl) ?_
       refine L.nil (E.thenN (W.condF rfl ?_))
       exact W.skip (E.blockN (E.joinJ ⟨rfl, rfl, h⟩ ⟨rfl, rfl, rfl, rfl, rfl, rfl, trivial⟩ (fun _ hw => hw)))
    ·
     rintro _ _ ⟨rfl, rfl, h⟩
     rw [m143_quirref_between_K2] at h
     refine W.region (L.m (V := fun x8 => .int .i64 x8) h rfl (Y.addM rfl rfl) (fun x8 ex8 h => ?_))
     refine L.y rfl (Y.move rfl) ?_
     exact L.nil (E.againJ ⟨x8, rfl, rfl, by rw [hg1]; exact h⟩ (Nat.lt_succ_self _) ⟨rfl, rfl, rfl, rfl, rfl, rfl, trivial⟩ (fun _ hw => hw))
   ·
    refine L.nil (E.thenN (W.seq (W.condF rfl ?_)))
    exact W.exit (E.thenX (E.KLX (E.blockX (E.joinJ ⟨rfl, rfl, h⟩ trivial (fun _ hw => hw.sel [] (by decide) rfl)))))
  ·
   rintro _ _ ⟨rfl, rfl, h⟩
   rw [m143_quirref_between_K1] at h
   refine W.seq (W.region (L.y rfl (Y.assign rfl) ?_))
   refine L.nil (E.thenN (W.ret (E.ret1 rfl rfl (fun w1 hw => ?_))))
   obtain rfl := Option.some.inj h
   exact ⟨_, _, rfl, ⟨rfl, rfl⟩, hw⟩
set_option maxRecDepth 100000 in
set_option maxHeartbeats 8000000 in
theorem w98_quirref_Snap (a0 : (List TOp)) (a1 : Bool) (u0 : Value) (w : World) (r : (List TDid)) (h : m98_quirref_Snap a0 a1 = some r) (hA0 : At w u0 3 (a0.map TOp.row)) : Does Try.prog 98 [u0, .bool a1] w fun u m => ∃ v0, u = v0 ∧ m = [.sl v0 152 2 (r.map TDid.row)] := by
  rw [m98_quirref_Snap] at h
  refine body (n := 50) Try.func98 rfl rfl rfl (Cls.refl w) ?_
  refine W.seq (W.region (L.y rfl (Y.assign rfl) ?_))
  refine L.nil (E.thenN (W.seq (W.region (L.y rfl (Y.assign rfl) ?_))))
  refine L.nil (E.thenN (W.seqJ (fun gs D => ∃ (gv1 : Value) (gl2 : (List TDid)), gs = [(5, gv1)] ∧ D = Cls w [] [.sl gv1 152 2 (gl2.map TDid.row)] ∧ m98_quirref_Snap_K1 gl2 = some r) ?_ ?_))
  ·
   refine W.seq (W.region (L.y rfl (Y.move rfl) ?_))
   refine L.y rfl (Y.lenM (g := TOp.row) (l := a0) Try.underlying71 rfl (fun w' hw => hA0.cls0 hw)) ?_
   refine L.y rfl (Y.move rfl) ?_
   refine L.nil (E.thenN (W.block (W.nilSl 152 2 ?_)))
   refine W.loopJ (fun m gs D => ∃ (gv3 : Value) (gl4 : (List TDid)) (gx5 : Int), gs = [(0, u0), (1, .bool a1), (5, gv3), (9, u0), (10, .int .i64 (a0.length : Int)), (11, .int .i64 gx5)] ∧ D = Cls w [] [.sl gv3 152 2 (gl4.map TDid.row)] ∧ m98_quirref_Snap_L1 a0 a1 m gl4 gx5 = some r) ⟨.slice none 0 0, [], 0, rfl, rfl, h⟩ ⟨rfl, rfl, rfl, rfl, rfl, rfl, trivial⟩ (fun _ hw => hw) ?_
   rintro m _ _ ⟨gv3, gl4, gx5, rfl, rfl, h⟩
   rcases m with _ | m
   · rw [m98_quirref_Snap_L1] at h; cases h
   rw [m98_quirref_Snap_L1] at h
   generalize hg1 : m98_quirref_Snap_L1 a0 a1 m = go1 at h
   rw [m98_quirref_Snap_L1B] at h
   refine W.seq (W.region (L.ite h rfl (Y.lss rfl rfl) (fun c1 h => ?_) (fun c1 h => ?_)))
   ·
    refine L.nil (E.thenN (W.seq (W.condT rfl ?_)))
    refine W.skip (E.thenN (W.seq (W.block (W.seq (W.region (L.y rfl (Y.move rfl) ?_))))))
    refine L.m (V := fun _ => el u0 (gx5.toNat * 3)) h rfl (Y.indexM (g := TOp.row) (l := a0) Try.underlying71 sz164 rfl rfl (fun w' hw => hA0.cls0 hw)) (fun x2 ex2 h => ?_)
    refine L.y rfl (Y.loadEN (r := [.int .i64 x2.Tx, .int .i64 x2.Kind, .int .i64 x2.Item]) ag164 sz164 rfl (fun w' hw => hA0.cls0 hw) (idx_map ex2) rfl) ?_
    refine L.alloc rfl ze164 ?_
    intro b3
    refine L.y rfl (Y.assign rfl) ?_
    refine L.store (i := 0) sz164 rfl rfl rfl rfl (by simp [Value.oneCell', Value.cells, st, pt]) rfl (Nat.le_of_ble_eq_true rfl) ?_
    refine L.nil (E.thenN (W.seq (W.region (L.y rfl (Y.build (cells := #[.bool true, .int .i64 (-1)]) rfl (by kernel_rfl)) ?_))))
    refine L.alloc rfl ze152 ?_
    intro b4
    refine L.store (i := 0) sz152 rfl rfl rfl rfl (by simp [Value.oneCell', Value.cells, st, pt]) rfl (Nat.le_of_ble_eq_true rfl) ?_
    refine L.nil (E.thenN (W.seqJ (fun gs D => ∃ (gb6 : Bool) (gx7 : Int), gs = [(0, u0), (1, .bool a1), (5, gv3), (8, pt b4 0), (9, u0), (10, .int .i64 (a0.length : Int)), (11, .int .i64 gx5)] ∧ D = Cls w [] [.obj b4 [.bool gb6, .int .i64 gx7] 152, .sl gv3 152 2 (gl4.map TDid.row)] ∧ m98_quirref_Snap_K2 gl4 gx5 go1 gb6 gx7 = some r) ?_ ?_))
    ·
     refine W.seq (W.region (L.y rfl (Y.fieldP fd164_1 rfl) ?_))
     refine L.y rfl (Y.loadP (i := 1) ag3 rfl rfl rfl) ?_
     refine L.nil (E.thenN (W.block (W.seq (W.region (L.ite h rfl (Y.eql rfl rfl) (fun c9 h => ?_) (fun c9 h => ?_))))))
     ·
      refine L.y rfl (Y.assign rfl) ?_
      refine L.nil (E.thenN (W.condT rfl ?_))
      refine W.region (L.y rfl (Y.move rfl) ?_)
      refine L.y rfl (Y.move rfl) ?_
      refine L.y rfl (Y.move rfl) ?_
      obtain ⟨x10, e11, h⟩ := bind1S h
      refine L.y rfl (Y.does en141 rfl (fun w' hw => (w141_quirref_snapFrom a0 gl4 gx5 u0 gv3 w' _ e11 (hA0.cls0 hw) (As.at_ (hw.get (i := 2) rfl))).mono (fun _ _ h => h.1))) ?_
      refine L.y rfl (Y.fieldP fd152_1 rfl) ?_
      refine L.store (i := 0) sz3 rfl rfl rfl rfl (by simp [Value.oneCell', Value.cells, st, pt]) rfl (Nat.le_of_ble_eq_true rfl) ?_
      exact L.nil (E.blockN (E.joinJ ⟨true, x10, rfl, rfl, h⟩ ⟨rfl, rfl, rfl, rfl, rfl, rfl, rfl, trivial⟩ (fun _ hw => hw.sel [0, 2] (by decide) rfl)))
     ·
      refine L.y rfl (Y.assign rfl) ?_
      refine L.nil (E.thenN (W.condF rfl ?_))
      refine W.seq (W.region (L.ite h rfl (Y.eql rfl rfl) (fun c12 h => ?_) (fun c12 h => ?_)))
      ·
       refine L.y rfl (Y.assign rfl) ?_
       refine L.nil (E.thenN (W.condT rfl ?_))
       refine W.region (L.cutJ 15 (fun gs D => ∃ (gb8 : Bool), gs = [(0, u0), (1, .bool a1), (5, gv3), (8, pt b4 0), (9, u0), (10, .int .i64 (a0.length : Int)), (11, .int .i64 gx5), (42, .bool gb8)] ∧ D = Cls w [] [.obj b4 [.bool true, .int .i64 (-1)] 152, .sl gv3 152 2 (gl4.map TDid.row)] ∧ m98_quirref_Snap_K3 gl4 gx5 go1 gb8 = some r) ?_ ?_)
       ·
        refine L.y rfl (Y.move rfl) ?_
        refine L.y rfl (Y.move rfl) ?_
        refine L.y rfl (Y.move rfl) ?_
        obtain ⟨b13, e14, h⟩ := bind1S h
        refine L.y rfl (Y.does en142 rfl (fun w' hw => (w142_quirref_lost a0 gl4 gx5 u0 gv3 w' _ e14 (hA0.cls0 hw) (As.at_ (hw.get (i := 2) rfl))).mono (fun _ _ h => h.1))) ?_
        rcases b13 with _ | _
        ·
         replace h := iteF h
         refine L.y rfl (Y.not rfl) ?_
         refine L.y rfl (Y.move rfl) ?_
         refine L.take rfl (L.iteB h rfl (Y.move rfl) (fun c15 h => ?_) (fun c15 h => ?_))
         ·
          refine L.take rfl (L.y rfl (Y.move rfl) ?_)
          refine L.take rfl (L.y rfl (Y.move rfl) ?_)
          refine L.take rfl (L.y rfl (Y.move rfl) ?_)
          refine L.take rfl (L.y rfl (Y.move rfl) ?_)
          refine L.take rfl ?_
          obtain ⟨b16, e17, h⟩ := bind1S h
          refine L.y rfl (Y.does en143 rfl (fun w' hw => (w143_quirref_between a0 gl4 gx5 u0 gv3 w' _ e17 (hA0.cls0 hw) (As.at_ (hw.get (i := 2) rfl))).mono (fun _ _ h => h.1))) ?_
          refine L.take rfl (L.y rfl (Y.pickT rfl rfl) ?_)
          refine L.take rfl (L.y rfl (Y.not rfl) ?_)
          refine L.y rfl (Y.pickT rfl rfl) ?_
          exact L.nil (E.joinJ ⟨(!b16), rfl, rfl, h⟩ ⟨rfl, rfl, rfl, rfl, rfl, rfl, rfl, rfl, trivial⟩ (fun _ hw => hw.sel [0, 2] (by decide) rfl))
         ·
          refine L.take rfl (L.y rfl (Y.move rfl) ?_)
          refine L.pass rfl rfl (by nofun) ?_
          refine L.pass rfl rfl (by nofun) ?_
          refine L.pass rfl rfl (by nofun) ?_
          refine L.pass rfl rfl (by nofun) ?_
          refine L.take rfl (L.y rfl (Y.pickF rfl rfl) ?_)
          refine L.take rfl (L.y rfl (Y.not rfl) ?_)
          refine L.y rfl (Y.pickT rfl rfl) ?_
          exact L.nil (E.joinJ ⟨true, rfl, rfl, h⟩ ⟨rfl, rfl, rfl, rfl, rfl, rfl, rfl, rfl, trivial⟩ (fun _ hw => hw.sel [0, 2] (by decide) rfl))
        ·
         replace h := iteT h
         refine L.y rfl (Y.not rfl) ?_
         refine L.y rfl (Y.move rfl) ?_
         refine L.pass rfl rfl (by nofun) ?_
         refine L.pass rfl rfl (by nofun) ?_
         refine L.pass rfl rfl (by nofun) ?_
         refine L.pass rfl rfl (by nofun) ?_
         refine L.pass rfl rfl (by nofun) ?_
         refine L.pass rfl rfl (by nofun) ?_
         refine L.pass rfl rfl (by nofun) ?_
         refine L.pass rfl rfl (by nofun) ?_
         refine L.y rfl (Y.pickF rfl rfl) ?_
         exact L.nil (E.joinJ ⟨false, rfl, rfl, h⟩ ⟨rfl, rfl, rfl, rfl, rfl, rfl, rfl, rfl, trivial⟩ (fun _ hw => hw.sel [0, 2] (by decide) rfl))
       ·
        rintro _ _ ⟨gb8, rfl, rfl, h⟩
        rw [m98_quirref_Snap_K3] at h
        refine L.y rfl (Y.fieldP fd152_0 rfl) ?_
        refine L.store (i := 0) sz4 rfl rfl rfl rfl (by simp [Value.oneCell', Value.cells, st, pt]) rfl (Nat.le_of_ble_eq_true rfl) ?_
        exact L.nil (E.blockN (E.joinJ ⟨gb8, (-1), rfl, rfl, h⟩ ⟨rfl, rfl, rfl, rfl, rfl, rfl, rfl, trivial⟩ (fun _ hw => hw)))
      ·
       refine L.y rfl (Y.assign rfl) ?_
       refine L.nil (E.thenN (W.condF rfl ?_))
       exact W.skip (E.blockN (E.joinJ ⟨true, (-1), rfl, rfl, h⟩ ⟨rfl, rfl, rfl, rfl, rfl, rfl, rfl, trivial⟩ (fun _ hw => hw.sel [0, 2] (by decide) rfl)))
    ·
     rintro _ _ ⟨gb6, gx7, rfl, rfl, h⟩
     rw [m98_quirref_Snap_K2] at h
     refine W.region (L.y rfl (Y.move rfl) ?_)
     refine L.y rfl (Y.loadPW (i := 0) ag152 sz152 rfl rfl rfl) ?_
     refine L.litAgg rfl Try.underlying147 el152 rfl rfl rfl ?_
     intro b5
     refine L.appM (i := 2) (g := TDid.row) (l := gl4) (more := [(⟨gb6, gx7⟩ : TDid)]) h rfl Try.underlying147 el152 rfl rfl rfl (fun w hw => As.at_ (hw.get (i := 0) rfl)) (plain_TDid _) rfl ?_
     intro v6 l7 el7 h
     refine L.y rfl (Y.assign rfl) ?_
     refine L.nil (E.blockN (E.thenN (W.region (L.m (V := fun x8 => .int .i64 x8) h rfl (Y.addM rfl rfl) (fun x8 ex8 h => ?_)))))
     refine L.y rfl (Y.move rfl) ?_
     exact L.nil (E.againJ ⟨v6, l7, x8, rfl, rfl, by rw [hg1]; exact h⟩ (Nat.lt_succ_self _) ⟨rfl, rfl, rfl, rfl, rfl, rfl, trivial⟩ (fun _ hw => hw.sel [0] (by decide) rfl))
   ·
    refine L.nil (E.thenN (W.seq (W.condF rfl ?_)))
    exact W.exit (E.thenX (E.KLX (E.blockX (E.joinJ ⟨gv3, gl4, rfl, rfl, h⟩ ⟨rfl, trivial⟩ (fun _ hw => hw)))))
  ·
   rintro _ _ ⟨gv1, gl2, rfl, rfl, h⟩
   rw [m98_quirref_Snap_K1] at h
   refine W.seq (W.region (L.y rfl (Y.move rfl) ?_))
   refine L.y rfl (Y.assign rfl) ?_
   refine L.nil (E.thenN (W.ret (E.ret1 rfl rfl (fun w1 hw => ?_))))
   obtain rfl := Option.some.inj h
   exact ⟨_, _, rfl, ⟨_, rfl, rfl⟩, hw⟩
set_option maxRecDepth 100000 in
set_option maxHeartbeats 8000000 in
theorem w97_api_Did (a0 : (List TDid)) (a1 : (List TDid)) (u0 : Value) (u1 : Value) (w : World) (r : Bool) (h : m97_api_Did a0 a1 = some r) (hA0 : At w u0 2 (a0.map TDid.row)) (hA1 : At w u1 2 (a1.map TDid.row)) : Does Try.prog 97 [u0, u1] w fun u m => u = .bool r ∧ m = [] := by
  rw [m97_api_Did] at h
  refine body (n := 26) Try.func97 rfl rfl rfl (Cls.refl w) ?_
  refine W.seq (W.region (L.y rfl (Y.assign rfl) ?_))
  refine L.nil (E.thenN (W.seqJ (fun gs D => gs = [(0, u0), (1, u1)] ∧ D = Cls w [] [] ∧ m97_api_Did_K1 a0 a1 = some r) ?_ ?_))
  ·
   refine W.seq (W.region (L.y rfl (Y.move rfl) ?_))
   refine L.y rfl (Y.lenM (g := TDid.row) (l := a0) Try.underlying147 rfl (fun w' hw => hA0.cls0 hw)) ?_
   refine L.y rfl (Y.move rfl) ?_
   refine L.y rfl (Y.lenM (g := TDid.row) (l := a1) Try.underlying147 rfl (fun w' hw => hA1.cls0 hw)) ?_
   refine L.ite h rfl (Y.neq rfl rfl) (fun c6 h => ?_) (fun c6 h => ?_)
   ·
    refine L.nil (E.thenN (W.condT rfl ?_))
    refine W.seq (W.region (L.y rfl (Y.assign rfl) ?_))
    refine L.nil (E.thenN (W.ret (E.KSR (E.ret1 rfl rfl (fun w1 hw => ?_)))))
    obtain rfl := Option.some.inj h
    exact ⟨_, _, rfl, ⟨rfl, rfl⟩, hw⟩
   ·
    refine L.nil (E.thenN (W.condF rfl ?_))
    exact W.skip (E.joinJ ⟨rfl, rfl, h⟩ ⟨rfl, rfl, trivial⟩ (fun _ hw => hw))
  ·
   rintro _ _ ⟨rfl, rfl, h⟩
   rw [m97_api_Did_K1] at h
   refine W.seqJ (fun gs D => gs = [] ∧ D = Cls w [] [] ∧ m97_api_Did_K2 = some r) ?_ ?_
   ·
    refine W.seq (W.region (L.y rfl (Y.move rfl) ?_))
    refine L.y rfl (Y.lenM (g := TDid.row) (l := a0) Try.underlying147 rfl (fun w' hw => hA0.cls0 hw)) ?_
    refine L.y rfl (Y.move rfl) ?_
    refine L.nil (E.thenN (W.block (W.loopJ (fun m gs D => ∃ (gx1 : Int), gs = [(0, u0), (1, u1), (12, .int .i64 (a0.length : Int)), (13, .int .i64 gx1)] ∧ D = Cls w [] [] ∧ m97_api_Did_L1 a0 a1 m gx1 = some r) ⟨0, rfl, rfl, h⟩ ⟨rfl, rfl, rfl, rfl, trivial⟩ (fun _ hw => hw) ?_)))
    rintro m _ _ ⟨gx1, rfl, rfl, h⟩
    rcases m with _ | m
    · rw [m97_api_Did_L1] at h; cases h
    rw [m97_api_Did_L1] at h
    generalize hg1 : m97_api_Did_L1 a0 a1 m = go1 at h
    rw [m97_api_Did_L1B] at h
    refine W.seq (W.region (L.ite h rfl (Y.lss rfl rfl) (fun c1 h => ?_) (fun c1 h => ?_)))
    ·
     refine L.nil (E.thenN (W.seq (W.condT rfl ?_)))
     refine W.skip (E.thenN (W.seq (W.block (W.seq (W.region (L.y rfl (Y.move rfl) ?_))))))
     refine L.y rfl (Y.assign rfl) ?_
     refine L.nil (E.thenN (W.seq (W.quietC mixed (by kernel_rfl) (fun _ hw => hw.drew) (fun hC => ?_))))
     refine U.y rfl (Y.move rfl) ?_
     refine U.y rfl (Y.move rfl) ?_
     refine U.m (V := fun _ => el u0 (gx1.toNat * 2)) h rfl (Y.indexM (g := TDid.row) (l := a0) Try.underlying147 sz152 rfl rfl (fun w' hw => hA0.cls0 hw)) (fun x2 ex2 h => ?_)
     refine U.y rfl (Y.loadEN (r := [.bool x2.OK, .int .i64 x2.From]) ag152 sz152 rfl (fun w' hw => hA0.cls0 hw) (idx_map ex2) rfl) ?_
     refine U.y rfl (Y.move rfl) ?_
     refine U.y rfl (Y.move rfl) ?_
     refine U.m (V := fun _ => el u1 (gx1.toNat * 2)) h rfl (Y.indexM (g := TDid.row) (l := a1) Try.underlying147 sz152 rfl rfl (fun w' hw => hA1.cls0 hw)) (fun x3 ex3 h => ?_)
     refine U.y rfl (Y.loadEN (r := [.bool x3.OK, .int .i64 x3.From]) ag152 sz152 rfl (fun w' hw => hA1.cls0 hw) (idx_map ex3) rfl) ?_
     refine U.ite h rfl (Y.neqA (row := TDid.row) (a := x2) (b := x3) eg152 ag152 (sh152 _) (sh152 _) (inj152 _ _) rfl rfl) (fun c4 h => ?_) (fun c4 h => ?_)
     ·
      refine U.nil (E.thenN (W.condT rfl ?_))
      refine W.seq (W.region (L.y rfl (Y.assign rfl) ?_))
      refine L.nil (E.thenN (W.ret (E.blockR (E.thenR (E.KLR (E.blockR (E.KSR (E.ret1 rfl rfl (fun w1 hw => ?_)))))))))
      obtain rfl := Option.some.inj h
      exact ⟨_, _, rfl, ⟨rfl, rfl⟩, hw⟩
     ·
      refine U.nil (E.thenN (W.condF rfl ?_))
      refine W.skip (E.blockN (E.thenN (W.region (L.m (V := fun x5 => .int .i64 x5) h rfl (Y.addM rfl rfl) (fun x5 ex5 h => ?_)))))
      refine L.y rfl (Y.move rfl) ?_
      exact L.nil (E.againJ ⟨x5, rfl, rfl, by rw [hg1]; exact h⟩ (Nat.lt_succ_self _) ⟨rfl, rfl, rfl, rfl, trivial⟩ (fun _ hw => hw))
    ·
     refine L.nil (E.thenN (W.seq (W.condF rfl ?_)))
     exact W.exit (E.thenX (E.KLX (E.blockX (E.joinJ ⟨rfl, rfl, h⟩ trivial (fun _ hw => hw)))))
   ·
    rintro _ _ ⟨rfl, rfl, h⟩
    rw [m97_api_Did_K2] at h
    refine W.seq (W.region (L.y rfl (Y.assign rfl) ?_))
    refine L.nil (E.thenN (W.ret (E.ret1 rfl rfl (fun w1 hw => ?_))))
    obtain rfl := Option.some.inj h
    exact ⟨_, _, rfl, ⟨rfl, rfl⟩, hw⟩
set_option maxRecDepth 100000 in
set_option maxHeartbeats 8000000 in
theorem w14_quirlaw_SnapPlays (a0 : (List TOp)) (u0 : Value) (w : World) (r : Bool) (h : m14_quirlaw_SnapPlays a0 = some r) (hA0 : At w u0 3 (a0.map TOp.row)) : Does Try.prog 14 [u0] w fun u m => u = .bool r ∧ m = [] := by
  rw [m14_quirlaw_SnapPlays] at h
  refine body (n := 58) Try.func14 rfl rfl rfl (Cls.refl w) ?_
  refine W.seq (W.region (L.y rfl (Y.assign rfl) ?_))
  refine L.nil (E.thenN (W.seq (W.region (L.y rfl (Y.move rfl) ?_))))
  obtain ⟨l1, x3, e4, h⟩ := bind2S h
  refine L.does rfl en95 rfl (fun w' hw => w95_snap_Play a0 u0 w' _ e4 (hA0.cls0 hw)) ?_
  rintro _ _ ⟨v2, rfl, rfl⟩
  refine L.y rfl (Y.move rfl) ?_
  refine L.y rfl (Y.extract rfl rfl) ?_
  refine L.y rfl (Y.extract rfl rfl) ?_
  refine L.y rfl (Y.assign rfl) ?_
  refine L.y rfl (Y.assign rfl) ?_
  refine L.nil (E.thenN (W.seq (W.region (L.y rfl (Y.move rfl) ?_))))
  obtain ⟨l5, x7, e8, h⟩ := bind2S h
  refine L.does rfl en96 rfl (fun w' hw => w96_skew_Play a0 u0 w' _ e8 (hA0.cls0 hw)) ?_
  rintro _ _ ⟨v6, rfl, rfl⟩
  refine L.y rfl (Y.move rfl) ?_
  refine L.y rfl (Y.extract rfl rfl) ?_
  refine L.y rfl (Y.extract rfl rfl) ?_
  refine L.y rfl (Y.assign rfl) ?_
  refine L.y rfl (Y.assign rfl) ?_
  refine L.nil (E.thenN (W.seqJ (fun gs D => gs = [(0, u0), (3, v2), (4, .int .i64 x3), (5, v6), (6, .int .i64 x7)] ∧ D = Cls w [] [.sl v2 152 2 (l1.map TDid.row), .sl v6 152 2 (l5.map TDid.row)] ∧ m14_quirlaw_SnapPlays_K1 a0 l1 x3 l5 x7 = some r) ?_ ?_))
  ·
   refine W.seq (W.region (L.y rfl (Y.move rfl) ?_))
   obtain ⟨x20, e21, h⟩ := bind1S h
   refine L.y rfl (Y.does en51 rfl (fun w' hw => (w51_quirref_RunErr a0 u0 w' _ e21 (hA0.cls0 hw)).mono (fun _ _ h => h.1))) ?_
   refine L.y rfl (Y.assign rfl) ?_
   refine L.nil (E.thenN (W.seq (W.region (L.y rfl (Y.move rfl) ?_))))
   refine L.ite h rfl (Y.neq rfl rfl) (fun c22 h => ?_) (fun c22 h => ?_)
   ·
    refine L.nil (E.thenN (W.condT rfl ?_))
    refine W.seq (W.region (L.cutJ 8 (fun gs D => ∃ (gb2 : Bool), gs = [(5, v6), (6, .int .i64 x7), (7, .int .i64 x20), (29, .bool gb2)] ∧ D = Cls w [] [.sl v6 152 2 (l5.map TDid.row)] ∧ m14_quirlaw_SnapPlays_K3 l5 x7 x20 gb2 = some r) ?_ ?_))
    ·
     refine L.y rfl (Y.move rfl) ?_
     refine L.y rfl (Y.lenM (g := TDid.row) (l := l1) Try.underlying147 rfl (fun w hw => As.at_ (hw.get (i := 1) rfl))) ?_
     refine L.ite h rfl (Y.eql rfl rfl) (fun c24 h => ?_) (fun c24 h => ?_)
     ·
      refine L.y rfl (Y.move rfl) ?_
      refine L.take rfl (L.y rfl (Y.move rfl) ?_)
      refine L.take rfl (L.y rfl (Y.move rfl) ?_)
      refine L.take rfl (L.ite h rfl (Y.eql rfl rfl) (fun c25 h => ?_) (fun c25 h => ?_))
      ·
       refine L.y rfl (Y.pickT rfl rfl) ?_
       exact L.nil (E.joinJ ⟨true, rfl, rfl, h⟩ ⟨rfl, rfl, rfl, rfl, trivial⟩ (fun _ hw => hw.sel [0] (by decide) rfl))
      ·
       refine L.y rfl (Y.pickT rfl rfl) ?_
       exact L.nil (E.joinJ ⟨false, rfl, rfl, h⟩ ⟨rfl, rfl, rfl, rfl, trivial⟩ (fun _ hw => hw.sel [0] (by decide) rfl))
     ·
      refine L.y rfl (Y.move rfl) ?_
      refine L.pass rfl rfl (by nofun) ?_
      refine L.pass rfl rfl (by nofun) ?_
      refine L.pass rfl rfl (by nofun) ?_
      refine L.y rfl (Y.pickF rfl rfl) ?_
      exact L.nil (E.joinJ ⟨false, rfl, rfl, h⟩ ⟨rfl, rfl, rfl, rfl, trivial⟩ (fun _ hw => hw.sel [0] (by decide) rfl))
    ·
     rintro _ _ ⟨gb2, rfl, rfl, h⟩
     rw [m14_quirlaw_SnapPlays_K3] at h
     rcases gb2 with _ | _
     ·
      replace h := iteF h
      refine L.y rfl (Y.move rfl) ?_
      refine L.pass rfl rfl (by nofun) ?_
      refine L.pass rfl rfl (by nofun) ?_
      refine L.pass rfl rfl (by nofun) ?_
      refine L.y rfl (Y.pickF rfl rfl) ?_
      refine L.y rfl (Y.move rfl) ?_
      refine L.pass rfl rfl (by nofun) ?_
      refine L.pass rfl rfl (by nofun) ?_
      refine L.pass rfl rfl (by nofun) ?_
      refine L.y rfl (Y.pickF rfl rfl) ?_
      refine L.y rfl (Y.assign rfl) ?_
      refine L.nil (E.thenN (W.ret (E.KSR (E.ret1 rfl rfl (fun w1 hw => ?_)))))
      obtain rfl := Option.some.inj h
      exact ⟨_, _, rfl, ⟨rfl, rfl⟩, hw.sel [] (by decide) rfl⟩
     ·
      replace h := iteT h
      refine L.y rfl (Y.move rfl) ?_
      refine L.take rfl (L.y rfl (Y.move rfl) ?_)
      refine L.take rfl (L.y rfl (Y.lenM (g := TDid.row) (l := l5) Try.underlying147 rfl (fun w hw => As.at_ (hw.get (i := 0) rfl))) ?_)
      refine L.take rfl (L.ite h rfl (Y.eql rfl rfl) (fun c23 h => ?_) (fun c23 h => ?_))
      ·
       refine L.y rfl (Y.pickT rfl rfl) ?_
       refine L.y rfl (Y.move rfl) ?_
       refine L.take rfl (L.y rfl (Y.move rfl) ?_)
       refine L.take rfl (L.y rfl (Y.move rfl) ?_)
       refine L.take rfl (L.y rfl (Y.eql rfl rfl) ?_)
       refine L.y rfl (Y.pickT rfl rfl) ?_
       refine L.y rfl (Y.assign rfl) ?_
       refine L.nil (E.thenN (W.ret (E.KSR (E.ret1 rfl rfl (fun w1 hw => ?_)))))
       obtain rfl := Option.some.inj h
       exact ⟨_, _, rfl, ⟨rfl, rfl⟩, hw.sel [] (by decide) rfl⟩
      ·
       refine L.y rfl (Y.pickT rfl rfl) ?_
       refine L.y rfl (Y.move rfl) ?_
       refine L.pass rfl rfl (by nofun) ?_
       refine L.pass rfl rfl (by nofun) ?_
       refine L.pass rfl rfl (by nofun) ?_
       refine L.y rfl (Y.pickF rfl rfl) ?_
       refine L.y rfl (Y.assign rfl) ?_
       refine L.nil (E.thenN (W.ret (E.KSR (E.ret1 rfl rfl (fun w1 hw => ?_)))))
       obtain rfl := Option.some.inj h
       exact ⟨_, _, rfl, ⟨rfl, rfl⟩, hw.sel [] (by decide) rfl⟩
   ·
    refine L.nil (E.thenN (W.condF rfl ?_))
    exact W.skip (E.joinJ ⟨rfl, rfl, h⟩ ⟨rfl, rfl, rfl, rfl, rfl, trivial⟩ (fun _ hw => hw.sel [1, 0] (by decide) rfl))
  ·
   rintro _ _ ⟨rfl, rfl, h⟩
   rw [m14_quirlaw_SnapPlays_K1] at h
   refine W.seq (W.region (L.cutJ 8 (fun gs D => ∃ (gb1 : Bool), gs = [(0, u0), (5, v6), (6, .int .i64 x7), (47, .bool gb1)] ∧ D = Cls w [] [.sl v6 152 2 (l5.map TDid.row)] ∧ m14_quirlaw_SnapPlays_K2 a0 l5 x7 gb1 = some r) ?_ ?_))
   ·
    refine L.y rfl (Y.move rfl) ?_
    refine L.y rfl (Y.move rfl) ?_
    obtain ⟨l14, e16, h⟩ := bind1S h
    refine L.does rfl en98 rfl (fun w' hw => w98_quirref_Snap a0 false u0 w' _ e16 (hA0.cls0 hw)) ?_
    rintro v15 _ ⟨_, rfl, rfl⟩
    obtain ⟨b17, e18, h⟩ := bind1S h
    refine L.y rfl (Y.does en97 rfl (fun w' hw => (w97_api_Did l1 l14 v2 v15 w' _ e18 (As.at_ (hw.get (i := 1) rfl)) (As.at_ (hw.get (i := 0) rfl))).mono (fun _ _ h => h.1))) ?_
    rcases b17 with _ | _
    ·
     replace h := iteF h
     refine L.y rfl (Y.move rfl) ?_
     refine L.pass rfl rfl (by nofun) ?_
     refine L.pass rfl rfl (by nofun) ?_
     refine L.y rfl (Y.pickF rfl rfl) ?_
     exact L.nil (E.joinJ ⟨false, rfl, rfl, h⟩ ⟨rfl, rfl, rfl, rfl, trivial⟩ (fun _ hw => hw.sel [2] (by decide) rfl))
    ·
     replace h := iteT h
     refine L.y rfl (Y.move rfl) ?_
     refine L.take rfl (L.y rfl (Y.move rfl) ?_)
     refine L.take rfl (L.ite h rfl (Y.eql rfl rfl) (fun c19 h => ?_) (fun c19 h => ?_))
     ·
      refine L.y rfl (Y.pickT rfl rfl) ?_
      exact L.nil (E.joinJ ⟨true, rfl, rfl, h⟩ ⟨rfl, rfl, rfl, rfl, trivial⟩ (fun _ hw => hw.sel [2] (by decide) rfl))
     ·
      refine L.y rfl (Y.pickT rfl rfl) ?_
      exact L.nil (E.joinJ ⟨false, rfl, rfl, h⟩ ⟨rfl, rfl, rfl, rfl, trivial⟩ (fun _ hw => hw.sel [2] (by decide) rfl))
   ·
    rintro _ _ ⟨gb1, rfl, rfl, h⟩
    rw [m14_quirlaw_SnapPlays_K2] at h
    rcases gb1 with _ | _
    ·
     replace h := iteF h
     refine L.y rfl (Y.move rfl) ?_
     refine L.pass rfl rfl (by nofun) ?_
     refine L.pass rfl rfl (by nofun) ?_
     refine L.pass rfl rfl (by nofun) ?_
     refine L.pass rfl rfl (by nofun) ?_
     refine L.y rfl (Y.pickF rfl rfl) ?_
     refine L.y rfl (Y.move rfl) ?_
     refine L.pass rfl rfl (by nofun) ?_
     refine L.pass rfl rfl (by nofun) ?_
     refine L.y rfl (Y.pickF rfl rfl) ?_
     refine L.y rfl (Y.assign rfl) ?_
     refine L.nil (E.thenN (W.ret (E.ret1 rfl rfl (fun w1 hw => ?_))))
     obtain rfl := Option.some.inj h
     exact ⟨_, _, rfl, ⟨rfl, rfl⟩, hw.sel [] (by decide) rfl⟩
    ·
     replace h := iteT h
     refine L.y rfl (Y.move rfl) ?_
     refine L.take rfl (L.y rfl (Y.move rfl) ?_)
     refine L.take rfl (L.y rfl (Y.move rfl) ?_)
     refine L.take rfl ?_
     obtain ⟨l9, e11, h⟩ := bind1S h
     refine L.does rfl en98 rfl (fun w' hw => w98_quirref_Snap a0 true u0 w' _ e11 (hA0.cls0 hw)) ?_
     rintro v10 _ ⟨_, rfl, rfl⟩
     refine L.take rfl ?_
     obtain ⟨b12, e13, h⟩ := bind1S h
     refine L.y rfl (Y.does en97 rfl (fun w' hw => (w97_api_Did l5 l9 v6 v10 w' _ e13 (As.at_ (hw.get (i := 1) rfl)) (As.at_ (hw.get (i := 0) rfl))).mono (fun _ _ h => h.1))) ?_
     rcases b12 with _ | _
     ·
      replace h := iteF h
      refine L.y rfl (Y.pickT rfl rfl) ?_
      refine L.y rfl (Y.move rfl) ?_
      refine L.pass rfl rfl (by nofun) ?_
      refine L.pass rfl rfl (by nofun) ?_
      refine L.y rfl (Y.pickF rfl rfl) ?_
      refine L.y rfl (Y.assign rfl) ?_
      refine L.nil (E.thenN (W.ret (E.ret1 rfl rfl (fun w1 hw => ?_))))
      obtain rfl := Option.some.inj h
      exact ⟨_, _, rfl, ⟨rfl, rfl⟩, hw.sel [] (by decide) rfl⟩
     ·
      replace h := iteT h
      refine L.y rfl (Y.pickT rfl rfl) ?_
      refine L.y rfl (Y.move rfl) ?_
      refine L.take rfl (L.y rfl (Y.move rfl) ?_)
      refine L.take rfl (L.y rfl (Y.eql rfl rfl) ?_)
      refine L.y rfl (Y.pickT rfl rfl) ?_
      refine L.y rfl (Y.assign rfl) ?_
      refine L.nil (E.thenN (W.ret (E.ret1 rfl rfl (fun w1 hw => ?_))))
      obtain rfl := Option.some.inj h
      exact ⟨_, _, rfl, ⟨rfl, rfl⟩, hw.sel [] (by decide) rfl⟩
end Go.Proofs.Ytfmgjigdebofaaa
