/-
  Walks, printed by a program of mine.
  Conditions: none.
-/
import Derived.Test.YtglbgeamiobldaaRlW1
import Derived.Test.YtglbgeamiobldaaChecked
import Derived.KernelRfl
import Derived.Test.YtglbgeamiobldaaRlO
namespace Go.Proofs.Ytglbgeamiobldaa
open Go.S
set_option linter.unusedVariables false
set_option linter.unusedSimpArgs false
set_option maxRecDepth 100000 in
set_option maxHeartbeats 8000000 in
theorem w19_quirref_clash (a0 : TOp) (a1 : TOp) (w : World) (r : Bool) (h : m19_quirref_clash a0 a1 = some r) : Does Try.prog 19 [.agg #[.int .i64 a0.Tx, .int .i64 a0.Kind, .int .i64 a0.Item], .agg #[.int .i64 a1.Tx, .int .i64 a1.Kind, .int .i64 a1.Item]] w fun u m => u = .bool r ∧ m = [] := by
  rw [m19_quirref_clash] at h
  refine body (n := 35) Try.func19 rfl rfl rfl (Cls.refl w) ?_
  refine W.seq (W.region (L.box rfl rfl ?_))
  intro b1
  refine L.box rfl rfl ?_
  intro b2
  refine L.y rfl (Y.assign rfl) ?_
  refine L.nil (E.thenN (W.seq (W.region (L.cutJ 12 (fun gs D => ∃ (gb1 : Bool), gs = [(2, pt b1 0), (3, pt b2 0), (16, .bool gb1)] ∧ D = Cls w [] [.obj b2 [.int .i64 a1.Tx, .int .i64 a1.Kind, .int .i64 a1.Item] 30, .obj b1 [.int .i64 a0.Tx, .int .i64 a0.Kind, .int .i64 a0.Item] 30] ∧ m19_quirref_clash_K1 a0 a1 gb1 = some r) ?_ ?_))))
  ·
   refine L.y rfl (Y.fieldP fd30_0 rfl) ?_
   refine L.y rfl (Y.loadP (i := 1) ag3 rfl rfl rfl) ?_
   refine L.y rfl (Y.fieldP fd30_0 rfl) ?_
   refine L.y rfl (Y.loadP (i := 0) ag3 rfl rfl rfl) ?_
   refine L.ite h rfl (Y.neq rfl rfl) (fun c6 h => ?_) (fun c6 h => ?_)
   ·
    refine L.y rfl (Y.move rfl) ?_
    refine L.take rfl (L.y rfl (Y.fieldP fd30_2 rfl) ?_)
    refine L.take rfl (L.y rfl (Y.loadP (i := 1) ag3 rfl rfl rfl) ?_)
    refine L.take rfl (L.y rfl (Y.fieldP fd30_2 rfl) ?_)
    refine L.take rfl (L.y rfl (Y.loadP (i := 0) ag3 rfl rfl rfl) ?_)
    refine L.take rfl (L.ite h rfl (Y.eql rfl rfl) (fun c7 h => ?_) (fun c7 h => ?_))
    ·
     refine L.y rfl (Y.pickT rfl rfl) ?_
     exact L.nil (E.joinJ ⟨true, rfl, rfl, h⟩ ⟨rfl, rfl, rfl, trivial⟩ (fun _ hw => hw))
    ·
     refine L.y rfl (Y.pickT rfl rfl) ?_
     exact L.nil (E.joinJ ⟨false, rfl, rfl, h⟩ ⟨rfl, rfl, rfl, trivial⟩ (fun _ hw => hw))
   ·
    refine L.y rfl (Y.move rfl) ?_
    refine L.pass rfl rfl (by nofun) ?_
    refine L.pass rfl rfl (by nofun) ?_
    refine L.pass rfl rfl (by nofun) ?_
    refine L.pass rfl rfl (by nofun) ?_
    refine L.pass rfl rfl (by nofun) ?_
    refine L.y rfl (Y.pickF rfl rfl) ?_
    exact L.nil (E.joinJ ⟨false, rfl, rfl, h⟩ ⟨rfl, rfl, rfl, trivial⟩ (fun _ hw => hw))
  ·
   rintro _ _ ⟨gb1, rfl, rfl, h⟩
   rw [m19_quirref_clash_K1] at h
   rcases gb1 with _ | _
   ·
    replace h := iteF h
    refine L.y rfl (Y.move rfl) ?_
    refine L.pass rfl rfl (by nofun) ?_
    refine L.pass rfl rfl (by nofun) ?_
    refine L.pass rfl rfl (by nofun) ?_
    refine L.y rfl (Y.pickF rfl rfl) ?_
    refine L.y rfl (Y.move rfl) ?_
    refine L.pass rfl rfl (by nofun) ?_
    refine L.pass rfl rfl (by nofun) ?_
    refine L.pass rfl rfl (by nofun) ?_
    refine L.y rfl (Y.pickF rfl rfl) ?_
    refine L.y rfl (Y.move rfl) ?_
    refine L.pass rfl rfl (by nofun) ?_
    refine L.pass rfl rfl (by nofun) ?_
    refine L.pass rfl rfl (by nofun) ?_
    refine L.pass rfl rfl (by nofun) ?_
    refine L.pass rfl rfl (by nofun) ?_
    refine L.pass rfl rfl (by nofun) ?_
    refine L.y rfl (Y.pickF rfl rfl) ?_
    refine L.y rfl (Y.assign rfl) ?_
    refine L.nil (E.thenN (W.ret (E.ret1 rfl rfl (fun w1 hw => ?_))))
    obtain rfl := Option.some.inj h
    exact ⟨_, _, rfl, ⟨rfl, rfl⟩, hw.sel [] (by decide) rfl⟩
   ·
    replace h := iteT h
    refine L.cutJ 10 (fun gs D => ∃ (gb2 : Bool), gs = [(2, pt b1 0), (3, pt b2 0), (26, .bool gb2)] ∧ D = Cls w [] [.obj b2 [.int .i64 a1.Tx, .int .i64 a1.Kind, .int .i64 a1.Item] 30, .obj b1 [.int .i64 a0.Tx, .int .i64 a0.Kind, .int .i64 a0.Item] 30] ∧ m19_quirref_clash_K2 a0 a1 gb2 = some r) ?_ ?_
    ·
     refine L.y rfl (Y.move rfl) ?_
     refine L.take rfl (L.y rfl (Y.fieldP fd30_1 rfl) ?_)
     refine L.take rfl (L.y rfl (Y.loadP (i := 1) ag3 rfl rfl rfl) ?_)
     refine L.take rfl (L.ite h rfl (Y.leq rfl rfl) (fun c4 h => ?_) (fun c4 h => ?_))
     ·
      refine L.y rfl (Y.pickT rfl rfl) ?_
      refine L.y rfl (Y.move rfl) ?_
      refine L.take rfl (L.y rfl (Y.fieldP fd30_1 rfl) ?_)
      refine L.take rfl (L.y rfl (Y.loadP (i := 0) ag3 rfl rfl rfl) ?_)
      refine L.take rfl (L.ite h rfl (Y.leq rfl rfl) (fun c5 h => ?_) (fun c5 h => ?_))
      ·
       refine L.y rfl (Y.pickT rfl rfl) ?_
       exact L.nil (E.joinJ ⟨true, rfl, rfl, h⟩ ⟨rfl, rfl, rfl, trivial⟩ (fun _ hw => hw))
      ·
       refine L.y rfl (Y.pickT rfl rfl) ?_
       exact L.nil (E.joinJ ⟨false, rfl, rfl, h⟩ ⟨rfl, rfl, rfl, trivial⟩ (fun _ hw => hw))
     ·
      refine L.y rfl (Y.pickT rfl rfl) ?_
      refine L.y rfl (Y.move rfl) ?_
      refine L.pass rfl rfl (by nofun) ?_
      refine L.pass rfl rfl (by nofun) ?_
      refine L.pass rfl rfl (by nofun) ?_
      refine L.y rfl (Y.pickF rfl rfl) ?_
      exact L.nil (E.joinJ ⟨false, rfl, rfl, h⟩ ⟨rfl, rfl, rfl, trivial⟩ (fun _ hw => hw))
    ·
     rintro _ _ ⟨gb2, rfl, rfl, h⟩
     rw [m19_quirref_clash_K2] at h
     rcases gb2 with _ | _
     ·
      replace h := iteF h
      refine L.y rfl (Y.move rfl) ?_
      refine L.pass rfl rfl (by nofun) ?_
      refine L.pass rfl rfl (by nofun) ?_
      refine L.pass rfl rfl (by nofun) ?_
      refine L.pass rfl rfl (by nofun) ?_
      refine L.pass rfl rfl (by nofun) ?_
      refine L.pass rfl rfl (by nofun) ?_
      refine L.y rfl (Y.pickF rfl rfl) ?_
      refine L.y rfl (Y.assign rfl) ?_
      refine L.nil (E.thenN (W.ret (E.ret1 rfl rfl (fun w1 hw => ?_))))
      obtain rfl := Option.some.inj h
      exact ⟨_, _, rfl, ⟨rfl, rfl⟩, hw.sel [] (by decide) rfl⟩
     ·
      replace h := iteT h
      refine L.y rfl (Y.move rfl) ?_
      refine L.take rfl (L.y rfl (Y.fieldP fd30_1 rfl) ?_)
      refine L.take rfl (L.y rfl (Y.loadP (i := 1) ag3 rfl rfl rfl) ?_)
      refine L.take rfl (L.y rfl (Y.fieldP fd30_1 rfl) ?_)
      refine L.take rfl (L.y rfl (Y.loadP (i := 0) ag3 rfl rfl rfl) ?_)
      refine L.take rfl (L.m (V := fun x3 => .int .i64 x3) h rfl (Y.addM rfl rfl) (fun x3 ex3 h => ?_))
      refine L.take rfl (L.y rfl (Y.gtr rfl rfl) ?_)
      refine L.y rfl (Y.pickT rfl rfl) ?_
      refine L.y rfl (Y.assign rfl) ?_
      refine L.nil (E.thenN (W.ret (E.ret1 rfl rfl (fun w1 hw => ?_))))
      obtain rfl := Option.some.inj h
      exact ⟨_, _, rfl, ⟨rfl, rfl⟩, hw.sel [] (by decide) rfl⟩
set_option maxRecDepth 100000 in
set_option maxHeartbeats 8000000 in
theorem w21_quirref_whichOne (a0 : (List TOp)) (a1 : Int) (u0 : Value) (w : World) (r : Int) (h : m21_quirref_whichOne a0 a1 = some r) (hA0 : At w u0 3 (a0.map TOp.row)) : Does Try.prog 21 [u0, .int .i64 a1] w fun u m => u = .int .i64 r ∧ m = [] := by
  rw [m21_quirref_whichOne] at h
  refine body (n := 15) Try.func21 rfl rfl rfl (Cls.refl w) ?_
  refine W.seq (W.region (L.y rfl (Y.assign rfl) ?_))
  refine L.nil (E.thenN (W.seq (W.drawn2 (k := 11) (stC [] [] (Cls w [] [])) rfl mixed (fun _ hw => hw.drew) (Sc.atD (fun _ hw => hw)) ?_)))
  refine V2.y (i := 0) (Nx2.of (Z := Cls w [] []) [] (by kernel_rfl) rfl (Zc.fin (fun _ hw => hw))) rfl rfl rfl (Y.move rfl) ?_
  refine V2.y (i := 1) (Nx2.of (Z := Cls w [] []) [] (by kernel_rfl) rfl (Zc.fin (fun _ hw => hw))) rfl rfl rfl (Y.move rfl) ?_
  refine V2.m (i := 2) (V' := fun _ => cutv u0 a1.toNat) h (Nx2.of (Z := Cls w [] []) [] (by kernel_rfl) rfl (Zc.fin (fun _ hw => hw))) rfl rfl rfl (Y.cutM (g := TOp.row) Try.underlying22 sz30 rfl rfl (fun w' hw => hA0.cls0 hw)) (fun l1 el1 h => ?_)
  refine V2.y (i := 3) (Nx2.of (Z := Cls w [] []) [] (by kernel_rfl) rfl (Zc.fin (fun _ hw => hw))) rfl rfl rfl (Y.move rfl) ?_
  refine V2.y (i := 4) (Nx2.of (Z := Cls w [] []) [] (by kernel_rfl) rfl (Zc.fin (fun _ hw => hw))) rfl rfl rfl (Y.move rfl) ?_
  refine V2.m (i := 5) (V' := fun _ => el u0 (a1.toNat * 3)) h (Nx2.of (Z := Cls w [] []) [] (by kernel_rfl) rfl (Zc.fin (fun _ hw => hw))) rfl rfl rfl (Y.indexM (g := TOp.row) (l := a0) Try.underlying22 sz30 rfl rfl (fun w' hw => hA0.cls0 hw)) (fun x2 ex2 h => ?_)
  refine V2.y (i := 6) (Nx2.of (Z := Cls w [] []) [] (by kernel_rfl) rfl (Zc.fin (fun _ hw => hw))) rfl rfl rfl (Y.fieldE fd30_0 rfl) ?_
  refine V2.y (i := 7) (Nx2.of (Z := Cls w [] []) [] (by kernel_rfl) rfl (Zc.fin (fun _ hw => hw))) rfl rfl rfl (Y.loadE (u := .int .i64 x2.Tx) ag3 rfl (fun w' hw => hA0.cls0 hw) (idx_map ex2) rfl) ?_
  refine V2.eff (i := 8) (by kernel_rfl) rfl ?_
  obtain ⟨l3, e5, h⟩ := bind1S h
  refine L.does rfl en18 rfl (fun w' hw => w18_quirref_Own l1 x2.Tx (cutv u0 a1.toNat) w' _ e5 ((hA0.cutM el1).cls0 hw)) ?_
  rintro v4 _ ⟨_, rfl, rfl⟩
  refine L.nil (E.toV2 (stC [] [] (Cls w [] [.sl v4 30 3 (l3.map TOp.row)])) 8 (by kernel_rfl) (Sc.stayD (fun _ hw => hw.sel [] (by decide) rfl)) (Sc.atD (fun _ hw => hw)) ?_)
  refine V2.y (i := 9) (Nx2.of (Z := Cls w [] [.sl v4 30 3 (l3.map TOp.row)]) [] (by kernel_rfl) rfl (Zc.fin (fun _ hw => hw))) rfl rfl rfl (Y.lenM (g := TOp.row) (l := l3) Try.underlying22 rfl (fun w hw => As.at_ (hw.get (i := 0) rfl))) ?_
  refine V2.y (i := 10) (Nx2.of (Z := Cls w [] [.sl v4 30 3 (l3.map TOp.row)]) [] (by kernel_rfl) rfl (Zc.fin (fun _ hw => hw))) rfl rfl rfl (Y.assign rfl) ?_
  refine V2.done (by kernel_rfl) ?_
  refine E.thenN (W.ret (E.ret1 rfl rfl (fun w1 hw => ?_)))
  obtain rfl := Option.some.inj h
  exact ⟨_, _, rfl, ⟨rfl, rfl⟩, hw.sel [] (by decide) rfl⟩
set_option maxRecDepth 100000 in
set_option maxHeartbeats 8000000 in
theorem w20_quirref_nth (a0 : (List TOp)) (a1 : Int) (a2 : Int) (u0 : Value) (w : World) (r : Int) (h : m20_quirref_nth a0 a1 a2 = some r) (hA0 : At w u0 3 (a0.map TOp.row)) : Does Try.prog 20 [u0, .int .i64 a1, .int .i64 a2] w fun u m => u = .int .i64 r ∧ m = [] := by
  rw [m20_quirref_nth] at h
  refine body (n := 26) Try.func20 rfl rfl rfl (Cls.refl w) ?_
  refine W.seq (W.region (L.y rfl (Y.assign rfl) ?_))
  refine L.nil (E.thenN (W.seqJ (fun gs D => gs = [] ∧ D = Cls w [] [] ∧ m20_quirref_nth_K1 = some r) ?_ ?_))
  ·
   refine W.seq (W.region (L.y rfl (Y.move rfl) ?_))
   refine L.y rfl (Y.lenM (g := TOp.row) (l := a0) Try.underlying22 rfl (fun w' hw => hA0.cls0 hw)) ?_
   refine L.y rfl (Y.move rfl) ?_
   refine L.nil (E.thenN (W.block (W.loopJ (fun m gs D => ∃ (gx1 : Int) (gx2 : Int), gs = [(1, .int .i64 a1), (2, .int .i64 gx1), (9, u0), (10, .int .i64 (a0.length : Int)), (11, .int .i64 gx2)] ∧ D = Cls w [] [] ∧ m20_quirref_nth_L1 a0 a1 m gx1 gx2 = some r) ⟨a2, 0, rfl, rfl, h⟩ ⟨rfl, rfl, rfl, rfl, rfl, trivial⟩ (fun _ hw => hw) ?_)))
   rintro m _ _ ⟨gx1, gx2, rfl, rfl, h⟩
   rcases m with _ | m
   · rw [m20_quirref_nth_L1] at h; cases h
   rw [m20_quirref_nth_L1] at h
   generalize hg1 : m20_quirref_nth_L1 a0 a1 m = go1 at h
   rw [m20_quirref_nth_L1B] at h
   refine W.seq (W.region (L.ite h rfl (Y.lss rfl rfl) (fun c1 h => ?_) (fun c1 h => ?_)))
   ·
    refine L.nil (E.thenN (W.seq (W.condT rfl ?_)))
    refine W.skip (E.thenN (W.seqJ (fun gs D => ∃ (gx3 : Int), gs = [(1, .int .i64 a1), (2, .int .i64 gx3), (9, u0), (10, .int .i64 (a0.length : Int)), (11, .int .i64 gx2)] ∧ D = Cls w [] [] ∧ m20_quirref_nth_K2 gx2 go1 gx3 = some r) ?_ ?_))
    ·
     refine W.block (W.seq (W.region (L.y rfl (Y.move rfl) ?_)))
     refine L.m (V := fun _ => el u0 (gx2.toNat * 3)) h rfl (Y.indexM (g := TOp.row) (l := a0) Try.underlying22 sz30 rfl rfl (fun w' hw => hA0.cls0 hw)) (fun x3 ex3 h => ?_)
     refine L.y rfl (Y.loadEN (r := [.int .i64 x3.Tx, .int .i64 x3.Kind, .int .i64 x3.Item]) ag30 sz30 rfl (fun w' hw => hA0.cls0 hw) (idx_map ex3) rfl) ?_
     refine L.alloc rfl ze30 ?_
     intro b4
     refine L.y rfl (Y.assign rfl) ?_
     refine L.store (i := 0) (vs := [.int .i64 x3.Tx, .int .i64 x3.Kind, .int .i64 x3.Item]) sz30 rfl rfl rfl rfl (by simp [Value.oneCell', Value.cells, st, pt, el]) rfl (Nat.le_of_ble_eq_true rfl) ?_
     refine L.nil (E.thenN (W.seq (W.seq (W.region (L.y rfl (Y.fieldP fd30_0 rfl) ?_)))))
     refine L.y rfl (Y.loadP (i := 0) ag3 rfl rfl rfl) ?_
     refine L.y rfl (Y.move rfl) ?_
     refine L.ite h rfl (Y.neq rfl rfl) (fun c5 h => ?_) (fun c5 h => ?_)
     ·
      refine L.nil (E.thenN (W.condT rfl ?_))
      exact W.exit (E.thenX (E.blockX (E.joinJ ⟨gx1, rfl, rfl, h⟩ ⟨rfl, rfl, rfl, rfl, rfl, trivial⟩ (fun _ hw => hw.sel [] (by decide) rfl))))
     ·
      refine L.nil (E.thenN (W.condF rfl ?_))
      refine W.skip (E.thenN (W.seq (W.seq (W.region (L.y rfl (Y.move rfl) ?_)))))
      refine L.ite h rfl (Y.eql rfl rfl) (fun c6 h => ?_) (fun c6 h => ?_)
      ·
       refine L.nil (E.thenN (W.condT rfl ?_))
       refine W.seq (W.region (L.y rfl (Y.move rfl) ?_))
       refine L.y rfl (Y.assign rfl) ?_
       refine L.nil (E.thenN (W.ret (E.thenR (E.blockR (E.KSR (E.KLR (E.blockR (E.KSR (E.ret1 rfl rfl (fun w1 hw => ?_))))))))))
       obtain rfl := Option.some.inj h
       exact ⟨_, _, rfl, ⟨rfl, rfl⟩, hw.sel [] (by decide) rfl⟩
      ·
       refine L.nil (E.thenN (W.condF rfl ?_))
       refine W.skip (E.thenN (W.region (L.y rfl (Y.move rfl) ?_)))
       refine L.m (V := fun x7 => .int .i64 x7) h rfl (Y.subM rfl rfl) (fun x7 ex7 h => ?_)
       refine L.y rfl (Y.assign rfl) ?_
       exact L.nil (E.blockN (E.joinJ ⟨x7, rfl, rfl, h⟩ ⟨rfl, rfl, rfl, rfl, rfl, trivial⟩ (fun _ hw => hw.sel [] (by decide) rfl)))
    ·
     rintro _ _ ⟨gx3, rfl, rfl, h⟩
     rw [m20_quirref_nth_K2] at h
     refine W.region (L.m (V := fun x2 => .int .i64 x2) h rfl (Y.addM rfl rfl) (fun x2 ex2 h => ?_))
     refine L.y rfl (Y.move rfl) ?_
     exact L.nil (E.againJ ⟨gx3, x2, rfl, rfl, by rw [hg1]; exact h⟩ (Nat.lt_succ_self _) ⟨rfl, rfl, rfl, rfl, rfl, trivial⟩ (fun _ hw => hw))
   ·
    refine L.nil (E.thenN (W.seq (W.condF rfl ?_)))
    exact W.exit (E.thenX (E.KLX (E.blockX (E.joinJ ⟨rfl, rfl, h⟩ trivial (fun _ hw => hw)))))
  ·
   rintro _ _ ⟨rfl, rfl, h⟩
   rw [m20_quirref_nth_K1] at h
   refine W.seq (W.region (L.y rfl (Y.assign rfl) ?_))
   refine L.nil (E.thenN (W.ret (E.ret1 rfl rfl (fun w1 hw => ?_))))
   obtain rfl := Option.some.inj h
   exact ⟨_, _, rfl, ⟨rfl, rfl⟩, hw⟩
set_option maxRecDepth 100000 in
set_option maxHeartbeats 8000000 in
theorem w8_quirref_Like (a0 : (List TOp)) (a1 : (List TOp)) (u0 : Value) (u1 : Value) (w : World) (r : Bool) (h : m8_quirref_Like a0 a1 = some r) (hA0 : At w u0 3 (a0.map TOp.row)) (hA1 : At w u1 3 (a1.map TOp.row)) : Does Try.prog 8 [u0, u1] w fun u m => u = .bool r ∧ m = [] := by
  rw [m8_quirref_Like] at h
  refine body (n := 63) Try.func8 rfl rfl rfl (Cls.refl w) ?_
  refine W.seq (W.region (L.y rfl (Y.assign rfl) ?_))
  refine L.nil (E.thenN (W.seqJ (fun gs D => gs = [(0, u0), (1, u1)] ∧ D = Cls w [] [] ∧ m8_quirref_Like_K1 a0 a1 = some r) ?_ ?_))
  ·
   refine W.seq (W.region (L.y rfl (Y.move rfl) ?_))
   refine L.nil (E.thenN (W.block (W.loopJ (fun m gs D => ∃ (gx3 : Int), gs = [(0, u0), (1, u1), (9, .int .i64 gx3)] ∧ D = Cls w [] [] ∧ m8_quirref_Like_L3 a0 a1 m gx3 = some r) ⟨0, rfl, rfl, h⟩ ⟨rfl, rfl, rfl, trivial⟩ (fun _ hw => hw) ?_)))
   rintro m _ _ ⟨gx3, rfl, rfl, h⟩
   rcases m with _ | m
   · rw [m8_quirref_Like_L3] at h; cases h
   rw [m8_quirref_Like_L3] at h
   generalize hg3 : m8_quirref_Like_L3 a0 a1 m = go3 at h
   rw [m8_quirref_Like_L3B] at h
   refine W.seq (W.region (L.ite h rfl (Y.lss rfl rfl) (fun c22 h => ?_) (fun c22 h => ?_)))
   ·
    refine L.nil (E.thenN (W.seq (W.condT rfl ?_)))
    refine W.skip (E.thenN (W.seq (W.block (W.seq (W.region (L.y rfl (Y.move rfl) ?_))))))
    refine L.y rfl (Y.assign rfl) ?_
    refine L.nil (E.thenN (W.seq (W.region (L.y rfl (Y.move rfl) ?_))))
    refine L.y rfl (Y.move rfl) ?_
    obtain ⟨l23, e25, h⟩ := bind1S h
    refine L.does rfl en18 rfl (fun w' hw => w18_quirref_Own a0 gx3 u0 w' _ e25 (hA0.cls0 hw)) ?_
    rintro v24 _ ⟨_, rfl, rfl⟩
    refine L.y rfl (Y.move rfl) ?_
    refine L.y rfl (Y.move rfl) ?_
    obtain ⟨l26, e28, h⟩ := bind1S h
    refine L.does rfl en18 rfl (fun w' hw => w18_quirref_Own a1 gx3 u1 w' _ e28 (hA1.cls0 hw)) ?_
    rintro v27 _ ⟨_, rfl, rfl⟩
    obtain ⟨b29, e30, h⟩ := bind1S h
    refine L.y rfl (Y.does en12 rfl (fun w' hw => (w12_api_Op l23 l26 v24 v27 w' _ e30 (As.at_ (hw.get (i := 1) rfl)) (As.at_ (hw.get (i := 0) rfl))).mono (fun _ _ h => h.1))) ?_
    rcases b29 with _ | _
    ·
     replace h := iteF h
     refine L.y rfl (Y.not rfl) ?_
     refine L.nil (E.thenN (W.condT rfl ?_))
     refine W.seq (W.region (L.y rfl (Y.assign rfl) ?_))
     refine L.nil (E.thenN (W.ret (E.blockR (E.thenR (E.KLR (E.blockR (E.KSR (E.ret1 rfl rfl (fun w1 hw => ?_)))))))))
     obtain rfl := Option.some.inj h
     exact ⟨_, _, rfl, ⟨rfl, rfl⟩, hw.sel [] (by decide) rfl⟩
    ·
     replace h := iteT h
     refine L.y rfl (Y.not rfl) ?_
     refine L.nil (E.thenN (W.condF rfl ?_))
     refine W.skip (E.blockN (E.thenN (W.region (L.m (V := fun x31 => .int .i64 x31) h rfl (Y.addM rfl rfl) (fun x31 ex31 h => ?_)))))
     refine L.y rfl (Y.move rfl) ?_
     exact L.nil (E.againJ ⟨x31, rfl, rfl, by rw [hg3]; exact h⟩ (Nat.lt_succ_self _) ⟨rfl, rfl, rfl, trivial⟩ (fun _ hw => hw.sel [] (by decide) rfl))
   ·
    refine L.nil (E.thenN (W.seq (W.condF rfl ?_)))
    exact W.exit (E.thenX (E.KLX (E.blockX (E.joinJ ⟨rfl, rfl, h⟩ ⟨rfl, rfl, trivial⟩ (fun _ hw => hw)))))
  ·
   rintro _ _ ⟨rfl, rfl, h⟩
   rw [m8_quirref_Like_K1] at h
   refine W.seqJ (fun gs D => gs = [] ∧ D = Cls w [] [] ∧ m8_quirref_Like_K2 = some r) ?_ ?_
   ·
    refine W.seq (W.region (L.y rfl (Y.move rfl) ?_))
    refine L.y rfl (Y.lenM (g := TOp.row) (l := a0) Try.underlying22 rfl (fun w' hw => hA0.cls0 hw)) ?_
    refine L.y rfl (Y.move rfl) ?_
    refine L.nil (E.thenN (W.block (W.loopJ (fun m gs D => ∃ (gx1 : Int), gs = [(0, u0), (1, u1), (21, u0), (22, .int .i64 (a0.length : Int)), (23, .int .i64 gx1)] ∧ D = Cls w [] [] ∧ m8_quirref_Like_L1 a0 a1 m gx1 = some r) ⟨0, rfl, rfl, h⟩ ⟨rfl, rfl, rfl, rfl, rfl, trivial⟩ (fun _ hw => hw) ?_)))
    rintro m _ _ ⟨gx1, rfl, rfl, h⟩
    rcases m with _ | m
    · rw [m8_quirref_Like_L1] at h; cases h
    rw [m8_quirref_Like_L1] at h
    generalize hg1 : m8_quirref_Like_L1 a0 a1 m = go1 at h
    rw [m8_quirref_Like_L1B] at h
    refine W.seq (W.region (L.ite h rfl (Y.lss rfl rfl) (fun c1 h => ?_) (fun c1 h => ?_)))
    ·
     refine L.nil (E.thenN (W.seq (W.condT rfl ?_)))
     refine W.skip (E.thenN (W.seqJ (fun gs D => gs = [(0, u0), (1, u1), (21, u0), (22, .int .i64 (a0.length : Int)), (23, .int .i64 gx1)] ∧ D = Cls w [] [] ∧ m8_quirref_Like_K3 gx1 go1 = some r) ?_ ?_))
     ·
      refine W.block (W.seq (W.region (L.y rfl (Y.move rfl) ?_)))
      refine L.m (V := fun _ => el u0 (gx1.toNat * 3)) h rfl (Y.indexM (g := TOp.row) (l := a0) Try.underlying22 sz30 rfl rfl (fun w' hw => hA0.cls0 hw)) (fun x3 ex3 h => ?_)
      refine L.y rfl (Y.loadEN (r := [.int .i64 x3.Tx, .int .i64 x3.Kind, .int .i64 x3.Item]) ag30 sz30 rfl (fun w' hw => hA0.cls0 hw) (idx_map ex3) rfl) ?_
      refine L.alloc rfl ze30 ?_
      intro b4
      refine L.y rfl (Y.assign rfl) ?_
      refine L.store (i := 0) (vs := [.int .i64 x3.Tx, .int .i64 x3.Kind, .int .i64 x3.Item]) sz30 rfl rfl rfl rfl (by simp [Value.oneCell', Value.cells, st, pt, el]) rfl (Nat.le_of_ble_eq_true rfl) ?_
      refine L.nil (E.thenN (W.seq (W.region (L.y rfl (Y.move rfl) ?_))))
      refine L.m (V := fun x5 => .int .i64 x5) h rfl (Y.addM rfl rfl) (fun x5 ex5 h => ?_)
      refine L.y rfl (Y.assign rfl) ?_
      refine L.nil (E.thenN (W.block (W.loopJ (fun m gs D => ∃ (gx2 : Int), gs = [(0, u0), (1, u1), (6, .int .i64 gx1), (7, pt b4 0), (8, .int .i64 gx2), (21, u0), (22, .int .i64 (a0.length : Int)), (23, .int .i64 gx1)] ∧ D = Cls w [] [.obj b4 [.int .i64 x3.Tx, .int .i64 x3.Kind, .int .i64 x3.Item] 30] ∧ m8_quirref_Like_L2 a0 x3 gx1 a1 go1 m gx2 = some r) ⟨x5, rfl, rfl, h⟩ ⟨rfl, rfl, rfl, rfl, rfl, rfl, rfl, rfl, trivial⟩ (fun _ hw => hw) ?_)))
      rintro m _ _ ⟨gx2, rfl, rfl, h⟩
      rcases m with _ | m
      · rw [m8_quirref_Like_L2] at h; cases h
      rw [m8_quirref_Like_L2] at h
      generalize hg2 : m8_quirref_Like_L2 a0 x3 gx1 a1 go1 m = go2 at h
      rw [m8_quirref_Like_L2B] at h
      refine W.seqJ (fun gs D => gs = [(0, u0), (1, u1), (6, .int .i64 gx1), (7, pt b4 0), (8, .int .i64 gx2), (21, u0), (22, .int .i64 (a0.length : Int)), (23, .int .i64 gx1)] ∧ D = Cls w [] [.obj b4 [.int .i64 x3.Tx, .int .i64 x3.Kind, .int .i64 x3.Item] 30] ∧ m8_quirref_Like_K4 a0 gx2 x3 gx1 a1 go2 = some r) ?_ ?_
      ·
       refine W.seq (W.region (L.y rfl (Y.move rfl) ?_))
       refine L.y rfl (Y.move rfl) ?_
       refine L.y rfl (Y.lenM (g := TOp.row) (l := a0) Try.underlying22 rfl (fun w' hw => hA0.cls0 hw)) ?_
       refine L.ite h rfl (Y.lss rfl rfl) (fun c21 h => ?_) (fun c21 h => ?_)
       ·
        refine L.nil (E.thenN (W.condT rfl ?_))
        exact W.skip (E.joinJ ⟨rfl, rfl, h⟩ ⟨rfl, rfl, rfl, rfl, rfl, rfl, rfl, rfl, trivial⟩ (fun _ hw => hw))
       ·
        refine L.nil (E.thenN (W.condF rfl ?_))
        exact W.exit (E.KSX (E.KLX (E.blockX (E.blockN (E.joinJ ⟨rfl, rfl, h⟩ ⟨rfl, rfl, rfl, rfl, rfl, trivial⟩ (fun _ hw => hw.sel [] (by decide) rfl))))))
      ·
       rintro _ _ ⟨rfl, rfl, h⟩
       rw [m8_quirref_Like_K4] at h
       refine W.seq (W.block (W.seq (W.quietC mixed (by kernel_rfl) (fun _ hw => hw.drew) (fun hC => ?_))))
       refine U.y rfl (Y.loadPW (i := 0) ag30 sz30 rfl rfl rfl) ?_
       refine U.y rfl (Y.move rfl) ?_
       refine U.y rfl (Y.move rfl) ?_
       refine U.m (V := fun _ => el u0 (gx2.toNat * 3)) h rfl (Y.indexM (g := TOp.row) (l := a0) Try.underlying22 sz30 rfl rfl (fun w' hw => hA0.cls0 hw)) (fun x6 ex6 h => ?_)
       refine U.y rfl (Y.loadEN (r := [.int .i64 x6.Tx, .int .i64 x6.Kind, .int .i64 x6.Item]) ag30 sz30 rfl (fun w' hw => hA0.cls0 hw) (idx_map ex6) rfl) ?_
       obtain ⟨b7, e8, h⟩ := bind1S h
       refine U.y rfl (Y.does en19 rfl (fun w' hw => (w19_quirref_clash x3 x6 w' _ e8).mono (fun _ _ h => h.1))) ?_
       rcases b7 with _ | _
       ·
        replace h := iteF h
        refine U.y rfl (Y.move rfl) ?_
        refine U.pass rfl rfl (by nofun) ?_
        refine U.pass rfl rfl (by nofun) ?_
        refine U.pass rfl rfl (by nofun) ?_
        refine U.pass rfl rfl (by nofun) ?_
        refine U.pass rfl rfl (by nofun) ?_
        refine U.pass rfl rfl (by nofun) ?_
        refine U.pass rfl rfl (by nofun) ?_
        refine U.pass rfl rfl (by nofun) ?_
        refine U.pass rfl rfl (by nofun) ?_
        refine U.pass rfl rfl (by nofun) ?_
        refine U.pass rfl rfl (by nofun) ?_
        refine U.pass rfl rfl (by nofun) ?_
        refine U.pass rfl rfl (by nofun) ?_
        refine U.pass rfl rfl (by nofun) ?_
        refine U.pass rfl rfl (by nofun) ?_
        refine U.pass rfl rfl (by nofun) ?_
        refine U.pass rfl rfl (by nofun) ?_
        refine U.pass rfl rfl (by nofun) ?_
        refine U.y rfl (Y.pickF rfl rfl) ?_
        refine U.nil (E.thenN (W.condF rfl ?_))
        refine W.skip (E.blockN (E.thenN (W.region (L.y rfl (Y.move rfl) ?_))))
        refine L.m (V := fun x9 => .int .i64 x9) h rfl (Y.addM rfl rfl) (fun x9 ex9 h => ?_)
        refine L.y rfl (Y.assign rfl) ?_
        exact L.nil (E.againJ ⟨x9, rfl, rfl, by rw [hg2]; exact h⟩ (Nat.lt_succ_self _) ⟨rfl, rfl, rfl, rfl, rfl, rfl, rfl, rfl, trivial⟩ (fun _ hw => hw))
       ·
        replace h := iteT h
        refine U.y rfl (Y.move rfl) ?_
        refine U.take rfl (U.y rfl (Y.move rfl) ?_)
        refine U.take rfl (U.y rfl (Y.fieldP fd30_0 rfl) ?_)
        refine U.take rfl (U.y rfl (Y.loadP (i := 0) ag3 rfl rfl rfl) ?_)
        refine U.take rfl (U.y rfl (Y.move rfl) ?_)
        refine U.take rfl (U.y rfl (Y.move rfl) ?_)
        refine U.take rfl ?_
        obtain ⟨x10, e11, h⟩ := bind1S h
        refine U.y rfl (Y.does en21 rfl (fun w' hw => (w21_quirref_whichOne a0 gx1 u0 w' _ e11 (hA0.cls0 hw)).mono (fun _ _ h => h.1))) ?_
        refine U.take rfl ?_
        obtain ⟨x12, e13, h⟩ := bind1S h
        refine U.y rfl (Y.does en20 rfl (fun w' hw => (w20_quirref_nth a1 x3.Tx x10 u1 w' _ e13 (hA1.cls0 hw)).mono (fun _ _ h => h.1))) ?_
        refine U.take rfl (U.y rfl (Y.move rfl) ?_)
        refine U.take rfl (U.y rfl (Y.move rfl) ?_)
        refine U.take rfl (U.y rfl (Y.move rfl) ?_)
        refine U.take rfl (U.m (V := fun _ => el u0 (gx2.toNat * 3)) h rfl (Y.indexM (g := TOp.row) (l := a0) Try.underlying22 sz30 rfl rfl (fun w' hw => hA0.cls0 hw)) (fun x14 ex14 h => ?_))
        refine U.take rfl (U.y rfl (Y.fieldE fd30_0 rfl) ?_)
        refine U.take rfl (U.y rfl (Y.loadE (u := .int .i64 x14.Tx) ag3 rfl (fun w' hw => hA0.cls0 hw) (idx_map ex14) rfl) ?_)
        refine U.take rfl (U.y rfl (Y.move rfl) ?_)
        refine U.take rfl (U.y rfl (Y.move rfl) ?_)
        refine U.take rfl ?_
        obtain ⟨x15, e16, h⟩ := bind1S h
        refine U.y rfl (Y.does en21 rfl (fun w' hw => (w21_quirref_whichOne a0 gx2 u0 w' _ e16 (hA0.cls0 hw)).mono (fun _ _ h => h.1))) ?_
        refine U.take rfl ?_
        obtain ⟨x17, e18, h⟩ := bind1S h
        refine U.y rfl (Y.does en20 rfl (fun w' hw => (w20_quirref_nth a1 x14.Tx x15 u1 w' _ e18 (hA1.cls0 hw)).mono (fun _ _ h => h.1))) ?_
        refine U.take rfl (U.ite h rfl (Y.gtr rfl rfl) (fun c19 h => ?_) (fun c19 h => ?_))
        ·
         refine U.y rfl (Y.pickT rfl rfl) ?_
         refine U.nil (E.thenN (W.condT rfl ?_))
         refine W.seq (W.region (L.y rfl (Y.assign rfl) ?_))
         refine L.nil (E.thenN (W.ret (E.blockR (E.thenR (E.KLR (E.blockR (E.blockR (E.KSR (E.KLR (E.blockR (E.KSR (E.ret1 rfl rfl (fun w1 hw => ?_)))))))))))))
         obtain rfl := Option.some.inj h
         exact ⟨_, _, rfl, ⟨rfl, rfl⟩, hw.sel [] (by decide) rfl⟩
        ·
         refine U.y rfl (Y.pickT rfl rfl) ?_
         refine U.nil (E.thenN (W.condF rfl ?_))
         refine W.skip (E.blockN (E.thenN (W.region (L.y rfl (Y.move rfl) ?_))))
         refine L.m (V := fun x20 => .int .i64 x20) h rfl (Y.addM rfl rfl) (fun x20 ex20 h => ?_)
         refine L.y rfl (Y.assign rfl) ?_
         exact L.nil (E.againJ ⟨x20, rfl, rfl, by rw [hg2]; exact h⟩ (Nat.lt_succ_self _) ⟨rfl, rfl, rfl, rfl, rfl, rfl, rfl, rfl, trivial⟩ (fun _ hw => hw))
     ·
      rintro _ _ ⟨rfl, rfl, h⟩
      rw [m8_quirref_Like_K3] at h
      refine W.region (L.m (V := fun x2 => .int .i64 x2) h rfl (Y.addM rfl rfl) (fun x2 ex2 h => ?_))
      refine L.y rfl (Y.move rfl) ?_
      exact L.nil (E.againJ ⟨x2, rfl, rfl, by rw [hg1]; exact h⟩ (Nat.lt_succ_self _) ⟨rfl, rfl, rfl, rfl, rfl, trivial⟩ (fun _ hw => hw))
    ·
     refine L.nil (E.thenN (W.seq (W.condF rfl ?_)))
     exact W.exit (E.thenX (E.KLX (E.blockX (E.joinJ ⟨rfl, rfl, h⟩ trivial (fun _ hw => hw)))))
   ·
    rintro _ _ ⟨rfl, rfl, h⟩
    rw [m8_quirref_Like_K2] at h
    refine W.seq (W.region (L.y rfl (Y.assign rfl) ?_))
    refine L.nil (E.thenN (W.ret (E.ret1 rfl rfl (fun w1 hw => ?_))))
    obtain rfl := Option.some.inj h
    exact ⟨_, _, rfl, ⟨rfl, rfl⟩, hw⟩
set_option maxRecDepth 100000 in
set_option maxHeartbeats 8000000 in
theorem w56_api_Op (a0 : (List TOp)) (a1 : TOp) (u0 : Value) (w : World) (r : Int) (h : m56_api_Op a0 a1 = some r) (hA0 : At w u0 3 (a0.map TOp.row)) : Does Try.prog 56 [u0, .agg #[.int .i64 a1.Tx, .int .i64 a1.Kind, .int .i64 a1.Item]] w fun u m => u = .int .i64 r ∧ m = [] := by
  rw [m56_api_Op] at h
  refine body (n := 19) Try.func56 rfl rfl rfl (Cls.refl w) ?_
  refine W.seq (W.region (L.box rfl rfl ?_))
  intro b1
  refine L.y rfl (Y.assign rfl) ?_
  refine L.nil (E.thenN (W.seqJ (fun gs D => gs = [] ∧ D = Cls w [] [] ∧ m56_api_Op_K1 = some r) ?_ ?_))
  ·
   refine W.seq (W.region (L.y rfl (Y.move rfl) ?_))
   refine L.y rfl (Y.lenM (g := TOp.row) (l := a0) Try.underlying22 rfl (fun w' hw => hA0.cls0 hw)) ?_
   refine L.y rfl (Y.move rfl) ?_
   refine L.nil (E.thenN (W.block (W.loopJ (fun m gs D => ∃ (gx1 : Int), gs = [(0, u0), (3, pt b1 0), (7, .int .i64 (a0.length : Int)), (8, .int .i64 gx1)] ∧ D = Cls w [] [.obj b1 [.int .i64 a1.Tx, .int .i64 a1.Kind, .int .i64 a1.Item] 30] ∧ m56_api_Op_L1 a0 a1 m gx1 = some r) ⟨0, rfl, rfl, h⟩ ⟨rfl, rfl, rfl, rfl, trivial⟩ (fun _ hw => hw) ?_)))
   rintro m _ _ ⟨gx1, rfl, rfl, h⟩
   rcases m with _ | m
   · rw [m56_api_Op_L1] at h; cases h
   rw [m56_api_Op_L1] at h
   generalize hg1 : m56_api_Op_L1 a0 a1 m = go1 at h
   rw [m56_api_Op_L1B] at h
   refine W.seq (W.region (L.ite h rfl (Y.lss rfl rfl) (fun c2 h => ?_) (fun c2 h => ?_)))
   ·
    refine L.nil (E.thenN (W.seq (W.condT rfl ?_)))
    refine W.skip (E.thenN (W.seq (W.block (W.seq (W.region (L.y rfl (Y.move rfl) ?_))))))
    refine L.y rfl (Y.assign rfl) ?_
    refine L.nil (E.thenN (W.seq (W.quietC mixed (by kernel_rfl) (fun _ hw => hw.drew) (fun hC => ?_))))
    refine U.y rfl (Y.loadPW (i := 0) ag30 sz30 rfl rfl rfl) ?_
    refine U.y rfl (Y.move rfl) ?_
    refine U.y rfl (Y.move rfl) ?_
    refine U.m (V := fun _ => el u0 (gx1.toNat * 3)) h rfl (Y.indexM (g := TOp.row) (l := a0) Try.underlying22 sz30 rfl rfl (fun w' hw => hA0.cls0 hw)) (fun x3 ex3 h => ?_)
    refine U.y rfl (Y.loadEN (r := [.int .i64 x3.Tx, .int .i64 x3.Kind, .int .i64 x3.Item]) ag30 sz30 rfl (fun w' hw => hA0.cls0 hw) (idx_map ex3) rfl) ?_
    refine U.ite h rfl (Y.eqlA (row := TOp.row) (a := a1) (b := x3) eg30 ag30 (sh30 _) (sh30 _) (inj30 _ _) rfl rfl) (fun c4 h => ?_) (fun c4 h => ?_)
    ·
     refine U.nil (E.thenN (W.condT rfl ?_))
     refine W.seq (W.region (L.y rfl (Y.move rfl) ?_))
     refine L.y rfl (Y.assign rfl) ?_
     refine L.nil (E.thenN (W.ret (E.blockR (E.thenR (E.KLR (E.blockR (E.KSR (E.ret1 rfl rfl (fun w1 hw => ?_)))))))))
     obtain rfl := Option.some.inj h
     exact ⟨_, _, rfl, ⟨rfl, rfl⟩, hw.sel [] (by decide) rfl⟩
    ·
     refine U.nil (E.thenN (W.condF rfl ?_))
     refine W.skip (E.blockN (E.thenN (W.region (L.m (V := fun x5 => .int .i64 x5) h rfl (Y.addM rfl rfl) (fun x5 ex5 h => ?_)))))
     refine L.y rfl (Y.move rfl) ?_
     exact L.nil (E.againJ ⟨x5, rfl, rfl, by rw [hg1]; exact h⟩ (Nat.lt_succ_self _) ⟨rfl, rfl, rfl, rfl, trivial⟩ (fun _ hw => hw))
   ·
    refine L.nil (E.thenN (W.seq (W.condF rfl ?_)))
    exact W.exit (E.thenX (E.KLX (E.blockX (E.joinJ ⟨rfl, rfl, h⟩ trivial (fun _ hw => hw.sel [] (by decide) rfl)))))
  ·
   rintro _ _ ⟨rfl, rfl, h⟩
   rw [m56_api_Op_K1] at h
   refine W.seq (W.region (L.y rfl (Y.assign rfl) ?_))
   refine L.nil (E.thenN (W.ret (E.ret1 rfl rfl (fun w1 hw => ?_))))
   obtain rfl := Option.some.inj h
   exact ⟨_, _, rfl, ⟨rfl, rfl⟩, hw⟩
set_option maxRecDepth 100000 in
set_option maxHeartbeats 8000000 in
theorem w43_api_Op (a0 : (List TOp)) (a1 : TOp) (u0 : Value) (w : World) (r : Bool) (h : m43_api_Op a0 a1 = some r) (hA0 : At w u0 3 (a0.map TOp.row)) : Does Try.prog 43 [u0, .agg #[.int .i64 a1.Tx, .int .i64 a1.Kind, .int .i64 a1.Item]] w fun u m => u = .bool r ∧ m = [] := by
  rw [m43_api_Op] at h
  refine body (n := 9) Try.func43 rfl rfl rfl (Cls.refl w) ?_
  refine W.seq (W.region (L.box rfl rfl ?_))
  intro b1
  refine L.y rfl (Y.assign rfl) ?_
  refine L.nil (E.thenN (W.seq (W.region (L.y rfl (Y.move rfl) ?_))))
  refine L.y rfl (Y.loadPW (i := 0) ag30 sz30 rfl rfl rfl) ?_
  obtain ⟨x2, e3, h⟩ := bind1S h
  refine L.y rfl (Y.does en56 rfl (fun w' hw => (w56_api_Op a0 a1 u0 w' _ e3 (hA0.cls0 hw)).mono (fun _ _ h => h.1))) ?_
  refine L.y rfl (Y.geq rfl rfl) ?_
  refine L.y rfl (Y.assign rfl) ?_
  refine L.nil (E.thenN (W.ret (E.ret1 rfl rfl (fun w1 hw => ?_))))
  obtain rfl := Option.some.inj h
  exact ⟨_, _, rfl, ⟨rfl, rfl⟩, hw.sel [] (by decide) rfl⟩
set_option maxRecDepth 100000 in
set_option maxHeartbeats 8000000 in
theorem w37_quirref_has (a0 : (List TOp)) (a1 : Int) (a2 : Int) (u0 : Value) (w : World) (r : Bool) (h : m37_quirref_has a0 a1 a2 = some r) (hA0 : At w u0 3 (a0.map TOp.row)) : Does Try.prog 37 [u0, .int .i64 a1, .int .i64 a2] w fun u m => u = .bool r ∧ m = [] := by
  rw [m37_quirref_has] at h
  refine body (n := 12) Try.func37 rfl rfl rfl (Cls.refl w) ?_
  refine W.seq (W.region (L.y rfl (Y.assign rfl) ?_))
  refine L.nil (E.thenN (W.seq (W.region (L.y rfl (Y.move rfl) ?_))))
  refine L.y rfl (Y.move rfl) ?_
  refine L.y rfl (Y.move rfl) ?_
  refine L.y rfl (Y.build (cells := #[.int .i64 a1, .int .i64 a2, .int .i64 0]) rfl (by kernel_rfl)) ?_
  obtain ⟨b1, e2, h⟩ := bind1S h
  refine L.y rfl (Y.does en43 rfl (fun w' hw => (w43_api_Op a0 (⟨a1, a2, 0⟩ : TOp) u0 w' _ e2 (hA0.cls0 hw)).mono (fun _ _ h => h.1))) ?_
  refine L.y rfl (Y.assign rfl) ?_
  refine L.nil (E.thenN (W.ret (E.ret1 rfl rfl (fun w1 hw => ?_))))
  obtain rfl := Option.some.inj h
  exact ⟨_, _, rfl, ⟨rfl, rfl⟩, hw⟩
set_option maxRecDepth 100000 in
set_option maxHeartbeats 8000000 in
theorem w36_quirref_writer (a0 : (List TOp)) (a1 : Int) (a2 : Int) (u0 : Value) (w : World) (r : Int) (h : m36_quirref_writer a0 a1 a2 = some r) (hA0 : At w u0 3 (a0.map TOp.row)) : Does Try.prog 36 [u0, .int .i64 a1, .int .i64 a2] w fun u m => u = .int .i64 r ∧ m = [] := by
  rw [m36_quirref_writer] at h
  refine body (n := 38) Try.func36 rfl rfl rfl (Cls.refl w) ?_
  refine W.seq (W.region (L.y rfl (Y.assign rfl) ?_))
  refine L.nil (E.thenN (W.seqJ (fun gs D => gs = [] ∧ D = Cls w [] [] ∧ m36_quirref_writer_K1 = some r) ?_ ?_))
  ·
   refine W.seq (W.region (L.y rfl (Y.move rfl) ?_))
   refine L.m (V := fun x1 => .int .i64 x1) h rfl (Y.subM rfl rfl) (fun x1 ex1 h => ?_)
   refine L.y rfl (Y.assign rfl) ?_
   refine L.nil (E.thenN (W.block (W.loopJ (fun m gs D => ∃ (gx1 : Int), gs = [(0, u0), (1, .int .i64 a1), (2, .int .i64 a2), (7, .int .i64 gx1)] ∧ D = Cls w [] [] ∧ m36_quirref_writer_L1 a0 a2 a1 m gx1 = some r) ⟨x1, rfl, rfl, h⟩ ⟨rfl, rfl, rfl, rfl, trivial⟩ (fun _ hw => hw) ?_)))
   rintro m _ _ ⟨gx1, rfl, rfl, h⟩
   rcases m with _ | m
   · rw [m36_quirref_writer_L1] at h; cases h
   rw [m36_quirref_writer_L1] at h
   generalize hg1 : m36_quirref_writer_L1 a0 a2 a1 m = go1 at h
   rw [m36_quirref_writer_L1B] at h
   refine W.seqJ (fun gs D => gs = [(0, u0), (1, .int .i64 a1), (2, .int .i64 a2), (7, .int .i64 gx1)] ∧ D = Cls w [] [] ∧ m36_quirref_writer_K2 a0 gx1 a2 a1 go1 = some r) ?_ ?_
   ·
    refine W.seq (W.region (L.y rfl (Y.move rfl) ?_))
    refine L.ite h rfl (Y.geq rfl rfl) (fun c11 h => ?_) (fun c11 h => ?_)
    ·
     refine L.nil (E.thenN (W.condT rfl ?_))
     exact W.skip (E.joinJ ⟨rfl, rfl, h⟩ ⟨rfl, rfl, rfl, rfl, trivial⟩ (fun _ hw => hw))
    ·
     refine L.nil (E.thenN (W.condF rfl ?_))
     exact W.exit (E.KSX (E.KLX (E.blockX (E.joinJ ⟨rfl, rfl, h⟩ trivial (fun _ hw => hw)))))
   ·
    rintro _ _ ⟨rfl, rfl, h⟩
    rw [m36_quirref_writer_K2] at h
    refine W.seq (W.block (W.seq (W.region (L.y rfl (Y.move rfl) ?_))))
    refine L.y rfl (Y.move rfl) ?_
    refine L.m (V := fun _ => el u0 (gx1.toNat * 3)) h rfl (Y.indexM (g := TOp.row) (l := a0) Try.underlying22 sz30 rfl rfl (fun w' hw => hA0.cls0 hw)) (fun x2 ex2 h => ?_)
    refine L.y rfl (Y.loadEN (r := [.int .i64 x2.Tx, .int .i64 x2.Kind, .int .i64 x2.Item]) ag30 sz30 rfl (fun w' hw => hA0.cls0 hw) (idx_map ex2) rfl) ?_
    refine L.alloc rfl ze30 ?_
    intro b3
    refine L.store (i := 0) (vs := [.int .i64 x2.Tx, .int .i64 x2.Kind, .int .i64 x2.Item]) sz30 rfl rfl rfl rfl (by simp [Value.oneCell', Value.cells, st, pt, el]) rfl (Nat.le_of_ble_eq_true rfl) ?_
    refine L.nil (E.thenN (W.seq (W.quietC mixed (by kernel_rfl) (fun _ hw => hw.drew) (fun hC => ?_))))
    refine U.cutJ hC 9 (fun gs => ∃ (gb2 : Bool), gs = [(0, u0), (1, .int .i64 a1), (2, .int .i64 a2), (7, .int .i64 gx1), (8, pt b3 0), (27, .bool gb2)] ∧ m36_quirref_writer_K3 a0 a1 x2 gx1 go1 gb2 = some r) ?_ ?_
    ·
     refine U.y rfl (Y.fieldP fd30_1 rfl) ?_
     refine U.y rfl (Y.loadP (i := 0) ag3 rfl rfl rfl) ?_
     refine U.ite h rfl (Y.eql rfl rfl) (fun c9 h => ?_) (fun c9 h => ?_)
     ·
      refine U.y rfl (Y.move rfl) ?_
      refine U.take rfl (U.y rfl (Y.fieldP fd30_2 rfl) ?_)
      refine U.take rfl (U.y rfl (Y.loadP (i := 0) ag3 rfl rfl rfl) ?_)
      refine U.take rfl (U.y rfl (Y.move rfl) ?_)
      refine U.take rfl (U.ite h rfl (Y.eql rfl rfl) (fun c10 h => ?_) (fun c10 h => ?_))
      ·
       refine U.y rfl (Y.pickT rfl rfl) ?_
       exact U.nil (E.joinU ⟨true, rfl, h⟩ ⟨rfl, rfl, rfl, rfl, rfl, rfl, trivial⟩)
      ·
       refine U.y rfl (Y.pickT rfl rfl) ?_
       exact U.nil (E.joinU ⟨false, rfl, h⟩ ⟨rfl, rfl, rfl, rfl, rfl, rfl, trivial⟩)
     ·
      refine U.y rfl (Y.move rfl) ?_
      refine U.pass rfl rfl (by nofun) ?_
      refine U.pass rfl rfl (by nofun) ?_
      refine U.pass rfl rfl (by nofun) ?_
      refine U.pass rfl rfl (by nofun) ?_
      refine U.y rfl (Y.pickF rfl rfl) ?_
      exact U.nil (E.joinU ⟨false, rfl, h⟩ ⟨rfl, rfl, rfl, rfl, rfl, rfl, trivial⟩)
    ·
     rintro _ ⟨gb2, rfl, h⟩
     rw [m36_quirref_writer_K3] at h
     rcases gb2 with _ | _
     ·
      replace h := iteF h
      refine U.y rfl (Y.move rfl) ?_
      refine U.pass rfl rfl (by nofun) ?_
      refine U.pass rfl rfl (by nofun) ?_
      refine U.pass rfl rfl (by nofun) ?_
      refine U.pass rfl rfl (by nofun) ?_
      refine U.pass rfl rfl (by nofun) ?_
      refine U.pass rfl rfl (by nofun) ?_
      refine U.pass rfl rfl (by nofun) ?_
      refine U.y rfl (Y.pickF rfl rfl) ?_
      refine U.nil (E.thenN (W.condF rfl ?_))
      refine W.skip (E.blockN (E.thenN (W.region (L.y rfl (Y.move rfl) ?_))))
      refine L.m (V := fun x4 => .int .i64 x4) h rfl (Y.subM rfl rfl) (fun x4 ex4 h => ?_)
      refine L.y rfl (Y.assign rfl) ?_
      exact L.nil (E.againJ ⟨x4, rfl, rfl, by rw [hg1]; exact h⟩ (Nat.lt_succ_self _) ⟨rfl, rfl, rfl, rfl, trivial⟩ (fun _ hw => hw.sel [] (by decide) rfl))
     ·
      replace h := iteT h
      refine U.y rfl (Y.move rfl) ?_
      refine U.take rfl (U.y rfl (Y.move rfl) ?_)
      refine U.take rfl (U.y rfl (Y.move rfl) ?_)
      refine U.take rfl (U.m (V := fun _ => cutv u0 a1.toNat) h rfl (Y.cutM (g := TOp.row) Try.underlying22 sz30 rfl rfl (fun w' hw => hA0.cls0 hw)) (fun l5 el5 h => ?_))
      refine U.take rfl (U.y rfl (Y.fieldP fd30_0 rfl) ?_)
      refine U.take rfl (U.y rfl (Y.loadP (i := 0) ag3 rfl rfl rfl) ?_)
      refine U.take rfl ?_
      obtain ⟨b6, e7, h⟩ := bind1S h
      refine U.y rfl (Y.does en37 rfl (fun w' hw => (w37_quirref_has l5 x2.Tx 4 (cutv u0 a1.toNat) w' _ e7 ((hA0.cutM el5).cls0 hw)).mono (fun _ _ h => h.1))) ?_
      rcases b6 with _ | _
      ·
       replace h := iteF h
       refine U.take rfl (U.y rfl (Y.not rfl) ?_)
       refine U.y rfl (Y.pickT rfl rfl) ?_
       refine U.nil (E.thenN (W.condT rfl ?_))
       refine W.seq (W.region (L.y rfl (Y.move rfl) ?_))
       refine L.y rfl (Y.assign rfl) ?_
       refine L.nil (E.thenN (W.ret (E.blockR (E.thenR (E.KLR (E.blockR (E.KSR (E.ret1 rfl rfl (fun w1 hw => ?_)))))))))
       obtain rfl := Option.some.inj h
       exact ⟨_, _, rfl, ⟨rfl, rfl⟩, hw.sel [] (by decide) rfl⟩
      ·
       replace h := iteT h
       refine U.take rfl (U.y rfl (Y.not rfl) ?_)
       refine U.y rfl (Y.pickT rfl rfl) ?_
       refine U.nil (E.thenN (W.condF rfl ?_))
       refine W.skip (E.blockN (E.thenN (W.region (L.y rfl (Y.move rfl) ?_))))
       refine L.m (V := fun x8 => .int .i64 x8) h rfl (Y.subM rfl rfl) (fun x8 ex8 h => ?_)
       refine L.y rfl (Y.assign rfl) ?_
       exact L.nil (E.againJ ⟨x8, rfl, rfl, by rw [hg1]; exact h⟩ (Nat.lt_succ_self _) ⟨rfl, rfl, rfl, rfl, trivial⟩ (fun _ hw => hw.sel [] (by decide) rfl))
  ·
   rintro _ _ ⟨rfl, rfl, h⟩
   rw [m36_quirref_writer_K1] at h
   refine W.seq (W.region (L.y rfl (Y.assign rfl) ?_))
   refine L.nil (E.thenN (W.ret (E.ret1 rfl rfl (fun w1 hw => ?_))))
   obtain rfl := Option.some.inj h
   exact ⟨_, _, rfl, ⟨rfl, rfl⟩, hw⟩
set_option maxRecDepth 100000 in
set_option maxHeartbeats 8000000 in
theorem w22_quirref_Reads (a0 : (List TOp)) (u0 : Value) (w : World) (r : (List TSeen)) (h : m22_quirref_Reads a0 = some r) (hA0 : At w u0 3 (a0.map TOp.row)) : Does Try.prog 22 [u0] w fun u m => ∃ v0, u = v0 ∧ m = [.sl v0 53 2 (r.map TSeen.row)] := by
  rw [m22_quirref_Reads] at h
  refine body (n := 28) Try.func22 rfl rfl rfl (Cls.refl w) ?_
  refine W.seq (W.region (L.y rfl (Y.assign rfl) ?_))
  refine L.nil (E.thenN (W.seq (W.region (L.y rfl (Y.assign rfl) ?_))))
  refine L.nil (E.thenN (W.seqJ (fun gs D => ∃ (gv1 : Value) (gl2 : (List TSeen)), gs = [(3, gv1)] ∧ D = Cls w [] [.sl gv1 53 2 (gl2.map TSeen.row)] ∧ m22_quirref_Reads_K1 gl2 = some r) ?_ ?_))
  ·
   refine W.seq (W.region (L.y rfl (Y.move rfl) ?_))
   refine L.y rfl (Y.lenM (g := TOp.row) (l := a0) Try.underlying22 rfl (fun w' hw => hA0.cls0 hw)) ?_
   refine L.y rfl (Y.move rfl) ?_
   refine L.nil (E.thenN (W.block (W.nilSl 53 2 ?_)))
   refine W.loopJ (fun m gs D => ∃ (gv3 : Value) (gl4 : (List TSeen)) (gx5 : Int), gs = [(0, u0), (3, gv3), (6, u0), (7, .int .i64 (a0.length : Int)), (8, .int .i64 gx5)] ∧ D = Cls w [] [.sl gv3 53 2 (gl4.map TSeen.row)] ∧ m22_quirref_Reads_L1 a0 m gl4 gx5 = some r) ⟨.slice none 0 0, [], 0, rfl, rfl, h⟩ ⟨rfl, rfl, rfl, rfl, rfl, trivial⟩ (fun _ hw => hw) ?_
   rintro m _ _ ⟨gv3, gl4, gx5, rfl, rfl, h⟩
   rcases m with _ | m
   · rw [m22_quirref_Reads_L1] at h; cases h
   rw [m22_quirref_Reads_L1] at h
   generalize hg1 : m22_quirref_Reads_L1 a0 m = go1 at h
   rw [m22_quirref_Reads_L1B] at h
   refine W.seq (W.region (L.ite h rfl (Y.lss rfl rfl) (fun c1 h => ?_) (fun c1 h => ?_)))
   ·
    refine L.nil (E.thenN (W.seq (W.condT rfl ?_)))
    refine W.skip (E.thenN (W.seq (W.block (W.seq (W.region (L.y rfl (Y.move rfl) ?_))))))
    refine L.m (V := fun _ => el u0 (gx5.toNat * 3)) h rfl (Y.indexM (g := TOp.row) (l := a0) Try.underlying22 sz30 rfl rfl (fun w' hw => hA0.cls0 hw)) (fun x2 ex2 h => ?_)
    refine L.y rfl (Y.loadEN (r := [.int .i64 x2.Tx, .int .i64 x2.Kind, .int .i64 x2.Item]) ag30 sz30 rfl (fun w' hw => hA0.cls0 hw) (idx_map ex2) rfl) ?_
    refine L.alloc rfl ze30 ?_
    intro b3
    refine L.y rfl (Y.assign rfl) ?_
    refine L.store (i := 0) (vs := [.int .i64 x2.Tx, .int .i64 x2.Kind, .int .i64 x2.Item]) sz30 rfl rfl rfl rfl (by simp [Value.oneCell', Value.cells, st, pt, el]) rfl (Nat.le_of_ble_eq_true rfl) ?_
    refine L.nil (E.thenN (W.seq (W.region (L.y rfl (Y.fieldP fd30_1 rfl) ?_))))
    refine L.y rfl (Y.loadP (i := 0) ag3 rfl rfl rfl) ?_
    refine L.ite h rfl (Y.eql rfl rfl) (fun c4 h => ?_) (fun c4 h => ?_)
    ·
     refine L.nil (E.thenN (W.condT rfl ?_))
     refine W.region (L.y rfl (Y.move rfl) ?_)
     refine L.y rfl (Y.move rfl) ?_
     refine L.y rfl (Y.move rfl) ?_
     refine L.y rfl (Y.move rfl) ?_
     refine L.y rfl (Y.fieldP fd30_2 rfl) ?_
     refine L.y rfl (Y.loadP (i := 0) ag3 rfl rfl rfl) ?_
     obtain ⟨x5, e6, h⟩ := bind1S h
     refine L.y rfl (Y.does en36 rfl (fun w' hw => (w36_quirref_writer a0 gx5 x2.Item u0 w' _ e6 (hA0.cls0 hw)).mono (fun _ _ h => h.1))) ?_
     refine L.y rfl (Y.build (cells := #[.int .i64 gx5, .int .i64 x5]) rfl (by kernel_rfl)) ?_
     refine L.litAgg rfl Try.underlying50 eL53 rfl rfl rfl ?_
     intro b7
     refine L.appM (i := 2) (g := TSeen.row) (l := gl4) (more := [(⟨gx5, x5⟩ : TSeen)]) h rfl Try.underlying50 eL53 rfl rfl rfl (fun w hw => As.at_ (hw.get (i := 0) rfl)) (plain_TSeen _) rfl ?_
     intro v8 l9 el9 h
     refine L.y rfl (Y.assign rfl) ?_
     refine L.nil (E.blockN (E.thenN (W.region (L.m (V := fun x10 => .int .i64 x10) h rfl (Y.addM rfl rfl) (fun x10 ex10 h => ?_)))))
     refine L.y rfl (Y.move rfl) ?_
     exact L.nil (E.againJ ⟨v8, l9, x10, rfl, rfl, by rw [hg1]; exact h⟩ (Nat.lt_succ_self _) ⟨rfl, rfl, rfl, rfl, rfl, trivial⟩ (fun _ hw => hw.sel [0] (by decide) rfl))
    ·
     refine L.nil (E.thenN (W.condF rfl ?_))
     refine W.skip (E.blockN (E.thenN (W.region (L.m (V := fun x11 => .int .i64 x11) h rfl (Y.addM rfl rfl) (fun x11 ex11 h => ?_)))))
     refine L.y rfl (Y.move rfl) ?_
     exact L.nil (E.againJ ⟨gv3, gl4, x11, rfl, rfl, by rw [hg1]; exact h⟩ (Nat.lt_succ_self _) ⟨rfl, rfl, rfl, rfl, rfl, trivial⟩ (fun _ hw => hw.sel [1] (by decide) rfl))
   ·
    refine L.nil (E.thenN (W.seq (W.condF rfl ?_)))
    exact W.exit (E.thenX (E.KLX (E.blockX (E.joinJ ⟨gv3, gl4, rfl, rfl, h⟩ ⟨rfl, trivial⟩ (fun _ hw => hw)))))
  ·
   rintro _ _ ⟨gv1, gl2, rfl, rfl, h⟩
   rw [m22_quirref_Reads_K1] at h
   refine W.seq (W.region (L.y rfl (Y.move rfl) ?_))
   refine L.y rfl (Y.assign rfl) ?_
   refine L.nil (E.thenN (W.ret (E.ret1 rfl rfl (fun w1 hw => ?_))))
   obtain rfl := Option.some.inj h
   exact ⟨_, _, rfl, ⟨_, rfl, rfl⟩, hw⟩
set_option maxRecDepth 100000 in
set_option maxHeartbeats 8000000 in
theorem w25_quirref_sameOp (a0 : (List TOp)) (a1 : Int) (a2 : (List TOp)) (a3 : Int) (u0 : Value) (u2 : Value) (w : World) (r : Bool) (h : m25_quirref_sameOp a0 a1 a2 a3 = some r) (hA0 : At w u0 3 (a0.map TOp.row)) (hA2 : At w u2 3 (a2.map TOp.row)) : Does Try.prog 25 [u0, .int .i64 a1, u2, .int .i64 a3] w fun u m => u = .bool r ∧ m = [] := by
  rw [m25_quirref_sameOp] at h
  refine body (n := 41) Try.func25 rfl rfl rfl (Cls.refl w) ?_
  refine W.seq (W.region (L.y rfl (Y.assign rfl) ?_))
  refine L.nil (E.thenN (W.seqJ (fun gs D => gs = [(0, u0), (1, .int .i64 a1), (2, u2), (3, .int .i64 a3)] ∧ D = Cls w [] [] ∧ m25_quirref_sameOp_K1 a0 a1 a2 a3 = some r) ?_ ?_))
  ·
   refine W.seqJ (fun gs D => ∃ (gb1 : Bool), gs = [(0, u0), (1, .int .i64 a1), (2, u2), (3, .int .i64 a3), (14, .bool gb1)] ∧ D = Cls w [] [] ∧ m25_quirref_sameOp_K2 a1 a3 a0 a2 gb1 = some r) ?_ ?_
   ·
    refine W.region (L.y rfl (Y.move rfl) ?_)
    refine L.ite h rfl (Y.lss rfl rfl) (fun c9 h => ?_) (fun c9 h => ?_)
    ·
     refine L.y rfl (Y.move rfl) ?_
     refine L.pass rfl rfl (by nofun) ?_
     refine L.pass rfl rfl (by nofun) ?_
     refine L.y rfl (Y.pickT rfl rfl) ?_
     exact L.nil (E.joinJ ⟨true, rfl, rfl, h⟩ ⟨rfl, rfl, rfl, rfl, rfl, trivial⟩ (fun _ hw => hw))
    ·
     refine L.y rfl (Y.move rfl) ?_
     refine L.take rfl (L.y rfl (Y.move rfl) ?_)
     refine L.take rfl (L.ite h rfl (Y.lss rfl rfl) (fun c10 h => ?_) (fun c10 h => ?_))
     ·
      refine L.y rfl (Y.pickF rfl rfl) ?_
      exact L.nil (E.joinJ ⟨true, rfl, rfl, h⟩ ⟨rfl, rfl, rfl, rfl, rfl, trivial⟩ (fun _ hw => hw))
     ·
      refine L.y rfl (Y.pickF rfl rfl) ?_
      exact L.nil (E.joinJ ⟨false, rfl, rfl, h⟩ ⟨rfl, rfl, rfl, rfl, rfl, trivial⟩ (fun _ hw => hw))
   ·
    rintro _ _ ⟨gb1, rfl, rfl, h⟩
    rw [m25_quirref_sameOp_K2] at h
    rcases gb1 with _ | _
    ·
     replace h := iteF h
     refine W.condF rfl ?_
     exact W.skip (E.joinJ ⟨rfl, rfl, h⟩ ⟨rfl, rfl, rfl, rfl, trivial⟩ (fun _ hw => hw))
    ·
     replace h := iteT h
     refine W.condT rfl ?_
     refine W.seq (W.region (L.y rfl (Y.move rfl) ?_))
     refine L.ite h rfl (Y.lss rfl rfl) (fun c8 h => ?_) (fun c8 h => ?_)
     ·
      refine L.y rfl (Y.move rfl) ?_
      refine L.take rfl (L.y rfl (Y.move rfl) ?_)
      refine L.take rfl (L.y rfl (Y.lss rfl rfl) ?_)
      refine L.y rfl (Y.pickT rfl rfl) ?_
      refine L.y rfl (Y.assign rfl) ?_
      refine L.nil (E.thenN (W.ret (E.KSR (E.ret1 rfl rfl (fun w1 hw => ?_)))))
      obtain rfl := Option.some.inj h
      exact ⟨_, _, rfl, ⟨rfl, rfl⟩, hw⟩
     ·
      refine L.y rfl (Y.move rfl) ?_
      refine L.pass rfl rfl (by nofun) ?_
      refine L.pass rfl rfl (by nofun) ?_
      refine L.y rfl (Y.pickF rfl rfl) ?_
      refine L.y rfl (Y.assign rfl) ?_
      refine L.nil (E.thenN (W.ret (E.KSR (E.ret1 rfl rfl (fun w1 hw => ?_)))))
      obtain rfl := Option.some.inj h
      exact ⟨_, _, rfl, ⟨rfl, rfl⟩, hw⟩
  ·
   rintro _ _ ⟨rfl, rfl, h⟩
   rw [m25_quirref_sameOp_K1] at h
   refine W.seq (W.quietC mixed (by kernel_rfl) (fun _ hw => hw.drew) (fun hC => ?_))
   refine U.y rfl (Y.move rfl) ?_
   refine U.y rfl (Y.move rfl) ?_
   refine U.m (V := fun _ => el u0 (a1.toNat * 3)) h rfl (Y.indexM (g := TOp.row) (l := a0) Try.underlying22 sz30 rfl rfl (fun w' hw => hA0.cls0 hw)) (fun x1 ex1 h => ?_)
   refine U.y rfl (Y.fieldE fd30_0 rfl) ?_
   refine U.y rfl (Y.loadE (u := .int .i64 x1.Tx) ag3 rfl (fun w' hw => hA0.cls0 hw) (idx_map ex1) rfl) ?_
   refine U.y rfl (Y.move rfl) ?_
   refine U.y rfl (Y.move rfl) ?_
   refine U.m (V := fun _ => el u2 (a3.toNat * 3)) h rfl (Y.indexM (g := TOp.row) (l := a2) Try.underlying22 sz30 rfl rfl (fun w' hw => hA2.cls0 hw)) (fun x2 ex2 h => ?_)
   refine U.y rfl (Y.fieldE fd30_0 rfl) ?_
   refine U.y rfl (Y.loadE (u := .int .i64 x2.Tx) ag3 rfl (fun w' hw => hA2.cls0 hw) (idx_map ex2) rfl) ?_
   refine U.ite h rfl (Y.eql rfl rfl) (fun c3 h => ?_) (fun c3 h => ?_)
   ·
    refine U.y rfl (Y.move rfl) ?_
    refine U.take rfl (U.y rfl (Y.move rfl) ?_)
    refine U.take rfl (U.y rfl (Y.move rfl) ?_)
    refine U.take rfl ?_
    obtain ⟨x4, e5, h⟩ := bind1S h
    refine U.y rfl (Y.does en21 rfl (fun w' hw => (w21_quirref_whichOne a0 a1 u0 w' _ e5 (hA0.cls0 hw)).mono (fun _ _ h => h.1))) ?_
    refine U.take rfl (U.y rfl (Y.move rfl) ?_)
    refine U.take rfl (U.y rfl (Y.move rfl) ?_)
    refine U.take rfl ?_
    obtain ⟨x6, e7, h⟩ := bind1S h
    refine U.y rfl (Y.does en21 rfl (fun w' hw => (w21_quirref_whichOne a2 a3 u2 w' _ e7 (hA2.cls0 hw)).mono (fun _ _ h => h.1))) ?_
    refine U.take rfl (U.y rfl (Y.eql rfl rfl) ?_)
    refine U.y rfl (Y.pickT rfl rfl) ?_
    refine U.y rfl (Y.assign rfl) ?_
    refine U.nil (E.thenN (W.ret (E.ret1 rfl rfl (fun w1 hw => ?_))))
    obtain rfl := Option.some.inj h
    exact ⟨_, _, rfl, ⟨rfl, rfl⟩, hw⟩
   ·
    refine U.y rfl (Y.move rfl) ?_
    refine U.pass rfl rfl (by nofun) ?_
    refine U.pass rfl rfl (by nofun) ?_
    refine U.pass rfl rfl (by nofun) ?_
    refine U.pass rfl rfl (by nofun) ?_
    refine U.pass rfl rfl (by nofun) ?_
    refine U.pass rfl rfl (by nofun) ?_
    refine U.pass rfl rfl (by nofun) ?_
    refine U.y rfl (Y.pickF rfl rfl) ?_
    refine U.y rfl (Y.assign rfl) ?_
    refine U.nil (E.thenN (W.ret (E.ret1 rfl rfl (fun w1 hw => ?_))))
    obtain rfl := Option.some.inj h
    exact ⟨_, _, rfl, ⟨rfl, rfl⟩, hw⟩
set_option maxRecDepth 100000 in
set_option maxHeartbeats 8000000 in
theorem w26_quirref_Last (a0 : (List TOp)) (u0 : Value) (w : World) (r : (List Int)) (h : m26_quirref_Last a0 = some r) (hA0 : At w u0 3 (a0.map TOp.row)) : Does Try.prog 26 [u0] w fun u m => u = .agg (r.map I).flatten.toArray ∧ m = [] := by
  rw [m26_quirref_Last] at h
  refine body (n := 41) Try.func26 rfl rfl rfl (Cls.refl w) ?_
  refine W.seq (W.region (L.alloc rfl ze57 ?_))
  intro b1
  refine L.to (D := Cls w [] [.obj b1 (((List.replicate 20 (0 : Int)).map I).flatten) 57]) (fun _ hw => by first | exact hw | simpa [I, B, SR] using hw) ?_
  refine L.nil (E.thenN (W.seq (W.region (L.alloc rfl ze57 ?_))))
  intro b2
  refine L.to (D := Cls w [] [.obj b2 (((List.replicate 20 (0 : Int)).map I).flatten) 57, .obj b1 (((List.replicate 20 (0 : Int)).map I).flatten) 57]) (fun _ hw => by first | exact hw | simpa [I, B, SR] using hw) ?_
  refine L.nil (E.thenN (W.seqJ (fun gs D => ∃ (gl1 : (List Int)), gs = [(2, pt b1 0), (3, pt b2 0)] ∧ D = Cls w [] [.obj b2 ((gl1.map I).flatten) 57, .obj b1 (((List.replicate 20 (0 : Int)).map I).flatten) 57] ∧ m26_quirref_Last_K1 gl1 = some r) ?_ ?_))
  ·
   refine W.seq (W.region (L.y rfl (Y.move rfl) ?_))
   refine L.nil (E.thenN (W.block (W.loopJ (fun m gs D => ∃ (gx2 : Int) (gl3 : (List Int)), gs = [(0, u0), (2, pt b1 0), (3, pt b2 0), (7, .int .i64 gx2)] ∧ D = Cls w [] [.obj b2 ((gl3.map I).flatten) 57, .obj b1 (((List.replicate 20 (0 : Int)).map I).flatten) 57] ∧ m26_quirref_Last_L1 a0 m gx2 gl3 = some r) ⟨0, (List.replicate 20 (0 : Int)), rfl, rfl, h⟩ ⟨rfl, rfl, rfl, rfl, trivial⟩ (fun _ hw => hw) ?_)))
   rintro m _ _ ⟨gx2, gl3, rfl, rfl, h⟩
   rcases m with _ | m
   · rw [m26_quirref_Last_L1] at h; cases h
   rw [m26_quirref_Last_L1] at h
   generalize hg1 : m26_quirref_Last_L1 a0 m = go1 at h
   rw [m26_quirref_Last_L1B] at h
   refine W.seq (W.region (L.ite h rfl (Y.lss rfl rfl) (fun c7 h => ?_) (fun c7 h => ?_)))
   ·
    refine L.nil (E.thenN (W.seq (W.condT rfl ?_)))
    refine W.skip (E.thenN (W.seqJ (fun gs D => ∃ (gl4 : (List Int)), gs = [(0, u0), (2, pt b1 0), (3, pt b2 0), (7, .int .i64 gx2)] ∧ D = Cls w [] [.obj b2 ((gl4.map I).flatten) 57, .obj b1 (((List.replicate 20 (0 : Int)).map I).flatten) 57] ∧ m26_quirref_Last_K2 gx2 go1 gl4 = some r) ?_ ?_))
    ·
     refine W.block (W.seq (W.region (L.y rfl (Y.move rfl) ?_)))
     refine L.y rfl (Y.assign rfl) ?_
     refine L.nil (E.thenN (W.seq (W.region (L.y rfl (Y.move rfl) ?_))))
     refine L.m (V := fun _ => pt b2 (0 + gx2.toNat * 1)) h rfl (Y.indexAM (l := gl3) Try.underlying57 sz3 rfl rfl) (fun x9 ex9 h => ?_)
     refine L.storeArM (q := 0) (row := I) (vs := [.int .i64 (-1)]) (j := 0) (u1 := (-1)) h sz3 rfl rfl rfl rfl rfl (all1 rfl all0) rfl (fun _ => rfl) (idxA_idx ex9) rfl rfl ?_
     intro l10 el10 h
     refine L.nil (E.thenN (W.seq (W.region (L.y rfl (Y.move rfl) ?_))))
     refine L.y rfl (Y.lenM (g := TOp.row) (l := a0) Try.underlying22 rfl (fun w' hw => hA0.cls0 hw)) ?_
     refine L.y rfl (Y.move rfl) ?_
     refine L.nil (E.thenN (W.block (W.loopJ (fun m gs D => ∃ (gx5 : Int) (gl6 : (List Int)), gs = [(0, u0), (2, pt b1 0), (3, pt b2 0), (4, .int .i64 gx2), (7, .int .i64 gx2), (12, u0), (13, .int .i64 (a0.length : Int)), (14, .int .i64 gx5)] ∧ D = Cls w [] [.obj b2 ((gl6.map I).flatten) 57, .obj b1 (((List.replicate 20 (0 : Int)).map I).flatten) 57] ∧ m26_quirref_Last_L2 a0 gx2 go1 m gx5 gl6 = some r) ⟨0, l10, rfl, rfl, h⟩ ⟨rfl, rfl, rfl, rfl, rfl, rfl, rfl, rfl, trivial⟩ (fun _ hw => hw) ?_)))
     rintro m _ _ ⟨gx5, gl6, rfl, rfl, h⟩
     rcases m with _ | m
     · rw [m26_quirref_Last_L2] at h; cases h
     rw [m26_quirref_Last_L2] at h
     generalize hg2 : m26_quirref_Last_L2 a0 gx2 go1 m = go2 at h
     rw [m26_quirref_Last_L2B] at h
     refine W.seq (W.region (L.ite h rfl (Y.lss rfl rfl) (fun c11 h => ?_) (fun c11 h => ?_)))
     ·
      refine L.nil (E.thenN (W.seq (W.condT rfl ?_)))
      refine W.skip (E.thenN (W.seq (W.block (W.seq (W.region (L.y rfl (Y.move rfl) ?_))))))
      refine L.m (V := fun _ => el u0 (gx5.toNat * 3)) h rfl (Y.indexM (g := TOp.row) (l := a0) Try.underlying22 sz30 rfl rfl (fun w' hw => hA0.cls0 hw)) (fun x12 ex12 h => ?_)
      refine L.y rfl (Y.loadEN (r := [.int .i64 x12.Tx, .int .i64 x12.Kind, .int .i64 x12.Item]) ag30 sz30 rfl (fun w' hw => hA0.cls0 hw) (idx_map ex12) rfl) ?_
      refine L.alloc rfl ze30 ?_
      intro b13
      refine L.y rfl (Y.assign rfl) ?_
      refine L.store (i := 0) (vs := [.int .i64 x12.Tx, .int .i64 x12.Kind, .int .i64 x12.Item]) sz30 rfl rfl rfl rfl (by simp [Value.oneCell', Value.cells, st, pt, el]) rfl (Nat.le_of_ble_eq_true rfl) ?_
      refine L.nil (E.thenN (W.seq (W.region (L.cutJ 9 (fun gs D => ∃ (gb7 : Bool), gs = [(0, u0), (2, pt b1 0), (3, pt b2 0), (4, .int .i64 gx2), (5, .int .i64 gx5), (6, pt b13 0), (7, .int .i64 gx2), (12, u0), (13, .int .i64 (a0.length : Int)), (14, .int .i64 gx5), (27, .bool gb7)] ∧ D = Cls w [] [.obj b13 [.int .i64 x12.Tx, .int .i64 x12.Kind, .int .i64 x12.Item] 30, .obj b2 ((gl6.map I).flatten) 57, .obj b1 (((List.replicate 20 (0 : Int)).map I).flatten) 57] ∧ m26_quirref_Last_K3 a0 x12 gx5 go2 gl6 gx2 gb7 = some r) ?_ ?_))))
      ·
       refine L.y rfl (Y.fieldP fd30_1 rfl) ?_
       refine L.y rfl (Y.loadP (i := 0) ag3 rfl rfl rfl) ?_
       refine L.ite h rfl (Y.eql rfl rfl) (fun c21 h => ?_) (fun c21 h => ?_)
       ·
        refine L.y rfl (Y.move rfl) ?_
        refine L.take rfl (L.y rfl (Y.fieldP fd30_2 rfl) ?_)
        refine L.take rfl (L.y rfl (Y.loadP (i := 0) ag3 rfl rfl rfl) ?_)
        refine L.take rfl (L.y rfl (Y.move rfl) ?_)
        refine L.take rfl (L.ite h rfl (Y.eql rfl rfl) (fun c22 h => ?_) (fun c22 h => ?_))
        ·
         refine L.y rfl (Y.pickT rfl rfl) ?_
         exact L.nil (E.joinJ ⟨true, rfl, rfl, h⟩ ⟨rfl, rfl, rfl, rfl, rfl, rfl, rfl, rfl, rfl, rfl, rfl, trivial⟩ (fun _ hw => hw))
        ·
         refine L.y rfl (Y.pickT rfl rfl) ?_
         exact L.nil (E.joinJ ⟨false, rfl, rfl, h⟩ ⟨rfl, rfl, rfl, rfl, rfl, rfl, rfl, rfl, rfl, rfl, rfl, trivial⟩ (fun _ hw => hw))
       ·
        refine L.y rfl (Y.move rfl) ?_
        refine L.pass rfl rfl (by nofun) ?_
        refine L.pass rfl rfl (by nofun) ?_
        refine L.pass rfl rfl (by nofun) ?_
        refine L.pass rfl rfl (by nofun) ?_
        refine L.y rfl (Y.pickF rfl rfl) ?_
        exact L.nil (E.joinJ ⟨false, rfl, rfl, h⟩ ⟨rfl, rfl, rfl, rfl, rfl, rfl, rfl, rfl, rfl, rfl, rfl, trivial⟩ (fun _ hw => hw))
      ·
       rintro _ _ ⟨gb7, rfl, rfl, h⟩
       rw [m26_quirref_Last_K3] at h
       rcases gb7 with _ | _
       ·
        replace h := iteF h
        refine L.y rfl (Y.move rfl) ?_
        refine L.pass rfl rfl (by nofun) ?_
        refine L.pass rfl rfl (by nofun) ?_
        refine L.pass rfl rfl (by nofun) ?_
        refine L.pass rfl rfl (by nofun) ?_
        refine L.pass rfl rfl (by nofun) ?_
        refine L.y rfl (Y.pickF rfl rfl) ?_
        refine L.nil (E.thenN (W.condF rfl ?_))
        refine W.skip (E.blockN (E.thenN (W.region (L.m (V := fun x14 => .int .i64 x14) h rfl (Y.addM rfl rfl) (fun x14 ex14 h => ?_)))))
        refine L.y rfl (Y.move rfl) ?_
        exact L.nil (E.againJ ⟨x14, gl6, rfl, rfl, by rw [hg2]; exact h⟩ (Nat.lt_succ_self _) ⟨rfl, rfl, rfl, rfl, rfl, rfl, rfl, rfl, trivial⟩ (fun _ hw => hw.sel [1, 2] (by decide) rfl))
       ·
        replace h := iteT h
        refine L.y rfl (Y.move rfl) ?_
        refine L.take rfl (L.y rfl (Y.move rfl) ?_)
        refine L.take rfl (L.y rfl (Y.fieldP fd30_0 rfl) ?_)
        refine L.take rfl (L.y rfl (Y.loadP (i := 0) ag3 rfl rfl rfl) ?_)
        refine L.take rfl ?_
        obtain ⟨b15, e16, h⟩ := bind1S h
        refine L.y rfl (Y.does en37 rfl (fun w' hw => (w37_quirref_has a0 x12.Tx 4 u0 w' _ e16 (hA0.cls0 hw)).mono (fun _ _ h => h.1))) ?_
        rcases b15 with _ | _
        ·
         replace h := iteF h
         refine L.take rfl (L.y rfl (Y.not rfl) ?_)
         refine L.y rfl (Y.pickT rfl rfl) ?_
         refine L.nil (E.thenN (W.condT rfl ?_))
         refine W.region (L.y rfl (Y.move rfl) ?_)
         refine L.y rfl (Y.move rfl) ?_
         refine L.m (V := fun _ => pt b2 (0 + gx2.toNat * 1)) h rfl (Y.indexAM (l := gl6) Try.underlying57 sz3 rfl rfl) (fun x17 ex17 h => ?_)
         refine L.storeArM (q := 1) (row := I) (vs := [.int .i64 gx5]) (j := 0) (u1 := gx5) h sz3 rfl rfl rfl rfl rfl (all1 rfl all0) rfl (fun _ => rfl) (idxA_idx ex17) rfl rfl ?_
         intro l18 el18 h
         refine L.nil (E.blockN (E.thenN (W.region (L.m (V := fun x19 => .int .i64 x19) h rfl (Y.addM rfl rfl) (fun x19 ex19 h => ?_)))))
         refine L.y rfl (Y.move rfl) ?_
         exact L.nil (E.againJ ⟨x19, l18, rfl, rfl, by rw [hg2]; exact h⟩ (Nat.lt_succ_self _) ⟨rfl, rfl, rfl, rfl, rfl, rfl, rfl, rfl, trivial⟩ (fun _ hw => hw.sel [1, 2] (by decide) rfl))
        ·
         replace h := iteT h
         refine L.take rfl (L.y rfl (Y.not rfl) ?_)
         refine L.y rfl (Y.pickT rfl rfl) ?_
         refine L.nil (E.thenN (W.condF rfl ?_))
         refine W.skip (E.blockN (E.thenN (W.region (L.m (V := fun x20 => .int .i64 x20) h rfl (Y.addM rfl rfl) (fun x20 ex20 h => ?_)))))
         refine L.y rfl (Y.move rfl) ?_
         exact L.nil (E.againJ ⟨x20, gl6, rfl, rfl, by rw [hg2]; exact h⟩ (Nat.lt_succ_self _) ⟨rfl, rfl, rfl, rfl, rfl, rfl, rfl, rfl, trivial⟩ (fun _ hw => hw.sel [1, 2] (by decide) rfl))
     ·
      refine L.nil (E.thenN (W.seq (W.condF rfl ?_)))
      exact W.exit (E.thenX (E.KLX (E.blockX (E.blockN (E.joinJ ⟨gl6, rfl, rfl, h⟩ ⟨rfl, rfl, rfl, rfl, trivial⟩ (fun _ hw => hw))))))
    ·
     rintro _ _ ⟨gl4, rfl, rfl, h⟩
     rw [m26_quirref_Last_K2] at h
     refine W.region (L.m (V := fun x8 => .int .i64 x8) h rfl (Y.addM rfl rfl) (fun x8 ex8 h => ?_))
     refine L.y rfl (Y.move rfl) ?_
     exact L.nil (E.againJ ⟨x8, gl4, rfl, rfl, by rw [hg1]; exact h⟩ (Nat.lt_succ_self _) ⟨rfl, rfl, rfl, rfl, trivial⟩ (fun _ hw => hw))
   ·
    refine L.nil (E.thenN (W.seq (W.condF rfl ?_)))
    exact W.exit (E.thenX (E.KLX (E.blockX (E.joinJ ⟨gl3, rfl, rfl, h⟩ ⟨rfl, rfl, trivial⟩ (fun _ hw => hw)))))
  ·
   rintro _ _ ⟨gl1, rfl, rfl, h⟩
   rw [m26_quirref_Last_K1] at h
   refine W.seq (W.region ?_)
   obtain ⟨_, en3, h⟩ := bind1S h
   obtain ⟨_, en3⟩ := arrN_some en3
   refine L.y rfl (Y.loadArAll (q := 0) (row := I) (k := 1) ag57 sz57 rfl rfl (fun _ => rfl) (by rw [en3])) ?_
   obtain ⟨_, en4, h⟩ := bind1S h
   obtain ⟨_, en4⟩ := arrN_some en4
   obtain ⟨_, en5, h⟩ := bind1S h
   obtain ⟨_, en5⟩ := arrN_some en5
   refine L.storeArW (i := 1) (row := I) (k := 1) en4 en5 rfl (fun _ => rfl) (plain_ints _) sz57 rfl rfl rfl ?_
   refine L.nil (E.thenN (W.ret ?_))
   obtain ⟨_, en6, h⟩ := bind1S h
   obtain ⟨_, en6⟩ := arrN_some en6
   refine E.retR1 rfl (Rv.cellAr (i := 1) (row := I) (k := 1) ag57 sz57 rfl rfl (fun _ => rfl) (by rw [en6])) (fun w1 hw => ?_)
   obtain rfl := Option.some.inj h
   exact ⟨_, _, rfl, ⟨rfl, rfl⟩, hw.sel [] (by decide) rfl⟩
set_option maxRecDepth 100000 in
set_option maxHeartbeats 8000000 in
theorem w9_quirref_Alike (a0 : (List TOp)) (a1 : (List TOp)) (u0 : Value) (u1 : Value) (w : World) (r : Bool) (h : m9_quirref_Alike a0 a1 = some r) (hA0 : At w u0 3 (a0.map TOp.row)) (hA1 : At w u1 3 (a1.map TOp.row)) : Does Try.prog 9 [u0, u1] w fun u m => u = .bool r ∧ m = [] := by
  rw [m9_quirref_Alike] at h
  refine body (n := 65) Try.func9 rfl rfl rfl (Cls.refl w) ?_
  refine W.seq (W.region (L.boxV rfl rfl (fun _ hw => (hA0.cls0 hw).one) ?_))
  intro b1
  refine L.boxV rfl rfl (fun _ hw => (hA1.cls0 hw).one) ?_
  intro b2
  refine L.y rfl (Y.assign rfl) ?_
  refine L.nil (E.thenN (W.seq (W.drawn2 (k := 6) (stC [] [] (Cls w [] [.obj b2 [u1] 22, .obj b1 [u0] 22])) rfl mixed (fun _ hw => hw.drew) (Sc.atD (fun _ hw => hw)) ?_)))
  refine V2.y (i := 0) (Nx2.of (Z := Cls w [] [.obj b2 [u1] 22, .obj b1 [u0] 22]) [] (by kernel_rfl) rfl (Zc.fin (fun _ hw => hw))) rfl rfl rfl (Y.loadP (i := 1) ag22 rfl rfl rfl) ?_
  refine V2.y (i := 2) (Nx2.of (Z := Cls w [] [.obj b2 [u1] 22, .obj b1 [u0] 22]) [] (by kernel_rfl) rfl (Zc.fin (fun _ hw => hw))) rfl rfl rfl (Y.loadP (i := 0) ag22 rfl rfl rfl) ?_
  refine V2.eff (i := 1) (by kernel_rfl) rfl ?_
  obtain ⟨l3, e5, h⟩ := bind1S h
  refine L.does rfl en22 rfl (fun w' hw => w22_quirref_Reads a0 u0 w' _ e5 (hA0.cls0 hw)) ?_
  rintro v4 _ ⟨_, rfl, rfl⟩
  refine L.nil (E.toV2 (stC [] [] (Cls w [] [.sl v4 53 2 (l3.map TSeen.row), .obj b2 [u1] 22, .obj b1 [u0] 22])) 1 (by kernel_rfl) (Sc.stayD (fun _ hw => hw.sel [1, 2] (by decide) rfl)) (Sc.atD (fun _ hw => hw)) ?_)
  refine V2.eff (i := 3) (by kernel_rfl) rfl ?_
  obtain ⟨l6, e8, h⟩ := bind1S h
  refine L.does rfl en22 rfl (fun w' hw => w22_quirref_Reads a1 u1 w' _ e8 (hA1.cls0 hw)) ?_
  rintro v7 _ ⟨_, rfl, rfl⟩
  refine L.nil (E.toV2 (stC [] [] (Cls w [] [.sl v7 53 2 (l6.map TSeen.row), .sl v4 53 2 (l3.map TSeen.row), .obj b2 [u1] 22, .obj b1 [u0] 22])) 3 (by kernel_rfl) (Sc.stayD (fun _ hw => hw.sel [1, 2, 3] (by decide) rfl)) (Sc.atD (fun _ hw => hw)) ?_)
  refine V2.y (i := 4) (Nx2.of (Z := Cls w [] [.sl v7 53 2 (l6.map TSeen.row), .sl v4 53 2 (l3.map TSeen.row), .obj b2 [u1] 22, .obj b1 [u0] 22]) [] (by kernel_rfl) rfl (Zc.fin (fun _ hw => hw))) rfl rfl rfl (Y.assign rfl) ?_
  refine V2.y (i := 5) (Nx2.of (Z := Cls w [] [.sl v7 53 2 (l6.map TSeen.row), .sl v4 53 2 (l3.map TSeen.row), .obj b2 [u1] 22, .obj b1 [u0] 22]) [] (by kernel_rfl) rfl (Zc.fin (fun _ hw => hw))) rfl rfl rfl (Y.assign rfl) ?_
  refine V2.done (by kernel_rfl) ?_
  refine E.thenN (W.seqJ (fun gs D => gs = [(2, pt b1 0), (3, pt b2 0), (5, v4), (6, v7)] ∧ D = Cls w [] [.obj b2 [u1] 22, .obj b1 [u0] 22, .sl v4 53 2 (l3.map TSeen.row), .sl v7 53 2 (l6.map TSeen.row)] ∧ m9_quirref_Alike_K1 l3 l6 a0 a1 = some r) ?_ ?_)
  ·
   refine W.seq (W.region (L.y rfl (Y.move rfl) ?_))
   refine L.y rfl (Y.lenM (g := TSeen.row) (l := l3) Try.underlying50 rfl (fun w hw => As.at_ (hw.get (i := 1) rfl))) ?_
   refine L.y rfl (Y.move rfl) ?_
   refine L.y rfl (Y.lenM (g := TSeen.row) (l := l6) Try.underlying50 rfl (fun w hw => As.at_ (hw.get (i := 0) rfl))) ?_
   refine L.ite h rfl (Y.neq rfl rfl) (fun c145 h => ?_) (fun c145 h => ?_)
   ·
    refine L.nil (E.thenN (W.condT rfl ?_))
    refine W.seq (W.region (L.y rfl (Y.assign rfl) ?_))
    refine L.nil (E.thenN (W.ret (E.KSR (E.ret1 rfl rfl (fun w1 hw => ?_)))))
    obtain rfl := Option.some.inj h
    exact ⟨_, _, rfl, ⟨rfl, rfl⟩, hw.sel [] (by decide) rfl⟩
   ·
    refine L.nil (E.thenN (W.condF rfl ?_))
    exact W.skip (E.joinJ ⟨rfl, rfl, h⟩ ⟨rfl, rfl, rfl, rfl, trivial⟩ (fun _ hw => hw.sel [2, 3, 1, 0] (by decide) rfl))
  ·
   rintro _ _ ⟨rfl, rfl, h⟩
   rw [m9_quirref_Alike_K1] at h
   refine W.seqJ (fun gs D => gs = [(2, pt b1 0), (3, pt b2 0)] ∧ D = Cls w [] [.obj b2 [u1] 22, .obj b1 [u0] 22] ∧ m9_quirref_Alike_K2 a0 a1 = some r) ?_ ?_
   ·
    refine W.seq (W.region (L.y rfl (Y.move rfl) ?_))
    refine L.y rfl (Y.lenM (g := TSeen.row) (l := l3) Try.underlying50 rfl (fun w hw => As.at_ (hw.get (i := 2) rfl))) ?_
    refine L.y rfl (Y.move rfl) ?_
    refine L.nil (E.thenN (W.block (W.loopJ (fun m gs D => ∃ (gx6 : Int), gs = [(2, pt b1 0), (3, pt b2 0), (6, v7), (22, v4), (23, .int .i64 (l3.length : Int)), (24, .int .i64 gx6)] ∧ D = Cls w [] [.obj b2 [u1] 22, .obj b1 [u0] 22, .sl v7 53 2 (l6.map TSeen.row), .sl v4 53 2 (l3.map TSeen.row)] ∧ m9_quirref_Alike_L2 l3 l6 a0 a1 m gx6 = some r) ⟨0, rfl, rfl, h⟩ ⟨rfl, rfl, rfl, rfl, rfl, rfl, trivial⟩ (fun _ hw => hw.sel [0, 1, 3, 2] (by decide) rfl) ?_)))
    rintro m _ _ ⟨gx6, rfl, rfl, h⟩
    rcases m with _ | m
    · rw [m9_quirref_Alike_L2] at h; cases h
    rw [m9_quirref_Alike_L2] at h
    generalize hg2 : m9_quirref_Alike_L2 l3 l6 a0 a1 m = go2 at h
    rw [m9_quirref_Alike_L2B] at h
    refine W.seq (W.region (L.ite h rfl (Y.lss rfl rfl) (fun c131 h => ?_) (fun c131 h => ?_)))
    ·
     refine L.nil (E.thenN (W.seq (W.condT rfl ?_)))
     refine W.skip (E.thenN (W.seq (W.block (W.seq (W.region (L.m (V := fun _ => el v4 (gx6.toNat * 2)) h rfl (Y.indexM (g := TSeen.row) (l := l3) Try.underlying50 sz53 rfl rfl (fun w hw => As.at_ (hw.get (i := 3) rfl))) (fun x132 ex132 h => ?_)))))))
     refine L.y rfl (Y.loadEN (r := [.int .i64 x132.At, .int .i64 x132.From]) ag53 sz53 rfl (fun w hw => As.at_ (hw.get (i := 3) rfl)) (idx_map ex132) rfl) ?_
     refine L.alloc rfl ze53 ?_
     intro b133
     refine L.store (i := 0) (vs := [.int .i64 x132.At, .int .i64 x132.From]) sz53 rfl rfl rfl rfl (by simp [Value.oneCell', Value.cells, st, pt, el]) rfl (Nat.le_of_ble_eq_true rfl) ?_
     refine L.nil (E.thenN (W.seq (W.region (L.y rfl (Y.move rfl) ?_))))
     refine L.y rfl (Y.func rfl) ?_
     refine L.callJ (fun v D => ∃ (gx7 : Int), v = .int .i64 gx7 ∧ D = Cls w [] [.obj b133 [.int .i64 x132.At, .int .i64 x132.From] 53, .obj b2 [u1] 22, .obj b1 [u0] 22, .sl v7 53 2 (l6.map TSeen.row), .sl v4 53 2 (l3.map TSeen.row)] ∧ m9_quirref_Alike_K5 l6 a0 x132 a1 gx6 go2 gx7 = some r) rfl en23 rfl Try.func23 rfl rfl rfl ?_ ?_
     ·
      refine W.seq (W.region (L.y rfl (Y.assign rfl) ?_))
      refine L.nil (E.thenN (W.seqJ (fun gs D => gs = [] ∧ D = Cls w [] [.obj b133 [.int .i64 x132.At, .int .i64 x132.From] 53, .obj b2 [u1] 22, .obj b1 [u0] 22, .sl v7 53 2 (l6.map TSeen.row), .sl v4 53 2 (l3.map TSeen.row)] ∧ m9_quirref_Alike_K6 l6 a0 x132 a1 gx6 go2 = some r) ?_ ?_))
      ·
       refine W.seq (W.region (L.y rfl (Y.move rfl) ?_))
       refine L.y rfl (Y.lenM (g := TSeen.row) (l := l6) Try.underlying50 rfl (fun w hw => As.at_ (hw.get (i := 3) rfl))) ?_
       refine L.y rfl (Y.move rfl) ?_
       refine L.nil (E.thenN (W.block (W.loopJ (fun m gs D => ∃ (gx8 : Int), gs = [(0, v7), (1, .func (.func 24) #[] #[pt b1 0, pt b133 0, pt b2 0]), (7, .int .i64 (l6.length : Int)), (8, .int .i64 gx8)] ∧ D = Cls w [] [.obj b133 [.int .i64 x132.At, .int .i64 x132.From] 53, .obj b2 [u1] 22, .obj b1 [u0] 22, .sl v7 53 2 (l6.map TSeen.row), .sl v4 53 2 (l3.map TSeen.row)] ∧ m9_quirref_Alike_L3 l6 a0 x132 a1 gx6 go2 m gx8 = some r) ⟨0, rfl, rfl, h⟩ ⟨rfl, rfl, rfl, rfl, trivial⟩ (fun _ hw => hw) ?_)))
       rintro m _ _ ⟨gx8, rfl, rfl, h⟩
       rcases m with _ | m
       · rw [m9_quirref_Alike_L3] at h; cases h
       rw [m9_quirref_Alike_L3] at h
       generalize hg3 : m9_quirref_Alike_L3 l6 a0 x132 a1 gx6 go2 m = go3 at h
       rw [m9_quirref_Alike_L3B] at h
       refine W.seq (W.region (L.ite h rfl (Y.lss rfl rfl) (fun c139 h => ?_) (fun c139 h => ?_)))
       ·
        refine L.nil (E.thenN (W.seq (W.condT rfl ?_)))
        refine W.skip (E.thenN (W.seq (W.block (W.seq (W.region (L.y rfl (Y.move rfl) ?_))))))
        refine L.y rfl (Y.assign rfl) ?_
        refine L.nil (E.thenN (W.seq (W.region (L.y rfl (Y.move rfl) ?_))))
        refine L.y rfl (Y.move rfl) ?_
        refine L.y rfl (Y.move rfl) ?_
        refine L.m (V := fun _ => el v7 (gx8.toNat * 2)) h rfl (Y.indexM (g := TSeen.row) (l := l6) Try.underlying50 sz53 rfl rfl (fun w hw => As.at_ (hw.get (i := 3) rfl))) (fun x140 ex140 h => ?_)
        refine L.y rfl (Y.loadEN (r := [.int .i64 x140.At, .int .i64 x140.From]) ag53 sz53 rfl (fun w hw => As.at_ (hw.get (i := 3) rfl)) (idx_map ex140) rfl) ?_
        refine L.callVJ (fun v D => ∃ (gb9 : Bool), v = .bool gb9 ∧ D = Cls w [] [.obj b133 [.int .i64 x132.At, .int .i64 x132.From] 53, .obj b2 [u1] 22, .obj b1 [u0] 22, .sl v7 53 2 (l6.map TSeen.row), .sl v4 53 2 (l3.map TSeen.row)] ∧ m9_quirref_Alike_K7 l6 a0 x132 a1 gx6 go2 gx8 go3 gb9 = some r) rfl en24 rfl rfl Try.func24 rfl rfl rfl ?_ ?_
        ·
         refine W.seq (W.region (L.box rfl rfl ?_))
         intro b142
         refine L.y rfl (Y.assign rfl) ?_
         refine L.nil (E.thenN (W.seq (W.region (L.y rfl (Y.loadP (i := 3) ag22 rfl rfl rfl) ?_))))
         refine L.y rfl (Y.fieldP fd53_0 rfl) ?_
         refine L.y rfl (Y.loadP (i := 1) ag3 rfl rfl rfl) ?_
         refine L.y rfl (Y.loadP (i := 2) ag22 rfl rfl rfl) ?_
         refine L.y rfl (Y.fieldP fd53_0 rfl) ?_
         refine L.y rfl (Y.loadP (i := 0) ag3 rfl rfl rfl) ?_
         obtain ⟨b143, e144, h⟩ := bind1S h
         refine L.y rfl (Y.does en25 rfl (fun w' hw => (w25_quirref_sameOp a0 x132.At a1 x140.At u0 u1 w' _ e144 (hA0.cls0 hw) (hA1.cls0 hw)).mono (fun _ _ h => h.1))) ?_
         refine L.y rfl (Y.assign rfl) ?_
         refine L.nil (E.thenN (W.ret (E.ret1 rfl rfl (fun w1 hw => ?_))))
         exact ⟨_, _, rfl, ⟨b143, rfl, rfl, h⟩, hw.sel [1, 2, 3, 4, 5] (by decide) rfl⟩
        ·
         rintro _ _ ⟨gb9, rfl, rfl, h⟩
         rw [m9_quirref_Alike_K7] at h
         rcases gb9 with _ | _
         ·
          replace h := iteF h
          refine L.nil (E.thenN (W.condF rfl ?_))
          refine W.skip (E.blockN (E.thenN (W.region (L.m (V := fun x141 => .int .i64 x141) h rfl (Y.addM rfl rfl) (fun x141 ex141 h => ?_)))))
          refine L.y rfl (Y.move rfl) ?_
          exact L.nil (E.againJ ⟨x141, rfl, rfl, by rw [hg3]; exact h⟩ (Nat.lt_succ_self _) ⟨rfl, rfl, rfl, rfl, trivial⟩ (fun _ hw => hw))
         ·
          replace h := iteT h
          refine L.nil (E.thenN (W.condT rfl ?_))
          refine W.seq (W.region (L.y rfl (Y.move rfl) ?_))
          refine L.y rfl (Y.assign rfl) ?_
          refine L.nil (E.thenN (W.ret (E.blockR (E.thenR (E.KLR (E.blockR (E.KSR (E.ret1 rfl rfl (fun w1 hw => ?_)))))))))
          exact ⟨_, _, rfl, ⟨gx8, rfl, rfl, h⟩, hw⟩
       ·
        refine L.nil (E.thenN (W.seq (W.condF rfl ?_)))
        exact W.exit (E.thenX (E.KLX (E.blockX (E.joinJ ⟨rfl, rfl, h⟩ trivial (fun _ hw => hw)))))
      ·
       rintro _ _ ⟨rfl, rfl, h⟩
       rw [m9_quirref_Alike_K6] at h
       refine W.seq (W.region (L.y rfl (Y.assign rfl) ?_))
       refine L.nil (E.thenN (W.ret (E.ret1 rfl rfl (fun w1 hw => ?_))))
       exact ⟨_, _, rfl, ⟨(-1), rfl, rfl, h⟩, hw⟩
     ·
      rintro _ _ ⟨gx7, rfl, rfl, h⟩
      rw [m9_quirref_Alike_K5] at h
      refine L.y rfl (Y.assign rfl) ?_
      refine L.nil (E.thenN (W.seq (W.quietC mixed (by kernel_rfl) (fun _ hw => hw.drew) (fun hC => ?_))))
      refine U.y rfl (Y.move rfl) ?_
      refine U.ite h rfl (Y.lss rfl rfl) (fun c134 h => ?_) (fun c134 h => ?_)
      ·
       refine U.y rfl (Y.move rfl) ?_
       refine U.pass rfl rfl (by nofun) ?_
       refine U.pass rfl rfl (by nofun) ?_
       refine U.pass rfl rfl (by nofun) ?_
       refine U.pass rfl rfl (by nofun) ?_
       refine U.pass rfl rfl (by nofun) ?_
       refine U.pass rfl rfl (by nofun) ?_
       refine U.pass rfl rfl (by nofun) ?_
       refine U.pass rfl rfl (by nofun) ?_
       refine U.pass rfl rfl (by nofun) ?_
       refine U.pass rfl rfl (by nofun) ?_
       refine U.pass rfl rfl (by nofun) ?_
       refine U.y rfl (Y.pickT rfl rfl) ?_
       refine U.nil (E.thenN (W.condT rfl ?_))
       refine W.seq (W.region (L.y rfl (Y.assign rfl) ?_))
       refine L.nil (E.thenN (W.ret (E.blockR (E.thenR (E.KLR (E.blockR (E.KSR (E.ret1 rfl rfl (fun w1 hw => ?_)))))))))
       obtain rfl := Option.some.inj h
       exact ⟨_, _, rfl, ⟨rfl, rfl⟩, hw.sel [] (by decide) rfl⟩
      ·
       refine U.y rfl (Y.move rfl) ?_
       refine U.take rfl (U.y rfl (Y.loadP (i := 2) ag22 rfl rfl rfl) ?_)
       refine U.take rfl (U.y rfl (Y.fieldP fd53_1 rfl) ?_)
       refine U.take rfl (U.y rfl (Y.loadP (i := 0) ag3 rfl rfl rfl) ?_)
       refine U.take rfl (U.y rfl (Y.loadP (i := 1) ag22 rfl rfl rfl) ?_)
       refine U.take rfl (U.y rfl (Y.move rfl) ?_)
       refine U.take rfl (U.y rfl (Y.move rfl) ?_)
       refine U.take rfl (U.m (V := fun _ => el v7 (gx7.toNat * 2)) h rfl (Y.indexM (g := TSeen.row) (l := l6) Try.underlying50 sz53 rfl rfl (fun w hw => As.at_ (hw.get (i := 3) rfl))) (fun x135 ex135 h => ?_))
       refine U.take rfl (U.y rfl (Y.fieldE fd53_1 rfl) ?_)
       refine U.take rfl (U.y rfl (Y.loadE (u := .int .i64 x135.From) ag3 rfl (fun w hw => As.at_ (hw.get (i := 3) rfl)) (idx_map ex135) rfl) ?_)
       refine U.take rfl ?_
       obtain ⟨b136, e137, h⟩ := bind1S h
       refine U.y rfl (Y.does en25 rfl (fun w' hw => (w25_quirref_sameOp a0 x132.From a1 x135.From u0 u1 w' _ e137 (hA0.cls0 hw) (hA1.cls0 hw)).mono (fun _ _ h => h.1))) ?_
       rcases b136 with _ | _
       ·
        replace h := iteF h
        refine U.take rfl (U.y rfl (Y.not rfl) ?_)
        refine U.y rfl (Y.pickF rfl rfl) ?_
        refine U.nil (E.thenN (W.condT rfl ?_))
        refine W.seq (W.region (L.y rfl (Y.assign rfl) ?_))
        refine L.nil (E.thenN (W.ret (E.blockR (E.thenR (E.KLR (E.blockR (E.KSR (E.ret1 rfl rfl (fun w1 hw => ?_)))))))))
        obtain rfl := Option.some.inj h
        exact ⟨_, _, rfl, ⟨rfl, rfl⟩, hw.sel [] (by decide) rfl⟩
       ·
        replace h := iteT h
        refine U.take rfl (U.y rfl (Y.not rfl) ?_)
        refine U.y rfl (Y.pickF rfl rfl) ?_
        refine U.nil (E.thenN (W.condF rfl ?_))
        refine W.skip (E.blockN (E.thenN (W.region (L.m (V := fun x138 => .int .i64 x138) h rfl (Y.addM rfl rfl) (fun x138 ex138 h => ?_)))))
        refine L.y rfl (Y.move rfl) ?_
        exact L.nil (E.againJ ⟨x138, rfl, rfl, by rw [hg2]; exact h⟩ (Nat.lt_succ_self _) ⟨rfl, rfl, rfl, rfl, rfl, rfl, trivial⟩ (fun _ hw => hw.sel [1, 2, 3, 4] (by decide) rfl))
    ·
     refine L.nil (E.thenN (W.seq (W.condF rfl ?_)))
     exact W.exit (E.thenX (E.KLX (E.blockX (E.joinJ ⟨rfl, rfl, h⟩ ⟨rfl, rfl, trivial⟩ (fun _ hw => hw.sel [0, 1] (by decide) rfl)))))
   ·
    rintro _ _ ⟨rfl, rfl, h⟩
    rw [m9_quirref_Alike_K2] at h
    refine W.seqJ (fun gs D => ∃ (gb1 : Nat) (gl2 : (List Int)) (gb3 : Nat) (gl4 : (List Int)), gs = [(2, pt b1 0), (3, pt b2 0), (10, pt gb1 0), (11, pt gb3 0)] ∧ D = Cls w [] [.obj b2 [u1] 22, .obj b1 [u0] 22, .obj gb1 ((gl2.map I).flatten) 57, .obj gb3 ((gl4.map I).flatten) 57] ∧ m9_quirref_Alike_K3 a0 a1 gl2 gl4 = some r) ?_ ?_
    ·
     refine W.drawn2 (k := 8) (stC [[6, 7], [7]] [Cls w [] [.obj b2 [u1] 22, .obj b1 [u0] 22], Cls w [] [.obj b2 [u1] 22, .obj b1 [u0] 22]] (Cls w [] [.obj b2 [u1] 22, .obj b1 [u0] 22])) rfl mixed (fun _ hw => hw.drew) (Sc.now (by kernel_rfl) (fun _ hw => hw)) ?_
     refine V2.y (i := 0) (Nx2.of (Z := Cls w [] [.obj b2 [u1] 22, .obj b1 [u0] 22]) [] (by kernel_rfl) rfl (Zc.on (fun _ hw => hw) (Zc.on (fun _ hw => hw) (Zc.fin (fun _ hw => hw))))) rfl rfl rfl (Y.loadP (i := 1) ag22 rfl rfl rfl) ?_
     refine V2.y (i := 2) (Nx2.of (Z := Cls w [] [.obj b2 [u1] 22, .obj b1 [u0] 22]) [] (by kernel_rfl) rfl (Zc.on (fun _ hw => hw) (Zc.on (fun _ hw => hw) (Zc.fin (fun _ hw => hw))))) rfl rfl rfl (Y.loadP (i := 0) ag22 rfl rfl rfl) ?_
     refine V2.eff3 (i1 := 1) (i2 := 4) (i3 := 5) (by kernel_rfl) rfl rfl rfl ?_ ?_ ?_
     ·
      obtain ⟨x33, e34, h⟩ := bind1S h
      refine L.y rfl (Y.does en26 rfl (fun w' hw => (w26_quirref_Last a0 u0 w' _ e34 (hA0.cls0 hw)).mono (fun _ _ h => h.1))) ?_
      refine L.nil (E.toV2 (stC [[6, 7], [7]] [Cls w [] [.obj b2 [u1] 22, .obj b1 [u0] 22], Cls w [] [.obj b2 [u1] 22, .obj b1 [u0] 22]] (Cls w [] [.obj b2 [u1] 22, .obj b1 [u0] 22])) 1 (by kernel_rfl) (Sc.stay (fun _ hw => hw) (Sc.stay (fun _ hw => hw) (Sc.stayD (fun _ hw => hw)))) (Sc.now (by kernel_rfl) (fun _ hw => hw)) ?_)
      refine V2.eff3 (i1 := 3) (i2 := 4) (i3 := 5) (by kernel_rfl) rfl rfl rfl ?_ ?_ ?_
      ·
       obtain ⟨x35, e36, h⟩ := bind1S h
       refine L.y rfl (Y.does en26 rfl (fun w' hw => (w26_quirref_Last a1 u1 w' _ e36 (hA1.cls0 hw)).mono (fun _ _ h => h.1))) ?_
       refine L.nil (E.toV2 (stC [[6, 7], [7]] [Cls w [] [.obj b2 [u1] 22, .obj b1 [u0] 22], Cls w [] [.obj b2 [u1] 22, .obj b1 [u0] 22]] (Cls w [] [.obj b2 [u1] 22, .obj b1 [u0] 22])) 3 (by kernel_rfl) (Sc.stay (fun _ hw => hw) (Sc.stay (fun _ hw => hw) (Sc.stayD (fun _ hw => hw)))) (Sc.now (by kernel_rfl) (fun _ hw => hw)) ?_)
       refine V2.eff2 (i1 := 4) (i2 := 5) (by kernel_rfl) rfl rfl ?_ ?_
       ·
        refine L.alloc rfl ze57 ?_
        intro b37
        refine L.to (D := Cls w [] [.obj b37 (((List.replicate 20 (0 : Int)).map I).flatten) 57, .obj b2 [u1] 22, .obj b1 [u0] 22]) (fun _ hw => by first | exact hw | simpa [I, B, SR] using hw) ?_
        refine L.nil (E.toV2 (stC [[6, 7], [7]] [Cls w [] [.obj b37 (((List.replicate 20 (0 : Int)).map I).flatten) 57, .obj b2 [u1] 22, .obj b1 [u0] 22], Cls w [] [.obj b2 [u1] 22, .obj b1 [u0] 22]] (Cls w [] [.obj b2 [u1] 22, .obj b1 [u0] 22])) 4 (by kernel_rfl) (Sc.stay (fun _ hw => hw.sel [1, 2] (by decide) rfl) (Sc.stay (fun _ hw => hw) (Sc.stayD (fun _ hw => hw)))) (Sc.now (by kernel_rfl) (fun _ hw => hw)) ?_)
        refine V2.eff (i := 5) (by kernel_rfl) rfl ?_
        refine L.alloc rfl ze57 ?_
        intro b38
        refine L.to (D := Cls w [] [.obj b38 (((List.replicate 20 (0 : Int)).map I).flatten) 57, .obj b37 (((List.replicate 20 (0 : Int)).map I).flatten) 57, .obj b2 [u1] 22, .obj b1 [u0] 22]) (fun _ hw => by first | exact hw | simpa [I, B, SR] using hw) ?_
        refine L.nil (E.toV2 (stC [[6, 7], [7]] [Cls w [] [.obj b38 (((List.replicate 20 (0 : Int)).map I).flatten) 57, .obj b37 (((List.replicate 20 (0 : Int)).map I).flatten) 57, .obj b2 [u1] 22, .obj b1 [u0] 22], Cls w [] [.obj b38 (((List.replicate 20 (0 : Int)).map I).flatten) 57, .obj b2 [u1] 22, .obj b1 [u0] 22]] (Cls w [] [.obj b2 [u1] 22, .obj b1 [u0] 22])) 5 (by kernel_rfl) (Sc.stay (fun _ hw => hw.sel [1, 2, 3] (by decide) rfl) (Sc.stay (fun _ hw => hw.sel [1, 2] (by decide) rfl) (Sc.stayD (fun _ hw => hw)))) (Sc.now (by kernel_rfl) (fun _ hw => hw)) ?_)
        refine V2.eff (i := 6) (by kernel_rfl) rfl ?_
        obtain ⟨_, en39, h⟩ := bind1S h
        obtain ⟨_, en39⟩ := arrN_some en39
        obtain ⟨_, en40, h⟩ := bind1S h
        obtain ⟨_, en40⟩ := arrN_some en40
        refine L.storeArW (i := 1) (row := I) (k := 1) en39 en40 rfl (fun _ => rfl) (plain_ints _) sz57 rfl rfl rfl ?_
        refine L.nil (E.toV2 (stC [[7]] [Cls w [] [.obj b38 (((List.replicate 20 (0 : Int)).map I).flatten) 57, .obj b2 [u1] 22, .obj b1 [u0] 22]] (Cls w [] [.obj b2 [u1] 22, .obj b1 [u0] 22])) 6 (by kernel_rfl) (Sc.past rfl (Sc.stay (fun _ hw => hw) (Sc.stayD (fun _ hw => hw)))) (Sc.now (by kernel_rfl) (fun _ hw => hw.sel [0, 2, 3] (by decide) rfl)) ?_)
        refine V2.eff (i := 7) (by kernel_rfl) rfl ?_
        obtain ⟨_, en41, h⟩ := bind1S h
        obtain ⟨_, en41⟩ := arrN_some en41
        obtain ⟨_, en42, h⟩ := bind1S h
        obtain ⟨_, en42⟩ := arrN_some en42
        refine L.storeArW (i := 0) (row := I) (k := 1) en41 en42 rfl (fun _ => rfl) (plain_ints _) sz57 rfl rfl rfl ?_
        refine L.nil (E.toV2 (stC [] [] (Cls w [] [.obj b2 [u1] 22, .obj b1 [u0] 22])) 7 (by kernel_rfl) (Sc.past rfl (Sc.stayD (fun _ hw => hw))) (Sc.atD (fun _ hw => hw.sel [2, 3] (by decide) rfl)) ?_)
        refine V2.done (by kernel_rfl) ?_
        exact E.joinJ ⟨b37, x33, b38, x35, rfl, rfl, h⟩ ⟨rfl, rfl, rfl, rfl, trivial⟩ (fun _ hw => hw.sel [2, 3, 1, 0] (by decide) rfl)
       ·
        refine L.alloc rfl ze57 ?_
        intro b43
        refine L.to (D := Cls w [] [.obj b43 (((List.replicate 20 (0 : Int)).map I).flatten) 57, .obj b2 [u1] 22, .obj b1 [u0] 22]) (fun _ hw => by first | exact hw | simpa [I, B, SR] using hw) ?_
        refine L.nil (E.toV2 (stC [[6, 7], [7]] [Cls w [] [.obj b43 (((List.replicate 20 (0 : Int)).map I).flatten) 57, .obj b2 [u1] 22, .obj b1 [u0] 22], Cls w [] [.obj b43 (((List.replicate 20 (0 : Int)).map I).flatten) 57, .obj b2 [u1] 22, .obj b1 [u0] 22]] (Cls w [] [.obj b2 [u1] 22, .obj b1 [u0] 22])) 5 (by kernel_rfl) (Sc.stay (fun _ hw => hw.sel [1, 2] (by decide) rfl) (Sc.stay (fun _ hw => hw.sel [1, 2] (by decide) rfl) (Sc.stayD (fun _ hw => hw)))) (Sc.now (by kernel_rfl) (fun _ hw => hw)) ?_)
        refine V2.eff (i := 4) (by kernel_rfl) rfl ?_
        refine L.alloc rfl ze57 ?_
        intro b44
        refine L.to (D := Cls w [] [.obj b44 (((List.replicate 20 (0 : Int)).map I).flatten) 57, .obj b43 (((List.replicate 20 (0 : Int)).map I).flatten) 57, .obj b2 [u1] 22, .obj b1 [u0] 22]) (fun _ hw => by first | exact hw | simpa [I, B, SR] using hw) ?_
        refine L.nil (E.toV2 (stC [[6, 7], [7]] [Cls w [] [.obj b44 (((List.replicate 20 (0 : Int)).map I).flatten) 57, .obj b43 (((List.replicate 20 (0 : Int)).map I).flatten) 57, .obj b2 [u1] 22, .obj b1 [u0] 22], Cls w [] [.obj b43 (((List.replicate 20 (0 : Int)).map I).flatten) 57, .obj b2 [u1] 22, .obj b1 [u0] 22]] (Cls w [] [.obj b2 [u1] 22, .obj b1 [u0] 22])) 4 (by kernel_rfl) (Sc.stay (fun _ hw => hw.sel [1, 2, 3] (by decide) rfl) (Sc.stay (fun _ hw => hw) (Sc.stayD (fun _ hw => hw)))) (Sc.now (by kernel_rfl) (fun _ hw => hw)) ?_)
        refine V2.eff (i := 6) (by kernel_rfl) rfl ?_
        obtain ⟨_, en45, h⟩ := bind1S h
        obtain ⟨_, en45⟩ := arrN_some en45
        obtain ⟨_, en46, h⟩ := bind1S h
        obtain ⟨_, en46⟩ := arrN_some en46
        refine L.storeArW (i := 0) (row := I) (k := 1) en45 en46 rfl (fun _ => rfl) (plain_ints _) sz57 rfl rfl rfl ?_
        refine L.nil (E.toV2 (stC [[7]] [Cls w [] [.obj b43 (((List.replicate 20 (0 : Int)).map I).flatten) 57, .obj b2 [u1] 22, .obj b1 [u0] 22]] (Cls w [] [.obj b2 [u1] 22, .obj b1 [u0] 22])) 6 (by kernel_rfl) (Sc.past rfl (Sc.stay (fun _ hw => hw) (Sc.stayD (fun _ hw => hw)))) (Sc.now (by kernel_rfl) (fun _ hw => hw.sel [1, 2, 3] (by decide) rfl)) ?_)
        refine V2.eff (i := 7) (by kernel_rfl) rfl ?_
        obtain ⟨_, en47, h⟩ := bind1S h
        obtain ⟨_, en47⟩ := arrN_some en47
        obtain ⟨_, en48, h⟩ := bind1S h
        obtain ⟨_, en48⟩ := arrN_some en48
        refine L.storeArW (i := 1) (row := I) (k := 1) en47 en48 rfl (fun _ => rfl) (plain_ints _) sz57 rfl rfl rfl ?_
        refine L.nil (E.toV2 (stC [] [] (Cls w [] [.obj b2 [u1] 22, .obj b1 [u0] 22])) 7 (by kernel_rfl) (Sc.past rfl (Sc.stayD (fun _ hw => hw))) (Sc.atD (fun _ hw => hw.sel [2, 3] (by decide) rfl)) ?_)
        refine V2.done (by kernel_rfl) ?_
        exact E.joinJ ⟨b44, x33, b43, x35, rfl, rfl, h⟩ ⟨rfl, rfl, rfl, rfl, trivial⟩ (fun _ hw => hw.sel [2, 3, 0, 1] (by decide) rfl)
      ·
       refine L.alloc rfl ze57 ?_
       intro b49
       refine L.to (D := Cls w [] [.obj b49 (((List.replicate 20 (0 : Int)).map I).flatten) 57, .obj b2 [u1] 22, .obj b1 [u0] 22]) (fun _ hw => by first | exact hw | simpa [I, B, SR] using hw) ?_
       refine L.nil (E.toV2 (stC [[6, 7], [7]] [Cls w [] [.obj b49 (((List.replicate 20 (0 : Int)).map I).flatten) 57, .obj b2 [u1] 22, .obj b1 [u0] 22], Cls w [] [.obj b2 [u1] 22, .obj b1 [u0] 22]] (Cls w [] [.obj b2 [u1] 22, .obj b1 [u0] 22])) 4 (by kernel_rfl) (Sc.stay (fun _ hw => hw.sel [1, 2] (by decide) rfl) (Sc.stay (fun _ hw => hw) (Sc.stayD (fun _ hw => hw)))) (Sc.now (by kernel_rfl) (fun _ hw => hw)) ?_)
       refine V2.eff2 (i1 := 3) (i2 := 5) (by kernel_rfl) rfl rfl ?_ ?_
       ·
        obtain ⟨x50, e51, h⟩ := bind1S h
        refine L.y rfl (Y.does en26 rfl (fun w' hw => (w26_quirref_Last a1 u1 w' _ e51 (hA1.cls0 hw)).mono (fun _ _ h => h.1))) ?_
        refine L.nil (E.toV2 (stC [[6, 7], [7]] [Cls w [] [.obj b49 (((List.replicate 20 (0 : Int)).map I).flatten) 57, .obj b2 [u1] 22, .obj b1 [u0] 22], Cls w [] [.obj b2 [u1] 22, .obj b1 [u0] 22]] (Cls w [] [.obj b2 [u1] 22, .obj b1 [u0] 22])) 3 (by kernel_rfl) (Sc.stay (fun _ hw => hw) (Sc.stay (fun _ hw => hw) (Sc.stayD (fun _ hw => hw)))) (Sc.now (by kernel_rfl) (fun _ hw => hw)) ?_)
        refine V2.eff (i := 5) (by kernel_rfl) rfl ?_
        refine L.alloc rfl ze57 ?_
        intro b52
        refine L.to (D := Cls w [] [.obj b52 (((List.replicate 20 (0 : Int)).map I).flatten) 57, .obj b49 (((List.replicate 20 (0 : Int)).map I).flatten) 57, .obj b2 [u1] 22, .obj b1 [u0] 22]) (fun _ hw => by first | exact hw | simpa [I, B, SR] using hw) ?_
        refine L.nil (E.toV2 (stC [[6, 7], [7]] [Cls w [] [.obj b52 (((List.replicate 20 (0 : Int)).map I).flatten) 57, .obj b49 (((List.replicate 20 (0 : Int)).map I).flatten) 57, .obj b2 [u1] 22, .obj b1 [u0] 22], Cls w [] [.obj b52 (((List.replicate 20 (0 : Int)).map I).flatten) 57, .obj b2 [u1] 22, .obj b1 [u0] 22]] (Cls w [] [.obj b2 [u1] 22, .obj b1 [u0] 22])) 5 (by kernel_rfl) (Sc.stay (fun _ hw => hw.sel [1, 2, 3] (by decide) rfl) (Sc.stay (fun _ hw => hw.sel [1, 2] (by decide) rfl) (Sc.stayD (fun _ hw => hw)))) (Sc.now (by kernel_rfl) (fun _ hw => hw)) ?_)
        refine V2.eff (i := 6) (by kernel_rfl) rfl ?_
        obtain ⟨_, en53, h⟩ := bind1S h
        obtain ⟨_, en53⟩ := arrN_some en53
        obtain ⟨_, en54, h⟩ := bind1S h
        obtain ⟨_, en54⟩ := arrN_some en54
        refine L.storeArW (i := 1) (row := I) (k := 1) en53 en54 rfl (fun _ => rfl) (plain_ints _) sz57 rfl rfl rfl ?_
        refine L.nil (E.toV2 (stC [[7]] [Cls w [] [.obj b52 (((List.replicate 20 (0 : Int)).map I).flatten) 57, .obj b2 [u1] 22, .obj b1 [u0] 22]] (Cls w [] [.obj b2 [u1] 22, .obj b1 [u0] 22])) 6 (by kernel_rfl) (Sc.past rfl (Sc.stay (fun _ hw => hw) (Sc.stayD (fun _ hw => hw)))) (Sc.now (by kernel_rfl) (fun _ hw => hw.sel [0, 2, 3] (by decide) rfl)) ?_)
        refine V2.eff (i := 7) (by kernel_rfl) rfl ?_
        obtain ⟨_, en55, h⟩ := bind1S h
        obtain ⟨_, en55⟩ := arrN_some en55
        obtain ⟨_, en56, h⟩ := bind1S h
        obtain ⟨_, en56⟩ := arrN_some en56
        refine L.storeArW (i := 0) (row := I) (k := 1) en55 en56 rfl (fun _ => rfl) (plain_ints _) sz57 rfl rfl rfl ?_
        refine L.nil (E.toV2 (stC [] [] (Cls w [] [.obj b2 [u1] 22, .obj b1 [u0] 22])) 7 (by kernel_rfl) (Sc.past rfl (Sc.stayD (fun _ hw => hw))) (Sc.atD (fun _ hw => hw.sel [2, 3] (by decide) rfl)) ?_)
        refine V2.done (by kernel_rfl) ?_
        exact E.joinJ ⟨b49, x33, b52, x50, rfl, rfl, h⟩ ⟨rfl, rfl, rfl, rfl, trivial⟩ (fun _ hw => hw.sel [2, 3, 1, 0] (by decide) rfl)
       ·
        refine L.alloc rfl ze57 ?_
        intro b57
        refine L.to (D := Cls w [] [.obj b57 (((List.replicate 20 (0 : Int)).map I).flatten) 57, .obj b49 (((List.replicate 20 (0 : Int)).map I).flatten) 57, .obj b2 [u1] 22, .obj b1 [u0] 22]) (fun _ hw => by first | exact hw | simpa [I, B, SR] using hw) ?_
        refine L.nil (E.toV2 (stC [[6, 7], [7]] [Cls w [] [.obj b57 (((List.replicate 20 (0 : Int)).map I).flatten) 57, .obj b49 (((List.replicate 20 (0 : Int)).map I).flatten) 57, .obj b2 [u1] 22, .obj b1 [u0] 22], Cls w [] [.obj b57 (((List.replicate 20 (0 : Int)).map I).flatten) 57, .obj b2 [u1] 22, .obj b1 [u0] 22]] (Cls w [] [.obj b2 [u1] 22, .obj b1 [u0] 22])) 5 (by kernel_rfl) (Sc.stay (fun _ hw => hw.sel [1, 2, 3] (by decide) rfl) (Sc.stay (fun _ hw => hw.sel [1, 2] (by decide) rfl) (Sc.stayD (fun _ hw => hw)))) (Sc.now (by kernel_rfl) (fun _ hw => hw)) ?_)
        refine V2.eff (i := 3) (by kernel_rfl) rfl ?_
        obtain ⟨x58, e59, h⟩ := bind1S h
        refine L.y rfl (Y.does en26 rfl (fun w' hw => (w26_quirref_Last a1 u1 w' _ e59 (hA1.cls0 hw)).mono (fun _ _ h => h.1))) ?_
        refine L.nil (E.toV2 (stC [[6, 7], [7]] [Cls w [] [.obj b57 (((List.replicate 20 (0 : Int)).map I).flatten) 57, .obj b49 (((List.replicate 20 (0 : Int)).map I).flatten) 57, .obj b2 [u1] 22, .obj b1 [u0] 22], Cls w [] [.obj b57 (((List.replicate 20 (0 : Int)).map I).flatten) 57, .obj b2 [u1] 22, .obj b1 [u0] 22]] (Cls w [] [.obj b2 [u1] 22, .obj b1 [u0] 22])) 3 (by kernel_rfl) (Sc.stay (fun _ hw => hw) (Sc.stay (fun _ hw => hw) (Sc.stayD (fun _ hw => hw)))) (Sc.now (by kernel_rfl) (fun _ hw => hw)) ?_)
        refine V2.eff (i := 6) (by kernel_rfl) rfl ?_
        obtain ⟨_, en60, h⟩ := bind1S h
        obtain ⟨_, en60⟩ := arrN_some en60
        obtain ⟨_, en61, h⟩ := bind1S h
        obtain ⟨_, en61⟩ := arrN_some en61
        refine L.storeArW (i := 1) (row := I) (k := 1) en60 en61 rfl (fun _ => rfl) (plain_ints _) sz57 rfl rfl rfl ?_
        refine L.nil (E.toV2 (stC [[7]] [Cls w [] [.obj b57 (((List.replicate 20 (0 : Int)).map I).flatten) 57, .obj b2 [u1] 22, .obj b1 [u0] 22]] (Cls w [] [.obj b2 [u1] 22, .obj b1 [u0] 22])) 6 (by kernel_rfl) (Sc.past rfl (Sc.stay (fun _ hw => hw) (Sc.stayD (fun _ hw => hw)))) (Sc.now (by kernel_rfl) (fun _ hw => hw.sel [0, 2, 3] (by decide) rfl)) ?_)
        refine V2.eff (i := 7) (by kernel_rfl) rfl ?_
        obtain ⟨_, en62, h⟩ := bind1S h
        obtain ⟨_, en62⟩ := arrN_some en62
        obtain ⟨_, en63, h⟩ := bind1S h
        obtain ⟨_, en63⟩ := arrN_some en63
        refine L.storeArW (i := 0) (row := I) (k := 1) en62 en63 rfl (fun _ => rfl) (plain_ints _) sz57 rfl rfl rfl ?_
        refine L.nil (E.toV2 (stC [] [] (Cls w [] [.obj b2 [u1] 22, .obj b1 [u0] 22])) 7 (by kernel_rfl) (Sc.past rfl (Sc.stayD (fun _ hw => hw))) (Sc.atD (fun _ hw => hw.sel [2, 3] (by decide) rfl)) ?_)
        refine V2.done (by kernel_rfl) ?_
        exact E.joinJ ⟨b49, x33, b57, x58, rfl, rfl, h⟩ ⟨rfl, rfl, rfl, rfl, trivial⟩ (fun _ hw => hw.sel [2, 3, 1, 0] (by decide) rfl)
      ·
       refine L.alloc rfl ze57 ?_
       intro b64
       refine L.to (D := Cls w [] [.obj b64 (((List.replicate 20 (0 : Int)).map I).flatten) 57, .obj b2 [u1] 22, .obj b1 [u0] 22]) (fun _ hw => by first | exact hw | simpa [I, B, SR] using hw) ?_
       refine L.nil (E.toV2 (stC [[6, 7], [7]] [Cls w [] [.obj b64 (((List.replicate 20 (0 : Int)).map I).flatten) 57, .obj b2 [u1] 22, .obj b1 [u0] 22], Cls w [] [.obj b64 (((List.replicate 20 (0 : Int)).map I).flatten) 57, .obj b2 [u1] 22, .obj b1 [u0] 22]] (Cls w [] [.obj b2 [u1] 22, .obj b1 [u0] 22])) 5 (by kernel_rfl) (Sc.stay (fun _ hw => hw.sel [1, 2] (by decide) rfl) (Sc.stay (fun _ hw => hw.sel [1, 2] (by decide) rfl) (Sc.stayD (fun _ hw => hw)))) (Sc.now (by kernel_rfl) (fun _ hw => hw)) ?_)
       refine V2.eff2 (i1 := 3) (i2 := 4) (by kernel_rfl) rfl rfl ?_ ?_
       ·
        obtain ⟨x65, e66, h⟩ := bind1S h
        refine L.y rfl (Y.does en26 rfl (fun w' hw => (w26_quirref_Last a1 u1 w' _ e66 (hA1.cls0 hw)).mono (fun _ _ h => h.1))) ?_
        refine L.nil (E.toV2 (stC [[6, 7], [7]] [Cls w [] [.obj b64 (((List.replicate 20 (0 : Int)).map I).flatten) 57, .obj b2 [u1] 22, .obj b1 [u0] 22], Cls w [] [.obj b64 (((List.replicate 20 (0 : Int)).map I).flatten) 57, .obj b2 [u1] 22, .obj b1 [u0] 22]] (Cls w [] [.obj b2 [u1] 22, .obj b1 [u0] 22])) 3 (by kernel_rfl) (Sc.stay (fun _ hw => hw) (Sc.stay (fun _ hw => hw) (Sc.stayD (fun _ hw => hw)))) (Sc.now (by kernel_rfl) (fun _ hw => hw)) ?_)
        refine V2.eff (i := 4) (by kernel_rfl) rfl ?_
        refine L.alloc rfl ze57 ?_
        intro b67
        refine L.to (D := Cls w [] [.obj b67 (((List.replicate 20 (0 : Int)).map I).flatten) 57, .obj b64 (((List.replicate 20 (0 : Int)).map I).flatten) 57, .obj b2 [u1] 22, .obj b1 [u0] 22]) (fun _ hw => by first | exact hw | simpa [I, B, SR] using hw) ?_
        refine L.nil (E.toV2 (stC [[6, 7], [7]] [Cls w [] [.obj b67 (((List.replicate 20 (0 : Int)).map I).flatten) 57, .obj b64 (((List.replicate 20 (0 : Int)).map I).flatten) 57, .obj b2 [u1] 22, .obj b1 [u0] 22], Cls w [] [.obj b64 (((List.replicate 20 (0 : Int)).map I).flatten) 57, .obj b2 [u1] 22, .obj b1 [u0] 22]] (Cls w [] [.obj b2 [u1] 22, .obj b1 [u0] 22])) 4 (by kernel_rfl) (Sc.stay (fun _ hw => hw.sel [1, 2, 3] (by decide) rfl) (Sc.stay (fun _ hw => hw) (Sc.stayD (fun _ hw => hw)))) (Sc.now (by kernel_rfl) (fun _ hw => hw)) ?_)
        refine V2.eff (i := 6) (by kernel_rfl) rfl ?_
        obtain ⟨_, en68, h⟩ := bind1S h
        obtain ⟨_, en68⟩ := arrN_some en68
        obtain ⟨_, en69, h⟩ := bind1S h
        obtain ⟨_, en69⟩ := arrN_some en69
        refine L.storeArW (i := 0) (row := I) (k := 1) en68 en69 rfl (fun _ => rfl) (plain_ints _) sz57 rfl rfl rfl ?_
        refine L.nil (E.toV2 (stC [[7]] [Cls w [] [.obj b64 (((List.replicate 20 (0 : Int)).map I).flatten) 57, .obj b2 [u1] 22, .obj b1 [u0] 22]] (Cls w [] [.obj b2 [u1] 22, .obj b1 [u0] 22])) 6 (by kernel_rfl) (Sc.past rfl (Sc.stay (fun _ hw => hw) (Sc.stayD (fun _ hw => hw)))) (Sc.now (by kernel_rfl) (fun _ hw => hw.sel [1, 2, 3] (by decide) rfl)) ?_)
        refine V2.eff (i := 7) (by kernel_rfl) rfl ?_
        obtain ⟨_, en70, h⟩ := bind1S h
        obtain ⟨_, en70⟩ := arrN_some en70
        obtain ⟨_, en71, h⟩ := bind1S h
        obtain ⟨_, en71⟩ := arrN_some en71
        refine L.storeArW (i := 1) (row := I) (k := 1) en70 en71 rfl (fun _ => rfl) (plain_ints _) sz57 rfl rfl rfl ?_
        refine L.nil (E.toV2 (stC [] [] (Cls w [] [.obj b2 [u1] 22, .obj b1 [u0] 22])) 7 (by kernel_rfl) (Sc.past rfl (Sc.stayD (fun _ hw => hw))) (Sc.atD (fun _ hw => hw.sel [2, 3] (by decide) rfl)) ?_)
        refine V2.done (by kernel_rfl) ?_
        exact E.joinJ ⟨b67, x33, b64, x65, rfl, rfl, h⟩ ⟨rfl, rfl, rfl, rfl, trivial⟩ (fun _ hw => hw.sel [2, 3, 0, 1] (by decide) rfl)
       ·
        refine L.alloc rfl ze57 ?_
        intro b72
        refine L.to (D := Cls w [] [.obj b72 (((List.replicate 20 (0 : Int)).map I).flatten) 57, .obj b64 (((List.replicate 20 (0 : Int)).map I).flatten) 57, .obj b2 [u1] 22, .obj b1 [u0] 22]) (fun _ hw => by first | exact hw | simpa [I, B, SR] using hw) ?_
        refine L.nil (E.toV2 (stC [[6, 7], [7]] [Cls w [] [.obj b72 (((List.replicate 20 (0 : Int)).map I).flatten) 57, .obj b64 (((List.replicate 20 (0 : Int)).map I).flatten) 57, .obj b2 [u1] 22, .obj b1 [u0] 22], Cls w [] [.obj b64 (((List.replicate 20 (0 : Int)).map I).flatten) 57, .obj b2 [u1] 22, .obj b1 [u0] 22]] (Cls w [] [.obj b2 [u1] 22, .obj b1 [u0] 22])) 4 (by kernel_rfl) (Sc.stay (fun _ hw => hw.sel [1, 2, 3] (by decide) rfl) (Sc.stay (fun _ hw => hw) (Sc.stayD (fun _ hw => hw)))) (Sc.now (by kernel_rfl) (fun _ hw => hw)) ?_)
        refine V2.eff (i := 3) (by kernel_rfl) rfl ?_
        obtain ⟨x73, e74, h⟩ := bind1S h
        refine L.y rfl (Y.does en26 rfl (fun w' hw => (w26_quirref_Last a1 u1 w' _ e74 (hA1.cls0 hw)).mono (fun _ _ h => h.1))) ?_
        refine L.nil (E.toV2 (stC [[6, 7], [7]] [Cls w [] [.obj b72 (((List.replicate 20 (0 : Int)).map I).flatten) 57, .obj b64 (((List.replicate 20 (0 : Int)).map I).flatten) 57, .obj b2 [u1] 22, .obj b1 [u0] 22], Cls w [] [.obj b64 (((List.replicate 20 (0 : Int)).map I).flatten) 57, .obj b2 [u1] 22, .obj b1 [u0] 22]] (Cls w [] [.obj b2 [u1] 22, .obj b1 [u0] 22])) 3 (by kernel_rfl) (Sc.stay (fun _ hw => hw) (Sc.stay (fun _ hw => hw) (Sc.stayD (fun _ hw => hw)))) (Sc.now (by kernel_rfl) (fun _ hw => hw)) ?_)
        refine V2.eff (i := 6) (by kernel_rfl) rfl ?_
        obtain ⟨_, en75, h⟩ := bind1S h
        obtain ⟨_, en75⟩ := arrN_some en75
        obtain ⟨_, en76, h⟩ := bind1S h
        obtain ⟨_, en76⟩ := arrN_some en76
        refine L.storeArW (i := 0) (row := I) (k := 1) en75 en76 rfl (fun _ => rfl) (plain_ints _) sz57 rfl rfl rfl ?_
        refine L.nil (E.toV2 (stC [[7]] [Cls w [] [.obj b64 (((List.replicate 20 (0 : Int)).map I).flatten) 57, .obj b2 [u1] 22, .obj b1 [u0] 22]] (Cls w [] [.obj b2 [u1] 22, .obj b1 [u0] 22])) 6 (by kernel_rfl) (Sc.past rfl (Sc.stay (fun _ hw => hw) (Sc.stayD (fun _ hw => hw)))) (Sc.now (by kernel_rfl) (fun _ hw => hw.sel [1, 2, 3] (by decide) rfl)) ?_)
        refine V2.eff (i := 7) (by kernel_rfl) rfl ?_
        obtain ⟨_, en77, h⟩ := bind1S h
        obtain ⟨_, en77⟩ := arrN_some en77
        obtain ⟨_, en78, h⟩ := bind1S h
        obtain ⟨_, en78⟩ := arrN_some en78
        refine L.storeArW (i := 1) (row := I) (k := 1) en77 en78 rfl (fun _ => rfl) (plain_ints _) sz57 rfl rfl rfl ?_
        refine L.nil (E.toV2 (stC [] [] (Cls w [] [.obj b2 [u1] 22, .obj b1 [u0] 22])) 7 (by kernel_rfl) (Sc.past rfl (Sc.stayD (fun _ hw => hw))) (Sc.atD (fun _ hw => hw.sel [2, 3] (by decide) rfl)) ?_)
        refine V2.done (by kernel_rfl) ?_
        exact E.joinJ ⟨b72, x33, b64, x73, rfl, rfl, h⟩ ⟨rfl, rfl, rfl, rfl, trivial⟩ (fun _ hw => hw.sel [2, 3, 0, 1] (by decide) rfl)
     ·
      refine L.alloc rfl ze57 ?_
      intro b79
      refine L.to (D := Cls w [] [.obj b79 (((List.replicate 20 (0 : Int)).map I).flatten) 57, .obj b2 [u1] 22, .obj b1 [u0] 22]) (fun _ hw => by first | exact hw | simpa [I, B, SR] using hw) ?_
      refine L.nil (E.toV2 (stC [[6, 7], [7]] [Cls w [] [.obj b79 (((List.replicate 20 (0 : Int)).map I).flatten) 57, .obj b2 [u1] 22, .obj b1 [u0] 22], Cls w [] [.obj b2 [u1] 22, .obj b1 [u0] 22]] (Cls w [] [.obj b2 [u1] 22, .obj b1 [u0] 22])) 4 (by kernel_rfl) (Sc.stay (fun _ hw => hw.sel [1, 2] (by decide) rfl) (Sc.stay (fun _ hw => hw) (Sc.stayD (fun _ hw => hw)))) (Sc.now (by kernel_rfl) (fun _ hw => hw)) ?_)
      refine V2.eff2 (i1 := 1) (i2 := 5) (by kernel_rfl) rfl rfl ?_ ?_
      ·
       obtain ⟨x80, e81, h⟩ := bind1S h
       refine L.y rfl (Y.does en26 rfl (fun w' hw => (w26_quirref_Last a0 u0 w' _ e81 (hA0.cls0 hw)).mono (fun _ _ h => h.1))) ?_
       refine L.nil (E.toV2 (stC [[6, 7], [7]] [Cls w [] [.obj b79 (((List.replicate 20 (0 : Int)).map I).flatten) 57, .obj b2 [u1] 22, .obj b1 [u0] 22], Cls w [] [.obj b2 [u1] 22, .obj b1 [u0] 22]] (Cls w [] [.obj b2 [u1] 22, .obj b1 [u0] 22])) 1 (by kernel_rfl) (Sc.stay (fun _ hw => hw) (Sc.stay (fun _ hw => hw) (Sc.stayD (fun _ hw => hw)))) (Sc.now (by kernel_rfl) (fun _ hw => hw)) ?_)
       refine V2.eff2 (i1 := 3) (i2 := 5) (by kernel_rfl) rfl rfl ?_ ?_
       ·
        obtain ⟨x82, e83, h⟩ := bind1S h
        refine L.y rfl (Y.does en26 rfl (fun w' hw => (w26_quirref_Last a1 u1 w' _ e83 (hA1.cls0 hw)).mono (fun _ _ h => h.1))) ?_
        refine L.nil (E.toV2 (stC [[6, 7], [7]] [Cls w [] [.obj b79 (((List.replicate 20 (0 : Int)).map I).flatten) 57, .obj b2 [u1] 22, .obj b1 [u0] 22], Cls w [] [.obj b2 [u1] 22, .obj b1 [u0] 22]] (Cls w [] [.obj b2 [u1] 22, .obj b1 [u0] 22])) 3 (by kernel_rfl) (Sc.stay (fun _ hw => hw) (Sc.stay (fun _ hw => hw) (Sc.stayD (fun _ hw => hw)))) (Sc.now (by kernel_rfl) (fun _ hw => hw)) ?_)
        refine V2.eff (i := 5) (by kernel_rfl) rfl ?_
        refine L.alloc rfl ze57 ?_
        intro b84
        refine L.to (D := Cls w [] [.obj b84 (((List.replicate 20 (0 : Int)).map I).flatten) 57, .obj b79 (((List.replicate 20 (0 : Int)).map I).flatten) 57, .obj b2 [u1] 22, .obj b1 [u0] 22]) (fun _ hw => by first | exact hw | simpa [I, B, SR] using hw) ?_
        refine L.nil (E.toV2 (stC [[6, 7], [7]] [Cls w [] [.obj b84 (((List.replicate 20 (0 : Int)).map I).flatten) 57, .obj b79 (((List.replicate 20 (0 : Int)).map I).flatten) 57, .obj b2 [u1] 22, .obj b1 [u0] 22], Cls w [] [.obj b84 (((List.replicate 20 (0 : Int)).map I).flatten) 57, .obj b2 [u1] 22, .obj b1 [u0] 22]] (Cls w [] [.obj b2 [u1] 22, .obj b1 [u0] 22])) 5 (by kernel_rfl) (Sc.stay (fun _ hw => hw.sel [1, 2, 3] (by decide) rfl) (Sc.stay (fun _ hw => hw.sel [1, 2] (by decide) rfl) (Sc.stayD (fun _ hw => hw)))) (Sc.now (by kernel_rfl) (fun _ hw => hw)) ?_)
        refine V2.eff (i := 6) (by kernel_rfl) rfl ?_
        obtain ⟨_, en85, h⟩ := bind1S h
        obtain ⟨_, en85⟩ := arrN_some en85
        obtain ⟨_, en86, h⟩ := bind1S h
        obtain ⟨_, en86⟩ := arrN_some en86
        refine L.storeArW (i := 1) (row := I) (k := 1) en85 en86 rfl (fun _ => rfl) (plain_ints _) sz57 rfl rfl rfl ?_
        refine L.nil (E.toV2 (stC [[7]] [Cls w [] [.obj b84 (((List.replicate 20 (0 : Int)).map I).flatten) 57, .obj b2 [u1] 22, .obj b1 [u0] 22]] (Cls w [] [.obj b2 [u1] 22, .obj b1 [u0] 22])) 6 (by kernel_rfl) (Sc.past rfl (Sc.stay (fun _ hw => hw) (Sc.stayD (fun _ hw => hw)))) (Sc.now (by kernel_rfl) (fun _ hw => hw.sel [0, 2, 3] (by decide) rfl)) ?_)
        refine V2.eff (i := 7) (by kernel_rfl) rfl ?_
        obtain ⟨_, en87, h⟩ := bind1S h
        obtain ⟨_, en87⟩ := arrN_some en87
        obtain ⟨_, en88, h⟩ := bind1S h
        obtain ⟨_, en88⟩ := arrN_some en88
        refine L.storeArW (i := 0) (row := I) (k := 1) en87 en88 rfl (fun _ => rfl) (plain_ints _) sz57 rfl rfl rfl ?_
        refine L.nil (E.toV2 (stC [] [] (Cls w [] [.obj b2 [u1] 22, .obj b1 [u0] 22])) 7 (by kernel_rfl) (Sc.past rfl (Sc.stayD (fun _ hw => hw))) (Sc.atD (fun _ hw => hw.sel [2, 3] (by decide) rfl)) ?_)
        refine V2.done (by kernel_rfl) ?_
        exact E.joinJ ⟨b79, x80, b84, x82, rfl, rfl, h⟩ ⟨rfl, rfl, rfl, rfl, trivial⟩ (fun _ hw => hw.sel [2, 3, 1, 0] (by decide) rfl)
       ·
        refine L.alloc rfl ze57 ?_
        intro b89
        refine L.to (D := Cls w [] [.obj b89 (((List.replicate 20 (0 : Int)).map I).flatten) 57, .obj b79 (((List.replicate 20 (0 : Int)).map I).flatten) 57, .obj b2 [u1] 22, .obj b1 [u0] 22]) (fun _ hw => by first | exact hw | simpa [I, B, SR] using hw) ?_
        refine L.nil (E.toV2 (stC [[6, 7], [7]] [Cls w [] [.obj b89 (((List.replicate 20 (0 : Int)).map I).flatten) 57, .obj b79 (((List.replicate 20 (0 : Int)).map I).flatten) 57, .obj b2 [u1] 22, .obj b1 [u0] 22], Cls w [] [.obj b89 (((List.replicate 20 (0 : Int)).map I).flatten) 57, .obj b2 [u1] 22, .obj b1 [u0] 22]] (Cls w [] [.obj b2 [u1] 22, .obj b1 [u0] 22])) 5 (by kernel_rfl) (Sc.stay (fun _ hw => hw.sel [1, 2, 3] (by decide) rfl) (Sc.stay (fun _ hw => hw.sel [1, 2] (by decide) rfl) (Sc.stayD (fun _ hw => hw)))) (Sc.now (by kernel_rfl) (fun _ hw => hw)) ?_)
        refine V2.eff (i := 3) (by kernel_rfl) rfl ?_
        obtain ⟨x90, e91, h⟩ := bind1S h
        refine L.y rfl (Y.does en26 rfl (fun w' hw => (w26_quirref_Last a1 u1 w' _ e91 (hA1.cls0 hw)).mono (fun _ _ h => h.1))) ?_
        refine L.nil (E.toV2 (stC [[6, 7], [7]] [Cls w [] [.obj b89 (((List.replicate 20 (0 : Int)).map I).flatten) 57, .obj b79 (((List.replicate 20 (0 : Int)).map I).flatten) 57, .obj b2 [u1] 22, .obj b1 [u0] 22], Cls w [] [.obj b89 (((List.replicate 20 (0 : Int)).map I).flatten) 57, .obj b2 [u1] 22, .obj b1 [u0] 22]] (Cls w [] [.obj b2 [u1] 22, .obj b1 [u0] 22])) 3 (by kernel_rfl) (Sc.stay (fun _ hw => hw) (Sc.stay (fun _ hw => hw) (Sc.stayD (fun _ hw => hw)))) (Sc.now (by kernel_rfl) (fun _ hw => hw)) ?_)
        refine V2.eff (i := 6) (by kernel_rfl) rfl ?_
        obtain ⟨_, en92, h⟩ := bind1S h
        obtain ⟨_, en92⟩ := arrN_some en92
        obtain ⟨_, en93, h⟩ := bind1S h
        obtain ⟨_, en93⟩ := arrN_some en93
        refine L.storeArW (i := 1) (row := I) (k := 1) en92 en93 rfl (fun _ => rfl) (plain_ints _) sz57 rfl rfl rfl ?_
        refine L.nil (E.toV2 (stC [[7]] [Cls w [] [.obj b89 (((List.replicate 20 (0 : Int)).map I).flatten) 57, .obj b2 [u1] 22, .obj b1 [u0] 22]] (Cls w [] [.obj b2 [u1] 22, .obj b1 [u0] 22])) 6 (by kernel_rfl) (Sc.past rfl (Sc.stay (fun _ hw => hw) (Sc.stayD (fun _ hw => hw)))) (Sc.now (by kernel_rfl) (fun _ hw => hw.sel [0, 2, 3] (by decide) rfl)) ?_)
        refine V2.eff (i := 7) (by kernel_rfl) rfl ?_
        obtain ⟨_, en94, h⟩ := bind1S h
        obtain ⟨_, en94⟩ := arrN_some en94
        obtain ⟨_, en95, h⟩ := bind1S h
        obtain ⟨_, en95⟩ := arrN_some en95
        refine L.storeArW (i := 0) (row := I) (k := 1) en94 en95 rfl (fun _ => rfl) (plain_ints _) sz57 rfl rfl rfl ?_
        refine L.nil (E.toV2 (stC [] [] (Cls w [] [.obj b2 [u1] 22, .obj b1 [u0] 22])) 7 (by kernel_rfl) (Sc.past rfl (Sc.stayD (fun _ hw => hw))) (Sc.atD (fun _ hw => hw.sel [2, 3] (by decide) rfl)) ?_)
        refine V2.done (by kernel_rfl) ?_
        exact E.joinJ ⟨b79, x80, b89, x90, rfl, rfl, h⟩ ⟨rfl, rfl, rfl, rfl, trivial⟩ (fun _ hw => hw.sel [2, 3, 1, 0] (by decide) rfl)
      ·
       refine L.alloc rfl ze57 ?_
       intro b96
       refine L.to (D := Cls w [] [.obj b96 (((List.replicate 20 (0 : Int)).map I).flatten) 57, .obj b79 (((List.replicate 20 (0 : Int)).map I).flatten) 57, .obj b2 [u1] 22, .obj b1 [u0] 22]) (fun _ hw => by first | exact hw | simpa [I, B, SR] using hw) ?_
       refine L.nil (E.toV2 (stC [[6, 7], [7]] [Cls w [] [.obj b96 (((List.replicate 20 (0 : Int)).map I).flatten) 57, .obj b79 (((List.replicate 20 (0 : Int)).map I).flatten) 57, .obj b2 [u1] 22, .obj b1 [u0] 22], Cls w [] [.obj b96 (((List.replicate 20 (0 : Int)).map I).flatten) 57, .obj b2 [u1] 22, .obj b1 [u0] 22]] (Cls w [] [.obj b2 [u1] 22, .obj b1 [u0] 22])) 5 (by kernel_rfl) (Sc.stay (fun _ hw => hw.sel [1, 2, 3] (by decide) rfl) (Sc.stay (fun _ hw => hw.sel [1, 2] (by decide) rfl) (Sc.stayD (fun _ hw => hw)))) (Sc.now (by kernel_rfl) (fun _ hw => hw)) ?_)
       refine V2.eff (i := 1) (by kernel_rfl) rfl ?_
       obtain ⟨x97, e98, h⟩ := bind1S h
       refine L.y rfl (Y.does en26 rfl (fun w' hw => (w26_quirref_Last a0 u0 w' _ e98 (hA0.cls0 hw)).mono (fun _ _ h => h.1))) ?_
       refine L.nil (E.toV2 (stC [[6, 7], [7]] [Cls w [] [.obj b96 (((List.replicate 20 (0 : Int)).map I).flatten) 57, .obj b79 (((List.replicate 20 (0 : Int)).map I).flatten) 57, .obj b2 [u1] 22, .obj b1 [u0] 22], Cls w [] [.obj b96 (((List.replicate 20 (0 : Int)).map I).flatten) 57, .obj b2 [u1] 22, .obj b1 [u0] 22]] (Cls w [] [.obj b2 [u1] 22, .obj b1 [u0] 22])) 1 (by kernel_rfl) (Sc.stay (fun _ hw => hw) (Sc.stay (fun _ hw => hw) (Sc.stayD (fun _ hw => hw)))) (Sc.now (by kernel_rfl) (fun _ hw => hw)) ?_)
       refine V2.eff (i := 3) (by kernel_rfl) rfl ?_
       obtain ⟨x99, e100, h⟩ := bind1S h
       refine L.y rfl (Y.does en26 rfl (fun w' hw => (w26_quirref_Last a1 u1 w' _ e100 (hA1.cls0 hw)).mono (fun _ _ h => h.1))) ?_
       refine L.nil (E.toV2 (stC [[6, 7], [7]] [Cls w [] [.obj b96 (((List.replicate 20 (0 : Int)).map I).flatten) 57, .obj b79 (((List.replicate 20 (0 : Int)).map I).flatten) 57, .obj b2 [u1] 22, .obj b1 [u0] 22], Cls w [] [.obj b96 (((List.replicate 20 (0 : Int)).map I).flatten) 57, .obj b2 [u1] 22, .obj b1 [u0] 22]] (Cls w [] [.obj b2 [u1] 22, .obj b1 [u0] 22])) 3 (by kernel_rfl) (Sc.stay (fun _ hw => hw) (Sc.stay (fun _ hw => hw) (Sc.stayD (fun _ hw => hw)))) (Sc.now (by kernel_rfl) (fun _ hw => hw)) ?_)
       refine V2.eff (i := 6) (by kernel_rfl) rfl ?_
       obtain ⟨_, en101, h⟩ := bind1S h
       obtain ⟨_, en101⟩ := arrN_some en101
       obtain ⟨_, en102, h⟩ := bind1S h
       obtain ⟨_, en102⟩ := arrN_some en102
       refine L.storeArW (i := 1) (row := I) (k := 1) en101 en102 rfl (fun _ => rfl) (plain_ints _) sz57 rfl rfl rfl ?_
       refine L.nil (E.toV2 (stC [[7]] [Cls w [] [.obj b96 (((List.replicate 20 (0 : Int)).map I).flatten) 57, .obj b2 [u1] 22, .obj b1 [u0] 22]] (Cls w [] [.obj b2 [u1] 22, .obj b1 [u0] 22])) 6 (by kernel_rfl) (Sc.past rfl (Sc.stay (fun _ hw => hw) (Sc.stayD (fun _ hw => hw)))) (Sc.now (by kernel_rfl) (fun _ hw => hw.sel [0, 2, 3] (by decide) rfl)) ?_)
       refine V2.eff (i := 7) (by kernel_rfl) rfl ?_
       obtain ⟨_, en103, h⟩ := bind1S h
       obtain ⟨_, en103⟩ := arrN_some en103
       obtain ⟨_, en104, h⟩ := bind1S h
       obtain ⟨_, en104⟩ := arrN_some en104
       refine L.storeArW (i := 0) (row := I) (k := 1) en103 en104 rfl (fun _ => rfl) (plain_ints _) sz57 rfl rfl rfl ?_
       refine L.nil (E.toV2 (stC [] [] (Cls w [] [.obj b2 [u1] 22, .obj b1 [u0] 22])) 7 (by kernel_rfl) (Sc.past rfl (Sc.stayD (fun _ hw => hw))) (Sc.atD (fun _ hw => hw.sel [2, 3] (by decide) rfl)) ?_)
       refine V2.done (by kernel_rfl) ?_
       exact E.joinJ ⟨b79, x97, b96, x99, rfl, rfl, h⟩ ⟨rfl, rfl, rfl, rfl, trivial⟩ (fun _ hw => hw.sel [2, 3, 1, 0] (by decide) rfl)
     ·
      refine L.alloc rfl ze57 ?_
      intro b105
      refine L.to (D := Cls w [] [.obj b105 (((List.replicate 20 (0 : Int)).map I).flatten) 57, .obj b2 [u1] 22, .obj b1 [u0] 22]) (fun _ hw => by first | exact hw | simpa [I, B, SR] using hw) ?_
      refine L.nil (E.toV2 (stC [[6, 7], [7]] [Cls w [] [.obj b105 (((List.replicate 20 (0 : Int)).map I).flatten) 57, .obj b2 [u1] 22, .obj b1 [u0] 22], Cls w [] [.obj b105 (((List.replicate 20 (0 : Int)).map I).flatten) 57, .obj b2 [u1] 22, .obj b1 [u0] 22]] (Cls w [] [.obj b2 [u1] 22, .obj b1 [u0] 22])) 5 (by kernel_rfl) (Sc.stay (fun _ hw => hw.sel [1, 2] (by decide) rfl) (Sc.stay (fun _ hw => hw.sel [1, 2] (by decide) rfl) (Sc.stayD (fun _ hw => hw)))) (Sc.now (by kernel_rfl) (fun _ hw => hw)) ?_)
      refine V2.eff2 (i1 := 1) (i2 := 4) (by kernel_rfl) rfl rfl ?_ ?_
      ·
       obtain ⟨x106, e107, h⟩ := bind1S h
       refine L.y rfl (Y.does en26 rfl (fun w' hw => (w26_quirref_Last a0 u0 w' _ e107 (hA0.cls0 hw)).mono (fun _ _ h => h.1))) ?_
       refine L.nil (E.toV2 (stC [[6, 7], [7]] [Cls w [] [.obj b105 (((List.replicate 20 (0 : Int)).map I).flatten) 57, .obj b2 [u1] 22, .obj b1 [u0] 22], Cls w [] [.obj b105 (((List.replicate 20 (0 : Int)).map I).flatten) 57, .obj b2 [u1] 22, .obj b1 [u0] 22]] (Cls w [] [.obj b2 [u1] 22, .obj b1 [u0] 22])) 1 (by kernel_rfl) (Sc.stay (fun _ hw => hw) (Sc.stay (fun _ hw => hw) (Sc.stayD (fun _ hw => hw)))) (Sc.now (by kernel_rfl) (fun _ hw => hw)) ?_)
       refine V2.eff2 (i1 := 3) (i2 := 4) (by kernel_rfl) rfl rfl ?_ ?_
       ·
        obtain ⟨x108, e109, h⟩ := bind1S h
        refine L.y rfl (Y.does en26 rfl (fun w' hw => (w26_quirref_Last a1 u1 w' _ e109 (hA1.cls0 hw)).mono (fun _ _ h => h.1))) ?_
        refine L.nil (E.toV2 (stC [[6, 7], [7]] [Cls w [] [.obj b105 (((List.replicate 20 (0 : Int)).map I).flatten) 57, .obj b2 [u1] 22, .obj b1 [u0] 22], Cls w [] [.obj b105 (((List.replicate 20 (0 : Int)).map I).flatten) 57, .obj b2 [u1] 22, .obj b1 [u0] 22]] (Cls w [] [.obj b2 [u1] 22, .obj b1 [u0] 22])) 3 (by kernel_rfl) (Sc.stay (fun _ hw => hw) (Sc.stay (fun _ hw => hw) (Sc.stayD (fun _ hw => hw)))) (Sc.now (by kernel_rfl) (fun _ hw => hw)) ?_)
        refine V2.eff (i := 4) (by kernel_rfl) rfl ?_
        refine L.alloc rfl ze57 ?_
        intro b110
        refine L.to (D := Cls w [] [.obj b110 (((List.replicate 20 (0 : Int)).map I).flatten) 57, .obj b105 (((List.replicate 20 (0 : Int)).map I).flatten) 57, .obj b2 [u1] 22, .obj b1 [u0] 22]) (fun _ hw => by first | exact hw | simpa [I, B, SR] using hw) ?_
        refine L.nil (E.toV2 (stC [[6, 7], [7]] [Cls w [] [.obj b110 (((List.replicate 20 (0 : Int)).map I).flatten) 57, .obj b105 (((List.replicate 20 (0 : Int)).map I).flatten) 57, .obj b2 [u1] 22, .obj b1 [u0] 22], Cls w [] [.obj b105 (((List.replicate 20 (0 : Int)).map I).flatten) 57, .obj b2 [u1] 22, .obj b1 [u0] 22]] (Cls w [] [.obj b2 [u1] 22, .obj b1 [u0] 22])) 4 (by kernel_rfl) (Sc.stay (fun _ hw => hw.sel [1, 2, 3] (by decide) rfl) (Sc.stay (fun _ hw => hw) (Sc.stayD (fun _ hw => hw)))) (Sc.now (by kernel_rfl) (fun _ hw => hw)) ?_)
        refine V2.eff (i := 6) (by kernel_rfl) rfl ?_
        obtain ⟨_, en111, h⟩ := bind1S h
        obtain ⟨_, en111⟩ := arrN_some en111
        obtain ⟨_, en112, h⟩ := bind1S h
        obtain ⟨_, en112⟩ := arrN_some en112
        refine L.storeArW (i := 0) (row := I) (k := 1) en111 en112 rfl (fun _ => rfl) (plain_ints _) sz57 rfl rfl rfl ?_
        refine L.nil (E.toV2 (stC [[7]] [Cls w [] [.obj b105 (((List.replicate 20 (0 : Int)).map I).flatten) 57, .obj b2 [u1] 22, .obj b1 [u0] 22]] (Cls w [] [.obj b2 [u1] 22, .obj b1 [u0] 22])) 6 (by kernel_rfl) (Sc.past rfl (Sc.stay (fun _ hw => hw) (Sc.stayD (fun _ hw => hw)))) (Sc.now (by kernel_rfl) (fun _ hw => hw.sel [1, 2, 3] (by decide) rfl)) ?_)
        refine V2.eff (i := 7) (by kernel_rfl) rfl ?_
        obtain ⟨_, en113, h⟩ := bind1S h
        obtain ⟨_, en113⟩ := arrN_some en113
        obtain ⟨_, en114, h⟩ := bind1S h
        obtain ⟨_, en114⟩ := arrN_some en114
        refine L.storeArW (i := 1) (row := I) (k := 1) en113 en114 rfl (fun _ => rfl) (plain_ints _) sz57 rfl rfl rfl ?_
        refine L.nil (E.toV2 (stC [] [] (Cls w [] [.obj b2 [u1] 22, .obj b1 [u0] 22])) 7 (by kernel_rfl) (Sc.past rfl (Sc.stayD (fun _ hw => hw))) (Sc.atD (fun _ hw => hw.sel [2, 3] (by decide) rfl)) ?_)
        refine V2.done (by kernel_rfl) ?_
        exact E.joinJ ⟨b110, x106, b105, x108, rfl, rfl, h⟩ ⟨rfl, rfl, rfl, rfl, trivial⟩ (fun _ hw => hw.sel [2, 3, 0, 1] (by decide) rfl)
       ·
        refine L.alloc rfl ze57 ?_
        intro b115
        refine L.to (D := Cls w [] [.obj b115 (((List.replicate 20 (0 : Int)).map I).flatten) 57, .obj b105 (((List.replicate 20 (0 : Int)).map I).flatten) 57, .obj b2 [u1] 22, .obj b1 [u0] 22]) (fun _ hw => by first | exact hw | simpa [I, B, SR] using hw) ?_
        refine L.nil (E.toV2 (stC [[6, 7], [7]] [Cls w [] [.obj b115 (((List.replicate 20 (0 : Int)).map I).flatten) 57, .obj b105 (((List.replicate 20 (0 : Int)).map I).flatten) 57, .obj b2 [u1] 22, .obj b1 [u0] 22], Cls w [] [.obj b105 (((List.replicate 20 (0 : Int)).map I).flatten) 57, .obj b2 [u1] 22, .obj b1 [u0] 22]] (Cls w [] [.obj b2 [u1] 22, .obj b1 [u0] 22])) 4 (by kernel_rfl) (Sc.stay (fun _ hw => hw.sel [1, 2, 3] (by decide) rfl) (Sc.stay (fun _ hw => hw) (Sc.stayD (fun _ hw => hw)))) (Sc.now (by kernel_rfl) (fun _ hw => hw)) ?_)
        refine V2.eff (i := 3) (by kernel_rfl) rfl ?_
        obtain ⟨x116, e117, h⟩ := bind1S h
        refine L.y rfl (Y.does en26 rfl (fun w' hw => (w26_quirref_Last a1 u1 w' _ e117 (hA1.cls0 hw)).mono (fun _ _ h => h.1))) ?_
        refine L.nil (E.toV2 (stC [[6, 7], [7]] [Cls w [] [.obj b115 (((List.replicate 20 (0 : Int)).map I).flatten) 57, .obj b105 (((List.replicate 20 (0 : Int)).map I).flatten) 57, .obj b2 [u1] 22, .obj b1 [u0] 22], Cls w [] [.obj b105 (((List.replicate 20 (0 : Int)).map I).flatten) 57, .obj b2 [u1] 22, .obj b1 [u0] 22]] (Cls w [] [.obj b2 [u1] 22, .obj b1 [u0] 22])) 3 (by kernel_rfl) (Sc.stay (fun _ hw => hw) (Sc.stay (fun _ hw => hw) (Sc.stayD (fun _ hw => hw)))) (Sc.now (by kernel_rfl) (fun _ hw => hw)) ?_)
        refine V2.eff (i := 6) (by kernel_rfl) rfl ?_
        obtain ⟨_, en118, h⟩ := bind1S h
        obtain ⟨_, en118⟩ := arrN_some en118
        obtain ⟨_, en119, h⟩ := bind1S h
        obtain ⟨_, en119⟩ := arrN_some en119
        refine L.storeArW (i := 0) (row := I) (k := 1) en118 en119 rfl (fun _ => rfl) (plain_ints _) sz57 rfl rfl rfl ?_
        refine L.nil (E.toV2 (stC [[7]] [Cls w [] [.obj b105 (((List.replicate 20 (0 : Int)).map I).flatten) 57, .obj b2 [u1] 22, .obj b1 [u0] 22]] (Cls w [] [.obj b2 [u1] 22, .obj b1 [u0] 22])) 6 (by kernel_rfl) (Sc.past rfl (Sc.stay (fun _ hw => hw) (Sc.stayD (fun _ hw => hw)))) (Sc.now (by kernel_rfl) (fun _ hw => hw.sel [1, 2, 3] (by decide) rfl)) ?_)
        refine V2.eff (i := 7) (by kernel_rfl) rfl ?_
        obtain ⟨_, en120, h⟩ := bind1S h
        obtain ⟨_, en120⟩ := arrN_some en120
        obtain ⟨_, en121, h⟩ := bind1S h
        obtain ⟨_, en121⟩ := arrN_some en121
        refine L.storeArW (i := 1) (row := I) (k := 1) en120 en121 rfl (fun _ => rfl) (plain_ints _) sz57 rfl rfl rfl ?_
        refine L.nil (E.toV2 (stC [] [] (Cls w [] [.obj b2 [u1] 22, .obj b1 [u0] 22])) 7 (by kernel_rfl) (Sc.past rfl (Sc.stayD (fun _ hw => hw))) (Sc.atD (fun _ hw => hw.sel [2, 3] (by decide) rfl)) ?_)
        refine V2.done (by kernel_rfl) ?_
        exact E.joinJ ⟨b115, x106, b105, x116, rfl, rfl, h⟩ ⟨rfl, rfl, rfl, rfl, trivial⟩ (fun _ hw => hw.sel [2, 3, 0, 1] (by decide) rfl)
      ·
       refine L.alloc rfl ze57 ?_
       intro b122
       refine L.to (D := Cls w [] [.obj b122 (((List.replicate 20 (0 : Int)).map I).flatten) 57, .obj b105 (((List.replicate 20 (0 : Int)).map I).flatten) 57, .obj b2 [u1] 22, .obj b1 [u0] 22]) (fun _ hw => by first | exact hw | simpa [I, B, SR] using hw) ?_
       refine L.nil (E.toV2 (stC [[6, 7], [7]] [Cls w [] [.obj b122 (((List.replicate 20 (0 : Int)).map I).flatten) 57, .obj b105 (((List.replicate 20 (0 : Int)).map I).flatten) 57, .obj b2 [u1] 22, .obj b1 [u0] 22], Cls w [] [.obj b105 (((List.replicate 20 (0 : Int)).map I).flatten) 57, .obj b2 [u1] 22, .obj b1 [u0] 22]] (Cls w [] [.obj b2 [u1] 22, .obj b1 [u0] 22])) 4 (by kernel_rfl) (Sc.stay (fun _ hw => hw.sel [1, 2, 3] (by decide) rfl) (Sc.stay (fun _ hw => hw) (Sc.stayD (fun _ hw => hw)))) (Sc.now (by kernel_rfl) (fun _ hw => hw)) ?_)
       refine V2.eff (i := 1) (by kernel_rfl) rfl ?_
       obtain ⟨x123, e124, h⟩ := bind1S h
       refine L.y rfl (Y.does en26 rfl (fun w' hw => (w26_quirref_Last a0 u0 w' _ e124 (hA0.cls0 hw)).mono (fun _ _ h => h.1))) ?_
       refine L.nil (E.toV2 (stC [[6, 7], [7]] [Cls w [] [.obj b122 (((List.replicate 20 (0 : Int)).map I).flatten) 57, .obj b105 (((List.replicate 20 (0 : Int)).map I).flatten) 57, .obj b2 [u1] 22, .obj b1 [u0] 22], Cls w [] [.obj b105 (((List.replicate 20 (0 : Int)).map I).flatten) 57, .obj b2 [u1] 22, .obj b1 [u0] 22]] (Cls w [] [.obj b2 [u1] 22, .obj b1 [u0] 22])) 1 (by kernel_rfl) (Sc.stay (fun _ hw => hw) (Sc.stay (fun _ hw => hw) (Sc.stayD (fun _ hw => hw)))) (Sc.now (by kernel_rfl) (fun _ hw => hw)) ?_)
       refine V2.eff (i := 3) (by kernel_rfl) rfl ?_
       obtain ⟨x125, e126, h⟩ := bind1S h
       refine L.y rfl (Y.does en26 rfl (fun w' hw => (w26_quirref_Last a1 u1 w' _ e126 (hA1.cls0 hw)).mono (fun _ _ h => h.1))) ?_
       refine L.nil (E.toV2 (stC [[6, 7], [7]] [Cls w [] [.obj b122 (((List.replicate 20 (0 : Int)).map I).flatten) 57, .obj b105 (((List.replicate 20 (0 : Int)).map I).flatten) 57, .obj b2 [u1] 22, .obj b1 [u0] 22], Cls w [] [.obj b105 (((List.replicate 20 (0 : Int)).map I).flatten) 57, .obj b2 [u1] 22, .obj b1 [u0] 22]] (Cls w [] [.obj b2 [u1] 22, .obj b1 [u0] 22])) 3 (by kernel_rfl) (Sc.stay (fun _ hw => hw) (Sc.stay (fun _ hw => hw) (Sc.stayD (fun _ hw => hw)))) (Sc.now (by kernel_rfl) (fun _ hw => hw)) ?_)
       refine V2.eff (i := 6) (by kernel_rfl) rfl ?_
       obtain ⟨_, en127, h⟩ := bind1S h
       obtain ⟨_, en127⟩ := arrN_some en127
       obtain ⟨_, en128, h⟩ := bind1S h
       obtain ⟨_, en128⟩ := arrN_some en128
       refine L.storeArW (i := 0) (row := I) (k := 1) en127 en128 rfl (fun _ => rfl) (plain_ints _) sz57 rfl rfl rfl ?_
       refine L.nil (E.toV2 (stC [[7]] [Cls w [] [.obj b105 (((List.replicate 20 (0 : Int)).map I).flatten) 57, .obj b2 [u1] 22, .obj b1 [u0] 22]] (Cls w [] [.obj b2 [u1] 22, .obj b1 [u0] 22])) 6 (by kernel_rfl) (Sc.past rfl (Sc.stay (fun _ hw => hw) (Sc.stayD (fun _ hw => hw)))) (Sc.now (by kernel_rfl) (fun _ hw => hw.sel [1, 2, 3] (by decide) rfl)) ?_)
       refine V2.eff (i := 7) (by kernel_rfl) rfl ?_
       obtain ⟨_, en129, h⟩ := bind1S h
       obtain ⟨_, en129⟩ := arrN_some en129
       obtain ⟨_, en130, h⟩ := bind1S h
       obtain ⟨_, en130⟩ := arrN_some en130
       refine L.storeArW (i := 1) (row := I) (k := 1) en129 en130 rfl (fun _ => rfl) (plain_ints _) sz57 rfl rfl rfl ?_
       refine L.nil (E.toV2 (stC [] [] (Cls w [] [.obj b2 [u1] 22, .obj b1 [u0] 22])) 7 (by kernel_rfl) (Sc.past rfl (Sc.stayD (fun _ hw => hw))) (Sc.atD (fun _ hw => hw.sel [2, 3] (by decide) rfl)) ?_)
       refine V2.done (by kernel_rfl) ?_
       exact E.joinJ ⟨b122, x123, b105, x125, rfl, rfl, h⟩ ⟨rfl, rfl, rfl, rfl, trivial⟩ (fun _ hw => hw.sel [2, 3, 0, 1] (by decide) rfl)
    ·
     rintro _ _ ⟨gb1, gl2, gb3, gl4, rfl, rfl, h⟩
     rw [m9_quirref_Alike_K3] at h
     refine W.seqJ (fun gs D => gs = [] ∧ D = Cls w [] [] ∧ m9_quirref_Alike_K4 = some r) ?_ ?_
     ·
      refine W.seq (W.region (L.y rfl (Y.move rfl) ?_))
      refine L.nil (E.thenN (W.block (W.loopJ (fun m gs D => ∃ (gx5 : Int), gs = [(2, pt b1 0), (3, pt b2 0), (10, pt gb1 0), (11, pt gb3 0), (51, .int .i64 gx5)] ∧ D = Cls w [] [.obj b2 [u1] 22, .obj b1 [u0] 22, .obj gb1 ((gl2.map I).flatten) 57, .obj gb3 ((gl4.map I).flatten) 57] ∧ m9_quirref_Alike_L1 gl2 gl4 a0 a1 m gx5 = some r) ⟨0, rfl, rfl, h⟩ ⟨rfl, rfl, rfl, rfl, rfl, trivial⟩ (fun _ hw => hw) ?_)))
      rintro m _ _ ⟨gx5, rfl, rfl, h⟩
      rcases m with _ | m
      · rw [m9_quirref_Alike_L1] at h; cases h
      rw [m9_quirref_Alike_L1] at h
      generalize hg1 : m9_quirref_Alike_L1 gl2 gl4 a0 a1 m = go1 at h
      rw [m9_quirref_Alike_L1B] at h
      refine W.seq (W.region (L.ite h rfl (Y.lss rfl rfl) (fun c9 h => ?_) (fun c9 h => ?_)))
      ·
       refine L.nil (E.thenN (W.seq (W.condT rfl ?_)))
       refine W.skip (E.thenN (W.seq (W.block (W.seq (W.region (L.y rfl (Y.move rfl) ?_))))))
       refine L.y rfl (Y.assign rfl) ?_
       refine L.nil (E.thenN (W.seq (W.quietC mixed (by kernel_rfl) (fun _ hw => hw.drew) (fun hC => ?_))))
       refine U.y rfl (Y.loadP (i := 1) ag22 rfl rfl rfl) ?_
       refine U.y rfl (Y.move rfl) ?_
       refine U.m (V := fun _ => pt gb1 (0 + gx5.toNat * 1)) h rfl (Y.indexAM (l := gl2) Try.underlying57 sz3 rfl rfl) (fun x10 ex10 h => ?_)
       refine U.y rfl (Y.loadAr (q := 2) (row := I) (j := 0) (p := .int .i64 x10) ag3 rfl rfl rfl (fun _ => rfl) (idxA_idx ex10) rfl) ?_
       refine U.y rfl (Y.loadP (i := 0) ag22 rfl rfl rfl) ?_
       refine U.y rfl (Y.move rfl) ?_
       refine U.m (V := fun _ => pt gb3 (0 + gx5.toNat * 1)) h rfl (Y.indexAM (l := gl4) Try.underlying57 sz3 rfl rfl) (fun x11 ex11 h => ?_)
       refine U.y rfl (Y.loadAr (q := 3) (row := I) (j := 0) (p := .int .i64 x11) ag3 rfl rfl rfl (fun _ => rfl) (idxA_idx ex11) rfl) ?_
       obtain ⟨b12, e13, h⟩ := bind1S h
       refine U.y rfl (Y.does en25 rfl (fun w' hw => (w25_quirref_sameOp a0 x10 a1 x11 u0 u1 w' _ e13 (hA0.cls0 hw) (hA1.cls0 hw)).mono (fun _ _ h => h.1))) ?_
       rcases b12 with _ | _
       ·
        replace h := iteF h
        refine U.y rfl (Y.not rfl) ?_
        refine U.nil (E.thenN (W.condT rfl ?_))
        refine W.seq (W.region (L.y rfl (Y.assign rfl) ?_))
        refine L.nil (E.thenN (W.ret (E.blockR (E.thenR (E.KLR (E.blockR (E.KSR (E.ret1 rfl rfl (fun w1 hw => ?_)))))))))
        obtain rfl := Option.some.inj h
        exact ⟨_, _, rfl, ⟨rfl, rfl⟩, hw.sel [] (by decide) rfl⟩
       ·
        replace h := iteT h
        refine U.y rfl (Y.not rfl) ?_
        refine U.nil (E.thenN (W.condF rfl ?_))
        refine W.skip (E.blockN (E.thenN (W.region (L.m (V := fun x14 => .int .i64 x14) h rfl (Y.addM rfl rfl) (fun x14 ex14 h => ?_)))))
        refine L.y rfl (Y.move rfl) ?_
        exact L.nil (E.againJ ⟨x14, rfl, rfl, by rw [hg1]; exact h⟩ (Nat.lt_succ_self _) ⟨rfl, rfl, rfl, rfl, rfl, trivial⟩ (fun _ hw => hw))
      ·
       refine L.nil (E.thenN (W.seq (W.condF rfl ?_)))
       exact W.exit (E.thenX (E.KLX (E.blockX (E.joinJ ⟨rfl, rfl, h⟩ trivial (fun _ hw => hw.sel [] (by decide) rfl)))))
     ·
      rintro _ _ ⟨rfl, rfl, h⟩
      rw [m9_quirref_Alike_K4] at h
      refine W.seq (W.region (L.y rfl (Y.assign rfl) ?_))
      refine L.nil (E.thenN (W.ret (E.ret1 rfl rfl (fun w1 hw => ?_))))
      obtain rfl := Option.some.inj h
      exact ⟨_, _, rfl, ⟨rfl, rfl⟩, hw⟩
set_option maxRecDepth 100000 in
set_option maxHeartbeats 8000000 in
theorem w3_quirlaw_RunLikes (a0 : (List TOp)) (a1 : (List TOp)) (u0 : Value) (u1 : Value) (w : World) (r : Bool) (h : m3_quirlaw_RunLikes a0 a1 = some r) (hA0 : At w u0 3 (a0.map TOp.row)) (hA1 : At w u1 3 (a1.map TOp.row)) : Does Try.prog 3 [u0, u1] w fun u m => u = .bool r ∧ m = [] := by
  rw [m3_quirlaw_RunLikes] at h
  refine body (n := 65) Try.func3 rfl rfl rfl (Cls.refl w) ?_
  refine W.seq (W.region (L.y rfl (Y.assign rfl) ?_))
  refine L.nil (E.thenN (W.seq (W.region (L.y rfl (Y.move rfl) ?_))))
  obtain ⟨x1, e2, h⟩ := bind1S h
  refine L.y rfl (Y.does en5 rfl (fun w' hw => (w5_quirref_RunErr a0 u0 w' _ e2 (hA0.cls0 hw)).mono (fun _ _ h => h.1))) ?_
  refine L.y rfl (Y.move rfl) ?_
  obtain ⟨x3, e4, h⟩ := bind1S h
  refine L.y rfl (Y.does en5 rfl (fun w' hw => (w5_quirref_RunErr a1 u1 w' _ e4 (hA1.cls0 hw)).mono (fun _ _ h => h.1))) ?_
  obtain ⟨x5, e6, h⟩ := bind1S h
  refine L.y rfl (Y.does en4 rfl (fun w' hw => (w4_quirlaw_firstOf x1 x3 w' _ e6).mono (fun _ _ h => h.1))) ?_
  refine L.y rfl (Y.assign rfl) ?_
  refine L.nil (E.thenN (W.seqJ (fun gs D => ∃ (gb1 : Bool) (gx2 : Int), gs = [(0, u0), (1, u1), (5, .int .i64 x5), (6, .bool gb1), (7, .int .i64 gx2)] ∧ D = Cls w [] [] ∧ m3_quirlaw_RunLikes_K1 a0 a1 x5 gb1 gx2 = some r) ?_ ?_))
  ·
   refine W.region (L.y rfl (Y.move rfl) ?_)
   refine L.y rfl (Y.move rfl) ?_
   obtain ⟨b49, x50, e51, h⟩ := bind2S h
   refine L.y rfl (Y.does en6 rfl (fun w' hw => (w6_run_Like a0 a1 u0 u1 w' _ e51 (hA0.cls0 hw) (hA1.cls0 hw)).mono (fun _ _ h => h.1))) ?_
   refine L.y rfl (Y.move rfl) ?_
   refine L.iteB h rfl (Y.extract rfl rfl) (fun c52 h => ?_) (fun c52 h => ?_)
   ·
    refine L.y rfl (Y.extract rfl rfl) ?_
    refine L.y rfl (Y.assign rfl) ?_
    refine L.y rfl (Y.assign rfl) ?_
    exact L.nil (E.joinJ ⟨true, x50, rfl, rfl, h⟩ ⟨rfl, rfl, rfl, rfl, rfl, trivial⟩ (fun _ hw => hw))
   ·
    refine L.y rfl (Y.extract rfl rfl) ?_
    refine L.y rfl (Y.assign rfl) ?_
    refine L.y rfl (Y.assign rfl) ?_
    exact L.nil (E.joinJ ⟨false, x50, rfl, rfl, h⟩ ⟨rfl, rfl, rfl, rfl, rfl, trivial⟩ (fun _ hw => hw))
  ·
   rintro _ _ ⟨gb1, gx2, rfl, rfl, h⟩
   rw [m3_quirlaw_RunLikes_K1] at h
   rcases gb1 with _ | _
   ·
    replace h := iteF h
    refine W.seqJ (fun gs D => ∃ (gb3 : Bool) (gx4 : Int), gs = [(0, u0), (1, u1), (5, .int .i64 x5), (6, .bool false), (7, .int .i64 gx2), (8, .bool gb3), (9, .int .i64 gx4)] ∧ D = Cls w [] [] ∧ m3_quirlaw_RunLikes_K2 x5 gx2 a0 a1 gb3 gx4 = some r) ?_ ?_
    ·
     refine W.region (L.y rfl (Y.move rfl) ?_)
     refine L.y rfl (Y.move rfl) ?_
     obtain ⟨b25, x26, e27, h⟩ := bind2S h
     refine L.y rfl (Y.does en7 rfl (fun w' hw => (w7_see_Alike a0 a1 u0 u1 w' _ e27 (hA0.cls0 hw) (hA1.cls0 hw)).mono (fun _ _ h => h.1))) ?_
     refine L.y rfl (Y.move rfl) ?_
     refine L.iteB h rfl (Y.extract rfl rfl) (fun c28 h => ?_) (fun c28 h => ?_)
     ·
      refine L.y rfl (Y.extract rfl rfl) ?_
      refine L.y rfl (Y.assign rfl) ?_
      refine L.y rfl (Y.assign rfl) ?_
      exact L.nil (E.joinJ ⟨true, x26, rfl, rfl, h⟩ ⟨rfl, rfl, rfl, rfl, rfl, rfl, rfl, trivial⟩ (fun _ hw => hw))
     ·
      refine L.y rfl (Y.extract rfl rfl) ?_
      refine L.y rfl (Y.assign rfl) ?_
      refine L.y rfl (Y.assign rfl) ?_
      exact L.nil (E.joinJ ⟨false, x26, rfl, rfl, h⟩ ⟨rfl, rfl, rfl, rfl, rfl, rfl, rfl, trivial⟩ (fun _ hw => hw))
    ·
     rintro _ _ ⟨gb3, gx4, rfl, rfl, h⟩
     rw [m3_quirlaw_RunLikes_K2] at h
     rcases gb3 with _ | _
     ·
      replace h := iteF h
      refine W.seqJ (fun gs D => gs = [(0, u0), (1, u1), (6, .bool false), (7, .int .i64 gx2), (8, .bool false), (9, .int .i64 gx4)] ∧ D = Cls w [] [] ∧ m3_quirlaw_RunLikes_K3 a0 a1 gx2 gx4 = some r) ?_ ?_
      ·
       refine W.seq (W.region (L.y rfl (Y.move rfl) ?_))
       refine L.ite h rfl (Y.neq rfl rfl) (fun c14 h => ?_) (fun c14 h => ?_)
       ·
        refine L.nil (E.thenN (W.condT rfl ?_))
        refine W.seq (W.region (L.y rfl (Y.move rfl) ?_))
        refine L.y rfl (Y.not rfl) ?_
        refine L.y rfl (Y.move rfl) ?_
        refine L.take rfl (L.y rfl (Y.move rfl) ?_)
        refine L.take rfl (L.y rfl (Y.move rfl) ?_)
        refine L.take rfl (L.ite h rfl (Y.eql rfl rfl) (fun c15 h => ?_) (fun c15 h => ?_))
        ·
         refine L.y rfl (Y.pickT rfl rfl) ?_
         refine L.y rfl (Y.move rfl) ?_
         refine L.take rfl (L.y rfl (Y.move rfl) ?_)
         refine L.take rfl (L.y rfl (Y.not rfl) ?_)
         refine L.y rfl (Y.pickT rfl rfl) ?_
         refine L.y rfl (Y.move rfl) ?_
         refine L.take rfl (L.y rfl (Y.move rfl) ?_)
         refine L.take rfl (L.y rfl (Y.move rfl) ?_)
         refine L.take rfl (L.y rfl (Y.eql rfl rfl) ?_)
         refine L.y rfl (Y.pickT rfl rfl) ?_
         refine L.y rfl (Y.assign rfl) ?_
         refine L.nil (E.thenN (W.ret (E.KSR (E.ret1 rfl rfl (fun w1 hw => ?_)))))
         obtain rfl := Option.some.inj h
         exact ⟨_, _, rfl, ⟨rfl, rfl⟩, hw⟩
        ·
         refine L.y rfl (Y.pickT rfl rfl) ?_
         refine L.y rfl (Y.move rfl) ?_
         refine L.pass rfl rfl (by nofun) ?_
         refine L.pass rfl rfl (by nofun) ?_
         refine L.y rfl (Y.pickF rfl rfl) ?_
         refine L.y rfl (Y.move rfl) ?_
         refine L.pass rfl rfl (by nofun) ?_
         refine L.pass rfl rfl (by nofun) ?_
         refine L.pass rfl rfl (by nofun) ?_
         refine L.y rfl (Y.pickF rfl rfl) ?_
         refine L.y rfl (Y.assign rfl) ?_
         refine L.nil (E.thenN (W.ret (E.KSR (E.ret1 rfl rfl (fun w1 hw => ?_)))))
         obtain rfl := Option.some.inj h
         exact ⟨_, _, rfl, ⟨rfl, rfl⟩, hw⟩
       ·
        refine L.nil (E.thenN (W.condF rfl ?_))
        exact W.skip (E.joinJ ⟨rfl, rfl, h⟩ ⟨rfl, rfl, rfl, rfl, rfl, rfl, trivial⟩ (fun _ hw => hw))
      ·
       rintro _ _ ⟨rfl, rfl, h⟩
       rw [m3_quirlaw_RunLikes_K3] at h
       refine W.seq (W.region (L.cutJ 9 (fun gs D => ∃ (gb5 : Bool), gs = [(0, u0), (1, u1), (8, .bool false), (9, .int .i64 gx4), (53, .bool gb5)] ∧ D = Cls w [] [] ∧ m3_quirlaw_RunLikes_K4 a0 a1 gx4 gb5 = some r) ?_ ?_))
       ·
        refine L.y rfl (Y.move rfl) ?_
        refine L.y rfl (Y.move rfl) ?_
        refine L.y rfl (Y.move rfl) ?_
        obtain ⟨b10, e11, h⟩ := bind1S h
        refine L.y rfl (Y.does en8 rfl (fun w' hw => (w8_quirref_Like a0 a1 u0 u1 w' _ e11 (hA0.cls0 hw) (hA1.cls0 hw)).mono (fun _ _ h => h.1))) ?_
        refine L.iteB h rfl (Y.eqlB Try.underlying4 rfl rfl) (fun c12 h => ?_) (fun c12 h => ?_)
        ·
         refine L.y rfl (Y.move rfl) ?_
         refine L.take rfl (L.y rfl (Y.move rfl) ?_)
         refine L.take rfl (L.ite h rfl (Y.eql rfl rfl) (fun c13 h => ?_) (fun c13 h => ?_))
         ·
          refine L.y rfl (Y.pickT rfl rfl) ?_
          exact L.nil (E.joinJ ⟨true, rfl, rfl, h⟩ ⟨rfl, rfl, rfl, rfl, rfl, trivial⟩ (fun _ hw => hw))
         ·
          refine L.y rfl (Y.pickT rfl rfl) ?_
          exact L.nil (E.joinJ ⟨false, rfl, rfl, h⟩ ⟨rfl, rfl, rfl, rfl, rfl, trivial⟩ (fun _ hw => hw))
        ·
         refine L.y rfl (Y.move rfl) ?_
         refine L.pass rfl rfl (by nofun) ?_
         refine L.pass rfl rfl (by nofun) ?_
         refine L.y rfl (Y.pickF rfl rfl) ?_
         exact L.nil (E.joinJ ⟨false, rfl, rfl, h⟩ ⟨rfl, rfl, rfl, rfl, rfl, trivial⟩ (fun _ hw => hw))
       ·
        rintro _ _ ⟨gb5, rfl, rfl, h⟩
        rw [m3_quirlaw_RunLikes_K4] at h
        rcases gb5 with _ | _
        ·
         replace h := iteF h
         refine L.y rfl (Y.move rfl) ?_
         refine L.pass rfl rfl (by nofun) ?_
         refine L.pass rfl rfl (by nofun) ?_
         refine L.pass rfl rfl (by nofun) ?_
         refine L.pass rfl rfl (by nofun) ?_
         refine L.pass rfl rfl (by nofun) ?_
         refine L.y rfl (Y.pickF rfl rfl) ?_
         refine L.y rfl (Y.move rfl) ?_
         refine L.pass rfl rfl (by nofun) ?_
         refine L.pass rfl rfl (by nofun) ?_
         refine L.y rfl (Y.pickF rfl rfl) ?_
         refine L.y rfl (Y.assign rfl) ?_
         refine L.nil (E.thenN (W.ret (E.ret1 rfl rfl (fun w1 hw => ?_))))
         obtain rfl := Option.some.inj h
         exact ⟨_, _, rfl, ⟨rfl, rfl⟩, hw⟩
        ·
         replace h := iteT h
         refine L.y rfl (Y.move rfl) ?_
         refine L.take rfl (L.y rfl (Y.move rfl) ?_)
         refine L.take rfl (L.y rfl (Y.move rfl) ?_)
         refine L.take rfl (L.y rfl (Y.move rfl) ?_)
         refine L.take rfl ?_
         obtain ⟨b7, e8, h⟩ := bind1S h
         refine L.y rfl (Y.does en9 rfl (fun w' hw => (w9_quirref_Alike a0 a1 u0 u1 w' _ e8 (hA0.cls0 hw) (hA1.cls0 hw)).mono (fun _ _ h => h.1))) ?_
         refine L.take rfl (L.iteB h rfl (Y.eqlB Try.underlying4 rfl rfl) (fun c9 h => ?_) (fun c9 h => ?_))
         ·
          refine L.y rfl (Y.pickT rfl rfl) ?_
          refine L.y rfl (Y.move rfl) ?_
          refine L.take rfl (L.y rfl (Y.move rfl) ?_)
          refine L.take rfl (L.y rfl (Y.eql rfl rfl) ?_)
          refine L.y rfl (Y.pickT rfl rfl) ?_
          refine L.y rfl (Y.assign rfl) ?_
          refine L.nil (E.thenN (W.ret (E.ret1 rfl rfl (fun w1 hw => ?_))))
          obtain rfl := Option.some.inj h
          exact ⟨_, _, rfl, ⟨rfl, rfl⟩, hw⟩
         ·
          refine L.y rfl (Y.pickT rfl rfl) ?_
          refine L.y rfl (Y.move rfl) ?_
          refine L.pass rfl rfl (by nofun) ?_
          refine L.pass rfl rfl (by nofun) ?_
          refine L.y rfl (Y.pickF rfl rfl) ?_
          refine L.y rfl (Y.assign rfl) ?_
          refine L.nil (E.thenN (W.ret (E.ret1 rfl rfl (fun w1 hw => ?_))))
          obtain rfl := Option.some.inj h
          exact ⟨_, _, rfl, ⟨rfl, rfl⟩, hw⟩
     ·
      replace h := iteT h
      refine W.seqJ (fun gs D => gs = [(0, u0), (1, u1), (6, .bool false), (7, .int .i64 gx2), (8, .bool true), (9, .int .i64 gx4)] ∧ D = Cls w [] [] ∧ m3_quirlaw_RunLikes_K5 a0 a1 gx2 gx4 = some r) ?_ ?_
      ·
       refine W.seq (W.region (L.y rfl (Y.move rfl) ?_))
       refine L.ite h rfl (Y.neq rfl rfl) (fun c23 h => ?_) (fun c23 h => ?_)
       ·
        refine L.nil (E.thenN (W.condT rfl ?_))
        refine W.seq (W.region (L.y rfl (Y.move rfl) ?_))
        refine L.y rfl (Y.not rfl) ?_
        refine L.y rfl (Y.move rfl) ?_
        refine L.take rfl (L.y rfl (Y.move rfl) ?_)
        refine L.take rfl (L.y rfl (Y.move rfl) ?_)
        refine L.take rfl (L.ite h rfl (Y.eql rfl rfl) (fun c24 h => ?_) (fun c24 h => ?_))
        ·
         refine L.y rfl (Y.pickT rfl rfl) ?_
         refine L.y rfl (Y.move rfl) ?_
         refine L.take rfl (L.y rfl (Y.move rfl) ?_)
         refine L.take rfl (L.y rfl (Y.not rfl) ?_)
         refine L.y rfl (Y.pickT rfl rfl) ?_
         refine L.y rfl (Y.move rfl) ?_
         refine L.pass rfl rfl (by nofun) ?_
         refine L.pass rfl rfl (by nofun) ?_
         refine L.pass rfl rfl (by nofun) ?_
         refine L.y rfl (Y.pickF rfl rfl) ?_
         refine L.y rfl (Y.assign rfl) ?_
         refine L.nil (E.thenN (W.ret (E.KSR (E.ret1 rfl rfl (fun w1 hw => ?_)))))
         obtain rfl := Option.some.inj h
         exact ⟨_, _, rfl, ⟨rfl, rfl⟩, hw⟩
        ·
         refine L.y rfl (Y.pickT rfl rfl) ?_
         refine L.y rfl (Y.move rfl) ?_
         refine L.pass rfl rfl (by nofun) ?_
         refine L.pass rfl rfl (by nofun) ?_
         refine L.y rfl (Y.pickF rfl rfl) ?_
         refine L.y rfl (Y.move rfl) ?_
         refine L.pass rfl rfl (by nofun) ?_
         refine L.pass rfl rfl (by nofun) ?_
         refine L.pass rfl rfl (by nofun) ?_
         refine L.y rfl (Y.pickF rfl rfl) ?_
         refine L.y rfl (Y.assign rfl) ?_
         refine L.nil (E.thenN (W.ret (E.KSR (E.ret1 rfl rfl (fun w1 hw => ?_)))))
         obtain rfl := Option.some.inj h
         exact ⟨_, _, rfl, ⟨rfl, rfl⟩, hw⟩
       ·
        refine L.nil (E.thenN (W.condF rfl ?_))
        exact W.skip (E.joinJ ⟨rfl, rfl, h⟩ ⟨rfl, rfl, rfl, rfl, rfl, rfl, trivial⟩ (fun _ hw => hw))
      ·
       rintro _ _ ⟨rfl, rfl, h⟩
       rw [m3_quirlaw_RunLikes_K5] at h
       refine W.seq (W.region (L.cutJ 9 (fun gs D => ∃ (gb6 : Bool), gs = [(0, u0), (1, u1), (8, .bool true), (9, .int .i64 gx4), (53, .bool gb6)] ∧ D = Cls w [] [] ∧ m3_quirlaw_RunLikes_K6 a0 a1 gx4 gb6 = some r) ?_ ?_))
       ·
        refine L.y rfl (Y.move rfl) ?_
        refine L.y rfl (Y.move rfl) ?_
        refine L.y rfl (Y.move rfl) ?_
        obtain ⟨b19, e20, h⟩ := bind1S h
        refine L.y rfl (Y.does en8 rfl (fun w' hw => (w8_quirref_Like a0 a1 u0 u1 w' _ e20 (hA0.cls0 hw) (hA1.cls0 hw)).mono (fun _ _ h => h.1))) ?_
        refine L.iteB h rfl (Y.eqlB Try.underlying4 rfl rfl) (fun c21 h => ?_) (fun c21 h => ?_)
        ·
         refine L.y rfl (Y.move rfl) ?_
         refine L.take rfl (L.y rfl (Y.move rfl) ?_)
         refine L.take rfl (L.ite h rfl (Y.eql rfl rfl) (fun c22 h => ?_) (fun c22 h => ?_))
         ·
          refine L.y rfl (Y.pickT rfl rfl) ?_
          exact L.nil (E.joinJ ⟨true, rfl, rfl, h⟩ ⟨rfl, rfl, rfl, rfl, rfl, trivial⟩ (fun _ hw => hw))
         ·
          refine L.y rfl (Y.pickT rfl rfl) ?_
          exact L.nil (E.joinJ ⟨false, rfl, rfl, h⟩ ⟨rfl, rfl, rfl, rfl, rfl, trivial⟩ (fun _ hw => hw))
        ·
         refine L.y rfl (Y.move rfl) ?_
         refine L.pass rfl rfl (by nofun) ?_
         refine L.pass rfl rfl (by nofun) ?_
         refine L.y rfl (Y.pickF rfl rfl) ?_
         exact L.nil (E.joinJ ⟨false, rfl, rfl, h⟩ ⟨rfl, rfl, rfl, rfl, rfl, trivial⟩ (fun _ hw => hw))
       ·
        rintro _ _ ⟨gb6, rfl, rfl, h⟩
        rw [m3_quirlaw_RunLikes_K6] at h
        rcases gb6 with _ | _
        ·
         replace h := iteF h
         refine L.y rfl (Y.move rfl) ?_
         refine L.pass rfl rfl (by nofun) ?_
         refine L.pass rfl rfl (by nofun) ?_
         refine L.pass rfl rfl (by nofun) ?_
         refine L.pass rfl rfl (by nofun) ?_
         refine L.pass rfl rfl (by nofun) ?_
         refine L.y rfl (Y.pickF rfl rfl) ?_
         refine L.y rfl (Y.move rfl) ?_
         refine L.pass rfl rfl (by nofun) ?_
         refine L.pass rfl rfl (by nofun) ?_
         refine L.y rfl (Y.pickF rfl rfl) ?_
         refine L.y rfl (Y.assign rfl) ?_
         refine L.nil (E.thenN (W.ret (E.ret1 rfl rfl (fun w1 hw => ?_))))
         obtain rfl := Option.some.inj h
         exact ⟨_, _, rfl, ⟨rfl, rfl⟩, hw⟩
        ·
         replace h := iteT h
         refine L.y rfl (Y.move rfl) ?_
         refine L.take rfl (L.y rfl (Y.move rfl) ?_)
         refine L.take rfl (L.y rfl (Y.move rfl) ?_)
         refine L.take rfl (L.y rfl (Y.move rfl) ?_)
         refine L.take rfl ?_
         obtain ⟨b16, e17, h⟩ := bind1S h
         refine L.y rfl (Y.does en9 rfl (fun w' hw => (w9_quirref_Alike a0 a1 u0 u1 w' _ e17 (hA0.cls0 hw) (hA1.cls0 hw)).mono (fun _ _ h => h.1))) ?_
         refine L.take rfl (L.iteB h rfl (Y.eqlB Try.underlying4 rfl rfl) (fun c18 h => ?_) (fun c18 h => ?_))
         ·
          refine L.y rfl (Y.pickT rfl rfl) ?_
          refine L.y rfl (Y.move rfl) ?_
          refine L.take rfl (L.y rfl (Y.move rfl) ?_)
          refine L.take rfl (L.y rfl (Y.eql rfl rfl) ?_)
          refine L.y rfl (Y.pickT rfl rfl) ?_
          refine L.y rfl (Y.assign rfl) ?_
          refine L.nil (E.thenN (W.ret (E.ret1 rfl rfl (fun w1 hw => ?_))))
          obtain rfl := Option.some.inj h
          exact ⟨_, _, rfl, ⟨rfl, rfl⟩, hw⟩
         ·
          refine L.y rfl (Y.pickT rfl rfl) ?_
          refine L.y rfl (Y.move rfl) ?_
          refine L.pass rfl rfl (by nofun) ?_
          refine L.pass rfl rfl (by nofun) ?_
          refine L.y rfl (Y.pickF rfl rfl) ?_
          refine L.y rfl (Y.assign rfl) ?_
          refine L.nil (E.thenN (W.ret (E.ret1 rfl rfl (fun w1 hw => ?_))))
          obtain rfl := Option.some.inj h
          exact ⟨_, _, rfl, ⟨rfl, rfl⟩, hw⟩
   ·
    replace h := iteT h
    refine W.seqJ (fun gs D => ∃ (gb7 : Bool) (gx8 : Int), gs = [(0, u0), (1, u1), (5, .int .i64 x5), (6, .bool true), (7, .int .i64 gx2), (8, .bool gb7), (9, .int .i64 gx8)] ∧ D = Cls w [] [] ∧ m3_quirlaw_RunLikes_K7 x5 a0 a1 gx2 gb7 gx8 = some r) ?_ ?_
    ·
     refine W.region (L.y rfl (Y.move rfl) ?_)
     refine L.y rfl (Y.move rfl) ?_
     obtain ⟨b45, x46, e47, h⟩ := bind2S h
     refine L.y rfl (Y.does en7 rfl (fun w' hw => (w7_see_Alike a0 a1 u0 u1 w' _ e47 (hA0.cls0 hw) (hA1.cls0 hw)).mono (fun _ _ h => h.1))) ?_
     refine L.y rfl (Y.move rfl) ?_
     refine L.iteB h rfl (Y.extract rfl rfl) (fun c48 h => ?_) (fun c48 h => ?_)
     ·
      refine L.y rfl (Y.extract rfl rfl) ?_
      refine L.y rfl (Y.assign rfl) ?_
      refine L.y rfl (Y.assign rfl) ?_
      exact L.nil (E.joinJ ⟨true, x46, rfl, rfl, h⟩ ⟨rfl, rfl, rfl, rfl, rfl, rfl, rfl, trivial⟩ (fun _ hw => hw))
     ·
      refine L.y rfl (Y.extract rfl rfl) ?_
      refine L.y rfl (Y.assign rfl) ?_
      refine L.y rfl (Y.assign rfl) ?_
      exact L.nil (E.joinJ ⟨false, x46, rfl, rfl, h⟩ ⟨rfl, rfl, rfl, rfl, rfl, rfl, rfl, trivial⟩ (fun _ hw => hw))
    ·
     rintro _ _ ⟨gb7, gx8, rfl, rfl, h⟩
     rw [m3_quirlaw_RunLikes_K7] at h
     rcases gb7 with _ | _
     ·
      replace h := iteF h
      refine W.seqJ (fun gs D => gs = [(0, u0), (1, u1), (6, .bool true), (7, .int .i64 gx2), (8, .bool false), (9, .int .i64 gx8)] ∧ D = Cls w [] [] ∧ m3_quirlaw_RunLikes_K8 a0 a1 gx2 gx8 = some r) ?_ ?_
      ·
       refine W.seq (W.region (L.y rfl (Y.move rfl) ?_))
       refine L.ite h rfl (Y.neq rfl rfl) (fun c36 h => ?_) (fun c36 h => ?_)
       ·
        refine L.nil (E.thenN (W.condT rfl ?_))
        refine W.seq (W.region (L.y rfl (Y.move rfl) ?_))
        refine L.y rfl (Y.not rfl) ?_
        refine L.y rfl (Y.move rfl) ?_
        refine L.pass rfl rfl (by nofun) ?_
        refine L.pass rfl rfl (by nofun) ?_
        refine L.pass rfl rfl (by nofun) ?_
        refine L.y rfl (Y.pickF rfl rfl) ?_
        refine L.y rfl (Y.move rfl) ?_
        refine L.pass rfl rfl (by nofun) ?_
        refine L.pass rfl rfl (by nofun) ?_
        refine L.y rfl (Y.pickF rfl rfl) ?_
        refine L.y rfl (Y.move rfl) ?_
        refine L.pass rfl rfl (by nofun) ?_
        refine L.pass rfl rfl (by nofun) ?_
        refine L.pass rfl rfl (by nofun) ?_
        refine L.y rfl (Y.pickF rfl rfl) ?_
        refine L.y rfl (Y.assign rfl) ?_
        refine L.nil (E.thenN (W.ret (E.KSR (E.ret1 rfl rfl (fun w1 hw => ?_)))))
        obtain rfl := Option.some.inj h
        exact ⟨_, _, rfl, ⟨rfl, rfl⟩, hw⟩
       ·
        refine L.nil (E.thenN (W.condF rfl ?_))
        exact W.skip (E.joinJ ⟨rfl, rfl, h⟩ ⟨rfl, rfl, rfl, rfl, rfl, rfl, trivial⟩ (fun _ hw => hw))
      ·
       rintro _ _ ⟨rfl, rfl, h⟩
       rw [m3_quirlaw_RunLikes_K8] at h
       refine W.seq (W.region (L.cutJ 9 (fun gs D => ∃ (gb9 : Bool), gs = [(0, u0), (1, u1), (8, .bool false), (9, .int .i64 gx8), (53, .bool gb9)] ∧ D = Cls w [] [] ∧ m3_quirlaw_RunLikes_K9 a0 a1 gx8 gb9 = some r) ?_ ?_))
       ·
        refine L.y rfl (Y.move rfl) ?_
        refine L.y rfl (Y.move rfl) ?_
        refine L.y rfl (Y.move rfl) ?_
        obtain ⟨b32, e33, h⟩ := bind1S h
        refine L.y rfl (Y.does en8 rfl (fun w' hw => (w8_quirref_Like a0 a1 u0 u1 w' _ e33 (hA0.cls0 hw) (hA1.cls0 hw)).mono (fun _ _ h => h.1))) ?_
        refine L.iteB h rfl (Y.eqlB Try.underlying4 rfl rfl) (fun c34 h => ?_) (fun c34 h => ?_)
        ·
         refine L.y rfl (Y.move rfl) ?_
         refine L.take rfl (L.y rfl (Y.move rfl) ?_)
         refine L.take rfl (L.ite h rfl (Y.eql rfl rfl) (fun c35 h => ?_) (fun c35 h => ?_))
         ·
          refine L.y rfl (Y.pickT rfl rfl) ?_
          exact L.nil (E.joinJ ⟨true, rfl, rfl, h⟩ ⟨rfl, rfl, rfl, rfl, rfl, trivial⟩ (fun _ hw => hw))
         ·
          refine L.y rfl (Y.pickT rfl rfl) ?_
          exact L.nil (E.joinJ ⟨false, rfl, rfl, h⟩ ⟨rfl, rfl, rfl, rfl, rfl, trivial⟩ (fun _ hw => hw))
        ·
         refine L.y rfl (Y.move rfl) ?_
         refine L.pass rfl rfl (by nofun) ?_
         refine L.pass rfl rfl (by nofun) ?_
         refine L.y rfl (Y.pickF rfl rfl) ?_
         exact L.nil (E.joinJ ⟨false, rfl, rfl, h⟩ ⟨rfl, rfl, rfl, rfl, rfl, trivial⟩ (fun _ hw => hw))
       ·
        rintro _ _ ⟨gb9, rfl, rfl, h⟩
        rw [m3_quirlaw_RunLikes_K9] at h
        rcases gb9 with _ | _
        ·
         replace h := iteF h
         refine L.y rfl (Y.move rfl) ?_
         refine L.pass rfl rfl (by nofun) ?_
         refine L.pass rfl rfl (by nofun) ?_
         refine L.pass rfl rfl (by nofun) ?_
         refine L.pass rfl rfl (by nofun) ?_
         refine L.pass rfl rfl (by nofun) ?_
         refine L.y rfl (Y.pickF rfl rfl) ?_
         refine L.y rfl (Y.move rfl) ?_
         refine L.pass rfl rfl (by nofun) ?_
         refine L.pass rfl rfl (by nofun) ?_
         refine L.y rfl (Y.pickF rfl rfl) ?_
         refine L.y rfl (Y.assign rfl) ?_
         refine L.nil (E.thenN (W.ret (E.ret1 rfl rfl (fun w1 hw => ?_))))
         obtain rfl := Option.some.inj h
         exact ⟨_, _, rfl, ⟨rfl, rfl⟩, hw⟩
        ·
         replace h := iteT h
         refine L.y rfl (Y.move rfl) ?_
         refine L.take rfl (L.y rfl (Y.move rfl) ?_)
         refine L.take rfl (L.y rfl (Y.move rfl) ?_)
         refine L.take rfl (L.y rfl (Y.move rfl) ?_)
         refine L.take rfl ?_
         obtain ⟨b29, e30, h⟩ := bind1S h
         refine L.y rfl (Y.does en9 rfl (fun w' hw => (w9_quirref_Alike a0 a1 u0 u1 w' _ e30 (hA0.cls0 hw) (hA1.cls0 hw)).mono (fun _ _ h => h.1))) ?_
         refine L.take rfl (L.iteB h rfl (Y.eqlB Try.underlying4 rfl rfl) (fun c31 h => ?_) (fun c31 h => ?_))
         ·
          refine L.y rfl (Y.pickT rfl rfl) ?_
          refine L.y rfl (Y.move rfl) ?_
          refine L.take rfl (L.y rfl (Y.move rfl) ?_)
          refine L.take rfl (L.y rfl (Y.eql rfl rfl) ?_)
          refine L.y rfl (Y.pickT rfl rfl) ?_
          refine L.y rfl (Y.assign rfl) ?_
          refine L.nil (E.thenN (W.ret (E.ret1 rfl rfl (fun w1 hw => ?_))))
          obtain rfl := Option.some.inj h
          exact ⟨_, _, rfl, ⟨rfl, rfl⟩, hw⟩
         ·
          refine L.y rfl (Y.pickT rfl rfl) ?_
          refine L.y rfl (Y.move rfl) ?_
          refine L.pass rfl rfl (by nofun) ?_
          refine L.pass rfl rfl (by nofun) ?_
          refine L.y rfl (Y.pickF rfl rfl) ?_
          refine L.y rfl (Y.assign rfl) ?_
          refine L.nil (E.thenN (W.ret (E.ret1 rfl rfl (fun w1 hw => ?_))))
          obtain rfl := Option.some.inj h
          exact ⟨_, _, rfl, ⟨rfl, rfl⟩, hw⟩
     ·
      replace h := iteT h
      refine W.seqJ (fun gs D => gs = [(0, u0), (1, u1), (6, .bool true), (7, .int .i64 gx2), (8, .bool true), (9, .int .i64 gx8)] ∧ D = Cls w [] [] ∧ m3_quirlaw_RunLikes_K10 a0 a1 gx2 gx8 = some r) ?_ ?_
      ·
       refine W.seq (W.region (L.y rfl (Y.move rfl) ?_))
       refine L.ite h rfl (Y.neq rfl rfl) (fun c44 h => ?_) (fun c44 h => ?_)
       ·
        refine L.nil (E.thenN (W.condT rfl ?_))
        refine W.seq (W.region (L.y rfl (Y.move rfl) ?_))
        refine L.y rfl (Y.not rfl) ?_
        refine L.y rfl (Y.move rfl) ?_
        refine L.pass rfl rfl (by nofun) ?_
        refine L.pass rfl rfl (by nofun) ?_
        refine L.pass rfl rfl (by nofun) ?_
        refine L.y rfl (Y.pickF rfl rfl) ?_
        refine L.y rfl (Y.move rfl) ?_
        refine L.pass rfl rfl (by nofun) ?_
        refine L.pass rfl rfl (by nofun) ?_
        refine L.y rfl (Y.pickF rfl rfl) ?_
        refine L.y rfl (Y.move rfl) ?_
        refine L.pass rfl rfl (by nofun) ?_
        refine L.pass rfl rfl (by nofun) ?_
        refine L.pass rfl rfl (by nofun) ?_
        refine L.y rfl (Y.pickF rfl rfl) ?_
        refine L.y rfl (Y.assign rfl) ?_
        refine L.nil (E.thenN (W.ret (E.KSR (E.ret1 rfl rfl (fun w1 hw => ?_)))))
        obtain rfl := Option.some.inj h
        exact ⟨_, _, rfl, ⟨rfl, rfl⟩, hw⟩
       ·
        refine L.nil (E.thenN (W.condF rfl ?_))
        exact W.skip (E.joinJ ⟨rfl, rfl, h⟩ ⟨rfl, rfl, rfl, rfl, rfl, rfl, trivial⟩ (fun _ hw => hw))
      ·
       rintro _ _ ⟨rfl, rfl, h⟩
       rw [m3_quirlaw_RunLikes_K10] at h
       refine W.seq (W.region (L.cutJ 9 (fun gs D => ∃ (gb10 : Bool), gs = [(0, u0), (1, u1), (8, .bool true), (9, .int .i64 gx8), (53, .bool gb10)] ∧ D = Cls w [] [] ∧ m3_quirlaw_RunLikes_K11 a0 a1 gx8 gb10 = some r) ?_ ?_))
       ·
        refine L.y rfl (Y.move rfl) ?_
        refine L.y rfl (Y.move rfl) ?_
        refine L.y rfl (Y.move rfl) ?_
        obtain ⟨b40, e41, h⟩ := bind1S h
        refine L.y rfl (Y.does en8 rfl (fun w' hw => (w8_quirref_Like a0 a1 u0 u1 w' _ e41 (hA0.cls0 hw) (hA1.cls0 hw)).mono (fun _ _ h => h.1))) ?_
        refine L.iteB h rfl (Y.eqlB Try.underlying4 rfl rfl) (fun c42 h => ?_) (fun c42 h => ?_)
        ·
         refine L.y rfl (Y.move rfl) ?_
         refine L.take rfl (L.y rfl (Y.move rfl) ?_)
         refine L.take rfl (L.ite h rfl (Y.eql rfl rfl) (fun c43 h => ?_) (fun c43 h => ?_))
         ·
          refine L.y rfl (Y.pickT rfl rfl) ?_
          exact L.nil (E.joinJ ⟨true, rfl, rfl, h⟩ ⟨rfl, rfl, rfl, rfl, rfl, trivial⟩ (fun _ hw => hw))
         ·
          refine L.y rfl (Y.pickT rfl rfl) ?_
          exact L.nil (E.joinJ ⟨false, rfl, rfl, h⟩ ⟨rfl, rfl, rfl, rfl, rfl, trivial⟩ (fun _ hw => hw))
        ·
         refine L.y rfl (Y.move rfl) ?_
         refine L.pass rfl rfl (by nofun) ?_
         refine L.pass rfl rfl (by nofun) ?_
         refine L.y rfl (Y.pickF rfl rfl) ?_
         exact L.nil (E.joinJ ⟨false, rfl, rfl, h⟩ ⟨rfl, rfl, rfl, rfl, rfl, trivial⟩ (fun _ hw => hw))
       ·
        rintro _ _ ⟨gb10, rfl, rfl, h⟩
        rw [m3_quirlaw_RunLikes_K11] at h
        rcases gb10 with _ | _
        ·
         replace h := iteF h
         refine L.y rfl (Y.move rfl) ?_
         refine L.pass rfl rfl (by nofun) ?_
         refine L.pass rfl rfl (by nofun) ?_
         refine L.pass rfl rfl (by nofun) ?_
         refine L.pass rfl rfl (by nofun) ?_
         refine L.pass rfl rfl (by nofun) ?_
         refine L.y rfl (Y.pickF rfl rfl) ?_
         refine L.y rfl (Y.move rfl) ?_
         refine L.pass rfl rfl (by nofun) ?_
         refine L.pass rfl rfl (by nofun) ?_
         refine L.y rfl (Y.pickF rfl rfl) ?_
         refine L.y rfl (Y.assign rfl) ?_
         refine L.nil (E.thenN (W.ret (E.ret1 rfl rfl (fun w1 hw => ?_))))
         obtain rfl := Option.some.inj h
         exact ⟨_, _, rfl, ⟨rfl, rfl⟩, hw⟩
        ·
         replace h := iteT h
         refine L.y rfl (Y.move rfl) ?_
         refine L.take rfl (L.y rfl (Y.move rfl) ?_)
         refine L.take rfl (L.y rfl (Y.move rfl) ?_)
         refine L.take rfl (L.y rfl (Y.move rfl) ?_)
         refine L.take rfl ?_
         obtain ⟨b37, e38, h⟩ := bind1S h
         refine L.y rfl (Y.does en9 rfl (fun w' hw => (w9_quirref_Alike a0 a1 u0 u1 w' _ e38 (hA0.cls0 hw) (hA1.cls0 hw)).mono (fun _ _ h => h.1))) ?_
         refine L.take rfl (L.iteB h rfl (Y.eqlB Try.underlying4 rfl rfl) (fun c39 h => ?_) (fun c39 h => ?_))
         ·
          refine L.y rfl (Y.pickT rfl rfl) ?_
          refine L.y rfl (Y.move rfl) ?_
          refine L.take rfl (L.y rfl (Y.move rfl) ?_)
          refine L.take rfl (L.y rfl (Y.eql rfl rfl) ?_)
          refine L.y rfl (Y.pickT rfl rfl) ?_
          refine L.y rfl (Y.assign rfl) ?_
          refine L.nil (E.thenN (W.ret (E.ret1 rfl rfl (fun w1 hw => ?_))))
          obtain rfl := Option.some.inj h
          exact ⟨_, _, rfl, ⟨rfl, rfl⟩, hw⟩
         ·
          refine L.y rfl (Y.pickT rfl rfl) ?_
          refine L.y rfl (Y.move rfl) ?_
          refine L.pass rfl rfl (by nofun) ?_
          refine L.pass rfl rfl (by nofun) ?_
          refine L.y rfl (Y.pickF rfl rfl) ?_
          refine L.y rfl (Y.assign rfl) ?_
          refine L.nil (E.thenN (W.ret (E.ret1 rfl rfl (fun w1 hw => ?_))))
          obtain rfl := Option.some.inj h
          exact ⟨_, _, rfl, ⟨rfl, rfl⟩, hw⟩
end Go.Proofs.Ytglbgeamiobldaa
