/-
  Walks, printed by a program of mine.
  Conditions: none.
-/
import Derived.Test.YtinchlfaepjfiaaDoorWlW3
import Derived.Test.YtinchlfaepjfiaaDoorChecked
import Derived.KernelRfl
import Derived.Test.YtinchlfaepjfiaaDoorSh
namespace Go.Proofs.YtinchlfaepjfiaaDoor
open Go.S
set_option linter.unusedVariables false
set_option linter.unusedSimpArgs false
set_option maxRecDepth 100000 in
set_option maxHeartbeats 8000000 in
theorem w3_quirlaw_WalPlays (a0 : Int) (a1 : Int) (a2 : Int) (a3 : (List TDeed)) (u3 : Value) (q3 : Nat → List Value) (w : World) (r : Bool) (h : m3_quirlaw_WalPlays a0 a1 a2 a3 = some r) (hA3 : At w u3 4 (zr TDeed.rowv q3 a3)) (hD3 : ∀ d ∈ zs TDeed.sds q3 a3, At w d.v d.k d.rows) : Does Tryd.prog 3 [.int .i64 a0, .int .i64 a1, .int .i64 a2, u3] w fun u m => u = .bool r ∧ m = [] := by
  rw [m3_quirlaw_WalPlays] at h
  refine body (n := 212) Tryd.func3 rfl rfl rfl (Cls.refl w) ?_
  refine W.seq (W.region (L.y rfl (Y.assign rfl) ?_))
  refine L.nil (E.thenN (W.seq (W.region (L.y rfl (Y.move rfl) ?_))))
  refine L.callJ (fun v D => (v = .tuple #[.pointer none, .int .i64 1] ∧ D = Cls w [] [] ∧ m3_quirlaw_WalPlays_K1 a0 = some r) ∨ (∃ (gb1 : Nat) (gv2 : Value) (gl3 : (List (List UInt8))) (gv4 : Value) (gl5 : (List (List UInt8))), v = .tuple #[pt gb1 0, .int .i64 0] ∧ D = Cls w [] [.sl gv2 9 1 (gl3.map SR), .sl gv4 9 1 (gl5.map SR), .obj gb1 [gv2, gv4, .slice none 0 0, .int .i64 (-1)] 54] ∧ m3_quirlaw_WalPlays_K2 a0 a1 a2 a3 gl3 gl5 = some r)) rfl en4 rfl Tryd.func4 rfl rfl rfl ?_ ?_
  ·
   refine W.seq (W.region (L.y rfl (Y.assign rfl) ?_))
   refine L.y rfl (Y.assign rfl) ?_
   refine L.nil (E.thenN (W.seqJ (fun gs D => gs = [(0, .int .i64 a0)] ∧ D = Cls w [] [] ∧ m3_quirlaw_WalPlays_K42 a0 a1 a2 a3 = some r) ?_ ?_))
   ·
    refine W.seq (W.region (L.y rfl (Y.move rfl) ?_))
    refine L.ite h rfl (Y.lss rfl rfl) (fun c947 h => ?_) (fun c947 h => ?_)
    ·
     refine L.y rfl (Y.move rfl) ?_
     refine L.pass rfl rfl (by nofun) ?_
     refine L.pass rfl rfl (by nofun) ?_
     refine L.y rfl (Y.pickT rfl rfl) ?_
     refine L.nil (E.thenN (W.condT rfl ?_))
     refine W.seq (W.region (L.y rfl (Y.assign rfl) ?_))
     refine L.y rfl (Y.assign rfl) ?_
     refine L.nil (E.thenN (W.ret (E.KSR (E.ret2 rfl rfl rfl (fun w1 hw => ?_)))))
     exact ⟨_, _, rfl, .inl ⟨rfl, rfl, h⟩, hw⟩
    ·
     refine L.y rfl (Y.move rfl) ?_
     refine L.take rfl (L.y rfl (Y.move rfl) ?_)
     refine L.take rfl (L.ite h rfl (Y.gtr rfl rfl) (fun c948 h => ?_) (fun c948 h => ?_))
     ·
      refine L.y rfl (Y.pickF rfl rfl) ?_
      refine L.nil (E.thenN (W.condT rfl ?_))
      refine W.seq (W.region (L.y rfl (Y.assign rfl) ?_))
      refine L.y rfl (Y.assign rfl) ?_
      refine L.nil (E.thenN (W.ret (E.KSR (E.ret2 rfl rfl rfl (fun w1 hw => ?_)))))
      exact ⟨_, _, rfl, .inl ⟨rfl, rfl, h⟩, hw⟩
     ·
      refine L.y rfl (Y.pickF rfl rfl) ?_
      refine L.nil (E.thenN (W.condF rfl ?_))
      exact W.skip (E.joinJ ⟨rfl, rfl, h⟩ ⟨rfl, trivial⟩ (fun _ hw => hw))
   ·
    rintro _ _ ⟨rfl, rfl, h⟩
    rw [m3_quirlaw_WalPlays_K42] at h
    refine W.seq (W.region (L.y rfl (Y.build (cells := #[.slice none 0 0, .slice none 0 0, .slice none 0 0, .int .i64 (-1)]) rfl (by kernel_rfl)) ?_))
    refine L.box rfl rfl ?_
    intro b926
    refine L.y rfl (Y.assign rfl) ?_
    refine L.nil (E.thenN (W.seqJ (fun gs D => ∃ (gv112 : Value) (gl113 : (List (List UInt8))), gs = [(4, pt b926 0)] ∧ D = Cls w [] [.obj b926 [gv112, .slice none 0 0, .slice none 0 0, .int .i64 (-1)] 54, .sl gv112 9 1 (gl113.map SR)] ∧ m3_quirlaw_WalPlays_K43 a0 a1 a2 a3 gl113 = some r) ?_ ?_))
    ·
     refine W.seq (W.region (L.y rfl (Y.move rfl) ?_))
     refine L.y rfl (Y.move rfl) ?_
     refine L.nil (E.thenN (W.block (W.nilSl 9 1 ?_)))
     refine W.loopJ (fun m gs D => ∃ (gx114 : Int) (gv115 : Value) (gl116 : (List (List UInt8))), gs = [(4, pt b926 0), (13, .int .i64 a0), (14, .int .i64 gx114)] ∧ D = Cls w [] [.obj b926 [gv115, .slice none 0 0, .slice none 0 0, .int .i64 (-1)] 54, .sl gv115 9 1 (gl116.map SR)] ∧ m3_quirlaw_WalPlays_L4 a0 a1 a2 a3 m gx114 gl116 = some r) ⟨0, .slice none 0 0, [], rfl, rfl, h⟩ ⟨rfl, rfl, rfl, trivial⟩ (fun _ hw => hw.sel [1, 0] (by decide) rfl) ?_
     rintro m _ _ ⟨gx114, gv115, gl116, rfl, rfl, h⟩
     rcases m with _ | m
     · rw [m3_quirlaw_WalPlays_L4] at h; cases h
     rw [m3_quirlaw_WalPlays_L4] at h
     generalize hg4 : m3_quirlaw_WalPlays_L4 a0 a1 a2 a3 m = go4 at h
     rw [m3_quirlaw_WalPlays_L4B] at h
     refine W.seq (W.region (L.ite h rfl (Y.lss rfl rfl) (fun c930 h => ?_) (fun c930 h => ?_)))
     ·
      refine L.nil (E.thenN (W.seq (W.condT rfl ?_)))
      refine W.skip (E.thenN (W.seq (W.block (W.drawn2 (k := 11) (stC [[7, 10], [10]] [Cls w [] [.obj b926 [gv115, .slice none 0 0, .slice none 0 0, .int .i64 (-1)] 54, .sl gv115 9 1 (gl116.map SR)], Cls w [] [.obj b926 [gv115, .slice none 0 0, .slice none 0 0, .int .i64 (-1)] 54]] (Cls w [] [])) rfl mixed (fun _ hw => hw.drew) (Sc.now (by kernel_rfl) (fun _ hw => hw)) ?_))))
      refine V2.y (i := 0) (Nx2.of (Z := Cls w [] []) [] (by kernel_rfl) rfl (Zc.on (fun _ hw => hw.sel [] (by decide) rfl) (Zc.on (fun _ hw => hw.sel [] (by decide) rfl) (Zc.fin (fun _ hw => hw))))) rfl rfl rfl (Y.move rfl) ?_
      refine V2.y (i := 1) (Nx2.of (Z := Cls w [] []) [] (by kernel_rfl) rfl (Zc.on (fun _ hw => hw.sel [] (by decide) rfl) (Zc.on (fun _ hw => hw.sel [] (by decide) rfl) (Zc.fin (fun _ hw => hw))))) rfl rfl rfl (Y.move rfl) ?_
      refine V2.nilc (i := 2) (Nx2.of (Z := Cls w [] []) [] (by kernel_rfl) rfl (Zc.on (fun _ hw => hw.sel [] (by decide) rfl) (Zc.on (fun _ hw => hw.sel [] (by decide) rfl) (Zc.fin (fun _ hw => hw))))) rfl rfl rfl ?_
      refine V2.y (i := 3) (Nx2.of (Z := Cls w [] []) [] (by kernel_rfl) rfl (Zc.on (fun _ hw => hw.sel [] (by decide) rfl) (Zc.on (fun _ hw => hw.sel [] (by decide) rfl) (Zc.fin (fun _ hw => hw))))) rfl rfl rfl (Y.fieldP fd54_0 rfl) ?_
      refine V2.y (i := 4) (Nx2.of (Z := Cls w [] [.obj b926 [gv115, .slice none 0 0, .slice none 0 0, .int .i64 (-1)] 54]) [10] (by kernel_rfl) rfl (Zc.on (fun _ hw => hw.sel [0] (by decide) rfl) (Zc.at1 (fun _ hw => hw)))) rfl rfl rfl (Y.loadP (i := 0) ag30 rfl rfl rfl) ?_
      refine V2.eff (i := 5) (by kernel_rfl) rfl ?_
      obtain ⟨s941, e942, h⟩ := bind1S h
      refine L.y rfl (Y.does en22 rfl (fun w' hw => (wRepeat ([0]) 64 w' _ e942).mono (fun _ _ h => h.1))) ?_
      refine L.nil (E.toV2 (stC [[7, 10], [10]] [Cls w [] [.obj b926 [gv115, .slice none 0 0, .slice none 0 0, .int .i64 (-1)] 54, .sl gv115 9 1 (gl116.map SR)], Cls w [] [.obj b926 [gv115, .slice none 0 0, .slice none 0 0, .int .i64 (-1)] 54]] (Cls w [] [])) 5 (by kernel_rfl) (Sc.stay (fun _ hw => hw) (Sc.stay (fun _ hw => hw) (Sc.stayD (fun _ hw => hw)))) (Sc.now (by kernel_rfl) (fun _ hw => hw)) ?_)
      refine V2.eff (i := 6) (by kernel_rfl) rfl ?_
      refine L.litOne rfl Tryd.underlying30 eL9 rfl rfl ?_
      intro b943
      refine L.nil (E.toV2 (stC [[7, 10], [10]] [Cls w [] [.sl (sv b943 1) 9 1 (([s941]).map SR), .obj b926 [gv115, .slice none 0 0, .slice none 0 0, .int .i64 (-1)] 54, .sl gv115 9 1 (gl116.map SR)], Cls w [] [.sl (sv b943 1) 9 1 (([s941]).map SR), .obj b926 [gv115, .slice none 0 0, .slice none 0 0, .int .i64 (-1)] 54]] (Cls w [] [.sl (sv b943 1) 9 1 (([s941]).map SR)])) 6 (by kernel_rfl) (Sc.stay (fun _ hw => hw.sel [1, 2] (by decide) rfl) (Sc.stay (fun _ hw => hw.sel [1] (by decide) rfl) (Sc.stayD (fun _ hw => hw.sel [] (by decide) rfl)))) (Sc.now (by kernel_rfl) (fun _ hw => hw)) ?_)
      refine V2.eff (i := 7) (by kernel_rfl) rfl ?_
      refine L.appM (i := 2) (g := SR) (l := gl116) (more := [s941]) h rfl Tryd.underlying30 eL9 rfl rfl rfl (fun w hw => As.at_ (hw.get (i := 0) rfl)) (plain_SR _) rfl ?_
      intro v944 l945 el945 h
      refine L.nil (E.toV2 (stC [[10]] [Cls w [] [.sl v944 9 1 (l945.map SR), .sl (sv b943 1) 9 1 (([s941]).map SR), .obj b926 [gv115, .slice none 0 0, .slice none 0 0, .int .i64 (-1)] 54]] (Cls w [] [.sl v944 9 1 (l945.map SR), .sl (sv b943 1) 9 1 (([s941]).map SR)])) 7 (by kernel_rfl) (Sc.past rfl (Sc.stay (fun _ hw => hw.sel [1, 2] (by decide) rfl) (Sc.stayD (fun _ hw => hw.sel [1] (by decide) rfl)))) (Sc.now (by kernel_rfl) (fun _ hw => hw)) ?_)
      refine V2.nilc (i := 8) (Nx2.of (Z := Cls w [] [.sl v944 9 1 (l945.map SR), .sl (sv b943 1) 9 1 (([s941]).map SR)]) [] (by kernel_rfl) rfl (Zc.on (fun _ hw => hw.sel [0, 1] (by decide) rfl) (Zc.fin (fun _ hw => hw)))) rfl rfl rfl ?_
      refine V2.y (i := 9) (Nx2.of (Z := Cls w [] [.sl v944 9 1 (l945.map SR), .sl (sv b943 1) 9 1 (([s941]).map SR)]) [] (by kernel_rfl) rfl (Zc.on (fun _ hw => hw.sel [0, 1] (by decide) rfl) (Zc.fin (fun _ hw => hw)))) rfl rfl rfl (Y.fieldP fd54_0 rfl) ?_
      refine V2.eff (i := 10) (by kernel_rfl) rfl ?_
      refine L.storeV (i := 2) sz30 rfl rfl (fun _ hw => (As.at_ (hw.get (i := 0) rfl)).one) rfl (Nat.le_of_ble_eq_true rfl) ?_
      refine L.nil (E.toV2 (stC [] [] (Cls w [] [.sl v944 9 1 (l945.map SR), .sl (sv b943 1) 9 1 (([s941]).map SR)])) 10 (by kernel_rfl) (Sc.past rfl (Sc.stayD (fun _ hw => hw))) (Sc.atD (fun _ hw => hw.sel [0, 1] (by decide) rfl)) ?_)
      refine V2.done (by kernel_rfl) ?_
      refine E.blockN (E.thenN (W.region (L.m (V := fun x946 => .int .i64 x946) h rfl (Y.addM rfl rfl) (fun x946 ex946 h => ?_))))
      refine L.y rfl (Y.move rfl) ?_
      exact L.nil (E.againJ ⟨x946, v944, l945, rfl, rfl, by rw [hg4]; exact h⟩ (Nat.lt_succ_self _) ⟨rfl, rfl, rfl, trivial⟩ (fun _ hw => hw.sel [2, 0] (by decide) rfl))
     ·
      refine L.nil (E.thenN (W.seq (W.condF rfl ?_)))
      exact W.exit (E.thenX (E.KLX (E.blockX (E.joinJ ⟨gv115, gl116, rfl, rfl, h⟩ ⟨rfl, trivial⟩ (fun _ hw => hw)))))
    ·
     rintro _ _ ⟨gv112, gl113, rfl, rfl, h⟩
     rw [m3_quirlaw_WalPlays_K43] at h
     refine W.seq (W.region (L.y rfl (Y.move rfl) ?_))
     refine L.lit0 rfl Tryd.underlying30 eL9 ?_
     intro b927
     refine L.y rfl (Y.move rfl) ?_
     refine L.y rfl (Y.nilCheck rfl) ?_
     refine L.y rfl (Y.fieldP fd54_0 rfl) ?_
     refine L.y rfl (Y.loadP (i := 1) ag30 rfl rfl rfl) ?_
     refine L.appM (i := 0) (g := SR) (l := []) (more := gl113) h rfl Tryd.underlying30 eL9 rfl rfl rfl (fun w hw => As.at_ (hw.get (i := 2) rfl)) (plain_SR _) rfl ?_
     intro v928 l929 el929 h
     refine L.y rfl (Y.nilCheck rfl) ?_
     refine L.y rfl (Y.fieldP fd54_1 rfl) ?_
     refine L.storeV (i := 1) sz30 rfl rfl (fun _ hw => (As.at_ (hw.get (i := 0) rfl)).one) rfl (Nat.le_of_ble_eq_true rfl) ?_
     refine L.nil (E.thenN (W.seq (W.region (L.y rfl (Y.move rfl) ?_))))
     refine L.y rfl (Y.assign rfl) ?_
     refine L.y rfl (Y.assign rfl) ?_
     refine L.nil (E.thenN (W.ret (E.ret2 rfl rfl rfl (fun w1 hw => ?_))))
     exact ⟨_, _, rfl, .inr (⟨b926, gv112, gl113, v928, l929, rfl, rfl, h⟩), hw.sel [2, 0, 1] (by decide) rfl⟩
  ·
   rintro _ _ (⟨rfl, rfl, h⟩ | ⟨gb1, gv2, gl3, gv4, gl5, rfl, rfl, h⟩)
   ·
    rw [m3_quirlaw_WalPlays_K1] at h
    refine L.y rfl (Y.move rfl) ?_
    refine L.y rfl (Y.extract rfl rfl) ?_
    refine L.y rfl (Y.extract rfl rfl) ?_
    refine L.y rfl (Y.assign rfl) ?_
    refine L.y rfl (Y.assign rfl) ?_
    refine L.nil (E.thenN (W.seq (W.seq (W.region (L.y rfl (Y.move rfl) ?_)))))
    refine L.ite h rfl (Y.neq rfl rfl) (fun c1 h => ?_) (fun c1 h => ?_)
    ·
     refine L.y rfl (Y.move rfl) ?_
     refine L.pass rfl rfl (by nofun) ?_
     refine L.pass rfl rfl (by nofun) ?_
     refine L.y rfl (Y.pickT rfl rfl) ?_
     refine L.nil (E.thenN (W.condT rfl ?_))
     refine W.seq (W.region (L.y rfl (Y.move rfl) ?_))
     refine L.ite h rfl (Y.eql rfl rfl) (fun c2 h => ?_) (fun c2 h => ?_)
     ·
      refine L.y rfl (Y.move rfl) ?_
      refine L.take rfl (L.y rfl (Y.move rfl) ?_)
      refine L.take rfl (L.ite h rfl (Y.lss rfl rfl) (fun c3 h => ?_) (fun c3 h => ?_))
      ·
       refine L.take rfl (L.y rfl (Y.move rfl) ?_)
       refine L.pass rfl rfl (by nofun) ?_
       refine L.pass rfl rfl (by nofun) ?_
       refine L.take rfl (L.y rfl (Y.pickT rfl rfl) ?_)
       refine L.y rfl (Y.pickT rfl rfl) ?_
       refine L.y rfl (Y.assign rfl) ?_
       refine L.nil (E.thenN (W.ret (E.thenR (E.ret1 rfl rfl (fun w1 hw => ?_)))))
       obtain rfl := Option.some.inj h
       exact ⟨_, _, rfl, ⟨rfl, rfl⟩, hw⟩
      ·
       refine L.take rfl (L.y rfl (Y.move rfl) ?_)
       refine L.take rfl (L.y rfl (Y.move rfl) ?_)
       refine L.take rfl (L.y rfl (Y.gtr rfl rfl) ?_)
       refine L.take rfl (L.y rfl (Y.pickF rfl rfl) ?_)
       refine L.y rfl (Y.pickT rfl rfl) ?_
       refine L.y rfl (Y.assign rfl) ?_
       refine L.nil (E.thenN (W.ret (E.thenR (E.ret1 rfl rfl (fun w1 hw => ?_)))))
       obtain rfl := Option.some.inj h
       exact ⟨_, _, rfl, ⟨rfl, rfl⟩, hw⟩
     ·
      cases h
    ·
     cases h
   ·
    rw [m3_quirlaw_WalPlays_K2] at h
    refine L.y rfl (Y.move rfl) ?_
    refine L.y rfl (Y.extract rfl rfl) ?_
    refine L.y rfl (Y.extract rfl rfl) ?_
    refine L.y rfl (Y.assign rfl) ?_
    refine L.y rfl (Y.assign rfl) ?_
    refine L.nil (E.thenN (W.seq (W.seq (W.region (L.y rfl (Y.move rfl) ?_)))))
    refine L.ite h rfl (Y.neq rfl rfl) (fun c4 h => ?_) (fun c4 h => ?_)
    ·
     cases h
    ·
     refine L.y rfl (Y.move rfl) ?_
     refine L.take rfl (L.y rfl (Y.move rfl) ?_)
     refine L.take rfl (L.y rfl (Y.eqlPN Tryd.underlying23 rfl rfl) ?_)
     refine L.y rfl (Y.pickF rfl rfl) ?_
     refine L.nil (E.thenN (W.condF rfl ?_))
     refine W.skip (E.thenN (W.seq (W.region (L.y rfl (Y.move rfl) ?_))))
     refine L.callJ (fun v D => ∃ (gb6 : Nat) (gv7 : Value) (gl8 : (List (List UInt8))) (gv9 : Value) (gl10 : (List (List UInt8))), v = pt gb6 0 ∧ D = Cls w [] [.obj gb1 [gv2, gv4, .slice none 0 0, .int .i64 (-1)] 54, .sl gv7 9 1 (gl8.map SR), .sl gv9 9 1 (gl10.map SR), .obj gb6 [gv7, gv9, .slice none 0 0, .slice none 0 0, .int .i64 (-1)] 48, .sl gv2 9 1 (gl3.map SR), .sl gv4 9 1 (gl5.map SR)] ∧ m3_quirlaw_WalPlays_K3 gl3 gl5 a1 a2 a3 gl8 gl10 = some r) rfl en5 rfl Tryd.func5 rfl rfl rfl ?_ ?_
     ·
      refine W.seq (W.region (L.y rfl (Y.assign rfl) ?_))
      refine L.nil (E.thenN (W.seq (W.region (L.y rfl (Y.build (cells := #[.slice none 0 0, .slice none 0 0, .slice none 0 0, .slice none 0 0, .int .i64 (-1)]) rfl (by kernel_rfl)) ?_))))
      refine L.box rfl rfl ?_
      intro b888
      refine L.y rfl (Y.assign rfl) ?_
      refine L.nil (E.thenN (W.seqJ (fun gs D => ∃ (gv103 : Value) (gl104 : (List (List UInt8))) (gv105 : Value) (gl106 : (List (List UInt8))), gs = [(3, pt b888 0)] ∧ D = Cls w [] [.obj b888 [gv103, gv105, .slice none 0 0, .slice none 0 0, .int .i64 (-1)] 48, .obj gb1 [gv2, gv4, .slice none 0 0, .int .i64 (-1)] 54, .sl gv103 9 1 (gl104.map SR), .sl gv105 9 1 (gl106.map SR), .sl gv2 9 1 (gl3.map SR), .sl gv4 9 1 (gl5.map SR)] ∧ m3_quirlaw_WalPlays_K41 gl3 gl5 a1 a2 a3 gl104 gl106 = some r) ?_ ?_))
      ·
       refine W.seq (W.region (L.y rfl (Y.move rfl) ?_))
       refine L.y rfl (Y.move rfl) ?_
       refine L.nil (E.thenN (W.block (W.nilSl 9 1 ?_)))
       refine W.nilSl 9 1 ?_
       refine W.loopJ (fun m gs D => ∃ (gx107 : Int) (gv108 : Value) (gl109 : (List (List UInt8))) (gv110 : Value) (gl111 : (List (List UInt8))), gs = [(3, pt b888 0), (6, .int .i64 a0), (7, .int .i64 gx107)] ∧ D = Cls w [] [.obj b888 [gv108, gv110, .slice none 0 0, .slice none 0 0, .int .i64 (-1)] 48, .obj gb1 [gv2, gv4, .slice none 0 0, .int .i64 (-1)] 54, .sl gv108 9 1 (gl109.map SR), .sl gv110 9 1 (gl111.map SR), .sl gv2 9 1 (gl3.map SR), .sl gv4 9 1 (gl5.map SR)] ∧ m3_quirlaw_WalPlays_L3 a0 gl3 gl5 a1 a2 a3 m gx107 gl109 gl111 = some r) ⟨0, .slice none 0 0, [], .slice none 0 0, [], rfl, rfl, h⟩ ⟨rfl, rfl, rfl, trivial⟩ (fun _ hw => hw.sel [2, 5, 1, 0, 3, 4] (by decide) rfl) ?_
       rintro m _ _ ⟨gx107, gv108, gl109, gv110, gl111, rfl, rfl, h⟩
       rcases m with _ | m
       · rw [m3_quirlaw_WalPlays_L3] at h; cases h
       rw [m3_quirlaw_WalPlays_L3] at h
       generalize hg3 : m3_quirlaw_WalPlays_L3 a0 gl3 gl5 a1 a2 a3 m = go3 at h
       rw [m3_quirlaw_WalPlays_L3B] at h
       refine W.seq (W.region (L.ite h rfl (Y.lss rfl rfl) (fun c889 h => ?_) (fun c889 h => ?_)))
       ·
        refine L.nil (E.thenN (W.seq (W.condT rfl ?_)))
        refine W.skip (E.thenN (W.seq (W.block (W.drawn2 (k := 22) (stC [[8, 15, 18], [15, 18], [18]] [Cls w [] [.obj b888 [gv108, gv110, .slice none 0 0, .slice none 0 0, .int .i64 (-1)] 48, .obj gb1 [gv2, gv4, .slice none 0 0, .int .i64 (-1)] 54, .sl gv108 9 1 (gl109.map SR), .sl gv110 9 1 (gl111.map SR), .sl gv2 9 1 (gl3.map SR), .sl gv4 9 1 (gl5.map SR)], Cls w [] [.obj b888 [gv108, gv110, .slice none 0 0, .slice none 0 0, .int .i64 (-1)] 48, .obj gb1 [gv2, gv4, .slice none 0 0, .int .i64 (-1)] 54, .sl gv110 9 1 (gl111.map SR), .sl gv2 9 1 (gl3.map SR), .sl gv4 9 1 (gl5.map SR)], Cls w [] [.obj b888 [gv108, gv110, .slice none 0 0, .slice none 0 0, .int .i64 (-1)] 48, .obj gb1 [gv2, gv4, .slice none 0 0, .int .i64 (-1)] 54, .sl gv2 9 1 (gl3.map SR), .sl gv4 9 1 (gl5.map SR)]] (Cls w [] [.obj gb1 [gv2, gv4, .slice none 0 0, .int .i64 (-1)] 54, .sl gv2 9 1 (gl3.map SR), .sl gv4 9 1 (gl5.map SR)])) rfl mixed (fun _ hw => hw.drew) (Sc.now (by kernel_rfl) (fun _ hw => hw)) ?_))))
        refine V2.y (i := 0) (Nx2.of (Z := Cls w [] [.obj gb1 [gv2, gv4, .slice none 0 0, .int .i64 (-1)] 54, .sl gv2 9 1 (gl3.map SR), .sl gv4 9 1 (gl5.map SR)]) [] (by kernel_rfl) rfl (Zc.on (fun _ hw => hw.sel [1, 4, 5] (by decide) rfl) (Zc.on (fun _ hw => hw.sel [1, 3, 4] (by decide) rfl) (Zc.on (fun _ hw => hw.sel [1, 2, 3] (by decide) rfl) (Zc.fin (fun _ hw => hw)))))) rfl rfl rfl (Y.move rfl) ?_
        refine V2.y (i := 1) (Nx2.of (Z := Cls w [] [.obj gb1 [gv2, gv4, .slice none 0 0, .int .i64 (-1)] 54, .sl gv2 9 1 (gl3.map SR), .sl gv4 9 1 (gl5.map SR)]) [] (by kernel_rfl) rfl (Zc.on (fun _ hw => hw.sel [1, 4, 5] (by decide) rfl) (Zc.on (fun _ hw => hw.sel [1, 3, 4] (by decide) rfl) (Zc.on (fun _ hw => hw.sel [1, 2, 3] (by decide) rfl) (Zc.fin (fun _ hw => hw)))))) rfl rfl rfl (Y.move rfl) ?_
        refine V2.y (i := 2) (Nx2.of (Z := Cls w [] [.obj gb1 [gv2, gv4, .slice none 0 0, .int .i64 (-1)] 54, .sl gv2 9 1 (gl3.map SR), .sl gv4 9 1 (gl5.map SR)]) [] (by kernel_rfl) rfl (Zc.on (fun _ hw => hw.sel [1, 4, 5] (by decide) rfl) (Zc.on (fun _ hw => hw.sel [1, 3, 4] (by decide) rfl) (Zc.on (fun _ hw => hw.sel [1, 2, 3] (by decide) rfl) (Zc.fin (fun _ hw => hw)))))) rfl rfl rfl (Y.move rfl) ?_
        refine V2.nilc (i := 3) (Nx2.of (Z := Cls w [] [.obj gb1 [gv2, gv4, .slice none 0 0, .int .i64 (-1)] 54, .sl gv2 9 1 (gl3.map SR), .sl gv4 9 1 (gl5.map SR)]) [] (by kernel_rfl) rfl (Zc.on (fun _ hw => hw.sel [1, 4, 5] (by decide) rfl) (Zc.on (fun _ hw => hw.sel [1, 3, 4] (by decide) rfl) (Zc.on (fun _ hw => hw.sel [1, 2, 3] (by decide) rfl) (Zc.fin (fun _ hw => hw)))))) rfl rfl rfl ?_
        refine V2.y (i := 4) (Nx2.of (Z := Cls w [] [.obj gb1 [gv2, gv4, .slice none 0 0, .int .i64 (-1)] 54, .sl gv2 9 1 (gl3.map SR), .sl gv4 9 1 (gl5.map SR)]) [] (by kernel_rfl) rfl (Zc.on (fun _ hw => hw.sel [1, 4, 5] (by decide) rfl) (Zc.on (fun _ hw => hw.sel [1, 3, 4] (by decide) rfl) (Zc.on (fun _ hw => hw.sel [1, 2, 3] (by decide) rfl) (Zc.fin (fun _ hw => hw)))))) rfl rfl rfl (Y.fieldP fd48_0 rfl) ?_
        refine V2.y (i := 5) (Nx2.of (Z := Cls w [] [.obj b888 [gv108, gv110, .slice none 0 0, .slice none 0 0, .int .i64 (-1)] 48, .obj gb1 [gv2, gv4, .slice none 0 0, .int .i64 (-1)] 54, .sl gv2 9 1 (gl3.map SR), .sl gv4 9 1 (gl5.map SR)]) [18] (by kernel_rfl) rfl (Zc.on (fun _ hw => hw.sel [0, 1, 4, 5] (by decide) rfl) (Zc.on (fun _ hw => hw.sel [0, 1, 3, 4] (by decide) rfl) (Zc.at1 (fun _ hw => hw))))) rfl rfl rfl (Y.loadP (i := 0) ag30 rfl rfl rfl) ?_
        refine V2.y (i := 9) (Nx2.of (Z := Cls w [] [.obj gb1 [gv2, gv4, .slice none 0 0, .int .i64 (-1)] 54, .sl gv2 9 1 (gl3.map SR), .sl gv4 9 1 (gl5.map SR)]) [] (by kernel_rfl) rfl (Zc.on (fun _ hw => hw.sel [1, 4, 5] (by decide) rfl) (Zc.on (fun _ hw => hw.sel [1, 3, 4] (by decide) rfl) (Zc.on (fun _ hw => hw.sel [1, 2, 3] (by decide) rfl) (Zc.fin (fun _ hw => hw)))))) rfl rfl rfl (Y.move rfl) ?_
        refine V2.nilc (i := 10) (Nx2.of (Z := Cls w [] [.obj gb1 [gv2, gv4, .slice none 0 0, .int .i64 (-1)] 54, .sl gv2 9 1 (gl3.map SR), .sl gv4 9 1 (gl5.map SR)]) [] (by kernel_rfl) rfl (Zc.on (fun _ hw => hw.sel [1, 4, 5] (by decide) rfl) (Zc.on (fun _ hw => hw.sel [1, 3, 4] (by decide) rfl) (Zc.on (fun _ hw => hw.sel [1, 2, 3] (by decide) rfl) (Zc.fin (fun _ hw => hw)))))) rfl rfl rfl ?_
        refine V2.y (i := 11) (Nx2.of (Z := Cls w [] [.obj gb1 [gv2, gv4, .slice none 0 0, .int .i64 (-1)] 54, .sl gv2 9 1 (gl3.map SR), .sl gv4 9 1 (gl5.map SR)]) [] (by kernel_rfl) rfl (Zc.on (fun _ hw => hw.sel [1, 4, 5] (by decide) rfl) (Zc.on (fun _ hw => hw.sel [1, 3, 4] (by decide) rfl) (Zc.on (fun _ hw => hw.sel [1, 2, 3] (by decide) rfl) (Zc.fin (fun _ hw => hw)))))) rfl rfl rfl (Y.fieldP fd48_1 rfl) ?_
        refine V2.y (i := 12) (Nx2.of (Z := Cls w [] [.obj b888 [gv108, gv110, .slice none 0 0, .slice none 0 0, .int .i64 (-1)] 48, .obj gb1 [gv2, gv4, .slice none 0 0, .int .i64 (-1)] 54, .sl gv2 9 1 (gl3.map SR), .sl gv4 9 1 (gl5.map SR)]) [18] (by kernel_rfl) rfl (Zc.on (fun _ hw => hw.sel [0, 1, 4, 5] (by decide) rfl) (Zc.on (fun _ hw => hw.sel [0, 1, 3, 4] (by decide) rfl) (Zc.at1 (fun _ hw => hw))))) rfl rfl rfl (Y.loadP (i := 0) ag30 rfl rfl rfl) ?_
        refine V2.eff (i := 6) (by kernel_rfl) rfl ?_
        obtain ⟨s915, e916, h⟩ := bind1S h
        refine L.y rfl (Y.does en23 rfl (fun w' hw => (w23_quirref_blank 64 w' _ e916).mono (fun _ _ h => h.1))) ?_
        refine L.nil (E.toV2 (stC [[8, 15, 18], [15, 18], [18]] [Cls w [] [.obj b888 [gv108, gv110, .slice none 0 0, .slice none 0 0, .int .i64 (-1)] 48, .obj gb1 [gv2, gv4, .slice none 0 0, .int .i64 (-1)] 54, .sl gv108 9 1 (gl109.map SR), .sl gv110 9 1 (gl111.map SR), .sl gv2 9 1 (gl3.map SR), .sl gv4 9 1 (gl5.map SR)], Cls w [] [.obj b888 [gv108, gv110, .slice none 0 0, .slice none 0 0, .int .i64 (-1)] 48, .obj gb1 [gv2, gv4, .slice none 0 0, .int .i64 (-1)] 54, .sl gv110 9 1 (gl111.map SR), .sl gv2 9 1 (gl3.map SR), .sl gv4 9 1 (gl5.map SR)], Cls w [] [.obj b888 [gv108, gv110, .slice none 0 0, .slice none 0 0, .int .i64 (-1)] 48, .obj gb1 [gv2, gv4, .slice none 0 0, .int .i64 (-1)] 54, .sl gv2 9 1 (gl3.map SR), .sl gv4 9 1 (gl5.map SR)]] (Cls w [] [.obj gb1 [gv2, gv4, .slice none 0 0, .int .i64 (-1)] 54, .sl gv2 9 1 (gl3.map SR), .sl gv4 9 1 (gl5.map SR)])) 6 (by kernel_rfl) (Sc.stay (fun _ hw => hw) (Sc.stay (fun _ hw => hw) (Sc.stay (fun _ hw => hw) (Sc.stayD (fun _ hw => hw))))) (Sc.now (by kernel_rfl) (fun _ hw => hw)) ?_)
        refine V2.eff (i := 7) (by kernel_rfl) rfl ?_
        refine L.litOne rfl Tryd.underlying30 eL9 rfl rfl ?_
        intro b917
        refine L.nil (E.toV2 (stC [[8, 15, 18], [15, 18], [18]] [Cls w [] [.sl (sv b917 1) 9 1 (([s915]).map SR), .obj b888 [gv108, gv110, .slice none 0 0, .slice none 0 0, .int .i64 (-1)] 48, .obj gb1 [gv2, gv4, .slice none 0 0, .int .i64 (-1)] 54, .sl gv108 9 1 (gl109.map SR), .sl gv110 9 1 (gl111.map SR), .sl gv2 9 1 (gl3.map SR), .sl gv4 9 1 (gl5.map SR)], Cls w [] [.sl (sv b917 1) 9 1 (([s915]).map SR), .obj b888 [gv108, gv110, .slice none 0 0, .slice none 0 0, .int .i64 (-1)] 48, .obj gb1 [gv2, gv4, .slice none 0 0, .int .i64 (-1)] 54, .sl gv110 9 1 (gl111.map SR), .sl gv2 9 1 (gl3.map SR), .sl gv4 9 1 (gl5.map SR)], Cls w [] [.sl (sv b917 1) 9 1 (([s915]).map SR), .obj b888 [gv108, gv110, .slice none 0 0, .slice none 0 0, .int .i64 (-1)] 48, .obj gb1 [gv2, gv4, .slice none 0 0, .int .i64 (-1)] 54, .sl gv2 9 1 (gl3.map SR), .sl gv4 9 1 (gl5.map SR)]] (Cls w [] [.sl (sv b917 1) 9 1 (([s915]).map SR), .obj gb1 [gv2, gv4, .slice none 0 0, .int .i64 (-1)] 54, .sl gv2 9 1 (gl3.map SR), .sl gv4 9 1 (gl5.map SR)])) 7 (by kernel_rfl) (Sc.stay (fun _ hw => hw.sel [1, 2, 3, 4, 5, 6] (by decide) rfl) (Sc.stay (fun _ hw => hw.sel [1, 2, 3, 4, 5] (by decide) rfl) (Sc.stay (fun _ hw => hw.sel [1, 2, 3, 4] (by decide) rfl) (Sc.stayD (fun _ hw => hw.sel [1, 2, 3] (by decide) rfl))))) (Sc.now (by kernel_rfl) (fun _ hw => hw)) ?_)
        refine V2.eff (i := 8) (by kernel_rfl) rfl ?_
        refine L.appM (i := 3) (g := SR) (l := gl109) (more := [s915]) h rfl Tryd.underlying30 eL9 rfl rfl rfl (fun w hw => As.at_ (hw.get (i := 0) rfl)) (plain_SR _) rfl ?_
        intro v918 l919 el919 h
        refine L.nil (E.toV2 (stC [[15, 18], [18]] [Cls w [] [.sl v918 9 1 (l919.map SR), .sl (sv b917 1) 9 1 (([s915]).map SR), .obj b888 [gv108, gv110, .slice none 0 0, .slice none 0 0, .int .i64 (-1)] 48, .obj gb1 [gv2, gv4, .slice none 0 0, .int .i64 (-1)] 54, .sl gv110 9 1 (gl111.map SR), .sl gv2 9 1 (gl3.map SR), .sl gv4 9 1 (gl5.map SR)], Cls w [] [.sl v918 9 1 (l919.map SR), .sl (sv b917 1) 9 1 (([s915]).map SR), .obj b888 [gv108, gv110, .slice none 0 0, .slice none 0 0, .int .i64 (-1)] 48, .obj gb1 [gv2, gv4, .slice none 0 0, .int .i64 (-1)] 54, .sl gv2 9 1 (gl3.map SR), .sl gv4 9 1 (gl5.map SR)]] (Cls w [] [.sl v918 9 1 (l919.map SR), .sl (sv b917 1) 9 1 (([s915]).map SR), .obj gb1 [gv2, gv4, .slice none 0 0, .int .i64 (-1)] 54, .sl gv2 9 1 (gl3.map SR), .sl gv4 9 1 (gl5.map SR)])) 8 (by kernel_rfl) (Sc.past rfl (Sc.stay (fun _ hw => hw.sel [1, 2, 3, 4, 5, 6] (by decide) rfl) (Sc.stay (fun _ hw => hw.sel [1, 2, 3, 4, 5] (by decide) rfl) (Sc.stayD (fun _ hw => hw.sel [1, 2, 3, 4] (by decide) rfl))))) (Sc.now (by kernel_rfl) (fun _ hw => hw)) ?_)
        refine V2.eff (i := 13) (by kernel_rfl) rfl ?_
        obtain ⟨s920, e921, h⟩ := bind1S h
        refine L.y rfl (Y.does en23 rfl (fun w' hw => (w23_quirref_blank 64 w' _ e921).mono (fun _ _ h => h.1))) ?_
        refine L.nil (E.toV2 (stC [[15, 18], [18]] [Cls w [] [.sl v918 9 1 (l919.map SR), .sl (sv b917 1) 9 1 (([s915]).map SR), .obj b888 [gv108, gv110, .slice none 0 0, .slice none 0 0, .int .i64 (-1)] 48, .obj gb1 [gv2, gv4, .slice none 0 0, .int .i64 (-1)] 54, .sl gv110 9 1 (gl111.map SR), .sl gv2 9 1 (gl3.map SR), .sl gv4 9 1 (gl5.map SR)], Cls w [] [.sl v918 9 1 (l919.map SR), .sl (sv b917 1) 9 1 (([s915]).map SR), .obj b888 [gv108, gv110, .slice none 0 0, .slice none 0 0, .int .i64 (-1)] 48, .obj gb1 [gv2, gv4, .slice none 0 0, .int .i64 (-1)] 54, .sl gv2 9 1 (gl3.map SR), .sl gv4 9 1 (gl5.map SR)]] (Cls w [] [.sl v918 9 1 (l919.map SR), .sl (sv b917 1) 9 1 (([s915]).map SR), .obj gb1 [gv2, gv4, .slice none 0 0, .int .i64 (-1)] 54, .sl gv2 9 1 (gl3.map SR), .sl gv4 9 1 (gl5.map SR)])) 13 (by kernel_rfl) (Sc.stay (fun _ hw => hw) (Sc.stay (fun _ hw => hw) (Sc.stayD (fun _ hw => hw)))) (Sc.now (by kernel_rfl) (fun _ hw => hw)) ?_)
        refine V2.eff (i := 14) (by kernel_rfl) rfl ?_
        refine L.litOne rfl Tryd.underlying30 eL9 rfl rfl ?_
        intro b922
        refine L.nil (E.toV2 (stC [[15, 18], [18]] [Cls w [] [.sl (sv b922 1) 9 1 (([s920]).map SR), .sl v918 9 1 (l919.map SR), .sl (sv b917 1) 9 1 (([s915]).map SR), .obj b888 [gv108, gv110, .slice none 0 0, .slice none 0 0, .int .i64 (-1)] 48, .obj gb1 [gv2, gv4, .slice none 0 0, .int .i64 (-1)] 54, .sl gv110 9 1 (gl111.map SR), .sl gv2 9 1 (gl3.map SR), .sl gv4 9 1 (gl5.map SR)], Cls w [] [.sl (sv b922 1) 9 1 (([s920]).map SR), .sl v918 9 1 (l919.map SR), .sl (sv b917 1) 9 1 (([s915]).map SR), .obj b888 [gv108, gv110, .slice none 0 0, .slice none 0 0, .int .i64 (-1)] 48, .obj gb1 [gv2, gv4, .slice none 0 0, .int .i64 (-1)] 54, .sl gv2 9 1 (gl3.map SR), .sl gv4 9 1 (gl5.map SR)]] (Cls w [] [.sl (sv b922 1) 9 1 (([s920]).map SR), .sl v918 9 1 (l919.map SR), .sl (sv b917 1) 9 1 (([s915]).map SR), .obj gb1 [gv2, gv4, .slice none 0 0, .int .i64 (-1)] 54, .sl gv2 9 1 (gl3.map SR), .sl gv4 9 1 (gl5.map SR)])) 14 (by kernel_rfl) (Sc.stay (fun _ hw => hw.sel [1, 2, 3, 4, 5, 6, 7] (by decide) rfl) (Sc.stay (fun _ hw => hw.sel [1, 2, 3, 4, 5, 6] (by decide) rfl) (Sc.stayD (fun _ hw => hw.sel [1, 2, 3, 4, 5] (by decide) rfl)))) (Sc.now (by kernel_rfl) (fun _ hw => hw)) ?_)
        refine V2.eff (i := 15) (by kernel_rfl) rfl ?_
        refine L.appM (i := 5) (g := SR) (l := gl111) (more := [s920]) h rfl Tryd.underlying30 eL9 rfl rfl rfl (fun w hw => As.at_ (hw.get (i := 0) rfl)) (plain_SR _) rfl ?_
        intro v923 l924 el924 h
        refine L.nil (E.toV2 (stC [[18]] [Cls w [] [.sl v923 9 1 (l924.map SR), .sl (sv b922 1) 9 1 (([s920]).map SR), .sl v918 9 1 (l919.map SR), .sl (sv b917 1) 9 1 (([s915]).map SR), .obj b888 [gv108, gv110, .slice none 0 0, .slice none 0 0, .int .i64 (-1)] 48, .obj gb1 [gv2, gv4, .slice none 0 0, .int .i64 (-1)] 54, .sl gv2 9 1 (gl3.map SR), .sl gv4 9 1 (gl5.map SR)]] (Cls w [] [.sl v923 9 1 (l924.map SR), .sl (sv b922 1) 9 1 (([s920]).map SR), .sl v918 9 1 (l919.map SR), .sl (sv b917 1) 9 1 (([s915]).map SR), .obj gb1 [gv2, gv4, .slice none 0 0, .int .i64 (-1)] 54, .sl gv2 9 1 (gl3.map SR), .sl gv4 9 1 (gl5.map SR)])) 15 (by kernel_rfl) (Sc.past rfl (Sc.stay (fun _ hw => hw.sel [1, 2, 3, 4, 5, 6, 7] (by decide) rfl) (Sc.stayD (fun _ hw => hw.sel [1, 2, 3, 4, 5, 6] (by decide) rfl)))) (Sc.now (by kernel_rfl) (fun _ hw => hw)) ?_)
        refine V2.nilc (i := 16) (Nx2.of (Z := Cls w [] [.sl v923 9 1 (l924.map SR), .sl (sv b922 1) 9 1 (([s920]).map SR), .sl v918 9 1 (l919.map SR), .sl (sv b917 1) 9 1 (([s915]).map SR), .obj gb1 [gv2, gv4, .slice none 0 0, .int .i64 (-1)] 54, .sl gv2 9 1 (gl3.map SR), .sl gv4 9 1 (gl5.map SR)]) [] (by kernel_rfl) rfl (Zc.on (fun _ hw => hw.sel [0, 1, 2, 3, 5, 6, 7] (by decide) rfl) (Zc.fin (fun _ hw => hw)))) rfl rfl rfl ?_
        refine V2.y (i := 17) (Nx2.of (Z := Cls w [] [.sl v923 9 1 (l924.map SR), .sl (sv b922 1) 9 1 (([s920]).map SR), .sl v918 9 1 (l919.map SR), .sl (sv b917 1) 9 1 (([s915]).map SR), .obj gb1 [gv2, gv4, .slice none 0 0, .int .i64 (-1)] 54, .sl gv2 9 1 (gl3.map SR), .sl gv4 9 1 (gl5.map SR)]) [] (by kernel_rfl) rfl (Zc.on (fun _ hw => hw.sel [0, 1, 2, 3, 5, 6, 7] (by decide) rfl) (Zc.fin (fun _ hw => hw)))) rfl rfl rfl (Y.fieldP fd48_0 rfl) ?_
        refine V2.eff (i := 18) (by kernel_rfl) rfl ?_
        refine L.storeV (i := 4) sz30 rfl rfl (fun _ hw => (As.at_ (hw.get (i := 2) rfl)).one) rfl (Nat.le_of_ble_eq_true rfl) ?_
        refine L.nil (E.toV2 (stC [] [] (Cls w [] [.sl v923 9 1 (l924.map SR), .sl (sv b922 1) 9 1 (([s920]).map SR), .sl v918 9 1 (l919.map SR), .sl (sv b917 1) 9 1 (([s915]).map SR), .obj gb1 [gv2, gv4, .slice none 0 0, .int .i64 (-1)] 54, .sl gv2 9 1 (gl3.map SR), .sl gv4 9 1 (gl5.map SR)])) 18 (by kernel_rfl) (Sc.past rfl (Sc.stayD (fun _ hw => hw))) (Sc.atD (fun _ hw => hw.sel [0, 1, 2, 3, 5, 6, 7] (by decide) rfl)) ?_)
        refine V2.nilc (i := 19) (Nx2.of (Z := Cls w [] [.sl v923 9 1 (l924.map SR), .sl (sv b922 1) 9 1 (([s920]).map SR), .sl v918 9 1 (l919.map SR), .sl (sv b917 1) 9 1 (([s915]).map SR), .obj gb1 [gv2, gv4, .slice none 0 0, .int .i64 (-1)] 54, .sl gv2 9 1 (gl3.map SR), .sl gv4 9 1 (gl5.map SR)]) [] (by kernel_rfl) rfl (Zc.fin (fun _ hw => hw))) rfl rfl rfl ?_
        refine V2.y (i := 20) (Nx2.of (Z := Cls w [] [.sl v923 9 1 (l924.map SR), .sl (sv b922 1) 9 1 (([s920]).map SR), .sl v918 9 1 (l919.map SR), .sl (sv b917 1) 9 1 (([s915]).map SR), .obj gb1 [gv2, gv4, .slice none 0 0, .int .i64 (-1)] 54, .sl gv2 9 1 (gl3.map SR), .sl gv4 9 1 (gl5.map SR)]) [] (by kernel_rfl) rfl (Zc.fin (fun _ hw => hw))) rfl rfl rfl (Y.fieldP fd48_1 rfl) ?_
        refine V2.eff (i := 21) (by kernel_rfl) rfl ?_
        refine L.storeV (i := 4) sz30 rfl rfl (fun _ hw => (As.at_ (hw.get (i := 0) rfl)).one) rfl (Nat.le_of_ble_eq_true rfl) ?_
        refine L.nil (E.toV2 (stC [] [] (Cls w [] [.sl v923 9 1 (l924.map SR), .sl (sv b922 1) 9 1 (([s920]).map SR), .sl v918 9 1 (l919.map SR), .sl (sv b917 1) 9 1 (([s915]).map SR), .obj gb1 [gv2, gv4, .slice none 0 0, .int .i64 (-1)] 54, .sl gv2 9 1 (gl3.map SR), .sl gv4 9 1 (gl5.map SR)])) 21 (by kernel_rfl) (Sc.stayD (fun _ hw => hw)) (Sc.atD (fun _ hw => hw.sel [0, 1, 2, 3, 5, 6, 7] (by decide) rfl)) ?_)
        refine V2.done (by kernel_rfl) ?_
        refine E.blockN (E.thenN (W.region (L.m (V := fun x925 => .int .i64 x925) h rfl (Y.addM rfl rfl) (fun x925 ex925 h => ?_))))
        refine L.y rfl (Y.move rfl) ?_
        exact L.nil (E.againJ ⟨x925, v918, l919, v923, l924, rfl, rfl, by rw [hg3]; exact h⟩ (Nat.lt_succ_self _) ⟨rfl, rfl, rfl, trivial⟩ (fun _ hw => hw.sel [4, 5, 2, 0, 6, 7] (by decide) rfl))
       ·
        refine L.nil (E.thenN (W.seq (W.condF rfl ?_)))
        exact W.exit (E.thenX (E.KLX (E.blockX (E.joinJ ⟨gv108, gl109, gv110, gl111, rfl, rfl, h⟩ ⟨rfl, trivial⟩ (fun _ hw => hw)))))
      ·
       rintro _ _ ⟨gv103, gl104, gv105, gl106, rfl, rfl, h⟩
       rw [m3_quirlaw_WalPlays_K41] at h
       refine W.seq (W.region (L.y rfl (Y.move rfl) ?_))
       refine L.y rfl (Y.assign rfl) ?_
       refine L.nil (E.thenN (W.ret (E.ret1 rfl rfl (fun w1 hw => ?_))))
       exact ⟨_, _, rfl, ⟨b888, gv103, gl104, gv105, gl106, rfl, rfl, h⟩, hw.sel [1, 2, 3, 0, 4, 5] (by decide) rfl⟩
     ·
      rintro _ _ ⟨gb6, gv7, gl8, gv9, gl10, rfl, rfl, h⟩
      rw [m3_quirlaw_WalPlays_K3] at h
      refine L.y rfl (Y.assign rfl) ?_
      refine L.nil (E.thenN (W.seq (W.region (L.y rfl (Y.move rfl) ?_))))
      refine L.y rfl (Y.move rfl) ?_
      refine L.y rfl (Y.move rfl) ?_
      refine L.nilSl 75 2 ?_
      refine L.to (D := Cls w [] [.obj gb1 [gv2, gv4, .slice none 0 0, .int .i64 (-1)] 54, .sl gv2 9 1 (gl3.map SR), .sl gv4 9 1 (gl5.map SR), .sl (.slice none 0 0) 75 2 ([].map Twrite.row), .sl gv7 9 1 (gl8.map SR), .sl gv9 9 1 (gl10.map SR), .obj gb6 [gv7, gv9, .slice none 0 0, .slice none 0 0, .int .i64 (-1)] 48]) (fun _ hw => hw.sel [1, 5, 6, 0, 2, 3, 4] (by decide) rfl) ?_
      rcases bindES h with ⟨p9, e10, h⟩ | ⟨p11, e12, h⟩
      ·
       refine L.doesP (A := [.obj gb1 [gv2, gv4, .slice none 0 0, .int .i64 (-1)] 54, .sl gv2 9 1 (gl3.map SR), .sl gv4 9 1 (gl5.map SR), .sl (.slice none 0 0) 75 2 ([].map Twrite.row)]) (M := [.sl gv7 9 1 (gl8.map SR), .sl gv9 9 1 (gl10.map SR), .obj gb6 [gv7, gv9, .slice none 0 0, .slice none 0 0, .int .i64 (-1)] 48]) rfl en6 rfl (fun w' hw => w6_wal_Open gl3 gl5 [] (-1) a1 a2 gb1 gv2 gv4 (.slice none 0 0) w' _ e10 _ hw.lend) ?_
       rintro _ _ ⟨v13, v14, v15, v16, rfl, rfl⟩
       refine L.to (D := Cls w [] [.obj gb1 [v13, v14, v15, .int .i64 p9.2.2.2.1] 54, .sl v13 9 1 (p9.1.map SR), .sl v14 9 1 (p9.2.1.map SR), .sl v15 75 2 (p9.2.2.1.map Twrite.row), .sl v16 9 1 (p9.2.2.2.2.1.map SR), .sl gv7 9 1 (gl8.map SR), .sl gv9 9 1 (gl10.map SR), .obj gb6 [gv7, gv9, .slice none 0 0, .slice none 0 0, .int .i64 (-1)] 48]) (fun _ hw => hw) ?_
       refine L.y rfl (Y.move rfl) ?_
       refine L.y rfl (Y.extract rfl rfl) ?_
       refine L.y rfl (Y.extract rfl rfl) ?_
       refine L.y rfl (Y.extract rfl rfl) ?_
       refine L.y rfl (Y.assign rfl) ?_
       refine L.y rfl (Y.assign rfl) ?_
       refine L.y rfl (Y.assign rfl) ?_
       refine L.nil (E.thenN (W.seq (W.region (L.y rfl (Y.move rfl) ?_))))
       refine L.y rfl (Y.move rfl) ?_
       refine L.y rfl (Y.move rfl) ?_
       refine L.nilSl 3 1 ?_
       refine L.nilSl 9 1 ?_
       refine L.to (D := Cls w [] [.obj gb6 [gv7, gv9, .slice none 0 0, .slice none 0 0, .int .i64 (-1)] 48, .sl gv7 9 1 (gl8.map SR), .sl gv9 9 1 (gl10.map SR), .sl (.slice none 0 0) 3 1 ([].map I), .sl (.slice none 0 0) 9 1 ([].map SR), .obj gb1 [v13, v14, v15, .int .i64 p9.2.2.2.1] 54, .sl v13 9 1 (p9.1.map SR), .sl v14 9 1 (p9.2.1.map SR), .sl v15 75 2 (p9.2.2.1.map Twrite.row), .sl v16 9 1 (p9.2.2.2.2.1.map SR)]) (fun _ hw => hw.sel [9, 7, 8, 1, 0, 2, 3, 4, 5, 6] (by decide) rfl) ?_
       rcases bindES h with ⟨p22, e23, h⟩ | ⟨p24, e25, h⟩
       ·
        refine L.doesP (A := [.obj gb6 [gv7, gv9, .slice none 0 0, .slice none 0 0, .int .i64 (-1)] 48, .sl gv7 9 1 (gl8.map SR), .sl gv9 9 1 (gl10.map SR), .sl (.slice none 0 0) 3 1 ([].map I), .sl (.slice none 0 0) 9 1 ([].map SR)]) (M := [.obj gb1 [v13, v14, v15, .int .i64 p9.2.2.2.1] 54, .sl v13 9 1 (p9.1.map SR), .sl v14 9 1 (p9.2.1.map SR), .sl v15 75 2 (p9.2.2.1.map Twrite.row), .sl v16 9 1 (p9.2.2.2.2.1.map SR)]) rfl en7 rfl (fun w' hw => w7_quirref_OpenLog gl8 gl10 [] [] (-1) a1 a2 gb6 gv7 gv9 (.slice none 0 0) (.slice none 0 0) w' _ e23 _ hw.lend) ?_
        rintro _ _ ⟨v26, v27, v28, v29, v30, rfl, rfl⟩
        refine L.to (D := Cls w [] [.obj gb6 [v26, v27, v28, v29, .int .i64 p22.2.2.2.2.1] 48, .sl v26 9 1 (p22.1.map SR), .sl v27 9 1 (p22.2.1.map SR), .sl v28 3 1 (p22.2.2.1.map I), .sl v29 9 1 (p22.2.2.2.1.map SR), .sl v30 9 1 (p22.2.2.2.2.2.1.map SR), .obj gb1 [v13, v14, v15, .int .i64 p9.2.2.2.1] 54, .sl v13 9 1 (p9.1.map SR), .sl v14 9 1 (p9.2.1.map SR), .sl v15 75 2 (p9.2.2.1.map Twrite.row), .sl v16 9 1 (p9.2.2.2.2.1.map SR)]) (fun _ hw => hw) ?_
        refine L.y rfl (Y.move rfl) ?_
        refine L.y rfl (Y.extract rfl rfl) ?_
        refine L.y rfl (Y.extract rfl rfl) ?_
        refine L.y rfl (Y.extract rfl rfl) ?_
        refine L.y rfl (Y.assign rfl) ?_
        refine L.y rfl (Y.assign rfl) ?_
        refine L.y rfl (Y.assign rfl) ?_
        refine L.nil (E.thenN (W.seqJ (fun gs D => gs = [(1, .int .i64 a1), (2, .int .i64 a2), (3, u3), (9, pt gb1 0), (11, pt gb6 0), (12, .pointer none), (14, .pointer none), (16, .int .i64 p22.2.2.2.2.2.2)] ∧ D = Cls w [] [.obj gb6 [v26, v27, v28, v29, .int .i64 p22.2.2.2.2.1] 48, .obj gb1 [v13, v14, v15, .int .i64 p9.2.2.2.1] 54, .sl v26 9 1 (p22.1.map SR), .sl v27 9 1 (p22.2.1.map SR), .sl v28 3 1 (p22.2.2.1.map I), .sl v29 9 1 (p22.2.2.2.1.map SR), .sl v13 9 1 (p9.1.map SR), .sl v14 9 1 (p9.2.1.map SR), .sl v15 75 2 (p9.2.2.1.map Twrite.row)] ∧ m3_quirlaw_WalPlays_K4 p22 = some r) ?_ ?_))
        ·
         refine W.seq (W.region (L.y rfl (Y.move rfl) ?_))
         refine L.y rfl (Y.move rfl) ?_
         refine L.ite h rfl (Y.neq rfl rfl) (fun c32 h => ?_) (fun c32 h => ?_)
         ·
          refine L.y rfl (Y.move rfl) ?_
          refine L.pass rfl rfl (by nofun) ?_
          refine L.pass rfl rfl (by nofun) ?_
          refine L.pass rfl rfl (by nofun) ?_
          refine L.pass rfl rfl (by nofun) ?_
          refine L.y rfl (Y.pickT rfl rfl) ?_
          refine L.nil (E.thenN (W.condT rfl ?_))
          refine W.seq (W.region (L.y rfl (Y.assign rfl) ?_))
          refine L.nil (E.thenN (W.ret (E.KSR (E.ret1 rfl rfl (fun w1 hw => ?_)))))
          obtain rfl := Option.some.inj h
          exact ⟨_, _, rfl, ⟨rfl, rfl⟩, hw.sel [] (by decide) rfl⟩
         ·
          refine L.y rfl (Y.move rfl) ?_
          refine L.take rfl (L.y rfl (Y.move rfl) ?_)
          refine L.take rfl (L.y rfl (Y.move rfl) ?_)
          refine L.take rfl ?_
          obtain ⟨b33, e34, h⟩ := bind1S h
          refine L.y rfl (Y.does en8 rfl (fun w' hw => (w8_slices_Equal_string p9.2.2.2.2.1 p22.2.2.2.2.2.1 v16 v30 w' _ e34 (As.at_ (hw.get (i := 10) rfl)) (As.at_ (hw.get (i := 5) rfl))).mono (fun _ _ h => h.1))) ?_
          rcases b33 with _ | _
          ·
           replace h := iteF h
           refine L.take rfl (L.y rfl (Y.not rfl) ?_)
           refine L.y rfl (Y.pickF rfl rfl) ?_
           refine L.nil (E.thenN (W.condT rfl ?_))
           refine W.seq (W.region (L.y rfl (Y.assign rfl) ?_))
           refine L.nil (E.thenN (W.ret (E.KSR (E.ret1 rfl rfl (fun w1 hw => ?_)))))
           obtain rfl := Option.some.inj h
           exact ⟨_, _, rfl, ⟨rfl, rfl⟩, hw.sel [] (by decide) rfl⟩
          ·
           replace h := iteT h
           refine L.take rfl (L.y rfl (Y.not rfl) ?_)
           refine L.y rfl (Y.pickF rfl rfl) ?_
           refine L.nil (E.thenN (W.condF rfl ?_))
           exact W.skip (E.joinJ ⟨rfl, rfl, h⟩ ⟨rfl, rfl, rfl, rfl, rfl, rfl, rfl, rfl, trivial⟩ (fun _ hw => hw.sel [0, 6, 1, 2, 3, 4, 7, 8, 9] (by decide) rfl))
        ·
         rintro _ _ ⟨rfl, rfl, h⟩
         rw [m3_quirlaw_WalPlays_K4] at h
         refine W.seqJ (fun gs D => gs = [(1, .int .i64 a1), (2, .int .i64 a2), (3, u3), (9, pt gb1 0), (11, pt gb6 0), (12, .pointer none), (14, .pointer none)] ∧ D = Cls w [] [.obj gb6 [v26, v27, v28, v29, .int .i64 p22.2.2.2.2.1] 48, .obj gb1 [v13, v14, v15, .int .i64 p9.2.2.2.1] 54, .sl v26 9 1 (p22.1.map SR), .sl v27 9 1 (p22.2.1.map SR), .sl v28 3 1 (p22.2.2.1.map I), .sl v29 9 1 (p22.2.2.2.1.map SR), .sl v13 9 1 (p9.1.map SR), .sl v14 9 1 (p9.2.1.map SR), .sl v15 75 2 (p9.2.2.1.map Twrite.row)] ∧ m3_quirlaw_WalPlays_K5 = some r) ?_ ?_
         ·
          refine W.seq (W.region (L.y rfl (Y.move rfl) ?_))
          refine L.ite h rfl (Y.neq rfl rfl) (fun c31 h => ?_) (fun c31 h => ?_)
          ·
           refine L.nil (E.thenN (W.condT rfl ?_))
           refine W.seq (W.region (L.y rfl (Y.move rfl) ?_))
           refine L.y rfl (Y.eqlNN Tryd.underlying29 rfl rfl) ?_
           refine L.y rfl (Y.assign rfl) ?_
           refine L.nil (E.thenN (W.ret (E.KSR (E.ret1 rfl rfl (fun w1 hw => ?_)))))
           obtain rfl := Option.some.inj h
           exact ⟨_, _, rfl, ⟨rfl, rfl⟩, hw.sel [] (by decide) rfl⟩
          ·
           refine L.nil (E.thenN (W.condF rfl ?_))
           exact W.skip (E.joinJ ⟨rfl, rfl, h⟩ ⟨rfl, rfl, rfl, rfl, rfl, rfl, rfl, trivial⟩ (fun _ hw => hw))
         ·
          rintro _ _ ⟨rfl, rfl, h⟩
          rw [m3_quirlaw_WalPlays_K5] at h
          refine W.seq (W.seq (W.region (L.y rfl (Y.move rfl) ?_)))
          refine L.y rfl (Y.lenMZ (row := TDeed.rowv) (vs := q3) (l := a3) Tryd.underlying22 rfl (fun w' hw => hA3.cls0 hw)) ?_
          refine L.y rfl (Y.move rfl) ?_
          refine L.nil (E.thenN (W.block ?_))
          cases h
       ·
        refine L.doesP (A := [.obj gb6 [gv7, gv9, .slice none 0 0, .slice none 0 0, .int .i64 (-1)] 48, .sl gv7 9 1 (gl8.map SR), .sl gv9 9 1 (gl10.map SR), .sl (.slice none 0 0) 3 1 ([].map I), .sl (.slice none 0 0) 9 1 ([].map SR)]) (M := [.obj gb1 [v13, v14, v15, .int .i64 p9.2.2.2.1] 54, .sl v13 9 1 (p9.1.map SR), .sl v14 9 1 (p9.2.1.map SR), .sl v15 75 2 (p9.2.2.1.map Twrite.row), .sl v16 9 1 (p9.2.2.2.2.1.map SR)]) rfl en7 rfl (fun w' hw => w7_quirref_OpenLog gl8 gl10 [] [] (-1) a1 a2 gb6 gv7 gv9 (.slice none 0 0) (.slice none 0 0) w' _ e25 _ hw.lend) ?_
        rintro _ _ ⟨v35, v36, v37, v38, v39, nb40, rfl, rfl⟩
        refine L.to (D := Cls w [] [.obj nb40 [pt gb6 0, .int .i64 p24.2.2.2.2.2.2.2.1, .int .i64 p24.2.2.2.2.2.2.2.2.1, .int .i64 p24.2.2.2.2.2.2.2.2.2.1, .int .i64 p24.2.2.2.2.2.2.2.2.2.2.1, .int .i64 p24.2.2.2.2.2.2.2.2.2.2.2.1, .bool p24.2.2.2.2.2.2.2.2.2.2.2.2] 68, .obj gb6 [v35, v36, v37, v38, .int .i64 p24.2.2.2.2.1] 48, .sl v35 9 1 (p24.1.map SR), .sl v36 9 1 (p24.2.1.map SR), .sl v37 3 1 (p24.2.2.1.map I), .sl v38 9 1 (p24.2.2.2.1.map SR), .sl v39 9 1 (p24.2.2.2.2.2.1.map SR), .obj gb1 [v13, v14, v15, .int .i64 p9.2.2.2.1] 54, .sl v13 9 1 (p9.1.map SR), .sl v14 9 1 (p9.2.1.map SR), .sl v15 75 2 (p9.2.2.1.map Twrite.row), .sl v16 9 1 (p9.2.2.2.2.1.map SR)]) (fun _ hw => hw) ?_
        refine L.y rfl (Y.move rfl) ?_
        refine L.y rfl (Y.extract rfl rfl) ?_
        refine L.y rfl (Y.extract rfl rfl) ?_
        refine L.y rfl (Y.extract rfl rfl) ?_
        refine L.y rfl (Y.assign rfl) ?_
        refine L.y rfl (Y.assign rfl) ?_
        refine L.y rfl (Y.assign rfl) ?_
        refine L.nil (E.thenN (W.seqJ (fun gs D => gs = [(1, .int .i64 a1), (2, .int .i64 a2), (3, u3), (9, pt gb1 0), (11, pt gb6 0), (12, .pointer none), (14, pt nb40 0), (16, .int .i64 p24.2.2.2.2.2.2.1)] ∧ D = Cls w [] [.obj nb40 [pt gb6 0, .int .i64 p24.2.2.2.2.2.2.2.1, .int .i64 p24.2.2.2.2.2.2.2.2.1, .int .i64 p24.2.2.2.2.2.2.2.2.2.1, .int .i64 p24.2.2.2.2.2.2.2.2.2.2.1, .int .i64 p24.2.2.2.2.2.2.2.2.2.2.2.1, .bool p24.2.2.2.2.2.2.2.2.2.2.2.2] 68, .obj gb6 [v35, v36, v37, v38, .int .i64 p24.2.2.2.2.1] 48, .obj gb1 [v13, v14, v15, .int .i64 p9.2.2.2.1] 54, .sl v35 9 1 (p24.1.map SR), .sl v36 9 1 (p24.2.1.map SR), .sl v37 3 1 (p24.2.2.1.map I), .sl v38 9 1 (p24.2.2.2.1.map SR), .sl v13 9 1 (p9.1.map SR), .sl v14 9 1 (p9.2.1.map SR), .sl v15 75 2 (p9.2.2.1.map Twrite.row)] ∧ m3_quirlaw_WalPlays_K6 p24 = some r) ?_ ?_))
        ·
         refine W.seq (W.region (L.y rfl (Y.move rfl) ?_))
         refine L.y rfl (Y.move rfl) ?_
         refine L.ite h rfl (Y.neq rfl rfl) (fun c42 h => ?_) (fun c42 h => ?_)
         ·
          refine L.y rfl (Y.move rfl) ?_
          refine L.pass rfl rfl (by nofun) ?_
          refine L.pass rfl rfl (by nofun) ?_
          refine L.pass rfl rfl (by nofun) ?_
          refine L.pass rfl rfl (by nofun) ?_
          refine L.y rfl (Y.pickT rfl rfl) ?_
          refine L.nil (E.thenN (W.condT rfl ?_))
          refine W.seq (W.region (L.y rfl (Y.assign rfl) ?_))
          refine L.nil (E.thenN (W.ret (E.KSR (E.ret1 rfl rfl (fun w1 hw => ?_)))))
          obtain rfl := Option.some.inj h
          exact ⟨_, _, rfl, ⟨rfl, rfl⟩, hw.sel [] (by decide) rfl⟩
         ·
          refine L.y rfl (Y.move rfl) ?_
          refine L.take rfl (L.y rfl (Y.move rfl) ?_)
          refine L.take rfl (L.y rfl (Y.move rfl) ?_)
          refine L.take rfl ?_
          obtain ⟨b43, e44, h⟩ := bind1S h
          refine L.y rfl (Y.does en8 rfl (fun w' hw => (w8_slices_Equal_string p9.2.2.2.2.1 p24.2.2.2.2.2.1 v16 v39 w' _ e44 (As.at_ (hw.get (i := 11) rfl)) (As.at_ (hw.get (i := 6) rfl))).mono (fun _ _ h => h.1))) ?_
          rcases b43 with _ | _
          ·
           replace h := iteF h
           refine L.take rfl (L.y rfl (Y.not rfl) ?_)
           refine L.y rfl (Y.pickF rfl rfl) ?_
           refine L.nil (E.thenN (W.condT rfl ?_))
           refine W.seq (W.region (L.y rfl (Y.assign rfl) ?_))
           refine L.nil (E.thenN (W.ret (E.KSR (E.ret1 rfl rfl (fun w1 hw => ?_)))))
           obtain rfl := Option.some.inj h
           exact ⟨_, _, rfl, ⟨rfl, rfl⟩, hw.sel [] (by decide) rfl⟩
          ·
           replace h := iteT h
           refine L.take rfl (L.y rfl (Y.not rfl) ?_)
           refine L.y rfl (Y.pickF rfl rfl) ?_
           refine L.nil (E.thenN (W.condF rfl ?_))
           exact W.skip (E.joinJ ⟨rfl, rfl, h⟩ ⟨rfl, rfl, rfl, rfl, rfl, rfl, rfl, rfl, trivial⟩ (fun _ hw => hw.sel [0, 1, 7, 2, 3, 4, 5, 8, 9, 10] (by decide) rfl))
        ·
         rintro _ _ ⟨rfl, rfl, h⟩
         rw [m3_quirlaw_WalPlays_K6] at h
         refine W.seqJ (fun gs D => gs = [(1, .int .i64 a1), (2, .int .i64 a2), (3, u3), (9, pt gb1 0), (11, pt gb6 0), (12, .pointer none), (14, pt nb40 0)] ∧ D = Cls w [] [.obj nb40 [pt gb6 0, .int .i64 p24.2.2.2.2.2.2.2.1, .int .i64 p24.2.2.2.2.2.2.2.2.1, .int .i64 p24.2.2.2.2.2.2.2.2.2.1, .int .i64 p24.2.2.2.2.2.2.2.2.2.2.1, .int .i64 p24.2.2.2.2.2.2.2.2.2.2.2.1, .bool p24.2.2.2.2.2.2.2.2.2.2.2.2] 68, .obj gb6 [v35, v36, v37, v38, .int .i64 p24.2.2.2.2.1] 48, .obj gb1 [v13, v14, v15, .int .i64 p9.2.2.2.1] 54, .sl v35 9 1 (p24.1.map SR), .sl v36 9 1 (p24.2.1.map SR), .sl v37 3 1 (p24.2.2.1.map I), .sl v38 9 1 (p24.2.2.2.1.map SR), .sl v13 9 1 (p9.1.map SR), .sl v14 9 1 (p9.2.1.map SR), .sl v15 75 2 (p9.2.2.1.map Twrite.row)] ∧ m3_quirlaw_WalPlays_K7 = some r) ?_ ?_
         ·
          refine W.seq (W.region (L.y rfl (Y.move rfl) ?_))
          refine L.ite h rfl (Y.neq rfl rfl) (fun c41 h => ?_) (fun c41 h => ?_)
          ·
           refine L.nil (E.thenN (W.condT rfl ?_))
           refine W.seq (W.region (L.y rfl (Y.move rfl) ?_))
           refine L.y rfl (Y.eqlNN Tryd.underlying29 rfl rfl) ?_
           refine L.y rfl (Y.assign rfl) ?_
           refine L.nil (E.thenN (W.ret (E.KSR (E.ret1 rfl rfl (fun w1 hw => ?_)))))
           obtain rfl := Option.some.inj h
           exact ⟨_, _, rfl, ⟨rfl, rfl⟩, hw.sel [] (by decide) rfl⟩
          ·
           refine L.nil (E.thenN (W.condF rfl ?_))
           exact W.skip (E.joinJ ⟨rfl, rfl, h⟩ ⟨rfl, rfl, rfl, rfl, rfl, rfl, rfl, trivial⟩ (fun _ hw => hw))
         ·
          rintro _ _ ⟨rfl, rfl, h⟩
          rw [m3_quirlaw_WalPlays_K7] at h
          refine W.seq (W.seq (W.region (L.y rfl (Y.move rfl) ?_)))
          refine L.y rfl (Y.lenMZ (row := TDeed.rowv) (vs := q3) (l := a3) Tryd.underlying22 rfl (fun w' hw => hA3.cls0 hw)) ?_
          refine L.y rfl (Y.move rfl) ?_
          refine L.nil (E.thenN (W.block ?_))
          cases h
      ·
       refine L.doesP (A := [.obj gb1 [gv2, gv4, .slice none 0 0, .int .i64 (-1)] 54, .sl gv2 9 1 (gl3.map SR), .sl gv4 9 1 (gl5.map SR), .sl (.slice none 0 0) 75 2 ([].map Twrite.row)]) (M := [.sl gv7 9 1 (gl8.map SR), .sl gv9 9 1 (gl10.map SR), .obj gb6 [gv7, gv9, .slice none 0 0, .slice none 0 0, .int .i64 (-1)] 48]) rfl en6 rfl (fun w' hw => w6_wal_Open gl3 gl5 [] (-1) a1 a2 gb1 gv2 gv4 (.slice none 0 0) w' _ e12 _ hw.lend) ?_
       rintro _ _ ⟨v45, v46, v47, v48, nb49, rfl, rfl⟩
       refine L.to (D := Cls w [] [.obj nb49 [pt gb1 0, .int .i64 p11.2.2.2.2.2.2.1, .int .i64 p11.2.2.2.2.2.2.2.1, .int .i64 p11.2.2.2.2.2.2.2.2.1, .int .i64 p11.2.2.2.2.2.2.2.2.2.1, .int .i64 p11.2.2.2.2.2.2.2.2.2.2.1, .bool p11.2.2.2.2.2.2.2.2.2.2.2] 58, .obj gb1 [v45, v46, v47, .int .i64 p11.2.2.2.1] 54, .sl v45 9 1 (p11.1.map SR), .sl v46 9 1 (p11.2.1.map SR), .sl v47 75 2 (p11.2.2.1.map Twrite.row), .sl v48 9 1 (p11.2.2.2.2.1.map SR), .sl gv7 9 1 (gl8.map SR), .sl gv9 9 1 (gl10.map SR), .obj gb6 [gv7, gv9, .slice none 0 0, .slice none 0 0, .int .i64 (-1)] 48]) (fun _ hw => hw) ?_
       refine L.y rfl (Y.move rfl) ?_
       refine L.y rfl (Y.extract rfl rfl) ?_
       refine L.y rfl (Y.extract rfl rfl) ?_
       refine L.y rfl (Y.extract rfl rfl) ?_
       refine L.y rfl (Y.assign rfl) ?_
       refine L.y rfl (Y.assign rfl) ?_
       refine L.y rfl (Y.assign rfl) ?_
       refine L.nil (E.thenN (W.seq (W.region (L.y rfl (Y.move rfl) ?_))))
       refine L.y rfl (Y.move rfl) ?_
       refine L.y rfl (Y.move rfl) ?_
       refine L.nilSl 3 1 ?_
       refine L.nilSl 9 1 ?_
       refine L.to (D := Cls w [] [.obj gb6 [gv7, gv9, .slice none 0 0, .slice none 0 0, .int .i64 (-1)] 48, .sl gv7 9 1 (gl8.map SR), .sl gv9 9 1 (gl10.map SR), .sl (.slice none 0 0) 3 1 ([].map I), .sl (.slice none 0 0) 9 1 ([].map SR), .obj nb49 [pt gb1 0, .int .i64 p11.2.2.2.2.2.2.1, .int .i64 p11.2.2.2.2.2.2.2.1, .int .i64 p11.2.2.2.2.2.2.2.2.1, .int .i64 p11.2.2.2.2.2.2.2.2.2.1, .int .i64 p11.2.2.2.2.2.2.2.2.2.2.1, .bool p11.2.2.2.2.2.2.2.2.2.2.2] 58, .obj gb1 [v45, v46, v47, .int .i64 p11.2.2.2.1] 54, .sl v45 9 1 (p11.1.map SR), .sl v46 9 1 (p11.2.1.map SR), .sl v47 75 2 (p11.2.2.1.map Twrite.row), .sl v48 9 1 (p11.2.2.2.2.1.map SR)]) (fun _ hw => hw.sel [10, 8, 9, 1, 0, 2, 3, 4, 5, 6, 7] (by decide) rfl) ?_
       rcases bindES h with ⟨p55, e56, h⟩ | ⟨p57, e58, h⟩
       ·
        refine L.doesP (A := [.obj gb6 [gv7, gv9, .slice none 0 0, .slice none 0 0, .int .i64 (-1)] 48, .sl gv7 9 1 (gl8.map SR), .sl gv9 9 1 (gl10.map SR), .sl (.slice none 0 0) 3 1 ([].map I), .sl (.slice none 0 0) 9 1 ([].map SR)]) (M := [.obj nb49 [pt gb1 0, .int .i64 p11.2.2.2.2.2.2.1, .int .i64 p11.2.2.2.2.2.2.2.1, .int .i64 p11.2.2.2.2.2.2.2.2.1, .int .i64 p11.2.2.2.2.2.2.2.2.2.1, .int .i64 p11.2.2.2.2.2.2.2.2.2.2.1, .bool p11.2.2.2.2.2.2.2.2.2.2.2] 58, .obj gb1 [v45, v46, v47, .int .i64 p11.2.2.2.1] 54, .sl v45 9 1 (p11.1.map SR), .sl v46 9 1 (p11.2.1.map SR), .sl v47 75 2 (p11.2.2.1.map Twrite.row), .sl v48 9 1 (p11.2.2.2.2.1.map SR)]) rfl en7 rfl (fun w' hw => w7_quirref_OpenLog gl8 gl10 [] [] (-1) a1 a2 gb6 gv7 gv9 (.slice none 0 0) (.slice none 0 0) w' _ e56 _ hw.lend) ?_
        rintro _ _ ⟨v59, v60, v61, v62, v63, rfl, rfl⟩
        refine L.to (D := Cls w [] [.obj gb6 [v59, v60, v61, v62, .int .i64 p55.2.2.2.2.1] 48, .sl v59 9 1 (p55.1.map SR), .sl v60 9 1 (p55.2.1.map SR), .sl v61 3 1 (p55.2.2.1.map I), .sl v62 9 1 (p55.2.2.2.1.map SR), .sl v63 9 1 (p55.2.2.2.2.2.1.map SR), .obj nb49 [pt gb1 0, .int .i64 p11.2.2.2.2.2.2.1, .int .i64 p11.2.2.2.2.2.2.2.1, .int .i64 p11.2.2.2.2.2.2.2.2.1, .int .i64 p11.2.2.2.2.2.2.2.2.2.1, .int .i64 p11.2.2.2.2.2.2.2.2.2.2.1, .bool p11.2.2.2.2.2.2.2.2.2.2.2] 58, .obj gb1 [v45, v46, v47, .int .i64 p11.2.2.2.1] 54, .sl v45 9 1 (p11.1.map SR), .sl v46 9 1 (p11.2.1.map SR), .sl v47 75 2 (p11.2.2.1.map Twrite.row), .sl v48 9 1 (p11.2.2.2.2.1.map SR)]) (fun _ hw => hw) ?_
        refine L.y rfl (Y.move rfl) ?_
        refine L.y rfl (Y.extract rfl rfl) ?_
        refine L.y rfl (Y.extract rfl rfl) ?_
        refine L.y rfl (Y.extract rfl rfl) ?_
        refine L.y rfl (Y.assign rfl) ?_
        refine L.y rfl (Y.assign rfl) ?_
        refine L.y rfl (Y.assign rfl) ?_
        refine L.nil (E.thenN (W.seqJ (fun gs D => gs = [(1, .int .i64 a1), (2, .int .i64 a2), (3, u3), (9, pt gb1 0), (11, pt gb6 0), (12, pt nb49 0), (14, .pointer none), (16, .int .i64 p55.2.2.2.2.2.2)] ∧ D = Cls w [] [.obj gb6 [v59, v60, v61, v62, .int .i64 p55.2.2.2.2.1] 48, .obj nb49 [pt gb1 0, .int .i64 p11.2.2.2.2.2.2.1, .int .i64 p11.2.2.2.2.2.2.2.1, .int .i64 p11.2.2.2.2.2.2.2.2.1, .int .i64 p11.2.2.2.2.2.2.2.2.2.1, .int .i64 p11.2.2.2.2.2.2.2.2.2.2.1, .bool p11.2.2.2.2.2.2.2.2.2.2.2] 58, .obj gb1 [v45, v46, v47, .int .i64 p11.2.2.2.1] 54, .sl v59 9 1 (p55.1.map SR), .sl v60 9 1 (p55.2.1.map SR), .sl v61 3 1 (p55.2.2.1.map I), .sl v62 9 1 (p55.2.2.2.1.map SR), .sl v45 9 1 (p11.1.map SR), .sl v46 9 1 (p11.2.1.map SR), .sl v47 75 2 (p11.2.2.1.map Twrite.row)] ∧ m3_quirlaw_WalPlays_K8 p55 = some r) ?_ ?_))
        ·
         refine W.seq (W.region (L.y rfl (Y.move rfl) ?_))
         refine L.y rfl (Y.move rfl) ?_
         refine L.ite h rfl (Y.neq rfl rfl) (fun c65 h => ?_) (fun c65 h => ?_)
         ·
          refine L.y rfl (Y.move rfl) ?_
          refine L.pass rfl rfl (by nofun) ?_
          refine L.pass rfl rfl (by nofun) ?_
          refine L.pass rfl rfl (by nofun) ?_
          refine L.pass rfl rfl (by nofun) ?_
          refine L.y rfl (Y.pickT rfl rfl) ?_
          refine L.nil (E.thenN (W.condT rfl ?_))
          refine W.seq (W.region (L.y rfl (Y.assign rfl) ?_))
          refine L.nil (E.thenN (W.ret (E.KSR (E.ret1 rfl rfl (fun w1 hw => ?_)))))
          obtain rfl := Option.some.inj h
          exact ⟨_, _, rfl, ⟨rfl, rfl⟩, hw.sel [] (by decide) rfl⟩
         ·
          refine L.y rfl (Y.move rfl) ?_
          refine L.take rfl (L.y rfl (Y.move rfl) ?_)
          refine L.take rfl (L.y rfl (Y.move rfl) ?_)
          refine L.take rfl ?_
          obtain ⟨b66, e67, h⟩ := bind1S h
          refine L.y rfl (Y.does en8 rfl (fun w' hw => (w8_slices_Equal_string p11.2.2.2.2.1 p55.2.2.2.2.2.1 v48 v63 w' _ e67 (As.at_ (hw.get (i := 11) rfl)) (As.at_ (hw.get (i := 5) rfl))).mono (fun _ _ h => h.1))) ?_
          rcases b66 with _ | _
          ·
           replace h := iteF h
           refine L.take rfl (L.y rfl (Y.not rfl) ?_)
           refine L.y rfl (Y.pickF rfl rfl) ?_
           refine L.nil (E.thenN (W.condT rfl ?_))
           refine W.seq (W.region (L.y rfl (Y.assign rfl) ?_))
           refine L.nil (E.thenN (W.ret (E.KSR (E.ret1 rfl rfl (fun w1 hw => ?_)))))
           obtain rfl := Option.some.inj h
           exact ⟨_, _, rfl, ⟨rfl, rfl⟩, hw.sel [] (by decide) rfl⟩
          ·
           replace h := iteT h
           refine L.take rfl (L.y rfl (Y.not rfl) ?_)
           refine L.y rfl (Y.pickF rfl rfl) ?_
           refine L.nil (E.thenN (W.condF rfl ?_))
           exact W.skip (E.joinJ ⟨rfl, rfl, h⟩ ⟨rfl, rfl, rfl, rfl, rfl, rfl, rfl, rfl, trivial⟩ (fun _ hw => hw.sel [0, 6, 7, 1, 2, 3, 4, 8, 9, 10] (by decide) rfl))
        ·
         rintro _ _ ⟨rfl, rfl, h⟩
         rw [m3_quirlaw_WalPlays_K8] at h
         refine W.seqJ (fun gs D => gs = [(1, .int .i64 a1), (2, .int .i64 a2), (3, u3), (9, pt gb1 0), (11, pt gb6 0), (12, pt nb49 0), (14, .pointer none)] ∧ D = Cls w [] [.obj gb6 [v59, v60, v61, v62, .int .i64 p55.2.2.2.2.1] 48, .obj nb49 [pt gb1 0, .int .i64 p11.2.2.2.2.2.2.1, .int .i64 p11.2.2.2.2.2.2.2.1, .int .i64 p11.2.2.2.2.2.2.2.2.1, .int .i64 p11.2.2.2.2.2.2.2.2.2.1, .int .i64 p11.2.2.2.2.2.2.2.2.2.2.1, .bool p11.2.2.2.2.2.2.2.2.2.2.2] 58, .obj gb1 [v45, v46, v47, .int .i64 p11.2.2.2.1] 54, .sl v59 9 1 (p55.1.map SR), .sl v60 9 1 (p55.2.1.map SR), .sl v61 3 1 (p55.2.2.1.map I), .sl v62 9 1 (p55.2.2.2.1.map SR), .sl v45 9 1 (p11.1.map SR), .sl v46 9 1 (p11.2.1.map SR), .sl v47 75 2 (p11.2.2.1.map Twrite.row)] ∧ m3_quirlaw_WalPlays_K9 = some r) ?_ ?_
         ·
          refine W.seq (W.region (L.y rfl (Y.move rfl) ?_))
          refine L.ite h rfl (Y.neq rfl rfl) (fun c64 h => ?_) (fun c64 h => ?_)
          ·
           refine L.nil (E.thenN (W.condT rfl ?_))
           refine W.seq (W.region (L.y rfl (Y.move rfl) ?_))
           refine L.y rfl (Y.eqlPN Tryd.underlying29 rfl rfl) ?_
           refine L.y rfl (Y.assign rfl) ?_
           refine L.nil (E.thenN (W.ret (E.KSR (E.ret1 rfl rfl (fun w1 hw => ?_)))))
           obtain rfl := Option.some.inj h
           exact ⟨_, _, rfl, ⟨rfl, rfl⟩, hw.sel [] (by decide) rfl⟩
          ·
           refine L.nil (E.thenN (W.condF rfl ?_))
           exact W.skip (E.joinJ ⟨rfl, rfl, h⟩ ⟨rfl, rfl, rfl, rfl, rfl, rfl, rfl, trivial⟩ (fun _ hw => hw))
         ·
          rintro _ _ ⟨rfl, rfl, h⟩
          rw [m3_quirlaw_WalPlays_K9] at h
          refine W.seq (W.seq (W.region (L.y rfl (Y.move rfl) ?_)))
          refine L.y rfl (Y.lenMZ (row := TDeed.rowv) (vs := q3) (l := a3) Tryd.underlying22 rfl (fun w' hw => hA3.cls0 hw)) ?_
          refine L.y rfl (Y.move rfl) ?_
          refine L.nil (E.thenN (W.block ?_))
          cases h
       ·
        refine L.doesP (A := [.obj gb6 [gv7, gv9, .slice none 0 0, .slice none 0 0, .int .i64 (-1)] 48, .sl gv7 9 1 (gl8.map SR), .sl gv9 9 1 (gl10.map SR), .sl (.slice none 0 0) 3 1 ([].map I), .sl (.slice none 0 0) 9 1 ([].map SR)]) (M := [.obj nb49 [pt gb1 0, .int .i64 p11.2.2.2.2.2.2.1, .int .i64 p11.2.2.2.2.2.2.2.1, .int .i64 p11.2.2.2.2.2.2.2.2.1, .int .i64 p11.2.2.2.2.2.2.2.2.2.1, .int .i64 p11.2.2.2.2.2.2.2.2.2.2.1, .bool p11.2.2.2.2.2.2.2.2.2.2.2] 58, .obj gb1 [v45, v46, v47, .int .i64 p11.2.2.2.1] 54, .sl v45 9 1 (p11.1.map SR), .sl v46 9 1 (p11.2.1.map SR), .sl v47 75 2 (p11.2.2.1.map Twrite.row), .sl v48 9 1 (p11.2.2.2.2.1.map SR)]) rfl en7 rfl (fun w' hw => w7_quirref_OpenLog gl8 gl10 [] [] (-1) a1 a2 gb6 gv7 gv9 (.slice none 0 0) (.slice none 0 0) w' _ e58 _ hw.lend) ?_
        rintro _ _ ⟨v68, v69, v70, v71, v72, nb73, rfl, rfl⟩
        refine L.to (D := Cls w [] [.obj nb73 [pt gb6 0, .int .i64 p57.2.2.2.2.2.2.2.1, .int .i64 p57.2.2.2.2.2.2.2.2.1, .int .i64 p57.2.2.2.2.2.2.2.2.2.1, .int .i64 p57.2.2.2.2.2.2.2.2.2.2.1, .int .i64 p57.2.2.2.2.2.2.2.2.2.2.2.1, .bool p57.2.2.2.2.2.2.2.2.2.2.2.2] 68, .obj gb6 [v68, v69, v70, v71, .int .i64 p57.2.2.2.2.1] 48, .sl v68 9 1 (p57.1.map SR), .sl v69 9 1 (p57.2.1.map SR), .sl v70 3 1 (p57.2.2.1.map I), .sl v71 9 1 (p57.2.2.2.1.map SR), .sl v72 9 1 (p57.2.2.2.2.2.1.map SR), .obj nb49 [pt gb1 0, .int .i64 p11.2.2.2.2.2.2.1, .int .i64 p11.2.2.2.2.2.2.2.1, .int .i64 p11.2.2.2.2.2.2.2.2.1, .int .i64 p11.2.2.2.2.2.2.2.2.2.1, .int .i64 p11.2.2.2.2.2.2.2.2.2.2.1, .bool p11.2.2.2.2.2.2.2.2.2.2.2] 58, .obj gb1 [v45, v46, v47, .int .i64 p11.2.2.2.1] 54, .sl v45 9 1 (p11.1.map SR), .sl v46 9 1 (p11.2.1.map SR), .sl v47 75 2 (p11.2.2.1.map Twrite.row), .sl v48 9 1 (p11.2.2.2.2.1.map SR)]) (fun _ hw => hw) ?_
        refine L.y rfl (Y.move rfl) ?_
        refine L.y rfl (Y.extract rfl rfl) ?_
        refine L.y rfl (Y.extract rfl rfl) ?_
        refine L.y rfl (Y.extract rfl rfl) ?_
        refine L.y rfl (Y.assign rfl) ?_
        refine L.y rfl (Y.assign rfl) ?_
        refine L.y rfl (Y.assign rfl) ?_
        refine L.nil (E.thenN (W.seqJ (fun gs D => gs = [(1, .int .i64 a1), (2, .int .i64 a2), (3, u3), (9, pt gb1 0), (11, pt gb6 0), (12, pt nb49 0), (14, pt nb73 0), (16, .int .i64 p57.2.2.2.2.2.2.1)] ∧ D = Cls w [] [.obj nb73 [pt gb6 0, .int .i64 p57.2.2.2.2.2.2.2.1, .int .i64 p57.2.2.2.2.2.2.2.2.1, .int .i64 p57.2.2.2.2.2.2.2.2.2.1, .int .i64 p57.2.2.2.2.2.2.2.2.2.2.1, .int .i64 p57.2.2.2.2.2.2.2.2.2.2.2.1, .bool p57.2.2.2.2.2.2.2.2.2.2.2.2] 68, .obj gb6 [v68, v69, v70, v71, .int .i64 p57.2.2.2.2.1] 48, .obj nb49 [pt gb1 0, .int .i64 p11.2.2.2.2.2.2.1, .int .i64 p11.2.2.2.2.2.2.2.1, .int .i64 p11.2.2.2.2.2.2.2.2.1, .int .i64 p11.2.2.2.2.2.2.2.2.2.1, .int .i64 p11.2.2.2.2.2.2.2.2.2.2.1, .bool p11.2.2.2.2.2.2.2.2.2.2.2] 58, .obj gb1 [v45, v46, v47, .int .i64 p11.2.2.2.1] 54, .sl v68 9 1 (p57.1.map SR), .sl v69 9 1 (p57.2.1.map SR), .sl v70 3 1 (p57.2.2.1.map I), .sl v71 9 1 (p57.2.2.2.1.map SR), .sl v45 9 1 (p11.1.map SR), .sl v46 9 1 (p11.2.1.map SR), .sl v47 75 2 (p11.2.2.1.map Twrite.row)] ∧ m3_quirlaw_WalPlays_K10 p57 a3 a1 a2 p11 = some r) ?_ ?_))
        ·
         refine W.seq (W.region (L.y rfl (Y.move rfl) ?_))
         refine L.y rfl (Y.move rfl) ?_
         refine L.ite h rfl (Y.neq rfl rfl) (fun c885 h => ?_) (fun c885 h => ?_)
         ·
          refine L.y rfl (Y.move rfl) ?_
          refine L.pass rfl rfl (by nofun) ?_
          refine L.pass rfl rfl (by nofun) ?_
          refine L.pass rfl rfl (by nofun) ?_
          refine L.pass rfl rfl (by nofun) ?_
          refine L.y rfl (Y.pickT rfl rfl) ?_
          refine L.nil (E.thenN (W.condT rfl ?_))
          refine W.seq (W.region (L.y rfl (Y.assign rfl) ?_))
          refine L.nil (E.thenN (W.ret (E.KSR (E.ret1 rfl rfl (fun w1 hw => ?_)))))
          obtain rfl := Option.some.inj h
          exact ⟨_, _, rfl, ⟨rfl, rfl⟩, hw.sel [] (by decide) rfl⟩
         ·
          refine L.y rfl (Y.move rfl) ?_
          refine L.take rfl (L.y rfl (Y.move rfl) ?_)
          refine L.take rfl (L.y rfl (Y.move rfl) ?_)
          refine L.take rfl ?_
          obtain ⟨b886, e887, h⟩ := bind1S h
          refine L.y rfl (Y.does en8 rfl (fun w' hw => (w8_slices_Equal_string p11.2.2.2.2.1 p57.2.2.2.2.2.1 v48 v72 w' _ e887 (As.at_ (hw.get (i := 12) rfl)) (As.at_ (hw.get (i := 6) rfl))).mono (fun _ _ h => h.1))) ?_
          rcases b886 with _ | _
          ·
           replace h := iteF h
           refine L.take rfl (L.y rfl (Y.not rfl) ?_)
           refine L.y rfl (Y.pickF rfl rfl) ?_
           refine L.nil (E.thenN (W.condT rfl ?_))
           refine W.seq (W.region (L.y rfl (Y.assign rfl) ?_))
           refine L.nil (E.thenN (W.ret (E.KSR (E.ret1 rfl rfl (fun w1 hw => ?_)))))
           obtain rfl := Option.some.inj h
           exact ⟨_, _, rfl, ⟨rfl, rfl⟩, hw.sel [] (by decide) rfl⟩
          ·
           replace h := iteT h
           refine L.take rfl (L.y rfl (Y.not rfl) ?_)
           refine L.y rfl (Y.pickF rfl rfl) ?_
           refine L.nil (E.thenN (W.condF rfl ?_))
           exact W.skip (E.joinJ ⟨rfl, rfl, h⟩ ⟨rfl, rfl, rfl, rfl, rfl, rfl, rfl, rfl, trivial⟩ (fun _ hw => hw.sel [0, 1, 7, 8, 2, 3, 4, 5, 9, 10, 11] (by decide) rfl))
        ·
         rintro _ _ ⟨rfl, rfl, h⟩
         rw [m3_quirlaw_WalPlays_K10] at h
         refine W.seqJ (fun gs D => gs = [(1, .int .i64 a1), (2, .int .i64 a2), (3, u3), (9, pt gb1 0), (11, pt gb6 0), (12, pt nb49 0), (14, pt nb73 0)] ∧ D = Cls w [] [.obj nb73 [pt gb6 0, .int .i64 p57.2.2.2.2.2.2.2.1, .int .i64 p57.2.2.2.2.2.2.2.2.1, .int .i64 p57.2.2.2.2.2.2.2.2.2.1, .int .i64 p57.2.2.2.2.2.2.2.2.2.2.1, .int .i64 p57.2.2.2.2.2.2.2.2.2.2.2.1, .bool p57.2.2.2.2.2.2.2.2.2.2.2.2] 68, .obj gb6 [v68, v69, v70, v71, .int .i64 p57.2.2.2.2.1] 48, .obj nb49 [pt gb1 0, .int .i64 p11.2.2.2.2.2.2.1, .int .i64 p11.2.2.2.2.2.2.2.1, .int .i64 p11.2.2.2.2.2.2.2.2.1, .int .i64 p11.2.2.2.2.2.2.2.2.2.1, .int .i64 p11.2.2.2.2.2.2.2.2.2.2.1, .bool p11.2.2.2.2.2.2.2.2.2.2.2] 58, .obj gb1 [v45, v46, v47, .int .i64 p11.2.2.2.1] 54, .sl v68 9 1 (p57.1.map SR), .sl v69 9 1 (p57.2.1.map SR), .sl v70 3 1 (p57.2.2.1.map I), .sl v71 9 1 (p57.2.2.2.1.map SR), .sl v45 9 1 (p11.1.map SR), .sl v46 9 1 (p11.2.1.map SR), .sl v47 75 2 (p11.2.2.1.map Twrite.row)] ∧ m3_quirlaw_WalPlays_K11 a3 a1 a2 p11 p57 = some r) ?_ ?_
         ·
          refine W.seq (W.region (L.y rfl (Y.move rfl) ?_))
          refine L.ite h rfl (Y.neq rfl rfl) (fun c884 h => ?_) (fun c884 h => ?_)
          ·
           refine L.nil (E.thenN (W.condT rfl ?_))
           refine W.seq (W.region (L.y rfl (Y.move rfl) ?_))
           refine L.y rfl (Y.eqlPN Tryd.underlying29 rfl rfl) ?_
           refine L.y rfl (Y.assign rfl) ?_
           refine L.nil (E.thenN (W.ret (E.KSR (E.ret1 rfl rfl (fun w1 hw => ?_)))))
           obtain rfl := Option.some.inj h
           exact ⟨_, _, rfl, ⟨rfl, rfl⟩, hw.sel [] (by decide) rfl⟩
          ·
           refine L.nil (E.thenN (W.condF rfl ?_))
           exact W.skip (E.joinJ ⟨rfl, rfl, h⟩ ⟨rfl, rfl, rfl, rfl, rfl, rfl, rfl, trivial⟩ (fun _ hw => hw))
         ·
          rintro _ _ ⟨rfl, rfl, h⟩
          rw [m3_quirlaw_WalPlays_K11] at h
          refine W.seqJ (fun gs D => ∃ (gv18 : Value) (gl19 : (List (List UInt8))) (gv20 : Value) (gl21 : (List (List UInt8))) (gv22 : Value) (gl23 : (List Int)) (gv24 : Value) (gl25 : (List (List UInt8))) (gx26 : Int) (gv27 : Value) (gl28 : (List (List UInt8))) (gv29 : Value) (gl30 : (List (List UInt8))) (gv31 : Value) (gl32 : (List Twrite)) (gx33 : Int), gs = [(9, pt gb1 0), (11, pt gb6 0)] ∧ D = Cls w [] [.obj gb6 [gv18, gv20, gv22, gv24, .int .i64 gx26] 48, .obj gb1 [gv27, gv29, gv31, .int .i64 gx33] 54, .sl gv18 9 1 (gl19.map SR), .sl gv20 9 1 (gl21.map SR), .sl gv22 3 1 (gl23.map I), .sl gv24 9 1 (gl25.map SR), .sl gv27 9 1 (gl28.map SR), .sl gv29 9 1 (gl30.map SR), .sl gv31 75 2 (gl32.map Twrite.row)] ∧ m3_quirlaw_WalPlays_K12 gl19 gl21 gl23 gl25 gx26 gl28 gl30 gl32 gx33 = some r) ?_ ?_
          ·
           refine W.seq (W.region (L.y rfl (Y.move rfl) ?_))
           refine L.y rfl (Y.lenMZ (row := TDeed.rowv) (vs := q3) (l := a3) Tryd.underlying22 rfl (fun w' hw => hA3.cls0 hw)) ?_
           refine L.y rfl (Y.move rfl) ?_
           refine L.nil (E.thenN (W.block (W.loopJ (fun m gs D => ∃ (gb35 : Nat) (gx36 : Int) (gx37 : Int) (gx38 : Int) (gx39 : Int) (gx40 : Int) (gb41 : Bool) (gb42 : Nat) (gx43 : Int) (gx44 : Int) (gx45 : Int) (gx46 : Int) (gx47 : Int) (gb48 : Bool) (gx49 : Int) (gv50 : Value) (gl51 : (List (List UInt8))) (gv52 : Value) (gl53 : (List (List UInt8))) (gv54 : Value) (gl55 : (List Int)) (gv56 : Value) (gl57 : (List (List UInt8))) (gx58 : Int) (gv59 : Value) (gl60 : (List (List UInt8))) (gv61 : Value) (gl62 : (List (List UInt8))) (gv63 : Value) (gl64 : (List Twrite)) (gx65 : Int), gs = [(1, .int .i64 a1), (2, .int .i64 a2), (9, pt gb1 0), (11, pt gb6 0), (12, pt gb35 0), (14, pt gb42 0), (76, u3), (77, .int .i64 (a3.length : Int)), (78, .int .i64 gx49)] ∧ D = Cls w [] [.obj gb6 [gv50, gv52, gv54, gv56, .int .i64 gx58] 48, .obj gb1 [gv59, gv61, gv63, .int .i64 gx65] 54, .obj gb35 [pt gb1 0, .int .i64 gx36, .int .i64 gx37, .int .i64 gx38, .int .i64 gx39, .int .i64 gx40, .bool gb41] 58, .obj gb42 [pt gb6 0, .int .i64 gx43, .int .i64 gx44, .int .i64 gx45, .int .i64 gx46, .int .i64 gx47, .bool gb48] 68, .sl gv50 9 1 (gl51.map SR), .sl gv52 9 1 (gl53.map SR), .sl gv54 3 1 (gl55.map I), .sl gv56 9 1 (gl57.map SR), .sl gv59 9 1 (gl60.map SR), .sl gv61 9 1 (gl62.map SR), .sl gv63 75 2 (gl64.map Twrite.row)] ∧ m3_quirlaw_WalPlays_L2 a3 a1 a2 m gx36 gx37 gx38 gx39 gx40 gb41 gx43 gx44 gx45 gx46 gx47 gb48 gx49 gl51 gl53 gl55 gl57 gx58 gl60 gl62 gl64 gx65 = some r) ⟨nb49, p11.2.2.2.2.2.2.1, p11.2.2.2.2.2.2.2.1, p11.2.2.2.2.2.2.2.2.1, p11.2.2.2.2.2.2.2.2.2.1, p11.2.2.2.2.2.2.2.2.2.2.1, p11.2.2.2.2.2.2.2.2.2.2.2, nb73, p57.2.2.2.2.2.2.2.1, p57.2.2.2.2.2.2.2.2.1, p57.2.2.2.2.2.2.2.2.2.1, p57.2.2.2.2.2.2.2.2.2.2.1, p57.2.2.2.2.2.2.2.2.2.2.2.1, p57.2.2.2.2.2.2.2.2.2.2.2.2, 0, v68, p57.1, v69, p57.2.1, v70, p57.2.2.1, v71, p57.2.2.2.1, p57.2.2.2.2.1, v45, p11.1, v46, p11.2.1, v47, p11.2.2.1, p11.2.2.2.1, rfl, rfl, h⟩ ⟨rfl, rfl, rfl, rfl, rfl, rfl, rfl, rfl, rfl, trivial⟩ (fun _ hw => hw.sel [1, 3, 2, 0, 4, 5, 6, 7, 8, 9, 10] (by decide) rfl) ?_)))
           rintro m _ _ ⟨gb35, gx36, gx37, gx38, gx39, gx40, gb41, gb42, gx43, gx44, gx45, gx46, gx47, gb48, gx49, gv50, gl51, gv52, gl53, gv54, gl55, gv56, gl57, gx58, gv59, gl60, gv61, gl62, gv63, gl64, gx65, rfl, rfl, h⟩
           rcases m with _ | m
           · rw [m3_quirlaw_WalPlays_L2] at h; cases h
           rw [m3_quirlaw_WalPlays_L2] at h
           generalize hg2 : m3_quirlaw_WalPlays_L2 a3 a1 a2 m = go2 at h
           rw [m3_quirlaw_WalPlays_L2B] at h
           refine W.seq (W.region (L.ite h rfl (Y.lss rfl rfl) (fun c82 h => ?_) (fun c82 h => ?_)))
           ·
            refine L.nil (E.thenN (W.seq (W.condT rfl ?_)))
            refine W.skip (E.thenN (W.seq (W.block (W.seq (W.region (L.m (V := fun _ => el u3 (gx49.toNat * 4)) h rfl (Y.indexMZ (row := TDeed.rowv) (vs := q3) (l := a3) Tryd.underlying22 sz39 rfl rfl (fun w' hw => hA3.cls0 hw)) (fun x83 ex83 h => ?_)))))))
            refine L.y rfl (Y.loadEN (r := [.int .i64 x83.Kind, .int .i64 x83.N, st x83.Text, gv (q3 gx49.toNat) 0]) ag39 sz39 rfl (fun w' hw => hA3.cls0 hw) (zr_idx (vs := q3) ex83) rfl) ?_
            refine L.alloc rfl ze39 ?_
            intro b84
            refine L.storeC (i := 0) sz39 rfl rfl rfl rfl (fun w hw => (all1 rfl (all1 rfl (all1 rfl (all1 ((zAt (sds := TDeed.sds) (vs := q3) (j := 0) (c := 1) hD3 (fun _ _ => rfl) ex83 rfl).cls0 hw).one all0))))) rfl (Nat.le_of_ble_eq_true rfl) ?_
            refine L.nil (E.thenN (W.seq (W.region (L.y rfl (Y.assign rfl) ?_))))
            refine L.nil (E.thenN (W.seq (W.seq (W.region (L.y rfl (Y.fieldP fd39_0 rfl) ?_)))))
            refine L.y rfl (Y.loadP (i := 0) ag3 rfl rfl rfl) ?_
            refine L.nil (E.thenN (W.block (W.seqJ (fun gs D => ∃ (gb66 : Bool), gs = [(1, .int .i64 a1), (2, .int .i64 a2), (9, pt gb1 0), (11, pt gb6 0), (12, pt gb35 0), (14, pt gb42 0), (18, pt b84 0), (76, u3), (77, .int .i64 (a3.length : Int)), (78, .int .i64 gx49), (83, .int .i64 x83.Kind), (88, .bool gb66)] ∧ D = Cls w [] [.obj b84 [.int .i64 x83.Kind, .int .i64 x83.N, st x83.Text, gv (q3 gx49.toNat) 0] 39, .obj gb6 [gv50, gv52, gv54, gv56, .int .i64 gx58] 48, .obj gb1 [gv59, gv61, gv63, .int .i64 gx65] 54, .obj gb35 [pt gb1 0, .int .i64 gx36, .int .i64 gx37, .int .i64 gx38, .int .i64 gx39, .int .i64 gx40, .bool gb41] 58, .obj gb42 [pt gb6 0, .int .i64 gx43, .int .i64 gx44, .int .i64 gx45, .int .i64 gx46, .int .i64 gx47, .bool gb48] 68, .sl gv50 9 1 (gl51.map SR), .sl gv52 9 1 (gl53.map SR), .sl gv54 3 1 (gl55.map I), .sl gv56 9 1 (gl57.map SR), .sl gv59 9 1 (gl60.map SR), .sl gv61 9 1 (gl62.map SR), .sl gv63 75 2 (gl64.map Twrite.row)] ∧ m3_quirlaw_WalPlays_K15 gl60 gl62 gl64 gx65 gx36 gx37 gx38 gx39 gx40 gb41 x83 gl51 gl53 gl55 gl57 gx58 gx43 gx44 gx45 gx46 gx47 gb48 gx49 go2 a1 a2 gb66 = some r) ?_ ?_)))
            ·
             refine W.seq (W.region (L.ite h rfl (Y.eql rfl rfl) (fun c881 h => ?_) (fun c881 h => ?_)))
             ·
              refine L.y rfl (Y.assign rfl) ?_
              refine L.nil (E.thenN (W.condT rfl ?_))
              exact W.skip (E.joinJ ⟨true, rfl, rfl, h⟩ ⟨rfl, rfl, rfl, rfl, rfl, rfl, rfl, rfl, rfl, rfl, rfl, rfl, trivial⟩ (fun _ hw => hw))
             ·
              refine L.y rfl (Y.assign rfl) ?_
              refine L.nil (E.thenN (W.condF rfl ?_))
              refine W.seq (W.region (L.ite h rfl (Y.eql rfl rfl) (fun c882 h => ?_) (fun c882 h => ?_)))
              ·
               refine L.y rfl (Y.assign rfl) ?_
               refine L.nil (E.thenN (W.condT rfl ?_))
               exact W.skip (E.joinJ ⟨true, rfl, rfl, h⟩ ⟨rfl, rfl, rfl, rfl, rfl, rfl, rfl, rfl, rfl, rfl, rfl, rfl, trivial⟩ (fun _ hw => hw))
              ·
               refine L.y rfl (Y.assign rfl) ?_
               refine L.nil (E.thenN (W.condF rfl ?_))
               refine W.region (L.ite h rfl (Y.eql rfl rfl) (fun c883 h => ?_) (fun c883 h => ?_))
               ·
                refine L.y rfl (Y.assign rfl) ?_
                exact L.nil (E.joinJ ⟨true, rfl, rfl, h⟩ ⟨rfl, rfl, rfl, rfl, rfl, rfl, rfl, rfl, rfl, rfl, rfl, rfl, trivial⟩ (fun _ hw => hw))
               ·
                refine L.y rfl (Y.assign rfl) ?_
                exact L.nil (E.joinJ ⟨false, rfl, rfl, h⟩ ⟨rfl, rfl, rfl, rfl, rfl, rfl, rfl, rfl, rfl, rfl, rfl, rfl, trivial⟩ (fun _ hw => hw))
            ·
             rintro _ _ ⟨gb66, rfl, rfl, h⟩
             rw [m3_quirlaw_WalPlays_K15] at h
             rcases gb66 with _ | _
             ·
              replace h := iteF h
              refine W.condF rfl ?_
              refine W.seqJ (fun gs D => ∃ (gb67 : Bool), gs = [(1, .int .i64 a1), (2, .int .i64 a2), (9, pt gb1 0), (11, pt gb6 0), (12, pt gb35 0), (14, pt gb42 0), (18, pt b84 0), (76, u3), (77, .int .i64 (a3.length : Int)), (78, .int .i64 gx49), (83, .int .i64 x83.Kind), (101, .bool gb67)] ∧ D = Cls w [] [.obj b84 [.int .i64 x83.Kind, .int .i64 x83.N, st x83.Text, gv (q3 gx49.toNat) 0] 39, .obj gb6 [gv50, gv52, gv54, gv56, .int .i64 gx58] 48, .obj gb1 [gv59, gv61, gv63, .int .i64 gx65] 54, .obj gb35 [pt gb1 0, .int .i64 gx36, .int .i64 gx37, .int .i64 gx38, .int .i64 gx39, .int .i64 gx40, .bool gb41] 58, .obj gb42 [pt gb6 0, .int .i64 gx43, .int .i64 gx44, .int .i64 gx45, .int .i64 gx46, .int .i64 gx47, .bool gb48] 68, .sl gv50 9 1 (gl51.map SR), .sl gv52 9 1 (gl53.map SR), .sl gv54 3 1 (gl55.map I), .sl gv56 9 1 (gl57.map SR), .sl gv59 9 1 (gl60.map SR), .sl gv61 9 1 (gl62.map SR), .sl gv63 75 2 (gl64.map Twrite.row)] ∧ m3_quirlaw_WalPlays_K16 gl60 gl62 gl64 gx65 gx36 gx37 gx38 gx39 gx40 gb41 gl51 gl53 gl55 gl57 gx58 gx43 gx44 gx45 gx46 gx47 gb48 gx49 go2 x83 a1 a2 gb67 = some r) ?_ ?_
              ·
               refine W.region (L.ite h rfl (Y.eql rfl rfl) (fun c633 h => ?_) (fun c633 h => ?_))
               ·
                refine L.y rfl (Y.assign rfl) ?_
                exact L.nil (E.joinJ ⟨true, rfl, rfl, h⟩ ⟨rfl, rfl, rfl, rfl, rfl, rfl, rfl, rfl, rfl, rfl, rfl, rfl, trivial⟩ (fun _ hw => hw))
               ·
                refine L.y rfl (Y.assign rfl) ?_
                exact L.nil (E.joinJ ⟨false, rfl, rfl, h⟩ ⟨rfl, rfl, rfl, rfl, rfl, rfl, rfl, rfl, rfl, rfl, rfl, rfl, trivial⟩ (fun _ hw => hw))
              ·
               rintro _ _ ⟨gb67, rfl, rfl, h⟩
               rw [m3_quirlaw_WalPlays_K16] at h
               rcases gb67 with _ | _
               ·
                replace h := iteF h
                refine W.condF rfl ?_
                refine W.seqJ (fun gs D => ∃ (gb68 : Bool), gs = [(1, .int .i64 a1), (2, .int .i64 a2), (9, pt gb1 0), (11, pt gb6 0), (12, pt gb35 0), (14, pt gb42 0), (18, pt b84 0), (76, u3), (77, .int .i64 (a3.length : Int)), (78, .int .i64 gx49), (83, .int .i64 x83.Kind), (108, .bool gb68)] ∧ D = Cls w [] [.obj b84 [.int .i64 x83.Kind, .int .i64 x83.N, st x83.Text, gv (q3 gx49.toNat) 0] 39, .obj gb6 [gv50, gv52, gv54, gv56, .int .i64 gx58] 48, .obj gb1 [gv59, gv61, gv63, .int .i64 gx65] 54, .obj gb35 [pt gb1 0, .int .i64 gx36, .int .i64 gx37, .int .i64 gx38, .int .i64 gx39, .int .i64 gx40, .bool gb41] 58, .obj gb42 [pt gb6 0, .int .i64 gx43, .int .i64 gx44, .int .i64 gx45, .int .i64 gx46, .int .i64 gx47, .bool gb48] 68, .sl gv50 9 1 (gl51.map SR), .sl gv52 9 1 (gl53.map SR), .sl gv54 3 1 (gl55.map I), .sl gv56 9 1 (gl57.map SR), .sl gv59 9 1 (gl60.map SR), .sl gv61 9 1 (gl62.map SR), .sl gv63 75 2 (gl64.map Twrite.row)] ∧ m3_quirlaw_WalPlays_K17 gl60 gl62 gl64 gx65 gx36 gx37 gx38 gx39 gx40 gb41 x83 gl51 gl53 gl55 gl57 gx58 gx43 gx44 gx45 gx46 gx47 gb48 gx49 go2 a1 a2 gb68 = some r) ?_ ?_
                ·
                 refine W.region (L.ite h rfl (Y.eql rfl rfl) (fun c605 h => ?_) (fun c605 h => ?_))
                 ·
                  refine L.y rfl (Y.assign rfl) ?_
                  exact L.nil (E.joinJ ⟨true, rfl, rfl, h⟩ ⟨rfl, rfl, rfl, rfl, rfl, rfl, rfl, rfl, rfl, rfl, rfl, rfl, trivial⟩ (fun _ hw => hw))
                 ·
                  refine L.y rfl (Y.assign rfl) ?_
                  exact L.nil (E.joinJ ⟨false, rfl, rfl, h⟩ ⟨rfl, rfl, rfl, rfl, rfl, rfl, rfl, rfl, rfl, rfl, rfl, rfl, trivial⟩ (fun _ hw => hw))
                ·
                 rintro _ _ ⟨gb68, rfl, rfl, h⟩
                 rw [m3_quirlaw_WalPlays_K17] at h
                 rcases gb68 with _ | _
                 ·
                  replace h := iteF h
                  refine W.condF rfl ?_
                  refine W.seqJ (fun gs D => ∃ (gb69 : Bool), gs = [(1, .int .i64 a1), (2, .int .i64 a2), (9, pt gb1 0), (11, pt gb6 0), (12, pt gb35 0), (14, pt gb42 0), (18, pt b84 0), (76, u3), (77, .int .i64 (a3.length : Int)), (78, .int .i64 gx49), (119, .bool gb69)] ∧ D = Cls w [] [.obj b84 [.int .i64 x83.Kind, .int .i64 x83.N, st x83.Text, gv (q3 gx49.toNat) 0] 39, .obj gb6 [gv50, gv52, gv54, gv56, .int .i64 gx58] 48, .obj gb1 [gv59, gv61, gv63, .int .i64 gx65] 54, .obj gb35 [pt gb1 0, .int .i64 gx36, .int .i64 gx37, .int .i64 gx38, .int .i64 gx39, .int .i64 gx40, .bool gb41] 58, .obj gb42 [pt gb6 0, .int .i64 gx43, .int .i64 gx44, .int .i64 gx45, .int .i64 gx46, .int .i64 gx47, .bool gb48] 68, .sl gv50 9 1 (gl51.map SR), .sl gv52 9 1 (gl53.map SR), .sl gv54 3 1 (gl55.map I), .sl gv56 9 1 (gl57.map SR), .sl gv59 9 1 (gl60.map SR), .sl gv61 9 1 (gl62.map SR), .sl gv63 75 2 (gl64.map Twrite.row)] ∧ m3_quirlaw_WalPlays_K18 gl60 gl62 gl64 gx65 x83 gl51 gl53 gl55 gl57 gx58 a1 a2 gx49 go2 gx37 gx39 gx44 gx46 gx36 gx38 gx40 gb41 gx43 gx45 gx47 gb48 gb69 = some r) ?_ ?_
                  ·
                   refine W.seq (W.region (L.ite h rfl (Y.eql rfl rfl) (fun c337 h => ?_) (fun c337 h => ?_)))
                   ·
                    refine L.y rfl (Y.assign rfl) ?_
                    refine L.nil (E.thenN (W.condT rfl ?_))
                    exact W.skip (E.joinJ ⟨true, rfl, rfl, h⟩ ⟨rfl, rfl, rfl, rfl, rfl, rfl, rfl, rfl, rfl, rfl, rfl, trivial⟩ (fun _ hw => hw))
                   ·
                    refine L.y rfl (Y.assign rfl) ?_
                    refine L.nil (E.thenN (W.condF rfl ?_))
                    refine W.region (L.ite h rfl (Y.eql rfl rfl) (fun c338 h => ?_) (fun c338 h => ?_))
                    ·
                     refine L.y rfl (Y.assign rfl) ?_
                     exact L.nil (E.joinJ ⟨true, rfl, rfl, h⟩ ⟨rfl, rfl, rfl, rfl, rfl, rfl, rfl, rfl, rfl, rfl, rfl, trivial⟩ (fun _ hw => hw))
                    ·
                     refine L.y rfl (Y.assign rfl) ?_
                     exact L.nil (E.joinJ ⟨false, rfl, rfl, h⟩ ⟨rfl, rfl, rfl, rfl, rfl, rfl, rfl, rfl, rfl, rfl, rfl, trivial⟩ (fun _ hw => hw))
                  ·
                   rintro _ _ ⟨gb69, rfl, rfl, h⟩
                   rw [m3_quirlaw_WalPlays_K18] at h
                   rcases gb69 with _ | _
                   ·
                    replace h := iteF h
                    refine W.condF rfl ?_
                    refine W.region (L.y rfl (Y.move rfl) ?_)
                    refine L.y rfl (Y.move rfl) ?_
                    refine L.y rfl (Y.loadPW (i := 0) ag39 sz39 rfl rfl rfl) ?_
                    refine L.callJ (fun v D => ∃ (gb70 : Bool) (gv71 : Value) (gl72 : (List (List UInt8))) (gv73 : Value) (gl74 : (List (List UInt8))) (gv75 : Value) (gl76 : (List Int)) (gv77 : Value) (gl78 : (List (List UInt8))) (gx79 : Int) (gv80 : Value) (gl81 : (List (List UInt8))) (gv82 : Value) (gl83 : (List (List UInt8))) (gv84 : Value) (gl85 : (List Twrite)) (gx86 : Int), v = .bool gb70 ∧ D = Cls w [] [.obj gb6 [gv71, gv73, gv75, gv77, .int .i64 gx79] 48, .obj gb1 [gv80, gv82, gv84, .int .i64 gx86] 54, .obj gb35 [pt gb1 0, .int .i64 gx36, .int .i64 gx37, .int .i64 gx38, .int .i64 gx39, .int .i64 gx40, .bool gb41] 58, .obj gb42 [pt gb6 0, .int .i64 gx43, .int .i64 gx44, .int .i64 gx45, .int .i64 gx46, .int .i64 gx47, .bool gb48] 68, .sl gv71 9 1 (gl72.map SR), .sl gv73 9 1 (gl74.map SR), .sl gv75 3 1 (gl76.map I), .sl gv77 9 1 (gl78.map SR), .sl gv80 9 1 (gl81.map SR), .sl gv82 9 1 (gl83.map SR), .sl gv84 75 2 (gl85.map Twrite.row)] ∧ m3_quirlaw_WalPlays_K19 gx37 gx39 gx44 gx46 gx49 go2 gx36 gx38 gx40 gb41 gx43 gx45 gx47 gb48 gb70 gl72 gl74 gl76 gl78 gx79 gl81 gl83 gl85 gx86 = some r) rfl en17 rfl Tryd.func17 rfl rfl rfl ?_ ?_
                    ·
                     refine W.seq (W.region (L.box rfl rfl ?_))
                     intro b89
                     refine L.y rfl (Y.assign rfl) ?_
                     refine L.nil (E.thenN (W.seq (W.seq (W.region (L.y rfl (Y.fieldP fd39_0 rfl) ?_)))))
                     refine L.y rfl (Y.loadP (i := 0) ag3 rfl rfl rfl) ?_
                     refine L.nil (E.thenN (W.block (W.seqJ (fun gs D => ∃ (gb89 : Bool), gs = [(0, pt gb1 0), (1, pt gb6 0), (5, pt b89 0), (12, .int .i64 x83.Kind), (21, .bool gb89)] ∧ D = Cls w [] [.obj b89 [.int .i64 x83.Kind, .int .i64 x83.N, st x83.Text, gv (q3 gx49.toNat) 0] 39, .obj gb6 [gv50, gv52, gv54, gv56, .int .i64 gx58] 48, .obj gb1 [gv59, gv61, gv63, .int .i64 gx65] 54, .obj gb35 [pt gb1 0, .int .i64 gx36, .int .i64 gx37, .int .i64 gx38, .int .i64 gx39, .int .i64 gx40, .bool gb41] 58, .obj gb42 [pt gb6 0, .int .i64 gx43, .int .i64 gx44, .int .i64 gx45, .int .i64 gx46, .int .i64 gx47, .bool gb48] 68, .sl gv50 9 1 (gl51.map SR), .sl gv52 9 1 (gl53.map SR), .sl gv54 3 1 (gl55.map I), .sl gv56 9 1 (gl57.map SR), .sl gv59 9 1 (gl60.map SR), .sl gv61 9 1 (gl62.map SR), .sl gv63 75 2 (gl64.map Twrite.row)] ∧ m3_quirlaw_WalPlays_K22 gl60 gl62 gl64 gx65 x83 gl51 gl53 gl55 gl57 gx58 gx37 gx39 gx44 gx46 gx49 go2 gx36 gx38 gx40 gb41 gx43 gx45 gx47 gb48 gb89 = some r) ?_ ?_)))
                     ·
                      refine W.region (L.ite h rfl (Y.eql rfl rfl) (fun c240 h => ?_) (fun c240 h => ?_))
                      ·
                       refine L.y rfl (Y.assign rfl) ?_
                       exact L.nil (E.joinJ ⟨true, rfl, rfl, h⟩ ⟨rfl, rfl, rfl, rfl, rfl, trivial⟩ (fun _ hw => hw.sel [0, 2, 3, 4, 5, 6, 7, 8, 9, 10, 11, 12] (by decide) rfl))
                      ·
                       refine L.y rfl (Y.assign rfl) ?_
                       exact L.nil (E.joinJ ⟨false, rfl, rfl, h⟩ ⟨rfl, rfl, rfl, rfl, rfl, trivial⟩ (fun _ hw => hw.sel [0, 2, 3, 4, 5, 6, 7, 8, 9, 10, 11, 12] (by decide) rfl))
                     ·
                      rintro _ _ ⟨gb89, rfl, rfl, h⟩
                      rw [m3_quirlaw_WalPlays_K22] at h
                      rcases gb89 with _ | _
                      ·
                       replace h := iteF h
                       refine W.condF rfl ?_
                       refine W.seqJ (fun gs D => ∃ (gb90 : Bool), gs = [(0, pt gb1 0), (1, pt gb6 0), (5, pt b89 0), (12, .int .i64 x83.Kind), (36, .bool gb90)] ∧ D = Cls w [] [.obj b89 [.int .i64 x83.Kind, .int .i64 x83.N, st x83.Text, gv (q3 gx49.toNat) 0] 39, .obj gb6 [gv50, gv52, gv54, gv56, .int .i64 gx58] 48, .obj gb1 [gv59, gv61, gv63, .int .i64 gx65] 54, .obj gb35 [pt gb1 0, .int .i64 gx36, .int .i64 gx37, .int .i64 gx38, .int .i64 gx39, .int .i64 gx40, .bool gb41] 58, .obj gb42 [pt gb6 0, .int .i64 gx43, .int .i64 gx44, .int .i64 gx45, .int .i64 gx46, .int .i64 gx47, .bool gb48] 68, .sl gv50 9 1 (gl51.map SR), .sl gv52 9 1 (gl53.map SR), .sl gv54 3 1 (gl55.map I), .sl gv56 9 1 (gl57.map SR), .sl gv59 9 1 (gl60.map SR), .sl gv61 9 1 (gl62.map SR), .sl gv63 75 2 (gl64.map Twrite.row)] ∧ m3_quirlaw_WalPlays_K23 gl60 gl62 gl64 gx65 x83 gl51 gl53 gl55 gl57 gx58 gx37 gx39 gx44 gx46 gx49 go2 gx36 gx38 gx40 gb41 gx43 gx45 gx47 gb48 gb90 = some r) ?_ ?_
                       ·
                        refine W.region (L.ite h rfl (Y.eql rfl rfl) (fun c138 h => ?_) (fun c138 h => ?_))
                        ·
                         refine L.y rfl (Y.assign rfl) ?_
                         exact L.nil (E.joinJ ⟨true, rfl, rfl, h⟩ ⟨rfl, rfl, rfl, rfl, rfl, trivial⟩ (fun _ hw => hw))
                        ·
                         refine L.y rfl (Y.assign rfl) ?_
                         exact L.nil (E.joinJ ⟨false, rfl, rfl, h⟩ ⟨rfl, rfl, rfl, rfl, rfl, trivial⟩ (fun _ hw => hw))
                       ·
                        rintro _ _ ⟨gb90, rfl, rfl, h⟩
                        rw [m3_quirlaw_WalPlays_K23] at h
                        rcases gb90 with _ | _
                        ·
                         replace h := iteF h
                         refine W.condF rfl ?_
                         refine W.seq (W.region (L.ite h rfl (Y.eql rfl rfl) (fun c90 h => ?_) (fun c90 h => ?_)))
                         ·
                          refine L.y rfl (Y.assign rfl) ?_
                          refine L.nil (E.thenN (W.condT rfl ?_))
                          refine W.seq (W.region (L.y rfl (Y.move rfl) ?_))
                          refine L.to (D := Cls w [] [.obj gb1 [gv59, gv61, gv63, .int .i64 gx65] 54, .sl gv59 9 1 (gl60.map SR), .sl gv61 9 1 (gl62.map SR), .sl gv63 75 2 (gl64.map Twrite.row), .obj b89 [.int .i64 x83.Kind, .int .i64 x83.N, st x83.Text, gv (q3 gx49.toNat) 0] 39, .obj gb6 [gv50, gv52, gv54, gv56, .int .i64 gx58] 48, .obj gb35 [pt gb1 0, .int .i64 gx36, .int .i64 gx37, .int .i64 gx38, .int .i64 gx39, .int .i64 gx40, .bool gb41] 58, .obj gb42 [pt gb6 0, .int .i64 gx43, .int .i64 gx44, .int .i64 gx45, .int .i64 gx46, .int .i64 gx47, .bool gb48] 68, .sl gv50 9 1 (gl51.map SR), .sl gv52 9 1 (gl53.map SR), .sl gv54 3 1 (gl55.map I), .sl gv56 9 1 (gl57.map SR)]) (fun _ hw => hw.sel [2, 9, 10, 11, 0, 1, 3, 4, 5, 6, 7, 8] (by decide) rfl) ?_
                          obtain ⟨l91, l92, l93, x94, x95, e96, h⟩ := bind5S h
                          refine L.doesP (A := [.obj gb1 [gv59, gv61, gv63, .int .i64 gx65] 54, .sl gv59 9 1 (gl60.map SR), .sl gv61 9 1 (gl62.map SR), .sl gv63 75 2 (gl64.map Twrite.row)]) (M := [.obj b89 [.int .i64 x83.Kind, .int .i64 x83.N, st x83.Text, gv (q3 gx49.toNat) 0] 39, .obj gb6 [gv50, gv52, gv54, gv56, .int .i64 gx58] 48, .obj gb35 [pt gb1 0, .int .i64 gx36, .int .i64 gx37, .int .i64 gx38, .int .i64 gx39, .int .i64 gx40, .bool gb41] 58, .obj gb42 [pt gb6 0, .int .i64 gx43, .int .i64 gx44, .int .i64 gx45, .int .i64 gx46, .int .i64 gx47, .bool gb48] 68, .sl gv50 9 1 (gl51.map SR), .sl gv52 9 1 (gl53.map SR), .sl gv54 3 1 (gl55.map I), .sl gv56 9 1 (gl57.map SR)]) rfl en38 rfl (fun w' hw => w38_sect_Disk_Flush gl60 gl62 gl64 gx65 gb1 gv59 gv61 gv63 w' _ e96 _ hw.lend) ?_
                          rintro _ _ ⟨v97, v98, v99, rfl, rfl⟩
                          refine L.to (D := Cls w [] [.obj gb1 [v97, v98, v99, .int .i64 x94] 54, .sl v97 9 1 (l91.map SR), .sl v98 9 1 (l92.map SR), .sl v99 75 2 (l93.map Twrite.row), .obj b89 [.int .i64 x83.Kind, .int .i64 x83.N, st x83.Text, gv (q3 gx49.toNat) 0] 39, .obj gb6 [gv50, gv52, gv54, gv56, .int .i64 gx58] 48, .obj gb35 [pt gb1 0, .int .i64 gx36, .int .i64 gx37, .int .i64 gx38, .int .i64 gx39, .int .i64 gx40, .bool gb41] 58, .obj gb42 [pt gb6 0, .int .i64 gx43, .int .i64 gx44, .int .i64 gx45, .int .i64 gx46, .int .i64 gx47, .bool gb48] 68, .sl gv50 9 1 (gl51.map SR), .sl gv52 9 1 (gl53.map SR), .sl gv54 3 1 (gl55.map I), .sl gv56 9 1 (gl57.map SR)]) (fun _ hw => hw) ?_
                          refine L.y rfl (Y.move rfl) ?_
                          refine L.to (D := Cls w [] [.obj gb6 [gv50, gv52, gv54, gv56, .int .i64 gx58] 48, .sl gv50 9 1 (gl51.map SR), .sl gv52 9 1 (gl53.map SR), .sl gv54 3 1 (gl55.map I), .sl gv56 9 1 (gl57.map SR), .obj gb1 [v97, v98, v99, .int .i64 x94] 54, .sl v97 9 1 (l91.map SR), .sl v98 9 1 (l92.map SR), .sl v99 75 2 (l93.map Twrite.row), .obj b89 [.int .i64 x83.Kind, .int .i64 x83.N, st x83.Text, gv (q3 gx49.toNat) 0] 39, .obj gb35 [pt gb1 0, .int .i64 gx36, .int .i64 gx37, .int .i64 gx38, .int .i64 gx39, .int .i64 gx40, .bool gb41] 58, .obj gb42 [pt gb6 0, .int .i64 gx43, .int .i64 gx44, .int .i64 gx45, .int .i64 gx46, .int .i64 gx47, .bool gb48] 68]) (fun _ hw => hw.sel [5, 8, 9, 10, 11, 0, 1, 2, 3, 4, 6, 7] (by decide) rfl) ?_
                          obtain ⟨l100, l101, l102, l103, x104, x105, e106, h⟩ := bind6S h
                          refine L.doesP (A := [.obj gb6 [gv50, gv52, gv54, gv56, .int .i64 gx58] 48, .sl gv50 9 1 (gl51.map SR), .sl gv52 9 1 (gl53.map SR), .sl gv54 3 1 (gl55.map I), .sl gv56 9 1 (gl57.map SR)]) (M := [.obj gb1 [v97, v98, v99, .int .i64 x94] 54, .sl v97 9 1 (l91.map SR), .sl v98 9 1 (l92.map SR), .sl v99 75 2 (l93.map Twrite.row), .obj b89 [.int .i64 x83.Kind, .int .i64 x83.N, st x83.Text, gv (q3 gx49.toNat) 0] 39, .obj gb35 [pt gb1 0, .int .i64 gx36, .int .i64 gx37, .int .i64 gx38, .int .i64 gx39, .int .i64 gx40, .bool gb41] 58, .obj gb42 [pt gb6 0, .int .i64 gx43, .int .i64 gx44, .int .i64 gx45, .int .i64 gx46, .int .i64 gx47, .bool gb48] 68]) rfl en39 rfl (fun w' hw => w39_quirref_Disk_Flush gl51 gl53 gl55 gl57 gx58 gb6 gv50 gv52 gv54 gv56 w' _ e106 _ hw.lend) ?_
                          rintro _ _ ⟨v107, v108, v109, v110, rfl, rfl⟩
                          refine L.to (D := Cls w [] [.obj gb6 [v107, v108, v109, v110, .int .i64 x104] 48, .sl v107 9 1 (l100.map SR), .sl v108 9 1 (l101.map SR), .sl v109 3 1 (l102.map I), .sl v110 9 1 (l103.map SR), .obj gb1 [v97, v98, v99, .int .i64 x94] 54, .sl v97 9 1 (l91.map SR), .sl v98 9 1 (l92.map SR), .sl v99 75 2 (l93.map Twrite.row), .obj b89 [.int .i64 x83.Kind, .int .i64 x83.N, st x83.Text, gv (q3 gx49.toNat) 0] 39, .obj gb35 [pt gb1 0, .int .i64 gx36, .int .i64 gx37, .int .i64 gx38, .int .i64 gx39, .int .i64 gx40, .bool gb41] 58, .obj gb42 [pt gb6 0, .int .i64 gx43, .int .i64 gx44, .int .i64 gx45, .int .i64 gx46, .int .i64 gx47, .bool gb48] 68]) (fun _ hw => hw) ?_
                          refine L.y rfl (Y.eql rfl rfl) ?_
                          refine L.y rfl (Y.assign rfl) ?_
                          refine L.nil (E.thenN (W.ret (E.blockR (E.thenR (E.ret1 rfl rfl (fun w1 hw => ?_))))))
                          exact ⟨_, _, rfl, ⟨decide (x95 = x105), v107, l100, v108, l101, v109, l102, v110, l103, x104, v97, l91, v98, l92, v99, l93, x94, rfl, rfl, h⟩, hw.sel [0, 5, 10, 11, 1, 2, 3, 4, 6, 7, 8] (by decide) rfl⟩
                         ·
                          refine L.y rfl (Y.assign rfl) ?_
                          refine L.nil (E.thenN (W.condF rfl ?_))
                          refine W.seq (W.region (L.ite h rfl (Y.eql rfl rfl) (fun c111 h => ?_) (fun c111 h => ?_)))
                          ·
                           refine L.y rfl (Y.assign rfl) ?_
                           refine L.nil (E.thenN (W.condT rfl ?_))
                           refine W.seq (W.region (L.y rfl (Y.move rfl) ?_))
                           refine L.y rfl (Y.fieldP fd39_1 rfl) ?_
                           refine L.y rfl (Y.loadP (i := 0) ag3 rfl rfl rfl) ?_
                           refine L.callJ (fun v D => v = .tuple #[] ∧ D = Cls w [] [.obj b89 [.int .i64 x83.Kind, .int .i64 x83.N, st x83.Text, gv (q3 gx49.toNat) 0] 39, .obj gb6 [gv50, gv52, gv54, gv56, .int .i64 gx58] 48, .obj gb1 [gv59, gv61, gv63, .int .i64 (max x83.N (-1))] 54, .obj gb35 [pt gb1 0, .int .i64 gx36, .int .i64 gx37, .int .i64 gx38, .int .i64 gx39, .int .i64 gx40, .bool gb41] 58, .obj gb42 [pt gb6 0, .int .i64 gx43, .int .i64 gx44, .int .i64 gx45, .int .i64 gx46, .int .i64 gx47, .bool gb48] 68, .sl gv50 9 1 (gl51.map SR), .sl gv52 9 1 (gl53.map SR), .sl gv54 3 1 (gl55.map I), .sl gv56 9 1 (gl57.map SR), .sl gv59 9 1 (gl60.map SR), .sl gv61 9 1 (gl62.map SR), .sl gv63 75 2 (gl64.map Twrite.row)] ∧ m3_quirlaw_WalPlays_K24 x83 gx37 gx39 gx44 gx46 gx49 go2 gx36 gx38 gx40 gb41 gx43 gx45 gx47 gb48 gl51 gl53 gl55 gl57 gl60 gl62 gl64 = some r) rfl en20 rfl Tryd.func20 rfl rfl rfl ?_ ?_
                           ·
                            refine W.region (L.y rfl (Y.move rfl) ?_)
                            refine L.y rfl (Y.move rfl) ?_
                            refine L.y rfl (Y.max2 rfl rfl) ?_
                            refine L.y rfl (Y.nilCheck rfl) ?_
                            refine L.y rfl (Y.fieldP fd54_3 rfl) ?_
                            refine L.store (i := 2) (vs := [.int .i64 (max x83.N (-1))]) sz3 rfl rfl rfl rfl (by simp [Value.oneCell', Value.cells, st, pt, el]) rfl (Nat.le_of_ble_eq_true rfl) ?_
                            refine L.nil (E.end0 rfl (fun w1 hw => ?_))
                            exact ⟨_, _, rfl, ⟨rfl, rfl, h⟩, hw⟩
                           ·
                            rintro _ _ ⟨rfl, rfl, h⟩
                            rw [m3_quirlaw_WalPlays_K24] at h
                            refine L.nil (E.thenN (W.region (L.y rfl (Y.move rfl) ?_)))
                            refine L.y rfl (Y.fieldP fd39_1 rfl) ?_
                            refine L.y rfl (Y.loadP (i := 0) ag3 rfl rfl rfl) ?_
                            refine L.callJ (fun v D => ∃ (gx91 : Int), v = .tuple #[] ∧ D = Cls w [] [.obj gb6 [gv50, gv52, gv54, gv56, .int .i64 gx91] 48, .obj gb1 [gv59, gv61, gv63, .int .i64 (max x83.N (-1))] 54, .obj gb35 [pt gb1 0, .int .i64 gx36, .int .i64 gx37, .int .i64 gx38, .int .i64 gx39, .int .i64 gx40, .bool gb41] 58, .obj gb42 [pt gb6 0, .int .i64 gx43, .int .i64 gx44, .int .i64 gx45, .int .i64 gx46, .int .i64 gx47, .bool gb48] 68, .sl gv50 9 1 (gl51.map SR), .sl gv52 9 1 (gl53.map SR), .sl gv54 3 1 (gl55.map I), .sl gv56 9 1 (gl57.map SR), .sl gv59 9 1 (gl60.map SR), .sl gv61 9 1 (gl62.map SR), .sl gv63 75 2 (gl64.map Twrite.row)] ∧ m3_quirlaw_WalPlays_K25 gx37 gx39 gx44 gx46 gx49 go2 gx36 gx38 gx40 gb41 gx43 gx45 gx47 gb48 gl51 gl53 gl55 gl57 gl60 gl62 gl64 x83 gx91 = some r) rfl en42 rfl Tryd.func42 rfl rfl rfl ?_ ?_
                            ·
                             refine W.seq (W.region (L.y rfl (Y.move rfl) ?_))
                             refine L.y rfl (Y.move rfl) ?_
                             refine L.y rfl (Y.nilCheck rfl) ?_
                             refine L.y rfl (Y.fieldP fd48_4 rfl) ?_
                             refine L.store (i := 1) (vs := [.int .i64 x83.N]) sz3 rfl rfl rfl rfl (by simp [Value.oneCell', Value.cells, st, pt, el]) rfl (Nat.le_of_ble_eq_true rfl) ?_
                             refine L.nil (E.thenN (W.seq (W.region (L.y rfl (Y.move rfl) ?_))))
                             refine L.ite h rfl (Y.lss rfl rfl) (fun c112 h => ?_) (fun c112 h => ?_)
                             ·
                              refine L.nil (E.thenN (W.condT rfl ?_))
                              refine W.region (L.y rfl (Y.move rfl) ?_)
                              refine L.y rfl (Y.nilCheck rfl) ?_
                              refine L.y rfl (Y.fieldP fd48_4 rfl) ?_
                              refine L.store (i := 1) (vs := [.int .i64 (-1)]) sz3 rfl rfl rfl rfl (by simp [Value.oneCell', Value.cells, st, pt, el]) rfl (Nat.le_of_ble_eq_true rfl) ?_
                              refine L.nil (E.end0 rfl (fun w1 hw => ?_))
                              exact ⟨_, _, rfl, ⟨(-1), rfl, rfl, h⟩, hw.sel [1, 2, 3, 4, 5, 6, 7, 8, 9, 10, 11] (by decide) rfl⟩
                             ·
                              refine L.nil (E.thenN (W.condF rfl ?_))
                              refine W.skip (E.end0 rfl (fun w1 hw => ?_))
                              exact ⟨_, _, rfl, ⟨x83.N, rfl, rfl, h⟩, hw.sel [1, 2, 3, 4, 5, 6, 7, 8, 9, 10, 11] (by decide) rfl⟩
                            ·
                             rintro _ _ ⟨gx91, rfl, rfl, h⟩
                             rw [m3_quirlaw_WalPlays_K25] at h
                             refine L.nil (E.blockN (E.thenN (W.seq (W.region (L.y rfl (Y.assign rfl) ?_)))))
                             refine L.nil (E.thenN (W.ret (E.ret1 rfl rfl (fun w1 hw => ?_))))
                             exact ⟨_, _, rfl, ⟨true, gv50, gl51, gv52, gl53, gv54, gl55, gv56, gl57, gx91, gv59, gl60, gv61, gl62, gv63, gl64, (max x83.N (-1)), rfl, rfl, h⟩, hw⟩
                          ·
                           refine L.y rfl (Y.assign rfl) ?_
                           refine L.nil (E.thenN (W.condF rfl ?_))
                           refine W.seq (W.region (L.y rfl (Y.move rfl) ?_))
                           refine L.y rfl (Y.fieldP fd39_3 rfl) ?_
                           refine L.y rfl (Y.loadP (i := 0) ag37 rfl rfl rfl) ?_
                           refine L.to (D := Cls w [] [.obj gb1 [gv59, gv61, gv63, .int .i64 gx65] 54, .sl gv59 9 1 (gl60.map SR), .sl gv61 9 1 (gl62.map SR), .sl gv63 75 2 (gl64.map Twrite.row), .obj b89 [.int .i64 x83.Kind, .int .i64 x83.N, st x83.Text, gv (q3 gx49.toNat) 0] 39, .obj gb6 [gv50, gv52, gv54, gv56, .int .i64 gx58] 48, .obj gb35 [pt gb1 0, .int .i64 gx36, .int .i64 gx37, .int .i64 gx38, .int .i64 gx39, .int .i64 gx40, .bool gb41] 58, .obj gb42 [pt gb6 0, .int .i64 gx43, .int .i64 gx44, .int .i64 gx45, .int .i64 gx46, .int .i64 gx47, .bool gb48] 68, .sl gv50 9 1 (gl51.map SR), .sl gv52 9 1 (gl53.map SR), .sl gv54 3 1 (gl55.map I), .sl gv56 9 1 (gl57.map SR)]) (fun _ hw => hw.sel [2, 9, 10, 11, 0, 1, 3, 4, 5, 6, 7, 8] (by decide) rfl) ?_
                           obtain ⟨l113, l114, l115, x116, e117, h⟩ := bind4S h
                           refine L.doesP (A := [.obj gb1 [gv59, gv61, gv63, .int .i64 gx65] 54, .sl gv59 9 1 (gl60.map SR), .sl gv61 9 1 (gl62.map SR), .sl gv63 75 2 (gl64.map Twrite.row)]) (M := [.obj b89 [.int .i64 x83.Kind, .int .i64 x83.N, st x83.Text, gv (q3 gx49.toNat) 0] 39, .obj gb6 [gv50, gv52, gv54, gv56, .int .i64 gx58] 48, .obj gb35 [pt gb1 0, .int .i64 gx36, .int .i64 gx37, .int .i64 gx38, .int .i64 gx39, .int .i64 gx40, .bool gb41] 58, .obj gb42 [pt gb6 0, .int .i64 gx43, .int .i64 gx44, .int .i64 gx45, .int .i64 gx46, .int .i64 gx47, .bool gb48] 68, .sl gv50 9 1 (gl51.map SR), .sl gv52 9 1 (gl53.map SR), .sl gv54 3 1 (gl55.map I), .sl gv56 9 1 (gl57.map SR)]) rfl en15 rfl (fun w' hw => w15_sect_Disk_Crash gl60 gl62 gl64 gx65 x83.Keep gb1 gv59 gv61 gv63 (gv (q3 gx49.toNat) 0) w' _ e117 _ (At.lendS (zAt (sds := TDeed.sds) (vs := q3) (j := 0) (c := 1) hD3 (fun _ _ => rfl) ex83 rfl) hw) hw.lend) ?_
                           rintro _ _ ⟨v118, v119, v120, rfl, rfl⟩
                           refine L.to (D := Cls w [] [.obj gb1 [v118, v119, v120, .int .i64 x116] 54, .sl v118 9 1 (l113.map SR), .sl v119 9 1 (l114.map SR), .sl v120 75 2 (l115.map Twrite.row), .obj b89 [.int .i64 x83.Kind, .int .i64 x83.N, st x83.Text, gv (q3 gx49.toNat) 0] 39, .obj gb6 [gv50, gv52, gv54, gv56, .int .i64 gx58] 48, .obj gb35 [pt gb1 0, .int .i64 gx36, .int .i64 gx37, .int .i64 gx38, .int .i64 gx39, .int .i64 gx40, .bool gb41] 58, .obj gb42 [pt gb6 0, .int .i64 gx43, .int .i64 gx44, .int .i64 gx45, .int .i64 gx46, .int .i64 gx47, .bool gb48] 68, .sl gv50 9 1 (gl51.map SR), .sl gv52 9 1 (gl53.map SR), .sl gv54 3 1 (gl55.map I), .sl gv56 9 1 (gl57.map SR)]) (fun _ hw => hw) ?_
                           refine L.nil (E.thenN (W.region (L.y rfl (Y.move rfl) ?_)))
                           refine L.y rfl (Y.fieldP fd39_3 rfl) ?_
                           refine L.y rfl (Y.loadP (i := 4) ag37 rfl rfl rfl) ?_
                           refine L.to (D := Cls w [] [.obj gb6 [gv50, gv52, gv54, gv56, .int .i64 gx58] 48, .sl gv50 9 1 (gl51.map SR), .sl gv52 9 1 (gl53.map SR), .sl gv54 3 1 (gl55.map I), .sl gv56 9 1 (gl57.map SR), .obj gb1 [v118, v119, v120, .int .i64 x116] 54, .sl v118 9 1 (l113.map SR), .sl v119 9 1 (l114.map SR), .sl v120 75 2 (l115.map Twrite.row), .obj b89 [.int .i64 x83.Kind, .int .i64 x83.N, st x83.Text, gv (q3 gx49.toNat) 0] 39, .obj gb35 [pt gb1 0, .int .i64 gx36, .int .i64 gx37, .int .i64 gx38, .int .i64 gx39, .int .i64 gx40, .bool gb41] 58, .obj gb42 [pt gb6 0, .int .i64 gx43, .int .i64 gx44, .int .i64 gx45, .int .i64 gx46, .int .i64 gx47, .bool gb48] 68]) (fun _ hw => hw.sel [5, 8, 9, 10, 11, 0, 1, 2, 3, 4, 6, 7] (by decide) rfl) ?_
                           obtain ⟨l121, l122, l123, l124, x125, e126, h⟩ := bind5S h
                           refine L.doesP (A := [.obj gb6 [gv50, gv52, gv54, gv56, .int .i64 gx58] 48, .sl gv50 9 1 (gl51.map SR), .sl gv52 9 1 (gl53.map SR), .sl gv54 3 1 (gl55.map I), .sl gv56 9 1 (gl57.map SR)]) (M := [.obj gb1 [v118, v119, v120, .int .i64 x116] 54, .sl v118 9 1 (l113.map SR), .sl v119 9 1 (l114.map SR), .sl v120 75 2 (l115.map Twrite.row), .obj b89 [.int .i64 x83.Kind, .int .i64 x83.N, st x83.Text, gv (q3 gx49.toNat) 0] 39, .obj gb35 [pt gb1 0, .int .i64 gx36, .int .i64 gx37, .int .i64 gx38, .int .i64 gx39, .int .i64 gx40, .bool gb41] 58, .obj gb42 [pt gb6 0, .int .i64 gx43, .int .i64 gx44, .int .i64 gx45, .int .i64 gx46, .int .i64 gx47, .bool gb48] 68]) rfl en16 rfl (fun w' hw => w16_quirref_Disk_Crash gl51 gl53 gl55 gl57 gx58 x83.Keep gb6 gv50 gv52 gv54 gv56 (gv (q3 gx49.toNat) 0) w' _ e126 _ (At.lendS (zAt (sds := TDeed.sds) (vs := q3) (j := 0) (c := 1) hD3 (fun _ _ => rfl) ex83 rfl) hw) hw.lend) ?_
                           rintro _ _ ⟨v127, v128, v129, v130, rfl, rfl⟩
                           refine L.to (D := Cls w [] [.obj gb6 [v127, v128, v129, v130, .int .i64 x125] 48, .sl v127 9 1 (l121.map SR), .sl v128 9 1 (l122.map SR), .sl v129 3 1 (l123.map I), .sl v130 9 1 (l124.map SR), .obj gb1 [v118, v119, v120, .int .i64 x116] 54, .sl v118 9 1 (l113.map SR), .sl v119 9 1 (l114.map SR), .sl v120 75 2 (l115.map Twrite.row), .obj b89 [.int .i64 x83.Kind, .int .i64 x83.N, st x83.Text, gv (q3 gx49.toNat) 0] 39, .obj gb35 [pt gb1 0, .int .i64 gx36, .int .i64 gx37, .int .i64 gx38, .int .i64 gx39, .int .i64 gx40, .bool gb41] 58, .obj gb42 [pt gb6 0, .int .i64 gx43, .int .i64 gx44, .int .i64 gx45, .int .i64 gx46, .int .i64 gx47, .bool gb48] 68]) (fun _ hw => hw) ?_
                           refine L.nil (E.blockN (E.thenN (W.seq (W.region (L.y rfl (Y.assign rfl) ?_)))))
                           refine L.nil (E.thenN (W.ret (E.ret1 rfl rfl (fun w1 hw => ?_))))
                           exact ⟨_, _, rfl, ⟨true, v127, l121, v128, l122, v129, l123, v130, l124, x125, v118, l113, v119, l114, v120, l115, x116, rfl, rfl, h⟩, hw.sel [0, 5, 10, 11, 1, 2, 3, 4, 6, 7, 8] (by decide) rfl⟩
                        ·
                         replace h := iteT h
                         refine W.condT rfl ?_
                         refine W.seq (W.region (L.y rfl (Y.move rfl) ?_))
                         refine L.y rfl (Y.fieldP fd39_1 rfl) ?_
                         refine L.y rfl (Y.loadP (i := 0) ag3 rfl rfl rfl) ?_
                         refine L.to (D := Cls w [] [.obj gb1 [gv59, gv61, gv63, .int .i64 gx65] 54, .sl gv59 9 1 (gl60.map SR), .sl gv61 9 1 (gl62.map SR), .sl gv63 75 2 (gl64.map Twrite.row), .obj b89 [.int .i64 x83.Kind, .int .i64 x83.N, st x83.Text, gv (q3 gx49.toNat) 0] 39, .obj gb6 [gv50, gv52, gv54, gv56, .int .i64 gx58] 48, .obj gb35 [pt gb1 0, .int .i64 gx36, .int .i64 gx37, .int .i64 gx38, .int .i64 gx39, .int .i64 gx40, .bool gb41] 58, .obj gb42 [pt gb6 0, .int .i64 gx43, .int .i64 gx44, .int .i64 gx45, .int .i64 gx46, .int .i64 gx47, .bool gb48] 68, .sl gv50 9 1 (gl51.map SR), .sl gv52 9 1 (gl53.map SR), .sl gv54 3 1 (gl55.map I), .sl gv56 9 1 (gl57.map SR)]) (fun _ hw => hw.sel [2, 9, 10, 11, 0, 1, 3, 4, 5, 6, 7, 8] (by decide) rfl) ?_
                         obtain ⟨s131, x132, e133, h⟩ := bind2S h
                         refine L.doesP (A := [.obj gb1 [gv59, gv61, gv63, .int .i64 gx65] 54, .sl gv59 9 1 (gl60.map SR), .sl gv61 9 1 (gl62.map SR), .sl gv63 75 2 (gl64.map Twrite.row)]) (M := [.obj b89 [.int .i64 x83.Kind, .int .i64 x83.N, st x83.Text, gv (q3 gx49.toNat) 0] 39, .obj gb6 [gv50, gv52, gv54, gv56, .int .i64 gx58] 48, .obj gb35 [pt gb1 0, .int .i64 gx36, .int .i64 gx37, .int .i64 gx38, .int .i64 gx39, .int .i64 gx40, .bool gb41] 58, .obj gb42 [pt gb6 0, .int .i64 gx43, .int .i64 gx44, .int .i64 gx45, .int .i64 gx46, .int .i64 gx47, .bool gb48] 68, .sl gv50 9 1 (gl51.map SR), .sl gv52 9 1 (gl53.map SR), .sl gv54 3 1 (gl55.map I), .sl gv56 9 1 (gl57.map SR)]) rfl en21 rfl (fun w' hw => w21_sect_Disk_Read gl60 gl62 gl64 gx65 x83.N gb1 gv59 gv61 gv63 w' _ e133 _ hw.lend) ?_
                         rintro _ _ ⟨rfl, rfl⟩
                         refine L.to (D := Cls w [] [.obj gb1 [gv59, gv61, gv63, .int .i64 gx65] 54, .sl gv59 9 1 (gl60.map SR), .sl gv61 9 1 (gl62.map SR), .sl gv63 75 2 (gl64.map Twrite.row), .obj b89 [.int .i64 x83.Kind, .int .i64 x83.N, st x83.Text, gv (q3 gx49.toNat) 0] 39, .obj gb6 [gv50, gv52, gv54, gv56, .int .i64 gx58] 48, .obj gb35 [pt gb1 0, .int .i64 gx36, .int .i64 gx37, .int .i64 gx38, .int .i64 gx39, .int .i64 gx40, .bool gb41] 58, .obj gb42 [pt gb6 0, .int .i64 gx43, .int .i64 gx44, .int .i64 gx45, .int .i64 gx46, .int .i64 gx47, .bool gb48] 68, .sl gv50 9 1 (gl51.map SR), .sl gv52 9 1 (gl53.map SR), .sl gv54 3 1 (gl55.map I), .sl gv56 9 1 (gl57.map SR)]) (fun _ hw => hw) ?_
                         refine L.y rfl (Y.move rfl) ?_
                         refine L.y rfl (Y.extract rfl rfl) ?_
                         refine L.y rfl (Y.extract rfl rfl) ?_
                         refine L.y rfl (Y.assign rfl) ?_
                         refine L.y rfl (Y.assign rfl) ?_
                         refine L.nil (E.thenN (W.seq (W.region (L.y rfl (Y.move rfl) ?_))))
                         refine L.y rfl (Y.fieldP fd39_1 rfl) ?_
                         refine L.y rfl (Y.loadP (i := 4) ag3 rfl rfl rfl) ?_
                         refine L.to (D := Cls w [] [.obj gb6 [gv50, gv52, gv54, gv56, .int .i64 gx58] 48, .sl gv50 9 1 (gl51.map SR), .sl gv52 9 1 (gl53.map SR), .sl gv54 3 1 (gl55.map I), .sl gv56 9 1 (gl57.map SR), .obj gb1 [gv59, gv61, gv63, .int .i64 gx65] 54, .sl gv59 9 1 (gl60.map SR), .sl gv61 9 1 (gl62.map SR), .sl gv63 75 2 (gl64.map Twrite.row), .obj b89 [.int .i64 x83.Kind, .int .i64 x83.N, st x83.Text, gv (q3 gx49.toNat) 0] 39, .obj gb35 [pt gb1 0, .int .i64 gx36, .int .i64 gx37, .int .i64 gx38, .int .i64 gx39, .int .i64 gx40, .bool gb41] 58, .obj gb42 [pt gb6 0, .int .i64 gx43, .int .i64 gx44, .int .i64 gx45, .int .i64 gx46, .int .i64 gx47, .bool gb48] 68]) (fun _ hw => hw.sel [5, 8, 9, 10, 11, 0, 1, 2, 3, 4, 6, 7] (by decide) rfl) ?_
                         obtain ⟨s134, x135, e136, h⟩ := bind2S h
                         refine L.doesP (A := [.obj gb6 [gv50, gv52, gv54, gv56, .int .i64 gx58] 48, .sl gv50 9 1 (gl51.map SR), .sl gv52 9 1 (gl53.map SR), .sl gv54 3 1 (gl55.map I), .sl gv56 9 1 (gl57.map SR)]) (M := [.obj gb1 [gv59, gv61, gv63, .int .i64 gx65] 54, .sl gv59 9 1 (gl60.map SR), .sl gv61 9 1 (gl62.map SR), .sl gv63 75 2 (gl64.map Twrite.row), .obj b89 [.int .i64 x83.Kind, .int .i64 x83.N, st x83.Text, gv (q3 gx49.toNat) 0] 39, .obj gb35 [pt gb1 0, .int .i64 gx36, .int .i64 gx37, .int .i64 gx38, .int .i64 gx39, .int .i64 gx40, .bool gb41] 58, .obj gb42 [pt gb6 0, .int .i64 gx43, .int .i64 gx44, .int .i64 gx45, .int .i64 gx46, .int .i64 gx47, .bool gb48] 68]) rfl en41 rfl (fun w' hw => w41_quirref_Disk_Read gl51 gl53 gl55 gl57 gx58 x83.N gb6 gv50 gv52 gv54 gv56 w' _ e136 _ hw.lend) ?_
                         rintro _ _ ⟨rfl, rfl⟩
                         refine L.to (D := Cls w [] [.obj gb6 [gv50, gv52, gv54, gv56, .int .i64 gx58] 48, .sl gv50 9 1 (gl51.map SR), .sl gv52 9 1 (gl53.map SR), .sl gv54 3 1 (gl55.map I), .sl gv56 9 1 (gl57.map SR), .obj gb1 [gv59, gv61, gv63, .int .i64 gx65] 54, .sl gv59 9 1 (gl60.map SR), .sl gv61 9 1 (gl62.map SR), .sl gv63 75 2 (gl64.map Twrite.row), .obj b89 [.int .i64 x83.Kind, .int .i64 x83.N, st x83.Text, gv (q3 gx49.toNat) 0] 39, .obj gb35 [pt gb1 0, .int .i64 gx36, .int .i64 gx37, .int .i64 gx38, .int .i64 gx39, .int .i64 gx40, .bool gb41] 58, .obj gb42 [pt gb6 0, .int .i64 gx43, .int .i64 gx44, .int .i64 gx45, .int .i64 gx46, .int .i64 gx47, .bool gb48] 68]) (fun _ hw => hw) ?_
                         refine L.y rfl (Y.move rfl) ?_
                         refine L.y rfl (Y.extract rfl rfl) ?_
                         refine L.y rfl (Y.extract rfl rfl) ?_
                         refine L.y rfl (Y.assign rfl) ?_
                         refine L.y rfl (Y.assign rfl) ?_
                         refine L.nil (E.thenN (W.seq (W.region (L.y rfl (Y.move rfl) ?_))))
                         refine L.y rfl (Y.move rfl) ?_
                         refine L.ite h rfl (Y.eqlS rfl rfl) (fun c137 h => ?_) (fun c137 h => ?_)
                         ·
                          refine L.y rfl (Y.move rfl) ?_
                          refine L.take rfl (L.y rfl (Y.move rfl) ?_)
                          refine L.take rfl (L.y rfl (Y.move rfl) ?_)
                          refine L.take rfl (L.y rfl (Y.eql rfl rfl) ?_)
                          refine L.y rfl (Y.pickT rfl rfl) ?_
                          refine L.y rfl (Y.assign rfl) ?_
                          refine L.nil (E.thenN (W.ret (E.blockR (E.thenR (E.ret1 rfl rfl (fun w1 hw => ?_))))))
                          exact ⟨_, _, rfl, ⟨decide (x132 = x135), gv50, gl51, gv52, gl53, gv54, gl55, gv56, gl57, gx58, gv59, gl60, gv61, gl62, gv63, gl64, gx65, rfl, rfl, h⟩, hw.sel [0, 5, 10, 11, 1, 2, 3, 4, 6, 7, 8] (by decide) rfl⟩
                         ·
                          refine L.y rfl (Y.move rfl) ?_
                          refine L.pass rfl rfl (by nofun) ?_
                          refine L.pass rfl rfl (by nofun) ?_
                          refine L.pass rfl rfl (by nofun) ?_
                          refine L.y rfl (Y.pickF rfl rfl) ?_
                          refine L.y rfl (Y.assign rfl) ?_
                          refine L.nil (E.thenN (W.ret (E.blockR (E.thenR (E.ret1 rfl rfl (fun w1 hw => ?_))))))
                          exact ⟨_, _, rfl, ⟨false, gv50, gl51, gv52, gl53, gv54, gl55, gv56, gl57, gx58, gv59, gl60, gv61, gl62, gv63, gl64, gx65, rfl, rfl, h⟩, hw.sel [0, 5, 10, 11, 1, 2, 3, 4, 6, 7, 8] (by decide) rfl⟩
                      ·
                       replace h := iteT h
                       refine W.condT rfl ?_
                       refine W.seq (W.drawn2 (k := 14) (stC [[5, 11], [11]] [Cls w [] [.obj b89 [.int .i64 x83.Kind, .int .i64 x83.N, st x83.Text, gv (q3 gx49.toNat) 0] 39, .obj gb6 [gv50, gv52, gv54, gv56, .int .i64 gx58] 48, .obj gb1 [gv59, gv61, gv63, .int .i64 gx65] 54, .obj gb35 [pt gb1 0, .int .i64 gx36, .int .i64 gx37, .int .i64 gx38, .int .i64 gx39, .int .i64 gx40, .bool gb41] 58, .obj gb42 [pt gb6 0, .int .i64 gx43, .int .i64 gx44, .int .i64 gx45, .int .i64 gx46, .int .i64 gx47, .bool gb48] 68, .sl gv50 9 1 (gl51.map SR), .sl gv52 9 1 (gl53.map SR), .sl gv54 3 1 (gl55.map I), .sl gv56 9 1 (gl57.map SR), .sl gv59 9 1 (gl60.map SR), .sl gv61 9 1 (gl62.map SR), .sl gv63 75 2 (gl64.map Twrite.row)], Cls w [] [.obj b89 [.int .i64 x83.Kind, .int .i64 x83.N, st x83.Text, gv (q3 gx49.toNat) 0] 39, .obj gb6 [gv50, gv52, gv54, gv56, .int .i64 gx58] 48, .obj gb35 [pt gb1 0, .int .i64 gx36, .int .i64 gx37, .int .i64 gx38, .int .i64 gx39, .int .i64 gx40, .bool gb41] 58, .obj gb42 [pt gb6 0, .int .i64 gx43, .int .i64 gx44, .int .i64 gx45, .int .i64 gx46, .int .i64 gx47, .bool gb48] 68, .sl gv50 9 1 (gl51.map SR), .sl gv52 9 1 (gl53.map SR), .sl gv54 3 1 (gl55.map I), .sl gv56 9 1 (gl57.map SR), .sl gv59 9 1 (gl60.map SR)]] (Cls w [] [.obj b89 [.int .i64 x83.Kind, .int .i64 x83.N, st x83.Text, gv (q3 gx49.toNat) 0] 39, .obj gb35 [pt gb1 0, .int .i64 gx36, .int .i64 gx37, .int .i64 gx38, .int .i64 gx39, .int .i64 gx40, .bool gb41] 58, .obj gb42 [pt gb6 0, .int .i64 gx43, .int .i64 gx44, .int .i64 gx45, .int .i64 gx46, .int .i64 gx47, .bool gb48] 68, .sl gv52 9 1 (gl53.map SR), .sl gv59 9 1 (gl60.map SR)])) rfl mixed (fun _ hw => hw.drew) (Sc.now (by kernel_rfl) (fun _ hw => hw)) ?_)
                       refine V2.y (i := 0) (Nx2.of (Z := Cls w [] [.obj b89 [.int .i64 x83.Kind, .int .i64 x83.N, st x83.Text, gv (q3 gx49.toNat) 0] 39, .obj gb35 [pt gb1 0, .int .i64 gx36, .int .i64 gx37, .int .i64 gx38, .int .i64 gx39, .int .i64 gx40, .bool gb41] 58, .obj gb42 [pt gb6 0, .int .i64 gx43, .int .i64 gx44, .int .i64 gx45, .int .i64 gx46, .int .i64 gx47, .bool gb48] 68, .sl gv52 9 1 (gl53.map SR), .sl gv59 9 1 (gl60.map SR)]) [] (by kernel_rfl) rfl (Zc.on (fun _ hw => hw.sel [0, 3, 4, 6, 9] (by decide) rfl) (Zc.on (fun _ hw => hw.sel [0, 2, 3, 5, 8] (by decide) rfl) (Zc.fin (fun _ hw => hw))))) rfl rfl rfl (Y.move rfl) ?_
                       refine V2.y (i := 1) (Nx2.of (Z := Cls w [] [.obj b89 [.int .i64 x83.Kind, .int .i64 x83.N, st x83.Text, gv (q3 gx49.toNat) 0] 39, .obj gb35 [pt gb1 0, .int .i64 gx36, .int .i64 gx37, .int .i64 gx38, .int .i64 gx39, .int .i64 gx40, .bool gb41] 58, .obj gb42 [pt gb6 0, .int .i64 gx43, .int .i64 gx44, .int .i64 gx45, .int .i64 gx46, .int .i64 gx47, .bool gb48] 68, .sl gv52 9 1 (gl53.map SR), .sl gv59 9 1 (gl60.map SR)]) [] (by kernel_rfl) rfl (Zc.on (fun _ hw => hw.sel [0, 3, 4, 6, 9] (by decide) rfl) (Zc.on (fun _ hw => hw.sel [0, 2, 3, 5, 8] (by decide) rfl) (Zc.fin (fun _ hw => hw))))) rfl rfl rfl (Y.fieldP fd39_1 rfl) ?_
                       refine V2.y (i := 2) (Nx2.of (Z := Cls w [] [.obj b89 [.int .i64 x83.Kind, .int .i64 x83.N, st x83.Text, gv (q3 gx49.toNat) 0] 39, .obj gb35 [pt gb1 0, .int .i64 gx36, .int .i64 gx37, .int .i64 gx38, .int .i64 gx39, .int .i64 gx40, .bool gb41] 58, .obj gb42 [pt gb6 0, .int .i64 gx43, .int .i64 gx44, .int .i64 gx45, .int .i64 gx46, .int .i64 gx47, .bool gb48] 68, .sl gv52 9 1 (gl53.map SR), .sl gv59 9 1 (gl60.map SR)]) [] (by kernel_rfl) rfl (Zc.on (fun _ hw => hw.sel [0, 3, 4, 6, 9] (by decide) rfl) (Zc.on (fun _ hw => hw.sel [0, 2, 3, 5, 8] (by decide) rfl) (Zc.fin (fun _ hw => hw))))) rfl rfl rfl (Y.loadP (i := 0) ag3 rfl rfl rfl) ?_
                       refine V2.y (i := 3) (Nx2.of (Z := Cls w [] [.obj b89 [.int .i64 x83.Kind, .int .i64 x83.N, st x83.Text, gv (q3 gx49.toNat) 0] 39, .obj gb35 [pt gb1 0, .int .i64 gx36, .int .i64 gx37, .int .i64 gx38, .int .i64 gx39, .int .i64 gx40, .bool gb41] 58, .obj gb42 [pt gb6 0, .int .i64 gx43, .int .i64 gx44, .int .i64 gx45, .int .i64 gx46, .int .i64 gx47, .bool gb48] 68, .sl gv52 9 1 (gl53.map SR), .sl gv59 9 1 (gl60.map SR)]) [] (by kernel_rfl) rfl (Zc.on (fun _ hw => hw.sel [0, 3, 4, 6, 9] (by decide) rfl) (Zc.on (fun _ hw => hw.sel [0, 2, 3, 5, 8] (by decide) rfl) (Zc.fin (fun _ hw => hw))))) rfl rfl rfl (Y.fieldP fd39_2 rfl) ?_
                       refine V2.y (i := 4) (Nx2.of (Z := Cls w [] [.obj b89 [.int .i64 x83.Kind, .int .i64 x83.N, st x83.Text, gv (q3 gx49.toNat) 0] 39, .obj gb35 [pt gb1 0, .int .i64 gx36, .int .i64 gx37, .int .i64 gx38, .int .i64 gx39, .int .i64 gx40, .bool gb41] 58, .obj gb42 [pt gb6 0, .int .i64 gx43, .int .i64 gx44, .int .i64 gx45, .int .i64 gx46, .int .i64 gx47, .bool gb48] 68, .sl gv52 9 1 (gl53.map SR), .sl gv59 9 1 (gl60.map SR)]) [] (by kernel_rfl) rfl (Zc.on (fun _ hw => hw.sel [0, 3, 4, 6, 9] (by decide) rfl) (Zc.on (fun _ hw => hw.sel [0, 2, 3, 5, 8] (by decide) rfl) (Zc.fin (fun _ hw => hw))))) rfl rfl rfl (Y.loadP (i := 0) ag9 rfl rfl rfl) ?_
                       refine V2.y (i := 6) (Nx2.of (Z := Cls w [] [.obj b89 [.int .i64 x83.Kind, .int .i64 x83.N, st x83.Text, gv (q3 gx49.toNat) 0] 39, .obj gb35 [pt gb1 0, .int .i64 gx36, .int .i64 gx37, .int .i64 gx38, .int .i64 gx39, .int .i64 gx40, .bool gb41] 58, .obj gb42 [pt gb6 0, .int .i64 gx43, .int .i64 gx44, .int .i64 gx45, .int .i64 gx46, .int .i64 gx47, .bool gb48] 68, .sl gv52 9 1 (gl53.map SR), .sl gv59 9 1 (gl60.map SR)]) [] (by kernel_rfl) rfl (Zc.on (fun _ hw => hw.sel [0, 3, 4, 6, 9] (by decide) rfl) (Zc.on (fun _ hw => hw.sel [0, 2, 3, 5, 8] (by decide) rfl) (Zc.fin (fun _ hw => hw))))) rfl rfl rfl (Y.move rfl) ?_
                       refine V2.y (i := 7) (Nx2.of (Z := Cls w [] [.obj b89 [.int .i64 x83.Kind, .int .i64 x83.N, st x83.Text, gv (q3 gx49.toNat) 0] 39, .obj gb35 [pt gb1 0, .int .i64 gx36, .int .i64 gx37, .int .i64 gx38, .int .i64 gx39, .int .i64 gx40, .bool gb41] 58, .obj gb42 [pt gb6 0, .int .i64 gx43, .int .i64 gx44, .int .i64 gx45, .int .i64 gx46, .int .i64 gx47, .bool gb48] 68, .sl gv52 9 1 (gl53.map SR), .sl gv59 9 1 (gl60.map SR)]) [] (by kernel_rfl) rfl (Zc.on (fun _ hw => hw.sel [0, 3, 4, 6, 9] (by decide) rfl) (Zc.on (fun _ hw => hw.sel [0, 2, 3, 5, 8] (by decide) rfl) (Zc.fin (fun _ hw => hw))))) rfl rfl rfl (Y.fieldP fd39_1 rfl) ?_
                       refine V2.y (i := 8) (Nx2.of (Z := Cls w [] [.obj b89 [.int .i64 x83.Kind, .int .i64 x83.N, st x83.Text, gv (q3 gx49.toNat) 0] 39, .obj gb35 [pt gb1 0, .int .i64 gx36, .int .i64 gx37, .int .i64 gx38, .int .i64 gx39, .int .i64 gx40, .bool gb41] 58, .obj gb42 [pt gb6 0, .int .i64 gx43, .int .i64 gx44, .int .i64 gx45, .int .i64 gx46, .int .i64 gx47, .bool gb48] 68, .sl gv52 9 1 (gl53.map SR), .sl gv59 9 1 (gl60.map SR)]) [] (by kernel_rfl) rfl (Zc.on (fun _ hw => hw.sel [0, 3, 4, 6, 9] (by decide) rfl) (Zc.on (fun _ hw => hw.sel [0, 2, 3, 5, 8] (by decide) rfl) (Zc.fin (fun _ hw => hw))))) rfl rfl rfl (Y.loadP (i := 0) ag3 rfl rfl rfl) ?_
                       refine V2.y (i := 9) (Nx2.of (Z := Cls w [] [.obj b89 [.int .i64 x83.Kind, .int .i64 x83.N, st x83.Text, gv (q3 gx49.toNat) 0] 39, .obj gb35 [pt gb1 0, .int .i64 gx36, .int .i64 gx37, .int .i64 gx38, .int .i64 gx39, .int .i64 gx40, .bool gb41] 58, .obj gb42 [pt gb6 0, .int .i64 gx43, .int .i64 gx44, .int .i64 gx45, .int .i64 gx46, .int .i64 gx47, .bool gb48] 68, .sl gv52 9 1 (gl53.map SR), .sl gv59 9 1 (gl60.map SR)]) [] (by kernel_rfl) rfl (Zc.on (fun _ hw => hw.sel [0, 3, 4, 6, 9] (by decide) rfl) (Zc.on (fun _ hw => hw.sel [0, 2, 3, 5, 8] (by decide) rfl) (Zc.fin (fun _ hw => hw))))) rfl rfl rfl (Y.fieldP fd39_2 rfl) ?_
                       refine V2.y (i := 10) (Nx2.of (Z := Cls w [] [.obj b89 [.int .i64 x83.Kind, .int .i64 x83.N, st x83.Text, gv (q3 gx49.toNat) 0] 39, .obj gb35 [pt gb1 0, .int .i64 gx36, .int .i64 gx37, .int .i64 gx38, .int .i64 gx39, .int .i64 gx40, .bool gb41] 58, .obj gb42 [pt gb6 0, .int .i64 gx43, .int .i64 gx44, .int .i64 gx45, .int .i64 gx46, .int .i64 gx47, .bool gb48] 68, .sl gv52 9 1 (gl53.map SR), .sl gv59 9 1 (gl60.map SR)]) [] (by kernel_rfl) rfl (Zc.on (fun _ hw => hw.sel [0, 3, 4, 6, 9] (by decide) rfl) (Zc.on (fun _ hw => hw.sel [0, 2, 3, 5, 8] (by decide) rfl) (Zc.fin (fun _ hw => hw))))) rfl rfl rfl (Y.loadP (i := 0) ag9 rfl rfl rfl) ?_
                       refine V2.eff (i := 5) (by kernel_rfl) rfl ?_
                       refine L.to (D := Cls w [] [.obj gb1 [gv59, gv61, gv63, .int .i64 gx65] 54, .sl gv59 9 1 (gl60.map SR), .sl gv61 9 1 (gl62.map SR), .sl gv63 75 2 (gl64.map Twrite.row), .obj b89 [.int .i64 x83.Kind, .int .i64 x83.N, st x83.Text, gv (q3 gx49.toNat) 0] 39, .obj gb6 [gv50, gv52, gv54, gv56, .int .i64 gx58] 48, .obj gb35 [pt gb1 0, .int .i64 gx36, .int .i64 gx37, .int .i64 gx38, .int .i64 gx39, .int .i64 gx40, .bool gb41] 58, .obj gb42 [pt gb6 0, .int .i64 gx43, .int .i64 gx44, .int .i64 gx45, .int .i64 gx46, .int .i64 gx47, .bool gb48] 68, .sl gv50 9 1 (gl51.map SR), .sl gv52 9 1 (gl53.map SR), .sl gv54 3 1 (gl55.map I), .sl gv56 9 1 (gl57.map SR)]) (fun _ hw => hw.sel [2, 9, 10, 11, 0, 1, 3, 4, 5, 6, 7, 8] (by decide) rfl) ?_
                       obtain ⟨l224, l225, x226, x227, e228, h⟩ := bind4S h
                       refine L.doesP (A := [.obj gb1 [gv59, gv61, gv63, .int .i64 gx65] 54, .sl gv59 9 1 (gl60.map SR), .sl gv61 9 1 (gl62.map SR), .sl gv63 75 2 (gl64.map Twrite.row)]) (M := [.obj b89 [.int .i64 x83.Kind, .int .i64 x83.N, st x83.Text, gv (q3 gx49.toNat) 0] 39, .obj gb6 [gv50, gv52, gv54, gv56, .int .i64 gx58] 48, .obj gb35 [pt gb1 0, .int .i64 gx36, .int .i64 gx37, .int .i64 gx38, .int .i64 gx39, .int .i64 gx40, .bool gb41] 58, .obj gb42 [pt gb6 0, .int .i64 gx43, .int .i64 gx44, .int .i64 gx45, .int .i64 gx46, .int .i64 gx47, .bool gb48] 68, .sl gv50 9 1 (gl51.map SR), .sl gv52 9 1 (gl53.map SR), .sl gv54 3 1 (gl55.map I), .sl gv56 9 1 (gl57.map SR)]) rfl en33 rfl (fun w' hw => w33_sect_Disk_Write gl60 gl62 gl64 gx65 x83.N x83.Text gb1 gv59 gv61 gv63 w' _ e228 _ hw.lend) ?_
                       rintro _ _ ⟨v229, v230, rfl, rfl⟩
                       refine L.to (D := Cls w [] [.obj gb1 [gv59, v229, v230, .int .i64 x226] 54, .sl gv59 9 1 (gl60.map SR), .sl v229 9 1 (l224.map SR), .sl v230 75 2 (l225.map Twrite.row), .obj b89 [.int .i64 x83.Kind, .int .i64 x83.N, st x83.Text, gv (q3 gx49.toNat) 0] 39, .obj gb6 [gv50, gv52, gv54, gv56, .int .i64 gx58] 48, .obj gb35 [pt gb1 0, .int .i64 gx36, .int .i64 gx37, .int .i64 gx38, .int .i64 gx39, .int .i64 gx40, .bool gb41] 58, .obj gb42 [pt gb6 0, .int .i64 gx43, .int .i64 gx44, .int .i64 gx45, .int .i64 gx46, .int .i64 gx47, .bool gb48] 68, .sl gv50 9 1 (gl51.map SR), .sl gv52 9 1 (gl53.map SR), .sl gv54 3 1 (gl55.map I), .sl gv56 9 1 (gl57.map SR)]) (fun _ hw => hw) ?_
                       refine L.nil (E.toV2 (stC [[11]] [Cls w [] [.sl gv59 9 1 (gl60.map SR), .sl v229 9 1 (l224.map SR), .sl v230 75 2 (l225.map Twrite.row), .obj b89 [.int .i64 x83.Kind, .int .i64 x83.N, st x83.Text, gv (q3 gx49.toNat) 0] 39, .obj gb6 [gv50, gv52, gv54, gv56, .int .i64 gx58] 48, .obj gb35 [pt gb1 0, .int .i64 gx36, .int .i64 gx37, .int .i64 gx38, .int .i64 gx39, .int .i64 gx40, .bool gb41] 58, .obj gb42 [pt gb6 0, .int .i64 gx43, .int .i64 gx44, .int .i64 gx45, .int .i64 gx46, .int .i64 gx47, .bool gb48] 68, .sl gv50 9 1 (gl51.map SR), .sl gv52 9 1 (gl53.map SR), .sl gv54 3 1 (gl55.map I), .sl gv56 9 1 (gl57.map SR)]] (Cls w [] [.sl gv59 9 1 (gl60.map SR), .sl v229 9 1 (l224.map SR), .sl v230 75 2 (l225.map Twrite.row), .obj b89 [.int .i64 x83.Kind, .int .i64 x83.N, st x83.Text, gv (q3 gx49.toNat) 0] 39, .obj gb35 [pt gb1 0, .int .i64 gx36, .int .i64 gx37, .int .i64 gx38, .int .i64 gx39, .int .i64 gx40, .bool gb41] 58, .obj gb42 [pt gb6 0, .int .i64 gx43, .int .i64 gx44, .int .i64 gx45, .int .i64 gx46, .int .i64 gx47, .bool gb48] 68, .sl gv52 9 1 (gl53.map SR)])) 5 (by kernel_rfl) (Sc.past rfl (Sc.stay (fun _ hw => hw.sel [3, 4, 5, 6, 7, 8, 9, 10, 0] (by decide) rfl) (Sc.stayD (fun _ hw => hw.sel [3, 4, 5, 6, 0] (by decide) rfl)))) (Sc.now (by kernel_rfl) (fun _ hw => hw.sel [1, 2, 3, 4, 5, 6, 7, 8, 9, 10, 11] (by decide) rfl)) ?_)
                       refine V2.eff (i := 11) (by kernel_rfl) rfl ?_
                       refine L.to (D := Cls w [] [.obj gb6 [gv50, gv52, gv54, gv56, .int .i64 gx58] 48, .sl gv50 9 1 (gl51.map SR), .sl gv52 9 1 (gl53.map SR), .sl gv54 3 1 (gl55.map I), .sl gv56 9 1 (gl57.map SR), .obj gb1 [gv59, v229, v230, .int .i64 x226] 54, .sl gv59 9 1 (gl60.map SR), .sl v229 9 1 (l224.map SR), .sl v230 75 2 (l225.map Twrite.row), .obj b89 [.int .i64 x83.Kind, .int .i64 x83.N, st x83.Text, gv (q3 gx49.toNat) 0] 39, .obj gb35 [pt gb1 0, .int .i64 gx36, .int .i64 gx37, .int .i64 gx38, .int .i64 gx39, .int .i64 gx40, .bool gb41] 58, .obj gb42 [pt gb6 0, .int .i64 gx43, .int .i64 gx44, .int .i64 gx45, .int .i64 gx46, .int .i64 gx47, .bool gb48] 68]) (fun _ hw => hw.sel [5, 8, 9, 10, 11, 0, 1, 2, 3, 4, 6, 7] (by decide) rfl) ?_
                       obtain ⟨l231, l232, l233, x234, x235, e236, h⟩ := bind5S h
                       refine L.doesP (A := [.obj gb6 [gv50, gv52, gv54, gv56, .int .i64 gx58] 48, .sl gv50 9 1 (gl51.map SR), .sl gv52 9 1 (gl53.map SR), .sl gv54 3 1 (gl55.map I), .sl gv56 9 1 (gl57.map SR)]) (M := [.obj gb1 [gv59, v229, v230, .int .i64 x226] 54, .sl gv59 9 1 (gl60.map SR), .sl v229 9 1 (l224.map SR), .sl v230 75 2 (l225.map Twrite.row), .obj b89 [.int .i64 x83.Kind, .int .i64 x83.N, st x83.Text, gv (q3 gx49.toNat) 0] 39, .obj gb35 [pt gb1 0, .int .i64 gx36, .int .i64 gx37, .int .i64 gx38, .int .i64 gx39, .int .i64 gx40, .bool gb41] 58, .obj gb42 [pt gb6 0, .int .i64 gx43, .int .i64 gx44, .int .i64 gx45, .int .i64 gx46, .int .i64 gx47, .bool gb48] 68]) rfl en36 rfl (fun w' hw => w36_quirref_Disk_Write gl51 gl53 gl55 gl57 gx58 x83.N x83.Text gb6 gv50 gv52 gv54 gv56 w' _ e236 _ hw.lend) ?_
                       rintro _ _ ⟨v237, v238, v239, rfl, rfl⟩
                       refine L.to (D := Cls w [] [.obj gb6 [v237, gv52, v238, v239, .int .i64 x234] 48, .sl v237 9 1 (l231.map SR), .sl gv52 9 1 (gl53.map SR), .sl v238 3 1 (l232.map I), .sl v239 9 1 (l233.map SR), .obj gb1 [gv59, v229, v230, .int .i64 x226] 54, .sl gv59 9 1 (gl60.map SR), .sl v229 9 1 (l224.map SR), .sl v230 75 2 (l225.map Twrite.row), .obj b89 [.int .i64 x83.Kind, .int .i64 x83.N, st x83.Text, gv (q3 gx49.toNat) 0] 39, .obj gb35 [pt gb1 0, .int .i64 gx36, .int .i64 gx37, .int .i64 gx38, .int .i64 gx39, .int .i64 gx40, .bool gb41] 58, .obj gb42 [pt gb6 0, .int .i64 gx43, .int .i64 gx44, .int .i64 gx45, .int .i64 gx46, .int .i64 gx47, .bool gb48] 68]) (fun _ hw => hw) ?_
                       refine L.nil (E.toV2 (stC [] [] (Cls w [] [.sl v237 9 1 (l231.map SR), .sl gv52 9 1 (gl53.map SR), .sl v238 3 1 (l232.map I), .sl v239 9 1 (l233.map SR), .sl gv59 9 1 (gl60.map SR), .sl v229 9 1 (l224.map SR), .sl v230 75 2 (l225.map Twrite.row), .obj b89 [.int .i64 x83.Kind, .int .i64 x83.N, st x83.Text, gv (q3 gx49.toNat) 0] 39, .obj gb35 [pt gb1 0, .int .i64 gx36, .int .i64 gx37, .int .i64 gx38, .int .i64 gx39, .int .i64 gx40, .bool gb41] 58, .obj gb42 [pt gb6 0, .int .i64 gx43, .int .i64 gx44, .int .i64 gx45, .int .i64 gx46, .int .i64 gx47, .bool gb48] 68])) 11 (by kernel_rfl) (Sc.past rfl (Sc.stayD (fun _ hw => hw.sel [4, 5, 6, 7, 8, 9, 1] (by decide) rfl))) (Sc.atD (fun _ hw => hw.sel [1, 2, 3, 4, 6, 7, 8, 9, 10, 11] (by decide) rfl)) ?_)
                       refine V2.y (i := 12) (Nx2.of (Z := Cls w [] [.sl v237 9 1 (l231.map SR), .sl gv52 9 1 (gl53.map SR), .sl v238 3 1 (l232.map I), .sl v239 9 1 (l233.map SR), .sl gv59 9 1 (gl60.map SR), .sl v229 9 1 (l224.map SR), .sl v230 75 2 (l225.map Twrite.row), .obj b89 [.int .i64 x83.Kind, .int .i64 x83.N, st x83.Text, gv (q3 gx49.toNat) 0] 39, .obj gb35 [pt gb1 0, .int .i64 gx36, .int .i64 gx37, .int .i64 gx38, .int .i64 gx39, .int .i64 gx40, .bool gb41] 58, .obj gb42 [pt gb6 0, .int .i64 gx43, .int .i64 gx44, .int .i64 gx45, .int .i64 gx46, .int .i64 gx47, .bool gb48] 68]) [] (by kernel_rfl) rfl (Zc.fin (fun _ hw => hw))) rfl rfl rfl (Y.eql rfl rfl) ?_
                       refine V2.y (i := 13) (Nx2.of (Z := Cls w [] [.sl v237 9 1 (l231.map SR), .sl gv52 9 1 (gl53.map SR), .sl v238 3 1 (l232.map I), .sl v239 9 1 (l233.map SR), .sl gv59 9 1 (gl60.map SR), .sl v229 9 1 (l224.map SR), .sl v230 75 2 (l225.map Twrite.row), .obj b89 [.int .i64 x83.Kind, .int .i64 x83.N, st x83.Text, gv (q3 gx49.toNat) 0] 39, .obj gb35 [pt gb1 0, .int .i64 gx36, .int .i64 gx37, .int .i64 gx38, .int .i64 gx39, .int .i64 gx40, .bool gb41] 58, .obj gb42 [pt gb6 0, .int .i64 gx43, .int .i64 gx44, .int .i64 gx45, .int .i64 gx46, .int .i64 gx47, .bool gb48] 68]) [] (by kernel_rfl) rfl (Zc.fin (fun _ hw => hw))) rfl rfl rfl (Y.assign rfl) ?_
                       refine V2.done (by kernel_rfl) ?_
                       refine E.thenN (W.ret (E.blockR (E.thenR (E.ret1 rfl rfl (fun w1 hw => ?_)))))
                       exact ⟨_, _, rfl, ⟨decide (x227 = x235), v237, l231, gv52, gl53, v238, l232, v239, l233, x234, gv59, gl60, v229, l224, v230, l225, x226, rfl, rfl, h⟩, hw.sel [0, 5, 10, 11, 1, 2, 3, 4, 6, 7, 8] (by decide) rfl⟩
                    ·
                     rintro _ _ ⟨gb70, gv71, gl72, gv73, gl74, gv75, gl76, gv77, gl78, gx79, gv80, gl81, gv82, gl83, gv84, gl85, gx86, rfl, rfl, h⟩
                     rw [m3_quirlaw_WalPlays_K19] at h
                     rcases gb70 with _ | _
                     ·
                      replace h := iteF h
                      refine L.y rfl (Y.assign rfl) ?_
                      refine L.nil (E.blockN (E.thenN (W.seq (W.region (L.y rfl (Y.move rfl) ?_)))))
                      refine L.y rfl (Y.not rfl) ?_
                      refine L.y rfl (Y.move rfl) ?_
                      refine L.pass rfl rfl (by nofun) ?_
                      refine L.pass rfl rfl (by nofun) ?_
                      refine L.y rfl (Y.pickT rfl rfl) ?_
                      refine L.y rfl (Y.move rfl) ?_
                      refine L.pass rfl rfl (by nofun) ?_
                      refine L.pass rfl rfl (by nofun) ?_
                      refine L.pass rfl rfl (by nofun) ?_
                      refine L.pass rfl rfl (by nofun) ?_
                      refine L.pass rfl rfl (by nofun) ?_
                      refine L.y rfl (Y.pickT rfl rfl) ?_
                      refine L.nil (E.thenN (W.condT rfl ?_))
                      refine W.seq (W.region (L.y rfl (Y.assign rfl) ?_))
                      refine L.nil (E.thenN (W.ret (E.blockR (E.thenR (E.KLR (E.blockR (E.KSR (E.ret1 rfl rfl (fun w1 hw => ?_)))))))))
                      obtain rfl := Option.some.inj h
                      exact ⟨_, _, rfl, ⟨rfl, rfl⟩, hw.sel [] (by decide) rfl⟩
                     ·
                      replace h := iteT h
                      refine L.y rfl (Y.assign rfl) ?_
                      refine L.nil (E.blockN (E.thenN (W.seq (W.region (L.y rfl (Y.move rfl) ?_)))))
                      refine L.y rfl (Y.not rfl) ?_
                      refine L.y rfl (Y.move rfl) ?_
                      refine L.take rfl (L.y rfl (Y.move rfl) ?_)
                      refine L.take rfl (L.y rfl (Y.eqlPN Tryd.underlying29 rfl rfl) ?_)
                      refine L.y rfl (Y.pickF rfl rfl) ?_
                      refine L.y rfl (Y.move rfl) ?_
                      refine L.take rfl (L.y rfl (Y.move rfl) ?_)
                      refine L.take rfl (L.callJ (fun v D => ∃ (gx87 : Int), v = .int .i64 gx87 ∧ D = Cls w [] [.obj gb6 [gv71, gv73, gv75, gv77, .int .i64 gx79] 48, .obj gb1 [gv80, gv82, gv84, .int .i64 gx86] 54, .obj gb35 [pt gb1 0, .int .i64 gx36, .int .i64 gx37, .int .i64 gx38, .int .i64 gx39, .int .i64 gx40, .bool gb41] 58, .obj gb42 [pt gb6 0, .int .i64 gx43, .int .i64 gx44, .int .i64 gx45, .int .i64 gx46, .int .i64 gx47, .bool gb48] 68, .sl gv71 9 1 (gl72.map SR), .sl gv73 9 1 (gl74.map SR), .sl gv75 3 1 (gl76.map I), .sl gv77 9 1 (gl78.map SR), .sl gv80 9 1 (gl81.map SR), .sl gv82 9 1 (gl83.map SR), .sl gv84 75 2 (gl85.map Twrite.row)] ∧ m3_quirlaw_WalPlays_K20 gx44 gx46 gx49 go2 gx36 gx37 gx38 gx39 gx40 gb41 gx43 gx45 gx47 gb48 gl72 gl74 gl76 gl78 gx79 gl81 gl83 gl85 gx86 gx87 = some r) rfl en18 rfl Tryd.func18 rfl rfl rfl ?_ ?_)
                      ·
                       refine W.seq (W.region (L.y rfl (Y.assign rfl) ?_))
                       refine L.nil (E.thenN (W.seq (W.quietC mixed (by kernel_rfl) (fun _ hw => hw.drew) (fun hC => ?_))))
                       refine U.y rfl (Y.move rfl) ?_
                       refine U.y rfl (Y.nilCheck rfl) ?_
                       refine U.y rfl (Y.fieldP fd58_2 rfl) ?_
                       refine U.y rfl (Y.loadP (i := 2) ag3 rfl rfl rfl) ?_
                       refine U.y rfl (Y.move rfl) ?_
                       refine U.y rfl (Y.nilCheck rfl) ?_
                       refine U.y rfl (Y.fieldP fd58_4 rfl) ?_
                       refine U.y rfl (Y.loadP (i := 2) ag3 rfl rfl rfl) ?_
                       refine U.m (V := fun x88 => .int .i64 x88) h rfl (Y.subM rfl rfl) (fun x88 ex88 h => ?_)
                       refine U.y rfl (Y.assign rfl) ?_
                       refine U.nil (E.thenN (W.ret (E.ret1 rfl rfl (fun w1 hw => ?_))))
                       exact ⟨_, _, rfl, ⟨x88, rfl, rfl, h⟩, hw⟩
                      ·
                       rintro _ _ ⟨gx87, rfl, rfl, h⟩
                       rw [m3_quirlaw_WalPlays_K20] at h
                       refine L.take rfl (L.y rfl (Y.move rfl) ?_)
                       refine L.take rfl (L.callJ (fun v D => ∃ (gx88 : Int), v = .int .i64 gx88 ∧ D = Cls w [] [.obj gb6 [gv71, gv73, gv75, gv77, .int .i64 gx79] 48, .obj gb1 [gv80, gv82, gv84, .int .i64 gx86] 54, .obj gb35 [pt gb1 0, .int .i64 gx36, .int .i64 gx37, .int .i64 gx38, .int .i64 gx39, .int .i64 gx40, .bool gb41] 58, .obj gb42 [pt gb6 0, .int .i64 gx43, .int .i64 gx44, .int .i64 gx45, .int .i64 gx46, .int .i64 gx47, .bool gb48] 68, .sl gv71 9 1 (gl72.map SR), .sl gv73 9 1 (gl74.map SR), .sl gv75 3 1 (gl76.map I), .sl gv77 9 1 (gl78.map SR), .sl gv80 9 1 (gl81.map SR), .sl gv82 9 1 (gl83.map SR), .sl gv84 75 2 (gl85.map Twrite.row)] ∧ m3_quirlaw_WalPlays_K21 gx87 gx49 go2 gx36 gx37 gx38 gx39 gx40 gb41 gx43 gx44 gx45 gx46 gx47 gb48 gl72 gl74 gl76 gl78 gx79 gl81 gl83 gl85 gx86 gx88 = some r) rfl en19 rfl Tryd.func19 rfl rfl rfl ?_ ?_)
                       ·
                        refine W.seq (W.region (L.y rfl (Y.assign rfl) ?_))
                        refine L.nil (E.thenN (W.seq (W.quietC mixed (by kernel_rfl) (fun _ hw => hw.drew) (fun hC => ?_))))
                        refine U.y rfl (Y.move rfl) ?_
                        refine U.y rfl (Y.nilCheck rfl) ?_
                        refine U.y rfl (Y.fieldP fd68_2 rfl) ?_
                        refine U.y rfl (Y.loadP (i := 3) ag3 rfl rfl rfl) ?_
                        refine U.y rfl (Y.move rfl) ?_
                        refine U.y rfl (Y.nilCheck rfl) ?_
                        refine U.y rfl (Y.fieldP fd68_4 rfl) ?_
                        refine U.y rfl (Y.loadP (i := 3) ag3 rfl rfl rfl) ?_
                        refine U.m (V := fun x87 => .int .i64 x87) h rfl (Y.subM rfl rfl) (fun x87 ex87 h => ?_)
                        refine U.y rfl (Y.assign rfl) ?_
                        refine U.nil (E.thenN (W.ret (E.ret1 rfl rfl (fun w1 hw => ?_))))
                        exact ⟨_, _, rfl, ⟨x87, rfl, rfl, h⟩, hw⟩
                       ·
                        rintro _ _ ⟨gx88, rfl, rfl, h⟩
                        rw [m3_quirlaw_WalPlays_K21] at h
                        refine L.take rfl (L.ite h rfl (Y.neq rfl rfl) (fun c85 h => ?_) (fun c85 h => ?_))
                        ·
                         refine L.y rfl (Y.pickF rfl rfl) ?_
                         refine L.nil (E.thenN (W.condT rfl ?_))
                         refine W.seq (W.region (L.y rfl (Y.assign rfl) ?_))
                         refine L.nil (E.thenN (W.ret (E.blockR (E.thenR (E.KLR (E.blockR (E.KSR (E.ret1 rfl rfl (fun w1 hw => ?_)))))))))
                         obtain rfl := Option.some.inj h
                         exact ⟨_, _, rfl, ⟨rfl, rfl⟩, hw.sel [] (by decide) rfl⟩
                        ·
                         refine L.y rfl (Y.pickF rfl rfl) ?_
                         refine L.nil (E.thenN (W.condF rfl ?_))
                         refine W.skip (E.blockN (E.thenN (W.region (L.m (V := fun x86 => .int .i64 x86) h rfl (Y.addM rfl rfl) (fun x86 ex86 h => ?_)))))
                         refine L.y rfl (Y.move rfl) ?_
                         exact L.nil (E.againJ ⟨gb35, gx36, gx37, gx38, gx39, gx40, gb41, gb42, gx43, gx44, gx45, gx46, gx47, gb48, x86, gv71, gl72, gv73, gl74, gv75, gl76, gv77, gl78, gx79, gv80, gl81, gv82, gl83, gv84, gl85, gx86, rfl, rfl, by rw [hg2]; exact h⟩ (Nat.lt_succ_self _) ⟨rfl, rfl, rfl, rfl, rfl, rfl, rfl, rfl, rfl, trivial⟩ (fun _ hw => hw))
                   ·
                    replace h := iteT h
                    refine W.condT rfl ?_
                    refine W.seq (W.region (L.y rfl (Y.move rfl) ?_))
                    refine L.y rfl (Y.fieldP fd39_3 rfl) ?_
                    refine L.y rfl (Y.loadP (i := 0) ag37 rfl rfl rfl) ?_
                    refine L.to (D := Cls w [] [.obj gb1 [gv59, gv61, gv63, .int .i64 gx65] 54, .sl gv59 9 1 (gl60.map SR), .sl gv61 9 1 (gl62.map SR), .sl gv63 75 2 (gl64.map Twrite.row), .obj b84 [.int .i64 x83.Kind, .int .i64 x83.N, st x83.Text, gv (q3 gx49.toNat) 0] 39, .obj gb6 [gv50, gv52, gv54, gv56, .int .i64 gx58] 48, .obj gb35 [pt gb1 0, .int .i64 gx36, .int .i64 gx37, .int .i64 gx38, .int .i64 gx39, .int .i64 gx40, .bool gb41] 58, .obj gb42 [pt gb6 0, .int .i64 gx43, .int .i64 gx44, .int .i64 gx45, .int .i64 gx46, .int .i64 gx47, .bool gb48] 68, .sl gv50 9 1 (gl51.map SR), .sl gv52 9 1 (gl53.map SR), .sl gv54 3 1 (gl55.map I), .sl gv56 9 1 (gl57.map SR)]) (fun _ hw => hw.sel [2, 9, 10, 11, 0, 1, 3, 4, 5, 6, 7, 8] (by decide) rfl) ?_
                    obtain ⟨l241, l242, l243, x244, e245, h⟩ := bind4S h
                    refine L.doesP (A := [.obj gb1 [gv59, gv61, gv63, .int .i64 gx65] 54, .sl gv59 9 1 (gl60.map SR), .sl gv61 9 1 (gl62.map SR), .sl gv63 75 2 (gl64.map Twrite.row)]) (M := [.obj b84 [.int .i64 x83.Kind, .int .i64 x83.N, st x83.Text, gv (q3 gx49.toNat) 0] 39, .obj gb6 [gv50, gv52, gv54, gv56, .int .i64 gx58] 48, .obj gb35 [pt gb1 0, .int .i64 gx36, .int .i64 gx37, .int .i64 gx38, .int .i64 gx39, .int .i64 gx40, .bool gb41] 58, .obj gb42 [pt gb6 0, .int .i64 gx43, .int .i64 gx44, .int .i64 gx45, .int .i64 gx46, .int .i64 gx47, .bool gb48] 68, .sl gv50 9 1 (gl51.map SR), .sl gv52 9 1 (gl53.map SR), .sl gv54 3 1 (gl55.map I), .sl gv56 9 1 (gl57.map SR)]) rfl en15 rfl (fun w' hw => w15_sect_Disk_Crash gl60 gl62 gl64 gx65 x83.Keep gb1 gv59 gv61 gv63 (gv (q3 gx49.toNat) 0) w' _ e245 _ (At.lendS (zAt (sds := TDeed.sds) (vs := q3) (j := 0) (c := 1) hD3 (fun _ _ => rfl) ex83 rfl) hw) hw.lend) ?_
                    rintro _ _ ⟨v246, v247, v248, rfl, rfl⟩
                    refine L.to (D := Cls w [] [.obj gb1 [v246, v247, v248, .int .i64 x244] 54, .sl v246 9 1 (l241.map SR), .sl v247 9 1 (l242.map SR), .sl v248 75 2 (l243.map Twrite.row), .obj b84 [.int .i64 x83.Kind, .int .i64 x83.N, st x83.Text, gv (q3 gx49.toNat) 0] 39, .obj gb6 [gv50, gv52, gv54, gv56, .int .i64 gx58] 48, .obj gb35 [pt gb1 0, .int .i64 gx36, .int .i64 gx37, .int .i64 gx38, .int .i64 gx39, .int .i64 gx40, .bool gb41] 58, .obj gb42 [pt gb6 0, .int .i64 gx43, .int .i64 gx44, .int .i64 gx45, .int .i64 gx46, .int .i64 gx47, .bool gb48] 68, .sl gv50 9 1 (gl51.map SR), .sl gv52 9 1 (gl53.map SR), .sl gv54 3 1 (gl55.map I), .sl gv56 9 1 (gl57.map SR)]) (fun _ hw => hw) ?_
                    refine L.nil (E.thenN (W.seq (W.region (L.y rfl (Y.move rfl) ?_))))
                    refine L.y rfl (Y.fieldP fd39_3 rfl) ?_
                    refine L.y rfl (Y.loadP (i := 4) ag37 rfl rfl rfl) ?_
                    refine L.to (D := Cls w [] [.obj gb6 [gv50, gv52, gv54, gv56, .int .i64 gx58] 48, .sl gv50 9 1 (gl51.map SR), .sl gv52 9 1 (gl53.map SR), .sl gv54 3 1 (gl55.map I), .sl gv56 9 1 (gl57.map SR), .obj gb1 [v246, v247, v248, .int .i64 x244] 54, .sl v246 9 1 (l241.map SR), .sl v247 9 1 (l242.map SR), .sl v248 75 2 (l243.map Twrite.row), .obj b84 [.int .i64 x83.Kind, .int .i64 x83.N, st x83.Text, gv (q3 gx49.toNat) 0] 39, .obj gb35 [pt gb1 0, .int .i64 gx36, .int .i64 gx37, .int .i64 gx38, .int .i64 gx39, .int .i64 gx40, .bool gb41] 58, .obj gb42 [pt gb6 0, .int .i64 gx43, .int .i64 gx44, .int .i64 gx45, .int .i64 gx46, .int .i64 gx47, .bool gb48] 68]) (fun _ hw => hw.sel [5, 8, 9, 10, 11, 0, 1, 2, 3, 4, 6, 7] (by decide) rfl) ?_
                    obtain ⟨l249, l250, l251, l252, x253, e254, h⟩ := bind5S h
                    refine L.doesP (A := [.obj gb6 [gv50, gv52, gv54, gv56, .int .i64 gx58] 48, .sl gv50 9 1 (gl51.map SR), .sl gv52 9 1 (gl53.map SR), .sl gv54 3 1 (gl55.map I), .sl gv56 9 1 (gl57.map SR)]) (M := [.obj gb1 [v246, v247, v248, .int .i64 x244] 54, .sl v246 9 1 (l241.map SR), .sl v247 9 1 (l242.map SR), .sl v248 75 2 (l243.map Twrite.row), .obj b84 [.int .i64 x83.Kind, .int .i64 x83.N, st x83.Text, gv (q3 gx49.toNat) 0] 39, .obj gb35 [pt gb1 0, .int .i64 gx36, .int .i64 gx37, .int .i64 gx38, .int .i64 gx39, .int .i64 gx40, .bool gb41] 58, .obj gb42 [pt gb6 0, .int .i64 gx43, .int .i64 gx44, .int .i64 gx45, .int .i64 gx46, .int .i64 gx47, .bool gb48] 68]) rfl en16 rfl (fun w' hw => w16_quirref_Disk_Crash gl51 gl53 gl55 gl57 gx58 x83.Keep gb6 gv50 gv52 gv54 gv56 (gv (q3 gx49.toNat) 0) w' _ e254 _ (At.lendS (zAt (sds := TDeed.sds) (vs := q3) (j := 0) (c := 1) hD3 (fun _ _ => rfl) ex83 rfl) hw) hw.lend) ?_
                    rintro _ _ ⟨v255, v256, v257, v258, rfl, rfl⟩
                    refine L.to (D := Cls w [] [.obj gb6 [v255, v256, v257, v258, .int .i64 x253] 48, .sl v255 9 1 (l249.map SR), .sl v256 9 1 (l250.map SR), .sl v257 3 1 (l251.map I), .sl v258 9 1 (l252.map SR), .obj gb1 [v246, v247, v248, .int .i64 x244] 54, .sl v246 9 1 (l241.map SR), .sl v247 9 1 (l242.map SR), .sl v248 75 2 (l243.map Twrite.row), .obj b84 [.int .i64 x83.Kind, .int .i64 x83.N, st x83.Text, gv (q3 gx49.toNat) 0] 39, .obj gb35 [pt gb1 0, .int .i64 gx36, .int .i64 gx37, .int .i64 gx38, .int .i64 gx39, .int .i64 gx40, .bool gb41] 58, .obj gb42 [pt gb6 0, .int .i64 gx43, .int .i64 gx44, .int .i64 gx45, .int .i64 gx46, .int .i64 gx47, .bool gb48] 68]) (fun _ hw => hw) ?_
                    refine L.nil (E.thenN (W.seq (W.region (L.y rfl (Y.move rfl) ?_))))
                    refine L.y rfl (Y.move rfl) ?_
                    refine L.y rfl (Y.move rfl) ?_
                    refine L.to (D := Cls w [] [.obj gb1 [v246, v247, v248, .int .i64 x244] 54, .sl v246 9 1 (l241.map SR), .sl v247 9 1 (l242.map SR), .sl v248 75 2 (l243.map Twrite.row), .obj gb6 [v255, v256, v257, v258, .int .i64 x253] 48, .sl v255 9 1 (l249.map SR), .sl v256 9 1 (l250.map SR), .sl v257 3 1 (l251.map I), .sl v258 9 1 (l252.map SR), .obj b84 [.int .i64 x83.Kind, .int .i64 x83.N, st x83.Text, gv (q3 gx49.toNat) 0] 39, .obj gb35 [pt gb1 0, .int .i64 gx36, .int .i64 gx37, .int .i64 gx38, .int .i64 gx39, .int .i64 gx40, .bool gb41] 58, .obj gb42 [pt gb6 0, .int .i64 gx43, .int .i64 gx44, .int .i64 gx45, .int .i64 gx46, .int .i64 gx47, .bool gb48] 68]) (fun _ hw => hw.sel [5, 6, 7, 8, 0, 1, 2, 3, 4, 9, 10, 11] (by decide) rfl) ?_
                    rcases bindES h with ⟨p263, e264, h⟩ | ⟨p265, e266, h⟩
                    ·
                     refine L.doesP (A := [.obj gb1 [v246, v247, v248, .int .i64 x244] 54, .sl v246 9 1 (l241.map SR), .sl v247 9 1 (l242.map SR), .sl v248 75 2 (l243.map Twrite.row)]) (M := [.obj gb6 [v255, v256, v257, v258, .int .i64 x253] 48, .sl v255 9 1 (l249.map SR), .sl v256 9 1 (l250.map SR), .sl v257 3 1 (l251.map I), .sl v258 9 1 (l252.map SR), .obj b84 [.int .i64 x83.Kind, .int .i64 x83.N, st x83.Text, gv (q3 gx49.toNat) 0] 39, .obj gb35 [pt gb1 0, .int .i64 gx36, .int .i64 gx37, .int .i64 gx38, .int .i64 gx39, .int .i64 gx40, .bool gb41] 58, .obj gb42 [pt gb6 0, .int .i64 gx43, .int .i64 gx44, .int .i64 gx45, .int .i64 gx46, .int .i64 gx47, .bool gb48] 68]) rfl en6 rfl (fun w' hw => w6_wal_Open l241 l242 l243 x244 a1 a2 gb1 v246 v247 v248 w' _ e264 _ hw.lend) ?_
                     rintro _ _ ⟨v267, v268, v269, v270, rfl, rfl⟩
                     refine L.to (D := Cls w [] [.obj gb1 [v267, v268, v269, .int .i64 p263.2.2.2.1] 54, .sl v267 9 1 (p263.1.map SR), .sl v268 9 1 (p263.2.1.map SR), .sl v269 75 2 (p263.2.2.1.map Twrite.row), .sl v270 9 1 (p263.2.2.2.2.1.map SR), .obj gb6 [v255, v256, v257, v258, .int .i64 x253] 48, .sl v255 9 1 (l249.map SR), .sl v256 9 1 (l250.map SR), .sl v257 3 1 (l251.map I), .sl v258 9 1 (l252.map SR), .obj b84 [.int .i64 x83.Kind, .int .i64 x83.N, st x83.Text, gv (q3 gx49.toNat) 0] 39, .obj gb35 [pt gb1 0, .int .i64 gx36, .int .i64 gx37, .int .i64 gx38, .int .i64 gx39, .int .i64 gx40, .bool gb41] 58, .obj gb42 [pt gb6 0, .int .i64 gx43, .int .i64 gx44, .int .i64 gx45, .int .i64 gx46, .int .i64 gx47, .bool gb48] 68]) (fun _ hw => hw) ?_
                     refine L.y rfl (Y.move rfl) ?_
                     refine L.y rfl (Y.extract rfl rfl) ?_
                     refine L.y rfl (Y.extract rfl rfl) ?_
                     refine L.y rfl (Y.extract rfl rfl) ?_
                     refine L.y rfl (Y.assign rfl) ?_
                     refine L.y rfl (Y.assign rfl) ?_
                     refine L.y rfl (Y.assign rfl) ?_
                     refine L.nil (E.thenN (W.seq (W.region (L.y rfl (Y.move rfl) ?_))))
                     refine L.y rfl (Y.move rfl) ?_
                     refine L.y rfl (Y.move rfl) ?_
                     refine L.to (D := Cls w [] [.obj gb6 [v255, v256, v257, v258, .int .i64 x253] 48, .sl v255 9 1 (l249.map SR), .sl v256 9 1 (l250.map SR), .sl v257 3 1 (l251.map I), .sl v258 9 1 (l252.map SR), .obj gb1 [v267, v268, v269, .int .i64 p263.2.2.2.1] 54, .sl v267 9 1 (p263.1.map SR), .sl v268 9 1 (p263.2.1.map SR), .sl v269 75 2 (p263.2.2.1.map Twrite.row), .sl v270 9 1 (p263.2.2.2.2.1.map SR), .obj b84 [.int .i64 x83.Kind, .int .i64 x83.N, st x83.Text, gv (q3 gx49.toNat) 0] 39, .obj gb35 [pt gb1 0, .int .i64 gx36, .int .i64 gx37, .int .i64 gx38, .int .i64 gx39, .int .i64 gx40, .bool gb41] 58, .obj gb42 [pt gb6 0, .int .i64 gx43, .int .i64 gx44, .int .i64 gx45, .int .i64 gx46, .int .i64 gx47, .bool gb48] 68]) (fun _ hw => hw.sel [5, 6, 7, 8, 9, 0, 1, 2, 3, 4, 10, 11, 12] (by decide) rfl) ?_
                     rcases bindES h with ⟨p276, e277, h⟩ | ⟨p278, e279, h⟩
                     ·
                      refine L.doesP (A := [.obj gb6 [v255, v256, v257, v258, .int .i64 x253] 48, .sl v255 9 1 (l249.map SR), .sl v256 9 1 (l250.map SR), .sl v257 3 1 (l251.map I), .sl v258 9 1 (l252.map SR)]) (M := [.obj gb1 [v267, v268, v269, .int .i64 p263.2.2.2.1] 54, .sl v267 9 1 (p263.1.map SR), .sl v268 9 1 (p263.2.1.map SR), .sl v269 75 2 (p263.2.2.1.map Twrite.row), .sl v270 9 1 (p263.2.2.2.2.1.map SR), .obj b84 [.int .i64 x83.Kind, .int .i64 x83.N, st x83.Text, gv (q3 gx49.toNat) 0] 39, .obj gb35 [pt gb1 0, .int .i64 gx36, .int .i64 gx37, .int .i64 gx38, .int .i64 gx39, .int .i64 gx40, .bool gb41] 58, .obj gb42 [pt gb6 0, .int .i64 gx43, .int .i64 gx44, .int .i64 gx45, .int .i64 gx46, .int .i64 gx47, .bool gb48] 68]) rfl en7 rfl (fun w' hw => w7_quirref_OpenLog l249 l250 l251 l252 x253 a1 a2 gb6 v255 v256 v257 v258 w' _ e277 _ hw.lend) ?_
                      rintro _ _ ⟨v280, v281, v282, v283, v284, rfl, rfl⟩
                      refine L.to (D := Cls w [] [.obj gb6 [v280, v281, v282, v283, .int .i64 p276.2.2.2.2.1] 48, .sl v280 9 1 (p276.1.map SR), .sl v281 9 1 (p276.2.1.map SR), .sl v282 3 1 (p276.2.2.1.map I), .sl v283 9 1 (p276.2.2.2.1.map SR), .sl v284 9 1 (p276.2.2.2.2.2.1.map SR), .obj gb1 [v267, v268, v269, .int .i64 p263.2.2.2.1] 54, .sl v267 9 1 (p263.1.map SR), .sl v268 9 1 (p263.2.1.map SR), .sl v269 75 2 (p263.2.2.1.map Twrite.row), .sl v270 9 1 (p263.2.2.2.2.1.map SR), .obj b84 [.int .i64 x83.Kind, .int .i64 x83.N, st x83.Text, gv (q3 gx49.toNat) 0] 39, .obj gb35 [pt gb1 0, .int .i64 gx36, .int .i64 gx37, .int .i64 gx38, .int .i64 gx39, .int .i64 gx40, .bool gb41] 58, .obj gb42 [pt gb6 0, .int .i64 gx43, .int .i64 gx44, .int .i64 gx45, .int .i64 gx46, .int .i64 gx47, .bool gb48] 68]) (fun _ hw => hw) ?_
                      refine L.y rfl (Y.move rfl) ?_
                      refine L.y rfl (Y.extract rfl rfl) ?_
                      refine L.y rfl (Y.extract rfl rfl) ?_
                      refine L.y rfl (Y.extract rfl rfl) ?_
                      refine L.y rfl (Y.assign rfl) ?_
                      refine L.y rfl (Y.assign rfl) ?_
                      refine L.y rfl (Y.assign rfl) ?_
                      refine L.nil (E.thenN (W.seqJ (fun gs D => gs = [(1, .int .i64 a1), (2, .int .i64 a2), (9, pt gb1 0), (10, .int .i64 p263.2.2.2.2.2), (11, pt gb6 0), (12, .pointer none), (13, v270), (14, .pointer none), (15, v284), (16, .int .i64 p276.2.2.2.2.2.2), (76, u3), (77, .int .i64 (a3.length : Int)), (78, .int .i64 gx49)] ∧ D = Cls w [] [.obj gb6 [v280, v281, v282, v283, .int .i64 p276.2.2.2.2.1] 48, .obj gb1 [v267, v268, v269, .int .i64 p263.2.2.2.1] 54, .sl v270 9 1 (p263.2.2.2.2.1.map SR), .sl v284 9 1 (p276.2.2.2.2.2.1.map SR), .sl v280 9 1 (p276.1.map SR), .sl v281 9 1 (p276.2.1.map SR), .sl v282 3 1 (p276.2.2.1.map I), .sl v283 9 1 (p276.2.2.2.1.map SR), .sl v267 9 1 (p263.1.map SR), .sl v268 9 1 (p263.2.1.map SR), .sl v269 75 2 (p263.2.2.1.map Twrite.row)] ∧ m3_quirlaw_WalPlays_K26 p263 p276 = some r) ?_ ?_))
                      ·
                       refine W.seq (W.region (L.y rfl (Y.move rfl) ?_))
                       refine L.ite h rfl (Y.neq rfl rfl) (fun c286 h => ?_) (fun c286 h => ?_)
                       ·
                        refine L.nil (E.thenN (W.condT rfl ?_))
                        refine W.seq (W.region (L.y rfl (Y.move rfl) ?_))
                        refine L.y rfl (Y.move rfl) ?_
                        refine L.ite h rfl (Y.eql rfl rfl) (fun c287 h => ?_) (fun c287 h => ?_)
                        ·
                         refine L.y rfl (Y.move rfl) ?_
                         refine L.take rfl (L.y rfl (Y.move rfl) ?_)
                         refine L.take rfl (L.y rfl (Y.eqlNN Tryd.underlying29 rfl rfl) ?_)
                         refine L.y rfl (Y.pickT rfl rfl) ?_
                         refine L.y rfl (Y.move rfl) ?_
                         refine L.take rfl (L.y rfl (Y.move rfl) ?_)
                         refine L.take rfl (L.y rfl (Y.lenM (g := SR) (l := p263.2.2.2.2.1) Tryd.underlying30 rfl (fun w hw => As.at_ (hw.get (i := 10) rfl))) ?_)
                         refine L.take rfl (L.y rfl (Y.eql rfl rfl) ?_)
                         refine L.y rfl (Y.pickT rfl rfl) ?_
                         refine L.y rfl (Y.assign rfl) ?_
                         refine L.nil (E.thenN (W.ret (E.KSR (E.blockR (E.thenR (E.blockR (E.thenR (E.KLR (E.blockR (E.KSR (E.ret1 rfl rfl (fun w1 hw => ?_))))))))))))
                         obtain rfl := Option.some.inj h
                         exact ⟨_, _, rfl, ⟨rfl, rfl⟩, hw.sel [] (by decide) rfl⟩
                        ·
                         refine L.y rfl (Y.move rfl) ?_
                         refine L.pass rfl rfl (by nofun) ?_
                         refine L.pass rfl rfl (by nofun) ?_
                         refine L.y rfl (Y.pickF rfl rfl) ?_
                         refine L.y rfl (Y.move rfl) ?_
                         refine L.pass rfl rfl (by nofun) ?_
                         refine L.pass rfl rfl (by nofun) ?_
                         refine L.pass rfl rfl (by nofun) ?_
                         refine L.y rfl (Y.pickF rfl rfl) ?_
                         refine L.y rfl (Y.assign rfl) ?_
                         refine L.nil (E.thenN (W.ret (E.KSR (E.blockR (E.thenR (E.blockR (E.thenR (E.KLR (E.blockR (E.KSR (E.ret1 rfl rfl (fun w1 hw => ?_))))))))))))
                         obtain rfl := Option.some.inj h
                         exact ⟨_, _, rfl, ⟨rfl, rfl⟩, hw.sel [] (by decide) rfl⟩
                       ·
                        refine L.nil (E.thenN (W.condF rfl ?_))
                        exact W.skip (E.joinJ ⟨rfl, rfl, h⟩ ⟨rfl, rfl, rfl, rfl, rfl, rfl, rfl, rfl, rfl, rfl, rfl, rfl, rfl, trivial⟩ (fun _ hw => hw.sel [0, 6, 10, 5, 1, 2, 3, 4, 7, 8, 9] (by decide) rfl))
                      ·
                       rintro _ _ ⟨rfl, rfl, h⟩
                       rw [m3_quirlaw_WalPlays_K26] at h
                       refine W.region (L.y rfl (Y.move rfl) ?_)
                       refine L.y rfl (Y.move rfl) ?_
                       refine L.ite h rfl (Y.eql rfl rfl) (fun c285 h => ?_) (fun c285 h => ?_)
                       ·
                        refine L.y rfl (Y.move rfl) ?_
                        refine L.take rfl (L.y rfl (Y.move rfl) ?_)
                        refine L.take rfl (L.y rfl (Y.neqNN Tryd.underlying29 rfl rfl) ?_)
                        refine L.y rfl (Y.pickT rfl rfl) ?_
                        refine L.y rfl (Y.move rfl) ?_
                        refine L.pass rfl rfl (by nofun) ?_
                        refine L.pass rfl rfl (by nofun) ?_
                        refine L.pass rfl rfl (by nofun) ?_
                        refine L.y rfl (Y.pickF rfl rfl) ?_
                        refine L.y rfl (Y.assign rfl) ?_
                        refine L.nil (E.blockN (E.thenN (W.seq (W.region (L.y rfl (Y.move rfl) ?_)))))
                        refine L.y rfl (Y.not rfl) ?_
                        refine L.y rfl (Y.move rfl) ?_
                        refine L.pass rfl rfl (by nofun) ?_
                        refine L.pass rfl rfl (by nofun) ?_
                        refine L.y rfl (Y.pickT rfl rfl) ?_
                        refine L.y rfl (Y.move rfl) ?_
                        refine L.pass rfl rfl (by nofun) ?_
                        refine L.pass rfl rfl (by nofun) ?_
                        refine L.pass rfl rfl (by nofun) ?_
                        refine L.pass rfl rfl (by nofun) ?_
                        refine L.pass rfl rfl (by nofun) ?_
                        refine L.y rfl (Y.pickT rfl rfl) ?_
                        refine L.nil (E.thenN (W.condT rfl ?_))
                        refine W.seq (W.region (L.y rfl (Y.assign rfl) ?_))
                        refine L.nil (E.thenN (W.ret (E.blockR (E.thenR (E.KLR (E.blockR (E.KSR (E.ret1 rfl rfl (fun w1 hw => ?_)))))))))
                        obtain rfl := Option.some.inj h
                        exact ⟨_, _, rfl, ⟨rfl, rfl⟩, hw.sel [] (by decide) rfl⟩
                       ·
                        refine L.y rfl (Y.move rfl) ?_
                        refine L.pass rfl rfl (by nofun) ?_
                        refine L.pass rfl rfl (by nofun) ?_
                        refine L.y rfl (Y.pickF rfl rfl) ?_
                        refine L.y rfl (Y.move rfl) ?_
                        refine L.pass rfl rfl (by nofun) ?_
                        refine L.pass rfl rfl (by nofun) ?_
                        refine L.pass rfl rfl (by nofun) ?_
                        refine L.y rfl (Y.pickF rfl rfl) ?_
                        refine L.y rfl (Y.assign rfl) ?_
                        refine L.nil (E.blockN (E.thenN (W.seq (W.region (L.y rfl (Y.move rfl) ?_)))))
                        refine L.y rfl (Y.not rfl) ?_
                        refine L.y rfl (Y.move rfl) ?_
                        refine L.pass rfl rfl (by nofun) ?_
                        refine L.pass rfl rfl (by nofun) ?_
                        refine L.y rfl (Y.pickT rfl rfl) ?_
                        refine L.y rfl (Y.move rfl) ?_
                        refine L.pass rfl rfl (by nofun) ?_
                        refine L.pass rfl rfl (by nofun) ?_
                        refine L.pass rfl rfl (by nofun) ?_
                        refine L.pass rfl rfl (by nofun) ?_
                        refine L.pass rfl rfl (by nofun) ?_
                        refine L.y rfl (Y.pickT rfl rfl) ?_
                        refine L.nil (E.thenN (W.condT rfl ?_))
                        refine W.seq (W.region (L.y rfl (Y.assign rfl) ?_))
                        refine L.nil (E.thenN (W.ret (E.blockR (E.thenR (E.KLR (E.blockR (E.KSR (E.ret1 rfl rfl (fun w1 hw => ?_)))))))))
                        obtain rfl := Option.some.inj h
                        exact ⟨_, _, rfl, ⟨rfl, rfl⟩, hw.sel [] (by decide) rfl⟩
                     ·
                      refine L.doesP (A := [.obj gb6 [v255, v256, v257, v258, .int .i64 x253] 48, .sl v255 9 1 (l249.map SR), .sl v256 9 1 (l250.map SR), .sl v257 3 1 (l251.map I), .sl v258 9 1 (l252.map SR)]) (M := [.obj gb1 [v267, v268, v269, .int .i64 p263.2.2.2.1] 54, .sl v267 9 1 (p263.1.map SR), .sl v268 9 1 (p263.2.1.map SR), .sl v269 75 2 (p263.2.2.1.map Twrite.row), .sl v270 9 1 (p263.2.2.2.2.1.map SR), .obj b84 [.int .i64 x83.Kind, .int .i64 x83.N, st x83.Text, gv (q3 gx49.toNat) 0] 39, .obj gb35 [pt gb1 0, .int .i64 gx36, .int .i64 gx37, .int .i64 gx38, .int .i64 gx39, .int .i64 gx40, .bool gb41] 58, .obj gb42 [pt gb6 0, .int .i64 gx43, .int .i64 gx44, .int .i64 gx45, .int .i64 gx46, .int .i64 gx47, .bool gb48] 68]) rfl en7 rfl (fun w' hw => w7_quirref_OpenLog l249 l250 l251 l252 x253 a1 a2 gb6 v255 v256 v257 v258 w' _ e279 _ hw.lend) ?_
                      rintro _ _ ⟨v288, v289, v290, v291, v292, nb293, rfl, rfl⟩
                      refine L.to (D := Cls w [] [.obj nb293 [pt gb6 0, .int .i64 p278.2.2.2.2.2.2.2.1, .int .i64 p278.2.2.2.2.2.2.2.2.1, .int .i64 p278.2.2.2.2.2.2.2.2.2.1, .int .i64 p278.2.2.2.2.2.2.2.2.2.2.1, .int .i64 p278.2.2.2.2.2.2.2.2.2.2.2.1, .bool p278.2.2.2.2.2.2.2.2.2.2.2.2] 68, .obj gb6 [v288, v289, v290, v291, .int .i64 p278.2.2.2.2.1] 48, .sl v288 9 1 (p278.1.map SR), .sl v289 9 1 (p278.2.1.map SR), .sl v290 3 1 (p278.2.2.1.map I), .sl v291 9 1 (p278.2.2.2.1.map SR), .sl v292 9 1 (p278.2.2.2.2.2.1.map SR), .obj gb1 [v267, v268, v269, .int .i64 p263.2.2.2.1] 54, .sl v267 9 1 (p263.1.map SR), .sl v268 9 1 (p263.2.1.map SR), .sl v269 75 2 (p263.2.2.1.map Twrite.row), .sl v270 9 1 (p263.2.2.2.2.1.map SR), .obj b84 [.int .i64 x83.Kind, .int .i64 x83.N, st x83.Text, gv (q3 gx49.toNat) 0] 39, .obj gb35 [pt gb1 0, .int .i64 gx36, .int .i64 gx37, .int .i64 gx38, .int .i64 gx39, .int .i64 gx40, .bool gb41] 58, .obj gb42 [pt gb6 0, .int .i64 gx43, .int .i64 gx44, .int .i64 gx45, .int .i64 gx46, .int .i64 gx47, .bool gb48] 68]) (fun _ hw => hw) ?_
                      refine L.y rfl (Y.move rfl) ?_
                      refine L.y rfl (Y.extract rfl rfl) ?_
                      refine L.y rfl (Y.extract rfl rfl) ?_
                      refine L.y rfl (Y.extract rfl rfl) ?_
                      refine L.y rfl (Y.assign rfl) ?_
                      refine L.y rfl (Y.assign rfl) ?_
                      refine L.y rfl (Y.assign rfl) ?_
                      refine L.nil (E.thenN (W.seqJ (fun gs D => gs = [(1, .int .i64 a1), (2, .int .i64 a2), (9, pt gb1 0), (10, .int .i64 p263.2.2.2.2.2), (11, pt gb6 0), (12, .pointer none), (13, v270), (14, pt nb293 0), (15, v292), (16, .int .i64 p278.2.2.2.2.2.2.1), (76, u3), (77, .int .i64 (a3.length : Int)), (78, .int .i64 gx49)] ∧ D = Cls w [] [.obj nb293 [pt gb6 0, .int .i64 p278.2.2.2.2.2.2.2.1, .int .i64 p278.2.2.2.2.2.2.2.2.1, .int .i64 p278.2.2.2.2.2.2.2.2.2.1, .int .i64 p278.2.2.2.2.2.2.2.2.2.2.1, .int .i64 p278.2.2.2.2.2.2.2.2.2.2.2.1, .bool p278.2.2.2.2.2.2.2.2.2.2.2.2] 68, .obj gb6 [v288, v289, v290, v291, .int .i64 p278.2.2.2.2.1] 48, .obj gb1 [v267, v268, v269, .int .i64 p263.2.2.2.1] 54, .sl v270 9 1 (p263.2.2.2.2.1.map SR), .sl v292 9 1 (p278.2.2.2.2.2.1.map SR), .sl v288 9 1 (p278.1.map SR), .sl v289 9 1 (p278.2.1.map SR), .sl v290 3 1 (p278.2.2.1.map I), .sl v291 9 1 (p278.2.2.2.1.map SR), .sl v267 9 1 (p263.1.map SR), .sl v268 9 1 (p263.2.1.map SR), .sl v269 75 2 (p263.2.2.1.map Twrite.row)] ∧ m3_quirlaw_WalPlays_K27 p263 p278 = some r) ?_ ?_))
                      ·
                       refine W.seq (W.region (L.y rfl (Y.move rfl) ?_))
                       refine L.ite h rfl (Y.neq rfl rfl) (fun c295 h => ?_) (fun c295 h => ?_)
                       ·
                        refine L.nil (E.thenN (W.condT rfl ?_))
                        refine W.seq (W.region (L.y rfl (Y.move rfl) ?_))
                        refine L.y rfl (Y.move rfl) ?_
                        refine L.ite h rfl (Y.eql rfl rfl) (fun c296 h => ?_) (fun c296 h => ?_)
                        ·
                         refine L.y rfl (Y.move rfl) ?_
                         refine L.take rfl (L.y rfl (Y.move rfl) ?_)
                         refine L.take rfl (L.y rfl (Y.eqlNN Tryd.underlying29 rfl rfl) ?_)
                         refine L.y rfl (Y.pickT rfl rfl) ?_
                         refine L.y rfl (Y.move rfl) ?_
                         refine L.take rfl (L.y rfl (Y.move rfl) ?_)
                         refine L.take rfl (L.y rfl (Y.lenM (g := SR) (l := p263.2.2.2.2.1) Tryd.underlying30 rfl (fun w hw => As.at_ (hw.get (i := 11) rfl))) ?_)
                         refine L.take rfl (L.y rfl (Y.eql rfl rfl) ?_)
                         refine L.y rfl (Y.pickT rfl rfl) ?_
                         refine L.y rfl (Y.assign rfl) ?_
                         refine L.nil (E.thenN (W.ret (E.KSR (E.blockR (E.thenR (E.blockR (E.thenR (E.KLR (E.blockR (E.KSR (E.ret1 rfl rfl (fun w1 hw => ?_))))))))))))
                         obtain rfl := Option.some.inj h
                         exact ⟨_, _, rfl, ⟨rfl, rfl⟩, hw.sel [] (by decide) rfl⟩
                        ·
                         refine L.y rfl (Y.move rfl) ?_
                         refine L.pass rfl rfl (by nofun) ?_
                         refine L.pass rfl rfl (by nofun) ?_
                         refine L.y rfl (Y.pickF rfl rfl) ?_
                         refine L.y rfl (Y.move rfl) ?_
                         refine L.pass rfl rfl (by nofun) ?_
                         refine L.pass rfl rfl (by nofun) ?_
                         refine L.pass rfl rfl (by nofun) ?_
                         refine L.y rfl (Y.pickF rfl rfl) ?_
                         refine L.y rfl (Y.assign rfl) ?_
                         refine L.nil (E.thenN (W.ret (E.KSR (E.blockR (E.thenR (E.blockR (E.thenR (E.KLR (E.blockR (E.KSR (E.ret1 rfl rfl (fun w1 hw => ?_))))))))))))
                         obtain rfl := Option.some.inj h
                         exact ⟨_, _, rfl, ⟨rfl, rfl⟩, hw.sel [] (by decide) rfl⟩
                       ·
                        refine L.nil (E.thenN (W.condF rfl ?_))
                        exact W.skip (E.joinJ ⟨rfl, rfl, h⟩ ⟨rfl, rfl, rfl, rfl, rfl, rfl, rfl, rfl, rfl, rfl, rfl, rfl, rfl, trivial⟩ (fun _ hw => hw.sel [0, 1, 7, 11, 6, 2, 3, 4, 5, 8, 9, 10] (by decide) rfl))
                      ·
                       rintro _ _ ⟨rfl, rfl, h⟩
                       rw [m3_quirlaw_WalPlays_K27] at h
                       refine W.region (L.y rfl (Y.move rfl) ?_)
                       refine L.y rfl (Y.move rfl) ?_
                       refine L.ite h rfl (Y.eql rfl rfl) (fun c294 h => ?_) (fun c294 h => ?_)
                       ·
                        refine L.y rfl (Y.move rfl) ?_
                        refine L.take rfl (L.y rfl (Y.move rfl) ?_)
                        refine L.take rfl (L.y rfl (Y.neqNN Tryd.underlying29 rfl rfl) ?_)
                        refine L.y rfl (Y.pickT rfl rfl) ?_
                        refine L.y rfl (Y.move rfl) ?_
                        refine L.pass rfl rfl (by nofun) ?_
                        refine L.pass rfl rfl (by nofun) ?_
                        refine L.pass rfl rfl (by nofun) ?_
                        refine L.y rfl (Y.pickF rfl rfl) ?_
                        refine L.y rfl (Y.assign rfl) ?_
                        refine L.nil (E.blockN (E.thenN (W.seq (W.region (L.y rfl (Y.move rfl) ?_)))))
                        refine L.y rfl (Y.not rfl) ?_
                        refine L.y rfl (Y.move rfl) ?_
                        refine L.pass rfl rfl (by nofun) ?_
                        refine L.pass rfl rfl (by nofun) ?_
                        refine L.y rfl (Y.pickT rfl rfl) ?_
                        refine L.y rfl (Y.move rfl) ?_
                        refine L.pass rfl rfl (by nofun) ?_
                        refine L.pass rfl rfl (by nofun) ?_
                        refine L.pass rfl rfl (by nofun) ?_
                        refine L.pass rfl rfl (by nofun) ?_
                        refine L.pass rfl rfl (by nofun) ?_
                        refine L.y rfl (Y.pickT rfl rfl) ?_
                        refine L.nil (E.thenN (W.condT rfl ?_))
                        refine W.seq (W.region (L.y rfl (Y.assign rfl) ?_))
                        refine L.nil (E.thenN (W.ret (E.blockR (E.thenR (E.KLR (E.blockR (E.KSR (E.ret1 rfl rfl (fun w1 hw => ?_)))))))))
                        obtain rfl := Option.some.inj h
                        exact ⟨_, _, rfl, ⟨rfl, rfl⟩, hw.sel [] (by decide) rfl⟩
                       ·
                        refine L.y rfl (Y.move rfl) ?_
                        refine L.pass rfl rfl (by nofun) ?_
                        refine L.pass rfl rfl (by nofun) ?_
                        refine L.y rfl (Y.pickF rfl rfl) ?_
                        refine L.y rfl (Y.move rfl) ?_
                        refine L.pass rfl rfl (by nofun) ?_
                        refine L.pass rfl rfl (by nofun) ?_
                        refine L.pass rfl rfl (by nofun) ?_
                        refine L.y rfl (Y.pickF rfl rfl) ?_
                        refine L.y rfl (Y.assign rfl) ?_
                        refine L.nil (E.blockN (E.thenN (W.seq (W.region (L.y rfl (Y.move rfl) ?_)))))
                        refine L.y rfl (Y.not rfl) ?_
                        refine L.y rfl (Y.move rfl) ?_
                        refine L.pass rfl rfl (by nofun) ?_
                        refine L.pass rfl rfl (by nofun) ?_
                        refine L.y rfl (Y.pickT rfl rfl) ?_
                        refine L.y rfl (Y.move rfl) ?_
                        refine L.pass rfl rfl (by nofun) ?_
                        refine L.pass rfl rfl (by nofun) ?_
                        refine L.pass rfl rfl (by nofun) ?_
                        refine L.pass rfl rfl (by nofun) ?_
                        refine L.pass rfl rfl (by nofun) ?_
                        refine L.y rfl (Y.pickT rfl rfl) ?_
                        refine L.nil (E.thenN (W.condT rfl ?_))
                        refine W.seq (W.region (L.y rfl (Y.assign rfl) ?_))
                        refine L.nil (E.thenN (W.ret (E.blockR (E.thenR (E.KLR (E.blockR (E.KSR (E.ret1 rfl rfl (fun w1 hw => ?_)))))))))
                        obtain rfl := Option.some.inj h
                        exact ⟨_, _, rfl, ⟨rfl, rfl⟩, hw.sel [] (by decide) rfl⟩
                    ·
                     refine L.doesP (A := [.obj gb1 [v246, v247, v248, .int .i64 x244] 54, .sl v246 9 1 (l241.map SR), .sl v247 9 1 (l242.map SR), .sl v248 75 2 (l243.map Twrite.row)]) (M := [.obj gb6 [v255, v256, v257, v258, .int .i64 x253] 48, .sl v255 9 1 (l249.map SR), .sl v256 9 1 (l250.map SR), .sl v257 3 1 (l251.map I), .sl v258 9 1 (l252.map SR), .obj b84 [.int .i64 x83.Kind, .int .i64 x83.N, st x83.Text, gv (q3 gx49.toNat) 0] 39, .obj gb35 [pt gb1 0, .int .i64 gx36, .int .i64 gx37, .int .i64 gx38, .int .i64 gx39, .int .i64 gx40, .bool gb41] 58, .obj gb42 [pt gb6 0, .int .i64 gx43, .int .i64 gx44, .int .i64 gx45, .int .i64 gx46, .int .i64 gx47, .bool gb48] 68]) rfl en6 rfl (fun w' hw => w6_wal_Open l241 l242 l243 x244 a1 a2 gb1 v246 v247 v248 w' _ e266 _ hw.lend) ?_
                     rintro _ _ ⟨v297, v298, v299, v300, nb301, rfl, rfl⟩
                     refine L.to (D := Cls w [] [.obj nb301 [pt gb1 0, .int .i64 p265.2.2.2.2.2.2.1, .int .i64 p265.2.2.2.2.2.2.2.1, .int .i64 p265.2.2.2.2.2.2.2.2.1, .int .i64 p265.2.2.2.2.2.2.2.2.2.1, .int .i64 p265.2.2.2.2.2.2.2.2.2.2.1, .bool p265.2.2.2.2.2.2.2.2.2.2.2] 58, .obj gb1 [v297, v298, v299, .int .i64 p265.2.2.2.1] 54, .sl v297 9 1 (p265.1.map SR), .sl v298 9 1 (p265.2.1.map SR), .sl v299 75 2 (p265.2.2.1.map Twrite.row), .sl v300 9 1 (p265.2.2.2.2.1.map SR), .obj gb6 [v255, v256, v257, v258, .int .i64 x253] 48, .sl v255 9 1 (l249.map SR), .sl v256 9 1 (l250.map SR), .sl v257 3 1 (l251.map I), .sl v258 9 1 (l252.map SR), .obj b84 [.int .i64 x83.Kind, .int .i64 x83.N, st x83.Text, gv (q3 gx49.toNat) 0] 39, .obj gb35 [pt gb1 0, .int .i64 gx36, .int .i64 gx37, .int .i64 gx38, .int .i64 gx39, .int .i64 gx40, .bool gb41] 58, .obj gb42 [pt gb6 0, .int .i64 gx43, .int .i64 gx44, .int .i64 gx45, .int .i64 gx46, .int .i64 gx47, .bool gb48] 68]) (fun _ hw => hw) ?_
                     refine L.y rfl (Y.move rfl) ?_
                     refine L.y rfl (Y.extract rfl rfl) ?_
                     refine L.y rfl (Y.extract rfl rfl) ?_
                     refine L.y rfl (Y.extract rfl rfl) ?_
                     refine L.y rfl (Y.assign rfl) ?_
                     refine L.y rfl (Y.assign rfl) ?_
                     refine L.y rfl (Y.assign rfl) ?_
                     refine L.nil (E.thenN (W.seq (W.region (L.y rfl (Y.move rfl) ?_))))
                     refine L.y rfl (Y.move rfl) ?_
                     refine L.y rfl (Y.move rfl) ?_
                     refine L.to (D := Cls w [] [.obj gb6 [v255, v256, v257, v258, .int .i64 x253] 48, .sl v255 9 1 (l249.map SR), .sl v256 9 1 (l250.map SR), .sl v257 3 1 (l251.map I), .sl v258 9 1 (l252.map SR), .obj nb301 [pt gb1 0, .int .i64 p265.2.2.2.2.2.2.1, .int .i64 p265.2.2.2.2.2.2.2.1, .int .i64 p265.2.2.2.2.2.2.2.2.1, .int .i64 p265.2.2.2.2.2.2.2.2.2.1, .int .i64 p265.2.2.2.2.2.2.2.2.2.2.1, .bool p265.2.2.2.2.2.2.2.2.2.2.2] 58, .obj gb1 [v297, v298, v299, .int .i64 p265.2.2.2.1] 54, .sl v297 9 1 (p265.1.map SR), .sl v298 9 1 (p265.2.1.map SR), .sl v299 75 2 (p265.2.2.1.map Twrite.row), .sl v300 9 1 (p265.2.2.2.2.1.map SR), .obj b84 [.int .i64 x83.Kind, .int .i64 x83.N, st x83.Text, gv (q3 gx49.toNat) 0] 39, .obj gb35 [pt gb1 0, .int .i64 gx36, .int .i64 gx37, .int .i64 gx38, .int .i64 gx39, .int .i64 gx40, .bool gb41] 58, .obj gb42 [pt gb6 0, .int .i64 gx43, .int .i64 gx44, .int .i64 gx45, .int .i64 gx46, .int .i64 gx47, .bool gb48] 68]) (fun _ hw => hw.sel [6, 7, 8, 9, 10, 0, 1, 2, 3, 4, 5, 11, 12, 13] (by decide) rfl) ?_
                     rcases bindES h with ⟨p307, e308, h⟩ | ⟨p309, e310, h⟩
                     ·
                      refine L.doesP (A := [.obj gb6 [v255, v256, v257, v258, .int .i64 x253] 48, .sl v255 9 1 (l249.map SR), .sl v256 9 1 (l250.map SR), .sl v257 3 1 (l251.map I), .sl v258 9 1 (l252.map SR)]) (M := [.obj nb301 [pt gb1 0, .int .i64 p265.2.2.2.2.2.2.1, .int .i64 p265.2.2.2.2.2.2.2.1, .int .i64 p265.2.2.2.2.2.2.2.2.1, .int .i64 p265.2.2.2.2.2.2.2.2.2.1, .int .i64 p265.2.2.2.2.2.2.2.2.2.2.1, .bool p265.2.2.2.2.2.2.2.2.2.2.2] 58, .obj gb1 [v297, v298, v299, .int .i64 p265.2.2.2.1] 54, .sl v297 9 1 (p265.1.map SR), .sl v298 9 1 (p265.2.1.map SR), .sl v299 75 2 (p265.2.2.1.map Twrite.row), .sl v300 9 1 (p265.2.2.2.2.1.map SR), .obj b84 [.int .i64 x83.Kind, .int .i64 x83.N, st x83.Text, gv (q3 gx49.toNat) 0] 39, .obj gb35 [pt gb1 0, .int .i64 gx36, .int .i64 gx37, .int .i64 gx38, .int .i64 gx39, .int .i64 gx40, .bool gb41] 58, .obj gb42 [pt gb6 0, .int .i64 gx43, .int .i64 gx44, .int .i64 gx45, .int .i64 gx46, .int .i64 gx47, .bool gb48] 68]) rfl en7 rfl (fun w' hw => w7_quirref_OpenLog l249 l250 l251 l252 x253 a1 a2 gb6 v255 v256 v257 v258 w' _ e308 _ hw.lend) ?_
                      rintro _ _ ⟨v311, v312, v313, v314, v315, rfl, rfl⟩
                      refine L.to (D := Cls w [] [.obj gb6 [v311, v312, v313, v314, .int .i64 p307.2.2.2.2.1] 48, .sl v311 9 1 (p307.1.map SR), .sl v312 9 1 (p307.2.1.map SR), .sl v313 3 1 (p307.2.2.1.map I), .sl v314 9 1 (p307.2.2.2.1.map SR), .sl v315 9 1 (p307.2.2.2.2.2.1.map SR), .obj nb301 [pt gb1 0, .int .i64 p265.2.2.2.2.2.2.1, .int .i64 p265.2.2.2.2.2.2.2.1, .int .i64 p265.2.2.2.2.2.2.2.2.1, .int .i64 p265.2.2.2.2.2.2.2.2.2.1, .int .i64 p265.2.2.2.2.2.2.2.2.2.2.1, .bool p265.2.2.2.2.2.2.2.2.2.2.2] 58, .obj gb1 [v297, v298, v299, .int .i64 p265.2.2.2.1] 54, .sl v297 9 1 (p265.1.map SR), .sl v298 9 1 (p265.2.1.map SR), .sl v299 75 2 (p265.2.2.1.map Twrite.row), .sl v300 9 1 (p265.2.2.2.2.1.map SR), .obj b84 [.int .i64 x83.Kind, .int .i64 x83.N, st x83.Text, gv (q3 gx49.toNat) 0] 39, .obj gb35 [pt gb1 0, .int .i64 gx36, .int .i64 gx37, .int .i64 gx38, .int .i64 gx39, .int .i64 gx40, .bool gb41] 58, .obj gb42 [pt gb6 0, .int .i64 gx43, .int .i64 gx44, .int .i64 gx45, .int .i64 gx46, .int .i64 gx47, .bool gb48] 68]) (fun _ hw => hw) ?_
                      refine L.y rfl (Y.move rfl) ?_
                      refine L.y rfl (Y.extract rfl rfl) ?_
                      refine L.y rfl (Y.extract rfl rfl) ?_
                      refine L.y rfl (Y.extract rfl rfl) ?_
                      refine L.y rfl (Y.assign rfl) ?_
                      refine L.y rfl (Y.assign rfl) ?_
                      refine L.y rfl (Y.assign rfl) ?_
                      refine L.nil (E.thenN (W.seqJ (fun gs D => gs = [(1, .int .i64 a1), (2, .int .i64 a2), (9, pt gb1 0), (10, .int .i64 p265.2.2.2.2.2.1), (11, pt gb6 0), (12, pt nb301 0), (13, v300), (14, .pointer none), (15, v315), (16, .int .i64 p307.2.2.2.2.2.2), (76, u3), (77, .int .i64 (a3.length : Int)), (78, .int .i64 gx49)] ∧ D = Cls w [] [.obj gb6 [v311, v312, v313, v314, .int .i64 p307.2.2.2.2.1] 48, .obj nb301 [pt gb1 0, .int .i64 p265.2.2.2.2.2.2.1, .int .i64 p265.2.2.2.2.2.2.2.1, .int .i64 p265.2.2.2.2.2.2.2.2.1, .int .i64 p265.2.2.2.2.2.2.2.2.2.1, .int .i64 p265.2.2.2.2.2.2.2.2.2.2.1, .bool p265.2.2.2.2.2.2.2.2.2.2.2] 58, .obj gb1 [v297, v298, v299, .int .i64 p265.2.2.2.1] 54, .sl v300 9 1 (p265.2.2.2.2.1.map SR), .sl v315 9 1 (p307.2.2.2.2.2.1.map SR), .sl v311 9 1 (p307.1.map SR), .sl v312 9 1 (p307.2.1.map SR), .sl v313 3 1 (p307.2.2.1.map I), .sl v314 9 1 (p307.2.2.2.1.map SR), .sl v297 9 1 (p265.1.map SR), .sl v298 9 1 (p265.2.1.map SR), .sl v299 75 2 (p265.2.2.1.map Twrite.row)] ∧ m3_quirlaw_WalPlays_K28 p265 p307 = some r) ?_ ?_))
                      ·
                       refine W.seq (W.region (L.y rfl (Y.move rfl) ?_))
                       refine L.ite h rfl (Y.neq rfl rfl) (fun c320 h => ?_) (fun c320 h => ?_)
                       ·
                        refine L.nil (E.thenN (W.condT rfl ?_))
                        refine W.seq (W.region (L.y rfl (Y.move rfl) ?_))
                        refine L.y rfl (Y.move rfl) ?_
                        refine L.ite h rfl (Y.eql rfl rfl) (fun c321 h => ?_) (fun c321 h => ?_)
                        ·
                         refine L.y rfl (Y.move rfl) ?_
                         refine L.take rfl (L.y rfl (Y.move rfl) ?_)
                         refine L.take rfl (L.y rfl (Y.eqlPN Tryd.underlying29 rfl rfl) ?_)
                         refine L.y rfl (Y.pickT rfl rfl) ?_
                         refine L.y rfl (Y.move rfl) ?_
                         refine L.pass rfl rfl (by nofun) ?_
                         refine L.pass rfl rfl (by nofun) ?_
                         refine L.pass rfl rfl (by nofun) ?_
                         refine L.y rfl (Y.pickF rfl rfl) ?_
                         refine L.y rfl (Y.assign rfl) ?_
                         refine L.nil (E.thenN (W.ret (E.KSR (E.blockR (E.thenR (E.blockR (E.thenR (E.KLR (E.blockR (E.KSR (E.ret1 rfl rfl (fun w1 hw => ?_))))))))))))
                         obtain rfl := Option.some.inj h
                         exact ⟨_, _, rfl, ⟨rfl, rfl⟩, hw.sel [] (by decide) rfl⟩
                        ·
                         refine L.y rfl (Y.move rfl) ?_
                         refine L.pass rfl rfl (by nofun) ?_
                         refine L.pass rfl rfl (by nofun) ?_
                         refine L.y rfl (Y.pickF rfl rfl) ?_
                         refine L.y rfl (Y.move rfl) ?_
                         refine L.pass rfl rfl (by nofun) ?_
                         refine L.pass rfl rfl (by nofun) ?_
                         refine L.pass rfl rfl (by nofun) ?_
                         refine L.y rfl (Y.pickF rfl rfl) ?_
                         refine L.y rfl (Y.assign rfl) ?_
                         refine L.nil (E.thenN (W.ret (E.KSR (E.blockR (E.thenR (E.blockR (E.thenR (E.KLR (E.blockR (E.KSR (E.ret1 rfl rfl (fun w1 hw => ?_))))))))))))
                         obtain rfl := Option.some.inj h
                         exact ⟨_, _, rfl, ⟨rfl, rfl⟩, hw.sel [] (by decide) rfl⟩
                       ·
                        refine L.nil (E.thenN (W.condF rfl ?_))
                        exact W.skip (E.joinJ ⟨rfl, rfl, h⟩ ⟨rfl, rfl, rfl, rfl, rfl, rfl, rfl, rfl, rfl, rfl, rfl, rfl, rfl, trivial⟩ (fun _ hw => hw.sel [0, 6, 7, 11, 5, 1, 2, 3, 4, 8, 9, 10] (by decide) rfl))
                      ·
                       rintro _ _ ⟨rfl, rfl, h⟩
                       rw [m3_quirlaw_WalPlays_K28] at h
                       refine W.region (L.cutJ 12 (fun gs D => ∃ (gb92 : Bool), gs = [(1, .int .i64 a1), (2, .int .i64 a2), (9, pt gb1 0), (11, pt gb6 0), (12, pt nb301 0), (14, .pointer none), (76, u3), (77, .int .i64 (a3.length : Int)), (78, .int .i64 gx49), (171, .bool gb92)] ∧ D = Cls w [] [.obj gb6 [v311, v312, v313, v314, .int .i64 p307.2.2.2.2.1] 48, .obj nb301 [pt gb1 0, .int .i64 p265.2.2.2.2.2.2.1, .int .i64 p265.2.2.2.2.2.2.2.1, .int .i64 p265.2.2.2.2.2.2.2.2.1, .int .i64 p265.2.2.2.2.2.2.2.2.2.1, .int .i64 p265.2.2.2.2.2.2.2.2.2.2.1, .bool p265.2.2.2.2.2.2.2.2.2.2.2] 58, .obj gb1 [v297, v298, v299, .int .i64 p265.2.2.2.1] 54, .sl v311 9 1 (p307.1.map SR), .sl v312 9 1 (p307.2.1.map SR), .sl v313 3 1 (p307.2.2.1.map I), .sl v314 9 1 (p307.2.2.2.1.map SR), .sl v297 9 1 (p265.1.map SR), .sl v298 9 1 (p265.2.1.map SR), .sl v299 75 2 (p265.2.2.1.map Twrite.row)] ∧ m3_quirlaw_WalPlays_K29 p265 gb92 = some r) ?_ ?_)
                       ·
                        refine L.y rfl (Y.move rfl) ?_
                        refine L.y rfl (Y.move rfl) ?_
                        refine L.ite h rfl (Y.eql rfl rfl) (fun c317 h => ?_) (fun c317 h => ?_)
                        ·
                         refine L.y rfl (Y.move rfl) ?_
                         refine L.take rfl (L.y rfl (Y.move rfl) ?_)
                         refine L.take rfl (L.y rfl (Y.neqPN Tryd.underlying29 rfl rfl) ?_)
                         refine L.y rfl (Y.pickT rfl rfl) ?_
                         refine L.y rfl (Y.move rfl) ?_
                         refine L.take rfl (L.y rfl (Y.move rfl) ?_)
                         refine L.take rfl (L.y rfl (Y.move rfl) ?_)
                         refine L.take rfl ?_
                         obtain ⟨b318, e319, h⟩ := bind1S h
                         refine L.y rfl (Y.does en8 rfl (fun w' hw => (w8_slices_Equal_string p265.2.2.2.2.1 p307.2.2.2.2.2.1 v300 v315 w' _ e319 (As.at_ (hw.get (i := 3) rfl)) (As.at_ (hw.get (i := 4) rfl))).mono (fun _ _ h => h.1))) ?_
                         rcases b318 with _ | _
                         ·
                          replace h := iteF h
                          refine L.y rfl (Y.pickT rfl rfl) ?_
                          exact L.nil (E.joinJ ⟨false, rfl, rfl, h⟩ ⟨rfl, rfl, rfl, rfl, rfl, rfl, rfl, rfl, rfl, rfl, trivial⟩ (fun _ hw => hw.sel [0, 1, 2, 5, 6, 7, 8, 9, 10, 11] (by decide) rfl))
                         ·
                          replace h := iteT h
                          refine L.y rfl (Y.pickT rfl rfl) ?_
                          exact L.nil (E.joinJ ⟨true, rfl, rfl, h⟩ ⟨rfl, rfl, rfl, rfl, rfl, rfl, rfl, rfl, rfl, rfl, trivial⟩ (fun _ hw => hw.sel [0, 1, 2, 5, 6, 7, 8, 9, 10, 11] (by decide) rfl))
                        ·
                         refine L.y rfl (Y.move rfl) ?_
                         refine L.pass rfl rfl (by nofun) ?_
                         refine L.pass rfl rfl (by nofun) ?_
                         refine L.y rfl (Y.pickF rfl rfl) ?_
                         refine L.y rfl (Y.move rfl) ?_
                         refine L.pass rfl rfl (by nofun) ?_
                         refine L.pass rfl rfl (by nofun) ?_
                         refine L.pass rfl rfl (by nofun) ?_
                         refine L.y rfl (Y.pickF rfl rfl) ?_
                         exact L.nil (E.joinJ ⟨false, rfl, rfl, h⟩ ⟨rfl, rfl, rfl, rfl, rfl, rfl, rfl, rfl, rfl, rfl, trivial⟩ (fun _ hw => hw.sel [0, 1, 2, 5, 6, 7, 8, 9, 10, 11] (by decide) rfl))
                       ·
                        rintro _ _ ⟨gb92, rfl, rfl, h⟩
                        rw [m3_quirlaw_WalPlays_K29] at h
                        rcases gb92 with _ | _
                        ·
                         replace h := iteF h
                         refine L.y rfl (Y.assign rfl) ?_
                         refine L.nil (E.blockN (E.thenN (W.seq (W.region (L.y rfl (Y.move rfl) ?_)))))
                         refine L.y rfl (Y.not rfl) ?_
                         refine L.y rfl (Y.move rfl) ?_
                         refine L.pass rfl rfl (by nofun) ?_
                         refine L.pass rfl rfl (by nofun) ?_
                         refine L.y rfl (Y.pickT rfl rfl) ?_
                         refine L.y rfl (Y.move rfl) ?_
                         refine L.pass rfl rfl (by nofun) ?_
                         refine L.pass rfl rfl (by nofun) ?_
                         refine L.pass rfl rfl (by nofun) ?_
                         refine L.pass rfl rfl (by nofun) ?_
                         refine L.pass rfl rfl (by nofun) ?_
                         refine L.y rfl (Y.pickT rfl rfl) ?_
                         refine L.nil (E.thenN (W.condT rfl ?_))
                         refine W.seq (W.region (L.y rfl (Y.assign rfl) ?_))
                         refine L.nil (E.thenN (W.ret (E.blockR (E.thenR (E.KLR (E.blockR (E.KSR (E.ret1 rfl rfl (fun w1 hw => ?_)))))))))
                         obtain rfl := Option.some.inj h
                         exact ⟨_, _, rfl, ⟨rfl, rfl⟩, hw.sel [] (by decide) rfl⟩
                        ·
                         replace h := iteT h
                         refine L.y rfl (Y.assign rfl) ?_
                         refine L.nil (E.blockN (E.thenN (W.seq (W.region (L.y rfl (Y.move rfl) ?_)))))
                         refine L.y rfl (Y.not rfl) ?_
                         refine L.y rfl (Y.move rfl) ?_
                         refine L.take rfl (L.y rfl (Y.move rfl) ?_)
                         refine L.take rfl (L.y rfl (Y.eqlPN Tryd.underlying29 rfl rfl) ?_)
                         refine L.y rfl (Y.pickF rfl rfl) ?_
                         refine L.y rfl (Y.move rfl) ?_
                         refine L.take rfl (L.y rfl (Y.move rfl) ?_)
                         refine L.take rfl (L.callJ (fun v D => ∃ (gx93 : Int), v = .int .i64 gx93 ∧ D = Cls w [] [.obj gb6 [v311, v312, v313, v314, .int .i64 p307.2.2.2.2.1] 48, .obj nb301 [pt gb1 0, .int .i64 p265.2.2.2.2.2.2.1, .int .i64 p265.2.2.2.2.2.2.2.1, .int .i64 p265.2.2.2.2.2.2.2.2.1, .int .i64 p265.2.2.2.2.2.2.2.2.2.1, .int .i64 p265.2.2.2.2.2.2.2.2.2.2.1, .bool p265.2.2.2.2.2.2.2.2.2.2.2] 58, .obj gb1 [v297, v298, v299, .int .i64 p265.2.2.2.1] 54, .sl v311 9 1 (p307.1.map SR), .sl v312 9 1 (p307.2.1.map SR), .sl v313 3 1 (p307.2.2.1.map I), .sl v314 9 1 (p307.2.2.2.1.map SR), .sl v297 9 1 (p265.1.map SR), .sl v298 9 1 (p265.2.1.map SR), .sl v299 75 2 (p265.2.2.1.map Twrite.row)] ∧ m3_quirlaw_WalPlays_K30 gx93 = some r) rfl en18 rfl Tryd.func18 rfl rfl rfl ?_ ?_)
                         ·
                          refine W.seq (W.region (L.y rfl (Y.assign rfl) ?_))
                          refine L.nil (E.thenN (W.seq (W.quietC mixed (by kernel_rfl) (fun _ hw => hw.drew) (fun hC => ?_))))
                          refine U.y rfl (Y.move rfl) ?_
                          refine U.y rfl (Y.nilCheck rfl) ?_
                          refine U.y rfl (Y.fieldP fd58_2 rfl) ?_
                          refine U.y rfl (Y.loadP (i := 1) ag3 rfl rfl rfl) ?_
                          refine U.y rfl (Y.move rfl) ?_
                          refine U.y rfl (Y.nilCheck rfl) ?_
                          refine U.y rfl (Y.fieldP fd58_4 rfl) ?_
                          refine U.y rfl (Y.loadP (i := 1) ag3 rfl rfl rfl) ?_
                          refine U.m (V := fun x316 => .int .i64 x316) h rfl (Y.subM rfl rfl) (fun x316 ex316 h => ?_)
                          refine U.y rfl (Y.assign rfl) ?_
                          refine U.nil (E.thenN (W.ret (E.ret1 rfl rfl (fun w1 hw => ?_))))
                          exact ⟨_, _, rfl, ⟨x316, rfl, rfl, h⟩, hw⟩
                         ·
                          rintro _ _ ⟨gx93, rfl, rfl, h⟩
                          rw [m3_quirlaw_WalPlays_K30] at h
                          refine L.take rfl (L.y rfl (Y.move rfl) ?_)
                          refine L.take rfl ?_
                          cases h
                     ·
                      refine L.doesP (A := [.obj gb6 [v255, v256, v257, v258, .int .i64 x253] 48, .sl v255 9 1 (l249.map SR), .sl v256 9 1 (l250.map SR), .sl v257 3 1 (l251.map I), .sl v258 9 1 (l252.map SR)]) (M := [.obj nb301 [pt gb1 0, .int .i64 p265.2.2.2.2.2.2.1, .int .i64 p265.2.2.2.2.2.2.2.1, .int .i64 p265.2.2.2.2.2.2.2.2.1, .int .i64 p265.2.2.2.2.2.2.2.2.2.1, .int .i64 p265.2.2.2.2.2.2.2.2.2.2.1, .bool p265.2.2.2.2.2.2.2.2.2.2.2] 58, .obj gb1 [v297, v298, v299, .int .i64 p265.2.2.2.1] 54, .sl v297 9 1 (p265.1.map SR), .sl v298 9 1 (p265.2.1.map SR), .sl v299 75 2 (p265.2.2.1.map Twrite.row), .sl v300 9 1 (p265.2.2.2.2.1.map SR), .obj b84 [.int .i64 x83.Kind, .int .i64 x83.N, st x83.Text, gv (q3 gx49.toNat) 0] 39, .obj gb35 [pt gb1 0, .int .i64 gx36, .int .i64 gx37, .int .i64 gx38, .int .i64 gx39, .int .i64 gx40, .bool gb41] 58, .obj gb42 [pt gb6 0, .int .i64 gx43, .int .i64 gx44, .int .i64 gx45, .int .i64 gx46, .int .i64 gx47, .bool gb48] 68]) rfl en7 rfl (fun w' hw => w7_quirref_OpenLog l249 l250 l251 l252 x253 a1 a2 gb6 v255 v256 v257 v258 w' _ e310 _ hw.lend) ?_
                      rintro _ _ ⟨v322, v323, v324, v325, v326, nb327, rfl, rfl⟩
                      refine L.to (D := Cls w [] [.obj nb327 [pt gb6 0, .int .i64 p309.2.2.2.2.2.2.2.1, .int .i64 p309.2.2.2.2.2.2.2.2.1, .int .i64 p309.2.2.2.2.2.2.2.2.2.1, .int .i64 p309.2.2.2.2.2.2.2.2.2.2.1, .int .i64 p309.2.2.2.2.2.2.2.2.2.2.2.1, .bool p309.2.2.2.2.2.2.2.2.2.2.2.2] 68, .obj gb6 [v322, v323, v324, v325, .int .i64 p309.2.2.2.2.1] 48, .sl v322 9 1 (p309.1.map SR), .sl v323 9 1 (p309.2.1.map SR), .sl v324 3 1 (p309.2.2.1.map I), .sl v325 9 1 (p309.2.2.2.1.map SR), .sl v326 9 1 (p309.2.2.2.2.2.1.map SR), .obj nb301 [pt gb1 0, .int .i64 p265.2.2.2.2.2.2.1, .int .i64 p265.2.2.2.2.2.2.2.1, .int .i64 p265.2.2.2.2.2.2.2.2.1, .int .i64 p265.2.2.2.2.2.2.2.2.2.1, .int .i64 p265.2.2.2.2.2.2.2.2.2.2.1, .bool p265.2.2.2.2.2.2.2.2.2.2.2] 58, .obj gb1 [v297, v298, v299, .int .i64 p265.2.2.2.1] 54, .sl v297 9 1 (p265.1.map SR), .sl v298 9 1 (p265.2.1.map SR), .sl v299 75 2 (p265.2.2.1.map Twrite.row), .sl v300 9 1 (p265.2.2.2.2.1.map SR), .obj b84 [.int .i64 x83.Kind, .int .i64 x83.N, st x83.Text, gv (q3 gx49.toNat) 0] 39, .obj gb35 [pt gb1 0, .int .i64 gx36, .int .i64 gx37, .int .i64 gx38, .int .i64 gx39, .int .i64 gx40, .bool gb41] 58, .obj gb42 [pt gb6 0, .int .i64 gx43, .int .i64 gx44, .int .i64 gx45, .int .i64 gx46, .int .i64 gx47, .bool gb48] 68]) (fun _ hw => hw) ?_
                      refine L.y rfl (Y.move rfl) ?_
                      refine L.y rfl (Y.extract rfl rfl) ?_
                      refine L.y rfl (Y.extract rfl rfl) ?_
                      refine L.y rfl (Y.extract rfl rfl) ?_
                      refine L.y rfl (Y.assign rfl) ?_
                      refine L.y rfl (Y.assign rfl) ?_
                      refine L.y rfl (Y.assign rfl) ?_
                      refine L.nil (E.thenN (W.seqJ (fun gs D => gs = [(1, .int .i64 a1), (2, .int .i64 a2), (9, pt gb1 0), (10, .int .i64 p265.2.2.2.2.2.1), (11, pt gb6 0), (12, pt nb301 0), (13, v300), (14, pt nb327 0), (15, v326), (16, .int .i64 p309.2.2.2.2.2.2.1), (76, u3), (77, .int .i64 (a3.length : Int)), (78, .int .i64 gx49)] ∧ D = Cls w [] [.obj nb327 [pt gb6 0, .int .i64 p309.2.2.2.2.2.2.2.1, .int .i64 p309.2.2.2.2.2.2.2.2.1, .int .i64 p309.2.2.2.2.2.2.2.2.2.1, .int .i64 p309.2.2.2.2.2.2.2.2.2.2.1, .int .i64 p309.2.2.2.2.2.2.2.2.2.2.2.1, .bool p309.2.2.2.2.2.2.2.2.2.2.2.2] 68, .obj gb6 [v322, v323, v324, v325, .int .i64 p309.2.2.2.2.1] 48, .obj nb301 [pt gb1 0, .int .i64 p265.2.2.2.2.2.2.1, .int .i64 p265.2.2.2.2.2.2.2.1, .int .i64 p265.2.2.2.2.2.2.2.2.1, .int .i64 p265.2.2.2.2.2.2.2.2.2.1, .int .i64 p265.2.2.2.2.2.2.2.2.2.2.1, .bool p265.2.2.2.2.2.2.2.2.2.2.2] 58, .obj gb1 [v297, v298, v299, .int .i64 p265.2.2.2.1] 54, .sl v300 9 1 (p265.2.2.2.2.1.map SR), .sl v326 9 1 (p309.2.2.2.2.2.1.map SR), .sl v322 9 1 (p309.1.map SR), .sl v323 9 1 (p309.2.1.map SR), .sl v324 3 1 (p309.2.2.1.map I), .sl v325 9 1 (p309.2.2.2.1.map SR), .sl v297 9 1 (p265.1.map SR), .sl v298 9 1 (p265.2.1.map SR), .sl v299 75 2 (p265.2.2.1.map Twrite.row)] ∧ m3_quirlaw_WalPlays_K31 p265 p309 gx49 go2 = some r) ?_ ?_))
                      ·
                       refine W.seq (W.region (L.y rfl (Y.move rfl) ?_))
                       refine L.ite h rfl (Y.neq rfl rfl) (fun c335 h => ?_) (fun c335 h => ?_)
                       ·
                        refine L.nil (E.thenN (W.condT rfl ?_))
                        refine W.seq (W.region (L.y rfl (Y.move rfl) ?_))
                        refine L.y rfl (Y.move rfl) ?_
                        refine L.ite h rfl (Y.eql rfl rfl) (fun c336 h => ?_) (fun c336 h => ?_)
                        ·
                         refine L.y rfl (Y.move rfl) ?_
                         refine L.take rfl (L.y rfl (Y.move rfl) ?_)
                         refine L.take rfl (L.y rfl (Y.eqlPN Tryd.underlying29 rfl rfl) ?_)
                         refine L.y rfl (Y.pickT rfl rfl) ?_
                         refine L.y rfl (Y.move rfl) ?_
                         refine L.pass rfl rfl (by nofun) ?_
                         refine L.pass rfl rfl (by nofun) ?_
                         refine L.pass rfl rfl (by nofun) ?_
                         refine L.y rfl (Y.pickF rfl rfl) ?_
                         refine L.y rfl (Y.assign rfl) ?_
                         refine L.nil (E.thenN (W.ret (E.KSR (E.blockR (E.thenR (E.blockR (E.thenR (E.KLR (E.blockR (E.KSR (E.ret1 rfl rfl (fun w1 hw => ?_))))))))))))
                         obtain rfl := Option.some.inj h
                         exact ⟨_, _, rfl, ⟨rfl, rfl⟩, hw.sel [] (by decide) rfl⟩
                        ·
                         refine L.y rfl (Y.move rfl) ?_
                         refine L.pass rfl rfl (by nofun) ?_
                         refine L.pass rfl rfl (by nofun) ?_
                         refine L.y rfl (Y.pickF rfl rfl) ?_
                         refine L.y rfl (Y.move rfl) ?_
                         refine L.pass rfl rfl (by nofun) ?_
                         refine L.pass rfl rfl (by nofun) ?_
                         refine L.pass rfl rfl (by nofun) ?_
                         refine L.y rfl (Y.pickF rfl rfl) ?_
                         refine L.y rfl (Y.assign rfl) ?_
                         refine L.nil (E.thenN (W.ret (E.KSR (E.blockR (E.thenR (E.blockR (E.thenR (E.KLR (E.blockR (E.KSR (E.ret1 rfl rfl (fun w1 hw => ?_))))))))))))
                         obtain rfl := Option.some.inj h
                         exact ⟨_, _, rfl, ⟨rfl, rfl⟩, hw.sel [] (by decide) rfl⟩
                       ·
                        refine L.nil (E.thenN (W.condF rfl ?_))
                        exact W.skip (E.joinJ ⟨rfl, rfl, h⟩ ⟨rfl, rfl, rfl, rfl, rfl, rfl, rfl, rfl, rfl, rfl, rfl, rfl, rfl, trivial⟩ (fun _ hw => hw.sel [0, 1, 7, 8, 12, 6, 2, 3, 4, 5, 9, 10, 11] (by decide) rfl))
                      ·
                       rintro _ _ ⟨rfl, rfl, h⟩
                       rw [m3_quirlaw_WalPlays_K31] at h
                       refine W.region (L.cutJ 12 (fun gs D => ∃ (gb94 : Bool), gs = [(1, .int .i64 a1), (2, .int .i64 a2), (9, pt gb1 0), (11, pt gb6 0), (12, pt nb301 0), (14, pt nb327 0), (76, u3), (77, .int .i64 (a3.length : Int)), (78, .int .i64 gx49), (171, .bool gb94)] ∧ D = Cls w [] [.obj nb327 [pt gb6 0, .int .i64 p309.2.2.2.2.2.2.2.1, .int .i64 p309.2.2.2.2.2.2.2.2.1, .int .i64 p309.2.2.2.2.2.2.2.2.2.1, .int .i64 p309.2.2.2.2.2.2.2.2.2.2.1, .int .i64 p309.2.2.2.2.2.2.2.2.2.2.2.1, .bool p309.2.2.2.2.2.2.2.2.2.2.2.2] 68, .obj gb6 [v322, v323, v324, v325, .int .i64 p309.2.2.2.2.1] 48, .obj nb301 [pt gb1 0, .int .i64 p265.2.2.2.2.2.2.1, .int .i64 p265.2.2.2.2.2.2.2.1, .int .i64 p265.2.2.2.2.2.2.2.2.1, .int .i64 p265.2.2.2.2.2.2.2.2.2.1, .int .i64 p265.2.2.2.2.2.2.2.2.2.2.1, .bool p265.2.2.2.2.2.2.2.2.2.2.2] 58, .obj gb1 [v297, v298, v299, .int .i64 p265.2.2.2.1] 54, .sl v322 9 1 (p309.1.map SR), .sl v323 9 1 (p309.2.1.map SR), .sl v324 3 1 (p309.2.2.1.map I), .sl v325 9 1 (p309.2.2.2.1.map SR), .sl v297 9 1 (p265.1.map SR), .sl v298 9 1 (p265.2.1.map SR), .sl v299 75 2 (p265.2.2.1.map Twrite.row)] ∧ m3_quirlaw_WalPlays_K32 p265 p309 gx49 go2 gb94 = some r) ?_ ?_)
                       ·
                        refine L.y rfl (Y.move rfl) ?_
                        refine L.y rfl (Y.move rfl) ?_
                        refine L.ite h rfl (Y.eql rfl rfl) (fun c332 h => ?_) (fun c332 h => ?_)
                        ·
                         refine L.y rfl (Y.move rfl) ?_
                         refine L.take rfl (L.y rfl (Y.move rfl) ?_)
                         refine L.take rfl (L.y rfl (Y.neqPN Tryd.underlying29 rfl rfl) ?_)
                         refine L.y rfl (Y.pickT rfl rfl) ?_
                         refine L.y rfl (Y.move rfl) ?_
                         refine L.take rfl (L.y rfl (Y.move rfl) ?_)
                         refine L.take rfl (L.y rfl (Y.move rfl) ?_)
                         refine L.take rfl ?_
                         obtain ⟨b333, e334, h⟩ := bind1S h
                         refine L.y rfl (Y.does en8 rfl (fun w' hw => (w8_slices_Equal_string p265.2.2.2.2.1 p309.2.2.2.2.2.1 v300 v326 w' _ e334 (As.at_ (hw.get (i := 4) rfl)) (As.at_ (hw.get (i := 5) rfl))).mono (fun _ _ h => h.1))) ?_
                         rcases b333 with _ | _
                         ·
                          replace h := iteF h
                          refine L.y rfl (Y.pickT rfl rfl) ?_
                          exact L.nil (E.joinJ ⟨false, rfl, rfl, h⟩ ⟨rfl, rfl, rfl, rfl, rfl, rfl, rfl, rfl, rfl, rfl, trivial⟩ (fun _ hw => hw.sel [0, 1, 2, 3, 6, 7, 8, 9, 10, 11, 12] (by decide) rfl))
                         ·
                          replace h := iteT h
                          refine L.y rfl (Y.pickT rfl rfl) ?_
                          exact L.nil (E.joinJ ⟨true, rfl, rfl, h⟩ ⟨rfl, rfl, rfl, rfl, rfl, rfl, rfl, rfl, rfl, rfl, trivial⟩ (fun _ hw => hw.sel [0, 1, 2, 3, 6, 7, 8, 9, 10, 11, 12] (by decide) rfl))
                        ·
                         refine L.y rfl (Y.move rfl) ?_
                         refine L.pass rfl rfl (by nofun) ?_
                         refine L.pass rfl rfl (by nofun) ?_
                         refine L.y rfl (Y.pickF rfl rfl) ?_
                         refine L.y rfl (Y.move rfl) ?_
                         refine L.pass rfl rfl (by nofun) ?_
                         refine L.pass rfl rfl (by nofun) ?_
                         refine L.pass rfl rfl (by nofun) ?_
                         refine L.y rfl (Y.pickF rfl rfl) ?_
                         exact L.nil (E.joinJ ⟨false, rfl, rfl, h⟩ ⟨rfl, rfl, rfl, rfl, rfl, rfl, rfl, rfl, rfl, rfl, trivial⟩ (fun _ hw => hw.sel [0, 1, 2, 3, 6, 7, 8, 9, 10, 11, 12] (by decide) rfl))
                       ·
                        rintro _ _ ⟨gb94, rfl, rfl, h⟩
                        rw [m3_quirlaw_WalPlays_K32] at h
                        rcases gb94 with _ | _
                        ·
                         replace h := iteF h
                         refine L.y rfl (Y.assign rfl) ?_
                         refine L.nil (E.blockN (E.thenN (W.seq (W.region (L.y rfl (Y.move rfl) ?_)))))
                         refine L.y rfl (Y.not rfl) ?_
                         refine L.y rfl (Y.move rfl) ?_
                         refine L.pass rfl rfl (by nofun) ?_
                         refine L.pass rfl rfl (by nofun) ?_
                         refine L.y rfl (Y.pickT rfl rfl) ?_
                         refine L.y rfl (Y.move rfl) ?_
                         refine L.pass rfl rfl (by nofun) ?_
                         refine L.pass rfl rfl (by nofun) ?_
                         refine L.pass rfl rfl (by nofun) ?_
                         refine L.pass rfl rfl (by nofun) ?_
                         refine L.pass rfl rfl (by nofun) ?_
                         refine L.y rfl (Y.pickT rfl rfl) ?_
                         refine L.nil (E.thenN (W.condT rfl ?_))
                         refine W.seq (W.region (L.y rfl (Y.assign rfl) ?_))
                         refine L.nil (E.thenN (W.ret (E.blockR (E.thenR (E.KLR (E.blockR (E.KSR (E.ret1 rfl rfl (fun w1 hw => ?_)))))))))
                         obtain rfl := Option.some.inj h
                         exact ⟨_, _, rfl, ⟨rfl, rfl⟩, hw.sel [] (by decide) rfl⟩
                        ·
                         replace h := iteT h
                         refine L.y rfl (Y.assign rfl) ?_
                         refine L.nil (E.blockN (E.thenN (W.seq (W.region (L.y rfl (Y.move rfl) ?_)))))
                         refine L.y rfl (Y.not rfl) ?_
                         refine L.y rfl (Y.move rfl) ?_
                         refine L.take rfl (L.y rfl (Y.move rfl) ?_)
                         refine L.take rfl (L.y rfl (Y.eqlPN Tryd.underlying29 rfl rfl) ?_)
                         refine L.y rfl (Y.pickF rfl rfl) ?_
                         refine L.y rfl (Y.move rfl) ?_
                         refine L.take rfl (L.y rfl (Y.move rfl) ?_)
                         refine L.take rfl (L.callJ (fun v D => ∃ (gx95 : Int), v = .int .i64 gx95 ∧ D = Cls w [] [.obj nb327 [pt gb6 0, .int .i64 p309.2.2.2.2.2.2.2.1, .int .i64 p309.2.2.2.2.2.2.2.2.1, .int .i64 p309.2.2.2.2.2.2.2.2.2.1, .int .i64 p309.2.2.2.2.2.2.2.2.2.2.1, .int .i64 p309.2.2.2.2.2.2.2.2.2.2.2.1, .bool p309.2.2.2.2.2.2.2.2.2.2.2.2] 68, .obj gb6 [v322, v323, v324, v325, .int .i64 p309.2.2.2.2.1] 48, .obj nb301 [pt gb1 0, .int .i64 p265.2.2.2.2.2.2.1, .int .i64 p265.2.2.2.2.2.2.2.1, .int .i64 p265.2.2.2.2.2.2.2.2.1, .int .i64 p265.2.2.2.2.2.2.2.2.2.1, .int .i64 p265.2.2.2.2.2.2.2.2.2.2.1, .bool p265.2.2.2.2.2.2.2.2.2.2.2] 58, .obj gb1 [v297, v298, v299, .int .i64 p265.2.2.2.1] 54, .sl v322 9 1 (p309.1.map SR), .sl v323 9 1 (p309.2.1.map SR), .sl v324 3 1 (p309.2.2.1.map I), .sl v325 9 1 (p309.2.2.2.1.map SR), .sl v297 9 1 (p265.1.map SR), .sl v298 9 1 (p265.2.1.map SR), .sl v299 75 2 (p265.2.2.1.map Twrite.row)] ∧ m3_quirlaw_WalPlays_K33 p309 gx49 go2 p265 gx95 = some r) rfl en18 rfl Tryd.func18 rfl rfl rfl ?_ ?_)
                         ·
                          refine W.seq (W.region (L.y rfl (Y.assign rfl) ?_))
                          refine L.nil (E.thenN (W.seq (W.quietC mixed (by kernel_rfl) (fun _ hw => hw.drew) (fun hC => ?_))))
                          refine U.y rfl (Y.move rfl) ?_
                          refine U.y rfl (Y.nilCheck rfl) ?_
                          refine U.y rfl (Y.fieldP fd58_2 rfl) ?_
                          refine U.y rfl (Y.loadP (i := 2) ag3 rfl rfl rfl) ?_
                          refine U.y rfl (Y.move rfl) ?_
                          refine U.y rfl (Y.nilCheck rfl) ?_
                          refine U.y rfl (Y.fieldP fd58_4 rfl) ?_
                          refine U.y rfl (Y.loadP (i := 2) ag3 rfl rfl rfl) ?_
                          refine U.m (V := fun x331 => .int .i64 x331) h rfl (Y.subM rfl rfl) (fun x331 ex331 h => ?_)
                          refine U.y rfl (Y.assign rfl) ?_
                          refine U.nil (E.thenN (W.ret (E.ret1 rfl rfl (fun w1 hw => ?_))))
                          exact ⟨_, _, rfl, ⟨x331, rfl, rfl, h⟩, hw⟩
                         ·
                          rintro _ _ ⟨gx95, rfl, rfl, h⟩
                          rw [m3_quirlaw_WalPlays_K33] at h
                          refine L.take rfl (L.y rfl (Y.move rfl) ?_)
                          refine L.take rfl (L.callJ (fun v D => ∃ (gx96 : Int), v = .int .i64 gx96 ∧ D = Cls w [] [.obj nb327 [pt gb6 0, .int .i64 p309.2.2.2.2.2.2.2.1, .int .i64 p309.2.2.2.2.2.2.2.2.1, .int .i64 p309.2.2.2.2.2.2.2.2.2.1, .int .i64 p309.2.2.2.2.2.2.2.2.2.2.1, .int .i64 p309.2.2.2.2.2.2.2.2.2.2.2.1, .bool p309.2.2.2.2.2.2.2.2.2.2.2.2] 68, .obj gb6 [v322, v323, v324, v325, .int .i64 p309.2.2.2.2.1] 48, .obj nb301 [pt gb1 0, .int .i64 p265.2.2.2.2.2.2.1, .int .i64 p265.2.2.2.2.2.2.2.1, .int .i64 p265.2.2.2.2.2.2.2.2.1, .int .i64 p265.2.2.2.2.2.2.2.2.2.1, .int .i64 p265.2.2.2.2.2.2.2.2.2.2.1, .bool p265.2.2.2.2.2.2.2.2.2.2.2] 58, .obj gb1 [v297, v298, v299, .int .i64 p265.2.2.2.1] 54, .sl v322 9 1 (p309.1.map SR), .sl v323 9 1 (p309.2.1.map SR), .sl v324 3 1 (p309.2.2.1.map I), .sl v325 9 1 (p309.2.2.2.1.map SR), .sl v297 9 1 (p265.1.map SR), .sl v298 9 1 (p265.2.1.map SR), .sl v299 75 2 (p265.2.2.1.map Twrite.row)] ∧ m3_quirlaw_WalPlays_K34 gx95 gx49 go2 p265 p309 gx96 = some r) rfl en19 rfl Tryd.func19 rfl rfl rfl ?_ ?_)
                          ·
                           refine W.seq (W.region (L.y rfl (Y.assign rfl) ?_))
                           refine L.nil (E.thenN (W.seq (W.quietC mixed (by kernel_rfl) (fun _ hw => hw.drew) (fun hC => ?_))))
                           refine U.y rfl (Y.move rfl) ?_
                           refine U.y rfl (Y.nilCheck rfl) ?_
                           refine U.y rfl (Y.fieldP fd68_2 rfl) ?_
                           refine U.y rfl (Y.loadP (i := 0) ag3 rfl rfl rfl) ?_
                           refine U.y rfl (Y.move rfl) ?_
                           refine U.y rfl (Y.nilCheck rfl) ?_
                           refine U.y rfl (Y.fieldP fd68_4 rfl) ?_
                           refine U.y rfl (Y.loadP (i := 0) ag3 rfl rfl rfl) ?_
                           refine U.m (V := fun x330 => .int .i64 x330) h rfl (Y.subM rfl rfl) (fun x330 ex330 h => ?_)
                           refine U.y rfl (Y.assign rfl) ?_
                           refine U.nil (E.thenN (W.ret (E.ret1 rfl rfl (fun w1 hw => ?_))))
                           exact ⟨_, _, rfl, ⟨x330, rfl, rfl, h⟩, hw⟩
                          ·
                           rintro _ _ ⟨gx96, rfl, rfl, h⟩
                           rw [m3_quirlaw_WalPlays_K34] at h
                           refine L.take rfl (L.ite h rfl (Y.neq rfl rfl) (fun c328 h => ?_) (fun c328 h => ?_))
                           ·
                            refine L.y rfl (Y.pickF rfl rfl) ?_
                            refine L.nil (E.thenN (W.condT rfl ?_))
                            refine W.seq (W.region (L.y rfl (Y.assign rfl) ?_))
                            refine L.nil (E.thenN (W.ret (E.blockR (E.thenR (E.KLR (E.blockR (E.KSR (E.ret1 rfl rfl (fun w1 hw => ?_)))))))))
                            obtain rfl := Option.some.inj h
                            exact ⟨_, _, rfl, ⟨rfl, rfl⟩, hw.sel [] (by decide) rfl⟩
                           ·
                            refine L.y rfl (Y.pickF rfl rfl) ?_
                            refine L.nil (E.thenN (W.condF rfl ?_))
                            refine W.skip (E.blockN (E.thenN (W.region (L.m (V := fun x329 => .int .i64 x329) h rfl (Y.addM rfl rfl) (fun x329 ex329 h => ?_)))))
                            refine L.y rfl (Y.move rfl) ?_
                            exact L.nil (E.againJ ⟨nb301, p265.2.2.2.2.2.2.1, p265.2.2.2.2.2.2.2.1, p265.2.2.2.2.2.2.2.2.1, p265.2.2.2.2.2.2.2.2.2.1, p265.2.2.2.2.2.2.2.2.2.2.1, p265.2.2.2.2.2.2.2.2.2.2.2, nb327, p309.2.2.2.2.2.2.2.1, p309.2.2.2.2.2.2.2.2.1, p309.2.2.2.2.2.2.2.2.2.1, p309.2.2.2.2.2.2.2.2.2.2.1, p309.2.2.2.2.2.2.2.2.2.2.2.1, p309.2.2.2.2.2.2.2.2.2.2.2.2, x329, v322, p309.1, v323, p309.2.1, v324, p309.2.2.1, v325, p309.2.2.2.1, p309.2.2.2.2.1, v297, p265.1, v298, p265.2.1, v299, p265.2.2.1, p265.2.2.2.1, rfl, rfl, by rw [hg2]; exact h⟩ (Nat.lt_succ_self _) ⟨rfl, rfl, rfl, rfl, rfl, rfl, rfl, rfl, rfl, trivial⟩ (fun _ hw => hw.sel [1, 3, 2, 0, 4, 5, 6, 7, 8, 9, 10] (by decide) rfl))
                 ·
                  replace h := iteT h
                  refine W.condT rfl ?_
                  refine W.drawn2 (k := 10) (stC [[3, 7], [7]] [Cls w [] [.obj b84 [.int .i64 x83.Kind, .int .i64 x83.N, st x83.Text, gv (q3 gx49.toNat) 0] 39, .obj gb6 [gv50, gv52, gv54, gv56, .int .i64 gx58] 48, .obj gb1 [gv59, gv61, gv63, .int .i64 gx65] 54, .obj gb35 [pt gb1 0, .int .i64 gx36, .int .i64 gx37, .int .i64 gx38, .int .i64 gx39, .int .i64 gx40, .bool gb41] 58, .obj gb42 [pt gb6 0, .int .i64 gx43, .int .i64 gx44, .int .i64 gx45, .int .i64 gx46, .int .i64 gx47, .bool gb48] 68, .sl gv50 9 1 (gl51.map SR), .sl gv52 9 1 (gl53.map SR), .sl gv54 3 1 (gl55.map I), .sl gv56 9 1 (gl57.map SR), .sl gv59 9 1 (gl60.map SR), .sl gv61 9 1 (gl62.map SR), .sl gv63 75 2 (gl64.map Twrite.row)], Cls w [] [.obj b84 [.int .i64 x83.Kind, .int .i64 x83.N, st x83.Text, gv (q3 gx49.toNat) 0] 39, .obj gb6 [gv50, gv52, gv54, gv56, .int .i64 gx58] 48, .obj gb42 [pt gb6 0, .int .i64 gx43, .int .i64 gx44, .int .i64 gx45, .int .i64 gx46, .int .i64 gx47, .bool gb48] 68, .sl gv50 9 1 (gl51.map SR), .sl gv52 9 1 (gl53.map SR), .sl gv54 3 1 (gl55.map I), .sl gv56 9 1 (gl57.map SR)]] (Cls w [] [.obj b84 [.int .i64 x83.Kind, .int .i64 x83.N, st x83.Text, gv (q3 gx49.toNat) 0] 39])) rfl mixed (fun _ hw => hw.drew) (Sc.now (by kernel_rfl) (fun _ hw => hw)) ?_
                  refine V2.y (i := 0) (Nx2.of (Z := Cls w [] [.obj b84 [.int .i64 x83.Kind, .int .i64 x83.N, st x83.Text, gv (q3 gx49.toNat) 0] 39]) [] (by kernel_rfl) rfl (Zc.on (fun _ hw => hw.sel [0] (by decide) rfl) (Zc.on (fun _ hw => hw.sel [0] (by decide) rfl) (Zc.fin (fun _ hw => hw))))) rfl rfl rfl (Y.move rfl) ?_
                  refine V2.y (i := 1) (Nx2.of (Z := Cls w [] [.obj b84 [.int .i64 x83.Kind, .int .i64 x83.N, st x83.Text, gv (q3 gx49.toNat) 0] 39]) [] (by kernel_rfl) rfl (Zc.on (fun _ hw => hw.sel [0] (by decide) rfl) (Zc.on (fun _ hw => hw.sel [0] (by decide) rfl) (Zc.fin (fun _ hw => hw))))) rfl rfl rfl (Y.fieldP fd39_2 rfl) ?_
                  refine V2.y (i := 2) (Nx2.of (Z := Cls w [] [.obj b84 [.int .i64 x83.Kind, .int .i64 x83.N, st x83.Text, gv (q3 gx49.toNat) 0] 39]) [] (by kernel_rfl) rfl (Zc.on (fun _ hw => hw.sel [0] (by decide) rfl) (Zc.on (fun _ hw => hw.sel [0] (by decide) rfl) (Zc.fin (fun _ hw => hw))))) rfl rfl rfl (Y.loadP (i := 0) ag9 rfl rfl rfl) ?_
                  refine V2.y (i := 4) (Nx2.of (Z := Cls w [] [.obj b84 [.int .i64 x83.Kind, .int .i64 x83.N, st x83.Text, gv (q3 gx49.toNat) 0] 39]) [] (by kernel_rfl) rfl (Zc.on (fun _ hw => hw.sel [0] (by decide) rfl) (Zc.on (fun _ hw => hw.sel [0] (by decide) rfl) (Zc.fin (fun _ hw => hw))))) rfl rfl rfl (Y.move rfl) ?_
                  refine V2.y (i := 5) (Nx2.of (Z := Cls w [] [.obj b84 [.int .i64 x83.Kind, .int .i64 x83.N, st x83.Text, gv (q3 gx49.toNat) 0] 39]) [] (by kernel_rfl) rfl (Zc.on (fun _ hw => hw.sel [0] (by decide) rfl) (Zc.on (fun _ hw => hw.sel [0] (by decide) rfl) (Zc.fin (fun _ hw => hw))))) rfl rfl rfl (Y.fieldP fd39_2 rfl) ?_
                  refine V2.y (i := 6) (Nx2.of (Z := Cls w [] [.obj b84 [.int .i64 x83.Kind, .int .i64 x83.N, st x83.Text, gv (q3 gx49.toNat) 0] 39]) [] (by kernel_rfl) rfl (Zc.on (fun _ hw => hw.sel [0] (by decide) rfl) (Zc.on (fun _ hw => hw.sel [0] (by decide) rfl) (Zc.fin (fun _ hw => hw))))) rfl rfl rfl (Y.loadP (i := 0) ag9 rfl rfl rfl) ?_
                  refine V2.eff (i := 3) (by kernel_rfl) rfl ?_
                  refine L.to (D := Cls w [] [.obj gb35 [pt gb1 0, .int .i64 gx36, .int .i64 gx37, .int .i64 gx38, .int .i64 gx39, .int .i64 gx40, .bool gb41] 58, .obj gb1 [gv59, gv61, gv63, .int .i64 gx65] 54, .sl gv59 9 1 (gl60.map SR), .sl gv61 9 1 (gl62.map SR), .sl gv63 75 2 (gl64.map Twrite.row), .obj b84 [.int .i64 x83.Kind, .int .i64 x83.N, st x83.Text, gv (q3 gx49.toNat) 0] 39, .obj gb6 [gv50, gv52, gv54, gv56, .int .i64 gx58] 48, .obj gb42 [pt gb6 0, .int .i64 gx43, .int .i64 gx44, .int .i64 gx45, .int .i64 gx46, .int .i64 gx47, .bool gb48] 68, .sl gv50 9 1 (gl51.map SR), .sl gv52 9 1 (gl53.map SR), .sl gv54 3 1 (gl55.map I), .sl gv56 9 1 (gl57.map SR)]) (fun _ hw => hw.sel [3, 2, 9, 10, 11, 0, 1, 4, 5, 6, 7, 8] (by decide) rfl) ?_
                  obtain ⟨l572, l573, l574, x575, x576, x577, x578, b579, x580, e581, h⟩ := bind9S h
                  refine L.doesP (A := [.obj gb35 [pt gb1 0, .int .i64 gx36, .int .i64 gx37, .int .i64 gx38, .int .i64 gx39, .int .i64 gx40, .bool gb41] 58, .obj gb1 [gv59, gv61, gv63, .int .i64 gx65] 54, .sl gv59 9 1 (gl60.map SR), .sl gv61 9 1 (gl62.map SR), .sl gv63 75 2 (gl64.map Twrite.row)]) (M := [.obj b84 [.int .i64 x83.Kind, .int .i64 x83.N, st x83.Text, gv (q3 gx49.toNat) 0] 39, .obj gb6 [gv50, gv52, gv54, gv56, .int .i64 gx58] 48, .obj gb42 [pt gb6 0, .int .i64 gx43, .int .i64 gx44, .int .i64 gx45, .int .i64 gx46, .int .i64 gx47, .bool gb48] 68, .sl gv50 9 1 (gl51.map SR), .sl gv52 9 1 (gl53.map SR), .sl gv54 3 1 (gl55.map I), .sl gv56 9 1 (gl57.map SR)]) rfl en13 rfl (fun w' hw => w13_wal_Log_Reset gl60 gl62 gl64 gx65 gx36 gx37 gx38 gx39 gx40 gb41 x83.Text gb35 gb1 gv59 gv61 gv63 w' _ e581 _ hw.lend) ?_
                  rintro _ _ ⟨v582, v583, v584, rfl, rfl⟩
                  refine L.to (D := Cls w [] [.obj gb35 [pt gb1 0, .int .i64 gx36, .int .i64 gx37, .int .i64 x576, .int .i64 x577, .int .i64 x578, .bool b579] 58, .obj gb1 [v582, v583, v584, .int .i64 x575] 54, .sl v582 9 1 (l572.map SR), .sl v583 9 1 (l573.map SR), .sl v584 75 2 (l574.map Twrite.row), .obj b84 [.int .i64 x83.Kind, .int .i64 x83.N, st x83.Text, gv (q3 gx49.toNat) 0] 39, .obj gb6 [gv50, gv52, gv54, gv56, .int .i64 gx58] 48, .obj gb42 [pt gb6 0, .int .i64 gx43, .int .i64 gx44, .int .i64 gx45, .int .i64 gx46, .int .i64 gx47, .bool gb48] 68, .sl gv50 9 1 (gl51.map SR), .sl gv52 9 1 (gl53.map SR), .sl gv54 3 1 (gl55.map I), .sl gv56 9 1 (gl57.map SR)]) (fun _ hw => hw) ?_
                  refine L.nil (E.toV2 (stC [[7]] [Cls w [] [.sl v582 9 1 (l572.map SR), .sl v583 9 1 (l573.map SR), .sl v584 75 2 (l574.map Twrite.row), .obj b84 [.int .i64 x83.Kind, .int .i64 x83.N, st x83.Text, gv (q3 gx49.toNat) 0] 39, .obj gb6 [gv50, gv52, gv54, gv56, .int .i64 gx58] 48, .obj gb42 [pt gb6 0, .int .i64 gx43, .int .i64 gx44, .int .i64 gx45, .int .i64 gx46, .int .i64 gx47, .bool gb48] 68, .sl gv50 9 1 (gl51.map SR), .sl gv52 9 1 (gl53.map SR), .sl gv54 3 1 (gl55.map I), .sl gv56 9 1 (gl57.map SR)]] (Cls w [] [.sl v582 9 1 (l572.map SR), .sl v583 9 1 (l573.map SR), .sl v584 75 2 (l574.map Twrite.row), .obj b84 [.int .i64 x83.Kind, .int .i64 x83.N, st x83.Text, gv (q3 gx49.toNat) 0] 39])) 3 (by kernel_rfl) (Sc.past rfl (Sc.stay (fun _ hw => hw.sel [3, 4, 5, 6, 7, 8, 9] (by decide) rfl) (Sc.stayD (fun _ hw => hw.sel [3] (by decide) rfl)))) (Sc.now (by kernel_rfl) (fun _ hw => hw.sel [2, 3, 4, 5, 6, 7, 8, 9, 10, 11] (by decide) rfl)) ?_)
                  refine V2.eff (i := 7) (by kernel_rfl) rfl ?_
                  refine L.to (D := Cls w [] [.obj gb42 [pt gb6 0, .int .i64 gx43, .int .i64 gx44, .int .i64 gx45, .int .i64 gx46, .int .i64 gx47, .bool gb48] 68, .obj gb6 [gv50, gv52, gv54, gv56, .int .i64 gx58] 48, .sl gv50 9 1 (gl51.map SR), .sl gv52 9 1 (gl53.map SR), .sl gv54 3 1 (gl55.map I), .sl gv56 9 1 (gl57.map SR), .obj gb35 [pt gb1 0, .int .i64 gx36, .int .i64 gx37, .int .i64 x576, .int .i64 x577, .int .i64 x578, .bool b579] 58, .obj gb1 [v582, v583, v584, .int .i64 x575] 54, .sl v582 9 1 (l572.map SR), .sl v583 9 1 (l573.map SR), .sl v584 75 2 (l574.map Twrite.row), .obj b84 [.int .i64 x83.Kind, .int .i64 x83.N, st x83.Text, gv (q3 gx49.toNat) 0] 39]) (fun _ hw => hw.sel [7, 6, 8, 9, 10, 11, 0, 1, 2, 3, 4, 5] (by decide) rfl) ?_
                  obtain ⟨l585, l586, l587, l588, x589, x590, x591, x592, b593, x594, e595, h⟩ := bind10S h
                  refine L.doesP (A := [.obj gb42 [pt gb6 0, .int .i64 gx43, .int .i64 gx44, .int .i64 gx45, .int .i64 gx46, .int .i64 gx47, .bool gb48] 68, .obj gb6 [gv50, gv52, gv54, gv56, .int .i64 gx58] 48, .sl gv50 9 1 (gl51.map SR), .sl gv52 9 1 (gl53.map SR), .sl gv54 3 1 (gl55.map I), .sl gv56 9 1 (gl57.map SR)]) (M := [.obj gb35 [pt gb1 0, .int .i64 gx36, .int .i64 gx37, .int .i64 x576, .int .i64 x577, .int .i64 x578, .bool b579] 58, .obj gb1 [v582, v583, v584, .int .i64 x575] 54, .sl v582 9 1 (l572.map SR), .sl v583 9 1 (l573.map SR), .sl v584 75 2 (l574.map Twrite.row), .obj b84 [.int .i64 x83.Kind, .int .i64 x83.N, st x83.Text, gv (q3 gx49.toNat) 0] 39]) rfl en14 rfl (fun w' hw => w14_quirref_Log_Reset gl51 gl53 gl55 gl57 gx58 gx43 gx44 gx45 gx46 gx47 gb48 x83.Text gb42 gb6 gv50 gv52 gv54 gv56 w' _ e595 _ hw.lend) ?_
                  rintro _ _ ⟨v596, v597, v598, v599, rfl, rfl⟩
                  refine L.to (D := Cls w [] [.obj gb42 [pt gb6 0, .int .i64 gx43, .int .i64 gx44, .int .i64 x590, .int .i64 x591, .int .i64 x592, .bool b593] 68, .obj gb6 [v596, v597, v598, v599, .int .i64 x589] 48, .sl v596 9 1 (l585.map SR), .sl v597 9 1 (l586.map SR), .sl v598 3 1 (l587.map I), .sl v599 9 1 (l588.map SR), .obj gb35 [pt gb1 0, .int .i64 gx36, .int .i64 gx37, .int .i64 x576, .int .i64 x577, .int .i64 x578, .bool b579] 58, .obj gb1 [v582, v583, v584, .int .i64 x575] 54, .sl v582 9 1 (l572.map SR), .sl v583 9 1 (l573.map SR), .sl v584 75 2 (l574.map Twrite.row), .obj b84 [.int .i64 x83.Kind, .int .i64 x83.N, st x83.Text, gv (q3 gx49.toNat) 0] 39]) (fun _ hw => hw) ?_
                  refine L.nil (E.toV2 (stC [] [] (Cls w [] [.sl v596 9 1 (l585.map SR), .sl v597 9 1 (l586.map SR), .sl v598 3 1 (l587.map I), .sl v599 9 1 (l588.map SR), .sl v582 9 1 (l572.map SR), .sl v583 9 1 (l573.map SR), .sl v584 75 2 (l574.map Twrite.row), .obj b84 [.int .i64 x83.Kind, .int .i64 x83.N, st x83.Text, gv (q3 gx49.toNat) 0] 39])) 7 (by kernel_rfl) (Sc.past rfl (Sc.stayD (fun _ hw => hw.sel [4, 5, 6, 7] (by decide) rfl))) (Sc.atD (fun _ hw => hw.sel [2, 3, 4, 5, 8, 9, 10, 11] (by decide) rfl)) ?_)
                  refine V2.ite (i := 8) h (Nx2.of (Z := Cls w [] [.sl v596 9 1 (l585.map SR), .sl v597 9 1 (l586.map SR), .sl v598 3 1 (l587.map I), .sl v599 9 1 (l588.map SR), .sl v582 9 1 (l572.map SR), .sl v583 9 1 (l573.map SR), .sl v584 75 2 (l574.map Twrite.row), .obj b84 [.int .i64 x83.Kind, .int .i64 x83.N, st x83.Text, gv (q3 gx49.toNat) 0] 39]) [] (by kernel_rfl) rfl (Zc.fin (fun _ hw => hw))) rfl rfl rfl (Y.eql rfl rfl) (fun c600 h => ?_) (fun c600 h => ?_)
                  ·
                   refine V2.y (i := 9) (Nx2.of (Z := Cls w [] [.sl v596 9 1 (l585.map SR), .sl v597 9 1 (l586.map SR), .sl v598 3 1 (l587.map I), .sl v599 9 1 (l588.map SR), .sl v582 9 1 (l572.map SR), .sl v583 9 1 (l573.map SR), .sl v584 75 2 (l574.map Twrite.row), .obj b84 [.int .i64 x83.Kind, .int .i64 x83.N, st x83.Text, gv (q3 gx49.toNat) 0] 39]) [] (by kernel_rfl) rfl (Zc.fin (fun _ hw => hw))) rfl rfl rfl (Y.assign rfl) ?_
                   refine V2.done (by kernel_rfl) ?_
                   refine E.blockN (E.thenN (W.seq (W.region (L.y rfl (Y.move rfl) ?_))))
                   refine L.y rfl (Y.not rfl) ?_
                   refine L.y rfl (Y.move rfl) ?_
                   refine L.take rfl (L.y rfl (Y.move rfl) ?_)
                   refine L.take rfl (L.y rfl (Y.eqlPN Tryd.underlying29 rfl rfl) ?_)
                   refine L.y rfl (Y.pickF rfl rfl) ?_
                   refine L.y rfl (Y.move rfl) ?_
                   refine L.take rfl (L.y rfl (Y.move rfl) ?_)
                   refine L.take rfl (L.callJ (fun v D => ∃ (gx97 : Int), v = .int .i64 gx97 ∧ D = Cls w [] [.obj gb42 [pt gb6 0, .int .i64 gx43, .int .i64 gx44, .int .i64 x590, .int .i64 x591, .int .i64 x592, .bool b593] 68, .obj gb6 [v596, v597, v598, v599, .int .i64 x589] 48, .obj gb35 [pt gb1 0, .int .i64 gx36, .int .i64 gx37, .int .i64 x576, .int .i64 x577, .int .i64 x578, .bool b579] 58, .obj gb1 [v582, v583, v584, .int .i64 x575] 54, .sl v596 9 1 (l585.map SR), .sl v597 9 1 (l586.map SR), .sl v598 3 1 (l587.map I), .sl v599 9 1 (l588.map SR), .sl v582 9 1 (l572.map SR), .sl v583 9 1 (l573.map SR), .sl v584 75 2 (l574.map Twrite.row)] ∧ m3_quirlaw_WalPlays_K35 gx44 x591 gx49 go2 gx36 gx37 x576 x577 x578 b579 gx43 x590 x592 b593 l585 l586 l587 l588 x589 l572 l573 l574 x575 gx97 = some r) rfl en18 rfl Tryd.func18 rfl rfl rfl ?_ ?_)
                   ·
                    refine W.seq (W.region (L.y rfl (Y.assign rfl) ?_))
                    refine L.nil (E.thenN (W.seq (W.quietC mixed (by kernel_rfl) (fun _ hw => hw.drew) (fun hC => ?_))))
                    refine U.y rfl (Y.move rfl) ?_
                    refine U.y rfl (Y.nilCheck rfl) ?_
                    refine U.y rfl (Y.fieldP fd58_2 rfl) ?_
                    refine U.y rfl (Y.loadP (i := 6) ag3 rfl rfl rfl) ?_
                    refine U.y rfl (Y.move rfl) ?_
                    refine U.y rfl (Y.nilCheck rfl) ?_
                    refine U.y rfl (Y.fieldP fd58_4 rfl) ?_
                    refine U.y rfl (Y.loadP (i := 6) ag3 rfl rfl rfl) ?_
                    refine U.m (V := fun x604 => .int .i64 x604) h rfl (Y.subM rfl rfl) (fun x604 ex604 h => ?_)
                    refine U.y rfl (Y.assign rfl) ?_
                    refine U.nil (E.thenN (W.ret (E.ret1 rfl rfl (fun w1 hw => ?_))))
                    exact ⟨_, _, rfl, ⟨x604, rfl, rfl, h⟩, hw.sel [0, 1, 6, 7, 2, 3, 4, 5, 8, 9, 10] (by decide) rfl⟩
                   ·
                    rintro _ _ ⟨gx97, rfl, rfl, h⟩
                    rw [m3_quirlaw_WalPlays_K35] at h
                    refine L.take rfl (L.y rfl (Y.move rfl) ?_)
                    refine L.take rfl (L.callJ (fun v D => ∃ (gx98 : Int), v = .int .i64 gx98 ∧ D = Cls w [] [.obj gb42 [pt gb6 0, .int .i64 gx43, .int .i64 gx44, .int .i64 x590, .int .i64 x591, .int .i64 x592, .bool b593] 68, .obj gb6 [v596, v597, v598, v599, .int .i64 x589] 48, .obj gb35 [pt gb1 0, .int .i64 gx36, .int .i64 gx37, .int .i64 x576, .int .i64 x577, .int .i64 x578, .bool b579] 58, .obj gb1 [v582, v583, v584, .int .i64 x575] 54, .sl v596 9 1 (l585.map SR), .sl v597 9 1 (l586.map SR), .sl v598 3 1 (l587.map I), .sl v599 9 1 (l588.map SR), .sl v582 9 1 (l572.map SR), .sl v583 9 1 (l573.map SR), .sl v584 75 2 (l574.map Twrite.row)] ∧ m3_quirlaw_WalPlays_K36 gx97 gx49 go2 gx36 gx37 x576 x577 x578 b579 gx43 gx44 x590 x591 x592 b593 l585 l586 l587 l588 x589 l572 l573 l574 x575 gx98 = some r) rfl en19 rfl Tryd.func19 rfl rfl rfl ?_ ?_)
                    ·
                     refine W.seq (W.region (L.y rfl (Y.assign rfl) ?_))
                     refine L.nil (E.thenN (W.seq (W.quietC mixed (by kernel_rfl) (fun _ hw => hw.drew) (fun hC => ?_))))
                     refine U.y rfl (Y.move rfl) ?_
                     refine U.y rfl (Y.nilCheck rfl) ?_
                     refine U.y rfl (Y.fieldP fd68_2 rfl) ?_
                     refine U.y rfl (Y.loadP (i := 0) ag3 rfl rfl rfl) ?_
                     refine U.y rfl (Y.move rfl) ?_
                     refine U.y rfl (Y.nilCheck rfl) ?_
                     refine U.y rfl (Y.fieldP fd68_4 rfl) ?_
                     refine U.y rfl (Y.loadP (i := 0) ag3 rfl rfl rfl) ?_
                     refine U.m (V := fun x603 => .int .i64 x603) h rfl (Y.subM rfl rfl) (fun x603 ex603 h => ?_)
                     refine U.y rfl (Y.assign rfl) ?_
                     refine U.nil (E.thenN (W.ret (E.ret1 rfl rfl (fun w1 hw => ?_))))
                     exact ⟨_, _, rfl, ⟨x603, rfl, rfl, h⟩, hw⟩
                    ·
                     rintro _ _ ⟨gx98, rfl, rfl, h⟩
                     rw [m3_quirlaw_WalPlays_K36] at h
                     refine L.take rfl (L.ite h rfl (Y.neq rfl rfl) (fun c601 h => ?_) (fun c601 h => ?_))
                     ·
                      refine L.y rfl (Y.pickF rfl rfl) ?_
                      refine L.nil (E.thenN (W.condT rfl ?_))
                      refine W.seq (W.region (L.y rfl (Y.assign rfl) ?_))
                      refine L.nil (E.thenN (W.ret (E.blockR (E.thenR (E.KLR (E.blockR (E.KSR (E.ret1 rfl rfl (fun w1 hw => ?_)))))))))
                      obtain rfl := Option.some.inj h
                      exact ⟨_, _, rfl, ⟨rfl, rfl⟩, hw.sel [] (by decide) rfl⟩
                     ·
                      refine L.y rfl (Y.pickF rfl rfl) ?_
                      refine L.nil (E.thenN (W.condF rfl ?_))
                      refine W.skip (E.blockN (E.thenN (W.region (L.m (V := fun x602 => .int .i64 x602) h rfl (Y.addM rfl rfl) (fun x602 ex602 h => ?_)))))
                      refine L.y rfl (Y.move rfl) ?_
                      exact L.nil (E.againJ ⟨gb35, gx36, gx37, x576, x577, x578, b579, gb42, gx43, gx44, x590, x591, x592, b593, x602, v596, l585, v597, l586, v598, l587, v599, l588, x589, v582, l572, v583, l573, v584, l574, x575, rfl, rfl, by rw [hg2]; exact h⟩ (Nat.lt_succ_self _) ⟨rfl, rfl, rfl, rfl, rfl, rfl, rfl, rfl, rfl, trivial⟩ (fun _ hw => hw.sel [1, 3, 2, 0, 4, 5, 6, 7, 8, 9, 10] (by decide) rfl))
                  ·
                   refine V2.y (i := 9) (Nx2.of (Z := Cls w [] [.sl v596 9 1 (l585.map SR), .sl v597 9 1 (l586.map SR), .sl v598 3 1 (l587.map I), .sl v599 9 1 (l588.map SR), .sl v582 9 1 (l572.map SR), .sl v583 9 1 (l573.map SR), .sl v584 75 2 (l574.map Twrite.row), .obj b84 [.int .i64 x83.Kind, .int .i64 x83.N, st x83.Text, gv (q3 gx49.toNat) 0] 39]) [] (by kernel_rfl) rfl (Zc.fin (fun _ hw => hw))) rfl rfl rfl (Y.assign rfl) ?_
                   refine V2.done (by kernel_rfl) ?_
                   refine E.blockN (E.thenN (W.seq (W.region (L.y rfl (Y.move rfl) ?_))))
                   refine L.y rfl (Y.not rfl) ?_
                   refine L.y rfl (Y.move rfl) ?_
                   refine L.pass rfl rfl (by nofun) ?_
                   refine L.pass rfl rfl (by nofun) ?_
                   refine L.y rfl (Y.pickT rfl rfl) ?_
                   refine L.y rfl (Y.move rfl) ?_
                   refine L.pass rfl rfl (by nofun) ?_
                   refine L.pass rfl rfl (by nofun) ?_
                   refine L.pass rfl rfl (by nofun) ?_
                   refine L.pass rfl rfl (by nofun) ?_
                   refine L.pass rfl rfl (by nofun) ?_
                   refine L.y rfl (Y.pickT rfl rfl) ?_
                   refine L.nil (E.thenN (W.condT rfl ?_))
                   refine W.seq (W.region (L.y rfl (Y.assign rfl) ?_))
                   refine L.nil (E.thenN (W.ret (E.blockR (E.thenR (E.KLR (E.blockR (E.KSR (E.ret1 rfl rfl (fun w1 hw => ?_)))))))))
                   obtain rfl := Option.some.inj h
                   exact ⟨_, _, rfl, ⟨rfl, rfl⟩, hw.sel [] (by decide) rfl⟩
               ·
                replace h := iteT h
                refine W.condT rfl ?_
                refine W.region (L.y rfl (Y.move rfl) ?_)
                refine L.to (D := Cls w [] [.obj gb35 [pt gb1 0, .int .i64 gx36, .int .i64 gx37, .int .i64 gx38, .int .i64 gx39, .int .i64 gx40, .bool gb41] 58, .obj gb1 [gv59, gv61, gv63, .int .i64 gx65] 54, .sl gv59 9 1 (gl60.map SR), .sl gv61 9 1 (gl62.map SR), .sl gv63 75 2 (gl64.map Twrite.row), .obj b84 [.int .i64 x83.Kind, .int .i64 x83.N, st x83.Text, gv (q3 gx49.toNat) 0] 39, .obj gb6 [gv50, gv52, gv54, gv56, .int .i64 gx58] 48, .obj gb42 [pt gb6 0, .int .i64 gx43, .int .i64 gx44, .int .i64 gx45, .int .i64 gx46, .int .i64 gx47, .bool gb48] 68, .sl gv50 9 1 (gl51.map SR), .sl gv52 9 1 (gl53.map SR), .sl gv54 3 1 (gl55.map I), .sl gv56 9 1 (gl57.map SR)]) (fun _ hw => hw.sel [3, 2, 9, 10, 11, 0, 1, 4, 5, 6, 7, 8] (by decide) rfl) ?_
                obtain ⟨l606, l607, l608, x609, b610, x611, e612, h⟩ := bind6S h
                refine L.doesP (A := [.obj gb35 [pt gb1 0, .int .i64 gx36, .int .i64 gx37, .int .i64 gx38, .int .i64 gx39, .int .i64 gx40, .bool gb41] 58, .obj gb1 [gv59, gv61, gv63, .int .i64 gx65] 54, .sl gv59 9 1 (gl60.map SR), .sl gv61 9 1 (gl62.map SR), .sl gv63 75 2 (gl64.map Twrite.row)]) (M := [.obj b84 [.int .i64 x83.Kind, .int .i64 x83.N, st x83.Text, gv (q3 gx49.toNat) 0] 39, .obj gb6 [gv50, gv52, gv54, gv56, .int .i64 gx58] 48, .obj gb42 [pt gb6 0, .int .i64 gx43, .int .i64 gx44, .int .i64 gx45, .int .i64 gx46, .int .i64 gx47, .bool gb48] 68, .sl gv50 9 1 (gl51.map SR), .sl gv52 9 1 (gl53.map SR), .sl gv54 3 1 (gl55.map I), .sl gv56 9 1 (gl57.map SR)]) rfl en11 rfl (fun w' hw => w11_wal_Log_Sync gl60 gl62 gl64 gx65 gx36 gx37 gx38 gx39 gx40 gb41 gb35 gb1 gv59 gv61 gv63 w' _ e612 _ hw.lend) ?_
                rintro _ _ ⟨v613, v614, v615, rfl, rfl⟩
                refine L.to (D := Cls w [] [.obj gb35 [pt gb1 0, .int .i64 gx36, .int .i64 gx37, .int .i64 gx38, .int .i64 gx39, .int .i64 gx40, .bool b610] 58, .obj gb1 [v613, v614, v615, .int .i64 x609] 54, .sl v613 9 1 (l606.map SR), .sl v614 9 1 (l607.map SR), .sl v615 75 2 (l608.map Twrite.row), .obj b84 [.int .i64 x83.Kind, .int .i64 x83.N, st x83.Text, gv (q3 gx49.toNat) 0] 39, .obj gb6 [gv50, gv52, gv54, gv56, .int .i64 gx58] 48, .obj gb42 [pt gb6 0, .int .i64 gx43, .int .i64 gx44, .int .i64 gx45, .int .i64 gx46, .int .i64 gx47, .bool gb48] 68, .sl gv50 9 1 (gl51.map SR), .sl gv52 9 1 (gl53.map SR), .sl gv54 3 1 (gl55.map I), .sl gv56 9 1 (gl57.map SR)]) (fun _ hw => hw) ?_
                refine L.y rfl (Y.move rfl) ?_
                refine L.to (D := Cls w [] [.obj gb42 [pt gb6 0, .int .i64 gx43, .int .i64 gx44, .int .i64 gx45, .int .i64 gx46, .int .i64 gx47, .bool gb48] 68, .obj gb6 [gv50, gv52, gv54, gv56, .int .i64 gx58] 48, .sl gv50 9 1 (gl51.map SR), .sl gv52 9 1 (gl53.map SR), .sl gv54 3 1 (gl55.map I), .sl gv56 9 1 (gl57.map SR), .obj gb35 [pt gb1 0, .int .i64 gx36, .int .i64 gx37, .int .i64 gx38, .int .i64 gx39, .int .i64 gx40, .bool b610] 58, .obj gb1 [v613, v614, v615, .int .i64 x609] 54, .sl v613 9 1 (l606.map SR), .sl v614 9 1 (l607.map SR), .sl v615 75 2 (l608.map Twrite.row), .obj b84 [.int .i64 x83.Kind, .int .i64 x83.N, st x83.Text, gv (q3 gx49.toNat) 0] 39]) (fun _ hw => hw.sel [7, 6, 8, 9, 10, 11, 0, 1, 2, 3, 4, 5] (by decide) rfl) ?_
                obtain ⟨l616, l617, l618, l619, x620, b621, x622, e623, h⟩ := bind7S h
                refine L.doesP (A := [.obj gb42 [pt gb6 0, .int .i64 gx43, .int .i64 gx44, .int .i64 gx45, .int .i64 gx46, .int .i64 gx47, .bool gb48] 68, .obj gb6 [gv50, gv52, gv54, gv56, .int .i64 gx58] 48, .sl gv50 9 1 (gl51.map SR), .sl gv52 9 1 (gl53.map SR), .sl gv54 3 1 (gl55.map I), .sl gv56 9 1 (gl57.map SR)]) (M := [.obj gb35 [pt gb1 0, .int .i64 gx36, .int .i64 gx37, .int .i64 gx38, .int .i64 gx39, .int .i64 gx40, .bool b610] 58, .obj gb1 [v613, v614, v615, .int .i64 x609] 54, .sl v613 9 1 (l606.map SR), .sl v614 9 1 (l607.map SR), .sl v615 75 2 (l608.map Twrite.row), .obj b84 [.int .i64 x83.Kind, .int .i64 x83.N, st x83.Text, gv (q3 gx49.toNat) 0] 39]) rfl en12 rfl (fun w' hw => w12_quirref_Log_Sync gl51 gl53 gl55 gl57 gx58 gx43 gx44 gx45 gx46 gx47 gb48 gb42 gb6 gv50 gv52 gv54 gv56 w' _ e623 _ hw.lend) ?_
                rintro _ _ ⟨v624, v625, v626, v627, rfl, rfl⟩
                refine L.to (D := Cls w [] [.obj gb42 [pt gb6 0, .int .i64 gx43, .int .i64 gx44, .int .i64 gx45, .int .i64 gx46, .int .i64 gx47, .bool b621] 68, .obj gb6 [v624, v625, v626, v627, .int .i64 x620] 48, .sl v624 9 1 (l616.map SR), .sl v625 9 1 (l617.map SR), .sl v626 3 1 (l618.map I), .sl v627 9 1 (l619.map SR), .obj gb35 [pt gb1 0, .int .i64 gx36, .int .i64 gx37, .int .i64 gx38, .int .i64 gx39, .int .i64 gx40, .bool b610] 58, .obj gb1 [v613, v614, v615, .int .i64 x609] 54, .sl v613 9 1 (l606.map SR), .sl v614 9 1 (l607.map SR), .sl v615 75 2 (l608.map Twrite.row), .obj b84 [.int .i64 x83.Kind, .int .i64 x83.N, st x83.Text, gv (q3 gx49.toNat) 0] 39]) (fun _ hw => hw) ?_
                refine L.ite h rfl (Y.eql rfl rfl) (fun c628 h => ?_) (fun c628 h => ?_)
                ·
                 refine L.y rfl (Y.assign rfl) ?_
                 refine L.nil (E.blockN (E.thenN (W.seq (W.region (L.y rfl (Y.move rfl) ?_)))))
                 refine L.y rfl (Y.not rfl) ?_
                 refine L.y rfl (Y.move rfl) ?_
                 refine L.take rfl (L.y rfl (Y.move rfl) ?_)
                 refine L.take rfl (L.y rfl (Y.eqlPN Tryd.underlying29 rfl rfl) ?_)
                 refine L.y rfl (Y.pickF rfl rfl) ?_
                 refine L.y rfl (Y.move rfl) ?_
                 refine L.take rfl (L.y rfl (Y.move rfl) ?_)
                 refine L.take rfl (L.callJ (fun v D => ∃ (gx99 : Int), v = .int .i64 gx99 ∧ D = Cls w [] [.obj gb42 [pt gb6 0, .int .i64 gx43, .int .i64 gx44, .int .i64 gx45, .int .i64 gx46, .int .i64 gx47, .bool b621] 68, .obj gb6 [v624, v625, v626, v627, .int .i64 x620] 48, .obj gb35 [pt gb1 0, .int .i64 gx36, .int .i64 gx37, .int .i64 gx38, .int .i64 gx39, .int .i64 gx40, .bool b610] 58, .obj gb1 [v613, v614, v615, .int .i64 x609] 54, .sl v624 9 1 (l616.map SR), .sl v625 9 1 (l617.map SR), .sl v626 3 1 (l618.map I), .sl v627 9 1 (l619.map SR), .sl v613 9 1 (l606.map SR), .sl v614 9 1 (l607.map SR), .sl v615 75 2 (l608.map Twrite.row)] ∧ m3_quirlaw_WalPlays_K37 gx44 gx46 gx49 go2 gx36 gx37 gx38 gx39 gx40 b610 gx43 gx45 gx47 b621 l616 l617 l618 l619 x620 l606 l607 l608 x609 gx99 = some r) rfl en18 rfl Tryd.func18 rfl rfl rfl ?_ ?_)
                 ·
                  refine W.seq (W.region (L.y rfl (Y.assign rfl) ?_))
                  refine L.nil (E.thenN (W.seq (W.quietC mixed (by kernel_rfl) (fun _ hw => hw.drew) (fun hC => ?_))))
                  refine U.y rfl (Y.move rfl) ?_
                  refine U.y rfl (Y.nilCheck rfl) ?_
                  refine U.y rfl (Y.fieldP fd58_2 rfl) ?_
                  refine U.y rfl (Y.loadP (i := 6) ag3 rfl rfl rfl) ?_
                  refine U.y rfl (Y.move rfl) ?_
                  refine U.y rfl (Y.nilCheck rfl) ?_
                  refine U.y rfl (Y.fieldP fd58_4 rfl) ?_
                  refine U.y rfl (Y.loadP (i := 6) ag3 rfl rfl rfl) ?_
                  refine U.m (V := fun x632 => .int .i64 x632) h rfl (Y.subM rfl rfl) (fun x632 ex632 h => ?_)
                  refine U.y rfl (Y.assign rfl) ?_
                  refine U.nil (E.thenN (W.ret (E.ret1 rfl rfl (fun w1 hw => ?_))))
                  exact ⟨_, _, rfl, ⟨x632, rfl, rfl, h⟩, hw.sel [0, 1, 6, 7, 2, 3, 4, 5, 8, 9, 10] (by decide) rfl⟩
                 ·
                  rintro _ _ ⟨gx99, rfl, rfl, h⟩
                  rw [m3_quirlaw_WalPlays_K37] at h
                  refine L.take rfl (L.y rfl (Y.move rfl) ?_)
                  refine L.take rfl (L.callJ (fun v D => ∃ (gx100 : Int), v = .int .i64 gx100 ∧ D = Cls w [] [.obj gb42 [pt gb6 0, .int .i64 gx43, .int .i64 gx44, .int .i64 gx45, .int .i64 gx46, .int .i64 gx47, .bool b621] 68, .obj gb6 [v624, v625, v626, v627, .int .i64 x620] 48, .obj gb35 [pt gb1 0, .int .i64 gx36, .int .i64 gx37, .int .i64 gx38, .int .i64 gx39, .int .i64 gx40, .bool b610] 58, .obj gb1 [v613, v614, v615, .int .i64 x609] 54, .sl v624 9 1 (l616.map SR), .sl v625 9 1 (l617.map SR), .sl v626 3 1 (l618.map I), .sl v627 9 1 (l619.map SR), .sl v613 9 1 (l606.map SR), .sl v614 9 1 (l607.map SR), .sl v615 75 2 (l608.map Twrite.row)] ∧ m3_quirlaw_WalPlays_K38 gx99 gx49 go2 gx36 gx37 gx38 gx39 gx40 b610 gx43 gx44 gx45 gx46 gx47 b621 l616 l617 l618 l619 x620 l606 l607 l608 x609 gx100 = some r) rfl en19 rfl Tryd.func19 rfl rfl rfl ?_ ?_)
                  ·
                   refine W.seq (W.region (L.y rfl (Y.assign rfl) ?_))
                   refine L.nil (E.thenN (W.seq (W.quietC mixed (by kernel_rfl) (fun _ hw => hw.drew) (fun hC => ?_))))
                   refine U.y rfl (Y.move rfl) ?_
                   refine U.y rfl (Y.nilCheck rfl) ?_
                   refine U.y rfl (Y.fieldP fd68_2 rfl) ?_
                   refine U.y rfl (Y.loadP (i := 0) ag3 rfl rfl rfl) ?_
                   refine U.y rfl (Y.move rfl) ?_
                   refine U.y rfl (Y.nilCheck rfl) ?_
                   refine U.y rfl (Y.fieldP fd68_4 rfl) ?_
                   refine U.y rfl (Y.loadP (i := 0) ag3 rfl rfl rfl) ?_
                   refine U.m (V := fun x631 => .int .i64 x631) h rfl (Y.subM rfl rfl) (fun x631 ex631 h => ?_)
                   refine U.y rfl (Y.assign rfl) ?_
                   refine U.nil (E.thenN (W.ret (E.ret1 rfl rfl (fun w1 hw => ?_))))
                   exact ⟨_, _, rfl, ⟨x631, rfl, rfl, h⟩, hw⟩
                  ·
                   rintro _ _ ⟨gx100, rfl, rfl, h⟩
                   rw [m3_quirlaw_WalPlays_K38] at h
                   refine L.take rfl (L.ite h rfl (Y.neq rfl rfl) (fun c629 h => ?_) (fun c629 h => ?_))
                   ·
                    refine L.y rfl (Y.pickF rfl rfl) ?_
                    refine L.nil (E.thenN (W.condT rfl ?_))
                    refine W.seq (W.region (L.y rfl (Y.assign rfl) ?_))
                    refine L.nil (E.thenN (W.ret (E.blockR (E.thenR (E.KLR (E.blockR (E.KSR (E.ret1 rfl rfl (fun w1 hw => ?_)))))))))
                    obtain rfl := Option.some.inj h
                    exact ⟨_, _, rfl, ⟨rfl, rfl⟩, hw.sel [] (by decide) rfl⟩
                   ·
                    refine L.y rfl (Y.pickF rfl rfl) ?_
                    refine L.nil (E.thenN (W.condF rfl ?_))
                    refine W.skip (E.blockN (E.thenN (W.region (L.m (V := fun x630 => .int .i64 x630) h rfl (Y.addM rfl rfl) (fun x630 ex630 h => ?_)))))
                    refine L.y rfl (Y.move rfl) ?_
                    exact L.nil (E.againJ ⟨gb35, gx36, gx37, gx38, gx39, gx40, b610, gb42, gx43, gx44, gx45, gx46, gx47, b621, x630, v624, l616, v625, l617, v626, l618, v627, l619, x620, v613, l606, v614, l607, v615, l608, x609, rfl, rfl, by rw [hg2]; exact h⟩ (Nat.lt_succ_self _) ⟨rfl, rfl, rfl, rfl, rfl, rfl, rfl, rfl, rfl, trivial⟩ (fun _ hw => hw.sel [1, 3, 2, 0, 4, 5, 6, 7, 8, 9, 10] (by decide) rfl))
                ·
                 refine L.y rfl (Y.assign rfl) ?_
                 refine L.nil (E.blockN (E.thenN (W.seq (W.region (L.y rfl (Y.move rfl) ?_)))))
                 refine L.y rfl (Y.not rfl) ?_
                 refine L.y rfl (Y.move rfl) ?_
                 refine L.pass rfl rfl (by nofun) ?_
                 refine L.pass rfl rfl (by nofun) ?_
                 refine L.y rfl (Y.pickT rfl rfl) ?_
                 refine L.y rfl (Y.move rfl) ?_
                 refine L.pass rfl rfl (by nofun) ?_
                 refine L.pass rfl rfl (by nofun) ?_
                 refine L.pass rfl rfl (by nofun) ?_
                 refine L.pass rfl rfl (by nofun) ?_
                 refine L.pass rfl rfl (by nofun) ?_
                 refine L.y rfl (Y.pickT rfl rfl) ?_
                 refine L.nil (E.thenN (W.condT rfl ?_))
                 refine W.seq (W.region (L.y rfl (Y.assign rfl) ?_))
                 refine L.nil (E.thenN (W.ret (E.blockR (E.thenR (E.KLR (E.blockR (E.KSR (E.ret1 rfl rfl (fun w1 hw => ?_)))))))))
                 obtain rfl := Option.some.inj h
                 exact ⟨_, _, rfl, ⟨rfl, rfl⟩, hw.sel [] (by decide) rfl⟩
             ·
              replace h := iteT h
              refine W.condT rfl ?_
              refine W.drawn2 (k := 10) (stC [[3, 7], [7]] [Cls w [] [.obj b84 [.int .i64 x83.Kind, .int .i64 x83.N, st x83.Text, gv (q3 gx49.toNat) 0] 39, .obj gb6 [gv50, gv52, gv54, gv56, .int .i64 gx58] 48, .obj gb1 [gv59, gv61, gv63, .int .i64 gx65] 54, .obj gb35 [pt gb1 0, .int .i64 gx36, .int .i64 gx37, .int .i64 gx38, .int .i64 gx39, .int .i64 gx40, .bool gb41] 58, .obj gb42 [pt gb6 0, .int .i64 gx43, .int .i64 gx44, .int .i64 gx45, .int .i64 gx46, .int .i64 gx47, .bool gb48] 68, .sl gv50 9 1 (gl51.map SR), .sl gv52 9 1 (gl53.map SR), .sl gv54 3 1 (gl55.map I), .sl gv56 9 1 (gl57.map SR), .sl gv59 9 1 (gl60.map SR), .sl gv61 9 1 (gl62.map SR), .sl gv63 75 2 (gl64.map Twrite.row)], Cls w [] [.obj b84 [.int .i64 x83.Kind, .int .i64 x83.N, st x83.Text, gv (q3 gx49.toNat) 0] 39, .obj gb6 [gv50, gv52, gv54, gv56, .int .i64 gx58] 48, .obj gb42 [pt gb6 0, .int .i64 gx43, .int .i64 gx44, .int .i64 gx45, .int .i64 gx46, .int .i64 gx47, .bool gb48] 68, .sl gv50 9 1 (gl51.map SR), .sl gv52 9 1 (gl53.map SR), .sl gv54 3 1 (gl55.map I), .sl gv56 9 1 (gl57.map SR)]] (Cls w [] [.obj b84 [.int .i64 x83.Kind, .int .i64 x83.N, st x83.Text, gv (q3 gx49.toNat) 0] 39])) rfl mixed (fun _ hw => hw.drew) (Sc.now (by kernel_rfl) (fun _ hw => hw)) ?_
              refine V2.y (i := 0) (Nx2.of (Z := Cls w [] [.obj b84 [.int .i64 x83.Kind, .int .i64 x83.N, st x83.Text, gv (q3 gx49.toNat) 0] 39]) [] (by kernel_rfl) rfl (Zc.on (fun _ hw => hw.sel [0] (by decide) rfl) (Zc.on (fun _ hw => hw.sel [0] (by decide) rfl) (Zc.fin (fun _ hw => hw))))) rfl rfl rfl (Y.move rfl) ?_
              refine V2.y (i := 1) (Nx2.of (Z := Cls w [] [.obj b84 [.int .i64 x83.Kind, .int .i64 x83.N, st x83.Text, gv (q3 gx49.toNat) 0] 39]) [] (by kernel_rfl) rfl (Zc.on (fun _ hw => hw.sel [0] (by decide) rfl) (Zc.on (fun _ hw => hw.sel [0] (by decide) rfl) (Zc.fin (fun _ hw => hw))))) rfl rfl rfl (Y.fieldP fd39_2 rfl) ?_
              refine V2.y (i := 2) (Nx2.of (Z := Cls w [] [.obj b84 [.int .i64 x83.Kind, .int .i64 x83.N, st x83.Text, gv (q3 gx49.toNat) 0] 39]) [] (by kernel_rfl) rfl (Zc.on (fun _ hw => hw.sel [0] (by decide) rfl) (Zc.on (fun _ hw => hw.sel [0] (by decide) rfl) (Zc.fin (fun _ hw => hw))))) rfl rfl rfl (Y.loadP (i := 0) ag9 rfl rfl rfl) ?_
              refine V2.y (i := 4) (Nx2.of (Z := Cls w [] [.obj b84 [.int .i64 x83.Kind, .int .i64 x83.N, st x83.Text, gv (q3 gx49.toNat) 0] 39]) [] (by kernel_rfl) rfl (Zc.on (fun _ hw => hw.sel [0] (by decide) rfl) (Zc.on (fun _ hw => hw.sel [0] (by decide) rfl) (Zc.fin (fun _ hw => hw))))) rfl rfl rfl (Y.move rfl) ?_
              refine V2.y (i := 5) (Nx2.of (Z := Cls w [] [.obj b84 [.int .i64 x83.Kind, .int .i64 x83.N, st x83.Text, gv (q3 gx49.toNat) 0] 39]) [] (by kernel_rfl) rfl (Zc.on (fun _ hw => hw.sel [0] (by decide) rfl) (Zc.on (fun _ hw => hw.sel [0] (by decide) rfl) (Zc.fin (fun _ hw => hw))))) rfl rfl rfl (Y.fieldP fd39_2 rfl) ?_
              refine V2.y (i := 6) (Nx2.of (Z := Cls w [] [.obj b84 [.int .i64 x83.Kind, .int .i64 x83.N, st x83.Text, gv (q3 gx49.toNat) 0] 39]) [] (by kernel_rfl) rfl (Zc.on (fun _ hw => hw.sel [0] (by decide) rfl) (Zc.on (fun _ hw => hw.sel [0] (by decide) rfl) (Zc.fin (fun _ hw => hw))))) rfl rfl rfl (Y.loadP (i := 0) ag9 rfl rfl rfl) ?_
              refine V2.eff (i := 3) (by kernel_rfl) rfl ?_
              refine L.to (D := Cls w [] [.obj gb35 [pt gb1 0, .int .i64 gx36, .int .i64 gx37, .int .i64 gx38, .int .i64 gx39, .int .i64 gx40, .bool gb41] 58, .obj gb1 [gv59, gv61, gv63, .int .i64 gx65] 54, .sl gv59 9 1 (gl60.map SR), .sl gv61 9 1 (gl62.map SR), .sl gv63 75 2 (gl64.map Twrite.row), .obj b84 [.int .i64 x83.Kind, .int .i64 x83.N, st x83.Text, gv (q3 gx49.toNat) 0] 39, .obj gb6 [gv50, gv52, gv54, gv56, .int .i64 gx58] 48, .obj gb42 [pt gb6 0, .int .i64 gx43, .int .i64 gx44, .int .i64 gx45, .int .i64 gx46, .int .i64 gx47, .bool gb48] 68, .sl gv50 9 1 (gl51.map SR), .sl gv52 9 1 (gl53.map SR), .sl gv54 3 1 (gl55.map I), .sl gv56 9 1 (gl57.map SR)]) (fun _ hw => hw.sel [3, 2, 9, 10, 11, 0, 1, 4, 5, 6, 7, 8] (by decide) rfl) ?_
              obtain ⟨l850, l851, l852, x853, x854, x855, b856, x857, e858, h⟩ := bind8S h
              refine L.doesP (A := [.obj gb35 [pt gb1 0, .int .i64 gx36, .int .i64 gx37, .int .i64 gx38, .int .i64 gx39, .int .i64 gx40, .bool gb41] 58, .obj gb1 [gv59, gv61, gv63, .int .i64 gx65] 54, .sl gv59 9 1 (gl60.map SR), .sl gv61 9 1 (gl62.map SR), .sl gv63 75 2 (gl64.map Twrite.row)]) (M := [.obj b84 [.int .i64 x83.Kind, .int .i64 x83.N, st x83.Text, gv (q3 gx49.toNat) 0] 39, .obj gb6 [gv50, gv52, gv54, gv56, .int .i64 gx58] 48, .obj gb42 [pt gb6 0, .int .i64 gx43, .int .i64 gx44, .int .i64 gx45, .int .i64 gx46, .int .i64 gx47, .bool gb48] 68, .sl gv50 9 1 (gl51.map SR), .sl gv52 9 1 (gl53.map SR), .sl gv54 3 1 (gl55.map I), .sl gv56 9 1 (gl57.map SR)]) rfl en9 rfl (fun w' hw => w9_wal_Log_Append gl60 gl62 gl64 gx65 gx36 gx37 gx38 gx39 gx40 gb41 x83.Text gb35 gb1 gv59 gv61 gv63 w' _ e858 _ hw.lend) ?_
              rintro _ _ ⟨v859, v860, v861, rfl, rfl⟩
              refine L.to (D := Cls w [] [.obj gb35 [pt gb1 0, .int .i64 gx36, .int .i64 gx37, .int .i64 gx38, .int .i64 x854, .int .i64 x855, .bool b856] 58, .obj gb1 [v859, v860, v861, .int .i64 x853] 54, .sl v859 9 1 (l850.map SR), .sl v860 9 1 (l851.map SR), .sl v861 75 2 (l852.map Twrite.row), .obj b84 [.int .i64 x83.Kind, .int .i64 x83.N, st x83.Text, gv (q3 gx49.toNat) 0] 39, .obj gb6 [gv50, gv52, gv54, gv56, .int .i64 gx58] 48, .obj gb42 [pt gb6 0, .int .i64 gx43, .int .i64 gx44, .int .i64 gx45, .int .i64 gx46, .int .i64 gx47, .bool gb48] 68, .sl gv50 9 1 (gl51.map SR), .sl gv52 9 1 (gl53.map SR), .sl gv54 3 1 (gl55.map I), .sl gv56 9 1 (gl57.map SR)]) (fun _ hw => hw) ?_
              refine L.nil (E.toV2 (stC [[7]] [Cls w [] [.sl v859 9 1 (l850.map SR), .sl v860 9 1 (l851.map SR), .sl v861 75 2 (l852.map Twrite.row), .obj b84 [.int .i64 x83.Kind, .int .i64 x83.N, st x83.Text, gv (q3 gx49.toNat) 0] 39, .obj gb6 [gv50, gv52, gv54, gv56, .int .i64 gx58] 48, .obj gb42 [pt gb6 0, .int .i64 gx43, .int .i64 gx44, .int .i64 gx45, .int .i64 gx46, .int .i64 gx47, .bool gb48] 68, .sl gv50 9 1 (gl51.map SR), .sl gv52 9 1 (gl53.map SR), .sl gv54 3 1 (gl55.map I), .sl gv56 9 1 (gl57.map SR)]] (Cls w [] [.sl v859 9 1 (l850.map SR), .sl v860 9 1 (l851.map SR), .sl v861 75 2 (l852.map Twrite.row), .obj b84 [.int .i64 x83.Kind, .int .i64 x83.N, st x83.Text, gv (q3 gx49.toNat) 0] 39])) 3 (by kernel_rfl) (Sc.past rfl (Sc.stay (fun _ hw => hw.sel [3, 4, 5, 6, 7, 8, 9] (by decide) rfl) (Sc.stayD (fun _ hw => hw.sel [3] (by decide) rfl)))) (Sc.now (by kernel_rfl) (fun _ hw => hw.sel [2, 3, 4, 5, 6, 7, 8, 9, 10, 11] (by decide) rfl)) ?_)
              refine V2.eff (i := 7) (by kernel_rfl) rfl ?_
              refine L.to (D := Cls w [] [.obj gb42 [pt gb6 0, .int .i64 gx43, .int .i64 gx44, .int .i64 gx45, .int .i64 gx46, .int .i64 gx47, .bool gb48] 68, .obj gb6 [gv50, gv52, gv54, gv56, .int .i64 gx58] 48, .sl gv50 9 1 (gl51.map SR), .sl gv52 9 1 (gl53.map SR), .sl gv54 3 1 (gl55.map I), .sl gv56 9 1 (gl57.map SR), .obj gb35 [pt gb1 0, .int .i64 gx36, .int .i64 gx37, .int .i64 gx38, .int .i64 x854, .int .i64 x855, .bool b856] 58, .obj gb1 [v859, v860, v861, .int .i64 x853] 54, .sl v859 9 1 (l850.map SR), .sl v860 9 1 (l851.map SR), .sl v861 75 2 (l852.map Twrite.row), .obj b84 [.int .i64 x83.Kind, .int .i64 x83.N, st x83.Text, gv (q3 gx49.toNat) 0] 39]) (fun _ hw => hw.sel [7, 6, 8, 9, 10, 11, 0, 1, 2, 3, 4, 5] (by decide) rfl) ?_
              obtain ⟨l862, l863, l864, l865, x866, x867, x868, b869, x870, e871, h⟩ := bind9S h
              refine L.doesP (A := [.obj gb42 [pt gb6 0, .int .i64 gx43, .int .i64 gx44, .int .i64 gx45, .int .i64 gx46, .int .i64 gx47, .bool gb48] 68, .obj gb6 [gv50, gv52, gv54, gv56, .int .i64 gx58] 48, .sl gv50 9 1 (gl51.map SR), .sl gv52 9 1 (gl53.map SR), .sl gv54 3 1 (gl55.map I), .sl gv56 9 1 (gl57.map SR)]) (M := [.obj gb35 [pt gb1 0, .int .i64 gx36, .int .i64 gx37, .int .i64 gx38, .int .i64 x854, .int .i64 x855, .bool b856] 58, .obj gb1 [v859, v860, v861, .int .i64 x853] 54, .sl v859 9 1 (l850.map SR), .sl v860 9 1 (l851.map SR), .sl v861 75 2 (l852.map Twrite.row), .obj b84 [.int .i64 x83.Kind, .int .i64 x83.N, st x83.Text, gv (q3 gx49.toNat) 0] 39]) rfl en10 rfl (fun w' hw => w10_quirref_Log_Append gl51 gl53 gl55 gl57 gx58 gx43 gx44 gx45 gx46 gx47 gb48 x83.Text gb42 gb6 gv50 gv52 gv54 gv56 w' _ e871 _ hw.lend) ?_
              rintro _ _ ⟨v872, v873, v874, v875, rfl, rfl⟩
              refine L.to (D := Cls w [] [.obj gb42 [pt gb6 0, .int .i64 gx43, .int .i64 gx44, .int .i64 gx45, .int .i64 x867, .int .i64 x868, .bool b869] 68, .obj gb6 [v872, v873, v874, v875, .int .i64 x866] 48, .sl v872 9 1 (l862.map SR), .sl v873 9 1 (l863.map SR), .sl v874 3 1 (l864.map I), .sl v875 9 1 (l865.map SR), .obj gb35 [pt gb1 0, .int .i64 gx36, .int .i64 gx37, .int .i64 gx38, .int .i64 x854, .int .i64 x855, .bool b856] 58, .obj gb1 [v859, v860, v861, .int .i64 x853] 54, .sl v859 9 1 (l850.map SR), .sl v860 9 1 (l851.map SR), .sl v861 75 2 (l852.map Twrite.row), .obj b84 [.int .i64 x83.Kind, .int .i64 x83.N, st x83.Text, gv (q3 gx49.toNat) 0] 39]) (fun _ hw => hw) ?_
              refine L.nil (E.toV2 (stC [] [] (Cls w [] [.sl v872 9 1 (l862.map SR), .sl v873 9 1 (l863.map SR), .sl v874 3 1 (l864.map I), .sl v875 9 1 (l865.map SR), .sl v859 9 1 (l850.map SR), .sl v860 9 1 (l851.map SR), .sl v861 75 2 (l852.map Twrite.row), .obj b84 [.int .i64 x83.Kind, .int .i64 x83.N, st x83.Text, gv (q3 gx49.toNat) 0] 39])) 7 (by kernel_rfl) (Sc.past rfl (Sc.stayD (fun _ hw => hw.sel [4, 5, 6, 7] (by decide) rfl))) (Sc.atD (fun _ hw => hw.sel [2, 3, 4, 5, 8, 9, 10, 11] (by decide) rfl)) ?_)
              refine V2.ite (i := 8) h (Nx2.of (Z := Cls w [] [.sl v872 9 1 (l862.map SR), .sl v873 9 1 (l863.map SR), .sl v874 3 1 (l864.map I), .sl v875 9 1 (l865.map SR), .sl v859 9 1 (l850.map SR), .sl v860 9 1 (l851.map SR), .sl v861 75 2 (l852.map Twrite.row), .obj b84 [.int .i64 x83.Kind, .int .i64 x83.N, st x83.Text, gv (q3 gx49.toNat) 0] 39]) [] (by kernel_rfl) rfl (Zc.fin (fun _ hw => hw))) rfl rfl rfl (Y.eql rfl rfl) (fun c876 h => ?_) (fun c876 h => ?_)
              ·
               refine V2.y (i := 9) (Nx2.of (Z := Cls w [] [.sl v872 9 1 (l862.map SR), .sl v873 9 1 (l863.map SR), .sl v874 3 1 (l864.map I), .sl v875 9 1 (l865.map SR), .sl v859 9 1 (l850.map SR), .sl v860 9 1 (l851.map SR), .sl v861 75 2 (l852.map Twrite.row), .obj b84 [.int .i64 x83.Kind, .int .i64 x83.N, st x83.Text, gv (q3 gx49.toNat) 0] 39]) [] (by kernel_rfl) rfl (Zc.fin (fun _ hw => hw))) rfl rfl rfl (Y.assign rfl) ?_
               refine V2.done (by kernel_rfl) ?_
               refine E.blockN (E.thenN (W.seq (W.region (L.y rfl (Y.move rfl) ?_))))
               refine L.y rfl (Y.not rfl) ?_
               refine L.y rfl (Y.move rfl) ?_
               refine L.take rfl (L.y rfl (Y.move rfl) ?_)
               refine L.take rfl (L.y rfl (Y.eqlPN Tryd.underlying29 rfl rfl) ?_)
               refine L.y rfl (Y.pickF rfl rfl) ?_
               refine L.y rfl (Y.move rfl) ?_
               refine L.take rfl (L.y rfl (Y.move rfl) ?_)
               refine L.take rfl (L.callJ (fun v D => ∃ (gx101 : Int), v = .int .i64 gx101 ∧ D = Cls w [] [.obj gb42 [pt gb6 0, .int .i64 gx43, .int .i64 gx44, .int .i64 gx45, .int .i64 x867, .int .i64 x868, .bool b869] 68, .obj gb6 [v872, v873, v874, v875, .int .i64 x866] 48, .obj gb35 [pt gb1 0, .int .i64 gx36, .int .i64 gx37, .int .i64 gx38, .int .i64 x854, .int .i64 x855, .bool b856] 58, .obj gb1 [v859, v860, v861, .int .i64 x853] 54, .sl v872 9 1 (l862.map SR), .sl v873 9 1 (l863.map SR), .sl v874 3 1 (l864.map I), .sl v875 9 1 (l865.map SR), .sl v859 9 1 (l850.map SR), .sl v860 9 1 (l851.map SR), .sl v861 75 2 (l852.map Twrite.row)] ∧ m3_quirlaw_WalPlays_K39 gx44 x867 gx49 go2 gx36 gx37 gx38 x854 x855 b856 gx43 gx45 x868 b869 l862 l863 l864 l865 x866 l850 l851 l852 x853 gx101 = some r) rfl en18 rfl Tryd.func18 rfl rfl rfl ?_ ?_)
               ·
                refine W.seq (W.region (L.y rfl (Y.assign rfl) ?_))
                refine L.nil (E.thenN (W.seq (W.quietC mixed (by kernel_rfl) (fun _ hw => hw.drew) (fun hC => ?_))))
                refine U.y rfl (Y.move rfl) ?_
                refine U.y rfl (Y.nilCheck rfl) ?_
                refine U.y rfl (Y.fieldP fd58_2 rfl) ?_
                refine U.y rfl (Y.loadP (i := 6) ag3 rfl rfl rfl) ?_
                refine U.y rfl (Y.move rfl) ?_
                refine U.y rfl (Y.nilCheck rfl) ?_
                refine U.y rfl (Y.fieldP fd58_4 rfl) ?_
                refine U.y rfl (Y.loadP (i := 6) ag3 rfl rfl rfl) ?_
                refine U.m (V := fun x880 => .int .i64 x880) h rfl (Y.subM rfl rfl) (fun x880 ex880 h => ?_)
                refine U.y rfl (Y.assign rfl) ?_
                refine U.nil (E.thenN (W.ret (E.ret1 rfl rfl (fun w1 hw => ?_))))
                exact ⟨_, _, rfl, ⟨x880, rfl, rfl, h⟩, hw.sel [0, 1, 6, 7, 2, 3, 4, 5, 8, 9, 10] (by decide) rfl⟩
               ·
                rintro _ _ ⟨gx101, rfl, rfl, h⟩
                rw [m3_quirlaw_WalPlays_K39] at h
                refine L.take rfl (L.y rfl (Y.move rfl) ?_)
                refine L.take rfl (L.callJ (fun v D => ∃ (gx102 : Int), v = .int .i64 gx102 ∧ D = Cls w [] [.obj gb42 [pt gb6 0, .int .i64 gx43, .int .i64 gx44, .int .i64 gx45, .int .i64 x867, .int .i64 x868, .bool b869] 68, .obj gb6 [v872, v873, v874, v875, .int .i64 x866] 48, .obj gb35 [pt gb1 0, .int .i64 gx36, .int .i64 gx37, .int .i64 gx38, .int .i64 x854, .int .i64 x855, .bool b856] 58, .obj gb1 [v859, v860, v861, .int .i64 x853] 54, .sl v872 9 1 (l862.map SR), .sl v873 9 1 (l863.map SR), .sl v874 3 1 (l864.map I), .sl v875 9 1 (l865.map SR), .sl v859 9 1 (l850.map SR), .sl v860 9 1 (l851.map SR), .sl v861 75 2 (l852.map Twrite.row)] ∧ m3_quirlaw_WalPlays_K40 gx101 gx49 go2 gx36 gx37 gx38 x854 x855 b856 gx43 gx44 gx45 x867 x868 b869 l862 l863 l864 l865 x866 l850 l851 l852 x853 gx102 = some r) rfl en19 rfl Tryd.func19 rfl rfl rfl ?_ ?_)
                ·
                 refine W.seq (W.region (L.y rfl (Y.assign rfl) ?_))
                 refine L.nil (E.thenN (W.seq (W.quietC mixed (by kernel_rfl) (fun _ hw => hw.drew) (fun hC => ?_))))
                 refine U.y rfl (Y.move rfl) ?_
                 refine U.y rfl (Y.nilCheck rfl) ?_
                 refine U.y rfl (Y.fieldP fd68_2 rfl) ?_
                 refine U.y rfl (Y.loadP (i := 0) ag3 rfl rfl rfl) ?_
                 refine U.y rfl (Y.move rfl) ?_
                 refine U.y rfl (Y.nilCheck rfl) ?_
                 refine U.y rfl (Y.fieldP fd68_4 rfl) ?_
                 refine U.y rfl (Y.loadP (i := 0) ag3 rfl rfl rfl) ?_
                 refine U.m (V := fun x879 => .int .i64 x879) h rfl (Y.subM rfl rfl) (fun x879 ex879 h => ?_)
                 refine U.y rfl (Y.assign rfl) ?_
                 refine U.nil (E.thenN (W.ret (E.ret1 rfl rfl (fun w1 hw => ?_))))
                 exact ⟨_, _, rfl, ⟨x879, rfl, rfl, h⟩, hw⟩
                ·
                 rintro _ _ ⟨gx102, rfl, rfl, h⟩
                 rw [m3_quirlaw_WalPlays_K40] at h
                 refine L.take rfl (L.ite h rfl (Y.neq rfl rfl) (fun c877 h => ?_) (fun c877 h => ?_))
                 ·
                  refine L.y rfl (Y.pickF rfl rfl) ?_
                  refine L.nil (E.thenN (W.condT rfl ?_))
                  refine W.seq (W.region (L.y rfl (Y.assign rfl) ?_))
                  refine L.nil (E.thenN (W.ret (E.blockR (E.thenR (E.KLR (E.blockR (E.KSR (E.ret1 rfl rfl (fun w1 hw => ?_)))))))))
                  obtain rfl := Option.some.inj h
                  exact ⟨_, _, rfl, ⟨rfl, rfl⟩, hw.sel [] (by decide) rfl⟩
                 ·
                  refine L.y rfl (Y.pickF rfl rfl) ?_
                  refine L.nil (E.thenN (W.condF rfl ?_))
                  refine W.skip (E.blockN (E.thenN (W.region (L.m (V := fun x878 => .int .i64 x878) h rfl (Y.addM rfl rfl) (fun x878 ex878 h => ?_)))))
                  refine L.y rfl (Y.move rfl) ?_
                  exact L.nil (E.againJ ⟨gb35, gx36, gx37, gx38, x854, x855, b856, gb42, gx43, gx44, gx45, x867, x868, b869, x878, v872, l862, v873, l863, v874, l864, v875, l865, x866, v859, l850, v860, l851, v861, l852, x853, rfl, rfl, by rw [hg2]; exact h⟩ (Nat.lt_succ_self _) ⟨rfl, rfl, rfl, rfl, rfl, rfl, rfl, rfl, rfl, trivial⟩ (fun _ hw => hw.sel [1, 3, 2, 0, 4, 5, 6, 7, 8, 9, 10] (by decide) rfl))
              ·
               refine V2.y (i := 9) (Nx2.of (Z := Cls w [] [.sl v872 9 1 (l862.map SR), .sl v873 9 1 (l863.map SR), .sl v874 3 1 (l864.map I), .sl v875 9 1 (l865.map SR), .sl v859 9 1 (l850.map SR), .sl v860 9 1 (l851.map SR), .sl v861 75 2 (l852.map Twrite.row), .obj b84 [.int .i64 x83.Kind, .int .i64 x83.N, st x83.Text, gv (q3 gx49.toNat) 0] 39]) [] (by kernel_rfl) rfl (Zc.fin (fun _ hw => hw))) rfl rfl rfl (Y.assign rfl) ?_
               refine V2.done (by kernel_rfl) ?_
               refine E.blockN (E.thenN (W.seq (W.region (L.y rfl (Y.move rfl) ?_))))
               refine L.y rfl (Y.not rfl) ?_
               refine L.y rfl (Y.move rfl) ?_
               refine L.pass rfl rfl (by nofun) ?_
               refine L.pass rfl rfl (by nofun) ?_
               refine L.y rfl (Y.pickT rfl rfl) ?_
               refine L.y rfl (Y.move rfl) ?_
               refine L.pass rfl rfl (by nofun) ?_
               refine L.pass rfl rfl (by nofun) ?_
               refine L.pass rfl rfl (by nofun) ?_
               refine L.pass rfl rfl (by nofun) ?_
               refine L.pass rfl rfl (by nofun) ?_
               refine L.y rfl (Y.pickT rfl rfl) ?_
               refine L.nil (E.thenN (W.condT rfl ?_))
               refine W.seq (W.region (L.y rfl (Y.assign rfl) ?_))
               refine L.nil (E.thenN (W.ret (E.blockR (E.thenR (E.KLR (E.blockR (E.KSR (E.ret1 rfl rfl (fun w1 hw => ?_)))))))))
               obtain rfl := Option.some.inj h
               exact ⟨_, _, rfl, ⟨rfl, rfl⟩, hw.sel [] (by decide) rfl⟩
           ·
            refine L.nil (E.thenN (W.seq (W.condF rfl ?_)))
            exact W.exit (E.thenX (E.KLX (E.blockX (E.joinJ ⟨gv50, gl51, gv52, gl53, gv54, gl55, gv56, gl57, gx58, gv59, gl60, gv61, gl62, gv63, gl64, gx65, rfl, rfl, h⟩ ⟨rfl, rfl, trivial⟩ (fun _ hw => hw.sel [0, 1, 4, 5, 6, 7, 8, 9, 10] (by decide) rfl)))))
          ·
           rintro _ _ ⟨gv18, gl19, gv20, gl21, gv22, gl23, gv24, gl25, gx26, gv27, gl28, gv29, gl30, gv31, gl32, gx33, rfl, rfl, h⟩
           rw [m3_quirlaw_WalPlays_K12] at h
           refine W.seq (W.region (L.y rfl (Y.move rfl) ?_))
           refine L.callJ (fun v D => v = .tuple #[] ∧ D = Cls w [] [.obj gb6 [gv18, gv20, gv22, gv24, .int .i64 gx26] 48, .obj gb1 [gv27, gv29, gv31, .int .i64 (max (-1) (-1))] 54, .sl gv18 9 1 (gl19.map SR), .sl gv20 9 1 (gl21.map SR), .sl gv22 3 1 (gl23.map I), .sl gv24 9 1 (gl25.map SR), .sl gv27 9 1 (gl28.map SR), .sl gv29 9 1 (gl30.map SR), .sl gv31 75 2 (gl32.map Twrite.row)] ∧ m3_quirlaw_WalPlays_K13 gl19 gl28 gl30 gl32 = some r) rfl en20 rfl Tryd.func20 rfl rfl rfl ?_ ?_
           ·
            refine W.region (L.y rfl (Y.move rfl) ?_)
            refine L.y rfl (Y.move rfl) ?_
            refine L.y rfl (Y.max2 rfl rfl) ?_
            refine L.y rfl (Y.nilCheck rfl) ?_
            refine L.y rfl (Y.fieldP fd54_3 rfl) ?_
            refine L.store (i := 1) (vs := [.int .i64 (max (-1) (-1))]) sz3 rfl rfl rfl rfl (by simp [Value.oneCell', Value.cells, st, pt, el]) rfl (Nat.le_of_ble_eq_true rfl) ?_
            refine L.nil (E.end0 rfl (fun w1 hw => ?_))
            exact ⟨_, _, rfl, ⟨rfl, rfl, h⟩, hw⟩
           ·
            rintro _ _ ⟨rfl, rfl, h⟩
            rw [m3_quirlaw_WalPlays_K13] at h
            refine L.nil (E.thenN (W.seqJ (fun gs D => gs = [] ∧ D = Cls w [] [] ∧ m3_quirlaw_WalPlays_K14 = some r) ?_ ?_))
            ·
             refine W.seq (W.region (L.y rfl (Y.move rfl) ?_))
             refine L.y rfl (Y.nilCheck rfl) ?_
             refine L.y rfl (Y.fieldP fd48_0 rfl) ?_
             refine L.y rfl (Y.loadP (i := 0) ag30 rfl rfl rfl) ?_
             refine L.y rfl (Y.lenM (g := SR) (l := gl19) Tryd.underlying30 rfl (fun w hw => As.at_ (hw.get (i := 2) rfl))) ?_
             refine L.y rfl (Y.move rfl) ?_
             refine L.nil (E.thenN (W.block (W.loopJ (fun m gs D => ∃ (gx34 : Int), gs = [(9, pt gb1 0), (191, gv18), (192, .int .i64 (gl19.length : Int)), (193, .int .i64 gx34)] ∧ D = Cls w [] [.obj gb1 [gv27, gv29, gv31, .int .i64 (max (-1) (-1))] 54, .sl gv18 9 1 (gl19.map SR), .sl gv27 9 1 (gl28.map SR), .sl gv29 9 1 (gl30.map SR), .sl gv31 75 2 (gl32.map Twrite.row)] ∧ m3_quirlaw_WalPlays_L1 gl19 gl28 gl30 gl32 m gx34 = some r) ⟨0, rfl, rfl, h⟩ ⟨rfl, rfl, rfl, rfl, trivial⟩ (fun _ hw => hw.sel [1, 2, 6, 7, 8] (by decide) rfl) ?_)))
             rintro m _ _ ⟨gx34, rfl, rfl, h⟩
             rcases m with _ | m
             · rw [m3_quirlaw_WalPlays_L1] at h; cases h
             rw [m3_quirlaw_WalPlays_L1] at h
             generalize hg1 : m3_quirlaw_WalPlays_L1 gl19 gl28 gl30 gl32 m = go1 at h
             rw [m3_quirlaw_WalPlays_L1B] at h
             refine W.seq (W.region (L.ite h rfl (Y.lss rfl rfl) (fun c74 h => ?_) (fun c74 h => ?_)))
             ·
              refine L.nil (E.thenN (W.seq (W.condT rfl ?_)))
              refine W.skip (E.thenN (W.seq (W.block (W.seq (W.region (L.y rfl (Y.move rfl) ?_))))))
              refine L.m (V := fun _ => el gv18 (gx34.toNat * 1)) h rfl (Y.indexM (g := SR) (l := gl19) Tryd.underlying30 sz9 rfl rfl (fun w hw => As.at_ (hw.get (i := 1) rfl))) (fun x75 ex75 h => ?_)
              refine L.y rfl (Y.loadE1 (u := st x75) ag9 rfl (fun w hw => As.at_ (hw.get (i := 1) rfl)) (idx_map ex75)) ?_
              refine L.y rfl (Y.assign rfl) ?_
              refine L.y rfl (Y.assign rfl) ?_
              refine L.nil (E.thenN (W.seq (W.region (L.y rfl (Y.move rfl) ?_))))
              refine L.y rfl (Y.move rfl) ?_
              refine L.to (D := Cls w [] [.obj gb1 [gv27, gv29, gv31, .int .i64 (max (-1) (-1))] 54, .sl gv27 9 1 (gl28.map SR), .sl gv29 9 1 (gl30.map SR), .sl gv31 75 2 (gl32.map Twrite.row), .sl gv18 9 1 (gl19.map SR)]) (fun _ hw => hw.sel [0, 2, 3, 4, 1] (by decide) rfl) ?_
              obtain ⟨s76, x77, e78, h⟩ := bind2S h
              refine L.doesP (A := [.obj gb1 [gv27, gv29, gv31, .int .i64 (max (-1) (-1))] 54, .sl gv27 9 1 (gl28.map SR), .sl gv29 9 1 (gl30.map SR), .sl gv31 75 2 (gl32.map Twrite.row)]) (M := [.sl gv18 9 1 (gl19.map SR)]) rfl en21 rfl (fun w' hw => w21_sect_Disk_Read gl28 gl30 gl32 (max (-1) (-1)) gx34 gb1 gv27 gv29 gv31 w' _ e78 _ hw.lend) ?_
              rintro _ _ ⟨rfl, rfl⟩
              refine L.to (D := Cls w [] [.obj gb1 [gv27, gv29, gv31, .int .i64 (max (-1) (-1))] 54, .sl gv27 9 1 (gl28.map SR), .sl gv29 9 1 (gl30.map SR), .sl gv31 75 2 (gl32.map Twrite.row), .sl gv18 9 1 (gl19.map SR)]) (fun _ hw => hw) ?_
              refine L.y rfl (Y.move rfl) ?_
              refine L.y rfl (Y.extract rfl rfl) ?_
              refine L.y rfl (Y.extract rfl rfl) ?_
              refine L.y rfl (Y.assign rfl) ?_
              refine L.y rfl (Y.assign rfl) ?_
              refine L.nil (E.thenN (W.seq (W.region (L.y rfl (Y.move rfl) ?_))))
              refine L.ite h rfl (Y.neq rfl rfl) (fun c79 h => ?_) (fun c79 h => ?_)
              ·
               refine L.y rfl (Y.move rfl) ?_
               refine L.pass rfl rfl (by nofun) ?_
               refine L.pass rfl rfl (by nofun) ?_
               refine L.pass rfl rfl (by nofun) ?_
               refine L.y rfl (Y.pickT rfl rfl) ?_
               refine L.nil (E.thenN (W.condT rfl ?_))
               refine W.seq (W.region (L.y rfl (Y.assign rfl) ?_))
               refine L.nil (E.thenN (W.ret (E.blockR (E.thenR (E.KLR (E.blockR (E.KSR (E.ret1 rfl rfl (fun w1 hw => ?_)))))))))
               obtain rfl := Option.some.inj h
               exact ⟨_, _, rfl, ⟨rfl, rfl⟩, hw.sel [] (by decide) rfl⟩
              ·
               refine L.y rfl (Y.move rfl) ?_
               refine L.take rfl (L.y rfl (Y.move rfl) ?_)
               refine L.take rfl (L.y rfl (Y.move rfl) ?_)
               refine L.take rfl (L.ite h rfl (Y.neqS rfl rfl) (fun c80 h => ?_) (fun c80 h => ?_))
               ·
                refine L.y rfl (Y.pickF rfl rfl) ?_
                refine L.nil (E.thenN (W.condT rfl ?_))
                refine W.seq (W.region (L.y rfl (Y.assign rfl) ?_))
                refine L.nil (E.thenN (W.ret (E.blockR (E.thenR (E.KLR (E.blockR (E.KSR (E.ret1 rfl rfl (fun w1 hw => ?_)))))))))
                obtain rfl := Option.some.inj h
                exact ⟨_, _, rfl, ⟨rfl, rfl⟩, hw.sel [] (by decide) rfl⟩
               ·
                refine L.y rfl (Y.pickF rfl rfl) ?_
                refine L.nil (E.thenN (W.condF rfl ?_))
                refine W.skip (E.blockN (E.thenN (W.region (L.m (V := fun x81 => .int .i64 x81) h rfl (Y.addM rfl rfl) (fun x81 ex81 h => ?_)))))
                refine L.y rfl (Y.move rfl) ?_
                exact L.nil (E.againJ ⟨x81, rfl, rfl, by rw [hg1]; exact h⟩ (Nat.lt_succ_self _) ⟨rfl, rfl, rfl, rfl, trivial⟩ (fun _ hw => hw.sel [0, 4, 1, 2, 3] (by decide) rfl))
             ·
              refine L.nil (E.thenN (W.seq (W.condF rfl ?_)))
              exact W.exit (E.thenX (E.KLX (E.blockX (E.joinJ ⟨rfl, rfl, h⟩ trivial (fun _ hw => hw.sel [] (by decide) rfl)))))
            ·
             rintro _ _ ⟨rfl, rfl, h⟩
             rw [m3_quirlaw_WalPlays_K14] at h
             refine W.seq (W.region (L.y rfl (Y.assign rfl) ?_))
             refine L.nil (E.thenN (W.ret (E.ret1 rfl rfl (fun w1 hw => ?_))))
             obtain rfl := Option.some.inj h
             exact ⟨_, _, rfl, ⟨rfl, rfl⟩, hw⟩
end Go.Proofs.YtinchlfaepjfiaaDoor
