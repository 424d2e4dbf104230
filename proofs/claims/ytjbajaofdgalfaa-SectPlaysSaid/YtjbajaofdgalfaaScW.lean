/-
  Walks, printed by a program of mine.
  Conditions: none.
-/
import Derived.Test.YtjbajaofdgalfaaScW1
import Derived.Test.YtjbajaofdgalfaaChecked
import Derived.KernelRfl
import Derived.Test.YtjbajaofdgalfaaSh
namespace Go.Proofs.Ytjbajaofdgalfaa
open Go.S
set_option linter.unusedVariables false
set_option linter.unusedSimpArgs false
set_option maxRecDepth 100000 in
set_option maxHeartbeats 8000000 in
theorem w3_quirlaw_SectPlays (a0 : Int) (a1 : (List TDeed)) (u1 : Value) (q1 : Nat → List Value) (w : World) (r : Bool) (h : m3_quirlaw_SectPlays a0 a1 = some r) (hA1 : At w u1 4 (zr TDeed.rowv q1 a1)) (hD1 : ∀ d ∈ zs TDeed.sds q1 a1, At w d.v d.k d.rows) : Does Try.prog 3 [.int .i64 a0, u1] w fun u m => u = .bool r ∧ m = [] := by
  rw [m3_quirlaw_SectPlays] at h
  refine body (n := 83) Try.func3 rfl rfl rfl (Cls.refl w) ?_
  refine W.seq (W.region (L.y rfl (Y.assign rfl) ?_))
  refine L.nil (E.thenN (W.seq (W.region (L.y rfl (Y.move rfl) ?_))))
  refine L.callJ (fun v D => (v = .tuple #[.pointer none, .int .i64 1] ∧ D = Cls w [] [] ∧ m3_quirlaw_SectPlays_K1 a0 = some r) ∨ (∃ (gb1 : Nat) (gv2 : Value) (gl3 : (List (List UInt8))) (gv4 : Value) (gl5 : (List (List UInt8))), v = .tuple #[pt gb1 0, .int .i64 0] ∧ D = Cls w [] [.sl gv2 9 1 (gl3.map SR), .sl gv4 9 1 (gl5.map SR), .obj gb1 [gv2, gv4, .slice none 0 0, .int .i64 (-1)] 167] ∧ m3_quirlaw_SectPlays_K4 a0 a1 gl3 gl5 = some r)) rfl en15 rfl Try.func15 rfl rfl rfl ?_ ?_
  ·
   refine W.seq (W.region (L.y rfl (Y.assign rfl) ?_))
   refine L.y rfl (Y.assign rfl) ?_
   refine L.nil (E.thenN (W.seqJ (fun gs D => gs = [(0, .int .i64 a0)] ∧ D = Cls w [] [] ∧ m3_quirlaw_SectPlays_K50 a0 a1 = some r) ?_ ?_))
   ·
    refine W.seq (W.region (L.y rfl (Y.move rfl) ?_))
    refine L.ite h rfl (Y.lss rfl rfl) (fun c205 h => ?_) (fun c205 h => ?_)
    ·
     refine L.y rfl (Y.move rfl) ?_
     refine L.pass rfl rfl (by nofun) ?_
     refine L.pass rfl rfl (by nofun) ?_
     refine L.y rfl (Y.pickT rfl rfl) ?_
     refine L.nil (E.thenN (W.condT rfl ?_))
     refine W.seq (W.region (L.y rfl (Y.assign rfl) ?_))
     refine L.y rfl (Y.assign rfl) ?_
     refine L.nil (E.thenN (W.ret (E.KSR (E.ret2 rfl rfl rfl (fun w1 hw => ?_)))))
     exact ⟨_, _, rfl, .inl ⟨rfl, rfl, h⟩, hw⟩
    ·
     refine L.y rfl (Y.move rfl) ?_
     refine L.take rfl (L.y rfl (Y.move rfl) ?_)
     refine L.take rfl (L.ite h rfl (Y.gtr rfl rfl) (fun c206 h => ?_) (fun c206 h => ?_))
     ·
      refine L.y rfl (Y.pickF rfl rfl) ?_
      refine L.nil (E.thenN (W.condT rfl ?_))
      refine W.seq (W.region (L.y rfl (Y.assign rfl) ?_))
      refine L.y rfl (Y.assign rfl) ?_
      refine L.nil (E.thenN (W.ret (E.KSR (E.ret2 rfl rfl rfl (fun w1 hw => ?_)))))
      exact ⟨_, _, rfl, .inl ⟨rfl, rfl, h⟩, hw⟩
     ·
      refine L.y rfl (Y.pickF rfl rfl) ?_
      refine L.nil (E.thenN (W.condF rfl ?_))
      exact W.skip (E.joinJ ⟨rfl, rfl, h⟩ ⟨rfl, trivial⟩ (fun _ hw => hw))
   ·
    rintro _ _ ⟨rfl, rfl, h⟩
    rw [m3_quirlaw_SectPlays_K50] at h
    refine W.seq (W.region (L.y rfl (Y.build (cells := #[.slice none 0 0, .slice none 0 0, .slice none 0 0, .int .i64 (-1)]) rfl (by kernel_rfl)) ?_))
    refine L.box rfl rfl ?_
    intro b184
    refine L.y rfl (Y.assign rfl) ?_
    refine L.nil (E.thenN (W.seqJ (fun gs D => ∃ (gv215 : Value) (gl216 : (List (List UInt8))), gs = [(4, pt b184 0)] ∧ D = Cls w [] [.obj b184 [gv215, .slice none 0 0, .slice none 0 0, .int .i64 (-1)] 167, .sl gv215 9 1 (gl216.map SR)] ∧ m3_quirlaw_SectPlays_K51 a0 a1 gl216 = some r) ?_ ?_))
    ·
     refine W.seq (W.region (L.y rfl (Y.move rfl) ?_))
     refine L.y rfl (Y.move rfl) ?_
     refine L.nil (E.thenN (W.block (W.nilSl 9 1 ?_)))
     refine W.loopJ (fun m gs D => ∃ (gx217 : Int) (gv218 : Value) (gl219 : (List (List UInt8))), gs = [(4, pt b184 0), (13, .int .i64 a0), (14, .int .i64 gx217)] ∧ D = Cls w [] [.obj b184 [gv218, .slice none 0 0, .slice none 0 0, .int .i64 (-1)] 167, .sl gv218 9 1 (gl219.map SR)] ∧ m3_quirlaw_SectPlays_L6 a0 a1 m gx217 gl219 = some r) ⟨0, .slice none 0 0, [], rfl, rfl, h⟩ ⟨rfl, rfl, rfl, trivial⟩ (fun _ hw => hw.sel [1, 0] (by decide) rfl) ?_
     rintro m _ _ ⟨gx217, gv218, gl219, rfl, rfl, h⟩
     rcases m with _ | m
     · rw [m3_quirlaw_SectPlays_L6] at h; cases h
     rw [m3_quirlaw_SectPlays_L6] at h
     generalize hg6 : m3_quirlaw_SectPlays_L6 a0 a1 m = go6 at h
     rw [m3_quirlaw_SectPlays_L6B] at h
     refine W.seq (W.region (L.ite h rfl (Y.lss rfl rfl) (fun c188 h => ?_) (fun c188 h => ?_)))
     ·
      refine L.nil (E.thenN (W.seq (W.condT rfl ?_)))
      refine W.skip (E.thenN (W.seq (W.block (W.drawn2 (k := 11) (stC [[7, 10], [10]] [Cls w [] [.obj b184 [gv218, .slice none 0 0, .slice none 0 0, .int .i64 (-1)] 167, .sl gv218 9 1 (gl219.map SR)], Cls w [] [.obj b184 [gv218, .slice none 0 0, .slice none 0 0, .int .i64 (-1)] 167]] (Cls w [] [])) rfl mixed (fun _ hw => hw.drew) (Sc.now (by kernel_rfl) (fun _ hw => hw)) ?_))))
      refine V2.y (i := 0) (Nx2.of (Z := Cls w [] []) [] (by kernel_rfl) rfl (Zc.on (fun _ hw => hw.sel [] (by decide) rfl) (Zc.on (fun _ hw => hw.sel [] (by decide) rfl) (Zc.fin (fun _ hw => hw))))) rfl rfl rfl (Y.move rfl) ?_
      refine V2.y (i := 1) (Nx2.of (Z := Cls w [] []) [] (by kernel_rfl) rfl (Zc.on (fun _ hw => hw.sel [] (by decide) rfl) (Zc.on (fun _ hw => hw.sel [] (by decide) rfl) (Zc.fin (fun _ hw => hw))))) rfl rfl rfl (Y.move rfl) ?_
      refine V2.nilc (i := 2) (Nx2.of (Z := Cls w [] []) [] (by kernel_rfl) rfl (Zc.on (fun _ hw => hw.sel [] (by decide) rfl) (Zc.on (fun _ hw => hw.sel [] (by decide) rfl) (Zc.fin (fun _ hw => hw))))) rfl rfl rfl ?_
      refine V2.y (i := 3) (Nx2.of (Z := Cls w [] []) [] (by kernel_rfl) rfl (Zc.on (fun _ hw => hw.sel [] (by decide) rfl) (Zc.on (fun _ hw => hw.sel [] (by decide) rfl) (Zc.fin (fun _ hw => hw))))) rfl rfl rfl (Y.fieldP fd167_0 rfl) ?_
      refine V2.y (i := 4) (Nx2.of (Z := Cls w [] [.obj b184 [gv218, .slice none 0 0, .slice none 0 0, .int .i64 (-1)] 167]) [10] (by kernel_rfl) rfl (Zc.on (fun _ hw => hw.sel [0] (by decide) rfl) (Zc.at1 (fun _ hw => hw)))) rfl rfl rfl (Y.loadP (i := 0) ag35 rfl rfl rfl) ?_
      refine V2.eff (i := 5) (by kernel_rfl) rfl ?_
      obtain ⟨s199, e200, h⟩ := bind1S h
      refine L.y rfl (Y.does en97 rfl (fun w' hw => (wRepeat ([0]) 64 w' _ e200).mono (fun _ _ h => h.1))) ?_
      refine L.nil (E.toV2 (stC [[7, 10], [10]] [Cls w [] [.obj b184 [gv218, .slice none 0 0, .slice none 0 0, .int .i64 (-1)] 167, .sl gv218 9 1 (gl219.map SR)], Cls w [] [.obj b184 [gv218, .slice none 0 0, .slice none 0 0, .int .i64 (-1)] 167]] (Cls w [] [])) 5 (by kernel_rfl) (Sc.stay (fun _ hw => hw) (Sc.stay (fun _ hw => hw) (Sc.stayD (fun _ hw => hw)))) (Sc.now (by kernel_rfl) (fun _ hw => hw)) ?_)
      refine V2.eff (i := 6) (by kernel_rfl) rfl ?_
      refine L.litOne rfl Try.underlying35 el9 rfl rfl ?_
      intro b201
      refine L.nil (E.toV2 (stC [[7, 10], [10]] [Cls w [] [.sl (sv b201 1) 9 1 (([s199]).map SR), .obj b184 [gv218, .slice none 0 0, .slice none 0 0, .int .i64 (-1)] 167, .sl gv218 9 1 (gl219.map SR)], Cls w [] [.sl (sv b201 1) 9 1 (([s199]).map SR), .obj b184 [gv218, .slice none 0 0, .slice none 0 0, .int .i64 (-1)] 167]] (Cls w [] [.sl (sv b201 1) 9 1 (([s199]).map SR)])) 6 (by kernel_rfl) (Sc.stay (fun _ hw => hw.sel [1, 2] (by decide) rfl) (Sc.stay (fun _ hw => hw.sel [1] (by decide) rfl) (Sc.stayD (fun _ hw => hw.sel [] (by decide) rfl)))) (Sc.now (by kernel_rfl) (fun _ hw => hw)) ?_)
      refine V2.eff (i := 7) (by kernel_rfl) rfl ?_
      refine L.appM (i := 2) (g := SR) (l := gl219) (more := [s199]) h rfl Try.underlying35 el9 rfl rfl rfl (fun w hw => As.at_ (hw.get (i := 0) rfl)) (plain_SR _) rfl ?_
      intro v202 l203 el203 h
      refine L.nil (E.toV2 (stC [[10]] [Cls w [] [.sl v202 9 1 (l203.map SR), .sl (sv b201 1) 9 1 (([s199]).map SR), .obj b184 [gv218, .slice none 0 0, .slice none 0 0, .int .i64 (-1)] 167]] (Cls w [] [.sl v202 9 1 (l203.map SR), .sl (sv b201 1) 9 1 (([s199]).map SR)])) 7 (by kernel_rfl) (Sc.past rfl (Sc.stay (fun _ hw => hw.sel [1, 2] (by decide) rfl) (Sc.stayD (fun _ hw => hw.sel [1] (by decide) rfl)))) (Sc.now (by kernel_rfl) (fun _ hw => hw)) ?_)
      refine V2.nilc (i := 8) (Nx2.of (Z := Cls w [] [.sl v202 9 1 (l203.map SR), .sl (sv b201 1) 9 1 (([s199]).map SR)]) [] (by kernel_rfl) rfl (Zc.on (fun _ hw => hw.sel [0, 1] (by decide) rfl) (Zc.fin (fun _ hw => hw)))) rfl rfl rfl ?_
      refine V2.y (i := 9) (Nx2.of (Z := Cls w [] [.sl v202 9 1 (l203.map SR), .sl (sv b201 1) 9 1 (([s199]).map SR)]) [] (by kernel_rfl) rfl (Zc.on (fun _ hw => hw.sel [0, 1] (by decide) rfl) (Zc.fin (fun _ hw => hw)))) rfl rfl rfl (Y.fieldP fd167_0 rfl) ?_
      refine V2.eff (i := 10) (by kernel_rfl) rfl ?_
      refine L.storeV (i := 2) sz35 rfl rfl (fun _ hw => (As.at_ (hw.get (i := 0) rfl)).one) rfl (Nat.le_of_ble_eq_true rfl) ?_
      refine L.nil (E.toV2 (stC [] [] (Cls w [] [.sl v202 9 1 (l203.map SR), .sl (sv b201 1) 9 1 (([s199]).map SR)])) 10 (by kernel_rfl) (Sc.past rfl (Sc.stayD (fun _ hw => hw))) (Sc.atD (fun _ hw => hw.sel [0, 1] (by decide) rfl)) ?_)
      refine V2.done (by kernel_rfl) ?_
      refine E.blockN (E.thenN (W.region (L.m (V := fun x204 => .int .i64 x204) h rfl (Y.addM rfl rfl) (fun x204 ex204 h => ?_))))
      refine L.y rfl (Y.move rfl) ?_
      exact L.nil (E.againJ ⟨x204, v202, l203, rfl, rfl, by rw [hg6]; exact h⟩ (Nat.lt_succ_self _) ⟨rfl, rfl, rfl, trivial⟩ (fun _ hw => hw.sel [2, 0] (by decide) rfl))
     ·
      refine L.nil (E.thenN (W.seq (W.condF rfl ?_)))
      exact W.exit (E.thenX (E.KLX (E.blockX (E.joinJ ⟨gv218, gl219, rfl, rfl, h⟩ ⟨rfl, trivial⟩ (fun _ hw => hw)))))
    ·
     rintro _ _ ⟨gv215, gl216, rfl, rfl, h⟩
     rw [m3_quirlaw_SectPlays_K51] at h
     refine W.seq (W.region (L.y rfl (Y.move rfl) ?_))
     refine L.lit0 rfl Try.underlying35 el9 ?_
     intro b185
     refine L.y rfl (Y.move rfl) ?_
     refine L.y rfl (Y.nilCheck rfl) ?_
     refine L.y rfl (Y.fieldP fd167_0 rfl) ?_
     refine L.y rfl (Y.loadP (i := 1) ag35 rfl rfl rfl) ?_
     refine L.appM (i := 0) (g := SR) (l := []) (more := gl216) h rfl Try.underlying35 el9 rfl rfl rfl (fun w hw => As.at_ (hw.get (i := 2) rfl)) (plain_SR _) rfl ?_
     intro v186 l187 el187 h
     refine L.y rfl (Y.nilCheck rfl) ?_
     refine L.y rfl (Y.fieldP fd167_1 rfl) ?_
     refine L.storeV (i := 1) sz35 rfl rfl (fun _ hw => (As.at_ (hw.get (i := 0) rfl)).one) rfl (Nat.le_of_ble_eq_true rfl) ?_
     refine L.nil (E.thenN (W.seq (W.region (L.y rfl (Y.move rfl) ?_))))
     refine L.y rfl (Y.assign rfl) ?_
     refine L.y rfl (Y.assign rfl) ?_
     refine L.nil (E.thenN (W.ret (E.ret2 rfl rfl rfl (fun w1 hw => ?_))))
     exact ⟨_, _, rfl, .inr (⟨b184, gv215, gl216, v186, l187, rfl, rfl, h⟩), hw.sel [2, 0, 1] (by decide) rfl⟩
  ·
   rintro _ _ (⟨rfl, rfl, h⟩ | ⟨gb1, gv2, gl3, gv4, gl5, rfl, rfl, h⟩)
   ·
    rw [m3_quirlaw_SectPlays_K1] at h
    refine L.y rfl (Y.move rfl) ?_
    refine L.y rfl (Y.extract rfl rfl) ?_
    refine L.y rfl (Y.extract rfl rfl) ?_
    refine L.y rfl (Y.assign rfl) ?_
    refine L.y rfl (Y.assign rfl) ?_
    refine L.nil (E.thenN (W.seqJ (fun gs D => gs = [(0, .int .i64 a0), (1, u1), (5, .pointer none), (6, .int .i64 1)] ∧ D = Cls w [] [] ∧ m3_quirlaw_SectPlays_K2 = some r) ?_ ?_))
    ·
     refine W.seqJ (fun gs D => ∃ (gb6 : Bool), gs = [(0, .int .i64 a0), (1, u1), (5, .pointer none), (6, .int .i64 1), (24, .bool gb6)] ∧ D = Cls w [] [] ∧ m3_quirlaw_SectPlays_K3 gb6 = some r) ?_ ?_
     ·
      refine W.region (L.y rfl (Y.move rfl) ?_)
      refine L.ite h rfl (Y.lss rfl rfl) (fun c2 h => ?_) (fun c2 h => ?_)
      ·
       refine L.y rfl (Y.move rfl) ?_
       refine L.pass rfl rfl (by nofun) ?_
       refine L.pass rfl rfl (by nofun) ?_
       refine L.y rfl (Y.pickT rfl rfl) ?_
       exact L.nil (E.joinJ ⟨true, rfl, rfl, h⟩ ⟨rfl, rfl, rfl, rfl, rfl, trivial⟩ (fun _ hw => hw))
      ·
       refine L.y rfl (Y.move rfl) ?_
       refine L.take rfl (L.y rfl (Y.move rfl) ?_)
       refine L.take rfl (L.ite h rfl (Y.gtr rfl rfl) (fun c3 h => ?_) (fun c3 h => ?_))
       ·
        refine L.y rfl (Y.pickF rfl rfl) ?_
        exact L.nil (E.joinJ ⟨true, rfl, rfl, h⟩ ⟨rfl, rfl, rfl, rfl, rfl, trivial⟩ (fun _ hw => hw))
       ·
        refine L.y rfl (Y.pickF rfl rfl) ?_
        exact L.nil (E.joinJ ⟨false, rfl, rfl, h⟩ ⟨rfl, rfl, rfl, rfl, rfl, trivial⟩ (fun _ hw => hw))
     ·
      rintro _ _ ⟨gb6, rfl, rfl, h⟩
      rw [m3_quirlaw_SectPlays_K3] at h
      rcases gb6 with _ | _
      ·
       replace h := iteF h
       refine W.condF rfl ?_
       exact W.skip (E.joinJ ⟨rfl, rfl, h⟩ ⟨rfl, rfl, rfl, rfl, trivial⟩ (fun _ hw => hw))
      ·
       replace h := iteT h
       refine W.condT rfl ?_
       refine W.seq (W.region (L.y rfl (Y.move rfl) ?_))
       refine L.y rfl (Y.eqlNN Try.underlying23 rfl rfl) ?_
       refine L.y rfl (Y.move rfl) ?_
       refine L.take rfl (L.y rfl (Y.move rfl) ?_)
       refine L.take rfl (L.y rfl (Y.eql rfl rfl) ?_)
       refine L.y rfl (Y.pickT rfl rfl) ?_
       refine L.y rfl (Y.assign rfl) ?_
       refine L.nil (E.thenN (W.ret (E.KSR (E.ret1 rfl rfl (fun w1 hw => ?_)))))
       obtain rfl := Option.some.inj h
       exact ⟨_, _, rfl, ⟨rfl, rfl⟩, hw⟩
    ·
     rintro _ _ ⟨rfl, rfl, h⟩
     rw [m3_quirlaw_SectPlays_K2] at h
     refine W.seq (W.seq (W.region (L.y rfl (Y.move rfl) ?_)))
     refine L.ite h rfl (Y.neq rfl rfl) (fun c1 h => ?_) (fun c1 h => ?_)
     ·
      refine L.y rfl (Y.move rfl) ?_
      refine L.pass rfl rfl (by nofun) ?_
      refine L.pass rfl rfl (by nofun) ?_
      refine L.y rfl (Y.pickT rfl rfl) ?_
      refine L.y rfl (Y.move rfl) ?_
      refine L.pass rfl rfl (by nofun) ?_
      refine L.pass rfl rfl (by nofun) ?_
      refine L.pass rfl rfl (by nofun) ?_
      refine L.pass rfl rfl (by nofun) ?_
      refine L.y rfl (Y.pickT rfl rfl) ?_
      refine L.nil (E.thenN (W.condT rfl ?_))
      refine W.seq (W.region (L.y rfl (Y.assign rfl) ?_))
      refine L.nil (E.thenN (W.ret (E.thenR (E.ret1 rfl rfl (fun w1 hw => ?_)))))
      obtain rfl := Option.some.inj h
      exact ⟨_, _, rfl, ⟨rfl, rfl⟩, hw⟩
     ·
      refine L.y rfl (Y.move rfl) ?_
      refine L.take rfl (L.y rfl (Y.move rfl) ?_)
      refine L.take rfl (L.y rfl (Y.eqlNN Try.underlying23 rfl rfl) ?_)
      refine L.y rfl (Y.pickF rfl rfl) ?_
      refine L.y rfl (Y.move rfl) ?_
      refine L.pass rfl rfl (by nofun) ?_
      refine L.pass rfl rfl (by nofun) ?_
      refine L.pass rfl rfl (by nofun) ?_
      refine L.pass rfl rfl (by nofun) ?_
      refine L.y rfl (Y.pickT rfl rfl) ?_
      refine L.nil (E.thenN (W.condT rfl ?_))
      refine W.seq (W.region (L.y rfl (Y.assign rfl) ?_))
      refine L.nil (E.thenN (W.ret (E.thenR (E.ret1 rfl rfl (fun w1 hw => ?_)))))
      obtain rfl := Option.some.inj h
      exact ⟨_, _, rfl, ⟨rfl, rfl⟩, hw⟩
   ·
    rw [m3_quirlaw_SectPlays_K4] at h
    refine L.y rfl (Y.move rfl) ?_
    refine L.y rfl (Y.extract rfl rfl) ?_
    refine L.y rfl (Y.extract rfl rfl) ?_
    refine L.y rfl (Y.assign rfl) ?_
    refine L.y rfl (Y.assign rfl) ?_
    refine L.nil (E.thenN (W.seqJ (fun gs D => gs = [(0, .int .i64 a0), (1, u1), (5, pt gb1 0), (6, .int .i64 0)] ∧ D = Cls w [] [.obj gb1 [gv2, gv4, .slice none 0 0, .int .i64 (-1)] 167, .sl gv2 9 1 (gl3.map SR), .sl gv4 9 1 (gl5.map SR)] ∧ m3_quirlaw_SectPlays_K5 gl3 a0 a1 gl5 = some r) ?_ ?_))
    ·
     refine W.seqJ (fun gs D => ∃ (gb214 : Bool), gs = [(0, .int .i64 a0), (1, u1), (5, pt gb1 0), (6, .int .i64 0), (24, .bool gb214)] ∧ D = Cls w [] [.obj gb1 [gv2, gv4, .slice none 0 0, .int .i64 (-1)] 167, .sl gv2 9 1 (gl3.map SR), .sl gv4 9 1 (gl5.map SR)] ∧ m3_quirlaw_SectPlays_K49 gl3 a0 a1 gl5 gb214 = some r) ?_ ?_
     ·
      refine W.region (L.y rfl (Y.move rfl) ?_)
      refine L.ite h rfl (Y.lss rfl rfl) (fun c182 h => ?_) (fun c182 h => ?_)
      ·
       refine L.y rfl (Y.move rfl) ?_
       refine L.pass rfl rfl (by nofun) ?_
       refine L.pass rfl rfl (by nofun) ?_
       refine L.y rfl (Y.pickT rfl rfl) ?_
       exact L.nil (E.joinJ ⟨true, rfl, rfl, h⟩ ⟨rfl, rfl, rfl, rfl, rfl, trivial⟩ (fun _ hw => hw.sel [2, 0, 1] (by decide) rfl))
      ·
       refine L.y rfl (Y.move rfl) ?_
       refine L.take rfl (L.y rfl (Y.move rfl) ?_)
       refine L.take rfl (L.ite h rfl (Y.gtr rfl rfl) (fun c183 h => ?_) (fun c183 h => ?_))
       ·
        refine L.y rfl (Y.pickF rfl rfl) ?_
        exact L.nil (E.joinJ ⟨true, rfl, rfl, h⟩ ⟨rfl, rfl, rfl, rfl, rfl, trivial⟩ (fun _ hw => hw.sel [2, 0, 1] (by decide) rfl))
       ·
        refine L.y rfl (Y.pickF rfl rfl) ?_
        exact L.nil (E.joinJ ⟨false, rfl, rfl, h⟩ ⟨rfl, rfl, rfl, rfl, rfl, trivial⟩ (fun _ hw => hw.sel [2, 0, 1] (by decide) rfl))
     ·
      rintro _ _ ⟨gb214, rfl, rfl, h⟩
      rw [m3_quirlaw_SectPlays_K49] at h
      rcases gb214 with _ | _
      ·
       replace h := iteF h
       refine W.condF rfl ?_
       exact W.skip (E.joinJ ⟨rfl, rfl, h⟩ ⟨rfl, rfl, rfl, rfl, trivial⟩ (fun _ hw => hw))
      ·
       replace h := iteT h
       refine W.condT rfl ?_
       refine W.seq (W.region (L.y rfl (Y.move rfl) ?_))
       refine L.y rfl (Y.eqlPN Try.underlying23 rfl rfl) ?_
       refine L.y rfl (Y.move rfl) ?_
       refine L.pass rfl rfl (by nofun) ?_
       refine L.pass rfl rfl (by nofun) ?_
       refine L.y rfl (Y.pickF rfl rfl) ?_
       refine L.y rfl (Y.assign rfl) ?_
       refine L.nil (E.thenN (W.ret (E.KSR (E.ret1 rfl rfl (fun w1 hw => ?_)))))
       obtain rfl := Option.some.inj h
       exact ⟨_, _, rfl, ⟨rfl, rfl⟩, hw.sel [] (by decide) rfl⟩
    ·
     rintro _ _ ⟨rfl, rfl, h⟩
     rw [m3_quirlaw_SectPlays_K5] at h
     refine W.seqJ (fun gs D => gs = [(0, .int .i64 a0), (1, u1), (5, pt gb1 0)] ∧ D = Cls w [] [.obj gb1 [gv2, gv4, .slice none 0 0, .int .i64 (-1)] 167, .sl gv2 9 1 (gl3.map SR), .sl gv4 9 1 (gl5.map SR)] ∧ m3_quirlaw_SectPlays_K6 a0 a1 gl3 gl5 = some r) ?_ ?_
     ·
      refine W.seq (W.region (L.y rfl (Y.move rfl) ?_))
      refine L.ite h rfl (Y.neq rfl rfl) (fun c180 h => ?_) (fun c180 h => ?_)
      ·
       refine L.y rfl (Y.move rfl) ?_
       refine L.pass rfl rfl (by nofun) ?_
       refine L.pass rfl rfl (by nofun) ?_
       refine L.y rfl (Y.pickT rfl rfl) ?_
       refine L.y rfl (Y.move rfl) ?_
       refine L.pass rfl rfl (by nofun) ?_
       refine L.pass rfl rfl (by nofun) ?_
       refine L.pass rfl rfl (by nofun) ?_
       refine L.pass rfl rfl (by nofun) ?_
       refine L.y rfl (Y.pickT rfl rfl) ?_
       refine L.nil (E.thenN (W.condT rfl ?_))
       refine W.seq (W.region (L.y rfl (Y.assign rfl) ?_))
       refine L.nil (E.thenN (W.ret (E.KSR (E.ret1 rfl rfl (fun w1 hw => ?_)))))
       obtain rfl := Option.some.inj h
       exact ⟨_, _, rfl, ⟨rfl, rfl⟩, hw.sel [] (by decide) rfl⟩
      ·
       refine L.y rfl (Y.move rfl) ?_
       refine L.take rfl (L.y rfl (Y.move rfl) ?_)
       refine L.take rfl (L.y rfl (Y.eqlPN Try.underlying23 rfl rfl) ?_)
       refine L.y rfl (Y.pickF rfl rfl) ?_
       refine L.y rfl (Y.move rfl) ?_
       refine L.take rfl (L.y rfl (Y.move rfl) ?_)
       refine L.take rfl (L.callJ (fun v D => v = .int .i64 (gl3.length : Int) ∧ D = Cls w [] [.obj gb1 [gv2, gv4, .slice none 0 0, .int .i64 (-1)] 167, .sl gv2 9 1 (gl3.map SR), .sl gv4 9 1 (gl5.map SR)] ∧ m3_quirlaw_SectPlays_K48 gl3 a0 a1 gl5 = some r) rfl en16 rfl Try.func16 rfl rfl rfl ?_ ?_)
       ·
        refine W.seq (W.region (L.y rfl (Y.assign rfl) ?_))
        refine L.nil (E.thenN (W.seq (W.region (L.y rfl (Y.move rfl) ?_))))
        refine L.y rfl (Y.nilCheck rfl) ?_
        refine L.y rfl (Y.fieldP fd167_0 rfl) ?_
        refine L.y rfl (Y.loadP (i := 0) ag35 rfl rfl rfl) ?_
        refine L.y rfl (Y.lenM (g := SR) (l := gl3) Try.underlying35 rfl (fun w hw => As.at_ (hw.get (i := 1) rfl))) ?_
        refine L.y rfl (Y.assign rfl) ?_
        refine L.nil (E.thenN (W.ret (E.ret1 rfl rfl (fun w1 hw => ?_))))
        exact ⟨_, _, rfl, ⟨rfl, rfl, h⟩, hw⟩
       ·
        rintro _ _ ⟨rfl, rfl, h⟩
        rw [m3_quirlaw_SectPlays_K48] at h
        refine L.take rfl (L.y rfl (Y.move rfl) ?_)
        refine L.take rfl (L.ite h rfl (Y.neq rfl rfl) (fun c181 h => ?_) (fun c181 h => ?_))
        ·
         refine L.y rfl (Y.pickF rfl rfl) ?_
         refine L.nil (E.thenN (W.condT rfl ?_))
         refine W.seq (W.region (L.y rfl (Y.assign rfl) ?_))
         refine L.nil (E.thenN (W.ret (E.KSR (E.ret1 rfl rfl (fun w1 hw => ?_)))))
         obtain rfl := Option.some.inj h
         exact ⟨_, _, rfl, ⟨rfl, rfl⟩, hw.sel [] (by decide) rfl⟩
        ·
         refine L.y rfl (Y.pickF rfl rfl) ?_
         refine L.nil (E.thenN (W.condF rfl ?_))
         exact W.skip (E.joinJ ⟨rfl, rfl, h⟩ ⟨rfl, rfl, rfl, trivial⟩ (fun _ hw => hw))
     ·
      rintro _ _ ⟨rfl, rfl, h⟩
      rw [m3_quirlaw_SectPlays_K6] at h
      refine W.seq (W.region (L.y rfl (Y.move rfl) ?_))
      refine L.callJ (fun v D => ∃ (gb7 : Nat) (gv8 : Value) (gl9 : (List (List UInt8))) (gv10 : Value) (gl11 : (List (List UInt8))), v = pt gb7 0 ∧ D = Cls w [] [.obj gb1 [gv2, gv4, .slice none 0 0, .int .i64 (-1)] 167, .sl gv8 9 1 (gl9.map SR), .sl gv10 9 1 (gl11.map SR), .obj gb7 [gv8, gv10, .slice none 0 0, .slice none 0 0, .int .i64 (-1)] 38, .sl gv2 9 1 (gl3.map SR), .sl gv4 9 1 (gl5.map SR)] ∧ m3_quirlaw_SectPlays_K7 a1 gl3 gl5 gl9 gl11 = some r) rfl en17 rfl Try.func17 rfl rfl rfl ?_ ?_
      ·
       refine W.seq (W.region (L.y rfl (Y.assign rfl) ?_))
       refine L.nil (E.thenN (W.seq (W.region (L.y rfl (Y.build (cells := #[.slice none 0 0, .slice none 0 0, .slice none 0 0, .slice none 0 0, .int .i64 (-1)]) rfl (by kernel_rfl)) ?_))))
       refine L.box rfl rfl ?_
       intro b142
       refine L.y rfl (Y.assign rfl) ?_
       refine L.nil (E.thenN (W.seqJ (fun gs D => ∃ (gv205 : Value) (gl206 : (List (List UInt8))) (gv207 : Value) (gl208 : (List (List UInt8))), gs = [(3, pt b142 0)] ∧ D = Cls w [] [.obj b142 [gv205, gv207, .slice none 0 0, .slice none 0 0, .int .i64 (-1)] 38, .obj gb1 [gv2, gv4, .slice none 0 0, .int .i64 (-1)] 167, .sl gv205 9 1 (gl206.map SR), .sl gv207 9 1 (gl208.map SR), .sl gv2 9 1 (gl3.map SR), .sl gv4 9 1 (gl5.map SR)] ∧ m3_quirlaw_SectPlays_K47 a1 gl3 gl5 gl206 gl208 = some r) ?_ ?_))
       ·
        refine W.seq (W.region (L.y rfl (Y.move rfl) ?_))
        refine L.y rfl (Y.move rfl) ?_
        refine L.nil (E.thenN (W.block (W.nilSl 9 1 ?_)))
        refine W.nilSl 9 1 ?_
        refine W.loopJ (fun m gs D => ∃ (gx209 : Int) (gv210 : Value) (gl211 : (List (List UInt8))) (gv212 : Value) (gl213 : (List (List UInt8))), gs = [(3, pt b142 0), (6, .int .i64 a0), (7, .int .i64 gx209)] ∧ D = Cls w [] [.obj b142 [gv210, gv212, .slice none 0 0, .slice none 0 0, .int .i64 (-1)] 38, .obj gb1 [gv2, gv4, .slice none 0 0, .int .i64 (-1)] 167, .sl gv210 9 1 (gl211.map SR), .sl gv212 9 1 (gl213.map SR), .sl gv2 9 1 (gl3.map SR), .sl gv4 9 1 (gl5.map SR)] ∧ m3_quirlaw_SectPlays_L5 a0 a1 gl3 gl5 m gx209 gl211 gl213 = some r) ⟨0, .slice none 0 0, [], .slice none 0 0, [], rfl, rfl, h⟩ ⟨rfl, rfl, rfl, trivial⟩ (fun _ hw => hw.sel [2, 3, 1, 0, 4, 5] (by decide) rfl) ?_
        rintro m _ _ ⟨gx209, gv210, gl211, gv212, gl213, rfl, rfl, h⟩
        rcases m with _ | m
        · rw [m3_quirlaw_SectPlays_L5] at h; cases h
        rw [m3_quirlaw_SectPlays_L5] at h
        generalize hg5 : m3_quirlaw_SectPlays_L5 a0 a1 gl3 gl5 m = go5 at h
        rw [m3_quirlaw_SectPlays_L5B] at h
        refine W.seq (W.region (L.ite h rfl (Y.lss rfl rfl) (fun c143 h => ?_) (fun c143 h => ?_)))
        ·
         refine L.nil (E.thenN (W.seq (W.condT rfl ?_)))
         refine W.skip (E.thenN (W.seq (W.block (W.drawn2 (k := 22) (stC [[8, 15, 18], [15, 18], [18]] [Cls w [] [.obj b142 [gv210, gv212, .slice none 0 0, .slice none 0 0, .int .i64 (-1)] 38, .obj gb1 [gv2, gv4, .slice none 0 0, .int .i64 (-1)] 167, .sl gv210 9 1 (gl211.map SR), .sl gv212 9 1 (gl213.map SR), .sl gv2 9 1 (gl3.map SR), .sl gv4 9 1 (gl5.map SR)], Cls w [] [.obj b142 [gv210, gv212, .slice none 0 0, .slice none 0 0, .int .i64 (-1)] 38, .obj gb1 [gv2, gv4, .slice none 0 0, .int .i64 (-1)] 167, .sl gv212 9 1 (gl213.map SR), .sl gv2 9 1 (gl3.map SR), .sl gv4 9 1 (gl5.map SR)], Cls w [] [.obj b142 [gv210, gv212, .slice none 0 0, .slice none 0 0, .int .i64 (-1)] 38, .obj gb1 [gv2, gv4, .slice none 0 0, .int .i64 (-1)] 167, .sl gv2 9 1 (gl3.map SR), .sl gv4 9 1 (gl5.map SR)]] (Cls w [] [.obj gb1 [gv2, gv4, .slice none 0 0, .int .i64 (-1)] 167, .sl gv2 9 1 (gl3.map SR), .sl gv4 9 1 (gl5.map SR)])) rfl mixed (fun _ hw => hw.drew) (Sc.now (by kernel_rfl) (fun _ hw => hw)) ?_))))
         refine V2.y (i := 0) (Nx2.of (Z := Cls w [] [.obj gb1 [gv2, gv4, .slice none 0 0, .int .i64 (-1)] 167, .sl gv2 9 1 (gl3.map SR), .sl gv4 9 1 (gl5.map SR)]) [] (by kernel_rfl) rfl (Zc.on (fun _ hw => hw.sel [1, 4, 5] (by decide) rfl) (Zc.on (fun _ hw => hw.sel [1, 3, 4] (by decide) rfl) (Zc.on (fun _ hw => hw.sel [1, 2, 3] (by decide) rfl) (Zc.fin (fun _ hw => hw)))))) rfl rfl rfl (Y.move rfl) ?_
         refine V2.y (i := 1) (Nx2.of (Z := Cls w [] [.obj gb1 [gv2, gv4, .slice none 0 0, .int .i64 (-1)] 167, .sl gv2 9 1 (gl3.map SR), .sl gv4 9 1 (gl5.map SR)]) [] (by kernel_rfl) rfl (Zc.on (fun _ hw => hw.sel [1, 4, 5] (by decide) rfl) (Zc.on (fun _ hw => hw.sel [1, 3, 4] (by decide) rfl) (Zc.on (fun _ hw => hw.sel [1, 2, 3] (by decide) rfl) (Zc.fin (fun _ hw => hw)))))) rfl rfl rfl (Y.move rfl) ?_
         refine V2.y (i := 2) (Nx2.of (Z := Cls w [] [.obj gb1 [gv2, gv4, .slice none 0 0, .int .i64 (-1)] 167, .sl gv2 9 1 (gl3.map SR), .sl gv4 9 1 (gl5.map SR)]) [] (by kernel_rfl) rfl (Zc.on (fun _ hw => hw.sel [1, 4, 5] (by decide) rfl) (Zc.on (fun _ hw => hw.sel [1, 3, 4] (by decide) rfl) (Zc.on (fun _ hw => hw.sel [1, 2, 3] (by decide) rfl) (Zc.fin (fun _ hw => hw)))))) rfl rfl rfl (Y.move rfl) ?_
         refine V2.nilc (i := 3) (Nx2.of (Z := Cls w [] [.obj gb1 [gv2, gv4, .slice none 0 0, .int .i64 (-1)] 167, .sl gv2 9 1 (gl3.map SR), .sl gv4 9 1 (gl5.map SR)]) [] (by kernel_rfl) rfl (Zc.on (fun _ hw => hw.sel [1, 4, 5] (by decide) rfl) (Zc.on (fun _ hw => hw.sel [1, 3, 4] (by decide) rfl) (Zc.on (fun _ hw => hw.sel [1, 2, 3] (by decide) rfl) (Zc.fin (fun _ hw => hw)))))) rfl rfl rfl ?_
         refine V2.y (i := 4) (Nx2.of (Z := Cls w [] [.obj gb1 [gv2, gv4, .slice none 0 0, .int .i64 (-1)] 167, .sl gv2 9 1 (gl3.map SR), .sl gv4 9 1 (gl5.map SR)]) [] (by kernel_rfl) rfl (Zc.on (fun _ hw => hw.sel [1, 4, 5] (by decide) rfl) (Zc.on (fun _ hw => hw.sel [1, 3, 4] (by decide) rfl) (Zc.on (fun _ hw => hw.sel [1, 2, 3] (by decide) rfl) (Zc.fin (fun _ hw => hw)))))) rfl rfl rfl (Y.fieldP fd38_0 rfl) ?_
         refine V2.y (i := 5) (Nx2.of (Z := Cls w [] [.obj b142 [gv210, gv212, .slice none 0 0, .slice none 0 0, .int .i64 (-1)] 38, .obj gb1 [gv2, gv4, .slice none 0 0, .int .i64 (-1)] 167, .sl gv2 9 1 (gl3.map SR), .sl gv4 9 1 (gl5.map SR)]) [18] (by kernel_rfl) rfl (Zc.on (fun _ hw => hw.sel [0, 1, 4, 5] (by decide) rfl) (Zc.on (fun _ hw => hw.sel [0, 1, 3, 4] (by decide) rfl) (Zc.at1 (fun _ hw => hw))))) rfl rfl rfl (Y.loadP (i := 0) ag35 rfl rfl rfl) ?_
         refine V2.y (i := 9) (Nx2.of (Z := Cls w [] [.obj gb1 [gv2, gv4, .slice none 0 0, .int .i64 (-1)] 167, .sl gv2 9 1 (gl3.map SR), .sl gv4 9 1 (gl5.map SR)]) [] (by kernel_rfl) rfl (Zc.on (fun _ hw => hw.sel [1, 4, 5] (by decide) rfl) (Zc.on (fun _ hw => hw.sel [1, 3, 4] (by decide) rfl) (Zc.on (fun _ hw => hw.sel [1, 2, 3] (by decide) rfl) (Zc.fin (fun _ hw => hw)))))) rfl rfl rfl (Y.move rfl) ?_
         refine V2.nilc (i := 10) (Nx2.of (Z := Cls w [] [.obj gb1 [gv2, gv4, .slice none 0 0, .int .i64 (-1)] 167, .sl gv2 9 1 (gl3.map SR), .sl gv4 9 1 (gl5.map SR)]) [] (by kernel_rfl) rfl (Zc.on (fun _ hw => hw.sel [1, 4, 5] (by decide) rfl) (Zc.on (fun _ hw => hw.sel [1, 3, 4] (by decide) rfl) (Zc.on (fun _ hw => hw.sel [1, 2, 3] (by decide) rfl) (Zc.fin (fun _ hw => hw)))))) rfl rfl rfl ?_
         refine V2.y (i := 11) (Nx2.of (Z := Cls w [] [.obj gb1 [gv2, gv4, .slice none 0 0, .int .i64 (-1)] 167, .sl gv2 9 1 (gl3.map SR), .sl gv4 9 1 (gl5.map SR)]) [] (by kernel_rfl) rfl (Zc.on (fun _ hw => hw.sel [1, 4, 5] (by decide) rfl) (Zc.on (fun _ hw => hw.sel [1, 3, 4] (by decide) rfl) (Zc.on (fun _ hw => hw.sel [1, 2, 3] (by decide) rfl) (Zc.fin (fun _ hw => hw)))))) rfl rfl rfl (Y.fieldP fd38_1 rfl) ?_
         refine V2.y (i := 12) (Nx2.of (Z := Cls w [] [.obj b142 [gv210, gv212, .slice none 0 0, .slice none 0 0, .int .i64 (-1)] 38, .obj gb1 [gv2, gv4, .slice none 0 0, .int .i64 (-1)] 167, .sl gv2 9 1 (gl3.map SR), .sl gv4 9 1 (gl5.map SR)]) [18] (by kernel_rfl) rfl (Zc.on (fun _ hw => hw.sel [0, 1, 4, 5] (by decide) rfl) (Zc.on (fun _ hw => hw.sel [0, 1, 3, 4] (by decide) rfl) (Zc.at1 (fun _ hw => hw))))) rfl rfl rfl (Y.loadP (i := 0) ag35 rfl rfl rfl) ?_
         refine V2.eff (i := 6) (by kernel_rfl) rfl ?_
         obtain ⟨s169, e170, h⟩ := bind1S h
         refine L.y rfl (Y.does en98 rfl (fun w' hw => (w98_quirref_blank 64 w' _ e170).mono (fun _ _ h => h.1))) ?_
         refine L.nil (E.toV2 (stC [[8, 15, 18], [15, 18], [18]] [Cls w [] [.obj b142 [gv210, gv212, .slice none 0 0, .slice none 0 0, .int .i64 (-1)] 38, .obj gb1 [gv2, gv4, .slice none 0 0, .int .i64 (-1)] 167, .sl gv210 9 1 (gl211.map SR), .sl gv212 9 1 (gl213.map SR), .sl gv2 9 1 (gl3.map SR), .sl gv4 9 1 (gl5.map SR)], Cls w [] [.obj b142 [gv210, gv212, .slice none 0 0, .slice none 0 0, .int .i64 (-1)] 38, .obj gb1 [gv2, gv4, .slice none 0 0, .int .i64 (-1)] 167, .sl gv212 9 1 (gl213.map SR), .sl gv2 9 1 (gl3.map SR), .sl gv4 9 1 (gl5.map SR)], Cls w [] [.obj b142 [gv210, gv212, .slice none 0 0, .slice none 0 0, .int .i64 (-1)] 38, .obj gb1 [gv2, gv4, .slice none 0 0, .int .i64 (-1)] 167, .sl gv2 9 1 (gl3.map SR), .sl gv4 9 1 (gl5.map SR)]] (Cls w [] [.obj gb1 [gv2, gv4, .slice none 0 0, .int .i64 (-1)] 167, .sl gv2 9 1 (gl3.map SR), .sl gv4 9 1 (gl5.map SR)])) 6 (by kernel_rfl) (Sc.stay (fun _ hw => hw) (Sc.stay (fun _ hw => hw) (Sc.stay (fun _ hw => hw) (Sc.stayD (fun _ hw => hw))))) (Sc.now (by kernel_rfl) (fun _ hw => hw)) ?_)
         refine V2.eff (i := 7) (by kernel_rfl) rfl ?_
         refine L.litOne rfl Try.underlying35 el9 rfl rfl ?_
         intro b171
         refine L.nil (E.toV2 (stC [[8, 15, 18], [15, 18], [18]] [Cls w [] [.sl (sv b171 1) 9 1 (([s169]).map SR), .obj b142 [gv210, gv212, .slice none 0 0, .slice none 0 0, .int .i64 (-1)] 38, .obj gb1 [gv2, gv4, .slice none 0 0, .int .i64 (-1)] 167, .sl gv210 9 1 (gl211.map SR), .sl gv212 9 1 (gl213.map SR), .sl gv2 9 1 (gl3.map SR), .sl gv4 9 1 (gl5.map SR)], Cls w [] [.sl (sv b171 1) 9 1 (([s169]).map SR), .obj b142 [gv210, gv212, .slice none 0 0, .slice none 0 0, .int .i64 (-1)] 38, .obj gb1 [gv2, gv4, .slice none 0 0, .int .i64 (-1)] 167, .sl gv212 9 1 (gl213.map SR), .sl gv2 9 1 (gl3.map SR), .sl gv4 9 1 (gl5.map SR)], Cls w [] [.sl (sv b171 1) 9 1 (([s169]).map SR), .obj b142 [gv210, gv212, .slice none 0 0, .slice none 0 0, .int .i64 (-1)] 38, .obj gb1 [gv2, gv4, .slice none 0 0, .int .i64 (-1)] 167, .sl gv2 9 1 (gl3.map SR), .sl gv4 9 1 (gl5.map SR)]] (Cls w [] [.sl (sv b171 1) 9 1 (([s169]).map SR), .obj gb1 [gv2, gv4, .slice none 0 0, .int .i64 (-1)] 167, .sl gv2 9 1 (gl3.map SR), .sl gv4 9 1 (gl5.map SR)])) 7 (by kernel_rfl) (Sc.stay (fun _ hw => hw.sel [1, 2, 3, 4, 5, 6] (by decide) rfl) (Sc.stay (fun _ hw => hw.sel [1, 2, 3, 4, 5] (by decide) rfl) (Sc.stay (fun _ hw => hw.sel [1, 2, 3, 4] (by decide) rfl) (Sc.stayD (fun _ hw => hw.sel [1, 2, 3] (by decide) rfl))))) (Sc.now (by kernel_rfl) (fun _ hw => hw)) ?_)
         refine V2.eff (i := 8) (by kernel_rfl) rfl ?_
         refine L.appM (i := 3) (g := SR) (l := gl211) (more := [s169]) h rfl Try.underlying35 el9 rfl rfl rfl (fun w hw => As.at_ (hw.get (i := 0) rfl)) (plain_SR _) rfl ?_
         intro v172 l173 el173 h
         refine L.nil (E.toV2 (stC [[15, 18], [18]] [Cls w [] [.sl v172 9 1 (l173.map SR), .sl (sv b171 1) 9 1 (([s169]).map SR), .obj b142 [gv210, gv212, .slice none 0 0, .slice none 0 0, .int .i64 (-1)] 38, .obj gb1 [gv2, gv4, .slice none 0 0, .int .i64 (-1)] 167, .sl gv212 9 1 (gl213.map SR), .sl gv2 9 1 (gl3.map SR), .sl gv4 9 1 (gl5.map SR)], Cls w [] [.sl v172 9 1 (l173.map SR), .sl (sv b171 1) 9 1 (([s169]).map SR), .obj b142 [gv210, gv212, .slice none 0 0, .slice none 0 0, .int .i64 (-1)] 38, .obj gb1 [gv2, gv4, .slice none 0 0, .int .i64 (-1)] 167, .sl gv2 9 1 (gl3.map SR), .sl gv4 9 1 (gl5.map SR)]] (Cls w [] [.sl v172 9 1 (l173.map SR), .sl (sv b171 1) 9 1 (([s169]).map SR), .obj gb1 [gv2, gv4, .slice none 0 0, .int .i64 (-1)] 167, .sl gv2 9 1 (gl3.map SR), .sl gv4 9 1 (gl5.map SR)])) 8 (by kernel_rfl) (Sc.past rfl (Sc.stay (fun _ hw => hw.sel [1, 2, 3, 4, 5, 6] (by decide) rfl) (Sc.stay (fun _ hw => hw.sel [1, 2, 3, 4, 5] (by decide) rfl) (Sc.stayD (fun _ hw => hw.sel [1, 2, 3, 4] (by decide) rfl))))) (Sc.now (by kernel_rfl) (fun _ hw => hw)) ?_)
         refine V2.eff (i := 13) (by kernel_rfl) rfl ?_
         obtain ⟨s174, e175, h⟩ := bind1S h
         refine L.y rfl (Y.does en98 rfl (fun w' hw => (w98_quirref_blank 64 w' _ e175).mono (fun _ _ h => h.1))) ?_
         refine L.nil (E.toV2 (stC [[15, 18], [18]] [Cls w [] [.sl v172 9 1 (l173.map SR), .sl (sv b171 1) 9 1 (([s169]).map SR), .obj b142 [gv210, gv212, .slice none 0 0, .slice none 0 0, .int .i64 (-1)] 38, .obj gb1 [gv2, gv4, .slice none 0 0, .int .i64 (-1)] 167, .sl gv212 9 1 (gl213.map SR), .sl gv2 9 1 (gl3.map SR), .sl gv4 9 1 (gl5.map SR)], Cls w [] [.sl v172 9 1 (l173.map SR), .sl (sv b171 1) 9 1 (([s169]).map SR), .obj b142 [gv210, gv212, .slice none 0 0, .slice none 0 0, .int .i64 (-1)] 38, .obj gb1 [gv2, gv4, .slice none 0 0, .int .i64 (-1)] 167, .sl gv2 9 1 (gl3.map SR), .sl gv4 9 1 (gl5.map SR)]] (Cls w [] [.sl v172 9 1 (l173.map SR), .sl (sv b171 1) 9 1 (([s169]).map SR), .obj gb1 [gv2, gv4, .slice none 0 0, .int .i64 (-1)] 167, .sl gv2 9 1 (gl3.map SR), .sl gv4 9 1 (gl5.map SR)])) 13 (by kernel_rfl) (Sc.stay (fun _ hw => hw) (Sc.stay (fun _ hw => hw) (Sc.stayD (fun _ hw => hw)))) (Sc.now (by kernel_rfl) (fun _ hw => hw)) ?_)
         refine V2.eff (i := 14) (by kernel_rfl) rfl ?_
         refine L.litOne rfl Try.underlying35 el9 rfl rfl ?_
         intro b176
         refine L.nil (E.toV2 (stC [[15, 18], [18]] [Cls w [] [.sl (sv b176 1) 9 1 (([s174]).map SR), .sl v172 9 1 (l173.map SR), .sl (sv b171 1) 9 1 (([s169]).map SR), .obj b142 [gv210, gv212, .slice none 0 0, .slice none 0 0, .int .i64 (-1)] 38, .obj gb1 [gv2, gv4, .slice none 0 0, .int .i64 (-1)] 167, .sl gv212 9 1 (gl213.map SR), .sl gv2 9 1 (gl3.map SR), .sl gv4 9 1 (gl5.map SR)], Cls w [] [.sl (sv b176 1) 9 1 (([s174]).map SR), .sl v172 9 1 (l173.map SR), .sl (sv b171 1) 9 1 (([s169]).map SR), .obj b142 [gv210, gv212, .slice none 0 0, .slice none 0 0, .int .i64 (-1)] 38, .obj gb1 [gv2, gv4, .slice none 0 0, .int .i64 (-1)] 167, .sl gv2 9 1 (gl3.map SR), .sl gv4 9 1 (gl5.map SR)]] (Cls w [] [.sl (sv b176 1) 9 1 (([s174]).map SR), .sl v172 9 1 (l173.map SR), .sl (sv b171 1) 9 1 (([s169]).map SR), .obj gb1 [gv2, gv4, .slice none 0 0, .int .i64 (-1)] 167, .sl gv2 9 1 (gl3.map SR), .sl gv4 9 1 (gl5.map SR)])) 14 (by kernel_rfl) (Sc.stay (fun _ hw => hw.sel [1, 2, 3, 4, 5, 6, 7] (by decide) rfl) (Sc.stay (fun _ hw => hw.sel [1, 2, 3, 4, 5, 6] (by decide) rfl) (Sc.stayD (fun _ hw => hw.sel [1, 2, 3, 4, 5] (by decide) rfl)))) (Sc.now (by kernel_rfl) (fun _ hw => hw)) ?_)
         refine V2.eff (i := 15) (by kernel_rfl) rfl ?_
         refine L.appM (i := 5) (g := SR) (l := gl213) (more := [s174]) h rfl Try.underlying35 el9 rfl rfl rfl (fun w hw => As.at_ (hw.get (i := 0) rfl)) (plain_SR _) rfl ?_
         intro v177 l178 el178 h
         refine L.nil (E.toV2 (stC [[18]] [Cls w [] [.sl v177 9 1 (l178.map SR), .sl (sv b176 1) 9 1 (([s174]).map SR), .sl v172 9 1 (l173.map SR), .sl (sv b171 1) 9 1 (([s169]).map SR), .obj b142 [gv210, gv212, .slice none 0 0, .slice none 0 0, .int .i64 (-1)] 38, .obj gb1 [gv2, gv4, .slice none 0 0, .int .i64 (-1)] 167, .sl gv2 9 1 (gl3.map SR), .sl gv4 9 1 (gl5.map SR)]] (Cls w [] [.sl v177 9 1 (l178.map SR), .sl (sv b176 1) 9 1 (([s174]).map SR), .sl v172 9 1 (l173.map SR), .sl (sv b171 1) 9 1 (([s169]).map SR), .obj gb1 [gv2, gv4, .slice none 0 0, .int .i64 (-1)] 167, .sl gv2 9 1 (gl3.map SR), .sl gv4 9 1 (gl5.map SR)])) 15 (by kernel_rfl) (Sc.past rfl (Sc.stay (fun _ hw => hw.sel [1, 2, 3, 4, 5, 6, 7] (by decide) rfl) (Sc.stayD (fun _ hw => hw.sel [1, 2, 3, 4, 5, 6] (by decide) rfl)))) (Sc.now (by kernel_rfl) (fun _ hw => hw)) ?_)
         refine V2.nilc (i := 16) (Nx2.of (Z := Cls w [] [.sl v177 9 1 (l178.map SR), .sl (sv b176 1) 9 1 (([s174]).map SR), .sl v172 9 1 (l173.map SR), .sl (sv b171 1) 9 1 (([s169]).map SR), .obj gb1 [gv2, gv4, .slice none 0 0, .int .i64 (-1)] 167, .sl gv2 9 1 (gl3.map SR), .sl gv4 9 1 (gl5.map SR)]) [] (by kernel_rfl) rfl (Zc.on (fun _ hw => hw.sel [0, 1, 2, 3, 5, 6, 7] (by decide) rfl) (Zc.fin (fun _ hw => hw)))) rfl rfl rfl ?_
         refine V2.y (i := 17) (Nx2.of (Z := Cls w [] [.sl v177 9 1 (l178.map SR), .sl (sv b176 1) 9 1 (([s174]).map SR), .sl v172 9 1 (l173.map SR), .sl (sv b171 1) 9 1 (([s169]).map SR), .obj gb1 [gv2, gv4, .slice none 0 0, .int .i64 (-1)] 167, .sl gv2 9 1 (gl3.map SR), .sl gv4 9 1 (gl5.map SR)]) [] (by kernel_rfl) rfl (Zc.on (fun _ hw => hw.sel [0, 1, 2, 3, 5, 6, 7] (by decide) rfl) (Zc.fin (fun _ hw => hw)))) rfl rfl rfl (Y.fieldP fd38_0 rfl) ?_
         refine V2.eff (i := 18) (by kernel_rfl) rfl ?_
         refine L.storeV (i := 4) sz35 rfl rfl (fun _ hw => (As.at_ (hw.get (i := 2) rfl)).one) rfl (Nat.le_of_ble_eq_true rfl) ?_
         refine L.nil (E.toV2 (stC [] [] (Cls w [] [.sl v177 9 1 (l178.map SR), .sl (sv b176 1) 9 1 (([s174]).map SR), .sl v172 9 1 (l173.map SR), .sl (sv b171 1) 9 1 (([s169]).map SR), .obj gb1 [gv2, gv4, .slice none 0 0, .int .i64 (-1)] 167, .sl gv2 9 1 (gl3.map SR), .sl gv4 9 1 (gl5.map SR)])) 18 (by kernel_rfl) (Sc.past rfl (Sc.stayD (fun _ hw => hw))) (Sc.atD (fun _ hw => hw.sel [0, 1, 2, 3, 5, 6, 7] (by decide) rfl)) ?_)
         refine V2.nilc (i := 19) (Nx2.of (Z := Cls w [] [.sl v177 9 1 (l178.map SR), .sl (sv b176 1) 9 1 (([s174]).map SR), .sl v172 9 1 (l173.map SR), .sl (sv b171 1) 9 1 (([s169]).map SR), .obj gb1 [gv2, gv4, .slice none 0 0, .int .i64 (-1)] 167, .sl gv2 9 1 (gl3.map SR), .sl gv4 9 1 (gl5.map SR)]) [] (by kernel_rfl) rfl (Zc.fin (fun _ hw => hw))) rfl rfl rfl ?_
         refine V2.y (i := 20) (Nx2.of (Z := Cls w [] [.sl v177 9 1 (l178.map SR), .sl (sv b176 1) 9 1 (([s174]).map SR), .sl v172 9 1 (l173.map SR), .sl (sv b171 1) 9 1 (([s169]).map SR), .obj gb1 [gv2, gv4, .slice none 0 0, .int .i64 (-1)] 167, .sl gv2 9 1 (gl3.map SR), .sl gv4 9 1 (gl5.map SR)]) [] (by kernel_rfl) rfl (Zc.fin (fun _ hw => hw))) rfl rfl rfl (Y.fieldP fd38_1 rfl) ?_
         refine V2.eff (i := 21) (by kernel_rfl) rfl ?_
         refine L.storeV (i := 4) sz35 rfl rfl (fun _ hw => (As.at_ (hw.get (i := 0) rfl)).one) rfl (Nat.le_of_ble_eq_true rfl) ?_
         refine L.nil (E.toV2 (stC [] [] (Cls w [] [.sl v177 9 1 (l178.map SR), .sl (sv b176 1) 9 1 (([s174]).map SR), .sl v172 9 1 (l173.map SR), .sl (sv b171 1) 9 1 (([s169]).map SR), .obj gb1 [gv2, gv4, .slice none 0 0, .int .i64 (-1)] 167, .sl gv2 9 1 (gl3.map SR), .sl gv4 9 1 (gl5.map SR)])) 21 (by kernel_rfl) (Sc.stayD (fun _ hw => hw)) (Sc.atD (fun _ hw => hw.sel [0, 1, 2, 3, 5, 6, 7] (by decide) rfl)) ?_)
         refine V2.done (by kernel_rfl) ?_
         refine E.blockN (E.thenN (W.region (L.m (V := fun x179 => .int .i64 x179) h rfl (Y.addM rfl rfl) (fun x179 ex179 h => ?_))))
         refine L.y rfl (Y.move rfl) ?_
         exact L.nil (E.againJ ⟨x179, v172, l173, v177, l178, rfl, rfl, by rw [hg5]; exact h⟩ (Nat.lt_succ_self _) ⟨rfl, rfl, rfl, trivial⟩ (fun _ hw => hw.sel [4, 5, 2, 0, 6, 7] (by decide) rfl))
        ·
         refine L.nil (E.thenN (W.seq (W.condF rfl ?_)))
         exact W.exit (E.thenX (E.KLX (E.blockX (E.joinJ ⟨gv210, gl211, gv212, gl213, rfl, rfl, h⟩ ⟨rfl, trivial⟩ (fun _ hw => hw)))))
       ·
        rintro _ _ ⟨gv205, gl206, gv207, gl208, rfl, rfl, h⟩
        rw [m3_quirlaw_SectPlays_K47] at h
        refine W.seq (W.region (L.y rfl (Y.move rfl) ?_))
        refine L.y rfl (Y.assign rfl) ?_
        refine L.nil (E.thenN (W.ret (E.ret1 rfl rfl (fun w1 hw => ?_))))
        exact ⟨_, _, rfl, ⟨b142, gv205, gl206, gv207, gl208, rfl, rfl, h⟩, hw.sel [1, 2, 3, 0, 4, 5] (by decide) rfl⟩
      ·
       rintro _ _ ⟨gb7, gv8, gl9, gv10, gl11, rfl, rfl, h⟩
       rw [m3_quirlaw_SectPlays_K7] at h
       refine L.y rfl (Y.assign rfl) ?_
       refine L.nil (E.thenN (W.seqJ (fun gs D => ∃ (gl12 : (List (List UInt8))) (gl13 : (List (List UInt8))) (gv14 : Value) (gl15 : (List Twrite)) (gx16 : Int) (gv17 : Value) (gl18 : (List (List UInt8))) (gv19 : Value) (gl20 : (List (List UInt8))) (gv21 : Value) (gl22 : (List Int)) (gv23 : Value) (gl24 : (List (List UInt8))) (gx25 : Int), gs = [(5, pt gb1 0), (7, pt gb7 0)] ∧ D = Cls w [] [.obj gb1 [gv2, gv4, gv14, .int .i64 gx16] 167, .obj gb7 [gv17, gv19, gv21, gv23, .int .i64 gx25] 38, .sl gv2 9 1 (gl12.map SR), .sl gv4 9 1 (gl13.map SR), .sl gv14 312 2 (gl15.map Twrite.row), .sl gv17 9 1 (gl18.map SR), .sl gv19 9 1 (gl20.map SR), .sl gv21 3 1 (gl22.map I), .sl gv23 9 1 (gl24.map SR)] ∧ m3_quirlaw_SectPlays_K8 gl12 gl13 gl15 gx16 gl18 gl20 gl22 gl24 gx25 = some r) ?_ ?_))
       ·
        refine W.seq (W.region (L.y rfl (Y.move rfl) ?_))
        refine L.y rfl (Y.lenMZ (row := TDeed.rowv) (vs := q1) (l := a1) Try.underlying22 rfl (fun w' hw => hA1.cls0 hw)) ?_
        refine L.y rfl (Y.move rfl) ?_
        refine L.nil (E.thenN (W.block (W.nilSl 312 2 ?_)))
        refine W.nilSl 3 1 ?_
        refine W.nilSl 9 1 ?_
        refine W.loopJ (fun m gs D => ∃ (gx29 : Int) (gl30 : (List (List UInt8))) (gl31 : (List (List UInt8))) (gv32 : Value) (gl33 : (List Twrite)) (gx34 : Int) (gv35 : Value) (gl36 : (List (List UInt8))) (gv37 : Value) (gl38 : (List (List UInt8))) (gv39 : Value) (gl40 : (List Int)) (gv41 : Value) (gl42 : (List (List UInt8))) (gx43 : Int), gs = [(5, pt gb1 0), (7, pt gb7 0), (45, u1), (46, .int .i64 (a1.length : Int)), (47, .int .i64 gx29)] ∧ D = Cls w [] [.obj gb1 [gv2, gv4, gv32, .int .i64 gx34] 167, .obj gb7 [gv35, gv37, gv39, gv41, .int .i64 gx43] 38, .sl gv2 9 1 (gl30.map SR), .sl gv4 9 1 (gl31.map SR), .sl gv32 312 2 (gl33.map Twrite.row), .sl gv35 9 1 (gl36.map SR), .sl gv37 9 1 (gl38.map SR), .sl gv39 3 1 (gl40.map I), .sl gv41 9 1 (gl42.map SR)] ∧ m3_quirlaw_SectPlays_L2 a1 m gx29 gl30 gl31 gl33 gx34 gl36 gl38 gl40 gl42 gx43 = some r) ⟨0, gl3, gl5, .slice none 0 0, [], (-1), gv8, gl9, gv10, gl11, .slice none 0 0, [], .slice none 0 0, [], (-1), rfl, rfl, h⟩ ⟨rfl, rfl, rfl, rfl, rfl, trivial⟩ (fun _ hw => hw.sel [3, 6, 7, 8, 2, 4, 5, 1, 0] (by decide) rfl) ?_
        rintro m _ _ ⟨gx29, gl30, gl31, gv32, gl33, gx34, gv35, gl36, gv37, gl38, gv39, gl40, gv41, gl42, gx43, rfl, rfl, h⟩
        rcases m with _ | m
        · rw [m3_quirlaw_SectPlays_L2] at h; cases h
        rw [m3_quirlaw_SectPlays_L2] at h
        generalize hg2 : m3_quirlaw_SectPlays_L2 a1 m = go2 at h
        rw [m3_quirlaw_SectPlays_L2B] at h
        refine W.seq (W.region (L.ite h rfl (Y.lss rfl rfl) (fun c13 h => ?_) (fun c13 h => ?_)))
        ·
         refine L.nil (E.thenN (W.seq (W.condT rfl ?_)))
         refine W.skip (E.thenN (W.seq (W.block (W.seq (W.region (L.m (V := fun _ => el u1 (gx29.toNat * 4)) h rfl (Y.indexMZ (row := TDeed.rowv) (vs := q1) (l := a1) Try.underlying22 sz32 rfl rfl (fun w' hw => hA1.cls0 hw)) (fun x14 ex14 h => ?_)))))))
         refine L.y rfl (Y.loadEN (r := [.int .i64 x14.Kind, .int .i64 x14.N, st x14.Text, gv (q1 gx29.toNat) 0]) ag32 sz32 rfl (fun w' hw => hA1.cls0 hw) (zr_idx (vs := q1) ex14) rfl) ?_
         refine L.alloc rfl ze32 ?_
         intro b15
         refine L.storeC (i := 0) sz32 rfl rfl rfl rfl (fun w hw => (all1 rfl (all1 rfl (all1 rfl (all1 (At.cls0 (zAt (sds := TDeed.sds) (vs := q1) (j := 0) hD1 (fun _ _ => rfl) ex14 rfl) hw).one all0))))) rfl (Nat.le_of_ble_eq_true rfl) ?_
         refine L.nil (E.thenN (W.seqJ (fun gs D => ∃ (gb44 : Bool) (gl45 : (List (List UInt8))) (gl46 : (List (List UInt8))) (gv47 : Value) (gl48 : (List Twrite)) (gx49 : Int) (gv50 : Value) (gl51 : (List (List UInt8))) (gv52 : Value) (gl53 : (List (List UInt8))) (gv54 : Value) (gl55 : (List Int)) (gv56 : Value) (gl57 : (List (List UInt8))) (gx58 : Int), gs = [(5, pt gb1 0), (7, pt gb7 0), (45, u1), (46, .int .i64 (a1.length : Int)), (47, .int .i64 gx29), (55, .bool gb44)] ∧ D = Cls w [] [.obj gb1 [gv2, gv4, gv47, .int .i64 gx49] 167, .obj gb7 [gv50, gv52, gv54, gv56, .int .i64 gx58] 38, .sl gv2 9 1 (gl45.map SR), .sl gv4 9 1 (gl46.map SR), .sl gv47 312 2 (gl48.map Twrite.row), .sl gv50 9 1 (gl51.map SR), .sl gv52 9 1 (gl53.map SR), .sl gv54 3 1 (gl55.map I), .sl gv56 9 1 (gl57.map SR)] ∧ m3_quirlaw_SectPlays_K13 gx29 go2 gb44 gl45 gl46 gl48 gx49 gl51 gl53 gl55 gl57 gx58 = some r) ?_ ?_))
         ·
          refine W.region (L.y rfl (Y.move rfl) ?_)
          refine L.y rfl (Y.move rfl) ?_
          refine L.y rfl (Y.loadPW (i := 0) ag32 sz32 rfl rfl rfl) ?_
          refine L.callJ (fun v D => ∃ (gb59 : Bool) (gl60 : (List (List UInt8))) (gl61 : (List (List UInt8))) (gv62 : Value) (gl63 : (List Twrite)) (gx64 : Int) (gv65 : Value) (gl66 : (List (List UInt8))) (gv67 : Value) (gl68 : (List (List UInt8))) (gv69 : Value) (gl70 : (List Int)) (gv71 : Value) (gl72 : (List (List UInt8))) (gx73 : Int), v = .bool gb59 ∧ D = Cls w [] [.obj b15 [.int .i64 x14.Kind, .int .i64 x14.N, st x14.Text, gv (q1 gx29.toNat) 0] 32, .obj gb1 [gv2, gv4, gv62, .int .i64 gx64] 167, .obj gb7 [gv65, gv67, gv69, gv71, .int .i64 gx73] 38, .sl gv2 9 1 (gl60.map SR), .sl gv4 9 1 (gl61.map SR), .sl gv62 312 2 (gl63.map Twrite.row), .sl gv65 9 1 (gl66.map SR), .sl gv67 9 1 (gl68.map SR), .sl gv69 3 1 (gl70.map I), .sl gv71 9 1 (gl72.map SR)] ∧ m3_quirlaw_SectPlays_K14 gx29 go2 gb59 gl60 gl61 gl63 gx64 gl66 gl68 gl70 gl72 gx73 = some r) rfl en18 rfl Try.func18 rfl rfl rfl ?_ ?_
          ·
           refine W.seq (W.region (L.box rfl rfl ?_))
           intro b17
           refine L.y rfl (Y.assign rfl) ?_
           refine L.nil (E.thenN (W.seqJ (fun gs D => ∃ (gl74 : (List (List UInt8))) (gl75 : (List (List UInt8))) (gv76 : Value) (gl77 : (List Twrite)) (gx78 : Int) (gv79 : Value) (gl80 : (List (List UInt8))) (gl81 : (List (List UInt8))) (gv82 : Value) (gl83 : (List Int)) (gv84 : Value) (gl85 : (List (List UInt8))) (gx86 : Int), gs = [] ∧ D = Cls w [] [.obj b15 [.int .i64 x14.Kind, .int .i64 x14.N, st x14.Text, gv (q1 gx29.toNat) 0] 32, .obj gb1 [gv2, gv4, gv76, .int .i64 gx78] 167, .obj gb7 [gv79, gv37, gv82, gv84, .int .i64 gx86] 38, .sl gv2 9 1 (gl74.map SR), .sl gv4 9 1 (gl75.map SR), .sl gv76 312 2 (gl77.map Twrite.row), .sl gv79 9 1 (gl80.map SR), .sl gv37 9 1 (gl81.map SR), .sl gv82 3 1 (gl83.map I), .sl gv84 9 1 (gl85.map SR)] ∧ m3_quirlaw_SectPlays_K15 gx29 go2 gl74 gl75 gl77 gx78 gl80 gl81 gl83 gl85 gx86 = some r) ?_ ?_))
           ·
            refine W.seq (W.region (L.y rfl (Y.fieldP fd32_0 rfl) ?_))
            refine L.y rfl (Y.loadP (i := 0) ag3 rfl rfl rfl) ?_
            refine L.nil (E.thenN (W.block (W.seqJ (fun gs D => ∃ (gb87 : Bool), gs = [(0, pt gb1 0), (1, pt gb7 0), (5, pt b17 0), (12, .int .i64 x14.Kind), (21, .bool gb87)] ∧ D = Cls w [] [.obj b17 [.int .i64 x14.Kind, .int .i64 x14.N, st x14.Text, gv (q1 gx29.toNat) 0] 32, .obj b15 [.int .i64 x14.Kind, .int .i64 x14.N, st x14.Text, gv (q1 gx29.toNat) 0] 32, .obj gb1 [gv2, gv4, gv32, .int .i64 gx34] 167, .obj gb7 [gv35, gv37, gv39, gv41, .int .i64 gx43] 38, .sl gv2 9 1 (gl30.map SR), .sl gv4 9 1 (gl31.map SR), .sl gv32 312 2 (gl33.map Twrite.row), .sl gv35 9 1 (gl36.map SR), .sl gv37 9 1 (gl38.map SR), .sl gv39 3 1 (gl40.map I), .sl gv41 9 1 (gl42.map SR)] ∧ m3_quirlaw_SectPlays_K16 x14 gx29 go2 gl30 gl38 gl36 gl40 gl42 gx43 gl31 gl33 gx34 gb87 = some r) ?_ ?_)))
            ·
             refine W.region (L.ite h rfl (Y.eql rfl rfl) (fun c141 h => ?_) (fun c141 h => ?_))
             ·
              refine L.y rfl (Y.assign rfl) ?_
              exact L.nil (E.joinJ ⟨true, rfl, rfl, h⟩ ⟨rfl, rfl, rfl, rfl, rfl, trivial⟩ (fun _ hw => hw))
             ·
              refine L.y rfl (Y.assign rfl) ?_
              exact L.nil (E.joinJ ⟨false, rfl, rfl, h⟩ ⟨rfl, rfl, rfl, rfl, rfl, trivial⟩ (fun _ hw => hw))
            ·
             rintro _ _ ⟨gb87, rfl, rfl, h⟩
             rw [m3_quirlaw_SectPlays_K16] at h
             rcases gb87 with _ | _
             ·
              replace h := iteF h
              refine W.condF rfl ?_
              refine W.seqJ (fun gs D => ∃ (gb88 : Bool), gs = [(0, pt gb1 0), (1, pt gb7 0), (5, pt b17 0), (12, .int .i64 x14.Kind), (36, .bool gb88)] ∧ D = Cls w [] [.obj b17 [.int .i64 x14.Kind, .int .i64 x14.N, st x14.Text, gv (q1 gx29.toNat) 0] 32, .obj b15 [.int .i64 x14.Kind, .int .i64 x14.N, st x14.Text, gv (q1 gx29.toNat) 0] 32, .obj gb1 [gv2, gv4, gv32, .int .i64 gx34] 167, .obj gb7 [gv35, gv37, gv39, gv41, .int .i64 gx43] 38, .sl gv2 9 1 (gl30.map SR), .sl gv4 9 1 (gl31.map SR), .sl gv32 312 2 (gl33.map Twrite.row), .sl gv35 9 1 (gl36.map SR), .sl gv37 9 1 (gl38.map SR), .sl gv39 3 1 (gl40.map I), .sl gv41 9 1 (gl42.map SR)] ∧ m3_quirlaw_SectPlays_K17 x14 gx29 go2 gl30 gl31 gl33 gx34 gl36 gl38 gl40 gl42 gx43 gb88 = some r) ?_ ?_
              ·
               refine W.region (L.ite h rfl (Y.eql rfl rfl) (fun c70 h => ?_) (fun c70 h => ?_))
               ·
                refine L.y rfl (Y.assign rfl) ?_
                exact L.nil (E.joinJ ⟨true, rfl, rfl, h⟩ ⟨rfl, rfl, rfl, rfl, rfl, trivial⟩ (fun _ hw => hw))
               ·
                refine L.y rfl (Y.assign rfl) ?_
                exact L.nil (E.joinJ ⟨false, rfl, rfl, h⟩ ⟨rfl, rfl, rfl, rfl, rfl, trivial⟩ (fun _ hw => hw))
              ·
               rintro _ _ ⟨gb88, rfl, rfl, h⟩
               rw [m3_quirlaw_SectPlays_K17] at h
               rcases gb88 with _ | _
               ·
                replace h := iteF h
                refine W.condF rfl ?_
                refine W.seqJ (fun gs D => ∃ (gb89 : Bool), gs = [(0, pt gb1 0), (1, pt gb7 0), (5, pt b17 0), (12, .int .i64 x14.Kind), (60, .bool gb89)] ∧ D = Cls w [] [.obj b17 [.int .i64 x14.Kind, .int .i64 x14.N, st x14.Text, gv (q1 gx29.toNat) 0] 32, .obj b15 [.int .i64 x14.Kind, .int .i64 x14.N, st x14.Text, gv (q1 gx29.toNat) 0] 32, .obj gb1 [gv2, gv4, gv32, .int .i64 gx34] 167, .obj gb7 [gv35, gv37, gv39, gv41, .int .i64 gx43] 38, .sl gv2 9 1 (gl30.map SR), .sl gv4 9 1 (gl31.map SR), .sl gv32 312 2 (gl33.map Twrite.row), .sl gv35 9 1 (gl36.map SR), .sl gv37 9 1 (gl38.map SR), .sl gv39 3 1 (gl40.map I), .sl gv41 9 1 (gl42.map SR)] ∧ m3_quirlaw_SectPlays_K18 gx34 gx43 gx29 go2 gl31 gl36 gl38 gl40 gl42 gl30 gl33 x14 gb89 = some r) ?_ ?_
                ·
                 refine W.region (L.ite h rfl (Y.eql rfl rfl) (fun c60 h => ?_) (fun c60 h => ?_))
                 ·
                  refine L.y rfl (Y.assign rfl) ?_
                  exact L.nil (E.joinJ ⟨true, rfl, rfl, h⟩ ⟨rfl, rfl, rfl, rfl, rfl, trivial⟩ (fun _ hw => hw))
                 ·
                  refine L.y rfl (Y.assign rfl) ?_
                  exact L.nil (E.joinJ ⟨false, rfl, rfl, h⟩ ⟨rfl, rfl, rfl, rfl, rfl, trivial⟩ (fun _ hw => hw))
                ·
                 rintro _ _ ⟨gb89, rfl, rfl, h⟩
                 rw [m3_quirlaw_SectPlays_K18] at h
                 rcases gb89 with _ | _
                 ·
                  replace h := iteF h
                  refine W.condF rfl ?_
                  refine W.seqJ (fun gs D => ∃ (gb90 : Bool), gs = [(0, pt gb1 0), (1, pt gb7 0), (5, pt b17 0), (67, .bool gb90)] ∧ D = Cls w [] [.obj b17 [.int .i64 x14.Kind, .int .i64 x14.N, st x14.Text, gv (q1 gx29.toNat) 0] 32, .obj b15 [.int .i64 x14.Kind, .int .i64 x14.N, st x14.Text, gv (q1 gx29.toNat) 0] 32, .obj gb1 [gv2, gv4, gv32, .int .i64 gx34] 167, .obj gb7 [gv35, gv37, gv39, gv41, .int .i64 gx43] 38, .sl gv2 9 1 (gl30.map SR), .sl gv4 9 1 (gl31.map SR), .sl gv32 312 2 (gl33.map Twrite.row), .sl gv35 9 1 (gl36.map SR), .sl gv37 9 1 (gl38.map SR), .sl gv39 3 1 (gl40.map I), .sl gv41 9 1 (gl42.map SR)] ∧ m3_quirlaw_SectPlays_K19 x14 gx29 go2 gl30 gl31 gl33 gl36 gl38 gl40 gl42 gb90 = some r) ?_ ?_
                  ·
                   refine W.region (L.ite h rfl (Y.eql rfl rfl) (fun c49 h => ?_) (fun c49 h => ?_))
                   ·
                    refine L.y rfl (Y.assign rfl) ?_
                    exact L.nil (E.joinJ ⟨true, rfl, rfl, h⟩ ⟨rfl, rfl, rfl, rfl, trivial⟩ (fun _ hw => hw))
                   ·
                    refine L.y rfl (Y.assign rfl) ?_
                    exact L.nil (E.joinJ ⟨false, rfl, rfl, h⟩ ⟨rfl, rfl, rfl, rfl, trivial⟩ (fun _ hw => hw))
                  ·
                   rintro _ _ ⟨gb90, rfl, rfl, h⟩
                   rw [m3_quirlaw_SectPlays_K19] at h
                   rcases gb90 with _ | _
                   ·
                    replace h := iteF h
                    refine W.condF rfl ?_
                    refine W.seq (W.region (L.y rfl (Y.move rfl) ?_))
                    refine L.y rfl (Y.fieldP fd32_3 rfl) ?_
                    refine L.y rfl (Y.loadP (i := 0) ag30 rfl rfl rfl) ?_
                    refine L.callJ (fun v D => ∃ (gl91 : (List (List UInt8))) (gl92 : (List (List UInt8))), v = .tuple #[] ∧ D = Cls w [] [.obj b17 [.int .i64 x14.Kind, .int .i64 x14.N, st x14.Text, gv (q1 gx29.toNat) 0] 32, .obj b15 [.int .i64 x14.Kind, .int .i64 x14.N, st x14.Text, gv (q1 gx29.toNat) 0] 32, .obj gb1 [gv2, gv4, .slice none 0 0, .int .i64 (-1)] 167, .obj gb7 [gv35, gv37, gv39, gv41, .int .i64 gx43] 38, .sl gv2 9 1 (gl91.map SR), .sl gv4 9 1 (gl92.map SR), .sl gv35 9 1 (gl36.map SR), .sl gv37 9 1 (gl38.map SR), .sl gv39 3 1 (gl40.map I), .sl gv41 9 1 (gl42.map SR), .sl gv32 312 2 (gl33.map Twrite.row)] ∧ m3_quirlaw_SectPlays_K20 gl40 x14 gl42 gx29 go2 gl38 gl91 gl92 = some r) rfl en105 rfl Try.func105 rfl rfl rfl ?_ ?_
                    ·
                     refine W.seqJ (fun gs D => ∃ (gl99 : (List (List UInt8))), gs = [(0, pt gb1 0)] ∧ D = Cls w [] [.obj b17 [.int .i64 x14.Kind, .int .i64 x14.N, st x14.Text, gv (q1 gx29.toNat) 0] 32, .obj b15 [.int .i64 x14.Kind, .int .i64 x14.N, st x14.Text, gv (q1 gx29.toNat) 0] 32, .obj gb1 [gv2, gv4, gv32, .int .i64 gx34] 167, .obj gb7 [gv35, gv37, gv39, gv41, .int .i64 gx43] 38, .sl gv2 9 1 (gl99.map SR), .sl gv4 9 1 (gl31.map SR), .sl gv32 312 2 (gl33.map Twrite.row), .sl gv35 9 1 (gl36.map SR), .sl gv37 9 1 (gl38.map SR), .sl gv39 3 1 (gl40.map I), .sl gv41 9 1 (gl42.map SR)] ∧ m3_quirlaw_SectPlays_K23 gl40 x14 gl42 gx29 go2 gl38 gl31 gl99 = some r) ?_ ?_
                     ·
                      refine W.seq (W.region (L.y rfl (Y.move rfl) ?_))
                      refine L.y rfl (Y.nilCheck rfl) ?_
                      refine L.y rfl (Y.fieldP fd167_2 rfl) ?_
                      refine L.y rfl (Y.loadP (i := 2) ag165 rfl rfl rfl) ?_
                      refine L.y rfl (Y.lenM (g := Twrite.row) (l := gl33) Try.underlying165 rfl (fun w hw => As.at_ (hw.get (i := 6) rfl))) ?_
                      refine L.y rfl (Y.move rfl) ?_
                      refine L.nil (E.thenN (W.block (W.loopJ (fun m gs D => ∃ (gx100 : Int) (gl101 : (List (List UInt8))), gs = [(0, pt gb1 0), (1, gv (q1 gx29.toNat) 0), (9, gv32), (10, .int .i64 (gl33.length : Int)), (11, .int .i64 gx100)] ∧ D = Cls w [] [.obj b17 [.int .i64 x14.Kind, .int .i64 x14.N, st x14.Text, gv (q1 gx29.toNat) 0] 32, .obj b15 [.int .i64 x14.Kind, .int .i64 x14.N, st x14.Text, gv (q1 gx29.toNat) 0] 32, .obj gb1 [gv2, gv4, gv32, .int .i64 gx34] 167, .obj gb7 [gv35, gv37, gv39, gv41, .int .i64 gx43] 38, .sl gv32 312 2 (gl33.map Twrite.row), .sl gv2 9 1 (gl101.map SR), .sl gv4 9 1 (gl31.map SR), .sl gv35 9 1 (gl36.map SR), .sl gv37 9 1 (gl38.map SR), .sl gv39 3 1 (gl40.map I), .sl gv41 9 1 (gl42.map SR)] ∧ m3_quirlaw_SectPlays_L4 gl33 x14 gl40 gl42 gx29 go2 gl38 gl31 m gx100 gl101 = some r) ⟨0, gl30, rfl, rfl, h⟩ ⟨rfl, rfl, rfl, rfl, rfl, trivial⟩ (fun _ hw => hw.sel [0, 1, 2, 3, 6, 4, 5, 7, 8, 9, 10] (by decide) rfl) ?_)))
                      rintro m _ _ ⟨gx100, gl101, rfl, rfl, h⟩
                      rcases m with _ | m
                      · rw [m3_quirlaw_SectPlays_L4] at h; cases h
                      rw [m3_quirlaw_SectPlays_L4] at h
                      generalize hg4 : m3_quirlaw_SectPlays_L4 gl33 x14 gl40 gl42 gx29 go2 gl38 gl31 m = go4 at h
                      rw [m3_quirlaw_SectPlays_L4B] at h
                      refine W.seq (W.region (L.ite h rfl (Y.lss rfl rfl) (fun c35 h => ?_) (fun c35 h => ?_)))
                      ·
                       refine L.nil (E.thenN (W.seq (W.condT rfl ?_)))
                       refine W.skip (E.thenN (W.seq (W.block (W.seq (W.region (L.y rfl (Y.move rfl) ?_))))))
                       refine L.m (V := fun _ => el gv32 (gx100.toNat * 2)) h rfl (Y.indexM (g := Twrite.row) (l := gl33) Try.underlying165 sz312 rfl rfl (fun w hw => As.at_ (hw.get (i := 4) rfl))) (fun x36 ex36 h => ?_)
                       refine L.y rfl (Y.loadEN (r := [.int .i64 x36.at_, st x36.text_]) ag312 sz312 rfl (fun w hw => As.at_ (hw.get (i := 4) rfl)) (idx_map ex36) rfl) ?_
                       refine L.alloc rfl ze312 ?_
                       intro b37
                       refine L.y rfl (Y.assign rfl) ?_
                       refine L.store (i := 0) sz312 rfl rfl rfl rfl (by simp [Value.oneCell', Value.cells, st]) rfl (Nat.le_of_ble_eq_true rfl) ?_
                       refine L.nil (E.thenN (W.seq (W.region (L.y rfl (Y.move rfl) ?_))))
                       refine L.y rfl (Y.move rfl) ?_
                       refine L.y rfl (Y.lenM (g := B) (l := x14.Keep) Try.underlying30 rfl (fun w' hw => (zAt (sds := TDeed.sds) (vs := q1) (j := 0) hD1 (fun _ _ => rfl) ex14 rfl).cls0 hw)) ?_
                       refine L.ite h rfl (Y.lss rfl rfl) (fun c38 h => ?_) (fun c38 h => ?_)
                       ·
                        refine L.y rfl (Y.move rfl) ?_
                        refine L.take rfl (L.y rfl (Y.move rfl) ?_)
                        refine L.take rfl (L.y rfl (Y.move rfl) ?_)
                        refine L.take rfl (L.m (V := fun _ => el (gv (q1 gx29.toNat) 0) (gx100.toNat * 1)) h rfl (Y.indexM (g := B) (l := x14.Keep) Try.underlying30 sz4 rfl rfl (fun w' hw => (zAt (sds := TDeed.sds) (vs := q1) (j := 0) hD1 (fun _ _ => rfl) ex14 rfl).cls0 hw)) (fun x39 ex39 h => ?_))
                        refine L.take rfl (L.iteB h rfl (Y.loadE1 (u := .bool x39) ag4 rfl (fun w' hw => (zAt (sds := TDeed.sds) (vs := q1) (j := 0) hD1 (fun _ _ => rfl) ex14 rfl).cls0 hw) (idx_map ex39)) (fun c40 h => ?_) (fun c40 h => ?_))
                        ·
                         refine L.y rfl (Y.pickT rfl rfl) ?_
                         refine L.nil (E.thenN (W.condT rfl ?_))
                         refine W.drawn2 (k := 10) (stC [[9]] [Cls w [] [.obj b37 [.int .i64 x36.at_, st x36.text_] 312, .obj b17 [.int .i64 x14.Kind, .int .i64 x14.N, st x14.Text, gv (q1 gx29.toNat) 0] 32, .obj b15 [.int .i64 x14.Kind, .int .i64 x14.N, st x14.Text, gv (q1 gx29.toNat) 0] 32, .obj gb1 [gv2, gv4, gv32, .int .i64 gx34] 167, .obj gb7 [gv35, gv37, gv39, gv41, .int .i64 gx43] 38, .sl gv32 312 2 (gl33.map Twrite.row), .sl gv2 9 1 (gl101.map SR), .sl gv4 9 1 (gl31.map SR), .sl gv35 9 1 (gl36.map SR), .sl gv37 9 1 (gl38.map SR), .sl gv39 3 1 (gl40.map I), .sl gv41 9 1 (gl42.map SR)]] (Cls w [] [.obj b37 [.int .i64 x36.at_, st x36.text_] 312, .obj b17 [.int .i64 x14.Kind, .int .i64 x14.N, st x14.Text, gv (q1 gx29.toNat) 0] 32, .obj b15 [.int .i64 x14.Kind, .int .i64 x14.N, st x14.Text, gv (q1 gx29.toNat) 0] 32, .obj gb1 [gv2, gv4, gv32, .int .i64 gx34] 167, .obj gb7 [gv35, gv37, gv39, gv41, .int .i64 gx43] 38, .sl gv32 312 2 (gl33.map Twrite.row), .sl gv4 9 1 (gl31.map SR), .sl gv35 9 1 (gl36.map SR), .sl gv37 9 1 (gl38.map SR), .sl gv39 3 1 (gl40.map I), .sl gv41 9 1 (gl42.map SR)])) rfl mixed (fun _ hw => hw.drew) (Sc.now (by kernel_rfl) (fun _ hw => hw)) ?_
                         refine V2.y (i := 0) (Nx2.of (Z := Cls w [] [.obj b37 [.int .i64 x36.at_, st x36.text_] 312, .obj b17 [.int .i64 x14.Kind, .int .i64 x14.N, st x14.Text, gv (q1 gx29.toNat) 0] 32, .obj b15 [.int .i64 x14.Kind, .int .i64 x14.N, st x14.Text, gv (q1 gx29.toNat) 0] 32, .obj gb1 [gv2, gv4, gv32, .int .i64 gx34] 167, .obj gb7 [gv35, gv37, gv39, gv41, .int .i64 gx43] 38, .sl gv32 312 2 (gl33.map Twrite.row), .sl gv4 9 1 (gl31.map SR), .sl gv35 9 1 (gl36.map SR), .sl gv37 9 1 (gl38.map SR), .sl gv39 3 1 (gl40.map I), .sl gv41 9 1 (gl42.map SR)]) [] (by kernel_rfl) rfl (Zc.on (fun _ hw => hw.sel [0, 1, 2, 3, 4, 5, 7, 8, 9, 10, 11] (by decide) rfl) (Zc.fin (fun _ hw => hw)))) rfl rfl rfl (Y.move rfl) ?_
                         refine V2.nilc (i := 1) (Nx2.of (Z := Cls w [] [.obj b37 [.int .i64 x36.at_, st x36.text_] 312, .obj b17 [.int .i64 x14.Kind, .int .i64 x14.N, st x14.Text, gv (q1 gx29.toNat) 0] 32, .obj b15 [.int .i64 x14.Kind, .int .i64 x14.N, st x14.Text, gv (q1 gx29.toNat) 0] 32, .obj gb1 [gv2, gv4, gv32, .int .i64 gx34] 167, .obj gb7 [gv35, gv37, gv39, gv41, .int .i64 gx43] 38, .sl gv32 312 2 (gl33.map Twrite.row), .sl gv4 9 1 (gl31.map SR), .sl gv35 9 1 (gl36.map SR), .sl gv37 9 1 (gl38.map SR), .sl gv39 3 1 (gl40.map I), .sl gv41 9 1 (gl42.map SR)]) [] (by kernel_rfl) rfl (Zc.on (fun _ hw => hw.sel [0, 1, 2, 3, 4, 5, 7, 8, 9, 10, 11] (by decide) rfl) (Zc.fin (fun _ hw => hw)))) rfl rfl rfl ?_
                         refine V2.y (i := 2) (Nx2.of (Z := Cls w [] [.obj b37 [.int .i64 x36.at_, st x36.text_] 312, .obj b17 [.int .i64 x14.Kind, .int .i64 x14.N, st x14.Text, gv (q1 gx29.toNat) 0] 32, .obj b15 [.int .i64 x14.Kind, .int .i64 x14.N, st x14.Text, gv (q1 gx29.toNat) 0] 32, .obj gb1 [gv2, gv4, gv32, .int .i64 gx34] 167, .obj gb7 [gv35, gv37, gv39, gv41, .int .i64 gx43] 38, .sl gv32 312 2 (gl33.map Twrite.row), .sl gv4 9 1 (gl31.map SR), .sl gv35 9 1 (gl36.map SR), .sl gv37 9 1 (gl38.map SR), .sl gv39 3 1 (gl40.map I), .sl gv41 9 1 (gl42.map SR)]) [] (by kernel_rfl) rfl (Zc.on (fun _ hw => hw.sel [0, 1, 2, 3, 4, 5, 7, 8, 9, 10, 11] (by decide) rfl) (Zc.fin (fun _ hw => hw)))) rfl rfl rfl (Y.fieldP fd167_0 rfl) ?_
                         refine V2.y (i := 3) (Nx2.of (Z := Cls w [] [.obj b37 [.int .i64 x36.at_, st x36.text_] 312, .obj b17 [.int .i64 x14.Kind, .int .i64 x14.N, st x14.Text, gv (q1 gx29.toNat) 0] 32, .obj b15 [.int .i64 x14.Kind, .int .i64 x14.N, st x14.Text, gv (q1 gx29.toNat) 0] 32, .obj gb1 [gv2, gv4, gv32, .int .i64 gx34] 167, .obj gb7 [gv35, gv37, gv39, gv41, .int .i64 gx43] 38, .sl gv32 312 2 (gl33.map Twrite.row), .sl gv4 9 1 (gl31.map SR), .sl gv35 9 1 (gl36.map SR), .sl gv37 9 1 (gl38.map SR), .sl gv39 3 1 (gl40.map I), .sl gv41 9 1 (gl42.map SR)]) [] (by kernel_rfl) rfl (Zc.on (fun _ hw => hw.sel [0, 1, 2, 3, 4, 5, 7, 8, 9, 10, 11] (by decide) rfl) (Zc.fin (fun _ hw => hw)))) rfl rfl rfl (Y.loadP (i := 3) ag35 rfl rfl rfl) ?_
                         refine V2.y (i := 4) (Nx2.of (Z := Cls w [] [.obj b37 [.int .i64 x36.at_, st x36.text_] 312, .obj b17 [.int .i64 x14.Kind, .int .i64 x14.N, st x14.Text, gv (q1 gx29.toNat) 0] 32, .obj b15 [.int .i64 x14.Kind, .int .i64 x14.N, st x14.Text, gv (q1 gx29.toNat) 0] 32, .obj gb1 [gv2, gv4, gv32, .int .i64 gx34] 167, .obj gb7 [gv35, gv37, gv39, gv41, .int .i64 gx43] 38, .sl gv32 312 2 (gl33.map Twrite.row), .sl gv4 9 1 (gl31.map SR), .sl gv35 9 1 (gl36.map SR), .sl gv37 9 1 (gl38.map SR), .sl gv39 3 1 (gl40.map I), .sl gv41 9 1 (gl42.map SR)]) [] (by kernel_rfl) rfl (Zc.on (fun _ hw => hw.sel [0, 1, 2, 3, 4, 5, 7, 8, 9, 10, 11] (by decide) rfl) (Zc.fin (fun _ hw => hw)))) rfl rfl rfl (Y.fieldP fd312_0 rfl) ?_
                         refine V2.y (i := 5) (Nx2.of (Z := Cls w [] [.obj b37 [.int .i64 x36.at_, st x36.text_] 312, .obj b17 [.int .i64 x14.Kind, .int .i64 x14.N, st x14.Text, gv (q1 gx29.toNat) 0] 32, .obj b15 [.int .i64 x14.Kind, .int .i64 x14.N, st x14.Text, gv (q1 gx29.toNat) 0] 32, .obj gb1 [gv2, gv4, gv32, .int .i64 gx34] 167, .obj gb7 [gv35, gv37, gv39, gv41, .int .i64 gx43] 38, .sl gv32 312 2 (gl33.map Twrite.row), .sl gv4 9 1 (gl31.map SR), .sl gv35 9 1 (gl36.map SR), .sl gv37 9 1 (gl38.map SR), .sl gv39 3 1 (gl40.map I), .sl gv41 9 1 (gl42.map SR)]) [] (by kernel_rfl) rfl (Zc.on (fun _ hw => hw.sel [0, 1, 2, 3, 4, 5, 7, 8, 9, 10, 11] (by decide) rfl) (Zc.fin (fun _ hw => hw)))) rfl rfl rfl (Y.loadP (i := 0) ag3 rfl rfl rfl) ?_
                         refine V2.y (i := 6) (Nx2.of (Z := Cls w [] [.obj b37 [.int .i64 x36.at_, st x36.text_] 312, .obj b17 [.int .i64 x14.Kind, .int .i64 x14.N, st x14.Text, gv (q1 gx29.toNat) 0] 32, .obj b15 [.int .i64 x14.Kind, .int .i64 x14.N, st x14.Text, gv (q1 gx29.toNat) 0] 32, .obj gb1 [gv2, gv4, gv32, .int .i64 gx34] 167, .obj gb7 [gv35, gv37, gv39, gv41, .int .i64 gx43] 38, .sl gv32 312 2 (gl33.map Twrite.row), .sl gv4 9 1 (gl31.map SR), .sl gv35 9 1 (gl36.map SR), .sl gv37 9 1 (gl38.map SR), .sl gv39 3 1 (gl40.map I), .sl gv41 9 1 (gl42.map SR)]) [] (by kernel_rfl) rfl (Zc.on (fun _ hw => hw.sel [0, 1, 2, 3, 4, 5, 7, 8, 9, 10, 11] (by decide) rfl) (Zc.fin (fun _ hw => hw)))) rfl rfl rfl (Y.fieldP fd312_1 rfl) ?_
                         refine V2.y (i := 7) (Nx2.of (Z := Cls w [] [.obj b37 [.int .i64 x36.at_, st x36.text_] 312, .obj b17 [.int .i64 x14.Kind, .int .i64 x14.N, st x14.Text, gv (q1 gx29.toNat) 0] 32, .obj b15 [.int .i64 x14.Kind, .int .i64 x14.N, st x14.Text, gv (q1 gx29.toNat) 0] 32, .obj gb1 [gv2, gv4, gv32, .int .i64 gx34] 167, .obj gb7 [gv35, gv37, gv39, gv41, .int .i64 gx43] 38, .sl gv32 312 2 (gl33.map Twrite.row), .sl gv4 9 1 (gl31.map SR), .sl gv35 9 1 (gl36.map SR), .sl gv37 9 1 (gl38.map SR), .sl gv39 3 1 (gl40.map I), .sl gv41 9 1 (gl42.map SR)]) [] (by kernel_rfl) rfl (Zc.on (fun _ hw => hw.sel [0, 1, 2, 3, 4, 5, 7, 8, 9, 10, 11] (by decide) rfl) (Zc.fin (fun _ hw => hw)))) rfl rfl rfl (Y.loadP (i := 0) ag9 rfl rfl rfl) ?_
                         refine V2.m (i := 8) (V' := fun _ => el gv2 (x36.at_.toNat * 1)) h (Nx2.of (Z := Cls w [] [.obj b37 [.int .i64 x36.at_, st x36.text_] 312, .obj b17 [.int .i64 x14.Kind, .int .i64 x14.N, st x14.Text, gv (q1 gx29.toNat) 0] 32, .obj b15 [.int .i64 x14.Kind, .int .i64 x14.N, st x14.Text, gv (q1 gx29.toNat) 0] 32, .obj gb1 [gv2, gv4, gv32, .int .i64 gx34] 167, .obj gb7 [gv35, gv37, gv39, gv41, .int .i64 gx43] 38, .sl gv32 312 2 (gl33.map Twrite.row), .sl gv2 9 1 (gl101.map SR), .sl gv4 9 1 (gl31.map SR), .sl gv35 9 1 (gl36.map SR), .sl gv37 9 1 (gl38.map SR), .sl gv39 3 1 (gl40.map I), .sl gv41 9 1 (gl42.map SR)]) [9] (by kernel_rfl) rfl (Zc.at1 (fun _ hw => hw))) rfl rfl rfl (Y.indexM (g := SR) (l := gl101) Try.underlying35 sz9 rfl rfl (fun w hw => As.at_ (hw.get (i := 6) rfl))) (fun x43 ex43 h => ?_)
                         refine V2.eff (i := 9) (by kernel_rfl) rfl ?_
                         refine L.storeSlM (q := 6) (row := SR) (vs := [st x36.text_]) (j := 0) (u1 := x36.text_) h sz9 rfl rfl rfl rfl rfl (all1 rfl all0) rfl ex43 rfl rfl ?_
                         intro l44 el44 h
                         refine L.nil (E.toV2 (stC [] [] (Cls w [] [.obj b37 [.int .i64 x36.at_, st x36.text_] 312, .obj b17 [.int .i64 x14.Kind, .int .i64 x14.N, st x14.Text, gv (q1 gx29.toNat) 0] 32, .obj b15 [.int .i64 x14.Kind, .int .i64 x14.N, st x14.Text, gv (q1 gx29.toNat) 0] 32, .obj gb1 [gv2, gv4, gv32, .int .i64 gx34] 167, .obj gb7 [gv35, gv37, gv39, gv41, .int .i64 gx43] 38, .sl gv32 312 2 (gl33.map Twrite.row), .sl gv4 9 1 (gl31.map SR), .sl gv35 9 1 (gl36.map SR), .sl gv37 9 1 (gl38.map SR), .sl gv39 3 1 (gl40.map I), .sl gv41 9 1 (gl42.map SR)])) 9 (by kernel_rfl) (Sc.past rfl (Sc.stayD (fun _ hw => hw))) (Sc.atD (fun _ hw => hw.sel [0, 1, 2, 3, 4, 5, 7, 8, 9, 10, 11] (by decide) rfl)) ?_)
                         refine V2.done (by kernel_rfl) ?_
                         refine E.blockN (E.thenN (W.region (L.m (V := fun x45 => .int .i64 x45) h rfl (Y.addM rfl rfl) (fun x45 ex45 h => ?_))))
                         refine L.y rfl (Y.move rfl) ?_
                         exact L.nil (E.againJ ⟨x45, l44, rfl, rfl, by rw [hg4]; exact h⟩ (Nat.lt_succ_self _) ⟨rfl, rfl, rfl, rfl, rfl, trivial⟩ (fun _ hw => hw.sel [1, 2, 3, 4, 5, 6, 7, 8, 9, 10, 11] (by decide) rfl))
                        ·
                         refine L.y rfl (Y.pickT rfl rfl) ?_
                         refine L.nil (E.thenN (W.condF rfl ?_))
                         refine W.skip (E.blockN (E.thenN (W.region (L.m (V := fun x46 => .int .i64 x46) h rfl (Y.addM rfl rfl) (fun x46 ex46 h => ?_)))))
                         refine L.y rfl (Y.move rfl) ?_
                         exact L.nil (E.againJ ⟨x46, gl101, rfl, rfl, by rw [hg4]; exact h⟩ (Nat.lt_succ_self _) ⟨rfl, rfl, rfl, rfl, rfl, trivial⟩ (fun _ hw => hw.sel [1, 2, 3, 4, 5, 6, 7, 8, 9, 10, 11] (by decide) rfl))
                       ·
                        refine L.y rfl (Y.move rfl) ?_
                        refine L.pass rfl rfl (by nofun) ?_
                        refine L.pass rfl rfl (by nofun) ?_
                        refine L.pass rfl rfl (by nofun) ?_
                        refine L.pass rfl rfl (by nofun) ?_
                        refine L.y rfl (Y.pickF rfl rfl) ?_
                        refine L.nil (E.thenN (W.condF rfl ?_))
                        refine W.skip (E.blockN (E.thenN (W.region (L.m (V := fun x47 => .int .i64 x47) h rfl (Y.addM rfl rfl) (fun x47 ex47 h => ?_)))))
                        refine L.y rfl (Y.move rfl) ?_
                        exact L.nil (E.againJ ⟨x47, gl101, rfl, rfl, by rw [hg4]; exact h⟩ (Nat.lt_succ_self _) ⟨rfl, rfl, rfl, rfl, rfl, trivial⟩ (fun _ hw => hw.sel [1, 2, 3, 4, 5, 6, 7, 8, 9, 10, 11] (by decide) rfl))
                      ·
                       refine L.nil (E.thenN (W.seq (W.condF rfl ?_)))
                       exact W.exit (E.thenX (E.KLX (E.blockX (E.joinJ ⟨gl101, rfl, rfl, h⟩ ⟨rfl, trivial⟩ (fun _ hw => hw.sel [0, 1, 2, 3, 5, 6, 4, 7, 8, 9, 10] (by decide) rfl)))))
                     ·
                      rintro _ _ ⟨gl99, rfl, rfl, h⟩
                      rw [m3_quirlaw_SectPlays_K23] at h
                      refine W.seq (W.drawn2 (k := 9) (stC [[8]] [Cls w [] [.obj b17 [.int .i64 x14.Kind, .int .i64 x14.N, st x14.Text, gv (q1 gx29.toNat) 0] 32, .obj b15 [.int .i64 x14.Kind, .int .i64 x14.N, st x14.Text, gv (q1 gx29.toNat) 0] 32, .obj gb1 [gv2, gv4, gv32, .int .i64 gx34] 167, .obj gb7 [gv35, gv37, gv39, gv41, .int .i64 gx43] 38, .sl gv2 9 1 (gl99.map SR), .sl gv4 9 1 (gl31.map SR), .sl gv32 312 2 (gl33.map Twrite.row), .sl gv35 9 1 (gl36.map SR), .sl gv37 9 1 (gl38.map SR), .sl gv39 3 1 (gl40.map I), .sl gv41 9 1 (gl42.map SR)]] (Cls w [] [.obj b17 [.int .i64 x14.Kind, .int .i64 x14.N, st x14.Text, gv (q1 gx29.toNat) 0] 32, .obj b15 [.int .i64 x14.Kind, .int .i64 x14.N, st x14.Text, gv (q1 gx29.toNat) 0] 32, .obj gb1 [gv2, gv4, gv32, .int .i64 gx34] 167, .obj gb7 [gv35, gv37, gv39, gv41, .int .i64 gx43] 38, .sl gv2 9 1 (gl99.map SR), .sl gv32 312 2 (gl33.map Twrite.row), .sl gv35 9 1 (gl36.map SR), .sl gv37 9 1 (gl38.map SR), .sl gv39 3 1 (gl40.map I), .sl gv41 9 1 (gl42.map SR)])) rfl mixed (fun _ hw => hw.drew) (Sc.now (by kernel_rfl) (fun _ hw => hw)) ?_)
                      refine V2.y (i := 0) (Nx2.of (Z := Cls w [] [.obj b17 [.int .i64 x14.Kind, .int .i64 x14.N, st x14.Text, gv (q1 gx29.toNat) 0] 32, .obj b15 [.int .i64 x14.Kind, .int .i64 x14.N, st x14.Text, gv (q1 gx29.toNat) 0] 32, .obj gb1 [gv2, gv4, gv32, .int .i64 gx34] 167, .obj gb7 [gv35, gv37, gv39, gv41, .int .i64 gx43] 38, .sl gv2 9 1 (gl99.map SR), .sl gv32 312 2 (gl33.map Twrite.row), .sl gv35 9 1 (gl36.map SR), .sl gv37 9 1 (gl38.map SR), .sl gv39 3 1 (gl40.map I), .sl gv41 9 1 (gl42.map SR)]) [] (by kernel_rfl) rfl (Zc.on (fun _ hw => hw.sel [0, 1, 2, 3, 4, 6, 7, 8, 9, 10] (by decide) rfl) (Zc.fin (fun _ hw => hw)))) rfl rfl rfl (Y.move rfl) ?_
                      refine V2.nilc (i := 1) (Nx2.of (Z := Cls w [] [.obj b17 [.int .i64 x14.Kind, .int .i64 x14.N, st x14.Text, gv (q1 gx29.toNat) 0] 32, .obj b15 [.int .i64 x14.Kind, .int .i64 x14.N, st x14.Text, gv (q1 gx29.toNat) 0] 32, .obj gb1 [gv2, gv4, gv32, .int .i64 gx34] 167, .obj gb7 [gv35, gv37, gv39, gv41, .int .i64 gx43] 38, .sl gv2 9 1 (gl99.map SR), .sl gv32 312 2 (gl33.map Twrite.row), .sl gv35 9 1 (gl36.map SR), .sl gv37 9 1 (gl38.map SR), .sl gv39 3 1 (gl40.map I), .sl gv41 9 1 (gl42.map SR)]) [] (by kernel_rfl) rfl (Zc.on (fun _ hw => hw.sel [0, 1, 2, 3, 4, 6, 7, 8, 9, 10] (by decide) rfl) (Zc.fin (fun _ hw => hw)))) rfl rfl rfl ?_
                      refine V2.y (i := 2) (Nx2.of (Z := Cls w [] [.obj b17 [.int .i64 x14.Kind, .int .i64 x14.N, st x14.Text, gv (q1 gx29.toNat) 0] 32, .obj b15 [.int .i64 x14.Kind, .int .i64 x14.N, st x14.Text, gv (q1 gx29.toNat) 0] 32, .obj gb1 [gv2, gv4, gv32, .int .i64 gx34] 167, .obj gb7 [gv35, gv37, gv39, gv41, .int .i64 gx43] 38, .sl gv2 9 1 (gl99.map SR), .sl gv32 312 2 (gl33.map Twrite.row), .sl gv35 9 1 (gl36.map SR), .sl gv37 9 1 (gl38.map SR), .sl gv39 3 1 (gl40.map I), .sl gv41 9 1 (gl42.map SR)]) [] (by kernel_rfl) rfl (Zc.on (fun _ hw => hw.sel [0, 1, 2, 3, 4, 6, 7, 8, 9, 10] (by decide) rfl) (Zc.fin (fun _ hw => hw)))) rfl rfl rfl (Y.fieldP fd167_1 rfl) ?_
                      refine V2.y (i := 3) (Nx2.of (Z := Cls w [] [.obj b17 [.int .i64 x14.Kind, .int .i64 x14.N, st x14.Text, gv (q1 gx29.toNat) 0] 32, .obj b15 [.int .i64 x14.Kind, .int .i64 x14.N, st x14.Text, gv (q1 gx29.toNat) 0] 32, .obj gb1 [gv2, gv4, gv32, .int .i64 gx34] 167, .obj gb7 [gv35, gv37, gv39, gv41, .int .i64 gx43] 38, .sl gv2 9 1 (gl99.map SR), .sl gv32 312 2 (gl33.map Twrite.row), .sl gv35 9 1 (gl36.map SR), .sl gv37 9 1 (gl38.map SR), .sl gv39 3 1 (gl40.map I), .sl gv41 9 1 (gl42.map SR)]) [] (by kernel_rfl) rfl (Zc.on (fun _ hw => hw.sel [0, 1, 2, 3, 4, 6, 7, 8, 9, 10] (by decide) rfl) (Zc.fin (fun _ hw => hw)))) rfl rfl rfl (Y.loadP (i := 2) ag35 rfl rfl rfl) ?_
                      refine V2.y (i := 4) (Nx2.of (Z := Cls w [] [.obj b17 [.int .i64 x14.Kind, .int .i64 x14.N, st x14.Text, gv (q1 gx29.toNat) 0] 32, .obj b15 [.int .i64 x14.Kind, .int .i64 x14.N, st x14.Text, gv (q1 gx29.toNat) 0] 32, .obj gb1 [gv2, gv4, gv32, .int .i64 gx34] 167, .obj gb7 [gv35, gv37, gv39, gv41, .int .i64 gx43] 38, .sl gv2 9 1 (gl99.map SR), .sl gv32 312 2 (gl33.map Twrite.row), .sl gv35 9 1 (gl36.map SR), .sl gv37 9 1 (gl38.map SR), .sl gv39 3 1 (gl40.map I), .sl gv41 9 1 (gl42.map SR)]) [] (by kernel_rfl) rfl (Zc.on (fun _ hw => hw.sel [0, 1, 2, 3, 4, 6, 7, 8, 9, 10] (by decide) rfl) (Zc.fin (fun _ hw => hw)))) rfl rfl rfl (Y.move rfl) ?_
                      refine V2.nilc (i := 5) (Nx2.of (Z := Cls w [] [.obj b17 [.int .i64 x14.Kind, .int .i64 x14.N, st x14.Text, gv (q1 gx29.toNat) 0] 32, .obj b15 [.int .i64 x14.Kind, .int .i64 x14.N, st x14.Text, gv (q1 gx29.toNat) 0] 32, .obj gb1 [gv2, gv4, gv32, .int .i64 gx34] 167, .obj gb7 [gv35, gv37, gv39, gv41, .int .i64 gx43] 38, .sl gv2 9 1 (gl99.map SR), .sl gv32 312 2 (gl33.map Twrite.row), .sl gv35 9 1 (gl36.map SR), .sl gv37 9 1 (gl38.map SR), .sl gv39 3 1 (gl40.map I), .sl gv41 9 1 (gl42.map SR)]) [] (by kernel_rfl) rfl (Zc.on (fun _ hw => hw.sel [0, 1, 2, 3, 4, 6, 7, 8, 9, 10] (by decide) rfl) (Zc.fin (fun _ hw => hw)))) rfl rfl rfl ?_
                      refine V2.y (i := 6) (Nx2.of (Z := Cls w [] [.obj b17 [.int .i64 x14.Kind, .int .i64 x14.N, st x14.Text, gv (q1 gx29.toNat) 0] 32, .obj b15 [.int .i64 x14.Kind, .int .i64 x14.N, st x14.Text, gv (q1 gx29.toNat) 0] 32, .obj gb1 [gv2, gv4, gv32, .int .i64 gx34] 167, .obj gb7 [gv35, gv37, gv39, gv41, .int .i64 gx43] 38, .sl gv2 9 1 (gl99.map SR), .sl gv32 312 2 (gl33.map Twrite.row), .sl gv35 9 1 (gl36.map SR), .sl gv37 9 1 (gl38.map SR), .sl gv39 3 1 (gl40.map I), .sl gv41 9 1 (gl42.map SR)]) [] (by kernel_rfl) rfl (Zc.on (fun _ hw => hw.sel [0, 1, 2, 3, 4, 6, 7, 8, 9, 10] (by decide) rfl) (Zc.fin (fun _ hw => hw)))) rfl rfl rfl (Y.fieldP fd167_0 rfl) ?_
                      refine V2.y (i := 7) (Nx2.of (Z := Cls w [] [.obj b17 [.int .i64 x14.Kind, .int .i64 x14.N, st x14.Text, gv (q1 gx29.toNat) 0] 32, .obj b15 [.int .i64 x14.Kind, .int .i64 x14.N, st x14.Text, gv (q1 gx29.toNat) 0] 32, .obj gb1 [gv2, gv4, gv32, .int .i64 gx34] 167, .obj gb7 [gv35, gv37, gv39, gv41, .int .i64 gx43] 38, .sl gv2 9 1 (gl99.map SR), .sl gv32 312 2 (gl33.map Twrite.row), .sl gv35 9 1 (gl36.map SR), .sl gv37 9 1 (gl38.map SR), .sl gv39 3 1 (gl40.map I), .sl gv41 9 1 (gl42.map SR)]) [] (by kernel_rfl) rfl (Zc.on (fun _ hw => hw.sel [0, 1, 2, 3, 4, 6, 7, 8, 9, 10] (by decide) rfl) (Zc.fin (fun _ hw => hw)))) rfl rfl rfl (Y.loadP (i := 2) ag35 rfl rfl rfl) ?_
                      refine V2.eff (i := 8) (by kernel_rfl) rfl ?_
                      refine L.copyMD (i := 5) (g := SR) (l := gl31) (s := gl99) rfl Try.underlying35 el9 rfl rfl rfl (fun w hw => As.at_ (hw.get (i := 4) rfl)) (plain_SR _) (fun _ => ?_)
                      refine L.nil (E.toV2 (stC [] [] (Cls w [] [.obj b17 [.int .i64 x14.Kind, .int .i64 x14.N, st x14.Text, gv (q1 gx29.toNat) 0] 32, .obj b15 [.int .i64 x14.Kind, .int .i64 x14.N, st x14.Text, gv (q1 gx29.toNat) 0] 32, .obj gb1 [gv2, gv4, gv32, .int .i64 gx34] 167, .obj gb7 [gv35, gv37, gv39, gv41, .int .i64 gx43] 38, .sl gv2 9 1 (gl99.map SR), .sl gv32 312 2 (gl33.map Twrite.row), .sl gv35 9 1 (gl36.map SR), .sl gv37 9 1 (gl38.map SR), .sl gv39 3 1 (gl40.map I), .sl gv41 9 1 (gl42.map SR)])) 8 (by kernel_rfl) (Sc.past rfl (Sc.stayD (fun _ hw => hw))) (Sc.atD (fun _ hw => hw.sel [0, 1, 2, 3, 4, 6, 7, 8, 9, 10] (by decide) rfl)) ?_)
                      refine V2.done (by kernel_rfl) ?_
                      refine E.thenN (W.region (L.y rfl (Y.move rfl) ?_))
                      refine L.y rfl (Y.move rfl) ?_
                      refine L.y rfl (Y.nilCheck rfl) ?_
                      refine L.y rfl (Y.fieldP fd167_2 rfl) ?_
                      refine L.store (i := 2) sz165 rfl rfl rfl rfl (by simp [Value.oneCell', Value.cells, st]) rfl (Nat.le_of_ble_eq_true rfl) ?_
                      refine L.y rfl (Y.nilCheck rfl) ?_
                      refine L.y rfl (Y.fieldP fd167_3 rfl) ?_
                      refine L.store (i := 2) sz3 rfl rfl rfl rfl (by simp [Value.oneCell', Value.cells, st]) rfl (Nat.le_of_ble_eq_true rfl) ?_
                      refine L.nil (E.end0 rfl (fun w1 hw => ?_))
                      exact ⟨_, _, rfl, ⟨gl99, (cpy gl31 gl99), rfl, rfl, h⟩, hw.sel [0, 1, 2, 3, 4, 5, 7, 8, 9, 10, 6] (by decide) rfl⟩
                    ·
                     rintro _ _ ⟨gl91, gl92, rfl, rfl, h⟩
                     rw [m3_quirlaw_SectPlays_K20] at h
                     refine L.nil (E.thenN (W.region (L.y rfl (Y.move rfl) ?_)))
                     refine L.y rfl (Y.fieldP fd32_3 rfl) ?_
                     refine L.y rfl (Y.loadP (i := 0) ag30 rfl rfl rfl) ?_
                     refine L.callJ (fun v D => ∃ (gv93 : Value) (gl94 : (List (List UInt8))) (gl95 : (List (List UInt8))), v = .tuple #[] ∧ D = Cls w [] [.obj b17 [.int .i64 x14.Kind, .int .i64 x14.N, st x14.Text, gv (q1 gx29.toNat) 0] 32, .obj b15 [.int .i64 x14.Kind, .int .i64 x14.N, st x14.Text, gv (q1 gx29.toNat) 0] 32, .obj gb1 [gv2, gv4, .slice none 0 0, .int .i64 (-1)] 167, .obj gb7 [gv93, gv37, .slice none 0 0, .slice none 0 0, .int .i64 (-1)] 38, .sl gv2 9 1 (gl91.map SR), .sl gv4 9 1 (gl92.map SR), .sl gv93 9 1 (gl94.map SR), .sl gv37 9 1 (gl95.map SR), .sl gv32 312 2 (gl33.map Twrite.row), .sl gv35 9 1 (gl36.map SR), .sl gv39 3 1 (gl40.map I), .sl gv41 9 1 (gl42.map SR)] ∧ m3_quirlaw_SectPlays_K21 gx29 go2 gl91 gl92 gl94 gl95 = some r) rfl en106 rfl Try.func106 rfl rfl rfl ?_ ?_
                     ·
                      refine W.seqJ (fun gs D => ∃ (gl96 : (List (List UInt8))), gs = [(0, pt gb7 0)] ∧ D = Cls w [] [.obj b17 [.int .i64 x14.Kind, .int .i64 x14.N, st x14.Text, gv (q1 gx29.toNat) 0] 32, .obj b15 [.int .i64 x14.Kind, .int .i64 x14.N, st x14.Text, gv (q1 gx29.toNat) 0] 32, .obj gb1 [gv2, gv4, .slice none 0 0, .int .i64 (-1)] 167, .obj gb7 [gv35, gv37, gv39, gv41, .int .i64 gx43] 38, .sl gv2 9 1 (gl91.map SR), .sl gv4 9 1 (gl92.map SR), .sl gv35 9 1 (gl36.map SR), .sl gv37 9 1 (gl96.map SR), .sl gv39 3 1 (gl40.map I), .sl gv41 9 1 (gl42.map SR), .sl gv32 312 2 (gl33.map Twrite.row)] ∧ m3_quirlaw_SectPlays_K22 gx29 go2 gl91 gl92 gl96 = some r) ?_ ?_
                      ·
                       refine W.seq (W.region (L.y rfl (Y.move rfl) ?_))
                       refine L.y rfl (Y.nilCheck rfl) ?_
                       refine L.y rfl (Y.fieldP fd38_2 rfl) ?_
                       refine L.y rfl (Y.loadP (i := 3) ag36 rfl rfl rfl) ?_
                       refine L.y rfl (Y.lenM (g := I) (l := gl40) Try.underlying36 rfl (fun w hw => As.at_ (hw.get (i := 8) rfl))) ?_
                       refine L.y rfl (Y.move rfl) ?_
                       refine L.nil (E.thenN (W.block (W.loopJ (fun m gs D => ∃ (gx97 : Int) (gl98 : (List (List UInt8))), gs = [(0, pt gb7 0), (1, gv (q1 gx29.toNat) 0), (9, gv39), (10, .int .i64 (gl40.length : Int)), (11, .int .i64 gx97)] ∧ D = Cls w [] [.obj b17 [.int .i64 x14.Kind, .int .i64 x14.N, st x14.Text, gv (q1 gx29.toNat) 0] 32, .obj b15 [.int .i64 x14.Kind, .int .i64 x14.N, st x14.Text, gv (q1 gx29.toNat) 0] 32, .obj gb1 [gv2, gv4, .slice none 0 0, .int .i64 (-1)] 167, .obj gb7 [gv35, gv37, gv39, gv41, .int .i64 gx43] 38, .sl gv39 3 1 (gl40.map I), .sl gv2 9 1 (gl91.map SR), .sl gv4 9 1 (gl92.map SR), .sl gv35 9 1 (gl36.map SR), .sl gv37 9 1 (gl98.map SR), .sl gv41 9 1 (gl42.map SR), .sl gv32 312 2 (gl33.map Twrite.row)] ∧ m3_quirlaw_SectPlays_L3 gl40 x14 gl42 gx29 go2 gl91 gl92 m gx97 gl98 = some r) ⟨0, gl38, rfl, rfl, h⟩ ⟨rfl, rfl, rfl, rfl, rfl, trivial⟩ (fun _ hw => hw.sel [0, 1, 2, 3, 8, 4, 5, 6, 7, 9, 10] (by decide) rfl) ?_)))
                       rintro m _ _ ⟨gx97, gl98, rfl, rfl, h⟩
                       rcases m with _ | m
                       · rw [m3_quirlaw_SectPlays_L3] at h; cases h
                       rw [m3_quirlaw_SectPlays_L3] at h
                       generalize hg3 : m3_quirlaw_SectPlays_L3 gl40 x14 gl42 gx29 go2 gl91 gl92 m = go3 at h
                       rw [m3_quirlaw_SectPlays_L3B] at h
                       refine W.seq (W.region (L.ite h rfl (Y.lss rfl rfl) (fun c21 h => ?_) (fun c21 h => ?_)))
                       ·
                        refine L.nil (E.thenN (W.seq (W.condT rfl ?_)))
                        refine W.skip (E.thenN (W.seq (W.block (W.seq (W.region (L.y rfl (Y.move rfl) ?_))))))
                        refine L.m (V := fun _ => el gv39 (gx97.toNat * 1)) h rfl (Y.indexM (g := I) (l := gl40) Try.underlying36 sz3 rfl rfl (fun w hw => As.at_ (hw.get (i := 4) rfl))) (fun x22 ex22 h => ?_)
                        refine L.y rfl (Y.loadE1 (u := .int .i64 x22) ag3 rfl (fun w hw => As.at_ (hw.get (i := 4) rfl)) (idx_map ex22)) ?_
                        refine L.y rfl (Y.assign rfl) ?_
                        refine L.y rfl (Y.assign rfl) ?_
                        refine L.nil (E.thenN (W.seq (W.region (L.y rfl (Y.move rfl) ?_))))
                        refine L.y rfl (Y.move rfl) ?_
                        refine L.y rfl (Y.lenM (g := B) (l := x14.Keep) Try.underlying30 rfl (fun w' hw => (zAt (sds := TDeed.sds) (vs := q1) (j := 0) hD1 (fun _ _ => rfl) ex14 rfl).cls0 hw)) ?_
                        refine L.ite h rfl (Y.lss rfl rfl) (fun c23 h => ?_) (fun c23 h => ?_)
                        ·
                         refine L.y rfl (Y.move rfl) ?_
                         refine L.take rfl (L.y rfl (Y.move rfl) ?_)
                         refine L.take rfl (L.y rfl (Y.move rfl) ?_)
                         refine L.take rfl (L.m (V := fun _ => el (gv (q1 gx29.toNat) 0) (gx97.toNat * 1)) h rfl (Y.indexM (g := B) (l := x14.Keep) Try.underlying30 sz4 rfl rfl (fun w' hw => (zAt (sds := TDeed.sds) (vs := q1) (j := 0) hD1 (fun _ _ => rfl) ex14 rfl).cls0 hw)) (fun x24 ex24 h => ?_))
                         refine L.take rfl (L.iteB h rfl (Y.loadE1 (u := .bool x24) ag4 rfl (fun w' hw => (zAt (sds := TDeed.sds) (vs := q1) (j := 0) hD1 (fun _ _ => rfl) ex14 rfl).cls0 hw) (idx_map ex24)) (fun c25 h => ?_) (fun c25 h => ?_))
                         ·
                          refine L.y rfl (Y.pickT rfl rfl) ?_
                          refine L.nil (E.thenN (W.condT rfl ?_))
                          refine W.drawn2 (k := 14) (stC [[13]] [Cls w [] [.obj b17 [.int .i64 x14.Kind, .int .i64 x14.N, st x14.Text, gv (q1 gx29.toNat) 0] 32, .obj b15 [.int .i64 x14.Kind, .int .i64 x14.N, st x14.Text, gv (q1 gx29.toNat) 0] 32, .obj gb1 [gv2, gv4, .slice none 0 0, .int .i64 (-1)] 167, .obj gb7 [gv35, gv37, gv39, gv41, .int .i64 gx43] 38, .sl gv39 3 1 (gl40.map I), .sl gv2 9 1 (gl91.map SR), .sl gv4 9 1 (gl92.map SR), .sl gv35 9 1 (gl36.map SR), .sl gv37 9 1 (gl98.map SR), .sl gv41 9 1 (gl42.map SR), .sl gv32 312 2 (gl33.map Twrite.row)]] (Cls w [] [.obj b17 [.int .i64 x14.Kind, .int .i64 x14.N, st x14.Text, gv (q1 gx29.toNat) 0] 32, .obj b15 [.int .i64 x14.Kind, .int .i64 x14.N, st x14.Text, gv (q1 gx29.toNat) 0] 32, .obj gb1 [gv2, gv4, .slice none 0 0, .int .i64 (-1)] 167, .obj gb7 [gv35, gv37, gv39, gv41, .int .i64 gx43] 38, .sl gv39 3 1 (gl40.map I), .sl gv2 9 1 (gl91.map SR), .sl gv4 9 1 (gl92.map SR), .sl gv35 9 1 (gl36.map SR), .sl gv41 9 1 (gl42.map SR), .sl gv32 312 2 (gl33.map Twrite.row)])) rfl mixed (fun _ hw => hw.drew) (Sc.now (by kernel_rfl) (fun _ hw => hw)) ?_
                          refine V2.y (i := 0) (Nx2.of (Z := Cls w [] [.obj b17 [.int .i64 x14.Kind, .int .i64 x14.N, st x14.Text, gv (q1 gx29.toNat) 0] 32, .obj b15 [.int .i64 x14.Kind, .int .i64 x14.N, st x14.Text, gv (q1 gx29.toNat) 0] 32, .obj gb1 [gv2, gv4, .slice none 0 0, .int .i64 (-1)] 167, .obj gb7 [gv35, gv37, gv39, gv41, .int .i64 gx43] 38, .sl gv39 3 1 (gl40.map I), .sl gv2 9 1 (gl91.map SR), .sl gv4 9 1 (gl92.map SR), .sl gv35 9 1 (gl36.map SR), .sl gv41 9 1 (gl42.map SR), .sl gv32 312 2 (gl33.map Twrite.row)]) [] (by kernel_rfl) rfl (Zc.on (fun _ hw => hw.sel [0, 1, 2, 3, 4, 5, 6, 7, 9, 10] (by decide) rfl) (Zc.fin (fun _ hw => hw)))) rfl rfl rfl (Y.move rfl) ?_
                          refine V2.nilc (i := 1) (Nx2.of (Z := Cls w [] [.obj b17 [.int .i64 x14.Kind, .int .i64 x14.N, st x14.Text, gv (q1 gx29.toNat) 0] 32, .obj b15 [.int .i64 x14.Kind, .int .i64 x14.N, st x14.Text, gv (q1 gx29.toNat) 0] 32, .obj gb1 [gv2, gv4, .slice none 0 0, .int .i64 (-1)] 167, .obj gb7 [gv35, gv37, gv39, gv41, .int .i64 gx43] 38, .sl gv39 3 1 (gl40.map I), .sl gv2 9 1 (gl91.map SR), .sl gv4 9 1 (gl92.map SR), .sl gv35 9 1 (gl36.map SR), .sl gv41 9 1 (gl42.map SR), .sl gv32 312 2 (gl33.map Twrite.row)]) [] (by kernel_rfl) rfl (Zc.on (fun _ hw => hw.sel [0, 1, 2, 3, 4, 5, 6, 7, 9, 10] (by decide) rfl) (Zc.fin (fun _ hw => hw)))) rfl rfl rfl ?_
                          refine V2.y (i := 2) (Nx2.of (Z := Cls w [] [.obj b17 [.int .i64 x14.Kind, .int .i64 x14.N, st x14.Text, gv (q1 gx29.toNat) 0] 32, .obj b15 [.int .i64 x14.Kind, .int .i64 x14.N, st x14.Text, gv (q1 gx29.toNat) 0] 32, .obj gb1 [gv2, gv4, .slice none 0 0, .int .i64 (-1)] 167, .obj gb7 [gv35, gv37, gv39, gv41, .int .i64 gx43] 38, .sl gv39 3 1 (gl40.map I), .sl gv2 9 1 (gl91.map SR), .sl gv4 9 1 (gl92.map SR), .sl gv35 9 1 (gl36.map SR), .sl gv41 9 1 (gl42.map SR), .sl gv32 312 2 (gl33.map Twrite.row)]) [] (by kernel_rfl) rfl (Zc.on (fun _ hw => hw.sel [0, 1, 2, 3, 4, 5, 6, 7, 9, 10] (by decide) rfl) (Zc.fin (fun _ hw => hw)))) rfl rfl rfl (Y.fieldP fd38_1 rfl) ?_
                          refine V2.y (i := 3) (Nx2.of (Z := Cls w [] [.obj b17 [.int .i64 x14.Kind, .int .i64 x14.N, st x14.Text, gv (q1 gx29.toNat) 0] 32, .obj b15 [.int .i64 x14.Kind, .int .i64 x14.N, st x14.Text, gv (q1 gx29.toNat) 0] 32, .obj gb1 [gv2, gv4, .slice none 0 0, .int .i64 (-1)] 167, .obj gb7 [gv35, gv37, gv39, gv41, .int .i64 gx43] 38, .sl gv39 3 1 (gl40.map I), .sl gv2 9 1 (gl91.map SR), .sl gv4 9 1 (gl92.map SR), .sl gv35 9 1 (gl36.map SR), .sl gv41 9 1 (gl42.map SR), .sl gv32 312 2 (gl33.map Twrite.row)]) [] (by kernel_rfl) rfl (Zc.on (fun _ hw => hw.sel [0, 1, 2, 3, 4, 5, 6, 7, 9, 10] (by decide) rfl) (Zc.fin (fun _ hw => hw)))) rfl rfl rfl (Y.loadP (i := 3) ag35 rfl rfl rfl) ?_
                          refine V2.y (i := 4) (Nx2.of (Z := Cls w [] [.obj b17 [.int .i64 x14.Kind, .int .i64 x14.N, st x14.Text, gv (q1 gx29.toNat) 0] 32, .obj b15 [.int .i64 x14.Kind, .int .i64 x14.N, st x14.Text, gv (q1 gx29.toNat) 0] 32, .obj gb1 [gv2, gv4, .slice none 0 0, .int .i64 (-1)] 167, .obj gb7 [gv35, gv37, gv39, gv41, .int .i64 gx43] 38, .sl gv39 3 1 (gl40.map I), .sl gv2 9 1 (gl91.map SR), .sl gv4 9 1 (gl92.map SR), .sl gv35 9 1 (gl36.map SR), .sl gv41 9 1 (gl42.map SR), .sl gv32 312 2 (gl33.map Twrite.row)]) [] (by kernel_rfl) rfl (Zc.on (fun _ hw => hw.sel [0, 1, 2, 3, 4, 5, 6, 7, 9, 10] (by decide) rfl) (Zc.fin (fun _ hw => hw)))) rfl rfl rfl (Y.move rfl) ?_
                          refine V2.y (i := 5) (Nx2.of (Z := Cls w [] [.obj b17 [.int .i64 x14.Kind, .int .i64 x14.N, st x14.Text, gv (q1 gx29.toNat) 0] 32, .obj b15 [.int .i64 x14.Kind, .int .i64 x14.N, st x14.Text, gv (q1 gx29.toNat) 0] 32, .obj gb1 [gv2, gv4, .slice none 0 0, .int .i64 (-1)] 167, .obj gb7 [gv35, gv37, gv39, gv41, .int .i64 gx43] 38, .sl gv39 3 1 (gl40.map I), .sl gv2 9 1 (gl91.map SR), .sl gv4 9 1 (gl92.map SR), .sl gv35 9 1 (gl36.map SR), .sl gv41 9 1 (gl42.map SR), .sl gv32 312 2 (gl33.map Twrite.row)]) [] (by kernel_rfl) rfl (Zc.on (fun _ hw => hw.sel [0, 1, 2, 3, 4, 5, 6, 7, 9, 10] (by decide) rfl) (Zc.fin (fun _ hw => hw)))) rfl rfl rfl (Y.move rfl) ?_
                          refine V2.nilc (i := 6) (Nx2.of (Z := Cls w [] [.obj b17 [.int .i64 x14.Kind, .int .i64 x14.N, st x14.Text, gv (q1 gx29.toNat) 0] 32, .obj b15 [.int .i64 x14.Kind, .int .i64 x14.N, st x14.Text, gv (q1 gx29.toNat) 0] 32, .obj gb1 [gv2, gv4, .slice none 0 0, .int .i64 (-1)] 167, .obj gb7 [gv35, gv37, gv39, gv41, .int .i64 gx43] 38, .sl gv39 3 1 (gl40.map I), .sl gv2 9 1 (gl91.map SR), .sl gv4 9 1 (gl92.map SR), .sl gv35 9 1 (gl36.map SR), .sl gv41 9 1 (gl42.map SR), .sl gv32 312 2 (gl33.map Twrite.row)]) [] (by kernel_rfl) rfl (Zc.on (fun _ hw => hw.sel [0, 1, 2, 3, 4, 5, 6, 7, 9, 10] (by decide) rfl) (Zc.fin (fun _ hw => hw)))) rfl rfl rfl ?_
                          refine V2.y (i := 7) (Nx2.of (Z := Cls w [] [.obj b17 [.int .i64 x14.Kind, .int .i64 x14.N, st x14.Text, gv (q1 gx29.toNat) 0] 32, .obj b15 [.int .i64 x14.Kind, .int .i64 x14.N, st x14.Text, gv (q1 gx29.toNat) 0] 32, .obj gb1 [gv2, gv4, .slice none 0 0, .int .i64 (-1)] 167, .obj gb7 [gv35, gv37, gv39, gv41, .int .i64 gx43] 38, .sl gv39 3 1 (gl40.map I), .sl gv2 9 1 (gl91.map SR), .sl gv4 9 1 (gl92.map SR), .sl gv35 9 1 (gl36.map SR), .sl gv41 9 1 (gl42.map SR), .sl gv32 312 2 (gl33.map Twrite.row)]) [] (by kernel_rfl) rfl (Zc.on (fun _ hw => hw.sel [0, 1, 2, 3, 4, 5, 6, 7, 9, 10] (by decide) rfl) (Zc.fin (fun _ hw => hw)))) rfl rfl rfl (Y.fieldP fd38_3 rfl) ?_
                          refine V2.y (i := 8) (Nx2.of (Z := Cls w [] [.obj b17 [.int .i64 x14.Kind, .int .i64 x14.N, st x14.Text, gv (q1 gx29.toNat) 0] 32, .obj b15 [.int .i64 x14.Kind, .int .i64 x14.N, st x14.Text, gv (q1 gx29.toNat) 0] 32, .obj gb1 [gv2, gv4, .slice none 0 0, .int .i64 (-1)] 167, .obj gb7 [gv35, gv37, gv39, gv41, .int .i64 gx43] 38, .sl gv39 3 1 (gl40.map I), .sl gv2 9 1 (gl91.map SR), .sl gv4 9 1 (gl92.map SR), .sl gv35 9 1 (gl36.map SR), .sl gv41 9 1 (gl42.map SR), .sl gv32 312 2 (gl33.map Twrite.row)]) [] (by kernel_rfl) rfl (Zc.on (fun _ hw => hw.sel [0, 1, 2, 3, 4, 5, 6, 7, 9, 10] (by decide) rfl) (Zc.fin (fun _ hw => hw)))) rfl rfl rfl (Y.loadP (i := 3) ag35 rfl rfl rfl) ?_
                          refine V2.y (i := 9) (Nx2.of (Z := Cls w [] [.obj b17 [.int .i64 x14.Kind, .int .i64 x14.N, st x14.Text, gv (q1 gx29.toNat) 0] 32, .obj b15 [.int .i64 x14.Kind, .int .i64 x14.N, st x14.Text, gv (q1 gx29.toNat) 0] 32, .obj gb1 [gv2, gv4, .slice none 0 0, .int .i64 (-1)] 167, .obj gb7 [gv35, gv37, gv39, gv41, .int .i64 gx43] 38, .sl gv39 3 1 (gl40.map I), .sl gv2 9 1 (gl91.map SR), .sl gv4 9 1 (gl92.map SR), .sl gv35 9 1 (gl36.map SR), .sl gv41 9 1 (gl42.map SR), .sl gv32 312 2 (gl33.map Twrite.row)]) [] (by kernel_rfl) rfl (Zc.on (fun _ hw => hw.sel [0, 1, 2, 3, 4, 5, 6, 7, 9, 10] (by decide) rfl) (Zc.fin (fun _ hw => hw)))) rfl rfl rfl (Y.move rfl) ?_
                          refine V2.m (i := 10) (V' := fun _ => el gv41 (gx97.toNat * 1)) h (Nx2.of (Z := Cls w [] [.obj b17 [.int .i64 x14.Kind, .int .i64 x14.N, st x14.Text, gv (q1 gx29.toNat) 0] 32, .obj b15 [.int .i64 x14.Kind, .int .i64 x14.N, st x14.Text, gv (q1 gx29.toNat) 0] 32, .obj gb1 [gv2, gv4, .slice none 0 0, .int .i64 (-1)] 167, .obj gb7 [gv35, gv37, gv39, gv41, .int .i64 gx43] 38, .sl gv39 3 1 (gl40.map I), .sl gv2 9 1 (gl91.map SR), .sl gv4 9 1 (gl92.map SR), .sl gv35 9 1 (gl36.map SR), .sl gv41 9 1 (gl42.map SR), .sl gv32 312 2 (gl33.map Twrite.row)]) [] (by kernel_rfl) rfl (Zc.on (fun _ hw => hw.sel [0, 1, 2, 3, 4, 5, 6, 7, 9, 10] (by decide) rfl) (Zc.fin (fun _ hw => hw)))) rfl rfl rfl (Y.indexM (g := SR) (l := gl42) Try.underlying35 sz9 rfl rfl (fun w hw => As.at_ (hw.get (i := 8) rfl))) (fun x29 ex29 h => ?_)
                          refine V2.y (i := 11) (Nx2.of (Z := Cls w [] [.obj b17 [.int .i64 x14.Kind, .int .i64 x14.N, st x14.Text, gv (q1 gx29.toNat) 0] 32, .obj b15 [.int .i64 x14.Kind, .int .i64 x14.N, st x14.Text, gv (q1 gx29.toNat) 0] 32, .obj gb1 [gv2, gv4, .slice none 0 0, .int .i64 (-1)] 167, .obj gb7 [gv35, gv37, gv39, gv41, .int .i64 gx43] 38, .sl gv39 3 1 (gl40.map I), .sl gv2 9 1 (gl91.map SR), .sl gv4 9 1 (gl92.map SR), .sl gv35 9 1 (gl36.map SR), .sl gv41 9 1 (gl42.map SR), .sl gv32 312 2 (gl33.map Twrite.row)]) [] (by kernel_rfl) rfl (Zc.on (fun _ hw => hw.sel [0, 1, 2, 3, 4, 5, 6, 7, 9, 10] (by decide) rfl) (Zc.fin (fun _ hw => hw)))) rfl rfl rfl (Y.loadE1 (u := st x29) ag9 rfl (fun w hw => As.at_ (hw.get (i := 8) rfl)) (idx_map ex29)) ?_
                          refine V2.m (i := 12) (V' := fun _ => el gv37 (x22.toNat * 1)) h (Nx2.of (Z := Cls w [] [.obj b17 [.int .i64 x14.Kind, .int .i64 x14.N, st x14.Text, gv (q1 gx29.toNat) 0] 32, .obj b15 [.int .i64 x14.Kind, .int .i64 x14.N, st x14.Text, gv (q1 gx29.toNat) 0] 32, .obj gb1 [gv2, gv4, .slice none 0 0, .int .i64 (-1)] 167, .obj gb7 [gv35, gv37, gv39, gv41, .int .i64 gx43] 38, .sl gv39 3 1 (gl40.map I), .sl gv2 9 1 (gl91.map SR), .sl gv4 9 1 (gl92.map SR), .sl gv35 9 1 (gl36.map SR), .sl gv37 9 1 (gl98.map SR), .sl gv41 9 1 (gl42.map SR), .sl gv32 312 2 (gl33.map Twrite.row)]) [13] (by kernel_rfl) rfl (Zc.at1 (fun _ hw => hw))) rfl rfl rfl (Y.indexM (g := SR) (l := gl98) Try.underlying35 sz9 rfl rfl (fun w hw => As.at_ (hw.get (i := 8) rfl))) (fun x30 ex30 h => ?_)
                          refine V2.eff (i := 13) (by kernel_rfl) rfl ?_
                          refine L.storeSlM (q := 8) (row := SR) (vs := [st x29]) (j := 0) (u1 := x29) h sz9 rfl rfl rfl rfl rfl (all1 rfl all0) rfl ex30 rfl rfl ?_
                          intro l31 el31 h
                          refine L.nil (E.toV2 (stC [] [] (Cls w [] [.obj b17 [.int .i64 x14.Kind, .int .i64 x14.N, st x14.Text, gv (q1 gx29.toNat) 0] 32, .obj b15 [.int .i64 x14.Kind, .int .i64 x14.N, st x14.Text, gv (q1 gx29.toNat) 0] 32, .obj gb1 [gv2, gv4, .slice none 0 0, .int .i64 (-1)] 167, .obj gb7 [gv35, gv37, gv39, gv41, .int .i64 gx43] 38, .sl gv39 3 1 (gl40.map I), .sl gv2 9 1 (gl91.map SR), .sl gv4 9 1 (gl92.map SR), .sl gv35 9 1 (gl36.map SR), .sl gv41 9 1 (gl42.map SR), .sl gv32 312 2 (gl33.map Twrite.row)])) 13 (by kernel_rfl) (Sc.past rfl (Sc.stayD (fun _ hw => hw))) (Sc.atD (fun _ hw => hw.sel [0, 1, 2, 3, 4, 5, 6, 7, 9, 10] (by decide) rfl)) ?_)
                          refine V2.done (by kernel_rfl) ?_
                          refine E.blockN (E.thenN (W.region (L.m (V := fun x32 => .int .i64 x32) h rfl (Y.addM rfl rfl) (fun x32 ex32 h => ?_))))
                          refine L.y rfl (Y.move rfl) ?_
                          exact L.nil (E.againJ ⟨x32, l31, rfl, rfl, by rw [hg3]; exact h⟩ (Nat.lt_succ_self _) ⟨rfl, rfl, rfl, rfl, rfl, trivial⟩ (fun _ hw => hw))
                         ·
                          refine L.y rfl (Y.pickT rfl rfl) ?_
                          refine L.nil (E.thenN (W.condF rfl ?_))
                          refine W.skip (E.blockN (E.thenN (W.region (L.m (V := fun x33 => .int .i64 x33) h rfl (Y.addM rfl rfl) (fun x33 ex33 h => ?_)))))
                          refine L.y rfl (Y.move rfl) ?_
                          exact L.nil (E.againJ ⟨x33, gl98, rfl, rfl, by rw [hg3]; exact h⟩ (Nat.lt_succ_self _) ⟨rfl, rfl, rfl, rfl, rfl, trivial⟩ (fun _ hw => hw))
                        ·
                         refine L.y rfl (Y.move rfl) ?_
                         refine L.pass rfl rfl (by nofun) ?_
                         refine L.pass rfl rfl (by nofun) ?_
                         refine L.pass rfl rfl (by nofun) ?_
                         refine L.pass rfl rfl (by nofun) ?_
                         refine L.y rfl (Y.pickF rfl rfl) ?_
                         refine L.nil (E.thenN (W.condF rfl ?_))
                         refine W.skip (E.blockN (E.thenN (W.region (L.m (V := fun x34 => .int .i64 x34) h rfl (Y.addM rfl rfl) (fun x34 ex34 h => ?_)))))
                         refine L.y rfl (Y.move rfl) ?_
                         exact L.nil (E.againJ ⟨x34, gl98, rfl, rfl, by rw [hg3]; exact h⟩ (Nat.lt_succ_self _) ⟨rfl, rfl, rfl, rfl, rfl, trivial⟩ (fun _ hw => hw))
                       ·
                        refine L.nil (E.thenN (W.seq (W.condF rfl ?_)))
                        exact W.exit (E.thenX (E.KLX (E.blockX (E.joinJ ⟨gl98, rfl, rfl, h⟩ ⟨rfl, trivial⟩ (fun _ hw => hw.sel [0, 1, 2, 3, 5, 6, 7, 8, 4, 9, 10] (by decide) rfl)))))
                      ·
                       rintro _ _ ⟨gl96, rfl, rfl, h⟩
                       rw [m3_quirlaw_SectPlays_K22] at h
                       refine W.seq (W.region (L.y rfl (Y.move rfl) ?_))
                       refine L.y rfl (Y.move rfl) ?_
                       refine L.y rfl (Y.nilCheck rfl) ?_
                       refine L.y rfl (Y.fieldP fd38_1 rfl) ?_
                       refine L.y rfl (Y.loadP (i := 3) ag35 rfl rfl rfl) ?_
                       obtain ⟨l18, e20, h⟩ := bind1S h
                       refine L.does rfl en231 rfl (fun w' hw => w231_slices_Clone_string gl96 gv37 w' _ e20 (As.at_ (hw.get (i := 7) rfl))) ?_
                       rintro v19 _ ⟨_, rfl, rfl⟩
                       refine L.y rfl (Y.nilCheck rfl) ?_
                       refine L.y rfl (Y.fieldP fd38_0 rfl) ?_
                       refine L.storeV (i := 4) sz35 rfl rfl (fun _ hw => (As.at_ (hw.get (i := 0) rfl)).one) rfl (Nat.le_of_ble_eq_true rfl) ?_
                       refine L.nil (E.thenN (W.region (L.y rfl (Y.move rfl) ?_)))
                       refine L.y rfl (Y.move rfl) ?_
                       refine L.y rfl (Y.move rfl) ?_
                       refine L.y rfl (Y.nilCheck rfl) ?_
                       refine L.y rfl (Y.fieldP fd38_2 rfl) ?_
                       refine L.store (i := 4) sz36 rfl rfl rfl rfl (by simp [Value.oneCell', Value.cells, st]) rfl (Nat.le_of_ble_eq_true rfl) ?_
                       refine L.y rfl (Y.nilCheck rfl) ?_
                       refine L.y rfl (Y.fieldP fd38_3 rfl) ?_
                       refine L.store (i := 4) sz35 rfl rfl rfl rfl (by simp [Value.oneCell', Value.cells, st]) rfl (Nat.le_of_ble_eq_true rfl) ?_
                       refine L.y rfl (Y.nilCheck rfl) ?_
                       refine L.y rfl (Y.fieldP fd38_4 rfl) ?_
                       refine L.store (i := 4) sz3 rfl rfl rfl rfl (by simp [Value.oneCell', Value.cells, st]) rfl (Nat.le_of_ble_eq_true rfl) ?_
                       refine L.nil (E.end0 rfl (fun w1 hw => ?_))
                       exact ⟨_, _, rfl, ⟨v19, l18, gl96, rfl, rfl, h⟩, hw.sel [1, 2, 3, 4, 5, 6, 0, 8, 11, 7, 9, 10] (by decide) rfl⟩
                     ·
                      rintro _ _ ⟨gv93, gl94, gl95, rfl, rfl, h⟩
                      rw [m3_quirlaw_SectPlays_K21] at h
                      refine L.nil (E.blockN (E.nilSl 312 2 ?_))
                      refine E.nilSl 3 1 ?_
                      refine E.nilSl 9 1 ?_
                      exact E.joinJ ⟨gl91, gl92, .slice none 0 0, [], (-1), gv93, gl94, gl95, .slice none 0 0, [], .slice none 0 0, [], (-1), rfl, rfl, h⟩ trivial (fun _ hw => hw.sel [4, 5, 6, 7, 8, 2, 9, 10, 1, 0] (by decide) rfl)
                   ·
                    replace h := iteT h
                    refine W.condT rfl ?_
                    refine W.seq (W.region (L.y rfl (Y.move rfl) ?_))
                    refine L.y rfl (Y.fieldP fd32_1 rfl) ?_
                    refine L.y rfl (Y.loadP (i := 0) ag3 rfl rfl rfl) ?_
                    refine L.callJ (fun v D => v = .tuple #[] ∧ D = Cls w [] [.obj b17 [.int .i64 x14.Kind, .int .i64 x14.N, st x14.Text, gv (q1 gx29.toNat) 0] 32, .obj b15 [.int .i64 x14.Kind, .int .i64 x14.N, st x14.Text, gv (q1 gx29.toNat) 0] 32, .obj gb1 [gv2, gv4, gv32, .int .i64 (max x14.N (-1))] 167, .obj gb7 [gv35, gv37, gv39, gv41, .int .i64 gx43] 38, .sl gv2 9 1 (gl30.map SR), .sl gv4 9 1 (gl31.map SR), .sl gv32 312 2 (gl33.map Twrite.row), .sl gv35 9 1 (gl36.map SR), .sl gv37 9 1 (gl38.map SR), .sl gv39 3 1 (gl40.map I), .sl gv41 9 1 (gl42.map SR)] ∧ m3_quirlaw_SectPlays_K24 x14 gx29 go2 gl30 gl31 gl33 gl36 gl38 gl40 gl42 = some r) rfl en19 rfl Try.func19 rfl rfl rfl ?_ ?_
                    ·
                     refine W.region (L.y rfl (Y.move rfl) ?_)
                     refine L.y rfl (Y.move rfl) ?_
                     refine L.y rfl (Y.max2 rfl rfl) ?_
                     refine L.y rfl (Y.nilCheck rfl) ?_
                     refine L.y rfl (Y.fieldP fd167_3 rfl) ?_
                     refine L.store (i := 2) sz3 rfl rfl rfl rfl (by simp [Value.oneCell', Value.cells, st]) rfl (Nat.le_of_ble_eq_true rfl) ?_
                     refine L.nil (E.end0 rfl (fun w1 hw => ?_))
                     exact ⟨_, _, rfl, ⟨rfl, rfl, h⟩, hw⟩
                    ·
                     rintro _ _ ⟨rfl, rfl, h⟩
                     rw [m3_quirlaw_SectPlays_K24] at h
                     refine L.nil (E.thenN (W.region (L.y rfl (Y.move rfl) ?_)))
                     refine L.y rfl (Y.fieldP fd32_1 rfl) ?_
                     refine L.y rfl (Y.loadP (i := 0) ag3 rfl rfl rfl) ?_
                     refine L.callJ (fun v D => ∃ (gx102 : Int), v = .tuple #[] ∧ D = Cls w [] [.obj b17 [.int .i64 x14.Kind, .int .i64 x14.N, st x14.Text, gv (q1 gx29.toNat) 0] 32, .obj b15 [.int .i64 x14.Kind, .int .i64 x14.N, st x14.Text, gv (q1 gx29.toNat) 0] 32, .obj gb1 [gv2, gv4, gv32, .int .i64 (max x14.N (-1))] 167, .obj gb7 [gv35, gv37, gv39, gv41, .int .i64 gx102] 38, .sl gv2 9 1 (gl30.map SR), .sl gv4 9 1 (gl31.map SR), .sl gv32 312 2 (gl33.map Twrite.row), .sl gv35 9 1 (gl36.map SR), .sl gv37 9 1 (gl38.map SR), .sl gv39 3 1 (gl40.map I), .sl gv41 9 1 (gl42.map SR)] ∧ m3_quirlaw_SectPlays_K25 gx29 go2 gl30 gl31 gl33 x14 gl36 gl38 gl40 gl42 gx102 = some r) rfl en104 rfl Try.func104 rfl rfl rfl ?_ ?_
                     ·
                      refine W.seq (W.region (L.y rfl (Y.move rfl) ?_))
                      refine L.y rfl (Y.move rfl) ?_
                      refine L.y rfl (Y.nilCheck rfl) ?_
                      refine L.y rfl (Y.fieldP fd38_4 rfl) ?_
                      refine L.store (i := 3) sz3 rfl rfl rfl rfl (by simp [Value.oneCell', Value.cells, st]) rfl (Nat.le_of_ble_eq_true rfl) ?_
                      refine L.nil (E.thenN (W.seq (W.region (L.y rfl (Y.move rfl) ?_))))
                      refine L.ite h rfl (Y.lss rfl rfl) (fun c48 h => ?_) (fun c48 h => ?_)
                      ·
                       refine L.nil (E.thenN (W.condT rfl ?_))
                       refine W.region (L.y rfl (Y.move rfl) ?_)
                       refine L.y rfl (Y.nilCheck rfl) ?_
                       refine L.y rfl (Y.fieldP fd38_4 rfl) ?_
                       refine L.store (i := 3) sz3 rfl rfl rfl rfl (by simp [Value.oneCell', Value.cells, st]) rfl (Nat.le_of_ble_eq_true rfl) ?_
                       refine L.nil (E.end0 rfl (fun w1 hw => ?_))
                       exact ⟨_, _, rfl, ⟨(-1), rfl, rfl, h⟩, hw⟩
                      ·
                       refine L.nil (E.thenN (W.condF rfl ?_))
                       refine W.skip (E.end0 rfl (fun w1 hw => ?_))
                       exact ⟨_, _, rfl, ⟨x14.N, rfl, rfl, h⟩, hw⟩
                     ·
                      rintro _ _ ⟨gx102, rfl, rfl, h⟩
                      rw [m3_quirlaw_SectPlays_K25] at h
                      exact L.nil (E.blockN (E.joinJ ⟨gl30, gl31, gv32, gl33, (max x14.N (-1)), gv35, gl36, gl38, gv39, gl40, gv41, gl42, gx102, rfl, rfl, h⟩ trivial (fun _ hw => hw.sel [1, 2, 3, 4, 5, 6, 7, 8, 9, 10] (by decide) rfl)))
                 ·
                  replace h := iteT h
                  refine W.condT rfl ?_
                  refine W.seq (W.region (L.y rfl (Y.move rfl) ?_))
                  refine L.callJ (fun v D => ∃ (gx103 : Int) (gl104 : (List (List UInt8))) (gv105 : Value) (gl106 : (List Twrite)) (gx107 : Int), v = .int .i64 gx103 ∧ D = Cls w [] [.obj b17 [.int .i64 x14.Kind, .int .i64 x14.N, st x14.Text, gv (q1 gx29.toNat) 0] 32, .obj b15 [.int .i64 x14.Kind, .int .i64 x14.N, st x14.Text, gv (q1 gx29.toNat) 0] 32, .obj gb1 [gv2, gv4, gv105, .int .i64 gx107] 167, .obj gb7 [gv35, gv37, gv39, gv41, .int .i64 gx43] 38, .sl gv2 9 1 (gl104.map SR), .sl gv4 9 1 (gl31.map SR), .sl gv105 312 2 (gl106.map Twrite.row), .sl gv35 9 1 (gl36.map SR), .sl gv37 9 1 (gl38.map SR), .sl gv39 3 1 (gl40.map I), .sl gv41 9 1 (gl42.map SR)] ∧ m3_quirlaw_SectPlays_K26 gx43 gx29 go2 gl31 gl36 gl38 gl40 gl42 gx103 gl104 gl106 gx107 = some r) rfl en102 rfl Try.func102 rfl rfl rfl ?_ ?_
                  ·
                   refine W.seq (W.region (L.y rfl (Y.assign rfl) ?_))
                   refine L.nil (E.thenN (W.seqJ (fun gs D => ∃ (gx116 : Int), gs = [(0, pt gb1 0)] ∧ D = Cls w [] [.obj b17 [.int .i64 x14.Kind, .int .i64 x14.N, st x14.Text, gv (q1 gx29.toNat) 0] 32, .obj b15 [.int .i64 x14.Kind, .int .i64 x14.N, st x14.Text, gv (q1 gx29.toNat) 0] 32, .obj gb1 [gv2, gv4, gv32, .int .i64 gx116] 167, .obj gb7 [gv35, gv37, gv39, gv41, .int .i64 gx43] 38, .sl gv2 9 1 (gl30.map SR), .sl gv4 9 1 (gl31.map SR), .sl gv32 312 2 (gl33.map Twrite.row), .sl gv35 9 1 (gl36.map SR), .sl gv37 9 1 (gl38.map SR), .sl gv39 3 1 (gl40.map I), .sl gv41 9 1 (gl42.map SR)] ∧ m3_quirlaw_SectPlays_K29 gx43 gx29 go2 gl31 gl36 gl38 gl40 gl42 gl30 gx116 = some r) ?_ ?_))
                   ·
                    refine W.seq (W.region (L.y rfl (Y.move rfl) ?_))
                    refine L.callJ (fun v D => ∃ (gx117 : Int) (gx118 : Int), v = .int .i64 gx117 ∧ D = Cls w [] [.obj b17 [.int .i64 x14.Kind, .int .i64 x14.N, st x14.Text, gv (q1 gx29.toNat) 0] 32, .obj b15 [.int .i64 x14.Kind, .int .i64 x14.N, st x14.Text, gv (q1 gx29.toNat) 0] 32, .obj gb1 [gv2, gv4, gv32, .int .i64 gx118] 167, .obj gb7 [gv35, gv37, gv39, gv41, .int .i64 gx43] 38, .sl gv2 9 1 (gl30.map SR), .sl gv4 9 1 (gl31.map SR), .sl gv32 312 2 (gl33.map Twrite.row), .sl gv35 9 1 (gl36.map SR), .sl gv37 9 1 (gl38.map SR), .sl gv39 3 1 (gl40.map I), .sl gv41 9 1 (gl42.map SR)] ∧ m3_quirlaw_SectPlays_K30 gx43 gx29 go2 gl31 gl36 gl38 gl40 gl42 gl30 gl33 gx117 gx118 = some r) rfl en230 rfl Try.func230 rfl rfl rfl ?_ ?_
                    ·
                     refine W.seq (W.region (L.y rfl (Y.assign rfl) ?_))
                     refine L.nil (E.thenN (W.seqJ (fun gs D => gs = [(0, pt gb1 0)] ∧ D = Cls w [] [.obj b17 [.int .i64 x14.Kind, .int .i64 x14.N, st x14.Text, gv (q1 gx29.toNat) 0] 32, .obj b15 [.int .i64 x14.Kind, .int .i64 x14.N, st x14.Text, gv (q1 gx29.toNat) 0] 32, .obj gb1 [gv2, gv4, gv32, .int .i64 gx34] 167, .obj gb7 [gv35, gv37, gv39, gv41, .int .i64 gx43] 38, .sl gv2 9 1 (gl30.map SR), .sl gv4 9 1 (gl31.map SR), .sl gv32 312 2 (gl33.map Twrite.row), .sl gv35 9 1 (gl36.map SR), .sl gv37 9 1 (gl38.map SR), .sl gv39 3 1 (gl40.map I), .sl gv41 9 1 (gl42.map SR)] ∧ m3_quirlaw_SectPlays_K31 gx34 gx43 gx29 go2 gl31 gl36 gl38 gl40 gl42 gl30 gl33 = some r) ?_ ?_))
                     ·
                      refine W.seq (W.region (L.y rfl (Y.move rfl) ?_))
                      refine L.y rfl (Y.nilCheck rfl) ?_
                      refine L.y rfl (Y.fieldP fd167_3 rfl) ?_
                      refine L.y rfl (Y.loadP (i := 2) ag3 rfl rfl rfl) ?_
                      refine L.ite h rfl (Y.eql rfl rfl) (fun c59 h => ?_) (fun c59 h => ?_)
                      ·
                       refine L.nil (E.thenN (W.condT rfl ?_))
                       refine W.seq (W.region (L.y rfl (Y.assign rfl) ?_))
                       refine L.nil (E.thenN (W.ret (E.KSR (E.ret1 rfl rfl (fun w1 hw => ?_)))))
                       exact ⟨_, _, rfl, ⟨13, gx34, rfl, rfl, h⟩, hw⟩
                      ·
                       refine L.nil (E.thenN (W.condF rfl ?_))
                       exact W.skip (E.joinJ ⟨rfl, rfl, h⟩ ⟨rfl, trivial⟩ (fun _ hw => hw))
                     ·
                      rintro _ _ ⟨rfl, rfl, h⟩
                      rw [m3_quirlaw_SectPlays_K31] at h
                      refine W.seq (W.seq (W.region (L.y rfl (Y.move rfl) ?_)))
                      refine L.y rfl (Y.nilCheck rfl) ?_
                      refine L.y rfl (Y.fieldP fd167_3 rfl) ?_
                      refine L.y rfl (Y.loadP (i := 2) ag3 rfl rfl rfl) ?_
                      refine L.ite h rfl (Y.gtr rfl rfl) (fun c57 h => ?_) (fun c57 h => ?_)
                      ·
                       refine L.nil (E.thenN (W.condT rfl ?_))
                       refine W.region (L.y rfl (Y.move rfl) ?_)
                       refine L.y rfl (Y.nilCheck rfl) ?_
                       refine L.y rfl (Y.fieldP fd167_3 rfl) ?_
                       refine L.y rfl (Y.loadP (i := 2) ag3 rfl rfl rfl) ?_
                       refine L.m (V := fun x58 => .int .i64 x58) h rfl (Y.subM rfl rfl) (fun x58 ex58 h => ?_)
                       refine L.y rfl (Y.nilCheck rfl) ?_
                       refine L.y rfl (Y.fieldP fd167_3 rfl) ?_
                       refine L.store (i := 2) sz3 rfl rfl rfl rfl (by simp [Value.oneCell', Value.cells, st]) rfl (Nat.le_of_ble_eq_true rfl) ?_
                       refine L.nil (E.thenN (W.seq (W.region (L.y rfl (Y.assign rfl) ?_))))
                       refine L.nil (E.thenN (W.ret (E.ret1 rfl rfl (fun w1 hw => ?_))))
                       exact ⟨_, _, rfl, ⟨0, x58, rfl, rfl, h⟩, hw⟩
                      ·
                       refine L.nil (E.thenN (W.condF rfl ?_))
                       refine W.skip (E.thenN (W.seq (W.region (L.y rfl (Y.assign rfl) ?_))))
                       refine L.nil (E.thenN (W.ret (E.ret1 rfl rfl (fun w1 hw => ?_))))
                       exact ⟨_, _, rfl, ⟨0, gx34, rfl, rfl, h⟩, hw⟩
                    ·
                     rintro _ _ ⟨gx117, gx118, rfl, rfl, h⟩
                     rw [m3_quirlaw_SectPlays_K30] at h
                     refine L.y rfl (Y.assign rfl) ?_
                     refine L.nil (E.thenN (W.seq (W.region (L.y rfl (Y.move rfl) ?_))))
                     refine L.ite h rfl (Y.neq rfl rfl) (fun c56 h => ?_) (fun c56 h => ?_)
                     ·
                      refine L.nil (E.thenN (W.condT rfl ?_))
                      refine W.seq (W.region (L.y rfl (Y.move rfl) ?_))
                      refine L.y rfl (Y.assign rfl) ?_
                      refine L.nil (E.thenN (W.ret (E.KSR (E.ret1 rfl rfl (fun w1 hw => ?_)))))
                      exact ⟨_, _, rfl, ⟨gx117, gl30, gv32, gl33, gx118, rfl, rfl, h⟩, hw⟩
                     ·
                      refine L.nil (E.thenN (W.condF rfl ?_))
                      exact W.skip (E.joinJ ⟨gx118, rfl, rfl, h⟩ ⟨rfl, trivial⟩ (fun _ hw => hw))
                   ·
                    rintro _ _ ⟨gx116, rfl, rfl, h⟩
                    rw [m3_quirlaw_SectPlays_K29] at h
                    refine W.seq (W.drawn2 (k := 9) (stC [[8]] [Cls w [] [.obj b17 [.int .i64 x14.Kind, .int .i64 x14.N, st x14.Text, gv (q1 gx29.toNat) 0] 32, .obj b15 [.int .i64 x14.Kind, .int .i64 x14.N, st x14.Text, gv (q1 gx29.toNat) 0] 32, .obj gb1 [gv2, gv4, gv32, .int .i64 gx116] 167, .obj gb7 [gv35, gv37, gv39, gv41, .int .i64 gx43] 38, .sl gv2 9 1 (gl30.map SR), .sl gv4 9 1 (gl31.map SR), .sl gv32 312 2 (gl33.map Twrite.row), .sl gv35 9 1 (gl36.map SR), .sl gv37 9 1 (gl38.map SR), .sl gv39 3 1 (gl40.map I), .sl gv41 9 1 (gl42.map SR)]] (Cls w [] [.obj b17 [.int .i64 x14.Kind, .int .i64 x14.N, st x14.Text, gv (q1 gx29.toNat) 0] 32, .obj b15 [.int .i64 x14.Kind, .int .i64 x14.N, st x14.Text, gv (q1 gx29.toNat) 0] 32, .obj gb1 [gv2, gv4, gv32, .int .i64 gx116] 167, .obj gb7 [gv35, gv37, gv39, gv41, .int .i64 gx43] 38, .sl gv4 9 1 (gl31.map SR), .sl gv32 312 2 (gl33.map Twrite.row), .sl gv35 9 1 (gl36.map SR), .sl gv37 9 1 (gl38.map SR), .sl gv39 3 1 (gl40.map I), .sl gv41 9 1 (gl42.map SR)])) rfl mixed (fun _ hw => hw.drew) (Sc.now (by kernel_rfl) (fun _ hw => hw)) ?_)
                    refine V2.y (i := 0) (Nx2.of (Z := Cls w [] [.obj b17 [.int .i64 x14.Kind, .int .i64 x14.N, st x14.Text, gv (q1 gx29.toNat) 0] 32, .obj b15 [.int .i64 x14.Kind, .int .i64 x14.N, st x14.Text, gv (q1 gx29.toNat) 0] 32, .obj gb1 [gv2, gv4, gv32, .int .i64 gx116] 167, .obj gb7 [gv35, gv37, gv39, gv41, .int .i64 gx43] 38, .sl gv4 9 1 (gl31.map SR), .sl gv32 312 2 (gl33.map Twrite.row), .sl gv35 9 1 (gl36.map SR), .sl gv37 9 1 (gl38.map SR), .sl gv39 3 1 (gl40.map I), .sl gv41 9 1 (gl42.map SR)]) [] (by kernel_rfl) rfl (Zc.on (fun _ hw => hw.sel [0, 1, 2, 3, 5, 6, 7, 8, 9, 10] (by decide) rfl) (Zc.fin (fun _ hw => hw)))) rfl rfl rfl (Y.move rfl) ?_
                    refine V2.nilc (i := 1) (Nx2.of (Z := Cls w [] [.obj b17 [.int .i64 x14.Kind, .int .i64 x14.N, st x14.Text, gv (q1 gx29.toNat) 0] 32, .obj b15 [.int .i64 x14.Kind, .int .i64 x14.N, st x14.Text, gv (q1 gx29.toNat) 0] 32, .obj gb1 [gv2, gv4, gv32, .int .i64 gx116] 167, .obj gb7 [gv35, gv37, gv39, gv41, .int .i64 gx43] 38, .sl gv4 9 1 (gl31.map SR), .sl gv32 312 2 (gl33.map Twrite.row), .sl gv35 9 1 (gl36.map SR), .sl gv37 9 1 (gl38.map SR), .sl gv39 3 1 (gl40.map I), .sl gv41 9 1 (gl42.map SR)]) [] (by kernel_rfl) rfl (Zc.on (fun _ hw => hw.sel [0, 1, 2, 3, 5, 6, 7, 8, 9, 10] (by decide) rfl) (Zc.fin (fun _ hw => hw)))) rfl rfl rfl ?_
                    refine V2.y (i := 2) (Nx2.of (Z := Cls w [] [.obj b17 [.int .i64 x14.Kind, .int .i64 x14.N, st x14.Text, gv (q1 gx29.toNat) 0] 32, .obj b15 [.int .i64 x14.Kind, .int .i64 x14.N, st x14.Text, gv (q1 gx29.toNat) 0] 32, .obj gb1 [gv2, gv4, gv32, .int .i64 gx116] 167, .obj gb7 [gv35, gv37, gv39, gv41, .int .i64 gx43] 38, .sl gv4 9 1 (gl31.map SR), .sl gv32 312 2 (gl33.map Twrite.row), .sl gv35 9 1 (gl36.map SR), .sl gv37 9 1 (gl38.map SR), .sl gv39 3 1 (gl40.map I), .sl gv41 9 1 (gl42.map SR)]) [] (by kernel_rfl) rfl (Zc.on (fun _ hw => hw.sel [0, 1, 2, 3, 5, 6, 7, 8, 9, 10] (by decide) rfl) (Zc.fin (fun _ hw => hw)))) rfl rfl rfl (Y.fieldP fd167_0 rfl) ?_
                    refine V2.y (i := 3) (Nx2.of (Z := Cls w [] [.obj b17 [.int .i64 x14.Kind, .int .i64 x14.N, st x14.Text, gv (q1 gx29.toNat) 0] 32, .obj b15 [.int .i64 x14.Kind, .int .i64 x14.N, st x14.Text, gv (q1 gx29.toNat) 0] 32, .obj gb1 [gv2, gv4, gv32, .int .i64 gx116] 167, .obj gb7 [gv35, gv37, gv39, gv41, .int .i64 gx43] 38, .sl gv4 9 1 (gl31.map SR), .sl gv32 312 2 (gl33.map Twrite.row), .sl gv35 9 1 (gl36.map SR), .sl gv37 9 1 (gl38.map SR), .sl gv39 3 1 (gl40.map I), .sl gv41 9 1 (gl42.map SR)]) [] (by kernel_rfl) rfl (Zc.on (fun _ hw => hw.sel [0, 1, 2, 3, 5, 6, 7, 8, 9, 10] (by decide) rfl) (Zc.fin (fun _ hw => hw)))) rfl rfl rfl (Y.loadP (i := 2) ag35 rfl rfl rfl) ?_
                    refine V2.y (i := 4) (Nx2.of (Z := Cls w [] [.obj b17 [.int .i64 x14.Kind, .int .i64 x14.N, st x14.Text, gv (q1 gx29.toNat) 0] 32, .obj b15 [.int .i64 x14.Kind, .int .i64 x14.N, st x14.Text, gv (q1 gx29.toNat) 0] 32, .obj gb1 [gv2, gv4, gv32, .int .i64 gx116] 167, .obj gb7 [gv35, gv37, gv39, gv41, .int .i64 gx43] 38, .sl gv4 9 1 (gl31.map SR), .sl gv32 312 2 (gl33.map Twrite.row), .sl gv35 9 1 (gl36.map SR), .sl gv37 9 1 (gl38.map SR), .sl gv39 3 1 (gl40.map I), .sl gv41 9 1 (gl42.map SR)]) [] (by kernel_rfl) rfl (Zc.on (fun _ hw => hw.sel [0, 1, 2, 3, 5, 6, 7, 8, 9, 10] (by decide) rfl) (Zc.fin (fun _ hw => hw)))) rfl rfl rfl (Y.move rfl) ?_
                    refine V2.nilc (i := 5) (Nx2.of (Z := Cls w [] [.obj b17 [.int .i64 x14.Kind, .int .i64 x14.N, st x14.Text, gv (q1 gx29.toNat) 0] 32, .obj b15 [.int .i64 x14.Kind, .int .i64 x14.N, st x14.Text, gv (q1 gx29.toNat) 0] 32, .obj gb1 [gv2, gv4, gv32, .int .i64 gx116] 167, .obj gb7 [gv35, gv37, gv39, gv41, .int .i64 gx43] 38, .sl gv4 9 1 (gl31.map SR), .sl gv32 312 2 (gl33.map Twrite.row), .sl gv35 9 1 (gl36.map SR), .sl gv37 9 1 (gl38.map SR), .sl gv39 3 1 (gl40.map I), .sl gv41 9 1 (gl42.map SR)]) [] (by kernel_rfl) rfl (Zc.on (fun _ hw => hw.sel [0, 1, 2, 3, 5, 6, 7, 8, 9, 10] (by decide) rfl) (Zc.fin (fun _ hw => hw)))) rfl rfl rfl ?_
                    refine V2.y (i := 6) (Nx2.of (Z := Cls w [] [.obj b17 [.int .i64 x14.Kind, .int .i64 x14.N, st x14.Text, gv (q1 gx29.toNat) 0] 32, .obj b15 [.int .i64 x14.Kind, .int .i64 x14.N, st x14.Text, gv (q1 gx29.toNat) 0] 32, .obj gb1 [gv2, gv4, gv32, .int .i64 gx116] 167, .obj gb7 [gv35, gv37, gv39, gv41, .int .i64 gx43] 38, .sl gv4 9 1 (gl31.map SR), .sl gv32 312 2 (gl33.map Twrite.row), .sl gv35 9 1 (gl36.map SR), .sl gv37 9 1 (gl38.map SR), .sl gv39 3 1 (gl40.map I), .sl gv41 9 1 (gl42.map SR)]) [] (by kernel_rfl) rfl (Zc.on (fun _ hw => hw.sel [0, 1, 2, 3, 5, 6, 7, 8, 9, 10] (by decide) rfl) (Zc.fin (fun _ hw => hw)))) rfl rfl rfl (Y.fieldP fd167_1 rfl) ?_
                    refine V2.y (i := 7) (Nx2.of (Z := Cls w [] [.obj b17 [.int .i64 x14.Kind, .int .i64 x14.N, st x14.Text, gv (q1 gx29.toNat) 0] 32, .obj b15 [.int .i64 x14.Kind, .int .i64 x14.N, st x14.Text, gv (q1 gx29.toNat) 0] 32, .obj gb1 [gv2, gv4, gv32, .int .i64 gx116] 167, .obj gb7 [gv35, gv37, gv39, gv41, .int .i64 gx43] 38, .sl gv4 9 1 (gl31.map SR), .sl gv32 312 2 (gl33.map Twrite.row), .sl gv35 9 1 (gl36.map SR), .sl gv37 9 1 (gl38.map SR), .sl gv39 3 1 (gl40.map I), .sl gv41 9 1 (gl42.map SR)]) [] (by kernel_rfl) rfl (Zc.on (fun _ hw => hw.sel [0, 1, 2, 3, 5, 6, 7, 8, 9, 10] (by decide) rfl) (Zc.fin (fun _ hw => hw)))) rfl rfl rfl (Y.loadP (i := 2) ag35 rfl rfl rfl) ?_
                    refine V2.eff (i := 8) (by kernel_rfl) rfl ?_
                    refine L.copyMD (i := 4) (g := SR) (l := gl30) (s := gl31) rfl Try.underlying35 el9 rfl rfl rfl (fun w hw => As.at_ (hw.get (i := 5) rfl)) (plain_SR _) (fun _ => ?_)
                    refine L.nil (E.toV2 (stC [] [] (Cls w [] [.obj b17 [.int .i64 x14.Kind, .int .i64 x14.N, st x14.Text, gv (q1 gx29.toNat) 0] 32, .obj b15 [.int .i64 x14.Kind, .int .i64 x14.N, st x14.Text, gv (q1 gx29.toNat) 0] 32, .obj gb1 [gv2, gv4, gv32, .int .i64 gx116] 167, .obj gb7 [gv35, gv37, gv39, gv41, .int .i64 gx43] 38, .sl gv4 9 1 (gl31.map SR), .sl gv32 312 2 (gl33.map Twrite.row), .sl gv35 9 1 (gl36.map SR), .sl gv37 9 1 (gl38.map SR), .sl gv39 3 1 (gl40.map I), .sl gv41 9 1 (gl42.map SR)])) 8 (by kernel_rfl) (Sc.past rfl (Sc.stayD (fun _ hw => hw))) (Sc.atD (fun _ hw => hw.sel [0, 1, 2, 3, 5, 6, 7, 8, 9, 10] (by decide) rfl)) ?_)
                    refine V2.done (by kernel_rfl) ?_
                    refine E.thenN (W.seq (W.region (L.y rfl (Y.move rfl) ?_)))
                    refine L.y rfl (Y.nilCheck rfl) ?_
                    refine L.y rfl (Y.fieldP fd167_2 rfl) ?_
                    refine L.store (i := 2) sz165 rfl rfl rfl rfl (by simp [Value.oneCell', Value.cells, st]) rfl (Nat.le_of_ble_eq_true rfl) ?_
                    refine L.nil (E.thenN (W.seq (W.region (L.y rfl (Y.assign rfl) ?_))))
                    refine L.nil (E.thenN (W.ret (E.nilSl 312 2 ?_)))
                    refine E.ret1 rfl rfl (fun w1 hw => ?_)
                    exact ⟨_, _, rfl, ⟨0, (cpy gl30 gl31), .slice none 0 0, [], gx116, rfl, rfl, h⟩, hw.sel [1, 2, 3, 4, 5, 6, 0, 8, 9, 10, 11] (by decide) rfl⟩
                  ·
                   rintro _ _ ⟨gx103, gl104, gv105, gl106, gx107, rfl, rfl, h⟩
                   rw [m3_quirlaw_SectPlays_K26] at h
                   refine L.y rfl (Y.move rfl) ?_
                   refine L.callJ (fun v D => ∃ (gx108 : Int) (gv109 : Value) (gl110 : (List (List UInt8))) (gv111 : Value) (gl112 : (List Int)) (gv113 : Value) (gl114 : (List (List UInt8))) (gx115 : Int), v = .int .i64 gx108 ∧ D = Cls w [] [.obj b17 [.int .i64 x14.Kind, .int .i64 x14.N, st x14.Text, gv (q1 gx29.toNat) 0] 32, .obj b15 [.int .i64 x14.Kind, .int .i64 x14.N, st x14.Text, gv (q1 gx29.toNat) 0] 32, .obj gb1 [gv2, gv4, gv105, .int .i64 gx107] 167, .obj gb7 [gv35, gv109, gv111, gv113, .int .i64 gx115] 38, .sl gv2 9 1 (gl104.map SR), .sl gv4 9 1 (gl31.map SR), .sl gv105 312 2 (gl106.map Twrite.row), .sl gv35 9 1 (gl36.map SR), .sl gv109 9 1 (gl110.map SR), .sl gv111 3 1 (gl112.map I), .sl gv113 9 1 (gl114.map SR)] ∧ m3_quirlaw_SectPlays_K27 gx29 go2 gx103 gl104 gl31 gl106 gx107 gl36 gx108 gl110 gl112 gl114 gx115 = some r) rfl en103 rfl Try.func103 rfl rfl rfl ?_ ?_
                   ·
                    refine W.seq (W.region (L.y rfl (Y.assign rfl) ?_))
                    refine L.nil (E.thenN (W.seqJ (fun gs D => gs = [(0, pt gb7 0)] ∧ D = Cls w [] [.obj b17 [.int .i64 x14.Kind, .int .i64 x14.N, st x14.Text, gv (q1 gx29.toNat) 0] 32, .obj b15 [.int .i64 x14.Kind, .int .i64 x14.N, st x14.Text, gv (q1 gx29.toNat) 0] 32, .obj gb1 [gv2, gv4, gv105, .int .i64 gx107] 167, .obj gb7 [gv35, gv37, gv39, gv41, .int .i64 gx43] 38, .sl gv2 9 1 (gl104.map SR), .sl gv4 9 1 (gl31.map SR), .sl gv105 312 2 (gl106.map Twrite.row), .sl gv35 9 1 (gl36.map SR), .sl gv37 9 1 (gl38.map SR), .sl gv39 3 1 (gl40.map I), .sl gv41 9 1 (gl42.map SR)] ∧ m3_quirlaw_SectPlays_K28 gx43 gl36 gx29 go2 gx103 gl104 gl31 gl106 gx107 = some r) ?_ ?_))
                    ·
                     refine W.seq (W.region (L.y rfl (Y.move rfl) ?_))
                     refine L.y rfl (Y.nilCheck rfl) ?_
                     refine L.y rfl (Y.fieldP fd38_4 rfl) ?_
                     refine L.y rfl (Y.loadP (i := 3) ag3 rfl rfl rfl) ?_
                     refine L.ite h rfl (Y.eql rfl rfl) (fun c55 h => ?_) (fun c55 h => ?_)
                     ·
                      refine L.nil (E.thenN (W.condT rfl ?_))
                      refine W.seq (W.region (L.y rfl (Y.assign rfl) ?_))
                      refine L.nil (E.thenN (W.ret (E.KSR (E.ret1 rfl rfl (fun w1 hw => ?_)))))
                      exact ⟨_, _, rfl, ⟨13, gv37, gl38, gv39, gl40, gv41, gl42, gx43, rfl, rfl, h⟩, hw⟩
                     ·
                      refine L.nil (E.thenN (W.condF rfl ?_))
                      exact W.skip (E.joinJ ⟨rfl, rfl, h⟩ ⟨rfl, trivial⟩ (fun _ hw => hw))
                    ·
                     rintro _ _ ⟨rfl, rfl, h⟩
                     rw [m3_quirlaw_SectPlays_K28] at h
                     refine W.seq (W.drawn2 (k := 15) (stC [[14]] [Cls w [] [.obj b17 [.int .i64 x14.Kind, .int .i64 x14.N, st x14.Text, gv (q1 gx29.toNat) 0] 32, .obj b15 [.int .i64 x14.Kind, .int .i64 x14.N, st x14.Text, gv (q1 gx29.toNat) 0] 32, .obj gb1 [gv2, gv4, gv105, .int .i64 gx107] 167, .obj gb7 [gv35, gv37, gv39, gv41, .int .i64 gx43] 38, .sl gv2 9 1 (gl104.map SR), .sl gv4 9 1 (gl31.map SR), .sl gv105 312 2 (gl106.map Twrite.row), .sl gv35 9 1 (gl36.map SR), .sl gv37 9 1 (gl38.map SR), .sl gv39 3 1 (gl40.map I), .sl gv41 9 1 (gl42.map SR)]] (Cls w [] [.obj b17 [.int .i64 x14.Kind, .int .i64 x14.N, st x14.Text, gv (q1 gx29.toNat) 0] 32, .obj b15 [.int .i64 x14.Kind, .int .i64 x14.N, st x14.Text, gv (q1 gx29.toNat) 0] 32, .obj gb1 [gv2, gv4, gv105, .int .i64 gx107] 167, .sl gv2 9 1 (gl104.map SR), .sl gv4 9 1 (gl31.map SR), .sl gv105 312 2 (gl106.map Twrite.row), .sl gv35 9 1 (gl36.map SR), .sl gv37 9 1 (gl38.map SR), .sl gv39 3 1 (gl40.map I), .sl gv41 9 1 (gl42.map SR)])) rfl mixed (fun _ hw => hw.drew) (Sc.now (by kernel_rfl) (fun _ hw => hw)) ?_)
                     refine V2.y (i := 0) (Nx2.of (Z := Cls w [] [.obj b17 [.int .i64 x14.Kind, .int .i64 x14.N, st x14.Text, gv (q1 gx29.toNat) 0] 32, .obj b15 [.int .i64 x14.Kind, .int .i64 x14.N, st x14.Text, gv (q1 gx29.toNat) 0] 32, .obj gb1 [gv2, gv4, gv105, .int .i64 gx107] 167, .sl gv2 9 1 (gl104.map SR), .sl gv4 9 1 (gl31.map SR), .sl gv105 312 2 (gl106.map Twrite.row), .sl gv35 9 1 (gl36.map SR), .sl gv37 9 1 (gl38.map SR), .sl gv39 3 1 (gl40.map I), .sl gv41 9 1 (gl42.map SR)]) [] (by kernel_rfl) rfl (Zc.on (fun _ hw => hw.sel [0, 1, 2, 4, 5, 6, 7, 8, 9, 10] (by decide) rfl) (Zc.fin (fun _ hw => hw)))) rfl rfl rfl (Y.move rfl) ?_
                     refine V2.y (i := 1) (Nx2.of (Z := Cls w [] [.obj b17 [.int .i64 x14.Kind, .int .i64 x14.N, st x14.Text, gv (q1 gx29.toNat) 0] 32, .obj b15 [.int .i64 x14.Kind, .int .i64 x14.N, st x14.Text, gv (q1 gx29.toNat) 0] 32, .obj gb1 [gv2, gv4, gv105, .int .i64 gx107] 167, .sl gv2 9 1 (gl104.map SR), .sl gv4 9 1 (gl31.map SR), .sl gv105 312 2 (gl106.map Twrite.row), .sl gv35 9 1 (gl36.map SR), .sl gv37 9 1 (gl38.map SR), .sl gv39 3 1 (gl40.map I), .sl gv41 9 1 (gl42.map SR)]) [] (by kernel_rfl) rfl (Zc.on (fun _ hw => hw.sel [0, 1, 2, 4, 5, 6, 7, 8, 9, 10] (by decide) rfl) (Zc.fin (fun _ hw => hw)))) rfl rfl rfl (Y.move rfl) ?_
                     refine V2.nilc (i := 2) (Nx2.of (Z := Cls w [] [.obj b17 [.int .i64 x14.Kind, .int .i64 x14.N, st x14.Text, gv (q1 gx29.toNat) 0] 32, .obj b15 [.int .i64 x14.Kind, .int .i64 x14.N, st x14.Text, gv (q1 gx29.toNat) 0] 32, .obj gb1 [gv2, gv4, gv105, .int .i64 gx107] 167, .sl gv2 9 1 (gl104.map SR), .sl gv4 9 1 (gl31.map SR), .sl gv105 312 2 (gl106.map Twrite.row), .sl gv35 9 1 (gl36.map SR), .sl gv37 9 1 (gl38.map SR), .sl gv39 3 1 (gl40.map I), .sl gv41 9 1 (gl42.map SR)]) [] (by kernel_rfl) rfl (Zc.on (fun _ hw => hw.sel [0, 1, 2, 4, 5, 6, 7, 8, 9, 10] (by decide) rfl) (Zc.fin (fun _ hw => hw)))) rfl rfl rfl ?_
                     refine V2.y (i := 3) (Nx2.of (Z := Cls w [] [.obj b17 [.int .i64 x14.Kind, .int .i64 x14.N, st x14.Text, gv (q1 gx29.toNat) 0] 32, .obj b15 [.int .i64 x14.Kind, .int .i64 x14.N, st x14.Text, gv (q1 gx29.toNat) 0] 32, .obj gb1 [gv2, gv4, gv105, .int .i64 gx107] 167, .sl gv2 9 1 (gl104.map SR), .sl gv4 9 1 (gl31.map SR), .sl gv105 312 2 (gl106.map Twrite.row), .sl gv35 9 1 (gl36.map SR), .sl gv37 9 1 (gl38.map SR), .sl gv39 3 1 (gl40.map I), .sl gv41 9 1 (gl42.map SR)]) [] (by kernel_rfl) rfl (Zc.on (fun _ hw => hw.sel [0, 1, 2, 4, 5, 6, 7, 8, 9, 10] (by decide) rfl) (Zc.fin (fun _ hw => hw)))) rfl rfl rfl (Y.fieldP fd38_4 rfl) ?_
                     refine V2.y (i := 4) (Nx2.of (Z := Cls w [] [.obj b17 [.int .i64 x14.Kind, .int .i64 x14.N, st x14.Text, gv (q1 gx29.toNat) 0] 32, .obj b15 [.int .i64 x14.Kind, .int .i64 x14.N, st x14.Text, gv (q1 gx29.toNat) 0] 32, .obj gb1 [gv2, gv4, gv105, .int .i64 gx107] 167, .obj gb7 [gv35, gv37, gv39, gv41, .int .i64 gx43] 38, .sl gv2 9 1 (gl104.map SR), .sl gv4 9 1 (gl31.map SR), .sl gv105 312 2 (gl106.map Twrite.row), .sl gv35 9 1 (gl36.map SR), .sl gv37 9 1 (gl38.map SR), .sl gv39 3 1 (gl40.map I), .sl gv41 9 1 (gl42.map SR)]) [14] (by kernel_rfl) rfl (Zc.at1 (fun _ hw => hw))) rfl rfl rfl (Y.loadP (i := 3) ag3 rfl rfl rfl) ?_
                     refine V2.m (i := 5) (V' := fun x51 => .int .i64 x51) h (Nx2.of (Z := Cls w [] [.obj b17 [.int .i64 x14.Kind, .int .i64 x14.N, st x14.Text, gv (q1 gx29.toNat) 0] 32, .obj b15 [.int .i64 x14.Kind, .int .i64 x14.N, st x14.Text, gv (q1 gx29.toNat) 0] 32, .obj gb1 [gv2, gv4, gv105, .int .i64 gx107] 167, .sl gv2 9 1 (gl104.map SR), .sl gv4 9 1 (gl31.map SR), .sl gv105 312 2 (gl106.map Twrite.row), .sl gv35 9 1 (gl36.map SR), .sl gv37 9 1 (gl38.map SR), .sl gv39 3 1 (gl40.map I), .sl gv41 9 1 (gl42.map SR)]) [] (by kernel_rfl) rfl (Zc.on (fun _ hw => hw.sel [0, 1, 2, 4, 5, 6, 7, 8, 9, 10] (by decide) rfl) (Zc.fin (fun _ hw => hw)))) rfl rfl rfl (Y.subM rfl rfl) (fun x51 ex51 h => ?_)
                     refine V2.y (i := 6) (Nx2.of (Z := Cls w [] [.obj b17 [.int .i64 x14.Kind, .int .i64 x14.N, st x14.Text, gv (q1 gx29.toNat) 0] 32, .obj b15 [.int .i64 x14.Kind, .int .i64 x14.N, st x14.Text, gv (q1 gx29.toNat) 0] 32, .obj gb1 [gv2, gv4, gv105, .int .i64 gx107] 167, .sl gv2 9 1 (gl104.map SR), .sl gv4 9 1 (gl31.map SR), .sl gv105 312 2 (gl106.map Twrite.row), .sl gv35 9 1 (gl36.map SR), .sl gv37 9 1 (gl38.map SR), .sl gv39 3 1 (gl40.map I), .sl gv41 9 1 (gl42.map SR)]) [] (by kernel_rfl) rfl (Zc.on (fun _ hw => hw.sel [0, 1, 2, 4, 5, 6, 7, 8, 9, 10] (by decide) rfl) (Zc.fin (fun _ hw => hw)))) rfl rfl rfl (Y.move rfl) ?_
                     refine V2.nilc (i := 7) (Nx2.of (Z := Cls w [] [.obj b17 [.int .i64 x14.Kind, .int .i64 x14.N, st x14.Text, gv (q1 gx29.toNat) 0] 32, .obj b15 [.int .i64 x14.Kind, .int .i64 x14.N, st x14.Text, gv (q1 gx29.toNat) 0] 32, .obj gb1 [gv2, gv4, gv105, .int .i64 gx107] 167, .sl gv2 9 1 (gl104.map SR), .sl gv4 9 1 (gl31.map SR), .sl gv105 312 2 (gl106.map Twrite.row), .sl gv35 9 1 (gl36.map SR), .sl gv37 9 1 (gl38.map SR), .sl gv39 3 1 (gl40.map I), .sl gv41 9 1 (gl42.map SR)]) [] (by kernel_rfl) rfl (Zc.on (fun _ hw => hw.sel [0, 1, 2, 4, 5, 6, 7, 8, 9, 10] (by decide) rfl) (Zc.fin (fun _ hw => hw)))) rfl rfl rfl ?_
                     refine V2.y (i := 8) (Nx2.of (Z := Cls w [] [.obj b17 [.int .i64 x14.Kind, .int .i64 x14.N, st x14.Text, gv (q1 gx29.toNat) 0] 32, .obj b15 [.int .i64 x14.Kind, .int .i64 x14.N, st x14.Text, gv (q1 gx29.toNat) 0] 32, .obj gb1 [gv2, gv4, gv105, .int .i64 gx107] 167, .sl gv2 9 1 (gl104.map SR), .sl gv4 9 1 (gl31.map SR), .sl gv105 312 2 (gl106.map Twrite.row), .sl gv35 9 1 (gl36.map SR), .sl gv37 9 1 (gl38.map SR), .sl gv39 3 1 (gl40.map I), .sl gv41 9 1 (gl42.map SR)]) [] (by kernel_rfl) rfl (Zc.on (fun _ hw => hw.sel [0, 1, 2, 4, 5, 6, 7, 8, 9, 10] (by decide) rfl) (Zc.fin (fun _ hw => hw)))) rfl rfl rfl (Y.fieldP fd38_4 rfl) ?_
                     refine V2.y (i := 9) (Nx2.of (Z := Cls w [] [.obj b17 [.int .i64 x14.Kind, .int .i64 x14.N, st x14.Text, gv (q1 gx29.toNat) 0] 32, .obj b15 [.int .i64 x14.Kind, .int .i64 x14.N, st x14.Text, gv (q1 gx29.toNat) 0] 32, .obj gb1 [gv2, gv4, gv105, .int .i64 gx107] 167, .obj gb7 [gv35, gv37, gv39, gv41, .int .i64 gx43] 38, .sl gv2 9 1 (gl104.map SR), .sl gv4 9 1 (gl31.map SR), .sl gv105 312 2 (gl106.map Twrite.row), .sl gv35 9 1 (gl36.map SR), .sl gv37 9 1 (gl38.map SR), .sl gv39 3 1 (gl40.map I), .sl gv41 9 1 (gl42.map SR)]) [14] (by kernel_rfl) rfl (Zc.at1 (fun _ hw => hw))) rfl rfl rfl (Y.loadP (i := 3) ag3 rfl rfl rfl) ?_
                     refine V2.y (i := 10) (Nx2.of (Z := Cls w [] [.obj b17 [.int .i64 x14.Kind, .int .i64 x14.N, st x14.Text, gv (q1 gx29.toNat) 0] 32, .obj b15 [.int .i64 x14.Kind, .int .i64 x14.N, st x14.Text, gv (q1 gx29.toNat) 0] 32, .obj gb1 [gv2, gv4, gv105, .int .i64 gx107] 167, .sl gv2 9 1 (gl104.map SR), .sl gv4 9 1 (gl31.map SR), .sl gv105 312 2 (gl106.map Twrite.row), .sl gv35 9 1 (gl36.map SR), .sl gv37 9 1 (gl38.map SR), .sl gv39 3 1 (gl40.map I), .sl gv41 9 1 (gl42.map SR)]) [] (by kernel_rfl) rfl (Zc.on (fun _ hw => hw.sel [0, 1, 2, 4, 5, 6, 7, 8, 9, 10] (by decide) rfl) (Zc.fin (fun _ hw => hw)))) rfl rfl rfl (Y.min2 rfl rfl) ?_
                     refine V2.y (i := 11) (Nx2.of (Z := Cls w [] [.obj b17 [.int .i64 x14.Kind, .int .i64 x14.N, st x14.Text, gv (q1 gx29.toNat) 0] 32, .obj b15 [.int .i64 x14.Kind, .int .i64 x14.N, st x14.Text, gv (q1 gx29.toNat) 0] 32, .obj gb1 [gv2, gv4, gv105, .int .i64 gx107] 167, .sl gv2 9 1 (gl104.map SR), .sl gv4 9 1 (gl31.map SR), .sl gv105 312 2 (gl106.map Twrite.row), .sl gv35 9 1 (gl36.map SR), .sl gv37 9 1 (gl38.map SR), .sl gv39 3 1 (gl40.map I), .sl gv41 9 1 (gl42.map SR)]) [] (by kernel_rfl) rfl (Zc.on (fun _ hw => hw.sel [0, 1, 2, 4, 5, 6, 7, 8, 9, 10] (by decide) rfl) (Zc.fin (fun _ hw => hw)))) rfl rfl rfl (Y.max2 rfl rfl) ?_
                     refine V2.nilc (i := 12) (Nx2.of (Z := Cls w [] [.obj b17 [.int .i64 x14.Kind, .int .i64 x14.N, st x14.Text, gv (q1 gx29.toNat) 0] 32, .obj b15 [.int .i64 x14.Kind, .int .i64 x14.N, st x14.Text, gv (q1 gx29.toNat) 0] 32, .obj gb1 [gv2, gv4, gv105, .int .i64 gx107] 167, .sl gv2 9 1 (gl104.map SR), .sl gv4 9 1 (gl31.map SR), .sl gv105 312 2 (gl106.map Twrite.row), .sl gv35 9 1 (gl36.map SR), .sl gv37 9 1 (gl38.map SR), .sl gv39 3 1 (gl40.map I), .sl gv41 9 1 (gl42.map SR)]) [] (by kernel_rfl) rfl (Zc.on (fun _ hw => hw.sel [0, 1, 2, 4, 5, 6, 7, 8, 9, 10] (by decide) rfl) (Zc.fin (fun _ hw => hw)))) rfl rfl rfl ?_
                     refine V2.y (i := 13) (Nx2.of (Z := Cls w [] [.obj b17 [.int .i64 x14.Kind, .int .i64 x14.N, st x14.Text, gv (q1 gx29.toNat) 0] 32, .obj b15 [.int .i64 x14.Kind, .int .i64 x14.N, st x14.Text, gv (q1 gx29.toNat) 0] 32, .obj gb1 [gv2, gv4, gv105, .int .i64 gx107] 167, .sl gv2 9 1 (gl104.map SR), .sl gv4 9 1 (gl31.map SR), .sl gv105 312 2 (gl106.map Twrite.row), .sl gv35 9 1 (gl36.map SR), .sl gv37 9 1 (gl38.map SR), .sl gv39 3 1 (gl40.map I), .sl gv41 9 1 (gl42.map SR)]) [] (by kernel_rfl) rfl (Zc.on (fun _ hw => hw.sel [0, 1, 2, 4, 5, 6, 7, 8, 9, 10] (by decide) rfl) (Zc.fin (fun _ hw => hw)))) rfl rfl rfl (Y.fieldP fd38_4 rfl) ?_
                     refine V2.eff (i := 14) (by kernel_rfl) rfl ?_
                     refine L.store (i := 3) sz3 rfl rfl rfl rfl (by simp [Value.oneCell', Value.cells, st]) rfl (Nat.le_of_ble_eq_true rfl) ?_
                     refine L.nil (E.toV2 (stC [] [] (Cls w [] [.obj b17 [.int .i64 x14.Kind, .int .i64 x14.N, st x14.Text, gv (q1 gx29.toNat) 0] 32, .obj b15 [.int .i64 x14.Kind, .int .i64 x14.N, st x14.Text, gv (q1 gx29.toNat) 0] 32, .obj gb1 [gv2, gv4, gv105, .int .i64 gx107] 167, .sl gv2 9 1 (gl104.map SR), .sl gv4 9 1 (gl31.map SR), .sl gv105 312 2 (gl106.map Twrite.row), .sl gv35 9 1 (gl36.map SR), .sl gv37 9 1 (gl38.map SR), .sl gv39 3 1 (gl40.map I), .sl gv41 9 1 (gl42.map SR)])) 14 (by kernel_rfl) (Sc.past rfl (Sc.stayD (fun _ hw => hw))) (Sc.atD (fun _ hw => hw.sel [0, 1, 2, 4, 5, 6, 7, 8, 9, 10] (by decide) rfl)) ?_)
                     refine V2.done (by kernel_rfl) ?_
                     refine E.thenN (W.seq (W.region (L.y rfl (Y.move rfl) ?_)))
                     refine L.y rfl (Y.move rfl) ?_
                     refine L.y rfl (Y.nilCheck rfl) ?_
                     refine L.y rfl (Y.fieldP fd38_0 rfl) ?_
                     refine L.y rfl (Y.loadP (i := 3) ag35 rfl rfl rfl) ?_
                     obtain ⟨l52, e54, h⟩ := bind1S h
                     refine L.does rfl en231 rfl (fun w' hw => w231_slices_Clone_string gl36 gv35 w' _ e54 (As.at_ (hw.get (i := 7) rfl))) ?_
                     rintro v53 _ ⟨_, rfl, rfl⟩
                     refine L.y rfl (Y.nilCheck rfl) ?_
                     refine L.y rfl (Y.fieldP fd38_1 rfl) ?_
                     refine L.storeV (i := 4) sz35 rfl rfl (fun _ hw => (As.at_ (hw.get (i := 0) rfl)).one) rfl (Nat.le_of_ble_eq_true rfl) ?_
                     refine L.nil (E.thenN (W.seq (W.region (L.y rfl (Y.move rfl) ?_))))
                     refine L.y rfl (Y.move rfl) ?_
                     refine L.y rfl (Y.nilCheck rfl) ?_
                     refine L.y rfl (Y.fieldP fd38_2 rfl) ?_
                     refine L.store (i := 4) sz36 rfl rfl rfl rfl (by simp [Value.oneCell', Value.cells, st]) rfl (Nat.le_of_ble_eq_true rfl) ?_
                     refine L.y rfl (Y.nilCheck rfl) ?_
                     refine L.y rfl (Y.fieldP fd38_3 rfl) ?_
                     refine L.store (i := 4) sz35 rfl rfl rfl rfl (by simp [Value.oneCell', Value.cells, st]) rfl (Nat.le_of_ble_eq_true rfl) ?_
                     refine L.nil (E.thenN (W.seq (W.region (L.y rfl (Y.assign rfl) ?_))))
                     refine L.nil (E.thenN (W.ret (E.nilSl 3 1 ?_)))
                     refine E.nilSl 9 1 ?_
                     refine E.ret1 rfl rfl (fun w1 hw => ?_)
                     exact ⟨_, _, rfl, ⟨0, v53, l52, .slice none 0 0, [], .slice none 0 0, [], (max x51 (min gx43 (-1))), rfl, rfl, h⟩, hw.sel [3, 4, 5, 6, 7, 8, 9, 10, 2, 1, 0] (by decide) rfl⟩
                   ·
                    rintro _ _ ⟨gx108, gv109, gl110, gv111, gl112, gv113, gl114, gx115, rfl, rfl, h⟩
                    rw [m3_quirlaw_SectPlays_K27] at h
                    refine L.y rfl (Y.eql rfl rfl) ?_
                    refine L.y rfl (Y.assign rfl) ?_
                    refine L.nil (E.thenN (W.ret (E.blockR (E.KSR (E.ret1 rfl rfl (fun w1 hw => ?_))))))
                    exact ⟨_, _, rfl, ⟨decide (gx103 = gx108), gl104, gl31, gv105, gl106, gx107, gv35, gl36, gv109, gl110, gv111, gl112, gv113, gl114, gx115, rfl, rfl, h⟩, hw.sel [1, 2, 3, 4, 5, 6, 7, 8, 9, 10] (by decide) rfl⟩
               ·
                replace h := iteT h
                refine W.condT rfl ?_
                refine W.seq (W.region (L.y rfl (Y.move rfl) ?_))
                refine L.y rfl (Y.fieldP fd32_1 rfl) ?_
                refine L.y rfl (Y.loadP (i := 0) ag3 rfl rfl rfl) ?_
                refine L.callJ (fun v D => ∃ (gs119 : (List UInt8)) (gx120 : Int), v = .tuple #[st gs119, .int .i64 gx120] ∧ D = Cls w [] [.obj b17 [.int .i64 x14.Kind, .int .i64 x14.N, st x14.Text, gv (q1 gx29.toNat) 0] 32, .obj b15 [.int .i64 x14.Kind, .int .i64 x14.N, st x14.Text, gv (q1 gx29.toNat) 0] 32, .obj gb1 [gv2, gv4, gv32, .int .i64 gx34] 167, .obj gb7 [gv35, gv37, gv39, gv41, .int .i64 gx43] 38, .sl gv2 9 1 (gl30.map SR), .sl gv4 9 1 (gl31.map SR), .sl gv32 312 2 (gl33.map Twrite.row), .sl gv35 9 1 (gl36.map SR), .sl gv37 9 1 (gl38.map SR), .sl gv39 3 1 (gl40.map I), .sl gv41 9 1 (gl42.map SR)] ∧ m3_quirlaw_SectPlays_K32 x14 gx29 go2 gl30 gl31 gl33 gx34 gl36 gl38 gl40 gl42 gx43 gs119 gx120 = some r) rfl en20 rfl Try.func20 rfl rfl rfl ?_ ?_
                ·
                 refine W.seq (W.region (L.y rfl (Y.assign rfl) ?_))
                 refine L.y rfl (Y.assign rfl) ?_
                 refine L.nil (E.thenN (W.seqJ (fun gs D => gs = [(0, pt gb1 0), (1, .int .i64 x14.N)] ∧ D = Cls w [] [.obj b17 [.int .i64 x14.Kind, .int .i64 x14.N, st x14.Text, gv (q1 gx29.toNat) 0] 32, .obj b15 [.int .i64 x14.Kind, .int .i64 x14.N, st x14.Text, gv (q1 gx29.toNat) 0] 32, .obj gb1 [gv2, gv4, gv32, .int .i64 gx34] 167, .obj gb7 [gv35, gv37, gv39, gv41, .int .i64 gx43] 38, .sl gv2 9 1 (gl30.map SR), .sl gv4 9 1 (gl31.map SR), .sl gv32 312 2 (gl33.map Twrite.row), .sl gv35 9 1 (gl36.map SR), .sl gv37 9 1 (gl38.map SR), .sl gv39 3 1 (gl40.map I), .sl gv41 9 1 (gl42.map SR)] ∧ m3_quirlaw_SectPlays_K35 gx34 x14 gx29 go2 gl30 gl31 gl33 gl36 gl38 gl40 gl42 gx43 = some r) ?_ ?_))
                 ·
                  refine W.seq (W.region (L.y rfl (Y.move rfl) ?_))
                  refine L.ite h rfl (Y.lss rfl rfl) (fun c68 h => ?_) (fun c68 h => ?_)
                  ·
                   refine L.y rfl (Y.move rfl) ?_
                   refine L.pass rfl rfl (by nofun) ?_
                   refine L.pass rfl rfl (by nofun) ?_
                   refine L.pass rfl rfl (by nofun) ?_
                   refine L.pass rfl rfl (by nofun) ?_
                   refine L.pass rfl rfl (by nofun) ?_
                   refine L.pass rfl rfl (by nofun) ?_
                   refine L.pass rfl rfl (by nofun) ?_
                   refine L.y rfl (Y.pickT rfl rfl) ?_
                   refine L.nil (E.thenN (W.condT rfl ?_))
                   refine W.seq (W.region (L.y rfl (Y.assign rfl) ?_))
                   refine L.y rfl (Y.assign rfl) ?_
                   refine L.nil (E.thenN (W.ret (E.KSR (E.ret2 rfl rfl rfl (fun w1 hw => ?_)))))
                   exact ⟨_, _, rfl, ⟨[], 1, rfl, rfl, h⟩, hw⟩
                  ·
                   refine L.y rfl (Y.move rfl) ?_
                   refine L.take rfl (L.y rfl (Y.move rfl) ?_)
                   refine L.take rfl (L.y rfl (Y.move rfl) ?_)
                   refine L.take rfl (L.y rfl (Y.nilCheck rfl) ?_)
                   refine L.take rfl (L.y rfl (Y.fieldP fd167_0 rfl) ?_)
                   refine L.take rfl (L.y rfl (Y.loadP (i := 2) ag35 rfl rfl rfl) ?_)
                   refine L.take rfl (L.y rfl (Y.lenM (g := SR) (l := gl30) Try.underlying35 rfl (fun w hw => As.at_ (hw.get (i := 4) rfl))) ?_)
                   refine L.take rfl (L.ite h rfl (Y.geq rfl rfl) (fun c69 h => ?_) (fun c69 h => ?_))
                   ·
                    refine L.y rfl (Y.pickF rfl rfl) ?_
                    refine L.nil (E.thenN (W.condT rfl ?_))
                    refine W.seq (W.region (L.y rfl (Y.assign rfl) ?_))
                    refine L.y rfl (Y.assign rfl) ?_
                    refine L.nil (E.thenN (W.ret (E.KSR (E.ret2 rfl rfl rfl (fun w1 hw => ?_)))))
                    exact ⟨_, _, rfl, ⟨[], 1, rfl, rfl, h⟩, hw⟩
                   ·
                    refine L.y rfl (Y.pickF rfl rfl) ?_
                    refine L.nil (E.thenN (W.condF rfl ?_))
                    exact W.skip (E.joinJ ⟨rfl, rfl, h⟩ ⟨rfl, rfl, trivial⟩ (fun _ hw => hw))
                 ·
                  rintro _ _ ⟨rfl, rfl, h⟩
                  rw [m3_quirlaw_SectPlays_K35] at h
                  refine W.seq (W.seq (W.region (L.y rfl (Y.move rfl) ?_)))
                  refine L.y rfl (Y.nilCheck rfl) ?_
                  refine L.y rfl (Y.fieldP fd167_3 rfl) ?_
                  refine L.y rfl (Y.loadP (i := 2) ag3 rfl rfl rfl) ?_
                  refine L.ite h rfl (Y.eql rfl rfl) (fun c66 h => ?_) (fun c66 h => ?_)
                  ·
                   refine L.nil (E.thenN (W.condT rfl ?_))
                   refine W.seq (W.region (L.y rfl (Y.assign rfl) ?_))
                   refine L.y rfl (Y.assign rfl) ?_
                   refine L.nil (E.thenN (W.ret (E.thenR (E.ret2 rfl rfl rfl (fun w1 hw => ?_)))))
                   exact ⟨_, _, rfl, ⟨[], 13, rfl, rfl, h⟩, hw⟩
                  ·
                   refine L.nil (E.thenN (W.condF rfl ?_))
                   refine W.skip (E.thenN (W.seq (W.region (L.y rfl (Y.move rfl) ?_))))
                   refine L.y rfl (Y.nilCheck rfl) ?_
                   refine L.y rfl (Y.fieldP fd167_1 rfl) ?_
                   refine L.y rfl (Y.loadP (i := 2) ag35 rfl rfl rfl) ?_
                   refine L.y rfl (Y.move rfl) ?_
                   refine L.m (V := fun _ => el gv4 (x14.N.toNat * 1)) h rfl (Y.indexM (g := SR) (l := gl31) Try.underlying35 sz9 rfl rfl (fun w hw => As.at_ (hw.get (i := 5) rfl))) (fun x67 ex67 h => ?_)
                   refine L.y rfl (Y.loadE1 (u := st x67) ag9 rfl (fun w hw => As.at_ (hw.get (i := 5) rfl)) (idx_map ex67)) ?_
                   refine L.y rfl (Y.assign rfl) ?_
                   refine L.y rfl (Y.assign rfl) ?_
                   refine L.nil (E.thenN (W.ret (E.ret2 rfl rfl rfl (fun w1 hw => ?_))))
                   exact ⟨_, _, rfl, ⟨x67, 0, rfl, rfl, h⟩, hw⟩
                ·
                 rintro _ _ ⟨gs119, gx120, rfl, rfl, h⟩
                 rw [m3_quirlaw_SectPlays_K32] at h
                 refine L.y rfl (Y.move rfl) ?_
                 refine L.y rfl (Y.extract rfl rfl) ?_
                 refine L.y rfl (Y.extract rfl rfl) ?_
                 refine L.y rfl (Y.assign rfl) ?_
                 refine L.y rfl (Y.assign rfl) ?_
                 refine L.nil (E.thenN (W.seq (W.region (L.y rfl (Y.move rfl) ?_))))
                 refine L.y rfl (Y.fieldP fd32_1 rfl) ?_
                 refine L.y rfl (Y.loadP (i := 0) ag3 rfl rfl rfl) ?_
                 refine L.callJ (fun v D => ∃ (gs121 : (List UInt8)) (gx122 : Int), v = .tuple #[st gs121, .int .i64 gx122] ∧ D = Cls w [] [.obj b17 [.int .i64 x14.Kind, .int .i64 x14.N, st x14.Text, gv (q1 gx29.toNat) 0] 32, .obj b15 [.int .i64 x14.Kind, .int .i64 x14.N, st x14.Text, gv (q1 gx29.toNat) 0] 32, .obj gb1 [gv2, gv4, gv32, .int .i64 gx34] 167, .obj gb7 [gv35, gv37, gv39, gv41, .int .i64 gx43] 38, .sl gv2 9 1 (gl30.map SR), .sl gv4 9 1 (gl31.map SR), .sl gv32 312 2 (gl33.map Twrite.row), .sl gv35 9 1 (gl36.map SR), .sl gv37 9 1 (gl38.map SR), .sl gv39 3 1 (gl40.map I), .sl gv41 9 1 (gl42.map SR)] ∧ m3_quirlaw_SectPlays_K33 gs119 gx29 go2 gx120 gl30 gl31 gl33 gx34 gl36 gl38 gl40 gl42 gx43 gs121 gx122 = some r) rfl en101 rfl Try.func101 rfl rfl rfl ?_ ?_
                 ·
                  refine W.seq (W.region (L.y rfl (Y.assign rfl) ?_))
                  refine L.y rfl (Y.assign rfl) ?_
                  refine L.nil (E.thenN (W.seqJ (fun gs D => gs = [(0, pt gb7 0), (1, .int .i64 x14.N)] ∧ D = Cls w [] [.obj b17 [.int .i64 x14.Kind, .int .i64 x14.N, st x14.Text, gv (q1 gx29.toNat) 0] 32, .obj b15 [.int .i64 x14.Kind, .int .i64 x14.N, st x14.Text, gv (q1 gx29.toNat) 0] 32, .obj gb1 [gv2, gv4, gv32, .int .i64 gx34] 167, .obj gb7 [gv35, gv37, gv39, gv41, .int .i64 gx43] 38, .sl gv2 9 1 (gl30.map SR), .sl gv4 9 1 (gl31.map SR), .sl gv32 312 2 (gl33.map Twrite.row), .sl gv35 9 1 (gl36.map SR), .sl gv37 9 1 (gl38.map SR), .sl gv39 3 1 (gl40.map I), .sl gv41 9 1 (gl42.map SR)] ∧ m3_quirlaw_SectPlays_K34 gx43 gs119 gx29 go2 gx120 gl30 gl31 gl33 gx34 gl36 gl38 gl40 gl42 x14 = some r) ?_ ?_))
                  ·
                   refine W.seq (W.region (L.y rfl (Y.move rfl) ?_))
                   refine L.ite h rfl (Y.lss rfl rfl) (fun c64 h => ?_) (fun c64 h => ?_)
                   ·
                    refine L.y rfl (Y.move rfl) ?_
                    refine L.pass rfl rfl (by nofun) ?_
                    refine L.pass rfl rfl (by nofun) ?_
                    refine L.pass rfl rfl (by nofun) ?_
                    refine L.pass rfl rfl (by nofun) ?_
                    refine L.pass rfl rfl (by nofun) ?_
                    refine L.pass rfl rfl (by nofun) ?_
                    refine L.pass rfl rfl (by nofun) ?_
                    refine L.y rfl (Y.pickT rfl rfl) ?_
                    refine L.nil (E.thenN (W.condT rfl ?_))
                    refine W.seq (W.region (L.y rfl (Y.assign rfl) ?_))
                    refine L.y rfl (Y.assign rfl) ?_
                    refine L.nil (E.thenN (W.ret (E.KSR (E.ret2 rfl rfl rfl (fun w1 hw => ?_)))))
                    exact ⟨_, _, rfl, ⟨[], 1, rfl, rfl, h⟩, hw⟩
                   ·
                    refine L.y rfl (Y.move rfl) ?_
                    refine L.take rfl (L.y rfl (Y.move rfl) ?_)
                    refine L.take rfl (L.y rfl (Y.move rfl) ?_)
                    refine L.take rfl (L.y rfl (Y.nilCheck rfl) ?_)
                    refine L.take rfl (L.y rfl (Y.fieldP fd38_0 rfl) ?_)
                    refine L.take rfl (L.y rfl (Y.loadP (i := 3) ag35 rfl rfl rfl) ?_)
                    refine L.take rfl (L.y rfl (Y.lenM (g := SR) (l := gl36) Try.underlying35 rfl (fun w hw => As.at_ (hw.get (i := 7) rfl))) ?_)
                    refine L.take rfl (L.ite h rfl (Y.geq rfl rfl) (fun c65 h => ?_) (fun c65 h => ?_))
                    ·
                     refine L.y rfl (Y.pickF rfl rfl) ?_
                     refine L.nil (E.thenN (W.condT rfl ?_))
                     refine W.seq (W.region (L.y rfl (Y.assign rfl) ?_))
                     refine L.y rfl (Y.assign rfl) ?_
                     refine L.nil (E.thenN (W.ret (E.KSR (E.ret2 rfl rfl rfl (fun w1 hw => ?_)))))
                     exact ⟨_, _, rfl, ⟨[], 1, rfl, rfl, h⟩, hw⟩
                    ·
                     refine L.y rfl (Y.pickF rfl rfl) ?_
                     refine L.nil (E.thenN (W.condF rfl ?_))
                     exact W.skip (E.joinJ ⟨rfl, rfl, h⟩ ⟨rfl, rfl, trivial⟩ (fun _ hw => hw))
                  ·
                   rintro _ _ ⟨rfl, rfl, h⟩
                   rw [m3_quirlaw_SectPlays_K34] at h
                   refine W.seq (W.seq (W.region (L.y rfl (Y.move rfl) ?_)))
                   refine L.y rfl (Y.nilCheck rfl) ?_
                   refine L.y rfl (Y.fieldP fd38_4 rfl) ?_
                   refine L.y rfl (Y.loadP (i := 3) ag3 rfl rfl rfl) ?_
                   refine L.ite h rfl (Y.eql rfl rfl) (fun c62 h => ?_) (fun c62 h => ?_)
                   ·
                    refine L.nil (E.thenN (W.condT rfl ?_))
                    refine W.seq (W.region (L.y rfl (Y.assign rfl) ?_))
                    refine L.y rfl (Y.assign rfl) ?_
                    refine L.nil (E.thenN (W.ret (E.thenR (E.ret2 rfl rfl rfl (fun w1 hw => ?_)))))
                    exact ⟨_, _, rfl, ⟨[], 13, rfl, rfl, h⟩, hw⟩
                   ·
                    refine L.nil (E.thenN (W.condF rfl ?_))
                    refine W.skip (E.thenN (W.seq (W.region (L.y rfl (Y.move rfl) ?_))))
                    refine L.y rfl (Y.nilCheck rfl) ?_
                    refine L.y rfl (Y.fieldP fd38_0 rfl) ?_
                    refine L.y rfl (Y.loadP (i := 3) ag35 rfl rfl rfl) ?_
                    refine L.y rfl (Y.move rfl) ?_
                    refine L.m (V := fun _ => el gv35 (x14.N.toNat * 1)) h rfl (Y.indexM (g := SR) (l := gl36) Try.underlying35 sz9 rfl rfl (fun w hw => As.at_ (hw.get (i := 7) rfl))) (fun x63 ex63 h => ?_)
                    refine L.y rfl (Y.loadE1 (u := st x63) ag9 rfl (fun w hw => As.at_ (hw.get (i := 7) rfl)) (idx_map ex63)) ?_
                    refine L.y rfl (Y.assign rfl) ?_
                    refine L.y rfl (Y.assign rfl) ?_
                    refine L.nil (E.thenN (W.ret (E.ret2 rfl rfl rfl (fun w1 hw => ?_))))
                    exact ⟨_, _, rfl, ⟨x63, 0, rfl, rfl, h⟩, hw⟩
                 ·
                  rintro _ _ ⟨gs121, gx122, rfl, rfl, h⟩
                  rw [m3_quirlaw_SectPlays_K33] at h
                  refine L.y rfl (Y.move rfl) ?_
                  refine L.y rfl (Y.extract rfl rfl) ?_
                  refine L.y rfl (Y.extract rfl rfl) ?_
                  refine L.y rfl (Y.assign rfl) ?_
                  refine L.y rfl (Y.assign rfl) ?_
                  refine L.nil (E.thenN (W.seq (W.region (L.y rfl (Y.move rfl) ?_))))
                  refine L.y rfl (Y.move rfl) ?_
                  refine L.ite h rfl (Y.eqlS rfl rfl) (fun c61 h => ?_) (fun c61 h => ?_)
                  ·
                   refine L.y rfl (Y.move rfl) ?_
                   refine L.take rfl (L.y rfl (Y.move rfl) ?_)
                   refine L.take rfl (L.y rfl (Y.move rfl) ?_)
                   refine L.take rfl (L.y rfl (Y.eql rfl rfl) ?_)
                   refine L.y rfl (Y.pickT rfl rfl) ?_
                   refine L.y rfl (Y.assign rfl) ?_
                   refine L.nil (E.thenN (W.ret (E.blockR (E.KSR (E.ret1 rfl rfl (fun w1 hw => ?_))))))
                   exact ⟨_, _, rfl, ⟨decide (gx120 = gx122), gl30, gl31, gv32, gl33, gx34, gv35, gl36, gv37, gl38, gv39, gl40, gv41, gl42, gx43, rfl, rfl, h⟩, hw.sel [1, 2, 3, 4, 5, 6, 7, 8, 9, 10] (by decide) rfl⟩
                  ·
                   refine L.y rfl (Y.move rfl) ?_
                   refine L.pass rfl rfl (by nofun) ?_
                   refine L.pass rfl rfl (by nofun) ?_
                   refine L.pass rfl rfl (by nofun) ?_
                   refine L.y rfl (Y.pickF rfl rfl) ?_
                   refine L.y rfl (Y.assign rfl) ?_
                   refine L.nil (E.thenN (W.ret (E.blockR (E.KSR (E.ret1 rfl rfl (fun w1 hw => ?_))))))
                   exact ⟨_, _, rfl, ⟨false, gl30, gl31, gv32, gl33, gx34, gv35, gl36, gv37, gl38, gv39, gl40, gv41, gl42, gx43, rfl, rfl, h⟩, hw.sel [1, 2, 3, 4, 5, 6, 7, 8, 9, 10] (by decide) rfl⟩
             ·
              replace h := iteT h
              refine W.condT rfl ?_
              refine W.seq (W.drawn2 (k := 14) (stC [[5, 11], [11]] [Cls w [] [.obj b17 [.int .i64 x14.Kind, .int .i64 x14.N, st x14.Text, gv (q1 gx29.toNat) 0] 32, .obj b15 [.int .i64 x14.Kind, .int .i64 x14.N, st x14.Text, gv (q1 gx29.toNat) 0] 32, .obj gb1 [gv2, gv4, gv32, .int .i64 gx34] 167, .obj gb7 [gv35, gv37, gv39, gv41, .int .i64 gx43] 38, .sl gv2 9 1 (gl30.map SR), .sl gv4 9 1 (gl31.map SR), .sl gv32 312 2 (gl33.map Twrite.row), .sl gv35 9 1 (gl36.map SR), .sl gv37 9 1 (gl38.map SR), .sl gv39 3 1 (gl40.map I), .sl gv41 9 1 (gl42.map SR)], Cls w [] [.obj b17 [.int .i64 x14.Kind, .int .i64 x14.N, st x14.Text, gv (q1 gx29.toNat) 0] 32, .obj b15 [.int .i64 x14.Kind, .int .i64 x14.N, st x14.Text, gv (q1 gx29.toNat) 0] 32, .obj gb7 [gv35, gv37, gv39, gv41, .int .i64 gx43] 38, .sl gv2 9 1 (gl30.map SR), .sl gv35 9 1 (gl36.map SR), .sl gv37 9 1 (gl38.map SR), .sl gv39 3 1 (gl40.map I), .sl gv41 9 1 (gl42.map SR)]] (Cls w [] [.obj b17 [.int .i64 x14.Kind, .int .i64 x14.N, st x14.Text, gv (q1 gx29.toNat) 0] 32, .obj b15 [.int .i64 x14.Kind, .int .i64 x14.N, st x14.Text, gv (q1 gx29.toNat) 0] 32, .sl gv2 9 1 (gl30.map SR), .sl gv37 9 1 (gl38.map SR)])) rfl mixed (fun _ hw => hw.drew) (Sc.now (by kernel_rfl) (fun _ hw => hw)) ?_)
              refine V2.y (i := 0) (Nx2.of (Z := Cls w [] [.obj b17 [.int .i64 x14.Kind, .int .i64 x14.N, st x14.Text, gv (q1 gx29.toNat) 0] 32, .obj b15 [.int .i64 x14.Kind, .int .i64 x14.N, st x14.Text, gv (q1 gx29.toNat) 0] 32, .sl gv2 9 1 (gl30.map SR), .sl gv37 9 1 (gl38.map SR)]) [] (by kernel_rfl) rfl (Zc.on (fun _ hw => hw.sel [0, 1, 4, 8] (by decide) rfl) (Zc.on (fun _ hw => hw.sel [0, 1, 3, 5] (by decide) rfl) (Zc.fin (fun _ hw => hw))))) rfl rfl rfl (Y.move rfl) ?_
              refine V2.y (i := 1) (Nx2.of (Z := Cls w [] [.obj b17 [.int .i64 x14.Kind, .int .i64 x14.N, st x14.Text, gv (q1 gx29.toNat) 0] 32, .obj b15 [.int .i64 x14.Kind, .int .i64 x14.N, st x14.Text, gv (q1 gx29.toNat) 0] 32, .sl gv2 9 1 (gl30.map SR), .sl gv37 9 1 (gl38.map SR)]) [] (by kernel_rfl) rfl (Zc.on (fun _ hw => hw.sel [0, 1, 4, 8] (by decide) rfl) (Zc.on (fun _ hw => hw.sel [0, 1, 3, 5] (by decide) rfl) (Zc.fin (fun _ hw => hw))))) rfl rfl rfl (Y.fieldP fd32_1 rfl) ?_
              refine V2.y (i := 2) (Nx2.of (Z := Cls w [] [.obj b17 [.int .i64 x14.Kind, .int .i64 x14.N, st x14.Text, gv (q1 gx29.toNat) 0] 32, .obj b15 [.int .i64 x14.Kind, .int .i64 x14.N, st x14.Text, gv (q1 gx29.toNat) 0] 32, .sl gv2 9 1 (gl30.map SR), .sl gv37 9 1 (gl38.map SR)]) [] (by kernel_rfl) rfl (Zc.on (fun _ hw => hw.sel [0, 1, 4, 8] (by decide) rfl) (Zc.on (fun _ hw => hw.sel [0, 1, 3, 5] (by decide) rfl) (Zc.fin (fun _ hw => hw))))) rfl rfl rfl (Y.loadP (i := 0) ag3 rfl rfl rfl) ?_
              refine V2.y (i := 3) (Nx2.of (Z := Cls w [] [.obj b17 [.int .i64 x14.Kind, .int .i64 x14.N, st x14.Text, gv (q1 gx29.toNat) 0] 32, .obj b15 [.int .i64 x14.Kind, .int .i64 x14.N, st x14.Text, gv (q1 gx29.toNat) 0] 32, .sl gv2 9 1 (gl30.map SR), .sl gv37 9 1 (gl38.map SR)]) [] (by kernel_rfl) rfl (Zc.on (fun _ hw => hw.sel [0, 1, 4, 8] (by decide) rfl) (Zc.on (fun _ hw => hw.sel [0, 1, 3, 5] (by decide) rfl) (Zc.fin (fun _ hw => hw))))) rfl rfl rfl (Y.fieldP fd32_2 rfl) ?_
              refine V2.y (i := 4) (Nx2.of (Z := Cls w [] [.obj b17 [.int .i64 x14.Kind, .int .i64 x14.N, st x14.Text, gv (q1 gx29.toNat) 0] 32, .obj b15 [.int .i64 x14.Kind, .int .i64 x14.N, st x14.Text, gv (q1 gx29.toNat) 0] 32, .sl gv2 9 1 (gl30.map SR), .sl gv37 9 1 (gl38.map SR)]) [] (by kernel_rfl) rfl (Zc.on (fun _ hw => hw.sel [0, 1, 4, 8] (by decide) rfl) (Zc.on (fun _ hw => hw.sel [0, 1, 3, 5] (by decide) rfl) (Zc.fin (fun _ hw => hw))))) rfl rfl rfl (Y.loadP (i := 0) ag9 rfl rfl rfl) ?_
              refine V2.y (i := 6) (Nx2.of (Z := Cls w [] [.obj b17 [.int .i64 x14.Kind, .int .i64 x14.N, st x14.Text, gv (q1 gx29.toNat) 0] 32, .obj b15 [.int .i64 x14.Kind, .int .i64 x14.N, st x14.Text, gv (q1 gx29.toNat) 0] 32, .sl gv2 9 1 (gl30.map SR), .sl gv37 9 1 (gl38.map SR)]) [] (by kernel_rfl) rfl (Zc.on (fun _ hw => hw.sel [0, 1, 4, 8] (by decide) rfl) (Zc.on (fun _ hw => hw.sel [0, 1, 3, 5] (by decide) rfl) (Zc.fin (fun _ hw => hw))))) rfl rfl rfl (Y.move rfl) ?_
              refine V2.y (i := 7) (Nx2.of (Z := Cls w [] [.obj b17 [.int .i64 x14.Kind, .int .i64 x14.N, st x14.Text, gv (q1 gx29.toNat) 0] 32, .obj b15 [.int .i64 x14.Kind, .int .i64 x14.N, st x14.Text, gv (q1 gx29.toNat) 0] 32, .sl gv2 9 1 (gl30.map SR), .sl gv37 9 1 (gl38.map SR)]) [] (by kernel_rfl) rfl (Zc.on (fun _ hw => hw.sel [0, 1, 4, 8] (by decide) rfl) (Zc.on (fun _ hw => hw.sel [0, 1, 3, 5] (by decide) rfl) (Zc.fin (fun _ hw => hw))))) rfl rfl rfl (Y.fieldP fd32_1 rfl) ?_
              refine V2.y (i := 8) (Nx2.of (Z := Cls w [] [.obj b17 [.int .i64 x14.Kind, .int .i64 x14.N, st x14.Text, gv (q1 gx29.toNat) 0] 32, .obj b15 [.int .i64 x14.Kind, .int .i64 x14.N, st x14.Text, gv (q1 gx29.toNat) 0] 32, .sl gv2 9 1 (gl30.map SR), .sl gv37 9 1 (gl38.map SR)]) [] (by kernel_rfl) rfl (Zc.on (fun _ hw => hw.sel [0, 1, 4, 8] (by decide) rfl) (Zc.on (fun _ hw => hw.sel [0, 1, 3, 5] (by decide) rfl) (Zc.fin (fun _ hw => hw))))) rfl rfl rfl (Y.loadP (i := 0) ag3 rfl rfl rfl) ?_
              refine V2.y (i := 9) (Nx2.of (Z := Cls w [] [.obj b17 [.int .i64 x14.Kind, .int .i64 x14.N, st x14.Text, gv (q1 gx29.toNat) 0] 32, .obj b15 [.int .i64 x14.Kind, .int .i64 x14.N, st x14.Text, gv (q1 gx29.toNat) 0] 32, .sl gv2 9 1 (gl30.map SR), .sl gv37 9 1 (gl38.map SR)]) [] (by kernel_rfl) rfl (Zc.on (fun _ hw => hw.sel [0, 1, 4, 8] (by decide) rfl) (Zc.on (fun _ hw => hw.sel [0, 1, 3, 5] (by decide) rfl) (Zc.fin (fun _ hw => hw))))) rfl rfl rfl (Y.fieldP fd32_2 rfl) ?_
              refine V2.y (i := 10) (Nx2.of (Z := Cls w [] [.obj b17 [.int .i64 x14.Kind, .int .i64 x14.N, st x14.Text, gv (q1 gx29.toNat) 0] 32, .obj b15 [.int .i64 x14.Kind, .int .i64 x14.N, st x14.Text, gv (q1 gx29.toNat) 0] 32, .sl gv2 9 1 (gl30.map SR), .sl gv37 9 1 (gl38.map SR)]) [] (by kernel_rfl) rfl (Zc.on (fun _ hw => hw.sel [0, 1, 4, 8] (by decide) rfl) (Zc.on (fun _ hw => hw.sel [0, 1, 3, 5] (by decide) rfl) (Zc.fin (fun _ hw => hw))))) rfl rfl rfl (Y.loadP (i := 0) ag9 rfl rfl rfl) ?_
              refine V2.eff (i := 5) (by kernel_rfl) rfl ?_
              refine L.callJ (fun v D => ∃ (gx186 : Int) (gl187 : (List (List UInt8))) (gv188 : Value) (gl189 : (List Twrite)) (gx190 : Int), v = .int .i64 gx186 ∧ D = Cls w [] [.obj b17 [.int .i64 x14.Kind, .int .i64 x14.N, st x14.Text, gv (q1 gx29.toNat) 0] 32, .obj b15 [.int .i64 x14.Kind, .int .i64 x14.N, st x14.Text, gv (q1 gx29.toNat) 0] 32, .obj gb1 [gv2, gv4, gv188, .int .i64 gx190] 167, .obj gb7 [gv35, gv37, gv39, gv41, .int .i64 gx43] 38, .sl gv2 9 1 (gl30.map SR), .sl gv4 9 1 (gl187.map SR), .sl gv188 312 2 (gl189.map Twrite.row), .sl gv35 9 1 (gl36.map SR), .sl gv37 9 1 (gl38.map SR), .sl gv39 3 1 (gl40.map I), .sl gv41 9 1 (gl42.map SR)] ∧ m3_quirlaw_SectPlays_K36 x14 gx29 go2 gl30 gl38 gl36 gl40 gl42 gx43 gx186 gl187 gl189 gx190 = some r) rfl en99 rfl Try.func99 rfl rfl rfl ?_ ?_
              ·
               refine W.seq (W.region (L.y rfl (Y.assign rfl) ?_))
               refine L.nil (E.thenN (W.seqJ (fun gs D => gs = [(0, pt gb1 0), (1, .int .i64 x14.N), (2, st x14.Text)] ∧ D = Cls w [] [.obj b17 [.int .i64 x14.Kind, .int .i64 x14.N, st x14.Text, gv (q1 gx29.toNat) 0] 32, .obj b15 [.int .i64 x14.Kind, .int .i64 x14.N, st x14.Text, gv (q1 gx29.toNat) 0] 32, .obj gb1 [gv2, gv4, gv32, .int .i64 gx34] 167, .obj gb7 [gv35, gv37, gv39, gv41, .int .i64 gx43] 38, .sl gv2 9 1 (gl30.map SR), .sl gv4 9 1 (gl31.map SR), .sl gv32 312 2 (gl33.map Twrite.row), .sl gv35 9 1 (gl36.map SR), .sl gv37 9 1 (gl38.map SR), .sl gv39 3 1 (gl40.map I), .sl gv41 9 1 (gl42.map SR)] ∧ m3_quirlaw_SectPlays_K42 x14 gx29 go2 gl30 gl38 gl36 gl40 gl42 gx43 gl31 gl33 gx34 = some r) ?_ ?_))
               ·
                refine W.seq (W.region (L.y rfl (Y.move rfl) ?_))
                refine L.ite h rfl (Y.lss rfl rfl) (fun c139 h => ?_) (fun c139 h => ?_)
                ·
                 refine L.y rfl (Y.move rfl) ?_
                 refine L.pass rfl rfl (by nofun) ?_
                 refine L.pass rfl rfl (by nofun) ?_
                 refine L.pass rfl rfl (by nofun) ?_
                 refine L.pass rfl rfl (by nofun) ?_
                 refine L.pass rfl rfl (by nofun) ?_
                 refine L.pass rfl rfl (by nofun) ?_
                 refine L.pass rfl rfl (by nofun) ?_
                 refine L.y rfl (Y.pickT rfl rfl) ?_
                 refine L.nil (E.thenN (W.condT rfl ?_))
                 refine W.seq (W.region (L.y rfl (Y.assign rfl) ?_))
                 refine L.nil (E.thenN (W.ret (E.KSR (E.ret1 rfl rfl (fun w1 hw => ?_)))))
                 exact ⟨_, _, rfl, ⟨1, gl31, gv32, gl33, gx34, rfl, rfl, h⟩, hw⟩
                ·
                 refine L.y rfl (Y.move rfl) ?_
                 refine L.take rfl (L.y rfl (Y.move rfl) ?_)
                 refine L.take rfl (L.y rfl (Y.move rfl) ?_)
                 refine L.take rfl (L.y rfl (Y.nilCheck rfl) ?_)
                 refine L.take rfl (L.y rfl (Y.fieldP fd167_0 rfl) ?_)
                 refine L.take rfl (L.y rfl (Y.loadP (i := 2) ag35 rfl rfl rfl) ?_)
                 refine L.take rfl (L.y rfl (Y.lenM (g := SR) (l := gl30) Try.underlying35 rfl (fun w hw => As.at_ (hw.get (i := 4) rfl))) ?_)
                 refine L.take rfl (L.ite h rfl (Y.geq rfl rfl) (fun c140 h => ?_) (fun c140 h => ?_))
                 ·
                  refine L.y rfl (Y.pickF rfl rfl) ?_
                  refine L.nil (E.thenN (W.condT rfl ?_))
                  refine W.seq (W.region (L.y rfl (Y.assign rfl) ?_))
                  refine L.nil (E.thenN (W.ret (E.KSR (E.ret1 rfl rfl (fun w1 hw => ?_)))))
                  exact ⟨_, _, rfl, ⟨1, gl31, gv32, gl33, gx34, rfl, rfl, h⟩, hw⟩
                 ·
                  refine L.y rfl (Y.pickF rfl rfl) ?_
                  refine L.nil (E.thenN (W.condF rfl ?_))
                  exact W.skip (E.joinJ ⟨rfl, rfl, h⟩ ⟨rfl, rfl, rfl, trivial⟩ (fun _ hw => hw))
               ·
                rintro _ _ ⟨rfl, rfl, h⟩
                rw [m3_quirlaw_SectPlays_K42] at h
                refine W.seqJ (fun gs D => gs = [(0, pt gb1 0), (1, .int .i64 x14.N), (2, st x14.Text)] ∧ D = Cls w [] [.obj b17 [.int .i64 x14.Kind, .int .i64 x14.N, st x14.Text, gv (q1 gx29.toNat) 0] 32, .obj b15 [.int .i64 x14.Kind, .int .i64 x14.N, st x14.Text, gv (q1 gx29.toNat) 0] 32, .obj gb1 [gv2, gv4, gv32, .int .i64 gx34] 167, .obj gb7 [gv35, gv37, gv39, gv41, .int .i64 gx43] 38, .sl gv2 9 1 (gl30.map SR), .sl gv4 9 1 (gl31.map SR), .sl gv32 312 2 (gl33.map Twrite.row), .sl gv35 9 1 (gl36.map SR), .sl gv37 9 1 (gl38.map SR), .sl gv39 3 1 (gl40.map I), .sl gv41 9 1 (gl42.map SR)] ∧ m3_quirlaw_SectPlays_K43 gx34 x14 gx29 go2 gl30 gl38 gl36 gl40 gl42 gx43 gl31 gl33 = some r) ?_ ?_
                ·
                 refine W.seq (W.region (L.y rfl (Y.move rfl) ?_))
                 refine L.y rfl (Y.lenS Try.underlying9 rfl) ?_
                 refine L.ite h rfl (Y.gtr rfl rfl) (fun c138 h => ?_) (fun c138 h => ?_)
                 ·
                  refine L.nil (E.thenN (W.condT rfl ?_))
                  refine W.seq (W.region (L.y rfl (Y.assign rfl) ?_))
                  refine L.nil (E.thenN (W.ret (E.KSR (E.ret1 rfl rfl (fun w1 hw => ?_)))))
                  exact ⟨_, _, rfl, ⟨2, gl31, gv32, gl33, gx34, rfl, rfl, h⟩, hw⟩
                 ·
                  refine L.nil (E.thenN (W.condF rfl ?_))
                  exact W.skip (E.joinJ ⟨rfl, rfl, h⟩ ⟨rfl, rfl, rfl, trivial⟩ (fun _ hw => hw))
                ·
                 rintro _ _ ⟨rfl, rfl, h⟩
                 rw [m3_quirlaw_SectPlays_K43] at h
                 refine W.seqJ (fun gs D => ∃ (gx202 : Int), gs = [(0, pt gb1 0), (1, .int .i64 x14.N), (2, st x14.Text)] ∧ D = Cls w [] [.obj b17 [.int .i64 x14.Kind, .int .i64 x14.N, st x14.Text, gv (q1 gx29.toNat) 0] 32, .obj b15 [.int .i64 x14.Kind, .int .i64 x14.N, st x14.Text, gv (q1 gx29.toNat) 0] 32, .obj gb1 [gv2, gv4, gv32, .int .i64 gx202] 167, .obj gb7 [gv35, gv37, gv39, gv41, .int .i64 gx43] 38, .sl gv2 9 1 (gl30.map SR), .sl gv4 9 1 (gl31.map SR), .sl gv32 312 2 (gl33.map Twrite.row), .sl gv35 9 1 (gl36.map SR), .sl gv37 9 1 (gl38.map SR), .sl gv39 3 1 (gl40.map I), .sl gv41 9 1 (gl42.map SR)] ∧ m3_quirlaw_SectPlays_K44 x14 gl31 gl33 gx29 go2 gl30 gl38 gl36 gl40 gl42 gx43 gx202 = some r) ?_ ?_
                 ·
                  refine W.seq (W.region (L.y rfl (Y.move rfl) ?_))
                  refine L.callJ (fun v D => ∃ (gx203 : Int) (gx204 : Int), v = .int .i64 gx203 ∧ D = Cls w [] [.obj b17 [.int .i64 x14.Kind, .int .i64 x14.N, st x14.Text, gv (q1 gx29.toNat) 0] 32, .obj b15 [.int .i64 x14.Kind, .int .i64 x14.N, st x14.Text, gv (q1 gx29.toNat) 0] 32, .obj gb1 [gv2, gv4, gv32, .int .i64 gx204] 167, .obj gb7 [gv35, gv37, gv39, gv41, .int .i64 gx43] 38, .sl gv2 9 1 (gl30.map SR), .sl gv4 9 1 (gl31.map SR), .sl gv32 312 2 (gl33.map Twrite.row), .sl gv35 9 1 (gl36.map SR), .sl gv37 9 1 (gl38.map SR), .sl gv39 3 1 (gl40.map I), .sl gv41 9 1 (gl42.map SR)] ∧ m3_quirlaw_SectPlays_K45 x14 gx29 go2 gl30 gl38 gl36 gl40 gl42 gx43 gl31 gl33 gx203 gx204 = some r) rfl en230 rfl Try.func230 rfl rfl rfl ?_ ?_
                  ·
                   refine W.seq (W.region (L.y rfl (Y.assign rfl) ?_))
                   refine L.nil (E.thenN (W.seqJ (fun gs D => gs = [(0, pt gb1 0)] ∧ D = Cls w [] [.obj b17 [.int .i64 x14.Kind, .int .i64 x14.N, st x14.Text, gv (q1 gx29.toNat) 0] 32, .obj b15 [.int .i64 x14.Kind, .int .i64 x14.N, st x14.Text, gv (q1 gx29.toNat) 0] 32, .obj gb1 [gv2, gv4, gv32, .int .i64 gx34] 167, .obj gb7 [gv35, gv37, gv39, gv41, .int .i64 gx43] 38, .sl gv2 9 1 (gl30.map SR), .sl gv4 9 1 (gl31.map SR), .sl gv32 312 2 (gl33.map Twrite.row), .sl gv35 9 1 (gl36.map SR), .sl gv37 9 1 (gl38.map SR), .sl gv39 3 1 (gl40.map I), .sl gv41 9 1 (gl42.map SR)] ∧ m3_quirlaw_SectPlays_K46 gx34 x14 gx29 go2 gl30 gl38 gl36 gl40 gl42 gx43 gl31 gl33 = some r) ?_ ?_))
                   ·
                    refine W.seq (W.region (L.y rfl (Y.move rfl) ?_))
                    refine L.y rfl (Y.nilCheck rfl) ?_
                    refine L.y rfl (Y.fieldP fd167_3 rfl) ?_
                    refine L.y rfl (Y.loadP (i := 2) ag3 rfl rfl rfl) ?_
                    refine L.ite h rfl (Y.eql rfl rfl) (fun c137 h => ?_) (fun c137 h => ?_)
                    ·
                     refine L.nil (E.thenN (W.condT rfl ?_))
                     refine W.seq (W.region (L.y rfl (Y.assign rfl) ?_))
                     refine L.nil (E.thenN (W.ret (E.KSR (E.ret1 rfl rfl (fun w1 hw => ?_)))))
                     exact ⟨_, _, rfl, ⟨13, gx34, rfl, rfl, h⟩, hw⟩
                    ·
                     refine L.nil (E.thenN (W.condF rfl ?_))
                     exact W.skip (E.joinJ ⟨rfl, rfl, h⟩ ⟨rfl, trivial⟩ (fun _ hw => hw))
                   ·
                    rintro _ _ ⟨rfl, rfl, h⟩
                    rw [m3_quirlaw_SectPlays_K46] at h
                    refine W.seq (W.seq (W.region (L.y rfl (Y.move rfl) ?_)))
                    refine L.y rfl (Y.nilCheck rfl) ?_
                    refine L.y rfl (Y.fieldP fd167_3 rfl) ?_
                    refine L.y rfl (Y.loadP (i := 2) ag3 rfl rfl rfl) ?_
                    refine L.ite h rfl (Y.gtr rfl rfl) (fun c135 h => ?_) (fun c135 h => ?_)
                    ·
                     refine L.nil (E.thenN (W.condT rfl ?_))
                     refine W.region (L.y rfl (Y.move rfl) ?_)
                     refine L.y rfl (Y.nilCheck rfl) ?_
                     refine L.y rfl (Y.fieldP fd167_3 rfl) ?_
                     refine L.y rfl (Y.loadP (i := 2) ag3 rfl rfl rfl) ?_
                     refine L.m (V := fun x136 => .int .i64 x136) h rfl (Y.subM rfl rfl) (fun x136 ex136 h => ?_)
                     refine L.y rfl (Y.nilCheck rfl) ?_
                     refine L.y rfl (Y.fieldP fd167_3 rfl) ?_
                     refine L.store (i := 2) sz3 rfl rfl rfl rfl (by simp [Value.oneCell', Value.cells, st]) rfl (Nat.le_of_ble_eq_true rfl) ?_
                     refine L.nil (E.thenN (W.seq (W.region (L.y rfl (Y.assign rfl) ?_))))
                     refine L.nil (E.thenN (W.ret (E.ret1 rfl rfl (fun w1 hw => ?_))))
                     exact ⟨_, _, rfl, ⟨0, x136, rfl, rfl, h⟩, hw⟩
                    ·
                     refine L.nil (E.thenN (W.condF rfl ?_))
                     refine W.skip (E.thenN (W.seq (W.region (L.y rfl (Y.assign rfl) ?_))))
                     refine L.nil (E.thenN (W.ret (E.ret1 rfl rfl (fun w1 hw => ?_))))
                     exact ⟨_, _, rfl, ⟨0, gx34, rfl, rfl, h⟩, hw⟩
                  ·
                   rintro _ _ ⟨gx203, gx204, rfl, rfl, h⟩
                   rw [m3_quirlaw_SectPlays_K45] at h
                   refine L.y rfl (Y.assign rfl) ?_
                   refine L.nil (E.thenN (W.seq (W.region (L.y rfl (Y.move rfl) ?_))))
                   refine L.ite h rfl (Y.neq rfl rfl) (fun c134 h => ?_) (fun c134 h => ?_)
                   ·
                    refine L.nil (E.thenN (W.condT rfl ?_))
                    refine W.seq (W.region (L.y rfl (Y.move rfl) ?_))
                    refine L.y rfl (Y.assign rfl) ?_
                    refine L.nil (E.thenN (W.ret (E.KSR (E.ret1 rfl rfl (fun w1 hw => ?_)))))
                    exact ⟨_, _, rfl, ⟨gx203, gl31, gv32, gl33, gx204, rfl, rfl, h⟩, hw⟩
                   ·
                    refine L.nil (E.thenN (W.condF rfl ?_))
                    exact W.skip (E.joinJ ⟨gx204, rfl, rfl, h⟩ ⟨rfl, rfl, rfl, trivial⟩ (fun _ hw => hw))
                 ·
                  rintro _ _ ⟨gx202, rfl, rfl, h⟩
                  rw [m3_quirlaw_SectPlays_K44] at h
                  refine W.seq (W.region (L.y rfl (Y.move rfl) ?_))
                  refine L.y rfl (Y.move rfl) ?_
                  refine L.y rfl (Y.lenS Try.underlying9 rfl) ?_
                  refine L.m (V := fun x125 => .int .i64 x125) h rfl (Y.subM rfl rfl) (fun x125 ex125 h => ?_)
                  obtain ⟨s126, e127, h⟩ := bind1S h
                  refine L.y rfl (Y.does en97 rfl (fun w' hw => (wRepeat ([0]) x125 w' _ e127).mono (fun _ _ h => h.1))) ?_
                  refine L.m (V := fun s128 => st s128) h rfl (Y.catM rfl rfl) (fun s128 es128 h => ?_)
                  refine L.y rfl (Y.assign rfl) ?_
                  refine L.nil (E.thenN (W.seq (W.region (L.y rfl (Y.move rfl) ?_))))
                  refine L.y rfl (Y.nilCheck rfl) ?_
                  refine L.y rfl (Y.fieldP fd167_1 rfl) ?_
                  refine L.y rfl (Y.loadP (i := 2) ag35 rfl rfl rfl) ?_
                  refine L.y rfl (Y.move rfl) ?_
                  refine L.y rfl (Y.move rfl) ?_
                  refine L.m (V := fun _ => el gv4 (x14.N.toNat * 1)) h rfl (Y.indexM (g := SR) (l := gl31) Try.underlying35 sz9 rfl rfl (fun w hw => As.at_ (hw.get (i := 5) rfl))) (fun x129 ex129 h => ?_)
                  refine L.storeSlM (q := 5) (row := SR) (vs := [st s128]) (j := 0) (u1 := s128) h sz9 rfl rfl rfl rfl rfl (all1 rfl all0) rfl ex129 rfl rfl ?_
                  intro l130 el130 h
                  refine L.nil (E.thenN (W.seq (W.region (L.y rfl (Y.move rfl) ?_))))
                  refine L.y rfl (Y.move rfl) ?_
                  refine L.y rfl (Y.nilCheck rfl) ?_
                  refine L.y rfl (Y.fieldP fd167_2 rfl) ?_
                  refine L.y rfl (Y.loadP (i := 2) ag165 rfl rfl rfl) ?_
                  refine L.y rfl (Y.move rfl) ?_
                  refine L.y rfl (Y.move rfl) ?_
                  refine L.y rfl (Y.build (cells := #[.int .i64 x14.N, st s128]) rfl (by kernel_rfl)) ?_
                  refine L.litAgg rfl Try.underlying165 el312 rfl rfl rfl ?_
                  intro b131
                  refine L.appM (i := 7) (g := Twrite.row) (l := gl33) (more := [(⟨x14.N, s128⟩ : Twrite)]) h rfl Try.underlying165 el312 rfl rfl rfl (fun w hw => As.at_ (hw.get (i := 0) rfl)) (plain_Twrite _) rfl ?_
                  intro v132 l133 el133 h
                  refine L.y rfl (Y.nilCheck rfl) ?_
                  refine L.y rfl (Y.fieldP fd167_2 rfl) ?_
                  refine L.storeV (i := 4) sz165 rfl rfl (fun _ hw => (As.at_ (hw.get (i := 0) rfl)).one) rfl (Nat.le_of_ble_eq_true rfl) ?_
                  refine L.nil (E.thenN (W.seq (W.region (L.y rfl (Y.assign rfl) ?_))))
                  refine L.nil (E.thenN (W.ret (E.ret1 rfl rfl (fun w1 hw => ?_))))
                  exact ⟨_, _, rfl, ⟨0, l130, v132, l133, gx202, rfl, rfl, h⟩, hw.sel [2, 3, 4, 5, 6, 7, 0, 8, 9, 10, 11] (by decide) rfl⟩
              ·
               rintro _ _ ⟨gx186, gl187, gv188, gl189, gx190, rfl, rfl, h⟩
               rw [m3_quirlaw_SectPlays_K36] at h
               refine L.nil (E.toV2 (stC [[11]] [Cls w [] [.obj b17 [.int .i64 x14.Kind, .int .i64 x14.N, st x14.Text, gv (q1 gx29.toNat) 0] 32, .obj b15 [.int .i64 x14.Kind, .int .i64 x14.N, st x14.Text, gv (q1 gx29.toNat) 0] 32, .obj gb7 [gv35, gv37, gv39, gv41, .int .i64 gx43] 38, .sl gv2 9 1 (gl30.map SR), .sl gv188 312 2 (gl189.map Twrite.row), .sl gv35 9 1 (gl36.map SR), .sl gv37 9 1 (gl38.map SR), .sl gv39 3 1 (gl40.map I), .sl gv41 9 1 (gl42.map SR)]] (Cls w [] [.obj b17 [.int .i64 x14.Kind, .int .i64 x14.N, st x14.Text, gv (q1 gx29.toNat) 0] 32, .obj b15 [.int .i64 x14.Kind, .int .i64 x14.N, st x14.Text, gv (q1 gx29.toNat) 0] 32, .sl gv2 9 1 (gl30.map SR), .sl gv188 312 2 (gl189.map Twrite.row), .sl gv37 9 1 (gl38.map SR)])) 5 (by kernel_rfl) (Sc.past rfl (Sc.stay (fun _ hw => hw.sel [0, 1, 2, 3, 5, 6, 7, 8] (by decide) rfl) (Sc.stayD (fun _ hw => hw.sel [0, 1, 2, 4] (by decide) rfl)))) (Sc.now (by kernel_rfl) (fun _ hw => hw.sel [0, 1, 3, 4, 6, 7, 8, 9, 10] (by decide) rfl)) ?_)
               refine V2.eff (i := 11) (by kernel_rfl) rfl ?_
               refine L.callJ (fun v D => ∃ (gx191 : Int) (gl192 : (List (List UInt8))) (gv193 : Value) (gl194 : (List Int)) (gv195 : Value) (gl196 : (List (List UInt8))) (gx197 : Int), v = .int .i64 gx191 ∧ D = Cls w [] [.obj b17 [.int .i64 x14.Kind, .int .i64 x14.N, st x14.Text, gv (q1 gx29.toNat) 0] 32, .obj b15 [.int .i64 x14.Kind, .int .i64 x14.N, st x14.Text, gv (q1 gx29.toNat) 0] 32, .obj gb1 [gv2, gv4, gv188, .int .i64 gx190] 167, .obj gb7 [gv35, gv37, gv193, gv195, .int .i64 gx197] 38, .sl gv2 9 1 (gl30.map SR), .sl gv4 9 1 (gl187.map SR), .sl gv188 312 2 (gl189.map Twrite.row), .sl gv35 9 1 (gl192.map SR), .sl gv37 9 1 (gl38.map SR), .sl gv193 3 1 (gl194.map I), .sl gv195 9 1 (gl196.map SR)] ∧ m3_quirlaw_SectPlays_K37 gx29 go2 gx186 gl30 gl187 gl189 gx190 gl38 gx191 gl192 gl194 gl196 gx197 = some r) rfl en100 rfl Try.func100 rfl rfl rfl ?_ ?_
               ·
                refine W.seq (W.region (L.y rfl (Y.assign rfl) ?_))
                refine L.nil (E.thenN (W.seqJ (fun gs D => gs = [(0, pt gb7 0), (1, .int .i64 x14.N), (2, st x14.Text)] ∧ D = Cls w [] [.obj b17 [.int .i64 x14.Kind, .int .i64 x14.N, st x14.Text, gv (q1 gx29.toNat) 0] 32, .obj b15 [.int .i64 x14.Kind, .int .i64 x14.N, st x14.Text, gv (q1 gx29.toNat) 0] 32, .obj gb1 [gv2, gv4, gv188, .int .i64 gx190] 167, .obj gb7 [gv35, gv37, gv39, gv41, .int .i64 gx43] 38, .sl gv2 9 1 (gl30.map SR), .sl gv4 9 1 (gl187.map SR), .sl gv188 312 2 (gl189.map Twrite.row), .sl gv35 9 1 (gl36.map SR), .sl gv37 9 1 (gl38.map SR), .sl gv39 3 1 (gl40.map I), .sl gv41 9 1 (gl42.map SR)] ∧ m3_quirlaw_SectPlays_K38 x14 gx29 go2 gx186 gl30 gl187 gl189 gx190 gl38 gl36 gl40 gl42 gx43 = some r) ?_ ?_))
                ·
                 refine W.seq (W.region (L.y rfl (Y.move rfl) ?_))
                 refine L.ite h rfl (Y.lss rfl rfl) (fun c123 h => ?_) (fun c123 h => ?_)
                 ·
                  refine L.y rfl (Y.move rfl) ?_
                  refine L.pass rfl rfl (by nofun) ?_
                  refine L.pass rfl rfl (by nofun) ?_
                  refine L.pass rfl rfl (by nofun) ?_
                  refine L.pass rfl rfl (by nofun) ?_
                  refine L.pass rfl rfl (by nofun) ?_
                  refine L.pass rfl rfl (by nofun) ?_
                  refine L.pass rfl rfl (by nofun) ?_
                  refine L.y rfl (Y.pickT rfl rfl) ?_
                  refine L.nil (E.thenN (W.condT rfl ?_))
                  refine W.seq (W.region (L.y rfl (Y.assign rfl) ?_))
                  refine L.nil (E.thenN (W.ret (E.KSR (E.ret1 rfl rfl (fun w1 hw => ?_)))))
                  exact ⟨_, _, rfl, ⟨1, gl36, gv39, gl40, gv41, gl42, gx43, rfl, rfl, h⟩, hw⟩
                 ·
                  refine L.y rfl (Y.move rfl) ?_
                  refine L.take rfl (L.y rfl (Y.move rfl) ?_)
                  refine L.take rfl (L.y rfl (Y.move rfl) ?_)
                  refine L.take rfl (L.y rfl (Y.nilCheck rfl) ?_)
                  refine L.take rfl (L.y rfl (Y.fieldP fd38_0 rfl) ?_)
                  refine L.take rfl (L.y rfl (Y.loadP (i := 3) ag35 rfl rfl rfl) ?_)
                  refine L.take rfl (L.y rfl (Y.lenM (g := SR) (l := gl36) Try.underlying35 rfl (fun w hw => As.at_ (hw.get (i := 7) rfl))) ?_)
                  refine L.take rfl (L.ite h rfl (Y.geq rfl rfl) (fun c124 h => ?_) (fun c124 h => ?_))
                  ·
                   refine L.y rfl (Y.pickF rfl rfl) ?_
                   refine L.nil (E.thenN (W.condT rfl ?_))
                   refine W.seq (W.region (L.y rfl (Y.assign rfl) ?_))
                   refine L.nil (E.thenN (W.ret (E.KSR (E.ret1 rfl rfl (fun w1 hw => ?_)))))
                   exact ⟨_, _, rfl, ⟨1, gl36, gv39, gl40, gv41, gl42, gx43, rfl, rfl, h⟩, hw⟩
                  ·
                   refine L.y rfl (Y.pickF rfl rfl) ?_
                   refine L.nil (E.thenN (W.condF rfl ?_))
                   exact W.skip (E.joinJ ⟨rfl, rfl, h⟩ ⟨rfl, rfl, rfl, trivial⟩ (fun _ hw => hw))
                ·
                 rintro _ _ ⟨rfl, rfl, h⟩
                 rw [m3_quirlaw_SectPlays_K38] at h
                 refine W.seqJ (fun gs D => gs = [(0, pt gb7 0), (1, .int .i64 x14.N), (2, st x14.Text)] ∧ D = Cls w [] [.obj b17 [.int .i64 x14.Kind, .int .i64 x14.N, st x14.Text, gv (q1 gx29.toNat) 0] 32, .obj b15 [.int .i64 x14.Kind, .int .i64 x14.N, st x14.Text, gv (q1 gx29.toNat) 0] 32, .obj gb1 [gv2, gv4, gv188, .int .i64 gx190] 167, .obj gb7 [gv35, gv37, gv39, gv41, .int .i64 gx43] 38, .sl gv2 9 1 (gl30.map SR), .sl gv4 9 1 (gl187.map SR), .sl gv188 312 2 (gl189.map Twrite.row), .sl gv35 9 1 (gl36.map SR), .sl gv37 9 1 (gl38.map SR), .sl gv39 3 1 (gl40.map I), .sl gv41 9 1 (gl42.map SR)] ∧ m3_quirlaw_SectPlays_K39 gx43 gx29 go2 gx186 gl30 gl187 gl189 gx190 gl38 gl36 gl40 gl42 x14 = some r) ?_ ?_
                 ·
                  refine W.seq (W.region (L.y rfl (Y.move rfl) ?_))
                  refine L.y rfl (Y.lenS Try.underlying9 rfl) ?_
                  refine L.ite h rfl (Y.gtr rfl rfl) (fun c122 h => ?_) (fun c122 h => ?_)
                  ·
                   refine L.nil (E.thenN (W.condT rfl ?_))
                   refine W.seq (W.region (L.y rfl (Y.assign rfl) ?_))
                   refine L.nil (E.thenN (W.ret (E.KSR (E.ret1 rfl rfl (fun w1 hw => ?_)))))
                   exact ⟨_, _, rfl, ⟨2, gl36, gv39, gl40, gv41, gl42, gx43, rfl, rfl, h⟩, hw⟩
                  ·
                   refine L.nil (E.thenN (W.condF rfl ?_))
                   exact W.skip (E.joinJ ⟨rfl, rfl, h⟩ ⟨rfl, rfl, rfl, trivial⟩ (fun _ hw => hw))
                 ·
                  rintro _ _ ⟨rfl, rfl, h⟩
                  rw [m3_quirlaw_SectPlays_K39] at h
                  refine W.seqJ (fun gs D => gs = [(0, pt gb7 0), (1, .int .i64 x14.N), (2, st x14.Text)] ∧ D = Cls w [] [.obj b17 [.int .i64 x14.Kind, .int .i64 x14.N, st x14.Text, gv (q1 gx29.toNat) 0] 32, .obj b15 [.int .i64 x14.Kind, .int .i64 x14.N, st x14.Text, gv (q1 gx29.toNat) 0] 32, .obj gb1 [gv2, gv4, gv188, .int .i64 gx190] 167, .obj gb7 [gv35, gv37, gv39, gv41, .int .i64 gx43] 38, .sl gv2 9 1 (gl30.map SR), .sl gv4 9 1 (gl187.map SR), .sl gv188 312 2 (gl189.map Twrite.row), .sl gv35 9 1 (gl36.map SR), .sl gv37 9 1 (gl38.map SR), .sl gv39 3 1 (gl40.map I), .sl gv41 9 1 (gl42.map SR)] ∧ m3_quirlaw_SectPlays_K40 gx43 x14 gl36 gl40 gl42 gx29 go2 gx186 gl30 gl187 gl189 gx190 gl38 = some r) ?_ ?_
                  ·
                   refine W.seq (W.region (L.y rfl (Y.move rfl) ?_))
                   refine L.y rfl (Y.nilCheck rfl) ?_
                   refine L.y rfl (Y.fieldP fd38_4 rfl) ?_
                   refine L.y rfl (Y.loadP (i := 3) ag3 rfl rfl rfl) ?_
                   refine L.ite h rfl (Y.eql rfl rfl) (fun c121 h => ?_) (fun c121 h => ?_)
                   ·
                    refine L.nil (E.thenN (W.condT rfl ?_))
                    refine W.seq (W.region (L.y rfl (Y.assign rfl) ?_))
                    refine L.nil (E.thenN (W.ret (E.KSR (E.ret1 rfl rfl (fun w1 hw => ?_)))))
                    exact ⟨_, _, rfl, ⟨13, gl36, gv39, gl40, gv41, gl42, gx43, rfl, rfl, h⟩, hw⟩
                   ·
                    refine L.nil (E.thenN (W.condF rfl ?_))
                    exact W.skip (E.joinJ ⟨rfl, rfl, h⟩ ⟨rfl, rfl, rfl, trivial⟩ (fun _ hw => hw))
                  ·
                   rintro _ _ ⟨rfl, rfl, h⟩
                   rw [m3_quirlaw_SectPlays_K40] at h
                   refine W.seq (W.drawn2 (k := 15) (stC [[14]] [Cls w [] [.obj b17 [.int .i64 x14.Kind, .int .i64 x14.N, st x14.Text, gv (q1 gx29.toNat) 0] 32, .obj b15 [.int .i64 x14.Kind, .int .i64 x14.N, st x14.Text, gv (q1 gx29.toNat) 0] 32, .obj gb1 [gv2, gv4, gv188, .int .i64 gx190] 167, .obj gb7 [gv35, gv37, gv39, gv41, .int .i64 gx43] 38, .sl gv2 9 1 (gl30.map SR), .sl gv4 9 1 (gl187.map SR), .sl gv188 312 2 (gl189.map Twrite.row), .sl gv35 9 1 (gl36.map SR), .sl gv37 9 1 (gl38.map SR), .sl gv39 3 1 (gl40.map I), .sl gv41 9 1 (gl42.map SR)]] (Cls w [] [.obj b17 [.int .i64 x14.Kind, .int .i64 x14.N, st x14.Text, gv (q1 gx29.toNat) 0] 32, .obj b15 [.int .i64 x14.Kind, .int .i64 x14.N, st x14.Text, gv (q1 gx29.toNat) 0] 32, .obj gb1 [gv2, gv4, gv188, .int .i64 gx190] 167, .sl gv2 9 1 (gl30.map SR), .sl gv4 9 1 (gl187.map SR), .sl gv188 312 2 (gl189.map Twrite.row), .sl gv35 9 1 (gl36.map SR), .sl gv37 9 1 (gl38.map SR), .sl gv39 3 1 (gl40.map I), .sl gv41 9 1 (gl42.map SR)])) rfl mixed (fun _ hw => hw.drew) (Sc.now (by kernel_rfl) (fun _ hw => hw)) ?_)
                   refine V2.y (i := 0) (Nx2.of (Z := Cls w [] [.obj b17 [.int .i64 x14.Kind, .int .i64 x14.N, st x14.Text, gv (q1 gx29.toNat) 0] 32, .obj b15 [.int .i64 x14.Kind, .int .i64 x14.N, st x14.Text, gv (q1 gx29.toNat) 0] 32, .obj gb1 [gv2, gv4, gv188, .int .i64 gx190] 167, .sl gv2 9 1 (gl30.map SR), .sl gv4 9 1 (gl187.map SR), .sl gv188 312 2 (gl189.map Twrite.row), .sl gv35 9 1 (gl36.map SR), .sl gv37 9 1 (gl38.map SR), .sl gv39 3 1 (gl40.map I), .sl gv41 9 1 (gl42.map SR)]) [] (by kernel_rfl) rfl (Zc.on (fun _ hw => hw.sel [0, 1, 2, 4, 5, 6, 7, 8, 9, 10] (by decide) rfl) (Zc.fin (fun _ hw => hw)))) rfl rfl rfl (Y.move rfl) ?_
                   refine V2.y (i := 1) (Nx2.of (Z := Cls w [] [.obj b17 [.int .i64 x14.Kind, .int .i64 x14.N, st x14.Text, gv (q1 gx29.toNat) 0] 32, .obj b15 [.int .i64 x14.Kind, .int .i64 x14.N, st x14.Text, gv (q1 gx29.toNat) 0] 32, .obj gb1 [gv2, gv4, gv188, .int .i64 gx190] 167, .sl gv2 9 1 (gl30.map SR), .sl gv4 9 1 (gl187.map SR), .sl gv188 312 2 (gl189.map Twrite.row), .sl gv35 9 1 (gl36.map SR), .sl gv37 9 1 (gl38.map SR), .sl gv39 3 1 (gl40.map I), .sl gv41 9 1 (gl42.map SR)]) [] (by kernel_rfl) rfl (Zc.on (fun _ hw => hw.sel [0, 1, 2, 4, 5, 6, 7, 8, 9, 10] (by decide) rfl) (Zc.fin (fun _ hw => hw)))) rfl rfl rfl (Y.move rfl) ?_
                   refine V2.nilc (i := 2) (Nx2.of (Z := Cls w [] [.obj b17 [.int .i64 x14.Kind, .int .i64 x14.N, st x14.Text, gv (q1 gx29.toNat) 0] 32, .obj b15 [.int .i64 x14.Kind, .int .i64 x14.N, st x14.Text, gv (q1 gx29.toNat) 0] 32, .obj gb1 [gv2, gv4, gv188, .int .i64 gx190] 167, .sl gv2 9 1 (gl30.map SR), .sl gv4 9 1 (gl187.map SR), .sl gv188 312 2 (gl189.map Twrite.row), .sl gv35 9 1 (gl36.map SR), .sl gv37 9 1 (gl38.map SR), .sl gv39 3 1 (gl40.map I), .sl gv41 9 1 (gl42.map SR)]) [] (by kernel_rfl) rfl (Zc.on (fun _ hw => hw.sel [0, 1, 2, 4, 5, 6, 7, 8, 9, 10] (by decide) rfl) (Zc.fin (fun _ hw => hw)))) rfl rfl rfl ?_
                   refine V2.y (i := 3) (Nx2.of (Z := Cls w [] [.obj b17 [.int .i64 x14.Kind, .int .i64 x14.N, st x14.Text, gv (q1 gx29.toNat) 0] 32, .obj b15 [.int .i64 x14.Kind, .int .i64 x14.N, st x14.Text, gv (q1 gx29.toNat) 0] 32, .obj gb1 [gv2, gv4, gv188, .int .i64 gx190] 167, .sl gv2 9 1 (gl30.map SR), .sl gv4 9 1 (gl187.map SR), .sl gv188 312 2 (gl189.map Twrite.row), .sl gv35 9 1 (gl36.map SR), .sl gv37 9 1 (gl38.map SR), .sl gv39 3 1 (gl40.map I), .sl gv41 9 1 (gl42.map SR)]) [] (by kernel_rfl) rfl (Zc.on (fun _ hw => hw.sel [0, 1, 2, 4, 5, 6, 7, 8, 9, 10] (by decide) rfl) (Zc.fin (fun _ hw => hw)))) rfl rfl rfl (Y.fieldP fd38_4 rfl) ?_
                   refine V2.y (i := 4) (Nx2.of (Z := Cls w [] [.obj b17 [.int .i64 x14.Kind, .int .i64 x14.N, st x14.Text, gv (q1 gx29.toNat) 0] 32, .obj b15 [.int .i64 x14.Kind, .int .i64 x14.N, st x14.Text, gv (q1 gx29.toNat) 0] 32, .obj gb1 [gv2, gv4, gv188, .int .i64 gx190] 167, .obj gb7 [gv35, gv37, gv39, gv41, .int .i64 gx43] 38, .sl gv2 9 1 (gl30.map SR), .sl gv4 9 1 (gl187.map SR), .sl gv188 312 2 (gl189.map Twrite.row), .sl gv35 9 1 (gl36.map SR), .sl gv37 9 1 (gl38.map SR), .sl gv39 3 1 (gl40.map I), .sl gv41 9 1 (gl42.map SR)]) [14] (by kernel_rfl) rfl (Zc.at1 (fun _ hw => hw))) rfl rfl rfl (Y.loadP (i := 3) ag3 rfl rfl rfl) ?_
                   refine V2.m (i := 5) (V' := fun x72 => .int .i64 x72) h (Nx2.of (Z := Cls w [] [.obj b17 [.int .i64 x14.Kind, .int .i64 x14.N, st x14.Text, gv (q1 gx29.toNat) 0] 32, .obj b15 [.int .i64 x14.Kind, .int .i64 x14.N, st x14.Text, gv (q1 gx29.toNat) 0] 32, .obj gb1 [gv2, gv4, gv188, .int .i64 gx190] 167, .sl gv2 9 1 (gl30.map SR), .sl gv4 9 1 (gl187.map SR), .sl gv188 312 2 (gl189.map Twrite.row), .sl gv35 9 1 (gl36.map SR), .sl gv37 9 1 (gl38.map SR), .sl gv39 3 1 (gl40.map I), .sl gv41 9 1 (gl42.map SR)]) [] (by kernel_rfl) rfl (Zc.on (fun _ hw => hw.sel [0, 1, 2, 4, 5, 6, 7, 8, 9, 10] (by decide) rfl) (Zc.fin (fun _ hw => hw)))) rfl rfl rfl (Y.subM rfl rfl) (fun x72 ex72 h => ?_)
                   refine V2.y (i := 6) (Nx2.of (Z := Cls w [] [.obj b17 [.int .i64 x14.Kind, .int .i64 x14.N, st x14.Text, gv (q1 gx29.toNat) 0] 32, .obj b15 [.int .i64 x14.Kind, .int .i64 x14.N, st x14.Text, gv (q1 gx29.toNat) 0] 32, .obj gb1 [gv2, gv4, gv188, .int .i64 gx190] 167, .sl gv2 9 1 (gl30.map SR), .sl gv4 9 1 (gl187.map SR), .sl gv188 312 2 (gl189.map Twrite.row), .sl gv35 9 1 (gl36.map SR), .sl gv37 9 1 (gl38.map SR), .sl gv39 3 1 (gl40.map I), .sl gv41 9 1 (gl42.map SR)]) [] (by kernel_rfl) rfl (Zc.on (fun _ hw => hw.sel [0, 1, 2, 4, 5, 6, 7, 8, 9, 10] (by decide) rfl) (Zc.fin (fun _ hw => hw)))) rfl rfl rfl (Y.move rfl) ?_
                   refine V2.nilc (i := 7) (Nx2.of (Z := Cls w [] [.obj b17 [.int .i64 x14.Kind, .int .i64 x14.N, st x14.Text, gv (q1 gx29.toNat) 0] 32, .obj b15 [.int .i64 x14.Kind, .int .i64 x14.N, st x14.Text, gv (q1 gx29.toNat) 0] 32, .obj gb1 [gv2, gv4, gv188, .int .i64 gx190] 167, .sl gv2 9 1 (gl30.map SR), .sl gv4 9 1 (gl187.map SR), .sl gv188 312 2 (gl189.map Twrite.row), .sl gv35 9 1 (gl36.map SR), .sl gv37 9 1 (gl38.map SR), .sl gv39 3 1 (gl40.map I), .sl gv41 9 1 (gl42.map SR)]) [] (by kernel_rfl) rfl (Zc.on (fun _ hw => hw.sel [0, 1, 2, 4, 5, 6, 7, 8, 9, 10] (by decide) rfl) (Zc.fin (fun _ hw => hw)))) rfl rfl rfl ?_
                   refine V2.y (i := 8) (Nx2.of (Z := Cls w [] [.obj b17 [.int .i64 x14.Kind, .int .i64 x14.N, st x14.Text, gv (q1 gx29.toNat) 0] 32, .obj b15 [.int .i64 x14.Kind, .int .i64 x14.N, st x14.Text, gv (q1 gx29.toNat) 0] 32, .obj gb1 [gv2, gv4, gv188, .int .i64 gx190] 167, .sl gv2 9 1 (gl30.map SR), .sl gv4 9 1 (gl187.map SR), .sl gv188 312 2 (gl189.map Twrite.row), .sl gv35 9 1 (gl36.map SR), .sl gv37 9 1 (gl38.map SR), .sl gv39 3 1 (gl40.map I), .sl gv41 9 1 (gl42.map SR)]) [] (by kernel_rfl) rfl (Zc.on (fun _ hw => hw.sel [0, 1, 2, 4, 5, 6, 7, 8, 9, 10] (by decide) rfl) (Zc.fin (fun _ hw => hw)))) rfl rfl rfl (Y.fieldP fd38_4 rfl) ?_
                   refine V2.y (i := 9) (Nx2.of (Z := Cls w [] [.obj b17 [.int .i64 x14.Kind, .int .i64 x14.N, st x14.Text, gv (q1 gx29.toNat) 0] 32, .obj b15 [.int .i64 x14.Kind, .int .i64 x14.N, st x14.Text, gv (q1 gx29.toNat) 0] 32, .obj gb1 [gv2, gv4, gv188, .int .i64 gx190] 167, .obj gb7 [gv35, gv37, gv39, gv41, .int .i64 gx43] 38, .sl gv2 9 1 (gl30.map SR), .sl gv4 9 1 (gl187.map SR), .sl gv188 312 2 (gl189.map Twrite.row), .sl gv35 9 1 (gl36.map SR), .sl gv37 9 1 (gl38.map SR), .sl gv39 3 1 (gl40.map I), .sl gv41 9 1 (gl42.map SR)]) [14] (by kernel_rfl) rfl (Zc.at1 (fun _ hw => hw))) rfl rfl rfl (Y.loadP (i := 3) ag3 rfl rfl rfl) ?_
                   refine V2.y (i := 10) (Nx2.of (Z := Cls w [] [.obj b17 [.int .i64 x14.Kind, .int .i64 x14.N, st x14.Text, gv (q1 gx29.toNat) 0] 32, .obj b15 [.int .i64 x14.Kind, .int .i64 x14.N, st x14.Text, gv (q1 gx29.toNat) 0] 32, .obj gb1 [gv2, gv4, gv188, .int .i64 gx190] 167, .sl gv2 9 1 (gl30.map SR), .sl gv4 9 1 (gl187.map SR), .sl gv188 312 2 (gl189.map Twrite.row), .sl gv35 9 1 (gl36.map SR), .sl gv37 9 1 (gl38.map SR), .sl gv39 3 1 (gl40.map I), .sl gv41 9 1 (gl42.map SR)]) [] (by kernel_rfl) rfl (Zc.on (fun _ hw => hw.sel [0, 1, 2, 4, 5, 6, 7, 8, 9, 10] (by decide) rfl) (Zc.fin (fun _ hw => hw)))) rfl rfl rfl (Y.min2 rfl rfl) ?_
                   refine V2.y (i := 11) (Nx2.of (Z := Cls w [] [.obj b17 [.int .i64 x14.Kind, .int .i64 x14.N, st x14.Text, gv (q1 gx29.toNat) 0] 32, .obj b15 [.int .i64 x14.Kind, .int .i64 x14.N, st x14.Text, gv (q1 gx29.toNat) 0] 32, .obj gb1 [gv2, gv4, gv188, .int .i64 gx190] 167, .sl gv2 9 1 (gl30.map SR), .sl gv4 9 1 (gl187.map SR), .sl gv188 312 2 (gl189.map Twrite.row), .sl gv35 9 1 (gl36.map SR), .sl gv37 9 1 (gl38.map SR), .sl gv39 3 1 (gl40.map I), .sl gv41 9 1 (gl42.map SR)]) [] (by kernel_rfl) rfl (Zc.on (fun _ hw => hw.sel [0, 1, 2, 4, 5, 6, 7, 8, 9, 10] (by decide) rfl) (Zc.fin (fun _ hw => hw)))) rfl rfl rfl (Y.max2 rfl rfl) ?_
                   refine V2.nilc (i := 12) (Nx2.of (Z := Cls w [] [.obj b17 [.int .i64 x14.Kind, .int .i64 x14.N, st x14.Text, gv (q1 gx29.toNat) 0] 32, .obj b15 [.int .i64 x14.Kind, .int .i64 x14.N, st x14.Text, gv (q1 gx29.toNat) 0] 32, .obj gb1 [gv2, gv4, gv188, .int .i64 gx190] 167, .sl gv2 9 1 (gl30.map SR), .sl gv4 9 1 (gl187.map SR), .sl gv188 312 2 (gl189.map Twrite.row), .sl gv35 9 1 (gl36.map SR), .sl gv37 9 1 (gl38.map SR), .sl gv39 3 1 (gl40.map I), .sl gv41 9 1 (gl42.map SR)]) [] (by kernel_rfl) rfl (Zc.on (fun _ hw => hw.sel [0, 1, 2, 4, 5, 6, 7, 8, 9, 10] (by decide) rfl) (Zc.fin (fun _ hw => hw)))) rfl rfl rfl ?_
                   refine V2.y (i := 13) (Nx2.of (Z := Cls w [] [.obj b17 [.int .i64 x14.Kind, .int .i64 x14.N, st x14.Text, gv (q1 gx29.toNat) 0] 32, .obj b15 [.int .i64 x14.Kind, .int .i64 x14.N, st x14.Text, gv (q1 gx29.toNat) 0] 32, .obj gb1 [gv2, gv4, gv188, .int .i64 gx190] 167, .sl gv2 9 1 (gl30.map SR), .sl gv4 9 1 (gl187.map SR), .sl gv188 312 2 (gl189.map Twrite.row), .sl gv35 9 1 (gl36.map SR), .sl gv37 9 1 (gl38.map SR), .sl gv39 3 1 (gl40.map I), .sl gv41 9 1 (gl42.map SR)]) [] (by kernel_rfl) rfl (Zc.on (fun _ hw => hw.sel [0, 1, 2, 4, 5, 6, 7, 8, 9, 10] (by decide) rfl) (Zc.fin (fun _ hw => hw)))) rfl rfl rfl (Y.fieldP fd38_4 rfl) ?_
                   refine V2.eff (i := 14) (by kernel_rfl) rfl ?_
                   refine L.store (i := 3) sz3 rfl rfl rfl rfl (by simp [Value.oneCell', Value.cells, st]) rfl (Nat.le_of_ble_eq_true rfl) ?_
                   refine L.nil (E.toV2 (stC [] [] (Cls w [] [.obj b17 [.int .i64 x14.Kind, .int .i64 x14.N, st x14.Text, gv (q1 gx29.toNat) 0] 32, .obj b15 [.int .i64 x14.Kind, .int .i64 x14.N, st x14.Text, gv (q1 gx29.toNat) 0] 32, .obj gb1 [gv2, gv4, gv188, .int .i64 gx190] 167, .sl gv2 9 1 (gl30.map SR), .sl gv4 9 1 (gl187.map SR), .sl gv188 312 2 (gl189.map Twrite.row), .sl gv35 9 1 (gl36.map SR), .sl gv37 9 1 (gl38.map SR), .sl gv39 3 1 (gl40.map I), .sl gv41 9 1 (gl42.map SR)])) 14 (by kernel_rfl) (Sc.past rfl (Sc.stayD (fun _ hw => hw))) (Sc.atD (fun _ hw => hw.sel [0, 1, 2, 4, 5, 6, 7, 8, 9, 10] (by decide) rfl)) ?_)
                   refine V2.done (by kernel_rfl) ?_
                   refine E.thenN (W.seq (W.drawn2 (k := 13) (stC [[12]] [Cls w [] [.obj b17 [.int .i64 x14.Kind, .int .i64 x14.N, st x14.Text, gv (q1 gx29.toNat) 0] 32, .obj b15 [.int .i64 x14.Kind, .int .i64 x14.N, st x14.Text, gv (q1 gx29.toNat) 0] 32, .obj gb1 [gv2, gv4, gv188, .int .i64 gx190] 167, .obj gb7 [gv35, gv37, gv39, gv41, .int .i64 (max x72 (min gx43 (-1)))] 38, .sl gv2 9 1 (gl30.map SR), .sl gv4 9 1 (gl187.map SR), .sl gv188 312 2 (gl189.map Twrite.row), .sl gv35 9 1 (gl36.map SR), .sl gv37 9 1 (gl38.map SR), .sl gv39 3 1 (gl40.map I), .sl gv41 9 1 (gl42.map SR)]] (Cls w [] [.obj b17 [.int .i64 x14.Kind, .int .i64 x14.N, st x14.Text, gv (q1 gx29.toNat) 0] 32, .obj b15 [.int .i64 x14.Kind, .int .i64 x14.N, st x14.Text, gv (q1 gx29.toNat) 0] 32, .obj gb1 [gv2, gv4, gv188, .int .i64 gx190] 167, .obj gb7 [gv35, gv37, gv39, gv41, .int .i64 (max x72 (min gx43 (-1)))] 38, .sl gv2 9 1 (gl30.map SR), .sl gv4 9 1 (gl187.map SR), .sl gv188 312 2 (gl189.map Twrite.row), .sl gv37 9 1 (gl38.map SR), .sl gv39 3 1 (gl40.map I), .sl gv41 9 1 (gl42.map SR)])) rfl mixed (fun _ hw => hw.drew) (Sc.now (by kernel_rfl) (fun _ hw => hw)) ?_))
                   refine V2.y (i := 0) (Nx2.of (Z := Cls w [] [.obj b17 [.int .i64 x14.Kind, .int .i64 x14.N, st x14.Text, gv (q1 gx29.toNat) 0] 32, .obj b15 [.int .i64 x14.Kind, .int .i64 x14.N, st x14.Text, gv (q1 gx29.toNat) 0] 32, .obj gb1 [gv2, gv4, gv188, .int .i64 gx190] 167, .obj gb7 [gv35, gv37, gv39, gv41, .int .i64 (max x72 (min gx43 (-1)))] 38, .sl gv2 9 1 (gl30.map SR), .sl gv4 9 1 (gl187.map SR), .sl gv188 312 2 (gl189.map Twrite.row), .sl gv37 9 1 (gl38.map SR), .sl gv39 3 1 (gl40.map I), .sl gv41 9 1 (gl42.map SR)]) [] (by kernel_rfl) rfl (Zc.on (fun _ hw => hw.sel [0, 1, 2, 3, 4, 5, 6, 8, 9, 10] (by decide) rfl) (Zc.fin (fun _ hw => hw)))) rfl rfl rfl (Y.move rfl) ?_
                   refine V2.nilc (i := 1) (Nx2.of (Z := Cls w [] [.obj b17 [.int .i64 x14.Kind, .int .i64 x14.N, st x14.Text, gv (q1 gx29.toNat) 0] 32, .obj b15 [.int .i64 x14.Kind, .int .i64 x14.N, st x14.Text, gv (q1 gx29.toNat) 0] 32, .obj gb1 [gv2, gv4, gv188, .int .i64 gx190] 167, .obj gb7 [gv35, gv37, gv39, gv41, .int .i64 (max x72 (min gx43 (-1)))] 38, .sl gv2 9 1 (gl30.map SR), .sl gv4 9 1 (gl187.map SR), .sl gv188 312 2 (gl189.map Twrite.row), .sl gv37 9 1 (gl38.map SR), .sl gv39 3 1 (gl40.map I), .sl gv41 9 1 (gl42.map SR)]) [] (by kernel_rfl) rfl (Zc.on (fun _ hw => hw.sel [0, 1, 2, 3, 4, 5, 6, 8, 9, 10] (by decide) rfl) (Zc.fin (fun _ hw => hw)))) rfl rfl rfl ?_
                   refine V2.y (i := 2) (Nx2.of (Z := Cls w [] [.obj b17 [.int .i64 x14.Kind, .int .i64 x14.N, st x14.Text, gv (q1 gx29.toNat) 0] 32, .obj b15 [.int .i64 x14.Kind, .int .i64 x14.N, st x14.Text, gv (q1 gx29.toNat) 0] 32, .obj gb1 [gv2, gv4, gv188, .int .i64 gx190] 167, .obj gb7 [gv35, gv37, gv39, gv41, .int .i64 (max x72 (min gx43 (-1)))] 38, .sl gv2 9 1 (gl30.map SR), .sl gv4 9 1 (gl187.map SR), .sl gv188 312 2 (gl189.map Twrite.row), .sl gv37 9 1 (gl38.map SR), .sl gv39 3 1 (gl40.map I), .sl gv41 9 1 (gl42.map SR)]) [] (by kernel_rfl) rfl (Zc.on (fun _ hw => hw.sel [0, 1, 2, 3, 4, 5, 6, 8, 9, 10] (by decide) rfl) (Zc.fin (fun _ hw => hw)))) rfl rfl rfl (Y.fieldP fd38_0 rfl) ?_
                   refine V2.y (i := 3) (Nx2.of (Z := Cls w [] [.obj b17 [.int .i64 x14.Kind, .int .i64 x14.N, st x14.Text, gv (q1 gx29.toNat) 0] 32, .obj b15 [.int .i64 x14.Kind, .int .i64 x14.N, st x14.Text, gv (q1 gx29.toNat) 0] 32, .obj gb1 [gv2, gv4, gv188, .int .i64 gx190] 167, .obj gb7 [gv35, gv37, gv39, gv41, .int .i64 (max x72 (min gx43 (-1)))] 38, .sl gv2 9 1 (gl30.map SR), .sl gv4 9 1 (gl187.map SR), .sl gv188 312 2 (gl189.map Twrite.row), .sl gv37 9 1 (gl38.map SR), .sl gv39 3 1 (gl40.map I), .sl gv41 9 1 (gl42.map SR)]) [] (by kernel_rfl) rfl (Zc.on (fun _ hw => hw.sel [0, 1, 2, 3, 4, 5, 6, 8, 9, 10] (by decide) rfl) (Zc.fin (fun _ hw => hw)))) rfl rfl rfl (Y.loadP (i := 3) ag35 rfl rfl rfl) ?_
                   refine V2.y (i := 4) (Nx2.of (Z := Cls w [] [.obj b17 [.int .i64 x14.Kind, .int .i64 x14.N, st x14.Text, gv (q1 gx29.toNat) 0] 32, .obj b15 [.int .i64 x14.Kind, .int .i64 x14.N, st x14.Text, gv (q1 gx29.toNat) 0] 32, .obj gb1 [gv2, gv4, gv188, .int .i64 gx190] 167, .obj gb7 [gv35, gv37, gv39, gv41, .int .i64 (max x72 (min gx43 (-1)))] 38, .sl gv2 9 1 (gl30.map SR), .sl gv4 9 1 (gl187.map SR), .sl gv188 312 2 (gl189.map Twrite.row), .sl gv37 9 1 (gl38.map SR), .sl gv39 3 1 (gl40.map I), .sl gv41 9 1 (gl42.map SR)]) [] (by kernel_rfl) rfl (Zc.on (fun _ hw => hw.sel [0, 1, 2, 3, 4, 5, 6, 8, 9, 10] (by decide) rfl) (Zc.fin (fun _ hw => hw)))) rfl rfl rfl (Y.move rfl) ?_
                   refine V2.y (i := 5) (Nx2.of (Z := Cls w [] [.obj b17 [.int .i64 x14.Kind, .int .i64 x14.N, st x14.Text, gv (q1 gx29.toNat) 0] 32, .obj b15 [.int .i64 x14.Kind, .int .i64 x14.N, st x14.Text, gv (q1 gx29.toNat) 0] 32, .obj gb1 [gv2, gv4, gv188, .int .i64 gx190] 167, .obj gb7 [gv35, gv37, gv39, gv41, .int .i64 (max x72 (min gx43 (-1)))] 38, .sl gv2 9 1 (gl30.map SR), .sl gv4 9 1 (gl187.map SR), .sl gv188 312 2 (gl189.map Twrite.row), .sl gv37 9 1 (gl38.map SR), .sl gv39 3 1 (gl40.map I), .sl gv41 9 1 (gl42.map SR)]) [] (by kernel_rfl) rfl (Zc.on (fun _ hw => hw.sel [0, 1, 2, 3, 4, 5, 6, 8, 9, 10] (by decide) rfl) (Zc.fin (fun _ hw => hw)))) rfl rfl rfl (Y.move rfl) ?_
                   refine V2.y (i := 6) (Nx2.of (Z := Cls w [] [.obj b17 [.int .i64 x14.Kind, .int .i64 x14.N, st x14.Text, gv (q1 gx29.toNat) 0] 32, .obj b15 [.int .i64 x14.Kind, .int .i64 x14.N, st x14.Text, gv (q1 gx29.toNat) 0] 32, .obj gb1 [gv2, gv4, gv188, .int .i64 gx190] 167, .obj gb7 [gv35, gv37, gv39, gv41, .int .i64 (max x72 (min gx43 (-1)))] 38, .sl gv2 9 1 (gl30.map SR), .sl gv4 9 1 (gl187.map SR), .sl gv188 312 2 (gl189.map Twrite.row), .sl gv37 9 1 (gl38.map SR), .sl gv39 3 1 (gl40.map I), .sl gv41 9 1 (gl42.map SR)]) [] (by kernel_rfl) rfl (Zc.on (fun _ hw => hw.sel [0, 1, 2, 3, 4, 5, 6, 8, 9, 10] (by decide) rfl) (Zc.fin (fun _ hw => hw)))) rfl rfl rfl (Y.move rfl) ?_
                   refine V2.y (i := 7) (Nx2.of (Z := Cls w [] [.obj b17 [.int .i64 x14.Kind, .int .i64 x14.N, st x14.Text, gv (q1 gx29.toNat) 0] 32, .obj b15 [.int .i64 x14.Kind, .int .i64 x14.N, st x14.Text, gv (q1 gx29.toNat) 0] 32, .obj gb1 [gv2, gv4, gv188, .int .i64 gx190] 167, .obj gb7 [gv35, gv37, gv39, gv41, .int .i64 (max x72 (min gx43 (-1)))] 38, .sl gv2 9 1 (gl30.map SR), .sl gv4 9 1 (gl187.map SR), .sl gv188 312 2 (gl189.map Twrite.row), .sl gv37 9 1 (gl38.map SR), .sl gv39 3 1 (gl40.map I), .sl gv41 9 1 (gl42.map SR)]) [] (by kernel_rfl) rfl (Zc.on (fun _ hw => hw.sel [0, 1, 2, 3, 4, 5, 6, 8, 9, 10] (by decide) rfl) (Zc.fin (fun _ hw => hw)))) rfl rfl rfl (Y.lenS Try.underlying9 rfl) ?_
                   refine V2.m (i := 8) (V' := fun x79 => .int .i64 x79) h (Nx2.of (Z := Cls w [] [.obj b17 [.int .i64 x14.Kind, .int .i64 x14.N, st x14.Text, gv (q1 gx29.toNat) 0] 32, .obj b15 [.int .i64 x14.Kind, .int .i64 x14.N, st x14.Text, gv (q1 gx29.toNat) 0] 32, .obj gb1 [gv2, gv4, gv188, .int .i64 gx190] 167, .obj gb7 [gv35, gv37, gv39, gv41, .int .i64 (max x72 (min gx43 (-1)))] 38, .sl gv2 9 1 (gl30.map SR), .sl gv4 9 1 (gl187.map SR), .sl gv188 312 2 (gl189.map Twrite.row), .sl gv37 9 1 (gl38.map SR), .sl gv39 3 1 (gl40.map I), .sl gv41 9 1 (gl42.map SR)]) [] (by kernel_rfl) rfl (Zc.on (fun _ hw => hw.sel [0, 1, 2, 3, 4, 5, 6, 8, 9, 10] (by decide) rfl) (Zc.fin (fun _ hw => hw)))) rfl rfl rfl (Y.subM rfl rfl) (fun x79 ex79 h => ?_)
                   refine V2.eff (i := 9) (by kernel_rfl) rfl ?_
                   obtain ⟨s80, e81, h⟩ := bind1S h
                   refine L.y rfl (Y.does en98 rfl (fun w' hw => (w98_quirref_blank x79 w' _ e81).mono (fun _ _ h => h.1))) ?_
                   refine L.nil (E.toV2 (stC [[12]] [Cls w [] [.obj b17 [.int .i64 x14.Kind, .int .i64 x14.N, st x14.Text, gv (q1 gx29.toNat) 0] 32, .obj b15 [.int .i64 x14.Kind, .int .i64 x14.N, st x14.Text, gv (q1 gx29.toNat) 0] 32, .obj gb1 [gv2, gv4, gv188, .int .i64 gx190] 167, .obj gb7 [gv35, gv37, gv39, gv41, .int .i64 (max x72 (min gx43 (-1)))] 38, .sl gv2 9 1 (gl30.map SR), .sl gv4 9 1 (gl187.map SR), .sl gv188 312 2 (gl189.map Twrite.row), .sl gv35 9 1 (gl36.map SR), .sl gv37 9 1 (gl38.map SR), .sl gv39 3 1 (gl40.map I), .sl gv41 9 1 (gl42.map SR)]] (Cls w [] [.obj b17 [.int .i64 x14.Kind, .int .i64 x14.N, st x14.Text, gv (q1 gx29.toNat) 0] 32, .obj b15 [.int .i64 x14.Kind, .int .i64 x14.N, st x14.Text, gv (q1 gx29.toNat) 0] 32, .obj gb1 [gv2, gv4, gv188, .int .i64 gx190] 167, .obj gb7 [gv35, gv37, gv39, gv41, .int .i64 (max x72 (min gx43 (-1)))] 38, .sl gv2 9 1 (gl30.map SR), .sl gv4 9 1 (gl187.map SR), .sl gv188 312 2 (gl189.map Twrite.row), .sl gv37 9 1 (gl38.map SR), .sl gv39 3 1 (gl40.map I), .sl gv41 9 1 (gl42.map SR)])) 9 (by kernel_rfl) (Sc.stay (fun _ hw => hw) (Sc.stayD (fun _ hw => hw))) (Sc.now (by kernel_rfl) (fun _ hw => hw)) ?_)
                   refine V2.m (i := 10) (V' := fun s82 => st s82) h (Nx2.of (Z := Cls w [] [.obj b17 [.int .i64 x14.Kind, .int .i64 x14.N, st x14.Text, gv (q1 gx29.toNat) 0] 32, .obj b15 [.int .i64 x14.Kind, .int .i64 x14.N, st x14.Text, gv (q1 gx29.toNat) 0] 32, .obj gb1 [gv2, gv4, gv188, .int .i64 gx190] 167, .obj gb7 [gv35, gv37, gv39, gv41, .int .i64 (max x72 (min gx43 (-1)))] 38, .sl gv2 9 1 (gl30.map SR), .sl gv4 9 1 (gl187.map SR), .sl gv188 312 2 (gl189.map Twrite.row), .sl gv37 9 1 (gl38.map SR), .sl gv39 3 1 (gl40.map I), .sl gv41 9 1 (gl42.map SR)]) [] (by kernel_rfl) rfl (Zc.on (fun _ hw => hw.sel [0, 1, 2, 3, 4, 5, 6, 8, 9, 10] (by decide) rfl) (Zc.fin (fun _ hw => hw)))) rfl rfl rfl (Y.catM rfl rfl) (fun s82 es82 h => ?_)
                   refine V2.m (i := 11) (V' := fun _ => el gv35 (x14.N.toNat * 1)) h (Nx2.of (Z := Cls w [] [.obj b17 [.int .i64 x14.Kind, .int .i64 x14.N, st x14.Text, gv (q1 gx29.toNat) 0] 32, .obj b15 [.int .i64 x14.Kind, .int .i64 x14.N, st x14.Text, gv (q1 gx29.toNat) 0] 32, .obj gb1 [gv2, gv4, gv188, .int .i64 gx190] 167, .obj gb7 [gv35, gv37, gv39, gv41, .int .i64 (max x72 (min gx43 (-1)))] 38, .sl gv2 9 1 (gl30.map SR), .sl gv4 9 1 (gl187.map SR), .sl gv188 312 2 (gl189.map Twrite.row), .sl gv35 9 1 (gl36.map SR), .sl gv37 9 1 (gl38.map SR), .sl gv39 3 1 (gl40.map I), .sl gv41 9 1 (gl42.map SR)]) [12] (by kernel_rfl) rfl (Zc.at1 (fun _ hw => hw))) rfl rfl rfl (Y.indexM (g := SR) (l := gl36) Try.underlying35 sz9 rfl rfl (fun w hw => As.at_ (hw.get (i := 7) rfl))) (fun x83 ex83 h => ?_)
                   refine V2.eff (i := 12) (by kernel_rfl) rfl ?_
                   refine L.storeSlM (q := 7) (row := SR) (vs := [st s82]) (j := 0) (u1 := s82) h sz9 rfl rfl rfl rfl rfl (all1 rfl all0) rfl ex83 rfl rfl ?_
                   intro l84 el84 h
                   refine L.nil (E.toV2 (stC [] [] (Cls w [] [.obj b17 [.int .i64 x14.Kind, .int .i64 x14.N, st x14.Text, gv (q1 gx29.toNat) 0] 32, .obj b15 [.int .i64 x14.Kind, .int .i64 x14.N, st x14.Text, gv (q1 gx29.toNat) 0] 32, .obj gb1 [gv2, gv4, gv188, .int .i64 gx190] 167, .obj gb7 [gv35, gv37, gv39, gv41, .int .i64 (max x72 (min gx43 (-1)))] 38, .sl gv2 9 1 (gl30.map SR), .sl gv4 9 1 (gl187.map SR), .sl gv188 312 2 (gl189.map Twrite.row), .sl gv37 9 1 (gl38.map SR), .sl gv39 3 1 (gl40.map I), .sl gv41 9 1 (gl42.map SR)])) 12 (by kernel_rfl) (Sc.past rfl (Sc.stayD (fun _ hw => hw))) (Sc.atD (fun _ hw => hw.sel [0, 1, 2, 3, 4, 5, 6, 8, 9, 10] (by decide) rfl)) ?_)
                   refine V2.done (by kernel_rfl) ?_
                   refine E.thenN (W.seqJ (fun gs D => ∃ (gv198 : Value) (gl199 : (List Int)) (gv200 : Value) (gl201 : (List (List UInt8))), gs = [] ∧ D = Cls w [] [.obj b17 [.int .i64 x14.Kind, .int .i64 x14.N, st x14.Text, gv (q1 gx29.toNat) 0] 32, .obj b15 [.int .i64 x14.Kind, .int .i64 x14.N, st x14.Text, gv (q1 gx29.toNat) 0] 32, .obj gb1 [gv2, gv4, gv188, .int .i64 gx190] 167, .obj gb7 [gv35, gv37, gv198, gv200, .int .i64 (max x72 (min gx43 (-1)))] 38, .sl gv2 9 1 (gl30.map SR), .sl gv4 9 1 (gl187.map SR), .sl gv188 312 2 (gl189.map Twrite.row), .sl gv35 9 1 (l84.map SR), .sl gv37 9 1 (gl38.map SR), .sl gv198 3 1 (gl199.map I), .sl gv200 9 1 (gl201.map SR)] ∧ m3_quirlaw_SectPlays_K41 gx29 go2 gx186 gl30 gl187 gl189 gx190 gl38 l84 x72 gx43 gl199 gl201 = some r) ?_ ?_)
                   ·
                    refine W.drawn2 (k := 28) (stC [[8, 21, 24], [21, 24], [24]] [Cls w [] [.obj b17 [.int .i64 x14.Kind, .int .i64 x14.N, st x14.Text, gv (q1 gx29.toNat) 0] 32, .obj b15 [.int .i64 x14.Kind, .int .i64 x14.N, st x14.Text, gv (q1 gx29.toNat) 0] 32, .obj gb1 [gv2, gv4, gv188, .int .i64 gx190] 167, .obj gb7 [gv35, gv37, gv39, gv41, .int .i64 (max x72 (min gx43 (-1)))] 38, .sl gv2 9 1 (gl30.map SR), .sl gv4 9 1 (gl187.map SR), .sl gv188 312 2 (gl189.map Twrite.row), .sl gv35 9 1 (l84.map SR), .sl gv37 9 1 (gl38.map SR), .sl gv39 3 1 (gl40.map I), .sl gv41 9 1 (gl42.map SR)], Cls w [] [.obj b17 [.int .i64 x14.Kind, .int .i64 x14.N, st x14.Text, gv (q1 gx29.toNat) 0] 32, .obj b15 [.int .i64 x14.Kind, .int .i64 x14.N, st x14.Text, gv (q1 gx29.toNat) 0] 32, .obj gb1 [gv2, gv4, gv188, .int .i64 gx190] 167, .obj gb7 [gv35, gv37, gv39, gv41, .int .i64 (max x72 (min gx43 (-1)))] 38, .sl gv2 9 1 (gl30.map SR), .sl gv4 9 1 (gl187.map SR), .sl gv188 312 2 (gl189.map Twrite.row), .sl gv35 9 1 (l84.map SR), .sl gv37 9 1 (gl38.map SR), .sl gv41 9 1 (gl42.map SR)], Cls w [] [.obj b17 [.int .i64 x14.Kind, .int .i64 x14.N, st x14.Text, gv (q1 gx29.toNat) 0] 32, .obj b15 [.int .i64 x14.Kind, .int .i64 x14.N, st x14.Text, gv (q1 gx29.toNat) 0] 32, .obj gb1 [gv2, gv4, gv188, .int .i64 gx190] 167, .obj gb7 [gv35, gv37, gv39, gv41, .int .i64 (max x72 (min gx43 (-1)))] 38, .sl gv2 9 1 (gl30.map SR), .sl gv4 9 1 (gl187.map SR), .sl gv188 312 2 (gl189.map Twrite.row), .sl gv35 9 1 (l84.map SR), .sl gv37 9 1 (gl38.map SR)]] (Cls w [] [.obj b17 [.int .i64 x14.Kind, .int .i64 x14.N, st x14.Text, gv (q1 gx29.toNat) 0] 32, .obj b15 [.int .i64 x14.Kind, .int .i64 x14.N, st x14.Text, gv (q1 gx29.toNat) 0] 32, .obj gb1 [gv2, gv4, gv188, .int .i64 gx190] 167, .sl gv2 9 1 (gl30.map SR), .sl gv4 9 1 (gl187.map SR), .sl gv188 312 2 (gl189.map Twrite.row), .sl gv35 9 1 (l84.map SR), .sl gv37 9 1 (gl38.map SR)])) rfl mixed (fun _ hw => hw.drew) (Sc.now (by kernel_rfl) (fun _ hw => hw)) ?_
                    refine V2.y (i := 0) (Nx2.of (Z := Cls w [] [.obj b17 [.int .i64 x14.Kind, .int .i64 x14.N, st x14.Text, gv (q1 gx29.toNat) 0] 32, .obj b15 [.int .i64 x14.Kind, .int .i64 x14.N, st x14.Text, gv (q1 gx29.toNat) 0] 32, .obj gb1 [gv2, gv4, gv188, .int .i64 gx190] 167, .sl gv2 9 1 (gl30.map SR), .sl gv4 9 1 (gl187.map SR), .sl gv188 312 2 (gl189.map Twrite.row), .sl gv35 9 1 (l84.map SR), .sl gv37 9 1 (gl38.map SR)]) [] (by kernel_rfl) rfl (Zc.on (fun _ hw => hw.sel [0, 1, 2, 4, 5, 6, 7, 8] (by decide) rfl) (Zc.on (fun _ hw => hw.sel [0, 1, 2, 4, 5, 6, 7, 8] (by decide) rfl) (Zc.on (fun _ hw => hw.sel [0, 1, 2, 4, 5, 6, 7, 8] (by decide) rfl) (Zc.fin (fun _ hw => hw)))))) rfl rfl rfl (Y.move rfl) ?_
                    refine V2.y (i := 1) (Nx2.of (Z := Cls w [] [.obj b17 [.int .i64 x14.Kind, .int .i64 x14.N, st x14.Text, gv (q1 gx29.toNat) 0] 32, .obj b15 [.int .i64 x14.Kind, .int .i64 x14.N, st x14.Text, gv (q1 gx29.toNat) 0] 32, .obj gb1 [gv2, gv4, gv188, .int .i64 gx190] 167, .sl gv2 9 1 (gl30.map SR), .sl gv4 9 1 (gl187.map SR), .sl gv188 312 2 (gl189.map Twrite.row), .sl gv35 9 1 (l84.map SR), .sl gv37 9 1 (gl38.map SR)]) [] (by kernel_rfl) rfl (Zc.on (fun _ hw => hw.sel [0, 1, 2, 4, 5, 6, 7, 8] (by decide) rfl) (Zc.on (fun _ hw => hw.sel [0, 1, 2, 4, 5, 6, 7, 8] (by decide) rfl) (Zc.on (fun _ hw => hw.sel [0, 1, 2, 4, 5, 6, 7, 8] (by decide) rfl) (Zc.fin (fun _ hw => hw)))))) rfl rfl rfl (Y.move rfl) ?_
                    refine V2.y (i := 2) (Nx2.of (Z := Cls w [] [.obj b17 [.int .i64 x14.Kind, .int .i64 x14.N, st x14.Text, gv (q1 gx29.toNat) 0] 32, .obj b15 [.int .i64 x14.Kind, .int .i64 x14.N, st x14.Text, gv (q1 gx29.toNat) 0] 32, .obj gb1 [gv2, gv4, gv188, .int .i64 gx190] 167, .sl gv2 9 1 (gl30.map SR), .sl gv4 9 1 (gl187.map SR), .sl gv188 312 2 (gl189.map Twrite.row), .sl gv35 9 1 (l84.map SR), .sl gv37 9 1 (gl38.map SR)]) [] (by kernel_rfl) rfl (Zc.on (fun _ hw => hw.sel [0, 1, 2, 4, 5, 6, 7, 8] (by decide) rfl) (Zc.on (fun _ hw => hw.sel [0, 1, 2, 4, 5, 6, 7, 8] (by decide) rfl) (Zc.on (fun _ hw => hw.sel [0, 1, 2, 4, 5, 6, 7, 8] (by decide) rfl) (Zc.fin (fun _ hw => hw)))))) rfl rfl rfl (Y.move rfl) ?_
                    refine V2.nilc (i := 3) (Nx2.of (Z := Cls w [] [.obj b17 [.int .i64 x14.Kind, .int .i64 x14.N, st x14.Text, gv (q1 gx29.toNat) 0] 32, .obj b15 [.int .i64 x14.Kind, .int .i64 x14.N, st x14.Text, gv (q1 gx29.toNat) 0] 32, .obj gb1 [gv2, gv4, gv188, .int .i64 gx190] 167, .sl gv2 9 1 (gl30.map SR), .sl gv4 9 1 (gl187.map SR), .sl gv188 312 2 (gl189.map Twrite.row), .sl gv35 9 1 (l84.map SR), .sl gv37 9 1 (gl38.map SR)]) [] (by kernel_rfl) rfl (Zc.on (fun _ hw => hw.sel [0, 1, 2, 4, 5, 6, 7, 8] (by decide) rfl) (Zc.on (fun _ hw => hw.sel [0, 1, 2, 4, 5, 6, 7, 8] (by decide) rfl) (Zc.on (fun _ hw => hw.sel [0, 1, 2, 4, 5, 6, 7, 8] (by decide) rfl) (Zc.fin (fun _ hw => hw)))))) rfl rfl rfl ?_
                    refine V2.y (i := 4) (Nx2.of (Z := Cls w [] [.obj b17 [.int .i64 x14.Kind, .int .i64 x14.N, st x14.Text, gv (q1 gx29.toNat) 0] 32, .obj b15 [.int .i64 x14.Kind, .int .i64 x14.N, st x14.Text, gv (q1 gx29.toNat) 0] 32, .obj gb1 [gv2, gv4, gv188, .int .i64 gx190] 167, .sl gv2 9 1 (gl30.map SR), .sl gv4 9 1 (gl187.map SR), .sl gv188 312 2 (gl189.map Twrite.row), .sl gv35 9 1 (l84.map SR), .sl gv37 9 1 (gl38.map SR)]) [] (by kernel_rfl) rfl (Zc.on (fun _ hw => hw.sel [0, 1, 2, 4, 5, 6, 7, 8] (by decide) rfl) (Zc.on (fun _ hw => hw.sel [0, 1, 2, 4, 5, 6, 7, 8] (by decide) rfl) (Zc.on (fun _ hw => hw.sel [0, 1, 2, 4, 5, 6, 7, 8] (by decide) rfl) (Zc.fin (fun _ hw => hw)))))) rfl rfl rfl (Y.fieldP fd38_2 rfl) ?_
                    refine V2.y (i := 5) (Nx2.of (Z := Cls w [] [.obj b17 [.int .i64 x14.Kind, .int .i64 x14.N, st x14.Text, gv (q1 gx29.toNat) 0] 32, .obj b15 [.int .i64 x14.Kind, .int .i64 x14.N, st x14.Text, gv (q1 gx29.toNat) 0] 32, .obj gb1 [gv2, gv4, gv188, .int .i64 gx190] 167, .obj gb7 [gv35, gv37, gv39, gv41, .int .i64 (max x72 (min gx43 (-1)))] 38, .sl gv2 9 1 (gl30.map SR), .sl gv4 9 1 (gl187.map SR), .sl gv188 312 2 (gl189.map Twrite.row), .sl gv35 9 1 (l84.map SR), .sl gv37 9 1 (gl38.map SR)]) [24] (by kernel_rfl) rfl (Zc.on (fun _ hw => hw.sel [0, 1, 2, 3, 4, 5, 6, 7, 8] (by decide) rfl) (Zc.on (fun _ hw => hw.sel [0, 1, 2, 3, 4, 5, 6, 7, 8] (by decide) rfl) (Zc.at1 (fun _ hw => hw))))) rfl rfl rfl (Y.loadP (i := 3) ag36 rfl rfl rfl) ?_
                    refine V2.y (i := 6) (Nx2.of (Z := Cls w [] [.obj b17 [.int .i64 x14.Kind, .int .i64 x14.N, st x14.Text, gv (q1 gx29.toNat) 0] 32, .obj b15 [.int .i64 x14.Kind, .int .i64 x14.N, st x14.Text, gv (q1 gx29.toNat) 0] 32, .obj gb1 [gv2, gv4, gv188, .int .i64 gx190] 167, .sl gv2 9 1 (gl30.map SR), .sl gv4 9 1 (gl187.map SR), .sl gv188 312 2 (gl189.map Twrite.row), .sl gv35 9 1 (l84.map SR), .sl gv37 9 1 (gl38.map SR)]) [] (by kernel_rfl) rfl (Zc.on (fun _ hw => hw.sel [0, 1, 2, 4, 5, 6, 7, 8] (by decide) rfl) (Zc.on (fun _ hw => hw.sel [0, 1, 2, 4, 5, 6, 7, 8] (by decide) rfl) (Zc.on (fun _ hw => hw.sel [0, 1, 2, 4, 5, 6, 7, 8] (by decide) rfl) (Zc.fin (fun _ hw => hw)))))) rfl rfl rfl (Y.move rfl) ?_
                    refine V2.y (i := 9) (Nx2.of (Z := Cls w [] [.obj b17 [.int .i64 x14.Kind, .int .i64 x14.N, st x14.Text, gv (q1 gx29.toNat) 0] 32, .obj b15 [.int .i64 x14.Kind, .int .i64 x14.N, st x14.Text, gv (q1 gx29.toNat) 0] 32, .obj gb1 [gv2, gv4, gv188, .int .i64 gx190] 167, .sl gv2 9 1 (gl30.map SR), .sl gv4 9 1 (gl187.map SR), .sl gv188 312 2 (gl189.map Twrite.row), .sl gv35 9 1 (l84.map SR), .sl gv37 9 1 (gl38.map SR)]) [] (by kernel_rfl) rfl (Zc.on (fun _ hw => hw.sel [0, 1, 2, 4, 5, 6, 7, 8] (by decide) rfl) (Zc.on (fun _ hw => hw.sel [0, 1, 2, 4, 5, 6, 7, 8] (by decide) rfl) (Zc.on (fun _ hw => hw.sel [0, 1, 2, 4, 5, 6, 7, 8] (by decide) rfl) (Zc.fin (fun _ hw => hw)))))) rfl rfl rfl (Y.move rfl) ?_
                    refine V2.nilc (i := 10) (Nx2.of (Z := Cls w [] [.obj b17 [.int .i64 x14.Kind, .int .i64 x14.N, st x14.Text, gv (q1 gx29.toNat) 0] 32, .obj b15 [.int .i64 x14.Kind, .int .i64 x14.N, st x14.Text, gv (q1 gx29.toNat) 0] 32, .obj gb1 [gv2, gv4, gv188, .int .i64 gx190] 167, .sl gv2 9 1 (gl30.map SR), .sl gv4 9 1 (gl187.map SR), .sl gv188 312 2 (gl189.map Twrite.row), .sl gv35 9 1 (l84.map SR), .sl gv37 9 1 (gl38.map SR)]) [] (by kernel_rfl) rfl (Zc.on (fun _ hw => hw.sel [0, 1, 2, 4, 5, 6, 7, 8] (by decide) rfl) (Zc.on (fun _ hw => hw.sel [0, 1, 2, 4, 5, 6, 7, 8] (by decide) rfl) (Zc.on (fun _ hw => hw.sel [0, 1, 2, 4, 5, 6, 7, 8] (by decide) rfl) (Zc.fin (fun _ hw => hw)))))) rfl rfl rfl ?_
                    refine V2.y (i := 11) (Nx2.of (Z := Cls w [] [.obj b17 [.int .i64 x14.Kind, .int .i64 x14.N, st x14.Text, gv (q1 gx29.toNat) 0] 32, .obj b15 [.int .i64 x14.Kind, .int .i64 x14.N, st x14.Text, gv (q1 gx29.toNat) 0] 32, .obj gb1 [gv2, gv4, gv188, .int .i64 gx190] 167, .sl gv2 9 1 (gl30.map SR), .sl gv4 9 1 (gl187.map SR), .sl gv188 312 2 (gl189.map Twrite.row), .sl gv35 9 1 (l84.map SR), .sl gv37 9 1 (gl38.map SR)]) [] (by kernel_rfl) rfl (Zc.on (fun _ hw => hw.sel [0, 1, 2, 4, 5, 6, 7, 8] (by decide) rfl) (Zc.on (fun _ hw => hw.sel [0, 1, 2, 4, 5, 6, 7, 8] (by decide) rfl) (Zc.on (fun _ hw => hw.sel [0, 1, 2, 4, 5, 6, 7, 8] (by decide) rfl) (Zc.fin (fun _ hw => hw)))))) rfl rfl rfl (Y.fieldP fd38_3 rfl) ?_
                    refine V2.y (i := 12) (Nx2.of (Z := Cls w [] [.obj b17 [.int .i64 x14.Kind, .int .i64 x14.N, st x14.Text, gv (q1 gx29.toNat) 0] 32, .obj b15 [.int .i64 x14.Kind, .int .i64 x14.N, st x14.Text, gv (q1 gx29.toNat) 0] 32, .obj gb1 [gv2, gv4, gv188, .int .i64 gx190] 167, .obj gb7 [gv35, gv37, gv39, gv41, .int .i64 (max x72 (min gx43 (-1)))] 38, .sl gv2 9 1 (gl30.map SR), .sl gv4 9 1 (gl187.map SR), .sl gv188 312 2 (gl189.map Twrite.row), .sl gv35 9 1 (l84.map SR), .sl gv37 9 1 (gl38.map SR)]) [24] (by kernel_rfl) rfl (Zc.on (fun _ hw => hw.sel [0, 1, 2, 3, 4, 5, 6, 7, 8] (by decide) rfl) (Zc.on (fun _ hw => hw.sel [0, 1, 2, 3, 4, 5, 6, 7, 8] (by decide) rfl) (Zc.at1 (fun _ hw => hw))))) rfl rfl rfl (Y.loadP (i := 3) ag35 rfl rfl rfl) ?_
                    refine V2.y (i := 13) (Nx2.of (Z := Cls w [] [.obj b17 [.int .i64 x14.Kind, .int .i64 x14.N, st x14.Text, gv (q1 gx29.toNat) 0] 32, .obj b15 [.int .i64 x14.Kind, .int .i64 x14.N, st x14.Text, gv (q1 gx29.toNat) 0] 32, .obj gb1 [gv2, gv4, gv188, .int .i64 gx190] 167, .sl gv2 9 1 (gl30.map SR), .sl gv4 9 1 (gl187.map SR), .sl gv188 312 2 (gl189.map Twrite.row), .sl gv35 9 1 (l84.map SR), .sl gv37 9 1 (gl38.map SR)]) [] (by kernel_rfl) rfl (Zc.on (fun _ hw => hw.sel [0, 1, 2, 4, 5, 6, 7, 8] (by decide) rfl) (Zc.on (fun _ hw => hw.sel [0, 1, 2, 4, 5, 6, 7, 8] (by decide) rfl) (Zc.on (fun _ hw => hw.sel [0, 1, 2, 4, 5, 6, 7, 8] (by decide) rfl) (Zc.fin (fun _ hw => hw)))))) rfl rfl rfl (Y.move rfl) ?_
                    refine V2.nilc (i := 14) (Nx2.of (Z := Cls w [] [.obj b17 [.int .i64 x14.Kind, .int .i64 x14.N, st x14.Text, gv (q1 gx29.toNat) 0] 32, .obj b15 [.int .i64 x14.Kind, .int .i64 x14.N, st x14.Text, gv (q1 gx29.toNat) 0] 32, .obj gb1 [gv2, gv4, gv188, .int .i64 gx190] 167, .sl gv2 9 1 (gl30.map SR), .sl gv4 9 1 (gl187.map SR), .sl gv188 312 2 (gl189.map Twrite.row), .sl gv35 9 1 (l84.map SR), .sl gv37 9 1 (gl38.map SR)]) [] (by kernel_rfl) rfl (Zc.on (fun _ hw => hw.sel [0, 1, 2, 4, 5, 6, 7, 8] (by decide) rfl) (Zc.on (fun _ hw => hw.sel [0, 1, 2, 4, 5, 6, 7, 8] (by decide) rfl) (Zc.on (fun _ hw => hw.sel [0, 1, 2, 4, 5, 6, 7, 8] (by decide) rfl) (Zc.fin (fun _ hw => hw)))))) rfl rfl rfl ?_
                    refine V2.y (i := 15) (Nx2.of (Z := Cls w [] [.obj b17 [.int .i64 x14.Kind, .int .i64 x14.N, st x14.Text, gv (q1 gx29.toNat) 0] 32, .obj b15 [.int .i64 x14.Kind, .int .i64 x14.N, st x14.Text, gv (q1 gx29.toNat) 0] 32, .obj gb1 [gv2, gv4, gv188, .int .i64 gx190] 167, .sl gv2 9 1 (gl30.map SR), .sl gv4 9 1 (gl187.map SR), .sl gv188 312 2 (gl189.map Twrite.row), .sl gv35 9 1 (l84.map SR), .sl gv37 9 1 (gl38.map SR)]) [] (by kernel_rfl) rfl (Zc.on (fun _ hw => hw.sel [0, 1, 2, 4, 5, 6, 7, 8] (by decide) rfl) (Zc.on (fun _ hw => hw.sel [0, 1, 2, 4, 5, 6, 7, 8] (by decide) rfl) (Zc.on (fun _ hw => hw.sel [0, 1, 2, 4, 5, 6, 7, 8] (by decide) rfl) (Zc.fin (fun _ hw => hw)))))) rfl rfl rfl (Y.fieldP fd38_0 rfl) ?_
                    refine V2.y (i := 16) (Nx2.of (Z := Cls w [] [.obj b17 [.int .i64 x14.Kind, .int .i64 x14.N, st x14.Text, gv (q1 gx29.toNat) 0] 32, .obj b15 [.int .i64 x14.Kind, .int .i64 x14.N, st x14.Text, gv (q1 gx29.toNat) 0] 32, .obj gb1 [gv2, gv4, gv188, .int .i64 gx190] 167, .obj gb7 [gv35, gv37, gv39, gv41, .int .i64 (max x72 (min gx43 (-1)))] 38, .sl gv2 9 1 (gl30.map SR), .sl gv4 9 1 (gl187.map SR), .sl gv188 312 2 (gl189.map Twrite.row), .sl gv35 9 1 (l84.map SR), .sl gv37 9 1 (gl38.map SR)]) [24] (by kernel_rfl) rfl (Zc.on (fun _ hw => hw.sel [0, 1, 2, 3, 4, 5, 6, 7, 8] (by decide) rfl) (Zc.on (fun _ hw => hw.sel [0, 1, 2, 3, 4, 5, 6, 7, 8] (by decide) rfl) (Zc.at1 (fun _ hw => hw))))) rfl rfl rfl (Y.loadP (i := 3) ag35 rfl rfl rfl) ?_
                    refine V2.y (i := 17) (Nx2.of (Z := Cls w [] [.obj b17 [.int .i64 x14.Kind, .int .i64 x14.N, st x14.Text, gv (q1 gx29.toNat) 0] 32, .obj b15 [.int .i64 x14.Kind, .int .i64 x14.N, st x14.Text, gv (q1 gx29.toNat) 0] 32, .obj gb1 [gv2, gv4, gv188, .int .i64 gx190] 167, .sl gv2 9 1 (gl30.map SR), .sl gv4 9 1 (gl187.map SR), .sl gv188 312 2 (gl189.map Twrite.row), .sl gv35 9 1 (l84.map SR), .sl gv37 9 1 (gl38.map SR)]) [] (by kernel_rfl) rfl (Zc.on (fun _ hw => hw.sel [0, 1, 2, 4, 5, 6, 7, 8] (by decide) rfl) (Zc.on (fun _ hw => hw.sel [0, 1, 2, 4, 5, 6, 7, 8] (by decide) rfl) (Zc.on (fun _ hw => hw.sel [0, 1, 2, 4, 5, 6, 7, 8] (by decide) rfl) (Zc.fin (fun _ hw => hw)))))) rfl rfl rfl (Y.move rfl) ?_
                    refine V2.m (i := 18) (V' := fun _ => el gv35 (x14.N.toNat * 1)) h (Nx2.of (Z := Cls w [] [.obj b17 [.int .i64 x14.Kind, .int .i64 x14.N, st x14.Text, gv (q1 gx29.toNat) 0] 32, .obj b15 [.int .i64 x14.Kind, .int .i64 x14.N, st x14.Text, gv (q1 gx29.toNat) 0] 32, .obj gb1 [gv2, gv4, gv188, .int .i64 gx190] 167, .sl gv2 9 1 (gl30.map SR), .sl gv4 9 1 (gl187.map SR), .sl gv188 312 2 (gl189.map Twrite.row), .sl gv35 9 1 (l84.map SR), .sl gv37 9 1 (gl38.map SR)]) [] (by kernel_rfl) rfl (Zc.on (fun _ hw => hw.sel [0, 1, 2, 4, 5, 6, 7, 8] (by decide) rfl) (Zc.on (fun _ hw => hw.sel [0, 1, 2, 4, 5, 6, 7, 8] (by decide) rfl) (Zc.on (fun _ hw => hw.sel [0, 1, 2, 4, 5, 6, 7, 8] (by decide) rfl) (Zc.fin (fun _ hw => hw)))))) rfl rfl rfl (Y.indexM (g := SR) (l := l84) Try.underlying35 sz9 rfl rfl (fun w hw => As.at_ (hw.get (i := 6) rfl))) (fun x103 ex103 h => ?_)
                    refine V2.y (i := 19) (Nx2.of (Z := Cls w [] [.obj b17 [.int .i64 x14.Kind, .int .i64 x14.N, st x14.Text, gv (q1 gx29.toNat) 0] 32, .obj b15 [.int .i64 x14.Kind, .int .i64 x14.N, st x14.Text, gv (q1 gx29.toNat) 0] 32, .obj gb1 [gv2, gv4, gv188, .int .i64 gx190] 167, .sl gv2 9 1 (gl30.map SR), .sl gv4 9 1 (gl187.map SR), .sl gv188 312 2 (gl189.map Twrite.row), .sl gv35 9 1 (l84.map SR), .sl gv37 9 1 (gl38.map SR)]) [] (by kernel_rfl) rfl (Zc.on (fun _ hw => hw.sel [0, 1, 2, 4, 5, 6, 7, 8] (by decide) rfl) (Zc.on (fun _ hw => hw.sel [0, 1, 2, 4, 5, 6, 7, 8] (by decide) rfl) (Zc.on (fun _ hw => hw.sel [0, 1, 2, 4, 5, 6, 7, 8] (by decide) rfl) (Zc.fin (fun _ hw => hw)))))) rfl rfl rfl (Y.loadE1 (u := st x103) ag9 rfl (fun w hw => As.at_ (hw.get (i := 6) rfl)) (idx_map ex103)) ?_
                    refine V2.eff2 (i1 := 7) (i2 := 20) (by kernel_rfl) rfl rfl ?_ ?_
                    ·
                     refine L.litOne rfl Try.underlying36 el3 rfl rfl ?_
                     intro b104
                     refine L.nil (E.toV2 (stC [[8, 21, 24], [21, 24], [24]] [Cls w [] [.sl (sv b104 1) 3 1 (([x14.N]).map I), .obj b17 [.int .i64 x14.Kind, .int .i64 x14.N, st x14.Text, gv (q1 gx29.toNat) 0] 32, .obj b15 [.int .i64 x14.Kind, .int .i64 x14.N, st x14.Text, gv (q1 gx29.toNat) 0] 32, .obj gb1 [gv2, gv4, gv188, .int .i64 gx190] 167, .obj gb7 [gv35, gv37, gv39, gv41, .int .i64 (max x72 (min gx43 (-1)))] 38, .sl gv2 9 1 (gl30.map SR), .sl gv4 9 1 (gl187.map SR), .sl gv188 312 2 (gl189.map Twrite.row), .sl gv35 9 1 (l84.map SR), .sl gv37 9 1 (gl38.map SR), .sl gv39 3 1 (gl40.map I), .sl gv41 9 1 (gl42.map SR)], Cls w [] [.sl (sv b104 1) 3 1 (([x14.N]).map I), .obj b17 [.int .i64 x14.Kind, .int .i64 x14.N, st x14.Text, gv (q1 gx29.toNat) 0] 32, .obj b15 [.int .i64 x14.Kind, .int .i64 x14.N, st x14.Text, gv (q1 gx29.toNat) 0] 32, .obj gb1 [gv2, gv4, gv188, .int .i64 gx190] 167, .obj gb7 [gv35, gv37, gv39, gv41, .int .i64 (max x72 (min gx43 (-1)))] 38, .sl gv2 9 1 (gl30.map SR), .sl gv4 9 1 (gl187.map SR), .sl gv188 312 2 (gl189.map Twrite.row), .sl gv35 9 1 (l84.map SR), .sl gv37 9 1 (gl38.map SR), .sl gv41 9 1 (gl42.map SR)], Cls w [] [.sl (sv b104 1) 3 1 (([x14.N]).map I), .obj b17 [.int .i64 x14.Kind, .int .i64 x14.N, st x14.Text, gv (q1 gx29.toNat) 0] 32, .obj b15 [.int .i64 x14.Kind, .int .i64 x14.N, st x14.Text, gv (q1 gx29.toNat) 0] 32, .obj gb1 [gv2, gv4, gv188, .int .i64 gx190] 167, .obj gb7 [gv35, gv37, gv39, gv41, .int .i64 (max x72 (min gx43 (-1)))] 38, .sl gv2 9 1 (gl30.map SR), .sl gv4 9 1 (gl187.map SR), .sl gv188 312 2 (gl189.map Twrite.row), .sl gv35 9 1 (l84.map SR), .sl gv37 9 1 (gl38.map SR)]] (Cls w [] [.sl (sv b104 1) 3 1 (([x14.N]).map I), .obj b17 [.int .i64 x14.Kind, .int .i64 x14.N, st x14.Text, gv (q1 gx29.toNat) 0] 32, .obj b15 [.int .i64 x14.Kind, .int .i64 x14.N, st x14.Text, gv (q1 gx29.toNat) 0] 32, .obj gb1 [gv2, gv4, gv188, .int .i64 gx190] 167, .sl gv2 9 1 (gl30.map SR), .sl gv4 9 1 (gl187.map SR), .sl gv188 312 2 (gl189.map Twrite.row), .sl gv35 9 1 (l84.map SR), .sl gv37 9 1 (gl38.map SR)])) 7 (by kernel_rfl) (Sc.stay (fun _ hw => hw.sel [1, 2, 3, 4, 5, 6, 7, 8, 9, 10, 11] (by decide) rfl) (Sc.stay (fun _ hw => hw.sel [1, 2, 3, 4, 5, 6, 7, 8, 9, 10] (by decide) rfl) (Sc.stay (fun _ hw => hw.sel [1, 2, 3, 4, 5, 6, 7, 8, 9] (by decide) rfl) (Sc.stayD (fun _ hw => hw.sel [1, 2, 3, 4, 5, 6, 7, 8] (by decide) rfl))))) (Sc.now (by kernel_rfl) (fun _ hw => hw)) ?_)
                     refine V2.eff2 (i1 := 8) (i2 := 20) (by kernel_rfl) rfl rfl ?_ ?_
                     ·
                      refine L.appM (i := 10) (g := I) (l := gl40) (more := [x14.N]) h rfl Try.underlying36 el3 rfl rfl rfl (fun w hw => As.at_ (hw.get (i := 0) rfl)) (plain_ints _) rfl ?_
                      intro v105 l106 el106 h
                      refine L.nil (E.toV2 (stC [[21, 24], [24]] [Cls w [] [.sl v105 3 1 (l106.map I), .sl (sv b104 1) 3 1 (([x14.N]).map I), .obj b17 [.int .i64 x14.Kind, .int .i64 x14.N, st x14.Text, gv (q1 gx29.toNat) 0] 32, .obj b15 [.int .i64 x14.Kind, .int .i64 x14.N, st x14.Text, gv (q1 gx29.toNat) 0] 32, .obj gb1 [gv2, gv4, gv188, .int .i64 gx190] 167, .obj gb7 [gv35, gv37, gv39, gv41, .int .i64 (max x72 (min gx43 (-1)))] 38, .sl gv2 9 1 (gl30.map SR), .sl gv4 9 1 (gl187.map SR), .sl gv188 312 2 (gl189.map Twrite.row), .sl gv35 9 1 (l84.map SR), .sl gv37 9 1 (gl38.map SR), .sl gv41 9 1 (gl42.map SR)], Cls w [] [.sl v105 3 1 (l106.map I), .sl (sv b104 1) 3 1 (([x14.N]).map I), .obj b17 [.int .i64 x14.Kind, .int .i64 x14.N, st x14.Text, gv (q1 gx29.toNat) 0] 32, .obj b15 [.int .i64 x14.Kind, .int .i64 x14.N, st x14.Text, gv (q1 gx29.toNat) 0] 32, .obj gb1 [gv2, gv4, gv188, .int .i64 gx190] 167, .obj gb7 [gv35, gv37, gv39, gv41, .int .i64 (max x72 (min gx43 (-1)))] 38, .sl gv2 9 1 (gl30.map SR), .sl gv4 9 1 (gl187.map SR), .sl gv188 312 2 (gl189.map Twrite.row), .sl gv35 9 1 (l84.map SR), .sl gv37 9 1 (gl38.map SR)]] (Cls w [] [.sl v105 3 1 (l106.map I), .sl (sv b104 1) 3 1 (([x14.N]).map I), .obj b17 [.int .i64 x14.Kind, .int .i64 x14.N, st x14.Text, gv (q1 gx29.toNat) 0] 32, .obj b15 [.int .i64 x14.Kind, .int .i64 x14.N, st x14.Text, gv (q1 gx29.toNat) 0] 32, .obj gb1 [gv2, gv4, gv188, .int .i64 gx190] 167, .sl gv2 9 1 (gl30.map SR), .sl gv4 9 1 (gl187.map SR), .sl gv188 312 2 (gl189.map Twrite.row), .sl gv35 9 1 (l84.map SR), .sl gv37 9 1 (gl38.map SR)])) 8 (by kernel_rfl) (Sc.past rfl (Sc.stay (fun _ hw => hw.sel [1, 2, 3, 4, 5, 6, 7, 8, 9, 10, 11] (by decide) rfl) (Sc.stay (fun _ hw => hw.sel [1, 2, 3, 4, 5, 6, 7, 8, 9, 10] (by decide) rfl) (Sc.stayD (fun _ hw => hw.sel [1, 2, 3, 4, 5, 6, 7, 8, 9] (by decide) rfl))))) (Sc.now (by kernel_rfl) (fun _ hw => hw)) ?_)
                      refine V2.eff (i := 20) (by kernel_rfl) rfl ?_
                      refine L.litOne rfl Try.underlying35 el9 rfl rfl ?_
                      intro b107
                      refine L.nil (E.toV2 (stC [[21, 24], [24]] [Cls w [] [.sl (sv b107 1) 9 1 (([x103]).map SR), .sl v105 3 1 (l106.map I), .sl (sv b104 1) 3 1 (([x14.N]).map I), .obj b17 [.int .i64 x14.Kind, .int .i64 x14.N, st x14.Text, gv (q1 gx29.toNat) 0] 32, .obj b15 [.int .i64 x14.Kind, .int .i64 x14.N, st x14.Text, gv (q1 gx29.toNat) 0] 32, .obj gb1 [gv2, gv4, gv188, .int .i64 gx190] 167, .obj gb7 [gv35, gv37, gv39, gv41, .int .i64 (max x72 (min gx43 (-1)))] 38, .sl gv2 9 1 (gl30.map SR), .sl gv4 9 1 (gl187.map SR), .sl gv188 312 2 (gl189.map Twrite.row), .sl gv35 9 1 (l84.map SR), .sl gv37 9 1 (gl38.map SR), .sl gv41 9 1 (gl42.map SR)], Cls w [] [.sl (sv b107 1) 9 1 (([x103]).map SR), .sl v105 3 1 (l106.map I), .sl (sv b104 1) 3 1 (([x14.N]).map I), .obj b17 [.int .i64 x14.Kind, .int .i64 x14.N, st x14.Text, gv (q1 gx29.toNat) 0] 32, .obj b15 [.int .i64 x14.Kind, .int .i64 x14.N, st x14.Text, gv (q1 gx29.toNat) 0] 32, .obj gb1 [gv2, gv4, gv188, .int .i64 gx190] 167, .obj gb7 [gv35, gv37, gv39, gv41, .int .i64 (max x72 (min gx43 (-1)))] 38, .sl gv2 9 1 (gl30.map SR), .sl gv4 9 1 (gl187.map SR), .sl gv188 312 2 (gl189.map Twrite.row), .sl gv35 9 1 (l84.map SR), .sl gv37 9 1 (gl38.map SR)]] (Cls w [] [.sl (sv b107 1) 9 1 (([x103]).map SR), .sl v105 3 1 (l106.map I), .sl (sv b104 1) 3 1 (([x14.N]).map I), .obj b17 [.int .i64 x14.Kind, .int .i64 x14.N, st x14.Text, gv (q1 gx29.toNat) 0] 32, .obj b15 [.int .i64 x14.Kind, .int .i64 x14.N, st x14.Text, gv (q1 gx29.toNat) 0] 32, .obj gb1 [gv2, gv4, gv188, .int .i64 gx190] 167, .sl gv2 9 1 (gl30.map SR), .sl gv4 9 1 (gl187.map SR), .sl gv188 312 2 (gl189.map Twrite.row), .sl gv35 9 1 (l84.map SR), .sl gv37 9 1 (gl38.map SR)])) 20 (by kernel_rfl) (Sc.stay (fun _ hw => hw.sel [1, 2, 3, 4, 5, 6, 7, 8, 9, 10, 11, 12] (by decide) rfl) (Sc.stay (fun _ hw => hw.sel [1, 2, 3, 4, 5, 6, 7, 8, 9, 10, 11] (by decide) rfl) (Sc.stayD (fun _ hw => hw.sel [1, 2, 3, 4, 5, 6, 7, 8, 9, 10] (by decide) rfl)))) (Sc.now (by kernel_rfl) (fun _ hw => hw)) ?_)
                      refine V2.eff (i := 21) (by kernel_rfl) rfl ?_
                      refine L.appM (i := 12) (g := SR) (l := gl42) (more := [x103]) h rfl Try.underlying35 el9 rfl rfl rfl (fun w hw => As.at_ (hw.get (i := 0) rfl)) (plain_SR _) rfl ?_
                      intro v108 l109 el109 h
                      refine L.nil (E.toV2 (stC [[24]] [Cls w [] [.sl v108 9 1 (l109.map SR), .sl (sv b107 1) 9 1 (([x103]).map SR), .sl v105 3 1 (l106.map I), .sl (sv b104 1) 3 1 (([x14.N]).map I), .obj b17 [.int .i64 x14.Kind, .int .i64 x14.N, st x14.Text, gv (q1 gx29.toNat) 0] 32, .obj b15 [.int .i64 x14.Kind, .int .i64 x14.N, st x14.Text, gv (q1 gx29.toNat) 0] 32, .obj gb1 [gv2, gv4, gv188, .int .i64 gx190] 167, .obj gb7 [gv35, gv37, gv39, gv41, .int .i64 (max x72 (min gx43 (-1)))] 38, .sl gv2 9 1 (gl30.map SR), .sl gv4 9 1 (gl187.map SR), .sl gv188 312 2 (gl189.map Twrite.row), .sl gv35 9 1 (l84.map SR), .sl gv37 9 1 (gl38.map SR)]] (Cls w [] [.sl v108 9 1 (l109.map SR), .sl (sv b107 1) 9 1 (([x103]).map SR), .sl v105 3 1 (l106.map I), .sl (sv b104 1) 3 1 (([x14.N]).map I), .obj b17 [.int .i64 x14.Kind, .int .i64 x14.N, st x14.Text, gv (q1 gx29.toNat) 0] 32, .obj b15 [.int .i64 x14.Kind, .int .i64 x14.N, st x14.Text, gv (q1 gx29.toNat) 0] 32, .obj gb1 [gv2, gv4, gv188, .int .i64 gx190] 167, .sl gv2 9 1 (gl30.map SR), .sl gv4 9 1 (gl187.map SR), .sl gv188 312 2 (gl189.map Twrite.row), .sl gv35 9 1 (l84.map SR), .sl gv37 9 1 (gl38.map SR)])) 21 (by kernel_rfl) (Sc.past rfl (Sc.stay (fun _ hw => hw.sel [1, 2, 3, 4, 5, 6, 7, 8, 9, 10, 11, 12] (by decide) rfl) (Sc.stayD (fun _ hw => hw.sel [1, 2, 3, 4, 5, 6, 7, 8, 9, 10, 11] (by decide) rfl)))) (Sc.now (by kernel_rfl) (fun _ hw => hw)) ?_)
                      refine V2.nilc (i := 22) (Nx2.of (Z := Cls w [] [.sl v108 9 1 (l109.map SR), .sl (sv b107 1) 9 1 (([x103]).map SR), .sl v105 3 1 (l106.map I), .sl (sv b104 1) 3 1 (([x14.N]).map I), .obj b17 [.int .i64 x14.Kind, .int .i64 x14.N, st x14.Text, gv (q1 gx29.toNat) 0] 32, .obj b15 [.int .i64 x14.Kind, .int .i64 x14.N, st x14.Text, gv (q1 gx29.toNat) 0] 32, .obj gb1 [gv2, gv4, gv188, .int .i64 gx190] 167, .sl gv2 9 1 (gl30.map SR), .sl gv4 9 1 (gl187.map SR), .sl gv188 312 2 (gl189.map Twrite.row), .sl gv35 9 1 (l84.map SR), .sl gv37 9 1 (gl38.map SR)]) [] (by kernel_rfl) rfl (Zc.on (fun _ hw => hw.sel [0, 1, 2, 3, 4, 5, 6, 8, 9, 10, 11, 12] (by decide) rfl) (Zc.fin (fun _ hw => hw)))) rfl rfl rfl ?_
                      refine V2.y (i := 23) (Nx2.of (Z := Cls w [] [.sl v108 9 1 (l109.map SR), .sl (sv b107 1) 9 1 (([x103]).map SR), .sl v105 3 1 (l106.map I), .sl (sv b104 1) 3 1 (([x14.N]).map I), .obj b17 [.int .i64 x14.Kind, .int .i64 x14.N, st x14.Text, gv (q1 gx29.toNat) 0] 32, .obj b15 [.int .i64 x14.Kind, .int .i64 x14.N, st x14.Text, gv (q1 gx29.toNat) 0] 32, .obj gb1 [gv2, gv4, gv188, .int .i64 gx190] 167, .sl gv2 9 1 (gl30.map SR), .sl gv4 9 1 (gl187.map SR), .sl gv188 312 2 (gl189.map Twrite.row), .sl gv35 9 1 (l84.map SR), .sl gv37 9 1 (gl38.map SR)]) [] (by kernel_rfl) rfl (Zc.on (fun _ hw => hw.sel [0, 1, 2, 3, 4, 5, 6, 8, 9, 10, 11, 12] (by decide) rfl) (Zc.fin (fun _ hw => hw)))) rfl rfl rfl (Y.fieldP fd38_2 rfl) ?_
                      refine V2.eff (i := 24) (by kernel_rfl) rfl ?_
                      refine L.storeV (i := 7) sz36 rfl rfl (fun _ hw => (As.at_ (hw.get (i := 2) rfl)).one) rfl (Nat.le_of_ble_eq_true rfl) ?_
                      refine L.nil (E.toV2 (stC [] [] (Cls w [] [.sl v108 9 1 (l109.map SR), .sl (sv b107 1) 9 1 (([x103]).map SR), .sl v105 3 1 (l106.map I), .sl (sv b104 1) 3 1 (([x14.N]).map I), .obj b17 [.int .i64 x14.Kind, .int .i64 x14.N, st x14.Text, gv (q1 gx29.toNat) 0] 32, .obj b15 [.int .i64 x14.Kind, .int .i64 x14.N, st x14.Text, gv (q1 gx29.toNat) 0] 32, .obj gb1 [gv2, gv4, gv188, .int .i64 gx190] 167, .sl gv2 9 1 (gl30.map SR), .sl gv4 9 1 (gl187.map SR), .sl gv188 312 2 (gl189.map Twrite.row), .sl gv35 9 1 (l84.map SR), .sl gv37 9 1 (gl38.map SR)])) 24 (by kernel_rfl) (Sc.past rfl (Sc.stayD (fun _ hw => hw))) (Sc.atD (fun _ hw => hw.sel [0, 1, 2, 3, 4, 5, 6, 8, 9, 10, 11, 12] (by decide) rfl)) ?_)
                      refine V2.nilc (i := 25) (Nx2.of (Z := Cls w [] [.sl v108 9 1 (l109.map SR), .sl (sv b107 1) 9 1 (([x103]).map SR), .sl v105 3 1 (l106.map I), .sl (sv b104 1) 3 1 (([x14.N]).map I), .obj b17 [.int .i64 x14.Kind, .int .i64 x14.N, st x14.Text, gv (q1 gx29.toNat) 0] 32, .obj b15 [.int .i64 x14.Kind, .int .i64 x14.N, st x14.Text, gv (q1 gx29.toNat) 0] 32, .obj gb1 [gv2, gv4, gv188, .int .i64 gx190] 167, .sl gv2 9 1 (gl30.map SR), .sl gv4 9 1 (gl187.map SR), .sl gv188 312 2 (gl189.map Twrite.row), .sl gv35 9 1 (l84.map SR), .sl gv37 9 1 (gl38.map SR)]) [] (by kernel_rfl) rfl (Zc.fin (fun _ hw => hw))) rfl rfl rfl ?_
                      refine V2.y (i := 26) (Nx2.of (Z := Cls w [] [.sl v108 9 1 (l109.map SR), .sl (sv b107 1) 9 1 (([x103]).map SR), .sl v105 3 1 (l106.map I), .sl (sv b104 1) 3 1 (([x14.N]).map I), .obj b17 [.int .i64 x14.Kind, .int .i64 x14.N, st x14.Text, gv (q1 gx29.toNat) 0] 32, .obj b15 [.int .i64 x14.Kind, .int .i64 x14.N, st x14.Text, gv (q1 gx29.toNat) 0] 32, .obj gb1 [gv2, gv4, gv188, .int .i64 gx190] 167, .sl gv2 9 1 (gl30.map SR), .sl gv4 9 1 (gl187.map SR), .sl gv188 312 2 (gl189.map Twrite.row), .sl gv35 9 1 (l84.map SR), .sl gv37 9 1 (gl38.map SR)]) [] (by kernel_rfl) rfl (Zc.fin (fun _ hw => hw))) rfl rfl rfl (Y.fieldP fd38_3 rfl) ?_
                      refine V2.eff (i := 27) (by kernel_rfl) rfl ?_
                      refine L.storeV (i := 7) sz35 rfl rfl (fun _ hw => (As.at_ (hw.get (i := 0) rfl)).one) rfl (Nat.le_of_ble_eq_true rfl) ?_
                      refine L.nil (E.toV2 (stC [] [] (Cls w [] [.sl v108 9 1 (l109.map SR), .sl (sv b107 1) 9 1 (([x103]).map SR), .sl v105 3 1 (l106.map I), .sl (sv b104 1) 3 1 (([x14.N]).map I), .obj b17 [.int .i64 x14.Kind, .int .i64 x14.N, st x14.Text, gv (q1 gx29.toNat) 0] 32, .obj b15 [.int .i64 x14.Kind, .int .i64 x14.N, st x14.Text, gv (q1 gx29.toNat) 0] 32, .obj gb1 [gv2, gv4, gv188, .int .i64 gx190] 167, .sl gv2 9 1 (gl30.map SR), .sl gv4 9 1 (gl187.map SR), .sl gv188 312 2 (gl189.map Twrite.row), .sl gv35 9 1 (l84.map SR), .sl gv37 9 1 (gl38.map SR)])) 27 (by kernel_rfl) (Sc.stayD (fun _ hw => hw)) (Sc.atD (fun _ hw => hw.sel [0, 1, 2, 3, 4, 5, 6, 8, 9, 10, 11, 12] (by decide) rfl)) ?_)
                      refine V2.done (by kernel_rfl) ?_
                      exact E.joinJ ⟨v105, l106, v108, l109, rfl, rfl, h⟩ trivial (fun _ hw => hw.sel [4, 5, 6, 7, 8, 9, 10, 11, 12, 2, 0] (by decide) rfl)
                     ·
                      refine L.litOne rfl Try.underlying35 el9 rfl rfl ?_
                      intro b110
                      refine L.nil (E.toV2 (stC [[8, 21, 24], [21, 24], [24]] [Cls w [] [.sl (sv b110 1) 9 1 (([x103]).map SR), .sl (sv b104 1) 3 1 (([x14.N]).map I), .obj b17 [.int .i64 x14.Kind, .int .i64 x14.N, st x14.Text, gv (q1 gx29.toNat) 0] 32, .obj b15 [.int .i64 x14.Kind, .int .i64 x14.N, st x14.Text, gv (q1 gx29.toNat) 0] 32, .obj gb1 [gv2, gv4, gv188, .int .i64 gx190] 167, .obj gb7 [gv35, gv37, gv39, gv41, .int .i64 (max x72 (min gx43 (-1)))] 38, .sl gv2 9 1 (gl30.map SR), .sl gv4 9 1 (gl187.map SR), .sl gv188 312 2 (gl189.map Twrite.row), .sl gv35 9 1 (l84.map SR), .sl gv37 9 1 (gl38.map SR), .sl gv39 3 1 (gl40.map I), .sl gv41 9 1 (gl42.map SR)], Cls w [] [.sl (sv b110 1) 9 1 (([x103]).map SR), .sl (sv b104 1) 3 1 (([x14.N]).map I), .obj b17 [.int .i64 x14.Kind, .int .i64 x14.N, st x14.Text, gv (q1 gx29.toNat) 0] 32, .obj b15 [.int .i64 x14.Kind, .int .i64 x14.N, st x14.Text, gv (q1 gx29.toNat) 0] 32, .obj gb1 [gv2, gv4, gv188, .int .i64 gx190] 167, .obj gb7 [gv35, gv37, gv39, gv41, .int .i64 (max x72 (min gx43 (-1)))] 38, .sl gv2 9 1 (gl30.map SR), .sl gv4 9 1 (gl187.map SR), .sl gv188 312 2 (gl189.map Twrite.row), .sl gv35 9 1 (l84.map SR), .sl gv37 9 1 (gl38.map SR), .sl gv41 9 1 (gl42.map SR)], Cls w [] [.sl (sv b110 1) 9 1 (([x103]).map SR), .sl (sv b104 1) 3 1 (([x14.N]).map I), .obj b17 [.int .i64 x14.Kind, .int .i64 x14.N, st x14.Text, gv (q1 gx29.toNat) 0] 32, .obj b15 [.int .i64 x14.Kind, .int .i64 x14.N, st x14.Text, gv (q1 gx29.toNat) 0] 32, .obj gb1 [gv2, gv4, gv188, .int .i64 gx190] 167, .obj gb7 [gv35, gv37, gv39, gv41, .int .i64 (max x72 (min gx43 (-1)))] 38, .sl gv2 9 1 (gl30.map SR), .sl gv4 9 1 (gl187.map SR), .sl gv188 312 2 (gl189.map Twrite.row), .sl gv35 9 1 (l84.map SR), .sl gv37 9 1 (gl38.map SR)]] (Cls w [] [.sl (sv b110 1) 9 1 (([x103]).map SR), .sl (sv b104 1) 3 1 (([x14.N]).map I), .obj b17 [.int .i64 x14.Kind, .int .i64 x14.N, st x14.Text, gv (q1 gx29.toNat) 0] 32, .obj b15 [.int .i64 x14.Kind, .int .i64 x14.N, st x14.Text, gv (q1 gx29.toNat) 0] 32, .obj gb1 [gv2, gv4, gv188, .int .i64 gx190] 167, .sl gv2 9 1 (gl30.map SR), .sl gv4 9 1 (gl187.map SR), .sl gv188 312 2 (gl189.map Twrite.row), .sl gv35 9 1 (l84.map SR), .sl gv37 9 1 (gl38.map SR)])) 20 (by kernel_rfl) (Sc.stay (fun _ hw => hw.sel [1, 2, 3, 4, 5, 6, 7, 8, 9, 10, 11, 12] (by decide) rfl) (Sc.stay (fun _ hw => hw.sel [1, 2, 3, 4, 5, 6, 7, 8, 9, 10, 11] (by decide) rfl) (Sc.stay (fun _ hw => hw.sel [1, 2, 3, 4, 5, 6, 7, 8, 9, 10] (by decide) rfl) (Sc.stayD (fun _ hw => hw.sel [1, 2, 3, 4, 5, 6, 7, 8, 9] (by decide) rfl))))) (Sc.now (by kernel_rfl) (fun _ hw => hw)) ?_)
                      refine V2.eff (i := 8) (by kernel_rfl) rfl ?_
                      refine L.appM (i := 11) (g := I) (l := gl40) (more := [x14.N]) h rfl Try.underlying36 el3 rfl rfl rfl (fun w hw => As.at_ (hw.get (i := 1) rfl)) (plain_ints _) rfl ?_
                      intro v111 l112 el112 h
                      refine L.nil (E.toV2 (stC [[21, 24], [24]] [Cls w [] [.sl v111 3 1 (l112.map I), .sl (sv b110 1) 9 1 (([x103]).map SR), .sl (sv b104 1) 3 1 (([x14.N]).map I), .obj b17 [.int .i64 x14.Kind, .int .i64 x14.N, st x14.Text, gv (q1 gx29.toNat) 0] 32, .obj b15 [.int .i64 x14.Kind, .int .i64 x14.N, st x14.Text, gv (q1 gx29.toNat) 0] 32, .obj gb1 [gv2, gv4, gv188, .int .i64 gx190] 167, .obj gb7 [gv35, gv37, gv39, gv41, .int .i64 (max x72 (min gx43 (-1)))] 38, .sl gv2 9 1 (gl30.map SR), .sl gv4 9 1 (gl187.map SR), .sl gv188 312 2 (gl189.map Twrite.row), .sl gv35 9 1 (l84.map SR), .sl gv37 9 1 (gl38.map SR), .sl gv41 9 1 (gl42.map SR)], Cls w [] [.sl v111 3 1 (l112.map I), .sl (sv b110 1) 9 1 (([x103]).map SR), .sl (sv b104 1) 3 1 (([x14.N]).map I), .obj b17 [.int .i64 x14.Kind, .int .i64 x14.N, st x14.Text, gv (q1 gx29.toNat) 0] 32, .obj b15 [.int .i64 x14.Kind, .int .i64 x14.N, st x14.Text, gv (q1 gx29.toNat) 0] 32, .obj gb1 [gv2, gv4, gv188, .int .i64 gx190] 167, .obj gb7 [gv35, gv37, gv39, gv41, .int .i64 (max x72 (min gx43 (-1)))] 38, .sl gv2 9 1 (gl30.map SR), .sl gv4 9 1 (gl187.map SR), .sl gv188 312 2 (gl189.map Twrite.row), .sl gv35 9 1 (l84.map SR), .sl gv37 9 1 (gl38.map SR)]] (Cls w [] [.sl v111 3 1 (l112.map I), .sl (sv b110 1) 9 1 (([x103]).map SR), .sl (sv b104 1) 3 1 (([x14.N]).map I), .obj b17 [.int .i64 x14.Kind, .int .i64 x14.N, st x14.Text, gv (q1 gx29.toNat) 0] 32, .obj b15 [.int .i64 x14.Kind, .int .i64 x14.N, st x14.Text, gv (q1 gx29.toNat) 0] 32, .obj gb1 [gv2, gv4, gv188, .int .i64 gx190] 167, .sl gv2 9 1 (gl30.map SR), .sl gv4 9 1 (gl187.map SR), .sl gv188 312 2 (gl189.map Twrite.row), .sl gv35 9 1 (l84.map SR), .sl gv37 9 1 (gl38.map SR)])) 8 (by kernel_rfl) (Sc.past rfl (Sc.stay (fun _ hw => hw.sel [1, 2, 3, 4, 5, 6, 7, 8, 9, 10, 11, 12] (by decide) rfl) (Sc.stay (fun _ hw => hw.sel [1, 2, 3, 4, 5, 6, 7, 8, 9, 10, 11] (by decide) rfl) (Sc.stayD (fun _ hw => hw.sel [1, 2, 3, 4, 5, 6, 7, 8, 9, 10] (by decide) rfl))))) (Sc.now (by kernel_rfl) (fun _ hw => hw)) ?_)
                      refine V2.eff (i := 21) (by kernel_rfl) rfl ?_
                      refine L.appM (i := 12) (g := SR) (l := gl42) (more := [x103]) h rfl Try.underlying35 el9 rfl rfl rfl (fun w hw => As.at_ (hw.get (i := 1) rfl)) (plain_SR _) rfl ?_
                      intro v113 l114 el114 h
                      refine L.nil (E.toV2 (stC [[24]] [Cls w [] [.sl v113 9 1 (l114.map SR), .sl v111 3 1 (l112.map I), .sl (sv b110 1) 9 1 (([x103]).map SR), .sl (sv b104 1) 3 1 (([x14.N]).map I), .obj b17 [.int .i64 x14.Kind, .int .i64 x14.N, st x14.Text, gv (q1 gx29.toNat) 0] 32, .obj b15 [.int .i64 x14.Kind, .int .i64 x14.N, st x14.Text, gv (q1 gx29.toNat) 0] 32, .obj gb1 [gv2, gv4, gv188, .int .i64 gx190] 167, .obj gb7 [gv35, gv37, gv39, gv41, .int .i64 (max x72 (min gx43 (-1)))] 38, .sl gv2 9 1 (gl30.map SR), .sl gv4 9 1 (gl187.map SR), .sl gv188 312 2 (gl189.map Twrite.row), .sl gv35 9 1 (l84.map SR), .sl gv37 9 1 (gl38.map SR)]] (Cls w [] [.sl v113 9 1 (l114.map SR), .sl v111 3 1 (l112.map I), .sl (sv b110 1) 9 1 (([x103]).map SR), .sl (sv b104 1) 3 1 (([x14.N]).map I), .obj b17 [.int .i64 x14.Kind, .int .i64 x14.N, st x14.Text, gv (q1 gx29.toNat) 0] 32, .obj b15 [.int .i64 x14.Kind, .int .i64 x14.N, st x14.Text, gv (q1 gx29.toNat) 0] 32, .obj gb1 [gv2, gv4, gv188, .int .i64 gx190] 167, .sl gv2 9 1 (gl30.map SR), .sl gv4 9 1 (gl187.map SR), .sl gv188 312 2 (gl189.map Twrite.row), .sl gv35 9 1 (l84.map SR), .sl gv37 9 1 (gl38.map SR)])) 21 (by kernel_rfl) (Sc.past rfl (Sc.stay (fun _ hw => hw.sel [1, 2, 3, 4, 5, 6, 7, 8, 9, 10, 11, 12] (by decide) rfl) (Sc.stayD (fun _ hw => hw.sel [1, 2, 3, 4, 5, 6, 7, 8, 9, 10, 11] (by decide) rfl)))) (Sc.now (by kernel_rfl) (fun _ hw => hw)) ?_)
                      refine V2.nilc (i := 22) (Nx2.of (Z := Cls w [] [.sl v113 9 1 (l114.map SR), .sl v111 3 1 (l112.map I), .sl (sv b110 1) 9 1 (([x103]).map SR), .sl (sv b104 1) 3 1 (([x14.N]).map I), .obj b17 [.int .i64 x14.Kind, .int .i64 x14.N, st x14.Text, gv (q1 gx29.toNat) 0] 32, .obj b15 [.int .i64 x14.Kind, .int .i64 x14.N, st x14.Text, gv (q1 gx29.toNat) 0] 32, .obj gb1 [gv2, gv4, gv188, .int .i64 gx190] 167, .sl gv2 9 1 (gl30.map SR), .sl gv4 9 1 (gl187.map SR), .sl gv188 312 2 (gl189.map Twrite.row), .sl gv35 9 1 (l84.map SR), .sl gv37 9 1 (gl38.map SR)]) [] (by kernel_rfl) rfl (Zc.on (fun _ hw => hw.sel [0, 1, 2, 3, 4, 5, 6, 8, 9, 10, 11, 12] (by decide) rfl) (Zc.fin (fun _ hw => hw)))) rfl rfl rfl ?_
                      refine V2.y (i := 23) (Nx2.of (Z := Cls w [] [.sl v113 9 1 (l114.map SR), .sl v111 3 1 (l112.map I), .sl (sv b110 1) 9 1 (([x103]).map SR), .sl (sv b104 1) 3 1 (([x14.N]).map I), .obj b17 [.int .i64 x14.Kind, .int .i64 x14.N, st x14.Text, gv (q1 gx29.toNat) 0] 32, .obj b15 [.int .i64 x14.Kind, .int .i64 x14.N, st x14.Text, gv (q1 gx29.toNat) 0] 32, .obj gb1 [gv2, gv4, gv188, .int .i64 gx190] 167, .sl gv2 9 1 (gl30.map SR), .sl gv4 9 1 (gl187.map SR), .sl gv188 312 2 (gl189.map Twrite.row), .sl gv35 9 1 (l84.map SR), .sl gv37 9 1 (gl38.map SR)]) [] (by kernel_rfl) rfl (Zc.on (fun _ hw => hw.sel [0, 1, 2, 3, 4, 5, 6, 8, 9, 10, 11, 12] (by decide) rfl) (Zc.fin (fun _ hw => hw)))) rfl rfl rfl (Y.fieldP fd38_2 rfl) ?_
                      refine V2.eff (i := 24) (by kernel_rfl) rfl ?_
                      refine L.storeV (i := 7) sz36 rfl rfl (fun _ hw => (As.at_ (hw.get (i := 1) rfl)).one) rfl (Nat.le_of_ble_eq_true rfl) ?_
                      refine L.nil (E.toV2 (stC [] [] (Cls w [] [.sl v113 9 1 (l114.map SR), .sl v111 3 1 (l112.map I), .sl (sv b110 1) 9 1 (([x103]).map SR), .sl (sv b104 1) 3 1 (([x14.N]).map I), .obj b17 [.int .i64 x14.Kind, .int .i64 x14.N, st x14.Text, gv (q1 gx29.toNat) 0] 32, .obj b15 [.int .i64 x14.Kind, .int .i64 x14.N, st x14.Text, gv (q1 gx29.toNat) 0] 32, .obj gb1 [gv2, gv4, gv188, .int .i64 gx190] 167, .sl gv2 9 1 (gl30.map SR), .sl gv4 9 1 (gl187.map SR), .sl gv188 312 2 (gl189.map Twrite.row), .sl gv35 9 1 (l84.map SR), .sl gv37 9 1 (gl38.map SR)])) 24 (by kernel_rfl) (Sc.past rfl (Sc.stayD (fun _ hw => hw))) (Sc.atD (fun _ hw => hw.sel [0, 1, 2, 3, 4, 5, 6, 8, 9, 10, 11, 12] (by decide) rfl)) ?_)
                      refine V2.nilc (i := 25) (Nx2.of (Z := Cls w [] [.sl v113 9 1 (l114.map SR), .sl v111 3 1 (l112.map I), .sl (sv b110 1) 9 1 (([x103]).map SR), .sl (sv b104 1) 3 1 (([x14.N]).map I), .obj b17 [.int .i64 x14.Kind, .int .i64 x14.N, st x14.Text, gv (q1 gx29.toNat) 0] 32, .obj b15 [.int .i64 x14.Kind, .int .i64 x14.N, st x14.Text, gv (q1 gx29.toNat) 0] 32, .obj gb1 [gv2, gv4, gv188, .int .i64 gx190] 167, .sl gv2 9 1 (gl30.map SR), .sl gv4 9 1 (gl187.map SR), .sl gv188 312 2 (gl189.map Twrite.row), .sl gv35 9 1 (l84.map SR), .sl gv37 9 1 (gl38.map SR)]) [] (by kernel_rfl) rfl (Zc.fin (fun _ hw => hw))) rfl rfl rfl ?_
                      refine V2.y (i := 26) (Nx2.of (Z := Cls w [] [.sl v113 9 1 (l114.map SR), .sl v111 3 1 (l112.map I), .sl (sv b110 1) 9 1 (([x103]).map SR), .sl (sv b104 1) 3 1 (([x14.N]).map I), .obj b17 [.int .i64 x14.Kind, .int .i64 x14.N, st x14.Text, gv (q1 gx29.toNat) 0] 32, .obj b15 [.int .i64 x14.Kind, .int .i64 x14.N, st x14.Text, gv (q1 gx29.toNat) 0] 32, .obj gb1 [gv2, gv4, gv188, .int .i64 gx190] 167, .sl gv2 9 1 (gl30.map SR), .sl gv4 9 1 (gl187.map SR), .sl gv188 312 2 (gl189.map Twrite.row), .sl gv35 9 1 (l84.map SR), .sl gv37 9 1 (gl38.map SR)]) [] (by kernel_rfl) rfl (Zc.fin (fun _ hw => hw))) rfl rfl rfl (Y.fieldP fd38_3 rfl) ?_
                      refine V2.eff (i := 27) (by kernel_rfl) rfl ?_
                      refine L.storeV (i := 7) sz35 rfl rfl (fun _ hw => (As.at_ (hw.get (i := 0) rfl)).one) rfl (Nat.le_of_ble_eq_true rfl) ?_
                      refine L.nil (E.toV2 (stC [] [] (Cls w [] [.sl v113 9 1 (l114.map SR), .sl v111 3 1 (l112.map I), .sl (sv b110 1) 9 1 (([x103]).map SR), .sl (sv b104 1) 3 1 (([x14.N]).map I), .obj b17 [.int .i64 x14.Kind, .int .i64 x14.N, st x14.Text, gv (q1 gx29.toNat) 0] 32, .obj b15 [.int .i64 x14.Kind, .int .i64 x14.N, st x14.Text, gv (q1 gx29.toNat) 0] 32, .obj gb1 [gv2, gv4, gv188, .int .i64 gx190] 167, .sl gv2 9 1 (gl30.map SR), .sl gv4 9 1 (gl187.map SR), .sl gv188 312 2 (gl189.map Twrite.row), .sl gv35 9 1 (l84.map SR), .sl gv37 9 1 (gl38.map SR)])) 27 (by kernel_rfl) (Sc.stayD (fun _ hw => hw)) (Sc.atD (fun _ hw => hw.sel [0, 1, 2, 3, 4, 5, 6, 8, 9, 10, 11, 12] (by decide) rfl)) ?_)
                      refine V2.done (by kernel_rfl) ?_
                      exact E.joinJ ⟨v111, l112, v113, l114, rfl, rfl, h⟩ trivial (fun _ hw => hw.sel [4, 5, 6, 7, 8, 9, 10, 11, 12, 1, 0] (by decide) rfl)
                    ·
                     refine L.litOne rfl Try.underlying35 el9 rfl rfl ?_
                     intro b115
                     refine L.nil (E.toV2 (stC [[8, 21, 24], [21, 24], [24]] [Cls w [] [.sl (sv b115 1) 9 1 (([x103]).map SR), .obj b17 [.int .i64 x14.Kind, .int .i64 x14.N, st x14.Text, gv (q1 gx29.toNat) 0] 32, .obj b15 [.int .i64 x14.Kind, .int .i64 x14.N, st x14.Text, gv (q1 gx29.toNat) 0] 32, .obj gb1 [gv2, gv4, gv188, .int .i64 gx190] 167, .obj gb7 [gv35, gv37, gv39, gv41, .int .i64 (max x72 (min gx43 (-1)))] 38, .sl gv2 9 1 (gl30.map SR), .sl gv4 9 1 (gl187.map SR), .sl gv188 312 2 (gl189.map Twrite.row), .sl gv35 9 1 (l84.map SR), .sl gv37 9 1 (gl38.map SR), .sl gv39 3 1 (gl40.map I), .sl gv41 9 1 (gl42.map SR)], Cls w [] [.sl (sv b115 1) 9 1 (([x103]).map SR), .obj b17 [.int .i64 x14.Kind, .int .i64 x14.N, st x14.Text, gv (q1 gx29.toNat) 0] 32, .obj b15 [.int .i64 x14.Kind, .int .i64 x14.N, st x14.Text, gv (q1 gx29.toNat) 0] 32, .obj gb1 [gv2, gv4, gv188, .int .i64 gx190] 167, .obj gb7 [gv35, gv37, gv39, gv41, .int .i64 (max x72 (min gx43 (-1)))] 38, .sl gv2 9 1 (gl30.map SR), .sl gv4 9 1 (gl187.map SR), .sl gv188 312 2 (gl189.map Twrite.row), .sl gv35 9 1 (l84.map SR), .sl gv37 9 1 (gl38.map SR), .sl gv41 9 1 (gl42.map SR)], Cls w [] [.sl (sv b115 1) 9 1 (([x103]).map SR), .obj b17 [.int .i64 x14.Kind, .int .i64 x14.N, st x14.Text, gv (q1 gx29.toNat) 0] 32, .obj b15 [.int .i64 x14.Kind, .int .i64 x14.N, st x14.Text, gv (q1 gx29.toNat) 0] 32, .obj gb1 [gv2, gv4, gv188, .int .i64 gx190] 167, .obj gb7 [gv35, gv37, gv39, gv41, .int .i64 (max x72 (min gx43 (-1)))] 38, .sl gv2 9 1 (gl30.map SR), .sl gv4 9 1 (gl187.map SR), .sl gv188 312 2 (gl189.map Twrite.row), .sl gv35 9 1 (l84.map SR), .sl gv37 9 1 (gl38.map SR)]] (Cls w [] [.sl (sv b115 1) 9 1 (([x103]).map SR), .obj b17 [.int .i64 x14.Kind, .int .i64 x14.N, st x14.Text, gv (q1 gx29.toNat) 0] 32, .obj b15 [.int .i64 x14.Kind, .int .i64 x14.N, st x14.Text, gv (q1 gx29.toNat) 0] 32, .obj gb1 [gv2, gv4, gv188, .int .i64 gx190] 167, .sl gv2 9 1 (gl30.map SR), .sl gv4 9 1 (gl187.map SR), .sl gv188 312 2 (gl189.map Twrite.row), .sl gv35 9 1 (l84.map SR), .sl gv37 9 1 (gl38.map SR)])) 20 (by kernel_rfl) (Sc.stay (fun _ hw => hw.sel [1, 2, 3, 4, 5, 6, 7, 8, 9, 10, 11] (by decide) rfl) (Sc.stay (fun _ hw => hw.sel [1, 2, 3, 4, 5, 6, 7, 8, 9, 10] (by decide) rfl) (Sc.stay (fun _ hw => hw.sel [1, 2, 3, 4, 5, 6, 7, 8, 9] (by decide) rfl) (Sc.stayD (fun _ hw => hw.sel [1, 2, 3, 4, 5, 6, 7, 8] (by decide) rfl))))) (Sc.now (by kernel_rfl) (fun _ hw => hw)) ?_)
                     refine V2.eff (i := 7) (by kernel_rfl) rfl ?_
                     refine L.litOne rfl Try.underlying36 el3 rfl rfl ?_
                     intro b116
                     refine L.nil (E.toV2 (stC [[8, 21, 24], [21, 24], [24]] [Cls w [] [.sl (sv b116 1) 3 1 (([x14.N]).map I), .sl (sv b115 1) 9 1 (([x103]).map SR), .obj b17 [.int .i64 x14.Kind, .int .i64 x14.N, st x14.Text, gv (q1 gx29.toNat) 0] 32, .obj b15 [.int .i64 x14.Kind, .int .i64 x14.N, st x14.Text, gv (q1 gx29.toNat) 0] 32, .obj gb1 [gv2, gv4, gv188, .int .i64 gx190] 167, .obj gb7 [gv35, gv37, gv39, gv41, .int .i64 (max x72 (min gx43 (-1)))] 38, .sl gv2 9 1 (gl30.map SR), .sl gv4 9 1 (gl187.map SR), .sl gv188 312 2 (gl189.map Twrite.row), .sl gv35 9 1 (l84.map SR), .sl gv37 9 1 (gl38.map SR), .sl gv39 3 1 (gl40.map I), .sl gv41 9 1 (gl42.map SR)], Cls w [] [.sl (sv b116 1) 3 1 (([x14.N]).map I), .sl (sv b115 1) 9 1 (([x103]).map SR), .obj b17 [.int .i64 x14.Kind, .int .i64 x14.N, st x14.Text, gv (q1 gx29.toNat) 0] 32, .obj b15 [.int .i64 x14.Kind, .int .i64 x14.N, st x14.Text, gv (q1 gx29.toNat) 0] 32, .obj gb1 [gv2, gv4, gv188, .int .i64 gx190] 167, .obj gb7 [gv35, gv37, gv39, gv41, .int .i64 (max x72 (min gx43 (-1)))] 38, .sl gv2 9 1 (gl30.map SR), .sl gv4 9 1 (gl187.map SR), .sl gv188 312 2 (gl189.map Twrite.row), .sl gv35 9 1 (l84.map SR), .sl gv37 9 1 (gl38.map SR), .sl gv41 9 1 (gl42.map SR)], Cls w [] [.sl (sv b116 1) 3 1 (([x14.N]).map I), .sl (sv b115 1) 9 1 (([x103]).map SR), .obj b17 [.int .i64 x14.Kind, .int .i64 x14.N, st x14.Text, gv (q1 gx29.toNat) 0] 32, .obj b15 [.int .i64 x14.Kind, .int .i64 x14.N, st x14.Text, gv (q1 gx29.toNat) 0] 32, .obj gb1 [gv2, gv4, gv188, .int .i64 gx190] 167, .obj gb7 [gv35, gv37, gv39, gv41, .int .i64 (max x72 (min gx43 (-1)))] 38, .sl gv2 9 1 (gl30.map SR), .sl gv4 9 1 (gl187.map SR), .sl gv188 312 2 (gl189.map Twrite.row), .sl gv35 9 1 (l84.map SR), .sl gv37 9 1 (gl38.map SR)]] (Cls w [] [.sl (sv b116 1) 3 1 (([x14.N]).map I), .sl (sv b115 1) 9 1 (([x103]).map SR), .obj b17 [.int .i64 x14.Kind, .int .i64 x14.N, st x14.Text, gv (q1 gx29.toNat) 0] 32, .obj b15 [.int .i64 x14.Kind, .int .i64 x14.N, st x14.Text, gv (q1 gx29.toNat) 0] 32, .obj gb1 [gv2, gv4, gv188, .int .i64 gx190] 167, .sl gv2 9 1 (gl30.map SR), .sl gv4 9 1 (gl187.map SR), .sl gv188 312 2 (gl189.map Twrite.row), .sl gv35 9 1 (l84.map SR), .sl gv37 9 1 (gl38.map SR)])) 7 (by kernel_rfl) (Sc.stay (fun _ hw => hw.sel [1, 2, 3, 4, 5, 6, 7, 8, 9, 10, 11, 12] (by decide) rfl) (Sc.stay (fun _ hw => hw.sel [1, 2, 3, 4, 5, 6, 7, 8, 9, 10, 11] (by decide) rfl) (Sc.stay (fun _ hw => hw.sel [1, 2, 3, 4, 5, 6, 7, 8, 9, 10] (by decide) rfl) (Sc.stayD (fun _ hw => hw.sel [1, 2, 3, 4, 5, 6, 7, 8, 9] (by decide) rfl))))) (Sc.now (by kernel_rfl) (fun _ hw => hw)) ?_)
                     refine V2.eff (i := 8) (by kernel_rfl) rfl ?_
                     refine L.appM (i := 11) (g := I) (l := gl40) (more := [x14.N]) h rfl Try.underlying36 el3 rfl rfl rfl (fun w hw => As.at_ (hw.get (i := 0) rfl)) (plain_ints _) rfl ?_
                     intro v117 l118 el118 h
                     refine L.nil (E.toV2 (stC [[21, 24], [24]] [Cls w [] [.sl v117 3 1 (l118.map I), .sl (sv b116 1) 3 1 (([x14.N]).map I), .sl (sv b115 1) 9 1 (([x103]).map SR), .obj b17 [.int .i64 x14.Kind, .int .i64 x14.N, st x14.Text, gv (q1 gx29.toNat) 0] 32, .obj b15 [.int .i64 x14.Kind, .int .i64 x14.N, st x14.Text, gv (q1 gx29.toNat) 0] 32, .obj gb1 [gv2, gv4, gv188, .int .i64 gx190] 167, .obj gb7 [gv35, gv37, gv39, gv41, .int .i64 (max x72 (min gx43 (-1)))] 38, .sl gv2 9 1 (gl30.map SR), .sl gv4 9 1 (gl187.map SR), .sl gv188 312 2 (gl189.map Twrite.row), .sl gv35 9 1 (l84.map SR), .sl gv37 9 1 (gl38.map SR), .sl gv41 9 1 (gl42.map SR)], Cls w [] [.sl v117 3 1 (l118.map I), .sl (sv b116 1) 3 1 (([x14.N]).map I), .sl (sv b115 1) 9 1 (([x103]).map SR), .obj b17 [.int .i64 x14.Kind, .int .i64 x14.N, st x14.Text, gv (q1 gx29.toNat) 0] 32, .obj b15 [.int .i64 x14.Kind, .int .i64 x14.N, st x14.Text, gv (q1 gx29.toNat) 0] 32, .obj gb1 [gv2, gv4, gv188, .int .i64 gx190] 167, .obj gb7 [gv35, gv37, gv39, gv41, .int .i64 (max x72 (min gx43 (-1)))] 38, .sl gv2 9 1 (gl30.map SR), .sl gv4 9 1 (gl187.map SR), .sl gv188 312 2 (gl189.map Twrite.row), .sl gv35 9 1 (l84.map SR), .sl gv37 9 1 (gl38.map SR)]] (Cls w [] [.sl v117 3 1 (l118.map I), .sl (sv b116 1) 3 1 (([x14.N]).map I), .sl (sv b115 1) 9 1 (([x103]).map SR), .obj b17 [.int .i64 x14.Kind, .int .i64 x14.N, st x14.Text, gv (q1 gx29.toNat) 0] 32, .obj b15 [.int .i64 x14.Kind, .int .i64 x14.N, st x14.Text, gv (q1 gx29.toNat) 0] 32, .obj gb1 [gv2, gv4, gv188, .int .i64 gx190] 167, .sl gv2 9 1 (gl30.map SR), .sl gv4 9 1 (gl187.map SR), .sl gv188 312 2 (gl189.map Twrite.row), .sl gv35 9 1 (l84.map SR), .sl gv37 9 1 (gl38.map SR)])) 8 (by kernel_rfl) (Sc.past rfl (Sc.stay (fun _ hw => hw.sel [1, 2, 3, 4, 5, 6, 7, 8, 9, 10, 11, 12] (by decide) rfl) (Sc.stay (fun _ hw => hw.sel [1, 2, 3, 4, 5, 6, 7, 8, 9, 10, 11] (by decide) rfl) (Sc.stayD (fun _ hw => hw.sel [1, 2, 3, 4, 5, 6, 7, 8, 9, 10] (by decide) rfl))))) (Sc.now (by kernel_rfl) (fun _ hw => hw)) ?_)
                     refine V2.eff (i := 21) (by kernel_rfl) rfl ?_
                     refine L.appM (i := 12) (g := SR) (l := gl42) (more := [x103]) h rfl Try.underlying35 el9 rfl rfl rfl (fun w hw => As.at_ (hw.get (i := 2) rfl)) (plain_SR _) rfl ?_
                     intro v119 l120 el120 h
                     refine L.nil (E.toV2 (stC [[24]] [Cls w [] [.sl v119 9 1 (l120.map SR), .sl v117 3 1 (l118.map I), .sl (sv b116 1) 3 1 (([x14.N]).map I), .sl (sv b115 1) 9 1 (([x103]).map SR), .obj b17 [.int .i64 x14.Kind, .int .i64 x14.N, st x14.Text, gv (q1 gx29.toNat) 0] 32, .obj b15 [.int .i64 x14.Kind, .int .i64 x14.N, st x14.Text, gv (q1 gx29.toNat) 0] 32, .obj gb1 [gv2, gv4, gv188, .int .i64 gx190] 167, .obj gb7 [gv35, gv37, gv39, gv41, .int .i64 (max x72 (min gx43 (-1)))] 38, .sl gv2 9 1 (gl30.map SR), .sl gv4 9 1 (gl187.map SR), .sl gv188 312 2 (gl189.map Twrite.row), .sl gv35 9 1 (l84.map SR), .sl gv37 9 1 (gl38.map SR)]] (Cls w [] [.sl v119 9 1 (l120.map SR), .sl v117 3 1 (l118.map I), .sl (sv b116 1) 3 1 (([x14.N]).map I), .sl (sv b115 1) 9 1 (([x103]).map SR), .obj b17 [.int .i64 x14.Kind, .int .i64 x14.N, st x14.Text, gv (q1 gx29.toNat) 0] 32, .obj b15 [.int .i64 x14.Kind, .int .i64 x14.N, st x14.Text, gv (q1 gx29.toNat) 0] 32, .obj gb1 [gv2, gv4, gv188, .int .i64 gx190] 167, .sl gv2 9 1 (gl30.map SR), .sl gv4 9 1 (gl187.map SR), .sl gv188 312 2 (gl189.map Twrite.row), .sl gv35 9 1 (l84.map SR), .sl gv37 9 1 (gl38.map SR)])) 21 (by kernel_rfl) (Sc.past rfl (Sc.stay (fun _ hw => hw.sel [1, 2, 3, 4, 5, 6, 7, 8, 9, 10, 11, 12] (by decide) rfl) (Sc.stayD (fun _ hw => hw.sel [1, 2, 3, 4, 5, 6, 7, 8, 9, 10, 11] (by decide) rfl)))) (Sc.now (by kernel_rfl) (fun _ hw => hw)) ?_)
                     refine V2.nilc (i := 22) (Nx2.of (Z := Cls w [] [.sl v119 9 1 (l120.map SR), .sl v117 3 1 (l118.map I), .sl (sv b116 1) 3 1 (([x14.N]).map I), .sl (sv b115 1) 9 1 (([x103]).map SR), .obj b17 [.int .i64 x14.Kind, .int .i64 x14.N, st x14.Text, gv (q1 gx29.toNat) 0] 32, .obj b15 [.int .i64 x14.Kind, .int .i64 x14.N, st x14.Text, gv (q1 gx29.toNat) 0] 32, .obj gb1 [gv2, gv4, gv188, .int .i64 gx190] 167, .sl gv2 9 1 (gl30.map SR), .sl gv4 9 1 (gl187.map SR), .sl gv188 312 2 (gl189.map Twrite.row), .sl gv35 9 1 (l84.map SR), .sl gv37 9 1 (gl38.map SR)]) [] (by kernel_rfl) rfl (Zc.on (fun _ hw => hw.sel [0, 1, 2, 3, 4, 5, 6, 8, 9, 10, 11, 12] (by decide) rfl) (Zc.fin (fun _ hw => hw)))) rfl rfl rfl ?_
                     refine V2.y (i := 23) (Nx2.of (Z := Cls w [] [.sl v119 9 1 (l120.map SR), .sl v117 3 1 (l118.map I), .sl (sv b116 1) 3 1 (([x14.N]).map I), .sl (sv b115 1) 9 1 (([x103]).map SR), .obj b17 [.int .i64 x14.Kind, .int .i64 x14.N, st x14.Text, gv (q1 gx29.toNat) 0] 32, .obj b15 [.int .i64 x14.Kind, .int .i64 x14.N, st x14.Text, gv (q1 gx29.toNat) 0] 32, .obj gb1 [gv2, gv4, gv188, .int .i64 gx190] 167, .sl gv2 9 1 (gl30.map SR), .sl gv4 9 1 (gl187.map SR), .sl gv188 312 2 (gl189.map Twrite.row), .sl gv35 9 1 (l84.map SR), .sl gv37 9 1 (gl38.map SR)]) [] (by kernel_rfl) rfl (Zc.on (fun _ hw => hw.sel [0, 1, 2, 3, 4, 5, 6, 8, 9, 10, 11, 12] (by decide) rfl) (Zc.fin (fun _ hw => hw)))) rfl rfl rfl (Y.fieldP fd38_2 rfl) ?_
                     refine V2.eff (i := 24) (by kernel_rfl) rfl ?_
                     refine L.storeV (i := 7) sz36 rfl rfl (fun _ hw => (As.at_ (hw.get (i := 1) rfl)).one) rfl (Nat.le_of_ble_eq_true rfl) ?_
                     refine L.nil (E.toV2 (stC [] [] (Cls w [] [.sl v119 9 1 (l120.map SR), .sl v117 3 1 (l118.map I), .sl (sv b116 1) 3 1 (([x14.N]).map I), .sl (sv b115 1) 9 1 (([x103]).map SR), .obj b17 [.int .i64 x14.Kind, .int .i64 x14.N, st x14.Text, gv (q1 gx29.toNat) 0] 32, .obj b15 [.int .i64 x14.Kind, .int .i64 x14.N, st x14.Text, gv (q1 gx29.toNat) 0] 32, .obj gb1 [gv2, gv4, gv188, .int .i64 gx190] 167, .sl gv2 9 1 (gl30.map SR), .sl gv4 9 1 (gl187.map SR), .sl gv188 312 2 (gl189.map Twrite.row), .sl gv35 9 1 (l84.map SR), .sl gv37 9 1 (gl38.map SR)])) 24 (by kernel_rfl) (Sc.past rfl (Sc.stayD (fun _ hw => hw))) (Sc.atD (fun _ hw => hw.sel [0, 1, 2, 3, 4, 5, 6, 8, 9, 10, 11, 12] (by decide) rfl)) ?_)
                     refine V2.nilc (i := 25) (Nx2.of (Z := Cls w [] [.sl v119 9 1 (l120.map SR), .sl v117 3 1 (l118.map I), .sl (sv b116 1) 3 1 (([x14.N]).map I), .sl (sv b115 1) 9 1 (([x103]).map SR), .obj b17 [.int .i64 x14.Kind, .int .i64 x14.N, st x14.Text, gv (q1 gx29.toNat) 0] 32, .obj b15 [.int .i64 x14.Kind, .int .i64 x14.N, st x14.Text, gv (q1 gx29.toNat) 0] 32, .obj gb1 [gv2, gv4, gv188, .int .i64 gx190] 167, .sl gv2 9 1 (gl30.map SR), .sl gv4 9 1 (gl187.map SR), .sl gv188 312 2 (gl189.map Twrite.row), .sl gv35 9 1 (l84.map SR), .sl gv37 9 1 (gl38.map SR)]) [] (by kernel_rfl) rfl (Zc.fin (fun _ hw => hw))) rfl rfl rfl ?_
                     refine V2.y (i := 26) (Nx2.of (Z := Cls w [] [.sl v119 9 1 (l120.map SR), .sl v117 3 1 (l118.map I), .sl (sv b116 1) 3 1 (([x14.N]).map I), .sl (sv b115 1) 9 1 (([x103]).map SR), .obj b17 [.int .i64 x14.Kind, .int .i64 x14.N, st x14.Text, gv (q1 gx29.toNat) 0] 32, .obj b15 [.int .i64 x14.Kind, .int .i64 x14.N, st x14.Text, gv (q1 gx29.toNat) 0] 32, .obj gb1 [gv2, gv4, gv188, .int .i64 gx190] 167, .sl gv2 9 1 (gl30.map SR), .sl gv4 9 1 (gl187.map SR), .sl gv188 312 2 (gl189.map Twrite.row), .sl gv35 9 1 (l84.map SR), .sl gv37 9 1 (gl38.map SR)]) [] (by kernel_rfl) rfl (Zc.fin (fun _ hw => hw))) rfl rfl rfl (Y.fieldP fd38_3 rfl) ?_
                     refine V2.eff (i := 27) (by kernel_rfl) rfl ?_
                     refine L.storeV (i := 7) sz35 rfl rfl (fun _ hw => (As.at_ (hw.get (i := 0) rfl)).one) rfl (Nat.le_of_ble_eq_true rfl) ?_
                     refine L.nil (E.toV2 (stC [] [] (Cls w [] [.sl v119 9 1 (l120.map SR), .sl v117 3 1 (l118.map I), .sl (sv b116 1) 3 1 (([x14.N]).map I), .sl (sv b115 1) 9 1 (([x103]).map SR), .obj b17 [.int .i64 x14.Kind, .int .i64 x14.N, st x14.Text, gv (q1 gx29.toNat) 0] 32, .obj b15 [.int .i64 x14.Kind, .int .i64 x14.N, st x14.Text, gv (q1 gx29.toNat) 0] 32, .obj gb1 [gv2, gv4, gv188, .int .i64 gx190] 167, .sl gv2 9 1 (gl30.map SR), .sl gv4 9 1 (gl187.map SR), .sl gv188 312 2 (gl189.map Twrite.row), .sl gv35 9 1 (l84.map SR), .sl gv37 9 1 (gl38.map SR)])) 27 (by kernel_rfl) (Sc.stayD (fun _ hw => hw)) (Sc.atD (fun _ hw => hw.sel [0, 1, 2, 3, 4, 5, 6, 8, 9, 10, 11, 12] (by decide) rfl)) ?_)
                     refine V2.done (by kernel_rfl) ?_
                     exact E.joinJ ⟨v117, l118, v119, l120, rfl, rfl, h⟩ trivial (fun _ hw => hw.sel [4, 5, 6, 7, 8, 9, 10, 11, 12, 1, 0] (by decide) rfl)
                   ·
                    rintro _ _ ⟨gv198, gl199, gv200, gl201, rfl, rfl, h⟩
                    rw [m3_quirlaw_SectPlays_K41] at h
                    refine W.seq (W.region (L.y rfl (Y.assign rfl) ?_))
                    refine L.nil (E.thenN (W.ret (E.ret1 rfl rfl (fun w1 hw => ?_))))
                    exact ⟨_, _, rfl, ⟨0, l84, gv198, gl199, gv200, gl201, (max x72 (min gx43 (-1))), rfl, rfl, h⟩, hw⟩
               ·
                rintro _ _ ⟨gx191, gl192, gv193, gl194, gv195, gl196, gx197, rfl, rfl, h⟩
                rw [m3_quirlaw_SectPlays_K37] at h
                refine L.nil (E.toV2 (stC [] [] (Cls w [] [.obj b17 [.int .i64 x14.Kind, .int .i64 x14.N, st x14.Text, gv (q1 gx29.toNat) 0] 32, .obj b15 [.int .i64 x14.Kind, .int .i64 x14.N, st x14.Text, gv (q1 gx29.toNat) 0] 32, .sl gv2 9 1 (gl30.map SR), .sl gv188 312 2 (gl189.map Twrite.row), .sl gv37 9 1 (gl38.map SR), .sl gv193 3 1 (gl194.map I), .sl gv195 9 1 (gl196.map SR)])) 11 (by kernel_rfl) (Sc.past rfl (Sc.stayD (fun _ hw => hw.sel [0, 1, 2, 3, 4] (by decide) rfl))) (Sc.atD (fun _ hw => hw.sel [0, 1, 4, 6, 8, 9, 10] (by decide) rfl)) ?_)
                refine V2.y (i := 12) (Nx2.of (Z := Cls w [] [.obj b17 [.int .i64 x14.Kind, .int .i64 x14.N, st x14.Text, gv (q1 gx29.toNat) 0] 32, .obj b15 [.int .i64 x14.Kind, .int .i64 x14.N, st x14.Text, gv (q1 gx29.toNat) 0] 32, .sl gv2 9 1 (gl30.map SR), .sl gv188 312 2 (gl189.map Twrite.row), .sl gv37 9 1 (gl38.map SR), .sl gv193 3 1 (gl194.map I), .sl gv195 9 1 (gl196.map SR)]) [] (by kernel_rfl) rfl (Zc.fin (fun _ hw => hw))) rfl rfl rfl (Y.eql rfl rfl) ?_
                refine V2.y (i := 13) (Nx2.of (Z := Cls w [] [.obj b17 [.int .i64 x14.Kind, .int .i64 x14.N, st x14.Text, gv (q1 gx29.toNat) 0] 32, .obj b15 [.int .i64 x14.Kind, .int .i64 x14.N, st x14.Text, gv (q1 gx29.toNat) 0] 32, .sl gv2 9 1 (gl30.map SR), .sl gv188 312 2 (gl189.map Twrite.row), .sl gv37 9 1 (gl38.map SR), .sl gv193 3 1 (gl194.map I), .sl gv195 9 1 (gl196.map SR)]) [] (by kernel_rfl) rfl (Zc.fin (fun _ hw => hw))) rfl rfl rfl (Y.assign rfl) ?_
                refine V2.done (by kernel_rfl) ?_
                refine E.thenN (W.ret (E.blockR (E.KSR (E.ret1 rfl rfl (fun w1 hw => ?_)))))
                exact ⟨_, _, rfl, ⟨decide (gx186 = gx191), gl30, gl187, gv188, gl189, gx190, gv35, gl192, gv37, gl38, gv193, gl194, gv195, gl196, gx197, rfl, rfl, h⟩, hw.sel [1, 2, 3, 4, 5, 6, 7, 8, 9, 10] (by decide) rfl⟩
           ·
            rintro _ _ ⟨gl74, gl75, gv76, gl77, gx78, gv79, gl80, gl81, gv82, gl83, gv84, gl85, gx86, rfl, rfl, h⟩
            rw [m3_quirlaw_SectPlays_K15] at h
            refine W.seq (W.region (L.y rfl (Y.assign rfl) ?_))
            refine L.nil (E.thenN (W.ret (E.ret1 rfl rfl (fun w1 hw => ?_))))
            exact ⟨_, _, rfl, ⟨true, gl74, gl75, gv76, gl77, gx78, gv79, gl80, gv37, gl81, gv82, gl83, gv84, gl85, gx86, rfl, rfl, h⟩, hw⟩
          ·
           rintro _ _ ⟨gb59, gl60, gl61, gv62, gl63, gx64, gv65, gl66, gv67, gl68, gv69, gl70, gv71, gl72, gx73, rfl, rfl, h⟩
           rw [m3_quirlaw_SectPlays_K14] at h
           rcases gb59 with _ | _
           ·
            replace h := iteF h
            refine L.y rfl (Y.not rfl) ?_
            exact L.nil (E.joinJ ⟨true, gl60, gl61, gv62, gl63, gx64, gv65, gl66, gv67, gl68, gv69, gl70, gv71, gl72, gx73, rfl, rfl, h⟩ ⟨rfl, rfl, rfl, rfl, rfl, rfl, trivial⟩ (fun _ hw => hw.sel [1, 2, 3, 4, 5, 6, 7, 8, 9] (by decide) rfl))
           ·
            replace h := iteT h
            refine L.y rfl (Y.not rfl) ?_
            exact L.nil (E.joinJ ⟨false, gl60, gl61, gv62, gl63, gx64, gv65, gl66, gv67, gl68, gv69, gl70, gv71, gl72, gx73, rfl, rfl, h⟩ ⟨rfl, rfl, rfl, rfl, rfl, rfl, trivial⟩ (fun _ hw => hw.sel [1, 2, 3, 4, 5, 6, 7, 8, 9] (by decide) rfl))
         ·
          rintro _ _ ⟨gb44, gl45, gl46, gv47, gl48, gx49, gv50, gl51, gv52, gl53, gv54, gl55, gv56, gl57, gx58, rfl, rfl, h⟩
          rw [m3_quirlaw_SectPlays_K13] at h
          rcases gb44 with _ | _
          ·
           replace h := iteF h
           refine W.condF rfl ?_
           refine W.skip (E.blockN (E.thenN (W.region (L.m (V := fun x16 => .int .i64 x16) h rfl (Y.addM rfl rfl) (fun x16 ex16 h => ?_)))))
           refine L.y rfl (Y.move rfl) ?_
           exact L.nil (E.againJ ⟨x16, gl45, gl46, gv47, gl48, gx49, gv50, gl51, gv52, gl53, gv54, gl55, gv56, gl57, gx58, rfl, rfl, by rw [hg2]; exact h⟩ (Nat.lt_succ_self _) ⟨rfl, rfl, rfl, rfl, rfl, trivial⟩ (fun _ hw => hw))
          ·
           replace h := iteT h
           refine W.condT rfl ?_
           refine W.seq (W.region (L.y rfl (Y.assign rfl) ?_))
           refine L.nil (E.thenN (W.ret (E.blockR (E.thenR (E.KLR (E.blockR (E.KSR (E.ret1 rfl rfl (fun w1 hw => ?_)))))))))
           obtain rfl := Option.some.inj h
           exact ⟨_, _, rfl, ⟨rfl, rfl⟩, hw.sel [] (by decide) rfl⟩
        ·
         refine L.nil (E.thenN (W.seq (W.condF rfl ?_)))
         exact W.exit (E.thenX (E.KLX (E.blockX (E.joinJ ⟨gl30, gl31, gv32, gl33, gx34, gv35, gl36, gv37, gl38, gv39, gl40, gv41, gl42, gx43, rfl, rfl, h⟩ ⟨rfl, rfl, trivial⟩ (fun _ hw => hw)))))
       ·
        rintro _ _ ⟨gl12, gl13, gv14, gl15, gx16, gv17, gl18, gv19, gl20, gv21, gl22, gv23, gl24, gx25, rfl, rfl, h⟩
        rw [m3_quirlaw_SectPlays_K8] at h
        refine W.seq (W.region (L.y rfl (Y.move rfl) ?_))
        refine L.callJ (fun v D => v = .tuple #[] ∧ D = Cls w [] [.obj gb1 [gv2, gv4, gv14, .int .i64 (max (-1) (-1))] 167, .obj gb7 [gv17, gv19, gv21, gv23, .int .i64 gx25] 38, .sl gv2 9 1 (gl12.map SR), .sl gv4 9 1 (gl13.map SR), .sl gv14 312 2 (gl15.map Twrite.row), .sl gv17 9 1 (gl18.map SR), .sl gv19 9 1 (gl20.map SR), .sl gv21 3 1 (gl22.map I), .sl gv23 9 1 (gl24.map SR)] ∧ m3_quirlaw_SectPlays_K9 gl18 gl12 gl13 = some r) rfl en19 rfl Try.func19 rfl rfl rfl ?_ ?_
        ·
         refine W.region (L.y rfl (Y.move rfl) ?_)
         refine L.y rfl (Y.move rfl) ?_
         refine L.y rfl (Y.max2 rfl rfl) ?_
         refine L.y rfl (Y.nilCheck rfl) ?_
         refine L.y rfl (Y.fieldP fd167_3 rfl) ?_
         refine L.store (i := 0) sz3 rfl rfl rfl rfl (by simp [Value.oneCell', Value.cells, st]) rfl (Nat.le_of_ble_eq_true rfl) ?_
         refine L.nil (E.end0 rfl (fun w1 hw => ?_))
         exact ⟨_, _, rfl, ⟨rfl, rfl, h⟩, hw⟩
        ·
         rintro _ _ ⟨rfl, rfl, h⟩
         rw [m3_quirlaw_SectPlays_K9] at h
         refine L.nil (E.thenN (W.seqJ (fun gs D => gs = [] ∧ D = Cls w [] [] ∧ m3_quirlaw_SectPlays_K10 = some r) ?_ ?_))
         ·
          refine W.seq (W.region (L.y rfl (Y.move rfl) ?_))
          refine L.y rfl (Y.nilCheck rfl) ?_
          refine L.y rfl (Y.fieldP fd38_0 rfl) ?_
          refine L.y rfl (Y.loadP (i := 1) ag35 rfl rfl rfl) ?_
          refine L.y rfl (Y.lenM (g := SR) (l := gl18) Try.underlying35 rfl (fun w hw => As.at_ (hw.get (i := 5) rfl))) ?_
          refine L.y rfl (Y.move rfl) ?_
          refine L.nil (E.thenN (W.block (W.loopJ (fun m gs D => ∃ (gx26 : Int), gs = [(5, pt gb1 0), (62, gv17), (63, .int .i64 (gl18.length : Int)), (64, .int .i64 gx26)] ∧ D = Cls w [] [.obj gb1 [gv2, gv4, gv14, .int .i64 (max (-1) (-1))] 167, .sl gv17 9 1 (gl18.map SR), .sl gv2 9 1 (gl12.map SR), .sl gv4 9 1 (gl13.map SR), .sl gv14 312 2 (gl15.map Twrite.row)] ∧ m3_quirlaw_SectPlays_L1 gl18 gl12 gl13 m gx26 = some r) ⟨0, rfl, rfl, h⟩ ⟨rfl, rfl, rfl, rfl, trivial⟩ (fun _ hw => hw.sel [0, 5, 2, 3, 4] (by decide) rfl) ?_)))
          rintro m _ _ ⟨gx26, rfl, rfl, h⟩
          rcases m with _ | m
          · rw [m3_quirlaw_SectPlays_L1] at h; cases h
          rw [m3_quirlaw_SectPlays_L1] at h
          generalize hg1 : m3_quirlaw_SectPlays_L1 gl18 gl12 gl13 m = go1 at h
          rw [m3_quirlaw_SectPlays_L1B] at h
          refine W.seq (W.region (L.ite h rfl (Y.lss rfl rfl) (fun c4 h => ?_) (fun c4 h => ?_)))
          ·
           refine L.nil (E.thenN (W.seq (W.condT rfl ?_)))
           refine W.skip (E.thenN (W.seq (W.block (W.seq (W.region (L.y rfl (Y.move rfl) ?_))))))
           refine L.m (V := fun _ => el gv17 (gx26.toNat * 1)) h rfl (Y.indexM (g := SR) (l := gl18) Try.underlying35 sz9 rfl rfl (fun w hw => As.at_ (hw.get (i := 1) rfl))) (fun x5 ex5 h => ?_)
           refine L.y rfl (Y.loadE1 (u := st x5) ag9 rfl (fun w hw => As.at_ (hw.get (i := 1) rfl)) (idx_map ex5)) ?_
           refine L.y rfl (Y.assign rfl) ?_
           refine L.y rfl (Y.assign rfl) ?_
           refine L.nil (E.thenN (W.seq (W.region (L.y rfl (Y.move rfl) ?_))))
           refine L.y rfl (Y.move rfl) ?_
           refine L.callJ (fun v D => ∃ (gs27 : (List UInt8)) (gx28 : Int), v = .tuple #[st gs27, .int .i64 gx28] ∧ D = Cls w [] [.obj gb1 [gv2, gv4, gv14, .int .i64 (max (-1) (-1))] 167, .sl gv17 9 1 (gl18.map SR), .sl gv2 9 1 (gl12.map SR), .sl gv4 9 1 (gl13.map SR), .sl gv14 312 2 (gl15.map Twrite.row)] ∧ m3_quirlaw_SectPlays_K11 x5 gx26 go1 gs27 gx28 = some r) rfl en20 rfl Try.func20 rfl rfl rfl ?_ ?_
           ·
            refine W.seq (W.region (L.y rfl (Y.assign rfl) ?_))
            refine L.y rfl (Y.assign rfl) ?_
            refine L.nil (E.thenN (W.seqJ (fun gs D => gs = [(0, pt gb1 0), (1, .int .i64 gx26)] ∧ D = Cls w [] [.obj gb1 [gv2, gv4, gv14, .int .i64 (max (-1) (-1))] 167, .sl gv2 9 1 (gl12.map SR), .sl gv4 9 1 (gl13.map SR), .sl gv14 312 2 (gl15.map Twrite.row), .sl gv17 9 1 (gl18.map SR)] ∧ m3_quirlaw_SectPlays_K12 x5 gx26 go1 gl13 = some r) ?_ ?_))
            ·
             refine W.seq (W.region (L.y rfl (Y.move rfl) ?_))
             refine L.ite h rfl (Y.lss rfl rfl) (fun c11 h => ?_) (fun c11 h => ?_)
             ·
              refine L.y rfl (Y.move rfl) ?_
              refine L.pass rfl rfl (by nofun) ?_
              refine L.pass rfl rfl (by nofun) ?_
              refine L.pass rfl rfl (by nofun) ?_
              refine L.pass rfl rfl (by nofun) ?_
              refine L.pass rfl rfl (by nofun) ?_
              refine L.pass rfl rfl (by nofun) ?_
              refine L.pass rfl rfl (by nofun) ?_
              refine L.y rfl (Y.pickT rfl rfl) ?_
              refine L.nil (E.thenN (W.condT rfl ?_))
              refine W.seq (W.region (L.y rfl (Y.assign rfl) ?_))
              refine L.y rfl (Y.assign rfl) ?_
              refine L.nil (E.thenN (W.ret (E.KSR (E.ret2 rfl rfl rfl (fun w1 hw => ?_)))))
              exact ⟨_, _, rfl, ⟨[], 1, rfl, rfl, h⟩, hw⟩
             ·
              refine L.y rfl (Y.move rfl) ?_
              refine L.take rfl (L.y rfl (Y.move rfl) ?_)
              refine L.take rfl (L.y rfl (Y.move rfl) ?_)
              refine L.take rfl (L.y rfl (Y.nilCheck rfl) ?_)
              refine L.take rfl (L.y rfl (Y.fieldP fd167_0 rfl) ?_)
              refine L.take rfl (L.y rfl (Y.loadP (i := 0) ag35 rfl rfl rfl) ?_)
              refine L.take rfl (L.y rfl (Y.lenM (g := SR) (l := gl12) Try.underlying35 rfl (fun w hw => As.at_ (hw.get (i := 2) rfl))) ?_)
              refine L.take rfl (L.ite h rfl (Y.geq rfl rfl) (fun c12 h => ?_) (fun c12 h => ?_))
              ·
               refine L.y rfl (Y.pickF rfl rfl) ?_
               refine L.nil (E.thenN (W.condT rfl ?_))
               refine W.seq (W.region (L.y rfl (Y.assign rfl) ?_))
               refine L.y rfl (Y.assign rfl) ?_
               refine L.nil (E.thenN (W.ret (E.KSR (E.ret2 rfl rfl rfl (fun w1 hw => ?_)))))
               exact ⟨_, _, rfl, ⟨[], 1, rfl, rfl, h⟩, hw⟩
              ·
               refine L.y rfl (Y.pickF rfl rfl) ?_
               refine L.nil (E.thenN (W.condF rfl ?_))
               exact W.skip (E.joinJ ⟨rfl, rfl, h⟩ ⟨rfl, rfl, trivial⟩ (fun _ hw => hw.sel [0, 2, 3, 4, 1] (by decide) rfl))
            ·
             rintro _ _ ⟨rfl, rfl, h⟩
             rw [m3_quirlaw_SectPlays_K12] at h
             refine W.seq (W.seq (W.region (L.y rfl (Y.move rfl) ?_)))
             refine L.y rfl (Y.nilCheck rfl) ?_
             refine L.y rfl (Y.fieldP fd167_3 rfl) ?_
             refine L.y rfl (Y.loadP (i := 0) ag3 rfl rfl rfl) ?_
             refine L.ite h rfl (Y.eql rfl rfl) (fun c9 h => ?_) (fun c9 h => ?_)
             ·
              refine L.nil (E.thenN (W.condT rfl ?_))
              refine W.seq (W.region (L.y rfl (Y.assign rfl) ?_))
              refine L.y rfl (Y.assign rfl) ?_
              refine L.nil (E.thenN (W.ret (E.thenR (E.ret2 rfl rfl rfl (fun w1 hw => ?_)))))
              exact ⟨_, _, rfl, ⟨[], 13, rfl, rfl, h⟩, hw.sel [0, 4, 1, 2, 3] (by decide) rfl⟩
             ·
              refine L.nil (E.thenN (W.condF rfl ?_))
              refine W.skip (E.thenN (W.seq (W.region (L.y rfl (Y.move rfl) ?_))))
              refine L.y rfl (Y.nilCheck rfl) ?_
              refine L.y rfl (Y.fieldP fd167_1 rfl) ?_
              refine L.y rfl (Y.loadP (i := 0) ag35 rfl rfl rfl) ?_
              refine L.y rfl (Y.move rfl) ?_
              refine L.m (V := fun _ => el gv4 (gx26.toNat * 1)) h rfl (Y.indexM (g := SR) (l := gl13) Try.underlying35 sz9 rfl rfl (fun w hw => As.at_ (hw.get (i := 2) rfl))) (fun x10 ex10 h => ?_)
              refine L.y rfl (Y.loadE1 (u := st x10) ag9 rfl (fun w hw => As.at_ (hw.get (i := 2) rfl)) (idx_map ex10)) ?_
              refine L.y rfl (Y.assign rfl) ?_
              refine L.y rfl (Y.assign rfl) ?_
              refine L.nil (E.thenN (W.ret (E.ret2 rfl rfl rfl (fun w1 hw => ?_))))
              exact ⟨_, _, rfl, ⟨x10, 0, rfl, rfl, h⟩, hw.sel [0, 4, 1, 2, 3] (by decide) rfl⟩
           ·
            rintro _ _ ⟨gs27, gx28, rfl, rfl, h⟩
            rw [m3_quirlaw_SectPlays_K11] at h
            refine L.y rfl (Y.move rfl) ?_
            refine L.y rfl (Y.extract rfl rfl) ?_
            refine L.y rfl (Y.extract rfl rfl) ?_
            refine L.y rfl (Y.assign rfl) ?_
            refine L.y rfl (Y.assign rfl) ?_
            refine L.nil (E.thenN (W.seq (W.region (L.y rfl (Y.move rfl) ?_))))
            refine L.ite h rfl (Y.neq rfl rfl) (fun c6 h => ?_) (fun c6 h => ?_)
            ·
             refine L.y rfl (Y.move rfl) ?_
             refine L.pass rfl rfl (by nofun) ?_
             refine L.pass rfl rfl (by nofun) ?_
             refine L.pass rfl rfl (by nofun) ?_
             refine L.y rfl (Y.pickT rfl rfl) ?_
             refine L.nil (E.thenN (W.condT rfl ?_))
             refine W.seq (W.region (L.y rfl (Y.assign rfl) ?_))
             refine L.nil (E.thenN (W.ret (E.blockR (E.thenR (E.KLR (E.blockR (E.KSR (E.ret1 rfl rfl (fun w1 hw => ?_)))))))))
             obtain rfl := Option.some.inj h
             exact ⟨_, _, rfl, ⟨rfl, rfl⟩, hw.sel [] (by decide) rfl⟩
            ·
             refine L.y rfl (Y.move rfl) ?_
             refine L.take rfl (L.y rfl (Y.move rfl) ?_)
             refine L.take rfl (L.y rfl (Y.move rfl) ?_)
             refine L.take rfl (L.ite h rfl (Y.neqS rfl rfl) (fun c7 h => ?_) (fun c7 h => ?_))
             ·
              refine L.y rfl (Y.pickF rfl rfl) ?_
              refine L.nil (E.thenN (W.condT rfl ?_))
              refine W.seq (W.region (L.y rfl (Y.assign rfl) ?_))
              refine L.nil (E.thenN (W.ret (E.blockR (E.thenR (E.KLR (E.blockR (E.KSR (E.ret1 rfl rfl (fun w1 hw => ?_)))))))))
              obtain rfl := Option.some.inj h
              exact ⟨_, _, rfl, ⟨rfl, rfl⟩, hw.sel [] (by decide) rfl⟩
             ·
              refine L.y rfl (Y.pickF rfl rfl) ?_
              refine L.nil (E.thenN (W.condF rfl ?_))
              refine W.skip (E.blockN (E.thenN (W.region (L.m (V := fun x8 => .int .i64 x8) h rfl (Y.addM rfl rfl) (fun x8 ex8 h => ?_)))))
              refine L.y rfl (Y.move rfl) ?_
              exact L.nil (E.againJ ⟨x8, rfl, rfl, by rw [hg1]; exact h⟩ (Nat.lt_succ_self _) ⟨rfl, rfl, rfl, rfl, trivial⟩ (fun _ hw => hw))
          ·
           refine L.nil (E.thenN (W.seq (W.condF rfl ?_)))
           exact W.exit (E.thenX (E.KLX (E.blockX (E.joinJ ⟨rfl, rfl, h⟩ trivial (fun _ hw => hw.sel [] (by decide) rfl)))))
         ·
          rintro _ _ ⟨rfl, rfl, h⟩
          rw [m3_quirlaw_SectPlays_K10] at h
          refine W.seq (W.region (L.y rfl (Y.assign rfl) ?_))
          refine L.nil (E.thenN (W.ret (E.ret1 rfl rfl (fun w1 hw => ?_))))
          obtain rfl := Option.some.inj h
          exact ⟨_, _, rfl, ⟨rfl, rfl⟩, hw⟩
end Go.Proofs.Ytjbajaofdgalfaa
