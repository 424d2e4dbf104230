/-
  Walks, printed by a program of mine.
  Conditions: none.
-/
import Derived.Test.YtgkdimboofglfaaLkW4
import Derived.Test.YtgkdimboofglfaaChecked
import Derived.KernelRfl
import Derived.Test.YtgkdimboofglfaaLkO
namespace Go.Proofs.Ytgkdimboofglfaa
open Go.S
set_option linter.unusedVariables false
set_option linter.unusedSimpArgs false
set_option maxRecDepth 100000 in
set_option maxHeartbeats 8000000 in
theorem w3_quirlaw_LockSays (a0 : (List TLockItem)) (a1 : Int) (a2 : Int) (a3 : Int) (u0 : Value) (q0 : Nat → List Value) (K : World → Prop) (w : World) (hK : Stb K w) (r : Bool) (h : m3_quirlaw_LockSays a0 a1 a2 a3 = some r) (hA0 : Fz K [] u0 3 (zr TLockItem.rowv q0 a0)) (hD0 : FzA K [] (zs TLockItem.sds q0 a0)) : Does Try.prog 3 [u0, .int .i64 a1, .int .i64 a2, .int .i64 a3] w fun u m => u = .bool r ∧ m = [] := by
  rw [m3_quirlaw_LockSays] at h
  refine body (n := 196) Try.func3 rfl rfl rfl (Cls.reflF w) ?_
  refine W.seq (W.region (L.y rfl (Y.assign rfl) ?_))
  refine L.nil (E.thenN (W.seq (W.region (L.y rfl (Y.move rfl) ?_))))
  obtain ⟨x1, e2, h⟩ := bind1S h
  refine L.y rfl (Y.does en5 rfl (fun w' hw => (w5_quirref_LocksErr a0 u0 q0 (Kn K _) w' (hK.kn hw rfl) _ e2 hA0.up.tok hD0.up.tok).mono (fun _ _ h => h.1))) ?_
  refine L.y rfl (Y.assign rfl) ?_
  refine L.nil (E.thenN (W.seqJ (fun gs D => ∃ (gc1 : List Ob) (gv2 : Value) (gl3 : (List TLockItem)) (gq4 : Nat → List Value) (gu6 : Unit) (gu8 : Unit) (gb9 : Bool) (gx10 : Int), gs = [(0, u0), (1, .int .i64 a1), (2, .int .i64 a2), (3, .int .i64 a3), (9, .int .i64 x1), (10, gv2), (11, .bool gb9), (12, .int .i64 gx10)] ∧ D = Cls w [] [.os gc1] ∧ Fz K gc1 gv2 3 (zr TLockItem.rowv gq4 gl3) ∧ FzA K gc1 (zs TLockItem.sds gq4 gl3) ∧ m3_quirlaw_LockSays_K1 a0 a1 x1 a2 a3 gl3 gb9 gx10 = some r) ?_ ?_))
  ·
   refine W.region (L.y rfl (Y.move rfl) ?_)
   refine L.y rfl (Y.move rfl) ?_
   refine L.y rfl (Y.move rfl) ?_
   refine L.y rfl (Y.move rfl) ?_
   obtain ⟨l157, b162, x163, e164, h⟩ := bind3S h
   refine L.doesF rfl en6 rfl rfl hK (fun w' hw hs => w6_lock_Ask a0 a1 a2 a3 u0 q0 _ w' hs _ e164 hA0.up.tok hD0.up.tok) ?_
   rintro _ c165 c166 mo167 mn168 ma169 ⟨v158, q160, rfl, f159, f161⟩
   refine L.y rfl (Y.move rfl) ?_
   refine L.y rfl (Y.extract rfl rfl) ?_
   refine L.iteB h rfl (Y.extract rfl rfl) (fun c170 h => ?_) (fun c170 h => ?_)
   ·
    refine L.y rfl (Y.extract rfl rfl) ?_
    refine L.y rfl (Y.assign rfl) ?_
    refine L.y rfl (Y.assign rfl) ?_
    refine L.y rfl (Y.assign rfl) ?_
    exact L.nil (E.joinJ ⟨c166, v158, l157, q160, (), (), true, x163, rfl, rfl, (mn168 f159), (ma169 f161), h⟩ ⟨rfl, rfl, rfl, rfl, rfl, rfl, rfl, rfl, trivial⟩ (fun _ hw => hw))
   ·
    refine L.y rfl (Y.extract rfl rfl) ?_
    refine L.y rfl (Y.assign rfl) ?_
    refine L.y rfl (Y.assign rfl) ?_
    refine L.y rfl (Y.assign rfl) ?_
    exact L.nil (E.joinJ ⟨c166, v158, l157, q160, (), (), false, x163, rfl, rfl, (mn168 f159), (ma169 f161), h⟩ ⟨rfl, rfl, rfl, rfl, rfl, rfl, rfl, rfl, trivial⟩ (fun _ hw => hw))
  ·
   rintro _ _ ⟨gc1, gv2, gl3, gq4, gu6, gu8, gb9, gx10, rfl, rfl, hG5, hG7, h⟩
   rw [m3_quirlaw_LockSays_K1] at h
   rcases gb9 with _ | _
   ·
    replace h := iteF h
    refine W.seq (W.region (L.y rfl (Y.move rfl) ?_))
    refine L.y rfl (Y.move rfl) ?_
    obtain ⟨l3, l8, x11, e12, h⟩ := bind3S h
    refine L.doesF rfl en7 rfl rfl hK (fun w' hw hs => w7_lock_Drop a0 a1 u0 q0 _ w' hs _ e12 hA0.up.tok hD0.up.tok) ?_
    rintro _ c13 c14 mo15 mn16 ma17 ⟨v4, q6, v9, rfl, f5, f7, f10⟩
    refine L.y rfl (Y.move rfl) ?_
    refine L.y rfl (Y.extract rfl rfl) ?_
    refine L.y rfl (Y.extract rfl rfl) ?_
    refine L.y rfl (Y.extract rfl rfl) ?_
    refine L.y rfl (Y.assign rfl) ?_
    refine L.y rfl (Y.assign rfl) ?_
    refine L.y rfl (Y.assign rfl) ?_
    refine L.nil (E.thenN (W.seq (W.region (L.y rfl (Y.move rfl) ?_))))
    obtain ⟨l18, x20, e21, h⟩ := bind2S h
    refine L.does rfl en8 rfl (fun w' hw => w8_lock_Waits a0 u0 q0 w' _ e21 (hA0.up.clsF hK hw rfl) (hD0.up.clsF hK hw rfl)) ?_
    rintro _ _ ⟨v19, rfl, rfl⟩
    refine L.y rfl (Y.move rfl) ?_
    refine L.y rfl (Y.extract rfl rfl) ?_
    refine L.y rfl (Y.extract rfl rfl) ?_
    refine L.y rfl (Y.assign rfl) ?_
    refine L.y rfl (Y.assign rfl) ?_
    refine L.nil (E.thenN (W.seqJ (fun gs D => gs = [(0, u0), (1, .int .i64 a1), (2, .int .i64 a2), (3, .int .i64 a3), (9, .int .i64 x1), (10, gv2), (11, .bool false), (12, .int .i64 gx10), (13, v4), (14, v9), (15, .int .i64 x11), (16, v19), (17, .int .i64 x20)] ∧ D = Cls w [] [.sl v19 36 2 (l18.map TEdge.row), .os c14] ∧ m3_quirlaw_LockSays_K2 x1 gl3 gx10 l3 l8 x11 l18 x20 a0 a1 a2 a3 = some r) ?_ ?_))
    ·
     refine W.seq (W.region (L.y rfl (Y.move rfl) ?_))
     obtain ⟨x81, e82, h⟩ := bind1S h
     refine L.y rfl (Y.does en9 rfl (fun w' hw => (w9_lock_Check a0 u0 q0 w' _ e82 (hA0.up.clsF hK hw rfl) (hD0.up.clsF hK hw rfl)).mono (fun _ _ h => h.1))) ?_
     refine L.y rfl (Y.move rfl) ?_
     refine L.ite h rfl (Y.neq rfl rfl) (fun c83 h => ?_) (fun c83 h => ?_)
     ·
      refine L.nil (E.thenN (W.condT rfl ?_))
      refine W.seq (W.region (L.y rfl (Y.assign rfl) ?_))
      refine L.nil (E.thenN (W.ret (E.KSR (E.ret1 rfl rfl (fun w1 hw => ?_)))))
      obtain rfl := Option.some.inj h
      exact ⟨_, _, rfl, ⟨rfl, rfl⟩, hw.sel [] (by decide) rfl⟩
     ·
      refine L.nil (E.thenN (W.condF rfl ?_))
      exact W.skip (E.joinJ ⟨rfl, rfl, h⟩ ⟨rfl, rfl, rfl, rfl, rfl, rfl, rfl, rfl, rfl, rfl, rfl, rfl, rfl, trivial⟩ (fun _ hw => hw))
    ·
     rintro _ _ ⟨rfl, rfl, h⟩
     rw [m3_quirlaw_LockSays_K2] at h
     refine W.seqJ (fun gs D => gs = [(0, u0), (1, .int .i64 a1), (2, .int .i64 a2), (3, .int .i64 a3), (10, gv2), (11, .bool false), (12, .int .i64 gx10), (13, v4), (14, v9), (15, .int .i64 x11), (16, v19), (17, .int .i64 x20)] ∧ D = Cls w [] [.sl v19 36 2 (l18.map TEdge.row), .os c14] ∧ m3_quirlaw_LockSays_K3 a0 l18 x20 a1 gl3 gx10 l3 l8 x11 a2 a3 = some r) ?_ ?_
     ·
      refine W.seq (W.region (L.y rfl (Y.move rfl) ?_))
      refine L.ite h rfl (Y.neq rfl rfl) (fun c74 h => ?_) (fun c74 h => ?_)
      ·
       refine L.nil (E.thenN (W.condT rfl ?_))
       refine W.seq (W.region (L.cutJ 12 (fun gs D => ∃ (gb18 : Bool), gs = [(9, .int .i64 x1), (13, v4), (14, v9), (15, .int .i64 x11), (16, v19), (17, .int .i64 x20), (63, .bool gb18)] ∧ D = Cls w [] [.sl v19 36 2 (l18.map TEdge.row), .os c14] ∧ m3_quirlaw_LockSays_K15 l3 l8 x11 x1 l18 x20 gb18 = some r) ?_ ?_))
       ·
        refine L.y rfl (Y.move rfl) ?_
        refine L.y rfl (Y.lenMZ (row := TLockItem.rowv) (vs := gq4) (l := gl3) Try.underlying23 rfl (fun w' hw => ((hG5.mo mo15).clsF hK hw rfl))) ?_
        refine L.ite h rfl (Y.eql rfl rfl) (fun c79 h => ?_) (fun c79 h => ?_)
        ·
         refine L.y rfl (Y.move rfl) ?_
         refine L.take rfl (L.y rfl (Y.move rfl) ?_)
         refine L.take rfl (L.y rfl (Y.not rfl) ?_)
         refine L.y rfl (Y.pickT rfl rfl) ?_
         refine L.y rfl (Y.move rfl) ?_
         refine L.take rfl (L.y rfl (Y.move rfl) ?_)
         refine L.take rfl (L.y rfl (Y.move rfl) ?_)
         refine L.take rfl (L.ite h rfl (Y.eql rfl rfl) (fun c80 h => ?_) (fun c80 h => ?_))
         ·
          refine L.y rfl (Y.pickT rfl rfl) ?_
          exact L.nil (E.joinJ ⟨true, rfl, rfl, h⟩ ⟨rfl, rfl, rfl, rfl, rfl, rfl, rfl, trivial⟩ (fun _ hw => hw))
         ·
          refine L.y rfl (Y.pickT rfl rfl) ?_
          exact L.nil (E.joinJ ⟨false, rfl, rfl, h⟩ ⟨rfl, rfl, rfl, rfl, rfl, rfl, rfl, trivial⟩ (fun _ hw => hw))
        ·
         refine L.y rfl (Y.move rfl) ?_
         refine L.pass rfl rfl (by nofun) ?_
         refine L.pass rfl rfl (by nofun) ?_
         refine L.y rfl (Y.pickF rfl rfl) ?_
         refine L.y rfl (Y.move rfl) ?_
         refine L.pass rfl rfl (by nofun) ?_
         refine L.pass rfl rfl (by nofun) ?_
         refine L.pass rfl rfl (by nofun) ?_
         refine L.y rfl (Y.pickF rfl rfl) ?_
         exact L.nil (E.joinJ ⟨false, rfl, rfl, h⟩ ⟨rfl, rfl, rfl, rfl, rfl, rfl, rfl, trivial⟩ (fun _ hw => hw))
       ·
        rintro _ _ ⟨gb18, rfl, rfl, h⟩
        rw [m3_quirlaw_LockSays_K15] at h
        rcases gb18 with _ | _
        ·
         replace h := iteF h
         refine L.y rfl (Y.move rfl) ?_
         refine L.pass rfl rfl (by nofun) ?_
         refine L.pass rfl rfl (by nofun) ?_
         refine L.pass rfl rfl (by nofun) ?_
         refine L.y rfl (Y.pickF rfl rfl) ?_
         refine L.y rfl (Y.move rfl) ?_
         refine L.pass rfl rfl (by nofun) ?_
         refine L.pass rfl rfl (by nofun) ?_
         refine L.pass rfl rfl (by nofun) ?_
         refine L.y rfl (Y.pickF rfl rfl) ?_
         refine L.y rfl (Y.move rfl) ?_
         refine L.pass rfl rfl (by nofun) ?_
         refine L.pass rfl rfl (by nofun) ?_
         refine L.pass rfl rfl (by nofun) ?_
         refine L.y rfl (Y.pickF rfl rfl) ?_
         refine L.y rfl (Y.move rfl) ?_
         refine L.pass rfl rfl (by nofun) ?_
         refine L.pass rfl rfl (by nofun) ?_
         refine L.pass rfl rfl (by nofun) ?_
         refine L.y rfl (Y.pickF rfl rfl) ?_
         refine L.y rfl (Y.move rfl) ?_
         refine L.pass rfl rfl (by nofun) ?_
         refine L.pass rfl rfl (by nofun) ?_
         refine L.pass rfl rfl (by nofun) ?_
         refine L.y rfl (Y.pickF rfl rfl) ?_
         refine L.y rfl (Y.assign rfl) ?_
         refine L.nil (E.thenN (W.ret (E.KSR (E.ret1 rfl rfl (fun w1 hw => ?_)))))
         obtain rfl := Option.some.inj h
         exact ⟨_, _, rfl, ⟨rfl, rfl⟩, hw.sel [] (by decide) rfl⟩
        ·
         replace h := iteT h
         refine L.cutJ 10 (fun gs D => ∃ (gb19 : Bool), gs = [(9, .int .i64 x1), (15, .int .i64 x11), (16, v19), (17, .int .i64 x20), (73, .bool gb19)] ∧ D = Cls w [] [.sl v19 36 2 (l18.map TEdge.row), .os c14] ∧ m3_quirlaw_LockSays_K16 x11 x1 l18 x20 gb19 = some r) ?_ ?_
         ·
          refine L.y rfl (Y.move rfl) ?_
          refine L.take rfl (L.y rfl (Y.move rfl) ?_)
          refine L.take rfl (L.y rfl (Y.lenMZ (row := TLockItem.rowv) (vs := q6) (l := l3) Try.underlying23 rfl (fun w' hw => ((mn16 f5).clsF hK hw rfl))) ?_)
          refine L.take rfl (L.ite h rfl (Y.eql rfl rfl) (fun c77 h => ?_) (fun c77 h => ?_))
          ·
           refine L.y rfl (Y.pickT rfl rfl) ?_
           refine L.y rfl (Y.move rfl) ?_
           refine L.take rfl (L.y rfl (Y.move rfl) ?_)
           refine L.take rfl (L.y rfl (Y.lenM (g := I) (l := l8) Try.underlying28 rfl (fun w' hw => ((mn16 f10).clsF hK hw rfl))) ?_)
           refine L.take rfl (L.ite h rfl (Y.eql rfl rfl) (fun c78 h => ?_) (fun c78 h => ?_))
           ·
            refine L.y rfl (Y.pickT rfl rfl) ?_
            exact L.nil (E.joinJ ⟨true, rfl, rfl, h⟩ ⟨rfl, rfl, rfl, rfl, rfl, trivial⟩ (fun _ hw => hw))
           ·
            refine L.y rfl (Y.pickT rfl rfl) ?_
            exact L.nil (E.joinJ ⟨false, rfl, rfl, h⟩ ⟨rfl, rfl, rfl, rfl, rfl, trivial⟩ (fun _ hw => hw))
          ·
           refine L.y rfl (Y.pickT rfl rfl) ?_
           refine L.y rfl (Y.move rfl) ?_
           refine L.pass rfl rfl (by nofun) ?_
           refine L.pass rfl rfl (by nofun) ?_
           refine L.pass rfl rfl (by nofun) ?_
           refine L.y rfl (Y.pickF rfl rfl) ?_
           exact L.nil (E.joinJ ⟨false, rfl, rfl, h⟩ ⟨rfl, rfl, rfl, rfl, rfl, trivial⟩ (fun _ hw => hw))
         ·
          rintro _ _ ⟨gb19, rfl, rfl, h⟩
          rw [m3_quirlaw_LockSays_K16] at h
          rcases gb19 with _ | _
          ·
           replace h := iteF h
           refine L.y rfl (Y.move rfl) ?_
           refine L.pass rfl rfl (by nofun) ?_
           refine L.pass rfl rfl (by nofun) ?_
           refine L.pass rfl rfl (by nofun) ?_
           refine L.y rfl (Y.pickF rfl rfl) ?_
           refine L.y rfl (Y.move rfl) ?_
           refine L.pass rfl rfl (by nofun) ?_
           refine L.pass rfl rfl (by nofun) ?_
           refine L.pass rfl rfl (by nofun) ?_
           refine L.y rfl (Y.pickF rfl rfl) ?_
           refine L.y rfl (Y.move rfl) ?_
           refine L.pass rfl rfl (by nofun) ?_
           refine L.pass rfl rfl (by nofun) ?_
           refine L.pass rfl rfl (by nofun) ?_
           refine L.y rfl (Y.pickF rfl rfl) ?_
           refine L.y rfl (Y.assign rfl) ?_
           refine L.nil (E.thenN (W.ret (E.KSR (E.ret1 rfl rfl (fun w1 hw => ?_)))))
           obtain rfl := Option.some.inj h
           exact ⟨_, _, rfl, ⟨rfl, rfl⟩, hw.sel [] (by decide) rfl⟩
          ·
           replace h := iteT h
           refine L.cutJ 10 (fun gs D => ∃ (gb20 : Bool), gs = [(9, .int .i64 x1), (17, .int .i64 x20), (83, .bool gb20)] ∧ D = Cls w [] [.os c14] ∧ m3_quirlaw_LockSays_K17 x20 x1 gb20 = some r) ?_ ?_
           ·
            refine L.y rfl (Y.move rfl) ?_
            refine L.take rfl (L.y rfl (Y.move rfl) ?_)
            refine L.take rfl (L.y rfl (Y.move rfl) ?_)
            refine L.take rfl (L.ite h rfl (Y.eql rfl rfl) (fun c75 h => ?_) (fun c75 h => ?_))
            ·
             refine L.y rfl (Y.pickT rfl rfl) ?_
             refine L.y rfl (Y.move rfl) ?_
             refine L.take rfl (L.y rfl (Y.move rfl) ?_)
             refine L.take rfl (L.y rfl (Y.lenM (g := TEdge.row) (l := l18) Try.underlying31 rfl (fun w hw => As.at_ (hw.get (i := 0) rfl))) ?_)
             refine L.take rfl (L.ite h rfl (Y.eql rfl rfl) (fun c76 h => ?_) (fun c76 h => ?_))
             ·
              refine L.y rfl (Y.pickT rfl rfl) ?_
              exact L.nil (E.joinJ ⟨true, rfl, rfl, h⟩ ⟨rfl, rfl, rfl, trivial⟩ (fun _ hw => hw.sel [1] (by decide) rfl))
             ·
              refine L.y rfl (Y.pickT rfl rfl) ?_
              exact L.nil (E.joinJ ⟨false, rfl, rfl, h⟩ ⟨rfl, rfl, rfl, trivial⟩ (fun _ hw => hw.sel [1] (by decide) rfl))
            ·
             refine L.y rfl (Y.pickT rfl rfl) ?_
             refine L.y rfl (Y.move rfl) ?_
             refine L.pass rfl rfl (by nofun) ?_
             refine L.pass rfl rfl (by nofun) ?_
             refine L.pass rfl rfl (by nofun) ?_
             refine L.y rfl (Y.pickF rfl rfl) ?_
             exact L.nil (E.joinJ ⟨false, rfl, rfl, h⟩ ⟨rfl, rfl, rfl, trivial⟩ (fun _ hw => hw.sel [1] (by decide) rfl))
           ·
            rintro _ _ ⟨gb20, rfl, rfl, h⟩
            rw [m3_quirlaw_LockSays_K17] at h
            rcases gb20 with _ | _
            ·
             replace h := iteF h
             refine L.y rfl (Y.move rfl) ?_
             refine L.pass rfl rfl (by nofun) ?_
             refine L.pass rfl rfl (by nofun) ?_
             refine L.pass rfl rfl (by nofun) ?_
             refine L.y rfl (Y.pickF rfl rfl) ?_
             refine L.y rfl (Y.assign rfl) ?_
             refine L.nil (E.thenN (W.ret (E.KSR (E.ret1 rfl rfl (fun w1 hw => ?_)))))
             obtain rfl := Option.some.inj h
             exact ⟨_, _, rfl, ⟨rfl, rfl⟩, hw.sel [] (by decide) rfl⟩
            ·
             replace h := iteT h
             refine L.y rfl (Y.move rfl) ?_
             refine L.take rfl (L.y rfl (Y.move rfl) ?_)
             refine L.take rfl (L.y rfl (Y.move rfl) ?_)
             refine L.take rfl (L.y rfl (Y.eql rfl rfl) ?_)
             refine L.y rfl (Y.pickT rfl rfl) ?_
             refine L.y rfl (Y.assign rfl) ?_
             refine L.nil (E.thenN (W.ret (E.KSR (E.ret1 rfl rfl (fun w1 hw => ?_)))))
             obtain rfl := Option.some.inj h
             exact ⟨_, _, rfl, ⟨rfl, rfl⟩, hw.sel [] (by decide) rfl⟩
      ·
       refine L.nil (E.thenN (W.condF rfl ?_))
       exact W.skip (E.joinJ ⟨rfl, rfl, h⟩ ⟨rfl, rfl, rfl, rfl, rfl, rfl, rfl, rfl, rfl, rfl, rfl, rfl, trivial⟩ (fun _ hw => hw))
     ·
      rintro _ _ ⟨rfl, rfl, h⟩
      rw [m3_quirlaw_LockSays_K3] at h
      refine W.seqJ (fun gs D => gs = [(0, u0), (1, .int .i64 a1), (2, .int .i64 a2), (3, .int .i64 a3), (10, gv2), (11, .bool false), (12, .int .i64 gx10), (13, v4), (14, v9), (15, .int .i64 x11)] ∧ D = Cls w [] [.os c14] ∧ m3_quirlaw_LockSays_K4 a1 gl3 gx10 l3 l8 x11 a0 a2 a3 = some r) ?_ ?_
      ·
       refine W.seq (W.region (L.y rfl (Y.move rfl) ?_))
       refine L.y rfl (Y.move rfl) ?_
       obtain ⟨l68, e70, h⟩ := bind1S h
       refine L.does rfl en11 rfl (fun w' hw => w11_quirref_WaitEdges a0 u0 q0 w' _ e70 (hA0.up.clsF hK hw rfl) (hD0.up.clsF hK hw rfl)) ?_
       rintro v69 _ ⟨_, rfl, rfl⟩
       obtain ⟨b71, e72, h⟩ := bind1S h
       refine L.y rfl (Y.does en10 rfl (fun w' hw => (w10_api_Edge l18 l68 v19 v69 w' _ e72 (As.at_ (hw.get (i := 1) rfl)) (As.at_ (hw.get (i := 0) rfl))).mono (fun _ _ h => h.1))) ?_
       rcases b71 with _ | _
       ·
        replace h := iteF h
        refine L.y rfl (Y.not rfl) ?_
        refine L.y rfl (Y.move rfl) ?_
        refine L.pass rfl rfl (by nofun) ?_
        refine L.pass rfl rfl (by nofun) ?_
        refine L.y rfl (Y.pickT rfl rfl) ?_
        refine L.nil (E.thenN (W.condT rfl ?_))
        refine W.seq (W.region (L.y rfl (Y.assign rfl) ?_))
        refine L.nil (E.thenN (W.ret (E.KSR (E.ret1 rfl rfl (fun w1 hw => ?_)))))
        obtain rfl := Option.some.inj h
        exact ⟨_, _, rfl, ⟨rfl, rfl⟩, hw.sel [] (by decide) rfl⟩
       ·
        replace h := iteT h
        refine L.y rfl (Y.not rfl) ?_
        refine L.y rfl (Y.move rfl) ?_
        refine L.take rfl (L.y rfl (Y.move rfl) ?_)
        refine L.take rfl (L.ite h rfl (Y.neq rfl rfl) (fun c73 h => ?_) (fun c73 h => ?_))
        ·
         refine L.y rfl (Y.pickF rfl rfl) ?_
         refine L.nil (E.thenN (W.condT rfl ?_))
         refine W.seq (W.region (L.y rfl (Y.assign rfl) ?_))
         refine L.nil (E.thenN (W.ret (E.KSR (E.ret1 rfl rfl (fun w1 hw => ?_)))))
         obtain rfl := Option.some.inj h
         exact ⟨_, _, rfl, ⟨rfl, rfl⟩, hw.sel [] (by decide) rfl⟩
        ·
         refine L.y rfl (Y.pickF rfl rfl) ?_
         refine L.nil (E.thenN (W.condF rfl ?_))
         exact W.skip (E.joinJ ⟨rfl, rfl, h⟩ ⟨rfl, rfl, rfl, rfl, rfl, rfl, rfl, rfl, rfl, rfl, trivial⟩ (fun _ hw => hw.sel [2] (by decide) rfl))
      ·
       rintro _ _ ⟨rfl, rfl, h⟩
       rw [m3_quirlaw_LockSays_K4] at h
       refine W.seqJ (fun gs D => gs = [(0, u0), (1, .int .i64 a1), (2, .int .i64 a2), (3, .int .i64 a3), (10, gv2), (11, .bool false), (12, .int .i64 gx10), (13, v4), (14, v9), (15, .int .i64 x11)] ∧ D = Cls w [] [.os c14] ∧ m3_quirlaw_LockSays_K5 a0 a1 l3 l8 x11 a2 gl3 gx10 a3 = some r) ?_ ?_
       ·
        refine W.seqJ (fun gs D => ∃ (gb15 : Bool), gs = [(0, u0), (1, .int .i64 a1), (2, .int .i64 a2), (3, .int .i64 a3), (10, gv2), (11, .bool false), (12, .int .i64 gx10), (13, v4), (14, v9), (15, .int .i64 x11), (103, .bool gb15)] ∧ D = Cls w [] [.os c14] ∧ m3_quirlaw_LockSays_K12 gl3 gx10 l3 l8 x11 a0 a1 a2 a3 gb15 = some r) ?_ ?_
        ·
         refine W.region (L.y rfl (Y.move rfl) ?_)
         refine L.ite h rfl (Y.lss rfl rfl) (fun c66 h => ?_) (fun c66 h => ?_)
         ·
          refine L.y rfl (Y.move rfl) ?_
          refine L.pass rfl rfl (by nofun) ?_
          refine L.pass rfl rfl (by nofun) ?_
          refine L.y rfl (Y.pickT rfl rfl) ?_
          exact L.nil (E.joinJ ⟨true, rfl, rfl, h⟩ ⟨rfl, rfl, rfl, rfl, rfl, rfl, rfl, rfl, rfl, rfl, rfl, trivial⟩ (fun _ hw => hw))
         ·
          refine L.y rfl (Y.move rfl) ?_
          refine L.take rfl (L.y rfl (Y.move rfl) ?_)
          refine L.take rfl (L.ite h rfl (Y.gtr rfl rfl) (fun c67 h => ?_) (fun c67 h => ?_))
          ·
           refine L.y rfl (Y.pickF rfl rfl) ?_
           exact L.nil (E.joinJ ⟨true, rfl, rfl, h⟩ ⟨rfl, rfl, rfl, rfl, rfl, rfl, rfl, rfl, rfl, rfl, rfl, trivial⟩ (fun _ hw => hw))
          ·
           refine L.y rfl (Y.pickF rfl rfl) ?_
           exact L.nil (E.joinJ ⟨false, rfl, rfl, h⟩ ⟨rfl, rfl, rfl, rfl, rfl, rfl, rfl, rfl, rfl, rfl, rfl, trivial⟩ (fun _ hw => hw))
        ·
         rintro _ _ ⟨gb15, rfl, rfl, h⟩
         rw [m3_quirlaw_LockSays_K12] at h
         rcases gb15 with _ | _
         ·
          replace h := iteF h
          refine W.condF rfl ?_
          exact W.skip (E.joinJ ⟨rfl, rfl, h⟩ ⟨rfl, rfl, rfl, rfl, rfl, rfl, rfl, rfl, rfl, rfl, trivial⟩ (fun _ hw => hw))
         ·
          replace h := iteT h
          refine W.condT rfl ?_
          refine W.seq (W.region (L.cutJ 11 (fun gs D => ∃ (gb16 : Bool), gs = [(13, v4), (14, v9), (15, .int .i64 x11), (114, .bool gb16)] ∧ D = Cls w [] [.os c14] ∧ m3_quirlaw_LockSays_K13 l3 l8 x11 gb16 = some r) ?_ ?_))
          ·
           refine L.y rfl (Y.move rfl) ?_
           refine L.y rfl (Y.lenMZ (row := TLockItem.rowv) (vs := gq4) (l := gl3) Try.underlying23 rfl (fun w' hw => ((hG5.mo mo15).clsF hK hw rfl))) ?_
           refine L.ite h rfl (Y.eql rfl rfl) (fun c64 h => ?_) (fun c64 h => ?_)
           ·
            refine L.y rfl (Y.move rfl) ?_
            refine L.take rfl (L.y rfl (Y.move rfl) ?_)
            refine L.take rfl (L.y rfl (Y.not rfl) ?_)
            refine L.y rfl (Y.pickT rfl rfl) ?_
            refine L.y rfl (Y.move rfl) ?_
            refine L.take rfl (L.y rfl (Y.move rfl) ?_)
            refine L.take rfl (L.ite h rfl (Y.eql rfl rfl) (fun c65 h => ?_) (fun c65 h => ?_))
            ·
             refine L.y rfl (Y.pickT rfl rfl) ?_
             exact L.nil (E.joinJ ⟨true, rfl, rfl, h⟩ ⟨rfl, rfl, rfl, rfl, trivial⟩ (fun _ hw => hw))
            ·
             refine L.y rfl (Y.pickT rfl rfl) ?_
             exact L.nil (E.joinJ ⟨false, rfl, rfl, h⟩ ⟨rfl, rfl, rfl, rfl, trivial⟩ (fun _ hw => hw))
           ·
            refine L.y rfl (Y.move rfl) ?_
            refine L.pass rfl rfl (by nofun) ?_
            refine L.pass rfl rfl (by nofun) ?_
            refine L.y rfl (Y.pickF rfl rfl) ?_
            refine L.y rfl (Y.move rfl) ?_
            refine L.pass rfl rfl (by nofun) ?_
            refine L.pass rfl rfl (by nofun) ?_
            refine L.y rfl (Y.pickF rfl rfl) ?_
            exact L.nil (E.joinJ ⟨false, rfl, rfl, h⟩ ⟨rfl, rfl, rfl, rfl, trivial⟩ (fun _ hw => hw))
          ·
           rintro _ _ ⟨gb16, rfl, rfl, h⟩
           rw [m3_quirlaw_LockSays_K13] at h
           rcases gb16 with _ | _
           ·
            replace h := iteF h
            refine L.y rfl (Y.move rfl) ?_
            refine L.pass rfl rfl (by nofun) ?_
            refine L.pass rfl rfl (by nofun) ?_
            refine L.pass rfl rfl (by nofun) ?_
            refine L.y rfl (Y.pickF rfl rfl) ?_
            refine L.y rfl (Y.move rfl) ?_
            refine L.pass rfl rfl (by nofun) ?_
            refine L.pass rfl rfl (by nofun) ?_
            refine L.pass rfl rfl (by nofun) ?_
            refine L.y rfl (Y.pickF rfl rfl) ?_
            refine L.y rfl (Y.move rfl) ?_
            refine L.pass rfl rfl (by nofun) ?_
            refine L.pass rfl rfl (by nofun) ?_
            refine L.y rfl (Y.pickF rfl rfl) ?_
            refine L.y rfl (Y.assign rfl) ?_
            refine L.nil (E.thenN (W.ret (E.KSR (E.ret1 rfl rfl (fun w1 hw => ?_)))))
            obtain rfl := Option.some.inj h
            exact ⟨_, _, rfl, ⟨rfl, rfl⟩, hw.sel [] (by decide) rfl⟩
           ·
            replace h := iteT h
            refine L.cutJ 10 (fun gs D => ∃ (gb17 : Bool), gs = [(15, .int .i64 x11), (124, .bool gb17)] ∧ D = Cls w [] [.os c14] ∧ m3_quirlaw_LockSays_K14 x11 gb17 = some r) ?_ ?_
            ·
             refine L.y rfl (Y.move rfl) ?_
             refine L.take rfl (L.y rfl (Y.move rfl) ?_)
             refine L.take rfl (L.y rfl (Y.lenMZ (row := TLockItem.rowv) (vs := q6) (l := l3) Try.underlying23 rfl (fun w' hw => ((mn16 f5).clsF hK hw rfl))) ?_)
             refine L.take rfl (L.ite h rfl (Y.eql rfl rfl) (fun c62 h => ?_) (fun c62 h => ?_))
             ·
              refine L.y rfl (Y.pickT rfl rfl) ?_
              refine L.y rfl (Y.move rfl) ?_
              refine L.take rfl (L.y rfl (Y.move rfl) ?_)
              refine L.take rfl (L.y rfl (Y.lenM (g := I) (l := l8) Try.underlying28 rfl (fun w' hw => ((mn16 f10).clsF hK hw rfl))) ?_)
              refine L.take rfl (L.ite h rfl (Y.eql rfl rfl) (fun c63 h => ?_) (fun c63 h => ?_))
              ·
               refine L.y rfl (Y.pickT rfl rfl) ?_
               exact L.nil (E.joinJ ⟨true, rfl, rfl, h⟩ ⟨rfl, rfl, trivial⟩ (fun _ hw => hw))
              ·
               refine L.y rfl (Y.pickT rfl rfl) ?_
               exact L.nil (E.joinJ ⟨false, rfl, rfl, h⟩ ⟨rfl, rfl, trivial⟩ (fun _ hw => hw))
             ·
              refine L.y rfl (Y.pickT rfl rfl) ?_
              refine L.y rfl (Y.move rfl) ?_
              refine L.pass rfl rfl (by nofun) ?_
              refine L.pass rfl rfl (by nofun) ?_
              refine L.pass rfl rfl (by nofun) ?_
              refine L.y rfl (Y.pickF rfl rfl) ?_
              exact L.nil (E.joinJ ⟨false, rfl, rfl, h⟩ ⟨rfl, rfl, trivial⟩ (fun _ hw => hw))
            ·
             rintro _ _ ⟨gb17, rfl, rfl, h⟩
             rw [m3_quirlaw_LockSays_K14] at h
             rcases gb17 with _ | _
             ·
              replace h := iteF h
              refine L.y rfl (Y.move rfl) ?_
              refine L.pass rfl rfl (by nofun) ?_
              refine L.pass rfl rfl (by nofun) ?_
              refine L.y rfl (Y.pickF rfl rfl) ?_
              refine L.y rfl (Y.assign rfl) ?_
              refine L.nil (E.thenN (W.ret (E.KSR (E.ret1 rfl rfl (fun w1 hw => ?_)))))
              obtain rfl := Option.some.inj h
              exact ⟨_, _, rfl, ⟨rfl, rfl⟩, hw.sel [] (by decide) rfl⟩
             ·
              replace h := iteT h
              refine L.y rfl (Y.move rfl) ?_
              refine L.take rfl (L.y rfl (Y.move rfl) ?_)
              refine L.take rfl (L.y rfl (Y.eql rfl rfl) ?_)
              refine L.y rfl (Y.pickT rfl rfl) ?_
              refine L.y rfl (Y.assign rfl) ?_
              refine L.nil (E.thenN (W.ret (E.KSR (E.ret1 rfl rfl (fun w1 hw => ?_)))))
              obtain rfl := Option.some.inj h
              exact ⟨_, _, rfl, ⟨rfl, rfl⟩, hw.sel [] (by decide) rfl⟩
       ·
        rintro _ _ ⟨rfl, rfl, h⟩
        rw [m3_quirlaw_LockSays_K5] at h
        refine W.seq (W.region (L.y rfl (Y.move rfl) ?_))
        refine L.y rfl (Y.move rfl) ?_
        obtain ⟨l22, l27, e30, h⟩ := bind2S h
        refine L.doesF rfl en12 rfl rfl hK (fun w' hw hs => w12_quirref_DropLocks a0 a1 u0 q0 _ w' hs _ e30 hA0.up.tok hD0.up.tok) ?_
        rintro _ c31 c32 mo33 mn34 ma35 ⟨v23, q25, v28, rfl, f24, f26, f29⟩
        refine L.y rfl (Y.move rfl) ?_
        refine L.y rfl (Y.extract rfl rfl) ?_
        refine L.y rfl (Y.extract rfl rfl) ?_
        refine L.y rfl (Y.assign rfl) ?_
        refine L.y rfl (Y.assign rfl) ?_
        refine L.nil (E.thenN (W.seqJ (fun gs D => gs = [(0, u0), (1, .int .i64 a1), (2, .int .i64 a2), (3, .int .i64 a3), (10, gv2), (11, .bool false), (12, .int .i64 gx10)] ∧ D = Cls w [] [.os c32] ∧ m3_quirlaw_LockSays_K6 a2 gl3 gx10 a0 a1 a3 = some r) ?_ ?_))
        ·
         refine W.seq (W.region (L.cutJ 10 (fun gs D => ∃ (gb14 : Bool), gs = [(0, u0), (1, .int .i64 a1), (2, .int .i64 a2), (3, .int .i64 a3), (10, gv2), (11, .bool false), (12, .int .i64 gx10), (15, .int .i64 x11), (144, .bool gb14)] ∧ D = Cls w [] [.os c32] ∧ m3_quirlaw_LockSays_K11 x11 a2 gl3 gx10 a0 a1 a3 gb14 = some r) ?_ ?_))
         ·
          refine L.y rfl (Y.move rfl) ?_
          refine L.y rfl (Y.move rfl) ?_
          obtain ⟨b58, e59, h⟩ := bind1S h
          refine L.y rfl (Y.does en13 rfl (fun w' hw => (w13_quirref_SameLocks l3 l22 v4 q6 v23 q25 w' _ e59 (((mn16 f5).mo mo33).clsF hK hw rfl) (((ma17 f7).mo mo33).clsF hK hw rfl) ((mn34 f24).clsF hK hw rfl) ((ma35 f26).clsF hK hw rfl)).mono (fun _ _ h => h.1))) ?_
          rcases b58 with _ | _
          ·
           replace h := iteF h
           refine L.y rfl (Y.not rfl) ?_
           refine L.y rfl (Y.move rfl) ?_
           refine L.pass rfl rfl (by nofun) ?_
           refine L.pass rfl rfl (by nofun) ?_
           refine L.pass rfl rfl (by nofun) ?_
           refine L.pass rfl rfl (by nofun) ?_
           refine L.y rfl (Y.pickT rfl rfl) ?_
           exact L.nil (E.joinJ ⟨true, rfl, rfl, h⟩ ⟨rfl, rfl, rfl, rfl, rfl, rfl, rfl, rfl, rfl, trivial⟩ (fun _ hw => hw))
          ·
           replace h := iteT h
           refine L.y rfl (Y.not rfl) ?_
           refine L.y rfl (Y.move rfl) ?_
           refine L.take rfl (L.y rfl (Y.move rfl) ?_)
           refine L.take rfl (L.y rfl (Y.move rfl) ?_)
           refine L.take rfl ?_
           obtain ⟨b60, e61, h⟩ := bind1S h
           refine L.y rfl (Y.does en14 rfl (fun w' hw => (w14_slices_Equal_int l8 l27 v9 v28 w' _ e61 (((mn16 f10).mo mo33).clsF hK hw rfl) ((mn34 f29).clsF hK hw rfl)).mono (fun _ _ h => h.1))) ?_
           rcases b60 with _ | _
           ·
            replace h := iteF h
            refine L.take rfl (L.y rfl (Y.not rfl) ?_)
            refine L.y rfl (Y.pickF rfl rfl) ?_
            exact L.nil (E.joinJ ⟨true, rfl, rfl, h⟩ ⟨rfl, rfl, rfl, rfl, rfl, rfl, rfl, rfl, rfl, trivial⟩ (fun _ hw => hw))
           ·
            replace h := iteT h
            refine L.take rfl (L.y rfl (Y.not rfl) ?_)
            refine L.y rfl (Y.pickF rfl rfl) ?_
            exact L.nil (E.joinJ ⟨false, rfl, rfl, h⟩ ⟨rfl, rfl, rfl, rfl, rfl, rfl, rfl, rfl, rfl, trivial⟩ (fun _ hw => hw))
         ·
          rintro _ _ ⟨gb14, rfl, rfl, h⟩
          rw [m3_quirlaw_LockSays_K11] at h
          rcases gb14 with _ | _
          ·
           replace h := iteF h
           refine L.y rfl (Y.move rfl) ?_
           refine L.take rfl (L.y rfl (Y.move rfl) ?_)
           refine L.take rfl (L.ite h rfl (Y.neq rfl rfl) (fun c57 h => ?_) (fun c57 h => ?_))
           ·
            refine L.y rfl (Y.pickF rfl rfl) ?_
            refine L.nil (E.thenN (W.condT rfl ?_))
            refine W.seq (W.region (L.y rfl (Y.assign rfl) ?_))
            refine L.nil (E.thenN (W.ret (E.KSR (E.ret1 rfl rfl (fun w1 hw => ?_)))))
            obtain rfl := Option.some.inj h
            exact ⟨_, _, rfl, ⟨rfl, rfl⟩, hw.sel [] (by decide) rfl⟩
           ·
            refine L.y rfl (Y.pickF rfl rfl) ?_
            refine L.nil (E.thenN (W.condF rfl ?_))
            exact W.skip (E.joinJ ⟨rfl, rfl, h⟩ ⟨rfl, rfl, rfl, rfl, rfl, rfl, rfl, trivial⟩ (fun _ hw => hw))
          ·
           replace h := iteT h
           refine L.y rfl (Y.move rfl) ?_
           refine L.pass rfl rfl (by nofun) ?_
           refine L.pass rfl rfl (by nofun) ?_
           refine L.y rfl (Y.pickT rfl rfl) ?_
           refine L.nil (E.thenN (W.condT rfl ?_))
           refine W.seq (W.region (L.y rfl (Y.assign rfl) ?_))
           refine L.nil (E.thenN (W.ret (E.KSR (E.ret1 rfl rfl (fun w1 hw => ?_)))))
           obtain rfl := Option.some.inj h
           exact ⟨_, _, rfl, ⟨rfl, rfl⟩, hw.sel [] (by decide) rfl⟩
        ·
         rintro _ _ ⟨rfl, rfl, h⟩
         rw [m3_quirlaw_LockSays_K6] at h
         refine W.seqJ (fun gs D => gs = [(0, u0), (1, .int .i64 a1), (2, .int .i64 a2), (3, .int .i64 a3), (10, gv2), (11, .bool false), (12, .int .i64 gx10)] ∧ D = Cls w [] [.os c32] ∧ m3_quirlaw_LockSays_K7 a0 a1 a2 a3 gl3 gx10 = some r) ?_ ?_
         ·
          refine W.seqJ (fun gs D => ∃ (gb12 : Bool), gs = [(0, u0), (1, .int .i64 a1), (2, .int .i64 a2), (3, .int .i64 a3), (10, gv2), (11, .bool false), (12, .int .i64 gx10), (162, .bool gb12)] ∧ D = Cls w [] [.os c32] ∧ m3_quirlaw_LockSays_K9 gl3 gx10 a0 a1 a2 a3 gb12 = some r) ?_ ?_
          ·
           refine W.region (L.cutJ 6 (fun gs D => ∃ (gb13 : Bool), gs = [(0, u0), (1, .int .i64 a1), (2, .int .i64 a2), (3, .int .i64 a3), (10, gv2), (11, .bool false), (12, .int .i64 gx10), (154, .bool gb13)] ∧ D = Cls w [] [.os c32] ∧ m3_quirlaw_LockSays_K10 gl3 gx10 a0 a1 a2 a3 gb13 = some r) ?_ ?_)
           ·
            refine L.y rfl (Y.move rfl) ?_
            refine L.ite h rfl (Y.lss rfl rfl) (fun c55 h => ?_) (fun c55 h => ?_)
            ·
             refine L.y rfl (Y.move rfl) ?_
             refine L.pass rfl rfl (by nofun) ?_
             refine L.pass rfl rfl (by nofun) ?_
             refine L.y rfl (Y.pickT rfl rfl) ?_
             exact L.nil (E.joinJ ⟨true, rfl, rfl, h⟩ ⟨rfl, rfl, rfl, rfl, rfl, rfl, rfl, rfl, trivial⟩ (fun _ hw => hw))
            ·
             refine L.y rfl (Y.move rfl) ?_
             refine L.take rfl (L.y rfl (Y.move rfl) ?_)
             refine L.take rfl (L.ite h rfl (Y.gtr rfl rfl) (fun c56 h => ?_) (fun c56 h => ?_))
             ·
              refine L.y rfl (Y.pickF rfl rfl) ?_
              exact L.nil (E.joinJ ⟨true, rfl, rfl, h⟩ ⟨rfl, rfl, rfl, rfl, rfl, rfl, rfl, rfl, trivial⟩ (fun _ hw => hw))
             ·
              refine L.y rfl (Y.pickF rfl rfl) ?_
              exact L.nil (E.joinJ ⟨false, rfl, rfl, h⟩ ⟨rfl, rfl, rfl, rfl, rfl, rfl, rfl, rfl, trivial⟩ (fun _ hw => hw))
           ·
            rintro _ _ ⟨gb13, rfl, rfl, h⟩
            rw [m3_quirlaw_LockSays_K10] at h
            rcases gb13 with _ | _
            ·
             replace h := iteF h
             refine L.y rfl (Y.move rfl) ?_
             refine L.take rfl (L.y rfl (Y.move rfl) ?_)
             refine L.take rfl (L.ite h rfl (Y.lss rfl rfl) (fun c53 h => ?_) (fun c53 h => ?_))
             ·
              refine L.y rfl (Y.pickF rfl rfl) ?_
              refine L.y rfl (Y.move rfl) ?_
              refine L.pass rfl rfl (by nofun) ?_
              refine L.pass rfl rfl (by nofun) ?_
              refine L.y rfl (Y.pickT rfl rfl) ?_
              exact L.nil (E.joinJ ⟨true, rfl, rfl, h⟩ ⟨rfl, rfl, rfl, rfl, rfl, rfl, rfl, rfl, trivial⟩ (fun _ hw => hw))
             ·
              refine L.y rfl (Y.pickF rfl rfl) ?_
              refine L.y rfl (Y.move rfl) ?_
              refine L.take rfl (L.y rfl (Y.move rfl) ?_)
              refine L.take rfl (L.ite h rfl (Y.gtr rfl rfl) (fun c54 h => ?_) (fun c54 h => ?_))
              ·
               refine L.y rfl (Y.pickF rfl rfl) ?_
               exact L.nil (E.joinJ ⟨true, rfl, rfl, h⟩ ⟨rfl, rfl, rfl, rfl, rfl, rfl, rfl, rfl, trivial⟩ (fun _ hw => hw))
              ·
               refine L.y rfl (Y.pickF rfl rfl) ?_
               exact L.nil (E.joinJ ⟨false, rfl, rfl, h⟩ ⟨rfl, rfl, rfl, rfl, rfl, rfl, rfl, rfl, trivial⟩ (fun _ hw => hw))
            ·
             replace h := iteT h
             refine L.y rfl (Y.move rfl) ?_
             refine L.pass rfl rfl (by nofun) ?_
             refine L.pass rfl rfl (by nofun) ?_
             refine L.y rfl (Y.pickT rfl rfl) ?_
             refine L.y rfl (Y.move rfl) ?_
             refine L.pass rfl rfl (by nofun) ?_
             refine L.pass rfl rfl (by nofun) ?_
             refine L.y rfl (Y.pickT rfl rfl) ?_
             exact L.nil (E.joinJ ⟨true, rfl, rfl, h⟩ ⟨rfl, rfl, rfl, rfl, rfl, rfl, rfl, rfl, trivial⟩ (fun _ hw => hw))
          ·
           rintro _ _ ⟨gb12, rfl, rfl, h⟩
           rw [m3_quirlaw_LockSays_K9] at h
           rcases gb12 with _ | _
           ·
            replace h := iteF h
            refine W.condF rfl ?_
            exact W.skip (E.joinJ ⟨rfl, rfl, h⟩ ⟨rfl, rfl, rfl, rfl, rfl, rfl, rfl, trivial⟩ (fun _ hw => hw))
           ·
            replace h := iteT h
            refine W.condT rfl ?_
            refine W.seq (W.region (L.y rfl (Y.move rfl) ?_))
            refine L.y rfl (Y.lenMZ (row := TLockItem.rowv) (vs := gq4) (l := gl3) Try.underlying23 rfl (fun w' hw => (((hG5.mo mo15).mo mo33).clsF hK hw rfl))) ?_
            refine L.ite h rfl (Y.eql rfl rfl) (fun c52 h => ?_) (fun c52 h => ?_)
            ·
             refine L.y rfl (Y.move rfl) ?_
             refine L.take rfl (L.y rfl (Y.move rfl) ?_)
             refine L.take rfl (L.y rfl (Y.not rfl) ?_)
             refine L.y rfl (Y.pickT rfl rfl) ?_
             refine L.y rfl (Y.move rfl) ?_
             refine L.take rfl (L.y rfl (Y.move rfl) ?_)
             refine L.take rfl (L.y rfl (Y.eql rfl rfl) ?_)
             refine L.y rfl (Y.pickT rfl rfl) ?_
             refine L.y rfl (Y.assign rfl) ?_
             refine L.nil (E.thenN (W.ret (E.KSR (E.ret1 rfl rfl (fun w1 hw => ?_)))))
             obtain rfl := Option.some.inj h
             exact ⟨_, _, rfl, ⟨rfl, rfl⟩, hw.sel [] (by decide) rfl⟩
            ·
             refine L.y rfl (Y.move rfl) ?_
             refine L.pass rfl rfl (by nofun) ?_
             refine L.pass rfl rfl (by nofun) ?_
             refine L.y rfl (Y.pickF rfl rfl) ?_
             refine L.y rfl (Y.move rfl) ?_
             refine L.pass rfl rfl (by nofun) ?_
             refine L.pass rfl rfl (by nofun) ?_
             refine L.y rfl (Y.pickF rfl rfl) ?_
             refine L.y rfl (Y.assign rfl) ?_
             refine L.nil (E.thenN (W.ret (E.KSR (E.ret1 rfl rfl (fun w1 hw => ?_)))))
             obtain rfl := Option.some.inj h
             exact ⟨_, _, rfl, ⟨rfl, rfl⟩, hw.sel [] (by decide) rfl⟩
         ·
          rintro _ _ ⟨rfl, rfl, h⟩
          rw [m3_quirlaw_LockSays_K7] at h
          refine W.seq (W.region (L.y rfl (Y.move rfl) ?_))
          refine L.y rfl (Y.move rfl) ?_
          refine L.y rfl (Y.move rfl) ?_
          refine L.y rfl (Y.move rfl) ?_
          obtain ⟨l36, b41, x42, e43, h⟩ := bind3S h
          refine L.doesF rfl en15 rfl rfl hK (fun w' hw hs => w15_quirref_AskLock a0 a1 a2 a3 u0 q0 _ w' hs _ e43 hA0.up.tok hD0.up.tok) ?_
          rintro _ c44 c45 mo46 mn47 ma48 ⟨v37, q39, rfl, f38, f40⟩
          refine L.y rfl (Y.move rfl) ?_
          refine L.y rfl (Y.extract rfl rfl) ?_
          refine L.y rfl (Y.extract rfl rfl) ?_
          refine L.y rfl (Y.extract rfl rfl) ?_
          refine L.y rfl (Y.assign rfl) ?_
          refine L.y rfl (Y.assign rfl) ?_
          refine L.y rfl (Y.assign rfl) ?_
          refine L.nil (E.thenN (W.seq (W.region (L.cutJ 8 (fun gs D => ∃ (gb11 : Bool), gs = [(12, .int .i64 gx10), (22, .int .i64 x42), (190, .bool gb11)] ∧ D = Cls w [] [.os c45] ∧ m3_quirlaw_LockSays_K8 gx10 x42 gb11 = some r) ?_ ?_))))
          ·
           refine L.y rfl (Y.move rfl) ?_
           refine L.y rfl (Y.move rfl) ?_
           obtain ⟨b49, e50, h⟩ := bind1S h
           refine L.y rfl (Y.does en13 rfl (fun w' hw => (w13_quirref_SameLocks gl3 l36 gv2 gq4 v37 q39 w' _ e50 ((((hG5.mo mo15).mo mo33).mo mo46).clsF hK hw rfl) ((((hG7.mo mo15).mo mo33).mo mo46).clsF hK hw rfl) ((mn47 f38).clsF hK hw rfl) ((ma48 f40).clsF hK hw rfl)).mono (fun _ _ h => h.1))) ?_
           rcases b49 with _ | _
           ·
            replace h := iteF h
            refine L.y rfl (Y.move rfl) ?_
            refine L.pass rfl rfl (by nofun) ?_
            refine L.pass rfl rfl (by nofun) ?_
            refine L.pass rfl rfl (by nofun) ?_
            refine L.y rfl (Y.pickF rfl rfl) ?_
            exact L.nil (E.joinJ ⟨false, rfl, rfl, h⟩ ⟨rfl, rfl, rfl, trivial⟩ (fun _ hw => hw))
           ·
            replace h := iteT h
            refine L.y rfl (Y.move rfl) ?_
            refine L.take rfl (L.y rfl (Y.move rfl) ?_)
            refine L.take rfl (L.y rfl (Y.move rfl) ?_)
            refine L.take rfl (L.iteB h rfl (Y.eqlB Try.underlying4 rfl rfl) (fun c51 h => ?_) (fun c51 h => ?_))
            ·
             refine L.y rfl (Y.pickT rfl rfl) ?_
             exact L.nil (E.joinJ ⟨true, rfl, rfl, h⟩ ⟨rfl, rfl, rfl, trivial⟩ (fun _ hw => hw))
            ·
             refine L.y rfl (Y.pickT rfl rfl) ?_
             exact L.nil (E.joinJ ⟨false, rfl, rfl, h⟩ ⟨rfl, rfl, rfl, trivial⟩ (fun _ hw => hw))
          ·
           rintro _ _ ⟨gb11, rfl, rfl, h⟩
           rw [m3_quirlaw_LockSays_K8] at h
           rcases gb11 with _ | _
           ·
            replace h := iteF h
            refine L.y rfl (Y.move rfl) ?_
            refine L.pass rfl rfl (by nofun) ?_
            refine L.pass rfl rfl (by nofun) ?_
            refine L.pass rfl rfl (by nofun) ?_
            refine L.y rfl (Y.pickF rfl rfl) ?_
            refine L.y rfl (Y.assign rfl) ?_
            refine L.nil (E.thenN (W.ret (E.ret1 rfl rfl (fun w1 hw => ?_))))
            obtain rfl := Option.some.inj h
            exact ⟨_, _, rfl, ⟨rfl, rfl⟩, hw.sel [] (by decide) rfl⟩
           ·
            replace h := iteT h
            refine L.y rfl (Y.move rfl) ?_
            refine L.take rfl (L.y rfl (Y.move rfl) ?_)
            refine L.take rfl (L.y rfl (Y.move rfl) ?_)
            refine L.take rfl (L.y rfl (Y.eql rfl rfl) ?_)
            refine L.y rfl (Y.pickT rfl rfl) ?_
            refine L.y rfl (Y.assign rfl) ?_
            refine L.nil (E.thenN (W.ret (E.ret1 rfl rfl (fun w1 hw => ?_))))
            obtain rfl := Option.some.inj h
            exact ⟨_, _, rfl, ⟨rfl, rfl⟩, hw.sel [] (by decide) rfl⟩
   ·
    replace h := iteT h
    refine W.seq (W.region (L.y rfl (Y.move rfl) ?_))
    refine L.y rfl (Y.move rfl) ?_
    obtain ⟨l84, l89, x92, e93, h⟩ := bind3S h
    refine L.doesF rfl en7 rfl rfl hK (fun w' hw hs => w7_lock_Drop a0 a1 u0 q0 _ w' hs _ e93 hA0.up.tok hD0.up.tok) ?_
    rintro _ c94 c95 mo96 mn97 ma98 ⟨v85, q87, v90, rfl, f86, f88, f91⟩
    refine L.y rfl (Y.move rfl) ?_
    refine L.y rfl (Y.extract rfl rfl) ?_
    refine L.y rfl (Y.extract rfl rfl) ?_
    refine L.y rfl (Y.extract rfl rfl) ?_
    refine L.y rfl (Y.assign rfl) ?_
    refine L.y rfl (Y.assign rfl) ?_
    refine L.y rfl (Y.assign rfl) ?_
    refine L.nil (E.thenN (W.seq (W.region (L.y rfl (Y.move rfl) ?_))))
    obtain ⟨l99, x101, e102, h⟩ := bind2S h
    refine L.does rfl en8 rfl (fun w' hw => w8_lock_Waits a0 u0 q0 w' _ e102 (hA0.up.clsF hK hw rfl) (hD0.up.clsF hK hw rfl)) ?_
    rintro _ _ ⟨v100, rfl, rfl⟩
    refine L.y rfl (Y.move rfl) ?_
    refine L.y rfl (Y.extract rfl rfl) ?_
    refine L.y rfl (Y.extract rfl rfl) ?_
    refine L.y rfl (Y.assign rfl) ?_
    refine L.y rfl (Y.assign rfl) ?_
    refine L.nil (E.thenN (W.seqJ (fun gs D => gs = [(0, u0), (1, .int .i64 a1), (2, .int .i64 a2), (3, .int .i64 a3), (9, .int .i64 x1), (10, gv2), (11, .bool true), (12, .int .i64 gx10), (13, v85), (14, v90), (15, .int .i64 x92), (16, v100), (17, .int .i64 x101)] ∧ D = Cls w [] [.sl v100 36 2 (l99.map TEdge.row), .os c95] ∧ m3_quirlaw_LockSays_K18 x1 gl3 a0 l99 x101 a1 l84 l89 x92 a2 a3 gx10 = some r) ?_ ?_))
    ·
     refine W.seq (W.region (L.y rfl (Y.move rfl) ?_))
     obtain ⟨x154, e155, h⟩ := bind1S h
     refine L.y rfl (Y.does en9 rfl (fun w' hw => (w9_lock_Check a0 u0 q0 w' _ e155 (hA0.up.clsF hK hw rfl) (hD0.up.clsF hK hw rfl)).mono (fun _ _ h => h.1))) ?_
     refine L.y rfl (Y.move rfl) ?_
     refine L.ite h rfl (Y.neq rfl rfl) (fun c156 h => ?_) (fun c156 h => ?_)
     ·
      refine L.nil (E.thenN (W.condT rfl ?_))
      refine W.seq (W.region (L.y rfl (Y.assign rfl) ?_))
      refine L.nil (E.thenN (W.ret (E.KSR (E.ret1 rfl rfl (fun w1 hw => ?_)))))
      obtain rfl := Option.some.inj h
      exact ⟨_, _, rfl, ⟨rfl, rfl⟩, hw.sel [] (by decide) rfl⟩
     ·
      refine L.nil (E.thenN (W.condF rfl ?_))
      exact W.skip (E.joinJ ⟨rfl, rfl, h⟩ ⟨rfl, rfl, rfl, rfl, rfl, rfl, rfl, rfl, rfl, rfl, rfl, rfl, rfl, trivial⟩ (fun _ hw => hw))
    ·
     rintro _ _ ⟨rfl, rfl, h⟩
     rw [m3_quirlaw_LockSays_K18] at h
     refine W.seqJ (fun gs D => gs = [(0, u0), (1, .int .i64 a1), (2, .int .i64 a2), (3, .int .i64 a3), (10, gv2), (11, .bool true), (12, .int .i64 gx10), (13, v85), (14, v90), (15, .int .i64 x92), (16, v100), (17, .int .i64 x101)] ∧ D = Cls w [] [.sl v100 36 2 (l99.map TEdge.row), .os c95] ∧ m3_quirlaw_LockSays_K19 a0 l99 x101 a1 gl3 l84 l89 x92 a2 a3 gx10 = some r) ?_ ?_
     ·
      refine W.seq (W.region (L.y rfl (Y.move rfl) ?_))
      refine L.ite h rfl (Y.neq rfl rfl) (fun c152 h => ?_) (fun c152 h => ?_)
      ·
       refine L.nil (E.thenN (W.condT rfl ?_))
       refine W.seq (W.region (L.y rfl (Y.move rfl) ?_))
       refine L.y rfl (Y.lenMZ (row := TLockItem.rowv) (vs := gq4) (l := gl3) Try.underlying23 rfl (fun w' hw => ((hG5.mo mo96).clsF hK hw rfl))) ?_
       refine L.ite h rfl (Y.eql rfl rfl) (fun c153 h => ?_) (fun c153 h => ?_)
       ·
        refine L.y rfl (Y.move rfl) ?_
        refine L.take rfl (L.y rfl (Y.move rfl) ?_)
        refine L.take rfl (L.y rfl (Y.not rfl) ?_)
        refine L.y rfl (Y.pickT rfl rfl) ?_
        refine L.y rfl (Y.move rfl) ?_
        refine L.pass rfl rfl (by nofun) ?_
        refine L.pass rfl rfl (by nofun) ?_
        refine L.pass rfl rfl (by nofun) ?_
        refine L.y rfl (Y.pickF rfl rfl) ?_
        refine L.y rfl (Y.move rfl) ?_
        refine L.pass rfl rfl (by nofun) ?_
        refine L.pass rfl rfl (by nofun) ?_
        refine L.pass rfl rfl (by nofun) ?_
        refine L.y rfl (Y.pickF rfl rfl) ?_
        refine L.y rfl (Y.move rfl) ?_
        refine L.pass rfl rfl (by nofun) ?_
        refine L.pass rfl rfl (by nofun) ?_
        refine L.pass rfl rfl (by nofun) ?_
        refine L.y rfl (Y.pickF rfl rfl) ?_
        refine L.y rfl (Y.move rfl) ?_
        refine L.pass rfl rfl (by nofun) ?_
        refine L.pass rfl rfl (by nofun) ?_
        refine L.pass rfl rfl (by nofun) ?_
        refine L.y rfl (Y.pickF rfl rfl) ?_
        refine L.y rfl (Y.move rfl) ?_
        refine L.pass rfl rfl (by nofun) ?_
        refine L.pass rfl rfl (by nofun) ?_
        refine L.pass rfl rfl (by nofun) ?_
        refine L.y rfl (Y.pickF rfl rfl) ?_
        refine L.y rfl (Y.move rfl) ?_
        refine L.pass rfl rfl (by nofun) ?_
        refine L.pass rfl rfl (by nofun) ?_
        refine L.pass rfl rfl (by nofun) ?_
        refine L.y rfl (Y.pickF rfl rfl) ?_
        refine L.y rfl (Y.assign rfl) ?_
        refine L.nil (E.thenN (W.ret (E.KSR (E.ret1 rfl rfl (fun w1 hw => ?_)))))
        obtain rfl := Option.some.inj h
        exact ⟨_, _, rfl, ⟨rfl, rfl⟩, hw.sel [] (by decide) rfl⟩
       ·
        refine L.y rfl (Y.move rfl) ?_
        refine L.pass rfl rfl (by nofun) ?_
        refine L.pass rfl rfl (by nofun) ?_
        refine L.y rfl (Y.pickF rfl rfl) ?_
        refine L.y rfl (Y.move rfl) ?_
        refine L.pass rfl rfl (by nofun) ?_
        refine L.pass rfl rfl (by nofun) ?_
        refine L.pass rfl rfl (by nofun) ?_
        refine L.y rfl (Y.pickF rfl rfl) ?_
        refine L.y rfl (Y.move rfl) ?_
        refine L.pass rfl rfl (by nofun) ?_
        refine L.pass rfl rfl (by nofun) ?_
        refine L.pass rfl rfl (by nofun) ?_
        refine L.y rfl (Y.pickF rfl rfl) ?_
        refine L.y rfl (Y.move rfl) ?_
        refine L.pass rfl rfl (by nofun) ?_
        refine L.pass rfl rfl (by nofun) ?_
        refine L.pass rfl rfl (by nofun) ?_
        refine L.y rfl (Y.pickF rfl rfl) ?_
        refine L.y rfl (Y.move rfl) ?_
        refine L.pass rfl rfl (by nofun) ?_
        refine L.pass rfl rfl (by nofun) ?_
        refine L.pass rfl rfl (by nofun) ?_
        refine L.y rfl (Y.pickF rfl rfl) ?_
        refine L.y rfl (Y.move rfl) ?_
        refine L.pass rfl rfl (by nofun) ?_
        refine L.pass rfl rfl (by nofun) ?_
        refine L.pass rfl rfl (by nofun) ?_
        refine L.y rfl (Y.pickF rfl rfl) ?_
        refine L.y rfl (Y.move rfl) ?_
        refine L.pass rfl rfl (by nofun) ?_
        refine L.pass rfl rfl (by nofun) ?_
        refine L.pass rfl rfl (by nofun) ?_
        refine L.y rfl (Y.pickF rfl rfl) ?_
        refine L.y rfl (Y.assign rfl) ?_
        refine L.nil (E.thenN (W.ret (E.KSR (E.ret1 rfl rfl (fun w1 hw => ?_)))))
        obtain rfl := Option.some.inj h
        exact ⟨_, _, rfl, ⟨rfl, rfl⟩, hw.sel [] (by decide) rfl⟩
      ·
       refine L.nil (E.thenN (W.condF rfl ?_))
       exact W.skip (E.joinJ ⟨rfl, rfl, h⟩ ⟨rfl, rfl, rfl, rfl, rfl, rfl, rfl, rfl, rfl, rfl, rfl, rfl, trivial⟩ (fun _ hw => hw))
     ·
      rintro _ _ ⟨rfl, rfl, h⟩
      rw [m3_quirlaw_LockSays_K19] at h
      refine W.seqJ (fun gs D => gs = [(0, u0), (1, .int .i64 a1), (2, .int .i64 a2), (3, .int .i64 a3), (10, gv2), (11, .bool true), (12, .int .i64 gx10), (13, v85), (14, v90), (15, .int .i64 x92)] ∧ D = Cls w [] [.os c95] ∧ m3_quirlaw_LockSays_K20 a1 gl3 a0 l84 l89 x92 a2 a3 gx10 = some r) ?_ ?_
      ·
       refine W.seq (W.region (L.y rfl (Y.move rfl) ?_))
       refine L.y rfl (Y.move rfl) ?_
       obtain ⟨l146, e148, h⟩ := bind1S h
       refine L.does rfl en11 rfl (fun w' hw => w11_quirref_WaitEdges a0 u0 q0 w' _ e148 (hA0.up.clsF hK hw rfl) (hD0.up.clsF hK hw rfl)) ?_
       rintro v147 _ ⟨_, rfl, rfl⟩
       obtain ⟨b149, e150, h⟩ := bind1S h
       refine L.y rfl (Y.does en10 rfl (fun w' hw => (w10_api_Edge l99 l146 v100 v147 w' _ e150 (As.at_ (hw.get (i := 1) rfl)) (As.at_ (hw.get (i := 0) rfl))).mono (fun _ _ h => h.1))) ?_
       rcases b149 with _ | _
       ·
        replace h := iteF h
        refine L.y rfl (Y.not rfl) ?_
        refine L.y rfl (Y.move rfl) ?_
        refine L.pass rfl rfl (by nofun) ?_
        refine L.pass rfl rfl (by nofun) ?_
        refine L.y rfl (Y.pickT rfl rfl) ?_
        refine L.nil (E.thenN (W.condT rfl ?_))
        refine W.seq (W.region (L.y rfl (Y.assign rfl) ?_))
        refine L.nil (E.thenN (W.ret (E.KSR (E.ret1 rfl rfl (fun w1 hw => ?_)))))
        obtain rfl := Option.some.inj h
        exact ⟨_, _, rfl, ⟨rfl, rfl⟩, hw.sel [] (by decide) rfl⟩
       ·
        replace h := iteT h
        refine L.y rfl (Y.not rfl) ?_
        refine L.y rfl (Y.move rfl) ?_
        refine L.take rfl (L.y rfl (Y.move rfl) ?_)
        refine L.take rfl (L.ite h rfl (Y.neq rfl rfl) (fun c151 h => ?_) (fun c151 h => ?_))
        ·
         refine L.y rfl (Y.pickF rfl rfl) ?_
         refine L.nil (E.thenN (W.condT rfl ?_))
         refine W.seq (W.region (L.y rfl (Y.assign rfl) ?_))
         refine L.nil (E.thenN (W.ret (E.KSR (E.ret1 rfl rfl (fun w1 hw => ?_)))))
         obtain rfl := Option.some.inj h
         exact ⟨_, _, rfl, ⟨rfl, rfl⟩, hw.sel [] (by decide) rfl⟩
        ·
         refine L.y rfl (Y.pickF rfl rfl) ?_
         refine L.nil (E.thenN (W.condF rfl ?_))
         exact W.skip (E.joinJ ⟨rfl, rfl, h⟩ ⟨rfl, rfl, rfl, rfl, rfl, rfl, rfl, rfl, rfl, rfl, trivial⟩ (fun _ hw => hw.sel [2] (by decide) rfl))
      ·
       rintro _ _ ⟨rfl, rfl, h⟩
       rw [m3_quirlaw_LockSays_K20] at h
       refine W.seqJ (fun gs D => gs = [(0, u0), (1, .int .i64 a1), (2, .int .i64 a2), (3, .int .i64 a3), (10, gv2), (11, .bool true), (12, .int .i64 gx10), (13, v85), (14, v90), (15, .int .i64 x92)] ∧ D = Cls w [] [.os c95] ∧ m3_quirlaw_LockSays_K21 a0 a1 l84 l89 x92 a2 gl3 a3 gx10 = some r) ?_ ?_
       ·
        refine W.seqJ (fun gs D => ∃ (gb25 : Bool), gs = [(0, u0), (1, .int .i64 a1), (2, .int .i64 a2), (3, .int .i64 a3), (10, gv2), (11, .bool true), (12, .int .i64 gx10), (13, v85), (14, v90), (15, .int .i64 x92), (103, .bool gb25)] ∧ D = Cls w [] [.os c95] ∧ m3_quirlaw_LockSays_K28 gl3 a0 a1 l84 l89 x92 a2 a3 gx10 gb25 = some r) ?_ ?_
        ·
         refine W.region (L.y rfl (Y.move rfl) ?_)
         refine L.ite h rfl (Y.lss rfl rfl) (fun c144 h => ?_) (fun c144 h => ?_)
         ·
          refine L.y rfl (Y.move rfl) ?_
          refine L.pass rfl rfl (by nofun) ?_
          refine L.pass rfl rfl (by nofun) ?_
          refine L.y rfl (Y.pickT rfl rfl) ?_
          exact L.nil (E.joinJ ⟨true, rfl, rfl, h⟩ ⟨rfl, rfl, rfl, rfl, rfl, rfl, rfl, rfl, rfl, rfl, rfl, trivial⟩ (fun _ hw => hw))
         ·
          refine L.y rfl (Y.move rfl) ?_
          refine L.take rfl (L.y rfl (Y.move rfl) ?_)
          refine L.take rfl (L.ite h rfl (Y.gtr rfl rfl) (fun c145 h => ?_) (fun c145 h => ?_))
          ·
           refine L.y rfl (Y.pickF rfl rfl) ?_
           exact L.nil (E.joinJ ⟨true, rfl, rfl, h⟩ ⟨rfl, rfl, rfl, rfl, rfl, rfl, rfl, rfl, rfl, rfl, rfl, trivial⟩ (fun _ hw => hw))
          ·
           refine L.y rfl (Y.pickF rfl rfl) ?_
           exact L.nil (E.joinJ ⟨false, rfl, rfl, h⟩ ⟨rfl, rfl, rfl, rfl, rfl, rfl, rfl, rfl, rfl, rfl, rfl, trivial⟩ (fun _ hw => hw))
        ·
         rintro _ _ ⟨gb25, rfl, rfl, h⟩
         rw [m3_quirlaw_LockSays_K28] at h
         rcases gb25 with _ | _
         ·
          replace h := iteF h
          refine W.condF rfl ?_
          exact W.skip (E.joinJ ⟨rfl, rfl, h⟩ ⟨rfl, rfl, rfl, rfl, rfl, rfl, rfl, rfl, rfl, rfl, trivial⟩ (fun _ hw => hw))
         ·
          replace h := iteT h
          refine W.condT rfl ?_
          refine W.seq (W.region (L.y rfl (Y.move rfl) ?_))
          refine L.y rfl (Y.lenMZ (row := TLockItem.rowv) (vs := gq4) (l := gl3) Try.underlying23 rfl (fun w' hw => ((hG5.mo mo96).clsF hK hw rfl))) ?_
          refine L.ite h rfl (Y.eql rfl rfl) (fun c143 h => ?_) (fun c143 h => ?_)
          ·
           refine L.y rfl (Y.move rfl) ?_
           refine L.take rfl (L.y rfl (Y.move rfl) ?_)
           refine L.take rfl (L.y rfl (Y.not rfl) ?_)
           refine L.y rfl (Y.pickT rfl rfl) ?_
           refine L.y rfl (Y.move rfl) ?_
           refine L.pass rfl rfl (by nofun) ?_
           refine L.pass rfl rfl (by nofun) ?_
           refine L.y rfl (Y.pickF rfl rfl) ?_
           refine L.y rfl (Y.move rfl) ?_
           refine L.pass rfl rfl (by nofun) ?_
           refine L.pass rfl rfl (by nofun) ?_
           refine L.pass rfl rfl (by nofun) ?_
           refine L.y rfl (Y.pickF rfl rfl) ?_
           refine L.y rfl (Y.move rfl) ?_
           refine L.pass rfl rfl (by nofun) ?_
           refine L.pass rfl rfl (by nofun) ?_
           refine L.pass rfl rfl (by nofun) ?_
           refine L.y rfl (Y.pickF rfl rfl) ?_
           refine L.y rfl (Y.move rfl) ?_
           refine L.pass rfl rfl (by nofun) ?_
           refine L.pass rfl rfl (by nofun) ?_
           refine L.y rfl (Y.pickF rfl rfl) ?_
           refine L.y rfl (Y.assign rfl) ?_
           refine L.nil (E.thenN (W.ret (E.KSR (E.ret1 rfl rfl (fun w1 hw => ?_)))))
           obtain rfl := Option.some.inj h
           exact ⟨_, _, rfl, ⟨rfl, rfl⟩, hw.sel [] (by decide) rfl⟩
          ·
           refine L.y rfl (Y.move rfl) ?_
           refine L.pass rfl rfl (by nofun) ?_
           refine L.pass rfl rfl (by nofun) ?_
           refine L.y rfl (Y.pickF rfl rfl) ?_
           refine L.y rfl (Y.move rfl) ?_
           refine L.pass rfl rfl (by nofun) ?_
           refine L.pass rfl rfl (by nofun) ?_
           refine L.y rfl (Y.pickF rfl rfl) ?_
           refine L.y rfl (Y.move rfl) ?_
           refine L.pass rfl rfl (by nofun) ?_
           refine L.pass rfl rfl (by nofun) ?_
           refine L.pass rfl rfl (by nofun) ?_
           refine L.y rfl (Y.pickF rfl rfl) ?_
           refine L.y rfl (Y.move rfl) ?_
           refine L.pass rfl rfl (by nofun) ?_
           refine L.pass rfl rfl (by nofun) ?_
           refine L.pass rfl rfl (by nofun) ?_
           refine L.y rfl (Y.pickF rfl rfl) ?_
           refine L.y rfl (Y.move rfl) ?_
           refine L.pass rfl rfl (by nofun) ?_
           refine L.pass rfl rfl (by nofun) ?_
           refine L.y rfl (Y.pickF rfl rfl) ?_
           refine L.y rfl (Y.assign rfl) ?_
           refine L.nil (E.thenN (W.ret (E.KSR (E.ret1 rfl rfl (fun w1 hw => ?_)))))
           obtain rfl := Option.some.inj h
           exact ⟨_, _, rfl, ⟨rfl, rfl⟩, hw.sel [] (by decide) rfl⟩
       ·
        rintro _ _ ⟨rfl, rfl, h⟩
        rw [m3_quirlaw_LockSays_K21] at h
        refine W.seq (W.region (L.y rfl (Y.move rfl) ?_))
        refine L.y rfl (Y.move rfl) ?_
        obtain ⟨l103, l108, e111, h⟩ := bind2S h
        refine L.doesF rfl en12 rfl rfl hK (fun w' hw hs => w12_quirref_DropLocks a0 a1 u0 q0 _ w' hs _ e111 hA0.up.tok hD0.up.tok) ?_
        rintro _ c112 c113 mo114 mn115 ma116 ⟨v104, q106, v109, rfl, f105, f107, f110⟩
        refine L.y rfl (Y.move rfl) ?_
        refine L.y rfl (Y.extract rfl rfl) ?_
        refine L.y rfl (Y.extract rfl rfl) ?_
        refine L.y rfl (Y.assign rfl) ?_
        refine L.y rfl (Y.assign rfl) ?_
        refine L.nil (E.thenN (W.seqJ (fun gs D => gs = [(0, u0), (1, .int .i64 a1), (2, .int .i64 a2), (3, .int .i64 a3), (10, gv2), (11, .bool true), (12, .int .i64 gx10)] ∧ D = Cls w [] [.os c113] ∧ m3_quirlaw_LockSays_K22 a2 gl3 a0 a1 a3 gx10 = some r) ?_ ?_))
        ·
         refine W.seq (W.region (L.cutJ 10 (fun gs D => ∃ (gb24 : Bool), gs = [(0, u0), (1, .int .i64 a1), (2, .int .i64 a2), (3, .int .i64 a3), (10, gv2), (11, .bool true), (12, .int .i64 gx10), (15, .int .i64 x92), (144, .bool gb24)] ∧ D = Cls w [] [.os c113] ∧ m3_quirlaw_LockSays_K27 x92 a2 gl3 a0 a1 a3 gx10 gb24 = some r) ?_ ?_))
         ·
          refine L.y rfl (Y.move rfl) ?_
          refine L.y rfl (Y.move rfl) ?_
          obtain ⟨b139, e140, h⟩ := bind1S h
          refine L.y rfl (Y.does en13 rfl (fun w' hw => (w13_quirref_SameLocks l84 l103 v85 q87 v104 q106 w' _ e140 (((mn97 f86).mo mo114).clsF hK hw rfl) (((ma98 f88).mo mo114).clsF hK hw rfl) ((mn115 f105).clsF hK hw rfl) ((ma116 f107).clsF hK hw rfl)).mono (fun _ _ h => h.1))) ?_
          rcases b139 with _ | _
          ·
           replace h := iteF h
           refine L.y rfl (Y.not rfl) ?_
           refine L.y rfl (Y.move rfl) ?_
           refine L.pass rfl rfl (by nofun) ?_
           refine L.pass rfl rfl (by nofun) ?_
           refine L.pass rfl rfl (by nofun) ?_
           refine L.pass rfl rfl (by nofun) ?_
           refine L.y rfl (Y.pickT rfl rfl) ?_
           exact L.nil (E.joinJ ⟨true, rfl, rfl, h⟩ ⟨rfl, rfl, rfl, rfl, rfl, rfl, rfl, rfl, rfl, trivial⟩ (fun _ hw => hw))
          ·
           replace h := iteT h
           refine L.y rfl (Y.not rfl) ?_
           refine L.y rfl (Y.move rfl) ?_
           refine L.take rfl (L.y rfl (Y.move rfl) ?_)
           refine L.take rfl (L.y rfl (Y.move rfl) ?_)
           refine L.take rfl ?_
           obtain ⟨b141, e142, h⟩ := bind1S h
           refine L.y rfl (Y.does en14 rfl (fun w' hw => (w14_slices_Equal_int l89 l108 v90 v109 w' _ e142 (((mn97 f91).mo mo114).clsF hK hw rfl) ((mn115 f110).clsF hK hw rfl)).mono (fun _ _ h => h.1))) ?_
           rcases b141 with _ | _
           ·
            replace h := iteF h
            refine L.take rfl (L.y rfl (Y.not rfl) ?_)
            refine L.y rfl (Y.pickF rfl rfl) ?_
            exact L.nil (E.joinJ ⟨true, rfl, rfl, h⟩ ⟨rfl, rfl, rfl, rfl, rfl, rfl, rfl, rfl, rfl, trivial⟩ (fun _ hw => hw))
           ·
            replace h := iteT h
            refine L.take rfl (L.y rfl (Y.not rfl) ?_)
            refine L.y rfl (Y.pickF rfl rfl) ?_
            exact L.nil (E.joinJ ⟨false, rfl, rfl, h⟩ ⟨rfl, rfl, rfl, rfl, rfl, rfl, rfl, rfl, rfl, trivial⟩ (fun _ hw => hw))
         ·
          rintro _ _ ⟨gb24, rfl, rfl, h⟩
          rw [m3_quirlaw_LockSays_K27] at h
          rcases gb24 with _ | _
          ·
           replace h := iteF h
           refine L.y rfl (Y.move rfl) ?_
           refine L.take rfl (L.y rfl (Y.move rfl) ?_)
           refine L.take rfl (L.ite h rfl (Y.neq rfl rfl) (fun c138 h => ?_) (fun c138 h => ?_))
           ·
            refine L.y rfl (Y.pickF rfl rfl) ?_
            refine L.nil (E.thenN (W.condT rfl ?_))
            refine W.seq (W.region (L.y rfl (Y.assign rfl) ?_))
            refine L.nil (E.thenN (W.ret (E.KSR (E.ret1 rfl rfl (fun w1 hw => ?_)))))
            obtain rfl := Option.some.inj h
            exact ⟨_, _, rfl, ⟨rfl, rfl⟩, hw.sel [] (by decide) rfl⟩
           ·
            refine L.y rfl (Y.pickF rfl rfl) ?_
            refine L.nil (E.thenN (W.condF rfl ?_))
            exact W.skip (E.joinJ ⟨rfl, rfl, h⟩ ⟨rfl, rfl, rfl, rfl, rfl, rfl, rfl, trivial⟩ (fun _ hw => hw))
          ·
           replace h := iteT h
           refine L.y rfl (Y.move rfl) ?_
           refine L.pass rfl rfl (by nofun) ?_
           refine L.pass rfl rfl (by nofun) ?_
           refine L.y rfl (Y.pickT rfl rfl) ?_
           refine L.nil (E.thenN (W.condT rfl ?_))
           refine W.seq (W.region (L.y rfl (Y.assign rfl) ?_))
           refine L.nil (E.thenN (W.ret (E.KSR (E.ret1 rfl rfl (fun w1 hw => ?_)))))
           obtain rfl := Option.some.inj h
           exact ⟨_, _, rfl, ⟨rfl, rfl⟩, hw.sel [] (by decide) rfl⟩
        ·
         rintro _ _ ⟨rfl, rfl, h⟩
         rw [m3_quirlaw_LockSays_K22] at h
         refine W.seqJ (fun gs D => gs = [(0, u0), (1, .int .i64 a1), (2, .int .i64 a2), (3, .int .i64 a3), (10, gv2), (11, .bool true), (12, .int .i64 gx10)] ∧ D = Cls w [] [.os c113] ∧ m3_quirlaw_LockSays_K23 a0 a1 a2 a3 gl3 gx10 = some r) ?_ ?_
         ·
          refine W.seqJ (fun gs D => ∃ (gb22 : Bool), gs = [(0, u0), (1, .int .i64 a1), (2, .int .i64 a2), (3, .int .i64 a3), (10, gv2), (11, .bool true), (12, .int .i64 gx10), (162, .bool gb22)] ∧ D = Cls w [] [.os c113] ∧ m3_quirlaw_LockSays_K25 gl3 a0 a1 a2 a3 gx10 gb22 = some r) ?_ ?_
          ·
           refine W.region (L.cutJ 6 (fun gs D => ∃ (gb23 : Bool), gs = [(0, u0), (1, .int .i64 a1), (2, .int .i64 a2), (3, .int .i64 a3), (10, gv2), (11, .bool true), (12, .int .i64 gx10), (154, .bool gb23)] ∧ D = Cls w [] [.os c113] ∧ m3_quirlaw_LockSays_K26 gl3 a0 a1 a2 a3 gx10 gb23 = some r) ?_ ?_)
           ·
            refine L.y rfl (Y.move rfl) ?_
            refine L.ite h rfl (Y.lss rfl rfl) (fun c136 h => ?_) (fun c136 h => ?_)
            ·
             refine L.y rfl (Y.move rfl) ?_
             refine L.pass rfl rfl (by nofun) ?_
             refine L.pass rfl rfl (by nofun) ?_
             refine L.y rfl (Y.pickT rfl rfl) ?_
             exact L.nil (E.joinJ ⟨true, rfl, rfl, h⟩ ⟨rfl, rfl, rfl, rfl, rfl, rfl, rfl, rfl, trivial⟩ (fun _ hw => hw))
            ·
             refine L.y rfl (Y.move rfl) ?_
             refine L.take rfl (L.y rfl (Y.move rfl) ?_)
             refine L.take rfl (L.ite h rfl (Y.gtr rfl rfl) (fun c137 h => ?_) (fun c137 h => ?_))
             ·
              refine L.y rfl (Y.pickF rfl rfl) ?_
              exact L.nil (E.joinJ ⟨true, rfl, rfl, h⟩ ⟨rfl, rfl, rfl, rfl, rfl, rfl, rfl, rfl, trivial⟩ (fun _ hw => hw))
             ·
              refine L.y rfl (Y.pickF rfl rfl) ?_
              exact L.nil (E.joinJ ⟨false, rfl, rfl, h⟩ ⟨rfl, rfl, rfl, rfl, rfl, rfl, rfl, rfl, trivial⟩ (fun _ hw => hw))
           ·
            rintro _ _ ⟨gb23, rfl, rfl, h⟩
            rw [m3_quirlaw_LockSays_K26] at h
            rcases gb23 with _ | _
            ·
             replace h := iteF h
             refine L.y rfl (Y.move rfl) ?_
             refine L.take rfl (L.y rfl (Y.move rfl) ?_)
             refine L.take rfl (L.ite h rfl (Y.lss rfl rfl) (fun c134 h => ?_) (fun c134 h => ?_))
             ·
              refine L.y rfl (Y.pickF rfl rfl) ?_
              refine L.y rfl (Y.move rfl) ?_
              refine L.pass rfl rfl (by nofun) ?_
              refine L.pass rfl rfl (by nofun) ?_
              refine L.y rfl (Y.pickT rfl rfl) ?_
              exact L.nil (E.joinJ ⟨true, rfl, rfl, h⟩ ⟨rfl, rfl, rfl, rfl, rfl, rfl, rfl, rfl, trivial⟩ (fun _ hw => hw))
             ·
              refine L.y rfl (Y.pickF rfl rfl) ?_
              refine L.y rfl (Y.move rfl) ?_
              refine L.take rfl (L.y rfl (Y.move rfl) ?_)
              refine L.take rfl (L.ite h rfl (Y.gtr rfl rfl) (fun c135 h => ?_) (fun c135 h => ?_))
              ·
               refine L.y rfl (Y.pickF rfl rfl) ?_
               exact L.nil (E.joinJ ⟨true, rfl, rfl, h⟩ ⟨rfl, rfl, rfl, rfl, rfl, rfl, rfl, rfl, trivial⟩ (fun _ hw => hw))
              ·
               refine L.y rfl (Y.pickF rfl rfl) ?_
               exact L.nil (E.joinJ ⟨false, rfl, rfl, h⟩ ⟨rfl, rfl, rfl, rfl, rfl, rfl, rfl, rfl, trivial⟩ (fun _ hw => hw))
            ·
             replace h := iteT h
             refine L.y rfl (Y.move rfl) ?_
             refine L.pass rfl rfl (by nofun) ?_
             refine L.pass rfl rfl (by nofun) ?_
             refine L.y rfl (Y.pickT rfl rfl) ?_
             refine L.y rfl (Y.move rfl) ?_
             refine L.pass rfl rfl (by nofun) ?_
             refine L.pass rfl rfl (by nofun) ?_
             refine L.y rfl (Y.pickT rfl rfl) ?_
             exact L.nil (E.joinJ ⟨true, rfl, rfl, h⟩ ⟨rfl, rfl, rfl, rfl, rfl, rfl, rfl, rfl, trivial⟩ (fun _ hw => hw))
          ·
           rintro _ _ ⟨gb22, rfl, rfl, h⟩
           rw [m3_quirlaw_LockSays_K25] at h
           rcases gb22 with _ | _
           ·
            replace h := iteF h
            refine W.condF rfl ?_
            exact W.skip (E.joinJ ⟨rfl, rfl, h⟩ ⟨rfl, rfl, rfl, rfl, rfl, rfl, rfl, trivial⟩ (fun _ hw => hw))
           ·
            replace h := iteT h
            refine W.condT rfl ?_
            refine W.seq (W.region (L.y rfl (Y.move rfl) ?_))
            refine L.y rfl (Y.lenMZ (row := TLockItem.rowv) (vs := gq4) (l := gl3) Try.underlying23 rfl (fun w' hw => (((hG5.mo mo96).mo mo114).clsF hK hw rfl))) ?_
            refine L.ite h rfl (Y.eql rfl rfl) (fun c133 h => ?_) (fun c133 h => ?_)
            ·
             refine L.y rfl (Y.move rfl) ?_
             refine L.take rfl (L.y rfl (Y.move rfl) ?_)
             refine L.take rfl (L.y rfl (Y.not rfl) ?_)
             refine L.y rfl (Y.pickT rfl rfl) ?_
             refine L.y rfl (Y.move rfl) ?_
             refine L.pass rfl rfl (by nofun) ?_
             refine L.pass rfl rfl (by nofun) ?_
             refine L.y rfl (Y.pickF rfl rfl) ?_
             refine L.y rfl (Y.assign rfl) ?_
             refine L.nil (E.thenN (W.ret (E.KSR (E.ret1 rfl rfl (fun w1 hw => ?_)))))
             obtain rfl := Option.some.inj h
             exact ⟨_, _, rfl, ⟨rfl, rfl⟩, hw.sel [] (by decide) rfl⟩
            ·
             refine L.y rfl (Y.move rfl) ?_
             refine L.pass rfl rfl (by nofun) ?_
             refine L.pass rfl rfl (by nofun) ?_
             refine L.y rfl (Y.pickF rfl rfl) ?_
             refine L.y rfl (Y.move rfl) ?_
             refine L.pass rfl rfl (by nofun) ?_
             refine L.pass rfl rfl (by nofun) ?_
             refine L.y rfl (Y.pickF rfl rfl) ?_
             refine L.y rfl (Y.assign rfl) ?_
             refine L.nil (E.thenN (W.ret (E.KSR (E.ret1 rfl rfl (fun w1 hw => ?_)))))
             obtain rfl := Option.some.inj h
             exact ⟨_, _, rfl, ⟨rfl, rfl⟩, hw.sel [] (by decide) rfl⟩
         ·
          rintro _ _ ⟨rfl, rfl, h⟩
          rw [m3_quirlaw_LockSays_K23] at h
          refine W.seq (W.region (L.y rfl (Y.move rfl) ?_))
          refine L.y rfl (Y.move rfl) ?_
          refine L.y rfl (Y.move rfl) ?_
          refine L.y rfl (Y.move rfl) ?_
          obtain ⟨l117, b122, x123, e124, h⟩ := bind3S h
          refine L.doesF rfl en15 rfl rfl hK (fun w' hw hs => w15_quirref_AskLock a0 a1 a2 a3 u0 q0 _ w' hs _ e124 hA0.up.tok hD0.up.tok) ?_
          rintro _ c125 c126 mo127 mn128 ma129 ⟨v118, q120, rfl, f119, f121⟩
          refine L.y rfl (Y.move rfl) ?_
          refine L.y rfl (Y.extract rfl rfl) ?_
          refine L.y rfl (Y.extract rfl rfl) ?_
          refine L.y rfl (Y.extract rfl rfl) ?_
          refine L.y rfl (Y.assign rfl) ?_
          refine L.y rfl (Y.assign rfl) ?_
          refine L.y rfl (Y.assign rfl) ?_
          refine L.nil (E.thenN (W.seq (W.region (L.cutJ 8 (fun gs D => ∃ (gb21 : Bool), gs = [(12, .int .i64 gx10), (22, .int .i64 x123), (190, .bool gb21)] ∧ D = Cls w [] [.os c126] ∧ m3_quirlaw_LockSays_K24 gx10 x123 gb21 = some r) ?_ ?_))))
          ·
           refine L.y rfl (Y.move rfl) ?_
           refine L.y rfl (Y.move rfl) ?_
           obtain ⟨b130, e131, h⟩ := bind1S h
           refine L.y rfl (Y.does en13 rfl (fun w' hw => (w13_quirref_SameLocks gl3 l117 gv2 gq4 v118 q120 w' _ e131 ((((hG5.mo mo96).mo mo114).mo mo127).clsF hK hw rfl) ((((hG7.mo mo96).mo mo114).mo mo127).clsF hK hw rfl) ((mn128 f119).clsF hK hw rfl) ((ma129 f121).clsF hK hw rfl)).mono (fun _ _ h => h.1))) ?_
           rcases b130 with _ | _
           ·
            replace h := iteF h
            refine L.y rfl (Y.move rfl) ?_
            refine L.pass rfl rfl (by nofun) ?_
            refine L.pass rfl rfl (by nofun) ?_
            refine L.pass rfl rfl (by nofun) ?_
            refine L.y rfl (Y.pickF rfl rfl) ?_
            exact L.nil (E.joinJ ⟨false, rfl, rfl, h⟩ ⟨rfl, rfl, rfl, trivial⟩ (fun _ hw => hw))
           ·
            replace h := iteT h
            refine L.y rfl (Y.move rfl) ?_
            refine L.take rfl (L.y rfl (Y.move rfl) ?_)
            refine L.take rfl (L.y rfl (Y.move rfl) ?_)
            refine L.take rfl (L.iteB h rfl (Y.eqlB Try.underlying4 rfl rfl) (fun c132 h => ?_) (fun c132 h => ?_))
            ·
             refine L.y rfl (Y.pickT rfl rfl) ?_
             exact L.nil (E.joinJ ⟨true, rfl, rfl, h⟩ ⟨rfl, rfl, rfl, trivial⟩ (fun _ hw => hw))
            ·
             refine L.y rfl (Y.pickT rfl rfl) ?_
             exact L.nil (E.joinJ ⟨false, rfl, rfl, h⟩ ⟨rfl, rfl, rfl, trivial⟩ (fun _ hw => hw))
          ·
           rintro _ _ ⟨gb21, rfl, rfl, h⟩
           rw [m3_quirlaw_LockSays_K24] at h
           rcases gb21 with _ | _
           ·
            replace h := iteF h
            refine L.y rfl (Y.move rfl) ?_
            refine L.pass rfl rfl (by nofun) ?_
            refine L.pass rfl rfl (by nofun) ?_
            refine L.pass rfl rfl (by nofun) ?_
            refine L.y rfl (Y.pickF rfl rfl) ?_
            refine L.y rfl (Y.assign rfl) ?_
            refine L.nil (E.thenN (W.ret (E.ret1 rfl rfl (fun w1 hw => ?_))))
            obtain rfl := Option.some.inj h
            exact ⟨_, _, rfl, ⟨rfl, rfl⟩, hw.sel [] (by decide) rfl⟩
           ·
            replace h := iteT h
            refine L.y rfl (Y.move rfl) ?_
            refine L.take rfl (L.y rfl (Y.move rfl) ?_)
            refine L.take rfl (L.y rfl (Y.move rfl) ?_)
            refine L.take rfl (L.y rfl (Y.eql rfl rfl) ?_)
            refine L.y rfl (Y.pickT rfl rfl) ?_
            refine L.y rfl (Y.assign rfl) ?_
            refine L.nil (E.thenN (W.ret (E.ret1 rfl rfl (fun w1 hw => ?_))))
            obtain rfl := Option.some.inj h
            exact ⟨_, _, rfl, ⟨rfl, rfl⟩, hw.sel [] (by decide) rfl⟩
end Go.Proofs.Ytgkdimboofglfaa
