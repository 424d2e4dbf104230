/-
  Walks, printed by a program of mine.
  Conditions: none.
-/
import Derived.Test.YtjhcdmcikodgkaaWaW1
import Derived.Test.YtjhcdmcikodgkaaChecked
import Derived.KernelRfl
import Derived.Test.YtjhcdmcikodgkaaSo
import Derived.Test.YtjhcdmcikodgkaaGrO
namespace Go.Proofs.Ytjhcdmcikodgkaa
open Go.S
set_option linter.unusedVariables false
set_option linter.unusedSimpArgs false
set_option maxRecDepth 100000 in
set_option maxHeartbeats 8000000 in
set_option maxRecDepth 100000 in
set_option maxHeartbeats 8000000 in
theorem w18_quirref_Dead (a0 : Int) (a1 : (List TEdge)) (u1 : Value) (w : World) (r : (List Int)) (h : m18_quirref_Dead a0 a1 = some r) (hA1 : At w u1 2 (a1.map TEdge.row)) : Does Try.prog 18 [.int .i64 a0, u1] w fun u m => ∃ v0, u = v0 ∧ m = [.sl v0 3 1 (r.map I)] := by
  rw [m18_quirref_Dead] at h
  refine body (n := 55) Try.func18 rfl rfl rfl (Cls.refl w) ?_
  refine W.seq (W.region (L.y rfl (Y.assign rfl) ?_))
  refine L.nil (E.thenN (W.seq (W.region (L.y rfl (Y.move rfl) ?_))))
  refine L.y rfl (Y.move rfl) ?_
  obtain ⟨l1, e4, h⟩ := bind1S h
  refine L.does rfl en14 rfl (fun w' hw => w14_quirref_Closure a0 a1 u1 w' _ e4 (hA1.cls0 hw)) ?_
  rintro v2 _ ⟨_, q3, rfl, rfl⟩
  refine L.y rfl (Y.assign rfl) ?_
  refine L.nil (E.thenN (W.seq (W.region (L.y rfl (Y.assign rfl) ?_))))
  refine L.nil (E.thenN (W.seqJ (fun gs D => ∃ (gv1 : Value) (gl2 : (List Int)), gs = [(6, gv1)] ∧ D = Cls w [] [.sl gv1 3 1 (gl2.map I)] ∧ m18_quirref_Dead_K1 gl2 = some r) ?_ ?_))
  ·
   refine W.seq (W.region (L.y rfl (Y.move rfl) ?_))
   refine L.y rfl (Y.move rfl) ?_
   refine L.nil (E.thenN (W.block (W.nilSl 3 1 ?_)))
   refine W.loopJ (fun m gs D => ∃ (gv3 : Value) (gl4 : (List Int)) (gx5 : Int), gs = [(0, .int .i64 a0), (5, v2), (6, gv3), (13, .int .i64 a0), (14, .int .i64 gx5)] ∧ D = Cls w [] [.sl v2 37 1 (zr svRow q3 l1), .ss (zs (svSd 4 1 B) q3 l1), .sl gv3 3 1 (gl4.map I)] ∧ m18_quirref_Dead_L1 a0 l1 m gl4 gx5 = some r) ⟨.slice none 0 0, [], 0, rfl, rfl, h⟩ ⟨rfl, rfl, rfl, rfl, rfl, trivial⟩ (fun _ hw => hw.sel [1, 2, 0] (by decide) rfl) ?_
   rintro m _ _ ⟨gv3, gl4, gx5, rfl, rfl, h⟩
   rcases m with _ | m
   · rw [m18_quirref_Dead_L1] at h; cases h
   rw [m18_quirref_Dead_L1] at h
   generalize hg1 : m18_quirref_Dead_L1 a0 l1 m = go1 at h
   rw [m18_quirref_Dead_L1B] at h
   refine W.seq (W.region (L.ite h rfl (Y.lss rfl rfl) (fun c5 h => ?_) (fun c5 h => ?_)))
   ·
    refine L.nil (E.thenN (W.seq (W.condT rfl ?_)))
    refine W.skip (E.thenN (W.seqJ (fun gs D => ∃ (gv6 : Value) (gl7 : (List Int)), gs = [(0, .int .i64 a0), (5, v2), (6, gv6), (13, .int .i64 a0), (14, .int .i64 gx5)] ∧ D = Cls w [] [.sl v2 37 1 (zr svRow q3 l1), .ss (zs (svSd 4 1 B) q3 l1), .sl gv6 3 1 (gl7.map I)] ∧ m18_quirref_Dead_K2 gx5 go1 gl7 = some r) ?_ ?_))
    ·
     refine W.block (W.seq (W.region (L.y rfl (Y.move rfl) ?_)))
     refine L.y rfl (Y.assign rfl) ?_
     refine L.nil (E.thenN (W.seqJ (fun gs D => ∃ (gb8 : Bool), gs = [(0, .int .i64 a0), (5, v2), (6, gv3), (7, .int .i64 gx5), (8, .bool gb8), (13, .int .i64 a0), (14, .int .i64 gx5)] ∧ D = Cls w [] [.sl v2 37 1 (zr svRow q3 l1), .ss (zs (svSd 4 1 B) q3 l1), .sl gv3 3 1 (gl4.map I)] ∧ m18_quirref_Dead_K3 a0 gl4 gx5 go1 l1 gb8 = some r) ?_ ?_))
     ·
      refine W.region (L.y rfl (Y.move rfl) ?_)
      refine L.y rfl (Y.move rfl) ?_
      refine L.m (V := fun _ => el v2 (gx5.toNat * 1)) h rfl (Y.indexMZ (row := svRow) (vs := q3) (l := l1) Try.underlying38 sz37 rfl rfl (fun w hw => As.at_ (hw.get (i := 0) rfl))) (fun x25 ex25 h => ?_)
      refine L.y rfl (Y.loadE1 (u := gv (q3 gx5.toNat) 0) ag37 rfl (fun w hw => As.at_ (hw.get (i := 0) rfl)) (zr_idx (vs := q3) ex25)) ?_
      refine L.y rfl (Y.move rfl) ?_
      refine L.m (V := fun _ => el (gv (q3 gx5.toNat) 0) (gx5.toNat * 1)) h rfl (Y.indexM (g := B) (l := x25) Try.underlying37 sz4 rfl rfl (fun w hw => As.atZ (sds := (svSd 4 1 B)) (vs := q3) (j := 0) (c := 1) (hw.get (i := 1) rfl) (fun _ _ => rfl) ex25 rfl)) (fun x26 ex26 h => ?_)
      refine L.iteB h rfl (Y.loadE1 (u := .bool x26) ag4 rfl (fun w hw => As.atZ (sds := (svSd 4 1 B)) (vs := q3) (j := 0) (c := 1) (hw.get (i := 1) rfl) (fun _ _ => rfl) ex25 rfl) (idx_map ex26)) (fun c27 h => ?_) (fun c27 h => ?_)
      ·
       refine L.y rfl (Y.assign rfl) ?_
       exact L.nil (E.joinJ ⟨true, rfl, rfl, h⟩ ⟨rfl, rfl, rfl, rfl, rfl, rfl, rfl, trivial⟩ (fun _ hw => hw))
      ·
       refine L.y rfl (Y.assign rfl) ?_
       exact L.nil (E.joinJ ⟨false, rfl, rfl, h⟩ ⟨rfl, rfl, rfl, rfl, rfl, rfl, rfl, trivial⟩ (fun _ hw => hw))
     ·
      rintro _ _ ⟨gb8, rfl, rfl, h⟩
      rw [m18_quirref_Dead_K3] at h
      rcases gb8 with _ | _
      ·
       replace h := iteF h
       refine W.seqJ (fun gs D => ∃ (gb9 : Bool), gs = [(0, .int .i64 a0), (5, v2), (6, gv3), (7, .int .i64 gx5), (8, .bool gb9), (13, .int .i64 a0), (14, .int .i64 gx5)] ∧ D = Cls w [] [.sl v2 37 1 (zr svRow q3 l1), .ss (zs (svSd 4 1 B) q3 l1), .sl gv3 3 1 (gl4.map I)] ∧ m18_quirref_Dead_K4 gl4 gx5 go1 gb9 = some r) ?_ ?_
       ·
        refine W.seq (W.region (L.y rfl (Y.move rfl) ?_))
        refine L.y rfl (Y.move rfl) ?_
        refine L.nil (E.thenN (W.block (W.loopJ (fun m gs D => ∃ (gb10 : Bool) (gx11 : Int), gs = [(0, .int .i64 a0), (5, v2), (6, gv3), (7, .int .i64 gx5), (8, .bool gb10), (13, .int .i64 a0), (14, .int .i64 gx5), (24, .int .i64 a0), (25, .int .i64 gx11)] ∧ D = Cls w [] [.sl v2 37 1 (zr svRow q3 l1), .ss (zs (svSd 4 1 B) q3 l1), .sl gv3 3 1 (gl4.map I)] ∧ m18_quirref_Dead_L2 a0 l1 gx5 gl4 go1 m gb10 gx11 = some r) ⟨false, 0, rfl, rfl, h⟩ ⟨rfl, rfl, rfl, rfl, rfl, rfl, rfl, rfl, rfl, trivial⟩ (fun _ hw => hw) ?_)))
        rintro m _ _ ⟨gb10, gx11, rfl, rfl, h⟩
        rcases m with _ | m
        · rw [m18_quirref_Dead_L2] at h; cases h
        rw [m18_quirref_Dead_L2] at h
        generalize hg2 : m18_quirref_Dead_L2 a0 l1 gx5 gl4 go1 m = go2 at h
        rw [m18_quirref_Dead_L2B] at h
        refine W.seq (W.region (L.ite h rfl (Y.lss rfl rfl) (fun c10 h => ?_) (fun c10 h => ?_)))
        ·
         refine L.nil (E.thenN (W.seq (W.condT rfl ?_)))
         refine W.skip (E.thenN (W.seq (W.block (W.seq (W.region (L.y rfl (Y.move rfl) ?_))))))
         refine L.y rfl (Y.assign rfl) ?_
         refine L.nil (E.thenN (W.region (L.cutJ 19 (fun gs D => ∃ (gb12 : Bool), gs = [(0, .int .i64 a0), (5, v2), (6, gv3), (7, .int .i64 gx5), (13, .int .i64 a0), (14, .int .i64 gx5), (24, .int .i64 a0), (25, .int .i64 gx11), (46, .bool gb12)] ∧ D = Cls w [] [.sl v2 37 1 (zr svRow q3 l1), .ss (zs (svSd 4 1 B) q3 l1), .sl gv3 3 1 (gl4.map I)] ∧ m18_quirref_Dead_K5 gx11 go2 gb12 = some r) ?_ ?_)))
         ·
          refine L.iteB h rfl (Y.move rfl) (fun c13 h => ?_) (fun c13 h => ?_)
          ·
           refine L.y rfl (Y.move rfl) ?_
           refine L.pass rfl rfl (by nofun) ?_
           refine L.pass rfl rfl (by nofun) ?_
           refine L.pass rfl rfl (by nofun) ?_
           refine L.pass rfl rfl (by nofun) ?_
           refine L.pass rfl rfl (by nofun) ?_
           refine L.pass rfl rfl (by nofun) ?_
           refine L.pass rfl rfl (by nofun) ?_
           refine L.pass rfl rfl (by nofun) ?_
           refine L.pass rfl rfl (by nofun) ?_
           refine L.pass rfl rfl (by nofun) ?_
           refine L.pass rfl rfl (by nofun) ?_
           refine L.pass rfl rfl (by nofun) ?_
           refine L.pass rfl rfl (by nofun) ?_
           refine L.pass rfl rfl (by nofun) ?_
           refine L.pass rfl rfl (by nofun) ?_
           refine L.pass rfl rfl (by nofun) ?_
           refine L.y rfl (Y.pickT rfl rfl) ?_
           exact L.nil (E.joinJ ⟨true, rfl, rfl, h⟩ ⟨rfl, rfl, rfl, rfl, rfl, rfl, rfl, rfl, rfl, trivial⟩ (fun _ hw => hw))
          ·
           refine L.y rfl (Y.move rfl) ?_
           refine L.take rfl (L.y rfl (Y.move rfl) ?_)
           refine L.take rfl (L.y rfl (Y.move rfl) ?_)
           refine L.take rfl (L.m (V := fun _ => el v2 (gx5.toNat * 1)) h rfl (Y.indexMZ (row := svRow) (vs := q3) (l := l1) Try.underlying38 sz37 rfl rfl (fun w hw => As.at_ (hw.get (i := 0) rfl))) (fun x14 ex14 h => ?_))
           refine L.take rfl (L.y rfl (Y.loadE1 (u := gv (q3 gx5.toNat) 0) ag37 rfl (fun w hw => As.at_ (hw.get (i := 0) rfl)) (zr_idx (vs := q3) ex14)) ?_)
           refine L.take rfl (L.y rfl (Y.move rfl) ?_)
           refine L.take rfl (L.m (V := fun _ => el (gv (q3 gx5.toNat) 0) (gx11.toNat * 1)) h rfl (Y.indexM (g := B) (l := x14) Try.underlying37 sz4 rfl rfl (fun w hw => As.atZ (sds := (svSd 4 1 B)) (vs := q3) (j := 0) (c := 1) (hw.get (i := 1) rfl) (fun _ _ => rfl) ex14 rfl)) (fun x15 ex15 h => ?_))
           refine L.take rfl (L.iteB h rfl (Y.loadE1 (u := .bool x15) ag4 rfl (fun w hw => As.atZ (sds := (svSd 4 1 B)) (vs := q3) (j := 0) (c := 1) (hw.get (i := 1) rfl) (fun _ _ => rfl) ex14 rfl) (idx_map ex15)) (fun c16 h => ?_) (fun c16 h => ?_))
           ·
            refine L.take rfl (L.y rfl (Y.move rfl) ?_)
            refine L.take rfl (L.y rfl (Y.move rfl) ?_)
            refine L.take rfl (L.y rfl (Y.move rfl) ?_)
            refine L.take rfl (L.m (V := fun _ => el v2 (gx11.toNat * 1)) h rfl (Y.indexMZ (row := svRow) (vs := q3) (l := l1) Try.underlying38 sz37 rfl rfl (fun w hw => As.at_ (hw.get (i := 0) rfl))) (fun x17 ex17 h => ?_))
            refine L.take rfl (L.y rfl (Y.loadE1 (u := gv (q3 gx11.toNat) 0) ag37 rfl (fun w hw => As.at_ (hw.get (i := 0) rfl)) (zr_idx (vs := q3) ex17)) ?_)
            refine L.take rfl (L.y rfl (Y.move rfl) ?_)
            refine L.take rfl (L.m (V := fun _ => el (gv (q3 gx11.toNat) 0) (gx11.toNat * 1)) h rfl (Y.indexM (g := B) (l := x17) Try.underlying37 sz4 rfl rfl (fun w hw => As.atZ (sds := (svSd 4 1 B)) (vs := q3) (j := 0) (c := 1) (hw.get (i := 1) rfl) (fun _ _ => rfl) ex17 rfl)) (fun x18 ex18 h => ?_))
            refine L.take rfl (L.iteB h rfl (Y.loadE1 (u := .bool x18) ag4 rfl (fun w hw => As.atZ (sds := (svSd 4 1 B)) (vs := q3) (j := 0) (c := 1) (hw.get (i := 1) rfl) (fun _ _ => rfl) ex17 rfl) (idx_map ex18)) (fun c19 h => ?_) (fun c19 h => ?_))
            ·
             refine L.take rfl (L.y rfl (Y.pickT rfl rfl) ?_)
             refine L.y rfl (Y.pickF rfl rfl) ?_
             exact L.nil (E.joinJ ⟨true, rfl, rfl, h⟩ ⟨rfl, rfl, rfl, rfl, rfl, rfl, rfl, rfl, rfl, trivial⟩ (fun _ hw => hw))
            ·
             refine L.take rfl (L.y rfl (Y.pickT rfl rfl) ?_)
             refine L.y rfl (Y.pickF rfl rfl) ?_
             exact L.nil (E.joinJ ⟨false, rfl, rfl, h⟩ ⟨rfl, rfl, rfl, rfl, rfl, rfl, rfl, rfl, rfl, trivial⟩ (fun _ hw => hw))
           ·
            refine L.take rfl (L.y rfl (Y.move rfl) ?_)
            refine L.pass rfl rfl (by nofun) ?_
            refine L.pass rfl rfl (by nofun) ?_
            refine L.pass rfl rfl (by nofun) ?_
            refine L.pass rfl rfl (by nofun) ?_
            refine L.pass rfl rfl (by nofun) ?_
            refine L.pass rfl rfl (by nofun) ?_
            refine L.pass rfl rfl (by nofun) ?_
            refine L.take rfl (L.y rfl (Y.pickF rfl rfl) ?_)
            refine L.y rfl (Y.pickF rfl rfl) ?_
            exact L.nil (E.joinJ ⟨false, rfl, rfl, h⟩ ⟨rfl, rfl, rfl, rfl, rfl, rfl, rfl, rfl, rfl, trivial⟩ (fun _ hw => hw))
         ·
          rintro _ _ ⟨gb12, rfl, rfl, h⟩
          rw [m18_quirref_Dead_K5] at h
          rcases gb12 with _ | _
          ·
           replace h := iteF h
           refine L.y rfl (Y.assign rfl) ?_
           refine L.nil (E.blockN (E.thenN (W.region (L.m (V := fun x11 => .int .i64 x11) h rfl (Y.addM rfl rfl) (fun x11 ex11 h => ?_)))))
           refine L.y rfl (Y.move rfl) ?_
           exact L.nil (E.againJ ⟨false, x11, rfl, rfl, by rw [hg2]; exact h⟩ (Nat.lt_succ_self _) ⟨rfl, rfl, rfl, rfl, rfl, rfl, rfl, rfl, rfl, trivial⟩ (fun _ hw => hw))
          ·
           replace h := iteT h
           refine L.y rfl (Y.assign rfl) ?_
           refine L.nil (E.blockN (E.thenN (W.region (L.m (V := fun x12 => .int .i64 x12) h rfl (Y.addM rfl rfl) (fun x12 ex12 h => ?_)))))
           refine L.y rfl (Y.move rfl) ?_
           exact L.nil (E.againJ ⟨true, x12, rfl, rfl, by rw [hg2]; exact h⟩ (Nat.lt_succ_self _) ⟨rfl, rfl, rfl, rfl, rfl, rfl, rfl, rfl, rfl, trivial⟩ (fun _ hw => hw))
        ·
         refine L.nil (E.thenN (W.seq (W.condF rfl ?_)))
         exact W.exit (E.thenX (E.KLX (E.blockX (E.joinJ ⟨gb10, rfl, rfl, h⟩ ⟨rfl, rfl, rfl, rfl, rfl, rfl, rfl, trivial⟩ (fun _ hw => hw)))))
       ·
        rintro _ _ ⟨gb9, rfl, rfl, h⟩
        rw [m18_quirref_Dead_K4] at h
        rcases gb9 with _ | _
        ·
         replace h := iteF h
         refine W.seq (W.region (L.y rfl (Y.move rfl) ?_))
         refine L.nil (E.thenN (W.condF rfl ?_))
         exact W.skip (E.blockN (E.joinJ ⟨gv3, gl4, rfl, rfl, h⟩ ⟨rfl, rfl, rfl, rfl, rfl, trivial⟩ (fun _ hw => hw)))
        ·
         replace h := iteT h
         refine W.seq (W.region (L.y rfl (Y.move rfl) ?_))
         refine L.nil (E.thenN (W.condT rfl ?_))
         refine W.region (L.y rfl (Y.move rfl) ?_)
         refine L.y rfl (Y.move rfl) ?_
         refine L.litOne rfl Try.underlying25 eL3 rfl rfl ?_
         intro b7
         refine L.appM (i := 3) (g := I) (l := gl4) (more := [gx5]) h rfl Try.underlying25 eL3 rfl rfl rfl (fun w hw => As.at_ (hw.get (i := 0) rfl)) (plain_ints _) rfl ?_
         intro v8 l9 el9 h
         refine L.y rfl (Y.assign rfl) ?_
         exact L.nil (E.blockN (E.joinJ ⟨v8, l9, rfl, rfl, h⟩ ⟨rfl, rfl, rfl, rfl, rfl, trivial⟩ (fun _ hw => hw.sel [2, 3, 0] (by decide) rfl)))
      ·
       replace h := iteT h
       refine W.seqJ (fun gs D => gs = [(0, .int .i64 a0), (5, v2), (6, gv3), (7, .int .i64 gx5), (8, .bool true), (13, .int .i64 a0), (14, .int .i64 gx5)] ∧ D = Cls w [] [.sl v2 37 1 (zr svRow q3 l1), .ss (zs (svSd 4 1 B) q3 l1), .sl gv3 3 1 (gl4.map I)] ∧ m18_quirref_Dead_K6 gl4 gx5 go1 = some r) ?_ ?_
       ·
        refine W.seq (W.region (L.y rfl (Y.move rfl) ?_))
        refine L.y rfl (Y.move rfl) ?_
        refine L.nil (E.thenN (W.block (W.loopJ (fun m gs D => ∃ (gx13 : Int), gs = [(0, .int .i64 a0), (5, v2), (6, gv3), (7, .int .i64 gx5), (8, .bool true), (13, .int .i64 a0), (14, .int .i64 gx5), (24, .int .i64 a0), (25, .int .i64 gx13)] ∧ D = Cls w [] [.sl v2 37 1 (zr svRow q3 l1), .ss (zs (svSd 4 1 B) q3 l1), .sl gv3 3 1 (gl4.map I)] ∧ m18_quirref_Dead_L3 a0 gl4 gx5 go1 m gx13 = some r) ⟨0, rfl, rfl, h⟩ ⟨rfl, rfl, rfl, rfl, rfl, rfl, rfl, rfl, rfl, trivial⟩ (fun _ hw => hw) ?_)))
        rintro m _ _ ⟨gx13, rfl, rfl, h⟩
        rcases m with _ | m
        · rw [m18_quirref_Dead_L3] at h; cases h
        rw [m18_quirref_Dead_L3] at h
        generalize hg3 : m18_quirref_Dead_L3 a0 gl4 gx5 go1 m = go3 at h
        rw [m18_quirref_Dead_L3B] at h
        refine W.seq (W.region (L.ite h rfl (Y.lss rfl rfl) (fun c23 h => ?_) (fun c23 h => ?_)))
        ·
         refine L.nil (E.thenN (W.seq (W.condT rfl ?_)))
         refine W.skip (E.thenN (W.seq (W.block (W.seq (W.region (L.y rfl (Y.move rfl) ?_))))))
         refine L.y rfl (Y.assign rfl) ?_
         refine L.nil (E.thenN (W.region (L.y rfl (Y.move rfl) ?_)))
         refine L.y rfl (Y.move rfl) ?_
         refine L.pass rfl rfl (by nofun) ?_
         refine L.pass rfl rfl (by nofun) ?_
         refine L.pass rfl rfl (by nofun) ?_
         refine L.pass rfl rfl (by nofun) ?_
         refine L.pass rfl rfl (by nofun) ?_
         refine L.pass rfl rfl (by nofun) ?_
         refine L.pass rfl rfl (by nofun) ?_
         refine L.pass rfl rfl (by nofun) ?_
         refine L.pass rfl rfl (by nofun) ?_
         refine L.pass rfl rfl (by nofun) ?_
         refine L.pass rfl rfl (by nofun) ?_
         refine L.pass rfl rfl (by nofun) ?_
         refine L.pass rfl rfl (by nofun) ?_
         refine L.pass rfl rfl (by nofun) ?_
         refine L.pass rfl rfl (by nofun) ?_
         refine L.pass rfl rfl (by nofun) ?_
         refine L.y rfl (Y.pickT rfl rfl) ?_
         refine L.y rfl (Y.assign rfl) ?_
         refine L.nil (E.blockN (E.thenN (W.region (L.m (V := fun x24 => .int .i64 x24) h rfl (Y.addM rfl rfl) (fun x24 ex24 h => ?_)))))
         refine L.y rfl (Y.move rfl) ?_
         exact L.nil (E.againJ ⟨x24, rfl, rfl, by rw [hg3]; exact h⟩ (Nat.lt_succ_self _) ⟨rfl, rfl, rfl, rfl, rfl, rfl, rfl, rfl, rfl, trivial⟩ (fun _ hw => hw))
        ·
         refine L.nil (E.thenN (W.seq (W.condF rfl ?_)))
         exact W.exit (E.thenX (E.KLX (E.blockX (E.joinJ ⟨rfl, rfl, h⟩ ⟨rfl, rfl, rfl, rfl, rfl, rfl, rfl, trivial⟩ (fun _ hw => hw)))))
       ·
        rintro _ _ ⟨rfl, rfl, h⟩
        rw [m18_quirref_Dead_K6] at h
        refine W.seq (W.region (L.y rfl (Y.move rfl) ?_))
        refine L.nil (E.thenN (W.condT rfl ?_))
        refine W.region (L.y rfl (Y.move rfl) ?_)
        refine L.y rfl (Y.move rfl) ?_
        refine L.litOne rfl Try.underlying25 eL3 rfl rfl ?_
        intro b20
        refine L.appM (i := 3) (g := I) (l := gl4) (more := [gx5]) h rfl Try.underlying25 eL3 rfl rfl rfl (fun w hw => As.at_ (hw.get (i := 0) rfl)) (plain_ints _) rfl ?_
        intro v21 l22 el22 h
        refine L.y rfl (Y.assign rfl) ?_
        exact L.nil (E.blockN (E.joinJ ⟨v21, l22, rfl, rfl, h⟩ ⟨rfl, rfl, rfl, rfl, rfl, trivial⟩ (fun _ hw => hw.sel [2, 3, 0] (by decide) rfl)))
    ·
     rintro _ _ ⟨gv6, gl7, rfl, rfl, h⟩
     rw [m18_quirref_Dead_K2] at h
     refine W.region (L.m (V := fun x6 => .int .i64 x6) h rfl (Y.addM rfl rfl) (fun x6 ex6 h => ?_))
     refine L.y rfl (Y.move rfl) ?_
     exact L.nil (E.againJ ⟨gv6, gl7, x6, rfl, rfl, by rw [hg1]; exact h⟩ (Nat.lt_succ_self _) ⟨rfl, rfl, rfl, rfl, rfl, trivial⟩ (fun _ hw => hw))
   ·
    refine L.nil (E.thenN (W.seq (W.condF rfl ?_)))
    exact W.exit (E.thenX (E.KLX (E.blockX (E.joinJ ⟨gv3, gl4, rfl, rfl, h⟩ ⟨rfl, trivial⟩ (fun _ hw => hw.sel [2] (by decide) rfl)))))
  ·
   rintro _ _ ⟨gv1, gl2, rfl, rfl, h⟩
   rw [m18_quirref_Dead_K1] at h
   refine W.seq (W.region (L.y rfl (Y.move rfl) ?_))
   refine L.y rfl (Y.assign rfl) ?_
   refine L.nil (E.thenN (W.ret (E.ret1 rfl rfl (fun w1 hw => ?_))))
   obtain rfl := Option.some.inj h
   exact ⟨_, _, rfl, ⟨_, rfl, rfl⟩, hw⟩
set_option maxRecDepth 100000 in
set_option maxHeartbeats 8000000 in
set_option maxRecDepth 100000 in
set_option maxHeartbeats 8000000 in
theorem w19_quirref_Victims (a0 : Int) (a1 : (List TEdge)) (u1 : Value) (w : World) (r : (List Int)) (h : m19_quirref_Victims a0 a1 = some r) (hA1 : At w u1 2 (a1.map TEdge.row)) : Does Try.prog 19 [.int .i64 a0, u1] w fun u m => ∃ v0, u = v0 ∧ m = [.sl v0 3 1 (r.map I)] := by
  rw [m19_quirref_Victims] at h
  refine body (n := 40) Try.func19 rfl rfl rfl (Cls.refl w) ?_
  refine W.seq (W.region (L.y rfl (Y.assign rfl) ?_))
  refine L.nil (E.thenN (W.seq (W.region (L.y rfl (Y.assign rfl) ?_))))
  refine L.nil (E.thenN (W.seq (W.region (L.y rfl (Y.move rfl) ?_))))
  obtain ⟨l1, e3, h⟩ := bind1S h
  refine L.does rfl en26 rfl (fun w' hw => w26_api_Edge a1 u1 w' _ e3 (hA1.cls0 hw)) ?_
  rintro v2 _ ⟨_, rfl, rfl⟩
  refine L.y rfl (Y.assign rfl) ?_
  refine L.nil (E.thenN (W.block (W.nilSl 3 1 ?_)))
  refine W.loopJ (fun m gs D => ∃ (gv1 : Value) (gl2 : (List Int)) (gv3 : Value) (gl4 : (List TEdge)), gs = [(0, .int .i64 a0), (5, gv1), (6, gv3)] ∧ D = Cls w [] [.sl gv1 3 1 (gl2.map I), .sl gv3 46 2 (gl4.map TEdge.row)] ∧ m19_quirref_Victims_L1 a0 m gl2 gl4 = some r) ⟨.slice none 0 0, [], v2, l1, rfl, rfl, h⟩ ⟨rfl, rfl, rfl, trivial⟩ (fun _ hw => hw) ?_
  rintro m _ _ ⟨gv1, gl2, gv3, gl4, rfl, rfl, h⟩
  rcases m with _ | m
  · rw [m19_quirref_Victims_L1] at h; cases h
  rw [m19_quirref_Victims_L1] at h
  generalize hg1 : m19_quirref_Victims_L1 a0 m = go1 at h
  rw [m19_quirref_Victims_L1B] at h
  refine W.block (W.seq (W.region (L.y rfl (Y.move rfl) ?_)))
  refine L.y rfl (Y.move rfl) ?_
  obtain ⟨l4, e7, h⟩ := bind1S h
  refine L.does rfl en14 rfl (fun w' hw => w14_quirref_Closure a0 gl4 gv3 w' _ e7 (As.at_ (hw.get (i := 1) rfl))) ?_
  rintro v5 _ ⟨_, q6, rfl, rfl⟩
  refine L.y rfl (Y.assign rfl) ?_
  refine L.nil (E.thenN (W.seq (W.region (L.alloc rfl ze3 ?_))))
  intro b8
  refine L.store (i := 0) (vs := [.int .i64 (-1)]) sz3 rfl rfl rfl rfl (by simp [Value.oneCell', Value.cells, st, pt, el]) rfl (Nat.le_of_ble_eq_true rfl) ?_
  refine L.nil (E.thenN (W.seqJ (fun gs D => ∃ (gx5 : Int), gs = [(0, .int .i64 a0), (5, gv1), (6, gv3), (8, pt b8 0)] ∧ D = Cls w [] [.obj b8 [.int .i64 gx5] 3, .sl gv1 3 1 (gl2.map I), .sl gv3 46 2 (gl4.map TEdge.row)] ∧ m19_quirref_Victims_K1 gl2 gl4 go1 gx5 = some r) ?_ ?_))
  ·
   refine W.seq (W.region (L.y rfl (Y.move rfl) ?_))
   refine L.y rfl (Y.move rfl) ?_
   refine L.nil (E.thenN (W.block (W.loopJ (fun m gs D => ∃ (gx17 : Int) (gx18 : Int), gs = [(0, .int .i64 a0), (5, gv1), (6, gv3), (7, v5), (8, pt b8 0), (15, .int .i64 a0), (16, .int .i64 gx17)] ∧ D = Cls w [] [.obj b8 [.int .i64 gx18] 3, .sl gv1 3 1 (gl2.map I), .sl gv3 46 2 (gl4.map TEdge.row), .sl v5 37 1 (zr svRow q6 l4), .ss (zs (svSd 4 1 B) q6 l4)] ∧ m19_quirref_Victims_L4 a0 l4 gl2 gl4 go1 m gx17 gx18 = some r) ⟨0, (-1), rfl, rfl, h⟩ ⟨rfl, rfl, rfl, rfl, rfl, rfl, rfl, trivial⟩ (fun _ hw => hw.sel [0, 3, 4, 1, 2] (by decide) rfl) ?_)))
   rintro m _ _ ⟨gx17, gx18, rfl, rfl, h⟩
   rcases m with _ | m
   · rw [m19_quirref_Victims_L4] at h; cases h
   rw [m19_quirref_Victims_L4] at h
   generalize hg4 : m19_quirref_Victims_L4 a0 l4 gl2 gl4 go1 m = go4 at h
   rw [m19_quirref_Victims_L4B] at h
   refine W.seq (W.region (L.ite h rfl (Y.lss rfl rfl) (fun c35 h => ?_) (fun c35 h => ?_)))
   ·
    refine L.nil (E.thenN (W.seq (W.condT rfl ?_)))
    refine W.skip (E.thenN (W.seq (W.block (W.seq (W.region (L.y rfl (Y.move rfl) ?_))))))
    refine L.y rfl (Y.assign rfl) ?_
    refine L.nil (E.thenN (W.seq (W.region (L.y rfl (Y.move rfl) ?_))))
    refine L.y rfl (Y.move rfl) ?_
    refine L.m (V := fun _ => el v5 (gx17.toNat * 1)) h rfl (Y.indexMZ (row := svRow) (vs := q6) (l := l4) Try.underlying38 sz37 rfl rfl (fun w hw => As.at_ (hw.get (i := 3) rfl))) (fun x36 ex36 h => ?_)
    refine L.y rfl (Y.loadE1 (u := gv (q6 gx17.toNat) 0) ag37 rfl (fun w hw => As.at_ (hw.get (i := 3) rfl)) (zr_idx (vs := q6) ex36)) ?_
    refine L.y rfl (Y.move rfl) ?_
    refine L.m (V := fun _ => el (gv (q6 gx17.toNat) 0) (gx17.toNat * 1)) h rfl (Y.indexM (g := B) (l := x36) Try.underlying37 sz4 rfl rfl (fun w hw => As.atZ (sds := (svSd 4 1 B)) (vs := q6) (j := 0) (c := 1) (hw.get (i := 4) rfl) (fun _ _ => rfl) ex36 rfl)) (fun x37 ex37 h => ?_)
    refine L.iteB h rfl (Y.loadE1 (u := .bool x37) ag4 rfl (fun w hw => As.atZ (sds := (svSd 4 1 B)) (vs := q6) (j := 0) (c := 1) (hw.get (i := 4) rfl) (fun _ _ => rfl) ex36 rfl) (idx_map ex37)) (fun c38 h => ?_) (fun c38 h => ?_)
    ·
     refine L.nil (E.thenN (W.condT rfl ?_))
     refine W.region (L.y rfl (Y.move rfl) ?_)
     refine L.store (i := 0) (vs := [.int .i64 gx17]) sz3 rfl rfl rfl rfl (by simp [Value.oneCell', Value.cells, st, pt, el]) rfl (Nat.le_of_ble_eq_true rfl) ?_
     refine L.nil (E.blockN (E.thenN (W.region (L.m (V := fun x39 => .int .i64 x39) h rfl (Y.addM rfl rfl) (fun x39 ex39 h => ?_)))))
     refine L.y rfl (Y.move rfl) ?_
     exact L.nil (E.againJ ⟨x39, gx17, rfl, rfl, by rw [hg4]; exact h⟩ (Nat.lt_succ_self _) ⟨rfl, rfl, rfl, rfl, rfl, rfl, rfl, trivial⟩ (fun _ hw => hw))
    ·
     refine L.nil (E.thenN (W.condF rfl ?_))
     refine W.skip (E.blockN (E.thenN (W.region (L.m (V := fun x40 => .int .i64 x40) h rfl (Y.addM rfl rfl) (fun x40 ex40 h => ?_)))))
     refine L.y rfl (Y.move rfl) ?_
     exact L.nil (E.againJ ⟨x40, gx18, rfl, rfl, by rw [hg4]; exact h⟩ (Nat.lt_succ_self _) ⟨rfl, rfl, rfl, rfl, rfl, rfl, rfl, trivial⟩ (fun _ hw => hw))
   ·
    refine L.nil (E.thenN (W.seq (W.condF rfl ?_)))
    exact W.exit (E.thenX (E.KLX (E.blockX (E.joinJ ⟨gx18, rfl, rfl, h⟩ ⟨rfl, rfl, rfl, rfl, trivial⟩ (fun _ hw => hw.sel [0, 1, 2] (by decide) rfl)))))
  ·
   rintro _ _ ⟨gx5, rfl, rfl, h⟩
   rw [m19_quirref_Victims_K1] at h
   refine W.seqJ (fun gs D => gs = [(0, .int .i64 a0), (5, gv1), (6, gv3), (8, pt b8 0)] ∧ D = Cls w [] [.obj b8 [.int .i64 gx5] 3, .sl gv1 3 1 (gl2.map I), .sl gv3 46 2 (gl4.map TEdge.row)] ∧ m19_quirref_Victims_K2 gl2 gx5 gl4 go1 = some r) ?_ ?_
   ·
    refine W.seq (W.region (L.y rfl (Y.loadP (i := 0) ag3 rfl rfl rfl) ?_))
    refine L.ite h rfl (Y.lss rfl rfl) (fun c33 h => ?_) (fun c33 h => ?_)
    ·
     refine L.nil (E.thenN (W.condT rfl ?_))
     refine W.seq (W.region (L.y rfl (Y.move rfl) ?_))
     refine L.sortMD (i := 1) (l := gl2) h wSort rfl en31 rfl rfl ?_
     intro l34 el34 h
     refine L.nil (E.thenN (W.seq (W.region (L.y rfl (Y.move rfl) ?_))))
     refine L.y rfl (Y.assign rfl) ?_
     refine L.nil (E.thenN (W.ret (E.KSR (E.blockR (E.KLR (E.blockR (E.ret1 rfl rfl (fun w1 hw => ?_))))))))
     obtain rfl := Option.some.inj h
     exact ⟨_, _, rfl, ⟨_, rfl, rfl⟩, hw.sel [1] (by decide) rfl⟩
    ·
     refine L.nil (E.thenN (W.condF rfl ?_))
     exact W.skip (E.joinJ ⟨rfl, rfl, h⟩ ⟨rfl, rfl, rfl, rfl, trivial⟩ (fun _ hw => hw))
   ·
    rintro _ _ ⟨rfl, rfl, h⟩
    rw [m19_quirref_Victims_K2] at h
    refine W.seq (W.region (L.y rfl (Y.move rfl) ?_))
    refine L.y rfl (Y.loadP (i := 0) ag3 rfl rfl rfl) ?_
    refine L.litOne rfl Try.underlying25 eL3 rfl rfl ?_
    intro b9
    refine L.appM (i := 2) (g := I) (l := gl2) (more := [gx5]) h rfl Try.underlying25 eL3 rfl rfl rfl (fun w hw => As.at_ (hw.get (i := 0) rfl)) (plain_ints _) rfl ?_
    intro v10 l11 el11 h
    refine L.y rfl (Y.assign rfl) ?_
    refine L.nil (E.thenN (W.region (L.y rfl (Y.move rfl) ?_)))
    refine L.y rfl (Y.func rfl) ?_
    refine L.callJ (fun v D => ∃ (gv6 : Value) (gl7 : (List TEdge)), v = gv6 ∧ D = Cls w [] [.sl v10 3 1 (l11.map I), .sl gv6 46 2 (gl7.map TEdge.row)] ∧ m19_quirref_Victims_K3 go1 l11 gl7 = some r) rfl en27 rfl Try.func27 rfl rfl rfl ?_ ?_
    ·
     refine W.seq (W.region (L.y rfl (Y.assign rfl) ?_))
     refine L.nil (E.thenN (W.seq (W.region (L.y rfl (Y.move rfl) ?_))))
     refine L.y rfl (Y.move rfl) ?_
     refine L.callJ (fun v D => ∃ (gx8 : Int), v = .int .i64 gx8 ∧ D = Cls w [] [.obj b8 [.int .i64 gx5] 3, .sl gv3 46 2 (gl4.map TEdge.row), .sl v10 3 1 (l11.map I)] ∧ m19_quirref_Victims_K4 go1 l11 gl4 gx5 gx8 = some r) rfl en38 rfl Try.func38 rfl rfl rfl ?_ ?_
     ·
      refine W.seq (W.region (L.y rfl (Y.assign rfl) ?_))
      refine L.nil (E.thenN (W.seqJ (fun gs D => gs = [] ∧ D = Cls w [] [.obj b8 [.int .i64 gx5] 3, .sl v10 3 1 (l11.map I), .sl gv3 46 2 (gl4.map TEdge.row)] ∧ m19_quirref_Victims_K9 go1 l11 gl4 gx5 = some r) ?_ ?_))
      ·
       refine W.seq (W.region (L.y rfl (Y.move rfl) ?_))
       refine L.y rfl (Y.lenM (g := TEdge.row) (l := gl4) Try.underlying22 rfl (fun w hw => As.at_ (hw.get (i := 3) rfl))) ?_
       refine L.y rfl (Y.move rfl) ?_
       refine L.nil (E.thenN (W.block (W.loopJ (fun m gs D => ∃ (gx15 : Int), gs = [(0, gv3), (1, .func (.func 33) #[] #[pt b8 0]), (7, .int .i64 (gl4.length : Int)), (8, .int .i64 gx15)] ∧ D = Cls w [] [.obj b8 [.int .i64 gx5] 3, .sl gv3 46 2 (gl4.map TEdge.row), .sl v10 3 1 (l11.map I)] ∧ m19_quirref_Victims_L3 gl4 gx5 go1 l11 m gx15 = some r) ⟨0, rfl, rfl, h⟩ ⟨rfl, rfl, rfl, rfl, trivial⟩ (fun _ hw => hw.sel [2, 3, 0] (by decide) rfl) ?_)))
       rintro m _ _ ⟨gx15, rfl, rfl, h⟩
       rcases m with _ | m
       · rw [m19_quirref_Victims_L3] at h; cases h
       rw [m19_quirref_Victims_L3] at h
       generalize hg3 : m19_quirref_Victims_L3 gl4 gx5 go1 l11 m = go3 at h
       rw [m19_quirref_Victims_L3B] at h
       refine W.seq (W.region (L.ite h rfl (Y.lss rfl rfl) (fun c28 h => ?_) (fun c28 h => ?_)))
       ·
        refine L.nil (E.thenN (W.seq (W.condT rfl ?_)))
        refine W.skip (E.thenN (W.seq (W.block (W.seq (W.region (L.y rfl (Y.move rfl) ?_))))))
        refine L.y rfl (Y.assign rfl) ?_
        refine L.nil (E.thenN (W.seq (W.region (L.y rfl (Y.move rfl) ?_))))
        refine L.y rfl (Y.move rfl) ?_
        refine L.y rfl (Y.move rfl) ?_
        refine L.m (V := fun _ => el gv3 (gx15.toNat * 2)) h rfl (Y.indexM (g := TEdge.row) (l := gl4) Try.underlying22 sz46 rfl rfl (fun w hw => As.at_ (hw.get (i := 1) rfl))) (fun x29 ex29 h => ?_)
        refine L.y rfl (Y.loadEN (r := [.int .i64 x29.From, .int .i64 x29.To]) ag46 sz46 rfl (fun w hw => As.at_ (hw.get (i := 1) rfl)) (idx_map ex29) rfl) ?_
        refine L.callVJ (fun v D => ∃ (gb16 : Bool), v = .bool gb16 ∧ D = Cls w [] [.obj b8 [.int .i64 gx5] 3, .sl gv3 46 2 (gl4.map TEdge.row), .sl v10 3 1 (l11.map I)] ∧ m19_quirref_Victims_K10 go1 l11 gl4 gx5 gx15 go3 gb16 = some r) rfl en33 rfl rfl Try.func33 rfl rfl rfl ?_ ?_
        ·
         refine W.seq (W.region (L.box rfl rfl ?_))
         intro b31
         refine L.y rfl (Y.assign rfl) ?_
         refine L.nil (E.thenN (W.seq (W.region (L.y rfl (Y.fieldP fd46_0 rfl) ?_))))
         refine L.y rfl (Y.loadP (i := 0) ag3 rfl rfl rfl) ?_
         refine L.y rfl (Y.loadP (i := 1) ag3 rfl rfl rfl) ?_
         refine L.ite h rfl (Y.eql rfl rfl) (fun c32 h => ?_) (fun c32 h => ?_)
         ·
          refine L.y rfl (Y.move rfl) ?_
          refine L.pass rfl rfl (by nofun) ?_
          refine L.pass rfl rfl (by nofun) ?_
          refine L.pass rfl rfl (by nofun) ?_
          refine L.pass rfl rfl (by nofun) ?_
          refine L.y rfl (Y.pickT rfl rfl) ?_
          refine L.y rfl (Y.assign rfl) ?_
          refine L.nil (E.thenN (W.ret (E.ret1 rfl rfl (fun w1 hw => ?_))))
          exact ⟨_, _, rfl, ⟨true, rfl, rfl, h⟩, hw.sel [1, 2, 3] (by decide) rfl⟩
         ·
          refine L.y rfl (Y.move rfl) ?_
          refine L.take rfl (L.y rfl (Y.fieldP fd46_1 rfl) ?_)
          refine L.take rfl (L.y rfl (Y.loadP (i := 0) ag3 rfl rfl rfl) ?_)
          refine L.take rfl (L.y rfl (Y.loadP (i := 1) ag3 rfl rfl rfl) ?_)
          refine L.take rfl (L.y rfl (Y.eql rfl rfl) ?_)
          refine L.y rfl (Y.pickF rfl rfl) ?_
          refine L.y rfl (Y.assign rfl) ?_
          refine L.nil (E.thenN (W.ret (E.ret1 rfl rfl (fun w1 hw => ?_))))
          exact ⟨_, _, rfl, ⟨decide (x29.To = gx5), rfl, rfl, h⟩, hw.sel [1, 2, 3] (by decide) rfl⟩
        ·
         rintro _ _ ⟨gb16, rfl, rfl, h⟩
         rw [m19_quirref_Victims_K10] at h
         rcases gb16 with _ | _
         ·
          replace h := iteF h
          refine L.nil (E.thenN (W.condF rfl ?_))
          refine W.skip (E.blockN (E.thenN (W.region (L.m (V := fun x30 => .int .i64 x30) h rfl (Y.addM rfl rfl) (fun x30 ex30 h => ?_)))))
          refine L.y rfl (Y.move rfl) ?_
          exact L.nil (E.againJ ⟨x30, rfl, rfl, by rw [hg3]; exact h⟩ (Nat.lt_succ_self _) ⟨rfl, rfl, rfl, rfl, trivial⟩ (fun _ hw => hw))
         ·
          replace h := iteT h
          refine L.nil (E.thenN (W.condT rfl ?_))
          refine W.seq (W.region (L.y rfl (Y.move rfl) ?_))
          refine L.y rfl (Y.assign rfl) ?_
          refine L.nil (E.thenN (W.ret (E.blockR (E.thenR (E.KLR (E.blockR (E.KSR (E.ret1 rfl rfl (fun w1 hw => ?_)))))))))
          exact ⟨_, _, rfl, ⟨gx15, rfl, rfl, h⟩, hw⟩
       ·
        refine L.nil (E.thenN (W.seq (W.condF rfl ?_)))
        exact W.exit (E.thenX (E.KLX (E.blockX (E.joinJ ⟨rfl, rfl, h⟩ trivial (fun _ hw => hw.sel [0, 2, 1] (by decide) rfl)))))
      ·
       rintro _ _ ⟨rfl, rfl, h⟩
       rw [m19_quirref_Victims_K9] at h
       refine W.seq (W.region (L.y rfl (Y.assign rfl) ?_))
       refine L.nil (E.thenN (W.ret (E.ret1 rfl rfl (fun w1 hw => ?_))))
       exact ⟨_, _, rfl, ⟨(-1), rfl, rfl, h⟩, hw.sel [0, 2, 1] (by decide) rfl⟩
     ·
      rintro _ _ ⟨gx8, rfl, rfl, h⟩
      rw [m19_quirref_Victims_K4] at h
      refine L.y rfl (Y.assign rfl) ?_
      refine L.nil (E.thenN (W.seqJ (fun gs D => gs = [(0, gv3), (1, .func (.func 33) #[] #[pt b8 0]), (5, .int .i64 gx8)] ∧ D = Cls w [] [.obj b8 [.int .i64 gx5] 3, .sl gv3 46 2 (gl4.map TEdge.row), .sl v10 3 1 (l11.map I)] ∧ m19_quirref_Victims_K5 gx8 gx5 go1 l11 gl4 = some r) ?_ ?_))
      ·
       refine W.seq (W.region (L.y rfl (Y.move rfl) ?_))
       refine L.ite h rfl (Y.eql rfl rfl) (fun c27 h => ?_) (fun c27 h => ?_)
       ·
        refine L.nil (E.thenN (W.condT rfl ?_))
        refine W.seq (W.region (L.y rfl (Y.move rfl) ?_))
        refine L.y rfl (Y.assign rfl) ?_
        refine L.nil (E.thenN (W.ret (E.KSR (E.ret1 rfl rfl (fun w1 hw => ?_)))))
        exact ⟨_, _, rfl, ⟨gv3, gl4, rfl, rfl, h⟩, hw.sel [2, 1] (by decide) rfl⟩
       ·
        refine L.nil (E.thenN (W.condF rfl ?_))
        exact W.skip (E.joinJ ⟨rfl, rfl, h⟩ ⟨rfl, rfl, rfl, trivial⟩ (fun _ hw => hw))
      ·
       rintro _ _ ⟨rfl, rfl, h⟩
       rw [m19_quirref_Victims_K5] at h
       refine W.seqJ (fun gs D => ∃ (gl9 : (List TEdge)) (gx10 : Int), gs = [(0, gv3), (5, .int .i64 gx10)] ∧ D = Cls w [] [.sl gv3 46 2 (gl9.map TEdge.row), .sl v10 3 1 (l11.map I)] ∧ m19_quirref_Victims_K6 go1 l11 gl9 gx10 = some r) ?_ ?_
       ·
        refine W.seq (W.region (L.y rfl (Y.move rfl) ?_))
        refine L.m (V := fun x16 => .int .i64 x16) h rfl (Y.addM rfl rfl) (fun x16 ex16 h => ?_)
        refine L.y rfl (Y.assign rfl) ?_
        refine L.nil (E.thenN (W.block (W.loopJ (fun m gs D => ∃ (gl11 : (List TEdge)) (gx12 : Int) (gx13 : Int), gs = [(0, gv3), (1, .func (.func 33) #[] #[pt b8 0]), (5, .int .i64 gx12), (6, .int .i64 gx13)] ∧ D = Cls w [] [.obj b8 [.int .i64 gx5] 3, .sl gv3 46 2 (gl11.map TEdge.row), .sl v10 3 1 (l11.map I)] ∧ m19_quirref_Victims_L2 gx5 go1 l11 m gl11 gx12 gx13 = some r) ⟨gl4, gx8, x16, rfl, rfl, h⟩ ⟨rfl, rfl, rfl, rfl, trivial⟩ (fun _ hw => hw) ?_)))
        rintro m _ _ ⟨gl11, gx12, gx13, rfl, rfl, h⟩
        rcases m with _ | m
        · rw [m19_quirref_Victims_L2] at h; cases h
        rw [m19_quirref_Victims_L2] at h
        generalize hg2 : m19_quirref_Victims_L2 gx5 go1 l11 m = go2 at h
        rw [m19_quirref_Victims_L2B] at h
        refine W.seqJ (fun gs D => gs = [(0, gv3), (1, .func (.func 33) #[] #[pt b8 0]), (5, .int .i64 gx12), (6, .int .i64 gx13)] ∧ D = Cls w [] [.obj b8 [.int .i64 gx5] 3, .sl gv3 46 2 (gl11.map TEdge.row), .sl v10 3 1 (l11.map I)] ∧ m19_quirref_Victims_K7 gl11 gx13 gx5 go2 gx12 = some r) ?_ ?_
        ·
         refine W.seq (W.region (L.y rfl (Y.move rfl) ?_))
         refine L.y rfl (Y.move rfl) ?_
         refine L.y rfl (Y.lenM (g := TEdge.row) (l := gl11) Try.underlying22 rfl (fun w hw => As.at_ (hw.get (i := 1) rfl))) ?_
         refine L.ite h rfl (Y.lss rfl rfl) (fun c26 h => ?_) (fun c26 h => ?_)
         ·
          refine L.nil (E.thenN (W.condT rfl ?_))
          exact W.skip (E.joinJ ⟨rfl, rfl, h⟩ ⟨rfl, rfl, rfl, rfl, trivial⟩ (fun _ hw => hw))
         ·
          refine L.nil (E.thenN (W.condF rfl ?_))
          exact W.exit (E.KSX (E.KLX (E.blockX (E.joinJ ⟨gl11, gx12, rfl, rfl, h⟩ ⟨rfl, rfl, trivial⟩ (fun _ hw => hw.sel [1, 2] (by decide) rfl)))))
        ·
         rintro _ _ ⟨rfl, rfl, h⟩
         rw [m19_quirref_Victims_K7] at h
         refine W.seq (W.block (W.seq (W.region (L.y rfl (Y.move rfl) ?_))))
         refine L.y rfl (Y.move rfl) ?_
         refine L.m (V := fun _ => el gv3 (gx13.toNat * 2)) h rfl (Y.indexM (g := TEdge.row) (l := gl11) Try.underlying22 sz46 rfl rfl (fun w hw => As.at_ (hw.get (i := 1) rfl))) (fun x17 ex17 h => ?_)
         refine L.y rfl (Y.loadEN (r := [.int .i64 x17.From, .int .i64 x17.To]) ag46 sz46 rfl (fun w hw => As.at_ (hw.get (i := 1) rfl)) (idx_map ex17) rfl) ?_
         refine L.alloc rfl ze46 ?_
         intro b18
         refine L.store (i := 0) (vs := [.int .i64 x17.From, .int .i64 x17.To]) sz46 rfl rfl rfl rfl (by simp [Value.oneCell', Value.cells, st, pt, el]) rfl (Nat.le_of_ble_eq_true rfl) ?_
         refine L.nil (E.thenN (W.seq (W.region (L.y rfl (Y.move rfl) ?_))))
         refine L.y rfl (Y.loadPW (i := 0) ag46 sz46 rfl rfl rfl) ?_
         refine L.callVJ (fun v D => ∃ (gb14 : Bool), v = .bool gb14 ∧ D = Cls w [] [.obj b18 [.int .i64 x17.From, .int .i64 x17.To] 46, .obj b8 [.int .i64 gx5] 3, .sl gv3 46 2 (gl11.map TEdge.row), .sl v10 3 1 (l11.map I)] ∧ m19_quirref_Victims_K8 gx13 go2 gl11 gx12 x17 gb14 = some r) rfl en33 rfl rfl Try.func33 rfl rfl rfl ?_ ?_
         ·
          refine W.seq (W.region (L.box rfl rfl ?_))
          intro b24
          refine L.y rfl (Y.assign rfl) ?_
          refine L.nil (E.thenN (W.seq (W.region (L.y rfl (Y.fieldP fd46_0 rfl) ?_))))
          refine L.y rfl (Y.loadP (i := 0) ag3 rfl rfl rfl) ?_
          refine L.y rfl (Y.loadP (i := 2) ag3 rfl rfl rfl) ?_
          refine L.ite h rfl (Y.eql rfl rfl) (fun c25 h => ?_) (fun c25 h => ?_)
          ·
           refine L.y rfl (Y.move rfl) ?_
           refine L.pass rfl rfl (by nofun) ?_
           refine L.pass rfl rfl (by nofun) ?_
           refine L.pass rfl rfl (by nofun) ?_
           refine L.pass rfl rfl (by nofun) ?_
           refine L.y rfl (Y.pickT rfl rfl) ?_
           refine L.y rfl (Y.assign rfl) ?_
           refine L.nil (E.thenN (W.ret (E.ret1 rfl rfl (fun w1 hw => ?_))))
           exact ⟨_, _, rfl, ⟨true, rfl, rfl, h⟩, hw.sel [1, 2, 3, 4] (by decide) rfl⟩
          ·
           refine L.y rfl (Y.move rfl) ?_
           refine L.take rfl (L.y rfl (Y.fieldP fd46_1 rfl) ?_)
           refine L.take rfl (L.y rfl (Y.loadP (i := 0) ag3 rfl rfl rfl) ?_)
           refine L.take rfl (L.y rfl (Y.loadP (i := 2) ag3 rfl rfl rfl) ?_)
           refine L.take rfl (L.y rfl (Y.eql rfl rfl) ?_)
           refine L.y rfl (Y.pickF rfl rfl) ?_
           refine L.y rfl (Y.assign rfl) ?_
           refine L.nil (E.thenN (W.ret (E.ret1 rfl rfl (fun w1 hw => ?_))))
           exact ⟨_, _, rfl, ⟨decide (x17.To = gx5), rfl, rfl, h⟩, hw.sel [1, 2, 3, 4] (by decide) rfl⟩
         ·
          rintro _ _ ⟨gb14, rfl, rfl, h⟩
          rw [m19_quirref_Victims_K8] at h
          rcases gb14 with _ | _
          ·
           replace h := iteF h
           refine L.y rfl (Y.not rfl) ?_
           refine L.nil (E.thenN (W.condT rfl ?_))
           refine W.seq (W.region (L.y rfl (Y.move rfl) ?_))
           refine L.y rfl (Y.move rfl) ?_
           refine L.y rfl (Y.loadPW (i := 0) ag46 sz46 rfl rfl rfl) ?_
           refine L.m (V := fun _ => el gv3 (gx12.toNat * 2)) h rfl (Y.indexM (g := TEdge.row) (l := gl11) Try.underlying22 sz46 rfl rfl (fun w hw => As.at_ (hw.get (i := 2) rfl))) (fun x19 ex19 h => ?_)
           refine L.storeSlM (q := 2) (row := TEdge.row) (vs := [.int .i64 x17.From, .int .i64 x17.To]) (j := 0) (u1 := x17) h sz46 rfl rfl rfl rfl rfl (all1 rfl (all1 rfl all0)) rfl ex19 rfl rfl ?_
           intro l20 el20 h
           refine L.nil (E.thenN (W.region (L.y rfl (Y.move rfl) ?_)))
           refine L.m (V := fun x21 => .int .i64 x21) h rfl (Y.addM rfl rfl) (fun x21 ex21 h => ?_)
           refine L.y rfl (Y.assign rfl) ?_
           refine L.nil (E.blockN (E.thenN (W.region (L.y rfl (Y.move rfl) ?_))))
           refine L.m (V := fun x22 => .int .i64 x22) h rfl (Y.addM rfl rfl) (fun x22 ex22 h => ?_)
           refine L.y rfl (Y.assign rfl) ?_
           exact L.nil (E.againJ ⟨l20, x21, x22, rfl, rfl, by rw [hg2]; exact h⟩ (Nat.lt_succ_self _) ⟨rfl, rfl, rfl, rfl, trivial⟩ (fun _ hw => hw.sel [1, 2, 3] (by decide) rfl))
          ·
           replace h := iteT h
           refine L.y rfl (Y.not rfl) ?_
           refine L.nil (E.thenN (W.condF rfl ?_))
           refine W.skip (E.blockN (E.thenN (W.region (L.y rfl (Y.move rfl) ?_))))
           refine L.m (V := fun x23 => .int .i64 x23) h rfl (Y.addM rfl rfl) (fun x23 ex23 h => ?_)
           refine L.y rfl (Y.assign rfl) ?_
           exact L.nil (E.againJ ⟨gl11, gx12, x23, rfl, rfl, by rw [hg2]; exact h⟩ (Nat.lt_succ_self _) ⟨rfl, rfl, rfl, rfl, trivial⟩ (fun _ hw => hw.sel [1, 2, 3] (by decide) rfl))
       ·
        rintro _ _ ⟨gl9, gx10, rfl, rfl, h⟩
        rw [m19_quirref_Victims_K6] at h
        refine W.seq (W.region (L.y rfl (Y.move rfl) ?_))
        refine L.y rfl (Y.move rfl) ?_
        refine L.m (V := fun _ => dropv gv3 gx10.toNat 2) h rfl (Y.dropM (g := TEdge.row) Try.underlying22 sz46 rfl rfl (fun w hw => As.at_ (hw.get (i := 0) rfl))) (fun l12 el12 h => ?_)
        refine L.clearM (i := 0) (g := TEdge.row) (z0 := (⟨0, 0⟩ : TEdge)) (a := gx10) h Try.underlying22 eL46 ze46 (fun u hu => ((plain_TEdge _) : Plain ([(⟨0, 0⟩ : TEdge)].map TEdge.row)) _ (List.mem_cons_self ..) u hu) rfl rfl ?_
        intro l13 el13 h
        refine L.nil (E.thenN (W.seq (W.region (L.y rfl (Y.move rfl) ?_))))
        refine L.y rfl (Y.move rfl) ?_
        obtain ⟨l14, el14, h⟩ := bind1S h
        refine L.cutM (i := 0) (g := TEdge.row) el14 rfl Try.underlying22 sz46 rfl rfl rfl (fun v15 => ?_)
        refine L.y rfl (Y.assign rfl) ?_
        refine L.nil (E.thenN (W.ret (E.ret1 rfl rfl (fun w1 hw => ?_))))
        exact ⟨_, _, rfl, ⟨v15, l14, rfl, rfl, h⟩, hw.sel [1, 0] (by decide) rfl⟩
    ·
     rintro gv6 _ ⟨_, gl7, rfl, rfl, h⟩
     rw [m19_quirref_Victims_K3] at h
     refine L.y rfl (Y.assign rfl) ?_
     exact L.nil (E.blockN (E.againJ ⟨v10, l11, gv6, gl7, rfl, rfl, by rw [hg1]; exact h⟩ (Nat.lt_succ_self _) ⟨rfl, rfl, rfl, trivial⟩ (fun _ hw => hw)))
set_option maxRecDepth 100000 in
set_option maxHeartbeats 8000000 in
theorem w4_quirlaw_WaitSays (a0 : Int) (a1 : (List TEdge)) (a2 : Int) (a3 : Int) (a4 : Int) (u1 : Value) (w : World) (r : Bool) (h : m4_quirlaw_WaitSays a0 a1 a2 a3 a4 = some r) (hA1 : At w u1 2 (a1.map TEdge.row)) : Does Try.prog 4 [.int .i64 a0, u1, .int .i64 a2, .int .i64 a3, .int .i64 a4] w fun u m => u = .bool r ∧ m = [] := by
  rw [m4_quirlaw_WaitSays] at h
  refine body (n := 125) Try.func4 rfl rfl rfl (Cls.refl w) ?_
  refine W.seq (W.region (L.y rfl (Y.assign rfl) ?_))
  refine L.nil (E.thenN (W.seq (W.region (L.y rfl (Y.move rfl) ?_))))
  refine L.y rfl (Y.move rfl) ?_
  obtain ⟨x1, e2, h⟩ := bind1S h
  refine L.y rfl (Y.does en5 rfl (fun w' hw => (w5_quirref_GraphErr a0 a1 u1 w' _ e2 (hA1.cls0 hw)).mono (fun _ _ h => h.1))) ?_
  refine L.y rfl (Y.assign rfl) ?_
  refine L.nil (E.thenN (W.seq (W.region (L.y rfl (Y.move rfl) ?_))))
  refine L.y rfl (Y.move rfl) ?_
  obtain ⟨l3, x5, e6, h⟩ := bind2S h
  refine L.does rfl en15 rfl (fun w' hw => w15_wait_Dead a0 a1 u1 w' _ e6 (hA1.cls0 hw)) ?_
  rintro _ _ ⟨v4, rfl, rfl⟩
  refine L.y rfl (Y.move rfl) ?_
  refine L.y rfl (Y.extract rfl rfl) ?_
  refine L.y rfl (Y.extract rfl rfl) ?_
  refine L.y rfl (Y.assign rfl) ?_
  refine L.y rfl (Y.assign rfl) ?_
  refine L.nil (E.thenN (W.seq (W.region (L.y rfl (Y.move rfl) ?_))))
  refine L.y rfl (Y.move rfl) ?_
  obtain ⟨l7, x9, e10, h⟩ := bind2S h
  refine L.does rfl en16 rfl (fun w' hw => w16_wait_Victims a0 a1 u1 w' _ e10 (hA1.cls0 hw)) ?_
  rintro _ _ ⟨v8, rfl, rfl⟩
  refine L.y rfl (Y.move rfl) ?_
  refine L.y rfl (Y.extract rfl rfl) ?_
  refine L.y rfl (Y.extract rfl rfl) ?_
  refine L.y rfl (Y.assign rfl) ?_
  refine L.y rfl (Y.assign rfl) ?_
  refine L.nil (E.thenN (W.seq (W.region (L.y rfl (Y.move rfl) ?_))))
  refine L.y rfl (Y.move rfl) ?_
  refine L.y rfl (Y.move rfl) ?_
  obtain ⟨x11, x12, e13, h⟩ := bind2S h
  refine L.y rfl (Y.does en17 rfl (fun w' hw => (w17_wait_Rule a2 a3 a4 w' _ e13).mono (fun _ _ h => h.1))) ?_
  refine L.y rfl (Y.move rfl) ?_
  refine L.y rfl (Y.extract rfl rfl) ?_
  refine L.y rfl (Y.extract rfl rfl) ?_
  refine L.y rfl (Y.assign rfl) ?_
  refine L.y rfl (Y.assign rfl) ?_
  refine L.nil (E.thenN (W.seqJ (fun gs D => gs = [(0, .int .i64 a0), (1, u1), (11, .int .i64 x1), (12, v4), (13, .int .i64 x5), (14, v8), (15, .int .i64 x9)] ∧ D = Cls w [] [.sl v4 3 1 (l3.map I), .sl v8 3 1 (l7.map I)] ∧ m4_quirlaw_WaitSays_K1 x1 l3 x5 l7 x9 a0 a1 = some r) ?_ ?_))
  ·
   refine W.block (W.seq (W.region (L.cutJ 6 (fun gs D => ∃ (gb3 : Bool), gs = [(0, .int .i64 a0), (1, u1), (2, .int .i64 a2), (3, .int .i64 a3), (4, .int .i64 a4), (11, .int .i64 x1), (12, v4), (13, .int .i64 x5), (14, v8), (15, .int .i64 x9), (16, .int .i64 x11), (17, .int .i64 x12), (68, .bool gb3)] ∧ D = Cls w [] [.sl v4 3 1 (l3.map I), .sl v8 3 1 (l7.map I)] ∧ m4_quirlaw_WaitSays_K5 x11 x12 x1 l3 x5 l7 x9 a0 a1 a3 a4 a2 gb3 = some r) ?_ ?_)))
   ·
    refine L.y rfl (Y.move rfl) ?_
    refine L.ite h rfl (Y.neq rfl rfl) (fun c40 h => ?_) (fun c40 h => ?_)
    ·
     refine L.y rfl (Y.move rfl) ?_
     refine L.take rfl (L.y rfl (Y.move rfl) ?_)
     refine L.take rfl (L.ite h rfl (Y.neq rfl rfl) (fun c41 h => ?_) (fun c41 h => ?_))
     ·
      refine L.y rfl (Y.pickT rfl rfl) ?_
      exact L.nil (E.joinJ ⟨true, rfl, rfl, h⟩ ⟨rfl, rfl, rfl, rfl, rfl, rfl, rfl, rfl, rfl, rfl, rfl, rfl, rfl, trivial⟩ (fun _ hw => hw.sel [1, 0] (by decide) rfl))
     ·
      refine L.y rfl (Y.pickT rfl rfl) ?_
      exact L.nil (E.joinJ ⟨false, rfl, rfl, h⟩ ⟨rfl, rfl, rfl, rfl, rfl, rfl, rfl, rfl, rfl, rfl, rfl, rfl, rfl, trivial⟩ (fun _ hw => hw.sel [1, 0] (by decide) rfl))
    ·
     refine L.y rfl (Y.move rfl) ?_
     refine L.pass rfl rfl (by nofun) ?_
     refine L.pass rfl rfl (by nofun) ?_
     refine L.y rfl (Y.pickF rfl rfl) ?_
     exact L.nil (E.joinJ ⟨false, rfl, rfl, h⟩ ⟨rfl, rfl, rfl, rfl, rfl, rfl, rfl, rfl, rfl, rfl, rfl, rfl, rfl, trivial⟩ (fun _ hw => hw.sel [1, 0] (by decide) rfl))
   ·
    rintro _ _ ⟨gb3, rfl, rfl, h⟩
    rw [m4_quirlaw_WaitSays_K5] at h
    rcases gb3 with _ | _
    ·
     replace h := iteF h
     refine L.y rfl (Y.assign rfl) ?_
     refine L.nil (E.thenN (W.condF rfl ?_))
     refine W.seq (W.region (L.y rfl (Y.move rfl) ?_))
     refine L.y rfl (Y.move rfl) ?_
     refine L.ite h rfl (Y.eql rfl rfl) (fun c29 h => ?_) (fun c29 h => ?_)
     ·
      refine L.y rfl (Y.assign rfl) ?_
      refine L.nil (E.thenN (W.condT rfl ?_))
      refine W.seq (W.region (L.y rfl (Y.move rfl) ?_))
      refine L.ite h rfl (Y.neq rfl rfl) (fun c30 h => ?_) (fun c30 h => ?_)
      ·
       refine L.y rfl (Y.move rfl) ?_
       refine L.pass rfl rfl (by nofun) ?_
       refine L.pass rfl rfl (by nofun) ?_
       refine L.y rfl (Y.pickT rfl rfl) ?_
       refine L.nil (E.thenN (W.condT rfl ?_))
       refine W.seq (W.region (L.y rfl (Y.assign rfl) ?_))
       refine L.nil (E.thenN (W.ret (E.blockR (E.KSR (E.ret1 rfl rfl (fun w1 hw => ?_))))))
       obtain rfl := Option.some.inj h
       exact ⟨_, _, rfl, ⟨rfl, rfl⟩, hw.sel [] (by decide) rfl⟩
      ·
       refine L.y rfl (Y.move rfl) ?_
       refine L.take rfl (L.y rfl (Y.move rfl) ?_)
       refine L.take rfl (L.ite h rfl (Y.neq rfl rfl) (fun c31 h => ?_) (fun c31 h => ?_))
       ·
        refine L.y rfl (Y.pickF rfl rfl) ?_
        refine L.nil (E.thenN (W.condT rfl ?_))
        refine W.seq (W.region (L.y rfl (Y.assign rfl) ?_))
        refine L.nil (E.thenN (W.ret (E.blockR (E.KSR (E.ret1 rfl rfl (fun w1 hw => ?_))))))
        obtain rfl := Option.some.inj h
        exact ⟨_, _, rfl, ⟨rfl, rfl⟩, hw.sel [] (by decide) rfl⟩
       ·
        refine L.y rfl (Y.pickF rfl rfl) ?_
        refine L.nil (E.thenN (W.condF rfl ?_))
        exact W.skip (E.blockN (E.joinJ ⟨rfl, rfl, h⟩ ⟨rfl, rfl, rfl, rfl, rfl, rfl, rfl, trivial⟩ (fun _ hw => hw)))
     ·
      refine L.y rfl (Y.assign rfl) ?_
      refine L.nil (E.thenN (W.condF rfl ?_))
      refine W.seq (W.region (L.y rfl (Y.assign rfl) ?_))
      refine L.nil (E.thenN (W.seqJ (fun gs D => ∃ (gx4 : Int), gs = [(0, .int .i64 a0), (1, u1), (2, .int .i64 a2), (3, .int .i64 a3), (4, .int .i64 a4), (11, .int .i64 x1), (12, v4), (13, .int .i64 x5), (14, v8), (15, .int .i64 x9), (16, .int .i64 x11), (17, .int .i64 x12), (18, .int .i64 gx4)] ∧ D = Cls w [] [.sl v4 3 1 (l3.map I), .sl v8 3 1 (l7.map I)] ∧ m4_quirlaw_WaitSays_K6 a2 a3 a4 x11 x12 x1 l3 x5 l7 x9 a0 a1 gx4 = some r) ?_ ?_))
      ·
       refine W.seq (W.region (L.y rfl (Y.move rfl) ?_))
       refine L.ite h rfl (Y.eql rfl rfl) (fun c36 h => ?_) (fun c36 h => ?_)
       ·
        refine L.y rfl (Y.move rfl) ?_
        refine L.take rfl (L.y rfl (Y.move rfl) ?_)
        refine L.take rfl (L.y rfl (Y.move rfl) ?_)
        refine L.take rfl (L.ite h rfl (Y.gtr rfl rfl) (fun c37 h => ?_) (fun c37 h => ?_))
        ·
         refine L.y rfl (Y.pickT rfl rfl) ?_
         refine L.nil (E.thenN (W.condT rfl ?_))
         refine W.region (L.y rfl (Y.assign rfl) ?_)
         exact L.nil (E.joinJ ⟨2, rfl, rfl, h⟩ ⟨rfl, rfl, rfl, rfl, rfl, rfl, rfl, rfl, rfl, rfl, rfl, rfl, rfl, trivial⟩ (fun _ hw => hw))
        ·
         refine L.y rfl (Y.pickT rfl rfl) ?_
         refine L.nil (E.thenN (W.condF rfl ?_))
         exact W.skip (E.joinJ ⟨1, rfl, rfl, h⟩ ⟨rfl, rfl, rfl, rfl, rfl, rfl, rfl, rfl, rfl, rfl, rfl, rfl, rfl, trivial⟩ (fun _ hw => hw))
       ·
        refine L.y rfl (Y.move rfl) ?_
        refine L.pass rfl rfl (by nofun) ?_
        refine L.pass rfl rfl (by nofun) ?_
        refine L.pass rfl rfl (by nofun) ?_
        refine L.y rfl (Y.pickF rfl rfl) ?_
        refine L.nil (E.thenN (W.condF rfl ?_))
        exact W.skip (E.joinJ ⟨1, rfl, rfl, h⟩ ⟨rfl, rfl, rfl, rfl, rfl, rfl, rfl, rfl, rfl, rfl, rfl, rfl, rfl, trivial⟩ (fun _ hw => hw))
      ·
       rintro _ _ ⟨gx4, rfl, rfl, h⟩
       rw [m4_quirlaw_WaitSays_K6] at h
       refine W.seqJ (fun gs D => ∃ (gx5 : Int), gs = [(0, .int .i64 a0), (1, u1), (11, .int .i64 x1), (12, v4), (13, .int .i64 x5), (14, v8), (15, .int .i64 x9), (16, .int .i64 x11), (17, .int .i64 x12), (18, .int .i64 gx5)] ∧ D = Cls w [] [.sl v4 3 1 (l3.map I), .sl v8 3 1 (l7.map I)] ∧ m4_quirlaw_WaitSays_K7 x11 x12 x1 l3 x5 l7 x9 a0 a1 gx5 = some r) ?_ ?_
       ·
        refine W.seq (W.region (L.y rfl (Y.move rfl) ?_))
        refine L.ite h rfl (Y.eql rfl rfl) (fun c34 h => ?_) (fun c34 h => ?_)
        ·
         refine L.y rfl (Y.move rfl) ?_
         refine L.take rfl (L.y rfl (Y.move rfl) ?_)
         refine L.take rfl (L.y rfl (Y.move rfl) ?_)
         refine L.take rfl (L.ite h rfl (Y.lss rfl rfl) (fun c35 h => ?_) (fun c35 h => ?_))
         ·
          refine L.y rfl (Y.pickT rfl rfl) ?_
          refine L.nil (E.thenN (W.condT rfl ?_))
          refine W.region (L.y rfl (Y.assign rfl) ?_)
          exact L.nil (E.joinJ ⟨3, rfl, rfl, h⟩ ⟨rfl, rfl, rfl, rfl, rfl, rfl, rfl, rfl, rfl, rfl, trivial⟩ (fun _ hw => hw))
         ·
          refine L.y rfl (Y.pickT rfl rfl) ?_
          refine L.nil (E.thenN (W.condF rfl ?_))
          exact W.skip (E.joinJ ⟨gx4, rfl, rfl, h⟩ ⟨rfl, rfl, rfl, rfl, rfl, rfl, rfl, rfl, rfl, rfl, trivial⟩ (fun _ hw => hw))
        ·
         refine L.y rfl (Y.move rfl) ?_
         refine L.pass rfl rfl (by nofun) ?_
         refine L.pass rfl rfl (by nofun) ?_
         refine L.pass rfl rfl (by nofun) ?_
         refine L.y rfl (Y.pickF rfl rfl) ?_
         refine L.nil (E.thenN (W.condF rfl ?_))
         exact W.skip (E.joinJ ⟨gx4, rfl, rfl, h⟩ ⟨rfl, rfl, rfl, rfl, rfl, rfl, rfl, rfl, rfl, rfl, trivial⟩ (fun _ hw => hw))
       ·
        rintro _ _ ⟨gx5, rfl, rfl, h⟩
        rw [m4_quirlaw_WaitSays_K7] at h
        refine W.seq (W.region (L.y rfl (Y.move rfl) ?_))
        refine L.y rfl (Y.move rfl) ?_
        refine L.ite h rfl (Y.neq rfl rfl) (fun c32 h => ?_) (fun c32 h => ?_)
        ·
         refine L.y rfl (Y.move rfl) ?_
         refine L.pass rfl rfl (by nofun) ?_
         refine L.pass rfl rfl (by nofun) ?_
         refine L.y rfl (Y.pickT rfl rfl) ?_
         refine L.nil (E.thenN (W.condT rfl ?_))
         refine W.seq (W.region (L.y rfl (Y.assign rfl) ?_))
         refine L.nil (E.thenN (W.ret (E.blockR (E.KSR (E.ret1 rfl rfl (fun w1 hw => ?_))))))
         obtain rfl := Option.some.inj h
         exact ⟨_, _, rfl, ⟨rfl, rfl⟩, hw.sel [] (by decide) rfl⟩
        ·
         refine L.y rfl (Y.move rfl) ?_
         refine L.take rfl (L.y rfl (Y.move rfl) ?_)
         refine L.take rfl (L.ite h rfl (Y.neq rfl rfl) (fun c33 h => ?_) (fun c33 h => ?_))
         ·
          refine L.y rfl (Y.pickF rfl rfl) ?_
          refine L.nil (E.thenN (W.condT rfl ?_))
          refine W.seq (W.region (L.y rfl (Y.assign rfl) ?_))
          refine L.nil (E.thenN (W.ret (E.blockR (E.KSR (E.ret1 rfl rfl (fun w1 hw => ?_))))))
          obtain rfl := Option.some.inj h
          exact ⟨_, _, rfl, ⟨rfl, rfl⟩, hw.sel [] (by decide) rfl⟩
         ·
          refine L.y rfl (Y.pickF rfl rfl) ?_
          refine L.nil (E.thenN (W.condF rfl ?_))
          exact W.skip (E.blockN (E.joinJ ⟨rfl, rfl, h⟩ ⟨rfl, rfl, rfl, rfl, rfl, rfl, rfl, trivial⟩ (fun _ hw => hw)))
    ·
     replace h := iteT h
     refine L.y rfl (Y.assign rfl) ?_
     refine L.nil (E.thenN (W.condT rfl ?_))
     refine W.seq (W.region (L.y rfl (Y.move rfl) ?_))
     refine L.ite h rfl (Y.neq rfl rfl) (fun c38 h => ?_) (fun c38 h => ?_)
     ·
      refine L.y rfl (Y.move rfl) ?_
      refine L.pass rfl rfl (by nofun) ?_
      refine L.pass rfl rfl (by nofun) ?_
      refine L.y rfl (Y.pickT rfl rfl) ?_
      refine L.nil (E.thenN (W.condT rfl ?_))
      refine W.seq (W.region (L.y rfl (Y.assign rfl) ?_))
      refine L.nil (E.thenN (W.ret (E.blockR (E.KSR (E.ret1 rfl rfl (fun w1 hw => ?_))))))
      obtain rfl := Option.some.inj h
      exact ⟨_, _, rfl, ⟨rfl, rfl⟩, hw.sel [] (by decide) rfl⟩
     ·
      refine L.y rfl (Y.move rfl) ?_
      refine L.take rfl (L.y rfl (Y.move rfl) ?_)
      refine L.take rfl (L.ite h rfl (Y.neq rfl rfl) (fun c39 h => ?_) (fun c39 h => ?_))
      ·
       refine L.y rfl (Y.pickF rfl rfl) ?_
       refine L.nil (E.thenN (W.condT rfl ?_))
       refine W.seq (W.region (L.y rfl (Y.assign rfl) ?_))
       refine L.nil (E.thenN (W.ret (E.blockR (E.KSR (E.ret1 rfl rfl (fun w1 hw => ?_))))))
       obtain rfl := Option.some.inj h
       exact ⟨_, _, rfl, ⟨rfl, rfl⟩, hw.sel [] (by decide) rfl⟩
      ·
       refine L.y rfl (Y.pickF rfl rfl) ?_
       refine L.nil (E.thenN (W.condF rfl ?_))
       exact W.skip (E.blockN (E.joinJ ⟨rfl, rfl, h⟩ ⟨rfl, rfl, rfl, rfl, rfl, rfl, rfl, trivial⟩ (fun _ hw => hw)))
  ·
   rintro _ _ ⟨rfl, rfl, h⟩
   rw [m4_quirlaw_WaitSays_K1] at h
   refine W.seqJ (fun gs D => gs = [(0, .int .i64 a0), (1, u1), (12, v4), (13, .int .i64 x5), (14, v8), (15, .int .i64 x9)] ∧ D = Cls w [] [.sl v4 3 1 (l3.map I), .sl v8 3 1 (l7.map I)] ∧ m4_quirlaw_WaitSays_K2 a0 a1 l3 x5 l7 x9 = some r) ?_ ?_
   ·
    refine W.seq (W.region (L.y rfl (Y.move rfl) ?_))
    refine L.ite h rfl (Y.neq rfl rfl) (fun c25 h => ?_) (fun c25 h => ?_)
    ·
     refine L.nil (E.thenN (W.condT rfl ?_))
     refine W.seq (W.region (L.cutJ 8 (fun gs D => ∃ (gb2 : Bool), gs = [(11, .int .i64 x1), (14, v8), (15, .int .i64 x9), (94, .bool gb2)] ∧ D = Cls w [] [.sl v8 3 1 (l7.map I)] ∧ m4_quirlaw_WaitSays_K4 l7 x9 x1 gb2 = some r) ?_ ?_))
     ·
      refine L.y rfl (Y.move rfl) ?_
      refine L.y rfl (Y.lenM (g := I) (l := l3) Try.underlying25 rfl (fun w hw => As.at_ (hw.get (i := 0) rfl))) ?_
      refine L.ite h rfl (Y.eql rfl rfl) (fun c27 h => ?_) (fun c27 h => ?_)
      ·
       refine L.y rfl (Y.move rfl) ?_
       refine L.take rfl (L.y rfl (Y.move rfl) ?_)
       refine L.take rfl (L.y rfl (Y.move rfl) ?_)
       refine L.take rfl (L.ite h rfl (Y.eql rfl rfl) (fun c28 h => ?_) (fun c28 h => ?_))
       ·
        refine L.y rfl (Y.pickT rfl rfl) ?_
        exact L.nil (E.joinJ ⟨true, rfl, rfl, h⟩ ⟨rfl, rfl, rfl, rfl, trivial⟩ (fun _ hw => hw.sel [1] (by decide) rfl))
       ·
        refine L.y rfl (Y.pickT rfl rfl) ?_
        exact L.nil (E.joinJ ⟨false, rfl, rfl, h⟩ ⟨rfl, rfl, rfl, rfl, trivial⟩ (fun _ hw => hw.sel [1] (by decide) rfl))
      ·
       refine L.y rfl (Y.move rfl) ?_
       refine L.pass rfl rfl (by nofun) ?_
       refine L.pass rfl rfl (by nofun) ?_
       refine L.pass rfl rfl (by nofun) ?_
       refine L.y rfl (Y.pickF rfl rfl) ?_
       exact L.nil (E.joinJ ⟨false, rfl, rfl, h⟩ ⟨rfl, rfl, rfl, rfl, trivial⟩ (fun _ hw => hw.sel [1] (by decide) rfl))
     ·
      rintro _ _ ⟨gb2, rfl, rfl, h⟩
      rw [m4_quirlaw_WaitSays_K4] at h
      rcases gb2 with _ | _
      ·
       replace h := iteF h
       refine L.y rfl (Y.move rfl) ?_
       refine L.pass rfl rfl (by nofun) ?_
       refine L.pass rfl rfl (by nofun) ?_
       refine L.pass rfl rfl (by nofun) ?_
       refine L.y rfl (Y.pickF rfl rfl) ?_
       refine L.y rfl (Y.move rfl) ?_
       refine L.pass rfl rfl (by nofun) ?_
       refine L.pass rfl rfl (by nofun) ?_
       refine L.pass rfl rfl (by nofun) ?_
       refine L.y rfl (Y.pickF rfl rfl) ?_
       refine L.y rfl (Y.assign rfl) ?_
       refine L.nil (E.thenN (W.ret (E.KSR (E.ret1 rfl rfl (fun w1 hw => ?_)))))
       obtain rfl := Option.some.inj h
       exact ⟨_, _, rfl, ⟨rfl, rfl⟩, hw.sel [] (by decide) rfl⟩
      ·
       replace h := iteT h
       refine L.y rfl (Y.move rfl) ?_
       refine L.take rfl (L.y rfl (Y.move rfl) ?_)
       refine L.take rfl (L.y rfl (Y.lenM (g := I) (l := l7) Try.underlying25 rfl (fun w hw => As.at_ (hw.get (i := 0) rfl))) ?_)
       refine L.take rfl (L.ite h rfl (Y.eql rfl rfl) (fun c26 h => ?_) (fun c26 h => ?_))
       ·
        refine L.y rfl (Y.pickT rfl rfl) ?_
        refine L.y rfl (Y.move rfl) ?_
        refine L.take rfl (L.y rfl (Y.move rfl) ?_)
        refine L.take rfl (L.y rfl (Y.move rfl) ?_)
        refine L.take rfl (L.y rfl (Y.eql rfl rfl) ?_)
        refine L.y rfl (Y.pickT rfl rfl) ?_
        refine L.y rfl (Y.assign rfl) ?_
        refine L.nil (E.thenN (W.ret (E.KSR (E.ret1 rfl rfl (fun w1 hw => ?_)))))
        obtain rfl := Option.some.inj h
        exact ⟨_, _, rfl, ⟨rfl, rfl⟩, hw.sel [] (by decide) rfl⟩
       ·
        refine L.y rfl (Y.pickT rfl rfl) ?_
        refine L.y rfl (Y.move rfl) ?_
        refine L.pass rfl rfl (by nofun) ?_
        refine L.pass rfl rfl (by nofun) ?_
        refine L.pass rfl rfl (by nofun) ?_
        refine L.y rfl (Y.pickF rfl rfl) ?_
        refine L.y rfl (Y.assign rfl) ?_
        refine L.nil (E.thenN (W.ret (E.KSR (E.ret1 rfl rfl (fun w1 hw => ?_)))))
        obtain rfl := Option.some.inj h
        exact ⟨_, _, rfl, ⟨rfl, rfl⟩, hw.sel [] (by decide) rfl⟩
    ·
     refine L.nil (E.thenN (W.condF rfl ?_))
     exact W.skip (E.joinJ ⟨rfl, rfl, h⟩ ⟨rfl, rfl, rfl, rfl, rfl, rfl, trivial⟩ (fun _ hw => hw))
   ·
    rintro _ _ ⟨rfl, rfl, h⟩
    rw [m4_quirlaw_WaitSays_K2] at h
    refine W.seq (W.region (L.cutJ 9 (fun gs D => ∃ (gb1 : Bool), gs = [(0, .int .i64 a0), (1, u1), (14, v8), (15, .int .i64 x9), (113, .bool gb1)] ∧ D = Cls w [] [.sl v8 3 1 (l7.map I)] ∧ m4_quirlaw_WaitSays_K3 a0 a1 l7 x9 gb1 = some r) ?_ ?_))
    ·
     refine L.y rfl (Y.move rfl) ?_
     refine L.y rfl (Y.move rfl) ?_
     refine L.y rfl (Y.move rfl) ?_
     obtain ⟨l19, e21, h⟩ := bind1S h
     refine L.does rfl en18 rfl (fun w' hw => w18_quirref_Dead a0 a1 u1 w' _ e21 (hA1.cls0 hw)) ?_
     rintro v20 _ ⟨_, rfl, rfl⟩
     obtain ⟨b22, e23, h⟩ := bind1S h
     refine L.y rfl (Y.does en11 rfl (fun w' hw => (w11_slices_Equal_int l3 l19 v4 v20 w' _ e23 (As.at_ (hw.get (i := 1) rfl)) (As.at_ (hw.get (i := 0) rfl))).mono (fun _ _ h => h.1))) ?_
     rcases b22 with _ | _
     ·
      replace h := iteF h
      refine L.y rfl (Y.move rfl) ?_
      refine L.pass rfl rfl (by nofun) ?_
      refine L.pass rfl rfl (by nofun) ?_
      refine L.y rfl (Y.pickF rfl rfl) ?_
      exact L.nil (E.joinJ ⟨false, rfl, rfl, h⟩ ⟨rfl, rfl, rfl, rfl, rfl, trivial⟩ (fun _ hw => hw.sel [2] (by decide) rfl))
     ·
      replace h := iteT h
      refine L.y rfl (Y.move rfl) ?_
      refine L.take rfl (L.y rfl (Y.move rfl) ?_)
      refine L.take rfl (L.ite h rfl (Y.eql rfl rfl) (fun c24 h => ?_) (fun c24 h => ?_))
      ·
       refine L.y rfl (Y.pickT rfl rfl) ?_
       exact L.nil (E.joinJ ⟨true, rfl, rfl, h⟩ ⟨rfl, rfl, rfl, rfl, rfl, trivial⟩ (fun _ hw => hw.sel [2] (by decide) rfl))
      ·
       refine L.y rfl (Y.pickT rfl rfl) ?_
       exact L.nil (E.joinJ ⟨false, rfl, rfl, h⟩ ⟨rfl, rfl, rfl, rfl, rfl, trivial⟩ (fun _ hw => hw.sel [2] (by decide) rfl))
    ·
     rintro _ _ ⟨gb1, rfl, rfl, h⟩
     rw [m4_quirlaw_WaitSays_K3] at h
     rcases gb1 with _ | _
     ·
      replace h := iteF h
      refine L.y rfl (Y.move rfl) ?_
      refine L.pass rfl rfl (by nofun) ?_
      refine L.pass rfl rfl (by nofun) ?_
      refine L.pass rfl rfl (by nofun) ?_
      refine L.pass rfl rfl (by nofun) ?_
      refine L.pass rfl rfl (by nofun) ?_
      refine L.y rfl (Y.pickF rfl rfl) ?_
      refine L.y rfl (Y.move rfl) ?_
      refine L.pass rfl rfl (by nofun) ?_
      refine L.pass rfl rfl (by nofun) ?_
      refine L.y rfl (Y.pickF rfl rfl) ?_
      refine L.y rfl (Y.assign rfl) ?_
      refine L.nil (E.thenN (W.ret (E.ret1 rfl rfl (fun w1 hw => ?_))))
      obtain rfl := Option.some.inj h
      exact ⟨_, _, rfl, ⟨rfl, rfl⟩, hw.sel [] (by decide) rfl⟩
     ·
      replace h := iteT h
      refine L.y rfl (Y.move rfl) ?_
      refine L.take rfl (L.y rfl (Y.move rfl) ?_)
      refine L.take rfl (L.y rfl (Y.move rfl) ?_)
      refine L.take rfl (L.y rfl (Y.move rfl) ?_)
      refine L.take rfl ?_
      obtain ⟨l14, e16, h⟩ := bind1S h
      refine L.does rfl en19 rfl (fun w' hw => w19_quirref_Victims a0 a1 u1 w' _ e16 (hA1.cls0 hw)) ?_
      rintro v15 _ ⟨_, rfl, rfl⟩
      refine L.take rfl ?_
      obtain ⟨b17, e18, h⟩ := bind1S h
      refine L.y rfl (Y.does en11 rfl (fun w' hw => (w11_slices_Equal_int l7 l14 v8 v15 w' _ e18 (As.at_ (hw.get (i := 1) rfl)) (As.at_ (hw.get (i := 0) rfl))).mono (fun _ _ h => h.1))) ?_
      rcases b17 with _ | _
      ·
       replace h := iteF h
       refine L.y rfl (Y.pickT rfl rfl) ?_
       refine L.y rfl (Y.move rfl) ?_
       refine L.pass rfl rfl (by nofun) ?_
       refine L.pass rfl rfl (by nofun) ?_
       refine L.y rfl (Y.pickF rfl rfl) ?_
       refine L.y rfl (Y.assign rfl) ?_
       refine L.nil (E.thenN (W.ret (E.ret1 rfl rfl (fun w1 hw => ?_))))
       obtain rfl := Option.some.inj h
       exact ⟨_, _, rfl, ⟨rfl, rfl⟩, hw.sel [] (by decide) rfl⟩
      ·
       replace h := iteT h
       refine L.y rfl (Y.pickT rfl rfl) ?_
       refine L.y rfl (Y.move rfl) ?_
       refine L.take rfl (L.y rfl (Y.move rfl) ?_)
       refine L.take rfl (L.y rfl (Y.eql rfl rfl) ?_)
       refine L.y rfl (Y.pickT rfl rfl) ?_
       refine L.y rfl (Y.assign rfl) ?_
       refine L.nil (E.thenN (W.ret (E.ret1 rfl rfl (fun w1 hw => ?_))))
       obtain rfl := Option.some.inj h
       exact ⟨_, _, rfl, ⟨rfl, rfl⟩, hw.sel [] (by decide) rfl⟩
end Go.Proofs.Ytjhcdmcikodgkaa
