/-
  Walks, printed by a program of mine.
  Conditions: none.
-/
import Derived.Test.YtfmgjigdebofaaaSnW1
import Derived.Test.YtfmgjigdebofaaaChecked
import Derived.KernelRfl
namespace Go.Proofs.Ytfmgjigdebofaaa
open Go.S
set_option linter.unusedVariables false
set_option linter.unusedSimpArgs false
set_option maxRecDepth 100000 in
set_option maxHeartbeats 8000000 in
theorem w96_skew_Play (a0 : (List TOp)) (u0 : Value) (w : World) (r : ((List TDid) × Int)) (h : m96_skew_Play a0 = some r) (hA0 : At w u0 3 (a0.map TOp.row)) : Does Try.prog 96 [u0] w fun u m => ∃ v0, u = .tuple #[v0, .int .i64 r.2] ∧ m = [.sl v0 152 2 (r.1.map TDid.row)] := by
  rw [m96_skew_Play] at h
  refine body (n := 27) Try.func96 rfl rfl rfl (Cls.refl w) ?_
  refine W.seq (W.region (L.y rfl (Y.assign rfl) ?_))
  refine L.y rfl (Y.assign rfl) ?_
  refine L.nil (E.thenN (W.seqJ (fun gs D => gs = [(0, u0)] ∧ D = Cls w [] [] ∧ m96_skew_Play_K1 a0 = some r) ?_ ?_))
  ·
   refine W.seq (W.region (L.y rfl (Y.move rfl) ?_))
   obtain ⟨x190, e191, h⟩ := bind1S h
   refine L.y rfl (Y.does en107 rfl (fun w' hw => (w107_run_Check a0 u0 w' _ e191 (hA0.cls0 hw)).mono (fun _ _ h => h.1))) ?_
   refine L.y rfl (Y.assign rfl) ?_
   refine L.nil (E.thenN (W.seq (W.region (L.y rfl (Y.move rfl) ?_))))
   refine L.ite h rfl (Y.neq rfl rfl) (fun c192 h => ?_) (fun c192 h => ?_)
   ·
    refine L.nil (E.thenN (W.condT rfl ?_))
    refine W.seq (W.region (L.y rfl (Y.move rfl) ?_))
    refine L.y rfl (Y.assign rfl) ?_
    refine L.y rfl (Y.assign rfl) ?_
    refine L.nil (E.thenN (W.ret (E.KSR (E.ret2 rfl rfl rfl (fun w1 hw => ?_)))))
    obtain rfl := Option.some.inj h
    exact ⟨_, _, rfl, ⟨_, rfl, rfl⟩, (hw.nilSl 152 2)⟩
   ·
    refine L.nil (E.thenN (W.condF rfl ?_))
    exact W.skip (E.joinJ ⟨rfl, rfl, h⟩ ⟨rfl, trivial⟩ (fun _ hw => hw))
  ·
   rintro _ _ ⟨rfl, rfl, h⟩
   rw [m96_skew_Play_K1] at h
   refine W.seq (W.region (L.alloc rfl ze212 ?_))
   intro b1
   refine L.toSeg (S := [(zr Ttx209.rowv (fun _ => [nilV, nilV]) (List.replicate 12 ((⟨false, false, 0, 0, [], []⟩ : Ttx209) : Ttx209))).flatten, [.int .i64 0], (zr svRow (fun _ => [nilV]) (List.replicate 20 ([] : (List Int)))).flatten]) rfl ?_
   refine L.ssNil (sds := Ttx209.sds) (vs := (fun _ => [nilV, nilV])) (xs := (List.replicate 12 ((⟨false, false, 0, 0, [], []⟩ : Ttx209) : Ttx209))) (zs_repl (gall1 rfl rfl (gall1 rfl rfl gall0)) _) ?_
   refine L.ssNil (sds := (svSd 3 1 I)) (vs := (fun _ => [nilV])) (xs := (List.replicate 20 ([] : (List Int)))) (zs_repl (gall1 rfl rfl gall0) _) ?_
   refine L.nil (E.thenN (W.seq (W.region (L.y rfl (Y.assign rfl) ?_))))
   refine L.nil (E.thenN (W.seqJ (fun gs D => ∃ (gv1 : Value) (gl2 : (List TDid)), gs = [(6, gv1)] ∧ D = Cls w [] [.sl gv1 152 2 (gl2.map TDid.row)] ∧ m96_skew_Play_K2 gl2 = some r) ?_ ?_))
   ·
    refine W.seq (W.region (L.y rfl (Y.move rfl) ?_))
    refine L.y rfl (Y.lenM (g := TOp.row) (l := a0) Try.underlying71 rfl (fun w' hw => hA0.cls0 hw)) ?_
    refine L.y rfl (Y.move rfl) ?_
    refine L.nil (E.thenN (W.block (W.nilSl 152 2 ?_)))
    refine W.loopJ (fun m gs D => ∃ (gv3 : Value) (gl4 : (List TDid)) (gx5 : Int) (gl6 : (List Ttx209)) (gq7 : Nat → List Value) (gx8 : Int) (gl9 : (List (List Int))) (gq10 : Nat → List Value), gs = [(5, pt b1 0), (6, gv3), (14, u0), (15, .int .i64 (a0.length : Int)), (16, .int .i64 gx5)] ∧ D = Cls w [] [.obj b1 (List.flatten [(zr Ttx209.rowv gq7 gl6).flatten, [.int .i64 gx8], (zr svRow gq10 gl9).flatten]) 212, .ss (zs Ttx209.sds gq7 gl6), .ss (zs (svSd 3 1 I) gq10 gl9), .sl gv3 152 2 (gl4.map TDid.row)] ∧ m96_skew_Play_L1 a0 m gl4 gx5 gl6 gx8 gl9 = some r) ⟨.slice none 0 0, [], 0, (List.replicate 12 ((⟨false, false, 0, 0, [], []⟩ : Ttx209) : Ttx209)), (fun _ => [nilV, nilV]), 0, (List.replicate 20 ([] : (List Int))), (fun _ => [nilV]), rfl, rfl, h⟩ ⟨rfl, rfl, rfl, rfl, rfl, trivial⟩ (fun _ hw => hw.sel [3, 2, 1, 0] (by decide) rfl) ?_
    rintro m _ _ ⟨gv3, gl4, gx5, gl6, gq7, gx8, gl9, gq10, rfl, rfl, h⟩
    rcases m with _ | m
    · rw [m96_skew_Play_L1] at h; cases h
    rw [m96_skew_Play_L1] at h
    generalize hg1 : m96_skew_Play_L1 a0 m = go1 at h
    rw [m96_skew_Play_L1B] at h
    refine W.seq (W.region (L.ite h rfl (Y.lss rfl rfl) (fun c2 h => ?_) (fun c2 h => ?_)))
    ·
     refine L.nil (E.thenN (W.seq (W.condT rfl ?_)))
     refine W.skip (E.thenN (W.seq (W.block (W.seq (W.region (L.m (V := fun _ => el u0 (gx5.toNat * 3)) h rfl (Y.indexM (g := TOp.row) (l := a0) Try.underlying71 sz164 rfl rfl (fun w' hw => hA0.cls0 hw)) (fun x3 ex3 h => ?_)))))))
     refine L.y rfl (Y.loadEN (r := [.int .i64 x3.Tx, .int .i64 x3.Kind, .int .i64 x3.Item]) ag164 sz164 rfl (fun w' hw => hA0.cls0 hw) (idx_map ex3) rfl) ?_
     refine L.alloc rfl ze164 ?_
     intro b4
     refine L.store (i := 0) sz164 rfl rfl rfl rfl (by simp [Value.oneCell', Value.cells, st, pt]) rfl (Nat.le_of_ble_eq_true rfl) ?_
     refine L.nil (E.thenN (W.region (L.y rfl (Y.move rfl) ?_)))
     refine L.y rfl (Y.loadPW (i := 0) ag164 sz164 rfl rfl rfl) ?_
     refine L.callJ (fun v D => ∃ (gb11 : Bool) (gx12 : Int) (gl13 : (List Ttx209)) (gq14 : Nat → List Value) (gx15 : Int) (gl16 : (List (List Int))) (gq17 : Nat → List Value), v = .agg #[.bool gb11, .int .i64 gx12] ∧ D = Cls w [] [.obj b1 (List.flatten [(zr Ttx209.rowv gq14 gl13).flatten, [.int .i64 gx15], (zr svRow gq17 gl16).flatten]) 212, .ss (zs Ttx209.sds gq14 gl13), .ss (zs (svSd 3 1 I) gq17 gl16), .sl gv3 152 2 (gl4.map TDid.row)] ∧ m96_skew_Play_K3 gl4 gx5 go1 gb11 gx12 gl13 gx15 gl16 = some r) rfl en140 rfl Try.func140 rfl rfl rfl ?_ ?_
     ·
      refine W.seq (W.region (L.box rfl rfl ?_))
      intro b9
      refine L.alloc rfl ze152 ?_
      intro b10
      refine L.nil (E.thenN (W.seq (W.quietC mixed (by kernel_rfl) (fun _ hw => hw.drew) (fun hC => ?_))))
      refine U.y rfl (Y.move rfl) ?_
      refine U.y rfl (Y.fieldP fd164_0 rfl) ?_
      refine U.y rfl (Y.loadP (i := 1) ag3 rfl rfl rfl) ?_
      refine U.y rfl (Y.nilCheck rfl) ?_
      refine U.y rfl (Y.fieldP fd212_0 rfl) ?_
      refine U.m (V := fun _ => pt b1 (0 + x3.Tx.toNat * 6)) h rfl (Y.indexAS (l := gl6) Try.underlying210 sz209 rfl rfl) (fun x11 ex11 h => ?_)
      refine U.y rfl (Y.assign rfl) ?_
      refine U.nil (E.thenN (W.seqJ (fun gs D => ∃ (gl18 : (List Ttx209)) (gq19 : Nat → List Value), gs = [(0, pt b1 0), (3, pt b9 0), (4, pt b10 0), (5, pt b1 (0 + x3.Tx.toNat * 6))] ∧ D = Cls w [] [.obj b10 [.bool false, .int .i64 0] 152, .obj b9 [.int .i64 x3.Tx, .int .i64 x3.Kind, .int .i64 x3.Item] 164, .obj b1 (List.flatten [(zr Ttx209.rowv gq19 gl18).flatten, [.int .i64 gx8], (zr svRow gq10 gl9).flatten]) 212, .ss (zs Ttx209.sds gq19 gl18), .ss (zs (svSd 3 1 I) gq10 gl9), .sl gv3 152 2 (gl4.map TDid.row)] ∧ m96_skew_Play_K4 x3 gl4 gx5 go1 gx8 gl9 gl18 = some r) ?_ ?_))
      ·
       refine W.seq (W.region (L.y rfl (Y.move rfl) ?_))
       refine L.y rfl (Y.nilCheck rfl) ?_
       refine L.y rfl (Y.fieldP fd209_0 rfl) ?_
       refine L.iteB h rfl (Y.loadZg (si := 0) (ps := 0) (q := 3) (row := Ttx209.rowv) (vs := gq7) (j := 0) (pv := .bool x11.began_) ag4 rfl rfl rfl rfl sl0 (fun _ _ => rfl) (idxA_idx ex11) rfl) (fun c186 h => ?_) (fun c186 h => ?_)
       ·
        refine L.y rfl (Y.not rfl) ?_
        refine L.nil (E.thenN (W.condF rfl ?_))
        exact W.skip (E.joinJ ⟨gl6, gq7, rfl, rfl, h⟩ ⟨rfl, rfl, rfl, rfl, trivial⟩ (fun _ hw => hw.sel [0, 1, 3, 4, 5, 6] (by decide) rfl))
       ·
        refine L.y rfl (Y.not rfl) ?_
        refine L.nil (E.thenN (W.condT rfl ?_))
        refine W.region (L.y rfl (Y.move rfl) ?_)
        refine L.y rfl (Y.move rfl) ?_
        refine L.y rfl (Y.nilCheck rfl) ?_
        refine L.y rfl (Y.fieldP fd212_1 rfl) ?_
        obtain ⟨_, en187, h⟩ := bind1S h
        obtain ⟨_, en187⟩ := arrN_some en187
        refine L.y rfl (Y.loadG (q := 3) (si := 1) (ps := 72) (j := 0) (X := [.int .i64 gx8]) ag3 rfl rfl rfl rfl (sl1 (a := 72) (p := 0) (zrN (nn := 12) (k := 6) (fun _ _ => rfl) en187) sl0) rfl) ?_
        refine L.y rfl (Y.build (cells := #[.bool true, .bool false, .int .i64 gx8, .int .i64 0, .slice none 0 0, .slice none 0 0]) rfl (by kernel_rfl)) ?_
        refine L.y rfl (Y.nilCheck rfl) ?_
        refine L.storeZAg (si := 0) (ps := 0) (row := Ttx209.rowv) (sds := Ttx209.sds) (vs := gq7) (q := 3) (s := 4) (u1 := (⟨true, false, gx8, 0, [], []⟩ : Ttx209)) (vals := [.bool true, .bool false, .int .i64 gx8, .int .i64 0, .slice none 0 0, .slice none 0 0]) (v1 := [nilV, nilV]) (j := 0) h sz209 rfl rfl rfl rfl rfl (all1 rfl (all1 rfl (all1 rfl (all1 rfl (all1 rfl (all1 rfl all0)))))) rfl rfl sl0 rfl (fun _ _ => rfl) (idxA_idx ex11) rfl rfl (gall1 rfl rfl (gall1 rfl rfl gall0)) ?_
        intro l188 q189 el188 h
        exact L.nil (E.joinJ ⟨l188, q189, rfl, rfl, h⟩ ⟨rfl, rfl, rfl, rfl, trivial⟩ (fun _ hw => hw.sel [0, 1, 3, 4, 5, 6] (by decide) rfl))
      ·
       rintro _ _ ⟨gl18, gq19, rfl, rfl, h⟩
       rw [m96_skew_Play_K4] at h
       refine W.seq (W.region (L.y rfl (Y.build (cells := #[.bool true, .int .i64 (-1)]) rfl (by kernel_rfl)) ?_))
       refine L.alloc rfl ze152 ?_
       intro b12
       refine L.store (i := 0) sz152 rfl rfl rfl rfl (by simp [Value.oneCell', Value.cells, st, pt]) rfl (Nat.le_of_ble_eq_true rfl) ?_
       refine L.nil (E.thenN (W.seqJ (fun gs D => ∃ (gx20 : Int) (gl21 : (List Ttx209)) (gq22 : Nat → List Value) (gx23 : Int) (gl24 : (List (List Int))) (gq25 : Nat → List Value), gs = [(4, pt b10 0), (6, pt b12 0)] ∧ D = Cls w [] [.obj b12 [.bool true, .int .i64 gx20] 152, .obj b10 [.bool false, .int .i64 0] 152, .obj b1 (List.flatten [(zr Ttx209.rowv gq22 gl21).flatten, [.int .i64 gx23], (zr svRow gq25 gl24).flatten]) 212, .ss (zs Ttx209.sds gq22 gl21), .ss (zs (svSd 3 1 I) gq25 gl24), .sl gv3 152 2 (gl4.map TDid.row)] ∧ m96_skew_Play_K5 gl4 gx5 go1 gx20 gl21 gx23 gl24 = some r) ?_ ?_))
       ·
        refine W.seq (W.region (L.y rfl (Y.fieldP fd164_1 rfl) ?_))
        refine L.y rfl (Y.loadP (i := 2) ag3 rfl rfl rfl) ?_
        refine L.nil (E.thenN (W.block (W.seqJ (fun gs D => ∃ (gb26 : Bool), gs = [(0, pt b1 0), (3, pt b9 0), (4, pt b10 0), (5, pt b1 (0 + x3.Tx.toNat * 6)), (6, pt b12 0), (29, .int .i64 x3.Kind), (30, .bool gb26)] ∧ D = Cls w [] [.obj b12 [.bool true, .int .i64 (-1)] 152, .obj b10 [.bool false, .int .i64 0] 152, .obj b9 [.int .i64 x3.Tx, .int .i64 x3.Kind, .int .i64 x3.Item] 164, .obj b1 (List.flatten [(zr Ttx209.rowv gq19 gl18).flatten, [.int .i64 gx8], (zr svRow gq10 gl9).flatten]) 212, .ss (zs Ttx209.sds gq19 gl18), .ss (zs (svSd 3 1 I) gq10 gl9), .sl gv3 152 2 (gl4.map TDid.row)] ∧ m96_skew_Play_K6 gl18 x3 gl4 gx5 go1 gx8 gl9 gb26 = some r) ?_ ?_)))
        ·
         refine W.region (L.ite h rfl (Y.eql rfl rfl) (fun c185 h => ?_) (fun c185 h => ?_))
         ·
          refine L.y rfl (Y.assign rfl) ?_
          exact L.nil (E.joinJ ⟨true, rfl, rfl, h⟩ ⟨rfl, rfl, rfl, rfl, rfl, rfl, rfl, trivial⟩ (fun _ hw => hw))
         ·
          refine L.y rfl (Y.assign rfl) ?_
          exact L.nil (E.joinJ ⟨false, rfl, rfl, h⟩ ⟨rfl, rfl, rfl, rfl, rfl, rfl, rfl, trivial⟩ (fun _ hw => hw))
        ·
         rintro _ _ ⟨gb26, rfl, rfl, h⟩
         rw [m96_skew_Play_K6] at h
         rcases gb26 with _ | _
         ·
          replace h := iteF h
          refine W.condF rfl ?_
          refine W.seqJ (fun gs D => ∃ (gb27 : Bool), gs = [(0, pt b1 0), (3, pt b9 0), (4, pt b10 0), (5, pt b1 (0 + x3.Tx.toNat * 6)), (6, pt b12 0), (29, .int .i64 x3.Kind), (40, .bool gb27)] ∧ D = Cls w [] [.obj b12 [.bool true, .int .i64 (-1)] 152, .obj b10 [.bool false, .int .i64 0] 152, .obj b9 [.int .i64 x3.Tx, .int .i64 x3.Kind, .int .i64 x3.Item] 164, .obj b1 (List.flatten [(zr Ttx209.rowv gq19 gl18).flatten, [.int .i64 gx8], (zr svRow gq10 gl9).flatten]) 212, .ss (zs Ttx209.sds gq19 gl18), .ss (zs (svSd 3 1 I) gq10 gl9), .sl gv3 152 2 (gl4.map TDid.row)] ∧ m96_skew_Play_K7 gl18 x3 gl4 gx5 go1 gx8 gl9 gb27 = some r) ?_ ?_
          ·
           refine W.region (L.ite h rfl (Y.eql rfl rfl) (fun c162 h => ?_) (fun c162 h => ?_))
           ·
            refine L.y rfl (Y.assign rfl) ?_
            exact L.nil (E.joinJ ⟨true, rfl, rfl, h⟩ ⟨rfl, rfl, rfl, rfl, rfl, rfl, rfl, trivial⟩ (fun _ hw => hw))
           ·
            refine L.y rfl (Y.assign rfl) ?_
            exact L.nil (E.joinJ ⟨false, rfl, rfl, h⟩ ⟨rfl, rfl, rfl, rfl, rfl, rfl, rfl, trivial⟩ (fun _ hw => hw))
          ·
           rintro _ _ ⟨gb27, rfl, rfl, h⟩
           rw [m96_skew_Play_K7] at h
           rcases gb27 with _ | _
           ·
            replace h := iteF h
            refine W.condF rfl ?_
            refine W.seq (W.region (L.ite h rfl (Y.eql rfl rfl) (fun c13 h => ?_) (fun c13 h => ?_)))
            ·
             refine L.y rfl (Y.assign rfl) ?_
             refine L.nil (E.thenN (W.condT rfl ?_))
             refine W.seq (W.seq (W.region (L.y rfl (Y.move rfl) ?_)))
             refine L.y rfl (Y.fieldP fd164_0 rfl) ?_
             refine L.y rfl (Y.loadP (i := 2) ag3 rfl rfl rfl) ?_
             refine L.callJ (fun v D => ∃ (gb28 : Bool), v = .bool gb28 ∧ D = Cls w [] [.obj b12 [.bool true, .int .i64 (-1)] 152, .obj b10 [.bool false, .int .i64 0] 152, .obj b9 [.int .i64 x3.Tx, .int .i64 x3.Kind, .int .i64 x3.Item] 164, .obj b1 (List.flatten [(zr Ttx209.rowv gq19 gl18).flatten, [.int .i64 gx8], (zr svRow gq10 gl9).flatten]) 212, .ss (zs Ttx209.sds gq19 gl18), .ss (zs (svSd 3 1 I) gq10 gl9), .sl gv3 152 2 (gl4.map TDid.row)] ∧ m96_skew_Play_K8 gl4 gx5 go1 gl18 gx8 gl9 x3 gb28 = some r) rfl en156 rfl Try.func156 rfl rfl rfl ?_ ?_
             ·
              refine W.seq (W.region (L.y rfl (Y.assign rfl) ?_))
              refine L.nil (E.thenN (W.seq (W.region (L.y rfl (Y.move rfl) ?_))))
              refine L.y rfl (Y.move rfl) ?_
              refine L.y rfl (Y.nilCheck rfl) ?_
              refine L.y rfl (Y.fieldP fd212_0 rfl) ?_
              refine L.m (V := fun _ => pt b1 (0 + x3.Tx.toNat * 6)) h rfl (Y.indexAS (l := gl18) Try.underlying210 sz209 rfl rfl) (fun x53 ex53 h => ?_)
              refine L.y rfl (Y.assign rfl) ?_
              refine L.nil (E.thenN (W.seq (W.region (L.y rfl (Y.assign rfl) ?_))))
              refine L.nil (E.thenN (W.seqJ (fun gs D => ∃ (gv32 : Value) (gl33 : (List Int)), gs = [(0, pt b1 0), (1, .int .i64 x3.Tx), (6, gv32)] ∧ D = Cls w [] [.obj b12 [.bool true, .int .i64 (-1)] 152, .obj b10 [.bool false, .int .i64 0] 152, .obj b9 [.int .i64 x3.Tx, .int .i64 x3.Kind, .int .i64 x3.Item] 164, .obj b1 (List.flatten [(zr Ttx209.rowv gq19 gl18).flatten, [.int .i64 gx8], (zr svRow gq10 gl9).flatten]) 212, .ss (zs Ttx209.sds gq19 gl18), .ss (zs (svSd 3 1 I) gq10 gl9), .sl gv32 3 1 (gl33.map I), .sl gv3 152 2 (gl4.map TDid.row)] ∧ m96_skew_Play_K9 x3 gl18 gl4 gx5 go1 gx8 gl9 gl33 = some r) ?_ ?_))
              ·
               refine W.seq (W.region (L.y rfl (Y.move rfl) ?_))
               refine L.nil (E.thenN (W.block (W.nilSl 3 1 ?_)))
               refine W.loopJ (fun m gs D => ∃ (gv62 : Value) (gl63 : (List Int)) (gx64 : Int), gs = [(0, pt b1 0), (1, .int .i64 x3.Tx), (5, pt b1 (0 + x3.Tx.toNat * 6)), (6, gv62), (20, .int .i64 gx64)] ∧ D = Cls w [] [.obj b12 [.bool true, .int .i64 (-1)] 152, .obj b10 [.bool false, .int .i64 0] 152, .obj b9 [.int .i64 x3.Tx, .int .i64 x3.Kind, .int .i64 x3.Item] 164, .obj b1 (List.flatten [(zr Ttx209.rowv gq19 gl18).flatten, [.int .i64 gx8], (zr svRow gq10 gl9).flatten]) 212, .ss (zs Ttx209.sds gq19 gl18), .ss (zs (svSd 3 1 I) gq10 gl9), .sl gv62 3 1 (gl63.map I), .sl gv3 152 2 (gl4.map TDid.row)] ∧ m96_skew_Play_L8 gl18 x3 x53 gl4 gx5 go1 gx8 gl9 m gl63 gx64 = some r) ⟨.slice none 0 0, [], 0, rfl, rfl, h⟩ ⟨rfl, rfl, rfl, rfl, rfl, trivial⟩ (fun _ hw => hw.sel [1, 2, 3, 4, 5, 6, 0, 7] (by decide) rfl) ?_
               rintro m _ _ ⟨gv62, gl63, gx64, rfl, rfl, h⟩
               rcases m with _ | m
               · rw [m96_skew_Play_L8] at h; cases h
               rw [m96_skew_Play_L8] at h
               generalize hg8 : m96_skew_Play_L8 gl18 x3 x53 gl4 gx5 go1 gx8 gl9 m = go8 at h
               rw [m96_skew_Play_L8B] at h
               refine W.seq (W.region (L.ite h rfl (Y.lss rfl rfl) (fun c111 h => ?_) (fun c111 h => ?_)))
               ·
                refine L.nil (E.thenN (W.seq (W.condT rfl ?_)))
                refine W.skip (E.thenN (W.seq (W.block (W.seq (W.region (L.y rfl (Y.move rfl) ?_))))))
                refine L.y rfl (Y.assign rfl) ?_
                refine L.nil (E.thenN (W.seq (W.region (L.y rfl (Y.move rfl) ?_))))
                refine L.y rfl (Y.move rfl) ?_
                refine L.y rfl (Y.nilCheck rfl) ?_
                refine L.y rfl (Y.fieldP fd212_0 rfl) ?_
                refine L.m (V := fun _ => pt b1 (0 + gx64.toNat * 6)) h rfl (Y.indexAS (l := gl18) Try.underlying210 sz209 rfl rfl) (fun x112 ex112 h => ?_)
                refine L.alloc rfl ze227 ?_
                intro b113
                refine L.store (i := 0) sz227 rfl rfl rfl rfl (by simp [Value.oneCell', Value.cells, st, pt]) rfl (Nat.le_of_ble_eq_true rfl) ?_
                refine L.nil (E.thenN (W.seq (W.region (L.y rfl (Y.move rfl) ?_))))
                refine L.y rfl (Y.move rfl) ?_
                refine L.ite h rfl (Y.neq rfl rfl) (fun c114 h => ?_) (fun c114 h => ?_)
                ·
                 refine L.y rfl (Y.move rfl) ?_
                 refine L.take rfl (L.y rfl (Y.loadP (i := 0) ag227 rfl rfl rfl) ?_)
                 refine L.take rfl (L.y rfl (Y.nilCheck rfl) ?_)
                 refine L.take rfl (L.y rfl (Y.fieldP fd209_1 rfl) ?_)
                 refine L.take rfl (L.iteB h rfl (Y.loadZg (si := 0) (ps := 0) (q := 4) (row := Ttx209.rowv) (vs := gq19) (j := 1) (pv := .bool x112.done_) ag4 rfl rfl rfl rfl sl0 (fun _ _ => rfl) (idxA_idx ex112) rfl) (fun c115 h => ?_) (fun c115 h => ?_))
                 ·
                  refine L.y rfl (Y.pickT rfl rfl) ?_
                  refine L.nil (E.thenN (W.condT rfl ?_))
                  refine W.seq (W.seq (W.region (L.y rfl (Y.move rfl) ?_)))
                  refine L.y rfl (Y.loadP (i := 0) ag227 rfl rfl rfl) ?_
                  refine L.callJ (fun v D => ∃ (gb65 : Bool), v = .bool gb65 ∧ D = Cls w [] [.obj b113 [pt b1 (0 + gx64.toNat * 6)] 227, .obj b12 [.bool true, .int .i64 (-1)] 152, .obj b10 [.bool false, .int .i64 0] 152, .obj b9 [.int .i64 x3.Tx, .int .i64 x3.Kind, .int .i64 x3.Item] 164, .obj b1 (List.flatten [(zr Ttx209.rowv gq19 gl18).flatten, [.int .i64 gx8], (zr svRow gq10 gl9).flatten]) 212, .ss (zs Ttx209.sds gq19 gl18), .ss (zs (svSd 3 1 I) gq10 gl9), .sl gv62 3 1 (gl63.map I), .sl gv3 152 2 (gl4.map TDid.row)] ∧ m96_skew_Play_K35 x53 x112 gl4 gx5 go1 gl18 gx8 gl9 x3 gl63 gx64 go8 gb65 = some r) rfl en163 rfl Try.func163 rfl rfl rfl ?_ ?_
                  ·
                   refine W.seq (W.region (L.y rfl (Y.assign rfl) ?_))
                   refine L.nil (E.thenN (W.seq (W.quietC mixed (by kernel_rfl) (fun _ hw => hw.drew) (fun hC => ?_))))
                   refine U.cutJ hC 16 (fun gs => ∃ (gb70 : Bool), gs = [(0, pt b1 (0 + x3.Tx.toNat * 6)), (1, pt b1 (0 + gx64.toNat * 6)), (20, .bool gb70)] ∧ m96_skew_Play_K40 x112 x53 gl4 gx5 go1 gl18 gx8 gl9 x3 gl63 gx64 go8 gb70 = some r) ?_ ?_
                   ·
                    refine U.y rfl (Y.move rfl) ?_
                    refine U.y rfl (Y.nilCheck rfl) ?_
                    refine U.y rfl (Y.fieldP fd209_1 rfl) ?_
                    refine U.iteB h rfl (Y.loadZg (si := 0) (ps := 0) (q := 4) (row := Ttx209.rowv) (vs := gq19) (j := 1) (pv := .bool x53.done_) ag4 rfl rfl rfl rfl sl0 (fun _ _ => rfl) (idxA_idx ex53) rfl) (fun c130 h => ?_) (fun c130 h => ?_)
                    ·
                     refine U.y rfl (Y.not rfl) ?_
                     refine U.y rfl (Y.move rfl) ?_
                     refine U.take rfl (U.y rfl (Y.move rfl) ?_)
                     refine U.take rfl (U.y rfl (Y.nilCheck rfl) ?_)
                     refine U.take rfl (U.y rfl (Y.fieldP fd209_3 rfl) ?_)
                     refine U.take rfl (U.y rfl (Y.loadZg (si := 0) (ps := 0) (q := 4) (row := Ttx209.rowv) (vs := gq19) (j := 3) (pv := .int .i64 x53.at_) ag3 rfl rfl rfl rfl sl0 (fun _ _ => rfl) (idxA_idx ex53) rfl) ?_)
                     refine U.take rfl (U.y rfl (Y.move rfl) ?_)
                     refine U.take rfl (U.y rfl (Y.nilCheck rfl) ?_)
                     refine U.take rfl (U.y rfl (Y.fieldP fd209_2 rfl) ?_)
                     refine U.take rfl (U.y rfl (Y.loadZg (si := 0) (ps := 0) (q := 4) (row := Ttx209.rowv) (vs := gq19) (j := 2) (pv := .int .i64 x112.from_) ag3 rfl rfl rfl rfl sl0 (fun _ _ => rfl) (idxA_idx ex112) rfl) ?_)
                     refine U.take rfl (U.ite h rfl (Y.gtr rfl rfl) (fun c131 h => ?_) (fun c131 h => ?_))
                     ·
                      refine U.y rfl (Y.pickF rfl rfl) ?_
                      exact U.nil (E.joinU ⟨true, rfl, h⟩ ⟨rfl, rfl, rfl, trivial⟩)
                     ·
                      refine U.y rfl (Y.pickF rfl rfl) ?_
                      exact U.nil (E.joinU ⟨false, rfl, h⟩ ⟨rfl, rfl, rfl, trivial⟩)
                    ·
                     refine U.y rfl (Y.not rfl) ?_
                     refine U.y rfl (Y.move rfl) ?_
                     refine U.pass rfl rfl (by nofun) ?_
                     refine U.pass rfl rfl (by nofun) ?_
                     refine U.pass rfl rfl (by nofun) ?_
                     refine U.pass rfl rfl (by nofun) ?_
                     refine U.pass rfl rfl (by nofun) ?_
                     refine U.pass rfl rfl (by nofun) ?_
                     refine U.pass rfl rfl (by nofun) ?_
                     refine U.pass rfl rfl (by nofun) ?_
                     refine U.pass rfl rfl (by nofun) ?_
                     refine U.y rfl (Y.pickT rfl rfl) ?_
                     exact U.nil (E.joinU ⟨true, rfl, h⟩ ⟨rfl, rfl, rfl, trivial⟩)
                   ·
                    rintro _ ⟨gb70, rfl, h⟩
                    rw [m96_skew_Play_K40] at h
                    rcases gb70 with _ | _
                    ·
                     replace h := iteF h
                     refine U.y rfl (Y.move rfl) ?_
                     refine U.pass rfl rfl (by nofun) ?_
                     refine U.pass rfl rfl (by nofun) ?_
                     refine U.pass rfl rfl (by nofun) ?_
                     refine U.pass rfl rfl (by nofun) ?_
                     refine U.pass rfl rfl (by nofun) ?_
                     refine U.pass rfl rfl (by nofun) ?_
                     refine U.pass rfl rfl (by nofun) ?_
                     refine U.pass rfl rfl (by nofun) ?_
                     refine U.pass rfl rfl (by nofun) ?_
                     refine U.pass rfl rfl (by nofun) ?_
                     refine U.pass rfl rfl (by nofun) ?_
                     refine U.pass rfl rfl (by nofun) ?_
                     refine U.pass rfl rfl (by nofun) ?_
                     refine U.pass rfl rfl (by nofun) ?_
                     refine U.pass rfl rfl (by nofun) ?_
                     refine U.pass rfl rfl (by nofun) ?_
                     refine U.y rfl (Y.pickF rfl rfl) ?_
                     refine U.y rfl (Y.assign rfl) ?_
                     refine U.nil (E.thenN (W.ret (E.ret1 rfl rfl (fun w1 hw => ?_))))
                     exact ⟨_, _, rfl, ⟨false, rfl, rfl, h⟩, hw⟩
                    ·
                     replace h := iteT h
                     refine U.y rfl (Y.move rfl) ?_
                     refine U.take rfl (U.y rfl (Y.move rfl) ?_)
                     refine U.take rfl (U.y rfl (Y.nilCheck rfl) ?_)
                     refine U.take rfl (U.y rfl (Y.fieldP fd209_1 rfl) ?_)
                     refine U.take rfl (U.iteB h rfl (Y.loadZg (si := 0) (ps := 0) (q := 4) (row := Ttx209.rowv) (vs := gq19) (j := 1) (pv := .bool x112.done_) ag4 rfl rfl rfl rfl sl0 (fun _ _ => rfl) (idxA_idx ex112) rfl) (fun c129 h => ?_) (fun c129 h => ?_))
                     ·
                      refine U.take rfl (U.y rfl (Y.not rfl) ?_)
                      refine U.take rfl (U.y rfl (Y.move rfl) ?_)
                      refine U.take rfl (U.y rfl (Y.move rfl) ?_)
                      refine U.take rfl (U.y rfl (Y.nilCheck rfl) ?_)
                      refine U.take rfl (U.y rfl (Y.fieldP fd209_3 rfl) ?_)
                      refine U.take rfl (U.y rfl (Y.loadZg (si := 0) (ps := 0) (q := 4) (row := Ttx209.rowv) (vs := gq19) (j := 3) (pv := .int .i64 x112.at_) ag3 rfl rfl rfl rfl sl0 (fun _ _ => rfl) (idxA_idx ex112) rfl) ?_)
                      refine U.take rfl (U.y rfl (Y.move rfl) ?_)
                      refine U.take rfl (U.y rfl (Y.nilCheck rfl) ?_)
                      refine U.take rfl (U.y rfl (Y.fieldP fd209_2 rfl) ?_)
                      refine U.take rfl (U.y rfl (Y.loadZg (si := 0) (ps := 0) (q := 4) (row := Ttx209.rowv) (vs := gq19) (j := 2) (pv := .int .i64 x53.from_) ag3 rfl rfl rfl rfl sl0 (fun _ _ => rfl) (idxA_idx ex53) rfl) ?_)
                      refine U.take rfl (U.y rfl (Y.gtr rfl rfl) ?_)
                      refine U.take rfl (U.y rfl (Y.pickF rfl rfl) ?_)
                      refine U.y rfl (Y.pickT rfl rfl) ?_
                      refine U.y rfl (Y.assign rfl) ?_
                      refine U.nil (E.thenN (W.ret (E.ret1 rfl rfl (fun w1 hw => ?_))))
                      exact ⟨_, _, rfl, ⟨decide (x53.from_ < x112.at_), rfl, rfl, h⟩, hw⟩
                     ·
                      refine U.take rfl (U.y rfl (Y.not rfl) ?_)
                      refine U.take rfl (U.y rfl (Y.move rfl) ?_)
                      refine U.pass rfl rfl (by nofun) ?_
                      refine U.pass rfl rfl (by nofun) ?_
                      refine U.pass rfl rfl (by nofun) ?_
                      refine U.pass rfl rfl (by nofun) ?_
                      refine U.pass rfl rfl (by nofun) ?_
                      refine U.pass rfl rfl (by nofun) ?_
                      refine U.pass rfl rfl (by nofun) ?_
                      refine U.pass rfl rfl (by nofun) ?_
                      refine U.pass rfl rfl (by nofun) ?_
                      refine U.take rfl (U.y rfl (Y.pickT rfl rfl) ?_)
                      refine U.y rfl (Y.pickT rfl rfl) ?_
                      refine U.y rfl (Y.assign rfl) ?_
                      refine U.nil (E.thenN (W.ret (E.ret1 rfl rfl (fun w1 hw => ?_))))
                      exact ⟨_, _, rfl, ⟨true, rfl, rfl, h⟩, hw⟩
                  ·
                   rintro _ _ ⟨gb65, rfl, rfl, h⟩
                   rw [m96_skew_Play_K35] at h
                   rcases gb65 with _ | _
                   ·
                    replace h := iteF h
                    refine L.y rfl (Y.move rfl) ?_
                    refine L.pass rfl rfl (by nofun) ?_
                    refine L.pass rfl rfl (by nofun) ?_
                    refine L.pass rfl rfl (by nofun) ?_
                    refine L.pass rfl rfl (by nofun) ?_
                    refine L.pass rfl rfl (by nofun) ?_
                    refine L.pass rfl rfl (by nofun) ?_
                    refine L.y rfl (Y.pickF rfl rfl) ?_
                    refine L.nil (E.thenN (W.condF rfl ?_))
                    refine W.skip (E.thenN (W.region (L.y rfl (Y.move rfl) ?_)))
                    refine L.y rfl (Y.move rfl) ?_
                    refine L.litOne rfl Try.underlying24 el3 rfl rfl ?_
                    intro b116
                    refine L.appM (i := 8) (g := I) (l := gl63) (more := [gx64]) h rfl Try.underlying24 el3 rfl rfl rfl (fun w hw => As.at_ (hw.get (i := 0) rfl)) (plain_ints _) rfl ?_
                    intro v117 l118 el118 h
                    refine L.y rfl (Y.assign rfl) ?_
                    refine L.nil (E.blockN (E.thenN (W.region (L.m (V := fun x119 => .int .i64 x119) h rfl (Y.addM rfl rfl) (fun x119 ex119 h => ?_)))))
                    refine L.y rfl (Y.move rfl) ?_
                    exact L.nil (E.againJ ⟨v117, l118, x119, rfl, rfl, by rw [hg8]; exact h⟩ (Nat.lt_succ_self _) ⟨rfl, rfl, rfl, rfl, rfl, trivial⟩ (fun _ hw => hw.sel [3, 4, 5, 6, 7, 8, 0, 9] (by decide) rfl))
                   ·
                    replace h := iteT h
                    refine L.y rfl (Y.move rfl) ?_
                    refine L.take rfl (L.y rfl (Y.move rfl) ?_)
                    refine L.take rfl (L.y rfl (Y.nilCheck rfl) ?_)
                    refine L.take rfl (L.y rfl (Y.fieldP fd209_5 rfl) ?_)
                    refine L.take rfl (L.y rfl (Y.loadZg (si := 0) (ps := 0) (q := 4) (row := Ttx209.rowv) (vs := gq19) (j := 5) (pv := gv (gq19 x3.Tx.toNat) 1) ag24 rfl rfl rfl rfl sl0 (fun _ _ => rfl) (idxA_idx ex53) rfl) ?_)
                    refine L.take rfl (L.y rfl (Y.func rfl) ?_)
                    refine L.take rfl (L.callJ (fun v D => ∃ (gb66 : Bool), v = .bool gb66 ∧ D = Cls w [] [.obj b12 [.bool true, .int .i64 (-1)] 152, .obj b10 [.bool false, .int .i64 0] 152, .obj b9 [.int .i64 x3.Tx, .int .i64 x3.Kind, .int .i64 x3.Item] 164, .obj b1 (List.flatten [(zr Ttx209.rowv gq19 gl18).flatten, [.int .i64 gx8], (zr svRow gq10 gl9).flatten]) 212, .ss (zs Ttx209.sds gq19 gl18), .ss (zs (svSd 3 1 I) gq10 gl9), .sl gv62 3 1 (gl63.map I), .sl gv3 152 2 (gl4.map TDid.row)] ∧ m96_skew_Play_K36 gl4 gx5 go1 gl18 gx8 gl9 x3 gl63 gx64 go8 gb66 = some r) rfl en78 rfl Try.func78 rfl rfl rfl ?_ ?_)
                    ·
                     refine W.seq (W.region (L.y rfl (Y.assign rfl) ?_))
                     refine L.nil (E.thenN (W.seq (W.region (L.y rfl (Y.move rfl) ?_))))
                     refine L.y rfl (Y.move rfl) ?_
                     refine L.callJ (fun v D => ∃ (gx67 : Int), v = .int .i64 gx67 ∧ D = Cls w [] [.obj b12 [.bool true, .int .i64 (-1)] 152, .obj b10 [.bool false, .int .i64 0] 152, .obj b9 [.int .i64 x3.Tx, .int .i64 x3.Kind, .int .i64 x3.Item] 164, .obj b1 (List.flatten [(zr Ttx209.rowv gq19 gl18).flatten, [.int .i64 gx8], (zr svRow gq10 gl9).flatten]) 212, .ss (zs Ttx209.sds gq19 gl18), .ss (zs (svSd 3 1 I) gq10 gl9), .sl gv3 152 2 (gl4.map TDid.row), .sl gv62 3 1 (gl63.map I)] ∧ m96_skew_Play_K37 gl4 gx5 go1 gl18 gx8 gl9 x3 gl63 gx64 go8 gx67 = some r) rfl en133 rfl Try.func133 rfl rfl rfl ?_ ?_
                     ·
                      refine W.seq (W.region (L.y rfl (Y.assign rfl) ?_))
                      refine L.nil (E.thenN (W.seqJ (fun gs D => gs = [] ∧ D = Cls w [] [.obj b12 [.bool true, .int .i64 (-1)] 152, .obj b10 [.bool false, .int .i64 0] 152, .obj b9 [.int .i64 x3.Tx, .int .i64 x3.Kind, .int .i64 x3.Item] 164, .obj b1 (List.flatten [(zr Ttx209.rowv gq19 gl18).flatten, [.int .i64 gx8], (zr svRow gq10 gl9).flatten]) 212, .ss (zs Ttx209.sds gq19 gl18), .ss (zs (svSd 3 1 I) gq10 gl9), .sl gv3 152 2 (gl4.map TDid.row), .sl gv62 3 1 (gl63.map I)] ∧ m96_skew_Play_K38 gl4 gx5 go1 gl18 gx8 gl9 x3 gl63 gx64 go8 = some r) ?_ ?_))
                      ·
                       refine W.seq (W.region (L.y rfl (Y.move rfl) ?_))
                       refine L.y rfl (Y.lenM (g := I) (l := x53.writes_) Try.underlying24 rfl (fun w hw => As.atZ (sds := Ttx209.sds) (vs := gq19) (j := 1) (c := 2) (hw.get (i := 5) rfl) (fun _ _ => rfl) (idxA_idx ex53) rfl)) ?_
                       refine L.y rfl (Y.move rfl) ?_
                       refine L.nil (E.thenN (W.block (W.loopJ (fun m gs D => ∃ (gx68 : Int), gs = [(0, gv (gq19 x3.Tx.toNat) 1), (1, .func (.func 164) #[] #[pt b113 0]), (7, .int .i64 (x53.writes_.length : Int)), (8, .int .i64 gx68)] ∧ D = Cls w [] [.obj b113 [pt b1 (0 + gx64.toNat * 6)] 227, .obj b12 [.bool true, .int .i64 (-1)] 152, .obj b10 [.bool false, .int .i64 0] 152, .obj b9 [.int .i64 x3.Tx, .int .i64 x3.Kind, .int .i64 x3.Item] 164, .obj b1 (List.flatten [(zr Ttx209.rowv gq19 gl18).flatten, [.int .i64 gx8], (zr svRow gq10 gl9).flatten]) 212, .ss (zs Ttx209.sds gq19 gl18), .ss (zs (svSd 3 1 I) gq10 gl9), .sl gv3 152 2 (gl4.map TDid.row), .sl gv62 3 1 (gl63.map I)] ∧ m96_skew_Play_L9 x53 x112 gl4 gx5 go1 gl18 gx8 gl9 x3 gl63 gx64 go8 m gx68 = some r) ⟨0, rfl, rfl, h⟩ ⟨rfl, rfl, rfl, rfl, trivial⟩ (fun _ hw => hw.sel [0, 1, 2, 3, 4, 5, 6, 8, 7] (by decide) rfl) ?_)))
                       rintro m _ _ ⟨gx68, rfl, rfl, h⟩
                       rcases m with _ | m
                       · rw [m96_skew_Play_L9] at h; cases h
                       rw [m96_skew_Play_L9] at h
                       generalize hg9 : m96_skew_Play_L9 x53 x112 gl4 gx5 go1 gl18 gx8 gl9 x3 gl63 gx64 go8 m = go9 at h
                       rw [m96_skew_Play_L9B] at h
                       refine W.seq (W.region (L.ite h rfl (Y.lss rfl rfl) (fun c124 h => ?_) (fun c124 h => ?_)))
                       ·
                        refine L.nil (E.thenN (W.seq (W.condT rfl ?_)))
                        refine W.skip (E.thenN (W.seq (W.block (W.seq (W.region (L.y rfl (Y.move rfl) ?_))))))
                        refine L.y rfl (Y.assign rfl) ?_
                        refine L.nil (E.thenN (W.seq (W.region (L.y rfl (Y.move rfl) ?_))))
                        refine L.y rfl (Y.move rfl) ?_
                        refine L.y rfl (Y.move rfl) ?_
                        refine L.m (V := fun _ => el (gv (gq19 x3.Tx.toNat) 1) (gx68.toNat * 1)) h rfl (Y.indexM (g := I) (l := x53.writes_) Try.underlying24 sz3 rfl rfl (fun w hw => As.atZ (sds := Ttx209.sds) (vs := gq19) (j := 1) (c := 2) (hw.get (i := 5) rfl) (fun _ _ => rfl) (idxA_idx ex53) rfl)) (fun x125 ex125 h => ?_)
                        refine L.y rfl (Y.loadE1 (u := .int .i64 x125) ag3 rfl (fun w hw => As.atZ (sds := Ttx209.sds) (vs := gq19) (j := 1) (c := 2) (hw.get (i := 5) rfl) (fun _ _ => rfl) (idxA_idx ex53) rfl) (idx_map ex125)) ?_
                        refine L.callVJ (fun v D => ∃ (gb69 : Bool), v = .bool gb69 ∧ D = Cls w [] [.obj b113 [pt b1 (0 + gx64.toNat * 6)] 227, .obj b12 [.bool true, .int .i64 (-1)] 152, .obj b10 [.bool false, .int .i64 0] 152, .obj b9 [.int .i64 x3.Tx, .int .i64 x3.Kind, .int .i64 x3.Item] 164, .obj b1 (List.flatten [(zr Ttx209.rowv gq19 gl18).flatten, [.int .i64 gx8], (zr svRow gq10 gl9).flatten]) 212, .ss (zs Ttx209.sds gq19 gl18), .ss (zs (svSd 3 1 I) gq10 gl9), .sl gv3 152 2 (gl4.map TDid.row), .sl gv62 3 1 (gl63.map I)] ∧ m96_skew_Play_K39 gl4 gx5 go1 gl18 gx8 gl9 x3 gl63 gx64 go8 gx68 go9 gb69 = some r) rfl en164 rfl rfl Try.func164 rfl rfl rfl ?_ ?_
                        ·
                         refine W.seq (W.region (L.y rfl (Y.assign rfl) ?_))
                         refine L.nil (E.thenN (W.seq (W.region (L.y rfl (Y.loadP (i := 0) ag227 rfl rfl rfl) ?_))))
                         refine L.y rfl (Y.nilCheck rfl) ?_
                         refine L.y rfl (Y.fieldP fd209_5 rfl) ?_
                         refine L.y rfl (Y.loadZg (si := 0) (ps := 0) (q := 4) (row := Ttx209.rowv) (vs := gq19) (j := 5) (pv := gv (gq19 gx64.toNat) 1) ag24 rfl rfl rfl rfl sl0 (fun _ _ => rfl) (idxA_idx ex112) rfl) ?_
                         refine L.y rfl (Y.move rfl) ?_
                         obtain ⟨b127, e128, h⟩ := bind1S h
                         refine L.y rfl (Y.does en134 rfl (fun w' hw => (w134_slices_Contains_int x112.writes_ x125 (gv (gq19 gx64.toNat) 1) w' _ e128 (As.atZ (sds := Ttx209.sds) (vs := gq19) (j := 1) (c := 2) (hw.get (i := 5) rfl) (fun _ _ => rfl) (idxA_idx ex112) rfl)).mono (fun _ _ h => h.1))) ?_
                         refine L.y rfl (Y.assign rfl) ?_
                         refine L.nil (E.thenN (W.ret (E.ret1 rfl rfl (fun w1 hw => ?_))))
                         exact ⟨_, _, rfl, ⟨b127, rfl, rfl, h⟩, hw⟩
                        ·
                         rintro _ _ ⟨gb69, rfl, rfl, h⟩
                         rw [m96_skew_Play_K39] at h
                         rcases gb69 with _ | _
                         ·
                          replace h := iteF h
                          refine L.nil (E.thenN (W.condF rfl ?_))
                          refine W.skip (E.blockN (E.thenN (W.region (L.m (V := fun x126 => .int .i64 x126) h rfl (Y.addM rfl rfl) (fun x126 ex126 h => ?_)))))
                          refine L.y rfl (Y.move rfl) ?_
                          exact L.nil (E.againJ ⟨x126, rfl, rfl, by rw [hg9]; exact h⟩ (Nat.lt_succ_self _) ⟨rfl, rfl, rfl, rfl, trivial⟩ (fun _ hw => hw))
                         ·
                          replace h := iteT h
                          refine L.nil (E.thenN (W.condT rfl ?_))
                          refine W.seq (W.region (L.y rfl (Y.move rfl) ?_))
                          refine L.y rfl (Y.assign rfl) ?_
                          refine L.nil (E.thenN (W.ret (E.blockR (E.thenR (E.KLR (E.blockR (E.KSR (E.ret1 rfl rfl (fun w1 hw => ?_)))))))))
                          exact ⟨_, _, rfl, ⟨gx68, rfl, rfl, h⟩, hw.sel [1, 2, 3, 4, 5, 6, 7, 8] (by decide) rfl⟩
                       ·
                        refine L.nil (E.thenN (W.seq (W.condF rfl ?_)))
                        exact W.exit (E.thenX (E.KLX (E.blockX (E.joinJ ⟨rfl, rfl, h⟩ trivial (fun _ hw => hw.sel [1, 2, 3, 4, 5, 6, 7, 8] (by decide) rfl)))))
                      ·
                       rintro _ _ ⟨rfl, rfl, h⟩
                       rw [m96_skew_Play_K38] at h
                       refine W.seq (W.region (L.y rfl (Y.assign rfl) ?_))
                       refine L.nil (E.thenN (W.ret (E.ret1 rfl rfl (fun w1 hw => ?_))))
                       exact ⟨_, _, rfl, ⟨(-1), rfl, rfl, h⟩, hw⟩
                     ·
                      rintro _ _ ⟨gx67, rfl, rfl, h⟩
                      rw [m96_skew_Play_K37] at h
                      refine L.y rfl (Y.geq rfl rfl) ?_
                      refine L.y rfl (Y.assign rfl) ?_
                      refine L.nil (E.thenN (W.ret (E.ret1 rfl rfl (fun w1 hw => ?_))))
                      exact ⟨_, _, rfl, ⟨decide (0 ≤ gx67), rfl, rfl, h⟩, hw.sel [0, 1, 2, 3, 4, 5, 7, 6] (by decide) rfl⟩
                    ·
                     rintro _ _ ⟨gb66, rfl, rfl, h⟩
                     rw [m96_skew_Play_K36] at h
                     rcases gb66 with _ | _
                     ·
                      replace h := iteF h
                      refine L.y rfl (Y.pickT rfl rfl) ?_
                      refine L.nil (E.thenN (W.condF rfl ?_))
                      refine W.skip (E.thenN (W.region (L.y rfl (Y.move rfl) ?_)))
                      refine L.y rfl (Y.move rfl) ?_
                      refine L.litOne rfl Try.underlying24 el3 rfl rfl ?_
                      intro b120
                      refine L.appM (i := 7) (g := I) (l := gl63) (more := [gx64]) h rfl Try.underlying24 el3 rfl rfl rfl (fun w hw => As.at_ (hw.get (i := 0) rfl)) (plain_ints _) rfl ?_
                      intro v121 l122 el122 h
                      refine L.y rfl (Y.assign rfl) ?_
                      refine L.nil (E.blockN (E.thenN (W.region (L.m (V := fun x123 => .int .i64 x123) h rfl (Y.addM rfl rfl) (fun x123 ex123 h => ?_)))))
                      refine L.y rfl (Y.move rfl) ?_
                      exact L.nil (E.againJ ⟨v121, l122, x123, rfl, rfl, by rw [hg8]; exact h⟩ (Nat.lt_succ_self _) ⟨rfl, rfl, rfl, rfl, rfl, trivial⟩ (fun _ hw => hw.sel [2, 3, 4, 5, 6, 7, 0, 8] (by decide) rfl))
                     ·
                      replace h := iteT h
                      refine L.y rfl (Y.pickT rfl rfl) ?_
                      refine L.nil (E.thenN (W.condT rfl ?_))
                      refine W.seq (W.region (L.y rfl (Y.assign rfl) ?_))
                      refine L.nil (E.thenN (W.ret (E.thenR (E.blockR (E.thenR (E.KLR (E.blockR (E.KSR (E.ret1 rfl rfl (fun w1 hw => ?_))))))))))
                      exact ⟨_, _, rfl, ⟨true, rfl, rfl, h⟩, hw.sel [0, 1, 2, 3, 4, 5, 7] (by decide) rfl⟩
                 ·
                  refine L.y rfl (Y.pickT rfl rfl) ?_
                  refine L.nil (E.thenN (W.condF rfl ?_))
                  refine W.skip (E.blockN (E.thenN (W.region (L.m (V := fun x132 => .int .i64 x132) h rfl (Y.addM rfl rfl) (fun x132 ex132 h => ?_)))))
                  refine L.y rfl (Y.move rfl) ?_
                  exact L.nil (E.againJ ⟨gv62, gl63, x132, rfl, rfl, by rw [hg8]; exact h⟩ (Nat.lt_succ_self _) ⟨rfl, rfl, rfl, rfl, rfl, trivial⟩ (fun _ hw => hw.sel [1, 2, 3, 4, 5, 6, 7, 8] (by decide) rfl))
                ·
                 refine L.y rfl (Y.move rfl) ?_
                 refine L.pass rfl rfl (by nofun) ?_
                 refine L.pass rfl rfl (by nofun) ?_
                 refine L.pass rfl rfl (by nofun) ?_
                 refine L.pass rfl rfl (by nofun) ?_
                 refine L.y rfl (Y.pickF rfl rfl) ?_
                 refine L.nil (E.thenN (W.condF rfl ?_))
                 refine W.skip (E.blockN (E.thenN (W.region (L.m (V := fun x133 => .int .i64 x133) h rfl (Y.addM rfl rfl) (fun x133 ex133 h => ?_)))))
                 refine L.y rfl (Y.move rfl) ?_
                 exact L.nil (E.againJ ⟨gv62, gl63, x133, rfl, rfl, by rw [hg8]; exact h⟩ (Nat.lt_succ_self _) ⟨rfl, rfl, rfl, rfl, rfl, trivial⟩ (fun _ hw => hw.sel [1, 2, 3, 4, 5, 6, 7, 8] (by decide) rfl))
               ·
                refine L.nil (E.thenN (W.seq (W.condF rfl ?_)))
                exact W.exit (E.thenX (E.KLX (E.blockX (E.joinJ ⟨gv62, gl63, rfl, rfl, h⟩ ⟨rfl, rfl, rfl, trivial⟩ (fun _ hw => hw)))))
              ·
               rintro _ _ ⟨gv32, gl33, rfl, rfl, h⟩
               rw [m96_skew_Play_K9] at h
               refine W.seq (W.region (L.y rfl (Y.move rfl) ?_))
               refine L.y rfl (Y.move rfl) ?_
               refine L.litOne rfl Try.underlying24 el3 rfl rfl ?_
               intro b54
               refine L.appM (i := 7) (g := I) (l := gl33) (more := [x3.Tx]) h rfl Try.underlying24 el3 rfl rfl rfl (fun w hw => As.at_ (hw.get (i := 0) rfl)) (plain_ints _) rfl ?_
               intro v55 l56 el56 h
               refine L.y rfl (Y.assign rfl) ?_
               refine L.nil (E.thenN (W.seqJ (fun gs D => gs = [] ∧ D = Cls w [] [.obj b12 [.bool true, .int .i64 (-1)] 152, .obj b10 [.bool false, .int .i64 0] 152, .obj b9 [.int .i64 x3.Tx, .int .i64 x3.Kind, .int .i64 x3.Item] 164, .obj b1 (List.flatten [(zr Ttx209.rowv gq19 gl18).flatten, [.int .i64 gx8], (zr svRow gq10 gl9).flatten]) 212, .ss (zs Ttx209.sds gq19 gl18), .ss (zs (svSd 3 1 I) gq10 gl9), .sl gv3 152 2 (gl4.map TDid.row)] ∧ m96_skew_Play_K10 gl4 gx5 go1 gl18 gx8 gl9 x3 = some r) ?_ ?_))
               ·
                refine W.seq (W.region (L.y rfl (Y.move rfl) ?_))
                refine L.y rfl (Y.lenM (g := I) (l := l56) Try.underlying24 rfl (fun w hw => As.at_ (hw.get (i := 0) rfl))) ?_
                refine L.y rfl (Y.move rfl) ?_
                refine L.nil (E.thenN (W.block (W.loopJ (fun m gs D => ∃ (gx34 : Int), gs = [(0, pt b1 0), (6, v55), (57, v55), (58, .int .i64 (l56.length : Int)), (59, .int .i64 gx34)] ∧ D = Cls w [] [.obj b12 [.bool true, .int .i64 (-1)] 152, .obj b10 [.bool false, .int .i64 0] 152, .obj b9 [.int .i64 x3.Tx, .int .i64 x3.Kind, .int .i64 x3.Item] 164, .obj b1 (List.flatten [(zr Ttx209.rowv gq19 gl18).flatten, [.int .i64 gx8], (zr svRow gq10 gl9).flatten]) 212, .ss (zs Ttx209.sds gq19 gl18), .ss (zs (svSd 3 1 I) gq10 gl9), .sl v55 3 1 (l56.map I), .sl gv3 152 2 (gl4.map TDid.row)] ∧ m96_skew_Play_L3 l56 gl18 gl4 gx5 go1 gx8 gl9 x3 m gx34 = some r) ⟨0, rfl, rfl, h⟩ ⟨rfl, rfl, rfl, rfl, rfl, trivial⟩ (fun _ hw => hw.sel [2, 3, 4, 5, 6, 7, 0, 8] (by decide) rfl) ?_)))
                rintro m _ _ ⟨gx34, rfl, rfl, h⟩
                rcases m with _ | m
                · rw [m96_skew_Play_L3] at h; cases h
                rw [m96_skew_Play_L3] at h
                generalize hg3 : m96_skew_Play_L3 l56 gl18 gl4 gx5 go1 gx8 gl9 x3 m = go3 at h
                rw [m96_skew_Play_L3B] at h
                refine W.seq (W.region (L.ite h rfl (Y.lss rfl rfl) (fun c57 h => ?_) (fun c57 h => ?_)))
                ·
                 refine L.nil (E.thenN (W.seq (W.condT rfl ?_)))
                 refine W.skip (E.thenN (W.seqJ (fun gs D => gs = [(0, pt b1 0), (6, v55), (57, v55), (58, .int .i64 (l56.length : Int)), (59, .int .i64 gx34)] ∧ D = Cls w [] [.obj b12 [.bool true, .int .i64 (-1)] 152, .obj b10 [.bool false, .int .i64 0] 152, .obj b9 [.int .i64 x3.Tx, .int .i64 x3.Kind, .int .i64 x3.Item] 164, .obj b1 (List.flatten [(zr Ttx209.rowv gq19 gl18).flatten, [.int .i64 gx8], (zr svRow gq10 gl9).flatten]) 212, .ss (zs Ttx209.sds gq19 gl18), .ss (zs (svSd 3 1 I) gq10 gl9), .sl v55 3 1 (l56.map I), .sl gv3 152 2 (gl4.map TDid.row)] ∧ m96_skew_Play_K11 gx34 go3 = some r) ?_ ?_))
                 ·
                  refine W.block (W.seq (W.region (L.m (V := fun _ => el v55 (gx34.toNat * 1)) h rfl (Y.indexM (g := I) (l := l56) Try.underlying24 sz3 rfl rfl (fun w hw => As.at_ (hw.get (i := 6) rfl))) (fun x59 ex59 h => ?_))))
                  refine L.y rfl (Y.loadE1 (u := .int .i64 x59) ag3 rfl (fun w hw => As.at_ (hw.get (i := 6) rfl)) (idx_map ex59)) ?_
                  refine L.y rfl (Y.assign rfl) ?_
                  refine L.nil (E.thenN (W.seq (W.region (L.y rfl (Y.assign rfl) ?_))))
                  refine L.y rfl (Y.assign rfl) ?_
                  refine L.nil (E.thenN (W.seqJ (fun gs D => ∃ (gb35 : Bool) (gb36 : Bool), gs = [(0, pt b1 0), (6, v55), (11, .bool gb35), (12, .bool gb36), (57, v55), (58, .int .i64 (l56.length : Int)), (59, .int .i64 gx34)] ∧ D = Cls w [] [.obj b12 [.bool true, .int .i64 (-1)] 152, .obj b10 [.bool false, .int .i64 0] 152, .obj b9 [.int .i64 x3.Tx, .int .i64 x3.Kind, .int .i64 x3.Item] 164, .obj b1 (List.flatten [(zr Ttx209.rowv gq19 gl18).flatten, [.int .i64 gx8], (zr svRow gq10 gl9).flatten]) 212, .ss (zs Ttx209.sds gq19 gl18), .ss (zs (svSd 3 1 I) gq10 gl9), .sl v55 3 1 (l56.map I), .sl gv3 152 2 (gl4.map TDid.row)] ∧ m96_skew_Play_K12 gl4 gx5 go1 gl18 gx8 gl9 x3 gx34 go3 gb35 gb36 = some r) ?_ ?_))
                  ·
                   refine W.seq (W.region (L.y rfl (Y.move rfl) ?_))
                   refine L.y rfl (Y.lenM (g := I) (l := l56) Try.underlying24 rfl (fun w hw => As.at_ (hw.get (i := 6) rfl))) ?_
                   refine L.y rfl (Y.move rfl) ?_
                   refine L.nil (E.thenN (W.block (W.loopJ (fun m gs D => ∃ (gb37 : Bool) (gb38 : Bool) (gx39 : Int), gs = [(0, pt b1 0), (6, v55), (10, .int .i64 x59), (11, .bool gb37), (12, .bool gb38), (57, v55), (58, .int .i64 (l56.length : Int)), (59, .int .i64 gx34), (63, v55), (64, .int .i64 (l56.length : Int)), (65, .int .i64 gx39)] ∧ D = Cls w [] [.obj b12 [.bool true, .int .i64 (-1)] 152, .obj b10 [.bool false, .int .i64 0] 152, .obj b9 [.int .i64 x3.Tx, .int .i64 x3.Kind, .int .i64 x3.Item] 164, .obj b1 (List.flatten [(zr Ttx209.rowv gq19 gl18).flatten, [.int .i64 gx8], (zr svRow gq10 gl9).flatten]) 212, .ss (zs Ttx209.sds gq19 gl18), .ss (zs (svSd 3 1 I) gq10 gl9), .sl v55 3 1 (l56.map I), .sl gv3 152 2 (gl4.map TDid.row)] ∧ m96_skew_Play_L4 l56 x59 gl18 gl4 gx5 go1 gx8 gl9 x3 gx34 go3 m gb37 gb38 gx39 = some r) ⟨false, false, 0, rfl, rfl, h⟩ ⟨rfl, rfl, rfl, rfl, rfl, rfl, rfl, rfl, rfl, rfl, rfl, trivial⟩ (fun _ hw => hw) ?_)))
                   rintro m _ _ ⟨gb37, gb38, gx39, rfl, rfl, h⟩
                   rcases m with _ | m
                   · rw [m96_skew_Play_L4] at h; cases h
                   rw [m96_skew_Play_L4] at h
                   generalize hg4 : m96_skew_Play_L4 l56 x59 gl18 gl4 gx5 go1 gx8 gl9 x3 gx34 go3 m = go4 at h
                   rw [m96_skew_Play_L4B] at h
                   refine W.seq (W.region (L.ite h rfl (Y.lss rfl rfl) (fun c62 h => ?_) (fun c62 h => ?_)))
                   ·
                    refine L.nil (E.thenN (W.seq (W.condT rfl ?_)))
                    refine W.skip (E.thenN (W.seq (W.block (W.seq (W.region (L.m (V := fun _ => el v55 (gx39.toNat * 1)) h rfl (Y.indexM (g := I) (l := l56) Try.underlying24 sz3 rfl rfl (fun w hw => As.at_ (hw.get (i := 6) rfl))) (fun x63 ex63 h => ?_)))))))
                    refine L.y rfl (Y.loadE1 (u := .int .i64 x63) ag3 rfl (fun w hw => As.at_ (hw.get (i := 6) rfl)) (idx_map ex63)) ?_
                    refine L.y rfl (Y.assign rfl) ?_
                    refine L.nil (E.thenN (W.seqJ (fun gs D => ∃ (gb40 : Bool), gs = [(0, pt b1 0), (6, v55), (10, .int .i64 x59), (11, .bool gb40), (12, .bool gb38), (14, .int .i64 x63), (57, v55), (58, .int .i64 (l56.length : Int)), (59, .int .i64 gx34), (63, v55), (64, .int .i64 (l56.length : Int)), (65, .int .i64 gx39)] ∧ D = Cls w [] [.obj b12 [.bool true, .int .i64 (-1)] 152, .obj b10 [.bool false, .int .i64 0] 152, .obj b9 [.int .i64 x3.Tx, .int .i64 x3.Kind, .int .i64 x3.Item] 164, .obj b1 (List.flatten [(zr Ttx209.rowv gq19 gl18).flatten, [.int .i64 gx8], (zr svRow gq10 gl9).flatten]) 212, .ss (zs Ttx209.sds gq19 gl18), .ss (zs (svSd 3 1 I) gq10 gl9), .sl v55 3 1 (l56.map I), .sl gv3 152 2 (gl4.map TDid.row)] ∧ m96_skew_Play_K13 gb38 gx39 go4 x63 x59 gl18 gb40 = some r) ?_ ?_))
                    ·
                     refine W.drawn2 (k := 20) (stC [] [] (Cls w [] [.obj b12 [.bool true, .int .i64 (-1)] 152, .obj b10 [.bool false, .int .i64 0] 152, .obj b9 [.int .i64 x3.Tx, .int .i64 x3.Kind, .int .i64 x3.Item] 164, .obj b1 (List.flatten [(zr Ttx209.rowv gq19 gl18).flatten, [.int .i64 gx8], (zr svRow gq10 gl9).flatten]) 212, .ss (zs Ttx209.sds gq19 gl18), .ss (zs (svSd 3 1 I) gq10 gl9), .sl v55 3 1 (l56.map I), .sl gv3 152 2 (gl4.map TDid.row)])) rfl mixed (fun _ hw => hw.drew) (Sc.atD (fun _ hw => hw)) ?_
                     refine V2.iteB (i := 0) h (Nx2.of (Z := Cls w [] [.obj b12 [.bool true, .int .i64 (-1)] 152, .obj b10 [.bool false, .int .i64 0] 152, .obj b9 [.int .i64 x3.Tx, .int .i64 x3.Kind, .int .i64 x3.Item] 164, .obj b1 (List.flatten [(zr Ttx209.rowv gq19 gl18).flatten, [.int .i64 gx8], (zr svRow gq10 gl9).flatten]) 212, .ss (zs Ttx209.sds gq19 gl18), .ss (zs (svSd 3 1 I) gq10 gl9), .sl v55 3 1 (l56.map I), .sl gv3 152 2 (gl4.map TDid.row)]) [] (by kernel_rfl) rfl (Zc.fin (fun _ hw => hw))) rfl rfl rfl (Y.move rfl) (fun c98 h => ?_) (fun c98 h => ?_)
                     ·
                      refine V2.y (i := 1) (Nx2.of (Z := Cls w [] [.obj b12 [.bool true, .int .i64 (-1)] 152, .obj b10 [.bool false, .int .i64 0] 152, .obj b9 [.int .i64 x3.Tx, .int .i64 x3.Kind, .int .i64 x3.Item] 164, .obj b1 (List.flatten [(zr Ttx209.rowv gq19 gl18).flatten, [.int .i64 gx8], (zr svRow gq10 gl9).flatten]) 212, .ss (zs Ttx209.sds gq19 gl18), .ss (zs (svSd 3 1 I) gq10 gl9), .sl v55 3 1 (l56.map I), .sl gv3 152 2 (gl4.map TDid.row)]) [] (by kernel_rfl) rfl (Zc.fin (fun _ hw => hw))) rfl rfl rfl (Y.move rfl) ?_
                      refine V2.pass (i := 2) (Nx2.of (Z := Cls w [] [.obj b12 [.bool true, .int .i64 (-1)] 152, .obj b10 [.bool false, .int .i64 0] 152, .obj b9 [.int .i64 x3.Tx, .int .i64 x3.Kind, .int .i64 x3.Item] 164, .obj b1 (List.flatten [(zr Ttx209.rowv gq19 gl18).flatten, [.int .i64 gx8], (zr svRow gq10 gl9).flatten]) 212, .ss (zs Ttx209.sds gq19 gl18), .ss (zs (svSd 3 1 I) gq10 gl9), .sl v55 3 1 (l56.map I), .sl gv3 152 2 (gl4.map TDid.row)]) [] (by kernel_rfl) rfl (Zc.fin (fun _ hw => hw))) rfl rfl ?_
                      refine V2.pass (i := 3) (Nx2.of (Z := Cls w [] [.obj b12 [.bool true, .int .i64 (-1)] 152, .obj b10 [.bool false, .int .i64 0] 152, .obj b9 [.int .i64 x3.Tx, .int .i64 x3.Kind, .int .i64 x3.Item] 164, .obj b1 (List.flatten [(zr Ttx209.rowv gq19 gl18).flatten, [.int .i64 gx8], (zr svRow gq10 gl9).flatten]) 212, .ss (zs Ttx209.sds gq19 gl18), .ss (zs (svSd 3 1 I) gq10 gl9), .sl v55 3 1 (l56.map I), .sl gv3 152 2 (gl4.map TDid.row)]) [] (by kernel_rfl) rfl (Zc.fin (fun _ hw => hw))) rfl rfl ?_
                      refine V2.pass (i := 4) (Nx2.of (Z := Cls w [] [.obj b12 [.bool true, .int .i64 (-1)] 152, .obj b10 [.bool false, .int .i64 0] 152, .obj b9 [.int .i64 x3.Tx, .int .i64 x3.Kind, .int .i64 x3.Item] 164, .obj b1 (List.flatten [(zr Ttx209.rowv gq19 gl18).flatten, [.int .i64 gx8], (zr svRow gq10 gl9).flatten]) 212, .ss (zs Ttx209.sds gq19 gl18), .ss (zs (svSd 3 1 I) gq10 gl9), .sl v55 3 1 (l56.map I), .sl gv3 152 2 (gl4.map TDid.row)]) [] (by kernel_rfl) rfl (Zc.fin (fun _ hw => hw))) rfl rfl ?_
                      refine V2.pass (i := 5) (Nx2.of (Z := Cls w [] [.obj b12 [.bool true, .int .i64 (-1)] 152, .obj b10 [.bool false, .int .i64 0] 152, .obj b9 [.int .i64 x3.Tx, .int .i64 x3.Kind, .int .i64 x3.Item] 164, .obj b1 (List.flatten [(zr Ttx209.rowv gq19 gl18).flatten, [.int .i64 gx8], (zr svRow gq10 gl9).flatten]) 212, .ss (zs Ttx209.sds gq19 gl18), .ss (zs (svSd 3 1 I) gq10 gl9), .sl v55 3 1 (l56.map I), .sl gv3 152 2 (gl4.map TDid.row)]) [] (by kernel_rfl) rfl (Zc.fin (fun _ hw => hw))) rfl rfl ?_
                      refine V2.pass (i := 6) (Nx2.of (Z := Cls w [] [.obj b12 [.bool true, .int .i64 (-1)] 152, .obj b10 [.bool false, .int .i64 0] 152, .obj b9 [.int .i64 x3.Tx, .int .i64 x3.Kind, .int .i64 x3.Item] 164, .obj b1 (List.flatten [(zr Ttx209.rowv gq19 gl18).flatten, [.int .i64 gx8], (zr svRow gq10 gl9).flatten]) 212, .ss (zs Ttx209.sds gq19 gl18), .ss (zs (svSd 3 1 I) gq10 gl9), .sl v55 3 1 (l56.map I), .sl gv3 152 2 (gl4.map TDid.row)]) [] (by kernel_rfl) rfl (Zc.fin (fun _ hw => hw))) rfl rfl ?_
                      refine V2.pass (i := 7) (Nx2.of (Z := Cls w [] [.obj b12 [.bool true, .int .i64 (-1)] 152, .obj b10 [.bool false, .int .i64 0] 152, .obj b9 [.int .i64 x3.Tx, .int .i64 x3.Kind, .int .i64 x3.Item] 164, .obj b1 (List.flatten [(zr Ttx209.rowv gq19 gl18).flatten, [.int .i64 gx8], (zr svRow gq10 gl9).flatten]) 212, .ss (zs Ttx209.sds gq19 gl18), .ss (zs (svSd 3 1 I) gq10 gl9), .sl v55 3 1 (l56.map I), .sl gv3 152 2 (gl4.map TDid.row)]) [] (by kernel_rfl) rfl (Zc.fin (fun _ hw => hw))) rfl rfl ?_
                      refine V2.pass (i := 8) (Nx2.of (Z := Cls w [] [.obj b12 [.bool true, .int .i64 (-1)] 152, .obj b10 [.bool false, .int .i64 0] 152, .obj b9 [.int .i64 x3.Tx, .int .i64 x3.Kind, .int .i64 x3.Item] 164, .obj b1 (List.flatten [(zr Ttx209.rowv gq19 gl18).flatten, [.int .i64 gx8], (zr svRow gq10 gl9).flatten]) 212, .ss (zs Ttx209.sds gq19 gl18), .ss (zs (svSd 3 1 I) gq10 gl9), .sl v55 3 1 (l56.map I), .sl gv3 152 2 (gl4.map TDid.row)]) [] (by kernel_rfl) rfl (Zc.fin (fun _ hw => hw))) rfl rfl ?_
                      refine V2.pass (i := 9) (Nx2.of (Z := Cls w [] [.obj b12 [.bool true, .int .i64 (-1)] 152, .obj b10 [.bool false, .int .i64 0] 152, .obj b9 [.int .i64 x3.Tx, .int .i64 x3.Kind, .int .i64 x3.Item] 164, .obj b1 (List.flatten [(zr Ttx209.rowv gq19 gl18).flatten, [.int .i64 gx8], (zr svRow gq10 gl9).flatten]) 212, .ss (zs Ttx209.sds gq19 gl18), .ss (zs (svSd 3 1 I) gq10 gl9), .sl v55 3 1 (l56.map I), .sl gv3 152 2 (gl4.map TDid.row)]) [] (by kernel_rfl) rfl (Zc.fin (fun _ hw => hw))) rfl rfl ?_
                      refine V2.pass (i := 10) (Nx2.of (Z := Cls w [] [.obj b12 [.bool true, .int .i64 (-1)] 152, .obj b10 [.bool false, .int .i64 0] 152, .obj b9 [.int .i64 x3.Tx, .int .i64 x3.Kind, .int .i64 x3.Item] 164, .obj b1 (List.flatten [(zr Ttx209.rowv gq19 gl18).flatten, [.int .i64 gx8], (zr svRow gq10 gl9).flatten]) 212, .ss (zs Ttx209.sds gq19 gl18), .ss (zs (svSd 3 1 I) gq10 gl9), .sl v55 3 1 (l56.map I), .sl gv3 152 2 (gl4.map TDid.row)]) [] (by kernel_rfl) rfl (Zc.fin (fun _ hw => hw))) rfl rfl ?_
                      refine V2.pass (i := 11) (Nx2.of (Z := Cls w [] [.obj b12 [.bool true, .int .i64 (-1)] 152, .obj b10 [.bool false, .int .i64 0] 152, .obj b9 [.int .i64 x3.Tx, .int .i64 x3.Kind, .int .i64 x3.Item] 164, .obj b1 (List.flatten [(zr Ttx209.rowv gq19 gl18).flatten, [.int .i64 gx8], (zr svRow gq10 gl9).flatten]) 212, .ss (zs Ttx209.sds gq19 gl18), .ss (zs (svSd 3 1 I) gq10 gl9), .sl v55 3 1 (l56.map I), .sl gv3 152 2 (gl4.map TDid.row)]) [] (by kernel_rfl) rfl (Zc.fin (fun _ hw => hw))) rfl rfl ?_
                      refine V2.pass (i := 12) (Nx2.of (Z := Cls w [] [.obj b12 [.bool true, .int .i64 (-1)] 152, .obj b10 [.bool false, .int .i64 0] 152, .obj b9 [.int .i64 x3.Tx, .int .i64 x3.Kind, .int .i64 x3.Item] 164, .obj b1 (List.flatten [(zr Ttx209.rowv gq19 gl18).flatten, [.int .i64 gx8], (zr svRow gq10 gl9).flatten]) 212, .ss (zs Ttx209.sds gq19 gl18), .ss (zs (svSd 3 1 I) gq10 gl9), .sl v55 3 1 (l56.map I), .sl gv3 152 2 (gl4.map TDid.row)]) [] (by kernel_rfl) rfl (Zc.fin (fun _ hw => hw))) rfl rfl ?_
                      refine V2.pass (i := 13) (Nx2.of (Z := Cls w [] [.obj b12 [.bool true, .int .i64 (-1)] 152, .obj b10 [.bool false, .int .i64 0] 152, .obj b9 [.int .i64 x3.Tx, .int .i64 x3.Kind, .int .i64 x3.Item] 164, .obj b1 (List.flatten [(zr Ttx209.rowv gq19 gl18).flatten, [.int .i64 gx8], (zr svRow gq10 gl9).flatten]) 212, .ss (zs Ttx209.sds gq19 gl18), .ss (zs (svSd 3 1 I) gq10 gl9), .sl v55 3 1 (l56.map I), .sl gv3 152 2 (gl4.map TDid.row)]) [] (by kernel_rfl) rfl (Zc.fin (fun _ hw => hw))) rfl rfl ?_
                      refine V2.pass (i := 14) (Nx2.of (Z := Cls w [] [.obj b12 [.bool true, .int .i64 (-1)] 152, .obj b10 [.bool false, .int .i64 0] 152, .obj b9 [.int .i64 x3.Tx, .int .i64 x3.Kind, .int .i64 x3.Item] 164, .obj b1 (List.flatten [(zr Ttx209.rowv gq19 gl18).flatten, [.int .i64 gx8], (zr svRow gq10 gl9).flatten]) 212, .ss (zs Ttx209.sds gq19 gl18), .ss (zs (svSd 3 1 I) gq10 gl9), .sl v55 3 1 (l56.map I), .sl gv3 152 2 (gl4.map TDid.row)]) [] (by kernel_rfl) rfl (Zc.fin (fun _ hw => hw))) rfl rfl ?_
                      refine V2.pass (i := 15) (Nx2.of (Z := Cls w [] [.obj b12 [.bool true, .int .i64 (-1)] 152, .obj b10 [.bool false, .int .i64 0] 152, .obj b9 [.int .i64 x3.Tx, .int .i64 x3.Kind, .int .i64 x3.Item] 164, .obj b1 (List.flatten [(zr Ttx209.rowv gq19 gl18).flatten, [.int .i64 gx8], (zr svRow gq10 gl9).flatten]) 212, .ss (zs Ttx209.sds gq19 gl18), .ss (zs (svSd 3 1 I) gq10 gl9), .sl v55 3 1 (l56.map I), .sl gv3 152 2 (gl4.map TDid.row)]) [] (by kernel_rfl) rfl (Zc.fin (fun _ hw => hw))) rfl rfl ?_
                      refine V2.pass (i := 16) (Nx2.of (Z := Cls w [] [.obj b12 [.bool true, .int .i64 (-1)] 152, .obj b10 [.bool false, .int .i64 0] 152, .obj b9 [.int .i64 x3.Tx, .int .i64 x3.Kind, .int .i64 x3.Item] 164, .obj b1 (List.flatten [(zr Ttx209.rowv gq19 gl18).flatten, [.int .i64 gx8], (zr svRow gq10 gl9).flatten]) 212, .ss (zs Ttx209.sds gq19 gl18), .ss (zs (svSd 3 1 I) gq10 gl9), .sl v55 3 1 (l56.map I), .sl gv3 152 2 (gl4.map TDid.row)]) [] (by kernel_rfl) rfl (Zc.fin (fun _ hw => hw))) rfl rfl ?_
                      refine V2.pass (i := 17) (Nx2.of (Z := Cls w [] [.obj b12 [.bool true, .int .i64 (-1)] 152, .obj b10 [.bool false, .int .i64 0] 152, .obj b9 [.int .i64 x3.Tx, .int .i64 x3.Kind, .int .i64 x3.Item] 164, .obj b1 (List.flatten [(zr Ttx209.rowv gq19 gl18).flatten, [.int .i64 gx8], (zr svRow gq10 gl9).flatten]) 212, .ss (zs Ttx209.sds gq19 gl18), .ss (zs (svSd 3 1 I) gq10 gl9), .sl v55 3 1 (l56.map I), .sl gv3 152 2 (gl4.map TDid.row)]) [] (by kernel_rfl) rfl (Zc.fin (fun _ hw => hw))) rfl rfl ?_
                      refine V2.y (i := 18) (Nx2.of (Z := Cls w [] [.obj b12 [.bool true, .int .i64 (-1)] 152, .obj b10 [.bool false, .int .i64 0] 152, .obj b9 [.int .i64 x3.Tx, .int .i64 x3.Kind, .int .i64 x3.Item] 164, .obj b1 (List.flatten [(zr Ttx209.rowv gq19 gl18).flatten, [.int .i64 gx8], (zr svRow gq10 gl9).flatten]) 212, .ss (zs Ttx209.sds gq19 gl18), .ss (zs (svSd 3 1 I) gq10 gl9), .sl v55 3 1 (l56.map I), .sl gv3 152 2 (gl4.map TDid.row)]) [] (by kernel_rfl) rfl (Zc.fin (fun _ hw => hw))) rfl rfl rfl (Y.pickT rfl rfl) ?_
                      refine V2.y (i := 19) (Nx2.of (Z := Cls w [] [.obj b12 [.bool true, .int .i64 (-1)] 152, .obj b10 [.bool false, .int .i64 0] 152, .obj b9 [.int .i64 x3.Tx, .int .i64 x3.Kind, .int .i64 x3.Item] 164, .obj b1 (List.flatten [(zr Ttx209.rowv gq19 gl18).flatten, [.int .i64 gx8], (zr svRow gq10 gl9).flatten]) 212, .ss (zs Ttx209.sds gq19 gl18), .ss (zs (svSd 3 1 I) gq10 gl9), .sl v55 3 1 (l56.map I), .sl gv3 152 2 (gl4.map TDid.row)]) [] (by kernel_rfl) rfl (Zc.fin (fun _ hw => hw))) rfl rfl rfl (Y.assign rfl) ?_
                      refine V2.done (by kernel_rfl) ?_
                      exact E.joinJ ⟨true, rfl, rfl, h⟩ ⟨rfl, rfl, rfl, rfl, rfl, rfl, rfl, rfl, rfl, rfl, rfl, rfl, trivial⟩ (fun _ hw => hw)
                     ·
                      refine V2.y (i := 1) (Nx2.of (Z := Cls w [] [.obj b12 [.bool true, .int .i64 (-1)] 152, .obj b10 [.bool false, .int .i64 0] 152, .obj b9 [.int .i64 x3.Tx, .int .i64 x3.Kind, .int .i64 x3.Item] 164, .obj b1 (List.flatten [(zr Ttx209.rowv gq19 gl18).flatten, [.int .i64 gx8], (zr svRow gq10 gl9).flatten]) 212, .ss (zs Ttx209.sds gq19 gl18), .ss (zs (svSd 3 1 I) gq10 gl9), .sl v55 3 1 (l56.map I), .sl gv3 152 2 (gl4.map TDid.row)]) [] (by kernel_rfl) rfl (Zc.fin (fun _ hw => hw))) rfl rfl rfl (Y.move rfl) ?_
                      refine V2.y (i := 2) (Nx2.of (Z := Cls w [] [.obj b12 [.bool true, .int .i64 (-1)] 152, .obj b10 [.bool false, .int .i64 0] 152, .obj b9 [.int .i64 x3.Tx, .int .i64 x3.Kind, .int .i64 x3.Item] 164, .obj b1 (List.flatten [(zr Ttx209.rowv gq19 gl18).flatten, [.int .i64 gx8], (zr svRow gq10 gl9).flatten]) 212, .ss (zs Ttx209.sds gq19 gl18), .ss (zs (svSd 3 1 I) gq10 gl9), .sl v55 3 1 (l56.map I), .sl gv3 152 2 (gl4.map TDid.row)]) [] (by kernel_rfl) rfl (Zc.fin (fun _ hw => hw))) rfl rfl rfl (Y.move rfl) ?_
                      refine V2.y (i := 3) (Nx2.of (Z := Cls w [] [.obj b12 [.bool true, .int .i64 (-1)] 152, .obj b10 [.bool false, .int .i64 0] 152, .obj b9 [.int .i64 x3.Tx, .int .i64 x3.Kind, .int .i64 x3.Item] 164, .obj b1 (List.flatten [(zr Ttx209.rowv gq19 gl18).flatten, [.int .i64 gx8], (zr svRow gq10 gl9).flatten]) 212, .ss (zs Ttx209.sds gq19 gl18), .ss (zs (svSd 3 1 I) gq10 gl9), .sl v55 3 1 (l56.map I), .sl gv3 152 2 (gl4.map TDid.row)]) [] (by kernel_rfl) rfl (Zc.fin (fun _ hw => hw))) rfl rfl rfl (Y.move rfl) ?_
                      refine V2.ite (i := 4) h (Nx2.of (Z := Cls w [] [.obj b12 [.bool true, .int .i64 (-1)] 152, .obj b10 [.bool false, .int .i64 0] 152, .obj b9 [.int .i64 x3.Tx, .int .i64 x3.Kind, .int .i64 x3.Item] 164, .obj b1 (List.flatten [(zr Ttx209.rowv gq19 gl18).flatten, [.int .i64 gx8], (zr svRow gq10 gl9).flatten]) 212, .ss (zs Ttx209.sds gq19 gl18), .ss (zs (svSd 3 1 I) gq10 gl9), .sl v55 3 1 (l56.map I), .sl gv3 152 2 (gl4.map TDid.row)]) [] (by kernel_rfl) rfl (Zc.fin (fun _ hw => hw))) rfl rfl rfl (Y.neq rfl rfl) (fun c99 h => ?_) (fun c99 h => ?_)
                      ·
                       refine V2.y (i := 5) (Nx2.of (Z := Cls w [] [.obj b12 [.bool true, .int .i64 (-1)] 152, .obj b10 [.bool false, .int .i64 0] 152, .obj b9 [.int .i64 x3.Tx, .int .i64 x3.Kind, .int .i64 x3.Item] 164, .obj b1 (List.flatten [(zr Ttx209.rowv gq19 gl18).flatten, [.int .i64 gx8], (zr svRow gq10 gl9).flatten]) 212, .ss (zs Ttx209.sds gq19 gl18), .ss (zs (svSd 3 1 I) gq10 gl9), .sl v55 3 1 (l56.map I), .sl gv3 152 2 (gl4.map TDid.row)]) [] (by kernel_rfl) rfl (Zc.fin (fun _ hw => hw))) rfl rfl rfl (Y.move rfl) ?_
                       refine V2.y (i := 6) (Nx2.of (Z := Cls w [] [.obj b12 [.bool true, .int .i64 (-1)] 152, .obj b10 [.bool false, .int .i64 0] 152, .obj b9 [.int .i64 x3.Tx, .int .i64 x3.Kind, .int .i64 x3.Item] 164, .obj b1 (List.flatten [(zr Ttx209.rowv gq19 gl18).flatten, [.int .i64 gx8], (zr svRow gq10 gl9).flatten]) 212, .ss (zs Ttx209.sds gq19 gl18), .ss (zs (svSd 3 1 I) gq10 gl9), .sl v55 3 1 (l56.map I), .sl gv3 152 2 (gl4.map TDid.row)]) [] (by kernel_rfl) rfl (Zc.fin (fun _ hw => hw))) rfl rfl rfl (Y.move rfl) ?_
                       refine V2.y (i := 7) (Nx2.of (Z := Cls w [] [.obj b12 [.bool true, .int .i64 (-1)] 152, .obj b10 [.bool false, .int .i64 0] 152, .obj b9 [.int .i64 x3.Tx, .int .i64 x3.Kind, .int .i64 x3.Item] 164, .obj b1 (List.flatten [(zr Ttx209.rowv gq19 gl18).flatten, [.int .i64 gx8], (zr svRow gq10 gl9).flatten]) 212, .ss (zs Ttx209.sds gq19 gl18), .ss (zs (svSd 3 1 I) gq10 gl9), .sl v55 3 1 (l56.map I), .sl gv3 152 2 (gl4.map TDid.row)]) [] (by kernel_rfl) rfl (Zc.fin (fun _ hw => hw))) rfl rfl rfl (Y.move rfl) ?_
                       refine V2.nilc (i := 8) (Nx2.of (Z := Cls w [] [.obj b12 [.bool true, .int .i64 (-1)] 152, .obj b10 [.bool false, .int .i64 0] 152, .obj b9 [.int .i64 x3.Tx, .int .i64 x3.Kind, .int .i64 x3.Item] 164, .obj b1 (List.flatten [(zr Ttx209.rowv gq19 gl18).flatten, [.int .i64 gx8], (zr svRow gq10 gl9).flatten]) 212, .ss (zs Ttx209.sds gq19 gl18), .ss (zs (svSd 3 1 I) gq10 gl9), .sl v55 3 1 (l56.map I), .sl gv3 152 2 (gl4.map TDid.row)]) [] (by kernel_rfl) rfl (Zc.fin (fun _ hw => hw))) rfl rfl rfl ?_
                       refine V2.y (i := 9) (Nx2.of (Z := Cls w [] [.obj b12 [.bool true, .int .i64 (-1)] 152, .obj b10 [.bool false, .int .i64 0] 152, .obj b9 [.int .i64 x3.Tx, .int .i64 x3.Kind, .int .i64 x3.Item] 164, .obj b1 (List.flatten [(zr Ttx209.rowv gq19 gl18).flatten, [.int .i64 gx8], (zr svRow gq10 gl9).flatten]) 212, .ss (zs Ttx209.sds gq19 gl18), .ss (zs (svSd 3 1 I) gq10 gl9), .sl v55 3 1 (l56.map I), .sl gv3 152 2 (gl4.map TDid.row)]) [] (by kernel_rfl) rfl (Zc.fin (fun _ hw => hw))) rfl rfl rfl (Y.fieldP fd212_0 rfl) ?_
                       refine V2.m (i := 10) (V' := fun _ => pt b1 (0 + x63.toNat * 6)) h (Nx2.of (Z := Cls w [] [.obj b12 [.bool true, .int .i64 (-1)] 152, .obj b10 [.bool false, .int .i64 0] 152, .obj b9 [.int .i64 x3.Tx, .int .i64 x3.Kind, .int .i64 x3.Item] 164, .obj b1 (List.flatten [(zr Ttx209.rowv gq19 gl18).flatten, [.int .i64 gx8], (zr svRow gq10 gl9).flatten]) 212, .ss (zs Ttx209.sds gq19 gl18), .ss (zs (svSd 3 1 I) gq10 gl9), .sl v55 3 1 (l56.map I), .sl gv3 152 2 (gl4.map TDid.row)]) [] (by kernel_rfl) rfl (Zc.fin (fun _ hw => hw))) rfl rfl rfl (Y.indexAS (l := gl18) Try.underlying210 sz209 rfl rfl) (fun x100 ex100 h => ?_)
                       refine V2.y (i := 11) (Nx2.of (Z := Cls w [] [.obj b12 [.bool true, .int .i64 (-1)] 152, .obj b10 [.bool false, .int .i64 0] 152, .obj b9 [.int .i64 x3.Tx, .int .i64 x3.Kind, .int .i64 x3.Item] 164, .obj b1 (List.flatten [(zr Ttx209.rowv gq19 gl18).flatten, [.int .i64 gx8], (zr svRow gq10 gl9).flatten]) 212, .ss (zs Ttx209.sds gq19 gl18), .ss (zs (svSd 3 1 I) gq10 gl9), .sl v55 3 1 (l56.map I), .sl gv3 152 2 (gl4.map TDid.row)]) [] (by kernel_rfl) rfl (Zc.fin (fun _ hw => hw))) rfl rfl rfl (Y.move rfl) ?_
                       refine V2.y (i := 12) (Nx2.of (Z := Cls w [] [.obj b12 [.bool true, .int .i64 (-1)] 152, .obj b10 [.bool false, .int .i64 0] 152, .obj b9 [.int .i64 x3.Tx, .int .i64 x3.Kind, .int .i64 x3.Item] 164, .obj b1 (List.flatten [(zr Ttx209.rowv gq19 gl18).flatten, [.int .i64 gx8], (zr svRow gq10 gl9).flatten]) 212, .ss (zs Ttx209.sds gq19 gl18), .ss (zs (svSd 3 1 I) gq10 gl9), .sl v55 3 1 (l56.map I), .sl gv3 152 2 (gl4.map TDid.row)]) [] (by kernel_rfl) rfl (Zc.fin (fun _ hw => hw))) rfl rfl rfl (Y.move rfl) ?_
                       refine V2.nilc (i := 13) (Nx2.of (Z := Cls w [] [.obj b12 [.bool true, .int .i64 (-1)] 152, .obj b10 [.bool false, .int .i64 0] 152, .obj b9 [.int .i64 x3.Tx, .int .i64 x3.Kind, .int .i64 x3.Item] 164, .obj b1 (List.flatten [(zr Ttx209.rowv gq19 gl18).flatten, [.int .i64 gx8], (zr svRow gq10 gl9).flatten]) 212, .ss (zs Ttx209.sds gq19 gl18), .ss (zs (svSd 3 1 I) gq10 gl9), .sl v55 3 1 (l56.map I), .sl gv3 152 2 (gl4.map TDid.row)]) [] (by kernel_rfl) rfl (Zc.fin (fun _ hw => hw))) rfl rfl rfl ?_
                       refine V2.y (i := 14) (Nx2.of (Z := Cls w [] [.obj b12 [.bool true, .int .i64 (-1)] 152, .obj b10 [.bool false, .int .i64 0] 152, .obj b9 [.int .i64 x3.Tx, .int .i64 x3.Kind, .int .i64 x3.Item] 164, .obj b1 (List.flatten [(zr Ttx209.rowv gq19 gl18).flatten, [.int .i64 gx8], (zr svRow gq10 gl9).flatten]) 212, .ss (zs Ttx209.sds gq19 gl18), .ss (zs (svSd 3 1 I) gq10 gl9), .sl v55 3 1 (l56.map I), .sl gv3 152 2 (gl4.map TDid.row)]) [] (by kernel_rfl) rfl (Zc.fin (fun _ hw => hw))) rfl rfl rfl (Y.fieldP fd212_0 rfl) ?_
                       refine V2.m (i := 15) (V' := fun _ => pt b1 (0 + x59.toNat * 6)) h (Nx2.of (Z := Cls w [] [.obj b12 [.bool true, .int .i64 (-1)] 152, .obj b10 [.bool false, .int .i64 0] 152, .obj b9 [.int .i64 x3.Tx, .int .i64 x3.Kind, .int .i64 x3.Item] 164, .obj b1 (List.flatten [(zr Ttx209.rowv gq19 gl18).flatten, [.int .i64 gx8], (zr svRow gq10 gl9).flatten]) 212, .ss (zs Ttx209.sds gq19 gl18), .ss (zs (svSd 3 1 I) gq10 gl9), .sl v55 3 1 (l56.map I), .sl gv3 152 2 (gl4.map TDid.row)]) [] (by kernel_rfl) rfl (Zc.fin (fun _ hw => hw))) rfl rfl rfl (Y.indexAS (l := gl18) Try.underlying210 sz209 rfl rfl) (fun x101 ex101 h => ?_)
                       refine V2.eff (i := 16) (by kernel_rfl) rfl ?_
                       refine L.take rfl (L.callJ (fun v D => ∃ (gb55 : Bool), v = .bool gb55 ∧ D = Cls w [] [.obj b12 [.bool true, .int .i64 (-1)] 152, .obj b10 [.bool false, .int .i64 0] 152, .obj b9 [.int .i64 x3.Tx, .int .i64 x3.Kind, .int .i64 x3.Item] 164, .obj b1 (List.flatten [(zr Ttx209.rowv gq19 gl18).flatten, [.int .i64 gx8], (zr svRow gq10 gl9).flatten]) 212, .ss (zs Ttx209.sds gq19 gl18), .ss (zs (svSd 3 1 I) gq10 gl9), .sl v55 3 1 (l56.map I), .sl gv3 152 2 (gl4.map TDid.row)] ∧ m96_skew_Play_K28 gb38 gx39 go4 x63 x59 gl18 gb55 = some r) rfl en165 rfl Try.func165 rfl rfl rfl ?_ ?_)
                       ·
                        refine W.seq (W.region (L.box rfl rfl ?_))
                        intro b102
                        refine L.y rfl (Y.assign rfl) ?_
                        refine L.nil (E.thenN (W.seq (W.region (L.y rfl (Y.move rfl) ?_))))
                        refine L.y rfl (Y.loadP (i := 0) ag227 rfl rfl rfl) ?_
                        refine L.callJ (fun v D => ∃ (gb56 : Bool), v = .bool gb56 ∧ D = Cls w [] [.obj b102 [pt b1 (0 + x59.toNat * 6)] 227, .obj b12 [.bool true, .int .i64 (-1)] 152, .obj b10 [.bool false, .int .i64 0] 152, .obj b9 [.int .i64 x3.Tx, .int .i64 x3.Kind, .int .i64 x3.Item] 164, .obj b1 (List.flatten [(zr Ttx209.rowv gq19 gl18).flatten, [.int .i64 gx8], (zr svRow gq10 gl9).flatten]) 212, .ss (zs Ttx209.sds gq19 gl18), .ss (zs (svSd 3 1 I) gq10 gl9), .sl gv3 152 2 (gl4.map TDid.row), .sl v55 3 1 (l56.map I)] ∧ m96_skew_Play_K29 x100 x101 gb38 gx39 go4 x63 x59 gl18 gb56 = some r) rfl en163 rfl Try.func163 rfl rfl rfl ?_ ?_
                        ·
                         refine W.seq (W.region (L.y rfl (Y.assign rfl) ?_))
                         refine L.nil (E.thenN (W.seq (W.quietC mixed (by kernel_rfl) (fun _ hw => hw.drew) (fun hC => ?_))))
                         refine U.cutJ hC 16 (fun gs => ∃ (gb61 : Bool), gs = [(0, pt b1 (0 + x63.toNat * 6)), (1, pt b1 (0 + x59.toNat * 6)), (20, .bool gb61)] ∧ m96_skew_Play_K34 x101 x100 gb38 gx39 go4 x63 x59 gl18 gb61 = some r) ?_ ?_
                         ·
                          refine U.y rfl (Y.move rfl) ?_
                          refine U.y rfl (Y.nilCheck rfl) ?_
                          refine U.y rfl (Y.fieldP fd209_1 rfl) ?_
                          refine U.iteB h rfl (Y.loadZg (si := 0) (ps := 0) (q := 4) (row := Ttx209.rowv) (vs := gq19) (j := 1) (pv := .bool x100.done_) ag4 rfl rfl rfl rfl sl0 (fun _ _ => rfl) (idxA_idx ex100) rfl) (fun c109 h => ?_) (fun c109 h => ?_)
                          ·
                           refine U.y rfl (Y.not rfl) ?_
                           refine U.y rfl (Y.move rfl) ?_
                           refine U.take rfl (U.y rfl (Y.move rfl) ?_)
                           refine U.take rfl (U.y rfl (Y.nilCheck rfl) ?_)
                           refine U.take rfl (U.y rfl (Y.fieldP fd209_3 rfl) ?_)
                           refine U.take rfl (U.y rfl (Y.loadZg (si := 0) (ps := 0) (q := 4) (row := Ttx209.rowv) (vs := gq19) (j := 3) (pv := .int .i64 x100.at_) ag3 rfl rfl rfl rfl sl0 (fun _ _ => rfl) (idxA_idx ex100) rfl) ?_)
                           refine U.take rfl (U.y rfl (Y.move rfl) ?_)
                           refine U.take rfl (U.y rfl (Y.nilCheck rfl) ?_)
                           refine U.take rfl (U.y rfl (Y.fieldP fd209_2 rfl) ?_)
                           refine U.take rfl (U.y rfl (Y.loadZg (si := 0) (ps := 0) (q := 4) (row := Ttx209.rowv) (vs := gq19) (j := 2) (pv := .int .i64 x101.from_) ag3 rfl rfl rfl rfl sl0 (fun _ _ => rfl) (idxA_idx ex101) rfl) ?_)
                           refine U.take rfl (U.ite h rfl (Y.gtr rfl rfl) (fun c110 h => ?_) (fun c110 h => ?_))
                           ·
                            refine U.y rfl (Y.pickF rfl rfl) ?_
                            exact U.nil (E.joinU ⟨true, rfl, h⟩ ⟨rfl, rfl, rfl, trivial⟩)
                           ·
                            refine U.y rfl (Y.pickF rfl rfl) ?_
                            exact U.nil (E.joinU ⟨false, rfl, h⟩ ⟨rfl, rfl, rfl, trivial⟩)
                          ·
                           refine U.y rfl (Y.not rfl) ?_
                           refine U.y rfl (Y.move rfl) ?_
                           refine U.pass rfl rfl (by nofun) ?_
                           refine U.pass rfl rfl (by nofun) ?_
                           refine U.pass rfl rfl (by nofun) ?_
                           refine U.pass rfl rfl (by nofun) ?_
                           refine U.pass rfl rfl (by nofun) ?_
                           refine U.pass rfl rfl (by nofun) ?_
                           refine U.pass rfl rfl (by nofun) ?_
                           refine U.pass rfl rfl (by nofun) ?_
                           refine U.pass rfl rfl (by nofun) ?_
                           refine U.y rfl (Y.pickT rfl rfl) ?_
                           exact U.nil (E.joinU ⟨true, rfl, h⟩ ⟨rfl, rfl, rfl, trivial⟩)
                         ·
                          rintro _ ⟨gb61, rfl, h⟩
                          rw [m96_skew_Play_K34] at h
                          rcases gb61 with _ | _
                          ·
                           replace h := iteF h
                           refine U.y rfl (Y.move rfl) ?_
                           refine U.pass rfl rfl (by nofun) ?_
                           refine U.pass rfl rfl (by nofun) ?_
                           refine U.pass rfl rfl (by nofun) ?_
                           refine U.pass rfl rfl (by nofun) ?_
                           refine U.pass rfl rfl (by nofun) ?_
                           refine U.pass rfl rfl (by nofun) ?_
                           refine U.pass rfl rfl (by nofun) ?_
                           refine U.pass rfl rfl (by nofun) ?_
                           refine U.pass rfl rfl (by nofun) ?_
                           refine U.pass rfl rfl (by nofun) ?_
                           refine U.pass rfl rfl (by nofun) ?_
                           refine U.pass rfl rfl (by nofun) ?_
                           refine U.pass rfl rfl (by nofun) ?_
                           refine U.pass rfl rfl (by nofun) ?_
                           refine U.pass rfl rfl (by nofun) ?_
                           refine U.pass rfl rfl (by nofun) ?_
                           refine U.y rfl (Y.pickF rfl rfl) ?_
                           refine U.y rfl (Y.assign rfl) ?_
                           refine U.nil (E.thenN (W.ret (E.ret1 rfl rfl (fun w1 hw => ?_))))
                           exact ⟨_, _, rfl, ⟨false, rfl, rfl, h⟩, hw.sel [0, 1, 2, 3, 4, 5, 6, 8, 7] (by decide) rfl⟩
                          ·
                           replace h := iteT h
                           refine U.y rfl (Y.move rfl) ?_
                           refine U.take rfl (U.y rfl (Y.move rfl) ?_)
                           refine U.take rfl (U.y rfl (Y.nilCheck rfl) ?_)
                           refine U.take rfl (U.y rfl (Y.fieldP fd209_1 rfl) ?_)
                           refine U.take rfl (U.iteB h rfl (Y.loadZg (si := 0) (ps := 0) (q := 4) (row := Ttx209.rowv) (vs := gq19) (j := 1) (pv := .bool x101.done_) ag4 rfl rfl rfl rfl sl0 (fun _ _ => rfl) (idxA_idx ex101) rfl) (fun c108 h => ?_) (fun c108 h => ?_))
                           ·
                            refine U.take rfl (U.y rfl (Y.not rfl) ?_)
                            refine U.take rfl (U.y rfl (Y.move rfl) ?_)
                            refine U.take rfl (U.y rfl (Y.move rfl) ?_)
                            refine U.take rfl (U.y rfl (Y.nilCheck rfl) ?_)
                            refine U.take rfl (U.y rfl (Y.fieldP fd209_3 rfl) ?_)
                            refine U.take rfl (U.y rfl (Y.loadZg (si := 0) (ps := 0) (q := 4) (row := Ttx209.rowv) (vs := gq19) (j := 3) (pv := .int .i64 x101.at_) ag3 rfl rfl rfl rfl sl0 (fun _ _ => rfl) (idxA_idx ex101) rfl) ?_)
                            refine U.take rfl (U.y rfl (Y.move rfl) ?_)
                            refine U.take rfl (U.y rfl (Y.nilCheck rfl) ?_)
                            refine U.take rfl (U.y rfl (Y.fieldP fd209_2 rfl) ?_)
                            refine U.take rfl (U.y rfl (Y.loadZg (si := 0) (ps := 0) (q := 4) (row := Ttx209.rowv) (vs := gq19) (j := 2) (pv := .int .i64 x100.from_) ag3 rfl rfl rfl rfl sl0 (fun _ _ => rfl) (idxA_idx ex100) rfl) ?_)
                            refine U.take rfl (U.y rfl (Y.gtr rfl rfl) ?_)
                            refine U.take rfl (U.y rfl (Y.pickF rfl rfl) ?_)
                            refine U.y rfl (Y.pickT rfl rfl) ?_
                            refine U.y rfl (Y.assign rfl) ?_
                            refine U.nil (E.thenN (W.ret (E.ret1 rfl rfl (fun w1 hw => ?_))))
                            exact ⟨_, _, rfl, ⟨decide (x100.from_ < x101.at_), rfl, rfl, h⟩, hw.sel [0, 1, 2, 3, 4, 5, 6, 8, 7] (by decide) rfl⟩
                           ·
                            refine U.take rfl (U.y rfl (Y.not rfl) ?_)
                            refine U.take rfl (U.y rfl (Y.move rfl) ?_)
                            refine U.pass rfl rfl (by nofun) ?_
                            refine U.pass rfl rfl (by nofun) ?_
                            refine U.pass rfl rfl (by nofun) ?_
                            refine U.pass rfl rfl (by nofun) ?_
                            refine U.pass rfl rfl (by nofun) ?_
                            refine U.pass rfl rfl (by nofun) ?_
                            refine U.pass rfl rfl (by nofun) ?_
                            refine U.pass rfl rfl (by nofun) ?_
                            refine U.pass rfl rfl (by nofun) ?_
                            refine U.take rfl (U.y rfl (Y.pickT rfl rfl) ?_)
                            refine U.y rfl (Y.pickT rfl rfl) ?_
                            refine U.y rfl (Y.assign rfl) ?_
                            refine U.nil (E.thenN (W.ret (E.ret1 rfl rfl (fun w1 hw => ?_))))
                            exact ⟨_, _, rfl, ⟨true, rfl, rfl, h⟩, hw.sel [0, 1, 2, 3, 4, 5, 6, 8, 7] (by decide) rfl⟩
                        ·
                         rintro _ _ ⟨gb56, rfl, rfl, h⟩
                         rw [m96_skew_Play_K29] at h
                         rcases gb56 with _ | _
                         ·
                          replace h := iteF h
                          refine L.y rfl (Y.move rfl) ?_
                          refine L.pass rfl rfl (by nofun) ?_
                          refine L.pass rfl rfl (by nofun) ?_
                          refine L.pass rfl rfl (by nofun) ?_
                          refine L.pass rfl rfl (by nofun) ?_
                          refine L.pass rfl rfl (by nofun) ?_
                          refine L.pass rfl rfl (by nofun) ?_
                          refine L.y rfl (Y.pickF rfl rfl) ?_
                          refine L.y rfl (Y.assign rfl) ?_
                          refine L.nil (E.thenN (W.ret (E.ret1 rfl rfl (fun w1 hw => ?_))))
                          exact ⟨_, _, rfl, ⟨false, rfl, rfl, h⟩, hw.sel [1, 2, 3, 4, 5, 6, 8, 7] (by decide) rfl⟩
                         ·
                          replace h := iteT h
                          refine L.y rfl (Y.move rfl) ?_
                          refine L.take rfl (L.y rfl (Y.move rfl) ?_)
                          refine L.take rfl (L.y rfl (Y.nilCheck rfl) ?_)
                          refine L.take rfl (L.y rfl (Y.fieldP fd209_4 rfl) ?_)
                          refine L.take rfl (L.y rfl (Y.loadZg (si := 0) (ps := 0) (q := 4) (row := Ttx209.rowv) (vs := gq19) (j := 4) (pv := gv (gq19 x63.toNat) 0) ag24 rfl rfl rfl rfl sl0 (fun _ _ => rfl) (idxA_idx ex100) rfl) ?_)
                          refine L.take rfl (L.y rfl (Y.func rfl) ?_)
                          refine L.take rfl (L.callJ (fun v D => ∃ (gb57 : Bool), v = .bool gb57 ∧ D = Cls w [] [.obj b12 [.bool true, .int .i64 (-1)] 152, .obj b10 [.bool false, .int .i64 0] 152, .obj b9 [.int .i64 x3.Tx, .int .i64 x3.Kind, .int .i64 x3.Item] 164, .obj b1 (List.flatten [(zr Ttx209.rowv gq19 gl18).flatten, [.int .i64 gx8], (zr svRow gq10 gl9).flatten]) 212, .ss (zs Ttx209.sds gq19 gl18), .ss (zs (svSd 3 1 I) gq10 gl9), .sl gv3 152 2 (gl4.map TDid.row), .sl v55 3 1 (l56.map I)] ∧ m96_skew_Play_K30 gb38 gx39 go4 x63 x59 gl18 gb57 = some r) rfl en78 rfl Try.func78 rfl rfl rfl ?_ ?_)
                          ·
                           refine W.seq (W.region (L.y rfl (Y.assign rfl) ?_))
                           refine L.nil (E.thenN (W.seq (W.region (L.y rfl (Y.move rfl) ?_))))
                           refine L.y rfl (Y.move rfl) ?_
                           refine L.callJ (fun v D => ∃ (gx58 : Int), v = .int .i64 gx58 ∧ D = Cls w [] [.obj b12 [.bool true, .int .i64 (-1)] 152, .obj b10 [.bool false, .int .i64 0] 152, .obj b9 [.int .i64 x3.Tx, .int .i64 x3.Kind, .int .i64 x3.Item] 164, .obj b1 (List.flatten [(zr Ttx209.rowv gq19 gl18).flatten, [.int .i64 gx8], (zr svRow gq10 gl9).flatten]) 212, .ss (zs Ttx209.sds gq19 gl18), .ss (zs (svSd 3 1 I) gq10 gl9), .sl gv3 152 2 (gl4.map TDid.row), .sl v55 3 1 (l56.map I)] ∧ m96_skew_Play_K31 gb38 gx39 go4 x63 x59 gl18 gx58 = some r) rfl en133 rfl Try.func133 rfl rfl rfl ?_ ?_
                           ·
                            refine W.seq (W.region (L.y rfl (Y.assign rfl) ?_))
                            refine L.nil (E.thenN (W.seqJ (fun gs D => gs = [] ∧ D = Cls w [] [.obj b12 [.bool true, .int .i64 (-1)] 152, .obj b10 [.bool false, .int .i64 0] 152, .obj b9 [.int .i64 x3.Tx, .int .i64 x3.Kind, .int .i64 x3.Item] 164, .obj b1 (List.flatten [(zr Ttx209.rowv gq19 gl18).flatten, [.int .i64 gx8], (zr svRow gq10 gl9).flatten]) 212, .ss (zs Ttx209.sds gq19 gl18), .ss (zs (svSd 3 1 I) gq10 gl9), .sl gv3 152 2 (gl4.map TDid.row), .sl v55 3 1 (l56.map I)] ∧ m96_skew_Play_K32 gb38 gx39 go4 x63 x59 gl18 = some r) ?_ ?_))
                            ·
                             refine W.seq (W.region (L.y rfl (Y.move rfl) ?_))
                             refine L.y rfl (Y.lenM (g := I) (l := x100.reads_) Try.underlying24 rfl (fun w hw => As.atZ (sds := Ttx209.sds) (vs := gq19) (j := 0) (c := 2) (hw.get (i := 5) rfl) (fun _ _ => rfl) (idxA_idx ex100) rfl)) ?_
                             refine L.y rfl (Y.move rfl) ?_
                             refine L.nil (E.thenN (W.block (W.loopJ (fun m gs D => ∃ (gx59 : Int), gs = [(0, gv (gq19 x63.toNat) 0), (1, .func (.func 167) #[] #[pt b102 0]), (7, .int .i64 (x100.reads_.length : Int)), (8, .int .i64 gx59)] ∧ D = Cls w [] [.obj b102 [pt b1 (0 + x59.toNat * 6)] 227, .obj b12 [.bool true, .int .i64 (-1)] 152, .obj b10 [.bool false, .int .i64 0] 152, .obj b9 [.int .i64 x3.Tx, .int .i64 x3.Kind, .int .i64 x3.Item] 164, .obj b1 (List.flatten [(zr Ttx209.rowv gq19 gl18).flatten, [.int .i64 gx8], (zr svRow gq10 gl9).flatten]) 212, .ss (zs Ttx209.sds gq19 gl18), .ss (zs (svSd 3 1 I) gq10 gl9), .sl gv3 152 2 (gl4.map TDid.row), .sl v55 3 1 (l56.map I)] ∧ m96_skew_Play_L7 x100 x101 gb38 gx39 go4 x63 x59 gl18 m gx59 = some r) ⟨0, rfl, rfl, h⟩ ⟨rfl, rfl, rfl, rfl, trivial⟩ (fun _ hw => hw) ?_)))
                             rintro m _ _ ⟨gx59, rfl, rfl, h⟩
                             rcases m with _ | m
                             · rw [m96_skew_Play_L7] at h; cases h
                             rw [m96_skew_Play_L7] at h
                             generalize hg7 : m96_skew_Play_L7 x100 x101 gb38 gx39 go4 x63 x59 gl18 m = go7 at h
                             rw [m96_skew_Play_L7B] at h
                             refine W.seq (W.region (L.ite h rfl (Y.lss rfl rfl) (fun c103 h => ?_) (fun c103 h => ?_)))
                             ·
                              refine L.nil (E.thenN (W.seq (W.condT rfl ?_)))
                              refine W.skip (E.thenN (W.seq (W.block (W.seq (W.region (L.y rfl (Y.move rfl) ?_))))))
                              refine L.y rfl (Y.assign rfl) ?_
                              refine L.nil (E.thenN (W.seq (W.region (L.y rfl (Y.move rfl) ?_))))
                              refine L.y rfl (Y.move rfl) ?_
                              refine L.y rfl (Y.move rfl) ?_
                              refine L.m (V := fun _ => el (gv (gq19 x63.toNat) 0) (gx59.toNat * 1)) h rfl (Y.indexM (g := I) (l := x100.reads_) Try.underlying24 sz3 rfl rfl (fun w hw => As.atZ (sds := Ttx209.sds) (vs := gq19) (j := 0) (c := 2) (hw.get (i := 5) rfl) (fun _ _ => rfl) (idxA_idx ex100) rfl)) (fun x104 ex104 h => ?_)
                              refine L.y rfl (Y.loadE1 (u := .int .i64 x104) ag3 rfl (fun w hw => As.atZ (sds := Ttx209.sds) (vs := gq19) (j := 0) (c := 2) (hw.get (i := 5) rfl) (fun _ _ => rfl) (idxA_idx ex100) rfl) (idx_map ex104)) ?_
                              refine L.callVJ (fun v D => ∃ (gb60 : Bool), v = .bool gb60 ∧ D = Cls w [] [.obj b102 [pt b1 (0 + x59.toNat * 6)] 227, .obj b12 [.bool true, .int .i64 (-1)] 152, .obj b10 [.bool false, .int .i64 0] 152, .obj b9 [.int .i64 x3.Tx, .int .i64 x3.Kind, .int .i64 x3.Item] 164, .obj b1 (List.flatten [(zr Ttx209.rowv gq19 gl18).flatten, [.int .i64 gx8], (zr svRow gq10 gl9).flatten]) 212, .ss (zs Ttx209.sds gq19 gl18), .ss (zs (svSd 3 1 I) gq10 gl9), .sl gv3 152 2 (gl4.map TDid.row), .sl v55 3 1 (l56.map I)] ∧ m96_skew_Play_K33 gb38 gx39 go4 x63 x59 gl18 gx59 go7 gb60 = some r) rfl en167 rfl rfl Try.func167 rfl rfl rfl ?_ ?_
                              ·
                               refine W.seq (W.region (L.y rfl (Y.assign rfl) ?_))
                               refine L.nil (E.thenN (W.seq (W.region (L.y rfl (Y.loadP (i := 0) ag227 rfl rfl rfl) ?_))))
                               refine L.y rfl (Y.nilCheck rfl) ?_
                               refine L.y rfl (Y.fieldP fd209_5 rfl) ?_
                               refine L.y rfl (Y.loadZg (si := 0) (ps := 0) (q := 4) (row := Ttx209.rowv) (vs := gq19) (j := 5) (pv := gv (gq19 x59.toNat) 1) ag24 rfl rfl rfl rfl sl0 (fun _ _ => rfl) (idxA_idx ex101) rfl) ?_
                               refine L.y rfl (Y.move rfl) ?_
                               obtain ⟨b106, e107, h⟩ := bind1S h
                               refine L.y rfl (Y.does en134 rfl (fun w' hw => (w134_slices_Contains_int x101.writes_ x104 (gv (gq19 x59.toNat) 1) w' _ e107 (As.atZ (sds := Ttx209.sds) (vs := gq19) (j := 1) (c := 2) (hw.get (i := 5) rfl) (fun _ _ => rfl) (idxA_idx ex101) rfl)).mono (fun _ _ h => h.1))) ?_
                               refine L.y rfl (Y.assign rfl) ?_
                               refine L.nil (E.thenN (W.ret (E.ret1 rfl rfl (fun w1 hw => ?_))))
                               exact ⟨_, _, rfl, ⟨b106, rfl, rfl, h⟩, hw⟩
                              ·
                               rintro _ _ ⟨gb60, rfl, rfl, h⟩
                               rw [m96_skew_Play_K33] at h
                               rcases gb60 with _ | _
                               ·
                                replace h := iteF h
                                refine L.nil (E.thenN (W.condF rfl ?_))
                                refine W.skip (E.blockN (E.thenN (W.region (L.m (V := fun x105 => .int .i64 x105) h rfl (Y.addM rfl rfl) (fun x105 ex105 h => ?_)))))
                                refine L.y rfl (Y.move rfl) ?_
                                exact L.nil (E.againJ ⟨x105, rfl, rfl, by rw [hg7]; exact h⟩ (Nat.lt_succ_self _) ⟨rfl, rfl, rfl, rfl, trivial⟩ (fun _ hw => hw))
                               ·
                                replace h := iteT h
                                refine L.nil (E.thenN (W.condT rfl ?_))
                                refine W.seq (W.region (L.y rfl (Y.move rfl) ?_))
                                refine L.y rfl (Y.assign rfl) ?_
                                refine L.nil (E.thenN (W.ret (E.blockR (E.thenR (E.KLR (E.blockR (E.KSR (E.ret1 rfl rfl (fun w1 hw => ?_)))))))))
                                exact ⟨_, _, rfl, ⟨gx59, rfl, rfl, h⟩, hw.sel [1, 2, 3, 4, 5, 6, 7, 8] (by decide) rfl⟩
                             ·
                              refine L.nil (E.thenN (W.seq (W.condF rfl ?_)))
                              exact W.exit (E.thenX (E.KLX (E.blockX (E.joinJ ⟨rfl, rfl, h⟩ trivial (fun _ hw => hw.sel [1, 2, 3, 4, 5, 6, 7, 8] (by decide) rfl)))))
                            ·
                             rintro _ _ ⟨rfl, rfl, h⟩
                             rw [m96_skew_Play_K32] at h
                             refine W.seq (W.region (L.y rfl (Y.assign rfl) ?_))
                             refine L.nil (E.thenN (W.ret (E.ret1 rfl rfl (fun w1 hw => ?_))))
                             exact ⟨_, _, rfl, ⟨(-1), rfl, rfl, h⟩, hw⟩
                           ·
                            rintro _ _ ⟨gx58, rfl, rfl, h⟩
                            rw [m96_skew_Play_K31] at h
                            refine L.y rfl (Y.geq rfl rfl) ?_
                            refine L.y rfl (Y.assign rfl) ?_
                            refine L.nil (E.thenN (W.ret (E.ret1 rfl rfl (fun w1 hw => ?_))))
                            exact ⟨_, _, rfl, ⟨decide (0 ≤ gx58), rfl, rfl, h⟩, hw⟩
                          ·
                           rintro _ _ ⟨gb57, rfl, rfl, h⟩
                           rw [m96_skew_Play_K30] at h
                           refine L.y rfl (Y.pickT rfl rfl) ?_
                           refine L.y rfl (Y.assign rfl) ?_
                           refine L.nil (E.thenN (W.ret (E.ret1 rfl rfl (fun w1 hw => ?_))))
                           exact ⟨_, _, rfl, ⟨gb57, rfl, rfl, h⟩, hw.sel [0, 1, 2, 3, 4, 5, 7, 6] (by decide) rfl⟩
                       ·
                        rintro _ _ ⟨gb55, rfl, rfl, h⟩
                        rw [m96_skew_Play_K28] at h
                        rcases gb55 with _ | _
                        ·
                         replace h := iteF h
                         refine L.nil (E.toV2 (stC [] [] (Cls w [] [.obj b12 [.bool true, .int .i64 (-1)] 152, .obj b10 [.bool false, .int .i64 0] 152, .obj b9 [.int .i64 x3.Tx, .int .i64 x3.Kind, .int .i64 x3.Item] 164, .obj b1 (List.flatten [(zr Ttx209.rowv gq19 gl18).flatten, [.int .i64 gx8], (zr svRow gq10 gl9).flatten]) 212, .ss (zs Ttx209.sds gq19 gl18), .ss (zs (svSd 3 1 I) gq10 gl9), .sl v55 3 1 (l56.map I), .sl gv3 152 2 (gl4.map TDid.row)])) 16 (by kernel_rfl) (Sc.stayD (fun _ hw => hw)) (Sc.atD (fun _ hw => hw)) ?_)
                         refine V2.y (i := 17) (Nx2.of (Z := Cls w [] [.obj b12 [.bool true, .int .i64 (-1)] 152, .obj b10 [.bool false, .int .i64 0] 152, .obj b9 [.int .i64 x3.Tx, .int .i64 x3.Kind, .int .i64 x3.Item] 164, .obj b1 (List.flatten [(zr Ttx209.rowv gq19 gl18).flatten, [.int .i64 gx8], (zr svRow gq10 gl9).flatten]) 212, .ss (zs Ttx209.sds gq19 gl18), .ss (zs (svSd 3 1 I) gq10 gl9), .sl v55 3 1 (l56.map I), .sl gv3 152 2 (gl4.map TDid.row)]) [] (by kernel_rfl) rfl (Zc.fin (fun _ hw => hw))) rfl rfl rfl (Y.pickT rfl rfl) ?_
                         refine V2.y (i := 18) (Nx2.of (Z := Cls w [] [.obj b12 [.bool true, .int .i64 (-1)] 152, .obj b10 [.bool false, .int .i64 0] 152, .obj b9 [.int .i64 x3.Tx, .int .i64 x3.Kind, .int .i64 x3.Item] 164, .obj b1 (List.flatten [(zr Ttx209.rowv gq19 gl18).flatten, [.int .i64 gx8], (zr svRow gq10 gl9).flatten]) 212, .ss (zs Ttx209.sds gq19 gl18), .ss (zs (svSd 3 1 I) gq10 gl9), .sl v55 3 1 (l56.map I), .sl gv3 152 2 (gl4.map TDid.row)]) [] (by kernel_rfl) rfl (Zc.fin (fun _ hw => hw))) rfl rfl rfl (Y.pickF rfl rfl) ?_
                         refine V2.y (i := 19) (Nx2.of (Z := Cls w [] [.obj b12 [.bool true, .int .i64 (-1)] 152, .obj b10 [.bool false, .int .i64 0] 152, .obj b9 [.int .i64 x3.Tx, .int .i64 x3.Kind, .int .i64 x3.Item] 164, .obj b1 (List.flatten [(zr Ttx209.rowv gq19 gl18).flatten, [.int .i64 gx8], (zr svRow gq10 gl9).flatten]) 212, .ss (zs Ttx209.sds gq19 gl18), .ss (zs (svSd 3 1 I) gq10 gl9), .sl v55 3 1 (l56.map I), .sl gv3 152 2 (gl4.map TDid.row)]) [] (by kernel_rfl) rfl (Zc.fin (fun _ hw => hw))) rfl rfl rfl (Y.assign rfl) ?_
                         refine V2.done (by kernel_rfl) ?_
                         exact E.joinJ ⟨false, rfl, rfl, h⟩ ⟨rfl, rfl, rfl, rfl, rfl, rfl, rfl, rfl, rfl, rfl, rfl, rfl, trivial⟩ (fun _ hw => hw)
                        ·
                         replace h := iteT h
                         refine L.nil (E.toV2 (stC [] [] (Cls w [] [.obj b12 [.bool true, .int .i64 (-1)] 152, .obj b10 [.bool false, .int .i64 0] 152, .obj b9 [.int .i64 x3.Tx, .int .i64 x3.Kind, .int .i64 x3.Item] 164, .obj b1 (List.flatten [(zr Ttx209.rowv gq19 gl18).flatten, [.int .i64 gx8], (zr svRow gq10 gl9).flatten]) 212, .ss (zs Ttx209.sds gq19 gl18), .ss (zs (svSd 3 1 I) gq10 gl9), .sl v55 3 1 (l56.map I), .sl gv3 152 2 (gl4.map TDid.row)])) 16 (by kernel_rfl) (Sc.stayD (fun _ hw => hw)) (Sc.atD (fun _ hw => hw)) ?_)
                         refine V2.y (i := 17) (Nx2.of (Z := Cls w [] [.obj b12 [.bool true, .int .i64 (-1)] 152, .obj b10 [.bool false, .int .i64 0] 152, .obj b9 [.int .i64 x3.Tx, .int .i64 x3.Kind, .int .i64 x3.Item] 164, .obj b1 (List.flatten [(zr Ttx209.rowv gq19 gl18).flatten, [.int .i64 gx8], (zr svRow gq10 gl9).flatten]) 212, .ss (zs Ttx209.sds gq19 gl18), .ss (zs (svSd 3 1 I) gq10 gl9), .sl v55 3 1 (l56.map I), .sl gv3 152 2 (gl4.map TDid.row)]) [] (by kernel_rfl) rfl (Zc.fin (fun _ hw => hw))) rfl rfl rfl (Y.pickT rfl rfl) ?_
                         refine V2.y (i := 18) (Nx2.of (Z := Cls w [] [.obj b12 [.bool true, .int .i64 (-1)] 152, .obj b10 [.bool false, .int .i64 0] 152, .obj b9 [.int .i64 x3.Tx, .int .i64 x3.Kind, .int .i64 x3.Item] 164, .obj b1 (List.flatten [(zr Ttx209.rowv gq19 gl18).flatten, [.int .i64 gx8], (zr svRow gq10 gl9).flatten]) 212, .ss (zs Ttx209.sds gq19 gl18), .ss (zs (svSd 3 1 I) gq10 gl9), .sl v55 3 1 (l56.map I), .sl gv3 152 2 (gl4.map TDid.row)]) [] (by kernel_rfl) rfl (Zc.fin (fun _ hw => hw))) rfl rfl rfl (Y.pickF rfl rfl) ?_
                         refine V2.y (i := 19) (Nx2.of (Z := Cls w [] [.obj b12 [.bool true, .int .i64 (-1)] 152, .obj b10 [.bool false, .int .i64 0] 152, .obj b9 [.int .i64 x3.Tx, .int .i64 x3.Kind, .int .i64 x3.Item] 164, .obj b1 (List.flatten [(zr Ttx209.rowv gq19 gl18).flatten, [.int .i64 gx8], (zr svRow gq10 gl9).flatten]) 212, .ss (zs Ttx209.sds gq19 gl18), .ss (zs (svSd 3 1 I) gq10 gl9), .sl v55 3 1 (l56.map I), .sl gv3 152 2 (gl4.map TDid.row)]) [] (by kernel_rfl) rfl (Zc.fin (fun _ hw => hw))) rfl rfl rfl (Y.assign rfl) ?_
                         refine V2.done (by kernel_rfl) ?_
                         exact E.joinJ ⟨true, rfl, rfl, h⟩ ⟨rfl, rfl, rfl, rfl, rfl, rfl, rfl, rfl, rfl, rfl, rfl, rfl, trivial⟩ (fun _ hw => hw)
                      ·
                       refine V2.y (i := 5) (Nx2.of (Z := Cls w [] [.obj b12 [.bool true, .int .i64 (-1)] 152, .obj b10 [.bool false, .int .i64 0] 152, .obj b9 [.int .i64 x3.Tx, .int .i64 x3.Kind, .int .i64 x3.Item] 164, .obj b1 (List.flatten [(zr Ttx209.rowv gq19 gl18).flatten, [.int .i64 gx8], (zr svRow gq10 gl9).flatten]) 212, .ss (zs Ttx209.sds gq19 gl18), .ss (zs (svSd 3 1 I) gq10 gl9), .sl v55 3 1 (l56.map I), .sl gv3 152 2 (gl4.map TDid.row)]) [] (by kernel_rfl) rfl (Zc.fin (fun _ hw => hw))) rfl rfl rfl (Y.move rfl) ?_
                       refine V2.pass (i := 6) (Nx2.of (Z := Cls w [] [.obj b12 [.bool true, .int .i64 (-1)] 152, .obj b10 [.bool false, .int .i64 0] 152, .obj b9 [.int .i64 x3.Tx, .int .i64 x3.Kind, .int .i64 x3.Item] 164, .obj b1 (List.flatten [(zr Ttx209.rowv gq19 gl18).flatten, [.int .i64 gx8], (zr svRow gq10 gl9).flatten]) 212, .ss (zs Ttx209.sds gq19 gl18), .ss (zs (svSd 3 1 I) gq10 gl9), .sl v55 3 1 (l56.map I), .sl gv3 152 2 (gl4.map TDid.row)]) [] (by kernel_rfl) rfl (Zc.fin (fun _ hw => hw))) rfl rfl ?_
                       refine V2.pass (i := 7) (Nx2.of (Z := Cls w [] [.obj b12 [.bool true, .int .i64 (-1)] 152, .obj b10 [.bool false, .int .i64 0] 152, .obj b9 [.int .i64 x3.Tx, .int .i64 x3.Kind, .int .i64 x3.Item] 164, .obj b1 (List.flatten [(zr Ttx209.rowv gq19 gl18).flatten, [.int .i64 gx8], (zr svRow gq10 gl9).flatten]) 212, .ss (zs Ttx209.sds gq19 gl18), .ss (zs (svSd 3 1 I) gq10 gl9), .sl v55 3 1 (l56.map I), .sl gv3 152 2 (gl4.map TDid.row)]) [] (by kernel_rfl) rfl (Zc.fin (fun _ hw => hw))) rfl rfl ?_
                       refine V2.pass (i := 8) (Nx2.of (Z := Cls w [] [.obj b12 [.bool true, .int .i64 (-1)] 152, .obj b10 [.bool false, .int .i64 0] 152, .obj b9 [.int .i64 x3.Tx, .int .i64 x3.Kind, .int .i64 x3.Item] 164, .obj b1 (List.flatten [(zr Ttx209.rowv gq19 gl18).flatten, [.int .i64 gx8], (zr svRow gq10 gl9).flatten]) 212, .ss (zs Ttx209.sds gq19 gl18), .ss (zs (svSd 3 1 I) gq10 gl9), .sl v55 3 1 (l56.map I), .sl gv3 152 2 (gl4.map TDid.row)]) [] (by kernel_rfl) rfl (Zc.fin (fun _ hw => hw))) rfl rfl ?_
                       refine V2.pass (i := 9) (Nx2.of (Z := Cls w [] [.obj b12 [.bool true, .int .i64 (-1)] 152, .obj b10 [.bool false, .int .i64 0] 152, .obj b9 [.int .i64 x3.Tx, .int .i64 x3.Kind, .int .i64 x3.Item] 164, .obj b1 (List.flatten [(zr Ttx209.rowv gq19 gl18).flatten, [.int .i64 gx8], (zr svRow gq10 gl9).flatten]) 212, .ss (zs Ttx209.sds gq19 gl18), .ss (zs (svSd 3 1 I) gq10 gl9), .sl v55 3 1 (l56.map I), .sl gv3 152 2 (gl4.map TDid.row)]) [] (by kernel_rfl) rfl (Zc.fin (fun _ hw => hw))) rfl rfl ?_
                       refine V2.pass (i := 10) (Nx2.of (Z := Cls w [] [.obj b12 [.bool true, .int .i64 (-1)] 152, .obj b10 [.bool false, .int .i64 0] 152, .obj b9 [.int .i64 x3.Tx, .int .i64 x3.Kind, .int .i64 x3.Item] 164, .obj b1 (List.flatten [(zr Ttx209.rowv gq19 gl18).flatten, [.int .i64 gx8], (zr svRow gq10 gl9).flatten]) 212, .ss (zs Ttx209.sds gq19 gl18), .ss (zs (svSd 3 1 I) gq10 gl9), .sl v55 3 1 (l56.map I), .sl gv3 152 2 (gl4.map TDid.row)]) [] (by kernel_rfl) rfl (Zc.fin (fun _ hw => hw))) rfl rfl ?_
                       refine V2.pass (i := 11) (Nx2.of (Z := Cls w [] [.obj b12 [.bool true, .int .i64 (-1)] 152, .obj b10 [.bool false, .int .i64 0] 152, .obj b9 [.int .i64 x3.Tx, .int .i64 x3.Kind, .int .i64 x3.Item] 164, .obj b1 (List.flatten [(zr Ttx209.rowv gq19 gl18).flatten, [.int .i64 gx8], (zr svRow gq10 gl9).flatten]) 212, .ss (zs Ttx209.sds gq19 gl18), .ss (zs (svSd 3 1 I) gq10 gl9), .sl v55 3 1 (l56.map I), .sl gv3 152 2 (gl4.map TDid.row)]) [] (by kernel_rfl) rfl (Zc.fin (fun _ hw => hw))) rfl rfl ?_
                       refine V2.pass (i := 12) (Nx2.of (Z := Cls w [] [.obj b12 [.bool true, .int .i64 (-1)] 152, .obj b10 [.bool false, .int .i64 0] 152, .obj b9 [.int .i64 x3.Tx, .int .i64 x3.Kind, .int .i64 x3.Item] 164, .obj b1 (List.flatten [(zr Ttx209.rowv gq19 gl18).flatten, [.int .i64 gx8], (zr svRow gq10 gl9).flatten]) 212, .ss (zs Ttx209.sds gq19 gl18), .ss (zs (svSd 3 1 I) gq10 gl9), .sl v55 3 1 (l56.map I), .sl gv3 152 2 (gl4.map TDid.row)]) [] (by kernel_rfl) rfl (Zc.fin (fun _ hw => hw))) rfl rfl ?_
                       refine V2.pass (i := 13) (Nx2.of (Z := Cls w [] [.obj b12 [.bool true, .int .i64 (-1)] 152, .obj b10 [.bool false, .int .i64 0] 152, .obj b9 [.int .i64 x3.Tx, .int .i64 x3.Kind, .int .i64 x3.Item] 164, .obj b1 (List.flatten [(zr Ttx209.rowv gq19 gl18).flatten, [.int .i64 gx8], (zr svRow gq10 gl9).flatten]) 212, .ss (zs Ttx209.sds gq19 gl18), .ss (zs (svSd 3 1 I) gq10 gl9), .sl v55 3 1 (l56.map I), .sl gv3 152 2 (gl4.map TDid.row)]) [] (by kernel_rfl) rfl (Zc.fin (fun _ hw => hw))) rfl rfl ?_
                       refine V2.pass (i := 14) (Nx2.of (Z := Cls w [] [.obj b12 [.bool true, .int .i64 (-1)] 152, .obj b10 [.bool false, .int .i64 0] 152, .obj b9 [.int .i64 x3.Tx, .int .i64 x3.Kind, .int .i64 x3.Item] 164, .obj b1 (List.flatten [(zr Ttx209.rowv gq19 gl18).flatten, [.int .i64 gx8], (zr svRow gq10 gl9).flatten]) 212, .ss (zs Ttx209.sds gq19 gl18), .ss (zs (svSd 3 1 I) gq10 gl9), .sl v55 3 1 (l56.map I), .sl gv3 152 2 (gl4.map TDid.row)]) [] (by kernel_rfl) rfl (Zc.fin (fun _ hw => hw))) rfl rfl ?_
                       refine V2.pass (i := 15) (Nx2.of (Z := Cls w [] [.obj b12 [.bool true, .int .i64 (-1)] 152, .obj b10 [.bool false, .int .i64 0] 152, .obj b9 [.int .i64 x3.Tx, .int .i64 x3.Kind, .int .i64 x3.Item] 164, .obj b1 (List.flatten [(zr Ttx209.rowv gq19 gl18).flatten, [.int .i64 gx8], (zr svRow gq10 gl9).flatten]) 212, .ss (zs Ttx209.sds gq19 gl18), .ss (zs (svSd 3 1 I) gq10 gl9), .sl v55 3 1 (l56.map I), .sl gv3 152 2 (gl4.map TDid.row)]) [] (by kernel_rfl) rfl (Zc.fin (fun _ hw => hw))) rfl rfl ?_
                       refine V2.pass (i := 16) (Nx2.of (Z := Cls w [] [.obj b12 [.bool true, .int .i64 (-1)] 152, .obj b10 [.bool false, .int .i64 0] 152, .obj b9 [.int .i64 x3.Tx, .int .i64 x3.Kind, .int .i64 x3.Item] 164, .obj b1 (List.flatten [(zr Ttx209.rowv gq19 gl18).flatten, [.int .i64 gx8], (zr svRow gq10 gl9).flatten]) 212, .ss (zs Ttx209.sds gq19 gl18), .ss (zs (svSd 3 1 I) gq10 gl9), .sl v55 3 1 (l56.map I), .sl gv3 152 2 (gl4.map TDid.row)]) [] (by kernel_rfl) rfl (Zc.fin (fun _ hw => hw))) rfl rfl ?_
                       refine V2.y (i := 17) (Nx2.of (Z := Cls w [] [.obj b12 [.bool true, .int .i64 (-1)] 152, .obj b10 [.bool false, .int .i64 0] 152, .obj b9 [.int .i64 x3.Tx, .int .i64 x3.Kind, .int .i64 x3.Item] 164, .obj b1 (List.flatten [(zr Ttx209.rowv gq19 gl18).flatten, [.int .i64 gx8], (zr svRow gq10 gl9).flatten]) 212, .ss (zs Ttx209.sds gq19 gl18), .ss (zs (svSd 3 1 I) gq10 gl9), .sl v55 3 1 (l56.map I), .sl gv3 152 2 (gl4.map TDid.row)]) [] (by kernel_rfl) rfl (Zc.fin (fun _ hw => hw))) rfl rfl rfl (Y.pickF rfl rfl) ?_
                       refine V2.y (i := 18) (Nx2.of (Z := Cls w [] [.obj b12 [.bool true, .int .i64 (-1)] 152, .obj b10 [.bool false, .int .i64 0] 152, .obj b9 [.int .i64 x3.Tx, .int .i64 x3.Kind, .int .i64 x3.Item] 164, .obj b1 (List.flatten [(zr Ttx209.rowv gq19 gl18).flatten, [.int .i64 gx8], (zr svRow gq10 gl9).flatten]) 212, .ss (zs Ttx209.sds gq19 gl18), .ss (zs (svSd 3 1 I) gq10 gl9), .sl v55 3 1 (l56.map I), .sl gv3 152 2 (gl4.map TDid.row)]) [] (by kernel_rfl) rfl (Zc.fin (fun _ hw => hw))) rfl rfl rfl (Y.pickF rfl rfl) ?_
                       refine V2.y (i := 19) (Nx2.of (Z := Cls w [] [.obj b12 [.bool true, .int .i64 (-1)] 152, .obj b10 [.bool false, .int .i64 0] 152, .obj b9 [.int .i64 x3.Tx, .int .i64 x3.Kind, .int .i64 x3.Item] 164, .obj b1 (List.flatten [(zr Ttx209.rowv gq19 gl18).flatten, [.int .i64 gx8], (zr svRow gq10 gl9).flatten]) 212, .ss (zs Ttx209.sds gq19 gl18), .ss (zs (svSd 3 1 I) gq10 gl9), .sl v55 3 1 (l56.map I), .sl gv3 152 2 (gl4.map TDid.row)]) [] (by kernel_rfl) rfl (Zc.fin (fun _ hw => hw))) rfl rfl rfl (Y.assign rfl) ?_
                       refine V2.done (by kernel_rfl) ?_
                       exact E.joinJ ⟨false, rfl, rfl, h⟩ ⟨rfl, rfl, rfl, rfl, rfl, rfl, rfl, rfl, rfl, rfl, rfl, rfl, trivial⟩ (fun _ hw => hw)
                    ·
                     rintro _ _ ⟨gb40, rfl, rfl, h⟩
                     rw [m96_skew_Play_K13] at h
                     rcases gb40 with _ | _
                     ·
                      replace h := iteF h
                      refine W.drawn2 (k := 20) (stC [] [] (Cls w [] [.obj b12 [.bool true, .int .i64 (-1)] 152, .obj b10 [.bool false, .int .i64 0] 152, .obj b9 [.int .i64 x3.Tx, .int .i64 x3.Kind, .int .i64 x3.Item] 164, .obj b1 (List.flatten [(zr Ttx209.rowv gq19 gl18).flatten, [.int .i64 gx8], (zr svRow gq10 gl9).flatten]) 212, .ss (zs Ttx209.sds gq19 gl18), .ss (zs (svSd 3 1 I) gq10 gl9), .sl v55 3 1 (l56.map I), .sl gv3 152 2 (gl4.map TDid.row)])) rfl mixed (fun _ hw => hw.drew) (Sc.atD (fun _ hw => hw)) ?_
                      refine V2.iteB (i := 0) h (Nx2.of (Z := Cls w [] [.obj b12 [.bool true, .int .i64 (-1)] 152, .obj b10 [.bool false, .int .i64 0] 152, .obj b9 [.int .i64 x3.Tx, .int .i64 x3.Kind, .int .i64 x3.Item] 164, .obj b1 (List.flatten [(zr Ttx209.rowv gq19 gl18).flatten, [.int .i64 gx8], (zr svRow gq10 gl9).flatten]) 212, .ss (zs Ttx209.sds gq19 gl18), .ss (zs (svSd 3 1 I) gq10 gl9), .sl v55 3 1 (l56.map I), .sl gv3 152 2 (gl4.map TDid.row)]) [] (by kernel_rfl) rfl (Zc.fin (fun _ hw => hw))) rfl rfl rfl (Y.move rfl) (fun c64 h => ?_) (fun c64 h => ?_)
                      ·
                       refine V2.y (i := 1) (Nx2.of (Z := Cls w [] [.obj b12 [.bool true, .int .i64 (-1)] 152, .obj b10 [.bool false, .int .i64 0] 152, .obj b9 [.int .i64 x3.Tx, .int .i64 x3.Kind, .int .i64 x3.Item] 164, .obj b1 (List.flatten [(zr Ttx209.rowv gq19 gl18).flatten, [.int .i64 gx8], (zr svRow gq10 gl9).flatten]) 212, .ss (zs Ttx209.sds gq19 gl18), .ss (zs (svSd 3 1 I) gq10 gl9), .sl v55 3 1 (l56.map I), .sl gv3 152 2 (gl4.map TDid.row)]) [] (by kernel_rfl) rfl (Zc.fin (fun _ hw => hw))) rfl rfl rfl (Y.move rfl) ?_
                       refine V2.pass (i := 2) (Nx2.of (Z := Cls w [] [.obj b12 [.bool true, .int .i64 (-1)] 152, .obj b10 [.bool false, .int .i64 0] 152, .obj b9 [.int .i64 x3.Tx, .int .i64 x3.Kind, .int .i64 x3.Item] 164, .obj b1 (List.flatten [(zr Ttx209.rowv gq19 gl18).flatten, [.int .i64 gx8], (zr svRow gq10 gl9).flatten]) 212, .ss (zs Ttx209.sds gq19 gl18), .ss (zs (svSd 3 1 I) gq10 gl9), .sl v55 3 1 (l56.map I), .sl gv3 152 2 (gl4.map TDid.row)]) [] (by kernel_rfl) rfl (Zc.fin (fun _ hw => hw))) rfl rfl ?_
                       refine V2.pass (i := 3) (Nx2.of (Z := Cls w [] [.obj b12 [.bool true, .int .i64 (-1)] 152, .obj b10 [.bool false, .int .i64 0] 152, .obj b9 [.int .i64 x3.Tx, .int .i64 x3.Kind, .int .i64 x3.Item] 164, .obj b1 (List.flatten [(zr Ttx209.rowv gq19 gl18).flatten, [.int .i64 gx8], (zr svRow gq10 gl9).flatten]) 212, .ss (zs Ttx209.sds gq19 gl18), .ss (zs (svSd 3 1 I) gq10 gl9), .sl v55 3 1 (l56.map I), .sl gv3 152 2 (gl4.map TDid.row)]) [] (by kernel_rfl) rfl (Zc.fin (fun _ hw => hw))) rfl rfl ?_
                       refine V2.pass (i := 4) (Nx2.of (Z := Cls w [] [.obj b12 [.bool true, .int .i64 (-1)] 152, .obj b10 [.bool false, .int .i64 0] 152, .obj b9 [.int .i64 x3.Tx, .int .i64 x3.Kind, .int .i64 x3.Item] 164, .obj b1 (List.flatten [(zr Ttx209.rowv gq19 gl18).flatten, [.int .i64 gx8], (zr svRow gq10 gl9).flatten]) 212, .ss (zs Ttx209.sds gq19 gl18), .ss (zs (svSd 3 1 I) gq10 gl9), .sl v55 3 1 (l56.map I), .sl gv3 152 2 (gl4.map TDid.row)]) [] (by kernel_rfl) rfl (Zc.fin (fun _ hw => hw))) rfl rfl ?_
                       refine V2.pass (i := 5) (Nx2.of (Z := Cls w [] [.obj b12 [.bool true, .int .i64 (-1)] 152, .obj b10 [.bool false, .int .i64 0] 152, .obj b9 [.int .i64 x3.Tx, .int .i64 x3.Kind, .int .i64 x3.Item] 164, .obj b1 (List.flatten [(zr Ttx209.rowv gq19 gl18).flatten, [.int .i64 gx8], (zr svRow gq10 gl9).flatten]) 212, .ss (zs Ttx209.sds gq19 gl18), .ss (zs (svSd 3 1 I) gq10 gl9), .sl v55 3 1 (l56.map I), .sl gv3 152 2 (gl4.map TDid.row)]) [] (by kernel_rfl) rfl (Zc.fin (fun _ hw => hw))) rfl rfl ?_
                       refine V2.pass (i := 6) (Nx2.of (Z := Cls w [] [.obj b12 [.bool true, .int .i64 (-1)] 152, .obj b10 [.bool false, .int .i64 0] 152, .obj b9 [.int .i64 x3.Tx, .int .i64 x3.Kind, .int .i64 x3.Item] 164, .obj b1 (List.flatten [(zr Ttx209.rowv gq19 gl18).flatten, [.int .i64 gx8], (zr svRow gq10 gl9).flatten]) 212, .ss (zs Ttx209.sds gq19 gl18), .ss (zs (svSd 3 1 I) gq10 gl9), .sl v55 3 1 (l56.map I), .sl gv3 152 2 (gl4.map TDid.row)]) [] (by kernel_rfl) rfl (Zc.fin (fun _ hw => hw))) rfl rfl ?_
                       refine V2.pass (i := 7) (Nx2.of (Z := Cls w [] [.obj b12 [.bool true, .int .i64 (-1)] 152, .obj b10 [.bool false, .int .i64 0] 152, .obj b9 [.int .i64 x3.Tx, .int .i64 x3.Kind, .int .i64 x3.Item] 164, .obj b1 (List.flatten [(zr Ttx209.rowv gq19 gl18).flatten, [.int .i64 gx8], (zr svRow gq10 gl9).flatten]) 212, .ss (zs Ttx209.sds gq19 gl18), .ss (zs (svSd 3 1 I) gq10 gl9), .sl v55 3 1 (l56.map I), .sl gv3 152 2 (gl4.map TDid.row)]) [] (by kernel_rfl) rfl (Zc.fin (fun _ hw => hw))) rfl rfl ?_
                       refine V2.pass (i := 8) (Nx2.of (Z := Cls w [] [.obj b12 [.bool true, .int .i64 (-1)] 152, .obj b10 [.bool false, .int .i64 0] 152, .obj b9 [.int .i64 x3.Tx, .int .i64 x3.Kind, .int .i64 x3.Item] 164, .obj b1 (List.flatten [(zr Ttx209.rowv gq19 gl18).flatten, [.int .i64 gx8], (zr svRow gq10 gl9).flatten]) 212, .ss (zs Ttx209.sds gq19 gl18), .ss (zs (svSd 3 1 I) gq10 gl9), .sl v55 3 1 (l56.map I), .sl gv3 152 2 (gl4.map TDid.row)]) [] (by kernel_rfl) rfl (Zc.fin (fun _ hw => hw))) rfl rfl ?_
                       refine V2.pass (i := 9) (Nx2.of (Z := Cls w [] [.obj b12 [.bool true, .int .i64 (-1)] 152, .obj b10 [.bool false, .int .i64 0] 152, .obj b9 [.int .i64 x3.Tx, .int .i64 x3.Kind, .int .i64 x3.Item] 164, .obj b1 (List.flatten [(zr Ttx209.rowv gq19 gl18).flatten, [.int .i64 gx8], (zr svRow gq10 gl9).flatten]) 212, .ss (zs Ttx209.sds gq19 gl18), .ss (zs (svSd 3 1 I) gq10 gl9), .sl v55 3 1 (l56.map I), .sl gv3 152 2 (gl4.map TDid.row)]) [] (by kernel_rfl) rfl (Zc.fin (fun _ hw => hw))) rfl rfl ?_
                       refine V2.pass (i := 10) (Nx2.of (Z := Cls w [] [.obj b12 [.bool true, .int .i64 (-1)] 152, .obj b10 [.bool false, .int .i64 0] 152, .obj b9 [.int .i64 x3.Tx, .int .i64 x3.Kind, .int .i64 x3.Item] 164, .obj b1 (List.flatten [(zr Ttx209.rowv gq19 gl18).flatten, [.int .i64 gx8], (zr svRow gq10 gl9).flatten]) 212, .ss (zs Ttx209.sds gq19 gl18), .ss (zs (svSd 3 1 I) gq10 gl9), .sl v55 3 1 (l56.map I), .sl gv3 152 2 (gl4.map TDid.row)]) [] (by kernel_rfl) rfl (Zc.fin (fun _ hw => hw))) rfl rfl ?_
                       refine V2.pass (i := 11) (Nx2.of (Z := Cls w [] [.obj b12 [.bool true, .int .i64 (-1)] 152, .obj b10 [.bool false, .int .i64 0] 152, .obj b9 [.int .i64 x3.Tx, .int .i64 x3.Kind, .int .i64 x3.Item] 164, .obj b1 (List.flatten [(zr Ttx209.rowv gq19 gl18).flatten, [.int .i64 gx8], (zr svRow gq10 gl9).flatten]) 212, .ss (zs Ttx209.sds gq19 gl18), .ss (zs (svSd 3 1 I) gq10 gl9), .sl v55 3 1 (l56.map I), .sl gv3 152 2 (gl4.map TDid.row)]) [] (by kernel_rfl) rfl (Zc.fin (fun _ hw => hw))) rfl rfl ?_
                       refine V2.pass (i := 12) (Nx2.of (Z := Cls w [] [.obj b12 [.bool true, .int .i64 (-1)] 152, .obj b10 [.bool false, .int .i64 0] 152, .obj b9 [.int .i64 x3.Tx, .int .i64 x3.Kind, .int .i64 x3.Item] 164, .obj b1 (List.flatten [(zr Ttx209.rowv gq19 gl18).flatten, [.int .i64 gx8], (zr svRow gq10 gl9).flatten]) 212, .ss (zs Ttx209.sds gq19 gl18), .ss (zs (svSd 3 1 I) gq10 gl9), .sl v55 3 1 (l56.map I), .sl gv3 152 2 (gl4.map TDid.row)]) [] (by kernel_rfl) rfl (Zc.fin (fun _ hw => hw))) rfl rfl ?_
                       refine V2.pass (i := 13) (Nx2.of (Z := Cls w [] [.obj b12 [.bool true, .int .i64 (-1)] 152, .obj b10 [.bool false, .int .i64 0] 152, .obj b9 [.int .i64 x3.Tx, .int .i64 x3.Kind, .int .i64 x3.Item] 164, .obj b1 (List.flatten [(zr Ttx209.rowv gq19 gl18).flatten, [.int .i64 gx8], (zr svRow gq10 gl9).flatten]) 212, .ss (zs Ttx209.sds gq19 gl18), .ss (zs (svSd 3 1 I) gq10 gl9), .sl v55 3 1 (l56.map I), .sl gv3 152 2 (gl4.map TDid.row)]) [] (by kernel_rfl) rfl (Zc.fin (fun _ hw => hw))) rfl rfl ?_
                       refine V2.pass (i := 14) (Nx2.of (Z := Cls w [] [.obj b12 [.bool true, .int .i64 (-1)] 152, .obj b10 [.bool false, .int .i64 0] 152, .obj b9 [.int .i64 x3.Tx, .int .i64 x3.Kind, .int .i64 x3.Item] 164, .obj b1 (List.flatten [(zr Ttx209.rowv gq19 gl18).flatten, [.int .i64 gx8], (zr svRow gq10 gl9).flatten]) 212, .ss (zs Ttx209.sds gq19 gl18), .ss (zs (svSd 3 1 I) gq10 gl9), .sl v55 3 1 (l56.map I), .sl gv3 152 2 (gl4.map TDid.row)]) [] (by kernel_rfl) rfl (Zc.fin (fun _ hw => hw))) rfl rfl ?_
                       refine V2.pass (i := 15) (Nx2.of (Z := Cls w [] [.obj b12 [.bool true, .int .i64 (-1)] 152, .obj b10 [.bool false, .int .i64 0] 152, .obj b9 [.int .i64 x3.Tx, .int .i64 x3.Kind, .int .i64 x3.Item] 164, .obj b1 (List.flatten [(zr Ttx209.rowv gq19 gl18).flatten, [.int .i64 gx8], (zr svRow gq10 gl9).flatten]) 212, .ss (zs Ttx209.sds gq19 gl18), .ss (zs (svSd 3 1 I) gq10 gl9), .sl v55 3 1 (l56.map I), .sl gv3 152 2 (gl4.map TDid.row)]) [] (by kernel_rfl) rfl (Zc.fin (fun _ hw => hw))) rfl rfl ?_
                       refine V2.pass (i := 16) (Nx2.of (Z := Cls w [] [.obj b12 [.bool true, .int .i64 (-1)] 152, .obj b10 [.bool false, .int .i64 0] 152, .obj b9 [.int .i64 x3.Tx, .int .i64 x3.Kind, .int .i64 x3.Item] 164, .obj b1 (List.flatten [(zr Ttx209.rowv gq19 gl18).flatten, [.int .i64 gx8], (zr svRow gq10 gl9).flatten]) 212, .ss (zs Ttx209.sds gq19 gl18), .ss (zs (svSd 3 1 I) gq10 gl9), .sl v55 3 1 (l56.map I), .sl gv3 152 2 (gl4.map TDid.row)]) [] (by kernel_rfl) rfl (Zc.fin (fun _ hw => hw))) rfl rfl ?_
                       refine V2.pass (i := 17) (Nx2.of (Z := Cls w [] [.obj b12 [.bool true, .int .i64 (-1)] 152, .obj b10 [.bool false, .int .i64 0] 152, .obj b9 [.int .i64 x3.Tx, .int .i64 x3.Kind, .int .i64 x3.Item] 164, .obj b1 (List.flatten [(zr Ttx209.rowv gq19 gl18).flatten, [.int .i64 gx8], (zr svRow gq10 gl9).flatten]) 212, .ss (zs Ttx209.sds gq19 gl18), .ss (zs (svSd 3 1 I) gq10 gl9), .sl v55 3 1 (l56.map I), .sl gv3 152 2 (gl4.map TDid.row)]) [] (by kernel_rfl) rfl (Zc.fin (fun _ hw => hw))) rfl rfl ?_
                       refine V2.y (i := 18) (Nx2.of (Z := Cls w [] [.obj b12 [.bool true, .int .i64 (-1)] 152, .obj b10 [.bool false, .int .i64 0] 152, .obj b9 [.int .i64 x3.Tx, .int .i64 x3.Kind, .int .i64 x3.Item] 164, .obj b1 (List.flatten [(zr Ttx209.rowv gq19 gl18).flatten, [.int .i64 gx8], (zr svRow gq10 gl9).flatten]) 212, .ss (zs Ttx209.sds gq19 gl18), .ss (zs (svSd 3 1 I) gq10 gl9), .sl v55 3 1 (l56.map I), .sl gv3 152 2 (gl4.map TDid.row)]) [] (by kernel_rfl) rfl (Zc.fin (fun _ hw => hw))) rfl rfl rfl (Y.pickT rfl rfl) ?_
                       refine V2.y (i := 19) (Nx2.of (Z := Cls w [] [.obj b12 [.bool true, .int .i64 (-1)] 152, .obj b10 [.bool false, .int .i64 0] 152, .obj b9 [.int .i64 x3.Tx, .int .i64 x3.Kind, .int .i64 x3.Item] 164, .obj b1 (List.flatten [(zr Ttx209.rowv gq19 gl18).flatten, [.int .i64 gx8], (zr svRow gq10 gl9).flatten]) 212, .ss (zs Ttx209.sds gq19 gl18), .ss (zs (svSd 3 1 I) gq10 gl9), .sl v55 3 1 (l56.map I), .sl gv3 152 2 (gl4.map TDid.row)]) [] (by kernel_rfl) rfl (Zc.fin (fun _ hw => hw))) rfl rfl rfl (Y.assign rfl) ?_
                       refine V2.done (by kernel_rfl) ?_
                       refine E.blockN (E.thenN (W.region (L.m (V := fun x65 => .int .i64 x65) h rfl (Y.addM rfl rfl) (fun x65 ex65 h => ?_))))
                       refine L.y rfl (Y.move rfl) ?_
                       exact L.nil (E.againJ ⟨false, true, x65, rfl, rfl, by rw [hg4]; exact h⟩ (Nat.lt_succ_self _) ⟨rfl, rfl, rfl, rfl, rfl, rfl, rfl, rfl, rfl, rfl, rfl, trivial⟩ (fun _ hw => hw))
                      ·
                       refine V2.y (i := 1) (Nx2.of (Z := Cls w [] [.obj b12 [.bool true, .int .i64 (-1)] 152, .obj b10 [.bool false, .int .i64 0] 152, .obj b9 [.int .i64 x3.Tx, .int .i64 x3.Kind, .int .i64 x3.Item] 164, .obj b1 (List.flatten [(zr Ttx209.rowv gq19 gl18).flatten, [.int .i64 gx8], (zr svRow gq10 gl9).flatten]) 212, .ss (zs Ttx209.sds gq19 gl18), .ss (zs (svSd 3 1 I) gq10 gl9), .sl v55 3 1 (l56.map I), .sl gv3 152 2 (gl4.map TDid.row)]) [] (by kernel_rfl) rfl (Zc.fin (fun _ hw => hw))) rfl rfl rfl (Y.move rfl) ?_
                       refine V2.y (i := 2) (Nx2.of (Z := Cls w [] [.obj b12 [.bool true, .int .i64 (-1)] 152, .obj b10 [.bool false, .int .i64 0] 152, .obj b9 [.int .i64 x3.Tx, .int .i64 x3.Kind, .int .i64 x3.Item] 164, .obj b1 (List.flatten [(zr Ttx209.rowv gq19 gl18).flatten, [.int .i64 gx8], (zr svRow gq10 gl9).flatten]) 212, .ss (zs Ttx209.sds gq19 gl18), .ss (zs (svSd 3 1 I) gq10 gl9), .sl v55 3 1 (l56.map I), .sl gv3 152 2 (gl4.map TDid.row)]) [] (by kernel_rfl) rfl (Zc.fin (fun _ hw => hw))) rfl rfl rfl (Y.move rfl) ?_
                       refine V2.y (i := 3) (Nx2.of (Z := Cls w [] [.obj b12 [.bool true, .int .i64 (-1)] 152, .obj b10 [.bool false, .int .i64 0] 152, .obj b9 [.int .i64 x3.Tx, .int .i64 x3.Kind, .int .i64 x3.Item] 164, .obj b1 (List.flatten [(zr Ttx209.rowv gq19 gl18).flatten, [.int .i64 gx8], (zr svRow gq10 gl9).flatten]) 212, .ss (zs Ttx209.sds gq19 gl18), .ss (zs (svSd 3 1 I) gq10 gl9), .sl v55 3 1 (l56.map I), .sl gv3 152 2 (gl4.map TDid.row)]) [] (by kernel_rfl) rfl (Zc.fin (fun _ hw => hw))) rfl rfl rfl (Y.move rfl) ?_
                       refine V2.ite (i := 4) h (Nx2.of (Z := Cls w [] [.obj b12 [.bool true, .int .i64 (-1)] 152, .obj b10 [.bool false, .int .i64 0] 152, .obj b9 [.int .i64 x3.Tx, .int .i64 x3.Kind, .int .i64 x3.Item] 164, .obj b1 (List.flatten [(zr Ttx209.rowv gq19 gl18).flatten, [.int .i64 gx8], (zr svRow gq10 gl9).flatten]) 212, .ss (zs Ttx209.sds gq19 gl18), .ss (zs (svSd 3 1 I) gq10 gl9), .sl v55 3 1 (l56.map I), .sl gv3 152 2 (gl4.map TDid.row)]) [] (by kernel_rfl) rfl (Zc.fin (fun _ hw => hw))) rfl rfl rfl (Y.neq rfl rfl) (fun c66 h => ?_) (fun c66 h => ?_)
                       ·
                        refine V2.y (i := 5) (Nx2.of (Z := Cls w [] [.obj b12 [.bool true, .int .i64 (-1)] 152, .obj b10 [.bool false, .int .i64 0] 152, .obj b9 [.int .i64 x3.Tx, .int .i64 x3.Kind, .int .i64 x3.Item] 164, .obj b1 (List.flatten [(zr Ttx209.rowv gq19 gl18).flatten, [.int .i64 gx8], (zr svRow gq10 gl9).flatten]) 212, .ss (zs Ttx209.sds gq19 gl18), .ss (zs (svSd 3 1 I) gq10 gl9), .sl v55 3 1 (l56.map I), .sl gv3 152 2 (gl4.map TDid.row)]) [] (by kernel_rfl) rfl (Zc.fin (fun _ hw => hw))) rfl rfl rfl (Y.move rfl) ?_
                        refine V2.y (i := 6) (Nx2.of (Z := Cls w [] [.obj b12 [.bool true, .int .i64 (-1)] 152, .obj b10 [.bool false, .int .i64 0] 152, .obj b9 [.int .i64 x3.Tx, .int .i64 x3.Kind, .int .i64 x3.Item] 164, .obj b1 (List.flatten [(zr Ttx209.rowv gq19 gl18).flatten, [.int .i64 gx8], (zr svRow gq10 gl9).flatten]) 212, .ss (zs Ttx209.sds gq19 gl18), .ss (zs (svSd 3 1 I) gq10 gl9), .sl v55 3 1 (l56.map I), .sl gv3 152 2 (gl4.map TDid.row)]) [] (by kernel_rfl) rfl (Zc.fin (fun _ hw => hw))) rfl rfl rfl (Y.move rfl) ?_
                        refine V2.y (i := 7) (Nx2.of (Z := Cls w [] [.obj b12 [.bool true, .int .i64 (-1)] 152, .obj b10 [.bool false, .int .i64 0] 152, .obj b9 [.int .i64 x3.Tx, .int .i64 x3.Kind, .int .i64 x3.Item] 164, .obj b1 (List.flatten [(zr Ttx209.rowv gq19 gl18).flatten, [.int .i64 gx8], (zr svRow gq10 gl9).flatten]) 212, .ss (zs Ttx209.sds gq19 gl18), .ss (zs (svSd 3 1 I) gq10 gl9), .sl v55 3 1 (l56.map I), .sl gv3 152 2 (gl4.map TDid.row)]) [] (by kernel_rfl) rfl (Zc.fin (fun _ hw => hw))) rfl rfl rfl (Y.move rfl) ?_
                        refine V2.nilc (i := 8) (Nx2.of (Z := Cls w [] [.obj b12 [.bool true, .int .i64 (-1)] 152, .obj b10 [.bool false, .int .i64 0] 152, .obj b9 [.int .i64 x3.Tx, .int .i64 x3.Kind, .int .i64 x3.Item] 164, .obj b1 (List.flatten [(zr Ttx209.rowv gq19 gl18).flatten, [.int .i64 gx8], (zr svRow gq10 gl9).flatten]) 212, .ss (zs Ttx209.sds gq19 gl18), .ss (zs (svSd 3 1 I) gq10 gl9), .sl v55 3 1 (l56.map I), .sl gv3 152 2 (gl4.map TDid.row)]) [] (by kernel_rfl) rfl (Zc.fin (fun _ hw => hw))) rfl rfl rfl ?_
                        refine V2.y (i := 9) (Nx2.of (Z := Cls w [] [.obj b12 [.bool true, .int .i64 (-1)] 152, .obj b10 [.bool false, .int .i64 0] 152, .obj b9 [.int .i64 x3.Tx, .int .i64 x3.Kind, .int .i64 x3.Item] 164, .obj b1 (List.flatten [(zr Ttx209.rowv gq19 gl18).flatten, [.int .i64 gx8], (zr svRow gq10 gl9).flatten]) 212, .ss (zs Ttx209.sds gq19 gl18), .ss (zs (svSd 3 1 I) gq10 gl9), .sl v55 3 1 (l56.map I), .sl gv3 152 2 (gl4.map TDid.row)]) [] (by kernel_rfl) rfl (Zc.fin (fun _ hw => hw))) rfl rfl rfl (Y.fieldP fd212_0 rfl) ?_
                        refine V2.m (i := 10) (V' := fun _ => pt b1 (0 + x59.toNat * 6)) h (Nx2.of (Z := Cls w [] [.obj b12 [.bool true, .int .i64 (-1)] 152, .obj b10 [.bool false, .int .i64 0] 152, .obj b9 [.int .i64 x3.Tx, .int .i64 x3.Kind, .int .i64 x3.Item] 164, .obj b1 (List.flatten [(zr Ttx209.rowv gq19 gl18).flatten, [.int .i64 gx8], (zr svRow gq10 gl9).flatten]) 212, .ss (zs Ttx209.sds gq19 gl18), .ss (zs (svSd 3 1 I) gq10 gl9), .sl v55 3 1 (l56.map I), .sl gv3 152 2 (gl4.map TDid.row)]) [] (by kernel_rfl) rfl (Zc.fin (fun _ hw => hw))) rfl rfl rfl (Y.indexAS (l := gl18) Try.underlying210 sz209 rfl rfl) (fun x67 ex67 h => ?_)
                        refine V2.y (i := 11) (Nx2.of (Z := Cls w [] [.obj b12 [.bool true, .int .i64 (-1)] 152, .obj b10 [.bool false, .int .i64 0] 152, .obj b9 [.int .i64 x3.Tx, .int .i64 x3.Kind, .int .i64 x3.Item] 164, .obj b1 (List.flatten [(zr Ttx209.rowv gq19 gl18).flatten, [.int .i64 gx8], (zr svRow gq10 gl9).flatten]) 212, .ss (zs Ttx209.sds gq19 gl18), .ss (zs (svSd 3 1 I) gq10 gl9), .sl v55 3 1 (l56.map I), .sl gv3 152 2 (gl4.map TDid.row)]) [] (by kernel_rfl) rfl (Zc.fin (fun _ hw => hw))) rfl rfl rfl (Y.move rfl) ?_
                        refine V2.y (i := 12) (Nx2.of (Z := Cls w [] [.obj b12 [.bool true, .int .i64 (-1)] 152, .obj b10 [.bool false, .int .i64 0] 152, .obj b9 [.int .i64 x3.Tx, .int .i64 x3.Kind, .int .i64 x3.Item] 164, .obj b1 (List.flatten [(zr Ttx209.rowv gq19 gl18).flatten, [.int .i64 gx8], (zr svRow gq10 gl9).flatten]) 212, .ss (zs Ttx209.sds gq19 gl18), .ss (zs (svSd 3 1 I) gq10 gl9), .sl v55 3 1 (l56.map I), .sl gv3 152 2 (gl4.map TDid.row)]) [] (by kernel_rfl) rfl (Zc.fin (fun _ hw => hw))) rfl rfl rfl (Y.move rfl) ?_
                        refine V2.nilc (i := 13) (Nx2.of (Z := Cls w [] [.obj b12 [.bool true, .int .i64 (-1)] 152, .obj b10 [.bool false, .int .i64 0] 152, .obj b9 [.int .i64 x3.Tx, .int .i64 x3.Kind, .int .i64 x3.Item] 164, .obj b1 (List.flatten [(zr Ttx209.rowv gq19 gl18).flatten, [.int .i64 gx8], (zr svRow gq10 gl9).flatten]) 212, .ss (zs Ttx209.sds gq19 gl18), .ss (zs (svSd 3 1 I) gq10 gl9), .sl v55 3 1 (l56.map I), .sl gv3 152 2 (gl4.map TDid.row)]) [] (by kernel_rfl) rfl (Zc.fin (fun _ hw => hw))) rfl rfl rfl ?_
                        refine V2.y (i := 14) (Nx2.of (Z := Cls w [] [.obj b12 [.bool true, .int .i64 (-1)] 152, .obj b10 [.bool false, .int .i64 0] 152, .obj b9 [.int .i64 x3.Tx, .int .i64 x3.Kind, .int .i64 x3.Item] 164, .obj b1 (List.flatten [(zr Ttx209.rowv gq19 gl18).flatten, [.int .i64 gx8], (zr svRow gq10 gl9).flatten]) 212, .ss (zs Ttx209.sds gq19 gl18), .ss (zs (svSd 3 1 I) gq10 gl9), .sl v55 3 1 (l56.map I), .sl gv3 152 2 (gl4.map TDid.row)]) [] (by kernel_rfl) rfl (Zc.fin (fun _ hw => hw))) rfl rfl rfl (Y.fieldP fd212_0 rfl) ?_
                        refine V2.m (i := 15) (V' := fun _ => pt b1 (0 + x63.toNat * 6)) h (Nx2.of (Z := Cls w [] [.obj b12 [.bool true, .int .i64 (-1)] 152, .obj b10 [.bool false, .int .i64 0] 152, .obj b9 [.int .i64 x3.Tx, .int .i64 x3.Kind, .int .i64 x3.Item] 164, .obj b1 (List.flatten [(zr Ttx209.rowv gq19 gl18).flatten, [.int .i64 gx8], (zr svRow gq10 gl9).flatten]) 212, .ss (zs Ttx209.sds gq19 gl18), .ss (zs (svSd 3 1 I) gq10 gl9), .sl v55 3 1 (l56.map I), .sl gv3 152 2 (gl4.map TDid.row)]) [] (by kernel_rfl) rfl (Zc.fin (fun _ hw => hw))) rfl rfl rfl (Y.indexAS (l := gl18) Try.underlying210 sz209 rfl rfl) (fun x68 ex68 h => ?_)
                        refine V2.eff (i := 16) (by kernel_rfl) rfl ?_
                        refine L.take rfl (L.callJ (fun v D => ∃ (gb41 : Bool), v = .bool gb41 ∧ D = Cls w [] [.obj b12 [.bool true, .int .i64 (-1)] 152, .obj b10 [.bool false, .int .i64 0] 152, .obj b9 [.int .i64 x3.Tx, .int .i64 x3.Kind, .int .i64 x3.Item] 164, .obj b1 (List.flatten [(zr Ttx209.rowv gq19 gl18).flatten, [.int .i64 gx8], (zr svRow gq10 gl9).flatten]) 212, .ss (zs Ttx209.sds gq19 gl18), .ss (zs (svSd 3 1 I) gq10 gl9), .sl v55 3 1 (l56.map I), .sl gv3 152 2 (gl4.map TDid.row)] ∧ m96_skew_Play_K14 gx39 go4 gb41 = some r) rfl en165 rfl Try.func165 rfl rfl rfl ?_ ?_)
                        ·
                         refine W.seq (W.region (L.box rfl rfl ?_))
                         intro b71
                         refine L.y rfl (Y.assign rfl) ?_
                         refine L.nil (E.thenN (W.seq (W.region (L.y rfl (Y.move rfl) ?_))))
                         refine L.y rfl (Y.loadP (i := 0) ag227 rfl rfl rfl) ?_
                         refine L.callJ (fun v D => ∃ (gb42 : Bool), v = .bool gb42 ∧ D = Cls w [] [.obj b71 [pt b1 (0 + x63.toNat * 6)] 227, .obj b12 [.bool true, .int .i64 (-1)] 152, .obj b10 [.bool false, .int .i64 0] 152, .obj b9 [.int .i64 x3.Tx, .int .i64 x3.Kind, .int .i64 x3.Item] 164, .obj b1 (List.flatten [(zr Ttx209.rowv gq19 gl18).flatten, [.int .i64 gx8], (zr svRow gq10 gl9).flatten]) 212, .ss (zs Ttx209.sds gq19 gl18), .ss (zs (svSd 3 1 I) gq10 gl9), .sl gv3 152 2 (gl4.map TDid.row), .sl v55 3 1 (l56.map I)] ∧ m96_skew_Play_K15 x67 x68 gx39 go4 gb42 = some r) rfl en163 rfl Try.func163 rfl rfl rfl ?_ ?_
                         ·
                          refine W.seq (W.region (L.y rfl (Y.assign rfl) ?_))
                          refine L.nil (E.thenN (W.seq (W.quietC mixed (by kernel_rfl) (fun _ hw => hw.drew) (fun hC => ?_))))
                          refine U.cutJ hC 16 (fun gs => ∃ (gb47 : Bool), gs = [(0, pt b1 (0 + x59.toNat * 6)), (1, pt b1 (0 + x63.toNat * 6)), (20, .bool gb47)] ∧ m96_skew_Play_K20 x68 x67 gx39 go4 gb47 = some r) ?_ ?_
                          ·
                           refine U.y rfl (Y.move rfl) ?_
                           refine U.y rfl (Y.nilCheck rfl) ?_
                           refine U.y rfl (Y.fieldP fd209_1 rfl) ?_
                           refine U.iteB h rfl (Y.loadZg (si := 0) (ps := 0) (q := 4) (row := Ttx209.rowv) (vs := gq19) (j := 1) (pv := .bool x67.done_) ag4 rfl rfl rfl rfl sl0 (fun _ _ => rfl) (idxA_idx ex67) rfl) (fun c78 h => ?_) (fun c78 h => ?_)
                           ·
                            refine U.y rfl (Y.not rfl) ?_
                            refine U.y rfl (Y.move rfl) ?_
                            refine U.take rfl (U.y rfl (Y.move rfl) ?_)
                            refine U.take rfl (U.y rfl (Y.nilCheck rfl) ?_)
                            refine U.take rfl (U.y rfl (Y.fieldP fd209_3 rfl) ?_)
                            refine U.take rfl (U.y rfl (Y.loadZg (si := 0) (ps := 0) (q := 4) (row := Ttx209.rowv) (vs := gq19) (j := 3) (pv := .int .i64 x67.at_) ag3 rfl rfl rfl rfl sl0 (fun _ _ => rfl) (idxA_idx ex67) rfl) ?_)
                            refine U.take rfl (U.y rfl (Y.move rfl) ?_)
                            refine U.take rfl (U.y rfl (Y.nilCheck rfl) ?_)
                            refine U.take rfl (U.y rfl (Y.fieldP fd209_2 rfl) ?_)
                            refine U.take rfl (U.y rfl (Y.loadZg (si := 0) (ps := 0) (q := 4) (row := Ttx209.rowv) (vs := gq19) (j := 2) (pv := .int .i64 x68.from_) ag3 rfl rfl rfl rfl sl0 (fun _ _ => rfl) (idxA_idx ex68) rfl) ?_)
                            refine U.take rfl (U.ite h rfl (Y.gtr rfl rfl) (fun c79 h => ?_) (fun c79 h => ?_))
                            ·
                             refine U.y rfl (Y.pickF rfl rfl) ?_
                             exact U.nil (E.joinU ⟨true, rfl, h⟩ ⟨rfl, rfl, rfl, trivial⟩)
                            ·
                             refine U.y rfl (Y.pickF rfl rfl) ?_
                             exact U.nil (E.joinU ⟨false, rfl, h⟩ ⟨rfl, rfl, rfl, trivial⟩)
                           ·
                            refine U.y rfl (Y.not rfl) ?_
                            refine U.y rfl (Y.move rfl) ?_
                            refine U.pass rfl rfl (by nofun) ?_
                            refine U.pass rfl rfl (by nofun) ?_
                            refine U.pass rfl rfl (by nofun) ?_
                            refine U.pass rfl rfl (by nofun) ?_
                            refine U.pass rfl rfl (by nofun) ?_
                            refine U.pass rfl rfl (by nofun) ?_
                            refine U.pass rfl rfl (by nofun) ?_
                            refine U.pass rfl rfl (by nofun) ?_
                            refine U.pass rfl rfl (by nofun) ?_
                            refine U.y rfl (Y.pickT rfl rfl) ?_
                            exact U.nil (E.joinU ⟨true, rfl, h⟩ ⟨rfl, rfl, rfl, trivial⟩)
                          ·
                           rintro _ ⟨gb47, rfl, h⟩
                           rw [m96_skew_Play_K20] at h
                           rcases gb47 with _ | _
                           ·
                            replace h := iteF h
                            refine U.y rfl (Y.move rfl) ?_
                            refine U.pass rfl rfl (by nofun) ?_
                            refine U.pass rfl rfl (by nofun) ?_
                            refine U.pass rfl rfl (by nofun) ?_
                            refine U.pass rfl rfl (by nofun) ?_
                            refine U.pass rfl rfl (by nofun) ?_
                            refine U.pass rfl rfl (by nofun) ?_
                            refine U.pass rfl rfl (by nofun) ?_
                            refine U.pass rfl rfl (by nofun) ?_
                            refine U.pass rfl rfl (by nofun) ?_
                            refine U.pass rfl rfl (by nofun) ?_
                            refine U.pass rfl rfl (by nofun) ?_
                            refine U.pass rfl rfl (by nofun) ?_
                            refine U.pass rfl rfl (by nofun) ?_
                            refine U.pass rfl rfl (by nofun) ?_
                            refine U.pass rfl rfl (by nofun) ?_
                            refine U.pass rfl rfl (by nofun) ?_
                            refine U.y rfl (Y.pickF rfl rfl) ?_
                            refine U.y rfl (Y.assign rfl) ?_
                            refine U.nil (E.thenN (W.ret (E.ret1 rfl rfl (fun w1 hw => ?_))))
                            exact ⟨_, _, rfl, ⟨false, rfl, rfl, h⟩, hw.sel [0, 1, 2, 3, 4, 5, 6, 8, 7] (by decide) rfl⟩
                           ·
                            replace h := iteT h
                            refine U.y rfl (Y.move rfl) ?_
                            refine U.take rfl (U.y rfl (Y.move rfl) ?_)
                            refine U.take rfl (U.y rfl (Y.nilCheck rfl) ?_)
                            refine U.take rfl (U.y rfl (Y.fieldP fd209_1 rfl) ?_)
                            refine U.take rfl (U.iteB h rfl (Y.loadZg (si := 0) (ps := 0) (q := 4) (row := Ttx209.rowv) (vs := gq19) (j := 1) (pv := .bool x68.done_) ag4 rfl rfl rfl rfl sl0 (fun _ _ => rfl) (idxA_idx ex68) rfl) (fun c77 h => ?_) (fun c77 h => ?_))
                            ·
                             refine U.take rfl (U.y rfl (Y.not rfl) ?_)
                             refine U.take rfl (U.y rfl (Y.move rfl) ?_)
                             refine U.take rfl (U.y rfl (Y.move rfl) ?_)
                             refine U.take rfl (U.y rfl (Y.nilCheck rfl) ?_)
                             refine U.take rfl (U.y rfl (Y.fieldP fd209_3 rfl) ?_)
                             refine U.take rfl (U.y rfl (Y.loadZg (si := 0) (ps := 0) (q := 4) (row := Ttx209.rowv) (vs := gq19) (j := 3) (pv := .int .i64 x68.at_) ag3 rfl rfl rfl rfl sl0 (fun _ _ => rfl) (idxA_idx ex68) rfl) ?_)
                             refine U.take rfl (U.y rfl (Y.move rfl) ?_)
                             refine U.take rfl (U.y rfl (Y.nilCheck rfl) ?_)
                             refine U.take rfl (U.y rfl (Y.fieldP fd209_2 rfl) ?_)
                             refine U.take rfl (U.y rfl (Y.loadZg (si := 0) (ps := 0) (q := 4) (row := Ttx209.rowv) (vs := gq19) (j := 2) (pv := .int .i64 x67.from_) ag3 rfl rfl rfl rfl sl0 (fun _ _ => rfl) (idxA_idx ex67) rfl) ?_)
                             refine U.take rfl (U.y rfl (Y.gtr rfl rfl) ?_)
                             refine U.take rfl (U.y rfl (Y.pickF rfl rfl) ?_)
                             refine U.y rfl (Y.pickT rfl rfl) ?_
                             refine U.y rfl (Y.assign rfl) ?_
                             refine U.nil (E.thenN (W.ret (E.ret1 rfl rfl (fun w1 hw => ?_))))
                             exact ⟨_, _, rfl, ⟨decide (x67.from_ < x68.at_), rfl, rfl, h⟩, hw.sel [0, 1, 2, 3, 4, 5, 6, 8, 7] (by decide) rfl⟩
                            ·
                             refine U.take rfl (U.y rfl (Y.not rfl) ?_)
                             refine U.take rfl (U.y rfl (Y.move rfl) ?_)
                             refine U.pass rfl rfl (by nofun) ?_
                             refine U.pass rfl rfl (by nofun) ?_
                             refine U.pass rfl rfl (by nofun) ?_
                             refine U.pass rfl rfl (by nofun) ?_
                             refine U.pass rfl rfl (by nofun) ?_
                             refine U.pass rfl rfl (by nofun) ?_
                             refine U.pass rfl rfl (by nofun) ?_
                             refine U.pass rfl rfl (by nofun) ?_
                             refine U.pass rfl rfl (by nofun) ?_
                             refine U.take rfl (U.y rfl (Y.pickT rfl rfl) ?_)
                             refine U.y rfl (Y.pickT rfl rfl) ?_
                             refine U.y rfl (Y.assign rfl) ?_
                             refine U.nil (E.thenN (W.ret (E.ret1 rfl rfl (fun w1 hw => ?_))))
                             exact ⟨_, _, rfl, ⟨true, rfl, rfl, h⟩, hw.sel [0, 1, 2, 3, 4, 5, 6, 8, 7] (by decide) rfl⟩
                         ·
                          rintro _ _ ⟨gb42, rfl, rfl, h⟩
                          rw [m96_skew_Play_K15] at h
                          rcases gb42 with _ | _
                          ·
                           replace h := iteF h
                           refine L.y rfl (Y.move rfl) ?_
                           refine L.pass rfl rfl (by nofun) ?_
                           refine L.pass rfl rfl (by nofun) ?_
                           refine L.pass rfl rfl (by nofun) ?_
                           refine L.pass rfl rfl (by nofun) ?_
                           refine L.pass rfl rfl (by nofun) ?_
                           refine L.pass rfl rfl (by nofun) ?_
                           refine L.y rfl (Y.pickF rfl rfl) ?_
                           refine L.y rfl (Y.assign rfl) ?_
                           refine L.nil (E.thenN (W.ret (E.ret1 rfl rfl (fun w1 hw => ?_))))
                           exact ⟨_, _, rfl, ⟨false, rfl, rfl, h⟩, hw.sel [1, 2, 3, 4, 5, 6, 8, 7] (by decide) rfl⟩
                          ·
                           replace h := iteT h
                           refine L.y rfl (Y.move rfl) ?_
                           refine L.take rfl (L.y rfl (Y.move rfl) ?_)
                           refine L.take rfl (L.y rfl (Y.nilCheck rfl) ?_)
                           refine L.take rfl (L.y rfl (Y.fieldP fd209_4 rfl) ?_)
                           refine L.take rfl (L.y rfl (Y.loadZg (si := 0) (ps := 0) (q := 4) (row := Ttx209.rowv) (vs := gq19) (j := 4) (pv := gv (gq19 x59.toNat) 0) ag24 rfl rfl rfl rfl sl0 (fun _ _ => rfl) (idxA_idx ex67) rfl) ?_)
                           refine L.take rfl (L.y rfl (Y.func rfl) ?_)
                           refine L.take rfl (L.callJ (fun v D => ∃ (gb43 : Bool), v = .bool gb43 ∧ D = Cls w [] [.obj b12 [.bool true, .int .i64 (-1)] 152, .obj b10 [.bool false, .int .i64 0] 152, .obj b9 [.int .i64 x3.Tx, .int .i64 x3.Kind, .int .i64 x3.Item] 164, .obj b1 (List.flatten [(zr Ttx209.rowv gq19 gl18).flatten, [.int .i64 gx8], (zr svRow gq10 gl9).flatten]) 212, .ss (zs Ttx209.sds gq19 gl18), .ss (zs (svSd 3 1 I) gq10 gl9), .sl gv3 152 2 (gl4.map TDid.row), .sl v55 3 1 (l56.map I)] ∧ m96_skew_Play_K16 gx39 go4 gb43 = some r) rfl en78 rfl Try.func78 rfl rfl rfl ?_ ?_)
                           ·
                            refine W.seq (W.region (L.y rfl (Y.assign rfl) ?_))
                            refine L.nil (E.thenN (W.seq (W.region (L.y rfl (Y.move rfl) ?_))))
                            refine L.y rfl (Y.move rfl) ?_
                            refine L.callJ (fun v D => ∃ (gx44 : Int), v = .int .i64 gx44 ∧ D = Cls w [] [.obj b12 [.bool true, .int .i64 (-1)] 152, .obj b10 [.bool false, .int .i64 0] 152, .obj b9 [.int .i64 x3.Tx, .int .i64 x3.Kind, .int .i64 x3.Item] 164, .obj b1 (List.flatten [(zr Ttx209.rowv gq19 gl18).flatten, [.int .i64 gx8], (zr svRow gq10 gl9).flatten]) 212, .ss (zs Ttx209.sds gq19 gl18), .ss (zs (svSd 3 1 I) gq10 gl9), .sl gv3 152 2 (gl4.map TDid.row), .sl v55 3 1 (l56.map I)] ∧ m96_skew_Play_K17 gx39 go4 gx44 = some r) rfl en133 rfl Try.func133 rfl rfl rfl ?_ ?_
                            ·
                             refine W.seq (W.region (L.y rfl (Y.assign rfl) ?_))
                             refine L.nil (E.thenN (W.seqJ (fun gs D => gs = [] ∧ D = Cls w [] [.obj b12 [.bool true, .int .i64 (-1)] 152, .obj b10 [.bool false, .int .i64 0] 152, .obj b9 [.int .i64 x3.Tx, .int .i64 x3.Kind, .int .i64 x3.Item] 164, .obj b1 (List.flatten [(zr Ttx209.rowv gq19 gl18).flatten, [.int .i64 gx8], (zr svRow gq10 gl9).flatten]) 212, .ss (zs Ttx209.sds gq19 gl18), .ss (zs (svSd 3 1 I) gq10 gl9), .sl gv3 152 2 (gl4.map TDid.row), .sl v55 3 1 (l56.map I)] ∧ m96_skew_Play_K18 gx39 go4 = some r) ?_ ?_))
                             ·
                              refine W.seq (W.region (L.y rfl (Y.move rfl) ?_))
                              refine L.y rfl (Y.lenM (g := I) (l := x67.reads_) Try.underlying24 rfl (fun w hw => As.atZ (sds := Ttx209.sds) (vs := gq19) (j := 0) (c := 2) (hw.get (i := 5) rfl) (fun _ _ => rfl) (idxA_idx ex67) rfl)) ?_
                              refine L.y rfl (Y.move rfl) ?_
                              refine L.nil (E.thenN (W.block (W.loopJ (fun m gs D => ∃ (gx45 : Int), gs = [(0, gv (gq19 x59.toNat) 0), (1, .func (.func 167) #[] #[pt b71 0]), (7, .int .i64 (x67.reads_.length : Int)), (8, .int .i64 gx45)] ∧ D = Cls w [] [.obj b71 [pt b1 (0 + x63.toNat * 6)] 227, .obj b12 [.bool true, .int .i64 (-1)] 152, .obj b10 [.bool false, .int .i64 0] 152, .obj b9 [.int .i64 x3.Tx, .int .i64 x3.Kind, .int .i64 x3.Item] 164, .obj b1 (List.flatten [(zr Ttx209.rowv gq19 gl18).flatten, [.int .i64 gx8], (zr svRow gq10 gl9).flatten]) 212, .ss (zs Ttx209.sds gq19 gl18), .ss (zs (svSd 3 1 I) gq10 gl9), .sl gv3 152 2 (gl4.map TDid.row), .sl v55 3 1 (l56.map I)] ∧ m96_skew_Play_L5 x67 x68 gx39 go4 m gx45 = some r) ⟨0, rfl, rfl, h⟩ ⟨rfl, rfl, rfl, rfl, trivial⟩ (fun _ hw => hw) ?_)))
                              rintro m _ _ ⟨gx45, rfl, rfl, h⟩
                              rcases m with _ | m
                              · rw [m96_skew_Play_L5] at h; cases h
                              rw [m96_skew_Play_L5] at h
                              generalize hg5 : m96_skew_Play_L5 x67 x68 gx39 go4 m = go5 at h
                              rw [m96_skew_Play_L5B] at h
                              refine W.seq (W.region (L.ite h rfl (Y.lss rfl rfl) (fun c72 h => ?_) (fun c72 h => ?_)))
                              ·
                               refine L.nil (E.thenN (W.seq (W.condT rfl ?_)))
                               refine W.skip (E.thenN (W.seq (W.block (W.seq (W.region (L.y rfl (Y.move rfl) ?_))))))
                               refine L.y rfl (Y.assign rfl) ?_
                               refine L.nil (E.thenN (W.seq (W.region (L.y rfl (Y.move rfl) ?_))))
                               refine L.y rfl (Y.move rfl) ?_
                               refine L.y rfl (Y.move rfl) ?_
                               refine L.m (V := fun _ => el (gv (gq19 x59.toNat) 0) (gx45.toNat * 1)) h rfl (Y.indexM (g := I) (l := x67.reads_) Try.underlying24 sz3 rfl rfl (fun w hw => As.atZ (sds := Ttx209.sds) (vs := gq19) (j := 0) (c := 2) (hw.get (i := 5) rfl) (fun _ _ => rfl) (idxA_idx ex67) rfl)) (fun x73 ex73 h => ?_)
                               refine L.y rfl (Y.loadE1 (u := .int .i64 x73) ag3 rfl (fun w hw => As.atZ (sds := Ttx209.sds) (vs := gq19) (j := 0) (c := 2) (hw.get (i := 5) rfl) (fun _ _ => rfl) (idxA_idx ex67) rfl) (idx_map ex73)) ?_
                               refine L.callVJ (fun v D => ∃ (gb46 : Bool), v = .bool gb46 ∧ D = Cls w [] [.obj b71 [pt b1 (0 + x63.toNat * 6)] 227, .obj b12 [.bool true, .int .i64 (-1)] 152, .obj b10 [.bool false, .int .i64 0] 152, .obj b9 [.int .i64 x3.Tx, .int .i64 x3.Kind, .int .i64 x3.Item] 164, .obj b1 (List.flatten [(zr Ttx209.rowv gq19 gl18).flatten, [.int .i64 gx8], (zr svRow gq10 gl9).flatten]) 212, .ss (zs Ttx209.sds gq19 gl18), .ss (zs (svSd 3 1 I) gq10 gl9), .sl gv3 152 2 (gl4.map TDid.row), .sl v55 3 1 (l56.map I)] ∧ m96_skew_Play_K19 gx39 go4 gx45 go5 gb46 = some r) rfl en167 rfl rfl Try.func167 rfl rfl rfl ?_ ?_
                               ·
                                refine W.seq (W.region (L.y rfl (Y.assign rfl) ?_))
                                refine L.nil (E.thenN (W.seq (W.region (L.y rfl (Y.loadP (i := 0) ag227 rfl rfl rfl) ?_))))
                                refine L.y rfl (Y.nilCheck rfl) ?_
                                refine L.y rfl (Y.fieldP fd209_5 rfl) ?_
                                refine L.y rfl (Y.loadZg (si := 0) (ps := 0) (q := 4) (row := Ttx209.rowv) (vs := gq19) (j := 5) (pv := gv (gq19 x63.toNat) 1) ag24 rfl rfl rfl rfl sl0 (fun _ _ => rfl) (idxA_idx ex68) rfl) ?_
                                refine L.y rfl (Y.move rfl) ?_
                                obtain ⟨b75, e76, h⟩ := bind1S h
                                refine L.y rfl (Y.does en134 rfl (fun w' hw => (w134_slices_Contains_int x68.writes_ x73 (gv (gq19 x63.toNat) 1) w' _ e76 (As.atZ (sds := Ttx209.sds) (vs := gq19) (j := 1) (c := 2) (hw.get (i := 5) rfl) (fun _ _ => rfl) (idxA_idx ex68) rfl)).mono (fun _ _ h => h.1))) ?_
                                refine L.y rfl (Y.assign rfl) ?_
                                refine L.nil (E.thenN (W.ret (E.ret1 rfl rfl (fun w1 hw => ?_))))
                                exact ⟨_, _, rfl, ⟨b75, rfl, rfl, h⟩, hw⟩
                               ·
                                rintro _ _ ⟨gb46, rfl, rfl, h⟩
                                rw [m96_skew_Play_K19] at h
                                rcases gb46 with _ | _
                                ·
                                 replace h := iteF h
                                 refine L.nil (E.thenN (W.condF rfl ?_))
                                 refine W.skip (E.blockN (E.thenN (W.region (L.m (V := fun x74 => .int .i64 x74) h rfl (Y.addM rfl rfl) (fun x74 ex74 h => ?_)))))
                                 refine L.y rfl (Y.move rfl) ?_
                                 exact L.nil (E.againJ ⟨x74, rfl, rfl, by rw [hg5]; exact h⟩ (Nat.lt_succ_self _) ⟨rfl, rfl, rfl, rfl, trivial⟩ (fun _ hw => hw))
                                ·
                                 replace h := iteT h
                                 refine L.nil (E.thenN (W.condT rfl ?_))
                                 refine W.seq (W.region (L.y rfl (Y.move rfl) ?_))
                                 refine L.y rfl (Y.assign rfl) ?_
                                 refine L.nil (E.thenN (W.ret (E.blockR (E.thenR (E.KLR (E.blockR (E.KSR (E.ret1 rfl rfl (fun w1 hw => ?_)))))))))
                                 exact ⟨_, _, rfl, ⟨gx45, rfl, rfl, h⟩, hw.sel [1, 2, 3, 4, 5, 6, 7, 8] (by decide) rfl⟩
                              ·
                               refine L.nil (E.thenN (W.seq (W.condF rfl ?_)))
                               exact W.exit (E.thenX (E.KLX (E.blockX (E.joinJ ⟨rfl, rfl, h⟩ trivial (fun _ hw => hw.sel [1, 2, 3, 4, 5, 6, 7, 8] (by decide) rfl)))))
                             ·
                              rintro _ _ ⟨rfl, rfl, h⟩
                              rw [m96_skew_Play_K18] at h
                              refine W.seq (W.region (L.y rfl (Y.assign rfl) ?_))
                              refine L.nil (E.thenN (W.ret (E.ret1 rfl rfl (fun w1 hw => ?_))))
                              exact ⟨_, _, rfl, ⟨(-1), rfl, rfl, h⟩, hw⟩
                            ·
                             rintro _ _ ⟨gx44, rfl, rfl, h⟩
                             rw [m96_skew_Play_K17] at h
                             refine L.y rfl (Y.geq rfl rfl) ?_
                             refine L.y rfl (Y.assign rfl) ?_
                             refine L.nil (E.thenN (W.ret (E.ret1 rfl rfl (fun w1 hw => ?_))))
                             exact ⟨_, _, rfl, ⟨decide (0 ≤ gx44), rfl, rfl, h⟩, hw⟩
                           ·
                            rintro _ _ ⟨gb43, rfl, rfl, h⟩
                            rw [m96_skew_Play_K16] at h
                            refine L.y rfl (Y.pickT rfl rfl) ?_
                            refine L.y rfl (Y.assign rfl) ?_
                            refine L.nil (E.thenN (W.ret (E.ret1 rfl rfl (fun w1 hw => ?_))))
                            exact ⟨_, _, rfl, ⟨gb43, rfl, rfl, h⟩, hw.sel [0, 1, 2, 3, 4, 5, 7, 6] (by decide) rfl⟩
                        ·
                         rintro _ _ ⟨gb41, rfl, rfl, h⟩
                         rw [m96_skew_Play_K14] at h
                         rcases gb41 with _ | _
                         ·
                          replace h := iteF h
                          refine L.nil (E.toV2 (stC [] [] (Cls w [] [.obj b12 [.bool true, .int .i64 (-1)] 152, .obj b10 [.bool false, .int .i64 0] 152, .obj b9 [.int .i64 x3.Tx, .int .i64 x3.Kind, .int .i64 x3.Item] 164, .obj b1 (List.flatten [(zr Ttx209.rowv gq19 gl18).flatten, [.int .i64 gx8], (zr svRow gq10 gl9).flatten]) 212, .ss (zs Ttx209.sds gq19 gl18), .ss (zs (svSd 3 1 I) gq10 gl9), .sl v55 3 1 (l56.map I), .sl gv3 152 2 (gl4.map TDid.row)])) 16 (by kernel_rfl) (Sc.stayD (fun _ hw => hw)) (Sc.atD (fun _ hw => hw)) ?_)
                          refine V2.y (i := 17) (Nx2.of (Z := Cls w [] [.obj b12 [.bool true, .int .i64 (-1)] 152, .obj b10 [.bool false, .int .i64 0] 152, .obj b9 [.int .i64 x3.Tx, .int .i64 x3.Kind, .int .i64 x3.Item] 164, .obj b1 (List.flatten [(zr Ttx209.rowv gq19 gl18).flatten, [.int .i64 gx8], (zr svRow gq10 gl9).flatten]) 212, .ss (zs Ttx209.sds gq19 gl18), .ss (zs (svSd 3 1 I) gq10 gl9), .sl v55 3 1 (l56.map I), .sl gv3 152 2 (gl4.map TDid.row)]) [] (by kernel_rfl) rfl (Zc.fin (fun _ hw => hw))) rfl rfl rfl (Y.pickT rfl rfl) ?_
                          refine V2.y (i := 18) (Nx2.of (Z := Cls w [] [.obj b12 [.bool true, .int .i64 (-1)] 152, .obj b10 [.bool false, .int .i64 0] 152, .obj b9 [.int .i64 x3.Tx, .int .i64 x3.Kind, .int .i64 x3.Item] 164, .obj b1 (List.flatten [(zr Ttx209.rowv gq19 gl18).flatten, [.int .i64 gx8], (zr svRow gq10 gl9).flatten]) 212, .ss (zs Ttx209.sds gq19 gl18), .ss (zs (svSd 3 1 I) gq10 gl9), .sl v55 3 1 (l56.map I), .sl gv3 152 2 (gl4.map TDid.row)]) [] (by kernel_rfl) rfl (Zc.fin (fun _ hw => hw))) rfl rfl rfl (Y.pickF rfl rfl) ?_
                          refine V2.y (i := 19) (Nx2.of (Z := Cls w [] [.obj b12 [.bool true, .int .i64 (-1)] 152, .obj b10 [.bool false, .int .i64 0] 152, .obj b9 [.int .i64 x3.Tx, .int .i64 x3.Kind, .int .i64 x3.Item] 164, .obj b1 (List.flatten [(zr Ttx209.rowv gq19 gl18).flatten, [.int .i64 gx8], (zr svRow gq10 gl9).flatten]) 212, .ss (zs Ttx209.sds gq19 gl18), .ss (zs (svSd 3 1 I) gq10 gl9), .sl v55 3 1 (l56.map I), .sl gv3 152 2 (gl4.map TDid.row)]) [] (by kernel_rfl) rfl (Zc.fin (fun _ hw => hw))) rfl rfl rfl (Y.assign rfl) ?_
                          refine V2.done (by kernel_rfl) ?_
                          refine E.blockN (E.thenN (W.region (L.m (V := fun x69 => .int .i64 x69) h rfl (Y.addM rfl rfl) (fun x69 ex69 h => ?_))))
                          refine L.y rfl (Y.move rfl) ?_
                          exact L.nil (E.againJ ⟨false, false, x69, rfl, rfl, by rw [hg4]; exact h⟩ (Nat.lt_succ_self _) ⟨rfl, rfl, rfl, rfl, rfl, rfl, rfl, rfl, rfl, rfl, rfl, trivial⟩ (fun _ hw => hw))
                         ·
                          replace h := iteT h
                          refine L.nil (E.toV2 (stC [] [] (Cls w [] [.obj b12 [.bool true, .int .i64 (-1)] 152, .obj b10 [.bool false, .int .i64 0] 152, .obj b9 [.int .i64 x3.Tx, .int .i64 x3.Kind, .int .i64 x3.Item] 164, .obj b1 (List.flatten [(zr Ttx209.rowv gq19 gl18).flatten, [.int .i64 gx8], (zr svRow gq10 gl9).flatten]) 212, .ss (zs Ttx209.sds gq19 gl18), .ss (zs (svSd 3 1 I) gq10 gl9), .sl v55 3 1 (l56.map I), .sl gv3 152 2 (gl4.map TDid.row)])) 16 (by kernel_rfl) (Sc.stayD (fun _ hw => hw)) (Sc.atD (fun _ hw => hw)) ?_)
                          refine V2.y (i := 17) (Nx2.of (Z := Cls w [] [.obj b12 [.bool true, .int .i64 (-1)] 152, .obj b10 [.bool false, .int .i64 0] 152, .obj b9 [.int .i64 x3.Tx, .int .i64 x3.Kind, .int .i64 x3.Item] 164, .obj b1 (List.flatten [(zr Ttx209.rowv gq19 gl18).flatten, [.int .i64 gx8], (zr svRow gq10 gl9).flatten]) 212, .ss (zs Ttx209.sds gq19 gl18), .ss (zs (svSd 3 1 I) gq10 gl9), .sl v55 3 1 (l56.map I), .sl gv3 152 2 (gl4.map TDid.row)]) [] (by kernel_rfl) rfl (Zc.fin (fun _ hw => hw))) rfl rfl rfl (Y.pickT rfl rfl) ?_
                          refine V2.y (i := 18) (Nx2.of (Z := Cls w [] [.obj b12 [.bool true, .int .i64 (-1)] 152, .obj b10 [.bool false, .int .i64 0] 152, .obj b9 [.int .i64 x3.Tx, .int .i64 x3.Kind, .int .i64 x3.Item] 164, .obj b1 (List.flatten [(zr Ttx209.rowv gq19 gl18).flatten, [.int .i64 gx8], (zr svRow gq10 gl9).flatten]) 212, .ss (zs Ttx209.sds gq19 gl18), .ss (zs (svSd 3 1 I) gq10 gl9), .sl v55 3 1 (l56.map I), .sl gv3 152 2 (gl4.map TDid.row)]) [] (by kernel_rfl) rfl (Zc.fin (fun _ hw => hw))) rfl rfl rfl (Y.pickF rfl rfl) ?_
                          refine V2.y (i := 19) (Nx2.of (Z := Cls w [] [.obj b12 [.bool true, .int .i64 (-1)] 152, .obj b10 [.bool false, .int .i64 0] 152, .obj b9 [.int .i64 x3.Tx, .int .i64 x3.Kind, .int .i64 x3.Item] 164, .obj b1 (List.flatten [(zr Ttx209.rowv gq19 gl18).flatten, [.int .i64 gx8], (zr svRow gq10 gl9).flatten]) 212, .ss (zs Ttx209.sds gq19 gl18), .ss (zs (svSd 3 1 I) gq10 gl9), .sl v55 3 1 (l56.map I), .sl gv3 152 2 (gl4.map TDid.row)]) [] (by kernel_rfl) rfl (Zc.fin (fun _ hw => hw))) rfl rfl rfl (Y.assign rfl) ?_
                          refine V2.done (by kernel_rfl) ?_
                          refine E.blockN (E.thenN (W.region (L.m (V := fun x70 => .int .i64 x70) h rfl (Y.addM rfl rfl) (fun x70 ex70 h => ?_))))
                          refine L.y rfl (Y.move rfl) ?_
                          exact L.nil (E.againJ ⟨false, true, x70, rfl, rfl, by rw [hg4]; exact h⟩ (Nat.lt_succ_self _) ⟨rfl, rfl, rfl, rfl, rfl, rfl, rfl, rfl, rfl, rfl, rfl, trivial⟩ (fun _ hw => hw))
                       ·
                        refine V2.y (i := 5) (Nx2.of (Z := Cls w [] [.obj b12 [.bool true, .int .i64 (-1)] 152, .obj b10 [.bool false, .int .i64 0] 152, .obj b9 [.int .i64 x3.Tx, .int .i64 x3.Kind, .int .i64 x3.Item] 164, .obj b1 (List.flatten [(zr Ttx209.rowv gq19 gl18).flatten, [.int .i64 gx8], (zr svRow gq10 gl9).flatten]) 212, .ss (zs Ttx209.sds gq19 gl18), .ss (zs (svSd 3 1 I) gq10 gl9), .sl v55 3 1 (l56.map I), .sl gv3 152 2 (gl4.map TDid.row)]) [] (by kernel_rfl) rfl (Zc.fin (fun _ hw => hw))) rfl rfl rfl (Y.move rfl) ?_
                        refine V2.pass (i := 6) (Nx2.of (Z := Cls w [] [.obj b12 [.bool true, .int .i64 (-1)] 152, .obj b10 [.bool false, .int .i64 0] 152, .obj b9 [.int .i64 x3.Tx, .int .i64 x3.Kind, .int .i64 x3.Item] 164, .obj b1 (List.flatten [(zr Ttx209.rowv gq19 gl18).flatten, [.int .i64 gx8], (zr svRow gq10 gl9).flatten]) 212, .ss (zs Ttx209.sds gq19 gl18), .ss (zs (svSd 3 1 I) gq10 gl9), .sl v55 3 1 (l56.map I), .sl gv3 152 2 (gl4.map TDid.row)]) [] (by kernel_rfl) rfl (Zc.fin (fun _ hw => hw))) rfl rfl ?_
                        refine V2.pass (i := 7) (Nx2.of (Z := Cls w [] [.obj b12 [.bool true, .int .i64 (-1)] 152, .obj b10 [.bool false, .int .i64 0] 152, .obj b9 [.int .i64 x3.Tx, .int .i64 x3.Kind, .int .i64 x3.Item] 164, .obj b1 (List.flatten [(zr Ttx209.rowv gq19 gl18).flatten, [.int .i64 gx8], (zr svRow gq10 gl9).flatten]) 212, .ss (zs Ttx209.sds gq19 gl18), .ss (zs (svSd 3 1 I) gq10 gl9), .sl v55 3 1 (l56.map I), .sl gv3 152 2 (gl4.map TDid.row)]) [] (by kernel_rfl) rfl (Zc.fin (fun _ hw => hw))) rfl rfl ?_
                        refine V2.pass (i := 8) (Nx2.of (Z := Cls w [] [.obj b12 [.bool true, .int .i64 (-1)] 152, .obj b10 [.bool false, .int .i64 0] 152, .obj b9 [.int .i64 x3.Tx, .int .i64 x3.Kind, .int .i64 x3.Item] 164, .obj b1 (List.flatten [(zr Ttx209.rowv gq19 gl18).flatten, [.int .i64 gx8], (zr svRow gq10 gl9).flatten]) 212, .ss (zs Ttx209.sds gq19 gl18), .ss (zs (svSd 3 1 I) gq10 gl9), .sl v55 3 1 (l56.map I), .sl gv3 152 2 (gl4.map TDid.row)]) [] (by kernel_rfl) rfl (Zc.fin (fun _ hw => hw))) rfl rfl ?_
                        refine V2.pass (i := 9) (Nx2.of (Z := Cls w [] [.obj b12 [.bool true, .int .i64 (-1)] 152, .obj b10 [.bool false, .int .i64 0] 152, .obj b9 [.int .i64 x3.Tx, .int .i64 x3.Kind, .int .i64 x3.Item] 164, .obj b1 (List.flatten [(zr Ttx209.rowv gq19 gl18).flatten, [.int .i64 gx8], (zr svRow gq10 gl9).flatten]) 212, .ss (zs Ttx209.sds gq19 gl18), .ss (zs (svSd 3 1 I) gq10 gl9), .sl v55 3 1 (l56.map I), .sl gv3 152 2 (gl4.map TDid.row)]) [] (by kernel_rfl) rfl (Zc.fin (fun _ hw => hw))) rfl rfl ?_
                        refine V2.pass (i := 10) (Nx2.of (Z := Cls w [] [.obj b12 [.bool true, .int .i64 (-1)] 152, .obj b10 [.bool false, .int .i64 0] 152, .obj b9 [.int .i64 x3.Tx, .int .i64 x3.Kind, .int .i64 x3.Item] 164, .obj b1 (List.flatten [(zr Ttx209.rowv gq19 gl18).flatten, [.int .i64 gx8], (zr svRow gq10 gl9).flatten]) 212, .ss (zs Ttx209.sds gq19 gl18), .ss (zs (svSd 3 1 I) gq10 gl9), .sl v55 3 1 (l56.map I), .sl gv3 152 2 (gl4.map TDid.row)]) [] (by kernel_rfl) rfl (Zc.fin (fun _ hw => hw))) rfl rfl ?_
                        refine V2.pass (i := 11) (Nx2.of (Z := Cls w [] [.obj b12 [.bool true, .int .i64 (-1)] 152, .obj b10 [.bool false, .int .i64 0] 152, .obj b9 [.int .i64 x3.Tx, .int .i64 x3.Kind, .int .i64 x3.Item] 164, .obj b1 (List.flatten [(zr Ttx209.rowv gq19 gl18).flatten, [.int .i64 gx8], (zr svRow gq10 gl9).flatten]) 212, .ss (zs Ttx209.sds gq19 gl18), .ss (zs (svSd 3 1 I) gq10 gl9), .sl v55 3 1 (l56.map I), .sl gv3 152 2 (gl4.map TDid.row)]) [] (by kernel_rfl) rfl (Zc.fin (fun _ hw => hw))) rfl rfl ?_
                        refine V2.pass (i := 12) (Nx2.of (Z := Cls w [] [.obj b12 [.bool true, .int .i64 (-1)] 152, .obj b10 [.bool false, .int .i64 0] 152, .obj b9 [.int .i64 x3.Tx, .int .i64 x3.Kind, .int .i64 x3.Item] 164, .obj b1 (List.flatten [(zr Ttx209.rowv gq19 gl18).flatten, [.int .i64 gx8], (zr svRow gq10 gl9).flatten]) 212, .ss (zs Ttx209.sds gq19 gl18), .ss (zs (svSd 3 1 I) gq10 gl9), .sl v55 3 1 (l56.map I), .sl gv3 152 2 (gl4.map TDid.row)]) [] (by kernel_rfl) rfl (Zc.fin (fun _ hw => hw))) rfl rfl ?_
                        refine V2.pass (i := 13) (Nx2.of (Z := Cls w [] [.obj b12 [.bool true, .int .i64 (-1)] 152, .obj b10 [.bool false, .int .i64 0] 152, .obj b9 [.int .i64 x3.Tx, .int .i64 x3.Kind, .int .i64 x3.Item] 164, .obj b1 (List.flatten [(zr Ttx209.rowv gq19 gl18).flatten, [.int .i64 gx8], (zr svRow gq10 gl9).flatten]) 212, .ss (zs Ttx209.sds gq19 gl18), .ss (zs (svSd 3 1 I) gq10 gl9), .sl v55 3 1 (l56.map I), .sl gv3 152 2 (gl4.map TDid.row)]) [] (by kernel_rfl) rfl (Zc.fin (fun _ hw => hw))) rfl rfl ?_
                        refine V2.pass (i := 14) (Nx2.of (Z := Cls w [] [.obj b12 [.bool true, .int .i64 (-1)] 152, .obj b10 [.bool false, .int .i64 0] 152, .obj b9 [.int .i64 x3.Tx, .int .i64 x3.Kind, .int .i64 x3.Item] 164, .obj b1 (List.flatten [(zr Ttx209.rowv gq19 gl18).flatten, [.int .i64 gx8], (zr svRow gq10 gl9).flatten]) 212, .ss (zs Ttx209.sds gq19 gl18), .ss (zs (svSd 3 1 I) gq10 gl9), .sl v55 3 1 (l56.map I), .sl gv3 152 2 (gl4.map TDid.row)]) [] (by kernel_rfl) rfl (Zc.fin (fun _ hw => hw))) rfl rfl ?_
                        refine V2.pass (i := 15) (Nx2.of (Z := Cls w [] [.obj b12 [.bool true, .int .i64 (-1)] 152, .obj b10 [.bool false, .int .i64 0] 152, .obj b9 [.int .i64 x3.Tx, .int .i64 x3.Kind, .int .i64 x3.Item] 164, .obj b1 (List.flatten [(zr Ttx209.rowv gq19 gl18).flatten, [.int .i64 gx8], (zr svRow gq10 gl9).flatten]) 212, .ss (zs Ttx209.sds gq19 gl18), .ss (zs (svSd 3 1 I) gq10 gl9), .sl v55 3 1 (l56.map I), .sl gv3 152 2 (gl4.map TDid.row)]) [] (by kernel_rfl) rfl (Zc.fin (fun _ hw => hw))) rfl rfl ?_
                        refine V2.pass (i := 16) (Nx2.of (Z := Cls w [] [.obj b12 [.bool true, .int .i64 (-1)] 152, .obj b10 [.bool false, .int .i64 0] 152, .obj b9 [.int .i64 x3.Tx, .int .i64 x3.Kind, .int .i64 x3.Item] 164, .obj b1 (List.flatten [(zr Ttx209.rowv gq19 gl18).flatten, [.int .i64 gx8], (zr svRow gq10 gl9).flatten]) 212, .ss (zs Ttx209.sds gq19 gl18), .ss (zs (svSd 3 1 I) gq10 gl9), .sl v55 3 1 (l56.map I), .sl gv3 152 2 (gl4.map TDid.row)]) [] (by kernel_rfl) rfl (Zc.fin (fun _ hw => hw))) rfl rfl ?_
                        refine V2.y (i := 17) (Nx2.of (Z := Cls w [] [.obj b12 [.bool true, .int .i64 (-1)] 152, .obj b10 [.bool false, .int .i64 0] 152, .obj b9 [.int .i64 x3.Tx, .int .i64 x3.Kind, .int .i64 x3.Item] 164, .obj b1 (List.flatten [(zr Ttx209.rowv gq19 gl18).flatten, [.int .i64 gx8], (zr svRow gq10 gl9).flatten]) 212, .ss (zs Ttx209.sds gq19 gl18), .ss (zs (svSd 3 1 I) gq10 gl9), .sl v55 3 1 (l56.map I), .sl gv3 152 2 (gl4.map TDid.row)]) [] (by kernel_rfl) rfl (Zc.fin (fun _ hw => hw))) rfl rfl rfl (Y.pickF rfl rfl) ?_
                        refine V2.y (i := 18) (Nx2.of (Z := Cls w [] [.obj b12 [.bool true, .int .i64 (-1)] 152, .obj b10 [.bool false, .int .i64 0] 152, .obj b9 [.int .i64 x3.Tx, .int .i64 x3.Kind, .int .i64 x3.Item] 164, .obj b1 (List.flatten [(zr Ttx209.rowv gq19 gl18).flatten, [.int .i64 gx8], (zr svRow gq10 gl9).flatten]) 212, .ss (zs Ttx209.sds gq19 gl18), .ss (zs (svSd 3 1 I) gq10 gl9), .sl v55 3 1 (l56.map I), .sl gv3 152 2 (gl4.map TDid.row)]) [] (by kernel_rfl) rfl (Zc.fin (fun _ hw => hw))) rfl rfl rfl (Y.pickF rfl rfl) ?_
                        refine V2.y (i := 19) (Nx2.of (Z := Cls w [] [.obj b12 [.bool true, .int .i64 (-1)] 152, .obj b10 [.bool false, .int .i64 0] 152, .obj b9 [.int .i64 x3.Tx, .int .i64 x3.Kind, .int .i64 x3.Item] 164, .obj b1 (List.flatten [(zr Ttx209.rowv gq19 gl18).flatten, [.int .i64 gx8], (zr svRow gq10 gl9).flatten]) 212, .ss (zs Ttx209.sds gq19 gl18), .ss (zs (svSd 3 1 I) gq10 gl9), .sl v55 3 1 (l56.map I), .sl gv3 152 2 (gl4.map TDid.row)]) [] (by kernel_rfl) rfl (Zc.fin (fun _ hw => hw))) rfl rfl rfl (Y.assign rfl) ?_
                        refine V2.done (by kernel_rfl) ?_
                        refine E.blockN (E.thenN (W.region (L.m (V := fun x80 => .int .i64 x80) h rfl (Y.addM rfl rfl) (fun x80 ex80 h => ?_))))
                        refine L.y rfl (Y.move rfl) ?_
                        exact L.nil (E.againJ ⟨false, false, x80, rfl, rfl, by rw [hg4]; exact h⟩ (Nat.lt_succ_self _) ⟨rfl, rfl, rfl, rfl, rfl, rfl, rfl, rfl, rfl, rfl, rfl, trivial⟩ (fun _ hw => hw))
                     ·
                      replace h := iteT h
                      refine W.drawn2 (k := 20) (stC [] [] (Cls w [] [.obj b12 [.bool true, .int .i64 (-1)] 152, .obj b10 [.bool false, .int .i64 0] 152, .obj b9 [.int .i64 x3.Tx, .int .i64 x3.Kind, .int .i64 x3.Item] 164, .obj b1 (List.flatten [(zr Ttx209.rowv gq19 gl18).flatten, [.int .i64 gx8], (zr svRow gq10 gl9).flatten]) 212, .ss (zs Ttx209.sds gq19 gl18), .ss (zs (svSd 3 1 I) gq10 gl9), .sl v55 3 1 (l56.map I), .sl gv3 152 2 (gl4.map TDid.row)])) rfl mixed (fun _ hw => hw.drew) (Sc.atD (fun _ hw => hw)) ?_
                      refine V2.iteB (i := 0) h (Nx2.of (Z := Cls w [] [.obj b12 [.bool true, .int .i64 (-1)] 152, .obj b10 [.bool false, .int .i64 0] 152, .obj b9 [.int .i64 x3.Tx, .int .i64 x3.Kind, .int .i64 x3.Item] 164, .obj b1 (List.flatten [(zr Ttx209.rowv gq19 gl18).flatten, [.int .i64 gx8], (zr svRow gq10 gl9).flatten]) 212, .ss (zs Ttx209.sds gq19 gl18), .ss (zs (svSd 3 1 I) gq10 gl9), .sl v55 3 1 (l56.map I), .sl gv3 152 2 (gl4.map TDid.row)]) [] (by kernel_rfl) rfl (Zc.fin (fun _ hw => hw))) rfl rfl rfl (Y.move rfl) (fun c81 h => ?_) (fun c81 h => ?_)
                      ·
                       refine V2.y (i := 1) (Nx2.of (Z := Cls w [] [.obj b12 [.bool true, .int .i64 (-1)] 152, .obj b10 [.bool false, .int .i64 0] 152, .obj b9 [.int .i64 x3.Tx, .int .i64 x3.Kind, .int .i64 x3.Item] 164, .obj b1 (List.flatten [(zr Ttx209.rowv gq19 gl18).flatten, [.int .i64 gx8], (zr svRow gq10 gl9).flatten]) 212, .ss (zs Ttx209.sds gq19 gl18), .ss (zs (svSd 3 1 I) gq10 gl9), .sl v55 3 1 (l56.map I), .sl gv3 152 2 (gl4.map TDid.row)]) [] (by kernel_rfl) rfl (Zc.fin (fun _ hw => hw))) rfl rfl rfl (Y.move rfl) ?_
                       refine V2.pass (i := 2) (Nx2.of (Z := Cls w [] [.obj b12 [.bool true, .int .i64 (-1)] 152, .obj b10 [.bool false, .int .i64 0] 152, .obj b9 [.int .i64 x3.Tx, .int .i64 x3.Kind, .int .i64 x3.Item] 164, .obj b1 (List.flatten [(zr Ttx209.rowv gq19 gl18).flatten, [.int .i64 gx8], (zr svRow gq10 gl9).flatten]) 212, .ss (zs Ttx209.sds gq19 gl18), .ss (zs (svSd 3 1 I) gq10 gl9), .sl v55 3 1 (l56.map I), .sl gv3 152 2 (gl4.map TDid.row)]) [] (by kernel_rfl) rfl (Zc.fin (fun _ hw => hw))) rfl rfl ?_
                       refine V2.pass (i := 3) (Nx2.of (Z := Cls w [] [.obj b12 [.bool true, .int .i64 (-1)] 152, .obj b10 [.bool false, .int .i64 0] 152, .obj b9 [.int .i64 x3.Tx, .int .i64 x3.Kind, .int .i64 x3.Item] 164, .obj b1 (List.flatten [(zr Ttx209.rowv gq19 gl18).flatten, [.int .i64 gx8], (zr svRow gq10 gl9).flatten]) 212, .ss (zs Ttx209.sds gq19 gl18), .ss (zs (svSd 3 1 I) gq10 gl9), .sl v55 3 1 (l56.map I), .sl gv3 152 2 (gl4.map TDid.row)]) [] (by kernel_rfl) rfl (Zc.fin (fun _ hw => hw))) rfl rfl ?_
                       refine V2.pass (i := 4) (Nx2.of (Z := Cls w [] [.obj b12 [.bool true, .int .i64 (-1)] 152, .obj b10 [.bool false, .int .i64 0] 152, .obj b9 [.int .i64 x3.Tx, .int .i64 x3.Kind, .int .i64 x3.Item] 164, .obj b1 (List.flatten [(zr Ttx209.rowv gq19 gl18).flatten, [.int .i64 gx8], (zr svRow gq10 gl9).flatten]) 212, .ss (zs Ttx209.sds gq19 gl18), .ss (zs (svSd 3 1 I) gq10 gl9), .sl v55 3 1 (l56.map I), .sl gv3 152 2 (gl4.map TDid.row)]) [] (by kernel_rfl) rfl (Zc.fin (fun _ hw => hw))) rfl rfl ?_
                       refine V2.pass (i := 5) (Nx2.of (Z := Cls w [] [.obj b12 [.bool true, .int .i64 (-1)] 152, .obj b10 [.bool false, .int .i64 0] 152, .obj b9 [.int .i64 x3.Tx, .int .i64 x3.Kind, .int .i64 x3.Item] 164, .obj b1 (List.flatten [(zr Ttx209.rowv gq19 gl18).flatten, [.int .i64 gx8], (zr svRow gq10 gl9).flatten]) 212, .ss (zs Ttx209.sds gq19 gl18), .ss (zs (svSd 3 1 I) gq10 gl9), .sl v55 3 1 (l56.map I), .sl gv3 152 2 (gl4.map TDid.row)]) [] (by kernel_rfl) rfl (Zc.fin (fun _ hw => hw))) rfl rfl ?_
                       refine V2.pass (i := 6) (Nx2.of (Z := Cls w [] [.obj b12 [.bool true, .int .i64 (-1)] 152, .obj b10 [.bool false, .int .i64 0] 152, .obj b9 [.int .i64 x3.Tx, .int .i64 x3.Kind, .int .i64 x3.Item] 164, .obj b1 (List.flatten [(zr Ttx209.rowv gq19 gl18).flatten, [.int .i64 gx8], (zr svRow gq10 gl9).flatten]) 212, .ss (zs Ttx209.sds gq19 gl18), .ss (zs (svSd 3 1 I) gq10 gl9), .sl v55 3 1 (l56.map I), .sl gv3 152 2 (gl4.map TDid.row)]) [] (by kernel_rfl) rfl (Zc.fin (fun _ hw => hw))) rfl rfl ?_
                       refine V2.pass (i := 7) (Nx2.of (Z := Cls w [] [.obj b12 [.bool true, .int .i64 (-1)] 152, .obj b10 [.bool false, .int .i64 0] 152, .obj b9 [.int .i64 x3.Tx, .int .i64 x3.Kind, .int .i64 x3.Item] 164, .obj b1 (List.flatten [(zr Ttx209.rowv gq19 gl18).flatten, [.int .i64 gx8], (zr svRow gq10 gl9).flatten]) 212, .ss (zs Ttx209.sds gq19 gl18), .ss (zs (svSd 3 1 I) gq10 gl9), .sl v55 3 1 (l56.map I), .sl gv3 152 2 (gl4.map TDid.row)]) [] (by kernel_rfl) rfl (Zc.fin (fun _ hw => hw))) rfl rfl ?_
                       refine V2.pass (i := 8) (Nx2.of (Z := Cls w [] [.obj b12 [.bool true, .int .i64 (-1)] 152, .obj b10 [.bool false, .int .i64 0] 152, .obj b9 [.int .i64 x3.Tx, .int .i64 x3.Kind, .int .i64 x3.Item] 164, .obj b1 (List.flatten [(zr Ttx209.rowv gq19 gl18).flatten, [.int .i64 gx8], (zr svRow gq10 gl9).flatten]) 212, .ss (zs Ttx209.sds gq19 gl18), .ss (zs (svSd 3 1 I) gq10 gl9), .sl v55 3 1 (l56.map I), .sl gv3 152 2 (gl4.map TDid.row)]) [] (by kernel_rfl) rfl (Zc.fin (fun _ hw => hw))) rfl rfl ?_
                       refine V2.pass (i := 9) (Nx2.of (Z := Cls w [] [.obj b12 [.bool true, .int .i64 (-1)] 152, .obj b10 [.bool false, .int .i64 0] 152, .obj b9 [.int .i64 x3.Tx, .int .i64 x3.Kind, .int .i64 x3.Item] 164, .obj b1 (List.flatten [(zr Ttx209.rowv gq19 gl18).flatten, [.int .i64 gx8], (zr svRow gq10 gl9).flatten]) 212, .ss (zs Ttx209.sds gq19 gl18), .ss (zs (svSd 3 1 I) gq10 gl9), .sl v55 3 1 (l56.map I), .sl gv3 152 2 (gl4.map TDid.row)]) [] (by kernel_rfl) rfl (Zc.fin (fun _ hw => hw))) rfl rfl ?_
                       refine V2.pass (i := 10) (Nx2.of (Z := Cls w [] [.obj b12 [.bool true, .int .i64 (-1)] 152, .obj b10 [.bool false, .int .i64 0] 152, .obj b9 [.int .i64 x3.Tx, .int .i64 x3.Kind, .int .i64 x3.Item] 164, .obj b1 (List.flatten [(zr Ttx209.rowv gq19 gl18).flatten, [.int .i64 gx8], (zr svRow gq10 gl9).flatten]) 212, .ss (zs Ttx209.sds gq19 gl18), .ss (zs (svSd 3 1 I) gq10 gl9), .sl v55 3 1 (l56.map I), .sl gv3 152 2 (gl4.map TDid.row)]) [] (by kernel_rfl) rfl (Zc.fin (fun _ hw => hw))) rfl rfl ?_
                       refine V2.pass (i := 11) (Nx2.of (Z := Cls w [] [.obj b12 [.bool true, .int .i64 (-1)] 152, .obj b10 [.bool false, .int .i64 0] 152, .obj b9 [.int .i64 x3.Tx, .int .i64 x3.Kind, .int .i64 x3.Item] 164, .obj b1 (List.flatten [(zr Ttx209.rowv gq19 gl18).flatten, [.int .i64 gx8], (zr svRow gq10 gl9).flatten]) 212, .ss (zs Ttx209.sds gq19 gl18), .ss (zs (svSd 3 1 I) gq10 gl9), .sl v55 3 1 (l56.map I), .sl gv3 152 2 (gl4.map TDid.row)]) [] (by kernel_rfl) rfl (Zc.fin (fun _ hw => hw))) rfl rfl ?_
                       refine V2.pass (i := 12) (Nx2.of (Z := Cls w [] [.obj b12 [.bool true, .int .i64 (-1)] 152, .obj b10 [.bool false, .int .i64 0] 152, .obj b9 [.int .i64 x3.Tx, .int .i64 x3.Kind, .int .i64 x3.Item] 164, .obj b1 (List.flatten [(zr Ttx209.rowv gq19 gl18).flatten, [.int .i64 gx8], (zr svRow gq10 gl9).flatten]) 212, .ss (zs Ttx209.sds gq19 gl18), .ss (zs (svSd 3 1 I) gq10 gl9), .sl v55 3 1 (l56.map I), .sl gv3 152 2 (gl4.map TDid.row)]) [] (by kernel_rfl) rfl (Zc.fin (fun _ hw => hw))) rfl rfl ?_
                       refine V2.pass (i := 13) (Nx2.of (Z := Cls w [] [.obj b12 [.bool true, .int .i64 (-1)] 152, .obj b10 [.bool false, .int .i64 0] 152, .obj b9 [.int .i64 x3.Tx, .int .i64 x3.Kind, .int .i64 x3.Item] 164, .obj b1 (List.flatten [(zr Ttx209.rowv gq19 gl18).flatten, [.int .i64 gx8], (zr svRow gq10 gl9).flatten]) 212, .ss (zs Ttx209.sds gq19 gl18), .ss (zs (svSd 3 1 I) gq10 gl9), .sl v55 3 1 (l56.map I), .sl gv3 152 2 (gl4.map TDid.row)]) [] (by kernel_rfl) rfl (Zc.fin (fun _ hw => hw))) rfl rfl ?_
                       refine V2.pass (i := 14) (Nx2.of (Z := Cls w [] [.obj b12 [.bool true, .int .i64 (-1)] 152, .obj b10 [.bool false, .int .i64 0] 152, .obj b9 [.int .i64 x3.Tx, .int .i64 x3.Kind, .int .i64 x3.Item] 164, .obj b1 (List.flatten [(zr Ttx209.rowv gq19 gl18).flatten, [.int .i64 gx8], (zr svRow gq10 gl9).flatten]) 212, .ss (zs Ttx209.sds gq19 gl18), .ss (zs (svSd 3 1 I) gq10 gl9), .sl v55 3 1 (l56.map I), .sl gv3 152 2 (gl4.map TDid.row)]) [] (by kernel_rfl) rfl (Zc.fin (fun _ hw => hw))) rfl rfl ?_
                       refine V2.pass (i := 15) (Nx2.of (Z := Cls w [] [.obj b12 [.bool true, .int .i64 (-1)] 152, .obj b10 [.bool false, .int .i64 0] 152, .obj b9 [.int .i64 x3.Tx, .int .i64 x3.Kind, .int .i64 x3.Item] 164, .obj b1 (List.flatten [(zr Ttx209.rowv gq19 gl18).flatten, [.int .i64 gx8], (zr svRow gq10 gl9).flatten]) 212, .ss (zs Ttx209.sds gq19 gl18), .ss (zs (svSd 3 1 I) gq10 gl9), .sl v55 3 1 (l56.map I), .sl gv3 152 2 (gl4.map TDid.row)]) [] (by kernel_rfl) rfl (Zc.fin (fun _ hw => hw))) rfl rfl ?_
                       refine V2.pass (i := 16) (Nx2.of (Z := Cls w [] [.obj b12 [.bool true, .int .i64 (-1)] 152, .obj b10 [.bool false, .int .i64 0] 152, .obj b9 [.int .i64 x3.Tx, .int .i64 x3.Kind, .int .i64 x3.Item] 164, .obj b1 (List.flatten [(zr Ttx209.rowv gq19 gl18).flatten, [.int .i64 gx8], (zr svRow gq10 gl9).flatten]) 212, .ss (zs Ttx209.sds gq19 gl18), .ss (zs (svSd 3 1 I) gq10 gl9), .sl v55 3 1 (l56.map I), .sl gv3 152 2 (gl4.map TDid.row)]) [] (by kernel_rfl) rfl (Zc.fin (fun _ hw => hw))) rfl rfl ?_
                       refine V2.pass (i := 17) (Nx2.of (Z := Cls w [] [.obj b12 [.bool true, .int .i64 (-1)] 152, .obj b10 [.bool false, .int .i64 0] 152, .obj b9 [.int .i64 x3.Tx, .int .i64 x3.Kind, .int .i64 x3.Item] 164, .obj b1 (List.flatten [(zr Ttx209.rowv gq19 gl18).flatten, [.int .i64 gx8], (zr svRow gq10 gl9).flatten]) 212, .ss (zs Ttx209.sds gq19 gl18), .ss (zs (svSd 3 1 I) gq10 gl9), .sl v55 3 1 (l56.map I), .sl gv3 152 2 (gl4.map TDid.row)]) [] (by kernel_rfl) rfl (Zc.fin (fun _ hw => hw))) rfl rfl ?_
                       refine V2.y (i := 18) (Nx2.of (Z := Cls w [] [.obj b12 [.bool true, .int .i64 (-1)] 152, .obj b10 [.bool false, .int .i64 0] 152, .obj b9 [.int .i64 x3.Tx, .int .i64 x3.Kind, .int .i64 x3.Item] 164, .obj b1 (List.flatten [(zr Ttx209.rowv gq19 gl18).flatten, [.int .i64 gx8], (zr svRow gq10 gl9).flatten]) 212, .ss (zs Ttx209.sds gq19 gl18), .ss (zs (svSd 3 1 I) gq10 gl9), .sl v55 3 1 (l56.map I), .sl gv3 152 2 (gl4.map TDid.row)]) [] (by kernel_rfl) rfl (Zc.fin (fun _ hw => hw))) rfl rfl rfl (Y.pickT rfl rfl) ?_
                       refine V2.y (i := 19) (Nx2.of (Z := Cls w [] [.obj b12 [.bool true, .int .i64 (-1)] 152, .obj b10 [.bool false, .int .i64 0] 152, .obj b9 [.int .i64 x3.Tx, .int .i64 x3.Kind, .int .i64 x3.Item] 164, .obj b1 (List.flatten [(zr Ttx209.rowv gq19 gl18).flatten, [.int .i64 gx8], (zr svRow gq10 gl9).flatten]) 212, .ss (zs Ttx209.sds gq19 gl18), .ss (zs (svSd 3 1 I) gq10 gl9), .sl v55 3 1 (l56.map I), .sl gv3 152 2 (gl4.map TDid.row)]) [] (by kernel_rfl) rfl (Zc.fin (fun _ hw => hw))) rfl rfl rfl (Y.assign rfl) ?_
                       refine V2.done (by kernel_rfl) ?_
                       refine E.blockN (E.thenN (W.region (L.m (V := fun x82 => .int .i64 x82) h rfl (Y.addM rfl rfl) (fun x82 ex82 h => ?_))))
                       refine L.y rfl (Y.move rfl) ?_
                       exact L.nil (E.againJ ⟨true, true, x82, rfl, rfl, by rw [hg4]; exact h⟩ (Nat.lt_succ_self _) ⟨rfl, rfl, rfl, rfl, rfl, rfl, rfl, rfl, rfl, rfl, rfl, trivial⟩ (fun _ hw => hw))
                      ·
                       refine V2.y (i := 1) (Nx2.of (Z := Cls w [] [.obj b12 [.bool true, .int .i64 (-1)] 152, .obj b10 [.bool false, .int .i64 0] 152, .obj b9 [.int .i64 x3.Tx, .int .i64 x3.Kind, .int .i64 x3.Item] 164, .obj b1 (List.flatten [(zr Ttx209.rowv gq19 gl18).flatten, [.int .i64 gx8], (zr svRow gq10 gl9).flatten]) 212, .ss (zs Ttx209.sds gq19 gl18), .ss (zs (svSd 3 1 I) gq10 gl9), .sl v55 3 1 (l56.map I), .sl gv3 152 2 (gl4.map TDid.row)]) [] (by kernel_rfl) rfl (Zc.fin (fun _ hw => hw))) rfl rfl rfl (Y.move rfl) ?_
                       refine V2.y (i := 2) (Nx2.of (Z := Cls w [] [.obj b12 [.bool true, .int .i64 (-1)] 152, .obj b10 [.bool false, .int .i64 0] 152, .obj b9 [.int .i64 x3.Tx, .int .i64 x3.Kind, .int .i64 x3.Item] 164, .obj b1 (List.flatten [(zr Ttx209.rowv gq19 gl18).flatten, [.int .i64 gx8], (zr svRow gq10 gl9).flatten]) 212, .ss (zs Ttx209.sds gq19 gl18), .ss (zs (svSd 3 1 I) gq10 gl9), .sl v55 3 1 (l56.map I), .sl gv3 152 2 (gl4.map TDid.row)]) [] (by kernel_rfl) rfl (Zc.fin (fun _ hw => hw))) rfl rfl rfl (Y.move rfl) ?_
                       refine V2.y (i := 3) (Nx2.of (Z := Cls w [] [.obj b12 [.bool true, .int .i64 (-1)] 152, .obj b10 [.bool false, .int .i64 0] 152, .obj b9 [.int .i64 x3.Tx, .int .i64 x3.Kind, .int .i64 x3.Item] 164, .obj b1 (List.flatten [(zr Ttx209.rowv gq19 gl18).flatten, [.int .i64 gx8], (zr svRow gq10 gl9).flatten]) 212, .ss (zs Ttx209.sds gq19 gl18), .ss (zs (svSd 3 1 I) gq10 gl9), .sl v55 3 1 (l56.map I), .sl gv3 152 2 (gl4.map TDid.row)]) [] (by kernel_rfl) rfl (Zc.fin (fun _ hw => hw))) rfl rfl rfl (Y.move rfl) ?_
                       refine V2.ite (i := 4) h (Nx2.of (Z := Cls w [] [.obj b12 [.bool true, .int .i64 (-1)] 152, .obj b10 [.bool false, .int .i64 0] 152, .obj b9 [.int .i64 x3.Tx, .int .i64 x3.Kind, .int .i64 x3.Item] 164, .obj b1 (List.flatten [(zr Ttx209.rowv gq19 gl18).flatten, [.int .i64 gx8], (zr svRow gq10 gl9).flatten]) 212, .ss (zs Ttx209.sds gq19 gl18), .ss (zs (svSd 3 1 I) gq10 gl9), .sl v55 3 1 (l56.map I), .sl gv3 152 2 (gl4.map TDid.row)]) [] (by kernel_rfl) rfl (Zc.fin (fun _ hw => hw))) rfl rfl rfl (Y.neq rfl rfl) (fun c83 h => ?_) (fun c83 h => ?_)
                       ·
                        refine V2.y (i := 5) (Nx2.of (Z := Cls w [] [.obj b12 [.bool true, .int .i64 (-1)] 152, .obj b10 [.bool false, .int .i64 0] 152, .obj b9 [.int .i64 x3.Tx, .int .i64 x3.Kind, .int .i64 x3.Item] 164, .obj b1 (List.flatten [(zr Ttx209.rowv gq19 gl18).flatten, [.int .i64 gx8], (zr svRow gq10 gl9).flatten]) 212, .ss (zs Ttx209.sds gq19 gl18), .ss (zs (svSd 3 1 I) gq10 gl9), .sl v55 3 1 (l56.map I), .sl gv3 152 2 (gl4.map TDid.row)]) [] (by kernel_rfl) rfl (Zc.fin (fun _ hw => hw))) rfl rfl rfl (Y.move rfl) ?_
                        refine V2.y (i := 6) (Nx2.of (Z := Cls w [] [.obj b12 [.bool true, .int .i64 (-1)] 152, .obj b10 [.bool false, .int .i64 0] 152, .obj b9 [.int .i64 x3.Tx, .int .i64 x3.Kind, .int .i64 x3.Item] 164, .obj b1 (List.flatten [(zr Ttx209.rowv gq19 gl18).flatten, [.int .i64 gx8], (zr svRow gq10 gl9).flatten]) 212, .ss (zs Ttx209.sds gq19 gl18), .ss (zs (svSd 3 1 I) gq10 gl9), .sl v55 3 1 (l56.map I), .sl gv3 152 2 (gl4.map TDid.row)]) [] (by kernel_rfl) rfl (Zc.fin (fun _ hw => hw))) rfl rfl rfl (Y.move rfl) ?_
                        refine V2.y (i := 7) (Nx2.of (Z := Cls w [] [.obj b12 [.bool true, .int .i64 (-1)] 152, .obj b10 [.bool false, .int .i64 0] 152, .obj b9 [.int .i64 x3.Tx, .int .i64 x3.Kind, .int .i64 x3.Item] 164, .obj b1 (List.flatten [(zr Ttx209.rowv gq19 gl18).flatten, [.int .i64 gx8], (zr svRow gq10 gl9).flatten]) 212, .ss (zs Ttx209.sds gq19 gl18), .ss (zs (svSd 3 1 I) gq10 gl9), .sl v55 3 1 (l56.map I), .sl gv3 152 2 (gl4.map TDid.row)]) [] (by kernel_rfl) rfl (Zc.fin (fun _ hw => hw))) rfl rfl rfl (Y.move rfl) ?_
                        refine V2.nilc (i := 8) (Nx2.of (Z := Cls w [] [.obj b12 [.bool true, .int .i64 (-1)] 152, .obj b10 [.bool false, .int .i64 0] 152, .obj b9 [.int .i64 x3.Tx, .int .i64 x3.Kind, .int .i64 x3.Item] 164, .obj b1 (List.flatten [(zr Ttx209.rowv gq19 gl18).flatten, [.int .i64 gx8], (zr svRow gq10 gl9).flatten]) 212, .ss (zs Ttx209.sds gq19 gl18), .ss (zs (svSd 3 1 I) gq10 gl9), .sl v55 3 1 (l56.map I), .sl gv3 152 2 (gl4.map TDid.row)]) [] (by kernel_rfl) rfl (Zc.fin (fun _ hw => hw))) rfl rfl rfl ?_
                        refine V2.y (i := 9) (Nx2.of (Z := Cls w [] [.obj b12 [.bool true, .int .i64 (-1)] 152, .obj b10 [.bool false, .int .i64 0] 152, .obj b9 [.int .i64 x3.Tx, .int .i64 x3.Kind, .int .i64 x3.Item] 164, .obj b1 (List.flatten [(zr Ttx209.rowv gq19 gl18).flatten, [.int .i64 gx8], (zr svRow gq10 gl9).flatten]) 212, .ss (zs Ttx209.sds gq19 gl18), .ss (zs (svSd 3 1 I) gq10 gl9), .sl v55 3 1 (l56.map I), .sl gv3 152 2 (gl4.map TDid.row)]) [] (by kernel_rfl) rfl (Zc.fin (fun _ hw => hw))) rfl rfl rfl (Y.fieldP fd212_0 rfl) ?_
                        refine V2.m (i := 10) (V' := fun _ => pt b1 (0 + x59.toNat * 6)) h (Nx2.of (Z := Cls w [] [.obj b12 [.bool true, .int .i64 (-1)] 152, .obj b10 [.bool false, .int .i64 0] 152, .obj b9 [.int .i64 x3.Tx, .int .i64 x3.Kind, .int .i64 x3.Item] 164, .obj b1 (List.flatten [(zr Ttx209.rowv gq19 gl18).flatten, [.int .i64 gx8], (zr svRow gq10 gl9).flatten]) 212, .ss (zs Ttx209.sds gq19 gl18), .ss (zs (svSd 3 1 I) gq10 gl9), .sl v55 3 1 (l56.map I), .sl gv3 152 2 (gl4.map TDid.row)]) [] (by kernel_rfl) rfl (Zc.fin (fun _ hw => hw))) rfl rfl rfl (Y.indexAS (l := gl18) Try.underlying210 sz209 rfl rfl) (fun x84 ex84 h => ?_)
                        refine V2.y (i := 11) (Nx2.of (Z := Cls w [] [.obj b12 [.bool true, .int .i64 (-1)] 152, .obj b10 [.bool false, .int .i64 0] 152, .obj b9 [.int .i64 x3.Tx, .int .i64 x3.Kind, .int .i64 x3.Item] 164, .obj b1 (List.flatten [(zr Ttx209.rowv gq19 gl18).flatten, [.int .i64 gx8], (zr svRow gq10 gl9).flatten]) 212, .ss (zs Ttx209.sds gq19 gl18), .ss (zs (svSd 3 1 I) gq10 gl9), .sl v55 3 1 (l56.map I), .sl gv3 152 2 (gl4.map TDid.row)]) [] (by kernel_rfl) rfl (Zc.fin (fun _ hw => hw))) rfl rfl rfl (Y.move rfl) ?_
                        refine V2.y (i := 12) (Nx2.of (Z := Cls w [] [.obj b12 [.bool true, .int .i64 (-1)] 152, .obj b10 [.bool false, .int .i64 0] 152, .obj b9 [.int .i64 x3.Tx, .int .i64 x3.Kind, .int .i64 x3.Item] 164, .obj b1 (List.flatten [(zr Ttx209.rowv gq19 gl18).flatten, [.int .i64 gx8], (zr svRow gq10 gl9).flatten]) 212, .ss (zs Ttx209.sds gq19 gl18), .ss (zs (svSd 3 1 I) gq10 gl9), .sl v55 3 1 (l56.map I), .sl gv3 152 2 (gl4.map TDid.row)]) [] (by kernel_rfl) rfl (Zc.fin (fun _ hw => hw))) rfl rfl rfl (Y.move rfl) ?_
                        refine V2.nilc (i := 13) (Nx2.of (Z := Cls w [] [.obj b12 [.bool true, .int .i64 (-1)] 152, .obj b10 [.bool false, .int .i64 0] 152, .obj b9 [.int .i64 x3.Tx, .int .i64 x3.Kind, .int .i64 x3.Item] 164, .obj b1 (List.flatten [(zr Ttx209.rowv gq19 gl18).flatten, [.int .i64 gx8], (zr svRow gq10 gl9).flatten]) 212, .ss (zs Ttx209.sds gq19 gl18), .ss (zs (svSd 3 1 I) gq10 gl9), .sl v55 3 1 (l56.map I), .sl gv3 152 2 (gl4.map TDid.row)]) [] (by kernel_rfl) rfl (Zc.fin (fun _ hw => hw))) rfl rfl rfl ?_
                        refine V2.y (i := 14) (Nx2.of (Z := Cls w [] [.obj b12 [.bool true, .int .i64 (-1)] 152, .obj b10 [.bool false, .int .i64 0] 152, .obj b9 [.int .i64 x3.Tx, .int .i64 x3.Kind, .int .i64 x3.Item] 164, .obj b1 (List.flatten [(zr Ttx209.rowv gq19 gl18).flatten, [.int .i64 gx8], (zr svRow gq10 gl9).flatten]) 212, .ss (zs Ttx209.sds gq19 gl18), .ss (zs (svSd 3 1 I) gq10 gl9), .sl v55 3 1 (l56.map I), .sl gv3 152 2 (gl4.map TDid.row)]) [] (by kernel_rfl) rfl (Zc.fin (fun _ hw => hw))) rfl rfl rfl (Y.fieldP fd212_0 rfl) ?_
                        refine V2.m (i := 15) (V' := fun _ => pt b1 (0 + x63.toNat * 6)) h (Nx2.of (Z := Cls w [] [.obj b12 [.bool true, .int .i64 (-1)] 152, .obj b10 [.bool false, .int .i64 0] 152, .obj b9 [.int .i64 x3.Tx, .int .i64 x3.Kind, .int .i64 x3.Item] 164, .obj b1 (List.flatten [(zr Ttx209.rowv gq19 gl18).flatten, [.int .i64 gx8], (zr svRow gq10 gl9).flatten]) 212, .ss (zs Ttx209.sds gq19 gl18), .ss (zs (svSd 3 1 I) gq10 gl9), .sl v55 3 1 (l56.map I), .sl gv3 152 2 (gl4.map TDid.row)]) [] (by kernel_rfl) rfl (Zc.fin (fun _ hw => hw))) rfl rfl rfl (Y.indexAS (l := gl18) Try.underlying210 sz209 rfl rfl) (fun x85 ex85 h => ?_)
                        refine V2.eff (i := 16) (by kernel_rfl) rfl ?_
                        refine L.take rfl (L.callJ (fun v D => ∃ (gb48 : Bool), v = .bool gb48 ∧ D = Cls w [] [.obj b12 [.bool true, .int .i64 (-1)] 152, .obj b10 [.bool false, .int .i64 0] 152, .obj b9 [.int .i64 x3.Tx, .int .i64 x3.Kind, .int .i64 x3.Item] 164, .obj b1 (List.flatten [(zr Ttx209.rowv gq19 gl18).flatten, [.int .i64 gx8], (zr svRow gq10 gl9).flatten]) 212, .ss (zs Ttx209.sds gq19 gl18), .ss (zs (svSd 3 1 I) gq10 gl9), .sl v55 3 1 (l56.map I), .sl gv3 152 2 (gl4.map TDid.row)] ∧ m96_skew_Play_K21 gx39 go4 gb48 = some r) rfl en165 rfl Try.func165 rfl rfl rfl ?_ ?_)
                        ·
                         refine W.seq (W.region (L.box rfl rfl ?_))
                         intro b88
                         refine L.y rfl (Y.assign rfl) ?_
                         refine L.nil (E.thenN (W.seq (W.region (L.y rfl (Y.move rfl) ?_))))
                         refine L.y rfl (Y.loadP (i := 0) ag227 rfl rfl rfl) ?_
                         refine L.callJ (fun v D => ∃ (gb49 : Bool), v = .bool gb49 ∧ D = Cls w [] [.obj b88 [pt b1 (0 + x63.toNat * 6)] 227, .obj b12 [.bool true, .int .i64 (-1)] 152, .obj b10 [.bool false, .int .i64 0] 152, .obj b9 [.int .i64 x3.Tx, .int .i64 x3.Kind, .int .i64 x3.Item] 164, .obj b1 (List.flatten [(zr Ttx209.rowv gq19 gl18).flatten, [.int .i64 gx8], (zr svRow gq10 gl9).flatten]) 212, .ss (zs Ttx209.sds gq19 gl18), .ss (zs (svSd 3 1 I) gq10 gl9), .sl gv3 152 2 (gl4.map TDid.row), .sl v55 3 1 (l56.map I)] ∧ m96_skew_Play_K22 x84 x85 gx39 go4 gb49 = some r) rfl en163 rfl Try.func163 rfl rfl rfl ?_ ?_
                         ·
                          refine W.seq (W.region (L.y rfl (Y.assign rfl) ?_))
                          refine L.nil (E.thenN (W.seq (W.quietC mixed (by kernel_rfl) (fun _ hw => hw.drew) (fun hC => ?_))))
                          refine U.cutJ hC 16 (fun gs => ∃ (gb54 : Bool), gs = [(0, pt b1 (0 + x59.toNat * 6)), (1, pt b1 (0 + x63.toNat * 6)), (20, .bool gb54)] ∧ m96_skew_Play_K27 x85 x84 gx39 go4 gb54 = some r) ?_ ?_
                          ·
                           refine U.y rfl (Y.move rfl) ?_
                           refine U.y rfl (Y.nilCheck rfl) ?_
                           refine U.y rfl (Y.fieldP fd209_1 rfl) ?_
                           refine U.iteB h rfl (Y.loadZg (si := 0) (ps := 0) (q := 4) (row := Ttx209.rowv) (vs := gq19) (j := 1) (pv := .bool x84.done_) ag4 rfl rfl rfl rfl sl0 (fun _ _ => rfl) (idxA_idx ex84) rfl) (fun c95 h => ?_) (fun c95 h => ?_)
                           ·
                            refine U.y rfl (Y.not rfl) ?_
                            refine U.y rfl (Y.move rfl) ?_
                            refine U.take rfl (U.y rfl (Y.move rfl) ?_)
                            refine U.take rfl (U.y rfl (Y.nilCheck rfl) ?_)
                            refine U.take rfl (U.y rfl (Y.fieldP fd209_3 rfl) ?_)
                            refine U.take rfl (U.y rfl (Y.loadZg (si := 0) (ps := 0) (q := 4) (row := Ttx209.rowv) (vs := gq19) (j := 3) (pv := .int .i64 x84.at_) ag3 rfl rfl rfl rfl sl0 (fun _ _ => rfl) (idxA_idx ex84) rfl) ?_)
                            refine U.take rfl (U.y rfl (Y.move rfl) ?_)
                            refine U.take rfl (U.y rfl (Y.nilCheck rfl) ?_)
                            refine U.take rfl (U.y rfl (Y.fieldP fd209_2 rfl) ?_)
                            refine U.take rfl (U.y rfl (Y.loadZg (si := 0) (ps := 0) (q := 4) (row := Ttx209.rowv) (vs := gq19) (j := 2) (pv := .int .i64 x85.from_) ag3 rfl rfl rfl rfl sl0 (fun _ _ => rfl) (idxA_idx ex85) rfl) ?_)
                            refine U.take rfl (U.ite h rfl (Y.gtr rfl rfl) (fun c96 h => ?_) (fun c96 h => ?_))
                            ·
                             refine U.y rfl (Y.pickF rfl rfl) ?_
                             exact U.nil (E.joinU ⟨true, rfl, h⟩ ⟨rfl, rfl, rfl, trivial⟩)
                            ·
                             refine U.y rfl (Y.pickF rfl rfl) ?_
                             exact U.nil (E.joinU ⟨false, rfl, h⟩ ⟨rfl, rfl, rfl, trivial⟩)
                           ·
                            refine U.y rfl (Y.not rfl) ?_
                            refine U.y rfl (Y.move rfl) ?_
                            refine U.pass rfl rfl (by nofun) ?_
                            refine U.pass rfl rfl (by nofun) ?_
                            refine U.pass rfl rfl (by nofun) ?_
                            refine U.pass rfl rfl (by nofun) ?_
                            refine U.pass rfl rfl (by nofun) ?_
                            refine U.pass rfl rfl (by nofun) ?_
                            refine U.pass rfl rfl (by nofun) ?_
                            refine U.pass rfl rfl (by nofun) ?_
                            refine U.pass rfl rfl (by nofun) ?_
                            refine U.y rfl (Y.pickT rfl rfl) ?_
                            exact U.nil (E.joinU ⟨true, rfl, h⟩ ⟨rfl, rfl, rfl, trivial⟩)
                          ·
                           rintro _ ⟨gb54, rfl, h⟩
                           rw [m96_skew_Play_K27] at h
                           rcases gb54 with _ | _
                           ·
                            replace h := iteF h
                            refine U.y rfl (Y.move rfl) ?_
                            refine U.pass rfl rfl (by nofun) ?_
                            refine U.pass rfl rfl (by nofun) ?_
                            refine U.pass rfl rfl (by nofun) ?_
                            refine U.pass rfl rfl (by nofun) ?_
                            refine U.pass rfl rfl (by nofun) ?_
                            refine U.pass rfl rfl (by nofun) ?_
                            refine U.pass rfl rfl (by nofun) ?_
                            refine U.pass rfl rfl (by nofun) ?_
                            refine U.pass rfl rfl (by nofun) ?_
                            refine U.pass rfl rfl (by nofun) ?_
                            refine U.pass rfl rfl (by nofun) ?_
                            refine U.pass rfl rfl (by nofun) ?_
                            refine U.pass rfl rfl (by nofun) ?_
                            refine U.pass rfl rfl (by nofun) ?_
                            refine U.pass rfl rfl (by nofun) ?_
                            refine U.pass rfl rfl (by nofun) ?_
                            refine U.y rfl (Y.pickF rfl rfl) ?_
                            refine U.y rfl (Y.assign rfl) ?_
                            refine U.nil (E.thenN (W.ret (E.ret1 rfl rfl (fun w1 hw => ?_))))
                            exact ⟨_, _, rfl, ⟨false, rfl, rfl, h⟩, hw.sel [0, 1, 2, 3, 4, 5, 6, 8, 7] (by decide) rfl⟩
                           ·
                            replace h := iteT h
                            refine U.y rfl (Y.move rfl) ?_
                            refine U.take rfl (U.y rfl (Y.move rfl) ?_)
                            refine U.take rfl (U.y rfl (Y.nilCheck rfl) ?_)
                            refine U.take rfl (U.y rfl (Y.fieldP fd209_1 rfl) ?_)
                            refine U.take rfl (U.iteB h rfl (Y.loadZg (si := 0) (ps := 0) (q := 4) (row := Ttx209.rowv) (vs := gq19) (j := 1) (pv := .bool x85.done_) ag4 rfl rfl rfl rfl sl0 (fun _ _ => rfl) (idxA_idx ex85) rfl) (fun c94 h => ?_) (fun c94 h => ?_))
                            ·
                             refine U.take rfl (U.y rfl (Y.not rfl) ?_)
                             refine U.take rfl (U.y rfl (Y.move rfl) ?_)
                             refine U.take rfl (U.y rfl (Y.move rfl) ?_)
                             refine U.take rfl (U.y rfl (Y.nilCheck rfl) ?_)
                             refine U.take rfl (U.y rfl (Y.fieldP fd209_3 rfl) ?_)
                             refine U.take rfl (U.y rfl (Y.loadZg (si := 0) (ps := 0) (q := 4) (row := Ttx209.rowv) (vs := gq19) (j := 3) (pv := .int .i64 x85.at_) ag3 rfl rfl rfl rfl sl0 (fun _ _ => rfl) (idxA_idx ex85) rfl) ?_)
                             refine U.take rfl (U.y rfl (Y.move rfl) ?_)
                             refine U.take rfl (U.y rfl (Y.nilCheck rfl) ?_)
                             refine U.take rfl (U.y rfl (Y.fieldP fd209_2 rfl) ?_)
                             refine U.take rfl (U.y rfl (Y.loadZg (si := 0) (ps := 0) (q := 4) (row := Ttx209.rowv) (vs := gq19) (j := 2) (pv := .int .i64 x84.from_) ag3 rfl rfl rfl rfl sl0 (fun _ _ => rfl) (idxA_idx ex84) rfl) ?_)
                             refine U.take rfl (U.y rfl (Y.gtr rfl rfl) ?_)
                             refine U.take rfl (U.y rfl (Y.pickF rfl rfl) ?_)
                             refine U.y rfl (Y.pickT rfl rfl) ?_
                             refine U.y rfl (Y.assign rfl) ?_
                             refine U.nil (E.thenN (W.ret (E.ret1 rfl rfl (fun w1 hw => ?_))))
                             exact ⟨_, _, rfl, ⟨decide (x84.from_ < x85.at_), rfl, rfl, h⟩, hw.sel [0, 1, 2, 3, 4, 5, 6, 8, 7] (by decide) rfl⟩
                            ·
                             refine U.take rfl (U.y rfl (Y.not rfl) ?_)
                             refine U.take rfl (U.y rfl (Y.move rfl) ?_)
                             refine U.pass rfl rfl (by nofun) ?_
                             refine U.pass rfl rfl (by nofun) ?_
                             refine U.pass rfl rfl (by nofun) ?_
                             refine U.pass rfl rfl (by nofun) ?_
                             refine U.pass rfl rfl (by nofun) ?_
                             refine U.pass rfl rfl (by nofun) ?_
                             refine U.pass rfl rfl (by nofun) ?_
                             refine U.pass rfl rfl (by nofun) ?_
                             refine U.pass rfl rfl (by nofun) ?_
                             refine U.take rfl (U.y rfl (Y.pickT rfl rfl) ?_)
                             refine U.y rfl (Y.pickT rfl rfl) ?_
                             refine U.y rfl (Y.assign rfl) ?_
                             refine U.nil (E.thenN (W.ret (E.ret1 rfl rfl (fun w1 hw => ?_))))
                             exact ⟨_, _, rfl, ⟨true, rfl, rfl, h⟩, hw.sel [0, 1, 2, 3, 4, 5, 6, 8, 7] (by decide) rfl⟩
                         ·
                          rintro _ _ ⟨gb49, rfl, rfl, h⟩
                          rw [m96_skew_Play_K22] at h
                          rcases gb49 with _ | _
                          ·
                           replace h := iteF h
                           refine L.y rfl (Y.move rfl) ?_
                           refine L.pass rfl rfl (by nofun) ?_
                           refine L.pass rfl rfl (by nofun) ?_
                           refine L.pass rfl rfl (by nofun) ?_
                           refine L.pass rfl rfl (by nofun) ?_
                           refine L.pass rfl rfl (by nofun) ?_
                           refine L.pass rfl rfl (by nofun) ?_
                           refine L.y rfl (Y.pickF rfl rfl) ?_
                           refine L.y rfl (Y.assign rfl) ?_
                           refine L.nil (E.thenN (W.ret (E.ret1 rfl rfl (fun w1 hw => ?_))))
                           exact ⟨_, _, rfl, ⟨false, rfl, rfl, h⟩, hw.sel [1, 2, 3, 4, 5, 6, 8, 7] (by decide) rfl⟩
                          ·
                           replace h := iteT h
                           refine L.y rfl (Y.move rfl) ?_
                           refine L.take rfl (L.y rfl (Y.move rfl) ?_)
                           refine L.take rfl (L.y rfl (Y.nilCheck rfl) ?_)
                           refine L.take rfl (L.y rfl (Y.fieldP fd209_4 rfl) ?_)
                           refine L.take rfl (L.y rfl (Y.loadZg (si := 0) (ps := 0) (q := 4) (row := Ttx209.rowv) (vs := gq19) (j := 4) (pv := gv (gq19 x59.toNat) 0) ag24 rfl rfl rfl rfl sl0 (fun _ _ => rfl) (idxA_idx ex84) rfl) ?_)
                           refine L.take rfl (L.y rfl (Y.func rfl) ?_)
                           refine L.take rfl (L.callJ (fun v D => ∃ (gb50 : Bool), v = .bool gb50 ∧ D = Cls w [] [.obj b12 [.bool true, .int .i64 (-1)] 152, .obj b10 [.bool false, .int .i64 0] 152, .obj b9 [.int .i64 x3.Tx, .int .i64 x3.Kind, .int .i64 x3.Item] 164, .obj b1 (List.flatten [(zr Ttx209.rowv gq19 gl18).flatten, [.int .i64 gx8], (zr svRow gq10 gl9).flatten]) 212, .ss (zs Ttx209.sds gq19 gl18), .ss (zs (svSd 3 1 I) gq10 gl9), .sl gv3 152 2 (gl4.map TDid.row), .sl v55 3 1 (l56.map I)] ∧ m96_skew_Play_K23 gx39 go4 gb50 = some r) rfl en78 rfl Try.func78 rfl rfl rfl ?_ ?_)
                           ·
                            refine W.seq (W.region (L.y rfl (Y.assign rfl) ?_))
                            refine L.nil (E.thenN (W.seq (W.region (L.y rfl (Y.move rfl) ?_))))
                            refine L.y rfl (Y.move rfl) ?_
                            refine L.callJ (fun v D => ∃ (gx51 : Int), v = .int .i64 gx51 ∧ D = Cls w [] [.obj b12 [.bool true, .int .i64 (-1)] 152, .obj b10 [.bool false, .int .i64 0] 152, .obj b9 [.int .i64 x3.Tx, .int .i64 x3.Kind, .int .i64 x3.Item] 164, .obj b1 (List.flatten [(zr Ttx209.rowv gq19 gl18).flatten, [.int .i64 gx8], (zr svRow gq10 gl9).flatten]) 212, .ss (zs Ttx209.sds gq19 gl18), .ss (zs (svSd 3 1 I) gq10 gl9), .sl gv3 152 2 (gl4.map TDid.row), .sl v55 3 1 (l56.map I)] ∧ m96_skew_Play_K24 gx39 go4 gx51 = some r) rfl en133 rfl Try.func133 rfl rfl rfl ?_ ?_
                            ·
                             refine W.seq (W.region (L.y rfl (Y.assign rfl) ?_))
                             refine L.nil (E.thenN (W.seqJ (fun gs D => gs = [] ∧ D = Cls w [] [.obj b12 [.bool true, .int .i64 (-1)] 152, .obj b10 [.bool false, .int .i64 0] 152, .obj b9 [.int .i64 x3.Tx, .int .i64 x3.Kind, .int .i64 x3.Item] 164, .obj b1 (List.flatten [(zr Ttx209.rowv gq19 gl18).flatten, [.int .i64 gx8], (zr svRow gq10 gl9).flatten]) 212, .ss (zs Ttx209.sds gq19 gl18), .ss (zs (svSd 3 1 I) gq10 gl9), .sl gv3 152 2 (gl4.map TDid.row), .sl v55 3 1 (l56.map I)] ∧ m96_skew_Play_K25 gx39 go4 = some r) ?_ ?_))
                             ·
                              refine W.seq (W.region (L.y rfl (Y.move rfl) ?_))
                              refine L.y rfl (Y.lenM (g := I) (l := x84.reads_) Try.underlying24 rfl (fun w hw => As.atZ (sds := Ttx209.sds) (vs := gq19) (j := 0) (c := 2) (hw.get (i := 5) rfl) (fun _ _ => rfl) (idxA_idx ex84) rfl)) ?_
                              refine L.y rfl (Y.move rfl) ?_
                              refine L.nil (E.thenN (W.block (W.loopJ (fun m gs D => ∃ (gx52 : Int), gs = [(0, gv (gq19 x59.toNat) 0), (1, .func (.func 167) #[] #[pt b88 0]), (7, .int .i64 (x84.reads_.length : Int)), (8, .int .i64 gx52)] ∧ D = Cls w [] [.obj b88 [pt b1 (0 + x63.toNat * 6)] 227, .obj b12 [.bool true, .int .i64 (-1)] 152, .obj b10 [.bool false, .int .i64 0] 152, .obj b9 [.int .i64 x3.Tx, .int .i64 x3.Kind, .int .i64 x3.Item] 164, .obj b1 (List.flatten [(zr Ttx209.rowv gq19 gl18).flatten, [.int .i64 gx8], (zr svRow gq10 gl9).flatten]) 212, .ss (zs Ttx209.sds gq19 gl18), .ss (zs (svSd 3 1 I) gq10 gl9), .sl gv3 152 2 (gl4.map TDid.row), .sl v55 3 1 (l56.map I)] ∧ m96_skew_Play_L6 x84 x85 gx39 go4 m gx52 = some r) ⟨0, rfl, rfl, h⟩ ⟨rfl, rfl, rfl, rfl, trivial⟩ (fun _ hw => hw) ?_)))
                              rintro m _ _ ⟨gx52, rfl, rfl, h⟩
                              rcases m with _ | m
                              · rw [m96_skew_Play_L6] at h; cases h
                              rw [m96_skew_Play_L6] at h
                              generalize hg6 : m96_skew_Play_L6 x84 x85 gx39 go4 m = go6 at h
                              rw [m96_skew_Play_L6B] at h
                              refine W.seq (W.region (L.ite h rfl (Y.lss rfl rfl) (fun c89 h => ?_) (fun c89 h => ?_)))
                              ·
                               refine L.nil (E.thenN (W.seq (W.condT rfl ?_)))
                               refine W.skip (E.thenN (W.seq (W.block (W.seq (W.region (L.y rfl (Y.move rfl) ?_))))))
                               refine L.y rfl (Y.assign rfl) ?_
                               refine L.nil (E.thenN (W.seq (W.region (L.y rfl (Y.move rfl) ?_))))
                               refine L.y rfl (Y.move rfl) ?_
                               refine L.y rfl (Y.move rfl) ?_
                               refine L.m (V := fun _ => el (gv (gq19 x59.toNat) 0) (gx52.toNat * 1)) h rfl (Y.indexM (g := I) (l := x84.reads_) Try.underlying24 sz3 rfl rfl (fun w hw => As.atZ (sds := Ttx209.sds) (vs := gq19) (j := 0) (c := 2) (hw.get (i := 5) rfl) (fun _ _ => rfl) (idxA_idx ex84) rfl)) (fun x90 ex90 h => ?_)
                               refine L.y rfl (Y.loadE1 (u := .int .i64 x90) ag3 rfl (fun w hw => As.atZ (sds := Ttx209.sds) (vs := gq19) (j := 0) (c := 2) (hw.get (i := 5) rfl) (fun _ _ => rfl) (idxA_idx ex84) rfl) (idx_map ex90)) ?_
                               refine L.callVJ (fun v D => ∃ (gb53 : Bool), v = .bool gb53 ∧ D = Cls w [] [.obj b88 [pt b1 (0 + x63.toNat * 6)] 227, .obj b12 [.bool true, .int .i64 (-1)] 152, .obj b10 [.bool false, .int .i64 0] 152, .obj b9 [.int .i64 x3.Tx, .int .i64 x3.Kind, .int .i64 x3.Item] 164, .obj b1 (List.flatten [(zr Ttx209.rowv gq19 gl18).flatten, [.int .i64 gx8], (zr svRow gq10 gl9).flatten]) 212, .ss (zs Ttx209.sds gq19 gl18), .ss (zs (svSd 3 1 I) gq10 gl9), .sl gv3 152 2 (gl4.map TDid.row), .sl v55 3 1 (l56.map I)] ∧ m96_skew_Play_K26 gx39 go4 gx52 go6 gb53 = some r) rfl en167 rfl rfl Try.func167 rfl rfl rfl ?_ ?_
                               ·
                                refine W.seq (W.region (L.y rfl (Y.assign rfl) ?_))
                                refine L.nil (E.thenN (W.seq (W.region (L.y rfl (Y.loadP (i := 0) ag227 rfl rfl rfl) ?_))))
                                refine L.y rfl (Y.nilCheck rfl) ?_
                                refine L.y rfl (Y.fieldP fd209_5 rfl) ?_
                                refine L.y rfl (Y.loadZg (si := 0) (ps := 0) (q := 4) (row := Ttx209.rowv) (vs := gq19) (j := 5) (pv := gv (gq19 x63.toNat) 1) ag24 rfl rfl rfl rfl sl0 (fun _ _ => rfl) (idxA_idx ex85) rfl) ?_
                                refine L.y rfl (Y.move rfl) ?_
                                obtain ⟨b92, e93, h⟩ := bind1S h
                                refine L.y rfl (Y.does en134 rfl (fun w' hw => (w134_slices_Contains_int x85.writes_ x90 (gv (gq19 x63.toNat) 1) w' _ e93 (As.atZ (sds := Ttx209.sds) (vs := gq19) (j := 1) (c := 2) (hw.get (i := 5) rfl) (fun _ _ => rfl) (idxA_idx ex85) rfl)).mono (fun _ _ h => h.1))) ?_
                                refine L.y rfl (Y.assign rfl) ?_
                                refine L.nil (E.thenN (W.ret (E.ret1 rfl rfl (fun w1 hw => ?_))))
                                exact ⟨_, _, rfl, ⟨b92, rfl, rfl, h⟩, hw⟩
                               ·
                                rintro _ _ ⟨gb53, rfl, rfl, h⟩
                                rw [m96_skew_Play_K26] at h
                                rcases gb53 with _ | _
                                ·
                                 replace h := iteF h
                                 refine L.nil (E.thenN (W.condF rfl ?_))
                                 refine W.skip (E.blockN (E.thenN (W.region (L.m (V := fun x91 => .int .i64 x91) h rfl (Y.addM rfl rfl) (fun x91 ex91 h => ?_)))))
                                 refine L.y rfl (Y.move rfl) ?_
                                 exact L.nil (E.againJ ⟨x91, rfl, rfl, by rw [hg6]; exact h⟩ (Nat.lt_succ_self _) ⟨rfl, rfl, rfl, rfl, trivial⟩ (fun _ hw => hw))
                                ·
                                 replace h := iteT h
                                 refine L.nil (E.thenN (W.condT rfl ?_))
                                 refine W.seq (W.region (L.y rfl (Y.move rfl) ?_))
                                 refine L.y rfl (Y.assign rfl) ?_
                                 refine L.nil (E.thenN (W.ret (E.blockR (E.thenR (E.KLR (E.blockR (E.KSR (E.ret1 rfl rfl (fun w1 hw => ?_)))))))))
                                 exact ⟨_, _, rfl, ⟨gx52, rfl, rfl, h⟩, hw.sel [1, 2, 3, 4, 5, 6, 7, 8] (by decide) rfl⟩
                              ·
                               refine L.nil (E.thenN (W.seq (W.condF rfl ?_)))
                               exact W.exit (E.thenX (E.KLX (E.blockX (E.joinJ ⟨rfl, rfl, h⟩ trivial (fun _ hw => hw.sel [1, 2, 3, 4, 5, 6, 7, 8] (by decide) rfl)))))
                             ·
                              rintro _ _ ⟨rfl, rfl, h⟩
                              rw [m96_skew_Play_K25] at h
                              refine W.seq (W.region (L.y rfl (Y.assign rfl) ?_))
                              refine L.nil (E.thenN (W.ret (E.ret1 rfl rfl (fun w1 hw => ?_))))
                              exact ⟨_, _, rfl, ⟨(-1), rfl, rfl, h⟩, hw⟩
                            ·
                             rintro _ _ ⟨gx51, rfl, rfl, h⟩
                             rw [m96_skew_Play_K24] at h
                             refine L.y rfl (Y.geq rfl rfl) ?_
                             refine L.y rfl (Y.assign rfl) ?_
                             refine L.nil (E.thenN (W.ret (E.ret1 rfl rfl (fun w1 hw => ?_))))
                             exact ⟨_, _, rfl, ⟨decide (0 ≤ gx51), rfl, rfl, h⟩, hw⟩
                           ·
                            rintro _ _ ⟨gb50, rfl, rfl, h⟩
                            rw [m96_skew_Play_K23] at h
                            refine L.y rfl (Y.pickT rfl rfl) ?_
                            refine L.y rfl (Y.assign rfl) ?_
                            refine L.nil (E.thenN (W.ret (E.ret1 rfl rfl (fun w1 hw => ?_))))
                            exact ⟨_, _, rfl, ⟨gb50, rfl, rfl, h⟩, hw.sel [0, 1, 2, 3, 4, 5, 7, 6] (by decide) rfl⟩
                        ·
                         rintro _ _ ⟨gb48, rfl, rfl, h⟩
                         rw [m96_skew_Play_K21] at h
                         rcases gb48 with _ | _
                         ·
                          replace h := iteF h
                          refine L.nil (E.toV2 (stC [] [] (Cls w [] [.obj b12 [.bool true, .int .i64 (-1)] 152, .obj b10 [.bool false, .int .i64 0] 152, .obj b9 [.int .i64 x3.Tx, .int .i64 x3.Kind, .int .i64 x3.Item] 164, .obj b1 (List.flatten [(zr Ttx209.rowv gq19 gl18).flatten, [.int .i64 gx8], (zr svRow gq10 gl9).flatten]) 212, .ss (zs Ttx209.sds gq19 gl18), .ss (zs (svSd 3 1 I) gq10 gl9), .sl v55 3 1 (l56.map I), .sl gv3 152 2 (gl4.map TDid.row)])) 16 (by kernel_rfl) (Sc.stayD (fun _ hw => hw)) (Sc.atD (fun _ hw => hw)) ?_)
                          refine V2.y (i := 17) (Nx2.of (Z := Cls w [] [.obj b12 [.bool true, .int .i64 (-1)] 152, .obj b10 [.bool false, .int .i64 0] 152, .obj b9 [.int .i64 x3.Tx, .int .i64 x3.Kind, .int .i64 x3.Item] 164, .obj b1 (List.flatten [(zr Ttx209.rowv gq19 gl18).flatten, [.int .i64 gx8], (zr svRow gq10 gl9).flatten]) 212, .ss (zs Ttx209.sds gq19 gl18), .ss (zs (svSd 3 1 I) gq10 gl9), .sl v55 3 1 (l56.map I), .sl gv3 152 2 (gl4.map TDid.row)]) [] (by kernel_rfl) rfl (Zc.fin (fun _ hw => hw))) rfl rfl rfl (Y.pickT rfl rfl) ?_
                          refine V2.y (i := 18) (Nx2.of (Z := Cls w [] [.obj b12 [.bool true, .int .i64 (-1)] 152, .obj b10 [.bool false, .int .i64 0] 152, .obj b9 [.int .i64 x3.Tx, .int .i64 x3.Kind, .int .i64 x3.Item] 164, .obj b1 (List.flatten [(zr Ttx209.rowv gq19 gl18).flatten, [.int .i64 gx8], (zr svRow gq10 gl9).flatten]) 212, .ss (zs Ttx209.sds gq19 gl18), .ss (zs (svSd 3 1 I) gq10 gl9), .sl v55 3 1 (l56.map I), .sl gv3 152 2 (gl4.map TDid.row)]) [] (by kernel_rfl) rfl (Zc.fin (fun _ hw => hw))) rfl rfl rfl (Y.pickF rfl rfl) ?_
                          refine V2.y (i := 19) (Nx2.of (Z := Cls w [] [.obj b12 [.bool true, .int .i64 (-1)] 152, .obj b10 [.bool false, .int .i64 0] 152, .obj b9 [.int .i64 x3.Tx, .int .i64 x3.Kind, .int .i64 x3.Item] 164, .obj b1 (List.flatten [(zr Ttx209.rowv gq19 gl18).flatten, [.int .i64 gx8], (zr svRow gq10 gl9).flatten]) 212, .ss (zs Ttx209.sds gq19 gl18), .ss (zs (svSd 3 1 I) gq10 gl9), .sl v55 3 1 (l56.map I), .sl gv3 152 2 (gl4.map TDid.row)]) [] (by kernel_rfl) rfl (Zc.fin (fun _ hw => hw))) rfl rfl rfl (Y.assign rfl) ?_
                          refine V2.done (by kernel_rfl) ?_
                          refine E.blockN (E.thenN (W.region (L.m (V := fun x86 => .int .i64 x86) h rfl (Y.addM rfl rfl) (fun x86 ex86 h => ?_))))
                          refine L.y rfl (Y.move rfl) ?_
                          exact L.nil (E.againJ ⟨true, false, x86, rfl, rfl, by rw [hg4]; exact h⟩ (Nat.lt_succ_self _) ⟨rfl, rfl, rfl, rfl, rfl, rfl, rfl, rfl, rfl, rfl, rfl, trivial⟩ (fun _ hw => hw))
                         ·
                          replace h := iteT h
                          refine L.nil (E.toV2 (stC [] [] (Cls w [] [.obj b12 [.bool true, .int .i64 (-1)] 152, .obj b10 [.bool false, .int .i64 0] 152, .obj b9 [.int .i64 x3.Tx, .int .i64 x3.Kind, .int .i64 x3.Item] 164, .obj b1 (List.flatten [(zr Ttx209.rowv gq19 gl18).flatten, [.int .i64 gx8], (zr svRow gq10 gl9).flatten]) 212, .ss (zs Ttx209.sds gq19 gl18), .ss (zs (svSd 3 1 I) gq10 gl9), .sl v55 3 1 (l56.map I), .sl gv3 152 2 (gl4.map TDid.row)])) 16 (by kernel_rfl) (Sc.stayD (fun _ hw => hw)) (Sc.atD (fun _ hw => hw)) ?_)
                          refine V2.y (i := 17) (Nx2.of (Z := Cls w [] [.obj b12 [.bool true, .int .i64 (-1)] 152, .obj b10 [.bool false, .int .i64 0] 152, .obj b9 [.int .i64 x3.Tx, .int .i64 x3.Kind, .int .i64 x3.Item] 164, .obj b1 (List.flatten [(zr Ttx209.rowv gq19 gl18).flatten, [.int .i64 gx8], (zr svRow gq10 gl9).flatten]) 212, .ss (zs Ttx209.sds gq19 gl18), .ss (zs (svSd 3 1 I) gq10 gl9), .sl v55 3 1 (l56.map I), .sl gv3 152 2 (gl4.map TDid.row)]) [] (by kernel_rfl) rfl (Zc.fin (fun _ hw => hw))) rfl rfl rfl (Y.pickT rfl rfl) ?_
                          refine V2.y (i := 18) (Nx2.of (Z := Cls w [] [.obj b12 [.bool true, .int .i64 (-1)] 152, .obj b10 [.bool false, .int .i64 0] 152, .obj b9 [.int .i64 x3.Tx, .int .i64 x3.Kind, .int .i64 x3.Item] 164, .obj b1 (List.flatten [(zr Ttx209.rowv gq19 gl18).flatten, [.int .i64 gx8], (zr svRow gq10 gl9).flatten]) 212, .ss (zs Ttx209.sds gq19 gl18), .ss (zs (svSd 3 1 I) gq10 gl9), .sl v55 3 1 (l56.map I), .sl gv3 152 2 (gl4.map TDid.row)]) [] (by kernel_rfl) rfl (Zc.fin (fun _ hw => hw))) rfl rfl rfl (Y.pickF rfl rfl) ?_
                          refine V2.y (i := 19) (Nx2.of (Z := Cls w [] [.obj b12 [.bool true, .int .i64 (-1)] 152, .obj b10 [.bool false, .int .i64 0] 152, .obj b9 [.int .i64 x3.Tx, .int .i64 x3.Kind, .int .i64 x3.Item] 164, .obj b1 (List.flatten [(zr Ttx209.rowv gq19 gl18).flatten, [.int .i64 gx8], (zr svRow gq10 gl9).flatten]) 212, .ss (zs Ttx209.sds gq19 gl18), .ss (zs (svSd 3 1 I) gq10 gl9), .sl v55 3 1 (l56.map I), .sl gv3 152 2 (gl4.map TDid.row)]) [] (by kernel_rfl) rfl (Zc.fin (fun _ hw => hw))) rfl rfl rfl (Y.assign rfl) ?_
                          refine V2.done (by kernel_rfl) ?_
                          refine E.blockN (E.thenN (W.region (L.m (V := fun x87 => .int .i64 x87) h rfl (Y.addM rfl rfl) (fun x87 ex87 h => ?_))))
                          refine L.y rfl (Y.move rfl) ?_
                          exact L.nil (E.againJ ⟨true, true, x87, rfl, rfl, by rw [hg4]; exact h⟩ (Nat.lt_succ_self _) ⟨rfl, rfl, rfl, rfl, rfl, rfl, rfl, rfl, rfl, rfl, rfl, trivial⟩ (fun _ hw => hw))
                       ·
                        refine V2.y (i := 5) (Nx2.of (Z := Cls w [] [.obj b12 [.bool true, .int .i64 (-1)] 152, .obj b10 [.bool false, .int .i64 0] 152, .obj b9 [.int .i64 x3.Tx, .int .i64 x3.Kind, .int .i64 x3.Item] 164, .obj b1 (List.flatten [(zr Ttx209.rowv gq19 gl18).flatten, [.int .i64 gx8], (zr svRow gq10 gl9).flatten]) 212, .ss (zs Ttx209.sds gq19 gl18), .ss (zs (svSd 3 1 I) gq10 gl9), .sl v55 3 1 (l56.map I), .sl gv3 152 2 (gl4.map TDid.row)]) [] (by kernel_rfl) rfl (Zc.fin (fun _ hw => hw))) rfl rfl rfl (Y.move rfl) ?_
                        refine V2.pass (i := 6) (Nx2.of (Z := Cls w [] [.obj b12 [.bool true, .int .i64 (-1)] 152, .obj b10 [.bool false, .int .i64 0] 152, .obj b9 [.int .i64 x3.Tx, .int .i64 x3.Kind, .int .i64 x3.Item] 164, .obj b1 (List.flatten [(zr Ttx209.rowv gq19 gl18).flatten, [.int .i64 gx8], (zr svRow gq10 gl9).flatten]) 212, .ss (zs Ttx209.sds gq19 gl18), .ss (zs (svSd 3 1 I) gq10 gl9), .sl v55 3 1 (l56.map I), .sl gv3 152 2 (gl4.map TDid.row)]) [] (by kernel_rfl) rfl (Zc.fin (fun _ hw => hw))) rfl rfl ?_
                        refine V2.pass (i := 7) (Nx2.of (Z := Cls w [] [.obj b12 [.bool true, .int .i64 (-1)] 152, .obj b10 [.bool false, .int .i64 0] 152, .obj b9 [.int .i64 x3.Tx, .int .i64 x3.Kind, .int .i64 x3.Item] 164, .obj b1 (List.flatten [(zr Ttx209.rowv gq19 gl18).flatten, [.int .i64 gx8], (zr svRow gq10 gl9).flatten]) 212, .ss (zs Ttx209.sds gq19 gl18), .ss (zs (svSd 3 1 I) gq10 gl9), .sl v55 3 1 (l56.map I), .sl gv3 152 2 (gl4.map TDid.row)]) [] (by kernel_rfl) rfl (Zc.fin (fun _ hw => hw))) rfl rfl ?_
                        refine V2.pass (i := 8) (Nx2.of (Z := Cls w [] [.obj b12 [.bool true, .int .i64 (-1)] 152, .obj b10 [.bool false, .int .i64 0] 152, .obj b9 [.int .i64 x3.Tx, .int .i64 x3.Kind, .int .i64 x3.Item] 164, .obj b1 (List.flatten [(zr Ttx209.rowv gq19 gl18).flatten, [.int .i64 gx8], (zr svRow gq10 gl9).flatten]) 212, .ss (zs Ttx209.sds gq19 gl18), .ss (zs (svSd 3 1 I) gq10 gl9), .sl v55 3 1 (l56.map I), .sl gv3 152 2 (gl4.map TDid.row)]) [] (by kernel_rfl) rfl (Zc.fin (fun _ hw => hw))) rfl rfl ?_
                        refine V2.pass (i := 9) (Nx2.of (Z := Cls w [] [.obj b12 [.bool true, .int .i64 (-1)] 152, .obj b10 [.bool false, .int .i64 0] 152, .obj b9 [.int .i64 x3.Tx, .int .i64 x3.Kind, .int .i64 x3.Item] 164, .obj b1 (List.flatten [(zr Ttx209.rowv gq19 gl18).flatten, [.int .i64 gx8], (zr svRow gq10 gl9).flatten]) 212, .ss (zs Ttx209.sds gq19 gl18), .ss (zs (svSd 3 1 I) gq10 gl9), .sl v55 3 1 (l56.map I), .sl gv3 152 2 (gl4.map TDid.row)]) [] (by kernel_rfl) rfl (Zc.fin (fun _ hw => hw))) rfl rfl ?_
                        refine V2.pass (i := 10) (Nx2.of (Z := Cls w [] [.obj b12 [.bool true, .int .i64 (-1)] 152, .obj b10 [.bool false, .int .i64 0] 152, .obj b9 [.int .i64 x3.Tx, .int .i64 x3.Kind, .int .i64 x3.Item] 164, .obj b1 (List.flatten [(zr Ttx209.rowv gq19 gl18).flatten, [.int .i64 gx8], (zr svRow gq10 gl9).flatten]) 212, .ss (zs Ttx209.sds gq19 gl18), .ss (zs (svSd 3 1 I) gq10 gl9), .sl v55 3 1 (l56.map I), .sl gv3 152 2 (gl4.map TDid.row)]) [] (by kernel_rfl) rfl (Zc.fin (fun _ hw => hw))) rfl rfl ?_
                        refine V2.pass (i := 11) (Nx2.of (Z := Cls w [] [.obj b12 [.bool true, .int .i64 (-1)] 152, .obj b10 [.bool false, .int .i64 0] 152, .obj b9 [.int .i64 x3.Tx, .int .i64 x3.Kind, .int .i64 x3.Item] 164, .obj b1 (List.flatten [(zr Ttx209.rowv gq19 gl18).flatten, [.int .i64 gx8], (zr svRow gq10 gl9).flatten]) 212, .ss (zs Ttx209.sds gq19 gl18), .ss (zs (svSd 3 1 I) gq10 gl9), .sl v55 3 1 (l56.map I), .sl gv3 152 2 (gl4.map TDid.row)]) [] (by kernel_rfl) rfl (Zc.fin (fun _ hw => hw))) rfl rfl ?_
                        refine V2.pass (i := 12) (Nx2.of (Z := Cls w [] [.obj b12 [.bool true, .int .i64 (-1)] 152, .obj b10 [.bool false, .int .i64 0] 152, .obj b9 [.int .i64 x3.Tx, .int .i64 x3.Kind, .int .i64 x3.Item] 164, .obj b1 (List.flatten [(zr Ttx209.rowv gq19 gl18).flatten, [.int .i64 gx8], (zr svRow gq10 gl9).flatten]) 212, .ss (zs Ttx209.sds gq19 gl18), .ss (zs (svSd 3 1 I) gq10 gl9), .sl v55 3 1 (l56.map I), .sl gv3 152 2 (gl4.map TDid.row)]) [] (by kernel_rfl) rfl (Zc.fin (fun _ hw => hw))) rfl rfl ?_
                        refine V2.pass (i := 13) (Nx2.of (Z := Cls w [] [.obj b12 [.bool true, .int .i64 (-1)] 152, .obj b10 [.bool false, .int .i64 0] 152, .obj b9 [.int .i64 x3.Tx, .int .i64 x3.Kind, .int .i64 x3.Item] 164, .obj b1 (List.flatten [(zr Ttx209.rowv gq19 gl18).flatten, [.int .i64 gx8], (zr svRow gq10 gl9).flatten]) 212, .ss (zs Ttx209.sds gq19 gl18), .ss (zs (svSd 3 1 I) gq10 gl9), .sl v55 3 1 (l56.map I), .sl gv3 152 2 (gl4.map TDid.row)]) [] (by kernel_rfl) rfl (Zc.fin (fun _ hw => hw))) rfl rfl ?_
                        refine V2.pass (i := 14) (Nx2.of (Z := Cls w [] [.obj b12 [.bool true, .int .i64 (-1)] 152, .obj b10 [.bool false, .int .i64 0] 152, .obj b9 [.int .i64 x3.Tx, .int .i64 x3.Kind, .int .i64 x3.Item] 164, .obj b1 (List.flatten [(zr Ttx209.rowv gq19 gl18).flatten, [.int .i64 gx8], (zr svRow gq10 gl9).flatten]) 212, .ss (zs Ttx209.sds gq19 gl18), .ss (zs (svSd 3 1 I) gq10 gl9), .sl v55 3 1 (l56.map I), .sl gv3 152 2 (gl4.map TDid.row)]) [] (by kernel_rfl) rfl (Zc.fin (fun _ hw => hw))) rfl rfl ?_
                        refine V2.pass (i := 15) (Nx2.of (Z := Cls w [] [.obj b12 [.bool true, .int .i64 (-1)] 152, .obj b10 [.bool false, .int .i64 0] 152, .obj b9 [.int .i64 x3.Tx, .int .i64 x3.Kind, .int .i64 x3.Item] 164, .obj b1 (List.flatten [(zr Ttx209.rowv gq19 gl18).flatten, [.int .i64 gx8], (zr svRow gq10 gl9).flatten]) 212, .ss (zs Ttx209.sds gq19 gl18), .ss (zs (svSd 3 1 I) gq10 gl9), .sl v55 3 1 (l56.map I), .sl gv3 152 2 (gl4.map TDid.row)]) [] (by kernel_rfl) rfl (Zc.fin (fun _ hw => hw))) rfl rfl ?_
                        refine V2.pass (i := 16) (Nx2.of (Z := Cls w [] [.obj b12 [.bool true, .int .i64 (-1)] 152, .obj b10 [.bool false, .int .i64 0] 152, .obj b9 [.int .i64 x3.Tx, .int .i64 x3.Kind, .int .i64 x3.Item] 164, .obj b1 (List.flatten [(zr Ttx209.rowv gq19 gl18).flatten, [.int .i64 gx8], (zr svRow gq10 gl9).flatten]) 212, .ss (zs Ttx209.sds gq19 gl18), .ss (zs (svSd 3 1 I) gq10 gl9), .sl v55 3 1 (l56.map I), .sl gv3 152 2 (gl4.map TDid.row)]) [] (by kernel_rfl) rfl (Zc.fin (fun _ hw => hw))) rfl rfl ?_
                        refine V2.y (i := 17) (Nx2.of (Z := Cls w [] [.obj b12 [.bool true, .int .i64 (-1)] 152, .obj b10 [.bool false, .int .i64 0] 152, .obj b9 [.int .i64 x3.Tx, .int .i64 x3.Kind, .int .i64 x3.Item] 164, .obj b1 (List.flatten [(zr Ttx209.rowv gq19 gl18).flatten, [.int .i64 gx8], (zr svRow gq10 gl9).flatten]) 212, .ss (zs Ttx209.sds gq19 gl18), .ss (zs (svSd 3 1 I) gq10 gl9), .sl v55 3 1 (l56.map I), .sl gv3 152 2 (gl4.map TDid.row)]) [] (by kernel_rfl) rfl (Zc.fin (fun _ hw => hw))) rfl rfl rfl (Y.pickF rfl rfl) ?_
                        refine V2.y (i := 18) (Nx2.of (Z := Cls w [] [.obj b12 [.bool true, .int .i64 (-1)] 152, .obj b10 [.bool false, .int .i64 0] 152, .obj b9 [.int .i64 x3.Tx, .int .i64 x3.Kind, .int .i64 x3.Item] 164, .obj b1 (List.flatten [(zr Ttx209.rowv gq19 gl18).flatten, [.int .i64 gx8], (zr svRow gq10 gl9).flatten]) 212, .ss (zs Ttx209.sds gq19 gl18), .ss (zs (svSd 3 1 I) gq10 gl9), .sl v55 3 1 (l56.map I), .sl gv3 152 2 (gl4.map TDid.row)]) [] (by kernel_rfl) rfl (Zc.fin (fun _ hw => hw))) rfl rfl rfl (Y.pickF rfl rfl) ?_
                        refine V2.y (i := 19) (Nx2.of (Z := Cls w [] [.obj b12 [.bool true, .int .i64 (-1)] 152, .obj b10 [.bool false, .int .i64 0] 152, .obj b9 [.int .i64 x3.Tx, .int .i64 x3.Kind, .int .i64 x3.Item] 164, .obj b1 (List.flatten [(zr Ttx209.rowv gq19 gl18).flatten, [.int .i64 gx8], (zr svRow gq10 gl9).flatten]) 212, .ss (zs Ttx209.sds gq19 gl18), .ss (zs (svSd 3 1 I) gq10 gl9), .sl v55 3 1 (l56.map I), .sl gv3 152 2 (gl4.map TDid.row)]) [] (by kernel_rfl) rfl (Zc.fin (fun _ hw => hw))) rfl rfl rfl (Y.assign rfl) ?_
                        refine V2.done (by kernel_rfl) ?_
                        refine E.blockN (E.thenN (W.region (L.m (V := fun x97 => .int .i64 x97) h rfl (Y.addM rfl rfl) (fun x97 ex97 h => ?_))))
                        refine L.y rfl (Y.move rfl) ?_
                        exact L.nil (E.againJ ⟨true, false, x97, rfl, rfl, by rw [hg4]; exact h⟩ (Nat.lt_succ_self _) ⟨rfl, rfl, rfl, rfl, rfl, rfl, rfl, rfl, rfl, rfl, rfl, trivial⟩ (fun _ hw => hw))
                   ·
                    refine L.nil (E.thenN (W.seq (W.condF rfl ?_)))
                    exact W.exit (E.thenX (E.KLX (E.blockX (E.joinJ ⟨gb37, gb38, rfl, rfl, h⟩ ⟨rfl, rfl, rfl, rfl, rfl, rfl, rfl, trivial⟩ (fun _ hw => hw)))))
                  ·
                   rintro _ _ ⟨gb35, gb36, rfl, rfl, h⟩
                   rw [m96_skew_Play_K12] at h
                   refine W.seq (W.region (L.iteB h rfl (Y.move rfl) (fun c60 h => ?_) (fun c60 h => ?_)))
                   ·
                    refine L.y rfl (Y.move rfl) ?_
                    refine L.take rfl (L.iteB h rfl (Y.move rfl) (fun c61 h => ?_) (fun c61 h => ?_))
                    ·
                     refine L.y rfl (Y.pickT rfl rfl) ?_
                     refine L.nil (E.thenN (W.condT rfl ?_))
                     refine W.seq (W.region (L.y rfl (Y.assign rfl) ?_))
                     refine L.nil (E.thenN (W.ret (E.blockR (E.KSR (E.KLR (E.blockR (E.KSR (E.ret1 rfl rfl (fun w1 hw => ?_)))))))))
                     exact ⟨_, _, rfl, ⟨true, rfl, rfl, h⟩, hw.sel [0, 1, 2, 3, 4, 5, 7] (by decide) rfl⟩
                    ·
                     refine L.y rfl (Y.pickT rfl rfl) ?_
                     refine L.nil (E.thenN (W.condF rfl ?_))
                     exact W.skip (E.blockN (E.joinJ ⟨rfl, rfl, h⟩ ⟨rfl, rfl, rfl, rfl, rfl, trivial⟩ (fun _ hw => hw)))
                   ·
                    refine L.y rfl (Y.move rfl) ?_
                    refine L.pass rfl rfl (by nofun) ?_
                    refine L.y rfl (Y.pickF rfl rfl) ?_
                    refine L.nil (E.thenN (W.condF rfl ?_))
                    exact W.skip (E.blockN (E.joinJ ⟨rfl, rfl, h⟩ ⟨rfl, rfl, rfl, rfl, rfl, trivial⟩ (fun _ hw => hw)))
                 ·
                  rintro _ _ ⟨rfl, rfl, h⟩
                  rw [m96_skew_Play_K11] at h
                  refine W.region (L.m (V := fun x58 => .int .i64 x58) h rfl (Y.addM rfl rfl) (fun x58 ex58 h => ?_))
                  refine L.y rfl (Y.move rfl) ?_
                  exact L.nil (E.againJ ⟨x58, rfl, rfl, by rw [hg3]; exact h⟩ (Nat.lt_succ_self _) ⟨rfl, rfl, rfl, rfl, rfl, trivial⟩ (fun _ hw => hw))
                ·
                 refine L.nil (E.thenN (W.seq (W.condF rfl ?_)))
                 exact W.exit (E.thenX (E.KLX (E.blockX (E.joinJ ⟨rfl, rfl, h⟩ trivial (fun _ hw => hw.sel [0, 1, 2, 3, 4, 5, 7] (by decide) rfl)))))
               ·
                rintro _ _ ⟨rfl, rfl, h⟩
                rw [m96_skew_Play_K10] at h
                refine W.seq (W.region (L.y rfl (Y.assign rfl) ?_))
                refine L.nil (E.thenN (W.ret (E.ret1 rfl rfl (fun w1 hw => ?_))))
                exact ⟨_, _, rfl, ⟨false, rfl, rfl, h⟩, hw⟩
             ·
              rintro _ _ ⟨gb28, rfl, rfl, h⟩
              rw [m96_skew_Play_K8] at h
              rcases gb28 with _ | _
              ·
               replace h := iteF h
               refine L.nil (E.thenN (W.condF rfl ?_))
               refine W.skip (E.thenN (W.seq (W.region (L.y rfl (Y.move rfl) ?_))))
               refine L.y rfl (Y.nilCheck rfl) ?_
               refine L.y rfl (Y.fieldP fd212_1 rfl) ?_
               obtain ⟨_, en14, h⟩ := bind1S h
               obtain ⟨_, en14⟩ := arrN_some en14
               refine L.y rfl (Y.loadG (q := 3) (si := 1) (ps := 72) (j := 0) (X := [.int .i64 gx8]) ag3 rfl rfl rfl rfl (sl1 (a := 72) (p := 0) (zrN (nn := 12) (k := 6) (fun _ _ => rfl) en14) sl0) rfl) ?_
               refine L.m (V := fun x15 => .int .i64 x15) h rfl (Y.addM rfl rfl) (fun x15 ex15 h => ?_)
               refine L.y rfl (Y.nilCheck rfl) ?_
               refine L.y rfl (Y.fieldP fd212_1 rfl) ?_
               refine L.storeG (q := 3) (si := 1) (ps := 72) (j := 0) (X := [.int .i64 gx8]) (vals := [.int .i64 x15]) sz3 rfl rfl rfl rfl rfl (by simp [Value.oneCell', Value.cells, st, pt]) rfl rfl (sl1 (a := 72) (p := 0) (zrN (nn := 12) (k := 6) (fun _ _ => rfl) en14) sl0) rfl ?_
               refine L.nil (E.thenN (W.seq (W.region (L.y rfl (Y.move rfl) ?_))))
               refine L.y rfl (Y.move rfl) ?_
               refine L.y rfl (Y.move rfl) ?_
               refine L.y rfl (Y.nilCheck rfl) ?_
               refine L.y rfl (Y.fieldP fd212_1 rfl) ?_
               refine L.y rfl (Y.loadG (q := 3) (si := 1) (ps := 72) (j := 0) (X := [.int .i64 x15]) ag3 rfl rfl rfl rfl (sl1 (a := 72) (p := 0) (zrN (nn := 12) (k := 6) (fun _ _ => rfl) en14) sl0) rfl) ?_
               refine L.y rfl (Y.nilCheck rfl) ?_
               refine L.y rfl (Y.fieldP fd209_1 rfl) ?_
               obtain ⟨x16, ex16, h⟩ := bind1S h
               refine L.storeZg (si := 0) (ps := 0) (row := Ttx209.rowv) (sds := Ttx209.sds) (vs := gq19) (q := 3) (s := 4) (c := 2) (u1 := (⟨x16.began_, true, x16.from_, x16.at_, x16.reads_, x16.writes_⟩ : Ttx209)) (vals := [.bool true]) (j := 1) h sz4 rfl rfl rfl rfl rfl (all1 rfl all0) rfl rfl sl0 rfl (fun _ _ => rfl) ex16 rfl rfl (fun _ _ => rfl) rfl ?_
               intro l17 el17 h
               refine L.y rfl (Y.nilCheck rfl) ?_
               refine L.y rfl (Y.fieldP fd209_3 rfl) ?_
               obtain ⟨x18, ex18, h⟩ := bind1S h
               refine L.storeZg (si := 0) (ps := 0) (row := Ttx209.rowv) (sds := Ttx209.sds) (vs := gq19) (q := 3) (s := 4) (c := 2) (u1 := (⟨x18.began_, x18.done_, x18.from_, x15, x18.reads_, x18.writes_⟩ : Ttx209)) (vals := [.int .i64 x15]) (j := 3) h sz3 rfl rfl rfl rfl rfl (all1 rfl all0) rfl rfl sl0 rfl (fun _ _ => rfl) ex18 rfl rfl (fun _ _ => rfl) rfl ?_
               intro l19 el19 h
               refine L.nil (E.thenN (W.seq (W.region (L.y rfl (Y.move rfl) ?_))))
               refine L.y rfl (Y.nilCheck rfl) ?_
               refine L.y rfl (Y.fieldP fd209_5 rfl) ?_
               obtain ⟨x20, ex20, h⟩ := bind1S h
               refine L.y rfl (Y.loadZg (si := 0) (ps := 0) (q := 3) (row := Ttx209.rowv) (vs := gq19) (j := 5) (pv := gv (gq19 x3.Tx.toNat) 1) ag24 rfl rfl rfl rfl sl0 (fun _ _ => rfl) ex20 rfl) ?_
               refine L.y rfl (Y.lenM (g := I) (l := x20.writes_) Try.underlying24 rfl (fun w hw => As.atZ (sds := Ttx209.sds) (vs := gq19) (j := 1) (c := 2) (hw.get (i := 4) rfl) (fun _ _ => rfl) ex20 rfl)) ?_
               refine L.y rfl (Y.move rfl) ?_
               refine L.nil (E.thenN (W.block (W.loopJ (fun m gs D => ∃ (gx29 : Int) (gl30 : (List (List Int))) (gq31 : Nat → List Value), gs = [(0, pt b1 0), (3, pt b9 0), (4, pt b10 0), (6, pt b12 0), (88, gv (gq19 x3.Tx.toNat) 1), (89, .int .i64 (x20.writes_.length : Int)), (90, .int .i64 gx29)] ∧ D = Cls w [] [.obj b12 [.bool true, .int .i64 (-1)] 152, .obj b10 [.bool false, .int .i64 0] 152, .obj b9 [.int .i64 x3.Tx, .int .i64 x3.Kind, .int .i64 x3.Item] 164, .obj b1 (List.flatten [(zr Ttx209.rowv gq19 l19).flatten, [.int .i64 x15], (zr svRow gq31 gl30).flatten]) 212, .ss (zs Ttx209.sds gq19 l19), .ss (zs (svSd 3 1 I) gq31 gl30), .sl gv3 152 2 (gl4.map TDid.row)] ∧ m96_skew_Play_L2 x20 l19 x3 gl4 gx5 go1 x15 m gx29 gl30 = some r) ⟨0, gl9, gq10, rfl, rfl, h⟩ ⟨rfl, rfl, rfl, rfl, rfl, rfl, rfl, trivial⟩ (fun _ hw => hw) ?_)))
               rintro m _ _ ⟨gx29, gl30, gq31, rfl, rfl, h⟩
               rcases m with _ | m
               · rw [m96_skew_Play_L2] at h; cases h
               rw [m96_skew_Play_L2] at h
               generalize hg2 : m96_skew_Play_L2 x20 l19 x3 gl4 gx5 go1 x15 m = go2 at h
               rw [m96_skew_Play_L2B] at h
               refine W.seq (W.region (L.ite h rfl (Y.lss rfl rfl) (fun c21 h => ?_) (fun c21 h => ?_)))
               ·
                refine L.nil (E.thenN (W.seq (W.condT rfl ?_)))
                refine W.skip (E.thenN (W.seq (W.block (W.seq (W.region (L.m (V := fun _ => el (gv (gq19 x3.Tx.toNat) 1) (gx29.toNat * 1)) h rfl (Y.indexM (g := I) (l := x20.writes_) Try.underlying24 sz3 rfl rfl (fun w hw => As.atZ (sds := Ttx209.sds) (vs := gq19) (j := 1) (c := 2) (hw.get (i := 4) rfl) (fun _ _ => rfl) ex20 rfl)) (fun x22 ex22 h => ?_)))))))
                refine L.y rfl (Y.loadE1 (u := .int .i64 x22) ag3 rfl (fun w hw => As.atZ (sds := Ttx209.sds) (vs := gq19) (j := 1) (c := 2) (hw.get (i := 4) rfl) (fun _ _ => rfl) ex20 rfl) (idx_map ex22)) ?_
                refine L.y rfl (Y.assign rfl) ?_
                refine L.nil (E.thenN (W.drawn2 (k := 16) (stC [[11, 15], [15]] [Cls w [] [.obj b12 [.bool true, .int .i64 (-1)] 152, .obj b10 [.bool false, .int .i64 0] 152, .obj b9 [.int .i64 x3.Tx, .int .i64 x3.Kind, .int .i64 x3.Item] 164, .obj b1 (List.flatten [(zr Ttx209.rowv gq19 l19).flatten, [.int .i64 x15], (zr svRow gq31 gl30).flatten]) 212, .ss (zs Ttx209.sds gq19 l19), .ss (zs (svSd 3 1 I) gq31 gl30), .sl gv3 152 2 (gl4.map TDid.row)], Cls w [] [.obj b12 [.bool true, .int .i64 (-1)] 152, .obj b10 [.bool false, .int .i64 0] 152, .obj b9 [.int .i64 x3.Tx, .int .i64 x3.Kind, .int .i64 x3.Item] 164, .obj b1 (List.flatten [(zr Ttx209.rowv gq19 l19).flatten, [.int .i64 x15], (zr svRow gq31 gl30).flatten]) 212, .ss (zs Ttx209.sds gq19 l19), .sl gv3 152 2 (gl4.map TDid.row)]] (Cls w [] [.obj b12 [.bool true, .int .i64 (-1)] 152, .obj b10 [.bool false, .int .i64 0] 152, .obj b9 [.int .i64 x3.Tx, .int .i64 x3.Kind, .int .i64 x3.Item] 164, .ss (zs Ttx209.sds gq19 l19), .sl gv3 152 2 (gl4.map TDid.row)])) rfl mixed (fun _ hw => hw.drew) (Sc.now (by kernel_rfl) (fun _ hw => hw)) ?_))
                refine V2.y (i := 0) (Nx2.of (Z := Cls w [] [.obj b12 [.bool true, .int .i64 (-1)] 152, .obj b10 [.bool false, .int .i64 0] 152, .obj b9 [.int .i64 x3.Tx, .int .i64 x3.Kind, .int .i64 x3.Item] 164, .ss (zs Ttx209.sds gq19 l19), .sl gv3 152 2 (gl4.map TDid.row)]) [] (by kernel_rfl) rfl (Zc.on (fun _ hw => hw.sel [0, 1, 2, 4, 6] (by decide) rfl) (Zc.on (fun _ hw => hw.sel [0, 1, 2, 4, 5] (by decide) rfl) (Zc.fin (fun _ hw => hw))))) rfl rfl rfl (Y.move rfl) ?_
                refine V2.y (i := 1) (Nx2.of (Z := Cls w [] [.obj b12 [.bool true, .int .i64 (-1)] 152, .obj b10 [.bool false, .int .i64 0] 152, .obj b9 [.int .i64 x3.Tx, .int .i64 x3.Kind, .int .i64 x3.Item] 164, .ss (zs Ttx209.sds gq19 l19), .sl gv3 152 2 (gl4.map TDid.row)]) [] (by kernel_rfl) rfl (Zc.on (fun _ hw => hw.sel [0, 1, 2, 4, 6] (by decide) rfl) (Zc.on (fun _ hw => hw.sel [0, 1, 2, 4, 5] (by decide) rfl) (Zc.fin (fun _ hw => hw))))) rfl rfl rfl (Y.move rfl) ?_
                refine V2.y (i := 2) (Nx2.of (Z := Cls w [] [.obj b12 [.bool true, .int .i64 (-1)] 152, .obj b10 [.bool false, .int .i64 0] 152, .obj b9 [.int .i64 x3.Tx, .int .i64 x3.Kind, .int .i64 x3.Item] 164, .ss (zs Ttx209.sds gq19 l19), .sl gv3 152 2 (gl4.map TDid.row)]) [] (by kernel_rfl) rfl (Zc.on (fun _ hw => hw.sel [0, 1, 2, 4, 6] (by decide) rfl) (Zc.on (fun _ hw => hw.sel [0, 1, 2, 4, 5] (by decide) rfl) (Zc.fin (fun _ hw => hw))))) rfl rfl rfl (Y.move rfl) ?_
                refine V2.y (i := 3) (Nx2.of (Z := Cls w [] [.obj b12 [.bool true, .int .i64 (-1)] 152, .obj b10 [.bool false, .int .i64 0] 152, .obj b9 [.int .i64 x3.Tx, .int .i64 x3.Kind, .int .i64 x3.Item] 164, .ss (zs Ttx209.sds gq19 l19), .sl gv3 152 2 (gl4.map TDid.row)]) [] (by kernel_rfl) rfl (Zc.on (fun _ hw => hw.sel [0, 1, 2, 4, 6] (by decide) rfl) (Zc.on (fun _ hw => hw.sel [0, 1, 2, 4, 5] (by decide) rfl) (Zc.fin (fun _ hw => hw))))) rfl rfl rfl (Y.move rfl) ?_
                refine V2.nilc (i := 4) (Nx2.of (Z := Cls w [] [.obj b12 [.bool true, .int .i64 (-1)] 152, .obj b10 [.bool false, .int .i64 0] 152, .obj b9 [.int .i64 x3.Tx, .int .i64 x3.Kind, .int .i64 x3.Item] 164, .ss (zs Ttx209.sds gq19 l19), .sl gv3 152 2 (gl4.map TDid.row)]) [] (by kernel_rfl) rfl (Zc.on (fun _ hw => hw.sel [0, 1, 2, 4, 6] (by decide) rfl) (Zc.on (fun _ hw => hw.sel [0, 1, 2, 4, 5] (by decide) rfl) (Zc.fin (fun _ hw => hw))))) rfl rfl rfl ?_
                refine V2.y (i := 5) (Nx2.of (Z := Cls w [] [.obj b12 [.bool true, .int .i64 (-1)] 152, .obj b10 [.bool false, .int .i64 0] 152, .obj b9 [.int .i64 x3.Tx, .int .i64 x3.Kind, .int .i64 x3.Item] 164, .ss (zs Ttx209.sds gq19 l19), .sl gv3 152 2 (gl4.map TDid.row)]) [] (by kernel_rfl) rfl (Zc.on (fun _ hw => hw.sel [0, 1, 2, 4, 6] (by decide) rfl) (Zc.on (fun _ hw => hw.sel [0, 1, 2, 4, 5] (by decide) rfl) (Zc.fin (fun _ hw => hw))))) rfl rfl rfl (Y.fieldP fd212_2 rfl) ?_
                refine V2.m (i := 6) (V' := fun _ => pt b1 (73 + x22.toNat * 1)) h (Nx2.of (Z := Cls w [] [.obj b12 [.bool true, .int .i64 (-1)] 152, .obj b10 [.bool false, .int .i64 0] 152, .obj b9 [.int .i64 x3.Tx, .int .i64 x3.Kind, .int .i64 x3.Item] 164, .obj b1 (List.flatten [(zr Ttx209.rowv gq19 l19).flatten, [.int .i64 x15], (zr svRow gq31 gl30).flatten]) 212, .ss (zs Ttx209.sds gq19 l19), .sl gv3 152 2 (gl4.map TDid.row)]) [15] (by kernel_rfl) rfl (Zc.on (fun _ hw => hw.sel [0, 1, 2, 3, 4, 6] (by decide) rfl) (Zc.at1 (fun _ hw => hw)))) rfl rfl rfl (Y.indexAS (l := gl30) Try.underlying165 sz24 rfl rfl) (fun x44 ex44 h => ?_)
                obtain ⟨_, en45, h⟩ := bind1S h
                obtain ⟨_, en45⟩ := arrN_some en45
                refine V2.y (i := 7) (Nx2.of (Z := Cls w [] [.obj b12 [.bool true, .int .i64 (-1)] 152, .obj b10 [.bool false, .int .i64 0] 152, .obj b9 [.int .i64 x3.Tx, .int .i64 x3.Kind, .int .i64 x3.Item] 164, .obj b1 (List.flatten [(zr Ttx209.rowv gq19 l19).flatten, [.int .i64 x15], (zr svRow gq31 gl30).flatten]) 212, .ss (zs Ttx209.sds gq19 l19), .sl gv3 152 2 (gl4.map TDid.row)]) [15] (by kernel_rfl) rfl (Zc.on (fun _ hw => hw.sel [0, 1, 2, 3, 4, 6] (by decide) rfl) (Zc.at1 (fun _ hw => hw)))) rfl rfl rfl (Y.loadZg (si := 2) (ps := 73) (q := 3) (row := svRow) (vs := gq31) (j := 0) (pv := gv (gq31 x22.toNat) 0) ag24 rfl rfl rfl rfl (sl1 (a := 72) (p := 1) (zrN (nn := 12) (k := 6) (fun _ _ => rfl) en45) (sl1 (a := 1) (p := 0) rfl sl0)) (fun _ _ => rfl) (idxA_idx ex44) rfl) ?_
                refine V2.y (i := 8) (Nx2.of (Z := Cls w [] [.obj b12 [.bool true, .int .i64 (-1)] 152, .obj b10 [.bool false, .int .i64 0] 152, .obj b9 [.int .i64 x3.Tx, .int .i64 x3.Kind, .int .i64 x3.Item] 164, .ss (zs Ttx209.sds gq19 l19), .sl gv3 152 2 (gl4.map TDid.row)]) [] (by kernel_rfl) rfl (Zc.on (fun _ hw => hw.sel [0, 1, 2, 4, 6] (by decide) rfl) (Zc.on (fun _ hw => hw.sel [0, 1, 2, 4, 5] (by decide) rfl) (Zc.fin (fun _ hw => hw))))) rfl rfl rfl (Y.fieldP fd164_0 rfl) ?_
                refine V2.y (i := 9) (Nx2.of (Z := Cls w [] [.obj b12 [.bool true, .int .i64 (-1)] 152, .obj b10 [.bool false, .int .i64 0] 152, .obj b9 [.int .i64 x3.Tx, .int .i64 x3.Kind, .int .i64 x3.Item] 164, .ss (zs Ttx209.sds gq19 l19), .sl gv3 152 2 (gl4.map TDid.row)]) [] (by kernel_rfl) rfl (Zc.on (fun _ hw => hw.sel [0, 1, 2, 4, 6] (by decide) rfl) (Zc.on (fun _ hw => hw.sel [0, 1, 2, 4, 5] (by decide) rfl) (Zc.fin (fun _ hw => hw))))) rfl rfl rfl (Y.loadP (i := 2) ag3 rfl rfl rfl) ?_
                refine V2.nilc (i := 12) (Nx2.of (Z := Cls w [] [.obj b12 [.bool true, .int .i64 (-1)] 152, .obj b10 [.bool false, .int .i64 0] 152, .obj b9 [.int .i64 x3.Tx, .int .i64 x3.Kind, .int .i64 x3.Item] 164, .ss (zs Ttx209.sds gq19 l19), .sl gv3 152 2 (gl4.map TDid.row)]) [] (by kernel_rfl) rfl (Zc.on (fun _ hw => hw.sel [0, 1, 2, 4, 6] (by decide) rfl) (Zc.on (fun _ hw => hw.sel [0, 1, 2, 4, 5] (by decide) rfl) (Zc.fin (fun _ hw => hw))))) rfl rfl rfl ?_
                refine V2.y (i := 13) (Nx2.of (Z := Cls w [] [.obj b12 [.bool true, .int .i64 (-1)] 152, .obj b10 [.bool false, .int .i64 0] 152, .obj b9 [.int .i64 x3.Tx, .int .i64 x3.Kind, .int .i64 x3.Item] 164, .ss (zs Ttx209.sds gq19 l19), .sl gv3 152 2 (gl4.map TDid.row)]) [] (by kernel_rfl) rfl (Zc.on (fun _ hw => hw.sel [0, 1, 2, 4, 6] (by decide) rfl) (Zc.on (fun _ hw => hw.sel [0, 1, 2, 4, 5] (by decide) rfl) (Zc.fin (fun _ hw => hw))))) rfl rfl rfl (Y.fieldP fd212_2 rfl) ?_
                refine V2.eff (i := 10) (by kernel_rfl) rfl ?_
                refine L.litOne rfl Try.underlying24 el3 rfl rfl ?_
                intro b46
                refine L.nil (E.toV2 (stC [[11, 15], [15]] [Cls w [] [.sl (sv b46 1) 3 1 (([x3.Tx]).map I), .obj b12 [.bool true, .int .i64 (-1)] 152, .obj b10 [.bool false, .int .i64 0] 152, .obj b9 [.int .i64 x3.Tx, .int .i64 x3.Kind, .int .i64 x3.Item] 164, .obj b1 (List.flatten [(zr Ttx209.rowv gq19 l19).flatten, [.int .i64 x15], (zr svRow gq31 gl30).flatten]) 212, .ss (zs Ttx209.sds gq19 l19), .ss (zs (svSd 3 1 I) gq31 gl30), .sl gv3 152 2 (gl4.map TDid.row)], Cls w [] [.sl (sv b46 1) 3 1 (([x3.Tx]).map I), .obj b12 [.bool true, .int .i64 (-1)] 152, .obj b10 [.bool false, .int .i64 0] 152, .obj b9 [.int .i64 x3.Tx, .int .i64 x3.Kind, .int .i64 x3.Item] 164, .obj b1 (List.flatten [(zr Ttx209.rowv gq19 l19).flatten, [.int .i64 x15], (zr svRow gq31 gl30).flatten]) 212, .ss (zs Ttx209.sds gq19 l19), .sl gv3 152 2 (gl4.map TDid.row)]] (Cls w [] [.sl (sv b46 1) 3 1 (([x3.Tx]).map I), .obj b12 [.bool true, .int .i64 (-1)] 152, .obj b10 [.bool false, .int .i64 0] 152, .obj b9 [.int .i64 x3.Tx, .int .i64 x3.Kind, .int .i64 x3.Item] 164, .ss (zs Ttx209.sds gq19 l19), .sl gv3 152 2 (gl4.map TDid.row)])) 10 (by kernel_rfl) (Sc.stay (fun _ hw => hw.sel [1, 2, 3, 4, 5, 6, 7] (by decide) rfl) (Sc.stay (fun _ hw => hw.sel [1, 2, 3, 4, 5, 6] (by decide) rfl) (Sc.stayD (fun _ hw => hw.sel [1, 2, 3, 4, 5] (by decide) rfl)))) (Sc.now (by kernel_rfl) (fun _ hw => hw)) ?_)
                refine V2.eff (i := 11) (by kernel_rfl) rfl ?_
                refine L.ssOut (sds := (svSd 3 1 I)) (vs := gq31) (s := 6) (j := 0) (c := 1) rfl (fun _ _ => rfl) (idxA_idx ex44) rfl ?_
                refine L.appM (i := 0) (g := I) (l := x44) (more := [x3.Tx]) h rfl Try.underlying24 el3 rfl rfl rfl (fun w hw => As.at_ (hw.get (i := 1) rfl)) (plain_ints _) rfl ?_
                intro v47 l48 el48 h
                refine L.nil (E.toV2 (stC [[15]] [Cls w [] [.sl v47 3 1 (l48.map I), .sl (sv b46 1) 3 1 (([x3.Tx]).map I), .obj b12 [.bool true, .int .i64 (-1)] 152, .obj b10 [.bool false, .int .i64 0] 152, .obj b9 [.int .i64 x3.Tx, .int .i64 x3.Kind, .int .i64 x3.Item] 164, .obj b1 (List.flatten [(zr Ttx209.rowv gq19 l19).flatten, [.int .i64 x15], (zr svRow gq31 gl30).flatten]) 212, .ss (zs Ttx209.sds gq19 l19), .sl gv3 152 2 (gl4.map TDid.row)]] (Cls w [] [.sl (sv b46 1) 3 1 (([x3.Tx]).map I), .obj b12 [.bool true, .int .i64 (-1)] 152, .obj b10 [.bool false, .int .i64 0] 152, .obj b9 [.int .i64 x3.Tx, .int .i64 x3.Kind, .int .i64 x3.Item] 164, .ss (zs Ttx209.sds gq19 l19), .sl gv3 152 2 (gl4.map TDid.row)])) 11 (by kernel_rfl) (Sc.past rfl (Sc.stay (fun _ hw => hw.sel [1, 2, 3, 4, 5, 6, 7] (by decide) rfl) (Sc.stayD (fun _ hw => hw)))) (Sc.now (by kernel_rfl) (fun _ hw => hw.sel [0, 1, 2, 3, 4, 5, 6, 8] (by decide) rfl)) ?_)
                refine V2.m (i := 14) (V' := fun _ => pt b1 (73 + x22.toNat * 1)) h (Nx2.of (Z := Cls w [] [.sl v47 3 1 (l48.map I), .sl (sv b46 1) 3 1 (([x3.Tx]).map I), .obj b12 [.bool true, .int .i64 (-1)] 152, .obj b10 [.bool false, .int .i64 0] 152, .obj b9 [.int .i64 x3.Tx, .int .i64 x3.Kind, .int .i64 x3.Item] 164, .obj b1 (List.flatten [(zr Ttx209.rowv gq19 l19).flatten, [.int .i64 x15], (zr svRow gq31 gl30).flatten]) 212, .ss (zs Ttx209.sds gq19 l19), .sl gv3 152 2 (gl4.map TDid.row)]) [15] (by kernel_rfl) rfl (Zc.at1 (fun _ hw => hw))) rfl rfl rfl (Y.indexAS (l := gl30) Try.underlying165 sz24 rfl rfl) (fun x49 ex49 h => ?_)
                refine V2.eff (i := 15) (by kernel_rfl) rfl ?_
                refine L.storeZSg (si := 2) (ps := 73) (row := svRow) (sds := (svSd 3 1 I)) (vs := gq31) (q := 5) (p := 0) (s := 7) (c := 1) (jj := 0) (u1 := l48) (v1 := [v47]) (j := 0) h sz24 rfl rfl rfl rfl rfl (sl1 (a := 72) (p := 1) (zrN (nn := 12) (k := 6) (fun _ _ => rfl) en45) (sl1 (a := 1) (p := 0) rfl sl0)) rfl rfl (.inr rfl) (fun _ _ => rfl) (fun _ _ => rfl) (idxA_idx ex49) rfl rfl rfl rfl ?_
                intro l50 q51 el50 h
                refine L.nil (E.toV2 (stC [] [] (Cls w [] [.sl (sv b46 1) 3 1 (([x3.Tx]).map I), .obj b12 [.bool true, .int .i64 (-1)] 152, .obj b10 [.bool false, .int .i64 0] 152, .obj b9 [.int .i64 x3.Tx, .int .i64 x3.Kind, .int .i64 x3.Item] 164, .ss (zs Ttx209.sds gq19 l19), .sl gv3 152 2 (gl4.map TDid.row)])) 15 (by kernel_rfl) (Sc.past rfl (Sc.stayD (fun _ hw => hw))) (Sc.atD (fun _ hw => hw.sel [0, 1, 2, 3, 5, 7] (by decide) rfl)) ?_)
                refine V2.done (by kernel_rfl) ?_
                refine E.blockN (E.thenN (W.region (L.m (V := fun x52 => .int .i64 x52) h rfl (Y.addM rfl rfl) (fun x52 ex52 h => ?_))))
                refine L.y rfl (Y.move rfl) ?_
                exact L.nil (E.againJ ⟨x52, l50, q51, rfl, rfl, by rw [hg2]; exact h⟩ (Nat.lt_succ_self _) ⟨rfl, rfl, rfl, rfl, rfl, rfl, rfl, trivial⟩ (fun _ hw => hw.sel [1, 2, 3, 4, 5, 6, 7] (by decide) rfl))
               ·
                refine L.nil (E.thenN (W.seq (W.condF rfl ?_)))
                exact W.exit (E.thenX (E.KLX (E.blockX (E.blockN (E.joinJ ⟨(-1), l19, gq19, x15, gl30, gq31, rfl, rfl, h⟩ ⟨rfl, rfl, trivial⟩ (fun _ hw => hw.sel [0, 1, 3, 4, 5, 6] (by decide) rfl))))))
              ·
               replace h := iteT h
               refine L.nil (E.thenN (W.condT rfl ?_))
               refine W.seq (W.region (L.y rfl (Y.build (cells := #[.bool false, .int .i64 (-1)]) rfl (by kernel_rfl)) ?_))
               refine L.store (i := 1) sz152 rfl rfl rfl rfl (by simp [Value.oneCell', Value.cells, st, pt]) rfl (Nat.le_of_ble_eq_true rfl) ?_
               refine L.nil (E.thenN (W.ret (E.thenR (E.blockR (E.KSR (E.retR1 rfl (Rv.cellW (i := 1) ag152 sz152 rfl rfl rfl) (fun w1 hw => ?_)))))))
               exact ⟨_, _, rfl, ⟨false, (-1), gl18, gq19, gx8, gl9, gq10, rfl, rfl, h⟩, hw.sel [3, 4, 5, 6] (by decide) rfl⟩
            ·
             refine L.y rfl (Y.assign rfl) ?_
             refine L.nil (E.thenN (W.condF rfl ?_))
             exact W.skip (E.blockN (E.joinJ ⟨(-1), gl18, gq19, gx8, gl9, gq10, rfl, rfl, h⟩ ⟨rfl, rfl, trivial⟩ (fun _ hw => hw.sel [0, 1, 3, 4, 5, 6] (by decide) rfl)))
           ·
            replace h := iteT h
            refine W.condT rfl ?_
            refine W.seq (W.quietC mixed (by kernel_rfl) (fun _ hw => hw.drew) (fun hC => ?_))
            refine U.y rfl (Y.move rfl) ?_
            refine U.y rfl (Y.nilCheck rfl) ?_
            refine U.y rfl (Y.fieldP fd209_5 rfl) ?_
            obtain ⟨x134, ex134, h⟩ := bind1S h
            refine U.y rfl (Y.loadZg (si := 0) (ps := 0) (q := 3) (row := Ttx209.rowv) (vs := gq19) (j := 5) (pv := gv (gq19 x3.Tx.toNat) 1) ag24 rfl rfl rfl rfl sl0 (fun _ _ => rfl) ex134 rfl) ?_
            refine U.y rfl (Y.fieldP fd164_2 rfl) ?_
            refine U.y rfl (Y.loadP (i := 2) ag3 rfl rfl rfl) ?_
            obtain ⟨b135, e136, h⟩ := bind1S h
            refine U.y rfl (Y.does en134 rfl (fun w' hw => (w134_slices_Contains_int x134.writes_ x3.Item (gv (gq19 x3.Tx.toNat) 1) w' _ e136 (As.atZ (sds := Ttx209.sds) (vs := gq19) (j := 1) (c := 2) (hw.get (i := 4) rfl) (fun _ _ => rfl) ex134 rfl)).mono (fun _ _ h => h.1))) ?_
            rcases b135 with _ | _
            ·
             replace h := iteF h
             refine U.y rfl (Y.not rfl) ?_
             refine U.nil (E.thenN (W.condT rfl ?_))
             refine W.drawn2 (k := 12) (stC [[8, 11], [11]] [Cls w [] [.obj b12 [.bool true, .int .i64 (-1)] 152, .obj b10 [.bool false, .int .i64 0] 152, .obj b9 [.int .i64 x3.Tx, .int .i64 x3.Kind, .int .i64 x3.Item] 164, .obj b1 (List.flatten [(zr Ttx209.rowv gq19 gl18).flatten, [.int .i64 gx8], (zr svRow gq10 gl9).flatten]) 212, .ss (zs Ttx209.sds gq19 gl18), .ss (zs (svSd 3 1 I) gq10 gl9), .sl gv3 152 2 (gl4.map TDid.row)], Cls w [] [.obj b12 [.bool true, .int .i64 (-1)] 152, .obj b10 [.bool false, .int .i64 0] 152, .obj b9 [.int .i64 x3.Tx, .int .i64 x3.Kind, .int .i64 x3.Item] 164, .obj b1 (List.flatten [(zr Ttx209.rowv gq19 gl18).flatten, [.int .i64 gx8], (zr svRow gq10 gl9).flatten]) 212, .ss (zs (svSd 3 1 I) gq10 gl9), .sl gv3 152 2 (gl4.map TDid.row)]] (Cls w [] [.obj b12 [.bool true, .int .i64 (-1)] 152, .obj b10 [.bool false, .int .i64 0] 152, .obj b9 [.int .i64 x3.Tx, .int .i64 x3.Kind, .int .i64 x3.Item] 164, .ss (zs (svSd 3 1 I) gq10 gl9), .sl gv3 152 2 (gl4.map TDid.row)])) rfl mixed (fun _ hw => hw.drew) (Sc.now (by kernel_rfl) (fun _ hw => hw)) ?_
             refine V2.y (i := 0) (Nx2.of (Z := Cls w [] [.obj b12 [.bool true, .int .i64 (-1)] 152, .obj b10 [.bool false, .int .i64 0] 152, .obj b9 [.int .i64 x3.Tx, .int .i64 x3.Kind, .int .i64 x3.Item] 164, .ss (zs (svSd 3 1 I) gq10 gl9), .sl gv3 152 2 (gl4.map TDid.row)]) [] (by kernel_rfl) rfl (Zc.on (fun _ hw => hw.sel [0, 1, 2, 5, 6] (by decide) rfl) (Zc.on (fun _ hw => hw.sel [0, 1, 2, 4, 5] (by decide) rfl) (Zc.fin (fun _ hw => hw))))) rfl rfl rfl (Y.move rfl) ?_
             refine V2.y (i := 1) (Nx2.of (Z := Cls w [] [.obj b12 [.bool true, .int .i64 (-1)] 152, .obj b10 [.bool false, .int .i64 0] 152, .obj b9 [.int .i64 x3.Tx, .int .i64 x3.Kind, .int .i64 x3.Item] 164, .ss (zs (svSd 3 1 I) gq10 gl9), .sl gv3 152 2 (gl4.map TDid.row)]) [] (by kernel_rfl) rfl (Zc.on (fun _ hw => hw.sel [0, 1, 2, 5, 6] (by decide) rfl) (Zc.on (fun _ hw => hw.sel [0, 1, 2, 4, 5] (by decide) rfl) (Zc.fin (fun _ hw => hw))))) rfl rfl rfl (Y.move rfl) ?_
             refine V2.nilc (i := 2) (Nx2.of (Z := Cls w [] [.obj b12 [.bool true, .int .i64 (-1)] 152, .obj b10 [.bool false, .int .i64 0] 152, .obj b9 [.int .i64 x3.Tx, .int .i64 x3.Kind, .int .i64 x3.Item] 164, .ss (zs (svSd 3 1 I) gq10 gl9), .sl gv3 152 2 (gl4.map TDid.row)]) [] (by kernel_rfl) rfl (Zc.on (fun _ hw => hw.sel [0, 1, 2, 5, 6] (by decide) rfl) (Zc.on (fun _ hw => hw.sel [0, 1, 2, 4, 5] (by decide) rfl) (Zc.fin (fun _ hw => hw))))) rfl rfl rfl ?_
             refine V2.y (i := 3) (Nx2.of (Z := Cls w [] [.obj b12 [.bool true, .int .i64 (-1)] 152, .obj b10 [.bool false, .int .i64 0] 152, .obj b9 [.int .i64 x3.Tx, .int .i64 x3.Kind, .int .i64 x3.Item] 164, .ss (zs (svSd 3 1 I) gq10 gl9), .sl gv3 152 2 (gl4.map TDid.row)]) [] (by kernel_rfl) rfl (Zc.on (fun _ hw => hw.sel [0, 1, 2, 5, 6] (by decide) rfl) (Zc.on (fun _ hw => hw.sel [0, 1, 2, 4, 5] (by decide) rfl) (Zc.fin (fun _ hw => hw))))) rfl rfl rfl (Y.fieldP fd209_5 rfl) ?_
             obtain ⟨x155, ex155, h⟩ := bind1S h
             refine V2.y (i := 4) (Nx2.of (Z := Cls w [] [.obj b12 [.bool true, .int .i64 (-1)] 152, .obj b10 [.bool false, .int .i64 0] 152, .obj b9 [.int .i64 x3.Tx, .int .i64 x3.Kind, .int .i64 x3.Item] 164, .obj b1 (List.flatten [(zr Ttx209.rowv gq19 gl18).flatten, [.int .i64 gx8], (zr svRow gq10 gl9).flatten]) 212, .ss (zs (svSd 3 1 I) gq10 gl9), .sl gv3 152 2 (gl4.map TDid.row)]) [11] (by kernel_rfl) rfl (Zc.on (fun _ hw => hw.sel [0, 1, 2, 3, 5, 6] (by decide) rfl) (Zc.at1 (fun _ hw => hw)))) rfl rfl rfl (Y.loadZg (si := 0) (ps := 0) (q := 3) (row := Ttx209.rowv) (vs := gq19) (j := 5) (pv := gv (gq19 x3.Tx.toNat) 1) ag24 rfl rfl rfl rfl sl0 (fun _ _ => rfl) ex155 rfl) ?_
             refine V2.y (i := 5) (Nx2.of (Z := Cls w [] [.obj b12 [.bool true, .int .i64 (-1)] 152, .obj b10 [.bool false, .int .i64 0] 152, .obj b9 [.int .i64 x3.Tx, .int .i64 x3.Kind, .int .i64 x3.Item] 164, .ss (zs (svSd 3 1 I) gq10 gl9), .sl gv3 152 2 (gl4.map TDid.row)]) [] (by kernel_rfl) rfl (Zc.on (fun _ hw => hw.sel [0, 1, 2, 5, 6] (by decide) rfl) (Zc.on (fun _ hw => hw.sel [0, 1, 2, 4, 5] (by decide) rfl) (Zc.fin (fun _ hw => hw))))) rfl rfl rfl (Y.fieldP fd164_2 rfl) ?_
             refine V2.y (i := 6) (Nx2.of (Z := Cls w [] [.obj b12 [.bool true, .int .i64 (-1)] 152, .obj b10 [.bool false, .int .i64 0] 152, .obj b9 [.int .i64 x3.Tx, .int .i64 x3.Kind, .int .i64 x3.Item] 164, .ss (zs (svSd 3 1 I) gq10 gl9), .sl gv3 152 2 (gl4.map TDid.row)]) [] (by kernel_rfl) rfl (Zc.on (fun _ hw => hw.sel [0, 1, 2, 5, 6] (by decide) rfl) (Zc.on (fun _ hw => hw.sel [0, 1, 2, 4, 5] (by decide) rfl) (Zc.fin (fun _ hw => hw))))) rfl rfl rfl (Y.loadP (i := 2) ag3 rfl rfl rfl) ?_
             refine V2.eff (i := 7) (by kernel_rfl) rfl ?_
             refine L.litOne rfl Try.underlying24 el3 rfl rfl ?_
             intro b156
             refine L.nil (E.toV2 (stC [[8, 11], [11]] [Cls w [] [.sl (sv b156 1) 3 1 (([x3.Item]).map I), .obj b12 [.bool true, .int .i64 (-1)] 152, .obj b10 [.bool false, .int .i64 0] 152, .obj b9 [.int .i64 x3.Tx, .int .i64 x3.Kind, .int .i64 x3.Item] 164, .obj b1 (List.flatten [(zr Ttx209.rowv gq19 gl18).flatten, [.int .i64 gx8], (zr svRow gq10 gl9).flatten]) 212, .ss (zs Ttx209.sds gq19 gl18), .ss (zs (svSd 3 1 I) gq10 gl9), .sl gv3 152 2 (gl4.map TDid.row)], Cls w [] [.sl (sv b156 1) 3 1 (([x3.Item]).map I), .obj b12 [.bool true, .int .i64 (-1)] 152, .obj b10 [.bool false, .int .i64 0] 152, .obj b9 [.int .i64 x3.Tx, .int .i64 x3.Kind, .int .i64 x3.Item] 164, .obj b1 (List.flatten [(zr Ttx209.rowv gq19 gl18).flatten, [.int .i64 gx8], (zr svRow gq10 gl9).flatten]) 212, .ss (zs (svSd 3 1 I) gq10 gl9), .sl gv3 152 2 (gl4.map TDid.row)]] (Cls w [] [.sl (sv b156 1) 3 1 (([x3.Item]).map I), .obj b12 [.bool true, .int .i64 (-1)] 152, .obj b10 [.bool false, .int .i64 0] 152, .obj b9 [.int .i64 x3.Tx, .int .i64 x3.Kind, .int .i64 x3.Item] 164, .ss (zs (svSd 3 1 I) gq10 gl9), .sl gv3 152 2 (gl4.map TDid.row)])) 7 (by kernel_rfl) (Sc.stay (fun _ hw => hw.sel [1, 2, 3, 4, 5, 6, 7] (by decide) rfl) (Sc.stay (fun _ hw => hw.sel [1, 2, 3, 4, 5, 6] (by decide) rfl) (Sc.stayD (fun _ hw => hw.sel [1, 2, 3, 4, 5] (by decide) rfl)))) (Sc.now (by kernel_rfl) (fun _ hw => hw)) ?_)
             refine V2.eff (i := 8) (by kernel_rfl) rfl ?_
             refine L.ssOut (sds := Ttx209.sds) (vs := gq19) (s := 5) (j := 1) (c := 2) rfl (fun _ _ => rfl) ex155 rfl ?_
             refine L.appM (i := 0) (g := I) (l := x155.writes_) (more := [x3.Item]) h rfl Try.underlying24 el3 rfl rfl rfl (fun w hw => As.at_ (hw.get (i := 1) rfl)) (plain_ints _) rfl ?_
             intro v157 l158 el158 h
             refine L.nil (E.toV2 (stC [[11]] [Cls w [] [.sl v157 3 1 (l158.map I), .sl (sv b156 1) 3 1 (([x3.Item]).map I), .obj b12 [.bool true, .int .i64 (-1)] 152, .obj b10 [.bool false, .int .i64 0] 152, .obj b9 [.int .i64 x3.Tx, .int .i64 x3.Kind, .int .i64 x3.Item] 164, .obj b1 (List.flatten [(zr Ttx209.rowv gq19 gl18).flatten, [.int .i64 gx8], (zr svRow gq10 gl9).flatten]) 212, .ss (zs (svSd 3 1 I) gq10 gl9), .sl gv3 152 2 (gl4.map TDid.row)]] (Cls w [] [.sl (sv b156 1) 3 1 (([x3.Item]).map I), .obj b12 [.bool true, .int .i64 (-1)] 152, .obj b10 [.bool false, .int .i64 0] 152, .obj b9 [.int .i64 x3.Tx, .int .i64 x3.Kind, .int .i64 x3.Item] 164, .ss (zs (svSd 3 1 I) gq10 gl9), .sl gv3 152 2 (gl4.map TDid.row)])) 8 (by kernel_rfl) (Sc.past rfl (Sc.stay (fun _ hw => hw.sel [1, 2, 3, 4, 5, 6, 7] (by decide) rfl) (Sc.stayD (fun _ hw => hw)))) (Sc.now (by kernel_rfl) (fun _ hw => hw.sel [0, 1, 2, 3, 4, 5, 7, 8] (by decide) rfl)) ?_)
             refine V2.nilc (i := 9) (Nx2.of (Z := Cls w [] [.sl (sv b156 1) 3 1 (([x3.Item]).map I), .obj b12 [.bool true, .int .i64 (-1)] 152, .obj b10 [.bool false, .int .i64 0] 152, .obj b9 [.int .i64 x3.Tx, .int .i64 x3.Kind, .int .i64 x3.Item] 164, .ss (zs (svSd 3 1 I) gq10 gl9), .sl gv3 152 2 (gl4.map TDid.row)]) [] (by kernel_rfl) rfl (Zc.on (fun _ hw => hw.sel [1, 2, 3, 4, 6, 7] (by decide) rfl) (Zc.fin (fun _ hw => hw)))) rfl rfl rfl ?_
             refine V2.y (i := 10) (Nx2.of (Z := Cls w [] [.sl (sv b156 1) 3 1 (([x3.Item]).map I), .obj b12 [.bool true, .int .i64 (-1)] 152, .obj b10 [.bool false, .int .i64 0] 152, .obj b9 [.int .i64 x3.Tx, .int .i64 x3.Kind, .int .i64 x3.Item] 164, .ss (zs (svSd 3 1 I) gq10 gl9), .sl gv3 152 2 (gl4.map TDid.row)]) [] (by kernel_rfl) rfl (Zc.on (fun _ hw => hw.sel [1, 2, 3, 4, 6, 7] (by decide) rfl) (Zc.fin (fun _ hw => hw)))) rfl rfl rfl (Y.fieldP fd209_5 rfl) ?_
             refine V2.eff (i := 11) (by kernel_rfl) rfl ?_
             obtain ⟨x159, ex159, h⟩ := bind1S h
             refine L.storeZSg (si := 0) (ps := 0) (row := Ttx209.rowv) (sds := Ttx209.sds) (vs := gq19) (q := 5) (p := 0) (s := 6) (c := 2) (jj := 1) (u1 := (⟨x159.began_, x159.done_, x159.from_, x159.at_, x159.reads_, l158⟩ : Ttx209)) (v1 := [gv (gq19 x3.Tx.toNat) 0, v157]) (j := 5) h sz24 rfl rfl rfl rfl rfl sl0 rfl rfl (.inr rfl) (fun _ _ => rfl) (fun _ _ => rfl) ex159 rfl rfl rfl rfl ?_
             intro l160 q161 el160 h
             refine L.nil (E.toV2 (stC [] [] (Cls w [] [.sl (sv b156 1) 3 1 (([x3.Item]).map I), .obj b12 [.bool true, .int .i64 (-1)] 152, .obj b10 [.bool false, .int .i64 0] 152, .obj b9 [.int .i64 x3.Tx, .int .i64 x3.Kind, .int .i64 x3.Item] 164, .ss (zs (svSd 3 1 I) gq10 gl9), .sl gv3 152 2 (gl4.map TDid.row)])) 11 (by kernel_rfl) (Sc.past rfl (Sc.stayD (fun _ hw => hw))) (Sc.atD (fun _ hw => hw.sel [0, 1, 2, 3, 6, 7] (by decide) rfl)) ?_)
             refine V2.done (by kernel_rfl) ?_
             exact E.blockN (E.joinJ ⟨(-1), l160, q161, gx8, gl9, gq10, rfl, rfl, h⟩ ⟨rfl, rfl, trivial⟩ (fun _ hw => hw.sel [1, 2, 4, 5, 6, 7] (by decide) rfl))
            ·
             replace h := iteT h
             refine U.y rfl (Y.not rfl) ?_
             refine U.nil (E.thenN (W.condF rfl ?_))
             exact W.skip (E.blockN (E.joinJ ⟨(-1), gl18, gq19, gx8, gl9, gq10, rfl, rfl, h⟩ ⟨rfl, rfl, trivial⟩ (fun _ hw => hw.sel [0, 1, 3, 4, 5, 6] (by decide) rfl)))
         ·
          replace h := iteT h
          refine W.condT rfl ?_
          refine W.region (L.y rfl (Y.move rfl) ?_)
          refine L.y rfl (Y.move rfl) ?_
          refine L.y rfl (Y.fieldP fd164_0 rfl) ?_
          refine L.y rfl (Y.loadP (i := 2) ag3 rfl rfl rfl) ?_
          refine L.y rfl (Y.fieldP fd164_2 rfl) ?_
          refine L.y rfl (Y.loadP (i := 2) ag3 rfl rfl rfl) ?_
          refine L.callJ (fun v D => ∃ (gx71 : Int) (gl72 : (List Ttx209)) (gq73 : Nat → List Value), v = .int .i64 gx71 ∧ D = Cls w [] [.obj b12 [.bool true, .int .i64 (-1)] 152, .obj b10 [.bool false, .int .i64 0] 152, .obj b1 (List.flatten [(zr Ttx209.rowv gq73 gl72).flatten, [.int .i64 gx8], (zr svRow gq10 gl9).flatten]) 212, .ss (zs Ttx209.sds gq73 gl72), .ss (zs (svSd 3 1 I) gq10 gl9), .sl gv3 152 2 (gl4.map TDid.row)] ∧ m96_skew_Play_K41 gl4 gx5 go1 gx8 gl9 gx71 gl72 = some r) rfl en155 rfl Try.func155 rfl rfl rfl ?_ ?_
          ·
           refine W.seq (W.region (L.y rfl (Y.assign rfl) ?_))
           refine L.nil (E.thenN (W.seqJ (fun gs D => gs = [(0, pt b1 0), (1, pt b1 (0 + x3.Tx.toNat * 6)), (3, .int .i64 x3.Item)] ∧ D = Cls w [] [.obj b12 [.bool true, .int .i64 (-1)] 152, .obj b10 [.bool false, .int .i64 0] 152, .obj b1 (List.flatten [(zr Ttx209.rowv gq19 gl18).flatten, [.int .i64 gx8], (zr svRow gq10 gl9).flatten]) 212, .ss (zs Ttx209.sds gq19 gl18), .ss (zs (svSd 3 1 I) gq10 gl9), .sl gv3 152 2 (gl4.map TDid.row)] ∧ m96_skew_Play_K42 gl18 x3 gl9 gl4 gx5 go1 gx8 = some r) ?_ ?_))
           ·
            refine W.seq (W.region (L.y rfl (Y.move rfl) ?_))
            refine L.y rfl (Y.nilCheck rfl) ?_
            refine L.y rfl (Y.fieldP fd209_5 rfl) ?_
            obtain ⟨x182, ex182, h⟩ := bind1S h
            refine L.y rfl (Y.loadZg (si := 0) (ps := 0) (q := 3) (row := Ttx209.rowv) (vs := gq19) (j := 5) (pv := gv (gq19 x3.Tx.toNat) 1) ag24 rfl rfl rfl rfl sl0 (fun _ _ => rfl) ex182 rfl) ?_
            refine L.y rfl (Y.move rfl) ?_
            obtain ⟨b183, e184, h⟩ := bind1S h
            refine L.y rfl (Y.does en134 rfl (fun w' hw => (w134_slices_Contains_int x182.writes_ x3.Item (gv (gq19 x3.Tx.toNat) 1) w' _ e184 (As.atZ (sds := Ttx209.sds) (vs := gq19) (j := 1) (c := 2) (hw.get (i := 4) rfl) (fun _ _ => rfl) ex182 rfl)).mono (fun _ _ h => h.1))) ?_
            rcases b183 with _ | _
            ·
             replace h := iteF h
             refine L.nil (E.thenN (W.condF rfl ?_))
             exact W.skip (E.joinJ ⟨rfl, rfl, h⟩ ⟨rfl, rfl, rfl, trivial⟩ (fun _ hw => hw.sel [0, 1, 3, 4, 5, 6] (by decide) rfl))
            ·
             replace h := iteT h
             refine L.nil (E.thenN (W.condT rfl ?_))
             refine W.seq (W.region (L.y rfl (Y.move rfl) ?_))
             refine L.y rfl (Y.assign rfl) ?_
             refine L.nil (E.thenN (W.ret (E.KSR (E.ret1 rfl rfl (fun w1 hw => ?_)))))
             exact ⟨_, _, rfl, ⟨x3.Tx, gl18, gq19, rfl, rfl, h⟩, hw.sel [0, 1, 3, 4, 5, 6] (by decide) rfl⟩
           ·
            rintro _ _ ⟨rfl, rfl, h⟩
            rw [m96_skew_Play_K42] at h
            refine W.seqJ (fun gs D => ∃ (gl74 : (List Ttx209)) (gq75 : Nat → List Value), gs = [(0, pt b1 0), (1, pt b1 (0 + x3.Tx.toNat * 6)), (3, .int .i64 x3.Item)] ∧ D = Cls w [] [.obj b12 [.bool true, .int .i64 (-1)] 152, .obj b10 [.bool false, .int .i64 0] 152, .obj b1 (List.flatten [(zr Ttx209.rowv gq75 gl74).flatten, [.int .i64 gx8], (zr svRow gq10 gl9).flatten]) 212, .ss (zs Ttx209.sds gq75 gl74), .ss (zs (svSd 3 1 I) gq10 gl9), .sl gv3 152 2 (gl4.map TDid.row)] ∧ m96_skew_Play_K43 gl9 x3 gl4 gx5 go1 gx8 gl74 = some r) ?_ ?_
            ·
             refine W.seq (W.region (L.y rfl (Y.move rfl) ?_))
             refine L.y rfl (Y.nilCheck rfl) ?_
             refine L.y rfl (Y.fieldP fd209_4 rfl) ?_
             obtain ⟨x172, ex172, h⟩ := bind1S h
             refine L.y rfl (Y.loadZg (si := 0) (ps := 0) (q := 2) (row := Ttx209.rowv) (vs := gq19) (j := 4) (pv := gv (gq19 x3.Tx.toNat) 0) ag24 rfl rfl rfl rfl sl0 (fun _ _ => rfl) ex172 rfl) ?_
             refine L.y rfl (Y.move rfl) ?_
             obtain ⟨b173, e174, h⟩ := bind1S h
             refine L.y rfl (Y.does en134 rfl (fun w' hw => (w134_slices_Contains_int x172.reads_ x3.Item (gv (gq19 x3.Tx.toNat) 0) w' _ e174 (As.atZ (sds := Ttx209.sds) (vs := gq19) (j := 0) (c := 2) (hw.get (i := 3) rfl) (fun _ _ => rfl) ex172 rfl)).mono (fun _ _ h => h.1))) ?_
             rcases b173 with _ | _
             ·
              replace h := iteF h
              refine L.y rfl (Y.not rfl) ?_
              refine L.nil (E.thenN (W.condT rfl ?_))
              refine W.region (L.y rfl (Y.move rfl) ?_)
              refine L.y rfl (Y.move rfl) ?_
              refine L.y rfl (Y.nilCheck rfl) ?_
              refine L.y rfl (Y.fieldP fd209_4 rfl) ?_
              obtain ⟨x175, ex175, h⟩ := bind1S h
              refine L.y rfl (Y.loadZg (si := 0) (ps := 0) (q := 2) (row := Ttx209.rowv) (vs := gq19) (j := 4) (pv := gv (gq19 x3.Tx.toNat) 0) ag24 rfl rfl rfl rfl sl0 (fun _ _ => rfl) ex175 rfl) ?_
              refine L.y rfl (Y.move rfl) ?_
              refine L.litOne rfl Try.underlying24 el3 rfl rfl ?_
              intro b176
              refine L.ssOut (sds := Ttx209.sds) (vs := gq19) (s := 4) (j := 0) (c := 2) rfl (fun _ _ => rfl) ex175 rfl ?_
              refine L.appM (i := 0) (g := I) (l := x175.reads_) (more := [x3.Item]) h rfl Try.underlying24 el3 rfl rfl rfl (fun w hw => As.at_ (hw.get (i := 1) rfl)) (plain_ints _) rfl ?_
              intro v177 l178 el178 h
              refine L.y rfl (Y.nilCheck rfl) ?_
              refine L.y rfl (Y.fieldP fd209_4 rfl) ?_
              obtain ⟨x179, ex179, h⟩ := bind1S h
              refine L.storeZSg (si := 0) (ps := 0) (row := Ttx209.rowv) (sds := Ttx209.sds) (vs := gq19) (q := 4) (p := 0) (s := 5) (c := 2) (jj := 0) (u1 := (⟨x179.began_, x179.done_, x179.from_, x179.at_, l178, x179.writes_⟩ : Ttx209)) (v1 := [v177, gv (gq19 x3.Tx.toNat) 1]) (j := 4) h sz24 rfl rfl rfl rfl rfl sl0 rfl rfl (.inr rfl) (fun _ _ => rfl) (fun _ _ => rfl) ex179 rfl rfl rfl rfl ?_
              intro l180 q181 el180 h
              exact L.nil (E.joinJ ⟨l180, q181, rfl, rfl, h⟩ ⟨rfl, rfl, rfl, trivial⟩ (fun _ hw => hw.sel [1, 2, 3, 4, 5, 6] (by decide) rfl))
             ·
              replace h := iteT h
              refine L.y rfl (Y.not rfl) ?_
              refine L.nil (E.thenN (W.condF rfl ?_))
              exact W.skip (E.joinJ ⟨gl18, gq19, rfl, rfl, h⟩ ⟨rfl, rfl, rfl, trivial⟩ (fun _ hw => hw))
            ·
             rintro _ _ ⟨gl74, gq75, rfl, rfl, h⟩
             rw [m96_skew_Play_K43] at h
             refine W.seq (W.region (L.y rfl (Y.assign rfl) ?_))
             refine L.nil (E.thenN (W.seqJ (fun gs D => ∃ (gx76 : Int), gs = [(9, .int .i64 gx76)] ∧ D = Cls w [] [.obj b12 [.bool true, .int .i64 (-1)] 152, .obj b10 [.bool false, .int .i64 0] 152, .obj b1 (List.flatten [(zr Ttx209.rowv gq75 gl74).flatten, [.int .i64 gx8], (zr svRow gq10 gl9).flatten]) 212, .ss (zs Ttx209.sds gq75 gl74), .ss (zs (svSd 3 1 I) gq10 gl9), .sl gv3 152 2 (gl4.map TDid.row)] ∧ m96_skew_Play_K44 gl4 gx5 go1 gx8 gl9 gl74 gx76 = some r) ?_ ?_))
             ·
              refine W.seq (W.region (L.y rfl (Y.move rfl) ?_))
              refine L.y rfl (Y.move rfl) ?_
              refine L.y rfl (Y.nilCheck rfl) ?_
              refine L.y rfl (Y.fieldP fd212_2 rfl) ?_
              refine L.m (V := fun _ => pt b1 (73 + x3.Item.toNat * 1)) h rfl (Y.indexAS (l := gl9) Try.underlying165 sz24 rfl rfl) (fun x163 ex163 h => ?_)
              obtain ⟨_, en164, h⟩ := bind1S h
              obtain ⟨_, en164⟩ := arrN_some en164
              refine L.y rfl (Y.loadZg (si := 2) (ps := 73) (q := 2) (row := svRow) (vs := gq10) (j := 0) (pv := gv (gq10 x3.Item.toNat) 0) ag24 rfl rfl rfl rfl (sl1 (a := 72) (p := 1) (zrN (nn := 12) (k := 6) (fun _ _ => rfl) en164) (sl1 (a := 1) (p := 0) rfl sl0)) (fun _ _ => rfl) (idxA_idx ex163) rfl) ?_
              refine L.y rfl (Y.lenM (g := I) (l := x163) Try.underlying24 rfl (fun w hw => As.atZ (sds := (svSd 3 1 I)) (vs := gq10) (j := 0) (c := 1) (hw.get (i := 4) rfl) (fun _ _ => rfl) (idxA_idx ex163) rfl)) ?_
              refine L.y rfl (Y.move rfl) ?_
              refine L.nil (E.thenN (W.block (W.loopJ (fun m gs D => ∃ (gx77 : Int) (gx78 : Int), gs = [(0, pt b1 0), (1, pt b1 (0 + x3.Tx.toNat * 6)), (9, .int .i64 gx77), (41, gv (gq10 x3.Item.toNat) 0), (42, .int .i64 (x163.length : Int)), (43, .int .i64 gx78)] ∧ D = Cls w [] [.obj b12 [.bool true, .int .i64 (-1)] 152, .obj b10 [.bool false, .int .i64 0] 152, .obj b1 (List.flatten [(zr Ttx209.rowv gq75 gl74).flatten, [.int .i64 gx8], (zr svRow gq10 gl9).flatten]) 212, .ss (zs Ttx209.sds gq75 gl74), .ss (zs (svSd 3 1 I) gq10 gl9), .sl gv3 152 2 (gl4.map TDid.row)] ∧ m96_skew_Play_L10 x163 gl74 x3 gl4 gx5 go1 gx8 gl9 m gx77 gx78 = some r) ⟨(-1), 0, rfl, rfl, h⟩ ⟨rfl, rfl, rfl, rfl, rfl, rfl, trivial⟩ (fun _ hw => hw) ?_)))
              rintro m _ _ ⟨gx77, gx78, rfl, rfl, h⟩
              rcases m with _ | m
              · rw [m96_skew_Play_L10] at h; cases h
              rw [m96_skew_Play_L10] at h
              generalize hg10 : m96_skew_Play_L10 x163 gl74 x3 gl4 gx5 go1 gx8 gl9 m = go10 at h
              rw [m96_skew_Play_L10B] at h
              refine W.seq (W.region (L.ite h rfl (Y.lss rfl rfl) (fun c165 h => ?_) (fun c165 h => ?_)))
              ·
               refine L.nil (E.thenN (W.seq (W.condT rfl ?_)))
               refine W.skip (E.thenN (W.seq (W.block (W.seq (W.region (L.m (V := fun _ => el (gv (gq10 x3.Item.toNat) 0) (gx78.toNat * 1)) h rfl (Y.indexM (g := I) (l := x163) Try.underlying24 sz3 rfl rfl (fun w hw => As.atZ (sds := (svSd 3 1 I)) (vs := gq10) (j := 0) (c := 1) (hw.get (i := 4) rfl) (fun _ _ => rfl) (idxA_idx ex163) rfl)) (fun x166 ex166 h => ?_)))))))
               refine L.y rfl (Y.loadE1 (u := .int .i64 x166) ag3 rfl (fun w hw => As.atZ (sds := (svSd 3 1 I)) (vs := gq10) (j := 0) (c := 1) (hw.get (i := 4) rfl) (fun _ _ => rfl) (idxA_idx ex163) rfl) (idx_map ex166)) ?_
               refine L.y rfl (Y.assign rfl) ?_
               refine L.nil (E.thenN (W.seq (W.quietC mixed (by kernel_rfl) (fun _ hw => hw.drew) (fun hC => ?_))))
               refine U.y rfl (Y.move rfl) ?_
               refine U.y rfl (Y.move rfl) ?_
               refine U.y rfl (Y.nilCheck rfl) ?_
               refine U.y rfl (Y.fieldP fd212_0 rfl) ?_
               refine U.m (V := fun _ => pt b1 (0 + x166.toNat * 6)) h rfl (Y.indexAS (l := gl74) Try.underlying210 sz209 rfl rfl) (fun x167 ex167 h => ?_)
               refine U.y rfl (Y.fieldP fd209_3 rfl) ?_
               refine U.y rfl (Y.loadZg (si := 0) (ps := 0) (q := 2) (row := Ttx209.rowv) (vs := gq75) (j := 3) (pv := .int .i64 x167.at_) ag3 rfl rfl rfl rfl sl0 (fun _ _ => rfl) (idxA_idx ex167) rfl) ?_
               refine U.y rfl (Y.move rfl) ?_
               refine U.y rfl (Y.nilCheck rfl) ?_
               refine U.y rfl (Y.fieldP fd209_2 rfl) ?_
               obtain ⟨x168, ex168, h⟩ := bind1S h
               refine U.y rfl (Y.loadZg (si := 0) (ps := 0) (q := 2) (row := Ttx209.rowv) (vs := gq75) (j := 2) (pv := .int .i64 x168.from_) ag3 rfl rfl rfl rfl sl0 (fun _ _ => rfl) ex168 rfl) ?_
               refine U.ite h rfl (Y.leq rfl rfl) (fun c169 h => ?_) (fun c169 h => ?_)
               ·
                refine U.nil (E.thenN (W.condT rfl ?_))
                refine W.region (L.y rfl (Y.move rfl) ?_)
                refine L.y rfl (Y.assign rfl) ?_
                refine L.nil (E.blockN (E.thenN (W.region (L.m (V := fun x170 => .int .i64 x170) h rfl (Y.addM rfl rfl) (fun x170 ex170 h => ?_)))))
                refine L.y rfl (Y.move rfl) ?_
                exact L.nil (E.againJ ⟨x166, x170, rfl, rfl, by rw [hg10]; exact h⟩ (Nat.lt_succ_self _) ⟨rfl, rfl, rfl, rfl, rfl, rfl, trivial⟩ (fun _ hw => hw))
               ·
                refine U.nil (E.thenN (W.condF rfl ?_))
                refine W.skip (E.blockN (E.thenN (W.region (L.m (V := fun x171 => .int .i64 x171) h rfl (Y.addM rfl rfl) (fun x171 ex171 h => ?_)))))
                refine L.y rfl (Y.move rfl) ?_
                exact L.nil (E.againJ ⟨gx77, x171, rfl, rfl, by rw [hg10]; exact h⟩ (Nat.lt_succ_self _) ⟨rfl, rfl, rfl, rfl, rfl, rfl, trivial⟩ (fun _ hw => hw))
              ·
               refine L.nil (E.thenN (W.seq (W.condF rfl ?_)))
               exact W.exit (E.thenX (E.KLX (E.blockX (E.joinJ ⟨gx77, rfl, rfl, h⟩ ⟨rfl, trivial⟩ (fun _ hw => hw)))))
             ·
              rintro _ _ ⟨gx76, rfl, rfl, h⟩
              rw [m96_skew_Play_K44] at h
              refine W.seq (W.region (L.y rfl (Y.move rfl) ?_))
              refine L.y rfl (Y.assign rfl) ?_
              refine L.nil (E.thenN (W.ret (E.ret1 rfl rfl (fun w1 hw => ?_))))
              exact ⟨_, _, rfl, ⟨gx76, gl74, gq75, rfl, rfl, h⟩, hw⟩
          ·
           rintro _ _ ⟨gx71, gl72, gq73, rfl, rfl, h⟩
           rw [m96_skew_Play_K41] at h
           refine L.y rfl (Y.fieldP fd152_1 rfl) ?_
           refine L.store (i := 0) sz3 rfl rfl rfl rfl (by simp [Value.oneCell', Value.cells, st, pt]) rfl (Nat.le_of_ble_eq_true rfl) ?_
           exact L.nil (E.blockN (E.joinJ ⟨gx71, gl72, gq73, gx8, gl9, gq10, rfl, rfl, h⟩ ⟨rfl, rfl, trivial⟩ (fun _ hw => hw)))
       ·
        rintro _ _ ⟨gx20, gl21, gq22, gx23, gl24, gq25, rfl, rfl, h⟩
        rw [m96_skew_Play_K5] at h
        refine W.seq (W.region (L.y rfl (Y.loadPW (i := 0) ag152 sz152 rfl rfl rfl) ?_))
        refine L.store (i := 1) sz152 rfl rfl rfl rfl (by simp [Value.oneCell', Value.cells, st, pt]) rfl (Nat.le_of_ble_eq_true rfl) ?_
        refine L.nil (E.thenN (W.ret (E.retR1 rfl (Rv.cellW (i := 1) ag152 sz152 rfl rfl rfl) (fun w1 hw => ?_))))
        exact ⟨_, _, rfl, ⟨true, gx20, gl21, gq22, gx23, gl24, gq25, rfl, rfl, h⟩, hw.sel [2, 3, 4, 5] (by decide) rfl⟩
     ·
      rintro _ _ ⟨gb11, gx12, gl13, gq14, gx15, gl16, gq17, rfl, rfl, h⟩
      rw [m96_skew_Play_K3] at h
      refine L.litAgg rfl Try.underlying147 el152 rfl rfl rfl ?_
      intro b5
      refine L.appM (i := 4) (g := TDid.row) (l := gl4) (more := [(⟨gb11, gx12⟩ : TDid)]) h rfl Try.underlying147 el152 rfl rfl rfl (fun w hw => As.at_ (hw.get (i := 0) rfl)) (plain_TDid _) rfl ?_
      intro v6 l7 el7 h
      refine L.y rfl (Y.assign rfl) ?_
      refine L.nil (E.blockN (E.thenN (W.region (L.m (V := fun x8 => .int .i64 x8) h rfl (Y.addM rfl rfl) (fun x8 ex8 h => ?_)))))
      refine L.y rfl (Y.move rfl) ?_
      exact L.nil (E.againJ ⟨v6, l7, x8, gl13, gq14, gx15, gl16, gq17, rfl, rfl, by rw [hg1]; exact h⟩ (Nat.lt_succ_self _) ⟨rfl, rfl, rfl, rfl, rfl, trivial⟩ (fun _ hw => hw.sel [2, 3, 4, 0] (by decide) rfl))
    ·
     refine L.nil (E.thenN (W.seq (W.condF rfl ?_)))
     exact W.exit (E.thenX (E.KLX (E.blockX (E.joinJ ⟨gv3, gl4, rfl, rfl, h⟩ ⟨rfl, trivial⟩ (fun _ hw => hw.sel [3] (by decide) rfl)))))
   ·
    rintro _ _ ⟨gv1, gl2, rfl, rfl, h⟩
    rw [m96_skew_Play_K2] at h
    refine W.seq (W.region (L.y rfl (Y.move rfl) ?_))
    refine L.y rfl (Y.assign rfl) ?_
    refine L.y rfl (Y.assign rfl) ?_
    refine L.nil (E.thenN (W.ret (E.ret2 rfl rfl rfl (fun w1 hw => ?_))))
    obtain rfl := Option.some.inj h
    exact ⟨_, _, rfl, ⟨_, rfl, rfl⟩, hw⟩
end Go.Proofs.Ytfmgjigdebofaaa
