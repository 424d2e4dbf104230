/-
  Walks, printed by a program of mine.
  Conditions: none.
-/
import Derived.Test.YtjdbjcmmdnpeaaaOtW1
import Derived.Test.YtjdbjcmmdnpeaaaChecked
import Derived.KernelRfl
import Derived.Test.YtjdbjcmmdnpeaaaOtO
namespace Go.Proofs.Ytjdbjcmmdnpeaaa
open Go.S
set_option linter.unusedVariables false
set_option linter.unusedSimpArgs false
set_option maxRecDepth 100000 in
set_option maxHeartbeats 8000000 in
theorem w5_quirref_Story (a0 : (List TOp)) (a1 : (List TDid)) (u0 : Value) (u1 : Value) (K : World → Prop) (w : World) (hK : StbF K w []) (r : (TStory × Int)) (h : m5_quirref_Story a0 a1 = some r) (hA0 : Fz K [] u0 3 (a0.map TOp.row)) (hA1 : Fz K [] u1 2 (a1.map TDid.row)) : Does Try.prog 5 [u0, u1] w fun u m => ∃ c, m = [.os c] ∧ ∃ v0 q0 v1 q1, u = .tuple #[.agg #[v0, v1], .int .i64 r.2] ∧ Fz K c v0 2 (zr TTale.rowv q0 r.1.Tales) ∧ FzA K c (zs TTale.sds q0 r.1.Tales) ∧ Fz K c v1 1 (zr svRow q1 r.1.Versions) ∧ FzA K c (zs (svSd 3 1 I) q1 r.1.Versions) := by
  rw [m5_quirref_Story] at h
  refine body (n := 174) Try.func5 rfl rfl rfl (Cls.reflF w) ?_
  refine W.seq (W.region (L.alloc rfl ze27 ?_))
  intro b1
  refine L.y rfl (Y.assign rfl) ?_
  refine L.nil (E.thenN (W.seqJ (fun gs D => gs = [(0, u0), (1, u1), (4, pt b1 0)] ∧ D = Cls w [] [.obj b1 [.slice none 0 0, .slice none 0 0] 27, .os []] ∧ m5_quirref_Story_K1 a0 a1 = some r) ?_ ?_))
  ·
   refine W.seq (W.region (L.y rfl (Y.move rfl) ?_))
   refine L.y rfl (Y.lenM (g := TOp.row) (l := a0) Try.underlying22 rfl (fun w' hw => (hA0.up.clsP hK hw rfl))) ?_
   refine L.y rfl (Y.move rfl) ?_
   refine L.y rfl (Y.lenM (g := TDid.row) (l := a1) Try.underlying23 rfl (fun w' hw => (hA1.up.clsP hK hw rfl))) ?_
   refine L.ite h rfl (Y.neq rfl rfl) (fun c101 h => ?_) (fun c101 h => ?_)
   ·
    refine L.y rfl (Y.move rfl) ?_
    refine L.pass rfl rfl (by nofun) ?_
    refine L.pass rfl rfl (by nofun) ?_
    refine L.pass rfl rfl (by nofun) ?_
    refine L.y rfl (Y.pickT rfl rfl) ?_
    refine L.nil (E.thenN (W.condT rfl ?_))
    refine W.seq (W.region (L.y rfl (Y.build (cells := #[.slice none 0 0, .slice none 0 0]) rfl (by kernel_rfl)) ?_))
    refine L.store (i := 0) (vs := [.slice none 0 0, .slice none 0 0]) sz27 rfl rfl rfl rfl (by simp [Value.oneCell', Value.cells, st, pt, el]) rfl (Nat.le_of_ble_eq_true rfl) ?_
    refine L.y rfl (Y.assign rfl) ?_
    refine L.nil (E.thenN (W.ret (E.KSR (E.retR2 rfl (Rv.cellW (i := 0) ag27 sz27 rfl rfl rfl) (Rv.tmp rfl) (fun w1 hw => ?_)))))
    obtain rfl := Option.some.inj h
    exact ⟨_, _, rfl, ⟨[], rfl, (.slice none 0 0), (fun _ => []), (.slice none 0 0), (fun _ => []), rfl, Fz.nil, FzA.nil, Fz.nil, FzA.nil⟩, hw.sel [1] (by decide) rfl⟩
   ·
    refine L.y rfl (Y.move rfl) ?_
    refine L.take rfl (L.y rfl (Y.move rfl) ?_)
    refine L.take rfl (L.y rfl (Y.lenM (g := TOp.row) (l := a0) Try.underlying22 rfl (fun w' hw => (hA0.up.clsP hK hw rfl))) ?_)
    refine L.take rfl (L.ite h rfl (Y.gtr rfl rfl) (fun c102 h => ?_) (fun c102 h => ?_))
    ·
     refine L.y rfl (Y.pickF rfl rfl) ?_
     refine L.nil (E.thenN (W.condT rfl ?_))
     refine W.seq (W.region (L.y rfl (Y.build (cells := #[.slice none 0 0, .slice none 0 0]) rfl (by kernel_rfl)) ?_))
     refine L.store (i := 0) (vs := [.slice none 0 0, .slice none 0 0]) sz27 rfl rfl rfl rfl (by simp [Value.oneCell', Value.cells, st, pt, el]) rfl (Nat.le_of_ble_eq_true rfl) ?_
     refine L.y rfl (Y.assign rfl) ?_
     refine L.nil (E.thenN (W.ret (E.KSR (E.retR2 rfl (Rv.cellW (i := 0) ag27 sz27 rfl rfl rfl) (Rv.tmp rfl) (fun w1 hw => ?_)))))
     obtain rfl := Option.some.inj h
     exact ⟨_, _, rfl, ⟨[], rfl, (.slice none 0 0), (fun _ => []), (.slice none 0 0), (fun _ => []), rfl, Fz.nil, FzA.nil, Fz.nil, FzA.nil⟩, hw.sel [1] (by decide) rfl⟩
    ·
     refine L.y rfl (Y.pickF rfl rfl) ?_
     refine L.nil (E.thenN (W.condF rfl ?_))
     exact W.skip (E.joinJ ⟨rfl, rfl, h⟩ ⟨rfl, rfl, rfl, trivial⟩ (fun _ hw => hw))
  ·
   rintro _ _ ⟨rfl, rfl, h⟩
   rw [m5_quirref_Story_K1] at h
   refine W.seqJ (fun gs D => gs = [(0, u0), (1, u1), (4, pt b1 0)] ∧ D = Cls w [] [.obj b1 [.slice none 0 0, .slice none 0 0] 27, .os []] ∧ m5_quirref_Story_K2 a0 a1 = some r) ?_ ?_
   ·
    refine W.seq (W.region (L.y rfl (Y.move rfl) ?_))
    refine L.y rfl (Y.lenM (g := TOp.row) (l := a0) Try.underlying22 rfl (fun w' hw => (hA0.up.clsP hK hw rfl))) ?_
    refine L.y rfl (Y.move rfl) ?_
    refine L.nil (E.thenN (W.block (W.loopJ (fun m gs D => ∃ (gx61 : Int), gs = [(0, u0), (1, u1), (4, pt b1 0), (27, u0), (28, .int .i64 (a0.length : Int)), (29, .int .i64 gx61)] ∧ D = Cls w [] [.obj b1 [.slice none 0 0, .slice none 0 0] 27, .os []] ∧ m5_quirref_Story_L5 a0 a1 m gx61 = some r) ⟨0, rfl, rfl, h⟩ ⟨rfl, rfl, rfl, rfl, rfl, rfl, trivial⟩ (fun _ hw => hw) ?_)))
    rintro m _ _ ⟨gx61, rfl, rfl, h⟩
    rcases m with _ | m
    · rw [m5_quirref_Story_L5] at h; cases h
    rw [m5_quirref_Story_L5] at h
    generalize hg5 : m5_quirref_Story_L5 a0 a1 m = go5 at h
    rw [m5_quirref_Story_L5B] at h
    refine W.seq (W.region (L.ite h rfl (Y.lss rfl rfl) (fun c93 h => ?_) (fun c93 h => ?_)))
    ·
     refine L.nil (E.thenN (W.seq (W.condT rfl ?_)))
     refine W.skip (E.thenN (W.seq (W.block (W.seq (W.region (L.m (V := fun _ => el u0 (gx61.toNat * 3)) h rfl (Y.indexM (g := TOp.row) (l := a0) Try.underlying22 sz37 rfl rfl (fun w' hw => (hA0.up.clsP hK hw rfl))) (fun x94 ex94 h => ?_)))))))
     refine L.y rfl (Y.loadEN (r := [.int .i64 x94.Tx, .int .i64 x94.Kind, .int .i64 x94.Item]) ag37 sz37 rfl (fun w' hw => (hA0.up.clsP hK hw rfl)) (idx_map ex94) rfl) ?_
     refine L.alloc rfl ze37 ?_
     intro b95
     refine L.store (i := 0) (vs := [.int .i64 x94.Tx, .int .i64 x94.Kind, .int .i64 x94.Item]) sz37 rfl rfl rfl rfl (by simp [Value.oneCell', Value.cells, st, pt, el]) rfl (Nat.le_of_ble_eq_true rfl) ?_
     refine L.nil (E.thenN (W.seq (W.region (L.cutJ 8 (fun gs D => ∃ (gb62 : Bool), gs = [(0, u0), (1, u1), (4, pt b1 0), (7, pt b95 0), (27, u0), (28, .int .i64 (a0.length : Int)), (29, .int .i64 gx61), (40, .bool gb62)] ∧ D = Cls w [] [.obj b95 [.int .i64 x94.Tx, .int .i64 x94.Kind, .int .i64 x94.Item] 37, .obj b1 [.slice none 0 0, .slice none 0 0] 27, .os []] ∧ m5_quirref_Story_K10 x94 gx61 go5 gb62 = some r) ?_ ?_))))
     ·
      refine L.y rfl (Y.fieldP fd37_0 rfl) ?_
      refine L.y rfl (Y.loadP (i := 0) ag3 rfl rfl rfl) ?_
      refine L.ite h rfl (Y.lss rfl rfl) (fun c99 h => ?_) (fun c99 h => ?_)
      ·
       refine L.y rfl (Y.move rfl) ?_
       refine L.pass rfl rfl (by nofun) ?_
       refine L.pass rfl rfl (by nofun) ?_
       refine L.pass rfl rfl (by nofun) ?_
       refine L.y rfl (Y.pickT rfl rfl) ?_
       exact L.nil (E.joinJ ⟨true, rfl, rfl, h⟩ ⟨rfl, rfl, rfl, rfl, rfl, rfl, rfl, rfl, trivial⟩ (fun _ hw => hw))
      ·
       refine L.y rfl (Y.move rfl) ?_
       refine L.take rfl (L.y rfl (Y.fieldP fd37_0 rfl) ?_)
       refine L.take rfl (L.y rfl (Y.loadP (i := 0) ag3 rfl rfl rfl) ?_)
       refine L.take rfl (L.ite h rfl (Y.gtr rfl rfl) (fun c100 h => ?_) (fun c100 h => ?_))
       ·
        refine L.y rfl (Y.pickF rfl rfl) ?_
        exact L.nil (E.joinJ ⟨true, rfl, rfl, h⟩ ⟨rfl, rfl, rfl, rfl, rfl, rfl, rfl, rfl, trivial⟩ (fun _ hw => hw))
       ·
        refine L.y rfl (Y.pickF rfl rfl) ?_
        exact L.nil (E.joinJ ⟨false, rfl, rfl, h⟩ ⟨rfl, rfl, rfl, rfl, rfl, rfl, rfl, rfl, trivial⟩ (fun _ hw => hw))
     ·
      rintro _ _ ⟨gb62, rfl, rfl, h⟩
      rw [m5_quirref_Story_K10] at h
      rcases gb62 with _ | _
      ·
       replace h := iteF h
       refine L.y rfl (Y.move rfl) ?_
       refine L.take rfl (L.y rfl (Y.fieldP fd37_2 rfl) ?_)
       refine L.take rfl (L.y rfl (Y.loadP (i := 0) ag3 rfl rfl rfl) ?_)
       refine L.take rfl (L.ite h rfl (Y.lss rfl rfl) (fun c96 h => ?_) (fun c96 h => ?_))
       ·
        refine L.y rfl (Y.pickF rfl rfl) ?_
        refine L.y rfl (Y.move rfl) ?_
        refine L.pass rfl rfl (by nofun) ?_
        refine L.pass rfl rfl (by nofun) ?_
        refine L.pass rfl rfl (by nofun) ?_
        refine L.y rfl (Y.pickT rfl rfl) ?_
        refine L.nil (E.thenN (W.condT rfl ?_))
        refine W.seq (W.region (L.y rfl (Y.build (cells := #[.slice none 0 0, .slice none 0 0]) rfl (by kernel_rfl)) ?_))
        refine L.store (i := 1) (vs := [.slice none 0 0, .slice none 0 0]) sz27 rfl rfl rfl rfl (by simp [Value.oneCell', Value.cells, st, pt, el]) rfl (Nat.le_of_ble_eq_true rfl) ?_
        refine L.y rfl (Y.assign rfl) ?_
        refine L.nil (E.thenN (W.ret (E.blockR (E.thenR (E.KLR (E.blockR (E.KSR (E.retR2 rfl (Rv.cellW (i := 1) ag27 sz27 rfl rfl rfl) (Rv.tmp rfl) (fun w1 hw => ?_)))))))))
        obtain rfl := Option.some.inj h
        exact ⟨_, _, rfl, ⟨[], rfl, (.slice none 0 0), (fun _ => []), (.slice none 0 0), (fun _ => []), rfl, Fz.nil, FzA.nil, Fz.nil, FzA.nil⟩, hw.sel [2] (by decide) rfl⟩
       ·
        refine L.y rfl (Y.pickF rfl rfl) ?_
        refine L.y rfl (Y.move rfl) ?_
        refine L.take rfl (L.y rfl (Y.fieldP fd37_2 rfl) ?_)
        refine L.take rfl (L.y rfl (Y.loadP (i := 0) ag3 rfl rfl rfl) ?_)
        refine L.take rfl (L.ite h rfl (Y.gtr rfl rfl) (fun c97 h => ?_) (fun c97 h => ?_))
        ·
         refine L.y rfl (Y.pickF rfl rfl) ?_
         refine L.nil (E.thenN (W.condT rfl ?_))
         refine W.seq (W.region (L.y rfl (Y.build (cells := #[.slice none 0 0, .slice none 0 0]) rfl (by kernel_rfl)) ?_))
         refine L.store (i := 1) (vs := [.slice none 0 0, .slice none 0 0]) sz27 rfl rfl rfl rfl (by simp [Value.oneCell', Value.cells, st, pt, el]) rfl (Nat.le_of_ble_eq_true rfl) ?_
         refine L.y rfl (Y.assign rfl) ?_
         refine L.nil (E.thenN (W.ret (E.blockR (E.thenR (E.KLR (E.blockR (E.KSR (E.retR2 rfl (Rv.cellW (i := 1) ag27 sz27 rfl rfl rfl) (Rv.tmp rfl) (fun w1 hw => ?_)))))))))
         obtain rfl := Option.some.inj h
         exact ⟨_, _, rfl, ⟨[], rfl, (.slice none 0 0), (fun _ => []), (.slice none 0 0), (fun _ => []), rfl, Fz.nil, FzA.nil, Fz.nil, FzA.nil⟩, hw.sel [2] (by decide) rfl⟩
        ·
         refine L.y rfl (Y.pickF rfl rfl) ?_
         refine L.nil (E.thenN (W.condF rfl ?_))
         refine W.skip (E.blockN (E.thenN (W.region (L.m (V := fun x98 => .int .i64 x98) h rfl (Y.addM rfl rfl) (fun x98 ex98 h => ?_)))))
         refine L.y rfl (Y.move rfl) ?_
         exact L.nil (E.againJ ⟨x98, rfl, rfl, by rw [hg5]; exact h⟩ (Nat.lt_succ_self _) ⟨rfl, rfl, rfl, rfl, rfl, rfl, trivial⟩ (fun _ hw => hw.sel [1, 2] (by decide) rfl))
      ·
       replace h := iteT h
       refine L.y rfl (Y.move rfl) ?_
       refine L.pass rfl rfl (by nofun) ?_
       refine L.pass rfl rfl (by nofun) ?_
       refine L.pass rfl rfl (by nofun) ?_
       refine L.y rfl (Y.pickT rfl rfl) ?_
       refine L.y rfl (Y.move rfl) ?_
       refine L.pass rfl rfl (by nofun) ?_
       refine L.pass rfl rfl (by nofun) ?_
       refine L.pass rfl rfl (by nofun) ?_
       refine L.y rfl (Y.pickT rfl rfl) ?_
       refine L.nil (E.thenN (W.condT rfl ?_))
       refine W.seq (W.region (L.y rfl (Y.build (cells := #[.slice none 0 0, .slice none 0 0]) rfl (by kernel_rfl)) ?_))
       refine L.store (i := 1) (vs := [.slice none 0 0, .slice none 0 0]) sz27 rfl rfl rfl rfl (by simp [Value.oneCell', Value.cells, st, pt, el]) rfl (Nat.le_of_ble_eq_true rfl) ?_
       refine L.y rfl (Y.assign rfl) ?_
       refine L.nil (E.thenN (W.ret (E.blockR (E.thenR (E.KLR (E.blockR (E.KSR (E.retR2 rfl (Rv.cellW (i := 1) ag27 sz27 rfl rfl rfl) (Rv.tmp rfl) (fun w1 hw => ?_)))))))))
       obtain rfl := Option.some.inj h
       exact ⟨_, _, rfl, ⟨[], rfl, (.slice none 0 0), (fun _ => []), (.slice none 0 0), (fun _ => []), rfl, Fz.nil, FzA.nil, Fz.nil, FzA.nil⟩, hw.sel [2] (by decide) rfl⟩
    ·
     refine L.nil (E.thenN (W.seq (W.condF rfl ?_)))
     exact W.exit (E.thenX (E.KLX (E.blockX (E.joinJ ⟨rfl, rfl, h⟩ ⟨rfl, rfl, rfl, trivial⟩ (fun _ hw => hw)))))
   ·
    rintro _ _ ⟨rfl, rfl, h⟩
    rw [m5_quirref_Story_K2] at h
    refine W.seq (W.region ?_)
    obtain ⟨l2, el2, h⟩ := bind1S h
    refine L.makeZ (row := svRow) (sds := (svSd 3 1 I)) (nv := [nilV]) (z0 := ([] : (List Int))) el2 rfl Try.underlying25 eL34 ze34 rfl rfl rfl (gall1 rfl rfl gall0) ?_
    intro b3
    refine L.y rfl (Y.buildC (cells := #[.slice none 0 0, (sv b3 (20 : Int).toNat)]) rfl (fun w hw => by rcases ((As.at_ (hw.get (i := 0) rfl))).shape with ⟨h0, _⟩ | ⟨_, _, h0, _, _⟩ <;> simp only [h0] <;> kernel_rfl)) ?_
    refine L.alloc rfl ze27 ?_
    intro b4
    refine L.storeC (i := 0) sz27 rfl rfl rfl rfl (fun w hw => (all1 rfl (all1 (As.at_ (hw.get (i := 1) rfl)).one all0))) rfl (Nat.le_of_ble_eq_true rfl) ?_
    refine L.nil (E.thenN (W.seqJ (fun gs D => ∃ (gc1 : List Ob) (gv2 : Value) (gl3 : (List TTale)) (gq4 : Nat → List Value) (gu6 : Unit) (gl7 : (List (List Int))) (gq8 : Nat → List Value), gs = [(4, pt b1 0), (8, pt b4 0)] ∧ D = Cls w [] [.obj b4 [gv2, (sv b3 (20 : Int).toNat)] 27, .obj b1 [.slice none 0 0, .slice none 0 0] 27, .sl gv2 41 2 (zr TTale.rowv gq4 gl3), .sl (sv b3 (20 : Int).toNat) 34 1 (zr svRow gq8 gl7), .ss (zs (svSd 3 1 I) gq8 gl7), .os gc1] ∧ FzA K gc1 (zs TTale.sds gq4 gl3) ∧ m5_quirref_Story_K3 gl3 gl7 = some r) ?_ ?_))
    ·
     refine W.seq (W.region (L.y rfl (Y.move rfl) ?_))
     refine L.y rfl (Y.lenM (g := TOp.row) (l := a0) Try.underlying22 rfl (fun w' hw => (hA0.up.clsP hK hw rfl))) ?_
     refine L.y rfl (Y.move rfl) ?_
     refine L.nil (E.thenN (W.block (W.nilSl 41 2 ?_)))
     refine W.loopJ (fun m gs D => ∃ (gc9 : List Ob) (gx10 : Int) (gv11 : Value) (gl12 : (List TTale)) (gq13 : Nat → List Value) (gu15 : Unit) (gl16 : (List (List Int))) (gq17 : Nat → List Value), gs = [(0, u0), (1, u1), (4, pt b1 0), (8, pt b4 0), (55, u0), (56, .int .i64 (a0.length : Int)), (57, .int .i64 gx10)] ∧ D = Cls w [] [.obj b4 [gv11, (sv b3 (20 : Int).toNat)] 27, .obj b1 [.slice none 0 0, .slice none 0 0] 27, .sl gv11 41 2 (zr TTale.rowv gq13 gl12), .sl (sv b3 (20 : Int).toNat) 34 1 (zr svRow gq17 gl16), .ss (zs (svSd 3 1 I) gq17 gl16), .os gc9] ∧ FzA K gc9 (zs TTale.sds gq13 gl12) ∧ m5_quirref_Story_L1 a0 a1 m gx10 gl12 gl16 = some r) ⟨[], 0, .slice none 0 0, [], (fun _ => []), (), l2, (fun _ => [nilV]), rfl, rfl, FzA.nil, h⟩ ⟨rfl, rfl, rfl, rfl, rfl, rfl, rfl, trivial⟩ (fun _ hw => hw.sel [1, 4, 0, 2, 3, 5] (by decide) rfl) ?_
     rintro m _ _ ⟨gc9, gx10, gv11, gl12, gq13, gu15, gl16, gq17, rfl, rfl, hG14, h⟩
     rcases m with _ | m
     · rw [m5_quirref_Story_L1] at h; cases h
     rw [m5_quirref_Story_L1] at h
     generalize hg1 : m5_quirref_Story_L1 a0 a1 m = go1 at h
     rw [m5_quirref_Story_L1B] at h
     refine W.seq (W.region (L.ite h rfl (Y.lss rfl rfl) (fun c17 h => ?_) (fun c17 h => ?_)))
     ·
      refine L.nil (E.thenN (W.seq (W.condT rfl ?_)))
      refine W.skip (E.thenN (W.seqJ (fun gs D => ∃ (gc18 : List Ob) (gv19 : Value) (gl20 : (List TTale)) (gq21 : Nat → List Value) (gu23 : Unit) (gl24 : (List (List Int))) (gq25 : Nat → List Value), gs = [(0, u0), (1, u1), (4, pt b1 0), (8, pt b4 0), (55, u0), (56, .int .i64 (a0.length : Int)), (57, .int .i64 gx10)] ∧ D = Cls w [] [.obj b4 [gv19, (sv b3 (20 : Int).toNat)] 27, .obj b1 [.slice none 0 0, .slice none 0 0] 27, .sl gv19 41 2 (zr TTale.rowv gq21 gl20), .sl (sv b3 (20 : Int).toNat) 34 1 (zr svRow gq25 gl24), .ss (zs (svSd 3 1 I) gq25 gl24), .os gc18] ∧ FzA K gc18 (zs TTale.sds gq21 gl20) ∧ m5_quirref_Story_K4 gx10 go1 gl20 gl24 = some r) ?_ ?_))
      ·
       refine W.block (W.seq (W.region (L.y rfl (Y.move rfl) ?_)))
       refine L.m (V := fun _ => el u0 (gx10.toNat * 3)) h rfl (Y.indexM (g := TOp.row) (l := a0) Try.underlying22 sz37 rfl rfl (fun w' hw => (hA0.up.clsP hK hw rfl))) (fun x19 ex19 h => ?_)
       refine L.y rfl (Y.loadEN (r := [.int .i64 x19.Tx, .int .i64 x19.Kind, .int .i64 x19.Item]) ag37 sz37 rfl (fun w' hw => (hA0.up.clsP hK hw rfl)) (idx_map ex19) rfl) ?_
       refine L.alloc rfl ze37 ?_
       intro b20
       refine L.y rfl (Y.assign rfl) ?_
       refine L.store (i := 0) (vs := [.int .i64 x19.Tx, .int .i64 x19.Kind, .int .i64 x19.Item]) sz37 rfl rfl rfl rfl (by simp [Value.oneCell', Value.cells, st, pt, el]) rfl (Nat.le_of_ble_eq_true rfl) ?_
       refine L.nil (E.thenN (W.seqJ (fun gs D => ∃ (gu27 : Unit), gs = [(0, u0), (1, u1), (4, pt b1 0), (8, pt b4 0), (9, .int .i64 gx10), (10, pt b20 0), (55, u0), (56, .int .i64 (a0.length : Int)), (57, .int .i64 gx10)] ∧ D = Cls w [] [.obj b20 [.int .i64 x19.Tx, .int .i64 x19.Kind, .int .i64 x19.Item] 37, .obj b4 [gv11, (sv b3 (20 : Int).toNat)] 27, .obj b1 [.slice none 0 0, .slice none 0 0] 27, .sl gv11 41 2 (zr TTale.rowv gq13 gl12), .sl (sv b3 (20 : Int).toNat) 34 1 (zr svRow gq17 gl16), .ss (zs (svSd 3 1 I) gq17 gl16), .os gc9] ∧ FzA K gc9 (zs TTale.sds gq13 gl12) ∧ m5_quirref_Story_K5 a0 gx10 x19 a1 gl12 go1 gl16 = some r) ?_ ?_))
       ·
        refine W.seq (W.region (L.y rfl (Y.fieldP fd37_1 rfl) ?_))
        refine L.y rfl (Y.loadP (i := 0) ag3 rfl rfl rfl) ?_
        refine L.ite h rfl (Y.neq rfl rfl) (fun c90 h => ?_) (fun c90 h => ?_)
        ·
         refine L.y rfl (Y.move rfl) ?_
         refine L.pass rfl rfl (by nofun) ?_
         refine L.pass rfl rfl (by nofun) ?_
         refine L.pass rfl rfl (by nofun) ?_
         refine L.pass rfl rfl (by nofun) ?_
         refine L.pass rfl rfl (by nofun) ?_
         refine L.pass rfl rfl (by nofun) ?_
         refine L.y rfl (Y.pickT rfl rfl) ?_
         refine L.nil (E.thenN (W.condT rfl ?_))
         exact W.exit (E.KSX (E.blockX (E.joinJ ⟨gc9, gv11, gl12, gq13, (), gl16, gq17, rfl, rfl, hG14, h⟩ ⟨rfl, rfl, rfl, rfl, rfl, rfl, rfl, trivial⟩ (fun _ hw => hw.sel [1, 2, 3, 4, 5, 6] (by decide) rfl))))
        ·
         refine L.y rfl (Y.move rfl) ?_
         refine L.take rfl (L.y rfl (Y.move rfl) ?_)
         refine L.take rfl (L.y rfl (Y.move rfl) ?_)
         refine L.take rfl (L.m (V := fun _ => el u1 (gx10.toNat * 2)) h rfl (Y.indexM (g := TDid.row) (l := a1) Try.underlying23 sz43 rfl rfl (fun w' hw => (hA1.up.clsP hK hw rfl))) (fun x91 ex91 h => ?_))
         refine L.take rfl (L.y rfl (Y.fieldE fd43_0 rfl) ?_)
         refine L.take rfl (L.iteB h rfl (Y.loadE (u := .bool x91.OK) ag4 rfl (fun w' hw => (hA1.up.clsP hK hw rfl)) (idx_map ex91) rfl) (fun c92 h => ?_) (fun c92 h => ?_))
         ·
          refine L.take rfl (L.y rfl (Y.not rfl) ?_)
          refine L.y rfl (Y.pickF rfl rfl) ?_
          refine L.nil (E.thenN (W.condF rfl ?_))
          exact W.skip (E.joinJ ⟨(), rfl, rfl, hG14, h⟩ ⟨rfl, rfl, rfl, rfl, rfl, rfl, rfl, rfl, rfl, trivial⟩ (fun _ hw => hw))
         ·
          refine L.take rfl (L.y rfl (Y.not rfl) ?_)
          refine L.y rfl (Y.pickF rfl rfl) ?_
          refine L.nil (E.thenN (W.condT rfl ?_))
          exact W.exit (E.KSX (E.blockX (E.joinJ ⟨gc9, gv11, gl12, gq13, (), gl16, gq17, rfl, rfl, hG14, h⟩ ⟨rfl, rfl, rfl, rfl, rfl, rfl, rfl, trivial⟩ (fun _ hw => hw.sel [1, 2, 3, 4, 5, 6] (by decide) rfl))))
       ·
        rintro _ _ ⟨gu27, rfl, rfl, hG26, h⟩
        rw [m5_quirref_Story_K5] at h
        refine W.seq (W.region (L.y rfl (Y.fieldP fd37_0 rfl) ?_))
        refine L.y rfl (Y.loadP (i := 0) ag3 rfl rfl rfl) ?_
        refine L.y rfl (Y.build (cells := #[.int .i64 x19.Tx, .slice none 0 0]) rfl (by kernel_rfl)) ?_
        refine L.alloc rfl ze41 ?_
        intro b21
        refine L.store (i := 0) (vs := [.int .i64 x19.Tx, .slice none 0 0]) sz41 rfl rfl rfl rfl (by simp [Value.oneCell', Value.cells, st, pt, el]) rfl (Nat.le_of_ble_eq_true rfl) ?_
        refine L.nil (E.thenN (W.seqJ (fun gs D => ∃ (gv28 : Value) (gl29 : (List TGot)) (gu31 : Unit), gs = [(0, u0), (1, u1), (4, pt b1 0), (8, pt b4 0), (9, .int .i64 gx10), (10, pt b20 0), (11, pt b21 0), (55, u0), (56, .int .i64 (a0.length : Int)), (57, .int .i64 gx10)] ∧ D = Cls w [] [.obj b21 [.int .i64 x19.Tx, gv28] 41, .obj b20 [.int .i64 x19.Tx, .int .i64 x19.Kind, .int .i64 x19.Item] 37, .obj b4 [gv11, (sv b3 (20 : Int).toNat)] 27, .obj b1 [.slice none 0 0, .slice none 0 0] 27, .sl gv28 45 2 (gl29.map TGot.row), .sl gv11 41 2 (zr TTale.rowv gq13 gl12), .sl (sv b3 (20 : Int).toNat) 34 1 (zr svRow gq17 gl16), .ss (zs (svSd 3 1 I) gq17 gl16), .os gc9] ∧ FzA K gc9 (zs TTale.sds gq13 gl12) ∧ m5_quirref_Story_K6 a0 gx10 x19 gl12 go1 gl16 gl29 = some r) ?_ ?_))
        ·
         refine W.seq (W.region (L.y rfl (Y.move rfl) ?_))
         refine L.y rfl (Y.move rfl) ?_
         refine L.m (V := fun _ => cutv u0 gx10.toNat) h rfl (Y.cutM (g := TOp.row) Try.underlying22 sz37 rfl rfl (fun w' hw => (hA0.up.clsP hK hw rfl))) (fun l67 el67 h => ?_)
         refine L.y rfl (Y.lenM (g := TOp.row) (l := l67) Try.underlying22 rfl (fun w' hw => (((hA0.cutM el67).up).clsP hK hw rfl))) ?_
         refine L.y rfl (Y.move rfl) ?_
         refine L.nil (E.thenN (W.block (W.nilSl 45 2 ?_)))
         refine W.loopJ (fun m gs D => ∃ (gx53 : Int) (gv54 : Value) (gl55 : (List TGot)) (gu57 : Unit), gs = [(0, u0), (1, u1), (4, pt b1 0), (8, pt b4 0), (9, .int .i64 gx10), (10, pt b20 0), (11, pt b21 0), (55, u0), (56, .int .i64 (a0.length : Int)), (57, .int .i64 gx10), (78, cutv u0 gx10.toNat), (79, .int .i64 (l67.length : Int)), (80, .int .i64 gx53)] ∧ D = Cls w [] [.obj b21 [.int .i64 x19.Tx, gv54] 41, .obj b20 [.int .i64 x19.Tx, .int .i64 x19.Kind, .int .i64 x19.Item] 37, .obj b4 [gv11, (sv b3 (20 : Int).toNat)] 27, .obj b1 [.slice none 0 0, .slice none 0 0] 27, .sl gv54 45 2 (gl55.map TGot.row), .sl gv11 41 2 (zr TTale.rowv gq13 gl12), .sl (sv b3 (20 : Int).toNat) 34 1 (zr svRow gq17 gl16), .ss (zs (svSd 3 1 I) gq17 gl16), .os gc9] ∧ FzA K gc9 (zs TTale.sds gq13 gl12) ∧ m5_quirref_Story_L4 l67 x19 a1 a0 gx10 gl12 go1 gl16 m gx53 gl55 = some r) ⟨0, .slice none 0 0, [], (), rfl, rfl, hG26, h⟩ ⟨rfl, rfl, rfl, rfl, rfl, rfl, rfl, rfl, rfl, rfl, rfl, rfl, rfl, trivial⟩ (fun _ hw => hw.sel [1, 2, 3, 4, 0, 5, 6, 7, 8] (by decide) rfl) ?_
         rintro m _ _ ⟨gx53, gv54, gl55, gu57, rfl, rfl, hG56, h⟩
         rcases m with _ | m
         · rw [m5_quirref_Story_L4] at h; cases h
         rw [m5_quirref_Story_L4] at h
         generalize hg4 : m5_quirref_Story_L4 l67 x19 a1 a0 gx10 gl12 go1 gl16 m = go4 at h
         rw [m5_quirref_Story_L4B] at h
         refine W.seq (W.region (L.ite h rfl (Y.lss rfl rfl) (fun c68 h => ?_) (fun c68 h => ?_)))
         ·
          refine L.nil (E.thenN (W.seq (W.condT rfl ?_)))
          refine W.skip (E.thenN (W.seq (W.block (W.seq (W.region (L.y rfl (Y.move rfl) ?_))))))
          refine L.m (V := fun _ => el (cutv u0 gx10.toNat) (gx53.toNat * 3)) h rfl (Y.indexM (g := TOp.row) (l := l67) Try.underlying22 sz37 rfl rfl (fun w' hw => (((hA0.cutM el67).up).clsP hK hw rfl))) (fun x69 ex69 h => ?_)
          refine L.y rfl (Y.loadEN (r := [.int .i64 x69.Tx, .int .i64 x69.Kind, .int .i64 x69.Item]) ag37 sz37 rfl (fun w' hw => (((hA0.cutM el67).up).clsP hK hw rfl)) (idx_map ex69) rfl) ?_
          refine L.alloc rfl ze37 ?_
          intro b70
          refine L.y rfl (Y.assign rfl) ?_
          refine L.store (i := 0) (vs := [.int .i64 x69.Tx, .int .i64 x69.Kind, .int .i64 x69.Item]) sz37 rfl rfl rfl rfl (by simp [Value.oneCell', Value.cells, st, pt, el]) rfl (Nat.le_of_ble_eq_true rfl) ?_
          refine L.nil (E.thenN (W.seq (W.quietC mixed (by kernel_rfl) (fun _ hw => hw.drew) (fun hC => ?_))))
          refine U.cutJ hC 10 (fun gs => ∃ (gb58 : Bool) (gu60 : Unit), gs = [(0, u0), (1, u1), (4, pt b1 0), (8, pt b4 0), (9, .int .i64 gx10), (10, pt b20 0), (11, pt b21 0), (12, .int .i64 gx53), (13, pt b70 0), (55, u0), (56, .int .i64 (a0.length : Int)), (57, .int .i64 gx10), (78, cutv u0 gx10.toNat), (79, .int .i64 (l67.length : Int)), (80, .int .i64 gx53), (94, .bool gb58)] ∧ FzA K gc9 (zs TTale.sds gq13 gl12) ∧ m5_quirref_Story_K9 a1 gx53 x19 gl55 x69 go4 gb58 = some r) ?_ ?_
          ·
           refine U.y rfl (Y.fieldP fd37_0 rfl) ?_
           refine U.y rfl (Y.loadP (i := 0) ag3 rfl rfl rfl) ?_
           refine U.y rfl (Y.fieldP fd37_0 rfl) ?_
           refine U.y rfl (Y.loadP (i := 2) ag3 rfl rfl rfl) ?_
           refine U.ite h rfl (Y.eql rfl rfl) (fun c88 h => ?_) (fun c88 h => ?_)
           ·
            refine U.y rfl (Y.move rfl) ?_
            refine U.take rfl (U.y rfl (Y.fieldP fd37_1 rfl) ?_)
            refine U.take rfl (U.y rfl (Y.loadP (i := 0) ag3 rfl rfl rfl) ?_)
            refine U.take rfl (U.ite h rfl (Y.eql rfl rfl) (fun c89 h => ?_) (fun c89 h => ?_))
            ·
             refine U.y rfl (Y.pickT rfl rfl) ?_
             exact U.nil (E.joinU ⟨true, (), rfl, hG56, h⟩ ⟨rfl, rfl, rfl, rfl, rfl, rfl, rfl, rfl, rfl, rfl, rfl, rfl, rfl, rfl, rfl, rfl, trivial⟩)
            ·
             refine U.y rfl (Y.pickT rfl rfl) ?_
             exact U.nil (E.joinU ⟨false, (), rfl, hG56, h⟩ ⟨rfl, rfl, rfl, rfl, rfl, rfl, rfl, rfl, rfl, rfl, rfl, rfl, rfl, rfl, rfl, rfl, trivial⟩)
           ·
            refine U.y rfl (Y.move rfl) ?_
            refine U.pass rfl rfl (by nofun) ?_
            refine U.pass rfl rfl (by nofun) ?_
            refine U.pass rfl rfl (by nofun) ?_
            refine U.y rfl (Y.pickF rfl rfl) ?_
            exact U.nil (E.joinU ⟨false, (), rfl, hG56, h⟩ ⟨rfl, rfl, rfl, rfl, rfl, rfl, rfl, rfl, rfl, rfl, rfl, rfl, rfl, rfl, rfl, rfl, trivial⟩)
          ·
           rintro _ ⟨gb58, gu60, rfl, hG59, h⟩
           rw [m5_quirref_Story_K9] at h
           rcases gb58 with _ | _
           ·
            replace h := iteF h
            refine U.y rfl (Y.move rfl) ?_
            refine U.pass rfl rfl (by nofun) ?_
            refine U.pass rfl rfl (by nofun) ?_
            refine U.pass rfl rfl (by nofun) ?_
            refine U.pass rfl rfl (by nofun) ?_
            refine U.pass rfl rfl (by nofun) ?_
            refine U.pass rfl rfl (by nofun) ?_
            refine U.pass rfl rfl (by nofun) ?_
            refine U.pass rfl rfl (by nofun) ?_
            refine U.y rfl (Y.pickF rfl rfl) ?_
            refine U.nil (E.thenN (W.condF rfl ?_))
            refine W.skip (E.blockN (E.thenN (W.region (L.m (V := fun x71 => .int .i64 x71) h rfl (Y.addM rfl rfl) (fun x71 ex71 h => ?_)))))
            refine L.y rfl (Y.move rfl) ?_
            exact L.nil (E.againJ ⟨x71, gv54, gl55, (), rfl, rfl, hG56, by rw [hg4]; exact h⟩ (Nat.lt_succ_self _) ⟨rfl, rfl, rfl, rfl, rfl, rfl, rfl, rfl, rfl, rfl, rfl, rfl, rfl, trivial⟩ (fun _ hw => hw.sel [1, 2, 3, 4, 5, 6, 7, 8, 9] (by decide) rfl))
           ·
            replace h := iteT h
            refine U.y rfl (Y.move rfl) ?_
            refine U.take rfl (U.y rfl (Y.move rfl) ?_)
            refine U.take rfl (U.y rfl (Y.move rfl) ?_)
            refine U.take rfl (U.m (V := fun _ => el u1 (gx53.toNat * 2)) h rfl (Y.indexM (g := TDid.row) (l := a1) Try.underlying23 sz43 rfl rfl (fun w' hw => (hA1.up.clsP hK hw rfl))) (fun x72 ex72 h => ?_))
            refine U.take rfl (U.y rfl (Y.fieldE fd43_1 rfl) ?_)
            refine U.take rfl (U.y rfl (Y.loadE (u := .int .i64 x72.From) ag3 rfl (fun w' hw => (hA1.up.clsP hK hw rfl)) (idx_map ex72) rfl) ?_)
            refine U.take rfl (U.y rfl (Y.fieldP fd37_0 rfl) ?_)
            refine U.take rfl (U.y rfl (Y.loadP (i := 2) ag3 rfl rfl rfl) ?_)
            refine U.take rfl (U.ite h rfl (Y.neq rfl rfl) (fun c73 h => ?_) (fun c73 h => ?_))
            ·
             refine U.y rfl (Y.pickT rfl rfl) ?_
             refine U.nil (E.thenN (W.condT rfl ?_))
             refine W.drawn2 (k := 14) (stC [[11, 13], [13]] [Cls w [] [.obj b70 [.int .i64 x69.Tx, .int .i64 x69.Kind, .int .i64 x69.Item] 37, .obj b21 [.int .i64 x19.Tx, gv54] 41, .obj b20 [.int .i64 x19.Tx, .int .i64 x19.Kind, .int .i64 x19.Item] 37, .obj b4 [gv11, (sv b3 (20 : Int).toNat)] 27, .obj b1 [.slice none 0 0, .slice none 0 0] 27, .sl gv54 45 2 (gl55.map TGot.row), .sl gv11 41 2 (zr TTale.rowv gq13 gl12), .sl (sv b3 (20 : Int).toNat) 34 1 (zr svRow gq17 gl16), .ss (zs (svSd 3 1 I) gq17 gl16), .os gc9], Cls w [] [.obj b70 [.int .i64 x69.Tx, .int .i64 x69.Kind, .int .i64 x69.Item] 37, .obj b21 [.int .i64 x19.Tx, gv54] 41, .obj b20 [.int .i64 x19.Tx, .int .i64 x19.Kind, .int .i64 x19.Item] 37, .obj b4 [gv11, (sv b3 (20 : Int).toNat)] 27, .obj b1 [.slice none 0 0, .slice none 0 0] 27, .sl gv11 41 2 (zr TTale.rowv gq13 gl12), .sl (sv b3 (20 : Int).toNat) 34 1 (zr svRow gq17 gl16), .ss (zs (svSd 3 1 I) gq17 gl16), .os gc9]] (Cls w [] [.obj b70 [.int .i64 x69.Tx, .int .i64 x69.Kind, .int .i64 x69.Item] 37, .obj b20 [.int .i64 x19.Tx, .int .i64 x19.Kind, .int .i64 x19.Item] 37, .obj b4 [gv11, (sv b3 (20 : Int).toNat)] 27, .obj b1 [.slice none 0 0, .slice none 0 0] 27, .sl gv11 41 2 (zr TTale.rowv gq13 gl12), .sl (sv b3 (20 : Int).toNat) 34 1 (zr svRow gq17 gl16), .ss (zs (svSd 3 1 I) gq17 gl16), .os gc9])) rfl mixed (fun _ hw => hw.drew) (Sc.now (by kernel_rfl) (fun _ hw => hw)) ?_
             refine V2.y (i := 0) (Nx2.of (Z := Cls w [] [.obj b70 [.int .i64 x69.Tx, .int .i64 x69.Kind, .int .i64 x69.Item] 37, .obj b20 [.int .i64 x19.Tx, .int .i64 x19.Kind, .int .i64 x19.Item] 37, .obj b4 [gv11, (sv b3 (20 : Int).toNat)] 27, .obj b1 [.slice none 0 0, .slice none 0 0] 27, .sl gv11 41 2 (zr TTale.rowv gq13 gl12), .sl (sv b3 (20 : Int).toNat) 34 1 (zr svRow gq17 gl16), .ss (zs (svSd 3 1 I) gq17 gl16), .os gc9]) [] (by kernel_rfl) rfl (Zc.on (fun _ hw => hw.sel [0, 2, 3, 4, 6, 7, 8, 9] (by decide) rfl) (Zc.on (fun _ hw => hw.sel [0, 2, 3, 4, 5, 6, 7, 8] (by decide) rfl) (Zc.fin (fun _ hw => hw))))) rfl rfl rfl (Y.fieldP fd41_1 rfl) ?_
             refine V2.y (i := 1) (Nx2.of (Z := Cls w [] [.obj b70 [.int .i64 x69.Tx, .int .i64 x69.Kind, .int .i64 x69.Item] 37, .obj b21 [.int .i64 x19.Tx, gv54] 41, .obj b20 [.int .i64 x19.Tx, .int .i64 x19.Kind, .int .i64 x19.Item] 37, .obj b4 [gv11, (sv b3 (20 : Int).toNat)] 27, .obj b1 [.slice none 0 0, .slice none 0 0] 27, .sl gv11 41 2 (zr TTale.rowv gq13 gl12), .sl (sv b3 (20 : Int).toNat) 34 1 (zr svRow gq17 gl16), .ss (zs (svSd 3 1 I) gq17 gl16), .os gc9]) [13] (by kernel_rfl) rfl (Zc.on (fun _ hw => hw.sel [0, 1, 2, 3, 4, 6, 7, 8, 9] (by decide) rfl) (Zc.at1 (fun _ hw => hw)))) rfl rfl rfl (Y.loadP (i := 1) ag39 rfl rfl rfl) ?_
             refine V2.y (i := 2) (Nx2.of (Z := Cls w [] [.obj b70 [.int .i64 x69.Tx, .int .i64 x69.Kind, .int .i64 x69.Item] 37, .obj b20 [.int .i64 x19.Tx, .int .i64 x19.Kind, .int .i64 x19.Item] 37, .obj b4 [gv11, (sv b3 (20 : Int).toNat)] 27, .obj b1 [.slice none 0 0, .slice none 0 0] 27, .sl gv11 41 2 (zr TTale.rowv gq13 gl12), .sl (sv b3 (20 : Int).toNat) 34 1 (zr svRow gq17 gl16), .ss (zs (svSd 3 1 I) gq17 gl16), .os gc9]) [] (by kernel_rfl) rfl (Zc.on (fun _ hw => hw.sel [0, 2, 3, 4, 6, 7, 8, 9] (by decide) rfl) (Zc.on (fun _ hw => hw.sel [0, 2, 3, 4, 5, 6, 7, 8] (by decide) rfl) (Zc.fin (fun _ hw => hw))))) rfl rfl rfl (Y.fieldP fd37_2 rfl) ?_
             refine V2.y (i := 3) (Nx2.of (Z := Cls w [] [.obj b70 [.int .i64 x69.Tx, .int .i64 x69.Kind, .int .i64 x69.Item] 37, .obj b20 [.int .i64 x19.Tx, .int .i64 x19.Kind, .int .i64 x19.Item] 37, .obj b4 [gv11, (sv b3 (20 : Int).toNat)] 27, .obj b1 [.slice none 0 0, .slice none 0 0] 27, .sl gv11 41 2 (zr TTale.rowv gq13 gl12), .sl (sv b3 (20 : Int).toNat) 34 1 (zr svRow gq17 gl16), .ss (zs (svSd 3 1 I) gq17 gl16), .os gc9]) [] (by kernel_rfl) rfl (Zc.on (fun _ hw => hw.sel [0, 2, 3, 4, 6, 7, 8, 9] (by decide) rfl) (Zc.on (fun _ hw => hw.sel [0, 2, 3, 4, 5, 6, 7, 8] (by decide) rfl) (Zc.fin (fun _ hw => hw))))) rfl rfl rfl (Y.loadP (i := 0) ag3 rfl rfl rfl) ?_
             refine V2.y (i := 4) (Nx2.of (Z := Cls w [] [.obj b70 [.int .i64 x69.Tx, .int .i64 x69.Kind, .int .i64 x69.Item] 37, .obj b20 [.int .i64 x19.Tx, .int .i64 x19.Kind, .int .i64 x19.Item] 37, .obj b4 [gv11, (sv b3 (20 : Int).toNat)] 27, .obj b1 [.slice none 0 0, .slice none 0 0] 27, .sl gv11 41 2 (zr TTale.rowv gq13 gl12), .sl (sv b3 (20 : Int).toNat) 34 1 (zr svRow gq17 gl16), .ss (zs (svSd 3 1 I) gq17 gl16), .os gc9]) [] (by kernel_rfl) rfl (Zc.on (fun _ hw => hw.sel [0, 2, 3, 4, 6, 7, 8, 9] (by decide) rfl) (Zc.on (fun _ hw => hw.sel [0, 2, 3, 4, 5, 6, 7, 8] (by decide) rfl) (Zc.fin (fun _ hw => hw))))) rfl rfl rfl (Y.move rfl) ?_
             refine V2.y (i := 5) (Nx2.of (Z := Cls w [] [.obj b70 [.int .i64 x69.Tx, .int .i64 x69.Kind, .int .i64 x69.Item] 37, .obj b20 [.int .i64 x19.Tx, .int .i64 x19.Kind, .int .i64 x19.Item] 37, .obj b4 [gv11, (sv b3 (20 : Int).toNat)] 27, .obj b1 [.slice none 0 0, .slice none 0 0] 27, .sl gv11 41 2 (zr TTale.rowv gq13 gl12), .sl (sv b3 (20 : Int).toNat) 34 1 (zr svRow gq17 gl16), .ss (zs (svSd 3 1 I) gq17 gl16), .os gc9]) [] (by kernel_rfl) rfl (Zc.on (fun _ hw => hw.sel [0, 2, 3, 4, 6, 7, 8, 9] (by decide) rfl) (Zc.on (fun _ hw => hw.sel [0, 2, 3, 4, 5, 6, 7, 8] (by decide) rfl) (Zc.fin (fun _ hw => hw))))) rfl rfl rfl (Y.move rfl) ?_
             refine V2.m (i := 6) (V' := fun _ => el u1 (gx53.toNat * 2)) h (Nx2.of (Z := Cls w [] [.obj b70 [.int .i64 x69.Tx, .int .i64 x69.Kind, .int .i64 x69.Item] 37, .obj b20 [.int .i64 x19.Tx, .int .i64 x19.Kind, .int .i64 x19.Item] 37, .obj b4 [gv11, (sv b3 (20 : Int).toNat)] 27, .obj b1 [.slice none 0 0, .slice none 0 0] 27, .sl gv11 41 2 (zr TTale.rowv gq13 gl12), .sl (sv b3 (20 : Int).toNat) 34 1 (zr svRow gq17 gl16), .ss (zs (svSd 3 1 I) gq17 gl16), .os gc9]) [] (by kernel_rfl) rfl (Zc.on (fun _ hw => hw.sel [0, 2, 3, 4, 6, 7, 8, 9] (by decide) rfl) (Zc.on (fun _ hw => hw.sel [0, 2, 3, 4, 5, 6, 7, 8] (by decide) rfl) (Zc.fin (fun _ hw => hw))))) rfl rfl rfl (Y.indexM (g := TDid.row) (l := a1) Try.underlying23 sz43 rfl rfl (fun w' hw => (hA1.up.clsP hK hw rfl))) (fun x82 ex82 h => ?_)
             refine V2.y (i := 7) (Nx2.of (Z := Cls w [] [.obj b70 [.int .i64 x69.Tx, .int .i64 x69.Kind, .int .i64 x69.Item] 37, .obj b20 [.int .i64 x19.Tx, .int .i64 x19.Kind, .int .i64 x19.Item] 37, .obj b4 [gv11, (sv b3 (20 : Int).toNat)] 27, .obj b1 [.slice none 0 0, .slice none 0 0] 27, .sl gv11 41 2 (zr TTale.rowv gq13 gl12), .sl (sv b3 (20 : Int).toNat) 34 1 (zr svRow gq17 gl16), .ss (zs (svSd 3 1 I) gq17 gl16), .os gc9]) [] (by kernel_rfl) rfl (Zc.on (fun _ hw => hw.sel [0, 2, 3, 4, 6, 7, 8, 9] (by decide) rfl) (Zc.on (fun _ hw => hw.sel [0, 2, 3, 4, 5, 6, 7, 8] (by decide) rfl) (Zc.fin (fun _ hw => hw))))) rfl rfl rfl (Y.fieldE fd43_1 rfl) ?_
             refine V2.y (i := 8) (Nx2.of (Z := Cls w [] [.obj b70 [.int .i64 x69.Tx, .int .i64 x69.Kind, .int .i64 x69.Item] 37, .obj b20 [.int .i64 x19.Tx, .int .i64 x19.Kind, .int .i64 x19.Item] 37, .obj b4 [gv11, (sv b3 (20 : Int).toNat)] 27, .obj b1 [.slice none 0 0, .slice none 0 0] 27, .sl gv11 41 2 (zr TTale.rowv gq13 gl12), .sl (sv b3 (20 : Int).toNat) 34 1 (zr svRow gq17 gl16), .ss (zs (svSd 3 1 I) gq17 gl16), .os gc9]) [] (by kernel_rfl) rfl (Zc.on (fun _ hw => hw.sel [0, 2, 3, 4, 6, 7, 8, 9] (by decide) rfl) (Zc.on (fun _ hw => hw.sel [0, 2, 3, 4, 5, 6, 7, 8] (by decide) rfl) (Zc.fin (fun _ hw => hw))))) rfl rfl rfl (Y.loadE (u := .int .i64 x82.From) ag3 rfl (fun w' hw => (hA1.up.clsP hK hw rfl)) (idx_map ex82) rfl) ?_
             refine V2.y (i := 9) (Nx2.of (Z := Cls w [] [.obj b70 [.int .i64 x69.Tx, .int .i64 x69.Kind, .int .i64 x69.Item] 37, .obj b20 [.int .i64 x19.Tx, .int .i64 x19.Kind, .int .i64 x19.Item] 37, .obj b4 [gv11, (sv b3 (20 : Int).toNat)] 27, .obj b1 [.slice none 0 0, .slice none 0 0] 27, .sl gv11 41 2 (zr TTale.rowv gq13 gl12), .sl (sv b3 (20 : Int).toNat) 34 1 (zr svRow gq17 gl16), .ss (zs (svSd 3 1 I) gq17 gl16), .os gc9]) [] (by kernel_rfl) rfl (Zc.on (fun _ hw => hw.sel [0, 2, 3, 4, 6, 7, 8, 9] (by decide) rfl) (Zc.on (fun _ hw => hw.sel [0, 2, 3, 4, 5, 6, 7, 8] (by decide) rfl) (Zc.fin (fun _ hw => hw))))) rfl rfl rfl (Y.build (cells := #[.int .i64 x69.Item, .int .i64 x82.From]) rfl (by kernel_rfl)) ?_
             refine V2.eff (i := 10) (by kernel_rfl) rfl ?_
             refine L.litAgg rfl Try.underlying39 eL45 rfl rfl rfl ?_
             intro b83
             refine L.nil (E.toV2 (stC [[11, 13], [13]] [Cls w [] [.sl (sv b83 1) 45 2 (([(⟨x69.Item, x82.From⟩ : TGot)]).map TGot.row), .obj b70 [.int .i64 x69.Tx, .int .i64 x69.Kind, .int .i64 x69.Item] 37, .obj b21 [.int .i64 x19.Tx, gv54] 41, .obj b20 [.int .i64 x19.Tx, .int .i64 x19.Kind, .int .i64 x19.Item] 37, .obj b4 [gv11, (sv b3 (20 : Int).toNat)] 27, .obj b1 [.slice none 0 0, .slice none 0 0] 27, .sl gv54 45 2 (gl55.map TGot.row), .sl gv11 41 2 (zr TTale.rowv gq13 gl12), .sl (sv b3 (20 : Int).toNat) 34 1 (zr svRow gq17 gl16), .ss (zs (svSd 3 1 I) gq17 gl16), .os gc9], Cls w [] [.sl (sv b83 1) 45 2 (([(⟨x69.Item, x82.From⟩ : TGot)]).map TGot.row), .obj b70 [.int .i64 x69.Tx, .int .i64 x69.Kind, .int .i64 x69.Item] 37, .obj b21 [.int .i64 x19.Tx, gv54] 41, .obj b20 [.int .i64 x19.Tx, .int .i64 x19.Kind, .int .i64 x19.Item] 37, .obj b4 [gv11, (sv b3 (20 : Int).toNat)] 27, .obj b1 [.slice none 0 0, .slice none 0 0] 27, .sl gv11 41 2 (zr TTale.rowv gq13 gl12), .sl (sv b3 (20 : Int).toNat) 34 1 (zr svRow gq17 gl16), .ss (zs (svSd 3 1 I) gq17 gl16), .os gc9]] (Cls w [] [.sl (sv b83 1) 45 2 (([(⟨x69.Item, x82.From⟩ : TGot)]).map TGot.row), .obj b70 [.int .i64 x69.Tx, .int .i64 x69.Kind, .int .i64 x69.Item] 37, .obj b20 [.int .i64 x19.Tx, .int .i64 x19.Kind, .int .i64 x19.Item] 37, .obj b4 [gv11, (sv b3 (20 : Int).toNat)] 27, .obj b1 [.slice none 0 0, .slice none 0 0] 27, .sl gv11 41 2 (zr TTale.rowv gq13 gl12), .sl (sv b3 (20 : Int).toNat) 34 1 (zr svRow gq17 gl16), .ss (zs (svSd 3 1 I) gq17 gl16), .os gc9])) 10 (by kernel_rfl) (Sc.stay (fun _ hw => hw.sel [1, 2, 3, 4, 5, 6, 7, 8, 9, 10] (by decide) rfl) (Sc.stay (fun _ hw => hw.sel [1, 2, 3, 4, 5, 6, 7, 8, 9] (by decide) rfl) (Sc.stayD (fun _ hw => hw.sel [1, 2, 3, 4, 5, 6, 7, 8] (by decide) rfl)))) (Sc.now (by kernel_rfl) (fun _ hw => hw)) ?_)
             refine V2.eff (i := 11) (by kernel_rfl) rfl ?_
             refine L.appM (i := 6) (g := TGot.row) (l := gl55) (more := [(⟨x69.Item, x82.From⟩ : TGot)]) h rfl Try.underlying39 eL45 rfl rfl rfl (fun w hw => As.at_ (hw.get (i := 0) rfl)) (plain_TGot _) rfl ?_
             intro v84 l85 el85 h
             refine L.nil (E.toV2 (stC [[13]] [Cls w [] [.sl v84 45 2 (l85.map TGot.row), .sl (sv b83 1) 45 2 (([(⟨x69.Item, x82.From⟩ : TGot)]).map TGot.row), .obj b70 [.int .i64 x69.Tx, .int .i64 x69.Kind, .int .i64 x69.Item] 37, .obj b21 [.int .i64 x19.Tx, gv54] 41, .obj b20 [.int .i64 x19.Tx, .int .i64 x19.Kind, .int .i64 x19.Item] 37, .obj b4 [gv11, (sv b3 (20 : Int).toNat)] 27, .obj b1 [.slice none 0 0, .slice none 0 0] 27, .sl gv11 41 2 (zr TTale.rowv gq13 gl12), .sl (sv b3 (20 : Int).toNat) 34 1 (zr svRow gq17 gl16), .ss (zs (svSd 3 1 I) gq17 gl16), .os gc9]] (Cls w [] [.sl v84 45 2 (l85.map TGot.row), .sl (sv b83 1) 45 2 (([(⟨x69.Item, x82.From⟩ : TGot)]).map TGot.row), .obj b70 [.int .i64 x69.Tx, .int .i64 x69.Kind, .int .i64 x69.Item] 37, .obj b20 [.int .i64 x19.Tx, .int .i64 x19.Kind, .int .i64 x19.Item] 37, .obj b4 [gv11, (sv b3 (20 : Int).toNat)] 27, .obj b1 [.slice none 0 0, .slice none 0 0] 27, .sl gv11 41 2 (zr TTale.rowv gq13 gl12), .sl (sv b3 (20 : Int).toNat) 34 1 (zr svRow gq17 gl16), .ss (zs (svSd 3 1 I) gq17 gl16), .os gc9])) 11 (by kernel_rfl) (Sc.past rfl (Sc.stay (fun _ hw => hw.sel [1, 2, 3, 4, 5, 6, 7, 8, 9, 10] (by decide) rfl) (Sc.stayD (fun _ hw => hw.sel [1, 2, 3, 4, 5, 6, 7, 8, 9] (by decide) rfl)))) (Sc.now (by kernel_rfl) (fun _ hw => hw)) ?_)
             refine V2.y (i := 12) (Nx2.of (Z := Cls w [] [.sl v84 45 2 (l85.map TGot.row), .sl (sv b83 1) 45 2 (([(⟨x69.Item, x82.From⟩ : TGot)]).map TGot.row), .obj b70 [.int .i64 x69.Tx, .int .i64 x69.Kind, .int .i64 x69.Item] 37, .obj b20 [.int .i64 x19.Tx, .int .i64 x19.Kind, .int .i64 x19.Item] 37, .obj b4 [gv11, (sv b3 (20 : Int).toNat)] 27, .obj b1 [.slice none 0 0, .slice none 0 0] 27, .sl gv11 41 2 (zr TTale.rowv gq13 gl12), .sl (sv b3 (20 : Int).toNat) 34 1 (zr svRow gq17 gl16), .ss (zs (svSd 3 1 I) gq17 gl16), .os gc9]) [] (by kernel_rfl) rfl (Zc.on (fun _ hw => hw.sel [0, 1, 2, 4, 5, 6, 7, 8, 9, 10] (by decide) rfl) (Zc.fin (fun _ hw => hw)))) rfl rfl rfl (Y.fieldP fd41_1 rfl) ?_
             refine V2.eff (i := 13) (by kernel_rfl) rfl ?_
             refine L.storeV (i := 3) sz39 rfl rfl (fun _ hw => (As.at_ (hw.get (i := 0) rfl)).one) rfl (Nat.le_of_ble_eq_true rfl) ?_
             refine L.nil (E.toV2 (stC [] [] (Cls w [] [.sl v84 45 2 (l85.map TGot.row), .sl (sv b83 1) 45 2 (([(⟨x69.Item, x82.From⟩ : TGot)]).map TGot.row), .obj b70 [.int .i64 x69.Tx, .int .i64 x69.Kind, .int .i64 x69.Item] 37, .obj b20 [.int .i64 x19.Tx, .int .i64 x19.Kind, .int .i64 x19.Item] 37, .obj b4 [gv11, (sv b3 (20 : Int).toNat)] 27, .obj b1 [.slice none 0 0, .slice none 0 0] 27, .sl gv11 41 2 (zr TTale.rowv gq13 gl12), .sl (sv b3 (20 : Int).toNat) 34 1 (zr svRow gq17 gl16), .ss (zs (svSd 3 1 I) gq17 gl16), .os gc9])) 13 (by kernel_rfl) (Sc.past rfl (Sc.stayD (fun _ hw => hw))) (Sc.atD (fun _ hw => hw.sel [0, 1, 2, 4, 5, 6, 7, 8, 9, 10] (by decide) rfl)) ?_)
             refine V2.done (by kernel_rfl) ?_
             refine E.blockN (E.thenN (W.region (L.m (V := fun x86 => .int .i64 x86) h rfl (Y.addM rfl rfl) (fun x86 ex86 h => ?_))))
             refine L.y rfl (Y.move rfl) ?_
             exact L.nil (E.againJ ⟨x86, v84, l85, (), rfl, rfl, hG56, by rw [hg4]; exact h⟩ (Nat.lt_succ_self _) ⟨rfl, rfl, rfl, rfl, rfl, rfl, rfl, rfl, rfl, rfl, rfl, rfl, rfl, trivial⟩ (fun _ hw => hw.sel [3, 4, 5, 6, 0, 7, 8, 9, 10] (by decide) rfl))
            ·
             refine U.y rfl (Y.pickT rfl rfl) ?_
             refine U.nil (E.thenN (W.condF rfl ?_))
             refine W.skip (E.blockN (E.thenN (W.region (L.m (V := fun x87 => .int .i64 x87) h rfl (Y.addM rfl rfl) (fun x87 ex87 h => ?_)))))
             refine L.y rfl (Y.move rfl) ?_
             exact L.nil (E.againJ ⟨x87, gv54, gl55, (), rfl, rfl, hG56, by rw [hg4]; exact h⟩ (Nat.lt_succ_self _) ⟨rfl, rfl, rfl, rfl, rfl, rfl, rfl, rfl, rfl, rfl, rfl, rfl, rfl, trivial⟩ (fun _ hw => hw.sel [1, 2, 3, 4, 5, 6, 7, 8, 9] (by decide) rfl))
         ·
          refine L.nil (E.thenN (W.seq (W.condF rfl ?_)))
          exact W.exit (E.thenX (E.KLX (E.blockX (E.joinJ ⟨gv54, gl55, (), rfl, rfl, hG56, h⟩ ⟨rfl, rfl, rfl, rfl, rfl, rfl, rfl, rfl, rfl, rfl, trivial⟩ (fun _ hw => hw)))))
        ·
         rintro _ _ ⟨gv28, gl29, gu31, rfl, rfl, hG30, h⟩
         rw [m5_quirref_Story_K6] at h
         refine W.seqJ (fun gs D => ∃ (gu33 : Unit) (gl34 : (List (List Int))) (gq35 : Nat → List Value), gs = [(0, u0), (1, u1), (4, pt b1 0), (8, pt b4 0), (11, pt b21 0), (55, u0), (56, .int .i64 (a0.length : Int)), (57, .int .i64 gx10)] ∧ D = Cls w [] [.obj b21 [.int .i64 x19.Tx, gv28] 41, .obj b4 [gv11, (sv b3 (20 : Int).toNat)] 27, .obj b1 [.slice none 0 0, .slice none 0 0] 27, .sl gv28 45 2 (gl29.map TGot.row), .sl gv11 41 2 (zr TTale.rowv gq13 gl12), .sl (sv b3 (20 : Int).toNat) 34 1 (zr svRow gq35 gl34), .ss (zs (svSd 3 1 I) gq35 gl34), .os gc9] ∧ FzA K gc9 (zs TTale.sds gq13 gl12) ∧ m5_quirref_Story_K7 gl12 x19 gl29 gx10 go1 gl34 = some r) ?_ ?_
         ·
          refine W.seq (W.region (L.y rfl (Y.move rfl) ?_))
          refine L.nil (E.thenN (W.block (W.loopJ (fun m gs D => ∃ (gx46 : Int) (gu48 : Unit) (gl49 : (List (List Int))) (gq50 : Nat → List Value), gs = [(0, u0), (1, u1), (4, pt b1 0), (8, pt b4 0), (9, .int .i64 gx10), (10, pt b20 0), (11, pt b21 0), (55, u0), (56, .int .i64 (a0.length : Int)), (57, .int .i64 gx10), (119, .int .i64 gx46)] ∧ D = Cls w [] [.obj b21 [.int .i64 x19.Tx, gv28] 41, .obj b20 [.int .i64 x19.Tx, .int .i64 x19.Kind, .int .i64 x19.Item] 37, .obj b4 [gv11, (sv b3 (20 : Int).toNat)] 27, .obj b1 [.slice none 0 0, .slice none 0 0] 27, .sl gv28 45 2 (gl29.map TGot.row), .sl gv11 41 2 (zr TTale.rowv gq13 gl12), .sl (sv b3 (20 : Int).toNat) 34 1 (zr svRow gq50 gl49), .ss (zs (svSd 3 1 I) gq50 gl49), .os gc9] ∧ FzA K gc9 (zs TTale.sds gq13 gl12) ∧ m5_quirref_Story_L3 a0 gx10 x19 gl12 gl29 go1 m gx46 gl49 = some r) ⟨0, (), gl16, gq17, rfl, rfl, hG30, h⟩ ⟨rfl, rfl, rfl, rfl, rfl, rfl, rfl, rfl, rfl, rfl, rfl, trivial⟩ (fun _ hw => hw) ?_)))
          rintro m _ _ ⟨gx46, gu48, gl49, gq50, rfl, rfl, hG47, h⟩
          rcases m with _ | m
          · rw [m5_quirref_Story_L3] at h; cases h
          rw [m5_quirref_Story_L3] at h
          generalize hg3 : m5_quirref_Story_L3 a0 gx10 x19 gl12 gl29 go1 m = go3 at h
          rw [m5_quirref_Story_L3B] at h
          refine W.seq (W.region (L.ite h rfl (Y.lss rfl rfl) (fun c36 h => ?_) (fun c36 h => ?_)))
          ·
           refine L.nil (E.thenN (W.seq (W.condT rfl ?_)))
           refine W.skip (E.thenN (W.seq (W.block (W.seq (W.region (L.y rfl (Y.move rfl) ?_))))))
           refine L.y rfl (Y.assign rfl) ?_
           refine L.nil (E.thenN (W.seq (W.quietC mixed (by kernel_rfl) (fun _ hw => hw.drew) (fun hC => ?_))))
           refine U.y rfl (Y.move rfl) ?_
           refine U.y rfl (Y.move rfl) ?_
           refine U.m (V := fun _ => cutv u0 gx10.toNat) h rfl (Y.cutM (g := TOp.row) Try.underlying22 sz37 rfl rfl (fun w' hw => (hA0.up.clsP hK hw rfl))) (fun l37 el37 h => ?_)
           refine U.y rfl (Y.fieldP fd37_0 rfl) ?_
           refine U.y rfl (Y.loadP (i := 1) ag3 rfl rfl rfl) ?_
           refine U.y rfl (Y.move rfl) ?_
           obtain ⟨b38, e39, h⟩ := bind1S h
           refine U.y rfl (Y.does en12 rfl (fun w' hw => (w12_quirref_wrote l37 x19.Tx gx46 (cutv u0 gx10.toNat) w' _ e39 (((hA0.cutM el37).up).clsP hK hw rfl)).mono (fun _ _ h => h.1))) ?_
           rcases b38 with _ | _
           ·
            replace h := iteF h
            refine U.nil (E.thenN (W.condF rfl ?_))
            refine W.skip (E.blockN (E.thenN (W.region (L.m (V := fun x40 => .int .i64 x40) h rfl (Y.addM rfl rfl) (fun x40 ex40 h => ?_)))))
            refine L.y rfl (Y.move rfl) ?_
            exact L.nil (E.againJ ⟨x40, (), gl49, gq50, rfl, rfl, hG47, by rw [hg3]; exact h⟩ (Nat.lt_succ_self _) ⟨rfl, rfl, rfl, rfl, rfl, rfl, rfl, rfl, rfl, rfl, rfl, trivial⟩ (fun _ hw => hw))
           ·
            replace h := iteT h
            refine U.nil (E.thenN (W.condT rfl ?_))
            refine W.drawn2 (k := 14) (stC [[11, 13], [13]] [Cls w [] [.obj b21 [.int .i64 x19.Tx, gv28] 41, .obj b20 [.int .i64 x19.Tx, .int .i64 x19.Kind, .int .i64 x19.Item] 37, .obj b4 [gv11, (sv b3 (20 : Int).toNat)] 27, .obj b1 [.slice none 0 0, .slice none 0 0] 27, .sl gv28 45 2 (gl29.map TGot.row), .sl gv11 41 2 (zr TTale.rowv gq13 gl12), .sl (sv b3 (20 : Int).toNat) 34 1 (zr svRow gq50 gl49), .ss (zs (svSd 3 1 I) gq50 gl49), .os gc9], Cls w [] [.obj b21 [.int .i64 x19.Tx, gv28] 41, .obj b20 [.int .i64 x19.Tx, .int .i64 x19.Kind, .int .i64 x19.Item] 37, .obj b4 [gv11, (sv b3 (20 : Int).toNat)] 27, .obj b1 [.slice none 0 0, .slice none 0 0] 27, .sl gv28 45 2 (gl29.map TGot.row), .sl gv11 41 2 (zr TTale.rowv gq13 gl12), .sl (sv b3 (20 : Int).toNat) 34 1 (zr svRow gq50 gl49), .os gc9]] (Cls w [] [.obj b21 [.int .i64 x19.Tx, gv28] 41, .obj b20 [.int .i64 x19.Tx, .int .i64 x19.Kind, .int .i64 x19.Item] 37, .obj b4 [gv11, (sv b3 (20 : Int).toNat)] 27, .obj b1 [.slice none 0 0, .slice none 0 0] 27, .sl gv28 45 2 (gl29.map TGot.row), .sl gv11 41 2 (zr TTale.rowv gq13 gl12), .os gc9])) rfl mixed (fun _ hw => hw.drew) (Sc.now (by kernel_rfl) (fun _ hw => hw)) ?_
            refine V2.y (i := 0) (Nx2.of (Z := Cls w [] [.obj b21 [.int .i64 x19.Tx, gv28] 41, .obj b20 [.int .i64 x19.Tx, .int .i64 x19.Kind, .int .i64 x19.Item] 37, .obj b4 [gv11, (sv b3 (20 : Int).toNat)] 27, .obj b1 [.slice none 0 0, .slice none 0 0] 27, .sl gv28 45 2 (gl29.map TGot.row), .sl gv11 41 2 (zr TTale.rowv gq13 gl12), .os gc9]) [] (by kernel_rfl) rfl (Zc.on (fun _ hw => hw.sel [0, 1, 2, 3, 4, 5, 8] (by decide) rfl) (Zc.on (fun _ hw => hw.sel [0, 1, 2, 3, 4, 5, 7] (by decide) rfl) (Zc.fin (fun _ hw => hw))))) rfl rfl rfl (Y.fieldP fd27_1 rfl) ?_
            refine V2.y (i := 1) (Nx2.of (Z := Cls w [] [.obj b21 [.int .i64 x19.Tx, gv28] 41, .obj b20 [.int .i64 x19.Tx, .int .i64 x19.Kind, .int .i64 x19.Item] 37, .obj b4 [gv11, (sv b3 (20 : Int).toNat)] 27, .obj b1 [.slice none 0 0, .slice none 0 0] 27, .sl gv28 45 2 (gl29.map TGot.row), .sl gv11 41 2 (zr TTale.rowv gq13 gl12), .os gc9]) [] (by kernel_rfl) rfl (Zc.on (fun _ hw => hw.sel [0, 1, 2, 3, 4, 5, 8] (by decide) rfl) (Zc.on (fun _ hw => hw.sel [0, 1, 2, 3, 4, 5, 7] (by decide) rfl) (Zc.fin (fun _ hw => hw))))) rfl rfl rfl (Y.loadP (i := 2) ag25 rfl rfl rfl) ?_
            refine V2.y (i := 2) (Nx2.of (Z := Cls w [] [.obj b21 [.int .i64 x19.Tx, gv28] 41, .obj b20 [.int .i64 x19.Tx, .int .i64 x19.Kind, .int .i64 x19.Item] 37, .obj b4 [gv11, (sv b3 (20 : Int).toNat)] 27, .obj b1 [.slice none 0 0, .slice none 0 0] 27, .sl gv28 45 2 (gl29.map TGot.row), .sl gv11 41 2 (zr TTale.rowv gq13 gl12), .os gc9]) [] (by kernel_rfl) rfl (Zc.on (fun _ hw => hw.sel [0, 1, 2, 3, 4, 5, 8] (by decide) rfl) (Zc.on (fun _ hw => hw.sel [0, 1, 2, 3, 4, 5, 7] (by decide) rfl) (Zc.fin (fun _ hw => hw))))) rfl rfl rfl (Y.move rfl) ?_
            refine V2.y (i := 3) (Nx2.of (Z := Cls w [] [.obj b21 [.int .i64 x19.Tx, gv28] 41, .obj b20 [.int .i64 x19.Tx, .int .i64 x19.Kind, .int .i64 x19.Item] 37, .obj b4 [gv11, (sv b3 (20 : Int).toNat)] 27, .obj b1 [.slice none 0 0, .slice none 0 0] 27, .sl gv28 45 2 (gl29.map TGot.row), .sl gv11 41 2 (zr TTale.rowv gq13 gl12), .os gc9]) [] (by kernel_rfl) rfl (Zc.on (fun _ hw => hw.sel [0, 1, 2, 3, 4, 5, 8] (by decide) rfl) (Zc.on (fun _ hw => hw.sel [0, 1, 2, 3, 4, 5, 7] (by decide) rfl) (Zc.fin (fun _ hw => hw))))) rfl rfl rfl (Y.fieldP fd27_1 rfl) ?_
            refine V2.y (i := 4) (Nx2.of (Z := Cls w [] [.obj b21 [.int .i64 x19.Tx, gv28] 41, .obj b20 [.int .i64 x19.Tx, .int .i64 x19.Kind, .int .i64 x19.Item] 37, .obj b4 [gv11, (sv b3 (20 : Int).toNat)] 27, .obj b1 [.slice none 0 0, .slice none 0 0] 27, .sl gv28 45 2 (gl29.map TGot.row), .sl gv11 41 2 (zr TTale.rowv gq13 gl12), .os gc9]) [] (by kernel_rfl) rfl (Zc.on (fun _ hw => hw.sel [0, 1, 2, 3, 4, 5, 8] (by decide) rfl) (Zc.on (fun _ hw => hw.sel [0, 1, 2, 3, 4, 5, 7] (by decide) rfl) (Zc.fin (fun _ hw => hw))))) rfl rfl rfl (Y.loadP (i := 2) ag25 rfl rfl rfl) ?_
            refine V2.y (i := 5) (Nx2.of (Z := Cls w [] [.obj b21 [.int .i64 x19.Tx, gv28] 41, .obj b20 [.int .i64 x19.Tx, .int .i64 x19.Kind, .int .i64 x19.Item] 37, .obj b4 [gv11, (sv b3 (20 : Int).toNat)] 27, .obj b1 [.slice none 0 0, .slice none 0 0] 27, .sl gv28 45 2 (gl29.map TGot.row), .sl gv11 41 2 (zr TTale.rowv gq13 gl12), .os gc9]) [] (by kernel_rfl) rfl (Zc.on (fun _ hw => hw.sel [0, 1, 2, 3, 4, 5, 8] (by decide) rfl) (Zc.on (fun _ hw => hw.sel [0, 1, 2, 3, 4, 5, 7] (by decide) rfl) (Zc.fin (fun _ hw => hw))))) rfl rfl rfl (Y.move rfl) ?_
            refine V2.m (i := 6) (V' := fun _ => el (sv b3 (20 : Int).toNat) (gx46.toNat * 1)) h (Nx2.of (Z := Cls w [] [.obj b21 [.int .i64 x19.Tx, gv28] 41, .obj b20 [.int .i64 x19.Tx, .int .i64 x19.Kind, .int .i64 x19.Item] 37, .obj b4 [gv11, (sv b3 (20 : Int).toNat)] 27, .obj b1 [.slice none 0 0, .slice none 0 0] 27, .sl gv28 45 2 (gl29.map TGot.row), .sl gv11 41 2 (zr TTale.rowv gq13 gl12), .sl (sv b3 (20 : Int).toNat) 34 1 (zr svRow gq50 gl49), .os gc9]) [13] (by kernel_rfl) rfl (Zc.on (fun _ hw => hw.sel [0, 1, 2, 3, 4, 5, 6, 8] (by decide) rfl) (Zc.at1 (fun _ hw => hw)))) rfl rfl rfl (Y.indexMZ (row := svRow) (vs := gq50) (l := gl49) Try.underlying25 sz34 rfl rfl (fun w hw => As.at_ (hw.get (i := 6) rfl))) (fun x59 ex59 h => ?_)
            refine V2.y (i := 7) (Nx2.of (Z := Cls w [] [.obj b21 [.int .i64 x19.Tx, gv28] 41, .obj b20 [.int .i64 x19.Tx, .int .i64 x19.Kind, .int .i64 x19.Item] 37, .obj b4 [gv11, (sv b3 (20 : Int).toNat)] 27, .obj b1 [.slice none 0 0, .slice none 0 0] 27, .sl gv28 45 2 (gl29.map TGot.row), .sl gv11 41 2 (zr TTale.rowv gq13 gl12), .sl (sv b3 (20 : Int).toNat) 34 1 (zr svRow gq50 gl49), .os gc9]) [13] (by kernel_rfl) rfl (Zc.on (fun _ hw => hw.sel [0, 1, 2, 3, 4, 5, 6, 8] (by decide) rfl) (Zc.at1 (fun _ hw => hw)))) rfl rfl rfl (Y.loadE1 (u := gv (gq50 gx46.toNat) 0) ag34 rfl (fun w hw => As.at_ (hw.get (i := 6) rfl)) (zr_idx (vs := gq50) ex59)) ?_
            refine V2.y (i := 8) (Nx2.of (Z := Cls w [] [.obj b21 [.int .i64 x19.Tx, gv28] 41, .obj b20 [.int .i64 x19.Tx, .int .i64 x19.Kind, .int .i64 x19.Item] 37, .obj b4 [gv11, (sv b3 (20 : Int).toNat)] 27, .obj b1 [.slice none 0 0, .slice none 0 0] 27, .sl gv28 45 2 (gl29.map TGot.row), .sl gv11 41 2 (zr TTale.rowv gq13 gl12), .os gc9]) [] (by kernel_rfl) rfl (Zc.on (fun _ hw => hw.sel [0, 1, 2, 3, 4, 5, 8] (by decide) rfl) (Zc.on (fun _ hw => hw.sel [0, 1, 2, 3, 4, 5, 7] (by decide) rfl) (Zc.fin (fun _ hw => hw))))) rfl rfl rfl (Y.fieldP fd37_0 rfl) ?_
            refine V2.y (i := 9) (Nx2.of (Z := Cls w [] [.obj b21 [.int .i64 x19.Tx, gv28] 41, .obj b20 [.int .i64 x19.Tx, .int .i64 x19.Kind, .int .i64 x19.Item] 37, .obj b4 [gv11, (sv b3 (20 : Int).toNat)] 27, .obj b1 [.slice none 0 0, .slice none 0 0] 27, .sl gv28 45 2 (gl29.map TGot.row), .sl gv11 41 2 (zr TTale.rowv gq13 gl12), .os gc9]) [] (by kernel_rfl) rfl (Zc.on (fun _ hw => hw.sel [0, 1, 2, 3, 4, 5, 8] (by decide) rfl) (Zc.on (fun _ hw => hw.sel [0, 1, 2, 3, 4, 5, 7] (by decide) rfl) (Zc.fin (fun _ hw => hw))))) rfl rfl rfl (Y.loadP (i := 1) ag3 rfl rfl rfl) ?_
            refine V2.eff (i := 10) (by kernel_rfl) rfl ?_
            refine L.litOne rfl Try.underlying34 eL3 rfl rfl ?_
            intro b60
            refine L.nil (E.toV2 (stC [[11, 13], [13]] [Cls w [] [.sl (sv b60 1) 3 1 (([x19.Tx]).map I), .obj b21 [.int .i64 x19.Tx, gv28] 41, .obj b20 [.int .i64 x19.Tx, .int .i64 x19.Kind, .int .i64 x19.Item] 37, .obj b4 [gv11, (sv b3 (20 : Int).toNat)] 27, .obj b1 [.slice none 0 0, .slice none 0 0] 27, .sl gv28 45 2 (gl29.map TGot.row), .sl gv11 41 2 (zr TTale.rowv gq13 gl12), .sl (sv b3 (20 : Int).toNat) 34 1 (zr svRow gq50 gl49), .ss (zs (svSd 3 1 I) gq50 gl49), .os gc9], Cls w [] [.sl (sv b60 1) 3 1 (([x19.Tx]).map I), .obj b21 [.int .i64 x19.Tx, gv28] 41, .obj b20 [.int .i64 x19.Tx, .int .i64 x19.Kind, .int .i64 x19.Item] 37, .obj b4 [gv11, (sv b3 (20 : Int).toNat)] 27, .obj b1 [.slice none 0 0, .slice none 0 0] 27, .sl gv28 45 2 (gl29.map TGot.row), .sl gv11 41 2 (zr TTale.rowv gq13 gl12), .sl (sv b3 (20 : Int).toNat) 34 1 (zr svRow gq50 gl49), .os gc9]] (Cls w [] [.sl (sv b60 1) 3 1 (([x19.Tx]).map I), .obj b21 [.int .i64 x19.Tx, gv28] 41, .obj b20 [.int .i64 x19.Tx, .int .i64 x19.Kind, .int .i64 x19.Item] 37, .obj b4 [gv11, (sv b3 (20 : Int).toNat)] 27, .obj b1 [.slice none 0 0, .slice none 0 0] 27, .sl gv28 45 2 (gl29.map TGot.row), .sl gv11 41 2 (zr TTale.rowv gq13 gl12), .os gc9])) 10 (by kernel_rfl) (Sc.stay (fun _ hw => hw.sel [1, 2, 3, 4, 5, 6, 7, 8, 9] (by decide) rfl) (Sc.stay (fun _ hw => hw.sel [1, 2, 3, 4, 5, 6, 7, 8] (by decide) rfl) (Sc.stayD (fun _ hw => hw.sel [1, 2, 3, 4, 5, 6, 7] (by decide) rfl)))) (Sc.now (by kernel_rfl) (fun _ hw => hw)) ?_)
            refine V2.eff (i := 11) (by kernel_rfl) rfl ?_
            refine L.ssOut (sds := (svSd 3 1 I)) (vs := gq50) (s := 8) (j := 0) (c := 1) rfl (fun _ _ => rfl) ex59 rfl ?_
            refine L.appM (i := 0) (g := I) (l := x59) (more := [x19.Tx]) h rfl Try.underlying34 eL3 rfl rfl rfl (fun w hw => As.at_ (hw.get (i := 1) rfl)) (plain_ints _) rfl ?_
            intro v61 l62 el62 h
            refine L.nil (E.toV2 (stC [[13]] [Cls w [] [.sl v61 3 1 (l62.map I), .sl (sv b60 1) 3 1 (([x19.Tx]).map I), .obj b21 [.int .i64 x19.Tx, gv28] 41, .obj b20 [.int .i64 x19.Tx, .int .i64 x19.Kind, .int .i64 x19.Item] 37, .obj b4 [gv11, (sv b3 (20 : Int).toNat)] 27, .obj b1 [.slice none 0 0, .slice none 0 0] 27, .sl gv28 45 2 (gl29.map TGot.row), .sl gv11 41 2 (zr TTale.rowv gq13 gl12), .sl (sv b3 (20 : Int).toNat) 34 1 (zr svRow gq50 gl49), .os gc9]] (Cls w [] [.sl (sv b60 1) 3 1 (([x19.Tx]).map I), .obj b21 [.int .i64 x19.Tx, gv28] 41, .obj b20 [.int .i64 x19.Tx, .int .i64 x19.Kind, .int .i64 x19.Item] 37, .obj b4 [gv11, (sv b3 (20 : Int).toNat)] 27, .obj b1 [.slice none 0 0, .slice none 0 0] 27, .sl gv28 45 2 (gl29.map TGot.row), .sl gv11 41 2 (zr TTale.rowv gq13 gl12), .os gc9])) 11 (by kernel_rfl) (Sc.past rfl (Sc.stay (fun _ hw => hw.sel [1, 2, 3, 4, 5, 6, 7, 8, 9] (by decide) rfl) (Sc.stayD (fun _ hw => hw)))) (Sc.now (by kernel_rfl) (fun _ hw => hw.sel [0, 1, 2, 3, 4, 5, 6, 7, 8, 10] (by decide) rfl)) ?_)
            refine V2.m (i := 12) (V' := fun _ => el (sv b3 (20 : Int).toNat) (gx46.toNat * 1)) h (Nx2.of (Z := Cls w [] [.sl v61 3 1 (l62.map I), .sl (sv b60 1) 3 1 (([x19.Tx]).map I), .obj b21 [.int .i64 x19.Tx, gv28] 41, .obj b20 [.int .i64 x19.Tx, .int .i64 x19.Kind, .int .i64 x19.Item] 37, .obj b4 [gv11, (sv b3 (20 : Int).toNat)] 27, .obj b1 [.slice none 0 0, .slice none 0 0] 27, .sl gv28 45 2 (gl29.map TGot.row), .sl gv11 41 2 (zr TTale.rowv gq13 gl12), .sl (sv b3 (20 : Int).toNat) 34 1 (zr svRow gq50 gl49), .os gc9]) [13] (by kernel_rfl) rfl (Zc.at1 (fun _ hw => hw))) rfl rfl rfl (Y.indexMZ (row := svRow) (vs := gq50) (l := gl49) Try.underlying25 sz34 rfl rfl (fun w hw => As.at_ (hw.get (i := 8) rfl))) (fun x63 ex63 h => ?_)
            refine V2.eff (i := 13) (by kernel_rfl) rfl ?_
            refine L.storeSlZS (row := svRow) (sds := (svSd 3 1 I)) (vs := gq50) (q := 8) (p := 0) (s := 9) (c := 1) (jj := 0) (u1 := l62) (v1 := [v61]) (j := 0) h sz34 rfl rfl rfl rfl rfl rfl (.inr rfl) (fun _ _ => rfl) (fun _ _ => rfl) ex63 rfl rfl rfl rfl (by decide) ?_
            intro l64 q65 el64 h
            refine L.nil (E.toV2 (stC [] [] (Cls w [] [.sl (sv b60 1) 3 1 (([x19.Tx]).map I), .obj b21 [.int .i64 x19.Tx, gv28] 41, .obj b20 [.int .i64 x19.Tx, .int .i64 x19.Kind, .int .i64 x19.Item] 37, .obj b4 [gv11, (sv b3 (20 : Int).toNat)] 27, .obj b1 [.slice none 0 0, .slice none 0 0] 27, .sl gv28 45 2 (gl29.map TGot.row), .sl gv11 41 2 (zr TTale.rowv gq13 gl12), .os gc9])) 13 (by kernel_rfl) (Sc.past rfl (Sc.stayD (fun _ hw => hw))) (Sc.atD (fun _ hw => hw.sel [0, 1, 2, 3, 4, 5, 6, 9] (by decide) rfl)) ?_)
            refine V2.done (by kernel_rfl) ?_
            refine E.blockN (E.thenN (W.region (L.m (V := fun x66 => .int .i64 x66) h rfl (Y.addM rfl rfl) (fun x66 ex66 h => ?_))))
            refine L.y rfl (Y.move rfl) ?_
            exact L.nil (E.againJ ⟨x66, (), l64, q65, rfl, rfl, hG47, by rw [hg3]; exact h⟩ (Nat.lt_succ_self _) ⟨rfl, rfl, rfl, rfl, rfl, rfl, rfl, rfl, rfl, rfl, rfl, trivial⟩ (fun _ hw => hw.sel [1, 2, 3, 4, 5, 6, 7, 8, 9] (by decide) rfl))
          ·
           refine L.nil (E.thenN (W.seq (W.condF rfl ?_)))
           exact W.exit (E.thenX (E.KLX (E.blockX (E.joinJ ⟨(), gl49, gq50, rfl, rfl, hG47, h⟩ ⟨rfl, rfl, rfl, rfl, rfl, rfl, rfl, rfl, trivial⟩ (fun _ hw => hw.sel [0, 2, 3, 4, 5, 6, 7, 8] (by decide) rfl)))))
         ·
          rintro _ _ ⟨gu33, gl34, gq35, rfl, rfl, hG32, h⟩
          rw [m5_quirref_Story_K7] at h
          refine W.seq (W.region (L.y rfl (Y.assign rfl) ?_))
          refine L.nil (E.thenN (W.seqJ (fun gs D => ∃ (gx36 : Int) (gu38 : Unit), gs = [(0, u0), (1, u1), (4, pt b1 0), (8, pt b4 0), (11, pt b21 0), (15, .int .i64 gx36), (55, u0), (56, .int .i64 (a0.length : Int)), (57, .int .i64 gx10)] ∧ D = Cls w [] [.obj b21 [.int .i64 x19.Tx, gv28] 41, .obj b4 [gv11, (sv b3 (20 : Int).toNat)] 27, .obj b1 [.slice none 0 0, .slice none 0 0] 27, .sl gv28 45 2 (gl29.map TGot.row), .sl gv11 41 2 (zr TTale.rowv gq13 gl12), .sl (sv b3 (20 : Int).toNat) 34 1 (zr svRow gq35 gl34), .ss (zs (svSd 3 1 I) gq35 gl34), .os gc9] ∧ FzA K gc9 (zs TTale.sds gq13 gl12) ∧ m5_quirref_Story_K8 gl12 x19 gl29 gx10 go1 gl34 gx36 = some r) ?_ ?_))
          ·
           refine W.block (W.loopJ (fun m gs D => ∃ (gx41 : Int) (gu43 : Unit), gs = [(0, u0), (1, u1), (4, pt b1 0), (8, pt b4 0), (11, pt b21 0), (15, .int .i64 gx41), (55, u0), (56, .int .i64 (a0.length : Int)), (57, .int .i64 gx10)] ∧ D = Cls w [] [.obj b21 [.int .i64 x19.Tx, gv28] 41, .obj b4 [gv11, (sv b3 (20 : Int).toNat)] 27, .obj b1 [.slice none 0 0, .slice none 0 0] 27, .sl gv28 45 2 (gl29.map TGot.row), .sl gv11 41 2 (zr TTale.rowv gq13 gl12), .sl (sv b3 (20 : Int).toNat) 34 1 (zr svRow gq35 gl34), .ss (zs (svSd 3 1 I) gq35 gl34), .os gc9] ∧ FzA K gc9 (zs TTale.sds gq13 gl12) ∧ m5_quirref_Story_L2 gl12 x19 gl29 gx10 go1 gl34 m gx41 = some r) ⟨0, (), rfl, rfl, hG32, h⟩ ⟨rfl, rfl, rfl, rfl, rfl, rfl, rfl, rfl, rfl, trivial⟩ (fun _ hw => hw) ?_)
           rintro m _ _ ⟨gx41, gu43, rfl, rfl, hG42, h⟩
           rcases m with _ | m
           · rw [m5_quirref_Story_L2] at h; cases h
           rw [m5_quirref_Story_L2] at h
           generalize hg2 : m5_quirref_Story_L2 gl12 x19 gl29 gx10 go1 gl34 m = go2 at h
           rw [m5_quirref_Story_L2B] at h
           refine W.seq (W.seq (W.quietC mixed (by kernel_rfl) (fun _ hw => hw.drew) (fun hC => ?_)))
           refine U.y rfl (Y.move rfl) ?_
           refine U.y rfl (Y.fieldP fd27_0 rfl) ?_
           refine U.y rfl (Y.loadP (i := 1) ag24 rfl rfl rfl) ?_
           refine U.y rfl (Y.lenMZ (row := TTale.rowv) (vs := gq13) (l := gl12) Try.underlying24 rfl (fun w hw => As.at_ (hw.get (i := 4) rfl))) ?_
           refine U.ite h rfl (Y.lss rfl rfl) (fun c32 h => ?_) (fun c32 h => ?_)
           ·
            refine U.y rfl (Y.move rfl) ?_
            refine U.take rfl (U.y rfl (Y.fieldP fd27_0 rfl) ?_)
            refine U.take rfl (U.y rfl (Y.loadP (i := 1) ag24 rfl rfl rfl) ?_)
            refine U.take rfl (U.y rfl (Y.move rfl) ?_)
            refine U.take rfl (U.m (V := fun _ => el gv11 (gx41.toNat * 2)) h rfl (Y.indexMZ (row := TTale.rowv) (vs := gq13) (l := gl12) Try.underlying24 sz41 rfl rfl (fun w hw => As.at_ (hw.get (i := 4) rfl))) (fun x33 ex33 h => ?_))
            refine U.take rfl (U.y rfl (Y.fieldE fd41_0 rfl) ?_)
            refine U.take rfl (U.y rfl (Y.loadE (u := .int .i64 x33.Tx) ag3 rfl (fun w hw => As.at_ (hw.get (i := 4) rfl)) (zr_idx (vs := gq13) ex33) rfl) ?_)
            refine U.take rfl (U.y rfl (Y.fieldP fd41_0 rfl) ?_)
            refine U.take rfl (U.y rfl (Y.loadP (i := 0) ag3 rfl rfl rfl) ?_)
            refine U.take rfl (U.ite h rfl (Y.leq rfl rfl) (fun c34 h => ?_) (fun c34 h => ?_))
            ·
             refine U.y rfl (Y.pickT rfl rfl) ?_
             refine U.nil (E.thenN (W.condT rfl ?_))
             refine W.skip (E.thenN (W.block (W.region (L.y rfl (Y.move rfl) ?_))))
             refine L.m (V := fun x35 => .int .i64 x35) h rfl (Y.addM rfl rfl) (fun x35 ex35 h => ?_)
             refine L.y rfl (Y.assign rfl) ?_
             exact L.nil (E.blockN (E.againJ ⟨x35, (), rfl, rfl, hG42, by rw [hg2]; exact h⟩ (Nat.lt_succ_self _) ⟨rfl, rfl, rfl, rfl, rfl, rfl, rfl, rfl, rfl, trivial⟩ (fun _ hw => hw)))
            ·
             refine U.y rfl (Y.pickT rfl rfl) ?_
             refine U.nil (E.thenN (W.condF rfl ?_))
             exact W.exit (E.thenX (E.KLX (E.blockX (E.joinJ ⟨gx41, (), rfl, rfl, hG42, h⟩ ⟨rfl, rfl, rfl, rfl, rfl, rfl, rfl, rfl, rfl, trivial⟩ (fun _ hw => hw)))))
           ·
            refine U.y rfl (Y.move rfl) ?_
            refine U.pass rfl rfl (by nofun) ?_
            refine U.pass rfl rfl (by nofun) ?_
            refine U.pass rfl rfl (by nofun) ?_
            refine U.pass rfl rfl (by nofun) ?_
            refine U.pass rfl rfl (by nofun) ?_
            refine U.pass rfl rfl (by nofun) ?_
            refine U.pass rfl rfl (by nofun) ?_
            refine U.pass rfl rfl (by nofun) ?_
            refine U.pass rfl rfl (by nofun) ?_
            refine U.y rfl (Y.pickF rfl rfl) ?_
            refine U.nil (E.thenN (W.condF rfl ?_))
            exact W.exit (E.thenX (E.KLX (E.blockX (E.joinJ ⟨gx41, (), rfl, rfl, hG42, h⟩ ⟨rfl, rfl, rfl, rfl, rfl, rfl, rfl, rfl, rfl, trivial⟩ (fun _ hw => hw)))))
          ·
           rintro _ _ ⟨gx36, gu38, rfl, rfl, hG37, h⟩
           rw [m5_quirref_Story_K8] at h
           refine W.region (L.y rfl (Y.fieldP fd27_0 rfl) ?_)
           refine L.y rfl (Y.loadP (i := 1) ag24 rfl rfl rfl) ?_
           refine L.y rfl (Y.move rfl) ?_
           refine L.y rfl (Y.loadPW (i := 0) ag41 sz41 rfl rfl rfl) ?_
           refine L.frz (i := 3) rfl rfl rfl ?_
           intro c23 mo24 hf25
           refine L.litAgg rfl Try.underlying24 eL41 rfl rfl rfl ?_
           intro b26
           have hz27 : FzA K c23 (zs TTale.sds (fun _ => [gv28]) [(⟨x19.Tx, gl29⟩ : TTale)]) := FzA.app (FzA.cons (hf25 K) FzA.nil) FzA.nil
           refine L.to (D := Cls w [] [.sl (sv b26 1) 41 2 (zr TTale.rowv (fun _ => [gv28]) ([(⟨x19.Tx, gl29⟩ : TTale)])), .obj b21 [.int .i64 x19.Tx, gv28] 41, .obj b4 [gv11, (sv b3 (20 : Int).toNat)] 27, .obj b1 [.slice none 0 0, .slice none 0 0] 27, .sl gv11 41 2 (zr TTale.rowv gq13 gl12), .sl (sv b3 (20 : Int).toNat) 34 1 (zr svRow gq35 gl34), .ss (zs (svSd 3 1 I) gq35 gl34), .os c23]) (fun _ hw => hw) ?_
           refine L.insHzP (i := 4) (j := 0) (row := TTale.rowv) (sds := TTale.sds) (vs := gq13) (vs2 := (fun _ => [gv28])) (l := gl12) (x1 := (⟨x19.Tx, gl29⟩ : TTale)) (a := gx36) h wInsR13 rfl en13 rfl rfl rfl rfl rfl (by decide) plz_TTale (fun _ _ => rfl) hK rfl (hG37.mo mo24) hz27 ?_
           intro v29 q31 l28 el28 h hz30
           refine L.y rfl (Y.fieldP fd27_0 rfl) ?_
           refine L.storeV (i := 2) sz24 rfl rfl (fun _ hw => (As.at_ (hw.get (i := 4) rfl)).one) rfl (Nat.le_of_ble_eq_true rfl) ?_
           exact L.nil (E.blockN (E.joinJ ⟨c23, v29, l28, q31, (), gl34, gq35, rfl, rfl, hz30, h⟩ ⟨rfl, rfl, rfl, rfl, rfl, rfl, rfl, trivial⟩ (fun _ hw => hw.sel [2, 3, 4, 5, 6, 7] (by decide) rfl)))
      ·
       rintro _ _ ⟨gc18, gv19, gl20, gq21, gu23, gl24, gq25, rfl, rfl, hG22, h⟩
       rw [m5_quirref_Story_K4] at h
       refine W.region (L.m (V := fun x18 => .int .i64 x18) h rfl (Y.addM rfl rfl) (fun x18 ex18 h => ?_))
       refine L.y rfl (Y.move rfl) ?_
       exact L.nil (E.againJ ⟨gc18, x18, gv19, gl20, gq21, (), gl24, gq25, rfl, rfl, hG22, by rw [hg1]; exact h⟩ (Nat.lt_succ_self _) ⟨rfl, rfl, rfl, rfl, rfl, rfl, rfl, trivial⟩ (fun _ hw => hw))
     ·
      refine L.nil (E.thenN (W.seq (W.condF rfl ?_)))
      exact W.exit (E.thenX (E.KLX (E.blockX (E.joinJ ⟨gc9, gv11, gl12, gq13, (), gl16, gq17, rfl, rfl, hG14, h⟩ ⟨rfl, rfl, trivial⟩ (fun _ hw => hw)))))
    ·
     rintro _ _ ⟨gc1, gv2, gl3, gq4, gu6, gl7, gq8, rfl, rfl, hG5, h⟩
     rw [m5_quirref_Story_K3] at h
     refine W.seq (W.seq (W.region (L.y rfl (Y.loadPW (i := 0) ag27 sz27 rfl rfl rfl) ?_)))
     refine L.frz (i := 2) rfl rfl rfl ?_
     intro c5 mo6 hf7
     refine L.frzS (i := 3) rfl rfl rfl ?_
     intro c8 mo9 hf10
     refine L.frz (i := 2) rfl rfl rfl ?_
     intro c11 mo12 hf13
     obtain ⟨x14, e15, h⟩ := bind1S h
     refine L.y rfl (Y.does en14 rfl (fun w' hw => (w14_quirref_StoryErr (⟨gl3, gl7⟩ : TStory) gv2 gq4 (sv b3 (20 : Int).toNat) gq8 (Kn K _) w' (hK.kn hw rfl).f _ e15 (((hf7 K).mo mo9).mo mo12).tok (((hG5.mo mo6).mo mo9).mo mo12).tok (hf13 K).tok ((hf10 K).mo mo12).tok).mono (fun _ _ h => h.1))) ?_
     refine L.ite h rfl (Y.neq rfl rfl) (fun c16 h => ?_) (fun c16 h => ?_)
     ·
      refine L.nil (E.thenN (W.condT rfl ?_))
      refine W.seq (W.region (L.y rfl (Y.build (cells := #[.slice none 0 0, .slice none 0 0]) rfl (by kernel_rfl)) ?_))
      refine L.store (i := 1) (vs := [.slice none 0 0, .slice none 0 0]) sz27 rfl rfl rfl rfl (by simp [Value.oneCell', Value.cells, st, pt, el]) rfl (Nat.le_of_ble_eq_true rfl) ?_
      refine L.y rfl (Y.assign rfl) ?_
      refine L.nil (E.thenN (W.ret (E.thenR (E.retR2 rfl (Rv.cellW (i := 1) ag27 sz27 rfl rfl rfl) (Rv.tmp rfl) (fun w1 hw => ?_)))))
      obtain rfl := Option.some.inj h
      exact ⟨_, _, rfl, ⟨c11, rfl, (.slice none 0 0), (fun _ => []), (.slice none 0 0), (fun _ => []), rfl, Fz.nil, FzA.nil, Fz.nil, FzA.nil⟩, hw.sel [2] (by decide) rfl⟩
     ·
      refine L.nil (E.thenN (W.condF rfl ?_))
      refine W.skip (E.thenN (W.seq (W.region (L.y rfl (Y.loadPW (i := 0) ag27 sz27 rfl rfl rfl) ?_))))
      refine L.storeC (i := 1) sz27 rfl rfl rfl rfl (fun w hw => (all1 ((((hf7 K).mo mo9).mo mo12).clsP hK hw rfl).one (all1 ((hf13 K).clsP hK hw rfl).one all0))) rfl (Nat.le_of_ble_eq_true rfl) ?_
      refine L.y rfl (Y.assign rfl) ?_
      refine L.nil (E.thenN (W.ret (E.retR2 rfl (Rv.cellW (i := 1) ag27 sz27 rfl rfl rfl) (Rv.tmp rfl) (fun w1 hw => ?_))))
      obtain rfl := Option.some.inj h
      exact ⟨_, _, rfl, ⟨c11, rfl, gv2, gq4, (sv b3 (20 : Int).toNat), gq8, rfl, (((hf7 K).mo mo9).mo mo12), (((hG5.mo mo6).mo mo9).mo mo12), (hf13 K), ((hf10 K).mo mo12)⟩, hw.sel [2] (by decide) rfl⟩
set_option maxRecDepth 100000 in
set_option maxHeartbeats 8000000 in
theorem w17_api_Got (a0 : (List TGot)) (a1 : (List TGot)) (u0 : Value) (u1 : Value) (w : World) (r : Bool) (h : m17_api_Got a0 a1 = some r) (hA0 : At w u0 2 (a0.map TGot.row)) (hA1 : At w u1 2 (a1.map TGot.row)) : Does Try.prog 17 [u0, u1] w fun u m => u = .bool r ∧ m = [] := by
  rw [m17_api_Got] at h
  refine body (n := 26) Try.func17 rfl rfl rfl (Cls.refl w) ?_
  refine W.seq (W.region (L.y rfl (Y.assign rfl) ?_))
  refine L.nil (E.thenN (W.seqJ (fun gs D => gs = [(0, u0), (1, u1)] ∧ D = Cls w [] [] ∧ m17_api_Got_K1 a0 a1 = some r) ?_ ?_))
  ·
   refine W.seq (W.region (L.y rfl (Y.move rfl) ?_))
   refine L.y rfl (Y.lenM (g := TGot.row) (l := a0) Try.underlying39 rfl (fun w' hw => hA0.cls0 hw)) ?_
   refine L.y rfl (Y.move rfl) ?_
   refine L.y rfl (Y.lenM (g := TGot.row) (l := a1) Try.underlying39 rfl (fun w' hw => hA1.cls0 hw)) ?_
   refine L.ite h rfl (Y.neq rfl rfl) (fun c6 h => ?_) (fun c6 h => ?_)
   ·
    refine L.nil (E.thenN (W.condT rfl ?_))
    refine W.seq (W.region (L.y rfl (Y.assign rfl) ?_))
    refine L.nil (E.thenN (W.ret (E.KSR (E.ret1 rfl rfl (fun w1 hw => ?_)))))
    obtain rfl := Option.some.inj h
    exact ⟨_, _, rfl, ⟨rfl, rfl⟩, hw⟩
   ·
    refine L.nil (E.thenN (W.condF rfl ?_))
    exact W.skip (E.joinJ ⟨rfl, rfl, h⟩ ⟨rfl, rfl, trivial⟩ (fun _ hw => hw))
  ·
   rintro _ _ ⟨rfl, rfl, h⟩
   rw [m17_api_Got_K1] at h
   refine W.seqJ (fun gs D => gs = [] ∧ D = Cls w [] [] ∧ m17_api_Got_K2 = some r) ?_ ?_
   ·
    refine W.seq (W.region (L.y rfl (Y.move rfl) ?_))
    refine L.y rfl (Y.lenM (g := TGot.row) (l := a0) Try.underlying39 rfl (fun w' hw => hA0.cls0 hw)) ?_
    refine L.y rfl (Y.move rfl) ?_
    refine L.nil (E.thenN (W.block (W.loopJ (fun m gs D => ∃ (gx1 : Int), gs = [(0, u0), (1, u1), (12, .int .i64 (a0.length : Int)), (13, .int .i64 gx1)] ∧ D = Cls w [] [] ∧ m17_api_Got_L1 a0 a1 m gx1 = some r) ⟨0, rfl, rfl, h⟩ ⟨rfl, rfl, rfl, rfl, trivial⟩ (fun _ hw => hw) ?_)))
    rintro m _ _ ⟨gx1, rfl, rfl, h⟩
    rcases m with _ | m
    · rw [m17_api_Got_L1] at h; cases h
    rw [m17_api_Got_L1] at h
    generalize hg1 : m17_api_Got_L1 a0 a1 m = go1 at h
    rw [m17_api_Got_L1B] at h
    refine W.seq (W.region (L.ite h rfl (Y.lss rfl rfl) (fun c1 h => ?_) (fun c1 h => ?_)))
    ·
     refine L.nil (E.thenN (W.seq (W.condT rfl ?_)))
     refine W.skip (E.thenN (W.seq (W.block (W.seq (W.region (L.y rfl (Y.move rfl) ?_))))))
     refine L.y rfl (Y.assign rfl) ?_
     refine L.nil (E.thenN (W.seq (W.quietC mixed (by kernel_rfl) (fun _ hw => hw.drew) (fun hC => ?_))))
     refine U.y rfl (Y.move rfl) ?_
     refine U.y rfl (Y.move rfl) ?_
     refine U.m (V := fun _ => el u0 (gx1.toNat * 2)) h rfl (Y.indexM (g := TGot.row) (l := a0) Try.underlying39 sz45 rfl rfl (fun w' hw => hA0.cls0 hw)) (fun x2 ex2 h => ?_)
     refine U.y rfl (Y.loadEN (r := [.int .i64 x2.Item, .int .i64 x2.From]) ag45 sz45 rfl (fun w' hw => hA0.cls0 hw) (idx_map ex2) rfl) ?_
     refine U.y rfl (Y.move rfl) ?_
     refine U.y rfl (Y.move rfl) ?_
     refine U.m (V := fun _ => el u1 (gx1.toNat * 2)) h rfl (Y.indexM (g := TGot.row) (l := a1) Try.underlying39 sz45 rfl rfl (fun w' hw => hA1.cls0 hw)) (fun x3 ex3 h => ?_)
     refine U.y rfl (Y.loadEN (r := [.int .i64 x3.Item, .int .i64 x3.From]) ag45 sz45 rfl (fun w' hw => hA1.cls0 hw) (idx_map ex3) rfl) ?_
     refine U.ite h rfl (Y.neqA (row := TGot.row) (a := x2) (b := x3) eg45 ag45 (sh45 _) (sh45 _) (inj45 _ _) rfl rfl) (fun c4 h => ?_) (fun c4 h => ?_)
     ·
      refine U.nil (E.thenN (W.condT rfl ?_))
      refine W.seq (W.region (L.y rfl (Y.assign rfl) ?_))
      refine L.nil (E.thenN (W.ret (E.blockR (E.thenR (E.KLR (E.blockR (E.KSR (E.ret1 rfl rfl (fun w1 hw => ?_)))))))))
      obtain rfl := Option.some.inj h
      exact ⟨_, _, rfl, ⟨rfl, rfl⟩, hw⟩
     ·
      refine U.nil (E.thenN (W.condF rfl ?_))
      refine W.skip (E.blockN (E.thenN (W.region (L.m (V := fun x5 => .int .i64 x5) h rfl (Y.addM rfl rfl) (fun x5 ex5 h => ?_)))))
      refine L.y rfl (Y.move rfl) ?_
      exact L.nil (E.againJ ⟨x5, rfl, rfl, by rw [hg1]; exact h⟩ (Nat.lt_succ_self _) ⟨rfl, rfl, rfl, rfl, trivial⟩ (fun _ hw => hw))
    ·
     refine L.nil (E.thenN (W.seq (W.condF rfl ?_)))
     exact W.exit (E.thenX (E.KLX (E.blockX (E.joinJ ⟨rfl, rfl, h⟩ trivial (fun _ hw => hw)))))
   ·
    rintro _ _ ⟨rfl, rfl, h⟩
    rw [m17_api_Got_K2] at h
    refine W.seq (W.region (L.y rfl (Y.assign rfl) ?_))
    refine L.nil (E.thenN (W.ret (E.ret1 rfl rfl (fun w1 hw => ?_))))
    obtain rfl := Option.some.inj h
    exact ⟨_, _, rfl, ⟨rfl, rfl⟩, hw⟩
set_option maxRecDepth 100000 in
set_option maxHeartbeats 8000000 in
theorem w16_quirref_SameStory_1 (a0 : TTale) (a1 : TTale) (u0_0 : Value) (u1_1 : Value) (w : World) (r : Bool) (h : m16_quirref_SameStory_1 a0 a1 = some r) (hA0_0 : At w u0_0 2 (a0.Reads.map TGot.row)) (hA1_1 : At w u1_1 2 (a1.Reads.map TGot.row)) : Does Try.prog 16 [.agg #[.int .i64 a0.Tx, u0_0], .agg #[.int .i64 a1.Tx, u1_1]] w fun u m => u = .bool r ∧ m = [] := by
  rw [m16_quirref_SameStory_1] at h
  refine body (n := 17) Try.func16 rfl rfl rfl (Cls.refl w) ?_
  refine W.seq (W.region (L.box rfl rfl ?_))
  intro b1
  refine L.box rfl rfl ?_
  intro b2
  refine L.y rfl (Y.assign rfl) ?_
  refine L.nil (E.thenN (W.seq (W.region (L.y rfl (Y.fieldP fd41_0 rfl) ?_))))
  refine L.y rfl (Y.loadP (i := 1) ag3 rfl rfl rfl) ?_
  refine L.y rfl (Y.fieldP fd41_0 rfl) ?_
  refine L.y rfl (Y.loadP (i := 0) ag3 rfl rfl rfl) ?_
  refine L.ite h rfl (Y.eql rfl rfl) (fun c3 h => ?_) (fun c3 h => ?_)
  ·
   refine L.y rfl (Y.move rfl) ?_
   refine L.take rfl (L.y rfl (Y.fieldP fd41_1 rfl) ?_)
   refine L.take rfl (L.y rfl (Y.loadP (i := 1) ag39 rfl rfl rfl) ?_)
   refine L.take rfl (L.y rfl (Y.fieldP fd41_1 rfl) ?_)
   refine L.take rfl (L.y rfl (Y.loadP (i := 0) ag39 rfl rfl rfl) ?_)
   refine L.take rfl ?_
   obtain ⟨b4, e5, h⟩ := bind1S h
   refine L.y rfl (Y.does en17 rfl (fun w' hw => (w17_api_Got a0.Reads a1.Reads u0_0 u1_1 w' _ e5 (hA0_0.cls0 hw) (hA1_1.cls0 hw)).mono (fun _ _ h => h.1))) ?_
   refine L.y rfl (Y.pickT rfl rfl) ?_
   refine L.y rfl (Y.assign rfl) ?_
   refine L.nil (E.thenN (W.ret (E.ret1 rfl rfl (fun w1 hw => ?_))))
   obtain rfl := Option.some.inj h
   exact ⟨_, _, rfl, ⟨rfl, rfl⟩, hw.sel [] (by decide) rfl⟩
  ·
   refine L.y rfl (Y.move rfl) ?_
   refine L.pass rfl rfl (by nofun) ?_
   refine L.pass rfl rfl (by nofun) ?_
   refine L.pass rfl rfl (by nofun) ?_
   refine L.pass rfl rfl (by nofun) ?_
   refine L.pass rfl rfl (by nofun) ?_
   refine L.y rfl (Y.pickF rfl rfl) ?_
   refine L.y rfl (Y.assign rfl) ?_
   refine L.nil (E.thenN (W.ret (E.ret1 rfl rfl (fun w1 hw => ?_))))
   obtain rfl := Option.some.inj h
   exact ⟨_, _, rfl, ⟨rfl, rfl⟩, hw.sel [] (by decide) rfl⟩
set_option maxRecDepth 100000 in
set_option maxHeartbeats 8000000 in
theorem w19_slices_Equal_int (a0 : (List Int)) (a1 : (List Int)) (u0 : Value) (u1 : Value) (w : World) (r : Bool) (h : m19_slices_Equal_int a0 a1 = some r) (hA0 : At w u0 1 (a0.map I)) (hA1 : At w u1 1 (a1.map I)) : Does Try.prog 19 [u0, u1] w fun u m => u = .bool r ∧ m = [] := by
  rw [m19_slices_Equal_int] at h
  refine body (n := 26) Try.func19 rfl rfl rfl (Cls.refl w) ?_
  refine W.seq (W.region (L.y rfl (Y.assign rfl) ?_))
  refine L.nil (E.thenN (W.seqJ (fun gs D => gs = [(0, u0), (1, u1)] ∧ D = Cls w [] [] ∧ m19_slices_Equal_int_K1 a0 a1 = some r) ?_ ?_))
  ·
   refine W.seq (W.region (L.y rfl (Y.move rfl) ?_))
   refine L.y rfl (Y.lenM (g := I) (l := a0) Try.underlying34 rfl (fun w' hw => hA0.cls0 hw)) ?_
   refine L.y rfl (Y.move rfl) ?_
   refine L.y rfl (Y.lenM (g := I) (l := a1) Try.underlying34 rfl (fun w' hw => hA1.cls0 hw)) ?_
   refine L.ite h rfl (Y.neq rfl rfl) (fun c6 h => ?_) (fun c6 h => ?_)
   ·
    refine L.nil (E.thenN (W.condT rfl ?_))
    refine W.seq (W.region (L.y rfl (Y.assign rfl) ?_))
    refine L.nil (E.thenN (W.ret (E.KSR (E.ret1 rfl rfl (fun w1 hw => ?_)))))
    obtain rfl := Option.some.inj h
    exact ⟨_, _, rfl, ⟨rfl, rfl⟩, hw⟩
   ·
    refine L.nil (E.thenN (W.condF rfl ?_))
    exact W.skip (E.joinJ ⟨rfl, rfl, h⟩ ⟨rfl, rfl, trivial⟩ (fun _ hw => hw))
  ·
   rintro _ _ ⟨rfl, rfl, h⟩
   rw [m19_slices_Equal_int_K1] at h
   refine W.seqJ (fun gs D => gs = [] ∧ D = Cls w [] [] ∧ m19_slices_Equal_int_K2 = some r) ?_ ?_
   ·
    refine W.seq (W.region (L.y rfl (Y.move rfl) ?_))
    refine L.y rfl (Y.lenM (g := I) (l := a0) Try.underlying34 rfl (fun w' hw => hA0.cls0 hw)) ?_
    refine L.y rfl (Y.move rfl) ?_
    refine L.nil (E.thenN (W.block (W.loopJ (fun m gs D => ∃ (gx1 : Int), gs = [(0, u0), (1, u1), (12, .int .i64 (a0.length : Int)), (13, .int .i64 gx1)] ∧ D = Cls w [] [] ∧ m19_slices_Equal_int_L1 a0 a1 m gx1 = some r) ⟨0, rfl, rfl, h⟩ ⟨rfl, rfl, rfl, rfl, trivial⟩ (fun _ hw => hw) ?_)))
    rintro m _ _ ⟨gx1, rfl, rfl, h⟩
    rcases m with _ | m
    · rw [m19_slices_Equal_int_L1] at h; cases h
    rw [m19_slices_Equal_int_L1] at h
    generalize hg1 : m19_slices_Equal_int_L1 a0 a1 m = go1 at h
    rw [m19_slices_Equal_int_L1B] at h
    refine W.seq (W.region (L.ite h rfl (Y.lss rfl rfl) (fun c1 h => ?_) (fun c1 h => ?_)))
    ·
     refine L.nil (E.thenN (W.seq (W.condT rfl ?_)))
     refine W.skip (E.thenN (W.seq (W.block (W.seq (W.region (L.y rfl (Y.move rfl) ?_))))))
     refine L.y rfl (Y.assign rfl) ?_
     refine L.nil (E.thenN (W.seq (W.quietC mixed (by kernel_rfl) (fun _ hw => hw.drew) (fun hC => ?_))))
     refine U.y rfl (Y.move rfl) ?_
     refine U.y rfl (Y.move rfl) ?_
     refine U.m (V := fun _ => el u0 (gx1.toNat * 1)) h rfl (Y.indexM (g := I) (l := a0) Try.underlying34 sz3 rfl rfl (fun w' hw => hA0.cls0 hw)) (fun x2 ex2 h => ?_)
     refine U.y rfl (Y.loadE1 (u := .int .i64 x2) ag3 rfl (fun w' hw => hA0.cls0 hw) (idx_map ex2)) ?_
     refine U.y rfl (Y.move rfl) ?_
     refine U.y rfl (Y.move rfl) ?_
     refine U.m (V := fun _ => el u1 (gx1.toNat * 1)) h rfl (Y.indexM (g := I) (l := a1) Try.underlying34 sz3 rfl rfl (fun w' hw => hA1.cls0 hw)) (fun x3 ex3 h => ?_)
     refine U.y rfl (Y.loadE1 (u := .int .i64 x3) ag3 rfl (fun w' hw => hA1.cls0 hw) (idx_map ex3)) ?_
     refine U.ite h rfl (Y.neq rfl rfl) (fun c4 h => ?_) (fun c4 h => ?_)
     ·
      refine U.nil (E.thenN (W.condT rfl ?_))
      refine W.seq (W.region (L.y rfl (Y.assign rfl) ?_))
      refine L.nil (E.thenN (W.ret (E.blockR (E.thenR (E.KLR (E.blockR (E.KSR (E.ret1 rfl rfl (fun w1 hw => ?_)))))))))
      obtain rfl := Option.some.inj h
      exact ⟨_, _, rfl, ⟨rfl, rfl⟩, hw⟩
     ·
      refine U.nil (E.thenN (W.condF rfl ?_))
      refine W.skip (E.blockN (E.thenN (W.region (L.m (V := fun x5 => .int .i64 x5) h rfl (Y.addM rfl rfl) (fun x5 ex5 h => ?_)))))
      refine L.y rfl (Y.move rfl) ?_
      exact L.nil (E.againJ ⟨x5, rfl, rfl, by rw [hg1]; exact h⟩ (Nat.lt_succ_self _) ⟨rfl, rfl, rfl, rfl, trivial⟩ (fun _ hw => hw))
    ·
     refine L.nil (E.thenN (W.seq (W.condF rfl ?_)))
     exact W.exit (E.thenX (E.KLX (E.blockX (E.joinJ ⟨rfl, rfl, h⟩ trivial (fun _ hw => hw)))))
   ·
    rintro _ _ ⟨rfl, rfl, h⟩
    rw [m19_slices_Equal_int_K2] at h
    refine W.seq (W.region (L.y rfl (Y.assign rfl) ?_))
    refine L.nil (E.thenN (W.ret (E.ret1 rfl rfl (fun w1 hw => ?_))))
    obtain rfl := Option.some.inj h
    exact ⟨_, _, rfl, ⟨rfl, rfl⟩, hw⟩
set_option maxRecDepth 100000 in
set_option maxHeartbeats 8000000 in
theorem w6_quirref_SameStory (a0 : TStory) (a1 : TStory) (u0_0 : Value) (q0_0 : Nat → List Value) (u0_2 : Value) (q0_2 : Nat → List Value) (u1_4 : Value) (q1_4 : Nat → List Value) (u1_6 : Value) (q1_6 : Nat → List Value) (K : World → Prop) (w : World) (hK : StbF K w []) (r : Bool) (h : m6_quirref_SameStory a0 a1 = some r) (hA0_0 : Fz K [] u0_0 2 (zr TTale.rowv q0_0 a0.Tales)) (hD0_0 : FzA K [] (zs TTale.sds q0_0 a0.Tales)) (hA0_2 : Fz K [] u0_2 1 (zr svRow q0_2 a0.Versions)) (hD0_2 : FzA K [] (zs (svSd 3 1 I) q0_2 a0.Versions)) (hA1_4 : Fz K [] u1_4 2 (zr TTale.rowv q1_4 a1.Tales)) (hD1_4 : FzA K [] (zs TTale.sds q1_4 a1.Tales)) (hA1_6 : Fz K [] u1_6 1 (zr svRow q1_6 a1.Versions)) (hD1_6 : FzA K [] (zs (svSd 3 1 I) q1_6 a1.Versions)) : Does Try.prog 6 [.agg #[u0_0, u0_2], .agg #[u1_4, u1_6]] w fun u m => u = .bool r ∧ m = [] := by
  rw [m6_quirref_SameStory] at h
  refine body (n := 17) Try.func6 rfl rfl rfl (Cls.reflF w) ?_
  refine W.seq (W.region (L.box rfl rfl ?_))
  intro b1
  refine L.box rfl rfl ?_
  intro b2
  refine L.y rfl (Y.assign rfl) ?_
  refine L.nil (E.thenN (W.seq (W.region (L.y rfl (Y.fieldP fd27_0 rfl) ?_))))
  refine L.y rfl (Y.loadP (i := 1) ag24 rfl rfl rfl) ?_
  refine L.y rfl (Y.fieldP fd27_0 rfl) ?_
  refine L.y rfl (Y.loadP (i := 0) ag24 rfl rfl rfl) ?_
  refine L.callJ (fun v D => ∃ (gb1 : Bool), v = .bool gb1 ∧ D = Cls w [] [.obj b2 [u1_4, u1_6] 27, .obj b1 [u0_0, u0_2] 27, .os []] ∧ m6_quirref_SameStory_K1 a0 a1 gb1 = some r) rfl en15 rfl Try.func15 rfl rfl rfl ?_ ?_
  ·
   refine W.seq (W.region (L.y rfl (Y.assign rfl) ?_))
   refine L.nil (E.thenN (W.seqJ (fun gs D => gs = [(0, u0_0), (1, u1_4), (2, .func (.func 16) #[] #[])] ∧ D = Cls w [] [.obj b2 [u1_4, u1_6] 27, .obj b1 [u0_0, u0_2] 27, .os []] ∧ m6_quirref_SameStory_K8 a0 a1 = some r) ?_ ?_))
   ·
    refine W.seq (W.region (L.y rfl (Y.move rfl) ?_))
    refine L.y rfl (Y.lenMZ (row := TTale.rowv) (vs := q0_0) (l := a0.Tales) Try.underlying24 rfl (fun w' hw => (hA0_0.up.clsP hK hw rfl))) ?_
    refine L.y rfl (Y.move rfl) ?_
    refine L.y rfl (Y.lenMZ (row := TTale.rowv) (vs := q1_4) (l := a1.Tales) Try.underlying24 rfl (fun w' hw => (hA1_4.up.clsP hK hw rfl))) ?_
    refine L.ite h rfl (Y.neq rfl rfl) (fun c25 h => ?_) (fun c25 h => ?_)
    ·
     refine L.nil (E.thenN (W.condT rfl ?_))
     refine W.seq (W.region (L.y rfl (Y.assign rfl) ?_))
     refine L.nil (E.thenN (W.ret (E.KSR (E.ret1 rfl rfl (fun w1 hw => ?_)))))
     exact ⟨_, _, rfl, ⟨false, rfl, rfl, h⟩, hw⟩
    ·
     refine L.nil (E.thenN (W.condF rfl ?_))
     exact W.skip (E.joinJ ⟨rfl, rfl, h⟩ ⟨rfl, rfl, rfl, trivial⟩ (fun _ hw => hw))
   ·
    rintro _ _ ⟨rfl, rfl, h⟩
    rw [m6_quirref_SameStory_K8] at h
    refine W.seqJ (fun gs D => gs = [] ∧ D = Cls w [] [.obj b2 [u1_4, u1_6] 27, .obj b1 [u0_0, u0_2] 27, .os []] ∧ m6_quirref_SameStory_K9 a0 a1 = some r) ?_ ?_
    ·
     refine W.seq (W.region (L.y rfl (Y.move rfl) ?_))
     refine L.y rfl (Y.lenMZ (row := TTale.rowv) (vs := q0_0) (l := a0.Tales) Try.underlying24 rfl (fun w' hw => (hA0_0.up.clsP hK hw rfl))) ?_
     refine L.y rfl (Y.move rfl) ?_
     refine L.nil (E.thenN (W.block (W.loopJ (fun m gs D => ∃ (gx6 : Int), gs = [(1, u1_4), (2, .func (.func 16) #[] #[]), (15, u0_0), (16, .int .i64 (a0.Tales.length : Int)), (17, .int .i64 gx6)] ∧ D = Cls w [] [.obj b2 [u1_4, u1_6] 27, .obj b1 [u0_0, u0_2] 27, .os []] ∧ m6_quirref_SameStory_L3 a0 a1 m gx6 = some r) ⟨0, rfl, rfl, h⟩ ⟨rfl, rfl, rfl, rfl, rfl, trivial⟩ (fun _ hw => hw) ?_)))
     rintro m _ _ ⟨gx6, rfl, rfl, h⟩
     rcases m with _ | m
     · rw [m6_quirref_SameStory_L3] at h; cases h
     rw [m6_quirref_SameStory_L3] at h
     generalize hg3 : m6_quirref_SameStory_L3 a0 a1 m = go3 at h
     rw [m6_quirref_SameStory_L3B] at h
     refine W.seq (W.region (L.ite h rfl (Y.lss rfl rfl) (fun c14 h => ?_) (fun c14 h => ?_)))
     ·
      refine L.nil (E.thenN (W.seq (W.condT rfl ?_)))
      refine W.skip (E.thenN (W.seq (W.block (W.seq (W.region (L.y rfl (Y.move rfl) ?_))))))
      refine L.m (V := fun _ => el u0_0 (gx6.toNat * 2)) h rfl (Y.indexMZ (row := TTale.rowv) (vs := q0_0) (l := a0.Tales) Try.underlying24 sz41 rfl rfl (fun w' hw => (hA0_0.up.clsP hK hw rfl))) (fun x15 ex15 h => ?_)
      refine L.y rfl (Y.loadEN (r := [.int .i64 x15.Tx, gv (q0_0 gx6.toNat) 0]) ag41 sz41 rfl (fun w' hw => (hA0_0.up.clsP hK hw rfl)) (zr_idx (vs := q0_0) ex15) rfl) ?_
      refine L.alloc rfl ze41 ?_
      intro b16
      refine L.y rfl (Y.assign rfl) ?_
      refine L.storeC (i := 0) sz41 rfl rfl rfl rfl (fun w hw => (all1 rfl (all1 (((FzA.at (sds := TTale.sds) (vs := q0_0) (j := 0) (nl := 1) hD0_0 (fun _ _ => rfl) ex15 rfl).up).clsP hK hw rfl).one all0))) rfl (Nat.le_of_ble_eq_true rfl) ?_
      refine L.nil (E.thenN (W.seq (W.region (L.y rfl (Y.move rfl) ?_))))
      refine L.y rfl (Y.move rfl) ?_
      refine L.m (V := fun _ => el u1_4 (gx6.toNat * 2)) h rfl (Y.indexMZ (row := TTale.rowv) (vs := q1_4) (l := a1.Tales) Try.underlying24 sz41 rfl rfl (fun w' hw => (hA1_4.up.clsP hK hw rfl))) (fun x17 ex17 h => ?_)
      refine L.y rfl (Y.loadEN (r := [.int .i64 x17.Tx, gv (q1_4 gx6.toNat) 0]) ag41 sz41 rfl (fun w' hw => (hA1_4.up.clsP hK hw rfl)) (zr_idx (vs := q1_4) ex17) rfl) ?_
      refine L.alloc rfl ze41 ?_
      intro b18
      refine L.storeC (i := 0) sz41 rfl rfl rfl rfl (fun w hw => (all1 rfl (all1 (((FzA.at (sds := TTale.sds) (vs := q1_4) (j := 0) (nl := 1) hD1_4 (fun _ _ => rfl) ex17 rfl).up).clsP hK hw rfl).one all0))) rfl (Nat.le_of_ble_eq_true rfl) ?_
      refine L.nil (E.thenN (W.seq (W.region (L.y rfl (Y.move rfl) ?_))))
      refine L.y rfl (Y.loadPW (i := 1) ag41 sz41 rfl rfl rfl) ?_
      refine L.y rfl (Y.loadPW (i := 0) ag41 sz41 rfl rfl rfl) ?_
      refine L.callVJ (fun v D => ∃ (gb7 : Bool), v = .bool gb7 ∧ D = Cls w [] [.obj b2 [u1_4, u1_6] 27, .obj b1 [u0_0, u0_2] 27, .os []] ∧ m6_quirref_SameStory_K10 gx6 go3 a0 a1 gb7 = some r) rfl en16 rfl rfl Try.func16 rfl rfl rfl ?_ ?_
      ·
       refine W.seq (W.region (L.box rfl rfl ?_))
       intro b20
       refine L.box rfl rfl ?_
       intro b21
       refine L.y rfl (Y.assign rfl) ?_
       refine L.nil (E.thenN (W.seq (W.region (L.y rfl (Y.fieldP fd41_0 rfl) ?_))))
       refine L.y rfl (Y.loadP (i := 1) ag3 rfl rfl rfl) ?_
       refine L.y rfl (Y.fieldP fd41_0 rfl) ?_
       refine L.y rfl (Y.loadP (i := 0) ag3 rfl rfl rfl) ?_
       refine L.ite h rfl (Y.eql rfl rfl) (fun c22 h => ?_) (fun c22 h => ?_)
       ·
        refine L.y rfl (Y.move rfl) ?_
        refine L.take rfl (L.y rfl (Y.fieldP fd41_1 rfl) ?_)
        refine L.take rfl (L.y rfl (Y.loadP (i := 1) ag39 rfl rfl rfl) ?_)
        refine L.take rfl (L.y rfl (Y.fieldP fd41_1 rfl) ?_)
        refine L.take rfl (L.y rfl (Y.loadP (i := 0) ag39 rfl rfl rfl) ?_)
        refine L.take rfl ?_
        obtain ⟨b23, e24, h⟩ := bind1S h
        refine L.y rfl (Y.does en17 rfl (fun w' hw => (w17_api_Got x15.Reads x17.Reads (gv (q0_0 gx6.toNat) 0) (gv (q1_4 gx6.toNat) 0) w' _ e24 (((FzA.at (sds := TTale.sds) (vs := q0_0) (j := 0) (nl := 1) hD0_0 (fun _ _ => rfl) ex15 rfl).up).clsP hK hw rfl) (((FzA.at (sds := TTale.sds) (vs := q1_4) (j := 0) (nl := 1) hD1_4 (fun _ _ => rfl) ex17 rfl).up).clsP hK hw rfl)).mono (fun _ _ h => h.1))) ?_
        refine L.y rfl (Y.pickT rfl rfl) ?_
        refine L.y rfl (Y.assign rfl) ?_
        refine L.nil (E.thenN (W.ret (E.ret1 rfl rfl (fun w1 hw => ?_))))
        exact ⟨_, _, rfl, ⟨b23, rfl, rfl, h⟩, hw.sel [4, 5, 6] (by decide) rfl⟩
       ·
        refine L.y rfl (Y.move rfl) ?_
        refine L.pass rfl rfl (by nofun) ?_
        refine L.pass rfl rfl (by nofun) ?_
        refine L.pass rfl rfl (by nofun) ?_
        refine L.pass rfl rfl (by nofun) ?_
        refine L.pass rfl rfl (by nofun) ?_
        refine L.y rfl (Y.pickF rfl rfl) ?_
        refine L.y rfl (Y.assign rfl) ?_
        refine L.nil (E.thenN (W.ret (E.ret1 rfl rfl (fun w1 hw => ?_))))
        exact ⟨_, _, rfl, ⟨false, rfl, rfl, h⟩, hw.sel [4, 5, 6] (by decide) rfl⟩
      ·
       rintro _ _ ⟨gb7, rfl, rfl, h⟩
       rw [m6_quirref_SameStory_K10] at h
       rcases gb7 with _ | _
       ·
        replace h := iteF h
        refine L.y rfl (Y.not rfl) ?_
        refine L.nil (E.thenN (W.condT rfl ?_))
        refine W.seq (W.region (L.y rfl (Y.assign rfl) ?_))
        refine L.nil (E.thenN (W.ret (E.blockR (E.thenR (E.KLR (E.blockR (E.KSR (E.ret1 rfl rfl (fun w1 hw => ?_)))))))))
        exact ⟨_, _, rfl, ⟨false, rfl, rfl, h⟩, hw⟩
       ·
        replace h := iteT h
        refine L.y rfl (Y.not rfl) ?_
        refine L.nil (E.thenN (W.condF rfl ?_))
        refine W.skip (E.blockN (E.thenN (W.region (L.m (V := fun x19 => .int .i64 x19) h rfl (Y.addM rfl rfl) (fun x19 ex19 h => ?_)))))
        refine L.y rfl (Y.move rfl) ?_
        exact L.nil (E.againJ ⟨x19, rfl, rfl, by rw [hg3]; exact h⟩ (Nat.lt_succ_self _) ⟨rfl, rfl, rfl, rfl, rfl, trivial⟩ (fun _ hw => hw))
     ·
      refine L.nil (E.thenN (W.seq (W.condF rfl ?_)))
      exact W.exit (E.thenX (E.KLX (E.blockX (E.joinJ ⟨rfl, rfl, h⟩ trivial (fun _ hw => hw)))))
    ·
     rintro _ _ ⟨rfl, rfl, h⟩
     rw [m6_quirref_SameStory_K9] at h
     refine W.seq (W.region (L.y rfl (Y.assign rfl) ?_))
     refine L.nil (E.thenN (W.ret (E.ret1 rfl rfl (fun w1 hw => ?_))))
     exact ⟨_, _, rfl, ⟨true, rfl, rfl, h⟩, hw⟩
  ·
   rintro _ _ ⟨gb1, rfl, rfl, h⟩
   rw [m6_quirref_SameStory_K1] at h
   rcases gb1 with _ | _
   ·
    replace h := iteF h
    refine L.y rfl (Y.move rfl) ?_
    refine L.pass rfl rfl (by nofun) ?_
    refine L.pass rfl rfl (by nofun) ?_
    refine L.pass rfl rfl (by nofun) ?_
    refine L.pass rfl rfl (by nofun) ?_
    refine L.pass rfl rfl (by nofun) ?_
    refine L.y rfl (Y.pickF rfl rfl) ?_
    refine L.y rfl (Y.assign rfl) ?_
    refine L.nil (E.thenN (W.ret (E.ret1 rfl rfl (fun w1 hw => ?_))))
    obtain rfl := Option.some.inj h
    exact ⟨_, _, rfl, ⟨rfl, rfl⟩, hw.sel [] (by decide) rfl⟩
   ·
    replace h := iteT h
    refine L.y rfl (Y.move rfl) ?_
    refine L.take rfl (L.y rfl (Y.fieldP fd27_1 rfl) ?_)
    refine L.take rfl (L.y rfl (Y.loadP (i := 1) ag25 rfl rfl rfl) ?_)
    refine L.take rfl (L.y rfl (Y.fieldP fd27_1 rfl) ?_)
    refine L.take rfl (L.y rfl (Y.loadP (i := 0) ag25 rfl rfl rfl) ?_)
    refine L.take rfl (L.callJ (fun v D => ∃ (gb2 : Bool), v = .bool gb2 ∧ D = Cls w [] [.os []] ∧ m6_quirref_SameStory_K2 gb2 = some r) rfl en18 rfl Try.func18 rfl rfl rfl ?_ ?_)
    ·
     refine W.seq (W.region (L.y rfl (Y.assign rfl) ?_))
     refine L.nil (E.thenN (W.seqJ (fun gs D => gs = [(0, u0_2), (1, u1_6), (2, .func (.func 19) #[] #[])] ∧ D = Cls w [] [.os []] ∧ m6_quirref_SameStory_K3 a0 a1 = some r) ?_ ?_))
     ·
      refine W.seq (W.region (L.y rfl (Y.move rfl) ?_))
      refine L.y rfl (Y.lenMZ (row := svRow) (vs := q0_2) (l := a0.Versions) Try.underlying25 rfl (fun w' hw => (hA0_2.up.clsP hK hw rfl))) ?_
      refine L.y rfl (Y.move rfl) ?_
      refine L.y rfl (Y.lenMZ (row := svRow) (vs := q1_6) (l := a1.Versions) Try.underlying25 rfl (fun w' hw => (hA1_6.up.clsP hK hw rfl))) ?_
      refine L.ite h rfl (Y.neq rfl rfl) (fun c13 h => ?_) (fun c13 h => ?_)
      ·
       refine L.nil (E.thenN (W.condT rfl ?_))
       refine W.seq (W.region (L.y rfl (Y.assign rfl) ?_))
       refine L.nil (E.thenN (W.ret (E.KSR (E.ret1 rfl rfl (fun w1 hw => ?_)))))
       exact ⟨_, _, rfl, ⟨false, rfl, rfl, h⟩, hw.sel [2] (by decide) rfl⟩
      ·
       refine L.nil (E.thenN (W.condF rfl ?_))
       exact W.skip (E.joinJ ⟨rfl, rfl, h⟩ ⟨rfl, rfl, rfl, trivial⟩ (fun _ hw => hw.sel [2] (by decide) rfl))
     ·
      rintro _ _ ⟨rfl, rfl, h⟩
      rw [m6_quirref_SameStory_K3] at h
      refine W.seqJ (fun gs D => gs = [] ∧ D = Cls w [] [.os []] ∧ m6_quirref_SameStory_K4 = some r) ?_ ?_
      ·
       refine W.seq (W.region (L.y rfl (Y.move rfl) ?_))
       refine L.y rfl (Y.lenMZ (row := svRow) (vs := q0_2) (l := a0.Versions) Try.underlying25 rfl (fun w' hw => (hA0_2.up.clsP hK hw rfl))) ?_
       refine L.y rfl (Y.move rfl) ?_
       refine L.nil (E.thenN (W.block (W.loopJ (fun m gs D => ∃ (gx3 : Int), gs = [(1, u1_6), (2, .func (.func 19) #[] #[]), (15, u0_2), (16, .int .i64 (a0.Versions.length : Int)), (17, .int .i64 gx3)] ∧ D = Cls w [] [.os []] ∧ m6_quirref_SameStory_L1 a0 a1 m gx3 = some r) ⟨0, rfl, rfl, h⟩ ⟨rfl, rfl, rfl, rfl, rfl, trivial⟩ (fun _ hw => hw) ?_)))
       rintro m _ _ ⟨gx3, rfl, rfl, h⟩
       rcases m with _ | m
       · rw [m6_quirref_SameStory_L1] at h; cases h
       rw [m6_quirref_SameStory_L1] at h
       generalize hg1 : m6_quirref_SameStory_L1 a0 a1 m = go1 at h
       rw [m6_quirref_SameStory_L1B] at h
       refine W.seq (W.region (L.ite h rfl (Y.lss rfl rfl) (fun c3 h => ?_) (fun c3 h => ?_)))
       ·
        refine L.nil (E.thenN (W.seq (W.condT rfl ?_)))
        refine W.skip (E.thenN (W.seq (W.block (W.seq (W.region (L.y rfl (Y.move rfl) ?_))))))
        refine L.m (V := fun _ => el u0_2 (gx3.toNat * 1)) h rfl (Y.indexMZ (row := svRow) (vs := q0_2) (l := a0.Versions) Try.underlying25 sz34 rfl rfl (fun w' hw => (hA0_2.up.clsP hK hw rfl))) (fun x4 ex4 h => ?_)
        refine L.y rfl (Y.loadE1 (u := gv (q0_2 gx3.toNat) 0) ag34 rfl (fun w' hw => (hA0_2.up.clsP hK hw rfl)) (zr_idx (vs := q0_2) ex4)) ?_
        refine L.y rfl (Y.assign rfl) ?_
        refine L.y rfl (Y.assign rfl) ?_
        refine L.nil (E.thenN (W.seq (W.region (L.y rfl (Y.move rfl) ?_))))
        refine L.y rfl (Y.move rfl) ?_
        refine L.m (V := fun _ => el u1_6 (gx3.toNat * 1)) h rfl (Y.indexMZ (row := svRow) (vs := q1_6) (l := a1.Versions) Try.underlying25 sz34 rfl rfl (fun w' hw => (hA1_6.up.clsP hK hw rfl))) (fun x5 ex5 h => ?_)
        refine L.y rfl (Y.loadE1 (u := gv (q1_6 gx3.toNat) 0) ag34 rfl (fun w' hw => (hA1_6.up.clsP hK hw rfl)) (zr_idx (vs := q1_6) ex5)) ?_
        refine L.y rfl (Y.assign rfl) ?_
        refine L.nil (E.thenN (W.seq (W.region (L.y rfl (Y.move rfl) ?_))))
        refine L.y rfl (Y.move rfl) ?_
        refine L.y rfl (Y.move rfl) ?_
        refine L.callVJ (fun v D => ∃ (gb4 : Bool), v = .bool gb4 ∧ D = Cls w [] [.os []] ∧ m6_quirref_SameStory_K5 gx3 go1 gb4 = some r) rfl en19 rfl rfl Try.func19 rfl rfl rfl ?_ ?_
        ·
         refine W.seq (W.region (L.y rfl (Y.assign rfl) ?_))
         refine L.nil (E.thenN (W.seqJ (fun gs D => gs = [(0, gv (q0_2 gx3.toNat) 0), (1, gv (q1_6 gx3.toNat) 0)] ∧ D = Cls w [] [.os []] ∧ m6_quirref_SameStory_K6 x4 x5 gx3 go1 = some r) ?_ ?_))
         ·
          refine W.seq (W.region (L.y rfl (Y.move rfl) ?_))
          refine L.y rfl (Y.lenM (g := I) (l := x4) Try.underlying34 rfl (fun w' hw => (((FzA.at (sds := (svSd 3 1 I)) (vs := q0_2) (j := 0) (nl := 1) hD0_2 (fun _ _ => rfl) ex4 rfl).up).clsP hK hw rfl))) ?_
          refine L.y rfl (Y.move rfl) ?_
          refine L.y rfl (Y.lenM (g := I) (l := x5) Try.underlying34 rfl (fun w' hw => (((FzA.at (sds := (svSd 3 1 I)) (vs := q1_6) (j := 0) (nl := 1) hD1_6 (fun _ _ => rfl) ex5 rfl).up).clsP hK hw rfl))) ?_
          refine L.ite h rfl (Y.neq rfl rfl) (fun c12 h => ?_) (fun c12 h => ?_)
          ·
           refine L.nil (E.thenN (W.condT rfl ?_))
           refine W.seq (W.region (L.y rfl (Y.assign rfl) ?_))
           refine L.nil (E.thenN (W.ret (E.KSR (E.ret1 rfl rfl (fun w1 hw => ?_)))))
           exact ⟨_, _, rfl, ⟨false, rfl, rfl, h⟩, hw⟩
          ·
           refine L.nil (E.thenN (W.condF rfl ?_))
           exact W.skip (E.joinJ ⟨rfl, rfl, h⟩ ⟨rfl, rfl, trivial⟩ (fun _ hw => hw))
         ·
          rintro _ _ ⟨rfl, rfl, h⟩
          rw [m6_quirref_SameStory_K6] at h
          refine W.seqJ (fun gs D => gs = [] ∧ D = Cls w [] [.os []] ∧ m6_quirref_SameStory_K7 gx3 go1 = some r) ?_ ?_
          ·
           refine W.seq (W.region (L.y rfl (Y.move rfl) ?_))
           refine L.y rfl (Y.lenM (g := I) (l := x4) Try.underlying34 rfl (fun w' hw => (((FzA.at (sds := (svSd 3 1 I)) (vs := q0_2) (j := 0) (nl := 1) hD0_2 (fun _ _ => rfl) ex4 rfl).up).clsP hK hw rfl))) ?_
           refine L.y rfl (Y.move rfl) ?_
           refine L.nil (E.thenN (W.block (W.loopJ (fun m gs D => ∃ (gx5 : Int), gs = [(0, gv (q0_2 gx3.toNat) 0), (1, gv (q1_6 gx3.toNat) 0), (12, .int .i64 (x4.length : Int)), (13, .int .i64 gx5)] ∧ D = Cls w [] [.os []] ∧ m6_quirref_SameStory_L2 x4 x5 gx3 go1 m gx5 = some r) ⟨0, rfl, rfl, h⟩ ⟨rfl, rfl, rfl, rfl, trivial⟩ (fun _ hw => hw) ?_)))
           rintro m _ _ ⟨gx5, rfl, rfl, h⟩
           rcases m with _ | m
           · rw [m6_quirref_SameStory_L2] at h; cases h
           rw [m6_quirref_SameStory_L2] at h
           generalize hg2 : m6_quirref_SameStory_L2 x4 x5 gx3 go1 m = go2 at h
           rw [m6_quirref_SameStory_L2B] at h
           refine W.seq (W.region (L.ite h rfl (Y.lss rfl rfl) (fun c7 h => ?_) (fun c7 h => ?_)))
           ·
            refine L.nil (E.thenN (W.seq (W.condT rfl ?_)))
            refine W.skip (E.thenN (W.seq (W.block (W.seq (W.region (L.y rfl (Y.move rfl) ?_))))))
            refine L.y rfl (Y.assign rfl) ?_
            refine L.nil (E.thenN (W.seq (W.quietC mixed (by kernel_rfl) (fun _ hw => hw.drew) (fun hC => ?_))))
            refine U.y rfl (Y.move rfl) ?_
            refine U.y rfl (Y.move rfl) ?_
            refine U.m (V := fun _ => el (gv (q0_2 gx3.toNat) 0) (gx5.toNat * 1)) h rfl (Y.indexM (g := I) (l := x4) Try.underlying34 sz3 rfl rfl (fun w' hw => (((FzA.at (sds := (svSd 3 1 I)) (vs := q0_2) (j := 0) (nl := 1) hD0_2 (fun _ _ => rfl) ex4 rfl).up).clsP hK hw rfl))) (fun x8 ex8 h => ?_)
            refine U.y rfl (Y.loadE1 (u := .int .i64 x8) ag3 rfl (fun w' hw => (((FzA.at (sds := (svSd 3 1 I)) (vs := q0_2) (j := 0) (nl := 1) hD0_2 (fun _ _ => rfl) ex4 rfl).up).clsP hK hw rfl)) (idx_map ex8)) ?_
            refine U.y rfl (Y.move rfl) ?_
            refine U.y rfl (Y.move rfl) ?_
            refine U.m (V := fun _ => el (gv (q1_6 gx3.toNat) 0) (gx5.toNat * 1)) h rfl (Y.indexM (g := I) (l := x5) Try.underlying34 sz3 rfl rfl (fun w' hw => (((FzA.at (sds := (svSd 3 1 I)) (vs := q1_6) (j := 0) (nl := 1) hD1_6 (fun _ _ => rfl) ex5 rfl).up).clsP hK hw rfl))) (fun x9 ex9 h => ?_)
            refine U.y rfl (Y.loadE1 (u := .int .i64 x9) ag3 rfl (fun w' hw => (((FzA.at (sds := (svSd 3 1 I)) (vs := q1_6) (j := 0) (nl := 1) hD1_6 (fun _ _ => rfl) ex5 rfl).up).clsP hK hw rfl)) (idx_map ex9)) ?_
            refine U.ite h rfl (Y.neq rfl rfl) (fun c10 h => ?_) (fun c10 h => ?_)
            ·
             refine U.nil (E.thenN (W.condT rfl ?_))
             refine W.seq (W.region (L.y rfl (Y.assign rfl) ?_))
             refine L.nil (E.thenN (W.ret (E.blockR (E.thenR (E.KLR (E.blockR (E.KSR (E.ret1 rfl rfl (fun w1 hw => ?_)))))))))
             exact ⟨_, _, rfl, ⟨false, rfl, rfl, h⟩, hw⟩
            ·
             refine U.nil (E.thenN (W.condF rfl ?_))
             refine W.skip (E.blockN (E.thenN (W.region (L.m (V := fun x11 => .int .i64 x11) h rfl (Y.addM rfl rfl) (fun x11 ex11 h => ?_)))))
             refine L.y rfl (Y.move rfl) ?_
             exact L.nil (E.againJ ⟨x11, rfl, rfl, by rw [hg2]; exact h⟩ (Nat.lt_succ_self _) ⟨rfl, rfl, rfl, rfl, trivial⟩ (fun _ hw => hw))
           ·
            refine L.nil (E.thenN (W.seq (W.condF rfl ?_)))
            exact W.exit (E.thenX (E.KLX (E.blockX (E.joinJ ⟨rfl, rfl, h⟩ trivial (fun _ hw => hw)))))
          ·
           rintro _ _ ⟨rfl, rfl, h⟩
           rw [m6_quirref_SameStory_K7] at h
           refine W.seq (W.region (L.y rfl (Y.assign rfl) ?_))
           refine L.nil (E.thenN (W.ret (E.ret1 rfl rfl (fun w1 hw => ?_))))
           exact ⟨_, _, rfl, ⟨true, rfl, rfl, h⟩, hw⟩
        ·
         rintro _ _ ⟨gb4, rfl, rfl, h⟩
         rw [m6_quirref_SameStory_K5] at h
         rcases gb4 with _ | _
         ·
          replace h := iteF h
          refine L.y rfl (Y.not rfl) ?_
          refine L.nil (E.thenN (W.condT rfl ?_))
          refine W.seq (W.region (L.y rfl (Y.assign rfl) ?_))
          refine L.nil (E.thenN (W.ret (E.blockR (E.thenR (E.KLR (E.blockR (E.KSR (E.ret1 rfl rfl (fun w1 hw => ?_)))))))))
          exact ⟨_, _, rfl, ⟨false, rfl, rfl, h⟩, hw⟩
         ·
          replace h := iteT h
          refine L.y rfl (Y.not rfl) ?_
          refine L.nil (E.thenN (W.condF rfl ?_))
          refine W.skip (E.blockN (E.thenN (W.region (L.m (V := fun x6 => .int .i64 x6) h rfl (Y.addM rfl rfl) (fun x6 ex6 h => ?_)))))
          refine L.y rfl (Y.move rfl) ?_
          exact L.nil (E.againJ ⟨x6, rfl, rfl, by rw [hg1]; exact h⟩ (Nat.lt_succ_self _) ⟨rfl, rfl, rfl, rfl, rfl, trivial⟩ (fun _ hw => hw))
       ·
        refine L.nil (E.thenN (W.seq (W.condF rfl ?_)))
        exact W.exit (E.thenX (E.KLX (E.blockX (E.joinJ ⟨rfl, rfl, h⟩ trivial (fun _ hw => hw)))))
      ·
       rintro _ _ ⟨rfl, rfl, h⟩
       rw [m6_quirref_SameStory_K4] at h
       refine W.seq (W.region (L.y rfl (Y.assign rfl) ?_))
       refine L.nil (E.thenN (W.ret (E.ret1 rfl rfl (fun w1 hw => ?_))))
       exact ⟨_, _, rfl, ⟨true, rfl, rfl, h⟩, hw⟩
    ·
     rintro _ _ ⟨gb2, rfl, rfl, h⟩
     rw [m6_quirref_SameStory_K2] at h
     refine L.y rfl (Y.pickT rfl rfl) ?_
     refine L.y rfl (Y.assign rfl) ?_
     refine L.nil (E.thenN (W.ret (E.ret1 rfl rfl (fun w1 hw => ?_))))
     obtain rfl := Option.some.inj h
     exact ⟨_, _, rfl, ⟨rfl, rfl⟩, hw.sel [] (by decide) rfl⟩
set_option maxRecDepth 100000 in
set_option maxHeartbeats 8000000 in
theorem w3_quirlaw_OrderTells (a0 : (List TOp)) (a1 : (List TDid)) (u0 : Value) (u1 : Value) (K : World → Prop) (w : World) (hK : StbF K w []) (r : Bool) (h : m3_quirlaw_OrderTells a0 a1 = some r) (hA0 : Fz K [] u0 3 (a0.map TOp.row)) (hA1 : Fz K [] u1 2 (a1.map TDid.row)) : Does Try.prog 3 [u0, u1] w fun u m => u = .bool r ∧ m = [] := by
  rw [m3_quirlaw_OrderTells] at h
  refine body (n := 29) Try.func3 rfl rfl rfl (Cls.reflF w) ?_
  refine W.seq (W.region (L.y rfl (Y.assign rfl) ?_))
  refine L.nil (E.thenN (W.seq (W.region (L.y rfl (Y.move rfl) ?_))))
  refine L.y rfl (Y.move rfl) ?_
  obtain ⟨x1, x10, e11, h⟩ := bind2S h
  refine L.doesFP rfl en4 rfl rfl hK (fun w' hw hs => w4_order_Of a0 a1 u0 u1 _ w' hs.f _ e11 hA0.up.tok hA1.up.tok) ?_
  rintro _ c12 c13 mo14 mn15 ma16 ⟨v2, q4, v6, q8, rfl, f3, f5, f7, f9⟩
  refine L.y rfl (Y.move rfl) ?_
  refine L.y rfl (Y.extract rfl rfl) ?_
  refine L.y rfl (Y.extract rfl rfl) ?_
  refine L.alloc rfl ze27 ?_
  intro b17
  refine L.storeC (i := 0) sz27 rfl rfl rfl rfl (fun w hw => (all1 ((mn15 f3).clsP hK hw rfl).one (all1 ((mn15 f7).clsP hK hw rfl).one all0))) rfl (Nat.le_of_ble_eq_true rfl) ?_
  refine L.y rfl (Y.assign rfl) ?_
  refine L.nil (E.thenN (W.seq (W.region (L.y rfl (Y.move rfl) ?_))))
  refine L.y rfl (Y.move rfl) ?_
  obtain ⟨x18, x27, e28, h⟩ := bind2S h
  refine L.doesFP rfl en5 rfl rfl hK (fun w' hw hs => w5_quirref_Story a0 a1 u0 u1 _ w' hs.f _ e28 hA0.up.tok hA1.up.tok) ?_
  rintro _ c29 c30 mo31 mn32 ma33 ⟨v19, q21, v23, q25, rfl, f20, f22, f24, f26⟩
  refine L.y rfl (Y.move rfl) ?_
  refine L.y rfl (Y.extract rfl rfl) ?_
  refine L.y rfl (Y.extract rfl rfl) ?_
  refine L.alloc rfl ze27 ?_
  intro b34
  refine L.storeC (i := 0) sz27 rfl rfl rfl rfl (fun w hw => (all1 ((mn32 f20).clsP hK hw rfl).one (all1 ((mn32 f24).clsP hK hw rfl).one all0))) rfl (Nat.le_of_ble_eq_true rfl) ?_
  refine L.y rfl (Y.assign rfl) ?_
  refine L.nil (E.thenN (W.seq (W.region (L.y rfl (Y.loadPW (i := 1) ag27 sz27 rfl rfl rfl) ?_))))
  refine L.y rfl (Y.loadPW (i := 0) ag27 sz27 rfl rfl rfl) ?_
  obtain ⟨b35, e36, h⟩ := bind1S h
  refine L.y rfl (Y.does en6 rfl (fun w' hw => (w6_quirref_SameStory x1 x18 v2 q4 v6 q8 v19 q21 v23 q25 (Kn K _) w' (hK.kn hw rfl).f _ e36 ((mn15 f3).mo mo31).tok ((ma16 f5).mo mo31).tok ((mn15 f7).mo mo31).tok ((ma16 f9).mo mo31).tok (mn32 f20).tok (ma33 f22).tok (mn32 f24).tok (ma33 f26).tok).mono (fun _ _ h => h.1))) ?_
  rcases b35 with _ | _
  ·
   replace h := iteF h
   refine L.y rfl (Y.move rfl) ?_
   refine L.pass rfl rfl (by nofun) ?_
   refine L.pass rfl rfl (by nofun) ?_
   refine L.pass rfl rfl (by nofun) ?_
   refine L.y rfl (Y.pickF rfl rfl) ?_
   refine L.y rfl (Y.assign rfl) ?_
   refine L.nil (E.thenN (W.ret (E.ret1 rfl rfl (fun w1 hw => ?_))))
   obtain rfl := Option.some.inj h
   exact ⟨_, _, rfl, ⟨rfl, rfl⟩, hw.sel [] (by decide) rfl⟩
  ·
   replace h := iteT h
   refine L.y rfl (Y.move rfl) ?_
   refine L.take rfl (L.y rfl (Y.move rfl) ?_)
   refine L.take rfl (L.y rfl (Y.move rfl) ?_)
   refine L.take rfl (L.y rfl (Y.eql rfl rfl) ?_)
   refine L.y rfl (Y.pickT rfl rfl) ?_
   refine L.y rfl (Y.assign rfl) ?_
   refine L.nil (E.thenN (W.ret (E.ret1 rfl rfl (fun w1 hw => ?_))))
   obtain rfl := Option.some.inj h
   exact ⟨_, _, rfl, ⟨rfl, rfl⟩, hw.sel [] (by decide) rfl⟩
end Go.Proofs.Ytjdbjcmmdnpeaaa
