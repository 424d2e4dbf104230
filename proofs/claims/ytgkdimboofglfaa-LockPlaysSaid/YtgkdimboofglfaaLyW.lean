/-
  Walks, printed by a program of mine.
  Conditions: none.
-/
import Derived.Test.YtgkdimboofglfaaLyW3
import Derived.Test.YtgkdimboofglfaaChecked
import Derived.KernelRfl
import Derived.Test.YtgkdimboofglfaaLkO
namespace Go.Proofs.Ytgkdimboofglfaa
open Go.S
set_option linter.unusedVariables false
set_option linter.unusedSimpArgs false
set_option maxRecDepth 100000 in
set_option maxHeartbeats 8000000 in
theorem w15_quirref_AskLock (a0 : (List TLockItem)) (a1 : Int) (a2 : Int) (a3 : Int) (u0 : Value) (q0 : Nat → List Value) (K : World → Prop) (w : World) (hK : Stb K w) (r : ((List TLockItem) × Bool × Int)) (h : m15_quirref_AskLock a0 a1 a2 a3 = some r) (hA0 : Fz K [] u0 3 (zr TLockItem.rowv q0 a0)) (hD0 : FzA K [] (zs TLockItem.sds q0 a0)) : Does Try.prog 15 [u0, .int .i64 a1, .int .i64 a2, .int .i64 a3] w fun u m => ∃ c, m = [.os c] ∧ ∃ v0 q0, u = .tuple #[v0, .bool r.2.1, .int .i64 r.2.2] ∧ Fz K c v0 3 (zr TLockItem.rowv q0 r.1) ∧ FzA K c (zs TLockItem.sds q0 r.1) := by
  rw [m15_quirref_AskLock] at h
  refine body (n := 81) Try.func15 rfl rfl rfl (Cls.reflF w) ?_
  refine W.seq (W.region (L.y rfl (Y.assign rfl) ?_))
  refine L.y rfl (Y.assign rfl) ?_
  refine L.y rfl (Y.assign rfl) ?_
  refine L.nil (E.thenN (W.seqJ (fun gs D => gs = [(0, u0), (1, .int .i64 a1), (2, .int .i64 a2), (3, .int .i64 a3)] ∧ D = Cls w [] [.os []] ∧ m15_quirref_AskLock_K1 a0 a2 a1 a3 = some r) ?_ ?_))
  ·
   refine W.seq (W.region (L.y rfl (Y.move rfl) ?_))
   refine L.y rfl (Y.lenMZ (row := TLockItem.rowv) (vs := q0) (l := a0) Try.underlying23 rfl (fun w' hw => (hA0.up.clsF hK hw rfl))) ?_
   refine L.y rfl (Y.move rfl) ?_
   refine L.nil (E.thenN (W.block (W.loopJ (fun m gs D => ∃ (gx35 : Int), gs = [(0, u0), (1, .int .i64 a1), (2, .int .i64 a2), (3, .int .i64 a3), (19, u0), (20, .int .i64 (a0.length : Int)), (21, .int .i64 gx35)] ∧ D = Cls w [] [.os []] ∧ m15_quirref_AskLock_L2 a0 a1 a2 a3 m gx35 = some r) ⟨0, rfl, rfl, h⟩ ⟨rfl, rfl, rfl, rfl, rfl, rfl, rfl, trivial⟩ (fun _ hw => hw) ?_)))
   rintro m _ _ ⟨gx35, rfl, rfl, h⟩
   rcases m with _ | m
   · rw [m15_quirref_AskLock_L2] at h; cases h
   rw [m15_quirref_AskLock_L2] at h
   generalize hg2 : m15_quirref_AskLock_L2 a0 a1 a2 a3 m = go2 at h
   rw [m15_quirref_AskLock_L2B] at h
   refine W.seq (W.region (L.ite h rfl (Y.lss rfl rfl) (fun c64 h => ?_) (fun c64 h => ?_)))
   ·
    refine L.nil (E.thenN (W.seq (W.condT rfl ?_)))
    refine W.skip (E.thenN (W.seq (W.block (W.seq (W.region (L.m (V := fun _ => el u0 (gx35.toNat * 3)) h rfl (Y.indexMZ (row := TLockItem.rowv) (vs := q0) (l := a0) Try.underlying23 sz50 rfl rfl (fun w' hw => (hA0.up.clsF hK hw rfl))) (fun x65 ex65 h => ?_)))))))
    refine L.y rfl (Y.loadEN (r := [.int .i64 x65.Item, gv (q0 gx35.toNat) 0, gv (q0 gx35.toNat) 1]) ag50 sz50 rfl (fun w' hw => (hA0.up.clsF hK hw rfl)) (zr_idx (vs := q0) ex65) rfl) ?_
    refine L.alloc rfl ze50 ?_
    intro b66
    refine L.storeC (i := 0) sz50 rfl rfl rfl rfl (fun w hw => (all1 rfl (all1 (((FzA.at (sds := TLockItem.sds) (vs := q0) (j := 0) (nl := 2) hD0 (fun _ _ => rfl) ex65 rfl).up).clsF hK hw rfl).one (all1 (((FzA.at (sds := TLockItem.sds) (vs := q0) (j := 1) (nl := 2) hD0 (fun _ _ => rfl) ex65 rfl).up).clsF hK hw rfl).one all0)))) rfl (Nat.le_of_ble_eq_true rfl) ?_
    refine L.nil (E.thenN (W.seq (W.region (L.y rfl (Y.fieldP fd50_2 rfl) ?_))))
    refine L.y rfl (Y.loadP (i := 0) ag48 rfl rfl rfl) ?_
    refine L.y rfl (Y.move rfl) ?_
    obtain ⟨x67, e68, h⟩ := bind1S h
    refine L.y rfl (Y.does en37 rfl (fun w' hw => (w37_quirref_holds x65.Queue a1 (gv (q0 gx35.toNat) 1) w' _ e68 (((FzA.at (sds := TLockItem.sds) (vs := q0) (j := 1) (nl := 2) hD0 (fun _ _ => rfl) ex65 rfl).up).clsF hK hw rfl)).mono (fun _ _ h => h.1))) ?_
    refine L.ite h rfl (Y.gtr rfl rfl) (fun c69 h => ?_) (fun c69 h => ?_)
    ·
     refine L.nil (E.thenN (W.condT rfl ?_))
     refine W.seq (W.region (L.y rfl (Y.assign rfl) ?_))
     refine L.y rfl (Y.assign rfl) ?_
     refine L.y rfl (Y.assign rfl) ?_
     refine L.nil (E.thenN (W.ret (E.blockR (E.thenR (E.KLR (E.blockR (E.KSR (E.ret3 rfl rfl rfl rfl (fun w1 hw => ?_)))))))))
     obtain rfl := Option.some.inj h
     exact ⟨_, _, rfl, ⟨[], rfl, (.slice none 0 0), (fun _ => []), rfl, Fz.nil, FzA.nil⟩, hw.sel [1] (by decide) rfl⟩
    ·
     refine L.nil (E.thenN (W.condF rfl ?_))
     refine W.skip (E.blockN (E.thenN (W.region (L.m (V := fun x70 => .int .i64 x70) h rfl (Y.addM rfl rfl) (fun x70 ex70 h => ?_)))))
     refine L.y rfl (Y.move rfl) ?_
     exact L.nil (E.againJ ⟨x70, rfl, rfl, by rw [hg2]; exact h⟩ (Nat.lt_succ_self _) ⟨rfl, rfl, rfl, rfl, rfl, rfl, rfl, trivial⟩ (fun _ hw => hw.sel [1] (by decide) rfl))
   ·
    refine L.nil (E.thenN (W.seq (W.condF rfl ?_)))
    exact W.exit (E.thenX (E.KLX (E.blockX (E.joinJ ⟨rfl, rfl, h⟩ ⟨rfl, rfl, rfl, rfl, trivial⟩ (fun _ hw => hw)))))
  ·
   rintro _ _ ⟨rfl, rfl, h⟩
   rw [m15_quirref_AskLock_K1] at h
   refine W.seq (W.region (L.y rfl (Y.move rfl) ?_))
   refine L.y rfl (Y.move rfl) ?_
   refine L.y rfl (Y.build (cells := #[.int .i64 a1, .int .i64 a3]) rfl (by kernel_rfl)) ?_
   refine L.alloc rfl ze55 ?_
   intro b1
   refine L.store (i := 0) (vs := [.int .i64 a1, .int .i64 a3]) sz55 rfl rfl rfl rfl (by simp [Value.oneCell', Value.cells, st, pt, el]) rfl (Nat.le_of_ble_eq_true rfl) ?_
   refine L.nil (E.thenN (W.seq (W.region (L.y rfl (Y.assign rfl) ?_))))
   refine L.nil (E.thenN (W.seq (W.region (L.y rfl (Y.assign rfl) ?_))))
   refine L.y rfl (Y.assign rfl) ?_
   refine L.nil (E.thenN (W.seqJ (fun gs D => ∃ (gc1 : List Ob) (gv2 : Value) (gl3 : (List TLockItem)) (gq4 : Nat → List Value) (gu6 : Unit) (gb7 : Bool) (gb8 : Bool), gs = [(2, .int .i64 a2), (13, pt b1 0), (14, gv2), (15, .bool gb7), (16, .bool gb8)] ∧ D = Cls w [] [.obj b1 [.int .i64 a1, .int .i64 a3] 55, .sl gv2 50 3 (zr TLockItem.rowv gq4 gl3), .os gc1] ∧ FzA K gc1 (zs TLockItem.sds gq4 gl3) ∧ m15_quirref_AskLock_K2 a2 a1 a3 gl3 gb7 gb8 = some r) ?_ ?_))
   ·
    refine W.seq (W.region (L.y rfl (Y.move rfl) ?_))
    refine L.y rfl (Y.lenMZ (row := TLockItem.rowv) (vs := q0) (l := a0) Try.underlying23 rfl (fun w' hw => (hA0.up.clsF hK hw rfl))) ?_
    refine L.y rfl (Y.move rfl) ?_
    refine L.nil (E.thenN (W.block (W.nilSl 50 3 ?_)))
    refine W.loopJ (fun m gs D => ∃ (gc9 : List Ob) (gv10 : Value) (gl11 : (List TLockItem)) (gq12 : Nat → List Value) (gu14 : Unit) (gb15 : Bool) (gb16 : Bool) (gx17 : Int), gs = [(2, .int .i64 a2), (13, pt b1 0), (14, gv10), (15, .bool gb15), (16, .bool gb16), (34, u0), (35, .int .i64 (a0.length : Int)), (36, .int .i64 gx17)] ∧ D = Cls w [] [.obj b1 [.int .i64 a1, .int .i64 a3] 55, .sl gv10 50 3 (zr TLockItem.rowv gq12 gl11), .os gc9] ∧ FzA K gc9 (zs TLockItem.sds gq12 gl11) ∧ m15_quirref_AskLock_L1 a0 a2 a1 a3 m gl11 gb15 gb16 gx17 = some r) ⟨[], .slice none 0 0, [], (fun _ => []), (), false, false, 0, rfl, rfl, FzA.nil, h⟩ ⟨rfl, rfl, rfl, rfl, rfl, rfl, rfl, rfl, trivial⟩ (fun _ hw => hw.sel [1, 0, 2] (by decide) rfl) ?_
    rintro m _ _ ⟨gc9, gv10, gl11, gq12, gu14, gb15, gb16, gx17, rfl, rfl, hG13, h⟩
    rcases m with _ | m
    · rw [m15_quirref_AskLock_L1] at h; cases h
    rw [m15_quirref_AskLock_L1] at h
    generalize hg1 : m15_quirref_AskLock_L1 a0 a2 a1 a3 m = go1 at h
    rw [m15_quirref_AskLock_L1B] at h
    refine W.seq (W.region (L.ite h rfl (Y.lss rfl rfl) (fun c19 h => ?_) (fun c19 h => ?_)))
    ·
     refine L.nil (E.thenN (W.seq (W.condT rfl ?_)))
     refine W.skip (E.thenN (W.seq (W.block (W.seq (W.region (L.m (V := fun _ => el u0 (gx17.toNat * 3)) h rfl (Y.indexMZ (row := TLockItem.rowv) (vs := q0) (l := a0) Try.underlying23 sz50 rfl rfl (fun w' hw => (hA0.up.clsF hK hw rfl))) (fun x20 ex20 h => ?_)))))))
     refine L.y rfl (Y.loadEN (r := [.int .i64 x20.Item, gv (q0 gx17.toNat) 0, gv (q0 gx17.toNat) 1]) ag50 sz50 rfl (fun w' hw => (hA0.up.clsF hK hw rfl)) (zr_idx (vs := q0) ex20) rfl) ?_
     refine L.alloc rfl ze50 ?_
     intro b21
     refine L.storeC (i := 0) sz50 rfl rfl rfl rfl (fun w hw => (all1 rfl (all1 (((FzA.at (sds := TLockItem.sds) (vs := q0) (j := 0) (nl := 2) hD0 (fun _ _ => rfl) ex20 rfl).up).clsF hK hw rfl).one (all1 (((FzA.at (sds := TLockItem.sds) (vs := q0) (j := 1) (nl := 2) hD0 (fun _ _ => rfl) ex20 rfl).up).clsF hK hw rfl).one all0)))) rfl (Nat.le_of_ble_eq_true rfl) ?_
     refine L.nil (E.thenN (W.seqJ (fun gs D => ∃ (gc18 : List Ob) (gv19 : Value) (gl20 : (List TLockItem)) (gq21 : Nat → List Value) (gu23 : Unit) (gb24 : Bool) (gb25 : Bool) (gx26 : Int) (gv27 : Value) (gl28 : (List TLock)) (gu30 : Unit) (gv31 : Value) (gl32 : (List TLock)) (gu34 : Unit), gs = [(2, .int .i64 a2), (13, pt b1 0), (14, gv19), (15, .bool gb24), (16, .bool gb25), (18, pt b21 0), (34, u0), (35, .int .i64 (a0.length : Int)), (36, .int .i64 gx17)] ∧ D = Cls w [] [.obj b21 [.int .i64 gx26, gv27, gv31] 50, .obj b1 [.int .i64 a1, .int .i64 a3] 55, .sl gv19 50 3 (zr TLockItem.rowv gq21 gl20), .os gc18] ∧ FzA K gc18 (zs TLockItem.sds gq21 gl20) ∧ Fz K gc18 gv27 2 (gl28.map TLock.row) ∧ Fz K gc18 gv31 2 (gl32.map TLock.row) ∧ m15_quirref_AskLock_K3 gx17 go1 gl20 gb24 gb25 gx26 gl28 gl32 = some r) ?_ ?_))
     ·
      refine W.seq (W.region (L.iteB h rfl (Y.move rfl) (fun c38 h => ?_) (fun c38 h => ?_)))
      ·
       refine L.y rfl (Y.not rfl) ?_
       refine L.y rfl (Y.move rfl) ?_
       refine L.pass rfl rfl (by nofun) ?_
       refine L.pass rfl rfl (by nofun) ?_
       refine L.pass rfl rfl (by nofun) ?_
       refine L.pass rfl rfl (by nofun) ?_
       refine L.y rfl (Y.pickF rfl rfl) ?_
       refine L.nil (E.thenN (W.condF rfl ?_))
       exact W.skip (E.joinJ ⟨gc9, gv10, gl11, gq12, (), gb15, gb16, x20.Item, gv (q0 gx17.toNat) 0, x20.Held, (), gv (q0 gx17.toNat) 1, x20.Queue, (), rfl, rfl, hG13, (FzA.at (sds := TLockItem.sds) (vs := q0) (j := 0) (nl := 2) hD0 (fun _ _ => rfl) ex20 rfl).up, (FzA.at (sds := TLockItem.sds) (vs := q0) (j := 1) (nl := 2) hD0 (fun _ _ => rfl) ex20 rfl).up, h⟩ ⟨rfl, rfl, rfl, rfl, rfl, rfl, rfl, rfl, rfl, trivial⟩ (fun _ hw => hw))
      ·
       refine L.y rfl (Y.not rfl) ?_
       refine L.y rfl (Y.move rfl) ?_
       refine L.take rfl (L.y rfl (Y.fieldP fd50_0 rfl) ?_)
       refine L.take rfl (L.y rfl (Y.loadP (i := 0) ag3 rfl rfl rfl) ?_)
       refine L.take rfl (L.y rfl (Y.move rfl) ?_)
       refine L.take rfl (L.ite h rfl (Y.geq rfl rfl) (fun c39 h => ?_) (fun c39 h => ?_))
       ·
        refine L.y rfl (Y.pickT rfl rfl) ?_
        refine L.nil (E.thenN (W.condT rfl ?_))
        refine W.seq (W.region (L.y rfl (Y.assign rfl) ?_))
        refine L.nil (E.thenN (W.seq (W.region (L.y rfl (Y.fieldP fd50_0 rfl) ?_))))
        refine L.y rfl (Y.loadP (i := 0) ag3 rfl rfl rfl) ?_
        refine L.y rfl (Y.move rfl) ?_
        refine L.ite h rfl (Y.gtr rfl rfl) (fun c40 h => ?_) (fun c40 h => ?_)
        ·
         refine L.nil (E.thenN (W.condT rfl ?_))
         refine W.seq (W.region (L.y rfl (Y.move rfl) ?_))
         refine L.y rfl (Y.move rfl) ?_
         refine L.y rfl (Y.loadPW (i := 1) ag55 sz55 rfl rfl rfl) ?_
         refine L.litAgg rfl Try.underlying48 eL55 rfl rfl rfl ?_
         intro b41
         refine L.y rfl (Y.buildC (cells := #[.int .i64 a2, (sv b41 1), .slice none 0 0]) rfl (fun w hw => by rcases ((As.at_ (hw.get (i := 0) rfl))).shape with ⟨h0, _⟩ | ⟨_, _, h0, _, _⟩ <;> simp only [h0] <;> kernel_rfl)) ?_
         refine L.frz (i := 0) rfl rfl rfl ?_
         intro c43 mo44 hf45
         refine L.litAgg rfl Try.underlying23 eL50 rfl rfl rfl ?_
         intro b46
         have hz47 : FzA K c43 (zs TLockItem.sds (fun _ => [(sv b41 1), .slice none 0 0]) [(⟨a2, [(⟨a1, a3⟩ : TLock)], []⟩ : TLockItem)]) := FzA.app (FzA.cons (hf45 K) (FzA.cons Fz.nil FzA.nil)) FzA.nil
         refine L.to (D := Cls w [] [.sl (sv b46 1) 50 3 (zr TLockItem.rowv (fun _ => [(sv b41 1), .slice none 0 0]) ([(⟨a2, [(⟨a1, a3⟩ : TLock)], []⟩ : TLockItem)])), .obj b21 [.int .i64 x20.Item, gv (q0 gx17.toNat) 0, gv (q0 gx17.toNat) 1] 50, .obj b1 [.int .i64 a1, .int .i64 a3] 55, .sl gv10 50 3 (zr TLockItem.rowv gq12 gl11), .os c43]) (fun _ hw => hw) ?_
         refine L.appHz (i := 3) (row := TLockItem.rowv) (sds := TLockItem.sds) (vs := gq12) (vs2 := (fun _ => [(sv b41 1), .slice none 0 0])) (l := gl11) (l2 := [(⟨a2, [(⟨a1, a3⟩ : TLock)], []⟩ : TLockItem)]) h rfl Try.underlying23 eL50 rfl rfl rfl rfl (fun w hw => As.at_ (hw.get (i := 0) rfl)) plz_TLockItem hK rfl (hG13.mo mo44) hz47 ?_
         intro v49 q50 l48 el48 h hz51
         refine L.y rfl (Y.assign rfl) ?_
         refine L.nil (E.thenN (W.region (L.y rfl (Y.assign rfl) ?_)))
         exact L.nil (E.joinJ ⟨c43, v49, l48, q50, (), true, true, x20.Item, gv (q0 gx17.toNat) 0, x20.Held, (), gv (q0 gx17.toNat) 1, x20.Queue, (), rfl, rfl, hz51, (FzA.at (sds := TLockItem.sds) (vs := q0) (j := 0) (nl := 2) hD0 (fun _ _ => rfl) ex20 rfl).up, (FzA.at (sds := TLockItem.sds) (vs := q0) (j := 1) (nl := 2) hD0 (fun _ _ => rfl) ex20 rfl).up, h⟩ ⟨rfl, rfl, rfl, rfl, rfl, rfl, rfl, rfl, rfl, trivial⟩ (fun _ hw => hw.sel [2, 3, 0, 4] (by decide) rfl))
        ·
         refine L.nil (E.thenN (W.condF rfl ?_))
         refine W.region (L.y rfl (Y.loadPW (i := 0) ag50 sz50 rfl rfl rfl) ?_)
         refine L.y rfl (Y.loadPW (i := 1) ag55 sz55 rfl rfl rfl) ?_
         obtain ⟨x52, b57, e58, h⟩ := bind2S h
         refine L.doesF rfl en46 rfl rfl hK (fun w' hw hs => w46_quirref_asked x20 (⟨a1, a3⟩ : TLock) (gv (q0 gx17.toNat) 0) (gv (q0 gx17.toNat) 1) _ w' hs _ e58 ((FzA.at (sds := TLockItem.sds) (vs := q0) (j := 0) (nl := 2) hD0 (fun _ _ => rfl) ex20 rfl).up).tok ((FzA.at (sds := TLockItem.sds) (vs := q0) (j := 1) (nl := 2) hD0 (fun _ _ => rfl) ex20 rfl).up).tok) ?_
         rintro _ c59 c60 mo61 mn62 ma63 ⟨v53, v55, rfl, f54, f56⟩
         refine L.y rfl (Y.move rfl) ?_
         refine L.y rfl (Y.extract rfl rfl) ?_
         refine L.y rfl (Y.extract rfl rfl) ?_
         refine L.storeC (i := 0) sz50 rfl rfl rfl rfl (fun w hw => (all1 rfl (all1 ((mn62 f54).clsF hK hw rfl).one (all1 ((mn62 f56).clsF hK hw rfl).one all0)))) rfl (Nat.le_of_ble_eq_true rfl) ?_
         refine L.y rfl (Y.assign rfl) ?_
         exact L.nil (E.joinJ ⟨c60, gv10, gl11, gq12, (), true, b57, x52.Item, v53, x52.Held, (), v55, x52.Queue, (), rfl, rfl, (hG13.mo mo61), (mn62 f54), (mn62 f56), h⟩ ⟨rfl, rfl, rfl, rfl, rfl, rfl, rfl, rfl, rfl, trivial⟩ (fun _ hw => hw))
       ·
        refine L.y rfl (Y.pickT rfl rfl) ?_
        refine L.nil (E.thenN (W.condF rfl ?_))
        exact W.skip (E.joinJ ⟨gc9, gv10, gl11, gq12, (), gb15, gb16, x20.Item, gv (q0 gx17.toNat) 0, x20.Held, (), gv (q0 gx17.toNat) 1, x20.Queue, (), rfl, rfl, hG13, (FzA.at (sds := TLockItem.sds) (vs := q0) (j := 0) (nl := 2) hD0 (fun _ _ => rfl) ex20 rfl).up, (FzA.at (sds := TLockItem.sds) (vs := q0) (j := 1) (nl := 2) hD0 (fun _ _ => rfl) ex20 rfl).up, h⟩ ⟨rfl, rfl, rfl, rfl, rfl, rfl, rfl, rfl, rfl, trivial⟩ (fun _ hw => hw))
     ·
      rintro _ _ ⟨gc18, gv19, gl20, gq21, gu23, gb24, gb25, gx26, gv27, gl28, gu30, gv31, gl32, gu34, rfl, rfl, hG22, hG29, hG33, h⟩
      rw [m15_quirref_AskLock_K3] at h
      rcases gb24 with _ | _
      ·
       replace h := iteF h
       refine W.region (L.y rfl (Y.move rfl) ?_)
       refine L.y rfl (Y.loadPW (i := 0) ag50 sz50 rfl rfl rfl) ?_
       refine L.litAgg rfl Try.underlying23 eL50 rfl rfl rfl ?_
       intro b23
       have hz24 : FzA K gc18 (zs TLockItem.sds (fun _ => [gv27, gv31]) [(⟨gx26, gl28, gl32⟩ : TLockItem)]) := FzA.app (FzA.cons hG29 (FzA.cons hG33 FzA.nil)) FzA.nil
       refine L.to (D := Cls w [] [.sl (sv b23 1) 50 3 (zr TLockItem.rowv (fun _ => [gv27, gv31]) ([(⟨gx26, gl28, gl32⟩ : TLockItem)])), .obj b21 [.int .i64 gx26, gv27, gv31] 50, .obj b1 [.int .i64 a1, .int .i64 a3] 55, .sl gv19 50 3 (zr TLockItem.rowv gq21 gl20), .os gc18]) (fun _ hw => hw) ?_
       refine L.appHz (i := 3) (row := TLockItem.rowv) (sds := TLockItem.sds) (vs := gq21) (vs2 := (fun _ => [gv27, gv31])) (l := gl20) (l2 := [(⟨gx26, gl28, gl32⟩ : TLockItem)]) h rfl Try.underlying23 eL50 rfl rfl rfl rfl (fun w hw => As.at_ (hw.get (i := 0) rfl)) plz_TLockItem hK rfl hG22 hz24 ?_
       intro v26 q27 l25 el25 h hz28
       refine L.y rfl (Y.assign rfl) ?_
       refine L.nil (E.blockN (E.thenN (W.region (L.m (V := fun x29 => .int .i64 x29) h rfl (Y.addM rfl rfl) (fun x29 ex29 h => ?_)))))
       refine L.y rfl (Y.move rfl) ?_
       exact L.nil (E.againJ ⟨gc18, v26, l25, q27, (), false, gb25, x29, rfl, rfl, hz28, by rw [hg1]; exact h⟩ (Nat.lt_succ_self _) ⟨rfl, rfl, rfl, rfl, rfl, rfl, rfl, rfl, trivial⟩ (fun _ hw => hw.sel [3, 0, 4] (by decide) rfl))
      ·
       replace h := iteT h
       refine W.region (L.y rfl (Y.move rfl) ?_)
       refine L.y rfl (Y.loadPW (i := 0) ag50 sz50 rfl rfl rfl) ?_
       refine L.litAgg rfl Try.underlying23 eL50 rfl rfl rfl ?_
       intro b31
       have hz32 : FzA K gc18 (zs TLockItem.sds (fun _ => [gv27, gv31]) [(⟨gx26, gl28, gl32⟩ : TLockItem)]) := FzA.app (FzA.cons hG29 (FzA.cons hG33 FzA.nil)) FzA.nil
       refine L.to (D := Cls w [] [.sl (sv b31 1) 50 3 (zr TLockItem.rowv (fun _ => [gv27, gv31]) ([(⟨gx26, gl28, gl32⟩ : TLockItem)])), .obj b21 [.int .i64 gx26, gv27, gv31] 50, .obj b1 [.int .i64 a1, .int .i64 a3] 55, .sl gv19 50 3 (zr TLockItem.rowv gq21 gl20), .os gc18]) (fun _ hw => hw) ?_
       refine L.appHz (i := 3) (row := TLockItem.rowv) (sds := TLockItem.sds) (vs := gq21) (vs2 := (fun _ => [gv27, gv31])) (l := gl20) (l2 := [(⟨gx26, gl28, gl32⟩ : TLockItem)]) h rfl Try.underlying23 eL50 rfl rfl rfl rfl (fun w hw => As.at_ (hw.get (i := 0) rfl)) plz_TLockItem hK rfl hG22 hz32 ?_
       intro v34 q35 l33 el33 h hz36
       refine L.y rfl (Y.assign rfl) ?_
       refine L.nil (E.blockN (E.thenN (W.region (L.m (V := fun x37 => .int .i64 x37) h rfl (Y.addM rfl rfl) (fun x37 ex37 h => ?_)))))
       refine L.y rfl (Y.move rfl) ?_
       exact L.nil (E.againJ ⟨gc18, v34, l33, q35, (), true, gb25, x37, rfl, rfl, hz36, by rw [hg1]; exact h⟩ (Nat.lt_succ_self _) ⟨rfl, rfl, rfl, rfl, rfl, rfl, rfl, rfl, trivial⟩ (fun _ hw => hw.sel [3, 0, 4] (by decide) rfl))
    ·
     refine L.nil (E.thenN (W.seq (W.condF rfl ?_)))
     exact W.exit (E.thenX (E.KLX (E.blockX (E.joinJ ⟨gc9, gv10, gl11, gq12, (), gb15, gb16, rfl, rfl, hG13, h⟩ ⟨rfl, rfl, rfl, rfl, rfl, trivial⟩ (fun _ hw => hw)))))
   ·
    rintro _ _ ⟨gc1, gv2, gl3, gq4, gu6, gb7, gb8, rfl, rfl, hG5, h⟩
    rw [m15_quirref_AskLock_K2] at h
    rcases gb7 with _ | _
    ·
     replace h := iteF h
     refine W.seq (W.seq (W.region (L.y rfl (Y.move rfl) ?_)))
     refine L.y rfl (Y.not rfl) ?_
     refine L.nil (E.thenN (W.condT rfl ?_))
     refine W.seq (W.region (L.y rfl (Y.move rfl) ?_))
     refine L.y rfl (Y.move rfl) ?_
     refine L.y rfl (Y.loadPW (i := 0) ag55 sz55 rfl rfl rfl) ?_
     refine L.litAgg rfl Try.underlying48 eL55 rfl rfl rfl ?_
     intro b2
     refine L.y rfl (Y.buildC (cells := #[.int .i64 a2, (sv b2 1), .slice none 0 0]) rfl (fun w hw => by rcases ((As.at_ (hw.get (i := 0) rfl))).shape with ⟨h0, _⟩ | ⟨_, _, h0, _, _⟩ <;> simp only [h0] <;> kernel_rfl)) ?_
     refine L.frz (i := 0) rfl rfl rfl ?_
     intro c4 mo5 hf6
     refine L.litAgg rfl Try.underlying23 eL50 rfl rfl rfl ?_
     intro b7
     have hz8 : FzA K c4 (zs TLockItem.sds (fun _ => [(sv b2 1), .slice none 0 0]) [(⟨a2, [(⟨a1, a3⟩ : TLock)], []⟩ : TLockItem)]) := FzA.app (FzA.cons (hf6 K) (FzA.cons Fz.nil FzA.nil)) FzA.nil
     refine L.to (D := Cls w [] [.sl (sv b7 1) 50 3 (zr TLockItem.rowv (fun _ => [(sv b2 1), .slice none 0 0]) ([(⟨a2, [(⟨a1, a3⟩ : TLock)], []⟩ : TLockItem)])), .obj b1 [.int .i64 a1, .int .i64 a3] 55, .sl gv2 50 3 (zr TLockItem.rowv gq4 gl3), .os c4]) (fun _ hw => hw) ?_
     refine L.appHz (i := 2) (row := TLockItem.rowv) (sds := TLockItem.sds) (vs := gq4) (vs2 := (fun _ => [(sv b2 1), .slice none 0 0])) (l := gl3) (l2 := [(⟨a2, [(⟨a1, a3⟩ : TLock)], []⟩ : TLockItem)]) h rfl Try.underlying23 eL50 rfl rfl rfl rfl (fun w hw => As.at_ (hw.get (i := 0) rfl)) plz_TLockItem hK rfl (hG5.mo mo5) hz8 ?_
     intro v10 q11 l9 el9 h hz12
     refine L.y rfl (Y.assign rfl) ?_
     refine L.y rfl (Y.assign rfl) ?_
     refine L.y rfl (Y.assign rfl) ?_
     refine L.nil (E.thenN (W.ret (E.thenR (E.frz (i := 0) rfl rfl rfl ?_))))
     intro c13 mo14 hf15
     refine E.ret3 rfl rfl rfl rfl (fun w1 hw => ?_)
     obtain rfl := Option.some.inj h
     exact ⟨_, _, rfl, ⟨c13, rfl, v10, q11, rfl, (hf15 K), (hz12.mo mo14)⟩, hw.sel [2] (by decide) rfl⟩
    ·
     replace h := iteT h
     refine W.seq (W.seq (W.region (L.y rfl (Y.move rfl) ?_)))
     refine L.y rfl (Y.not rfl) ?_
     refine L.nil (E.thenN (W.condF rfl ?_))
     refine W.skip (E.thenN (W.seq (W.region (L.y rfl (Y.move rfl) ?_))))
     refine L.y rfl (Y.move rfl) ?_
     refine L.y rfl (Y.assign rfl) ?_
     refine L.y rfl (Y.assign rfl) ?_
     refine L.y rfl (Y.assign rfl) ?_
     refine L.nil (E.thenN (W.ret (E.frz (i := 1) rfl rfl rfl ?_)))
     intro c16 mo17 hf18
     refine E.ret3 rfl rfl rfl rfl (fun w1 hw => ?_)
     obtain rfl := Option.some.inj h
     exact ⟨_, _, rfl, ⟨c16, rfl, gv2, gq4, rfl, (hf18 K), (hG5.mo mo17)⟩, hw.sel [1] (by decide) rfl⟩
set_option maxRecDepth 100000 in
set_option maxHeartbeats 8000000 in
theorem w4_quirlaw_LockPlays (a0 : (List TOp)) (u0 : Value) (K : World → Prop) (w : World) (hK : Stb K w) (r : Bool) (h : m4_quirlaw_LockPlays a0 = some r) (hA0 : Fz K [] u0 3 (a0.map TOp.row)) : Does Try.prog 4 [u0] w fun u m => u = .bool r ∧ m = [] := by
  rw [m4_quirlaw_LockPlays] at h
  refine body (n := 137) Try.func4 rfl rfl rfl (Cls.reflF w) ?_
  refine W.seq (W.region (L.y rfl (Y.assign rfl) ?_))
  refine L.nil (E.thenN (W.seq (W.region (L.y rfl (Y.assign rfl) ?_))))
  refine L.y rfl (Y.assign rfl) ?_
  refine L.nil (E.thenN (W.seqJ (fun gs D => ∃ (gc1 : List Ob) (gv2 : Value) (gl3 : (List TLockItem)) (gq4 : Nat → List Value) (gu6 : Unit) (gu8 : Unit), gs = [(3, gv2)] ∧ D = Cls w [] [.os gc1] ∧ Fz K gc1 gv2 3 (zr TLockItem.rowv gq4 gl3) ∧ FzA K gc1 (zs TLockItem.sds gq4 gl3) ∧ m4_quirlaw_LockPlays_K1 gl3 = some r) ?_ ?_))
  ·
   refine W.seq (W.region (L.y rfl (Y.move rfl) ?_))
   refine L.y rfl (Y.lenM (g := TOp.row) (l := a0) Try.underlying43 rfl (fun w' hw => (hA0.up.clsF hK hw rfl))) ?_
   refine L.y rfl (Y.move rfl) ?_
   refine L.nil (E.thenN (W.block (W.loopJ (fun m gs D => ∃ (gc9 : List Ob) (gv10 : Value) (gl11 : (List TLockItem)) (gq12 : Nat → List Value) (gu14 : Unit) (gu16 : Unit) (gv17 : Value) (gl18 : (List TLockItem)) (gq19 : Nat → List Value) (gu21 : Unit) (gu23 : Unit) (gx24 : Int), gs = [(3, gv10), (4, gv17), (19, u0), (20, .int .i64 (a0.length : Int)), (21, .int .i64 gx24)] ∧ D = Cls w [] [.os gc9] ∧ Fz K gc9 gv10 3 (zr TLockItem.rowv gq12 gl11) ∧ FzA K gc9 (zs TLockItem.sds gq12 gl11) ∧ Fz K gc9 gv17 3 (zr TLockItem.rowv gq19 gl18) ∧ FzA K gc9 (zs TLockItem.sds gq19 gl18) ∧ m4_quirlaw_LockPlays_L1 a0 m gl11 gl18 gx24 = some r) ⟨[], .slice none 0 0, [], (fun _ => []), (), (), .slice none 0 0, [], (fun _ => []), (), (), 0, rfl, rfl, Fz.nil, FzA.nil, Fz.nil, FzA.nil, h⟩ ⟨rfl, rfl, rfl, rfl, rfl, trivial⟩ (fun _ hw => hw) ?_)))
   rintro m _ _ ⟨gc9, gv10, gl11, gq12, gu14, gu16, gv17, gl18, gq19, gu21, gu23, gx24, rfl, rfl, hG13, hG15, hG20, hG22, h⟩
   rcases m with _ | m
   · rw [m4_quirlaw_LockPlays_L1] at h; cases h
   rw [m4_quirlaw_LockPlays_L1] at h
   generalize hg1 : m4_quirlaw_LockPlays_L1 a0 m = go1 at h
   rw [m4_quirlaw_LockPlays_L1B] at h
   refine W.seq (W.region (L.ite h rfl (Y.lss rfl rfl) (fun c3 h => ?_) (fun c3 h => ?_)))
   ·
    refine L.nil (E.thenN (W.seq (W.condT rfl ?_)))
    refine W.skip (E.thenN (W.seqJ (fun gs D => ∃ (gc25 : List Ob) (gv26 : Value) (gl27 : (List TLockItem)) (gq28 : Nat → List Value) (gu30 : Unit) (gu32 : Unit) (gv33 : Value) (gl34 : (List TLockItem)) (gq35 : Nat → List Value) (gu37 : Unit) (gu39 : Unit), gs = [(3, gv26), (4, gv33), (19, u0), (20, .int .i64 (a0.length : Int)), (21, .int .i64 gx24)] ∧ D = Cls w [] [.os gc25] ∧ Fz K gc25 gv26 3 (zr TLockItem.rowv gq28 gl27) ∧ FzA K gc25 (zs TLockItem.sds gq28 gl27) ∧ Fz K gc25 gv33 3 (zr TLockItem.rowv gq35 gl34) ∧ FzA K gc25 (zs TLockItem.sds gq35 gl34) ∧ m4_quirlaw_LockPlays_K2 gx24 go1 gl27 gl34 = some r) ?_ ?_))
    ·
     refine W.block (W.seq (W.region (L.m (V := fun _ => el u0 (gx24.toNat * 3)) h rfl (Y.indexM (g := TOp.row) (l := a0) Try.underlying43 sz45 rfl rfl (fun w' hw => (hA0.up.clsF hK hw rfl))) (fun x5 ex5 h => ?_))))
     refine L.y rfl (Y.loadEN (r := [.int .i64 x5.Tx, .int .i64 x5.Kind, .int .i64 x5.Item]) ag45 sz45 rfl (fun w' hw => (hA0.up.clsF hK hw rfl)) (idx_map ex5) rfl) ?_
     refine L.alloc rfl ze45 ?_
     intro b6
     refine L.store (i := 0) (vs := [.int .i64 x5.Tx, .int .i64 x5.Kind, .int .i64 x5.Item]) sz45 rfl rfl rfl rfl (by simp [Value.oneCell', Value.cells, st, pt, el]) rfl (Nat.le_of_ble_eq_true rfl) ?_
     refine L.nil (E.thenN (W.seqJ (fun gs D => gs = [(3, gv10), (4, gv17), (6, pt b6 0), (19, u0), (20, .int .i64 (a0.length : Int)), (21, .int .i64 gx24)] ∧ D = Cls w [] [.obj b6 [.int .i64 x5.Tx, .int .i64 x5.Kind, .int .i64 x5.Item] 45, .os gc9] ∧ m4_quirlaw_LockPlays_K3 x5 gl11 gx24 go1 gl18 = some r) ?_ ?_))
     ·
      refine W.seq (W.region (L.y rfl (Y.fieldP fd45_1 rfl) ?_))
      refine L.y rfl (Y.loadP (i := 0) ag3 rfl rfl rfl) ?_
      refine L.ite h rfl (Y.eql rfl rfl) (fun c48 h => ?_) (fun c48 h => ?_)
      ·
       refine L.nil (E.thenN (W.condT rfl ?_))
       refine W.seq (W.region (L.y rfl (Y.move rfl) ?_))
       refine L.y rfl (Y.fieldP fd45_0 rfl) ?_
       refine L.y rfl (Y.loadP (i := 0) ag3 rfl rfl rfl) ?_
       obtain ⟨l49, l54, x57, e58, h⟩ := bind3S h
       refine L.doesF rfl en7 rfl rfl hK (fun w' hw hs => w7_lock_Drop gl11 x5.Tx gv10 gq12 _ w' hs _ e58 hG13.tok hG15.tok) ?_
       rintro _ c59 c60 mo61 mn62 ma63 ⟨v50, q52, v55, rfl, f51, f53, f56⟩
       refine L.y rfl (Y.move rfl) ?_
       refine L.y rfl (Y.extract rfl rfl) ?_
       refine L.y rfl (Y.extract rfl rfl) ?_
       refine L.y rfl (Y.extract rfl rfl) ?_
       refine L.y rfl (Y.assign rfl) ?_
       refine L.y rfl (Y.assign rfl) ?_
       refine L.y rfl (Y.assign rfl) ?_
       refine L.nil (E.thenN (W.seqJ (fun gs D => gs = [(4, gv17), (6, pt b6 0), (7, v50), (8, v55), (9, .int .i64 x57), (19, u0), (20, .int .i64 (a0.length : Int)), (21, .int .i64 gx24)] ∧ D = Cls w [] [.obj b6 [.int .i64 x5.Tx, .int .i64 x5.Kind, .int .i64 x5.Item] 45, .os c60] ∧ m4_quirlaw_LockPlays_K7 gl18 x5 x57 l54 gx24 go1 l49 = some r) ?_ ?_))
       ·
        refine W.seq (W.region (L.y rfl (Y.fieldP fd45_0 rfl) ?_))
        refine L.y rfl (Y.loadP (i := 0) ag3 rfl rfl rfl) ?_
        refine L.ite h rfl (Y.lss rfl rfl) (fun c83 h => ?_) (fun c83 h => ?_)
        ·
         refine L.y rfl (Y.move rfl) ?_
         refine L.pass rfl rfl (by nofun) ?_
         refine L.pass rfl rfl (by nofun) ?_
         refine L.pass rfl rfl (by nofun) ?_
         refine L.y rfl (Y.pickT rfl rfl) ?_
         refine L.nil (E.thenN (W.condT rfl ?_))
         refine W.seq (W.seq (W.region (L.y rfl (Y.move rfl) ?_)))
         refine L.ite h rfl (Y.neq rfl rfl) (fun c84 h => ?_) (fun c84 h => ?_)
         ·
          refine L.nil (E.thenN (W.condT rfl ?_))
          refine W.seq (W.region (L.y rfl (Y.assign rfl) ?_))
          refine L.nil (E.thenN (W.ret (E.thenR (E.KSR (E.KSR (E.blockR (E.KSR (E.KLR (E.blockR (E.KSR (E.ret1 rfl rfl (fun w1 hw => ?_))))))))))))
          obtain rfl := Option.some.inj h
          exact ⟨_, _, rfl, ⟨rfl, rfl⟩, hw.sel [] (by decide) rfl⟩
         ·
          refine L.nil (E.thenN (W.condF rfl ?_))
          exact W.skip (E.thenN (W.exit (E.KSX (E.KSX (E.blockX (E.joinJ ⟨c60, gv10, gl11, gq12, (), (), gv17, gl18, gq19, (), (), rfl, rfl, (hG13.mo mo61), (hG15.mo mo61), (hG20.mo mo61), (hG22.mo mo61), h⟩ ⟨rfl, rfl, rfl, rfl, rfl, trivial⟩ (fun _ hw => hw.sel [1] (by decide) rfl)))))))
        ·
         refine L.y rfl (Y.move rfl) ?_
         refine L.take rfl (L.y rfl (Y.fieldP fd45_0 rfl) ?_)
         refine L.take rfl (L.y rfl (Y.loadP (i := 0) ag3 rfl rfl rfl) ?_)
         refine L.take rfl (L.ite h rfl (Y.gtr rfl rfl) (fun c85 h => ?_) (fun c85 h => ?_))
         ·
          refine L.y rfl (Y.pickF rfl rfl) ?_
          refine L.nil (E.thenN (W.condT rfl ?_))
          refine W.seq (W.seq (W.region (L.y rfl (Y.move rfl) ?_)))
          refine L.ite h rfl (Y.neq rfl rfl) (fun c86 h => ?_) (fun c86 h => ?_)
          ·
           refine L.nil (E.thenN (W.condT rfl ?_))
           refine W.seq (W.region (L.y rfl (Y.assign rfl) ?_))
           refine L.nil (E.thenN (W.ret (E.thenR (E.KSR (E.KSR (E.blockR (E.KSR (E.KLR (E.blockR (E.KSR (E.ret1 rfl rfl (fun w1 hw => ?_))))))))))))
           obtain rfl := Option.some.inj h
           exact ⟨_, _, rfl, ⟨rfl, rfl⟩, hw.sel [] (by decide) rfl⟩
          ·
           refine L.nil (E.thenN (W.condF rfl ?_))
           exact W.skip (E.thenN (W.exit (E.KSX (E.KSX (E.blockX (E.joinJ ⟨c60, gv10, gl11, gq12, (), (), gv17, gl18, gq19, (), (), rfl, rfl, (hG13.mo mo61), (hG15.mo mo61), (hG20.mo mo61), (hG22.mo mo61), h⟩ ⟨rfl, rfl, rfl, rfl, rfl, trivial⟩ (fun _ hw => hw.sel [1] (by decide) rfl)))))))
         ·
          refine L.y rfl (Y.pickF rfl rfl) ?_
          refine L.nil (E.thenN (W.condF rfl ?_))
          exact W.skip (E.joinJ ⟨rfl, rfl, h⟩ ⟨rfl, rfl, rfl, rfl, rfl, rfl, rfl, rfl, trivial⟩ (fun _ hw => hw))
       ·
        rintro _ _ ⟨rfl, rfl, h⟩
        rw [m4_quirlaw_LockPlays_K7] at h
        refine W.seq (W.region (L.y rfl (Y.move rfl) ?_))
        refine L.y rfl (Y.fieldP fd45_0 rfl) ?_
        refine L.y rfl (Y.loadP (i := 0) ag3 rfl rfl rfl) ?_
        obtain ⟨l64, l69, e72, h⟩ := bind2S h
        refine L.doesF rfl en12 rfl rfl hK (fun w' hw hs => w12_quirref_DropLocks gl18 x5.Tx gv17 gq19 _ w' hs _ e72 (hG20.mo mo61).tok (hG22.mo mo61).tok) ?_
        rintro _ c73 c74 mo75 mn76 ma77 ⟨v65, q67, v70, rfl, f66, f68, f71⟩
        refine L.y rfl (Y.move rfl) ?_
        refine L.y rfl (Y.extract rfl rfl) ?_
        refine L.y rfl (Y.extract rfl rfl) ?_
        refine L.y rfl (Y.assign rfl) ?_
        refine L.y rfl (Y.assign rfl) ?_
        refine L.nil (E.thenN (W.seq (W.seq (W.region (L.cutJ 8 (fun gs D => ∃ (gb42 : Bool), gs = [(7, v50), (8, v55), (10, v65), (11, v70), (19, u0), (20, .int .i64 (a0.length : Int)), (21, .int .i64 gx24), (60, .bool gb42)] ∧ D = Cls w [] [.os c74] ∧ m4_quirlaw_LockPlays_K8 l54 l69 gx24 go1 l49 l64 gb42 = some r) ?_ ?_)))))
        ·
         refine L.y rfl (Y.move rfl) ?_
         refine L.ite h rfl (Y.neq rfl rfl) (fun c80 h => ?_) (fun c80 h => ?_)
         ·
          refine L.y rfl (Y.move rfl) ?_
          refine L.pass rfl rfl (by nofun) ?_
          refine L.pass rfl rfl (by nofun) ?_
          refine L.pass rfl rfl (by nofun) ?_
          refine L.pass rfl rfl (by nofun) ?_
          refine L.y rfl (Y.pickT rfl rfl) ?_
          exact L.nil (E.joinJ ⟨true, rfl, rfl, h⟩ ⟨rfl, rfl, rfl, rfl, rfl, rfl, rfl, rfl, trivial⟩ (fun _ hw => hw.sel [1] (by decide) rfl))
         ·
          refine L.y rfl (Y.move rfl) ?_
          refine L.take rfl (L.y rfl (Y.move rfl) ?_)
          refine L.take rfl (L.y rfl (Y.move rfl) ?_)
          refine L.take rfl ?_
          obtain ⟨b81, e82, h⟩ := bind1S h
          refine L.y rfl (Y.does en13 rfl (fun w' hw => (w13_quirref_SameLocks l49 l64 v50 q52 v65 q67 w' _ e82 (((mn62 f51).mo mo75).clsF hK hw rfl) (((ma63 f53).mo mo75).clsF hK hw rfl) ((mn76 f66).clsF hK hw rfl) ((ma77 f68).clsF hK hw rfl)).mono (fun _ _ h => h.1))) ?_
          rcases b81 with _ | _
          ·
           replace h := iteF h
           refine L.take rfl (L.y rfl (Y.not rfl) ?_)
           refine L.y rfl (Y.pickF rfl rfl) ?_
           exact L.nil (E.joinJ ⟨true, rfl, rfl, h⟩ ⟨rfl, rfl, rfl, rfl, rfl, rfl, rfl, rfl, trivial⟩ (fun _ hw => hw.sel [1] (by decide) rfl))
          ·
           replace h := iteT h
           refine L.take rfl (L.y rfl (Y.not rfl) ?_)
           refine L.y rfl (Y.pickF rfl rfl) ?_
           exact L.nil (E.joinJ ⟨false, rfl, rfl, h⟩ ⟨rfl, rfl, rfl, rfl, rfl, rfl, rfl, rfl, trivial⟩ (fun _ hw => hw.sel [1] (by decide) rfl))
        ·
         rintro _ _ ⟨gb42, rfl, rfl, h⟩
         rw [m4_quirlaw_LockPlays_K8] at h
         rcases gb42 with _ | _
         ·
          replace h := iteF h
          refine L.y rfl (Y.move rfl) ?_
          refine L.take rfl (L.y rfl (Y.move rfl) ?_)
          refine L.take rfl (L.y rfl (Y.move rfl) ?_)
          refine L.take rfl ?_
          obtain ⟨b78, e79, h⟩ := bind1S h
          refine L.y rfl (Y.does en14 rfl (fun w' hw => (w14_slices_Equal_int l54 l69 v55 v70 w' _ e79 (((mn62 f56).mo mo75).clsF hK hw rfl) ((mn76 f71).clsF hK hw rfl)).mono (fun _ _ h => h.1))) ?_
          rcases b78 with _ | _
          ·
           replace h := iteF h
           refine L.take rfl (L.y rfl (Y.not rfl) ?_)
           refine L.y rfl (Y.pickF rfl rfl) ?_
           refine L.nil (E.thenN (W.condT rfl ?_))
           refine W.seq (W.region (L.y rfl (Y.assign rfl) ?_))
           refine L.nil (E.thenN (W.ret (E.thenR (E.KSR (E.blockR (E.KSR (E.KLR (E.blockR (E.KSR (E.ret1 rfl rfl (fun w1 hw => ?_)))))))))))
           obtain rfl := Option.some.inj h
           exact ⟨_, _, rfl, ⟨rfl, rfl⟩, hw.sel [] (by decide) rfl⟩
          ·
           replace h := iteT h
           refine L.take rfl (L.y rfl (Y.not rfl) ?_)
           refine L.y rfl (Y.pickF rfl rfl) ?_
           refine L.nil (E.thenN (W.condF rfl ?_))
           refine W.skip (E.thenN (W.seq (W.region (L.y rfl (Y.move rfl) ?_))))
           refine L.y rfl (Y.move rfl) ?_
           refine L.y rfl (Y.assign rfl) ?_
           refine L.y rfl (Y.assign rfl) ?_
           exact L.nil (E.thenN (W.exit (E.KSX (E.blockX (E.joinJ ⟨c74, v50, l49, q52, (), (), v65, l64, q67, (), (), rfl, rfl, ((mn62 f51).mo mo75), ((ma63 f53).mo mo75), (mn76 f66), (ma77 f68), h⟩ ⟨rfl, rfl, rfl, rfl, rfl, trivial⟩ (fun _ hw => hw))))))
         ·
          replace h := iteT h
          refine L.y rfl (Y.move rfl) ?_
          refine L.pass rfl rfl (by nofun) ?_
          refine L.pass rfl rfl (by nofun) ?_
          refine L.pass rfl rfl (by nofun) ?_
          refine L.pass rfl rfl (by nofun) ?_
          refine L.y rfl (Y.pickT rfl rfl) ?_
          refine L.nil (E.thenN (W.condT rfl ?_))
          refine W.seq (W.region (L.y rfl (Y.assign rfl) ?_))
          refine L.nil (E.thenN (W.ret (E.thenR (E.KSR (E.blockR (E.KSR (E.KLR (E.blockR (E.KSR (E.ret1 rfl rfl (fun w1 hw => ?_)))))))))))
          obtain rfl := Option.some.inj h
          exact ⟨_, _, rfl, ⟨rfl, rfl⟩, hw.sel [] (by decide) rfl⟩
      ·
       refine L.nil (E.thenN (W.condF rfl ?_))
       exact W.skip (E.joinJ ⟨rfl, rfl, h⟩ ⟨rfl, rfl, rfl, rfl, rfl, rfl, trivial⟩ (fun _ hw => hw))
     ·
      rintro _ _ ⟨rfl, rfl, h⟩
      rw [m4_quirlaw_LockPlays_K3] at h
      refine W.seq (W.region (L.y rfl (Y.fieldP fd45_1 rfl) ?_))
      refine L.y rfl (Y.loadP (i := 0) ag3 rfl rfl rfl) ?_
      obtain ⟨x7, e8, h⟩ := bind1S h
      refine L.y rfl (Y.does en16 rfl (fun w' hw => (w16_quirref_Rest x5.Kind 5 w' _ e8).mono (fun _ _ h => h.1))) ?_
      refine L.m (V := fun x9 => .int .i64 x9) h rfl (Y.addM rfl rfl) (fun x9 ex9 h => ?_)
      refine L.y rfl (Y.assign rfl) ?_
      refine L.nil (E.thenN (W.seq (W.region (L.y rfl (Y.move rfl) ?_))))
      refine L.y rfl (Y.fieldP fd45_0 rfl) ?_
      refine L.y rfl (Y.loadP (i := 0) ag3 rfl rfl rfl) ?_
      refine L.y rfl (Y.fieldP fd45_2 rfl) ?_
      refine L.y rfl (Y.loadP (i := 0) ag3 rfl rfl rfl) ?_
      refine L.y rfl (Y.move rfl) ?_
      obtain ⟨l10, b15, x16, e17, h⟩ := bind3S h
      refine L.doesF rfl en6 rfl rfl hK (fun w' hw hs => w6_lock_Ask gl11 x5.Tx x5.Item x9 gv10 gq12 _ w' hs _ e17 hG13.tok hG15.tok) ?_
      rintro _ c18 c19 mo20 mn21 ma22 ⟨v11, q13, rfl, f12, f14⟩
      refine L.y rfl (Y.move rfl) ?_
      refine L.y rfl (Y.extract rfl rfl) ?_
      refine L.y rfl (Y.extract rfl rfl) ?_
      refine L.y rfl (Y.extract rfl rfl) ?_
      refine L.y rfl (Y.assign rfl) ?_
      refine L.y rfl (Y.assign rfl) ?_
      refine L.y rfl (Y.assign rfl) ?_
      refine L.nil (E.thenN (W.seqJ (fun gs D => gs = [(3, gv10), (4, gv17), (6, pt b6 0), (12, .int .i64 x9), (13, v11), (14, .bool b15), (15, .int .i64 x16), (19, u0), (20, .int .i64 (a0.length : Int)), (21, .int .i64 gx24)] ∧ D = Cls w [] [.obj b6 [.int .i64 x5.Tx, .int .i64 x5.Kind, .int .i64 x5.Item] 45, .os c19] ∧ m4_quirlaw_LockPlays_K4 gl18 x5 x9 x16 l10 gx24 go1 gl11 b15 = some r) ?_ ?_))
      ·
       refine W.seq (W.region (L.cutJ 8 (fun gs D => ∃ (gb41 : Bool), gs = [(3, gv10), (4, gv17), (6, pt b6 0), (12, .int .i64 x9), (13, v11), (14, .bool b15), (15, .int .i64 x16), (19, u0), (20, .int .i64 (a0.length : Int)), (21, .int .i64 gx24), (91, .bool gb41)] ∧ D = Cls w [] [.obj b6 [.int .i64 x5.Tx, .int .i64 x5.Kind, .int .i64 x5.Item] 45, .os c19] ∧ m4_quirlaw_LockPlays_K6 x16 gx24 go1 gl11 gl18 x5 x9 l10 b15 gb41 = some r) ?_ ?_))
       ·
        refine L.y rfl (Y.fieldP fd45_0 rfl) ?_
        refine L.y rfl (Y.loadP (i := 0) ag3 rfl rfl rfl) ?_
        refine L.ite h rfl (Y.lss rfl rfl) (fun c46 h => ?_) (fun c46 h => ?_)
        ·
         refine L.y rfl (Y.move rfl) ?_
         refine L.pass rfl rfl (by nofun) ?_
         refine L.pass rfl rfl (by nofun) ?_
         refine L.pass rfl rfl (by nofun) ?_
         refine L.y rfl (Y.pickT rfl rfl) ?_
         exact L.nil (E.joinJ ⟨true, rfl, rfl, h⟩ ⟨rfl, rfl, rfl, rfl, rfl, rfl, rfl, rfl, rfl, rfl, rfl, trivial⟩ (fun _ hw => hw))
        ·
         refine L.y rfl (Y.move rfl) ?_
         refine L.take rfl (L.y rfl (Y.fieldP fd45_0 rfl) ?_)
         refine L.take rfl (L.y rfl (Y.loadP (i := 0) ag3 rfl rfl rfl) ?_)
         refine L.take rfl (L.ite h rfl (Y.gtr rfl rfl) (fun c47 h => ?_) (fun c47 h => ?_))
         ·
          refine L.y rfl (Y.pickF rfl rfl) ?_
          exact L.nil (E.joinJ ⟨true, rfl, rfl, h⟩ ⟨rfl, rfl, rfl, rfl, rfl, rfl, rfl, rfl, rfl, rfl, rfl, trivial⟩ (fun _ hw => hw))
         ·
          refine L.y rfl (Y.pickF rfl rfl) ?_
          exact L.nil (E.joinJ ⟨false, rfl, rfl, h⟩ ⟨rfl, rfl, rfl, rfl, rfl, rfl, rfl, rfl, rfl, rfl, rfl, trivial⟩ (fun _ hw => hw))
       ·
        rintro _ _ ⟨gb41, rfl, rfl, h⟩
        rw [m4_quirlaw_LockPlays_K6] at h
        rcases gb41 with _ | _
        ·
         replace h := iteF h
         refine L.y rfl (Y.move rfl) ?_
         refine L.take rfl (L.y rfl (Y.fieldP fd45_2 rfl) ?_)
         refine L.take rfl (L.y rfl (Y.loadP (i := 0) ag3 rfl rfl rfl) ?_)
         refine L.take rfl (L.ite h rfl (Y.lss rfl rfl) (fun c41 h => ?_) (fun c41 h => ?_))
         ·
          refine L.y rfl (Y.pickF rfl rfl) ?_
          refine L.y rfl (Y.move rfl) ?_
          refine L.pass rfl rfl (by nofun) ?_
          refine L.pass rfl rfl (by nofun) ?_
          refine L.pass rfl rfl (by nofun) ?_
          refine L.y rfl (Y.pickT rfl rfl) ?_
          refine L.nil (E.thenN (W.condT rfl ?_))
          refine W.seq (W.seq (W.region (L.y rfl (Y.move rfl) ?_)))
          refine L.ite h rfl (Y.neq rfl rfl) (fun c42 h => ?_) (fun c42 h => ?_)
          ·
           refine L.nil (E.thenN (W.condT rfl ?_))
           refine W.seq (W.region (L.y rfl (Y.assign rfl) ?_))
           refine L.nil (E.thenN (W.ret (E.thenR (E.KSR (E.blockR (E.KSR (E.KLR (E.blockR (E.KSR (E.ret1 rfl rfl (fun w1 hw => ?_)))))))))))
           obtain rfl := Option.some.inj h
           exact ⟨_, _, rfl, ⟨rfl, rfl⟩, hw.sel [] (by decide) rfl⟩
          ·
           refine L.nil (E.thenN (W.condF rfl ?_))
           exact W.skip (E.thenN (W.exit (E.KSX (E.blockX (E.joinJ ⟨c19, gv10, gl11, gq12, (), (), gv17, gl18, gq19, (), (), rfl, rfl, (hG13.mo mo20), (hG15.mo mo20), (hG20.mo mo20), (hG22.mo mo20), h⟩ ⟨rfl, rfl, rfl, rfl, rfl, trivial⟩ (fun _ hw => hw.sel [1] (by decide) rfl))))))
         ·
          refine L.y rfl (Y.pickF rfl rfl) ?_
          refine L.y rfl (Y.move rfl) ?_
          refine L.take rfl (L.y rfl (Y.fieldP fd45_2 rfl) ?_)
          refine L.take rfl (L.y rfl (Y.loadP (i := 0) ag3 rfl rfl rfl) ?_)
          refine L.take rfl (L.ite h rfl (Y.gtr rfl rfl) (fun c43 h => ?_) (fun c43 h => ?_))
          ·
           refine L.y rfl (Y.pickF rfl rfl) ?_
           refine L.nil (E.thenN (W.condT rfl ?_))
           refine W.seq (W.seq (W.region (L.y rfl (Y.move rfl) ?_)))
           refine L.ite h rfl (Y.neq rfl rfl) (fun c44 h => ?_) (fun c44 h => ?_)
           ·
            refine L.nil (E.thenN (W.condT rfl ?_))
            refine W.seq (W.region (L.y rfl (Y.assign rfl) ?_))
            refine L.nil (E.thenN (W.ret (E.thenR (E.KSR (E.blockR (E.KSR (E.KLR (E.blockR (E.KSR (E.ret1 rfl rfl (fun w1 hw => ?_)))))))))))
            obtain rfl := Option.some.inj h
            exact ⟨_, _, rfl, ⟨rfl, rfl⟩, hw.sel [] (by decide) rfl⟩
           ·
            refine L.nil (E.thenN (W.condF rfl ?_))
            exact W.skip (E.thenN (W.exit (E.KSX (E.blockX (E.joinJ ⟨c19, gv10, gl11, gq12, (), (), gv17, gl18, gq19, (), (), rfl, rfl, (hG13.mo mo20), (hG15.mo mo20), (hG20.mo mo20), (hG22.mo mo20), h⟩ ⟨rfl, rfl, rfl, rfl, rfl, trivial⟩ (fun _ hw => hw.sel [1] (by decide) rfl))))))
          ·
           refine L.y rfl (Y.pickF rfl rfl) ?_
           refine L.nil (E.thenN (W.condF rfl ?_))
           exact W.skip (E.joinJ ⟨rfl, rfl, h⟩ ⟨rfl, rfl, rfl, rfl, rfl, rfl, rfl, rfl, rfl, rfl, trivial⟩ (fun _ hw => hw))
        ·
         replace h := iteT h
         refine L.y rfl (Y.move rfl) ?_
         refine L.pass rfl rfl (by nofun) ?_
         refine L.pass rfl rfl (by nofun) ?_
         refine L.pass rfl rfl (by nofun) ?_
         refine L.y rfl (Y.pickT rfl rfl) ?_
         refine L.y rfl (Y.move rfl) ?_
         refine L.pass rfl rfl (by nofun) ?_
         refine L.pass rfl rfl (by nofun) ?_
         refine L.pass rfl rfl (by nofun) ?_
         refine L.y rfl (Y.pickT rfl rfl) ?_
         refine L.nil (E.thenN (W.condT rfl ?_))
         refine W.seq (W.seq (W.region (L.y rfl (Y.move rfl) ?_)))
         refine L.ite h rfl (Y.neq rfl rfl) (fun c45 h => ?_) (fun c45 h => ?_)
         ·
          refine L.nil (E.thenN (W.condT rfl ?_))
          refine W.seq (W.region (L.y rfl (Y.assign rfl) ?_))
          refine L.nil (E.thenN (W.ret (E.thenR (E.KSR (E.blockR (E.KSR (E.KLR (E.blockR (E.KSR (E.ret1 rfl rfl (fun w1 hw => ?_)))))))))))
          obtain rfl := Option.some.inj h
          exact ⟨_, _, rfl, ⟨rfl, rfl⟩, hw.sel [] (by decide) rfl⟩
         ·
          refine L.nil (E.thenN (W.condF rfl ?_))
          exact W.skip (E.thenN (W.exit (E.KSX (E.blockX (E.joinJ ⟨c19, gv10, gl11, gq12, (), (), gv17, gl18, gq19, (), (), rfl, rfl, (hG13.mo mo20), (hG15.mo mo20), (hG20.mo mo20), (hG22.mo mo20), h⟩ ⟨rfl, rfl, rfl, rfl, rfl, trivial⟩ (fun _ hw => hw.sel [1] (by decide) rfl))))))
      ·
       rintro _ _ ⟨rfl, rfl, h⟩
       rw [m4_quirlaw_LockPlays_K4] at h
       refine W.seq (W.region (L.y rfl (Y.move rfl) ?_))
       refine L.y rfl (Y.fieldP fd45_0 rfl) ?_
       refine L.y rfl (Y.loadP (i := 0) ag3 rfl rfl rfl) ?_
       refine L.y rfl (Y.fieldP fd45_2 rfl) ?_
       refine L.y rfl (Y.loadP (i := 0) ag3 rfl rfl rfl) ?_
       refine L.y rfl (Y.move rfl) ?_
       obtain ⟨l23, b28, x29, e30, h⟩ := bind3S h
       refine L.doesF rfl en15 rfl rfl hK (fun w' hw hs => w15_quirref_AskLock gl18 x5.Tx x5.Item x9 gv17 gq19 _ w' hs _ e30 (hG20.mo mo20).tok (hG22.mo mo20).tok) ?_
       rintro _ c31 c32 mo33 mn34 ma35 ⟨v24, q26, rfl, f25, f27⟩
       refine L.y rfl (Y.move rfl) ?_
       refine L.y rfl (Y.extract rfl rfl) ?_
       refine L.y rfl (Y.extract rfl rfl) ?_
       refine L.y rfl (Y.extract rfl rfl) ?_
       refine L.y rfl (Y.assign rfl) ?_
       refine L.y rfl (Y.assign rfl) ?_
       refine L.y rfl (Y.assign rfl) ?_
       refine L.nil (E.thenN (W.seq (W.seq (W.region (L.cutJ 8 (fun gs D => ∃ (gb40 : Bool), gs = [(3, gv10), (4, gv17), (13, v11), (16, v24), (18, .int .i64 x29), (19, u0), (20, .int .i64 (a0.length : Int)), (21, .int .i64 gx24), (122, .bool gb40)] ∧ D = Cls w [] [.os c32] ∧ m4_quirlaw_LockPlays_K5 l10 l23 x29 gx24 go1 gl11 gl18 gb40 = some r) ?_ ?_)))))
       ·
        refine L.y rfl (Y.move rfl) ?_
        refine L.y rfl (Y.move rfl) ?_
        refine L.ite h rfl (Y.neq rfl rfl) (fun c39 h => ?_) (fun c39 h => ?_)
        ·
         refine L.y rfl (Y.move rfl) ?_
         refine L.pass rfl rfl (by nofun) ?_
         refine L.pass rfl rfl (by nofun) ?_
         refine L.pass rfl rfl (by nofun) ?_
         refine L.y rfl (Y.pickT rfl rfl) ?_
         exact L.nil (E.joinJ ⟨true, rfl, rfl, h⟩ ⟨rfl, rfl, rfl, rfl, rfl, rfl, rfl, rfl, rfl, trivial⟩ (fun _ hw => hw.sel [1] (by decide) rfl))
        ·
         refine L.y rfl (Y.move rfl) ?_
         refine L.take rfl (L.y rfl (Y.move rfl) ?_)
         refine L.take rfl (L.y rfl (Y.move rfl) ?_)
         refine L.take rfl (L.iteB h rfl (Y.neqB Try.underlying4 rfl rfl) (fun c40 h => ?_) (fun c40 h => ?_))
         ·
          refine L.y rfl (Y.pickF rfl rfl) ?_
          exact L.nil (E.joinJ ⟨true, rfl, rfl, h⟩ ⟨rfl, rfl, rfl, rfl, rfl, rfl, rfl, rfl, rfl, trivial⟩ (fun _ hw => hw.sel [1] (by decide) rfl))
         ·
          refine L.y rfl (Y.pickF rfl rfl) ?_
          exact L.nil (E.joinJ ⟨false, rfl, rfl, h⟩ ⟨rfl, rfl, rfl, rfl, rfl, rfl, rfl, rfl, rfl, trivial⟩ (fun _ hw => hw.sel [1] (by decide) rfl))
       ·
        rintro _ _ ⟨gb40, rfl, rfl, h⟩
        rw [m4_quirlaw_LockPlays_K5] at h
        rcases gb40 with _ | _
        ·
         replace h := iteF h
         refine L.y rfl (Y.move rfl) ?_
         refine L.take rfl (L.y rfl (Y.move rfl) ?_)
         refine L.take rfl (L.y rfl (Y.move rfl) ?_)
         refine L.take rfl ?_
         obtain ⟨b36, e37, h⟩ := bind1S h
         refine L.y rfl (Y.does en13 rfl (fun w' hw => (w13_quirref_SameLocks l10 l23 v11 q13 v24 q26 w' _ e37 (((mn21 f12).mo mo33).clsF hK hw rfl) (((ma22 f14).mo mo33).clsF hK hw rfl) ((mn34 f25).clsF hK hw rfl) ((ma35 f27).clsF hK hw rfl)).mono (fun _ _ h => h.1))) ?_
         rcases b36 with _ | _
         ·
          replace h := iteF h
          refine L.take rfl (L.y rfl (Y.not rfl) ?_)
          refine L.y rfl (Y.pickF rfl rfl) ?_
          refine L.nil (E.thenN (W.condT rfl ?_))
          refine W.seq (W.region (L.y rfl (Y.assign rfl) ?_))
          refine L.nil (E.thenN (W.ret (E.thenR (E.blockR (E.KSR (E.KLR (E.blockR (E.KSR (E.ret1 rfl rfl (fun w1 hw => ?_))))))))))
          obtain rfl := Option.some.inj h
          exact ⟨_, _, rfl, ⟨rfl, rfl⟩, hw.sel [] (by decide) rfl⟩
         ·
          replace h := iteT h
          refine L.take rfl (L.y rfl (Y.not rfl) ?_)
          refine L.y rfl (Y.pickF rfl rfl) ?_
          refine L.nil (E.thenN (W.condF rfl ?_))
          refine W.skip (E.thenN (W.seq (W.region (L.y rfl (Y.move rfl) ?_))))
          refine L.ite h rfl (Y.eql rfl rfl) (fun c38 h => ?_) (fun c38 h => ?_)
          ·
           refine L.nil (E.thenN (W.condT rfl ?_))
           refine W.region (L.y rfl (Y.move rfl) ?_)
           refine L.y rfl (Y.move rfl) ?_
           refine L.y rfl (Y.assign rfl) ?_
           refine L.y rfl (Y.assign rfl) ?_
           exact L.nil (E.blockN (E.joinJ ⟨c32, v11, l10, q13, (), (), v24, l23, q26, (), (), rfl, rfl, ((mn21 f12).mo mo33), ((ma22 f14).mo mo33), (mn34 f25), (ma35 f27), h⟩ ⟨rfl, rfl, rfl, rfl, rfl, trivial⟩ (fun _ hw => hw)))
          ·
           refine L.nil (E.thenN (W.condF rfl ?_))
           exact W.skip (E.blockN (E.joinJ ⟨c32, gv10, gl11, gq12, (), (), gv17, gl18, gq19, (), (), rfl, rfl, ((hG13.mo mo20).mo mo33), ((hG15.mo mo20).mo mo33), ((hG20.mo mo20).mo mo33), ((hG22.mo mo20).mo mo33), h⟩ ⟨rfl, rfl, rfl, rfl, rfl, trivial⟩ (fun _ hw => hw)))
        ·
         replace h := iteT h
         refine L.y rfl (Y.move rfl) ?_
         refine L.pass rfl rfl (by nofun) ?_
         refine L.pass rfl rfl (by nofun) ?_
         refine L.pass rfl rfl (by nofun) ?_
         refine L.pass rfl rfl (by nofun) ?_
         refine L.y rfl (Y.pickT rfl rfl) ?_
         refine L.nil (E.thenN (W.condT rfl ?_))
         refine W.seq (W.region (L.y rfl (Y.assign rfl) ?_))
         refine L.nil (E.thenN (W.ret (E.thenR (E.blockR (E.KSR (E.KLR (E.blockR (E.KSR (E.ret1 rfl rfl (fun w1 hw => ?_))))))))))
         obtain rfl := Option.some.inj h
         exact ⟨_, _, rfl, ⟨rfl, rfl⟩, hw.sel [] (by decide) rfl⟩
    ·
     rintro _ _ ⟨gc25, gv26, gl27, gq28, gu30, gu32, gv33, gl34, gq35, gu37, gu39, rfl, rfl, hG29, hG31, hG36, hG38, h⟩
     rw [m4_quirlaw_LockPlays_K2] at h
     refine W.region (L.m (V := fun x4 => .int .i64 x4) h rfl (Y.addM rfl rfl) (fun x4 ex4 h => ?_))
     refine L.y rfl (Y.move rfl) ?_
     exact L.nil (E.againJ ⟨gc25, gv26, gl27, gq28, (), (), gv33, gl34, gq35, (), (), x4, rfl, rfl, hG29, hG31, hG36, hG38, by rw [hg1]; exact h⟩ (Nat.lt_succ_self _) ⟨rfl, rfl, rfl, rfl, rfl, trivial⟩ (fun _ hw => hw))
   ·
    refine L.nil (E.thenN (W.seq (W.condF rfl ?_)))
    exact W.exit (E.thenX (E.KLX (E.blockX (E.joinJ ⟨gc9, gv10, gl11, gq12, (), (), rfl, rfl, hG13, hG15, h⟩ ⟨rfl, trivial⟩ (fun _ hw => hw)))))
  ·
   rintro _ _ ⟨gc1, gv2, gl3, gq4, gu6, gu8, rfl, rfl, hG5, hG7, h⟩
   rw [m4_quirlaw_LockPlays_K1] at h
   refine W.seq (W.region (L.y rfl (Y.move rfl) ?_))
   obtain ⟨x1, e2, h⟩ := bind1S h
   refine L.y rfl (Y.does en9 rfl (fun w' hw => (w9_lock_Check gl3 gv2 gq4 w' _ e2 (hG5.clsF hK hw rfl) (hG7.clsF hK hw rfl)).mono (fun _ _ h => h.1))) ?_
   refine L.y rfl (Y.eql rfl rfl) ?_
   refine L.y rfl (Y.assign rfl) ?_
   refine L.nil (E.thenN (W.ret (E.ret1 rfl rfl (fun w1 hw => ?_))))
   obtain rfl := Option.some.inj h
   exact ⟨_, _, rfl, ⟨rfl, rfl⟩, hw.sel [] (by decide) rfl⟩
end Go.Proofs.Ytgkdimboofglfaa
