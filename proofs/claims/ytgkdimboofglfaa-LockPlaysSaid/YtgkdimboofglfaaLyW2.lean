/-
  Walks, printed by a program of mine.
  Conditions: none.
-/
import Derived.Test.YtgkdimboofglfaaLyW1
import Derived.Test.YtgkdimboofglfaaChecked
import Derived.KernelRfl
import Derived.Test.YtgkdimboofglfaaLkO
namespace Go.Proofs.Ytgkdimboofglfaa
open Go.S
set_option linter.unusedVariables false
set_option linter.unusedSimpArgs false
set_option maxRecDepth 100000 in
set_option maxHeartbeats 8000000 in
theorem w7_lock_Drop (a0 : (List TLockItem)) (a1 : Int) (u0 : Value) (q0 : Nat → List Value) (K : World → Prop) (w : World) (hK : Stb K w) (r : ((List TLockItem) × (List Int) × Int)) (h : m7_lock_Drop a0 a1 = some r) (hA0 : Fz K [] u0 3 (zr TLockItem.rowv q0 a0)) (hD0 : FzA K [] (zs TLockItem.sds q0 a0)) : Does Try.prog 7 [u0, .int .i64 a1] w fun u m => ∃ c, m = [.os c] ∧ ∃ v0 q0 v1, u = .tuple #[v0, v1, .int .i64 r.2.2] ∧ Fz K c v0 3 (zr TLockItem.rowv q0 r.1) ∧ FzA K c (zs TLockItem.sds q0 r.1) ∧ Fz K c v1 1 (r.2.1.map I) := by
  rw [m7_lock_Drop] at h
  refine body (n := 82) Try.func7 rfl rfl rfl (Cls.reflF w) ?_
  refine W.seq (W.region (L.box rfl rfl ?_))
  intro b1
  refine L.y rfl (Y.assign rfl) ?_
  refine L.y rfl (Y.assign rfl) ?_
  refine L.y rfl (Y.assign rfl) ?_
  refine L.nil (E.thenN (W.seqJ (fun gs D => gs = [(0, u0), (3, pt b1 0)] ∧ D = Cls w [] [.obj b1 [.int .i64 a1] 3, .os []] ∧ m7_lock_Drop_K1 a1 a0 = some r) ?_ ?_))
  ·
   refine W.seq (W.region (L.y rfl (Y.move rfl) ?_))
   obtain ⟨x180, e181, h⟩ := bind1S h
   refine L.y rfl (Y.does en9 rfl (fun w' hw => (w9_lock_Check a0 u0 q0 w' _ e181 (hA0.up.clsF hK hw rfl) (hD0.up.clsF hK hw rfl)).mono (fun _ _ h => h.1))) ?_
   refine L.y rfl (Y.assign rfl) ?_
   refine L.nil (E.thenN (W.seq (W.region (L.y rfl (Y.move rfl) ?_))))
   refine L.ite h rfl (Y.neq rfl rfl) (fun c182 h => ?_) (fun c182 h => ?_)
   ·
    refine L.nil (E.thenN (W.condT rfl ?_))
    refine W.seq (W.region (L.y rfl (Y.move rfl) ?_))
    refine L.y rfl (Y.assign rfl) ?_
    refine L.y rfl (Y.assign rfl) ?_
    refine L.y rfl (Y.assign rfl) ?_
    refine L.nil (E.thenN (W.ret (E.KSR (E.ret3 rfl rfl rfl rfl (fun w1 hw => ?_)))))
    obtain rfl := Option.some.inj h
    exact ⟨_, _, rfl, ⟨[], rfl, (.slice none 0 0), (fun _ => []), (.slice none 0 0), rfl, Fz.nil, FzA.nil, Fz.nil⟩, hw.sel [1] (by decide) rfl⟩
   ·
    refine L.nil (E.thenN (W.condF rfl ?_))
    exact W.skip (E.joinJ ⟨rfl, rfl, h⟩ ⟨rfl, rfl, trivial⟩ (fun _ hw => hw))
  ·
   rintro _ _ ⟨rfl, rfl, h⟩
   rw [m7_lock_Drop_K1] at h
   refine W.seqJ (fun gs D => gs = [(0, u0), (3, pt b1 0)] ∧ D = Cls w [] [.obj b1 [.int .i64 a1] 3, .os []] ∧ m7_lock_Drop_K2 a0 a1 = some r) ?_ ?_
   ·
    refine W.seq (W.region (L.y rfl (Y.loadP (i := 0) ag3 rfl rfl rfl) ?_))
    refine L.ite h rfl (Y.lss rfl rfl) (fun c178 h => ?_) (fun c178 h => ?_)
    ·
     refine L.y rfl (Y.move rfl) ?_
     refine L.pass rfl rfl (by nofun) ?_
     refine L.pass rfl rfl (by nofun) ?_
     refine L.y rfl (Y.pickT rfl rfl) ?_
     refine L.nil (E.thenN (W.condT rfl ?_))
     refine W.seq (W.region (L.y rfl (Y.assign rfl) ?_))
     refine L.y rfl (Y.assign rfl) ?_
     refine L.y rfl (Y.assign rfl) ?_
     refine L.nil (E.thenN (W.ret (E.KSR (E.ret3 rfl rfl rfl rfl (fun w1 hw => ?_)))))
     obtain rfl := Option.some.inj h
     exact ⟨_, _, rfl, ⟨[], rfl, (.slice none 0 0), (fun _ => []), (.slice none 0 0), rfl, Fz.nil, FzA.nil, Fz.nil⟩, hw.sel [1] (by decide) rfl⟩
    ·
     refine L.y rfl (Y.move rfl) ?_
     refine L.take rfl (L.y rfl (Y.loadP (i := 0) ag3 rfl rfl rfl) ?_)
     refine L.take rfl (L.ite h rfl (Y.geq rfl rfl) (fun c179 h => ?_) (fun c179 h => ?_))
     ·
      refine L.y rfl (Y.pickF rfl rfl) ?_
      refine L.nil (E.thenN (W.condT rfl ?_))
      refine W.seq (W.region (L.y rfl (Y.assign rfl) ?_))
      refine L.y rfl (Y.assign rfl) ?_
      refine L.y rfl (Y.assign rfl) ?_
      refine L.nil (E.thenN (W.ret (E.KSR (E.ret3 rfl rfl rfl rfl (fun w1 hw => ?_)))))
      obtain rfl := Option.some.inj h
      exact ⟨_, _, rfl, ⟨[], rfl, (.slice none 0 0), (fun _ => []), (.slice none 0 0), rfl, Fz.nil, FzA.nil, Fz.nil⟩, hw.sel [1] (by decide) rfl⟩
     ·
      refine L.y rfl (Y.pickF rfl rfl) ?_
      refine L.nil (E.thenN (W.condF rfl ?_))
      exact W.skip (E.joinJ ⟨rfl, rfl, h⟩ ⟨rfl, rfl, trivial⟩ (fun _ hw => hw))
   ·
    rintro _ _ ⟨rfl, rfl, h⟩
    rw [m7_lock_Drop_K2] at h
    refine W.seq (W.region (L.y rfl (Y.func rfl) ?_))
    refine L.y rfl (Y.assign rfl) ?_
    refine L.nil (E.thenN (W.seq (W.region (L.y rfl (Y.assign rfl) ?_))))
    refine L.nil (E.thenN (W.seq (W.region (L.y rfl (Y.assign rfl) ?_))))
    refine L.nil (E.thenN (W.seqJ (fun gs D => ∃ (gc1 : List Ob) (gv2 : Value) (gl3 : (List TLockItem)) (gq4 : Nat → List Value) (gu6 : Unit) (gv7 : Value) (gl8 : (List Int)), gs = [(9, gv2), (10, gv7)] ∧ D = Cls w [] [.sl gv2 50 3 (zr TLockItem.rowv gq4 gl3), .sl gv7 3 1 (gl8.map I), .os gc1] ∧ FzA K gc1 (zs TLockItem.sds gq4 gl3) ∧ m7_lock_Drop_K3 gl3 gl8 = some r) ?_ ?_))
    ·
     refine W.seq (W.region (L.y rfl (Y.move rfl) ?_))
     obtain ⟨l8, e11, h⟩ := bind1S h
     refine L.does rfl en21 rfl (fun w' hw => w21_lock_copied a0 u0 q0 w' _ e11 (hA0.up.clsF hK hw rfl) (hD0.up.clsF hK hw rfl)) ?_
     rintro v9 _ ⟨_, q10, rfl, rfl⟩
     refine L.y rfl (Y.lenMZ (row := TLockItem.rowv) (vs := q10) (l := l8) Try.underlying23 rfl (fun w hw => As.at_ (hw.get (i := 0) rfl))) ?_
     refine L.y rfl (Y.move rfl) ?_
     refine L.nil (E.thenN (W.block (W.nilSl 50 3 ?_)))
     refine W.nilSl 3 1 ?_
     refine W.frmLe (sds := TLockItem.sds) (vs := q10) (l := l8) (s := 3) (j := (0)) (j' := ((0 : Int).toNat)) rfl (Nat.zero_le _) ?_
     refine W.loopJ (fun m gs D => ∃ (gc9 : List Ob) (gv10 : Value) (gl11 : (List TLockItem)) (gq12 : Nat → List Value) (gu14 : Unit) (gv15 : Value) (gl16 : (List Int)) (gx17 : Int), gs = [(8, .func (.func 30) #[] #[pt b1 0]), (9, gv10), (10, gv15), (26, v9), (27, .int .i64 (l8.length : Int)), (28, .int .i64 gx17)] ∧ D = Cls w [] [.obj b1 [.int .i64 a1] 3, .sl gv10 50 3 (zr TLockItem.rowv gq12 gl11), .sl gv15 3 1 (gl16.map I), .sl v9 50 3 (zr TLockItem.rowv q10 l8), .ss (zsd TLockItem.sds q10 l8 gx17.toNat), .os gc9] ∧ FzA K gc9 (zs TLockItem.sds gq12 gl11) ∧ m7_lock_Drop_L1 l8 a1 m gl11 gl16 gx17 = some r) ⟨[], .slice none 0 0, [], (fun _ => []), (), .slice none 0 0, [], 0, rfl, rfl, FzA.nil, h⟩ ⟨rfl, rfl, rfl, rfl, rfl, rfl, trivial⟩ (fun _ hw => hw.sel [4, 1, 0, 2, 3, 5] (by decide) rfl) ?_
     rintro m _ _ ⟨gc9, gv10, gl11, gq12, gu14, gv15, gl16, gx17, rfl, rfl, hG13, h⟩
     rcases m with _ | m
     · rw [m7_lock_Drop_L1] at h; cases h
     rw [m7_lock_Drop_L1] at h
     generalize hg1 : m7_lock_Drop_L1 l8 a1 m = go1 at h
     rw [m7_lock_Drop_L1B] at h
     refine W.seq (W.region (L.ite h rfl (Y.lss rfl rfl) (fun c12 h => ?_) (fun c12 h => ?_)))
     ·
      refine L.nil (E.thenN (W.seq (W.condT rfl ?_)))
      refine W.skip (E.thenN (W.seqJ (fun gs D => ∃ (gc18 : List Ob) (gv19 : Value) (gl20 : (List TLockItem)) (gq21 : Nat → List Value) (gu23 : Unit) (gv24 : Value) (gl25 : (List Int)), gs = [(8, .func (.func 30) #[] #[pt b1 0]), (9, gv19), (10, gv24), (26, v9), (27, .int .i64 (l8.length : Int)), (28, .int .i64 gx17)] ∧ D = Cls w [] [.obj b1 [.int .i64 a1] 3, .sl gv19 50 3 (zr TLockItem.rowv gq21 gl20), .sl gv24 3 1 (gl25.map I), .sl v9 50 3 (zr TLockItem.rowv q10 l8), .ss (zsd TLockItem.sds q10 l8 ((gx17 + 1 : Int).toNat)), .os gc18] ∧ FzA K gc18 (zs TLockItem.sds gq21 gl20) ∧ m7_lock_Drop_K4 gx17 go1 gl20 gl25 = some r) ?_ ?_))
      ·
       refine W.block (W.seq (W.region (L.m (V := fun _ => el v9 (gx17.toNat * 3)) h rfl (Y.indexMZ (row := TLockItem.rowv) (vs := q10) (l := l8) Try.underlying23 sz50 rfl rfl (fun w hw => As.at_ (hw.get (i := 3) rfl))) (fun x14 ex14 h => ?_))))
       refine L.ssPop (sds := TLockItem.sds) (vs := q10) (l := l8) (a := gx17) (s := 4) (j := (gx17.toNat)) rfl ex14 (Nat.le_refl _) ?_
       refine L.to (D := Cls w [] [.sl (gv (q10 gx17.toNat) 0) 55 2 (x14.Held.map TLock.row), .sl (gv (q10 gx17.toNat) 1) 55 2 (x14.Queue.map TLock.row), .ss (zsd TLockItem.sds q10 l8 ((gx17 + 1 : Int).toNat)), .obj b1 [.int .i64 a1] 3, .sl gv10 50 3 (zr TLockItem.rowv gq12 gl11), .sl gv15 3 1 (gl16.map I), .sl v9 50 3 (zr TLockItem.rowv q10 l8), .os gc9]) (fun _ hw => hw) ?_
       refine L.y rfl (Y.loadEN (r := [.int .i64 x14.Item, (gv (q10 gx17.toNat) 0), (gv (q10 gx17.toNat) 1)]) ag50 sz50 rfl (fun w hw => As.at_ (hw.get (i := 6) rfl)) (zr_idx (vs := q10) ex14) rfl) ?_
       refine L.alloc rfl ze50 ?_
       intro b15
       refine L.storeC (i := 0) sz50 rfl rfl rfl rfl (fun w hw => (all1 rfl (all1 (As.at_ (hw.get (i := 1) rfl)).one (all1 (As.at_ (hw.get (i := 2) rfl)).one all0)))) rfl (Nat.le_of_ble_eq_true rfl) ?_
       refine L.nil (E.thenN (W.seqJ (fun gs D => ∃ (gu27 : Unit) (gv28 : Value) (gl29 : (List TLock)) (gv30 : Value) (gl31 : (List TLock)), gs = [(8, .func (.func 30) #[] #[pt b1 0]), (9, gv10), (10, gv15), (12, pt b15 0), (26, v9), (27, .int .i64 (l8.length : Int)), (28, .int .i64 gx17)] ∧ D = Cls w [] [.obj b15 [.int .i64 x14.Item, gv28, gv30] 50, .obj b1 [.int .i64 a1] 3, .sl gv10 50 3 (zr TLockItem.rowv gq12 gl11), .sl gv15 3 1 (gl16.map I), .sl v9 50 3 (zr TLockItem.rowv q10 l8), .ss (zsd TLockItem.sds q10 l8 ((gx17 + 1 : Int).toNat)), .sl gv28 55 2 (gl29.map TLock.row), .sl gv30 55 2 (gl31.map TLock.row), .os gc9] ∧ FzA K gc9 (zs TLockItem.sds gq12 gl11) ∧ m7_lock_Drop_K5 x14 gl11 gx17 go1 gl16 gl29 gl31 = some r) ?_ ?_))
       ·
        refine W.drawn2 (k := 12) (stC [[3, 7], [7]] [Cls w [] [.obj b15 [.int .i64 x14.Item, (gv (q10 gx17.toNat) 0), (gv (q10 gx17.toNat) 1)] 50, .sl (gv (q10 gx17.toNat) 0) 55 2 (x14.Held.map TLock.row), .sl (gv (q10 gx17.toNat) 1) 55 2 (x14.Queue.map TLock.row), .ss (zsd TLockItem.sds q10 l8 ((gx17 + 1 : Int).toNat)), .obj b1 [.int .i64 a1] 3, .sl gv10 50 3 (zr TLockItem.rowv gq12 gl11), .sl gv15 3 1 (gl16.map I), .sl v9 50 3 (zr TLockItem.rowv q10 l8), .os gc9], Cls w [] [.sl (gv (q10 gx17.toNat) 1) 55 2 (x14.Queue.map TLock.row), .obj b1 [.int .i64 a1] 3, .sl gv15 3 1 (gl16.map I), .sl v9 50 3 (zr TLockItem.rowv q10 l8), .os gc9]] (Cls w [] [.obj b1 [.int .i64 a1] 3, .sl gv15 3 1 (gl16.map I), .sl v9 50 3 (zr TLockItem.rowv q10 l8), .os gc9])) rfl mixed (fun _ hw => hw.drew) (Sc.now (by kernel_rfl) (fun _ hw => hw)) ?_
        refine V2.y (i := 0) (Nx2.of (Z := Cls w [] [.obj b1 [.int .i64 a1] 3, .sl gv15 3 1 (gl16.map I), .sl v9 50 3 (zr TLockItem.rowv q10 l8), .os gc9]) [] (by kernel_rfl) rfl (Zc.on (fun _ hw => hw.sel [4, 6, 7, 8] (by decide) rfl) (Zc.on (fun _ hw => hw.sel [1, 2, 3, 4] (by decide) rfl) (Zc.fin (fun _ hw => hw))))) rfl rfl rfl (Y.fieldP fd50_1 rfl) ?_
        refine V2.y (i := 2) (Nx2.of (Z := Cls w [] [.obj b1 [.int .i64 a1] 3, .sl gv15 3 1 (gl16.map I), .sl v9 50 3 (zr TLockItem.rowv q10 l8), .os gc9]) [] (by kernel_rfl) rfl (Zc.on (fun _ hw => hw.sel [4, 6, 7, 8] (by decide) rfl) (Zc.on (fun _ hw => hw.sel [1, 2, 3, 4] (by decide) rfl) (Zc.fin (fun _ hw => hw))))) rfl rfl rfl (Y.move rfl) ?_
        refine V2.y (i := 4) (Nx2.of (Z := Cls w [] [.obj b1 [.int .i64 a1] 3, .sl gv15 3 1 (gl16.map I), .sl v9 50 3 (zr TLockItem.rowv q10 l8), .os gc9]) [] (by kernel_rfl) rfl (Zc.on (fun _ hw => hw.sel [4, 6, 7, 8] (by decide) rfl) (Zc.on (fun _ hw => hw.sel [1, 2, 3, 4] (by decide) rfl) (Zc.fin (fun _ hw => hw))))) rfl rfl rfl (Y.fieldP fd50_2 rfl) ?_
        refine V2.y (i := 6) (Nx2.of (Z := Cls w [] [.obj b1 [.int .i64 a1] 3, .sl gv15 3 1 (gl16.map I), .sl v9 50 3 (zr TLockItem.rowv q10 l8), .os gc9]) [] (by kernel_rfl) rfl (Zc.on (fun _ hw => hw.sel [4, 6, 7, 8] (by decide) rfl) (Zc.on (fun _ hw => hw.sel [1, 2, 3, 4] (by decide) rfl) (Zc.fin (fun _ hw => hw))))) rfl rfl rfl (Y.move rfl) ?_
        refine V2.eff2 (i1 := 1) (i2 := 5) (by kernel_rfl) rfl rfl ?_ ?_
        ·
         refine L.y rfl (Y.loadP (i := 0) ag48 rfl rfl rfl) ?_
         refine L.nil (E.toV2 (stC [[3, 7], [7]] [Cls w [] [.obj b15 [.int .i64 x14.Item, (gv (q10 gx17.toNat) 0), (gv (q10 gx17.toNat) 1)] 50, .sl (gv (q10 gx17.toNat) 0) 55 2 (x14.Held.map TLock.row), .sl (gv (q10 gx17.toNat) 1) 55 2 (x14.Queue.map TLock.row), .ss (zsd TLockItem.sds q10 l8 ((gx17 + 1 : Int).toNat)), .obj b1 [.int .i64 a1] 3, .sl gv10 50 3 (zr TLockItem.rowv gq12 gl11), .sl gv15 3 1 (gl16.map I), .sl v9 50 3 (zr TLockItem.rowv q10 l8), .os gc9], Cls w [] [.sl (gv (q10 gx17.toNat) 1) 55 2 (x14.Queue.map TLock.row), .obj b1 [.int .i64 a1] 3, .sl gv15 3 1 (gl16.map I), .sl v9 50 3 (zr TLockItem.rowv q10 l8), .os gc9]] (Cls w [] [.obj b1 [.int .i64 a1] 3, .sl gv15 3 1 (gl16.map I), .sl v9 50 3 (zr TLockItem.rowv q10 l8), .os gc9])) 1 (by kernel_rfl) (Sc.stay (fun _ hw => hw) (Sc.stay (fun _ hw => hw) (Sc.stayD (fun _ hw => hw)))) (Sc.now (by kernel_rfl) (fun _ hw => hw)) ?_)
         refine V2.eff2 (i1 := 3) (i2 := 5) (by kernel_rfl) rfl rfl ?_ ?_
         ·
          refine L.callJ (fun v D => ∃ (gu104 : Unit) (gv105 : Value) (gl106 : (List TLock)), v = gv105 ∧ D = Cls w [] [.obj b15 [.int .i64 x14.Item, (gv (q10 gx17.toNat) 0), (gv (q10 gx17.toNat) 1)] 50, .obj b1 [.int .i64 a1] 3, .sl gv10 50 3 (zr TLockItem.rowv gq12 gl11), .sl gv15 3 1 (gl16.map I), .sl v9 50 3 (zr TLockItem.rowv q10 l8), .ss (zsd TLockItem.sds q10 l8 ((gx17 + 1 : Int).toNat)), .sl gv105 55 2 (gl106.map TLock.row), .sl (gv (q10 gx17.toNat) 1) 55 2 (x14.Queue.map TLock.row), .os gc9] ∧ FzA K gc9 (zs TLockItem.sds gq12 gl11) ∧ m7_lock_Drop_K10 x14 a1 gl11 gx17 go1 gl16 gl106 = some r) rfl en31 rfl Try.func31 rfl rfl rfl ?_ ?_
          ·
           refine W.seq (W.region (L.y rfl (Y.assign rfl) ?_))
           refine L.nil (E.thenN (W.seq (W.region (L.y rfl (Y.move rfl) ?_))))
           refine L.y rfl (Y.move rfl) ?_
           refine L.callJ (fun v D => ∃ (gx140 : Int) (gu142 : Unit), v = .int .i64 gx140 ∧ D = Cls w [] [.obj b15 [.int .i64 x14.Item, (gv (q10 gx17.toNat) 0), (gv (q10 gx17.toNat) 1)] 50, .obj b1 [.int .i64 a1] 3, .sl (gv (q10 gx17.toNat) 0) 55 2 (x14.Held.map TLock.row), .sl (gv (q10 gx17.toNat) 1) 55 2 (x14.Queue.map TLock.row), .sl gv10 50 3 (zr TLockItem.rowv gq12 gl11), .sl gv15 3 1 (gl16.map I), .sl v9 50 3 (zr TLockItem.rowv q10 l8), .ss (zsd TLockItem.sds q10 l8 ((gx17 + 1 : Int).toNat)), .os gc9] ∧ FzA K gc9 (zs TLockItem.sds gq12 gl11) ∧ m7_lock_Drop_K19 x14 a1 gl11 gx17 go1 gl16 gx140 = some r) rfl en35 rfl Try.func35 rfl rfl rfl ?_ ?_
           ·
            refine W.seq (W.region (L.y rfl (Y.assign rfl) ?_))
            refine L.nil (E.thenN (W.seqJ (fun gs D => ∃ (gu161 : Unit), gs = [] ∧ D = Cls w [] [.obj b15 [.int .i64 x14.Item, (gv (q10 gx17.toNat) 0), (gv (q10 gx17.toNat) 1)] 50, .obj b1 [.int .i64 a1] 3, .sl (gv (q10 gx17.toNat) 0) 55 2 (x14.Held.map TLock.row), .sl (gv (q10 gx17.toNat) 1) 55 2 (x14.Queue.map TLock.row), .sl gv10 50 3 (zr TLockItem.rowv gq12 gl11), .sl gv15 3 1 (gl16.map I), .sl v9 50 3 (zr TLockItem.rowv q10 l8), .ss (zsd TLockItem.sds q10 l8 ((gx17 + 1 : Int).toNat)), .os gc9] ∧ FzA K gc9 (zs TLockItem.sds gq12 gl11) ∧ m7_lock_Drop_K24 x14 a1 gl11 gx17 go1 gl16 = some r) ?_ ?_))
            ·
             refine W.seq (W.region (L.y rfl (Y.move rfl) ?_))
             refine L.y rfl (Y.lenM (g := TLock.row) (l := x14.Held) Try.underlying48 rfl (fun w hw => As.at_ (hw.get (i := 1) rfl))) ?_
             refine L.y rfl (Y.move rfl) ?_
             refine L.nil (E.thenN (W.block (W.loopJ (fun m gs D => ∃ (gx164 : Int) (gu166 : Unit), gs = [(0, (gv (q10 gx17.toNat) 0)), (1, .func (.func 30) #[] #[pt b1 0]), (7, .int .i64 (x14.Held.length : Int)), (8, .int .i64 gx164)] ∧ D = Cls w [] [.obj b15 [.int .i64 x14.Item, (gv (q10 gx17.toNat) 0), (gv (q10 gx17.toNat) 1)] 50, .obj b1 [.int .i64 a1] 3, .sl (gv (q10 gx17.toNat) 0) 55 2 (x14.Held.map TLock.row), .sl (gv (q10 gx17.toNat) 1) 55 2 (x14.Queue.map TLock.row), .sl gv10 50 3 (zr TLockItem.rowv gq12 gl11), .sl gv15 3 1 (gl16.map I), .sl v9 50 3 (zr TLockItem.rowv q10 l8), .ss (zsd TLockItem.sds q10 l8 ((gx17 + 1 : Int).toNat)), .os gc9] ∧ FzA K gc9 (zs TLockItem.sds gq12 gl11) ∧ m7_lock_Drop_L7 x14 a1 gl11 gx17 go1 gl16 m gx164 = some r) ⟨0, (), rfl, rfl, hG13, h⟩ ⟨rfl, rfl, rfl, rfl, trivial⟩ (fun _ hw => hw.sel [0, 4, 1, 2, 5, 6, 7, 3, 8] (by decide) rfl) ?_)))
             rintro m _ _ ⟨gx164, gu166, rfl, rfl, hG165, h⟩
             rcases m with _ | m
             · rw [m7_lock_Drop_L7] at h; cases h
             rw [m7_lock_Drop_L7] at h
             generalize hg7 : m7_lock_Drop_L7 x14 a1 gl11 gx17 go1 gl16 m = go7 at h
             rw [m7_lock_Drop_L7B] at h
             refine W.seq (W.region (L.ite h rfl (Y.lss rfl rfl) (fun c94 h => ?_) (fun c94 h => ?_)))
             ·
              refine L.nil (E.thenN (W.seq (W.condT rfl ?_)))
              refine W.skip (E.thenN (W.seq (W.block (W.seq (W.region (L.y rfl (Y.move rfl) ?_))))))
              refine L.y rfl (Y.assign rfl) ?_
              refine L.nil (E.thenN (W.seq (W.region (L.y rfl (Y.move rfl) ?_))))
              refine L.y rfl (Y.move rfl) ?_
              refine L.y rfl (Y.move rfl) ?_
              refine L.m (V := fun _ => el (gv (q10 gx17.toNat) 0) (gx164.toNat * 2)) h rfl (Y.indexM (g := TLock.row) (l := x14.Held) Try.underlying48 sz55 rfl rfl (fun w hw => As.at_ (hw.get (i := 2) rfl))) (fun x95 ex95 h => ?_)
              refine L.y rfl (Y.loadEN (r := [.int .i64 x95.Tx, .int .i64 x95.Mode]) ag55 sz55 rfl (fun w hw => As.at_ (hw.get (i := 2) rfl)) (idx_map ex95) rfl) ?_
              refine L.callVJ (fun v D => ∃ (gu168 : Unit), v = .bool (decide (x95.Tx = a1)) ∧ D = Cls w [] [.obj b15 [.int .i64 x14.Item, (gv (q10 gx17.toNat) 0), (gv (q10 gx17.toNat) 1)] 50, .obj b1 [.int .i64 a1] 3, .sl (gv (q10 gx17.toNat) 0) 55 2 (x14.Held.map TLock.row), .sl (gv (q10 gx17.toNat) 1) 55 2 (x14.Queue.map TLock.row), .sl gv10 50 3 (zr TLockItem.rowv gq12 gl11), .sl gv15 3 1 (gl16.map I), .sl v9 50 3 (zr TLockItem.rowv q10 l8), .ss (zsd TLockItem.sds q10 l8 ((gx17 + 1 : Int).toNat)), .os gc9] ∧ FzA K gc9 (zs TLockItem.sds gq12 gl11) ∧ m7_lock_Drop_K25 x95 a1 x14 gl11 gx17 go1 gl16 gx164 go7 = some r) rfl en30 rfl rfl Try.func30 rfl rfl rfl ?_ ?_
              ·
               refine W.seq (W.region (L.box rfl rfl ?_))
               intro b97
               refine L.y rfl (Y.assign rfl) ?_
               refine L.nil (E.thenN (W.seq (W.region (L.y rfl (Y.fieldP fd55_0 rfl) ?_))))
               refine L.y rfl (Y.loadP (i := 0) ag3 rfl rfl rfl) ?_
               refine L.y rfl (Y.loadP (i := 2) ag3 rfl rfl rfl) ?_
               refine L.y rfl (Y.eql rfl rfl) ?_
               refine L.y rfl (Y.assign rfl) ?_
               refine L.nil (E.thenN (W.ret (E.ret1 rfl rfl (fun w1 hw => ?_))))
               exact ⟨_, _, rfl, ⟨(), rfl, rfl, hG165, h⟩, hw.sel [1, 2, 3, 4, 5, 6, 7, 8, 9] (by decide) rfl⟩
              ·
               rintro _ _ ⟨gu168, rfl, rfl, hG167, h⟩
               rw [m7_lock_Drop_K25] at h
               refine L.nil (E.thenN (W.caseB (q := 16) h rfl (fun h => ?_) (fun h => ?_)))
               ·
                refine W.condT rfl ?_
                refine W.seq (W.region (L.y rfl (Y.move rfl) ?_))
                refine L.y rfl (Y.assign rfl) ?_
                refine L.nil (E.thenN (W.ret (E.blockR (E.thenR (E.KLR (E.blockR (E.KSR (E.ret1 rfl rfl (fun w1 hw => ?_)))))))))
                exact ⟨_, _, rfl, ⟨gx164, (), rfl, rfl, hG167, h⟩, hw⟩
               ·
                refine W.condF rfl ?_
                refine W.skip (E.blockN (E.thenN (W.region (L.m (V := fun x96 => .int .i64 x96) h rfl (Y.addM rfl rfl) (fun x96 ex96 h => ?_)))))
                refine L.y rfl (Y.move rfl) ?_
                exact L.nil (E.againJ ⟨x96, (), rfl, rfl, hG167, by rw [hg7]; exact h⟩ (Nat.lt_succ_self _) ⟨rfl, rfl, rfl, rfl, trivial⟩ (fun _ hw => hw))
             ·
              refine L.nil (E.thenN (W.seq (W.condF rfl ?_)))
              exact W.exit (E.thenX (E.KLX (E.blockX (E.joinJ ⟨(), rfl, rfl, hG165, h⟩ trivial (fun _ hw => hw)))))
            ·
             rintro _ _ ⟨gu161, rfl, rfl, hG160, h⟩
             rw [m7_lock_Drop_K24] at h
             refine W.seq (W.region (L.y rfl (Y.assign rfl) ?_))
             refine L.nil (E.thenN (W.ret (E.ret1 rfl rfl (fun w1 hw => ?_))))
             exact ⟨_, _, rfl, ⟨(-1), (), rfl, rfl, hG160, h⟩, hw⟩
           ·
            rintro _ _ ⟨gx140, gu142, rfl, rfl, hG141, h⟩
            rw [m7_lock_Drop_K19] at h
            refine L.y rfl (Y.assign rfl) ?_
            refine L.nil (E.thenN (W.seqJ (fun gs D => ∃ (gu144 : Unit), gs = [(0, (gv (q10 gx17.toNat) 0)), (1, .func (.func 30) #[] #[pt b1 0]), (5, .int .i64 gx140)] ∧ D = Cls w [] [.obj b15 [.int .i64 x14.Item, (gv (q10 gx17.toNat) 0), (gv (q10 gx17.toNat) 1)] 50, .obj b1 [.int .i64 a1] 3, .sl (gv (q10 gx17.toNat) 0) 55 2 (x14.Held.map TLock.row), .sl (gv (q10 gx17.toNat) 1) 55 2 (x14.Queue.map TLock.row), .sl gv10 50 3 (zr TLockItem.rowv gq12 gl11), .sl gv15 3 1 (gl16.map I), .sl v9 50 3 (zr TLockItem.rowv q10 l8), .ss (zsd TLockItem.sds q10 l8 ((gx17 + 1 : Int).toNat)), .os gc9] ∧ FzA K gc9 (zs TLockItem.sds gq12 gl11) ∧ m7_lock_Drop_K20 gx140 a1 x14 gl11 gx17 go1 gl16 = some r) ?_ ?_))
            ·
             refine W.seq (W.region (L.y rfl (Y.move rfl) ?_))
             refine L.ite h rfl (Y.eql rfl rfl) (fun c93 h => ?_) (fun c93 h => ?_)
             ·
              refine L.nil (E.thenN (W.condT rfl ?_))
              refine W.seq (W.region (L.y rfl (Y.move rfl) ?_))
              refine L.y rfl (Y.assign rfl) ?_
              refine L.nil (E.thenN (W.ret (E.KSR (E.ret1 rfl rfl (fun w1 hw => ?_)))))
              exact ⟨_, _, rfl, ⟨(), (gv (q10 gx17.toNat) 0), x14.Held, rfl, rfl, hG141, h⟩, hw.sel [0, 1, 4, 5, 6, 7, 2, 3, 8] (by decide) rfl⟩
             ·
              refine L.nil (E.thenN (W.condF rfl ?_))
              exact W.skip (E.joinJ ⟨(), rfl, rfl, hG141, h⟩ ⟨rfl, rfl, rfl, trivial⟩ (fun _ hw => hw))
            ·
             rintro _ _ ⟨gu144, rfl, rfl, hG143, h⟩
             rw [m7_lock_Drop_K20] at h
             refine W.seqJ (fun gs D => ∃ (gl145 : (List TLock)) (gx146 : Int) (gu148 : Unit), gs = [(0, (gv (q10 gx17.toNat) 0)), (5, .int .i64 gx146)] ∧ D = Cls w [] [.obj b15 [.int .i64 x14.Item, (gv (q10 gx17.toNat) 0), (gv (q10 gx17.toNat) 1)] 50, .obj b1 [.int .i64 a1] 3, .sl (gv (q10 gx17.toNat) 0) 55 2 (gl145.map TLock.row), .sl (gv (q10 gx17.toNat) 1) 55 2 (x14.Queue.map TLock.row), .sl gv10 50 3 (zr TLockItem.rowv gq12 gl11), .sl gv15 3 1 (gl16.map I), .sl v9 50 3 (zr TLockItem.rowv q10 l8), .ss (zsd TLockItem.sds q10 l8 ((gx17 + 1 : Int).toNat)), .os gc9] ∧ FzA K gc9 (zs TLockItem.sds gq12 gl11) ∧ m7_lock_Drop_K21 x14 a1 gl11 gx17 go1 gl16 gl145 gx146 = some r) ?_ ?_
             ·
              refine W.seq (W.region (L.y rfl (Y.move rfl) ?_))
              refine L.m (V := fun x82 => .int .i64 x82) h rfl (Y.addM rfl rfl) (fun x82 ex82 h => ?_)
              refine L.y rfl (Y.assign rfl) ?_
              refine L.nil (E.thenN (W.block (W.loopJ (fun m gs D => ∃ (gl151 : (List TLock)) (gx152 : Int) (gx153 : Int) (gu155 : Unit), gs = [(0, (gv (q10 gx17.toNat) 0)), (1, .func (.func 30) #[] #[pt b1 0]), (5, .int .i64 gx152), (6, .int .i64 gx153)] ∧ D = Cls w [] [.obj b15 [.int .i64 x14.Item, (gv (q10 gx17.toNat) 0), (gv (q10 gx17.toNat) 1)] 50, .obj b1 [.int .i64 a1] 3, .sl (gv (q10 gx17.toNat) 0) 55 2 (gl151.map TLock.row), .sl (gv (q10 gx17.toNat) 1) 55 2 (x14.Queue.map TLock.row), .sl gv10 50 3 (zr TLockItem.rowv gq12 gl11), .sl gv15 3 1 (gl16.map I), .sl v9 50 3 (zr TLockItem.rowv q10 l8), .ss (zsd TLockItem.sds q10 l8 ((gx17 + 1 : Int).toNat)), .os gc9] ∧ FzA K gc9 (zs TLockItem.sds gq12 gl11) ∧ m7_lock_Drop_L6 a1 x14 gl11 gx17 go1 gl16 m gl151 gx152 gx153 = some r) ⟨x14.Held, gx140, x82, (), rfl, rfl, hG143, h⟩ ⟨rfl, rfl, rfl, rfl, trivial⟩ (fun _ hw => hw) ?_)))
              rintro m _ _ ⟨gl151, gx152, gx153, gu155, rfl, rfl, hG154, h⟩
              rcases m with _ | m
              · rw [m7_lock_Drop_L6] at h; cases h
              rw [m7_lock_Drop_L6] at h
              generalize hg6 : m7_lock_Drop_L6 a1 x14 gl11 gx17 go1 gl16 m = go6 at h
              rw [m7_lock_Drop_L6B] at h
              refine W.seqJ (fun gs D => ∃ (gu157 : Unit), gs = [(0, (gv (q10 gx17.toNat) 0)), (1, .func (.func 30) #[] #[pt b1 0]), (5, .int .i64 gx152), (6, .int .i64 gx153)] ∧ D = Cls w [] [.obj b15 [.int .i64 x14.Item, (gv (q10 gx17.toNat) 0), (gv (q10 gx17.toNat) 1)] 50, .obj b1 [.int .i64 a1] 3, .sl (gv (q10 gx17.toNat) 0) 55 2 (gl151.map TLock.row), .sl (gv (q10 gx17.toNat) 1) 55 2 (x14.Queue.map TLock.row), .sl gv10 50 3 (zr TLockItem.rowv gq12 gl11), .sl gv15 3 1 (gl16.map I), .sl v9 50 3 (zr TLockItem.rowv q10 l8), .ss (zsd TLockItem.sds q10 l8 ((gx17 + 1 : Int).toNat)), .os gc9] ∧ FzA K gc9 (zs TLockItem.sds gq12 gl11) ∧ m7_lock_Drop_K22 gl151 gx153 a1 gx152 go6 = some r) ?_ ?_
              ·
               refine W.seq (W.region (L.y rfl (Y.move rfl) ?_))
               refine L.y rfl (Y.move rfl) ?_
               refine L.y rfl (Y.lenM (g := TLock.row) (l := gl151) Try.underlying48 rfl (fun w hw => As.at_ (hw.get (i := 2) rfl))) ?_
               refine L.ite h rfl (Y.lss rfl rfl) (fun c92 h => ?_) (fun c92 h => ?_)
               ·
                refine L.nil (E.thenN (W.condT rfl ?_))
                exact W.skip (E.joinJ ⟨(), rfl, rfl, hG154, h⟩ ⟨rfl, rfl, rfl, rfl, trivial⟩ (fun _ hw => hw))
               ·
                refine L.nil (E.thenN (W.condF rfl ?_))
                exact W.exit (E.KSX (E.KLX (E.blockX (E.joinJ ⟨gl151, gx152, (), rfl, rfl, hG154, h⟩ ⟨rfl, rfl, trivial⟩ (fun _ hw => hw)))))
              ·
               rintro _ _ ⟨gu157, rfl, rfl, hG156, h⟩
               rw [m7_lock_Drop_K22] at h
               refine W.seq (W.block (W.seq (W.region (L.y rfl (Y.move rfl) ?_))))
               refine L.y rfl (Y.move rfl) ?_
               refine L.m (V := fun _ => el (gv (q10 gx17.toNat) 0) (gx153.toNat * 2)) h rfl (Y.indexM (g := TLock.row) (l := gl151) Try.underlying48 sz55 rfl rfl (fun w hw => As.at_ (hw.get (i := 2) rfl))) (fun x83 ex83 h => ?_)
               refine L.y rfl (Y.loadEN (r := [.int .i64 x83.Tx, .int .i64 x83.Mode]) ag55 sz55 rfl (fun w hw => As.at_ (hw.get (i := 2) rfl)) (idx_map ex83) rfl) ?_
               refine L.alloc rfl ze55 ?_
               intro b84
               refine L.store (i := 0) (vs := [.int .i64 x83.Tx, .int .i64 x83.Mode]) sz55 rfl rfl rfl rfl (by simp [Value.oneCell', Value.cells, st, pt, el]) rfl (Nat.le_of_ble_eq_true rfl) ?_
               refine L.nil (E.thenN (W.seq (W.region (L.y rfl (Y.move rfl) ?_))))
               refine L.y rfl (Y.loadPW (i := 0) ag55 sz55 rfl rfl rfl) ?_
               refine L.callVJ (fun v D => ∃ (gu159 : Unit), v = .bool (decide (x83.Tx = a1)) ∧ D = Cls w [] [.obj b84 [.int .i64 x83.Tx, .int .i64 x83.Mode] 55, .obj b15 [.int .i64 x14.Item, (gv (q10 gx17.toNat) 0), (gv (q10 gx17.toNat) 1)] 50, .obj b1 [.int .i64 a1] 3, .sl (gv (q10 gx17.toNat) 0) 55 2 (gl151.map TLock.row), .sl (gv (q10 gx17.toNat) 1) 55 2 (x14.Queue.map TLock.row), .sl gv10 50 3 (zr TLockItem.rowv gq12 gl11), .sl gv15 3 1 (gl16.map I), .sl v9 50 3 (zr TLockItem.rowv q10 l8), .ss (zsd TLockItem.sds q10 l8 ((gx17 + 1 : Int).toNat)), .os gc9] ∧ FzA K gc9 (zs TLockItem.sds gq12 gl11) ∧ m7_lock_Drop_K23 x83 a1 gl151 gx152 gx153 go6 = some r) rfl en30 rfl rfl Try.func30 rfl rfl rfl ?_ ?_
               ·
                refine W.seq (W.region (L.box rfl rfl ?_))
                intro b91
                refine L.y rfl (Y.assign rfl) ?_
                refine L.nil (E.thenN (W.seq (W.region (L.y rfl (Y.fieldP fd55_0 rfl) ?_))))
                refine L.y rfl (Y.loadP (i := 0) ag3 rfl rfl rfl) ?_
                refine L.y rfl (Y.loadP (i := 3) ag3 rfl rfl rfl) ?_
                refine L.y rfl (Y.eql rfl rfl) ?_
                refine L.y rfl (Y.assign rfl) ?_
                refine L.nil (E.thenN (W.ret (E.ret1 rfl rfl (fun w1 hw => ?_))))
                exact ⟨_, _, rfl, ⟨(), rfl, rfl, hG156, h⟩, hw.sel [1, 2, 3, 4, 5, 6, 7, 8, 9, 10] (by decide) rfl⟩
               ·
                rintro _ _ ⟨gu159, rfl, rfl, hG158, h⟩
                rw [m7_lock_Drop_K23] at h
                refine L.iteB h rfl (Y.not rfl) (fun c85 h => ?_) (fun c85 h => ?_)
                ·
                 refine L.nil (E.thenN (W.condT rfl ?_))
                 refine W.seq (W.region (L.y rfl (Y.move rfl) ?_))
                 refine L.y rfl (Y.move rfl) ?_
                 refine L.y rfl (Y.loadPW (i := 0) ag55 sz55 rfl rfl rfl) ?_
                 refine L.m (V := fun _ => el (gv (q10 gx17.toNat) 0) (gx152.toNat * 2)) h rfl (Y.indexM (g := TLock.row) (l := gl151) Try.underlying48 sz55 rfl rfl (fun w hw => As.at_ (hw.get (i := 3) rfl))) (fun x86 ex86 h => ?_)
                 refine L.storeSlM (q := 3) (row := TLock.row) (vs := [.int .i64 x83.Tx, .int .i64 x83.Mode]) (j := 0) (u1 := x83) h sz55 rfl rfl rfl rfl rfl (all1 rfl (all1 rfl all0)) rfl ex86 rfl rfl ?_
                 intro l87 el87 h
                 refine L.nil (E.thenN (W.region (L.y rfl (Y.move rfl) ?_)))
                 refine L.m (V := fun x88 => .int .i64 x88) h rfl (Y.addM rfl rfl) (fun x88 ex88 h => ?_)
                 refine L.y rfl (Y.assign rfl) ?_
                 refine L.nil (E.blockN (E.thenN (W.region (L.y rfl (Y.move rfl) ?_))))
                 refine L.m (V := fun x89 => .int .i64 x89) h rfl (Y.addM rfl rfl) (fun x89 ex89 h => ?_)
                 refine L.y rfl (Y.assign rfl) ?_
                 exact L.nil (E.againJ ⟨l87, x88, x89, (), rfl, rfl, hG158, by rw [hg6]; exact h⟩ (Nat.lt_succ_self _) ⟨rfl, rfl, rfl, rfl, trivial⟩ (fun _ hw => hw.sel [1, 2, 3, 4, 5, 6, 7, 8, 9] (by decide) rfl))
                ·
                 refine L.nil (E.thenN (W.condF rfl ?_))
                 refine W.skip (E.blockN (E.thenN (W.region (L.y rfl (Y.move rfl) ?_))))
                 refine L.m (V := fun x90 => .int .i64 x90) h rfl (Y.addM rfl rfl) (fun x90 ex90 h => ?_)
                 refine L.y rfl (Y.assign rfl) ?_
                 exact L.nil (E.againJ ⟨gl151, gx152, x90, (), rfl, rfl, hG158, by rw [hg6]; exact h⟩ (Nat.lt_succ_self _) ⟨rfl, rfl, rfl, rfl, trivial⟩ (fun _ hw => hw.sel [1, 2, 3, 4, 5, 6, 7, 8, 9] (by decide) rfl))
             ·
              rintro _ _ ⟨gl145, gx146, gu148, rfl, rfl, hG147, h⟩
              rw [m7_lock_Drop_K21] at h
              refine W.seq (W.region (L.y rfl (Y.move rfl) ?_))
              refine L.y rfl (Y.move rfl) ?_
              refine L.m (V := fun _ => dropv (gv (q10 gx17.toNat) 0) gx146.toNat 2) h rfl (Y.dropM (g := TLock.row) Try.underlying48 sz55 rfl rfl (fun w hw => As.at_ (hw.get (i := 2) rfl))) (fun l78 el78 h => ?_)
              refine L.clearM (i := 2) (g := TLock.row) (z0 := (⟨0, 0⟩ : TLock)) (a := gx146) h Try.underlying48 eL55 ze55 (fun u hu => ((plain_TLock _) : Plain ([(⟨0, 0⟩ : TLock)].map TLock.row)) _ (List.mem_cons_self ..) u hu) rfl rfl ?_
              intro l79 el79 h
              refine L.nil (E.thenN (W.seq (W.region (L.y rfl (Y.move rfl) ?_))))
              refine L.y rfl (Y.move rfl) ?_
              obtain ⟨l80, el80, h⟩ := bind1S h
              refine L.cutM (i := 2) (g := TLock.row) el80 rfl Try.underlying48 sz55 rfl rfl rfl (fun v81 => ?_)
              refine L.y rfl (Y.assign rfl) ?_
              refine L.nil (E.thenN (W.ret (E.ret1 rfl rfl (fun w1 hw => ?_))))
              exact ⟨_, _, rfl, ⟨(), v81, l80, rfl, rfl, hG147, h⟩, hw.sel [0, 1, 4, 5, 6, 7, 2, 3, 8] (by decide) rfl⟩
          ·
           rintro gv105 _ ⟨gu104, _, gl106, rfl, rfl, hG103, h⟩
           rw [m7_lock_Drop_K10] at h
           refine L.nil (E.toV2 (stC [[7]] [Cls w [] [.obj b1 [.int .i64 a1] 3, .sl gv15 3 1 (gl16.map I), .sl v9 50 3 (zr TLockItem.rowv q10 l8), .sl gv105 55 2 (gl106.map TLock.row), .sl (gv (q10 gx17.toNat) 1) 55 2 (x14.Queue.map TLock.row), .os gc9]] (Cls w [] [.obj b1 [.int .i64 a1] 3, .sl gv15 3 1 (gl16.map I), .sl v9 50 3 (zr TLockItem.rowv q10 l8), .sl gv105 55 2 (gl106.map TLock.row), .os gc9])) 3 (by kernel_rfl) (Sc.past rfl (Sc.stay (fun _ hw => hw.sel [4, 0, 1, 2, 5] (by decide) rfl) (Sc.stayD (fun _ hw => hw.sel [0, 1, 2, 4] (by decide) rfl)))) (Sc.now (by kernel_rfl) (fun _ hw => hw.sel [1, 3, 4, 6, 7, 8] (by decide) rfl)) ?_)
           refine V2.eff (i := 5) (by kernel_rfl) rfl ?_
           refine L.y rfl (Y.loadP (i := 0) ag48 rfl rfl rfl) ?_
           refine L.nil (E.toV2 (stC [[7]] [Cls w [] [.obj b1 [.int .i64 a1] 3, .sl gv15 3 1 (gl16.map I), .sl v9 50 3 (zr TLockItem.rowv q10 l8), .sl gv105 55 2 (gl106.map TLock.row), .sl (gv (q10 gx17.toNat) 1) 55 2 (x14.Queue.map TLock.row), .os gc9]] (Cls w [] [.obj b1 [.int .i64 a1] 3, .sl gv15 3 1 (gl16.map I), .sl v9 50 3 (zr TLockItem.rowv q10 l8), .sl gv105 55 2 (gl106.map TLock.row), .os gc9])) 5 (by kernel_rfl) (Sc.stay (fun _ hw => hw) (Sc.stayD (fun _ hw => hw))) (Sc.now (by kernel_rfl) (fun _ hw => hw.sel [1, 3, 4, 6, 7, 8] (by decide) rfl)) ?_)
           refine V2.eff (i := 7) (by kernel_rfl) rfl ?_
           refine L.callJ (fun v D => ∃ (gu108 : Unit) (gv109 : Value) (gl110 : (List TLock)), v = gv109 ∧ D = Cls w [] [.obj b15 [.int .i64 x14.Item, (gv (q10 gx17.toNat) 0), (gv (q10 gx17.toNat) 1)] 50, .obj b1 [.int .i64 a1] 3, .sl gv10 50 3 (zr TLockItem.rowv gq12 gl11), .sl gv15 3 1 (gl16.map I), .sl v9 50 3 (zr TLockItem.rowv q10 l8), .ss (zsd TLockItem.sds q10 l8 ((gx17 + 1 : Int).toNat)), .sl gv105 55 2 (gl106.map TLock.row), .sl gv109 55 2 (gl110.map TLock.row), .os gc9] ∧ FzA K gc9 (zs TLockItem.sds gq12 gl11) ∧ m7_lock_Drop_K11 x14 gl11 gx17 go1 gl16 gl106 gl110 = some r) rfl en31 rfl Try.func31 rfl rfl rfl ?_ ?_
           ·
            refine W.seq (W.region (L.y rfl (Y.assign rfl) ?_))
            refine L.nil (E.thenN (W.seq (W.region (L.y rfl (Y.move rfl) ?_))))
            refine L.y rfl (Y.move rfl) ?_
            refine L.callJ (fun v D => ∃ (gx111 : Int) (gu113 : Unit), v = .int .i64 gx111 ∧ D = Cls w [] [.obj b15 [.int .i64 x14.Item, (gv (q10 gx17.toNat) 0), (gv (q10 gx17.toNat) 1)] 50, .obj b1 [.int .i64 a1] 3, .sl (gv (q10 gx17.toNat) 1) 55 2 (x14.Queue.map TLock.row), .sl gv10 50 3 (zr TLockItem.rowv gq12 gl11), .sl gv15 3 1 (gl16.map I), .sl v9 50 3 (zr TLockItem.rowv q10 l8), .ss (zsd TLockItem.sds q10 l8 ((gx17 + 1 : Int).toNat)), .sl gv105 55 2 (gl106.map TLock.row), .os gc9] ∧ FzA K gc9 (zs TLockItem.sds gq12 gl11) ∧ m7_lock_Drop_K12 x14 gl11 gx17 go1 gl16 gl106 a1 gx111 = some r) rfl en35 rfl Try.func35 rfl rfl rfl ?_ ?_
            ·
             refine W.seq (W.region (L.y rfl (Y.assign rfl) ?_))
             refine L.nil (E.thenN (W.seqJ (fun gs D => ∃ (gu132 : Unit), gs = [] ∧ D = Cls w [] [.obj b15 [.int .i64 x14.Item, (gv (q10 gx17.toNat) 0), (gv (q10 gx17.toNat) 1)] 50, .obj b1 [.int .i64 a1] 3, .sl (gv (q10 gx17.toNat) 1) 55 2 (x14.Queue.map TLock.row), .sl gv10 50 3 (zr TLockItem.rowv gq12 gl11), .sl gv15 3 1 (gl16.map I), .sl v9 50 3 (zr TLockItem.rowv q10 l8), .ss (zsd TLockItem.sds q10 l8 ((gx17 + 1 : Int).toNat)), .sl gv105 55 2 (gl106.map TLock.row), .os gc9] ∧ FzA K gc9 (zs TLockItem.sds gq12 gl11) ∧ m7_lock_Drop_K17 x14 gl11 gx17 go1 gl16 gl106 a1 = some r) ?_ ?_))
             ·
              refine W.seq (W.region (L.y rfl (Y.move rfl) ?_))
              refine L.y rfl (Y.lenM (g := TLock.row) (l := x14.Queue) Try.underlying48 rfl (fun w hw => As.at_ (hw.get (i := 7) rfl))) ?_
              refine L.y rfl (Y.move rfl) ?_
              refine L.nil (E.thenN (W.block (W.loopJ (fun m gs D => ∃ (gx135 : Int) (gu137 : Unit), gs = [(0, (gv (q10 gx17.toNat) 1)), (1, .func (.func 30) #[] #[pt b1 0]), (7, .int .i64 (x14.Queue.length : Int)), (8, .int .i64 gx135)] ∧ D = Cls w [] [.obj b15 [.int .i64 x14.Item, (gv (q10 gx17.toNat) 0), (gv (q10 gx17.toNat) 1)] 50, .obj b1 [.int .i64 a1] 3, .sl (gv (q10 gx17.toNat) 1) 55 2 (x14.Queue.map TLock.row), .sl gv10 50 3 (zr TLockItem.rowv gq12 gl11), .sl gv15 3 1 (gl16.map I), .sl v9 50 3 (zr TLockItem.rowv q10 l8), .ss (zsd TLockItem.sds q10 l8 ((gx17 + 1 : Int).toNat)), .sl gv105 55 2 (gl106.map TLock.row), .os gc9] ∧ FzA K gc9 (zs TLockItem.sds gq12 gl11) ∧ m7_lock_Drop_L5 x14 a1 gl11 gx17 go1 gl16 gl106 m gx135 = some r) ⟨0, (), rfl, rfl, hG103, h⟩ ⟨rfl, rfl, rfl, rfl, trivial⟩ (fun _ hw => hw.sel [0, 1, 7, 2, 3, 4, 5, 6, 8] (by decide) rfl) ?_)))
              rintro m _ _ ⟨gx135, gu137, rfl, rfl, hG136, h⟩
              rcases m with _ | m
              · rw [m7_lock_Drop_L5] at h; cases h
              rw [m7_lock_Drop_L5] at h
              generalize hg5 : m7_lock_Drop_L5 x14 a1 gl11 gx17 go1 gl16 gl106 m = go5 at h
              rw [m7_lock_Drop_L5B] at h
              refine W.seq (W.region (L.ite h rfl (Y.lss rfl rfl) (fun c74 h => ?_) (fun c74 h => ?_)))
              ·
               refine L.nil (E.thenN (W.seq (W.condT rfl ?_)))
               refine W.skip (E.thenN (W.seq (W.block (W.seq (W.region (L.y rfl (Y.move rfl) ?_))))))
               refine L.y rfl (Y.assign rfl) ?_
               refine L.nil (E.thenN (W.seq (W.region (L.y rfl (Y.move rfl) ?_))))
               refine L.y rfl (Y.move rfl) ?_
               refine L.y rfl (Y.move rfl) ?_
               refine L.m (V := fun _ => el (gv (q10 gx17.toNat) 1) (gx135.toNat * 2)) h rfl (Y.indexM (g := TLock.row) (l := x14.Queue) Try.underlying48 sz55 rfl rfl (fun w hw => As.at_ (hw.get (i := 2) rfl))) (fun x75 ex75 h => ?_)
               refine L.y rfl (Y.loadEN (r := [.int .i64 x75.Tx, .int .i64 x75.Mode]) ag55 sz55 rfl (fun w hw => As.at_ (hw.get (i := 2) rfl)) (idx_map ex75) rfl) ?_
               refine L.callVJ (fun v D => ∃ (gu139 : Unit), v = .bool (decide (x75.Tx = a1)) ∧ D = Cls w [] [.obj b15 [.int .i64 x14.Item, (gv (q10 gx17.toNat) 0), (gv (q10 gx17.toNat) 1)] 50, .obj b1 [.int .i64 a1] 3, .sl (gv (q10 gx17.toNat) 1) 55 2 (x14.Queue.map TLock.row), .sl gv10 50 3 (zr TLockItem.rowv gq12 gl11), .sl gv15 3 1 (gl16.map I), .sl v9 50 3 (zr TLockItem.rowv q10 l8), .ss (zsd TLockItem.sds q10 l8 ((gx17 + 1 : Int).toNat)), .sl gv105 55 2 (gl106.map TLock.row), .os gc9] ∧ FzA K gc9 (zs TLockItem.sds gq12 gl11) ∧ m7_lock_Drop_K18 x75 a1 x14 gl11 gx17 go1 gl16 gl106 gx135 go5 = some r) rfl en30 rfl rfl Try.func30 rfl rfl rfl ?_ ?_
               ·
                refine W.seq (W.region (L.box rfl rfl ?_))
                intro b77
                refine L.y rfl (Y.assign rfl) ?_
                refine L.nil (E.thenN (W.seq (W.region (L.y rfl (Y.fieldP fd55_0 rfl) ?_))))
                refine L.y rfl (Y.loadP (i := 0) ag3 rfl rfl rfl) ?_
                refine L.y rfl (Y.loadP (i := 2) ag3 rfl rfl rfl) ?_
                refine L.y rfl (Y.eql rfl rfl) ?_
                refine L.y rfl (Y.assign rfl) ?_
                refine L.nil (E.thenN (W.ret (E.ret1 rfl rfl (fun w1 hw => ?_))))
                exact ⟨_, _, rfl, ⟨(), rfl, rfl, hG136, h⟩, hw.sel [1, 2, 3, 4, 5, 6, 7, 8, 9] (by decide) rfl⟩
               ·
                rintro _ _ ⟨gu139, rfl, rfl, hG138, h⟩
                rw [m7_lock_Drop_K18] at h
                refine L.nil (E.thenN (W.caseB (q := 16) h rfl (fun h => ?_) (fun h => ?_)))
                ·
                 refine W.condT rfl ?_
                 refine W.seq (W.region (L.y rfl (Y.move rfl) ?_))
                 refine L.y rfl (Y.assign rfl) ?_
                 refine L.nil (E.thenN (W.ret (E.blockR (E.thenR (E.KLR (E.blockR (E.KSR (E.ret1 rfl rfl (fun w1 hw => ?_)))))))))
                 exact ⟨_, _, rfl, ⟨gx135, (), rfl, rfl, hG138, h⟩, hw⟩
                ·
                 refine W.condF rfl ?_
                 refine W.skip (E.blockN (E.thenN (W.region (L.m (V := fun x76 => .int .i64 x76) h rfl (Y.addM rfl rfl) (fun x76 ex76 h => ?_)))))
                 refine L.y rfl (Y.move rfl) ?_
                 exact L.nil (E.againJ ⟨x76, (), rfl, rfl, hG138, by rw [hg5]; exact h⟩ (Nat.lt_succ_self _) ⟨rfl, rfl, rfl, rfl, trivial⟩ (fun _ hw => hw))
              ·
               refine L.nil (E.thenN (W.seq (W.condF rfl ?_)))
               exact W.exit (E.thenX (E.KLX (E.blockX (E.joinJ ⟨(), rfl, rfl, hG136, h⟩ trivial (fun _ hw => hw)))))
             ·
              rintro _ _ ⟨gu132, rfl, rfl, hG131, h⟩
              rw [m7_lock_Drop_K17] at h
              refine W.seq (W.region (L.y rfl (Y.assign rfl) ?_))
              refine L.nil (E.thenN (W.ret (E.ret1 rfl rfl (fun w1 hw => ?_))))
              exact ⟨_, _, rfl, ⟨(-1), (), rfl, rfl, hG131, h⟩, hw⟩
            ·
             rintro _ _ ⟨gx111, gu113, rfl, rfl, hG112, h⟩
             rw [m7_lock_Drop_K12] at h
             refine L.y rfl (Y.assign rfl) ?_
             refine L.nil (E.thenN (W.seqJ (fun gs D => ∃ (gu115 : Unit), gs = [(0, (gv (q10 gx17.toNat) 1)), (1, .func (.func 30) #[] #[pt b1 0]), (5, .int .i64 gx111)] ∧ D = Cls w [] [.obj b15 [.int .i64 x14.Item, (gv (q10 gx17.toNat) 0), (gv (q10 gx17.toNat) 1)] 50, .obj b1 [.int .i64 a1] 3, .sl (gv (q10 gx17.toNat) 1) 55 2 (x14.Queue.map TLock.row), .sl gv10 50 3 (zr TLockItem.rowv gq12 gl11), .sl gv15 3 1 (gl16.map I), .sl v9 50 3 (zr TLockItem.rowv q10 l8), .ss (zsd TLockItem.sds q10 l8 ((gx17 + 1 : Int).toNat)), .sl gv105 55 2 (gl106.map TLock.row), .os gc9] ∧ FzA K gc9 (zs TLockItem.sds gq12 gl11) ∧ m7_lock_Drop_K13 gx111 a1 x14 gl11 gx17 go1 gl16 gl106 = some r) ?_ ?_))
             ·
              refine W.seq (W.region (L.y rfl (Y.move rfl) ?_))
              refine L.ite h rfl (Y.eql rfl rfl) (fun c73 h => ?_) (fun c73 h => ?_)
              ·
               refine L.nil (E.thenN (W.condT rfl ?_))
               refine W.seq (W.region (L.y rfl (Y.move rfl) ?_))
               refine L.y rfl (Y.assign rfl) ?_
               refine L.nil (E.thenN (W.ret (E.KSR (E.ret1 rfl rfl (fun w1 hw => ?_)))))
               exact ⟨_, _, rfl, ⟨(), (gv (q10 gx17.toNat) 1), x14.Queue, rfl, rfl, hG112, h⟩, hw.sel [0, 1, 3, 4, 5, 6, 7, 2, 8] (by decide) rfl⟩
              ·
               refine L.nil (E.thenN (W.condF rfl ?_))
               exact W.skip (E.joinJ ⟨(), rfl, rfl, hG112, h⟩ ⟨rfl, rfl, rfl, trivial⟩ (fun _ hw => hw))
             ·
              rintro _ _ ⟨gu115, rfl, rfl, hG114, h⟩
              rw [m7_lock_Drop_K13] at h
              refine W.seqJ (fun gs D => ∃ (gl116 : (List TLock)) (gx117 : Int) (gu119 : Unit), gs = [(0, (gv (q10 gx17.toNat) 1)), (5, .int .i64 gx117)] ∧ D = Cls w [] [.obj b15 [.int .i64 x14.Item, (gv (q10 gx17.toNat) 0), (gv (q10 gx17.toNat) 1)] 50, .obj b1 [.int .i64 a1] 3, .sl (gv (q10 gx17.toNat) 1) 55 2 (gl116.map TLock.row), .sl gv10 50 3 (zr TLockItem.rowv gq12 gl11), .sl gv15 3 1 (gl16.map I), .sl v9 50 3 (zr TLockItem.rowv q10 l8), .ss (zsd TLockItem.sds q10 l8 ((gx17 + 1 : Int).toNat)), .sl gv105 55 2 (gl106.map TLock.row), .os gc9] ∧ FzA K gc9 (zs TLockItem.sds gq12 gl11) ∧ m7_lock_Drop_K14 x14 gl11 gx17 go1 gl16 gl106 gl116 gx117 = some r) ?_ ?_
              ·
               refine W.seq (W.region (L.y rfl (Y.move rfl) ?_))
               refine L.m (V := fun x62 => .int .i64 x62) h rfl (Y.addM rfl rfl) (fun x62 ex62 h => ?_)
               refine L.y rfl (Y.assign rfl) ?_
               refine L.nil (E.thenN (W.block (W.loopJ (fun m gs D => ∃ (gl122 : (List TLock)) (gx123 : Int) (gx124 : Int) (gu126 : Unit), gs = [(0, (gv (q10 gx17.toNat) 1)), (1, .func (.func 30) #[] #[pt b1 0]), (5, .int .i64 gx123), (6, .int .i64 gx124)] ∧ D = Cls w [] [.obj b15 [.int .i64 x14.Item, (gv (q10 gx17.toNat) 0), (gv (q10 gx17.toNat) 1)] 50, .obj b1 [.int .i64 a1] 3, .sl (gv (q10 gx17.toNat) 1) 55 2 (gl122.map TLock.row), .sl gv10 50 3 (zr TLockItem.rowv gq12 gl11), .sl gv15 3 1 (gl16.map I), .sl v9 50 3 (zr TLockItem.rowv q10 l8), .ss (zsd TLockItem.sds q10 l8 ((gx17 + 1 : Int).toNat)), .sl gv105 55 2 (gl106.map TLock.row), .os gc9] ∧ FzA K gc9 (zs TLockItem.sds gq12 gl11) ∧ m7_lock_Drop_L4 a1 x14 gl11 gx17 go1 gl16 gl106 m gl122 gx123 gx124 = some r) ⟨x14.Queue, gx111, x62, (), rfl, rfl, hG114, h⟩ ⟨rfl, rfl, rfl, rfl, trivial⟩ (fun _ hw => hw) ?_)))
               rintro m _ _ ⟨gl122, gx123, gx124, gu126, rfl, rfl, hG125, h⟩
               rcases m with _ | m
               · rw [m7_lock_Drop_L4] at h; cases h
               rw [m7_lock_Drop_L4] at h
               generalize hg4 : m7_lock_Drop_L4 a1 x14 gl11 gx17 go1 gl16 gl106 m = go4 at h
               rw [m7_lock_Drop_L4B] at h
               refine W.seqJ (fun gs D => ∃ (gu128 : Unit), gs = [(0, (gv (q10 gx17.toNat) 1)), (1, .func (.func 30) #[] #[pt b1 0]), (5, .int .i64 gx123), (6, .int .i64 gx124)] ∧ D = Cls w [] [.obj b15 [.int .i64 x14.Item, (gv (q10 gx17.toNat) 0), (gv (q10 gx17.toNat) 1)] 50, .obj b1 [.int .i64 a1] 3, .sl (gv (q10 gx17.toNat) 1) 55 2 (gl122.map TLock.row), .sl gv10 50 3 (zr TLockItem.rowv gq12 gl11), .sl gv15 3 1 (gl16.map I), .sl v9 50 3 (zr TLockItem.rowv q10 l8), .ss (zsd TLockItem.sds q10 l8 ((gx17 + 1 : Int).toNat)), .sl gv105 55 2 (gl106.map TLock.row), .os gc9] ∧ FzA K gc9 (zs TLockItem.sds gq12 gl11) ∧ m7_lock_Drop_K15 gl122 gx124 a1 gx123 go4 = some r) ?_ ?_
               ·
                refine W.seq (W.region (L.y rfl (Y.move rfl) ?_))
                refine L.y rfl (Y.move rfl) ?_
                refine L.y rfl (Y.lenM (g := TLock.row) (l := gl122) Try.underlying48 rfl (fun w hw => As.at_ (hw.get (i := 2) rfl))) ?_
                refine L.ite h rfl (Y.lss rfl rfl) (fun c72 h => ?_) (fun c72 h => ?_)
                ·
                 refine L.nil (E.thenN (W.condT rfl ?_))
                 exact W.skip (E.joinJ ⟨(), rfl, rfl, hG125, h⟩ ⟨rfl, rfl, rfl, rfl, trivial⟩ (fun _ hw => hw))
                ·
                 refine L.nil (E.thenN (W.condF rfl ?_))
                 exact W.exit (E.KSX (E.KLX (E.blockX (E.joinJ ⟨gl122, gx123, (), rfl, rfl, hG125, h⟩ ⟨rfl, rfl, trivial⟩ (fun _ hw => hw)))))
               ·
                rintro _ _ ⟨gu128, rfl, rfl, hG127, h⟩
                rw [m7_lock_Drop_K15] at h
                refine W.seq (W.block (W.seq (W.region (L.y rfl (Y.move rfl) ?_))))
                refine L.y rfl (Y.move rfl) ?_
                refine L.m (V := fun _ => el (gv (q10 gx17.toNat) 1) (gx124.toNat * 2)) h rfl (Y.indexM (g := TLock.row) (l := gl122) Try.underlying48 sz55 rfl rfl (fun w hw => As.at_ (hw.get (i := 2) rfl))) (fun x63 ex63 h => ?_)
                refine L.y rfl (Y.loadEN (r := [.int .i64 x63.Tx, .int .i64 x63.Mode]) ag55 sz55 rfl (fun w hw => As.at_ (hw.get (i := 2) rfl)) (idx_map ex63) rfl) ?_
                refine L.alloc rfl ze55 ?_
                intro b64
                refine L.store (i := 0) (vs := [.int .i64 x63.Tx, .int .i64 x63.Mode]) sz55 rfl rfl rfl rfl (by simp [Value.oneCell', Value.cells, st, pt, el]) rfl (Nat.le_of_ble_eq_true rfl) ?_
                refine L.nil (E.thenN (W.seq (W.region (L.y rfl (Y.move rfl) ?_))))
                refine L.y rfl (Y.loadPW (i := 0) ag55 sz55 rfl rfl rfl) ?_
                refine L.callVJ (fun v D => ∃ (gu130 : Unit), v = .bool (decide (x63.Tx = a1)) ∧ D = Cls w [] [.obj b64 [.int .i64 x63.Tx, .int .i64 x63.Mode] 55, .obj b15 [.int .i64 x14.Item, (gv (q10 gx17.toNat) 0), (gv (q10 gx17.toNat) 1)] 50, .obj b1 [.int .i64 a1] 3, .sl (gv (q10 gx17.toNat) 1) 55 2 (gl122.map TLock.row), .sl gv10 50 3 (zr TLockItem.rowv gq12 gl11), .sl gv15 3 1 (gl16.map I), .sl v9 50 3 (zr TLockItem.rowv q10 l8), .ss (zsd TLockItem.sds q10 l8 ((gx17 + 1 : Int).toNat)), .sl gv105 55 2 (gl106.map TLock.row), .os gc9] ∧ FzA K gc9 (zs TLockItem.sds gq12 gl11) ∧ m7_lock_Drop_K16 x63 a1 gl122 gx123 gx124 go4 = some r) rfl en30 rfl rfl Try.func30 rfl rfl rfl ?_ ?_
                ·
                 refine W.seq (W.region (L.box rfl rfl ?_))
                 intro b71
                 refine L.y rfl (Y.assign rfl) ?_
                 refine L.nil (E.thenN (W.seq (W.region (L.y rfl (Y.fieldP fd55_0 rfl) ?_))))
                 refine L.y rfl (Y.loadP (i := 0) ag3 rfl rfl rfl) ?_
                 refine L.y rfl (Y.loadP (i := 3) ag3 rfl rfl rfl) ?_
                 refine L.y rfl (Y.eql rfl rfl) ?_
                 refine L.y rfl (Y.assign rfl) ?_
                 refine L.nil (E.thenN (W.ret (E.ret1 rfl rfl (fun w1 hw => ?_))))
                 exact ⟨_, _, rfl, ⟨(), rfl, rfl, hG127, h⟩, hw.sel [1, 2, 3, 4, 5, 6, 7, 8, 9, 10] (by decide) rfl⟩
                ·
                 rintro _ _ ⟨gu130, rfl, rfl, hG129, h⟩
                 rw [m7_lock_Drop_K16] at h
                 refine L.iteB h rfl (Y.not rfl) (fun c65 h => ?_) (fun c65 h => ?_)
                 ·
                  refine L.nil (E.thenN (W.condT rfl ?_))
                  refine W.seq (W.region (L.y rfl (Y.move rfl) ?_))
                  refine L.y rfl (Y.move rfl) ?_
                  refine L.y rfl (Y.loadPW (i := 0) ag55 sz55 rfl rfl rfl) ?_
                  refine L.m (V := fun _ => el (gv (q10 gx17.toNat) 1) (gx123.toNat * 2)) h rfl (Y.indexM (g := TLock.row) (l := gl122) Try.underlying48 sz55 rfl rfl (fun w hw => As.at_ (hw.get (i := 3) rfl))) (fun x66 ex66 h => ?_)
                  refine L.storeSlM (q := 3) (row := TLock.row) (vs := [.int .i64 x63.Tx, .int .i64 x63.Mode]) (j := 0) (u1 := x63) h sz55 rfl rfl rfl rfl rfl (all1 rfl (all1 rfl all0)) rfl ex66 rfl rfl ?_
                  intro l67 el67 h
                  refine L.nil (E.thenN (W.region (L.y rfl (Y.move rfl) ?_)))
                  refine L.m (V := fun x68 => .int .i64 x68) h rfl (Y.addM rfl rfl) (fun x68 ex68 h => ?_)
                  refine L.y rfl (Y.assign rfl) ?_
                  refine L.nil (E.blockN (E.thenN (W.region (L.y rfl (Y.move rfl) ?_))))
                  refine L.m (V := fun x69 => .int .i64 x69) h rfl (Y.addM rfl rfl) (fun x69 ex69 h => ?_)
                  refine L.y rfl (Y.assign rfl) ?_
                  exact L.nil (E.againJ ⟨l67, x68, x69, (), rfl, rfl, hG129, by rw [hg4]; exact h⟩ (Nat.lt_succ_self _) ⟨rfl, rfl, rfl, rfl, trivial⟩ (fun _ hw => hw.sel [1, 2, 3, 4, 5, 6, 7, 8, 9] (by decide) rfl))
                 ·
                  refine L.nil (E.thenN (W.condF rfl ?_))
                  refine W.skip (E.blockN (E.thenN (W.region (L.y rfl (Y.move rfl) ?_))))
                  refine L.m (V := fun x70 => .int .i64 x70) h rfl (Y.addM rfl rfl) (fun x70 ex70 h => ?_)
                  refine L.y rfl (Y.assign rfl) ?_
                  exact L.nil (E.againJ ⟨gl122, gx123, x70, (), rfl, rfl, hG129, by rw [hg4]; exact h⟩ (Nat.lt_succ_self _) ⟨rfl, rfl, rfl, rfl, trivial⟩ (fun _ hw => hw.sel [1, 2, 3, 4, 5, 6, 7, 8, 9] (by decide) rfl))
              ·
               rintro _ _ ⟨gl116, gx117, gu119, rfl, rfl, hG118, h⟩
               rw [m7_lock_Drop_K14] at h
               refine W.seq (W.region (L.y rfl (Y.move rfl) ?_))
               refine L.y rfl (Y.move rfl) ?_
               refine L.m (V := fun _ => dropv (gv (q10 gx17.toNat) 1) gx117.toNat 2) h rfl (Y.dropM (g := TLock.row) Try.underlying48 sz55 rfl rfl (fun w hw => As.at_ (hw.get (i := 2) rfl))) (fun l58 el58 h => ?_)
               refine L.clearM (i := 2) (g := TLock.row) (z0 := (⟨0, 0⟩ : TLock)) (a := gx117) h Try.underlying48 eL55 ze55 (fun u hu => ((plain_TLock _) : Plain ([(⟨0, 0⟩ : TLock)].map TLock.row)) _ (List.mem_cons_self ..) u hu) rfl rfl ?_
               intro l59 el59 h
               refine L.nil (E.thenN (W.seq (W.region (L.y rfl (Y.move rfl) ?_))))
               refine L.y rfl (Y.move rfl) ?_
               obtain ⟨l60, el60, h⟩ := bind1S h
               refine L.cutM (i := 2) (g := TLock.row) el60 rfl Try.underlying48 sz55 rfl rfl rfl (fun v61 => ?_)
               refine L.y rfl (Y.assign rfl) ?_
               refine L.nil (E.thenN (W.ret (E.ret1 rfl rfl (fun w1 hw => ?_))))
               exact ⟨_, _, rfl, ⟨(), v61, l60, rfl, rfl, hG118, h⟩, hw.sel [0, 1, 3, 4, 5, 6, 7, 2, 8] (by decide) rfl⟩
           ·
            rintro gv109 _ ⟨gu108, _, gl110, rfl, rfl, hG107, h⟩
            rw [m7_lock_Drop_K11] at h
            refine L.nil (E.toV2 (stC [] [] (Cls w [] [.obj b1 [.int .i64 a1] 3, .sl gv15 3 1 (gl16.map I), .sl v9 50 3 (zr TLockItem.rowv q10 l8), .sl gv105 55 2 (gl106.map TLock.row), .sl gv109 55 2 (gl110.map TLock.row), .os gc9])) 7 (by kernel_rfl) (Sc.past rfl (Sc.stayD (fun _ hw => hw.sel [0, 1, 2, 3, 5] (by decide) rfl))) (Sc.atD (fun _ hw => hw.sel [1, 3, 4, 6, 7, 8] (by decide) rfl)) ?_)
            refine V2.y (i := 8) (Nx2.of (Z := Cls w [] [.obj b1 [.int .i64 a1] 3, .sl gv15 3 1 (gl16.map I), .sl v9 50 3 (zr TLockItem.rowv q10 l8), .sl gv105 55 2 (gl106.map TLock.row), .sl gv109 55 2 (gl110.map TLock.row), .os gc9]) [] (by kernel_rfl) rfl (Zc.fin (fun _ hw => hw))) rfl rfl rfl (Y.fieldP fd50_1 rfl) ?_
            refine V2.eff (i := 9) (by kernel_rfl) rfl ?_
            refine L.storeV (i := 0) sz48 rfl rfl (fun _ hw => (As.at_ (hw.get (i := 6) rfl)).one) rfl (Nat.le_of_ble_eq_true rfl) ?_
            refine L.nil (E.toV2 (stC [] [] (Cls w [] [.obj b1 [.int .i64 a1] 3, .sl gv15 3 1 (gl16.map I), .sl v9 50 3 (zr TLockItem.rowv q10 l8), .sl gv105 55 2 (gl106.map TLock.row), .sl gv109 55 2 (gl110.map TLock.row), .os gc9])) 9 (by kernel_rfl) (Sc.stayD (fun _ hw => hw)) (Sc.atD (fun _ hw => hw.sel [1, 3, 4, 6, 7, 8] (by decide) rfl)) ?_)
            refine V2.y (i := 10) (Nx2.of (Z := Cls w [] [.obj b1 [.int .i64 a1] 3, .sl gv15 3 1 (gl16.map I), .sl v9 50 3 (zr TLockItem.rowv q10 l8), .sl gv105 55 2 (gl106.map TLock.row), .sl gv109 55 2 (gl110.map TLock.row), .os gc9]) [] (by kernel_rfl) rfl (Zc.fin (fun _ hw => hw))) rfl rfl rfl (Y.fieldP fd50_2 rfl) ?_
            refine V2.eff (i := 11) (by kernel_rfl) rfl ?_
            refine L.storeV (i := 0) sz48 rfl rfl (fun _ hw => (As.at_ (hw.get (i := 7) rfl)).one) rfl (Nat.le_of_ble_eq_true rfl) ?_
            refine L.nil (E.toV2 (stC [] [] (Cls w [] [.obj b1 [.int .i64 a1] 3, .sl gv15 3 1 (gl16.map I), .sl v9 50 3 (zr TLockItem.rowv q10 l8), .sl gv105 55 2 (gl106.map TLock.row), .sl gv109 55 2 (gl110.map TLock.row), .os gc9])) 11 (by kernel_rfl) (Sc.stayD (fun _ hw => hw)) (Sc.atD (fun _ hw => hw.sel [1, 3, 4, 6, 7, 8] (by decide) rfl)) ?_)
            refine V2.done (by kernel_rfl) ?_
            exact E.joinJ ⟨(), gv105, gl106, gv109, gl110, rfl, rfl, hG107, h⟩ ⟨rfl, rfl, rfl, rfl, rfl, rfl, rfl, trivial⟩ (fun _ hw => hw)
         ·
          refine L.y rfl (Y.loadP (i := 0) ag48 rfl rfl rfl) ?_
          refine L.nil (E.toV2 (stC [[3, 7], [7]] [Cls w [] [.obj b15 [.int .i64 x14.Item, (gv (q10 gx17.toNat) 0), (gv (q10 gx17.toNat) 1)] 50, .sl (gv (q10 gx17.toNat) 0) 55 2 (x14.Held.map TLock.row), .sl (gv (q10 gx17.toNat) 1) 55 2 (x14.Queue.map TLock.row), .ss (zsd TLockItem.sds q10 l8 ((gx17 + 1 : Int).toNat)), .obj b1 [.int .i64 a1] 3, .sl gv10 50 3 (zr TLockItem.rowv gq12 gl11), .sl gv15 3 1 (gl16.map I), .sl v9 50 3 (zr TLockItem.rowv q10 l8), .os gc9], Cls w [] [.sl (gv (q10 gx17.toNat) 1) 55 2 (x14.Queue.map TLock.row), .obj b1 [.int .i64 a1] 3, .sl gv15 3 1 (gl16.map I), .sl v9 50 3 (zr TLockItem.rowv q10 l8), .os gc9]] (Cls w [] [.obj b1 [.int .i64 a1] 3, .sl gv15 3 1 (gl16.map I), .sl v9 50 3 (zr TLockItem.rowv q10 l8), .os gc9])) 5 (by kernel_rfl) (Sc.stay (fun _ hw => hw) (Sc.stay (fun _ hw => hw) (Sc.stayD (fun _ hw => hw)))) (Sc.now (by kernel_rfl) (fun _ hw => hw)) ?_)
          refine V2.eff (i := 3) (by kernel_rfl) rfl ?_
          refine L.callJ (fun v D => ∃ (gu170 : Unit) (gv171 : Value) (gl172 : (List TLock)), v = gv171 ∧ D = Cls w [] [.obj b15 [.int .i64 x14.Item, (gv (q10 gx17.toNat) 0), (gv (q10 gx17.toNat) 1)] 50, .obj b1 [.int .i64 a1] 3, .sl gv10 50 3 (zr TLockItem.rowv gq12 gl11), .sl gv15 3 1 (gl16.map I), .sl v9 50 3 (zr TLockItem.rowv q10 l8), .ss (zsd TLockItem.sds q10 l8 ((gx17 + 1 : Int).toNat)), .sl (gv (q10 gx17.toNat) 1) 55 2 (x14.Queue.map TLock.row), .sl gv171 55 2 (gl172.map TLock.row), .os gc9] ∧ FzA K gc9 (zs TLockItem.sds gq12 gl11) ∧ m7_lock_Drop_K10 x14 a1 gl11 gx17 go1 gl16 gl172 = some r) rfl en31 rfl Try.func31 rfl rfl rfl ?_ ?_
          ·
           refine W.seq (W.region (L.y rfl (Y.assign rfl) ?_))
           refine L.nil (E.thenN (W.seq (W.region (L.y rfl (Y.move rfl) ?_))))
           refine L.y rfl (Y.move rfl) ?_
           refine L.callJ (fun v D => ∃ (gx206 : Int) (gu208 : Unit), v = .int .i64 gx206 ∧ D = Cls w [] [.obj b15 [.int .i64 x14.Item, (gv (q10 gx17.toNat) 0), (gv (q10 gx17.toNat) 1)] 50, .obj b1 [.int .i64 a1] 3, .sl (gv (q10 gx17.toNat) 0) 55 2 (x14.Held.map TLock.row), .sl (gv (q10 gx17.toNat) 1) 55 2 (x14.Queue.map TLock.row), .sl gv10 50 3 (zr TLockItem.rowv gq12 gl11), .sl gv15 3 1 (gl16.map I), .sl v9 50 3 (zr TLockItem.rowv q10 l8), .ss (zsd TLockItem.sds q10 l8 ((gx17 + 1 : Int).toNat)), .os gc9] ∧ FzA K gc9 (zs TLockItem.sds gq12 gl11) ∧ m7_lock_Drop_K19 x14 a1 gl11 gx17 go1 gl16 gx206 = some r) rfl en35 rfl Try.func35 rfl rfl rfl ?_ ?_
           ·
            refine W.seq (W.region (L.y rfl (Y.assign rfl) ?_))
            refine L.nil (E.thenN (W.seqJ (fun gs D => ∃ (gu227 : Unit), gs = [] ∧ D = Cls w [] [.obj b15 [.int .i64 x14.Item, (gv (q10 gx17.toNat) 0), (gv (q10 gx17.toNat) 1)] 50, .obj b1 [.int .i64 a1] 3, .sl (gv (q10 gx17.toNat) 0) 55 2 (x14.Held.map TLock.row), .sl (gv (q10 gx17.toNat) 1) 55 2 (x14.Queue.map TLock.row), .sl gv10 50 3 (zr TLockItem.rowv gq12 gl11), .sl gv15 3 1 (gl16.map I), .sl v9 50 3 (zr TLockItem.rowv q10 l8), .ss (zsd TLockItem.sds q10 l8 ((gx17 + 1 : Int).toNat)), .os gc9] ∧ FzA K gc9 (zs TLockItem.sds gq12 gl11) ∧ m7_lock_Drop_K24 x14 a1 gl11 gx17 go1 gl16 = some r) ?_ ?_))
            ·
             refine W.seq (W.region (L.y rfl (Y.move rfl) ?_))
             refine L.y rfl (Y.lenM (g := TLock.row) (l := x14.Held) Try.underlying48 rfl (fun w hw => As.at_ (hw.get (i := 1) rfl))) ?_
             refine L.y rfl (Y.move rfl) ?_
             refine L.nil (E.thenN (W.block (W.loopJ (fun m gs D => ∃ (gx230 : Int) (gu232 : Unit), gs = [(0, (gv (q10 gx17.toNat) 0)), (1, .func (.func 30) #[] #[pt b1 0]), (7, .int .i64 (x14.Held.length : Int)), (8, .int .i64 gx230)] ∧ D = Cls w [] [.obj b15 [.int .i64 x14.Item, (gv (q10 gx17.toNat) 0), (gv (q10 gx17.toNat) 1)] 50, .obj b1 [.int .i64 a1] 3, .sl (gv (q10 gx17.toNat) 0) 55 2 (x14.Held.map TLock.row), .sl (gv (q10 gx17.toNat) 1) 55 2 (x14.Queue.map TLock.row), .sl gv10 50 3 (zr TLockItem.rowv gq12 gl11), .sl gv15 3 1 (gl16.map I), .sl v9 50 3 (zr TLockItem.rowv q10 l8), .ss (zsd TLockItem.sds q10 l8 ((gx17 + 1 : Int).toNat)), .os gc9] ∧ FzA K gc9 (zs TLockItem.sds gq12 gl11) ∧ m7_lock_Drop_L7 x14 a1 gl11 gx17 go1 gl16 m gx230 = some r) ⟨0, (), rfl, rfl, hG13, h⟩ ⟨rfl, rfl, rfl, rfl, trivial⟩ (fun _ hw => hw.sel [0, 4, 1, 2, 5, 6, 7, 3, 8] (by decide) rfl) ?_)))
             rintro m _ _ ⟨gx230, gu232, rfl, rfl, hG231, h⟩
             rcases m with _ | m
             · rw [m7_lock_Drop_L7] at h; cases h
             rw [m7_lock_Drop_L7] at h
             generalize hg11 : m7_lock_Drop_L7 x14 a1 gl11 gx17 go1 gl16 m = go11 at h
             rw [m7_lock_Drop_L7B] at h
             refine W.seq (W.region (L.ite h rfl (Y.lss rfl rfl) (fun c134 h => ?_) (fun c134 h => ?_)))
             ·
              refine L.nil (E.thenN (W.seq (W.condT rfl ?_)))
              refine W.skip (E.thenN (W.seq (W.block (W.seq (W.region (L.y rfl (Y.move rfl) ?_))))))
              refine L.y rfl (Y.assign rfl) ?_
              refine L.nil (E.thenN (W.seq (W.region (L.y rfl (Y.move rfl) ?_))))
              refine L.y rfl (Y.move rfl) ?_
              refine L.y rfl (Y.move rfl) ?_
              refine L.m (V := fun _ => el (gv (q10 gx17.toNat) 0) (gx230.toNat * 2)) h rfl (Y.indexM (g := TLock.row) (l := x14.Held) Try.underlying48 sz55 rfl rfl (fun w hw => As.at_ (hw.get (i := 2) rfl))) (fun x135 ex135 h => ?_)
              refine L.y rfl (Y.loadEN (r := [.int .i64 x135.Tx, .int .i64 x135.Mode]) ag55 sz55 rfl (fun w hw => As.at_ (hw.get (i := 2) rfl)) (idx_map ex135) rfl) ?_
              refine L.callVJ (fun v D => ∃ (gu234 : Unit), v = .bool (decide (x135.Tx = a1)) ∧ D = Cls w [] [.obj b15 [.int .i64 x14.Item, (gv (q10 gx17.toNat) 0), (gv (q10 gx17.toNat) 1)] 50, .obj b1 [.int .i64 a1] 3, .sl (gv (q10 gx17.toNat) 0) 55 2 (x14.Held.map TLock.row), .sl (gv (q10 gx17.toNat) 1) 55 2 (x14.Queue.map TLock.row), .sl gv10 50 3 (zr TLockItem.rowv gq12 gl11), .sl gv15 3 1 (gl16.map I), .sl v9 50 3 (zr TLockItem.rowv q10 l8), .ss (zsd TLockItem.sds q10 l8 ((gx17 + 1 : Int).toNat)), .os gc9] ∧ FzA K gc9 (zs TLockItem.sds gq12 gl11) ∧ m7_lock_Drop_K25 x135 a1 x14 gl11 gx17 go1 gl16 gx230 go11 = some r) rfl en30 rfl rfl Try.func30 rfl rfl rfl ?_ ?_
              ·
               refine W.seq (W.region (L.box rfl rfl ?_))
               intro b137
               refine L.y rfl (Y.assign rfl) ?_
               refine L.nil (E.thenN (W.seq (W.region (L.y rfl (Y.fieldP fd55_0 rfl) ?_))))
               refine L.y rfl (Y.loadP (i := 0) ag3 rfl rfl rfl) ?_
               refine L.y rfl (Y.loadP (i := 2) ag3 rfl rfl rfl) ?_
               refine L.y rfl (Y.eql rfl rfl) ?_
               refine L.y rfl (Y.assign rfl) ?_
               refine L.nil (E.thenN (W.ret (E.ret1 rfl rfl (fun w1 hw => ?_))))
               exact ⟨_, _, rfl, ⟨(), rfl, rfl, hG231, h⟩, hw.sel [1, 2, 3, 4, 5, 6, 7, 8, 9] (by decide) rfl⟩
              ·
               rintro _ _ ⟨gu234, rfl, rfl, hG233, h⟩
               rw [m7_lock_Drop_K25] at h
               refine L.nil (E.thenN (W.caseB (q := 16) h rfl (fun h => ?_) (fun h => ?_)))
               ·
                refine W.condT rfl ?_
                refine W.seq (W.region (L.y rfl (Y.move rfl) ?_))
                refine L.y rfl (Y.assign rfl) ?_
                refine L.nil (E.thenN (W.ret (E.blockR (E.thenR (E.KLR (E.blockR (E.KSR (E.ret1 rfl rfl (fun w1 hw => ?_)))))))))
                exact ⟨_, _, rfl, ⟨gx230, (), rfl, rfl, hG233, h⟩, hw⟩
               ·
                refine W.condF rfl ?_
                refine W.skip (E.blockN (E.thenN (W.region (L.m (V := fun x136 => .int .i64 x136) h rfl (Y.addM rfl rfl) (fun x136 ex136 h => ?_)))))
                refine L.y rfl (Y.move rfl) ?_
                exact L.nil (E.againJ ⟨x136, (), rfl, rfl, hG233, by rw [hg11]; exact h⟩ (Nat.lt_succ_self _) ⟨rfl, rfl, rfl, rfl, trivial⟩ (fun _ hw => hw))
             ·
              refine L.nil (E.thenN (W.seq (W.condF rfl ?_)))
              exact W.exit (E.thenX (E.KLX (E.blockX (E.joinJ ⟨(), rfl, rfl, hG231, h⟩ trivial (fun _ hw => hw)))))
            ·
             rintro _ _ ⟨gu227, rfl, rfl, hG226, h⟩
             rw [m7_lock_Drop_K24] at h
             refine W.seq (W.region (L.y rfl (Y.assign rfl) ?_))
             refine L.nil (E.thenN (W.ret (E.ret1 rfl rfl (fun w1 hw => ?_))))
             exact ⟨_, _, rfl, ⟨(-1), (), rfl, rfl, hG226, h⟩, hw⟩
           ·
            rintro _ _ ⟨gx206, gu208, rfl, rfl, hG207, h⟩
            rw [m7_lock_Drop_K19] at h
            refine L.y rfl (Y.assign rfl) ?_
            refine L.nil (E.thenN (W.seqJ (fun gs D => ∃ (gu210 : Unit), gs = [(0, (gv (q10 gx17.toNat) 0)), (1, .func (.func 30) #[] #[pt b1 0]), (5, .int .i64 gx206)] ∧ D = Cls w [] [.obj b15 [.int .i64 x14.Item, (gv (q10 gx17.toNat) 0), (gv (q10 gx17.toNat) 1)] 50, .obj b1 [.int .i64 a1] 3, .sl (gv (q10 gx17.toNat) 0) 55 2 (x14.Held.map TLock.row), .sl (gv (q10 gx17.toNat) 1) 55 2 (x14.Queue.map TLock.row), .sl gv10 50 3 (zr TLockItem.rowv gq12 gl11), .sl gv15 3 1 (gl16.map I), .sl v9 50 3 (zr TLockItem.rowv q10 l8), .ss (zsd TLockItem.sds q10 l8 ((gx17 + 1 : Int).toNat)), .os gc9] ∧ FzA K gc9 (zs TLockItem.sds gq12 gl11) ∧ m7_lock_Drop_K20 gx206 a1 x14 gl11 gx17 go1 gl16 = some r) ?_ ?_))
            ·
             refine W.seq (W.region (L.y rfl (Y.move rfl) ?_))
             refine L.ite h rfl (Y.eql rfl rfl) (fun c133 h => ?_) (fun c133 h => ?_)
             ·
              refine L.nil (E.thenN (W.condT rfl ?_))
              refine W.seq (W.region (L.y rfl (Y.move rfl) ?_))
              refine L.y rfl (Y.assign rfl) ?_
              refine L.nil (E.thenN (W.ret (E.KSR (E.ret1 rfl rfl (fun w1 hw => ?_)))))
              exact ⟨_, _, rfl, ⟨(), (gv (q10 gx17.toNat) 0), x14.Held, rfl, rfl, hG207, h⟩, hw.sel [0, 1, 4, 5, 6, 7, 3, 2, 8] (by decide) rfl⟩
             ·
              refine L.nil (E.thenN (W.condF rfl ?_))
              exact W.skip (E.joinJ ⟨(), rfl, rfl, hG207, h⟩ ⟨rfl, rfl, rfl, trivial⟩ (fun _ hw => hw))
            ·
             rintro _ _ ⟨gu210, rfl, rfl, hG209, h⟩
             rw [m7_lock_Drop_K20] at h
             refine W.seqJ (fun gs D => ∃ (gl211 : (List TLock)) (gx212 : Int) (gu214 : Unit), gs = [(0, (gv (q10 gx17.toNat) 0)), (5, .int .i64 gx212)] ∧ D = Cls w [] [.obj b15 [.int .i64 x14.Item, (gv (q10 gx17.toNat) 0), (gv (q10 gx17.toNat) 1)] 50, .obj b1 [.int .i64 a1] 3, .sl (gv (q10 gx17.toNat) 0) 55 2 (gl211.map TLock.row), .sl (gv (q10 gx17.toNat) 1) 55 2 (x14.Queue.map TLock.row), .sl gv10 50 3 (zr TLockItem.rowv gq12 gl11), .sl gv15 3 1 (gl16.map I), .sl v9 50 3 (zr TLockItem.rowv q10 l8), .ss (zsd TLockItem.sds q10 l8 ((gx17 + 1 : Int).toNat)), .os gc9] ∧ FzA K gc9 (zs TLockItem.sds gq12 gl11) ∧ m7_lock_Drop_K21 x14 a1 gl11 gx17 go1 gl16 gl211 gx212 = some r) ?_ ?_
             ·
              refine W.seq (W.region (L.y rfl (Y.move rfl) ?_))
              refine L.m (V := fun x122 => .int .i64 x122) h rfl (Y.addM rfl rfl) (fun x122 ex122 h => ?_)
              refine L.y rfl (Y.assign rfl) ?_
              refine L.nil (E.thenN (W.block (W.loopJ (fun m gs D => ∃ (gl217 : (List TLock)) (gx218 : Int) (gx219 : Int) (gu221 : Unit), gs = [(0, (gv (q10 gx17.toNat) 0)), (1, .func (.func 30) #[] #[pt b1 0]), (5, .int .i64 gx218), (6, .int .i64 gx219)] ∧ D = Cls w [] [.obj b15 [.int .i64 x14.Item, (gv (q10 gx17.toNat) 0), (gv (q10 gx17.toNat) 1)] 50, .obj b1 [.int .i64 a1] 3, .sl (gv (q10 gx17.toNat) 0) 55 2 (gl217.map TLock.row), .sl (gv (q10 gx17.toNat) 1) 55 2 (x14.Queue.map TLock.row), .sl gv10 50 3 (zr TLockItem.rowv gq12 gl11), .sl gv15 3 1 (gl16.map I), .sl v9 50 3 (zr TLockItem.rowv q10 l8), .ss (zsd TLockItem.sds q10 l8 ((gx17 + 1 : Int).toNat)), .os gc9] ∧ FzA K gc9 (zs TLockItem.sds gq12 gl11) ∧ m7_lock_Drop_L6 a1 x14 gl11 gx17 go1 gl16 m gl217 gx218 gx219 = some r) ⟨x14.Held, gx206, x122, (), rfl, rfl, hG209, h⟩ ⟨rfl, rfl, rfl, rfl, trivial⟩ (fun _ hw => hw) ?_)))
              rintro m _ _ ⟨gl217, gx218, gx219, gu221, rfl, rfl, hG220, h⟩
              rcases m with _ | m
              · rw [m7_lock_Drop_L6] at h; cases h
              rw [m7_lock_Drop_L6] at h
              generalize hg10 : m7_lock_Drop_L6 a1 x14 gl11 gx17 go1 gl16 m = go10 at h
              rw [m7_lock_Drop_L6B] at h
              refine W.seqJ (fun gs D => ∃ (gu223 : Unit), gs = [(0, (gv (q10 gx17.toNat) 0)), (1, .func (.func 30) #[] #[pt b1 0]), (5, .int .i64 gx218), (6, .int .i64 gx219)] ∧ D = Cls w [] [.obj b15 [.int .i64 x14.Item, (gv (q10 gx17.toNat) 0), (gv (q10 gx17.toNat) 1)] 50, .obj b1 [.int .i64 a1] 3, .sl (gv (q10 gx17.toNat) 0) 55 2 (gl217.map TLock.row), .sl (gv (q10 gx17.toNat) 1) 55 2 (x14.Queue.map TLock.row), .sl gv10 50 3 (zr TLockItem.rowv gq12 gl11), .sl gv15 3 1 (gl16.map I), .sl v9 50 3 (zr TLockItem.rowv q10 l8), .ss (zsd TLockItem.sds q10 l8 ((gx17 + 1 : Int).toNat)), .os gc9] ∧ FzA K gc9 (zs TLockItem.sds gq12 gl11) ∧ m7_lock_Drop_K22 gl217 gx219 a1 gx218 go10 = some r) ?_ ?_
              ·
               refine W.seq (W.region (L.y rfl (Y.move rfl) ?_))
               refine L.y rfl (Y.move rfl) ?_
               refine L.y rfl (Y.lenM (g := TLock.row) (l := gl217) Try.underlying48 rfl (fun w hw => As.at_ (hw.get (i := 2) rfl))) ?_
               refine L.ite h rfl (Y.lss rfl rfl) (fun c132 h => ?_) (fun c132 h => ?_)
               ·
                refine L.nil (E.thenN (W.condT rfl ?_))
                exact W.skip (E.joinJ ⟨(), rfl, rfl, hG220, h⟩ ⟨rfl, rfl, rfl, rfl, trivial⟩ (fun _ hw => hw))
               ·
                refine L.nil (E.thenN (W.condF rfl ?_))
                exact W.exit (E.KSX (E.KLX (E.blockX (E.joinJ ⟨gl217, gx218, (), rfl, rfl, hG220, h⟩ ⟨rfl, rfl, trivial⟩ (fun _ hw => hw)))))
              ·
               rintro _ _ ⟨gu223, rfl, rfl, hG222, h⟩
               rw [m7_lock_Drop_K22] at h
               refine W.seq (W.block (W.seq (W.region (L.y rfl (Y.move rfl) ?_))))
               refine L.y rfl (Y.move rfl) ?_
               refine L.m (V := fun _ => el (gv (q10 gx17.toNat) 0) (gx219.toNat * 2)) h rfl (Y.indexM (g := TLock.row) (l := gl217) Try.underlying48 sz55 rfl rfl (fun w hw => As.at_ (hw.get (i := 2) rfl))) (fun x123 ex123 h => ?_)
               refine L.y rfl (Y.loadEN (r := [.int .i64 x123.Tx, .int .i64 x123.Mode]) ag55 sz55 rfl (fun w hw => As.at_ (hw.get (i := 2) rfl)) (idx_map ex123) rfl) ?_
               refine L.alloc rfl ze55 ?_
               intro b124
               refine L.store (i := 0) (vs := [.int .i64 x123.Tx, .int .i64 x123.Mode]) sz55 rfl rfl rfl rfl (by simp [Value.oneCell', Value.cells, st, pt, el]) rfl (Nat.le_of_ble_eq_true rfl) ?_
               refine L.nil (E.thenN (W.seq (W.region (L.y rfl (Y.move rfl) ?_))))
               refine L.y rfl (Y.loadPW (i := 0) ag55 sz55 rfl rfl rfl) ?_
               refine L.callVJ (fun v D => ∃ (gu225 : Unit), v = .bool (decide (x123.Tx = a1)) ∧ D = Cls w [] [.obj b124 [.int .i64 x123.Tx, .int .i64 x123.Mode] 55, .obj b15 [.int .i64 x14.Item, (gv (q10 gx17.toNat) 0), (gv (q10 gx17.toNat) 1)] 50, .obj b1 [.int .i64 a1] 3, .sl (gv (q10 gx17.toNat) 0) 55 2 (gl217.map TLock.row), .sl (gv (q10 gx17.toNat) 1) 55 2 (x14.Queue.map TLock.row), .sl gv10 50 3 (zr TLockItem.rowv gq12 gl11), .sl gv15 3 1 (gl16.map I), .sl v9 50 3 (zr TLockItem.rowv q10 l8), .ss (zsd TLockItem.sds q10 l8 ((gx17 + 1 : Int).toNat)), .os gc9] ∧ FzA K gc9 (zs TLockItem.sds gq12 gl11) ∧ m7_lock_Drop_K23 x123 a1 gl217 gx218 gx219 go10 = some r) rfl en30 rfl rfl Try.func30 rfl rfl rfl ?_ ?_
               ·
                refine W.seq (W.region (L.box rfl rfl ?_))
                intro b131
                refine L.y rfl (Y.assign rfl) ?_
                refine L.nil (E.thenN (W.seq (W.region (L.y rfl (Y.fieldP fd55_0 rfl) ?_))))
                refine L.y rfl (Y.loadP (i := 0) ag3 rfl rfl rfl) ?_
                refine L.y rfl (Y.loadP (i := 3) ag3 rfl rfl rfl) ?_
                refine L.y rfl (Y.eql rfl rfl) ?_
                refine L.y rfl (Y.assign rfl) ?_
                refine L.nil (E.thenN (W.ret (E.ret1 rfl rfl (fun w1 hw => ?_))))
                exact ⟨_, _, rfl, ⟨(), rfl, rfl, hG222, h⟩, hw.sel [1, 2, 3, 4, 5, 6, 7, 8, 9, 10] (by decide) rfl⟩
               ·
                rintro _ _ ⟨gu225, rfl, rfl, hG224, h⟩
                rw [m7_lock_Drop_K23] at h
                refine L.iteB h rfl (Y.not rfl) (fun c125 h => ?_) (fun c125 h => ?_)
                ·
                 refine L.nil (E.thenN (W.condT rfl ?_))
                 refine W.seq (W.region (L.y rfl (Y.move rfl) ?_))
                 refine L.y rfl (Y.move rfl) ?_
                 refine L.y rfl (Y.loadPW (i := 0) ag55 sz55 rfl rfl rfl) ?_
                 refine L.m (V := fun _ => el (gv (q10 gx17.toNat) 0) (gx218.toNat * 2)) h rfl (Y.indexM (g := TLock.row) (l := gl217) Try.underlying48 sz55 rfl rfl (fun w hw => As.at_ (hw.get (i := 3) rfl))) (fun x126 ex126 h => ?_)
                 refine L.storeSlM (q := 3) (row := TLock.row) (vs := [.int .i64 x123.Tx, .int .i64 x123.Mode]) (j := 0) (u1 := x123) h sz55 rfl rfl rfl rfl rfl (all1 rfl (all1 rfl all0)) rfl ex126 rfl rfl ?_
                 intro l127 el127 h
                 refine L.nil (E.thenN (W.region (L.y rfl (Y.move rfl) ?_)))
                 refine L.m (V := fun x128 => .int .i64 x128) h rfl (Y.addM rfl rfl) (fun x128 ex128 h => ?_)
                 refine L.y rfl (Y.assign rfl) ?_
                 refine L.nil (E.blockN (E.thenN (W.region (L.y rfl (Y.move rfl) ?_))))
                 refine L.m (V := fun x129 => .int .i64 x129) h rfl (Y.addM rfl rfl) (fun x129 ex129 h => ?_)
                 refine L.y rfl (Y.assign rfl) ?_
                 exact L.nil (E.againJ ⟨l127, x128, x129, (), rfl, rfl, hG224, by rw [hg10]; exact h⟩ (Nat.lt_succ_self _) ⟨rfl, rfl, rfl, rfl, trivial⟩ (fun _ hw => hw.sel [1, 2, 3, 4, 5, 6, 7, 8, 9] (by decide) rfl))
                ·
                 refine L.nil (E.thenN (W.condF rfl ?_))
                 refine W.skip (E.blockN (E.thenN (W.region (L.y rfl (Y.move rfl) ?_))))
                 refine L.m (V := fun x130 => .int .i64 x130) h rfl (Y.addM rfl rfl) (fun x130 ex130 h => ?_)
                 refine L.y rfl (Y.assign rfl) ?_
                 exact L.nil (E.againJ ⟨gl217, gx218, x130, (), rfl, rfl, hG224, by rw [hg10]; exact h⟩ (Nat.lt_succ_self _) ⟨rfl, rfl, rfl, rfl, trivial⟩ (fun _ hw => hw.sel [1, 2, 3, 4, 5, 6, 7, 8, 9] (by decide) rfl))
             ·
              rintro _ _ ⟨gl211, gx212, gu214, rfl, rfl, hG213, h⟩
              rw [m7_lock_Drop_K21] at h
              refine W.seq (W.region (L.y rfl (Y.move rfl) ?_))
              refine L.y rfl (Y.move rfl) ?_
              refine L.m (V := fun _ => dropv (gv (q10 gx17.toNat) 0) gx212.toNat 2) h rfl (Y.dropM (g := TLock.row) Try.underlying48 sz55 rfl rfl (fun w hw => As.at_ (hw.get (i := 2) rfl))) (fun l118 el118 h => ?_)
              refine L.clearM (i := 2) (g := TLock.row) (z0 := (⟨0, 0⟩ : TLock)) (a := gx212) h Try.underlying48 eL55 ze55 (fun u hu => ((plain_TLock _) : Plain ([(⟨0, 0⟩ : TLock)].map TLock.row)) _ (List.mem_cons_self ..) u hu) rfl rfl ?_
              intro l119 el119 h
              refine L.nil (E.thenN (W.seq (W.region (L.y rfl (Y.move rfl) ?_))))
              refine L.y rfl (Y.move rfl) ?_
              obtain ⟨l120, el120, h⟩ := bind1S h
              refine L.cutM (i := 2) (g := TLock.row) el120 rfl Try.underlying48 sz55 rfl rfl rfl (fun v121 => ?_)
              refine L.y rfl (Y.assign rfl) ?_
              refine L.nil (E.thenN (W.ret (E.ret1 rfl rfl (fun w1 hw => ?_))))
              exact ⟨_, _, rfl, ⟨(), v121, l120, rfl, rfl, hG213, h⟩, hw.sel [0, 1, 4, 5, 6, 7, 3, 2, 8] (by decide) rfl⟩
          ·
           rintro gv171 _ ⟨gu170, _, gl172, rfl, rfl, hG169, h⟩
           rw [m7_lock_Drop_K10] at h
           refine L.nil (E.toV2 (stC [[7]] [Cls w [] [.obj b1 [.int .i64 a1] 3, .sl gv15 3 1 (gl16.map I), .sl v9 50 3 (zr TLockItem.rowv q10 l8), .sl (gv (q10 gx17.toNat) 1) 55 2 (x14.Queue.map TLock.row), .sl gv171 55 2 (gl172.map TLock.row), .os gc9]] (Cls w [] [.obj b1 [.int .i64 a1] 3, .sl gv15 3 1 (gl16.map I), .sl v9 50 3 (zr TLockItem.rowv q10 l8), .sl gv171 55 2 (gl172.map TLock.row), .os gc9])) 3 (by kernel_rfl) (Sc.past rfl (Sc.stay (fun _ hw => hw.sel [3, 0, 1, 2, 5] (by decide) rfl) (Sc.stayD (fun _ hw => hw.sel [0, 1, 2, 4] (by decide) rfl)))) (Sc.now (by kernel_rfl) (fun _ hw => hw.sel [1, 3, 4, 6, 7, 8] (by decide) rfl)) ?_)
           refine V2.eff (i := 7) (by kernel_rfl) rfl ?_
           refine L.callJ (fun v D => ∃ (gu174 : Unit) (gv175 : Value) (gl176 : (List TLock)), v = gv175 ∧ D = Cls w [] [.obj b15 [.int .i64 x14.Item, (gv (q10 gx17.toNat) 0), (gv (q10 gx17.toNat) 1)] 50, .obj b1 [.int .i64 a1] 3, .sl gv10 50 3 (zr TLockItem.rowv gq12 gl11), .sl gv15 3 1 (gl16.map I), .sl v9 50 3 (zr TLockItem.rowv q10 l8), .ss (zsd TLockItem.sds q10 l8 ((gx17 + 1 : Int).toNat)), .sl gv171 55 2 (gl172.map TLock.row), .sl gv175 55 2 (gl176.map TLock.row), .os gc9] ∧ FzA K gc9 (zs TLockItem.sds gq12 gl11) ∧ m7_lock_Drop_K11 x14 gl11 gx17 go1 gl16 gl172 gl176 = some r) rfl en31 rfl Try.func31 rfl rfl rfl ?_ ?_
           ·
            refine W.seq (W.region (L.y rfl (Y.assign rfl) ?_))
            refine L.nil (E.thenN (W.seq (W.region (L.y rfl (Y.move rfl) ?_))))
            refine L.y rfl (Y.move rfl) ?_
            refine L.callJ (fun v D => ∃ (gx177 : Int) (gu179 : Unit), v = .int .i64 gx177 ∧ D = Cls w [] [.obj b15 [.int .i64 x14.Item, (gv (q10 gx17.toNat) 0), (gv (q10 gx17.toNat) 1)] 50, .obj b1 [.int .i64 a1] 3, .sl (gv (q10 gx17.toNat) 1) 55 2 (x14.Queue.map TLock.row), .sl gv10 50 3 (zr TLockItem.rowv gq12 gl11), .sl gv15 3 1 (gl16.map I), .sl v9 50 3 (zr TLockItem.rowv q10 l8), .ss (zsd TLockItem.sds q10 l8 ((gx17 + 1 : Int).toNat)), .sl gv171 55 2 (gl172.map TLock.row), .os gc9] ∧ FzA K gc9 (zs TLockItem.sds gq12 gl11) ∧ m7_lock_Drop_K12 x14 gl11 gx17 go1 gl16 gl172 a1 gx177 = some r) rfl en35 rfl Try.func35 rfl rfl rfl ?_ ?_
            ·
             refine W.seq (W.region (L.y rfl (Y.assign rfl) ?_))
             refine L.nil (E.thenN (W.seqJ (fun gs D => ∃ (gu198 : Unit), gs = [] ∧ D = Cls w [] [.obj b15 [.int .i64 x14.Item, (gv (q10 gx17.toNat) 0), (gv (q10 gx17.toNat) 1)] 50, .obj b1 [.int .i64 a1] 3, .sl (gv (q10 gx17.toNat) 1) 55 2 (x14.Queue.map TLock.row), .sl gv10 50 3 (zr TLockItem.rowv gq12 gl11), .sl gv15 3 1 (gl16.map I), .sl v9 50 3 (zr TLockItem.rowv q10 l8), .ss (zsd TLockItem.sds q10 l8 ((gx17 + 1 : Int).toNat)), .sl gv171 55 2 (gl172.map TLock.row), .os gc9] ∧ FzA K gc9 (zs TLockItem.sds gq12 gl11) ∧ m7_lock_Drop_K17 x14 gl11 gx17 go1 gl16 gl172 a1 = some r) ?_ ?_))
             ·
              refine W.seq (W.region (L.y rfl (Y.move rfl) ?_))
              refine L.y rfl (Y.lenM (g := TLock.row) (l := x14.Queue) Try.underlying48 rfl (fun w hw => As.at_ (hw.get (i := 6) rfl))) ?_
              refine L.y rfl (Y.move rfl) ?_
              refine L.nil (E.thenN (W.block (W.loopJ (fun m gs D => ∃ (gx201 : Int) (gu203 : Unit), gs = [(0, (gv (q10 gx17.toNat) 1)), (1, .func (.func 30) #[] #[pt b1 0]), (7, .int .i64 (x14.Queue.length : Int)), (8, .int .i64 gx201)] ∧ D = Cls w [] [.obj b15 [.int .i64 x14.Item, (gv (q10 gx17.toNat) 0), (gv (q10 gx17.toNat) 1)] 50, .obj b1 [.int .i64 a1] 3, .sl (gv (q10 gx17.toNat) 1) 55 2 (x14.Queue.map TLock.row), .sl gv10 50 3 (zr TLockItem.rowv gq12 gl11), .sl gv15 3 1 (gl16.map I), .sl v9 50 3 (zr TLockItem.rowv q10 l8), .ss (zsd TLockItem.sds q10 l8 ((gx17 + 1 : Int).toNat)), .sl gv171 55 2 (gl172.map TLock.row), .os gc9] ∧ FzA K gc9 (zs TLockItem.sds gq12 gl11) ∧ m7_lock_Drop_L5 x14 a1 gl11 gx17 go1 gl16 gl172 m gx201 = some r) ⟨0, (), rfl, rfl, hG169, h⟩ ⟨rfl, rfl, rfl, rfl, trivial⟩ (fun _ hw => hw.sel [0, 1, 6, 2, 3, 4, 5, 7, 8] (by decide) rfl) ?_)))
              rintro m _ _ ⟨gx201, gu203, rfl, rfl, hG202, h⟩
              rcases m with _ | m
              · rw [m7_lock_Drop_L5] at h; cases h
              rw [m7_lock_Drop_L5] at h
              generalize hg9 : m7_lock_Drop_L5 x14 a1 gl11 gx17 go1 gl16 gl172 m = go9 at h
              rw [m7_lock_Drop_L5B] at h
              refine W.seq (W.region (L.ite h rfl (Y.lss rfl rfl) (fun c114 h => ?_) (fun c114 h => ?_)))
              ·
               refine L.nil (E.thenN (W.seq (W.condT rfl ?_)))
               refine W.skip (E.thenN (W.seq (W.block (W.seq (W.region (L.y rfl (Y.move rfl) ?_))))))
               refine L.y rfl (Y.assign rfl) ?_
               refine L.nil (E.thenN (W.seq (W.region (L.y rfl (Y.move rfl) ?_))))
               refine L.y rfl (Y.move rfl) ?_
               refine L.y rfl (Y.move rfl) ?_
               refine L.m (V := fun _ => el (gv (q10 gx17.toNat) 1) (gx201.toNat * 2)) h rfl (Y.indexM (g := TLock.row) (l := x14.Queue) Try.underlying48 sz55 rfl rfl (fun w hw => As.at_ (hw.get (i := 2) rfl))) (fun x115 ex115 h => ?_)
               refine L.y rfl (Y.loadEN (r := [.int .i64 x115.Tx, .int .i64 x115.Mode]) ag55 sz55 rfl (fun w hw => As.at_ (hw.get (i := 2) rfl)) (idx_map ex115) rfl) ?_
               refine L.callVJ (fun v D => ∃ (gu205 : Unit), v = .bool (decide (x115.Tx = a1)) ∧ D = Cls w [] [.obj b15 [.int .i64 x14.Item, (gv (q10 gx17.toNat) 0), (gv (q10 gx17.toNat) 1)] 50, .obj b1 [.int .i64 a1] 3, .sl (gv (q10 gx17.toNat) 1) 55 2 (x14.Queue.map TLock.row), .sl gv10 50 3 (zr TLockItem.rowv gq12 gl11), .sl gv15 3 1 (gl16.map I), .sl v9 50 3 (zr TLockItem.rowv q10 l8), .ss (zsd TLockItem.sds q10 l8 ((gx17 + 1 : Int).toNat)), .sl gv171 55 2 (gl172.map TLock.row), .os gc9] ∧ FzA K gc9 (zs TLockItem.sds gq12 gl11) ∧ m7_lock_Drop_K18 x115 a1 x14 gl11 gx17 go1 gl16 gl172 gx201 go9 = some r) rfl en30 rfl rfl Try.func30 rfl rfl rfl ?_ ?_
               ·
                refine W.seq (W.region (L.box rfl rfl ?_))
                intro b117
                refine L.y rfl (Y.assign rfl) ?_
                refine L.nil (E.thenN (W.seq (W.region (L.y rfl (Y.fieldP fd55_0 rfl) ?_))))
                refine L.y rfl (Y.loadP (i := 0) ag3 rfl rfl rfl) ?_
                refine L.y rfl (Y.loadP (i := 2) ag3 rfl rfl rfl) ?_
                refine L.y rfl (Y.eql rfl rfl) ?_
                refine L.y rfl (Y.assign rfl) ?_
                refine L.nil (E.thenN (W.ret (E.ret1 rfl rfl (fun w1 hw => ?_))))
                exact ⟨_, _, rfl, ⟨(), rfl, rfl, hG202, h⟩, hw.sel [1, 2, 3, 4, 5, 6, 7, 8, 9] (by decide) rfl⟩
               ·
                rintro _ _ ⟨gu205, rfl, rfl, hG204, h⟩
                rw [m7_lock_Drop_K18] at h
                refine L.nil (E.thenN (W.caseB (q := 16) h rfl (fun h => ?_) (fun h => ?_)))
                ·
                 refine W.condT rfl ?_
                 refine W.seq (W.region (L.y rfl (Y.move rfl) ?_))
                 refine L.y rfl (Y.assign rfl) ?_
                 refine L.nil (E.thenN (W.ret (E.blockR (E.thenR (E.KLR (E.blockR (E.KSR (E.ret1 rfl rfl (fun w1 hw => ?_)))))))))
                 exact ⟨_, _, rfl, ⟨gx201, (), rfl, rfl, hG204, h⟩, hw⟩
                ·
                 refine W.condF rfl ?_
                 refine W.skip (E.blockN (E.thenN (W.region (L.m (V := fun x116 => .int .i64 x116) h rfl (Y.addM rfl rfl) (fun x116 ex116 h => ?_)))))
                 refine L.y rfl (Y.move rfl) ?_
                 exact L.nil (E.againJ ⟨x116, (), rfl, rfl, hG204, by rw [hg9]; exact h⟩ (Nat.lt_succ_self _) ⟨rfl, rfl, rfl, rfl, trivial⟩ (fun _ hw => hw))
              ·
               refine L.nil (E.thenN (W.seq (W.condF rfl ?_)))
               exact W.exit (E.thenX (E.KLX (E.blockX (E.joinJ ⟨(), rfl, rfl, hG202, h⟩ trivial (fun _ hw => hw)))))
             ·
              rintro _ _ ⟨gu198, rfl, rfl, hG197, h⟩
              rw [m7_lock_Drop_K17] at h
              refine W.seq (W.region (L.y rfl (Y.assign rfl) ?_))
              refine L.nil (E.thenN (W.ret (E.ret1 rfl rfl (fun w1 hw => ?_))))
              exact ⟨_, _, rfl, ⟨(-1), (), rfl, rfl, hG197, h⟩, hw⟩
            ·
             rintro _ _ ⟨gx177, gu179, rfl, rfl, hG178, h⟩
             rw [m7_lock_Drop_K12] at h
             refine L.y rfl (Y.assign rfl) ?_
             refine L.nil (E.thenN (W.seqJ (fun gs D => ∃ (gu181 : Unit), gs = [(0, (gv (q10 gx17.toNat) 1)), (1, .func (.func 30) #[] #[pt b1 0]), (5, .int .i64 gx177)] ∧ D = Cls w [] [.obj b15 [.int .i64 x14.Item, (gv (q10 gx17.toNat) 0), (gv (q10 gx17.toNat) 1)] 50, .obj b1 [.int .i64 a1] 3, .sl (gv (q10 gx17.toNat) 1) 55 2 (x14.Queue.map TLock.row), .sl gv10 50 3 (zr TLockItem.rowv gq12 gl11), .sl gv15 3 1 (gl16.map I), .sl v9 50 3 (zr TLockItem.rowv q10 l8), .ss (zsd TLockItem.sds q10 l8 ((gx17 + 1 : Int).toNat)), .sl gv171 55 2 (gl172.map TLock.row), .os gc9] ∧ FzA K gc9 (zs TLockItem.sds gq12 gl11) ∧ m7_lock_Drop_K13 gx177 a1 x14 gl11 gx17 go1 gl16 gl172 = some r) ?_ ?_))
             ·
              refine W.seq (W.region (L.y rfl (Y.move rfl) ?_))
              refine L.ite h rfl (Y.eql rfl rfl) (fun c113 h => ?_) (fun c113 h => ?_)
              ·
               refine L.nil (E.thenN (W.condT rfl ?_))
               refine W.seq (W.region (L.y rfl (Y.move rfl) ?_))
               refine L.y rfl (Y.assign rfl) ?_
               refine L.nil (E.thenN (W.ret (E.KSR (E.ret1 rfl rfl (fun w1 hw => ?_)))))
               exact ⟨_, _, rfl, ⟨(), (gv (q10 gx17.toNat) 1), x14.Queue, rfl, rfl, hG178, h⟩, hw.sel [0, 1, 3, 4, 5, 6, 7, 2, 8] (by decide) rfl⟩
              ·
               refine L.nil (E.thenN (W.condF rfl ?_))
               exact W.skip (E.joinJ ⟨(), rfl, rfl, hG178, h⟩ ⟨rfl, rfl, rfl, trivial⟩ (fun _ hw => hw))
             ·
              rintro _ _ ⟨gu181, rfl, rfl, hG180, h⟩
              rw [m7_lock_Drop_K13] at h
              refine W.seqJ (fun gs D => ∃ (gl182 : (List TLock)) (gx183 : Int) (gu185 : Unit), gs = [(0, (gv (q10 gx17.toNat) 1)), (5, .int .i64 gx183)] ∧ D = Cls w [] [.obj b15 [.int .i64 x14.Item, (gv (q10 gx17.toNat) 0), (gv (q10 gx17.toNat) 1)] 50, .obj b1 [.int .i64 a1] 3, .sl (gv (q10 gx17.toNat) 1) 55 2 (gl182.map TLock.row), .sl gv10 50 3 (zr TLockItem.rowv gq12 gl11), .sl gv15 3 1 (gl16.map I), .sl v9 50 3 (zr TLockItem.rowv q10 l8), .ss (zsd TLockItem.sds q10 l8 ((gx17 + 1 : Int).toNat)), .sl gv171 55 2 (gl172.map TLock.row), .os gc9] ∧ FzA K gc9 (zs TLockItem.sds gq12 gl11) ∧ m7_lock_Drop_K14 x14 gl11 gx17 go1 gl16 gl172 gl182 gx183 = some r) ?_ ?_
              ·
               refine W.seq (W.region (L.y rfl (Y.move rfl) ?_))
               refine L.m (V := fun x102 => .int .i64 x102) h rfl (Y.addM rfl rfl) (fun x102 ex102 h => ?_)
               refine L.y rfl (Y.assign rfl) ?_
               refine L.nil (E.thenN (W.block (W.loopJ (fun m gs D => ∃ (gl188 : (List TLock)) (gx189 : Int) (gx190 : Int) (gu192 : Unit), gs = [(0, (gv (q10 gx17.toNat) 1)), (1, .func (.func 30) #[] #[pt b1 0]), (5, .int .i64 gx189), (6, .int .i64 gx190)] ∧ D = Cls w [] [.obj b15 [.int .i64 x14.Item, (gv (q10 gx17.toNat) 0), (gv (q10 gx17.toNat) 1)] 50, .obj b1 [.int .i64 a1] 3, .sl (gv (q10 gx17.toNat) 1) 55 2 (gl188.map TLock.row), .sl gv10 50 3 (zr TLockItem.rowv gq12 gl11), .sl gv15 3 1 (gl16.map I), .sl v9 50 3 (zr TLockItem.rowv q10 l8), .ss (zsd TLockItem.sds q10 l8 ((gx17 + 1 : Int).toNat)), .sl gv171 55 2 (gl172.map TLock.row), .os gc9] ∧ FzA K gc9 (zs TLockItem.sds gq12 gl11) ∧ m7_lock_Drop_L4 a1 x14 gl11 gx17 go1 gl16 gl172 m gl188 gx189 gx190 = some r) ⟨x14.Queue, gx177, x102, (), rfl, rfl, hG180, h⟩ ⟨rfl, rfl, rfl, rfl, trivial⟩ (fun _ hw => hw) ?_)))
               rintro m _ _ ⟨gl188, gx189, gx190, gu192, rfl, rfl, hG191, h⟩
               rcases m with _ | m
               · rw [m7_lock_Drop_L4] at h; cases h
               rw [m7_lock_Drop_L4] at h
               generalize hg8 : m7_lock_Drop_L4 a1 x14 gl11 gx17 go1 gl16 gl172 m = go8 at h
               rw [m7_lock_Drop_L4B] at h
               refine W.seqJ (fun gs D => ∃ (gu194 : Unit), gs = [(0, (gv (q10 gx17.toNat) 1)), (1, .func (.func 30) #[] #[pt b1 0]), (5, .int .i64 gx189), (6, .int .i64 gx190)] ∧ D = Cls w [] [.obj b15 [.int .i64 x14.Item, (gv (q10 gx17.toNat) 0), (gv (q10 gx17.toNat) 1)] 50, .obj b1 [.int .i64 a1] 3, .sl (gv (q10 gx17.toNat) 1) 55 2 (gl188.map TLock.row), .sl gv10 50 3 (zr TLockItem.rowv gq12 gl11), .sl gv15 3 1 (gl16.map I), .sl v9 50 3 (zr TLockItem.rowv q10 l8), .ss (zsd TLockItem.sds q10 l8 ((gx17 + 1 : Int).toNat)), .sl gv171 55 2 (gl172.map TLock.row), .os gc9] ∧ FzA K gc9 (zs TLockItem.sds gq12 gl11) ∧ m7_lock_Drop_K15 gl188 gx190 a1 gx189 go8 = some r) ?_ ?_
               ·
                refine W.seq (W.region (L.y rfl (Y.move rfl) ?_))
                refine L.y rfl (Y.move rfl) ?_
                refine L.y rfl (Y.lenM (g := TLock.row) (l := gl188) Try.underlying48 rfl (fun w hw => As.at_ (hw.get (i := 2) rfl))) ?_
                refine L.ite h rfl (Y.lss rfl rfl) (fun c112 h => ?_) (fun c112 h => ?_)
                ·
                 refine L.nil (E.thenN (W.condT rfl ?_))
                 exact W.skip (E.joinJ ⟨(), rfl, rfl, hG191, h⟩ ⟨rfl, rfl, rfl, rfl, trivial⟩ (fun _ hw => hw))
                ·
                 refine L.nil (E.thenN (W.condF rfl ?_))
                 exact W.exit (E.KSX (E.KLX (E.blockX (E.joinJ ⟨gl188, gx189, (), rfl, rfl, hG191, h⟩ ⟨rfl, rfl, trivial⟩ (fun _ hw => hw)))))
               ·
                rintro _ _ ⟨gu194, rfl, rfl, hG193, h⟩
                rw [m7_lock_Drop_K15] at h
                refine W.seq (W.block (W.seq (W.region (L.y rfl (Y.move rfl) ?_))))
                refine L.y rfl (Y.move rfl) ?_
                refine L.m (V := fun _ => el (gv (q10 gx17.toNat) 1) (gx190.toNat * 2)) h rfl (Y.indexM (g := TLock.row) (l := gl188) Try.underlying48 sz55 rfl rfl (fun w hw => As.at_ (hw.get (i := 2) rfl))) (fun x103 ex103 h => ?_)
                refine L.y rfl (Y.loadEN (r := [.int .i64 x103.Tx, .int .i64 x103.Mode]) ag55 sz55 rfl (fun w hw => As.at_ (hw.get (i := 2) rfl)) (idx_map ex103) rfl) ?_
                refine L.alloc rfl ze55 ?_
                intro b104
                refine L.store (i := 0) (vs := [.int .i64 x103.Tx, .int .i64 x103.Mode]) sz55 rfl rfl rfl rfl (by simp [Value.oneCell', Value.cells, st, pt, el]) rfl (Nat.le_of_ble_eq_true rfl) ?_
                refine L.nil (E.thenN (W.seq (W.region (L.y rfl (Y.move rfl) ?_))))
                refine L.y rfl (Y.loadPW (i := 0) ag55 sz55 rfl rfl rfl) ?_
                refine L.callVJ (fun v D => ∃ (gu196 : Unit), v = .bool (decide (x103.Tx = a1)) ∧ D = Cls w [] [.obj b104 [.int .i64 x103.Tx, .int .i64 x103.Mode] 55, .obj b15 [.int .i64 x14.Item, (gv (q10 gx17.toNat) 0), (gv (q10 gx17.toNat) 1)] 50, .obj b1 [.int .i64 a1] 3, .sl (gv (q10 gx17.toNat) 1) 55 2 (gl188.map TLock.row), .sl gv10 50 3 (zr TLockItem.rowv gq12 gl11), .sl gv15 3 1 (gl16.map I), .sl v9 50 3 (zr TLockItem.rowv q10 l8), .ss (zsd TLockItem.sds q10 l8 ((gx17 + 1 : Int).toNat)), .sl gv171 55 2 (gl172.map TLock.row), .os gc9] ∧ FzA K gc9 (zs TLockItem.sds gq12 gl11) ∧ m7_lock_Drop_K16 x103 a1 gl188 gx189 gx190 go8 = some r) rfl en30 rfl rfl Try.func30 rfl rfl rfl ?_ ?_
                ·
                 refine W.seq (W.region (L.box rfl rfl ?_))
                 intro b111
                 refine L.y rfl (Y.assign rfl) ?_
                 refine L.nil (E.thenN (W.seq (W.region (L.y rfl (Y.fieldP fd55_0 rfl) ?_))))
                 refine L.y rfl (Y.loadP (i := 0) ag3 rfl rfl rfl) ?_
                 refine L.y rfl (Y.loadP (i := 3) ag3 rfl rfl rfl) ?_
                 refine L.y rfl (Y.eql rfl rfl) ?_
                 refine L.y rfl (Y.assign rfl) ?_
                 refine L.nil (E.thenN (W.ret (E.ret1 rfl rfl (fun w1 hw => ?_))))
                 exact ⟨_, _, rfl, ⟨(), rfl, rfl, hG193, h⟩, hw.sel [1, 2, 3, 4, 5, 6, 7, 8, 9, 10] (by decide) rfl⟩
                ·
                 rintro _ _ ⟨gu196, rfl, rfl, hG195, h⟩
                 rw [m7_lock_Drop_K16] at h
                 refine L.iteB h rfl (Y.not rfl) (fun c105 h => ?_) (fun c105 h => ?_)
                 ·
                  refine L.nil (E.thenN (W.condT rfl ?_))
                  refine W.seq (W.region (L.y rfl (Y.move rfl) ?_))
                  refine L.y rfl (Y.move rfl) ?_
                  refine L.y rfl (Y.loadPW (i := 0) ag55 sz55 rfl rfl rfl) ?_
                  refine L.m (V := fun _ => el (gv (q10 gx17.toNat) 1) (gx189.toNat * 2)) h rfl (Y.indexM (g := TLock.row) (l := gl188) Try.underlying48 sz55 rfl rfl (fun w hw => As.at_ (hw.get (i := 3) rfl))) (fun x106 ex106 h => ?_)
                  refine L.storeSlM (q := 3) (row := TLock.row) (vs := [.int .i64 x103.Tx, .int .i64 x103.Mode]) (j := 0) (u1 := x103) h sz55 rfl rfl rfl rfl rfl (all1 rfl (all1 rfl all0)) rfl ex106 rfl rfl ?_
                  intro l107 el107 h
                  refine L.nil (E.thenN (W.region (L.y rfl (Y.move rfl) ?_)))
                  refine L.m (V := fun x108 => .int .i64 x108) h rfl (Y.addM rfl rfl) (fun x108 ex108 h => ?_)
                  refine L.y rfl (Y.assign rfl) ?_
                  refine L.nil (E.blockN (E.thenN (W.region (L.y rfl (Y.move rfl) ?_))))
                  refine L.m (V := fun x109 => .int .i64 x109) h rfl (Y.addM rfl rfl) (fun x109 ex109 h => ?_)
                  refine L.y rfl (Y.assign rfl) ?_
                  exact L.nil (E.againJ ⟨l107, x108, x109, (), rfl, rfl, hG195, by rw [hg8]; exact h⟩ (Nat.lt_succ_self _) ⟨rfl, rfl, rfl, rfl, trivial⟩ (fun _ hw => hw.sel [1, 2, 3, 4, 5, 6, 7, 8, 9] (by decide) rfl))
                 ·
                  refine L.nil (E.thenN (W.condF rfl ?_))
                  refine W.skip (E.blockN (E.thenN (W.region (L.y rfl (Y.move rfl) ?_))))
                  refine L.m (V := fun x110 => .int .i64 x110) h rfl (Y.addM rfl rfl) (fun x110 ex110 h => ?_)
                  refine L.y rfl (Y.assign rfl) ?_
                  exact L.nil (E.againJ ⟨gl188, gx189, x110, (), rfl, rfl, hG195, by rw [hg8]; exact h⟩ (Nat.lt_succ_self _) ⟨rfl, rfl, rfl, rfl, trivial⟩ (fun _ hw => hw.sel [1, 2, 3, 4, 5, 6, 7, 8, 9] (by decide) rfl))
              ·
               rintro _ _ ⟨gl182, gx183, gu185, rfl, rfl, hG184, h⟩
               rw [m7_lock_Drop_K14] at h
               refine W.seq (W.region (L.y rfl (Y.move rfl) ?_))
               refine L.y rfl (Y.move rfl) ?_
               refine L.m (V := fun _ => dropv (gv (q10 gx17.toNat) 1) gx183.toNat 2) h rfl (Y.dropM (g := TLock.row) Try.underlying48 sz55 rfl rfl (fun w hw => As.at_ (hw.get (i := 2) rfl))) (fun l98 el98 h => ?_)
               refine L.clearM (i := 2) (g := TLock.row) (z0 := (⟨0, 0⟩ : TLock)) (a := gx183) h Try.underlying48 eL55 ze55 (fun u hu => ((plain_TLock _) : Plain ([(⟨0, 0⟩ : TLock)].map TLock.row)) _ (List.mem_cons_self ..) u hu) rfl rfl ?_
               intro l99 el99 h
               refine L.nil (E.thenN (W.seq (W.region (L.y rfl (Y.move rfl) ?_))))
               refine L.y rfl (Y.move rfl) ?_
               obtain ⟨l100, el100, h⟩ := bind1S h
               refine L.cutM (i := 2) (g := TLock.row) el100 rfl Try.underlying48 sz55 rfl rfl rfl (fun v101 => ?_)
               refine L.y rfl (Y.assign rfl) ?_
               refine L.nil (E.thenN (W.ret (E.ret1 rfl rfl (fun w1 hw => ?_))))
               exact ⟨_, _, rfl, ⟨(), v101, l100, rfl, rfl, hG184, h⟩, hw.sel [0, 1, 3, 4, 5, 6, 7, 2, 8] (by decide) rfl⟩
           ·
            rintro gv175 _ ⟨gu174, _, gl176, rfl, rfl, hG173, h⟩
            rw [m7_lock_Drop_K11] at h
            refine L.nil (E.toV2 (stC [] [] (Cls w [] [.obj b1 [.int .i64 a1] 3, .sl gv15 3 1 (gl16.map I), .sl v9 50 3 (zr TLockItem.rowv q10 l8), .sl gv171 55 2 (gl172.map TLock.row), .sl gv175 55 2 (gl176.map TLock.row), .os gc9])) 7 (by kernel_rfl) (Sc.past rfl (Sc.stayD (fun _ hw => hw.sel [0, 1, 2, 3, 5] (by decide) rfl))) (Sc.atD (fun _ hw => hw.sel [1, 3, 4, 6, 7, 8] (by decide) rfl)) ?_)
            refine V2.y (i := 8) (Nx2.of (Z := Cls w [] [.obj b1 [.int .i64 a1] 3, .sl gv15 3 1 (gl16.map I), .sl v9 50 3 (zr TLockItem.rowv q10 l8), .sl gv171 55 2 (gl172.map TLock.row), .sl gv175 55 2 (gl176.map TLock.row), .os gc9]) [] (by kernel_rfl) rfl (Zc.fin (fun _ hw => hw))) rfl rfl rfl (Y.fieldP fd50_1 rfl) ?_
            refine V2.eff (i := 9) (by kernel_rfl) rfl ?_
            refine L.storeV (i := 0) sz48 rfl rfl (fun _ hw => (As.at_ (hw.get (i := 6) rfl)).one) rfl (Nat.le_of_ble_eq_true rfl) ?_
            refine L.nil (E.toV2 (stC [] [] (Cls w [] [.obj b1 [.int .i64 a1] 3, .sl gv15 3 1 (gl16.map I), .sl v9 50 3 (zr TLockItem.rowv q10 l8), .sl gv171 55 2 (gl172.map TLock.row), .sl gv175 55 2 (gl176.map TLock.row), .os gc9])) 9 (by kernel_rfl) (Sc.stayD (fun _ hw => hw)) (Sc.atD (fun _ hw => hw.sel [1, 3, 4, 6, 7, 8] (by decide) rfl)) ?_)
            refine V2.y (i := 10) (Nx2.of (Z := Cls w [] [.obj b1 [.int .i64 a1] 3, .sl gv15 3 1 (gl16.map I), .sl v9 50 3 (zr TLockItem.rowv q10 l8), .sl gv171 55 2 (gl172.map TLock.row), .sl gv175 55 2 (gl176.map TLock.row), .os gc9]) [] (by kernel_rfl) rfl (Zc.fin (fun _ hw => hw))) rfl rfl rfl (Y.fieldP fd50_2 rfl) ?_
            refine V2.eff (i := 11) (by kernel_rfl) rfl ?_
            refine L.storeV (i := 0) sz48 rfl rfl (fun _ hw => (As.at_ (hw.get (i := 7) rfl)).one) rfl (Nat.le_of_ble_eq_true rfl) ?_
            refine L.nil (E.toV2 (stC [] [] (Cls w [] [.obj b1 [.int .i64 a1] 3, .sl gv15 3 1 (gl16.map I), .sl v9 50 3 (zr TLockItem.rowv q10 l8), .sl gv171 55 2 (gl172.map TLock.row), .sl gv175 55 2 (gl176.map TLock.row), .os gc9])) 11 (by kernel_rfl) (Sc.stayD (fun _ hw => hw)) (Sc.atD (fun _ hw => hw.sel [1, 3, 4, 6, 7, 8] (by decide) rfl)) ?_)
            refine V2.done (by kernel_rfl) ?_
            exact E.joinJ ⟨(), gv171, gl172, gv175, gl176, rfl, rfl, hG173, h⟩ ⟨rfl, rfl, rfl, rfl, rfl, rfl, rfl, trivial⟩ (fun _ hw => hw)
        ·
         refine L.y rfl (Y.loadP (i := 0) ag48 rfl rfl rfl) ?_
         refine L.nil (E.toV2 (stC [[3, 7], [7]] [Cls w [] [.obj b15 [.int .i64 x14.Item, (gv (q10 gx17.toNat) 0), (gv (q10 gx17.toNat) 1)] 50, .sl (gv (q10 gx17.toNat) 0) 55 2 (x14.Held.map TLock.row), .sl (gv (q10 gx17.toNat) 1) 55 2 (x14.Queue.map TLock.row), .ss (zsd TLockItem.sds q10 l8 ((gx17 + 1 : Int).toNat)), .obj b1 [.int .i64 a1] 3, .sl gv10 50 3 (zr TLockItem.rowv gq12 gl11), .sl gv15 3 1 (gl16.map I), .sl v9 50 3 (zr TLockItem.rowv q10 l8), .os gc9], Cls w [] [.sl (gv (q10 gx17.toNat) 1) 55 2 (x14.Queue.map TLock.row), .obj b1 [.int .i64 a1] 3, .sl gv15 3 1 (gl16.map I), .sl v9 50 3 (zr TLockItem.rowv q10 l8), .os gc9]] (Cls w [] [.obj b1 [.int .i64 a1] 3, .sl gv15 3 1 (gl16.map I), .sl v9 50 3 (zr TLockItem.rowv q10 l8), .os gc9])) 5 (by kernel_rfl) (Sc.stay (fun _ hw => hw) (Sc.stay (fun _ hw => hw) (Sc.stayD (fun _ hw => hw)))) (Sc.now (by kernel_rfl) (fun _ hw => hw)) ?_)
         refine V2.eff (i := 1) (by kernel_rfl) rfl ?_
         refine L.y rfl (Y.loadP (i := 0) ag48 rfl rfl rfl) ?_
         refine L.nil (E.toV2 (stC [[3, 7], [7]] [Cls w [] [.obj b15 [.int .i64 x14.Item, (gv (q10 gx17.toNat) 0), (gv (q10 gx17.toNat) 1)] 50, .sl (gv (q10 gx17.toNat) 0) 55 2 (x14.Held.map TLock.row), .sl (gv (q10 gx17.toNat) 1) 55 2 (x14.Queue.map TLock.row), .ss (zsd TLockItem.sds q10 l8 ((gx17 + 1 : Int).toNat)), .obj b1 [.int .i64 a1] 3, .sl gv10 50 3 (zr TLockItem.rowv gq12 gl11), .sl gv15 3 1 (gl16.map I), .sl v9 50 3 (zr TLockItem.rowv q10 l8), .os gc9], Cls w [] [.sl (gv (q10 gx17.toNat) 1) 55 2 (x14.Queue.map TLock.row), .obj b1 [.int .i64 a1] 3, .sl gv15 3 1 (gl16.map I), .sl v9 50 3 (zr TLockItem.rowv q10 l8), .os gc9]] (Cls w [] [.obj b1 [.int .i64 a1] 3, .sl gv15 3 1 (gl16.map I), .sl v9 50 3 (zr TLockItem.rowv q10 l8), .os gc9])) 1 (by kernel_rfl) (Sc.stay (fun _ hw => hw) (Sc.stay (fun _ hw => hw) (Sc.stayD (fun _ hw => hw)))) (Sc.now (by kernel_rfl) (fun _ hw => hw)) ?_)
         refine V2.eff (i := 3) (by kernel_rfl) rfl ?_
         refine L.callJ (fun v D => ∃ (gu236 : Unit) (gv237 : Value) (gl238 : (List TLock)), v = gv237 ∧ D = Cls w [] [.obj b15 [.int .i64 x14.Item, (gv (q10 gx17.toNat) 0), (gv (q10 gx17.toNat) 1)] 50, .obj b1 [.int .i64 a1] 3, .sl gv10 50 3 (zr TLockItem.rowv gq12 gl11), .sl gv15 3 1 (gl16.map I), .sl v9 50 3 (zr TLockItem.rowv q10 l8), .ss (zsd TLockItem.sds q10 l8 ((gx17 + 1 : Int).toNat)), .sl (gv (q10 gx17.toNat) 1) 55 2 (x14.Queue.map TLock.row), .sl gv237 55 2 (gl238.map TLock.row), .os gc9] ∧ FzA K gc9 (zs TLockItem.sds gq12 gl11) ∧ m7_lock_Drop_K10 x14 a1 gl11 gx17 go1 gl16 gl238 = some r) rfl en31 rfl Try.func31 rfl rfl rfl ?_ ?_
         ·
          refine W.seq (W.region (L.y rfl (Y.assign rfl) ?_))
          refine L.nil (E.thenN (W.seq (W.region (L.y rfl (Y.move rfl) ?_))))
          refine L.y rfl (Y.move rfl) ?_
          refine L.callJ (fun v D => ∃ (gx272 : Int) (gu274 : Unit), v = .int .i64 gx272 ∧ D = Cls w [] [.obj b15 [.int .i64 x14.Item, (gv (q10 gx17.toNat) 0), (gv (q10 gx17.toNat) 1)] 50, .obj b1 [.int .i64 a1] 3, .sl (gv (q10 gx17.toNat) 0) 55 2 (x14.Held.map TLock.row), .sl (gv (q10 gx17.toNat) 1) 55 2 (x14.Queue.map TLock.row), .sl gv10 50 3 (zr TLockItem.rowv gq12 gl11), .sl gv15 3 1 (gl16.map I), .sl v9 50 3 (zr TLockItem.rowv q10 l8), .ss (zsd TLockItem.sds q10 l8 ((gx17 + 1 : Int).toNat)), .os gc9] ∧ FzA K gc9 (zs TLockItem.sds gq12 gl11) ∧ m7_lock_Drop_K19 x14 a1 gl11 gx17 go1 gl16 gx272 = some r) rfl en35 rfl Try.func35 rfl rfl rfl ?_ ?_
          ·
           refine W.seq (W.region (L.y rfl (Y.assign rfl) ?_))
           refine L.nil (E.thenN (W.seqJ (fun gs D => ∃ (gu293 : Unit), gs = [] ∧ D = Cls w [] [.obj b15 [.int .i64 x14.Item, (gv (q10 gx17.toNat) 0), (gv (q10 gx17.toNat) 1)] 50, .obj b1 [.int .i64 a1] 3, .sl (gv (q10 gx17.toNat) 0) 55 2 (x14.Held.map TLock.row), .sl (gv (q10 gx17.toNat) 1) 55 2 (x14.Queue.map TLock.row), .sl gv10 50 3 (zr TLockItem.rowv gq12 gl11), .sl gv15 3 1 (gl16.map I), .sl v9 50 3 (zr TLockItem.rowv q10 l8), .ss (zsd TLockItem.sds q10 l8 ((gx17 + 1 : Int).toNat)), .os gc9] ∧ FzA K gc9 (zs TLockItem.sds gq12 gl11) ∧ m7_lock_Drop_K24 x14 a1 gl11 gx17 go1 gl16 = some r) ?_ ?_))
           ·
            refine W.seq (W.region (L.y rfl (Y.move rfl) ?_))
            refine L.y rfl (Y.lenM (g := TLock.row) (l := x14.Held) Try.underlying48 rfl (fun w hw => As.at_ (hw.get (i := 1) rfl))) ?_
            refine L.y rfl (Y.move rfl) ?_
            refine L.nil (E.thenN (W.block (W.loopJ (fun m gs D => ∃ (gx296 : Int) (gu298 : Unit), gs = [(0, (gv (q10 gx17.toNat) 0)), (1, .func (.func 30) #[] #[pt b1 0]), (7, .int .i64 (x14.Held.length : Int)), (8, .int .i64 gx296)] ∧ D = Cls w [] [.obj b15 [.int .i64 x14.Item, (gv (q10 gx17.toNat) 0), (gv (q10 gx17.toNat) 1)] 50, .obj b1 [.int .i64 a1] 3, .sl (gv (q10 gx17.toNat) 0) 55 2 (x14.Held.map TLock.row), .sl (gv (q10 gx17.toNat) 1) 55 2 (x14.Queue.map TLock.row), .sl gv10 50 3 (zr TLockItem.rowv gq12 gl11), .sl gv15 3 1 (gl16.map I), .sl v9 50 3 (zr TLockItem.rowv q10 l8), .ss (zsd TLockItem.sds q10 l8 ((gx17 + 1 : Int).toNat)), .os gc9] ∧ FzA K gc9 (zs TLockItem.sds gq12 gl11) ∧ m7_lock_Drop_L7 x14 a1 gl11 gx17 go1 gl16 m gx296 = some r) ⟨0, (), rfl, rfl, hG13, h⟩ ⟨rfl, rfl, rfl, rfl, trivial⟩ (fun _ hw => hw.sel [0, 4, 1, 2, 5, 6, 7, 3, 8] (by decide) rfl) ?_)))
            rintro m _ _ ⟨gx296, gu298, rfl, rfl, hG297, h⟩
            rcases m with _ | m
            · rw [m7_lock_Drop_L7] at h; cases h
            rw [m7_lock_Drop_L7] at h
            generalize hg15 : m7_lock_Drop_L7 x14 a1 gl11 gx17 go1 gl16 m = go15 at h
            rw [m7_lock_Drop_L7B] at h
            refine W.seq (W.region (L.ite h rfl (Y.lss rfl rfl) (fun c174 h => ?_) (fun c174 h => ?_)))
            ·
             refine L.nil (E.thenN (W.seq (W.condT rfl ?_)))
             refine W.skip (E.thenN (W.seq (W.block (W.seq (W.region (L.y rfl (Y.move rfl) ?_))))))
             refine L.y rfl (Y.assign rfl) ?_
             refine L.nil (E.thenN (W.seq (W.region (L.y rfl (Y.move rfl) ?_))))
             refine L.y rfl (Y.move rfl) ?_
             refine L.y rfl (Y.move rfl) ?_
             refine L.m (V := fun _ => el (gv (q10 gx17.toNat) 0) (gx296.toNat * 2)) h rfl (Y.indexM (g := TLock.row) (l := x14.Held) Try.underlying48 sz55 rfl rfl (fun w hw => As.at_ (hw.get (i := 2) rfl))) (fun x175 ex175 h => ?_)
             refine L.y rfl (Y.loadEN (r := [.int .i64 x175.Tx, .int .i64 x175.Mode]) ag55 sz55 rfl (fun w hw => As.at_ (hw.get (i := 2) rfl)) (idx_map ex175) rfl) ?_
             refine L.callVJ (fun v D => ∃ (gu300 : Unit), v = .bool (decide (x175.Tx = a1)) ∧ D = Cls w [] [.obj b15 [.int .i64 x14.Item, (gv (q10 gx17.toNat) 0), (gv (q10 gx17.toNat) 1)] 50, .obj b1 [.int .i64 a1] 3, .sl (gv (q10 gx17.toNat) 0) 55 2 (x14.Held.map TLock.row), .sl (gv (q10 gx17.toNat) 1) 55 2 (x14.Queue.map TLock.row), .sl gv10 50 3 (zr TLockItem.rowv gq12 gl11), .sl gv15 3 1 (gl16.map I), .sl v9 50 3 (zr TLockItem.rowv q10 l8), .ss (zsd TLockItem.sds q10 l8 ((gx17 + 1 : Int).toNat)), .os gc9] ∧ FzA K gc9 (zs TLockItem.sds gq12 gl11) ∧ m7_lock_Drop_K25 x175 a1 x14 gl11 gx17 go1 gl16 gx296 go15 = some r) rfl en30 rfl rfl Try.func30 rfl rfl rfl ?_ ?_
             ·
              refine W.seq (W.region (L.box rfl rfl ?_))
              intro b177
              refine L.y rfl (Y.assign rfl) ?_
              refine L.nil (E.thenN (W.seq (W.region (L.y rfl (Y.fieldP fd55_0 rfl) ?_))))
              refine L.y rfl (Y.loadP (i := 0) ag3 rfl rfl rfl) ?_
              refine L.y rfl (Y.loadP (i := 2) ag3 rfl rfl rfl) ?_
              refine L.y rfl (Y.eql rfl rfl) ?_
              refine L.y rfl (Y.assign rfl) ?_
              refine L.nil (E.thenN (W.ret (E.ret1 rfl rfl (fun w1 hw => ?_))))
              exact ⟨_, _, rfl, ⟨(), rfl, rfl, hG297, h⟩, hw.sel [1, 2, 3, 4, 5, 6, 7, 8, 9] (by decide) rfl⟩
             ·
              rintro _ _ ⟨gu300, rfl, rfl, hG299, h⟩
              rw [m7_lock_Drop_K25] at h
              refine L.nil (E.thenN (W.caseB (q := 16) h rfl (fun h => ?_) (fun h => ?_)))
              ·
               refine W.condT rfl ?_
               refine W.seq (W.region (L.y rfl (Y.move rfl) ?_))
               refine L.y rfl (Y.assign rfl) ?_
               refine L.nil (E.thenN (W.ret (E.blockR (E.thenR (E.KLR (E.blockR (E.KSR (E.ret1 rfl rfl (fun w1 hw => ?_)))))))))
               exact ⟨_, _, rfl, ⟨gx296, (), rfl, rfl, hG299, h⟩, hw⟩
              ·
               refine W.condF rfl ?_
               refine W.skip (E.blockN (E.thenN (W.region (L.m (V := fun x176 => .int .i64 x176) h rfl (Y.addM rfl rfl) (fun x176 ex176 h => ?_)))))
               refine L.y rfl (Y.move rfl) ?_
               exact L.nil (E.againJ ⟨x176, (), rfl, rfl, hG299, by rw [hg15]; exact h⟩ (Nat.lt_succ_self _) ⟨rfl, rfl, rfl, rfl, trivial⟩ (fun _ hw => hw))
            ·
             refine L.nil (E.thenN (W.seq (W.condF rfl ?_)))
             exact W.exit (E.thenX (E.KLX (E.blockX (E.joinJ ⟨(), rfl, rfl, hG297, h⟩ trivial (fun _ hw => hw)))))
           ·
            rintro _ _ ⟨gu293, rfl, rfl, hG292, h⟩
            rw [m7_lock_Drop_K24] at h
            refine W.seq (W.region (L.y rfl (Y.assign rfl) ?_))
            refine L.nil (E.thenN (W.ret (E.ret1 rfl rfl (fun w1 hw => ?_))))
            exact ⟨_, _, rfl, ⟨(-1), (), rfl, rfl, hG292, h⟩, hw⟩
          ·
           rintro _ _ ⟨gx272, gu274, rfl, rfl, hG273, h⟩
           rw [m7_lock_Drop_K19] at h
           refine L.y rfl (Y.assign rfl) ?_
           refine L.nil (E.thenN (W.seqJ (fun gs D => ∃ (gu276 : Unit), gs = [(0, (gv (q10 gx17.toNat) 0)), (1, .func (.func 30) #[] #[pt b1 0]), (5, .int .i64 gx272)] ∧ D = Cls w [] [.obj b15 [.int .i64 x14.Item, (gv (q10 gx17.toNat) 0), (gv (q10 gx17.toNat) 1)] 50, .obj b1 [.int .i64 a1] 3, .sl (gv (q10 gx17.toNat) 0) 55 2 (x14.Held.map TLock.row), .sl (gv (q10 gx17.toNat) 1) 55 2 (x14.Queue.map TLock.row), .sl gv10 50 3 (zr TLockItem.rowv gq12 gl11), .sl gv15 3 1 (gl16.map I), .sl v9 50 3 (zr TLockItem.rowv q10 l8), .ss (zsd TLockItem.sds q10 l8 ((gx17 + 1 : Int).toNat)), .os gc9] ∧ FzA K gc9 (zs TLockItem.sds gq12 gl11) ∧ m7_lock_Drop_K20 gx272 a1 x14 gl11 gx17 go1 gl16 = some r) ?_ ?_))
           ·
            refine W.seq (W.region (L.y rfl (Y.move rfl) ?_))
            refine L.ite h rfl (Y.eql rfl rfl) (fun c173 h => ?_) (fun c173 h => ?_)
            ·
             refine L.nil (E.thenN (W.condT rfl ?_))
             refine W.seq (W.region (L.y rfl (Y.move rfl) ?_))
             refine L.y rfl (Y.assign rfl) ?_
             refine L.nil (E.thenN (W.ret (E.KSR (E.ret1 rfl rfl (fun w1 hw => ?_)))))
             exact ⟨_, _, rfl, ⟨(), (gv (q10 gx17.toNat) 0), x14.Held, rfl, rfl, hG273, h⟩, hw.sel [0, 1, 4, 5, 6, 7, 3, 2, 8] (by decide) rfl⟩
            ·
             refine L.nil (E.thenN (W.condF rfl ?_))
             exact W.skip (E.joinJ ⟨(), rfl, rfl, hG273, h⟩ ⟨rfl, rfl, rfl, trivial⟩ (fun _ hw => hw))
           ·
            rintro _ _ ⟨gu276, rfl, rfl, hG275, h⟩
            rw [m7_lock_Drop_K20] at h
            refine W.seqJ (fun gs D => ∃ (gl277 : (List TLock)) (gx278 : Int) (gu280 : Unit), gs = [(0, (gv (q10 gx17.toNat) 0)), (5, .int .i64 gx278)] ∧ D = Cls w [] [.obj b15 [.int .i64 x14.Item, (gv (q10 gx17.toNat) 0), (gv (q10 gx17.toNat) 1)] 50, .obj b1 [.int .i64 a1] 3, .sl (gv (q10 gx17.toNat) 0) 55 2 (gl277.map TLock.row), .sl (gv (q10 gx17.toNat) 1) 55 2 (x14.Queue.map TLock.row), .sl gv10 50 3 (zr TLockItem.rowv gq12 gl11), .sl gv15 3 1 (gl16.map I), .sl v9 50 3 (zr TLockItem.rowv q10 l8), .ss (zsd TLockItem.sds q10 l8 ((gx17 + 1 : Int).toNat)), .os gc9] ∧ FzA K gc9 (zs TLockItem.sds gq12 gl11) ∧ m7_lock_Drop_K21 x14 a1 gl11 gx17 go1 gl16 gl277 gx278 = some r) ?_ ?_
            ·
             refine W.seq (W.region (L.y rfl (Y.move rfl) ?_))
             refine L.m (V := fun x162 => .int .i64 x162) h rfl (Y.addM rfl rfl) (fun x162 ex162 h => ?_)
             refine L.y rfl (Y.assign rfl) ?_
             refine L.nil (E.thenN (W.block (W.loopJ (fun m gs D => ∃ (gl283 : (List TLock)) (gx284 : Int) (gx285 : Int) (gu287 : Unit), gs = [(0, (gv (q10 gx17.toNat) 0)), (1, .func (.func 30) #[] #[pt b1 0]), (5, .int .i64 gx284), (6, .int .i64 gx285)] ∧ D = Cls w [] [.obj b15 [.int .i64 x14.Item, (gv (q10 gx17.toNat) 0), (gv (q10 gx17.toNat) 1)] 50, .obj b1 [.int .i64 a1] 3, .sl (gv (q10 gx17.toNat) 0) 55 2 (gl283.map TLock.row), .sl (gv (q10 gx17.toNat) 1) 55 2 (x14.Queue.map TLock.row), .sl gv10 50 3 (zr TLockItem.rowv gq12 gl11), .sl gv15 3 1 (gl16.map I), .sl v9 50 3 (zr TLockItem.rowv q10 l8), .ss (zsd TLockItem.sds q10 l8 ((gx17 + 1 : Int).toNat)), .os gc9] ∧ FzA K gc9 (zs TLockItem.sds gq12 gl11) ∧ m7_lock_Drop_L6 a1 x14 gl11 gx17 go1 gl16 m gl283 gx284 gx285 = some r) ⟨x14.Held, gx272, x162, (), rfl, rfl, hG275, h⟩ ⟨rfl, rfl, rfl, rfl, trivial⟩ (fun _ hw => hw) ?_)))
             rintro m _ _ ⟨gl283, gx284, gx285, gu287, rfl, rfl, hG286, h⟩
             rcases m with _ | m
             · rw [m7_lock_Drop_L6] at h; cases h
             rw [m7_lock_Drop_L6] at h
             generalize hg14 : m7_lock_Drop_L6 a1 x14 gl11 gx17 go1 gl16 m = go14 at h
             rw [m7_lock_Drop_L6B] at h
             refine W.seqJ (fun gs D => ∃ (gu289 : Unit), gs = [(0, (gv (q10 gx17.toNat) 0)), (1, .func (.func 30) #[] #[pt b1 0]), (5, .int .i64 gx284), (6, .int .i64 gx285)] ∧ D = Cls w [] [.obj b15 [.int .i64 x14.Item, (gv (q10 gx17.toNat) 0), (gv (q10 gx17.toNat) 1)] 50, .obj b1 [.int .i64 a1] 3, .sl (gv (q10 gx17.toNat) 0) 55 2 (gl283.map TLock.row), .sl (gv (q10 gx17.toNat) 1) 55 2 (x14.Queue.map TLock.row), .sl gv10 50 3 (zr TLockItem.rowv gq12 gl11), .sl gv15 3 1 (gl16.map I), .sl v9 50 3 (zr TLockItem.rowv q10 l8), .ss (zsd TLockItem.sds q10 l8 ((gx17 + 1 : Int).toNat)), .os gc9] ∧ FzA K gc9 (zs TLockItem.sds gq12 gl11) ∧ m7_lock_Drop_K22 gl283 gx285 a1 gx284 go14 = some r) ?_ ?_
             ·
              refine W.seq (W.region (L.y rfl (Y.move rfl) ?_))
              refine L.y rfl (Y.move rfl) ?_
              refine L.y rfl (Y.lenM (g := TLock.row) (l := gl283) Try.underlying48 rfl (fun w hw => As.at_ (hw.get (i := 2) rfl))) ?_
              refine L.ite h rfl (Y.lss rfl rfl) (fun c172 h => ?_) (fun c172 h => ?_)
              ·
               refine L.nil (E.thenN (W.condT rfl ?_))
               exact W.skip (E.joinJ ⟨(), rfl, rfl, hG286, h⟩ ⟨rfl, rfl, rfl, rfl, trivial⟩ (fun _ hw => hw))
              ·
               refine L.nil (E.thenN (W.condF rfl ?_))
               exact W.exit (E.KSX (E.KLX (E.blockX (E.joinJ ⟨gl283, gx284, (), rfl, rfl, hG286, h⟩ ⟨rfl, rfl, trivial⟩ (fun _ hw => hw)))))
             ·
              rintro _ _ ⟨gu289, rfl, rfl, hG288, h⟩
              rw [m7_lock_Drop_K22] at h
              refine W.seq (W.block (W.seq (W.region (L.y rfl (Y.move rfl) ?_))))
              refine L.y rfl (Y.move rfl) ?_
              refine L.m (V := fun _ => el (gv (q10 gx17.toNat) 0) (gx285.toNat * 2)) h rfl (Y.indexM (g := TLock.row) (l := gl283) Try.underlying48 sz55 rfl rfl (fun w hw => As.at_ (hw.get (i := 2) rfl))) (fun x163 ex163 h => ?_)
              refine L.y rfl (Y.loadEN (r := [.int .i64 x163.Tx, .int .i64 x163.Mode]) ag55 sz55 rfl (fun w hw => As.at_ (hw.get (i := 2) rfl)) (idx_map ex163) rfl) ?_
              refine L.alloc rfl ze55 ?_
              intro b164
              refine L.store (i := 0) (vs := [.int .i64 x163.Tx, .int .i64 x163.Mode]) sz55 rfl rfl rfl rfl (by simp [Value.oneCell', Value.cells, st, pt, el]) rfl (Nat.le_of_ble_eq_true rfl) ?_
              refine L.nil (E.thenN (W.seq (W.region (L.y rfl (Y.move rfl) ?_))))
              refine L.y rfl (Y.loadPW (i := 0) ag55 sz55 rfl rfl rfl) ?_
              refine L.callVJ (fun v D => ∃ (gu291 : Unit), v = .bool (decide (x163.Tx = a1)) ∧ D = Cls w [] [.obj b164 [.int .i64 x163.Tx, .int .i64 x163.Mode] 55, .obj b15 [.int .i64 x14.Item, (gv (q10 gx17.toNat) 0), (gv (q10 gx17.toNat) 1)] 50, .obj b1 [.int .i64 a1] 3, .sl (gv (q10 gx17.toNat) 0) 55 2 (gl283.map TLock.row), .sl (gv (q10 gx17.toNat) 1) 55 2 (x14.Queue.map TLock.row), .sl gv10 50 3 (zr TLockItem.rowv gq12 gl11), .sl gv15 3 1 (gl16.map I), .sl v9 50 3 (zr TLockItem.rowv q10 l8), .ss (zsd TLockItem.sds q10 l8 ((gx17 + 1 : Int).toNat)), .os gc9] ∧ FzA K gc9 (zs TLockItem.sds gq12 gl11) ∧ m7_lock_Drop_K23 x163 a1 gl283 gx284 gx285 go14 = some r) rfl en30 rfl rfl Try.func30 rfl rfl rfl ?_ ?_
              ·
               refine W.seq (W.region (L.box rfl rfl ?_))
               intro b171
               refine L.y rfl (Y.assign rfl) ?_
               refine L.nil (E.thenN (W.seq (W.region (L.y rfl (Y.fieldP fd55_0 rfl) ?_))))
               refine L.y rfl (Y.loadP (i := 0) ag3 rfl rfl rfl) ?_
               refine L.y rfl (Y.loadP (i := 3) ag3 rfl rfl rfl) ?_
               refine L.y rfl (Y.eql rfl rfl) ?_
               refine L.y rfl (Y.assign rfl) ?_
               refine L.nil (E.thenN (W.ret (E.ret1 rfl rfl (fun w1 hw => ?_))))
               exact ⟨_, _, rfl, ⟨(), rfl, rfl, hG288, h⟩, hw.sel [1, 2, 3, 4, 5, 6, 7, 8, 9, 10] (by decide) rfl⟩
              ·
               rintro _ _ ⟨gu291, rfl, rfl, hG290, h⟩
               rw [m7_lock_Drop_K23] at h
               refine L.iteB h rfl (Y.not rfl) (fun c165 h => ?_) (fun c165 h => ?_)
               ·
                refine L.nil (E.thenN (W.condT rfl ?_))
                refine W.seq (W.region (L.y rfl (Y.move rfl) ?_))
                refine L.y rfl (Y.move rfl) ?_
                refine L.y rfl (Y.loadPW (i := 0) ag55 sz55 rfl rfl rfl) ?_
                refine L.m (V := fun _ => el (gv (q10 gx17.toNat) 0) (gx284.toNat * 2)) h rfl (Y.indexM (g := TLock.row) (l := gl283) Try.underlying48 sz55 rfl rfl (fun w hw => As.at_ (hw.get (i := 3) rfl))) (fun x166 ex166 h => ?_)
                refine L.storeSlM (q := 3) (row := TLock.row) (vs := [.int .i64 x163.Tx, .int .i64 x163.Mode]) (j := 0) (u1 := x163) h sz55 rfl rfl rfl rfl rfl (all1 rfl (all1 rfl all0)) rfl ex166 rfl rfl ?_
                intro l167 el167 h
                refine L.nil (E.thenN (W.region (L.y rfl (Y.move rfl) ?_)))
                refine L.m (V := fun x168 => .int .i64 x168) h rfl (Y.addM rfl rfl) (fun x168 ex168 h => ?_)
                refine L.y rfl (Y.assign rfl) ?_
                refine L.nil (E.blockN (E.thenN (W.region (L.y rfl (Y.move rfl) ?_))))
                refine L.m (V := fun x169 => .int .i64 x169) h rfl (Y.addM rfl rfl) (fun x169 ex169 h => ?_)
                refine L.y rfl (Y.assign rfl) ?_
                exact L.nil (E.againJ ⟨l167, x168, x169, (), rfl, rfl, hG290, by rw [hg14]; exact h⟩ (Nat.lt_succ_self _) ⟨rfl, rfl, rfl, rfl, trivial⟩ (fun _ hw => hw.sel [1, 2, 3, 4, 5, 6, 7, 8, 9] (by decide) rfl))
               ·
                refine L.nil (E.thenN (W.condF rfl ?_))
                refine W.skip (E.blockN (E.thenN (W.region (L.y rfl (Y.move rfl) ?_))))
                refine L.m (V := fun x170 => .int .i64 x170) h rfl (Y.addM rfl rfl) (fun x170 ex170 h => ?_)
                refine L.y rfl (Y.assign rfl) ?_
                exact L.nil (E.againJ ⟨gl283, gx284, x170, (), rfl, rfl, hG290, by rw [hg14]; exact h⟩ (Nat.lt_succ_self _) ⟨rfl, rfl, rfl, rfl, trivial⟩ (fun _ hw => hw.sel [1, 2, 3, 4, 5, 6, 7, 8, 9] (by decide) rfl))
            ·
             rintro _ _ ⟨gl277, gx278, gu280, rfl, rfl, hG279, h⟩
             rw [m7_lock_Drop_K21] at h
             refine W.seq (W.region (L.y rfl (Y.move rfl) ?_))
             refine L.y rfl (Y.move rfl) ?_
             refine L.m (V := fun _ => dropv (gv (q10 gx17.toNat) 0) gx278.toNat 2) h rfl (Y.dropM (g := TLock.row) Try.underlying48 sz55 rfl rfl (fun w hw => As.at_ (hw.get (i := 2) rfl))) (fun l158 el158 h => ?_)
             refine L.clearM (i := 2) (g := TLock.row) (z0 := (⟨0, 0⟩ : TLock)) (a := gx278) h Try.underlying48 eL55 ze55 (fun u hu => ((plain_TLock _) : Plain ([(⟨0, 0⟩ : TLock)].map TLock.row)) _ (List.mem_cons_self ..) u hu) rfl rfl ?_
             intro l159 el159 h
             refine L.nil (E.thenN (W.seq (W.region (L.y rfl (Y.move rfl) ?_))))
             refine L.y rfl (Y.move rfl) ?_
             obtain ⟨l160, el160, h⟩ := bind1S h
             refine L.cutM (i := 2) (g := TLock.row) el160 rfl Try.underlying48 sz55 rfl rfl rfl (fun v161 => ?_)
             refine L.y rfl (Y.assign rfl) ?_
             refine L.nil (E.thenN (W.ret (E.ret1 rfl rfl (fun w1 hw => ?_))))
             exact ⟨_, _, rfl, ⟨(), v161, l160, rfl, rfl, hG279, h⟩, hw.sel [0, 1, 4, 5, 6, 7, 3, 2, 8] (by decide) rfl⟩
         ·
          rintro gv237 _ ⟨gu236, _, gl238, rfl, rfl, hG235, h⟩
          rw [m7_lock_Drop_K10] at h
          refine L.nil (E.toV2 (stC [[7]] [Cls w [] [.obj b1 [.int .i64 a1] 3, .sl gv15 3 1 (gl16.map I), .sl v9 50 3 (zr TLockItem.rowv q10 l8), .sl (gv (q10 gx17.toNat) 1) 55 2 (x14.Queue.map TLock.row), .sl gv237 55 2 (gl238.map TLock.row), .os gc9]] (Cls w [] [.obj b1 [.int .i64 a1] 3, .sl gv15 3 1 (gl16.map I), .sl v9 50 3 (zr TLockItem.rowv q10 l8), .sl gv237 55 2 (gl238.map TLock.row), .os gc9])) 3 (by kernel_rfl) (Sc.past rfl (Sc.stay (fun _ hw => hw.sel [3, 0, 1, 2, 5] (by decide) rfl) (Sc.stayD (fun _ hw => hw.sel [0, 1, 2, 4] (by decide) rfl)))) (Sc.now (by kernel_rfl) (fun _ hw => hw.sel [1, 3, 4, 6, 7, 8] (by decide) rfl)) ?_)
          refine V2.eff (i := 7) (by kernel_rfl) rfl ?_
          refine L.callJ (fun v D => ∃ (gu240 : Unit) (gv241 : Value) (gl242 : (List TLock)), v = gv241 ∧ D = Cls w [] [.obj b15 [.int .i64 x14.Item, (gv (q10 gx17.toNat) 0), (gv (q10 gx17.toNat) 1)] 50, .obj b1 [.int .i64 a1] 3, .sl gv10 50 3 (zr TLockItem.rowv gq12 gl11), .sl gv15 3 1 (gl16.map I), .sl v9 50 3 (zr TLockItem.rowv q10 l8), .ss (zsd TLockItem.sds q10 l8 ((gx17 + 1 : Int).toNat)), .sl gv237 55 2 (gl238.map TLock.row), .sl gv241 55 2 (gl242.map TLock.row), .os gc9] ∧ FzA K gc9 (zs TLockItem.sds gq12 gl11) ∧ m7_lock_Drop_K11 x14 gl11 gx17 go1 gl16 gl238 gl242 = some r) rfl en31 rfl Try.func31 rfl rfl rfl ?_ ?_
          ·
           refine W.seq (W.region (L.y rfl (Y.assign rfl) ?_))
           refine L.nil (E.thenN (W.seq (W.region (L.y rfl (Y.move rfl) ?_))))
           refine L.y rfl (Y.move rfl) ?_
           refine L.callJ (fun v D => ∃ (gx243 : Int) (gu245 : Unit), v = .int .i64 gx243 ∧ D = Cls w [] [.obj b15 [.int .i64 x14.Item, (gv (q10 gx17.toNat) 0), (gv (q10 gx17.toNat) 1)] 50, .obj b1 [.int .i64 a1] 3, .sl (gv (q10 gx17.toNat) 1) 55 2 (x14.Queue.map TLock.row), .sl gv10 50 3 (zr TLockItem.rowv gq12 gl11), .sl gv15 3 1 (gl16.map I), .sl v9 50 3 (zr TLockItem.rowv q10 l8), .ss (zsd TLockItem.sds q10 l8 ((gx17 + 1 : Int).toNat)), .sl gv237 55 2 (gl238.map TLock.row), .os gc9] ∧ FzA K gc9 (zs TLockItem.sds gq12 gl11) ∧ m7_lock_Drop_K12 x14 gl11 gx17 go1 gl16 gl238 a1 gx243 = some r) rfl en35 rfl Try.func35 rfl rfl rfl ?_ ?_
           ·
            refine W.seq (W.region (L.y rfl (Y.assign rfl) ?_))
            refine L.nil (E.thenN (W.seqJ (fun gs D => ∃ (gu264 : Unit), gs = [] ∧ D = Cls w [] [.obj b15 [.int .i64 x14.Item, (gv (q10 gx17.toNat) 0), (gv (q10 gx17.toNat) 1)] 50, .obj b1 [.int .i64 a1] 3, .sl (gv (q10 gx17.toNat) 1) 55 2 (x14.Queue.map TLock.row), .sl gv10 50 3 (zr TLockItem.rowv gq12 gl11), .sl gv15 3 1 (gl16.map I), .sl v9 50 3 (zr TLockItem.rowv q10 l8), .ss (zsd TLockItem.sds q10 l8 ((gx17 + 1 : Int).toNat)), .sl gv237 55 2 (gl238.map TLock.row), .os gc9] ∧ FzA K gc9 (zs TLockItem.sds gq12 gl11) ∧ m7_lock_Drop_K17 x14 gl11 gx17 go1 gl16 gl238 a1 = some r) ?_ ?_))
            ·
             refine W.seq (W.region (L.y rfl (Y.move rfl) ?_))
             refine L.y rfl (Y.lenM (g := TLock.row) (l := x14.Queue) Try.underlying48 rfl (fun w hw => As.at_ (hw.get (i := 6) rfl))) ?_
             refine L.y rfl (Y.move rfl) ?_
             refine L.nil (E.thenN (W.block (W.loopJ (fun m gs D => ∃ (gx267 : Int) (gu269 : Unit), gs = [(0, (gv (q10 gx17.toNat) 1)), (1, .func (.func 30) #[] #[pt b1 0]), (7, .int .i64 (x14.Queue.length : Int)), (8, .int .i64 gx267)] ∧ D = Cls w [] [.obj b15 [.int .i64 x14.Item, (gv (q10 gx17.toNat) 0), (gv (q10 gx17.toNat) 1)] 50, .obj b1 [.int .i64 a1] 3, .sl (gv (q10 gx17.toNat) 1) 55 2 (x14.Queue.map TLock.row), .sl gv10 50 3 (zr TLockItem.rowv gq12 gl11), .sl gv15 3 1 (gl16.map I), .sl v9 50 3 (zr TLockItem.rowv q10 l8), .ss (zsd TLockItem.sds q10 l8 ((gx17 + 1 : Int).toNat)), .sl gv237 55 2 (gl238.map TLock.row), .os gc9] ∧ FzA K gc9 (zs TLockItem.sds gq12 gl11) ∧ m7_lock_Drop_L5 x14 a1 gl11 gx17 go1 gl16 gl238 m gx267 = some r) ⟨0, (), rfl, rfl, hG235, h⟩ ⟨rfl, rfl, rfl, rfl, trivial⟩ (fun _ hw => hw.sel [0, 1, 6, 2, 3, 4, 5, 7, 8] (by decide) rfl) ?_)))
             rintro m _ _ ⟨gx267, gu269, rfl, rfl, hG268, h⟩
             rcases m with _ | m
             · rw [m7_lock_Drop_L5] at h; cases h
             rw [m7_lock_Drop_L5] at h
             generalize hg13 : m7_lock_Drop_L5 x14 a1 gl11 gx17 go1 gl16 gl238 m = go13 at h
             rw [m7_lock_Drop_L5B] at h
             refine W.seq (W.region (L.ite h rfl (Y.lss rfl rfl) (fun c154 h => ?_) (fun c154 h => ?_)))
             ·
              refine L.nil (E.thenN (W.seq (W.condT rfl ?_)))
              refine W.skip (E.thenN (W.seq (W.block (W.seq (W.region (L.y rfl (Y.move rfl) ?_))))))
              refine L.y rfl (Y.assign rfl) ?_
              refine L.nil (E.thenN (W.seq (W.region (L.y rfl (Y.move rfl) ?_))))
              refine L.y rfl (Y.move rfl) ?_
              refine L.y rfl (Y.move rfl) ?_
              refine L.m (V := fun _ => el (gv (q10 gx17.toNat) 1) (gx267.toNat * 2)) h rfl (Y.indexM (g := TLock.row) (l := x14.Queue) Try.underlying48 sz55 rfl rfl (fun w hw => As.at_ (hw.get (i := 2) rfl))) (fun x155 ex155 h => ?_)
              refine L.y rfl (Y.loadEN (r := [.int .i64 x155.Tx, .int .i64 x155.Mode]) ag55 sz55 rfl (fun w hw => As.at_ (hw.get (i := 2) rfl)) (idx_map ex155) rfl) ?_
              refine L.callVJ (fun v D => ∃ (gu271 : Unit), v = .bool (decide (x155.Tx = a1)) ∧ D = Cls w [] [.obj b15 [.int .i64 x14.Item, (gv (q10 gx17.toNat) 0), (gv (q10 gx17.toNat) 1)] 50, .obj b1 [.int .i64 a1] 3, .sl (gv (q10 gx17.toNat) 1) 55 2 (x14.Queue.map TLock.row), .sl gv10 50 3 (zr TLockItem.rowv gq12 gl11), .sl gv15 3 1 (gl16.map I), .sl v9 50 3 (zr TLockItem.rowv q10 l8), .ss (zsd TLockItem.sds q10 l8 ((gx17 + 1 : Int).toNat)), .sl gv237 55 2 (gl238.map TLock.row), .os gc9] ∧ FzA K gc9 (zs TLockItem.sds gq12 gl11) ∧ m7_lock_Drop_K18 x155 a1 x14 gl11 gx17 go1 gl16 gl238 gx267 go13 = some r) rfl en30 rfl rfl Try.func30 rfl rfl rfl ?_ ?_
              ·
               refine W.seq (W.region (L.box rfl rfl ?_))
               intro b157
               refine L.y rfl (Y.assign rfl) ?_
               refine L.nil (E.thenN (W.seq (W.region (L.y rfl (Y.fieldP fd55_0 rfl) ?_))))
               refine L.y rfl (Y.loadP (i := 0) ag3 rfl rfl rfl) ?_
               refine L.y rfl (Y.loadP (i := 2) ag3 rfl rfl rfl) ?_
               refine L.y rfl (Y.eql rfl rfl) ?_
               refine L.y rfl (Y.assign rfl) ?_
               refine L.nil (E.thenN (W.ret (E.ret1 rfl rfl (fun w1 hw => ?_))))
               exact ⟨_, _, rfl, ⟨(), rfl, rfl, hG268, h⟩, hw.sel [1, 2, 3, 4, 5, 6, 7, 8, 9] (by decide) rfl⟩
              ·
               rintro _ _ ⟨gu271, rfl, rfl, hG270, h⟩
               rw [m7_lock_Drop_K18] at h
               refine L.nil (E.thenN (W.caseB (q := 16) h rfl (fun h => ?_) (fun h => ?_)))
               ·
                refine W.condT rfl ?_
                refine W.seq (W.region (L.y rfl (Y.move rfl) ?_))
                refine L.y rfl (Y.assign rfl) ?_
                refine L.nil (E.thenN (W.ret (E.blockR (E.thenR (E.KLR (E.blockR (E.KSR (E.ret1 rfl rfl (fun w1 hw => ?_)))))))))
                exact ⟨_, _, rfl, ⟨gx267, (), rfl, rfl, hG270, h⟩, hw⟩
               ·
                refine W.condF rfl ?_
                refine W.skip (E.blockN (E.thenN (W.region (L.m (V := fun x156 => .int .i64 x156) h rfl (Y.addM rfl rfl) (fun x156 ex156 h => ?_)))))
                refine L.y rfl (Y.move rfl) ?_
                exact L.nil (E.againJ ⟨x156, (), rfl, rfl, hG270, by rw [hg13]; exact h⟩ (Nat.lt_succ_self _) ⟨rfl, rfl, rfl, rfl, trivial⟩ (fun _ hw => hw))
             ·
              refine L.nil (E.thenN (W.seq (W.condF rfl ?_)))
              exact W.exit (E.thenX (E.KLX (E.blockX (E.joinJ ⟨(), rfl, rfl, hG268, h⟩ trivial (fun _ hw => hw)))))
            ·
             rintro _ _ ⟨gu264, rfl, rfl, hG263, h⟩
             rw [m7_lock_Drop_K17] at h
             refine W.seq (W.region (L.y rfl (Y.assign rfl) ?_))
             refine L.nil (E.thenN (W.ret (E.ret1 rfl rfl (fun w1 hw => ?_))))
             exact ⟨_, _, rfl, ⟨(-1), (), rfl, rfl, hG263, h⟩, hw⟩
           ·
            rintro _ _ ⟨gx243, gu245, rfl, rfl, hG244, h⟩
            rw [m7_lock_Drop_K12] at h
            refine L.y rfl (Y.assign rfl) ?_
            refine L.nil (E.thenN (W.seqJ (fun gs D => ∃ (gu247 : Unit), gs = [(0, (gv (q10 gx17.toNat) 1)), (1, .func (.func 30) #[] #[pt b1 0]), (5, .int .i64 gx243)] ∧ D = Cls w [] [.obj b15 [.int .i64 x14.Item, (gv (q10 gx17.toNat) 0), (gv (q10 gx17.toNat) 1)] 50, .obj b1 [.int .i64 a1] 3, .sl (gv (q10 gx17.toNat) 1) 55 2 (x14.Queue.map TLock.row), .sl gv10 50 3 (zr TLockItem.rowv gq12 gl11), .sl gv15 3 1 (gl16.map I), .sl v9 50 3 (zr TLockItem.rowv q10 l8), .ss (zsd TLockItem.sds q10 l8 ((gx17 + 1 : Int).toNat)), .sl gv237 55 2 (gl238.map TLock.row), .os gc9] ∧ FzA K gc9 (zs TLockItem.sds gq12 gl11) ∧ m7_lock_Drop_K13 gx243 a1 x14 gl11 gx17 go1 gl16 gl238 = some r) ?_ ?_))
            ·
             refine W.seq (W.region (L.y rfl (Y.move rfl) ?_))
             refine L.ite h rfl (Y.eql rfl rfl) (fun c153 h => ?_) (fun c153 h => ?_)
             ·
              refine L.nil (E.thenN (W.condT rfl ?_))
              refine W.seq (W.region (L.y rfl (Y.move rfl) ?_))
              refine L.y rfl (Y.assign rfl) ?_
              refine L.nil (E.thenN (W.ret (E.KSR (E.ret1 rfl rfl (fun w1 hw => ?_)))))
              exact ⟨_, _, rfl, ⟨(), (gv (q10 gx17.toNat) 1), x14.Queue, rfl, rfl, hG244, h⟩, hw.sel [0, 1, 3, 4, 5, 6, 7, 2, 8] (by decide) rfl⟩
             ·
              refine L.nil (E.thenN (W.condF rfl ?_))
              exact W.skip (E.joinJ ⟨(), rfl, rfl, hG244, h⟩ ⟨rfl, rfl, rfl, trivial⟩ (fun _ hw => hw))
            ·
             rintro _ _ ⟨gu247, rfl, rfl, hG246, h⟩
             rw [m7_lock_Drop_K13] at h
             refine W.seqJ (fun gs D => ∃ (gl248 : (List TLock)) (gx249 : Int) (gu251 : Unit), gs = [(0, (gv (q10 gx17.toNat) 1)), (5, .int .i64 gx249)] ∧ D = Cls w [] [.obj b15 [.int .i64 x14.Item, (gv (q10 gx17.toNat) 0), (gv (q10 gx17.toNat) 1)] 50, .obj b1 [.int .i64 a1] 3, .sl (gv (q10 gx17.toNat) 1) 55 2 (gl248.map TLock.row), .sl gv10 50 3 (zr TLockItem.rowv gq12 gl11), .sl gv15 3 1 (gl16.map I), .sl v9 50 3 (zr TLockItem.rowv q10 l8), .ss (zsd TLockItem.sds q10 l8 ((gx17 + 1 : Int).toNat)), .sl gv237 55 2 (gl238.map TLock.row), .os gc9] ∧ FzA K gc9 (zs TLockItem.sds gq12 gl11) ∧ m7_lock_Drop_K14 x14 gl11 gx17 go1 gl16 gl238 gl248 gx249 = some r) ?_ ?_
             ·
              refine W.seq (W.region (L.y rfl (Y.move rfl) ?_))
              refine L.m (V := fun x142 => .int .i64 x142) h rfl (Y.addM rfl rfl) (fun x142 ex142 h => ?_)
              refine L.y rfl (Y.assign rfl) ?_
              refine L.nil (E.thenN (W.block (W.loopJ (fun m gs D => ∃ (gl254 : (List TLock)) (gx255 : Int) (gx256 : Int) (gu258 : Unit), gs = [(0, (gv (q10 gx17.toNat) 1)), (1, .func (.func 30) #[] #[pt b1 0]), (5, .int .i64 gx255), (6, .int .i64 gx256)] ∧ D = Cls w [] [.obj b15 [.int .i64 x14.Item, (gv (q10 gx17.toNat) 0), (gv (q10 gx17.toNat) 1)] 50, .obj b1 [.int .i64 a1] 3, .sl (gv (q10 gx17.toNat) 1) 55 2 (gl254.map TLock.row), .sl gv10 50 3 (zr TLockItem.rowv gq12 gl11), .sl gv15 3 1 (gl16.map I), .sl v9 50 3 (zr TLockItem.rowv q10 l8), .ss (zsd TLockItem.sds q10 l8 ((gx17 + 1 : Int).toNat)), .sl gv237 55 2 (gl238.map TLock.row), .os gc9] ∧ FzA K gc9 (zs TLockItem.sds gq12 gl11) ∧ m7_lock_Drop_L4 a1 x14 gl11 gx17 go1 gl16 gl238 m gl254 gx255 gx256 = some r) ⟨x14.Queue, gx243, x142, (), rfl, rfl, hG246, h⟩ ⟨rfl, rfl, rfl, rfl, trivial⟩ (fun _ hw => hw) ?_)))
              rintro m _ _ ⟨gl254, gx255, gx256, gu258, rfl, rfl, hG257, h⟩
              rcases m with _ | m
              · rw [m7_lock_Drop_L4] at h; cases h
              rw [m7_lock_Drop_L4] at h
              generalize hg12 : m7_lock_Drop_L4 a1 x14 gl11 gx17 go1 gl16 gl238 m = go12 at h
              rw [m7_lock_Drop_L4B] at h
              refine W.seqJ (fun gs D => ∃ (gu260 : Unit), gs = [(0, (gv (q10 gx17.toNat) 1)), (1, .func (.func 30) #[] #[pt b1 0]), (5, .int .i64 gx255), (6, .int .i64 gx256)] ∧ D = Cls w [] [.obj b15 [.int .i64 x14.Item, (gv (q10 gx17.toNat) 0), (gv (q10 gx17.toNat) 1)] 50, .obj b1 [.int .i64 a1] 3, .sl (gv (q10 gx17.toNat) 1) 55 2 (gl254.map TLock.row), .sl gv10 50 3 (zr TLockItem.rowv gq12 gl11), .sl gv15 3 1 (gl16.map I), .sl v9 50 3 (zr TLockItem.rowv q10 l8), .ss (zsd TLockItem.sds q10 l8 ((gx17 + 1 : Int).toNat)), .sl gv237 55 2 (gl238.map TLock.row), .os gc9] ∧ FzA K gc9 (zs TLockItem.sds gq12 gl11) ∧ m7_lock_Drop_K15 gl254 gx256 a1 gx255 go12 = some r) ?_ ?_
              ·
               refine W.seq (W.region (L.y rfl (Y.move rfl) ?_))
               refine L.y rfl (Y.move rfl) ?_
               refine L.y rfl (Y.lenM (g := TLock.row) (l := gl254) Try.underlying48 rfl (fun w hw => As.at_ (hw.get (i := 2) rfl))) ?_
               refine L.ite h rfl (Y.lss rfl rfl) (fun c152 h => ?_) (fun c152 h => ?_)
               ·
                refine L.nil (E.thenN (W.condT rfl ?_))
                exact W.skip (E.joinJ ⟨(), rfl, rfl, hG257, h⟩ ⟨rfl, rfl, rfl, rfl, trivial⟩ (fun _ hw => hw))
               ·
                refine L.nil (E.thenN (W.condF rfl ?_))
                exact W.exit (E.KSX (E.KLX (E.blockX (E.joinJ ⟨gl254, gx255, (), rfl, rfl, hG257, h⟩ ⟨rfl, rfl, trivial⟩ (fun _ hw => hw)))))
              ·
               rintro _ _ ⟨gu260, rfl, rfl, hG259, h⟩
               rw [m7_lock_Drop_K15] at h
               refine W.seq (W.block (W.seq (W.region (L.y rfl (Y.move rfl) ?_))))
               refine L.y rfl (Y.move rfl) ?_
               refine L.m (V := fun _ => el (gv (q10 gx17.toNat) 1) (gx256.toNat * 2)) h rfl (Y.indexM (g := TLock.row) (l := gl254) Try.underlying48 sz55 rfl rfl (fun w hw => As.at_ (hw.get (i := 2) rfl))) (fun x143 ex143 h => ?_)
               refine L.y rfl (Y.loadEN (r := [.int .i64 x143.Tx, .int .i64 x143.Mode]) ag55 sz55 rfl (fun w hw => As.at_ (hw.get (i := 2) rfl)) (idx_map ex143) rfl) ?_
               refine L.alloc rfl ze55 ?_
               intro b144
               refine L.store (i := 0) (vs := [.int .i64 x143.Tx, .int .i64 x143.Mode]) sz55 rfl rfl rfl rfl (by simp [Value.oneCell', Value.cells, st, pt, el]) rfl (Nat.le_of_ble_eq_true rfl) ?_
               refine L.nil (E.thenN (W.seq (W.region (L.y rfl (Y.move rfl) ?_))))
               refine L.y rfl (Y.loadPW (i := 0) ag55 sz55 rfl rfl rfl) ?_
               refine L.callVJ (fun v D => ∃ (gu262 : Unit), v = .bool (decide (x143.Tx = a1)) ∧ D = Cls w [] [.obj b144 [.int .i64 x143.Tx, .int .i64 x143.Mode] 55, .obj b15 [.int .i64 x14.Item, (gv (q10 gx17.toNat) 0), (gv (q10 gx17.toNat) 1)] 50, .obj b1 [.int .i64 a1] 3, .sl (gv (q10 gx17.toNat) 1) 55 2 (gl254.map TLock.row), .sl gv10 50 3 (zr TLockItem.rowv gq12 gl11), .sl gv15 3 1 (gl16.map I), .sl v9 50 3 (zr TLockItem.rowv q10 l8), .ss (zsd TLockItem.sds q10 l8 ((gx17 + 1 : Int).toNat)), .sl gv237 55 2 (gl238.map TLock.row), .os gc9] ∧ FzA K gc9 (zs TLockItem.sds gq12 gl11) ∧ m7_lock_Drop_K16 x143 a1 gl254 gx255 gx256 go12 = some r) rfl en30 rfl rfl Try.func30 rfl rfl rfl ?_ ?_
               ·
                refine W.seq (W.region (L.box rfl rfl ?_))
                intro b151
                refine L.y rfl (Y.assign rfl) ?_
                refine L.nil (E.thenN (W.seq (W.region (L.y rfl (Y.fieldP fd55_0 rfl) ?_))))
                refine L.y rfl (Y.loadP (i := 0) ag3 rfl rfl rfl) ?_
                refine L.y rfl (Y.loadP (i := 3) ag3 rfl rfl rfl) ?_
                refine L.y rfl (Y.eql rfl rfl) ?_
                refine L.y rfl (Y.assign rfl) ?_
                refine L.nil (E.thenN (W.ret (E.ret1 rfl rfl (fun w1 hw => ?_))))
                exact ⟨_, _, rfl, ⟨(), rfl, rfl, hG259, h⟩, hw.sel [1, 2, 3, 4, 5, 6, 7, 8, 9, 10] (by decide) rfl⟩
               ·
                rintro _ _ ⟨gu262, rfl, rfl, hG261, h⟩
                rw [m7_lock_Drop_K16] at h
                refine L.iteB h rfl (Y.not rfl) (fun c145 h => ?_) (fun c145 h => ?_)
                ·
                 refine L.nil (E.thenN (W.condT rfl ?_))
                 refine W.seq (W.region (L.y rfl (Y.move rfl) ?_))
                 refine L.y rfl (Y.move rfl) ?_
                 refine L.y rfl (Y.loadPW (i := 0) ag55 sz55 rfl rfl rfl) ?_
                 refine L.m (V := fun _ => el (gv (q10 gx17.toNat) 1) (gx255.toNat * 2)) h rfl (Y.indexM (g := TLock.row) (l := gl254) Try.underlying48 sz55 rfl rfl (fun w hw => As.at_ (hw.get (i := 3) rfl))) (fun x146 ex146 h => ?_)
                 refine L.storeSlM (q := 3) (row := TLock.row) (vs := [.int .i64 x143.Tx, .int .i64 x143.Mode]) (j := 0) (u1 := x143) h sz55 rfl rfl rfl rfl rfl (all1 rfl (all1 rfl all0)) rfl ex146 rfl rfl ?_
                 intro l147 el147 h
                 refine L.nil (E.thenN (W.region (L.y rfl (Y.move rfl) ?_)))
                 refine L.m (V := fun x148 => .int .i64 x148) h rfl (Y.addM rfl rfl) (fun x148 ex148 h => ?_)
                 refine L.y rfl (Y.assign rfl) ?_
                 refine L.nil (E.blockN (E.thenN (W.region (L.y rfl (Y.move rfl) ?_))))
                 refine L.m (V := fun x149 => .int .i64 x149) h rfl (Y.addM rfl rfl) (fun x149 ex149 h => ?_)
                 refine L.y rfl (Y.assign rfl) ?_
                 exact L.nil (E.againJ ⟨l147, x148, x149, (), rfl, rfl, hG261, by rw [hg12]; exact h⟩ (Nat.lt_succ_self _) ⟨rfl, rfl, rfl, rfl, trivial⟩ (fun _ hw => hw.sel [1, 2, 3, 4, 5, 6, 7, 8, 9] (by decide) rfl))
                ·
                 refine L.nil (E.thenN (W.condF rfl ?_))
                 refine W.skip (E.blockN (E.thenN (W.region (L.y rfl (Y.move rfl) ?_))))
                 refine L.m (V := fun x150 => .int .i64 x150) h rfl (Y.addM rfl rfl) (fun x150 ex150 h => ?_)
                 refine L.y rfl (Y.assign rfl) ?_
                 exact L.nil (E.againJ ⟨gl254, gx255, x150, (), rfl, rfl, hG261, by rw [hg12]; exact h⟩ (Nat.lt_succ_self _) ⟨rfl, rfl, rfl, rfl, trivial⟩ (fun _ hw => hw.sel [1, 2, 3, 4, 5, 6, 7, 8, 9] (by decide) rfl))
             ·
              rintro _ _ ⟨gl248, gx249, gu251, rfl, rfl, hG250, h⟩
              rw [m7_lock_Drop_K14] at h
              refine W.seq (W.region (L.y rfl (Y.move rfl) ?_))
              refine L.y rfl (Y.move rfl) ?_
              refine L.m (V := fun _ => dropv (gv (q10 gx17.toNat) 1) gx249.toNat 2) h rfl (Y.dropM (g := TLock.row) Try.underlying48 sz55 rfl rfl (fun w hw => As.at_ (hw.get (i := 2) rfl))) (fun l138 el138 h => ?_)
              refine L.clearM (i := 2) (g := TLock.row) (z0 := (⟨0, 0⟩ : TLock)) (a := gx249) h Try.underlying48 eL55 ze55 (fun u hu => ((plain_TLock _) : Plain ([(⟨0, 0⟩ : TLock)].map TLock.row)) _ (List.mem_cons_self ..) u hu) rfl rfl ?_
              intro l139 el139 h
              refine L.nil (E.thenN (W.seq (W.region (L.y rfl (Y.move rfl) ?_))))
              refine L.y rfl (Y.move rfl) ?_
              obtain ⟨l140, el140, h⟩ := bind1S h
              refine L.cutM (i := 2) (g := TLock.row) el140 rfl Try.underlying48 sz55 rfl rfl rfl (fun v141 => ?_)
              refine L.y rfl (Y.assign rfl) ?_
              refine L.nil (E.thenN (W.ret (E.ret1 rfl rfl (fun w1 hw => ?_))))
              exact ⟨_, _, rfl, ⟨(), v141, l140, rfl, rfl, hG250, h⟩, hw.sel [0, 1, 3, 4, 5, 6, 7, 2, 8] (by decide) rfl⟩
          ·
           rintro gv241 _ ⟨gu240, _, gl242, rfl, rfl, hG239, h⟩
           rw [m7_lock_Drop_K11] at h
           refine L.nil (E.toV2 (stC [] [] (Cls w [] [.obj b1 [.int .i64 a1] 3, .sl gv15 3 1 (gl16.map I), .sl v9 50 3 (zr TLockItem.rowv q10 l8), .sl gv237 55 2 (gl238.map TLock.row), .sl gv241 55 2 (gl242.map TLock.row), .os gc9])) 7 (by kernel_rfl) (Sc.past rfl (Sc.stayD (fun _ hw => hw.sel [0, 1, 2, 3, 5] (by decide) rfl))) (Sc.atD (fun _ hw => hw.sel [1, 3, 4, 6, 7, 8] (by decide) rfl)) ?_)
           refine V2.y (i := 8) (Nx2.of (Z := Cls w [] [.obj b1 [.int .i64 a1] 3, .sl gv15 3 1 (gl16.map I), .sl v9 50 3 (zr TLockItem.rowv q10 l8), .sl gv237 55 2 (gl238.map TLock.row), .sl gv241 55 2 (gl242.map TLock.row), .os gc9]) [] (by kernel_rfl) rfl (Zc.fin (fun _ hw => hw))) rfl rfl rfl (Y.fieldP fd50_1 rfl) ?_
           refine V2.eff (i := 9) (by kernel_rfl) rfl ?_
           refine L.storeV (i := 0) sz48 rfl rfl (fun _ hw => (As.at_ (hw.get (i := 6) rfl)).one) rfl (Nat.le_of_ble_eq_true rfl) ?_
           refine L.nil (E.toV2 (stC [] [] (Cls w [] [.obj b1 [.int .i64 a1] 3, .sl gv15 3 1 (gl16.map I), .sl v9 50 3 (zr TLockItem.rowv q10 l8), .sl gv237 55 2 (gl238.map TLock.row), .sl gv241 55 2 (gl242.map TLock.row), .os gc9])) 9 (by kernel_rfl) (Sc.stayD (fun _ hw => hw)) (Sc.atD (fun _ hw => hw.sel [1, 3, 4, 6, 7, 8] (by decide) rfl)) ?_)
           refine V2.y (i := 10) (Nx2.of (Z := Cls w [] [.obj b1 [.int .i64 a1] 3, .sl gv15 3 1 (gl16.map I), .sl v9 50 3 (zr TLockItem.rowv q10 l8), .sl gv237 55 2 (gl238.map TLock.row), .sl gv241 55 2 (gl242.map TLock.row), .os gc9]) [] (by kernel_rfl) rfl (Zc.fin (fun _ hw => hw))) rfl rfl rfl (Y.fieldP fd50_2 rfl) ?_
           refine V2.eff (i := 11) (by kernel_rfl) rfl ?_
           refine L.storeV (i := 0) sz48 rfl rfl (fun _ hw => (As.at_ (hw.get (i := 7) rfl)).one) rfl (Nat.le_of_ble_eq_true rfl) ?_
           refine L.nil (E.toV2 (stC [] [] (Cls w [] [.obj b1 [.int .i64 a1] 3, .sl gv15 3 1 (gl16.map I), .sl v9 50 3 (zr TLockItem.rowv q10 l8), .sl gv237 55 2 (gl238.map TLock.row), .sl gv241 55 2 (gl242.map TLock.row), .os gc9])) 11 (by kernel_rfl) (Sc.stayD (fun _ hw => hw)) (Sc.atD (fun _ hw => hw.sel [1, 3, 4, 6, 7, 8] (by decide) rfl)) ?_)
           refine V2.done (by kernel_rfl) ?_
           exact E.joinJ ⟨(), gv237, gl238, gv241, gl242, rfl, rfl, hG239, h⟩ ⟨rfl, rfl, rfl, rfl, rfl, rfl, rfl, trivial⟩ (fun _ hw => hw)
       ·
        rintro _ _ ⟨gu27, gv28, gl29, gv30, gl31, rfl, rfl, hG26, h⟩
        rw [m7_lock_Drop_K5] at h
        refine W.seqJ (fun gs D => ∃ (gc32 : List Ob) (gu34 : Unit) (gv35 : Value) (gl36 : (List Int)) (gv37 : Value) (gl38 : (List TLock)) (gv39 : Value) (gl40 : (List TLock)) (gu42 : Unit), gs = [(8, .func (.func 30) #[] #[pt b1 0]), (9, gv10), (10, gv35), (12, pt b15 0), (26, v9), (27, .int .i64 (l8.length : Int)), (28, .int .i64 gx17)] ∧ D = Cls w [] [.obj b15 [.int .i64 x14.Item, gv37, gv39] 50, .obj b1 [.int .i64 a1] 3, .sl gv10 50 3 (zr TLockItem.rowv gq12 gl11), .sl gv35 3 1 (gl36.map I), .sl v9 50 3 (zr TLockItem.rowv q10 l8), .ss (zsd TLockItem.sds q10 l8 ((gx17 + 1 : Int).toNat)), .sl gv37 55 2 (gl38.map TLock.row), .os gc32] ∧ FzA K gc32 (zs TLockItem.sds gq12 gl11) ∧ Fz K gc32 gv39 2 (gl40.map TLock.row) ∧ m7_lock_Drop_K6 gl11 x14 gx17 go1 gl36 gl38 gl40 = some r) ?_ ?_
        ·
         refine W.block (W.frz (i := 7) rfl rfl rfl ?_)
         intro c55 mo56 hf57
         refine W.loopJ (fun m gs D => ∃ (gc55 : List Ob) (gu57 : Unit) (gv58 : Value) (gl59 : (List Int)) (gv60 : Value) (gl61 : (List TLock)) (gv62 : Value) (gl63 : (List TLock)) (gu65 : Unit), gs = [(8, .func (.func 30) #[] #[pt b1 0]), (9, gv10), (10, gv58), (12, pt b15 0), (26, v9), (27, .int .i64 (l8.length : Int)), (28, .int .i64 gx17)] ∧ D = Cls w [] [.obj b15 [.int .i64 x14.Item, gv60, gv62] 50, .obj b1 [.int .i64 a1] 3, .sl gv10 50 3 (zr TLockItem.rowv gq12 gl11), .sl gv58 3 1 (gl59.map I), .sl v9 50 3 (zr TLockItem.rowv q10 l8), .ss (zsd TLockItem.sds q10 l8 ((gx17 + 1 : Int).toNat)), .sl gv60 55 2 (gl61.map TLock.row), .os gc55] ∧ FzA K gc55 (zs TLockItem.sds gq12 gl11) ∧ Fz K gc55 gv62 2 (gl63.map TLock.row) ∧ m7_lock_Drop_L2 x14 gl11 gx17 go1 m gl59 gl61 gl63 = some r) ⟨c55, (), gv15, gl16, gv28, gl29, gv30, gl31, (), rfl, rfl, (hG26.mo mo56), (hf57 K), h⟩ ⟨rfl, rfl, rfl, rfl, rfl, rfl, rfl, trivial⟩ (fun _ hw => hw) ?_
         rintro m _ _ ⟨gc55, gu57, gv58, gl59, gv60, gl61, gv62, gl63, gu65, rfl, rfl, hG56, hG64, h⟩
         rcases m with _ | m
         · rw [m7_lock_Drop_L2] at h; cases h
         rw [m7_lock_Drop_L2] at h
         generalize hg2 : m7_lock_Drop_L2 x14 gl11 gx17 go1 m = go2 at h
         rw [m7_lock_Drop_L2B] at h
         refine W.seqJ (fun gs D => ∃ (gu67 : Unit), gs = [(8, .func (.func 30) #[] #[pt b1 0]), (9, gv10), (10, gv58), (12, pt b15 0), (26, v9), (27, .int .i64 (l8.length : Int)), (28, .int .i64 gx17)] ∧ D = Cls w [] [.obj b15 [.int .i64 x14.Item, gv60, gv62] 50, .obj b1 [.int .i64 a1] 3, .sl gv10 50 3 (zr TLockItem.rowv gq12 gl11), .sl gv58 3 1 (gl59.map I), .sl v9 50 3 (zr TLockItem.rowv q10 l8), .ss (zsd TLockItem.sds q10 l8 ((gx17 + 1 : Int).toNat)), .sl gv60 55 2 (gl61.map TLock.row), .os gc55] ∧ FzA K gc55 (zs TLockItem.sds gq12 gl11) ∧ m7_lock_Drop_K7 gl63 x14 gl61 gl59 go2 = some r) ?_ ?_
         ·
          refine W.seq (W.quietC mixed (by kernel_rfl) (fun _ hw => hw.drew) (fun hC => ?_))
          refine U.y rfl (Y.fieldP fd50_2 rfl) ?_
          refine U.y rfl (Y.loadP (i := 0) ag48 rfl rfl rfl) ?_
          refine U.y rfl (Y.lenM (g := TLock.row) (l := gl63) Try.underlying48 rfl (fun w' hw => (hG64.clsF hK hw rfl))) ?_
          refine U.ite h rfl (Y.gtr rfl rfl) (fun c51 h => ?_) (fun c51 h => ?_)
          ·
           refine U.y rfl (Y.move rfl) ?_
           refine U.take rfl (U.y rfl (Y.loadPW (i := 0) ag50 sz50 rfl rfl rfl) ?_)
           refine U.take rfl (U.y rfl (Y.fieldP fd50_2 rfl) ?_)
           refine U.take rfl (U.y rfl (Y.loadP (i := 0) ag48 rfl rfl rfl) ?_)
           refine U.take rfl (U.m (V := fun _ => el gv62 ((0 : Int).toNat * 2)) h rfl (Y.indexM (g := TLock.row) (l := gl63) Try.underlying48 sz55 rfl rfl (fun w' hw => (hG64.clsF hK hw rfl))) (fun x52 ex52 h => ?_))
           refine U.take rfl (U.y rfl (Y.loadEN (r := [.int .i64 x52.Tx, .int .i64 x52.Mode]) ag55 sz55 rfl (fun w' hw => (hG64.clsF hK hw rfl)) (idx_map ex52) rfl) ?_)
           refine U.take rfl ?_
           obtain ⟨b53, e54, h⟩ := bind1S h
           refine U.y rfl (Y.does en26 rfl (fun w' hw => (w26_lock_can (⟨x14.Item, gl61, gl63⟩ : TLockItem) x52 gv60 gv62 w' _ e54 (As.at_ (hw.get (i := 6) rfl)) (hG64.clsF hK hw rfl)).mono (fun _ _ h => h.1))) ?_
           rcases b53 with _ | _
           ·
            replace h := iteF h
            refine U.y rfl (Y.pickT rfl rfl) ?_
            refine U.nil (E.thenN (W.condF rfl ?_))
            exact W.exit (E.KSX (E.KLX (E.blockX (E.joinJ ⟨gc55, (), gv58, gl59, gv60, gl61, gv62, gl63, (), rfl, rfl, hG56, hG64, h⟩ ⟨rfl, rfl, rfl, rfl, rfl, rfl, rfl, trivial⟩ (fun _ hw => hw)))))
           ·
            replace h := iteT h
            refine U.y rfl (Y.pickT rfl rfl) ?_
            refine U.nil (E.thenN (W.condT rfl ?_))
            exact W.skip (E.joinJ ⟨(), rfl, rfl, hG56, h⟩ ⟨rfl, rfl, rfl, rfl, rfl, rfl, rfl, trivial⟩ (fun _ hw => hw))
          ·
           refine U.y rfl (Y.move rfl) ?_
           refine U.pass rfl rfl (by nofun) ?_
           refine U.pass rfl rfl (by nofun) ?_
           refine U.pass rfl rfl (by nofun) ?_
           refine U.pass rfl rfl (by nofun) ?_
           refine U.pass rfl rfl (by nofun) ?_
           refine U.pass rfl rfl (by nofun) ?_
           refine U.y rfl (Y.pickF rfl rfl) ?_
           refine U.nil (E.thenN (W.condF rfl ?_))
           exact W.exit (E.KSX (E.KLX (E.blockX (E.joinJ ⟨gc55, (), gv58, gl59, gv60, gl61, gv62, gl63, (), rfl, rfl, hG56, hG64, h⟩ ⟨rfl, rfl, rfl, rfl, rfl, rfl, rfl, trivial⟩ (fun _ hw => hw)))))
         ·
          rintro _ _ ⟨gu67, rfl, rfl, hG66, h⟩
          rw [m7_lock_Drop_K7] at h
          refine W.block (W.seq (W.region (L.y rfl (Y.fieldP fd50_2 rfl) ?_)))
          refine L.y rfl (Y.loadP (i := 0) ag48 rfl rfl rfl) ?_
          refine L.m (V := fun _ => el gv62 ((0 : Int).toNat * 2)) h rfl (Y.indexM (g := TLock.row) (l := gl63) Try.underlying48 sz55 rfl rfl (fun w' hw => (hG64.clsF hK hw rfl))) (fun x27 ex27 h => ?_)
          refine L.y rfl (Y.loadEN (r := [.int .i64 x27.Tx, .int .i64 x27.Mode]) ag55 sz55 rfl (fun w' hw => (hG64.clsF hK hw rfl)) (idx_map ex27) rfl) ?_
          refine L.callJ (fun v D => ∃ (gu69 : Unit) (gv70 : Value) (gl71 : (List TLock)), v = .tuple #[] ∧ D = Cls w [] [.obj b15 [.int .i64 x14.Item, gv70, gv62] 50, .obj b1 [.int .i64 a1] 3, .sl gv10 50 3 (zr TLockItem.rowv gq12 gl11), .sl gv58 3 1 (gl59.map I), .sl v9 50 3 (zr TLockItem.rowv q10 l8), .ss (zsd TLockItem.sds q10 l8 ((gx17 + 1 : Int).toNat)), .sl gv70 55 2 (gl71.map TLock.row), .os gc55] ∧ FzA K gc55 (zs TLockItem.sds gq12 gl11) ∧ m7_lock_Drop_K8 gl63 gl59 go2 gl71 = some r) rfl en27 rfl Try.func27 rfl rfl rfl ?_ ?_
          ·
           refine W.seq (W.region (L.box rfl rfl ?_))
           intro b33
           refine L.nil (E.thenN (W.seq (W.quietC mixed (by kernel_rfl) (fun _ hw => hw.drew) (fun hC => ?_))))
           refine U.y rfl (Y.move rfl) ?_
           refine U.y rfl (Y.nilCheck rfl) ?_
           refine U.y rfl (Y.loadPW (i := 1) ag50 sz50 rfl rfl rfl) ?_
           refine U.y rfl (Y.loadPW (i := 0) ag55 sz55 rfl rfl rfl) ?_
           obtain ⟨x34, e35, h⟩ := bind1S h
           refine U.y rfl (Y.does en32 rfl (fun w' hw => (w32_lock_wish (⟨x14.Item, gl61, gl63⟩ : TLockItem) x27 gv60 gv62 w' _ e35 (As.at_ (hw.get (i := 7) rfl)) (hG64.clsF hK hw rfl)).mono (fun _ _ h => h.1))) ?_
           refine U.y rfl (Y.assign rfl) ?_
           refine U.nil (E.thenN (W.seqJ (fun gs D => ∃ (gu73 : Unit), gs = [(0, pt b15 0), (3, pt b33 0), (4, .int .i64 x34)] ∧ D = Cls w [] [.obj b33 [.int .i64 x27.Tx, .int .i64 x27.Mode] 55, .obj b15 [.int .i64 x14.Item, gv60, gv62] 50, .obj b1 [.int .i64 a1] 3, .sl gv60 55 2 (gl61.map TLock.row), .sl gv10 50 3 (zr TLockItem.rowv gq12 gl11), .sl gv58 3 1 (gl59.map I), .sl v9 50 3 (zr TLockItem.rowv q10 l8), .ss (zsd TLockItem.sds q10 l8 ((gx17 + 1 : Int).toNat)), .os gc55] ∧ FzA K gc55 (zs TLockItem.sds gq12 gl11) ∧ m7_lock_Drop_K9 gl61 x27 x34 gl63 gl59 go2 = some r) ?_ ?_))
           ·
            refine W.seq (W.region (L.y rfl (Y.move rfl) ?_))
            refine L.y rfl (Y.nilCheck rfl) ?_
            refine L.y rfl (Y.fieldP fd50_1 rfl) ?_
            refine L.y rfl (Y.loadP (i := 1) ag48 rfl rfl rfl) ?_
            refine L.y rfl (Y.lenM (g := TLock.row) (l := gl61) Try.underlying48 rfl (fun w hw => As.at_ (hw.get (i := 7) rfl))) ?_
            refine L.y rfl (Y.move rfl) ?_
            refine L.nil (E.thenN (W.block (W.loopJ (fun m gs D => ∃ (gx76 : Int) (gu78 : Unit), gs = [(0, pt b15 0), (3, pt b33 0), (4, .int .i64 x34), (15, .int .i64 (gl61.length : Int)), (16, .int .i64 gx76)] ∧ D = Cls w [] [.obj b33 [.int .i64 x27.Tx, .int .i64 x27.Mode] 55, .obj b15 [.int .i64 x14.Item, gv60, gv62] 50, .obj b1 [.int .i64 a1] 3, .sl gv60 55 2 (gl61.map TLock.row), .sl gv10 50 3 (zr TLockItem.rowv gq12 gl11), .sl gv58 3 1 (gl59.map I), .sl v9 50 3 (zr TLockItem.rowv q10 l8), .ss (zsd TLockItem.sds q10 l8 ((gx17 + 1 : Int).toNat)), .os gc55] ∧ FzA K gc55 (zs TLockItem.sds gq12 gl11) ∧ m7_lock_Drop_L3 gl61 x27 x34 gl63 gl59 go2 m gx76 = some r) ⟨0, (), rfl, rfl, hG66, h⟩ ⟨rfl, rfl, rfl, rfl, rfl, trivial⟩ (fun _ hw => hw.sel [0, 1, 2, 7, 3, 4, 5, 6, 8] (by decide) rfl) ?_)))
            rintro m _ _ ⟨gx76, gu78, rfl, rfl, hG77, h⟩
            rcases m with _ | m
            · rw [m7_lock_Drop_L3] at h; cases h
            rw [m7_lock_Drop_L3] at h
            generalize hg3 : m7_lock_Drop_L3 gl61 x27 x34 gl63 gl59 go2 m = go3 at h
            rw [m7_lock_Drop_L3B] at h
            refine W.seq (W.region (L.ite h rfl (Y.lss rfl rfl) (fun c45 h => ?_) (fun c45 h => ?_)))
            ·
             refine L.nil (E.thenN (W.seq (W.condT rfl ?_)))
             refine W.skip (E.thenN (W.seq (W.block (W.seq (W.region (L.y rfl (Y.move rfl) ?_))))))
             refine L.y rfl (Y.assign rfl) ?_
             refine L.nil (E.thenN (W.seq (W.quietC mixed (by kernel_rfl) (fun _ hw => hw.drew) (fun hC => ?_))))
             refine U.y rfl (Y.move rfl) ?_
             refine U.y rfl (Y.nilCheck rfl) ?_
             refine U.y rfl (Y.fieldP fd50_1 rfl) ?_
             refine U.y rfl (Y.loadP (i := 1) ag48 rfl rfl rfl) ?_
             refine U.y rfl (Y.move rfl) ?_
             refine U.m (V := fun _ => el gv60 (gx76.toNat * 2)) h rfl (Y.indexM (g := TLock.row) (l := gl61) Try.underlying48 sz55 rfl rfl (fun w hw => As.at_ (hw.get (i := 3) rfl))) (fun x46 ex46 h => ?_)
             refine U.y rfl (Y.fieldE fd55_0 rfl) ?_
             refine U.y rfl (Y.loadE (u := .int .i64 x46.Tx) ag3 rfl (fun w hw => As.at_ (hw.get (i := 3) rfl)) (idx_map ex46) rfl) ?_
             refine U.y rfl (Y.fieldP fd55_0 rfl) ?_
             refine U.y rfl (Y.loadP (i := 0) ag3 rfl rfl rfl) ?_
             refine U.ite h rfl (Y.eql rfl rfl) (fun c47 h => ?_) (fun c47 h => ?_)
             ·
              refine U.nil (E.thenN (W.condT rfl ?_))
              refine W.seq (W.region (L.y rfl (Y.move rfl) ?_))
              refine L.y rfl (Y.nilCheck rfl) ?_
              refine L.y rfl (Y.fieldP fd50_1 rfl) ?_
              refine L.y rfl (Y.loadP (i := 1) ag48 rfl rfl rfl) ?_
              refine L.y rfl (Y.move rfl) ?_
              refine L.y rfl (Y.move rfl) ?_
              refine L.m (V := fun _ => el gv60 (gx76.toNat * 2)) h rfl (Y.indexM (g := TLock.row) (l := gl61) Try.underlying48 sz55 rfl rfl (fun w hw => As.at_ (hw.get (i := 3) rfl))) (fun x48 ex48 h => ?_)
              refine L.y rfl (Y.fieldE fd55_1 rfl) ?_
              refine L.storeSlM (q := 3) (row := TLock.row) (vs := [.int .i64 x34]) (j := 1) (u1 := (⟨x48.Tx, x34⟩ : TLock)) h sz3 rfl rfl rfl rfl rfl (all1 rfl all0) rfl ex48 rfl rfl ?_
              intro l49 el49 h
              refine L.nil (E.thenN (W.ret (E.blockR (E.thenR (E.KLR (E.blockR (E.KSR (E.ret0 rfl (fun w1 hw => ?_)))))))))
              exact ⟨_, _, rfl, ⟨(), gv60, l49, rfl, rfl, hG77, h⟩, hw.sel [1, 2, 4, 5, 6, 7, 3, 8] (by decide) rfl⟩
             ·
              refine U.nil (E.thenN (W.condF rfl ?_))
              refine W.skip (E.blockN (E.thenN (W.region (L.m (V := fun x50 => .int .i64 x50) h rfl (Y.addM rfl rfl) (fun x50 ex50 h => ?_)))))
              refine L.y rfl (Y.move rfl) ?_
              exact L.nil (E.againJ ⟨x50, (), rfl, rfl, hG77, by rw [hg3]; exact h⟩ (Nat.lt_succ_self _) ⟨rfl, rfl, rfl, rfl, rfl, trivial⟩ (fun _ hw => hw))
            ·
             refine L.nil (E.thenN (W.seq (W.condF rfl ?_)))
             exact W.exit (E.thenX (E.KLX (E.blockX (E.joinJ ⟨(), rfl, rfl, hG77, h⟩ ⟨rfl, rfl, rfl, trivial⟩ (fun _ hw => hw)))))
           ·
            rintro _ _ ⟨gu73, rfl, rfl, hG72, h⟩
            rw [m7_lock_Drop_K9] at h
            refine W.drawn2 (k := 14) (stC [[10, 13], [13]] [Cls w [] [.obj b33 [.int .i64 x27.Tx, .int .i64 x27.Mode] 55, .obj b15 [.int .i64 x14.Item, gv60, gv62] 50, .obj b1 [.int .i64 a1] 3, .sl gv60 55 2 (gl61.map TLock.row), .sl gv10 50 3 (zr TLockItem.rowv gq12 gl11), .sl gv58 3 1 (gl59.map I), .sl v9 50 3 (zr TLockItem.rowv q10 l8), .ss (zsd TLockItem.sds q10 l8 ((gx17 + 1 : Int).toNat)), .os gc55], Cls w [] [.obj b33 [.int .i64 x27.Tx, .int .i64 x27.Mode] 55, .obj b15 [.int .i64 x14.Item, gv60, gv62] 50, .obj b1 [.int .i64 a1] 3, .sl gv10 50 3 (zr TLockItem.rowv gq12 gl11), .sl gv58 3 1 (gl59.map I), .sl v9 50 3 (zr TLockItem.rowv q10 l8), .ss (zsd TLockItem.sds q10 l8 ((gx17 + 1 : Int).toNat)), .os gc55]] (Cls w [] [.obj b33 [.int .i64 x27.Tx, .int .i64 x27.Mode] 55, .obj b1 [.int .i64 a1] 3, .sl gv10 50 3 (zr TLockItem.rowv gq12 gl11), .sl gv58 3 1 (gl59.map I), .sl v9 50 3 (zr TLockItem.rowv q10 l8), .ss (zsd TLockItem.sds q10 l8 ((gx17 + 1 : Int).toNat)), .os gc55])) rfl mixed (fun _ hw => hw.drew) (Sc.now (by kernel_rfl) (fun _ hw => hw)) ?_
            refine V2.y (i := 0) (Nx2.of (Z := Cls w [] [.obj b33 [.int .i64 x27.Tx, .int .i64 x27.Mode] 55, .obj b1 [.int .i64 a1] 3, .sl gv10 50 3 (zr TLockItem.rowv gq12 gl11), .sl gv58 3 1 (gl59.map I), .sl v9 50 3 (zr TLockItem.rowv q10 l8), .ss (zsd TLockItem.sds q10 l8 ((gx17 + 1 : Int).toNat)), .os gc55]) [] (by kernel_rfl) rfl (Zc.on (fun _ hw => hw.sel [0, 2, 4, 5, 6, 7, 8] (by decide) rfl) (Zc.on (fun _ hw => hw.sel [0, 2, 3, 4, 5, 6, 7] (by decide) rfl) (Zc.fin (fun _ hw => hw))))) rfl rfl rfl (Y.move rfl) ?_
            refine V2.y (i := 1) (Nx2.of (Z := Cls w [] [.obj b33 [.int .i64 x27.Tx, .int .i64 x27.Mode] 55, .obj b1 [.int .i64 a1] 3, .sl gv10 50 3 (zr TLockItem.rowv gq12 gl11), .sl gv58 3 1 (gl59.map I), .sl v9 50 3 (zr TLockItem.rowv q10 l8), .ss (zsd TLockItem.sds q10 l8 ((gx17 + 1 : Int).toNat)), .os gc55]) [] (by kernel_rfl) rfl (Zc.on (fun _ hw => hw.sel [0, 2, 4, 5, 6, 7, 8] (by decide) rfl) (Zc.on (fun _ hw => hw.sel [0, 2, 3, 4, 5, 6, 7] (by decide) rfl) (Zc.fin (fun _ hw => hw))))) rfl rfl rfl (Y.move rfl) ?_
            refine V2.nilc (i := 2) (Nx2.of (Z := Cls w [] [.obj b33 [.int .i64 x27.Tx, .int .i64 x27.Mode] 55, .obj b1 [.int .i64 a1] 3, .sl gv10 50 3 (zr TLockItem.rowv gq12 gl11), .sl gv58 3 1 (gl59.map I), .sl v9 50 3 (zr TLockItem.rowv q10 l8), .ss (zsd TLockItem.sds q10 l8 ((gx17 + 1 : Int).toNat)), .os gc55]) [] (by kernel_rfl) rfl (Zc.on (fun _ hw => hw.sel [0, 2, 4, 5, 6, 7, 8] (by decide) rfl) (Zc.on (fun _ hw => hw.sel [0, 2, 3, 4, 5, 6, 7] (by decide) rfl) (Zc.fin (fun _ hw => hw))))) rfl rfl rfl ?_
            refine V2.y (i := 3) (Nx2.of (Z := Cls w [] [.obj b33 [.int .i64 x27.Tx, .int .i64 x27.Mode] 55, .obj b1 [.int .i64 a1] 3, .sl gv10 50 3 (zr TLockItem.rowv gq12 gl11), .sl gv58 3 1 (gl59.map I), .sl v9 50 3 (zr TLockItem.rowv q10 l8), .ss (zsd TLockItem.sds q10 l8 ((gx17 + 1 : Int).toNat)), .os gc55]) [] (by kernel_rfl) rfl (Zc.on (fun _ hw => hw.sel [0, 2, 4, 5, 6, 7, 8] (by decide) rfl) (Zc.on (fun _ hw => hw.sel [0, 2, 3, 4, 5, 6, 7] (by decide) rfl) (Zc.fin (fun _ hw => hw))))) rfl rfl rfl (Y.fieldP fd50_1 rfl) ?_
            refine V2.y (i := 4) (Nx2.of (Z := Cls w [] [.obj b33 [.int .i64 x27.Tx, .int .i64 x27.Mode] 55, .obj b15 [.int .i64 x14.Item, gv60, gv62] 50, .obj b1 [.int .i64 a1] 3, .sl gv10 50 3 (zr TLockItem.rowv gq12 gl11), .sl gv58 3 1 (gl59.map I), .sl v9 50 3 (zr TLockItem.rowv q10 l8), .ss (zsd TLockItem.sds q10 l8 ((gx17 + 1 : Int).toNat)), .os gc55]) [13] (by kernel_rfl) rfl (Zc.on (fun _ hw => hw.sel [0, 1, 2, 4, 5, 6, 7, 8] (by decide) rfl) (Zc.at1 (fun _ hw => hw)))) rfl rfl rfl (Y.loadP (i := 1) ag48 rfl rfl rfl) ?_
            refine V2.y (i := 5) (Nx2.of (Z := Cls w [] [.obj b33 [.int .i64 x27.Tx, .int .i64 x27.Mode] 55, .obj b1 [.int .i64 a1] 3, .sl gv10 50 3 (zr TLockItem.rowv gq12 gl11), .sl gv58 3 1 (gl59.map I), .sl v9 50 3 (zr TLockItem.rowv q10 l8), .ss (zsd TLockItem.sds q10 l8 ((gx17 + 1 : Int).toNat)), .os gc55]) [] (by kernel_rfl) rfl (Zc.on (fun _ hw => hw.sel [0, 2, 4, 5, 6, 7, 8] (by decide) rfl) (Zc.on (fun _ hw => hw.sel [0, 2, 3, 4, 5, 6, 7] (by decide) rfl) (Zc.fin (fun _ hw => hw))))) rfl rfl rfl (Y.fieldP fd55_0 rfl) ?_
            refine V2.y (i := 6) (Nx2.of (Z := Cls w [] [.obj b33 [.int .i64 x27.Tx, .int .i64 x27.Mode] 55, .obj b1 [.int .i64 a1] 3, .sl gv10 50 3 (zr TLockItem.rowv gq12 gl11), .sl gv58 3 1 (gl59.map I), .sl v9 50 3 (zr TLockItem.rowv q10 l8), .ss (zsd TLockItem.sds q10 l8 ((gx17 + 1 : Int).toNat)), .os gc55]) [] (by kernel_rfl) rfl (Zc.on (fun _ hw => hw.sel [0, 2, 4, 5, 6, 7, 8] (by decide) rfl) (Zc.on (fun _ hw => hw.sel [0, 2, 3, 4, 5, 6, 7] (by decide) rfl) (Zc.fin (fun _ hw => hw))))) rfl rfl rfl (Y.loadP (i := 0) ag3 rfl rfl rfl) ?_
            refine V2.y (i := 7) (Nx2.of (Z := Cls w [] [.obj b33 [.int .i64 x27.Tx, .int .i64 x27.Mode] 55, .obj b1 [.int .i64 a1] 3, .sl gv10 50 3 (zr TLockItem.rowv gq12 gl11), .sl gv58 3 1 (gl59.map I), .sl v9 50 3 (zr TLockItem.rowv q10 l8), .ss (zsd TLockItem.sds q10 l8 ((gx17 + 1 : Int).toNat)), .os gc55]) [] (by kernel_rfl) rfl (Zc.on (fun _ hw => hw.sel [0, 2, 4, 5, 6, 7, 8] (by decide) rfl) (Zc.on (fun _ hw => hw.sel [0, 2, 3, 4, 5, 6, 7] (by decide) rfl) (Zc.fin (fun _ hw => hw))))) rfl rfl rfl (Y.move rfl) ?_
            refine V2.y (i := 8) (Nx2.of (Z := Cls w [] [.obj b33 [.int .i64 x27.Tx, .int .i64 x27.Mode] 55, .obj b1 [.int .i64 a1] 3, .sl gv10 50 3 (zr TLockItem.rowv gq12 gl11), .sl gv58 3 1 (gl59.map I), .sl v9 50 3 (zr TLockItem.rowv q10 l8), .ss (zsd TLockItem.sds q10 l8 ((gx17 + 1 : Int).toNat)), .os gc55]) [] (by kernel_rfl) rfl (Zc.on (fun _ hw => hw.sel [0, 2, 4, 5, 6, 7, 8] (by decide) rfl) (Zc.on (fun _ hw => hw.sel [0, 2, 3, 4, 5, 6, 7] (by decide) rfl) (Zc.fin (fun _ hw => hw))))) rfl rfl rfl (Y.build (cells := #[.int .i64 x27.Tx, .int .i64 x34]) rfl (by kernel_rfl)) ?_
            refine V2.eff (i := 9) (by kernel_rfl) rfl ?_
            refine L.litAgg rfl Try.underlying48 eL55 rfl rfl rfl ?_
            intro b42
            refine L.nil (E.toV2 (stC [[10, 13], [13]] [Cls w [] [.sl (sv b42 1) 55 2 (([(⟨x27.Tx, x34⟩ : TLock)]).map TLock.row), .obj b33 [.int .i64 x27.Tx, .int .i64 x27.Mode] 55, .obj b15 [.int .i64 x14.Item, gv60, gv62] 50, .obj b1 [.int .i64 a1] 3, .sl gv60 55 2 (gl61.map TLock.row), .sl gv10 50 3 (zr TLockItem.rowv gq12 gl11), .sl gv58 3 1 (gl59.map I), .sl v9 50 3 (zr TLockItem.rowv q10 l8), .ss (zsd TLockItem.sds q10 l8 ((gx17 + 1 : Int).toNat)), .os gc55], Cls w [] [.sl (sv b42 1) 55 2 (([(⟨x27.Tx, x34⟩ : TLock)]).map TLock.row), .obj b33 [.int .i64 x27.Tx, .int .i64 x27.Mode] 55, .obj b15 [.int .i64 x14.Item, gv60, gv62] 50, .obj b1 [.int .i64 a1] 3, .sl gv10 50 3 (zr TLockItem.rowv gq12 gl11), .sl gv58 3 1 (gl59.map I), .sl v9 50 3 (zr TLockItem.rowv q10 l8), .ss (zsd TLockItem.sds q10 l8 ((gx17 + 1 : Int).toNat)), .os gc55]] (Cls w [] [.sl (sv b42 1) 55 2 (([(⟨x27.Tx, x34⟩ : TLock)]).map TLock.row), .obj b33 [.int .i64 x27.Tx, .int .i64 x27.Mode] 55, .obj b1 [.int .i64 a1] 3, .sl gv10 50 3 (zr TLockItem.rowv gq12 gl11), .sl gv58 3 1 (gl59.map I), .sl v9 50 3 (zr TLockItem.rowv q10 l8), .ss (zsd TLockItem.sds q10 l8 ((gx17 + 1 : Int).toNat)), .os gc55])) 9 (by kernel_rfl) (Sc.stay (fun _ hw => hw.sel [1, 2, 3, 4, 5, 6, 7, 8, 9] (by decide) rfl) (Sc.stay (fun _ hw => hw.sel [1, 2, 3, 4, 5, 6, 7, 8] (by decide) rfl) (Sc.stayD (fun _ hw => hw.sel [1, 2, 3, 4, 5, 6, 7] (by decide) rfl)))) (Sc.now (by kernel_rfl) (fun _ hw => hw)) ?_)
            refine V2.eff (i := 10) (by kernel_rfl) rfl ?_
            refine L.appM (i := 4) (g := TLock.row) (l := gl61) (more := [(⟨x27.Tx, x34⟩ : TLock)]) h rfl Try.underlying48 eL55 rfl rfl rfl (fun w hw => As.at_ (hw.get (i := 0) rfl)) (plain_TLock _) rfl ?_
            intro v43 l44 el44 h
            refine L.nil (E.toV2 (stC [[13]] [Cls w [] [.sl v43 55 2 (l44.map TLock.row), .sl (sv b42 1) 55 2 (([(⟨x27.Tx, x34⟩ : TLock)]).map TLock.row), .obj b33 [.int .i64 x27.Tx, .int .i64 x27.Mode] 55, .obj b15 [.int .i64 x14.Item, gv60, gv62] 50, .obj b1 [.int .i64 a1] 3, .sl gv10 50 3 (zr TLockItem.rowv gq12 gl11), .sl gv58 3 1 (gl59.map I), .sl v9 50 3 (zr TLockItem.rowv q10 l8), .ss (zsd TLockItem.sds q10 l8 ((gx17 + 1 : Int).toNat)), .os gc55]] (Cls w [] [.sl v43 55 2 (l44.map TLock.row), .sl (sv b42 1) 55 2 (([(⟨x27.Tx, x34⟩ : TLock)]).map TLock.row), .obj b33 [.int .i64 x27.Tx, .int .i64 x27.Mode] 55, .obj b1 [.int .i64 a1] 3, .sl gv10 50 3 (zr TLockItem.rowv gq12 gl11), .sl gv58 3 1 (gl59.map I), .sl v9 50 3 (zr TLockItem.rowv q10 l8), .ss (zsd TLockItem.sds q10 l8 ((gx17 + 1 : Int).toNat)), .os gc55])) 10 (by kernel_rfl) (Sc.past rfl (Sc.stay (fun _ hw => hw.sel [1, 2, 3, 4, 5, 6, 7, 8, 9] (by decide) rfl) (Sc.stayD (fun _ hw => hw.sel [1, 2, 3, 4, 5, 6, 7, 8] (by decide) rfl)))) (Sc.now (by kernel_rfl) (fun _ hw => hw)) ?_)
            refine V2.nilc (i := 11) (Nx2.of (Z := Cls w [] [.sl v43 55 2 (l44.map TLock.row), .sl (sv b42 1) 55 2 (([(⟨x27.Tx, x34⟩ : TLock)]).map TLock.row), .obj b33 [.int .i64 x27.Tx, .int .i64 x27.Mode] 55, .obj b1 [.int .i64 a1] 3, .sl gv10 50 3 (zr TLockItem.rowv gq12 gl11), .sl gv58 3 1 (gl59.map I), .sl v9 50 3 (zr TLockItem.rowv q10 l8), .ss (zsd TLockItem.sds q10 l8 ((gx17 + 1 : Int).toNat)), .os gc55]) [] (by kernel_rfl) rfl (Zc.on (fun _ hw => hw.sel [0, 1, 2, 4, 5, 6, 7, 8, 9] (by decide) rfl) (Zc.fin (fun _ hw => hw)))) rfl rfl rfl ?_
            refine V2.y (i := 12) (Nx2.of (Z := Cls w [] [.sl v43 55 2 (l44.map TLock.row), .sl (sv b42 1) 55 2 (([(⟨x27.Tx, x34⟩ : TLock)]).map TLock.row), .obj b33 [.int .i64 x27.Tx, .int .i64 x27.Mode] 55, .obj b1 [.int .i64 a1] 3, .sl gv10 50 3 (zr TLockItem.rowv gq12 gl11), .sl gv58 3 1 (gl59.map I), .sl v9 50 3 (zr TLockItem.rowv q10 l8), .ss (zsd TLockItem.sds q10 l8 ((gx17 + 1 : Int).toNat)), .os gc55]) [] (by kernel_rfl) rfl (Zc.on (fun _ hw => hw.sel [0, 1, 2, 4, 5, 6, 7, 8, 9] (by decide) rfl) (Zc.fin (fun _ hw => hw)))) rfl rfl rfl (Y.fieldP fd50_1 rfl) ?_
            refine V2.eff (i := 13) (by kernel_rfl) rfl ?_
            refine L.storeV (i := 3) sz48 rfl rfl (fun _ hw => (As.at_ (hw.get (i := 0) rfl)).one) rfl (Nat.le_of_ble_eq_true rfl) ?_
            refine L.nil (E.toV2 (stC [] [] (Cls w [] [.sl v43 55 2 (l44.map TLock.row), .sl (sv b42 1) 55 2 (([(⟨x27.Tx, x34⟩ : TLock)]).map TLock.row), .obj b33 [.int .i64 x27.Tx, .int .i64 x27.Mode] 55, .obj b1 [.int .i64 a1] 3, .sl gv10 50 3 (zr TLockItem.rowv gq12 gl11), .sl gv58 3 1 (gl59.map I), .sl v9 50 3 (zr TLockItem.rowv q10 l8), .ss (zsd TLockItem.sds q10 l8 ((gx17 + 1 : Int).toNat)), .os gc55])) 13 (by kernel_rfl) (Sc.past rfl (Sc.stayD (fun _ hw => hw))) (Sc.atD (fun _ hw => hw.sel [0, 1, 2, 4, 5, 6, 7, 8, 9] (by decide) rfl)) ?_)
            refine V2.done (by kernel_rfl) ?_
            refine E.end0 rfl (fun w1 hw => ?_)
            exact ⟨_, _, rfl, ⟨(), v43, l44, rfl, rfl, hG72, h⟩, hw.sel [3, 4, 5, 6, 7, 8, 0, 9] (by decide) rfl⟩
          ·
           rintro _ _ ⟨gu69, gv70, gl71, rfl, rfl, hG68, h⟩
           rw [m7_lock_Drop_K8] at h
           refine L.nil (E.thenN (W.seq (W.region (L.y rfl (Y.move rfl) ?_))))
           refine L.y rfl (Y.fieldP fd50_2 rfl) ?_
           refine L.y rfl (Y.loadP (i := 0) ag48 rfl rfl rfl) ?_
           refine L.m (V := fun _ => el gv62 ((0 : Int).toNat * 2)) h rfl (Y.indexM (g := TLock.row) (l := gl63) Try.underlying48 sz55 rfl rfl (fun w' hw => (hG64.clsF hK hw rfl))) (fun x28 ex28 h => ?_)
           refine L.y rfl (Y.fieldE fd55_0 rfl) ?_
           refine L.y rfl (Y.loadE (u := .int .i64 x28.Tx) ag3 rfl (fun w' hw => (hG64.clsF hK hw rfl)) (idx_map ex28) rfl) ?_
           refine L.litOne rfl Try.underlying28 eL3 rfl rfl ?_
           intro b29
           refine L.appM (i := 4) (g := I) (l := gl59) (more := [x28.Tx]) h rfl Try.underlying28 eL3 rfl rfl rfl (fun w hw => As.at_ (hw.get (i := 0) rfl)) (plain_ints _) rfl ?_
           intro v30 l31 el31 h
           refine L.y rfl (Y.assign rfl) ?_
           refine L.nil (E.thenN (W.region (L.y rfl (Y.fieldP fd50_2 rfl) ?_)))
           refine L.y rfl (Y.loadP (i := 2) ag48 rfl rfl rfl) ?_
           refine L.m (V := fun _ => dropv gv62 (1 : Int).toNat 2) h rfl (Y.dropM (g := TLock.row) Try.underlying48 sz55 rfl rfl (fun w' hw => (hG64.clsF hK hw rfl))) (fun l32 el32 h => ?_)
           refine L.y rfl (Y.fieldP fd50_2 rfl) ?_
           refine L.storeV (i := 2) sz48 rfl rfl (fun _ hw => ((hG64.dropM el32).clsF hK hw rfl).one) rfl (Nat.le_of_ble_eq_true rfl) ?_
           exact L.nil (E.blockN (E.againJ ⟨gc55, (), v30, l31, gv70, gl71, dropv gv62 (1 : Int).toNat 2, l32, (), rfl, rfl, hG68, (hG64.dropM el32), by rw [hg2]; exact h⟩ (Nat.lt_succ_self _) ⟨rfl, rfl, rfl, rfl, rfl, rfl, rfl, trivial⟩ (fun _ hw => hw.sel [2, 3, 4, 0, 5, 6, 7, 8] (by decide) rfl)))
        ·
         rintro _ _ ⟨gc32, gu34, gv35, gl36, gv37, gl38, gv39, gl40, gu42, rfl, rfl, hG33, hG41, h⟩
         rw [m7_lock_Drop_K6] at h
         refine W.seq (W.region (L.y rfl (Y.fieldP fd50_1 rfl) ?_))
         refine L.y rfl (Y.loadP (i := 0) ag48 rfl rfl rfl) ?_
         refine L.y rfl (Y.lenM (g := TLock.row) (l := gl38) Try.underlying48 rfl (fun w hw => As.at_ (hw.get (i := 6) rfl))) ?_
         refine L.ite h rfl (Y.gtr rfl rfl) (fun c16 h => ?_) (fun c16 h => ?_)
         ·
          refine L.nil (E.thenN (W.condT rfl ?_))
          refine W.region (L.y rfl (Y.move rfl) ?_)
          refine L.y rfl (Y.loadPW (i := 0) ag50 sz50 rfl rfl rfl) ?_
          refine L.frz (i := 6) rfl rfl rfl ?_
          intro c18 mo19 hf20
          refine L.litAgg rfl Try.underlying23 eL50 rfl rfl rfl ?_
          intro b21
          have hz22 : FzA K c18 (zs TLockItem.sds (fun _ => [gv37, gv39]) [(⟨x14.Item, gl38, gl40⟩ : TLockItem)]) := FzA.app (FzA.cons (hf20 K) (FzA.cons (hG41.mo mo19) FzA.nil)) FzA.nil
          refine L.to (D := Cls w [] [.sl (sv b21 1) 50 3 (zr TLockItem.rowv (fun _ => [gv37, gv39]) ([(⟨x14.Item, gl38, gl40⟩ : TLockItem)])), .obj b15 [.int .i64 x14.Item, gv37, gv39] 50, .obj b1 [.int .i64 a1] 3, .sl gv10 50 3 (zr TLockItem.rowv gq12 gl11), .sl gv35 3 1 (gl36.map I), .sl v9 50 3 (zr TLockItem.rowv q10 l8), .ss (zsd TLockItem.sds q10 l8 ((gx17 + 1 : Int).toNat)), .os c18]) (fun _ hw => hw) ?_
          refine L.appHz (i := 3) (row := TLockItem.rowv) (sds := TLockItem.sds) (vs := gq12) (vs2 := (fun _ => [gv37, gv39])) (l := gl11) (l2 := [(⟨x14.Item, gl38, gl40⟩ : TLockItem)]) h rfl Try.underlying23 eL50 rfl rfl rfl rfl (fun w hw => As.at_ (hw.get (i := 0) rfl)) plz_TLockItem hK rfl (hG33.mo mo19) hz22 ?_
          intro v24 q25 l23 el23 h hz26
          refine L.y rfl (Y.assign rfl) ?_
          exact L.nil (E.blockN (E.joinJ ⟨c18, v24, l23, q25, (), gv35, gl36, rfl, rfl, hz26, h⟩ ⟨rfl, rfl, rfl, rfl, rfl, rfl, trivial⟩ (fun _ hw => hw.sel [3, 0, 4, 5, 6, 7] (by decide) rfl)))
         ·
          refine L.nil (E.thenN (W.condF rfl ?_))
          exact W.skip (E.blockN (E.joinJ ⟨gc32, gv10, gl11, gq12, (), gv35, gl36, rfl, rfl, hG33, h⟩ ⟨rfl, rfl, rfl, rfl, rfl, rfl, trivial⟩ (fun _ hw => hw.sel [1, 2, 3, 4, 5, 7] (by decide) rfl)))
      ·
       rintro _ _ ⟨gc18, gv19, gl20, gq21, gu23, gv24, gl25, rfl, rfl, hG22, h⟩
       rw [m7_lock_Drop_K4] at h
       refine W.region (L.m (V := fun x13 => .int .i64 x13) h rfl (Y.addM rfl rfl) (fun x13 ex13 h => ?_))
       refine L.y rfl (Y.move rfl) ?_
       refine L.nil (E.frmLe (sds := TLockItem.sds) (vs := q10) (l := l8) (s := 4) (j := ((gx17 + 1 : Int).toNat)) (j' := (x13.toNat)) rfl (by have h9 := i64_some ex13; omega) ?_)
       exact E.againJ ⟨gc18, gv19, gl20, gq21, (), gv24, gl25, x13, rfl, rfl, hG22, by rw [hg1]; exact h⟩ (Nat.lt_succ_self _) ⟨rfl, rfl, rfl, rfl, rfl, rfl, trivial⟩ (fun _ hw => hw)
     ·
      refine L.nil (E.thenN (W.seq (W.condF rfl ?_)))
      exact W.exit (E.thenX (E.KLX (E.blockX (E.joinJ ⟨gc9, gv10, gl11, gq12, (), gv15, gl16, rfl, rfl, hG13, h⟩ ⟨rfl, rfl, trivial⟩ (fun _ hw => hw.sel [1, 2, 5] (by decide) rfl)))))
    ·
     rintro _ _ ⟨gc1, gv2, gl3, gq4, gu6, gv7, gl8, rfl, rfl, hG5, h⟩
     rw [m7_lock_Drop_K3] at h
     refine W.seq (W.region (L.y rfl (Y.move rfl) ?_))
     refine L.y rfl (Y.move rfl) ?_
     refine L.y rfl (Y.assign rfl) ?_
     refine L.y rfl (Y.assign rfl) ?_
     refine L.y rfl (Y.assign rfl) ?_
     refine L.nil (E.thenN (W.ret (E.frz (i := 0) rfl rfl rfl ?_)))
     intro c2 mo3 hf4
     refine E.frz (i := 0) rfl rfl rfl ?_
     intro c5 mo6 hf7
     refine E.ret3 rfl rfl rfl rfl (fun w1 hw => ?_)
     obtain rfl := Option.some.inj h
     exact ⟨_, _, rfl, ⟨c5, rfl, gv2, gq4, gv7, rfl, ((hf4 K).mo mo6), ((hG5.mo mo3).mo mo6), (hf7 K)⟩, hw⟩
set_option maxRecDepth 100000 in
set_option maxHeartbeats 8000000 in
theorem w37_quirref_holds (a0 : (List TLock)) (a1 : Int) (u0 : Value) (w : World) (r : Int) (h : m37_quirref_holds a0 a1 = some r) (hA0 : At w u0 2 (a0.map TLock.row)) : Does Try.prog 37 [u0, .int .i64 a1] w fun u m => u = .int .i64 r ∧ m = [] := by
  rw [m37_quirref_holds] at h
  refine body (n := 20) Try.func37 rfl rfl rfl (Cls.refl w) ?_
  refine W.seq (W.region (L.y rfl (Y.assign rfl) ?_))
  refine L.nil (E.thenN (W.seqJ (fun gs D => gs = [] ∧ D = Cls w [] [] ∧ m37_quirref_holds_K1 = some r) ?_ ?_))
  ·
   refine W.seq (W.region (L.y rfl (Y.move rfl) ?_))
   refine L.y rfl (Y.lenM (g := TLock.row) (l := a0) Try.underlying48 rfl (fun w' hw => hA0.cls0 hw)) ?_
   refine L.y rfl (Y.move rfl) ?_
   refine L.nil (E.thenN (W.block (W.loopJ (fun m gs D => ∃ (gx1 : Int), gs = [(1, .int .i64 a1), (7, u0), (8, .int .i64 (a0.length : Int)), (9, .int .i64 gx1)] ∧ D = Cls w [] [] ∧ m37_quirref_holds_L1 a0 a1 m gx1 = some r) ⟨0, rfl, rfl, h⟩ ⟨rfl, rfl, rfl, rfl, trivial⟩ (fun _ hw => hw) ?_)))
   rintro m _ _ ⟨gx1, rfl, rfl, h⟩
   rcases m with _ | m
   · rw [m37_quirref_holds_L1] at h; cases h
   rw [m37_quirref_holds_L1] at h
   generalize hg1 : m37_quirref_holds_L1 a0 a1 m = go1 at h
   rw [m37_quirref_holds_L1B] at h
   refine W.seq (W.region (L.ite h rfl (Y.lss rfl rfl) (fun c1 h => ?_) (fun c1 h => ?_)))
   ·
    refine L.nil (E.thenN (W.seq (W.condT rfl ?_)))
    refine W.skip (E.thenN (W.seq (W.block (W.seq (W.region (L.m (V := fun _ => el u0 (gx1.toNat * 2)) h rfl (Y.indexM (g := TLock.row) (l := a0) Try.underlying48 sz55 rfl rfl (fun w' hw => hA0.cls0 hw)) (fun x2 ex2 h => ?_)))))))
    refine L.y rfl (Y.loadEN (r := [.int .i64 x2.Tx, .int .i64 x2.Mode]) ag55 sz55 rfl (fun w' hw => hA0.cls0 hw) (idx_map ex2) rfl) ?_
    refine L.alloc rfl ze55 ?_
    intro b3
    refine L.store (i := 0) (vs := [.int .i64 x2.Tx, .int .i64 x2.Mode]) sz55 rfl rfl rfl rfl (by simp [Value.oneCell', Value.cells, st, pt, el]) rfl (Nat.le_of_ble_eq_true rfl) ?_
    refine L.nil (E.thenN (W.seq (W.region (L.y rfl (Y.fieldP fd55_0 rfl) ?_))))
    refine L.y rfl (Y.loadP (i := 0) ag3 rfl rfl rfl) ?_
    refine L.y rfl (Y.move rfl) ?_
    refine L.ite h rfl (Y.eql rfl rfl) (fun c4 h => ?_) (fun c4 h => ?_)
    ·
     refine L.nil (E.thenN (W.condT rfl ?_))
     refine W.seq (W.region (L.y rfl (Y.fieldP fd55_1 rfl) ?_))
     refine L.y rfl (Y.loadP (i := 0) ag3 rfl rfl rfl) ?_
     refine L.y rfl (Y.assign rfl) ?_
     refine L.nil (E.thenN (W.ret (E.blockR (E.thenR (E.KLR (E.blockR (E.KSR (E.ret1 rfl rfl (fun w1 hw => ?_)))))))))
     obtain rfl := Option.some.inj h
     exact ⟨_, _, rfl, ⟨rfl, rfl⟩, hw.sel [] (by decide) rfl⟩
    ·
     refine L.nil (E.thenN (W.condF rfl ?_))
     refine W.skip (E.blockN (E.thenN (W.region (L.m (V := fun x5 => .int .i64 x5) h rfl (Y.addM rfl rfl) (fun x5 ex5 h => ?_)))))
     refine L.y rfl (Y.move rfl) ?_
     exact L.nil (E.againJ ⟨x5, rfl, rfl, by rw [hg1]; exact h⟩ (Nat.lt_succ_self _) ⟨rfl, rfl, rfl, rfl, trivial⟩ (fun _ hw => hw.sel [] (by decide) rfl))
   ·
    refine L.nil (E.thenN (W.seq (W.condF rfl ?_)))
    exact W.exit (E.thenX (E.KLX (E.blockX (E.joinJ ⟨rfl, rfl, h⟩ trivial (fun _ hw => hw)))))
  ·
   rintro _ _ ⟨rfl, rfl, h⟩
   rw [m37_quirref_holds_K1] at h
   refine W.seq (W.region (L.y rfl (Y.assign rfl) ?_))
   refine L.nil (E.thenN (W.ret (E.ret1 rfl rfl (fun w1 hw => ?_))))
   obtain rfl := Option.some.inj h
   exact ⟨_, _, rfl, ⟨rfl, rfl⟩, hw⟩
set_option maxRecDepth 100000 in
set_option maxHeartbeats 8000000 in
theorem w38_quirref_Fits (a0 : Int) (a1 : Int) (w : World) (r : Bool) (h : m38_quirref_Fits a0 a1 = some r) : Does Try.prog 38 [.int .i64 a0, .int .i64 a1] w fun u m => u = .bool r ∧ m = [] := by
  rw [m38_quirref_Fits] at h
  refine body (n := 26) Try.func38 rfl rfl rfl (Cls.refl w) ?_
  refine W.seq (W.region (L.y rfl (Y.assign rfl) ?_))
  refine L.nil (E.thenN (W.seq (W.seq (W.region (L.y rfl (Y.move rfl) ?_)))))
  refine L.y rfl (Y.move rfl) ?_
  refine L.y rfl (Y.min2 rfl rfl) ?_
  refine L.nil (E.thenN (W.block (W.seq (W.region (L.ite h rfl (Y.eql rfl rfl) (fun c1 h => ?_) (fun c1 h => ?_))))))
  ·
   refine L.y rfl (Y.assign rfl) ?_
   refine L.nil (E.thenN (W.condT rfl ?_))
   refine W.seq (W.region (L.y rfl (Y.move rfl) ?_))
   refine L.y rfl (Y.move rfl) ?_
   refine L.y rfl (Y.max2 rfl rfl) ?_
   refine L.y rfl (Y.neq rfl rfl) ?_
   refine L.y rfl (Y.assign rfl) ?_
   refine L.nil (E.thenN (W.ret (E.blockR (E.thenR (E.ret1 rfl rfl (fun w1 hw => ?_))))))
   obtain rfl := Option.some.inj h
   exact ⟨_, _, rfl, ⟨rfl, rfl⟩, hw⟩
  ·
   refine L.y rfl (Y.assign rfl) ?_
   refine L.nil (E.thenN (W.condF rfl ?_))
   refine W.seq (W.region (L.ite h rfl (Y.eql rfl rfl) (fun c2 h => ?_) (fun c2 h => ?_)))
   ·
    refine L.y rfl (Y.assign rfl) ?_
    refine L.nil (E.thenN (W.condT rfl ?_))
    refine W.seq (W.region (L.y rfl (Y.move rfl) ?_))
    refine L.y rfl (Y.move rfl) ?_
    refine L.y rfl (Y.max2 rfl rfl) ?_
    refine L.y rfl (Y.eql rfl rfl) ?_
    refine L.y rfl (Y.assign rfl) ?_
    refine L.nil (E.thenN (W.ret (E.blockR (E.thenR (E.ret1 rfl rfl (fun w1 hw => ?_))))))
    obtain rfl := Option.some.inj h
    exact ⟨_, _, rfl, ⟨rfl, rfl⟩, hw⟩
   ·
    refine L.y rfl (Y.assign rfl) ?_
    refine L.nil (E.thenN (W.condF rfl ?_))
    refine W.seq (W.region (L.ite h rfl (Y.eql rfl rfl) (fun c3 h => ?_) (fun c3 h => ?_)))
    ·
     refine L.y rfl (Y.assign rfl) ?_
     refine L.nil (E.thenN (W.condT rfl ?_))
     refine W.seq (W.region (L.y rfl (Y.move rfl) ?_))
     refine L.y rfl (Y.move rfl) ?_
     refine L.y rfl (Y.max2 rfl rfl) ?_
     refine L.y rfl (Y.eql rfl rfl) ?_
     refine L.y rfl (Y.assign rfl) ?_
     refine L.nil (E.thenN (W.ret (E.blockR (E.thenR (E.ret1 rfl rfl (fun w1 hw => ?_))))))
     obtain rfl := Option.some.inj h
     exact ⟨_, _, rfl, ⟨rfl, rfl⟩, hw⟩
    ·
     refine L.y rfl (Y.assign rfl) ?_
     refine L.nil (E.thenN (W.condF rfl ?_))
     refine W.skip (E.blockN (E.thenN (W.seq (W.region (L.y rfl (Y.assign rfl) ?_)))))
     refine L.nil (E.thenN (W.ret (E.ret1 rfl rfl (fun w1 hw => ?_))))
     obtain rfl := Option.some.inj h
     exact ⟨_, _, rfl, ⟨rfl, rfl⟩, hw⟩
set_option maxRecDepth 100000 in
set_option maxHeartbeats 8000000 in
theorem w54_quirref_Join (a0 : Int) (a1 : Int) (w : World) (r : Int) (h : m54_quirref_Join a0 a1 = some r) : Does Try.prog 54 [.int .i64 a0, .int .i64 a1] w fun u m => u = .int .i64 r ∧ m = [] := by
  rw [m54_quirref_Join] at h
  refine body (n := 37) Try.func54 rfl rfl rfl (Cls.refl w) ?_
  refine W.seq (W.region (L.y rfl (Y.assign rfl) ?_))
  refine L.nil (E.thenN (W.seq (W.region (L.y rfl (Y.assign rfl) ?_))))
  refine L.nil (E.thenN (W.seqJ (fun gs D => ∃ (gx1 : Int), gs = [(5, .int .i64 gx1)] ∧ D = Cls w [] [] ∧ m54_quirref_Join_K1 gx1 = some r) ?_ ?_))
  ·
   refine W.seq (W.region (L.y rfl (Y.assign rfl) ?_))
   refine L.nil (E.thenN (W.block (W.loopJ (fun m gs D => ∃ (gx3 : Int) (gx4 : Int), gs = [(0, .int .i64 a0), (1, .int .i64 a1), (5, .int .i64 gx3), (6, .int .i64 gx4)] ∧ D = Cls w [] [] ∧ m54_quirref_Join_L1 a0 a1 m gx3 gx4 = some r) ⟨5, 5, rfl, rfl, h⟩ ⟨rfl, rfl, rfl, rfl, trivial⟩ (fun _ hw => hw) ?_)))
   rintro m _ _ ⟨gx3, gx4, rfl, rfl, h⟩
   rcases m with _ | m
   · rw [m54_quirref_Join_L1] at h; cases h
   rw [m54_quirref_Join_L1] at h
   generalize hg1 : m54_quirref_Join_L1 a0 a1 m = go1 at h
   rw [m54_quirref_Join_L1B] at h
   refine W.seqJ (fun gs D => gs = [(0, .int .i64 a0), (1, .int .i64 a1), (5, .int .i64 gx3), (6, .int .i64 gx4)] ∧ D = Cls w [] [] ∧ m54_quirref_Join_K2 gx4 a0 a1 go1 gx3 = some r) ?_ ?_
   ·
    refine W.seq (W.region (L.y rfl (Y.move rfl) ?_))
    refine L.ite h rfl (Y.geq rfl rfl) (fun c12 h => ?_) (fun c12 h => ?_)
    ·
     refine L.nil (E.thenN (W.condT rfl ?_))
     exact W.skip (E.joinJ ⟨rfl, rfl, h⟩ ⟨rfl, rfl, rfl, rfl, trivial⟩ (fun _ hw => hw))
    ·
     refine L.nil (E.thenN (W.condF rfl ?_))
     exact W.exit (E.KSX (E.KLX (E.blockX (E.joinJ ⟨gx3, rfl, rfl, h⟩ ⟨rfl, trivial⟩ (fun _ hw => hw)))))
   ·
    rintro _ _ ⟨rfl, rfl, h⟩
    rw [m54_quirref_Join_K2] at h
    refine W.seqJ (fun gs D => ∃ (gx5 : Int), gs = [(0, .int .i64 a0), (1, .int .i64 a1), (5, .int .i64 gx5), (6, .int .i64 gx4)] ∧ D = Cls w [] [] ∧ m54_quirref_Join_K3 gx4 go1 gx5 = some r) ?_ ?_
    ·
     refine W.block (W.seq (W.region (L.y rfl (Y.assign rfl) ?_)))
     refine L.nil (E.thenN (W.seqJ (fun gs D => ∃ (gb6 : Bool), gs = [(0, .int .i64 a0), (1, .int .i64 a1), (5, .int .i64 gx3), (6, .int .i64 gx4), (7, .bool gb6)] ∧ D = Cls w [] [] ∧ m54_quirref_Join_K4 gx4 go1 gx3 gb6 = some r) ?_ ?_))
     ·
      refine W.seq (W.region (L.y rfl (Y.assign rfl) ?_))
      refine L.nil (E.thenN (W.block (W.loopJ (fun m gs D => ∃ (gb7 : Bool) (gx8 : Int), gs = [(0, .int .i64 a0), (1, .int .i64 a1), (5, .int .i64 gx3), (6, .int .i64 gx4), (7, .bool gb7), (8, .int .i64 gx8)] ∧ D = Cls w [] [] ∧ m54_quirref_Join_L2 gx4 a0 a1 go1 gx3 m gb7 gx8 = some r) ⟨true, 1, rfl, rfl, h⟩ ⟨rfl, rfl, rfl, rfl, rfl, rfl, trivial⟩ (fun _ hw => hw) ?_)))
      rintro m _ _ ⟨gb7, gx8, rfl, rfl, h⟩
      rcases m with _ | m
      · rw [m54_quirref_Join_L2] at h; cases h
      rw [m54_quirref_Join_L2] at h
      generalize hg2 : m54_quirref_Join_L2 gx4 a0 a1 go1 gx3 m = go2 at h
      rw [m54_quirref_Join_L2B] at h
      refine W.seqJ (fun gs D => gs = [(0, .int .i64 a0), (1, .int .i64 a1), (5, .int .i64 gx3), (6, .int .i64 gx4), (7, .bool gb7), (8, .int .i64 gx8)] ∧ D = Cls w [] [] ∧ m54_quirref_Join_K5 gb7 gx4 gx8 a0 a1 go2 = some r) ?_ ?_
      ·
       refine W.seq (W.region (L.y rfl (Y.move rfl) ?_))
       refine L.ite h rfl (Y.leq rfl rfl) (fun c11 h => ?_) (fun c11 h => ?_)
       ·
        refine L.nil (E.thenN (W.condT rfl ?_))
        exact W.skip (E.joinJ ⟨rfl, rfl, h⟩ ⟨rfl, rfl, rfl, rfl, rfl, rfl, trivial⟩ (fun _ hw => hw))
       ·
        refine L.nil (E.thenN (W.condF rfl ?_))
        exact W.exit (E.KSX (E.KLX (E.blockX (E.joinJ ⟨gb7, rfl, rfl, h⟩ ⟨rfl, rfl, rfl, rfl, rfl, trivial⟩ (fun _ hw => hw)))))
      ·
       rintro _ _ ⟨rfl, rfl, h⟩
       rw [m54_quirref_Join_K5] at h
       refine W.seq (W.block (W.region (L.cutJ 17 (fun gs D => ∃ (gb9 : Bool), gs = [(0, .int .i64 a0), (1, .int .i64 a1), (5, .int .i64 gx3), (6, .int .i64 gx4), (8, .int .i64 gx8), (33, .bool gb9)] ∧ D = Cls w [] [] ∧ m54_quirref_Join_K6 gx8 go2 gb9 = some r) ?_ ?_)))
       ·
        refine L.iteB h rfl (Y.move rfl) (fun c4 h => ?_) (fun c4 h => ?_)
        ·
         refine L.y rfl (Y.move rfl) ?_
         refine L.take rfl (L.y rfl (Y.move rfl) ?_)
         refine L.take rfl (L.y rfl (Y.move rfl) ?_)
         refine L.take rfl ?_
         obtain ⟨b5, e6, h⟩ := bind1S h
         refine L.y rfl (Y.does en38 rfl (fun w' hw => (w38_quirref_Fits gx4 gx8 w' _ e6).mono (fun _ _ h => h.1))) ?_
         rcases b5 with _ | _
         ·
          replace h := iteF h
          refine L.take rfl (L.y rfl (Y.not rfl) ?_)
          refine L.take rfl (L.y rfl (Y.move rfl) ?_)
          refine L.pass rfl rfl (by nofun) ?_
          refine L.pass rfl rfl (by nofun) ?_
          refine L.pass rfl rfl (by nofun) ?_
          refine L.pass rfl rfl (by nofun) ?_
          refine L.pass rfl rfl (by nofun) ?_
          refine L.pass rfl rfl (by nofun) ?_
          refine L.pass rfl rfl (by nofun) ?_
          refine L.pass rfl rfl (by nofun) ?_
          refine L.take rfl (L.y rfl (Y.pickT rfl rfl) ?_)
          refine L.y rfl (Y.pickT rfl rfl) ?_
          exact L.nil (E.joinJ ⟨true, rfl, rfl, h⟩ ⟨rfl, rfl, rfl, rfl, rfl, rfl, trivial⟩ (fun _ hw => hw))
         ·
          replace h := iteT h
          refine L.take rfl (L.y rfl (Y.not rfl) ?_)
          refine L.take rfl (L.y rfl (Y.move rfl) ?_)
          refine L.take rfl (L.y rfl (Y.move rfl) ?_)
          refine L.take rfl (L.y rfl (Y.move rfl) ?_)
          refine L.take rfl ?_
          obtain ⟨b7, e8, h⟩ := bind1S h
          refine L.y rfl (Y.does en38 rfl (fun w' hw => (w38_quirref_Fits a0 gx8 w' _ e8).mono (fun _ _ h => h.1))) ?_
          rcases b7 with _ | _
          ·
           replace h := iteF h
           refine L.take rfl (L.y rfl (Y.move rfl) ?_)
           refine L.pass rfl rfl (by nofun) ?_
           refine L.pass rfl rfl (by nofun) ?_
           refine L.pass rfl rfl (by nofun) ?_
           refine L.take rfl (L.y rfl (Y.pickF rfl rfl) ?_)
           refine L.take rfl (L.y rfl (Y.pickF rfl rfl) ?_)
           refine L.y rfl (Y.pickT rfl rfl) ?_
           exact L.nil (E.joinJ ⟨false, rfl, rfl, h⟩ ⟨rfl, rfl, rfl, rfl, rfl, rfl, trivial⟩ (fun _ hw => hw))
          ·
           replace h := iteT h
           refine L.take rfl (L.y rfl (Y.move rfl) ?_)
           refine L.take rfl (L.y rfl (Y.move rfl) ?_)
           refine L.take rfl (L.y rfl (Y.move rfl) ?_)
           refine L.take rfl ?_
           obtain ⟨b9, e10, h⟩ := bind1S h
           refine L.y rfl (Y.does en38 rfl (fun w' hw => (w38_quirref_Fits a1 gx8 w' _ e10).mono (fun _ _ h => h.1))) ?_
           rcases b9 with _ | _
           ·
            replace h := iteF h
            refine L.take rfl (L.y rfl (Y.pickT rfl rfl) ?_)
            refine L.take rfl (L.y rfl (Y.pickF rfl rfl) ?_)
            refine L.y rfl (Y.pickT rfl rfl) ?_
            exact L.nil (E.joinJ ⟨false, rfl, rfl, h⟩ ⟨rfl, rfl, rfl, rfl, rfl, rfl, trivial⟩ (fun _ hw => hw))
           ·
            replace h := iteT h
            refine L.take rfl (L.y rfl (Y.pickT rfl rfl) ?_)
            refine L.take rfl (L.y rfl (Y.pickF rfl rfl) ?_)
            refine L.y rfl (Y.pickT rfl rfl) ?_
            exact L.nil (E.joinJ ⟨true, rfl, rfl, h⟩ ⟨rfl, rfl, rfl, rfl, rfl, rfl, trivial⟩ (fun _ hw => hw))
        ·
         refine L.y rfl (Y.move rfl) ?_
         refine L.pass rfl rfl (by nofun) ?_
         refine L.pass rfl rfl (by nofun) ?_
         refine L.pass rfl rfl (by nofun) ?_
         refine L.pass rfl rfl (by nofun) ?_
         refine L.pass rfl rfl (by nofun) ?_
         refine L.pass rfl rfl (by nofun) ?_
         refine L.pass rfl rfl (by nofun) ?_
         refine L.pass rfl rfl (by nofun) ?_
         refine L.pass rfl rfl (by nofun) ?_
         refine L.pass rfl rfl (by nofun) ?_
         refine L.pass rfl rfl (by nofun) ?_
         refine L.pass rfl rfl (by nofun) ?_
         refine L.pass rfl rfl (by nofun) ?_
         refine L.pass rfl rfl (by nofun) ?_
         refine L.y rfl (Y.pickF rfl rfl) ?_
         exact L.nil (E.joinJ ⟨false, rfl, rfl, h⟩ ⟨rfl, rfl, rfl, rfl, rfl, rfl, trivial⟩ (fun _ hw => hw))
       ·
        rintro _ _ ⟨gb9, rfl, rfl, h⟩
        rw [m54_quirref_Join_K6] at h
        rcases gb9 with _ | _
        ·
         replace h := iteF h
         refine L.y rfl (Y.assign rfl) ?_
         refine L.nil (E.blockN (E.thenN (W.region (L.y rfl (Y.move rfl) ?_))))
         refine L.m (V := fun x2 => .int .i64 x2) h rfl (Y.addM rfl rfl) (fun x2 ex2 h => ?_)
         refine L.y rfl (Y.assign rfl) ?_
         exact L.nil (E.againJ ⟨false, x2, rfl, rfl, by rw [hg2]; exact h⟩ (Nat.lt_succ_self _) ⟨rfl, rfl, rfl, rfl, rfl, rfl, trivial⟩ (fun _ hw => hw))
        ·
         replace h := iteT h
         refine L.y rfl (Y.assign rfl) ?_
         refine L.nil (E.blockN (E.thenN (W.region (L.y rfl (Y.move rfl) ?_))))
         refine L.m (V := fun x3 => .int .i64 x3) h rfl (Y.addM rfl rfl) (fun x3 ex3 h => ?_)
         refine L.y rfl (Y.assign rfl) ?_
         exact L.nil (E.againJ ⟨true, x3, rfl, rfl, by rw [hg2]; exact h⟩ (Nat.lt_succ_self _) ⟨rfl, rfl, rfl, rfl, rfl, rfl, trivial⟩ (fun _ hw => hw))
     ·
      rintro _ _ ⟨gb6, rfl, rfl, h⟩
      rw [m54_quirref_Join_K4] at h
      rcases gb6 with _ | _
      ·
       replace h := iteF h
       refine W.seq (W.region (L.y rfl (Y.move rfl) ?_))
       refine L.nil (E.thenN (W.condF rfl ?_))
       exact W.skip (E.blockN (E.joinJ ⟨gx3, rfl, rfl, h⟩ ⟨rfl, rfl, rfl, rfl, trivial⟩ (fun _ hw => hw)))
      ·
       replace h := iteT h
       refine W.seq (W.region (L.y rfl (Y.move rfl) ?_))
       refine L.nil (E.thenN (W.condT rfl ?_))
       refine W.region (L.y rfl (Y.move rfl) ?_)
       refine L.y rfl (Y.assign rfl) ?_
       exact L.nil (E.blockN (E.joinJ ⟨gx4, rfl, rfl, h⟩ ⟨rfl, rfl, rfl, rfl, trivial⟩ (fun _ hw => hw)))
    ·
     rintro _ _ ⟨gx5, rfl, rfl, h⟩
     rw [m54_quirref_Join_K3] at h
     refine W.region (L.y rfl (Y.move rfl) ?_)
     refine L.m (V := fun x1 => .int .i64 x1) h rfl (Y.subM rfl rfl) (fun x1 ex1 h => ?_)
     refine L.y rfl (Y.assign rfl) ?_
     exact L.nil (E.againJ ⟨gx5, x1, rfl, rfl, by rw [hg1]; exact h⟩ (Nat.lt_succ_self _) ⟨rfl, rfl, rfl, rfl, trivial⟩ (fun _ hw => hw))
  ·
   rintro _ _ ⟨gx1, rfl, rfl, h⟩
   rw [m54_quirref_Join_K1] at h
   refine W.seq (W.region (L.y rfl (Y.move rfl) ?_))
   refine L.y rfl (Y.assign rfl) ?_
   refine L.nil (E.thenN (W.ret (E.ret1 rfl rfl (fun w1 hw => ?_))))
   obtain rfl := Option.some.inj h
   exact ⟨_, _, rfl, ⟨rfl, rfl⟩, hw⟩
set_option maxRecDepth 100000 in
set_option maxHeartbeats 8000000 in
theorem w39_quirref_wish (a0 : TLockItem) (a1 : TLock) (u0_0 : Value) (u0_1 : Value) (w : World) (r : Int) (h : m39_quirref_wish a0 a1 = some r) (hA0_0 : At w u0_0 2 (a0.Held.map TLock.row)) (hA0_1 : At w u0_1 2 (a0.Queue.map TLock.row)) : Does Try.prog 39 [.agg #[.int .i64 a0.Item, u0_0, u0_1], .agg #[.int .i64 a1.Tx, .int .i64 a1.Mode]] w fun u m => u = .int .i64 r ∧ m = [] := by
  rw [m39_quirref_wish] at h
  refine body (n := 19) Try.func39 rfl rfl rfl (Cls.refl w) ?_
  refine W.seq (W.region (L.box rfl rfl ?_))
  intro b1
  refine L.box rfl rfl ?_
  intro b2
  refine L.y rfl (Y.assign rfl) ?_
  refine L.nil (E.thenN (W.seq (W.seq (W.region (L.y rfl (Y.fieldP fd50_1 rfl) ?_)))))
  refine L.y rfl (Y.loadP (i := 1) ag48 rfl rfl rfl) ?_
  refine L.y rfl (Y.fieldP fd55_0 rfl) ?_
  refine L.y rfl (Y.loadP (i := 0) ag3 rfl rfl rfl) ?_
  obtain ⟨x3, e4, h⟩ := bind1S h
  refine L.y rfl (Y.does en37 rfl (fun w' hw => (w37_quirref_holds a0.Held a1.Tx u0_0 w' _ e4 (hA0_0.cls0 hw)).mono (fun _ _ h => h.1))) ?_
  refine L.y rfl (Y.assign rfl) ?_
  refine L.nil (E.thenN (W.seq (W.region (L.y rfl (Y.move rfl) ?_))))
  refine L.ite h rfl (Y.gtr rfl rfl) (fun c5 h => ?_) (fun c5 h => ?_)
  ·
   refine L.nil (E.thenN (W.condT rfl ?_))
   refine W.seq (W.region (L.y rfl (Y.move rfl) ?_))
   refine L.y rfl (Y.fieldP fd55_1 rfl) ?_
   refine L.y rfl (Y.loadP (i := 0) ag3 rfl rfl rfl) ?_
   obtain ⟨x6, e7, h⟩ := bind1S h
   refine L.y rfl (Y.does en54 rfl (fun w' hw => (w54_quirref_Join x3 a1.Mode w' _ e7).mono (fun _ _ h => h.1))) ?_
   refine L.y rfl (Y.assign rfl) ?_
   refine L.nil (E.thenN (W.ret (E.thenR (E.ret1 rfl rfl (fun w1 hw => ?_)))))
   obtain rfl := Option.some.inj h
   exact ⟨_, _, rfl, ⟨rfl, rfl⟩, hw.sel [] (by decide) rfl⟩
  ·
   refine L.nil (E.thenN (W.condF rfl ?_))
   refine W.skip (E.thenN (W.seq (W.region (L.y rfl (Y.fieldP fd55_1 rfl) ?_))))
   refine L.y rfl (Y.loadP (i := 0) ag3 rfl rfl rfl) ?_
   refine L.y rfl (Y.assign rfl) ?_
   refine L.nil (E.thenN (W.ret (E.ret1 rfl rfl (fun w1 hw => ?_))))
   obtain rfl := Option.some.inj h
   exact ⟨_, _, rfl, ⟨rfl, rfl⟩, hw.sel [] (by decide) rfl⟩
set_option maxRecDepth 100000 in
set_option maxHeartbeats 8000000 in
theorem w41_quirref_can (a0 : TLockItem) (a1 : TLock) (u0_0 : Value) (u0_1 : Value) (w : World) (r : Bool) (h : m41_quirref_can a0 a1 = some r) (hA0_0 : At w u0_0 2 (a0.Held.map TLock.row)) (hA0_1 : At w u0_1 2 (a0.Queue.map TLock.row)) : Does Try.prog 41 [.agg #[.int .i64 a0.Item, u0_0, u0_1], .agg #[.int .i64 a1.Tx, .int .i64 a1.Mode]] w fun u m => u = .bool r ∧ m = [] := by
  rw [m41_quirref_can] at h
  refine body (n := 29) Try.func41 rfl rfl rfl (Cls.refl w) ?_
  refine W.seq (W.region (L.box rfl rfl ?_))
  intro b1
  refine L.box rfl rfl ?_
  intro b2
  refine L.y rfl (Y.assign rfl) ?_
  refine L.nil (E.thenN (W.seqJ (fun gs D => gs = [] ∧ D = Cls w [] [] ∧ m41_quirref_can_K1 = some r) ?_ ?_))
  ·
   refine W.seq (W.region (L.y rfl (Y.fieldP fd50_1 rfl) ?_))
   refine L.y rfl (Y.loadP (i := 1) ag48 rfl rfl rfl) ?_
   refine L.y rfl (Y.lenM (g := TLock.row) (l := a0.Held) Try.underlying48 rfl (fun w' hw => hA0_0.cls0 hw)) ?_
   refine L.y rfl (Y.move rfl) ?_
   refine L.nil (E.thenN (W.block (W.loopJ (fun m gs D => ∃ (gx1 : Int), gs = [(2, pt b1 0), (3, pt b2 0), (8, u0_0), (9, .int .i64 (a0.Held.length : Int)), (10, .int .i64 gx1)] ∧ D = Cls w [] [.obj b2 [.int .i64 a1.Tx, .int .i64 a1.Mode] 55, .obj b1 [.int .i64 a0.Item, u0_0, u0_1] 50] ∧ m41_quirref_can_L1 a0 a1 m gx1 = some r) ⟨0, rfl, rfl, h⟩ ⟨rfl, rfl, rfl, rfl, rfl, trivial⟩ (fun _ hw => hw) ?_)))
   rintro m _ _ ⟨gx1, rfl, rfl, h⟩
   rcases m with _ | m
   · rw [m41_quirref_can_L1] at h; cases h
   rw [m41_quirref_can_L1] at h
   generalize hg1 : m41_quirref_can_L1 a0 a1 m = go1 at h
   rw [m41_quirref_can_L1B] at h
   refine W.seq (W.region (L.ite h rfl (Y.lss rfl rfl) (fun c3 h => ?_) (fun c3 h => ?_)))
   ·
    refine L.nil (E.thenN (W.seq (W.condT rfl ?_)))
    refine W.skip (E.thenN (W.seq (W.block (W.seq (W.region (L.m (V := fun _ => el u0_0 (gx1.toNat * 2)) h rfl (Y.indexM (g := TLock.row) (l := a0.Held) Try.underlying48 sz55 rfl rfl (fun w' hw => hA0_0.cls0 hw)) (fun x4 ex4 h => ?_)))))))
    refine L.y rfl (Y.loadEN (r := [.int .i64 x4.Tx, .int .i64 x4.Mode]) ag55 sz55 rfl (fun w' hw => hA0_0.cls0 hw) (idx_map ex4) rfl) ?_
    refine L.alloc rfl ze55 ?_
    intro b5
    refine L.store (i := 0) (vs := [.int .i64 x4.Tx, .int .i64 x4.Mode]) sz55 rfl rfl rfl rfl (by simp [Value.oneCell', Value.cells, st, pt, el]) rfl (Nat.le_of_ble_eq_true rfl) ?_
    refine L.nil (E.thenN (W.seq (W.quietC mixed (by kernel_rfl) (fun _ hw => hw.drew) (fun hC => ?_))))
    refine U.y rfl (Y.fieldP fd55_0 rfl) ?_
    refine U.y rfl (Y.loadP (i := 0) ag3 rfl rfl rfl) ?_
    refine U.y rfl (Y.fieldP fd55_0 rfl) ?_
    refine U.y rfl (Y.loadP (i := 1) ag3 rfl rfl rfl) ?_
    refine U.ite h rfl (Y.neq rfl rfl) (fun c6 h => ?_) (fun c6 h => ?_)
    ·
     refine U.y rfl (Y.move rfl) ?_
     refine U.take rfl (U.y rfl (Y.loadPW (i := 2) ag50 sz50 rfl rfl rfl) ?_)
     refine U.take rfl (U.y rfl (Y.loadPW (i := 1) ag55 sz55 rfl rfl rfl) ?_)
     refine U.take rfl ?_
     obtain ⟨x7, e8, h⟩ := bind1S h
     refine U.y rfl (Y.does en39 rfl (fun w' hw => (w39_quirref_wish a0 a1 u0_0 u0_1 w' _ e8 (hA0_0.cls0 hw) (hA0_1.cls0 hw)).mono (fun _ _ h => h.1))) ?_
     refine U.take rfl (U.y rfl (Y.fieldP fd55_1 rfl) ?_)
     refine U.take rfl (U.y rfl (Y.loadP (i := 0) ag3 rfl rfl rfl) ?_)
     refine U.take rfl ?_
     obtain ⟨b9, e10, h⟩ := bind1S h
     refine U.y rfl (Y.does en38 rfl (fun w' hw => (w38_quirref_Fits x7 x4.Mode w' _ e10).mono (fun _ _ h => h.1))) ?_
     rcases b9 with _ | _
     ·
      replace h := iteF h
      refine U.take rfl (U.y rfl (Y.not rfl) ?_)
      refine U.y rfl (Y.pickT rfl rfl) ?_
      refine U.nil (E.thenN (W.condT rfl ?_))
      refine W.seq (W.region (L.y rfl (Y.assign rfl) ?_))
      refine L.nil (E.thenN (W.ret (E.blockR (E.thenR (E.KLR (E.blockR (E.KSR (E.ret1 rfl rfl (fun w1 hw => ?_)))))))))
      obtain rfl := Option.some.inj h
      exact ⟨_, _, rfl, ⟨rfl, rfl⟩, hw.sel [] (by decide) rfl⟩
     ·
      replace h := iteT h
      refine U.take rfl (U.y rfl (Y.not rfl) ?_)
      refine U.y rfl (Y.pickT rfl rfl) ?_
      refine U.nil (E.thenN (W.condF rfl ?_))
      refine W.skip (E.blockN (E.thenN (W.region (L.m (V := fun x11 => .int .i64 x11) h rfl (Y.addM rfl rfl) (fun x11 ex11 h => ?_)))))
      refine L.y rfl (Y.move rfl) ?_
      exact L.nil (E.againJ ⟨x11, rfl, rfl, by rw [hg1]; exact h⟩ (Nat.lt_succ_self _) ⟨rfl, rfl, rfl, rfl, rfl, trivial⟩ (fun _ hw => hw.sel [1, 2] (by decide) rfl))
    ·
     refine U.y rfl (Y.move rfl) ?_
     refine U.pass rfl rfl (by nofun) ?_
     refine U.pass rfl rfl (by nofun) ?_
     refine U.pass rfl rfl (by nofun) ?_
     refine U.pass rfl rfl (by nofun) ?_
     refine U.pass rfl rfl (by nofun) ?_
     refine U.pass rfl rfl (by nofun) ?_
     refine U.pass rfl rfl (by nofun) ?_
     refine U.y rfl (Y.pickF rfl rfl) ?_
     refine U.nil (E.thenN (W.condF rfl ?_))
     refine W.skip (E.blockN (E.thenN (W.region (L.m (V := fun x12 => .int .i64 x12) h rfl (Y.addM rfl rfl) (fun x12 ex12 h => ?_)))))
     refine L.y rfl (Y.move rfl) ?_
     exact L.nil (E.againJ ⟨x12, rfl, rfl, by rw [hg1]; exact h⟩ (Nat.lt_succ_self _) ⟨rfl, rfl, rfl, rfl, rfl, trivial⟩ (fun _ hw => hw.sel [1, 2] (by decide) rfl))
   ·
    refine L.nil (E.thenN (W.seq (W.condF rfl ?_)))
    exact W.exit (E.thenX (E.KLX (E.blockX (E.joinJ ⟨rfl, rfl, h⟩ trivial (fun _ hw => hw.sel [] (by decide) rfl)))))
  ·
   rintro _ _ ⟨rfl, rfl, h⟩
   rw [m41_quirref_can_K1] at h
   refine W.seq (W.region (L.y rfl (Y.assign rfl) ?_))
   refine L.nil (E.thenN (W.ret (E.ret1 rfl rfl (fun w1 hw => ?_))))
   obtain rfl := Option.some.inj h
   exact ⟨_, _, rfl, ⟨rfl, rfl⟩, hw⟩
set_option maxRecDepth 100000 in
set_option maxHeartbeats 8000000 in
theorem w42_quirref_given (a0 : TLockItem) (a1 : TLock) (u0_0 : Value) (u0_1 : Value) (K : World → Prop) (w : World) (hK : Stb K w) (r : TLockItem) (h : m42_quirref_given a0 a1 = some r) (hA0_0 : Fz K [] u0_0 2 (a0.Held.map TLock.row)) (hA0_1 : Fz K [] u0_1 2 (a0.Queue.map TLock.row)) : Does Try.prog 42 [.agg #[.int .i64 a0.Item, u0_0, u0_1], .agg #[.int .i64 a1.Tx, .int .i64 a1.Mode]] w fun u m => ∃ c, m = [.os c] ∧ ∃ v0 v1, u = .agg #[.int .i64 r.Item, v0, v1] ∧ Fz K c v0 2 (r.Held.map TLock.row) ∧ Fz K c v1 2 (r.Queue.map TLock.row) := by
  rw [m42_quirref_given] at h
  refine body (n := 54) Try.func42 rfl rfl rfl (Cls.reflF w) ?_
  refine W.seq (W.region (L.box rfl rfl ?_))
  intro b1
  refine L.box rfl rfl ?_
  intro b2
  refine L.alloc rfl ze50 ?_
  intro b3
  refine L.nil (E.thenN (W.seq (W.region (L.y rfl (Y.loadPW (i := 2) ag50 sz50 rfl rfl rfl) ?_))))
  refine L.y rfl (Y.loadPW (i := 1) ag55 sz55 rfl rfl rfl) ?_
  obtain ⟨x4, e5, h⟩ := bind1S h
  refine L.y rfl (Y.does en39 rfl (fun w' hw => (w39_quirref_wish a0 a1 u0_0 u0_1 w' _ e5 (hA0_0.up.clsF hK hw rfl) (hA0_1.up.clsF hK hw rfl)).mono (fun _ _ h => h.1))) ?_
  refine L.y rfl (Y.assign rfl) ?_
  refine L.nil (E.thenN (W.seq (W.region (L.y rfl (Y.fieldP fd50_0 rfl) ?_))))
  refine L.y rfl (Y.loadP (i := 2) ag3 rfl rfl rfl) ?_
  refine L.y rfl (Y.fieldP fd50_2 rfl) ?_
  refine L.y rfl (Y.loadP (i := 2) ag48 rfl rfl rfl) ?_
  refine L.y rfl (Y.buildC (cells := #[.int .i64 a0.Item, .slice none 0 0, u0_1]) rfl (fun w hw => by rcases ((hA0_1.up.clsF hK hw rfl)).shape with ⟨h0, _⟩ | ⟨_, _, h0, _, _⟩ <;> simp only [h0] <;> kernel_rfl)) ?_
  refine L.alloc rfl ze50 ?_
  intro b6
  refine L.storeC (i := 0) sz50 rfl rfl rfl rfl (fun w hw => (all1 rfl (all1 rfl (all1 (hA0_1.up.clsF hK hw rfl).one all0)))) rfl (Nat.le_of_ble_eq_true rfl) ?_
  refine L.nil (E.thenN (W.seqJ (fun gs D => ∃ (gv1 : Value) (gl2 : (List TLock)), gs = [(2, pt b1 0), (3, pt b2 0), (4, pt b3 0), (5, .int .i64 x4), (6, pt b6 0)] ∧ D = Cls w [] [.obj b6 [.int .i64 a0.Item, gv1, u0_1] 50, .obj b3 [.int .i64 0, .slice none 0 0, .slice none 0 0] 50, .obj b2 [.int .i64 a1.Tx, .int .i64 a1.Mode] 55, .obj b1 [.int .i64 a0.Item, u0_0, u0_1] 50, .sl gv1 55 2 (gl2.map TLock.row), .os []] ∧ m42_quirref_given_K1 a0 a1 x4 gl2 = some r) ?_ ?_))
  ·
   refine W.seq (W.region (L.y rfl (Y.fieldP fd50_1 rfl) ?_))
   refine L.y rfl (Y.loadP (i := 3) ag48 rfl rfl rfl) ?_
   refine L.y rfl (Y.lenM (g := TLock.row) (l := a0.Held) Try.underlying48 rfl (fun w' hw => (hA0_0.up.clsF hK hw rfl))) ?_
   refine L.y rfl (Y.move rfl) ?_
   refine L.nil (E.thenN (W.block (W.nilSl 55 2 ?_)))
   refine W.loopJ (fun m gs D => ∃ (gx3 : Int) (gv4 : Value) (gl5 : (List TLock)), gs = [(2, pt b1 0), (3, pt b2 0), (4, pt b3 0), (5, .int .i64 x4), (6, pt b6 0), (18, u0_0), (19, .int .i64 (a0.Held.length : Int)), (20, .int .i64 gx3)] ∧ D = Cls w [] [.obj b6 [.int .i64 a0.Item, gv4, u0_1] 50, .obj b3 [.int .i64 0, .slice none 0 0, .slice none 0 0] 50, .obj b2 [.int .i64 a1.Tx, .int .i64 a1.Mode] 55, .obj b1 [.int .i64 a0.Item, u0_0, u0_1] 50, .sl gv4 55 2 (gl5.map TLock.row), .os []] ∧ m42_quirref_given_L1 a0 a1 x4 m gx3 gl5 = some r) ⟨0, .slice none 0 0, [], rfl, rfl, h⟩ ⟨rfl, rfl, rfl, rfl, rfl, rfl, rfl, rfl, trivial⟩ (fun _ hw => hw.sel [1, 2, 3, 4, 0, 5] (by decide) rfl) ?_
   rintro m _ _ ⟨gx3, gv4, gl5, rfl, rfl, h⟩
   rcases m with _ | m
   · rw [m42_quirref_given_L1] at h; cases h
   rw [m42_quirref_given_L1] at h
   generalize hg1 : m42_quirref_given_L1 a0 a1 x4 m = go1 at h
   rw [m42_quirref_given_L1B] at h
   refine W.seq (W.region (L.ite h rfl (Y.lss rfl rfl) (fun c19 h => ?_) (fun c19 h => ?_)))
   ·
    refine L.nil (E.thenN (W.seq (W.condT rfl ?_)))
    refine W.skip (E.thenN (W.seq (W.block (W.seq (W.region (L.m (V := fun _ => el u0_0 (gx3.toNat * 2)) h rfl (Y.indexM (g := TLock.row) (l := a0.Held) Try.underlying48 sz55 rfl rfl (fun w' hw => (hA0_0.up.clsF hK hw rfl))) (fun x20 ex20 h => ?_)))))))
    refine L.y rfl (Y.loadEN (r := [.int .i64 x20.Tx, .int .i64 x20.Mode]) ag55 sz55 rfl (fun w' hw => (hA0_0.up.clsF hK hw rfl)) (idx_map ex20) rfl) ?_
    refine L.alloc rfl ze55 ?_
    intro b21
    refine L.store (i := 0) (vs := [.int .i64 x20.Tx, .int .i64 x20.Mode]) sz55 rfl rfl rfl rfl (by simp [Value.oneCell', Value.cells, st, pt, el]) rfl (Nat.le_of_ble_eq_true rfl) ?_
    refine L.nil (E.thenN (W.seqJ (fun gs D => ∃ (gx6 : Int), gs = [(2, pt b1 0), (3, pt b2 0), (4, pt b3 0), (5, .int .i64 x4), (6, pt b6 0), (8, pt b21 0), (18, u0_0), (19, .int .i64 (a0.Held.length : Int)), (20, .int .i64 gx3)] ∧ D = Cls w [] [.obj b21 [.int .i64 x20.Tx, .int .i64 gx6] 55, .obj b6 [.int .i64 a0.Item, gv4, u0_1] 50, .obj b3 [.int .i64 0, .slice none 0 0, .slice none 0 0] 50, .obj b2 [.int .i64 a1.Tx, .int .i64 a1.Mode] 55, .obj b1 [.int .i64 a0.Item, u0_0, u0_1] 50, .sl gv4 55 2 (gl5.map TLock.row), .os []] ∧ m42_quirref_given_K2 gl5 x20 gx3 go1 gx6 = some r) ?_ ?_))
    ·
     refine W.seq (W.region (L.y rfl (Y.fieldP fd55_0 rfl) ?_))
     refine L.y rfl (Y.loadP (i := 0) ag3 rfl rfl rfl) ?_
     refine L.y rfl (Y.fieldP fd55_0 rfl) ?_
     refine L.y rfl (Y.loadP (i := 3) ag3 rfl rfl rfl) ?_
     refine L.ite h rfl (Y.eql rfl rfl) (fun c26 h => ?_) (fun c26 h => ?_)
     ·
      refine L.nil (E.thenN (W.condT rfl ?_))
      refine W.region (L.y rfl (Y.move rfl) ?_)
      refine L.y rfl (Y.fieldP fd55_1 rfl) ?_
      refine L.store (i := 0) (vs := [.int .i64 x4]) sz3 rfl rfl rfl rfl (by simp [Value.oneCell', Value.cells, st, pt, el]) rfl (Nat.le_of_ble_eq_true rfl) ?_
      exact L.nil (E.joinJ ⟨x4, rfl, rfl, h⟩ ⟨rfl, rfl, rfl, rfl, rfl, rfl, rfl, rfl, rfl, trivial⟩ (fun _ hw => hw))
     ·
      refine L.nil (E.thenN (W.condF rfl ?_))
      exact W.skip (E.joinJ ⟨x20.Mode, rfl, rfl, h⟩ ⟨rfl, rfl, rfl, rfl, rfl, rfl, rfl, rfl, rfl, trivial⟩ (fun _ hw => hw))
    ·
     rintro _ _ ⟨gx6, rfl, rfl, h⟩
     rw [m42_quirref_given_K2] at h
     refine W.region (L.y rfl (Y.fieldP fd50_1 rfl) ?_)
     refine L.y rfl (Y.loadP (i := 1) ag48 rfl rfl rfl) ?_
     refine L.y rfl (Y.loadPW (i := 0) ag55 sz55 rfl rfl rfl) ?_
     refine L.litAgg rfl Try.underlying48 eL55 rfl rfl rfl ?_
     intro b22
     refine L.appM (i := 6) (g := TLock.row) (l := gl5) (more := [(⟨x20.Tx, gx6⟩ : TLock)]) h rfl Try.underlying48 eL55 rfl rfl rfl (fun w hw => As.at_ (hw.get (i := 0) rfl)) (plain_TLock _) rfl ?_
     intro v23 l24 el24 h
     refine L.y rfl (Y.fieldP fd50_1 rfl) ?_
     refine L.storeV (i := 3) sz48 rfl rfl (fun _ hw => (As.at_ (hw.get (i := 0) rfl)).one) rfl (Nat.le_of_ble_eq_true rfl) ?_
     refine L.nil (E.blockN (E.thenN (W.region (L.m (V := fun x25 => .int .i64 x25) h rfl (Y.addM rfl rfl) (fun x25 ex25 h => ?_)))))
     refine L.y rfl (Y.move rfl) ?_
     exact L.nil (E.againJ ⟨x25, v23, l24, rfl, rfl, by rw [hg1]; exact h⟩ (Nat.lt_succ_self _) ⟨rfl, rfl, rfl, rfl, rfl, rfl, rfl, rfl, trivial⟩ (fun _ hw => hw.sel [3, 4, 5, 6, 0, 7] (by decide) rfl))
   ·
    refine L.nil (E.thenN (W.seq (W.condF rfl ?_)))
    exact W.exit (E.thenX (E.KLX (E.blockX (E.joinJ ⟨gv4, gl5, rfl, rfl, h⟩ ⟨rfl, rfl, rfl, rfl, rfl, trivial⟩ (fun _ hw => hw)))))
  ·
   rintro _ _ ⟨gv1, gl2, rfl, rfl, h⟩
   rw [m42_quirref_given_K1] at h
   refine W.seq (W.seq (W.region (L.y rfl (Y.fieldP fd50_1 rfl) ?_)))
   refine L.y rfl (Y.loadP (i := 3) ag48 rfl rfl rfl) ?_
   refine L.y rfl (Y.fieldP fd55_0 rfl) ?_
   refine L.y rfl (Y.loadP (i := 2) ag3 rfl rfl rfl) ?_
   obtain ⟨x7, e8, h⟩ := bind1S h
   refine L.y rfl (Y.does en37 rfl (fun w' hw => (w37_quirref_holds a0.Held a1.Tx u0_0 w' _ e8 (hA0_0.up.clsF hK hw rfl)).mono (fun _ _ h => h.1))) ?_
   refine L.ite h rfl (Y.eql rfl rfl) (fun c9 h => ?_) (fun c9 h => ?_)
   ·
    refine L.nil (E.thenN (W.condT rfl ?_))
    refine W.region (L.y rfl (Y.fieldP fd50_1 rfl) ?_)
    refine L.y rfl (Y.loadP (i := 0) ag48 rfl rfl rfl) ?_
    refine L.y rfl (Y.fieldP fd55_0 rfl) ?_
    refine L.y rfl (Y.loadP (i := 2) ag3 rfl rfl rfl) ?_
    refine L.y rfl (Y.move rfl) ?_
    refine L.y rfl (Y.build (cells := #[.int .i64 a1.Tx, .int .i64 x4]) rfl (by kernel_rfl)) ?_
    refine L.litAgg rfl Try.underlying48 eL55 rfl rfl rfl ?_
    intro b10
    refine L.appM (i := 5) (g := TLock.row) (l := gl2) (more := [(⟨a1.Tx, x4⟩ : TLock)]) h rfl Try.underlying48 eL55 rfl rfl rfl (fun w hw => As.at_ (hw.get (i := 0) rfl)) (plain_TLock _) rfl ?_
    intro v11 l12 el12 h
    refine L.y rfl (Y.fieldP fd50_1 rfl) ?_
    refine L.storeV (i := 2) sz48 rfl rfl (fun _ hw => (As.at_ (hw.get (i := 0) rfl)).one) rfl (Nat.le_of_ble_eq_true rfl) ?_
    refine L.nil (E.thenN (W.seq (W.region (L.y rfl (Y.loadPW (i := 2) ag50 sz50 rfl rfl rfl) ?_))))
    refine L.storeC (i := 3) sz50 rfl rfl rfl rfl (fun w hw => (all1 rfl (all1 (As.at_ (hw.get (i := 0) rfl)).one (all1 (hA0_1.up.clsF hK hw rfl).one all0)))) rfl (Nat.le_of_ble_eq_true rfl) ?_
    refine L.nil (E.thenN (W.ret (E.frz (i := 0) rfl rfl rfl ?_)))
    intro c13 mo14 hf15
    refine E.retR1 rfl (Rv.cellW (i := 2) ag50 sz50 rfl rfl rfl) (fun w1 hw => ?_)
    obtain rfl := Option.some.inj h
    exact ⟨_, _, rfl, ⟨c13, rfl, v11, u0_1, rfl, (hf15 K), hA0_1.up⟩, hw.sel [5] (by decide) rfl⟩
   ·
    refine L.nil (E.thenN (W.condF rfl ?_))
    refine W.skip (E.thenN (W.seq (W.region (L.y rfl (Y.loadPW (i := 0) ag50 sz50 rfl rfl rfl) ?_))))
    refine L.storeC (i := 1) sz50 rfl rfl rfl rfl (fun w hw => (all1 rfl (all1 (As.at_ (hw.get (i := 4) rfl)).one (all1 (hA0_1.up.clsF hK hw rfl).one all0)))) rfl (Nat.le_of_ble_eq_true rfl) ?_
    refine L.nil (E.thenN (W.ret (E.frz (i := 4) rfl rfl rfl ?_)))
    intro c16 mo17 hf18
    refine E.retR1 rfl (Rv.cellW (i := 1) ag50 sz50 rfl rfl rfl) (fun w1 hw => ?_)
    obtain rfl := Option.some.inj h
    exact ⟨_, _, rfl, ⟨c16, rfl, gv1, u0_1, rfl, (hf18 K), hA0_1.up⟩, hw.sel [4] (by decide) rfl⟩
end Go.Proofs.Ytgkdimboofglfaa
