/-
  Walks, printed by a program of mine.
  Conditions: none.
-/
import Derived.Test.YtgkdimboofglfaaLyW2
import Derived.Test.YtgkdimboofglfaaChecked
import Derived.KernelRfl
import Derived.Test.YtgkdimboofglfaaLkO
namespace Go.Proofs.Ytgkdimboofglfaa
open Go.S
set_option linter.unusedVariables false
set_option linter.unusedSimpArgs false
set_option maxRecDepth 100000 in
set_option maxHeartbeats 8000000 in
theorem w12_quirref_DropLocks (a0 : (List TLockItem)) (a1 : Int) (u0 : Value) (q0 : Nat → List Value) (K : World → Prop) (w : World) (hK : Stb K w) (r : ((List TLockItem) × (List Int))) (h : m12_quirref_DropLocks a0 a1 = some r) (hA0 : Fz K [] u0 3 (zr TLockItem.rowv q0 a0)) (hD0 : FzA K [] (zs TLockItem.sds q0 a0)) : Does Try.prog 12 [u0, .int .i64 a1] w fun u m => ∃ c, m = [.os c] ∧ ∃ v0 q0 v1, u = .tuple #[v0, v1] ∧ Fz K c v0 3 (zr TLockItem.rowv q0 r.1) ∧ FzA K c (zs TLockItem.sds q0 r.1) ∧ Fz K c v1 1 (r.2.map I) := by
  rw [m12_quirref_DropLocks] at h
  refine body (n := 70) Try.func12 rfl rfl rfl (Cls.reflF w) ?_
  refine W.seq (W.region (L.box rfl rfl ?_))
  intro b1
  refine L.y rfl (Y.assign rfl) ?_
  refine L.y rfl (Y.assign rfl) ?_
  refine L.nil (E.thenN (W.seq (W.region (L.y rfl (Y.assign rfl) ?_))))
  refine L.nil (E.thenN (W.seq (W.region (L.y rfl (Y.assign rfl) ?_))))
  refine L.nil (E.thenN (W.seq (W.region (L.y rfl (Y.func rfl) ?_))))
  refine L.y rfl (Y.assign rfl) ?_
  refine L.nil (E.thenN (W.seqJ (fun gs D => ∃ (gc1 : List Ob) (gv2 : Value) (gl3 : (List TLockItem)) (gq4 : Nat → List Value) (gu6 : Unit) (gv7 : Value) (gl8 : (List Int)), gs = [(6, gv2), (7, gv7)] ∧ D = Cls w [] [.sl gv2 50 3 (zr TLockItem.rowv gq4 gl3), .sl gv7 3 1 (gl8.map I), .os gc1] ∧ FzA K gc1 (zs TLockItem.sds gq4 gl3) ∧ m12_quirref_DropLocks_K1 gl3 gl8 = some r) ?_ ?_))
  ·
   refine W.seq (W.region (L.y rfl (Y.move rfl) ?_))
   refine L.y rfl (Y.lenMZ (row := TLockItem.rowv) (vs := q0) (l := a0) Try.underlying23 rfl (fun w' hw => (hA0.up.clsF hK hw rfl))) ?_
   refine L.y rfl (Y.move rfl) ?_
   refine L.nil (E.thenN (W.block (W.nilSl 50 3 ?_)))
   refine W.nilSl 3 1 ?_
   refine W.loopJ (fun m gs D => ∃ (gc9 : List Ob) (gv10 : Value) (gl11 : (List TLockItem)) (gq12 : Nat → List Value) (gu14 : Unit) (gv15 : Value) (gl16 : (List Int)) (gx17 : Int), gs = [(6, gv10), (7, gv15), (8, .func (.func 40) #[] #[pt b1 0]), (12, u0), (13, .int .i64 (a0.length : Int)), (14, .int .i64 gx17)] ∧ D = Cls w [] [.obj b1 [.int .i64 a1] 3, .sl gv10 50 3 (zr TLockItem.rowv gq12 gl11), .sl gv15 3 1 (gl16.map I), .os gc9] ∧ FzA K gc9 (zs TLockItem.sds gq12 gl11) ∧ m12_quirref_DropLocks_L1 a0 a1 m gl11 gl16 gx17 = some r) ⟨[], .slice none 0 0, [], (fun _ => []), (), .slice none 0 0, [], 0, rfl, rfl, FzA.nil, h⟩ ⟨rfl, rfl, rfl, rfl, rfl, rfl, trivial⟩ (fun _ hw => hw.sel [2, 1, 0, 3] (by decide) rfl) ?_
   rintro m _ _ ⟨gc9, gv10, gl11, gq12, gu14, gv15, gl16, gx17, rfl, rfl, hG13, h⟩
   rcases m with _ | m
   · rw [m12_quirref_DropLocks_L1] at h; cases h
   rw [m12_quirref_DropLocks_L1] at h
   generalize hg1 : m12_quirref_DropLocks_L1 a0 a1 m = go1 at h
   rw [m12_quirref_DropLocks_L1B] at h
   refine W.seq (W.region (L.ite h rfl (Y.lss rfl rfl) (fun c8 h => ?_) (fun c8 h => ?_)))
   ·
    refine L.nil (E.thenN (W.seq (W.condT rfl ?_)))
    refine W.skip (E.thenN (W.seqJ (fun gs D => ∃ (gc18 : List Ob) (gv19 : Value) (gl20 : (List TLockItem)) (gq21 : Nat → List Value) (gu23 : Unit) (gv24 : Value) (gl25 : (List Int)), gs = [(6, gv19), (7, gv24), (8, .func (.func 40) #[] #[pt b1 0]), (12, u0), (13, .int .i64 (a0.length : Int)), (14, .int .i64 gx17)] ∧ D = Cls w [] [.obj b1 [.int .i64 a1] 3, .sl gv19 50 3 (zr TLockItem.rowv gq21 gl20), .sl gv24 3 1 (gl25.map I), .os gc18] ∧ FzA K gc18 (zs TLockItem.sds gq21 gl20) ∧ m12_quirref_DropLocks_K2 gx17 go1 gl20 gl25 = some r) ?_ ?_))
    ·
     refine W.block (W.seq (W.region (L.m (V := fun _ => el u0 (gx17.toNat * 3)) h rfl (Y.indexMZ (row := TLockItem.rowv) (vs := q0) (l := a0) Try.underlying23 sz50 rfl rfl (fun w' hw => (hA0.up.clsF hK hw rfl))) (fun x10 ex10 h => ?_))))
     refine L.y rfl (Y.loadEN (r := [.int .i64 x10.Item, gv (q0 gx17.toNat) 0, gv (q0 gx17.toNat) 1]) ag50 sz50 rfl (fun w' hw => (hA0.up.clsF hK hw rfl)) (zr_idx (vs := q0) ex10) rfl) ?_
     refine L.alloc rfl ze50 ?_
     intro b11
     refine L.storeC (i := 0) sz50 rfl rfl rfl rfl (fun w hw => (all1 rfl (all1 (((FzA.at (sds := TLockItem.sds) (vs := q0) (j := 0) (nl := 2) hD0 (fun _ _ => rfl) ex10 rfl).up).clsF hK hw rfl).one (all1 (((FzA.at (sds := TLockItem.sds) (vs := q0) (j := 1) (nl := 2) hD0 (fun _ _ => rfl) ex10 rfl).up).clsF hK hw rfl).one all0)))) rfl (Nat.le_of_ble_eq_true rfl) ?_
     refine L.nil (E.thenN (W.seq (W.drawn2 (k := 12) (stC [[5, 11], [11]] [Cls w [] [.obj b11 [.int .i64 x10.Item, gv (q0 gx17.toNat) 0, gv (q0 gx17.toNat) 1] 50, .obj b1 [.int .i64 a1] 3, .sl gv10 50 3 (zr TLockItem.rowv gq12 gl11), .sl gv15 3 1 (gl16.map I), .os gc9], Cls w [] [.obj b11 [.int .i64 x10.Item, gv (q0 gx17.toNat) 0, gv (q0 gx17.toNat) 1] 50, .obj b1 [.int .i64 a1] 3, .sl gv15 3 1 (gl16.map I), .os gc9]] (Cls w [] [.obj b1 [.int .i64 a1] 3, .sl gv15 3 1 (gl16.map I), .os gc9])) rfl mixed (fun _ hw => hw.drew) (Sc.now (by kernel_rfl) (fun _ hw => hw)) ?_)))
     refine V2.y (i := 0) (Nx2.of (Z := Cls w [] [.obj b1 [.int .i64 a1] 3, .sl gv15 3 1 (gl16.map I), .os gc9]) [] (by kernel_rfl) rfl (Zc.on (fun _ hw => hw.sel [1, 3, 4] (by decide) rfl) (Zc.on (fun _ hw => hw.sel [1, 2, 3] (by decide) rfl) (Zc.fin (fun _ hw => hw))))) rfl rfl rfl (Y.fieldP fd50_0 rfl) ?_
     refine V2.y (i := 1) (Nx2.of (Z := Cls w [] [.obj b11 [.int .i64 x10.Item, gv (q0 gx17.toNat) 0, gv (q0 gx17.toNat) 1] 50, .obj b1 [.int .i64 a1] 3, .sl gv15 3 1 (gl16.map I), .os gc9]) [11] (by kernel_rfl) rfl (Zc.on (fun _ hw => hw.sel [0, 1, 3, 4] (by decide) rfl) (Zc.at1 (fun _ hw => hw)))) rfl rfl rfl (Y.loadP (i := 0) ag3 rfl rfl rfl) ?_
     refine V2.y (i := 2) (Nx2.of (Z := Cls w [] [.obj b1 [.int .i64 a1] 3, .sl gv15 3 1 (gl16.map I), .os gc9]) [] (by kernel_rfl) rfl (Zc.on (fun _ hw => hw.sel [1, 3, 4] (by decide) rfl) (Zc.on (fun _ hw => hw.sel [1, 2, 3] (by decide) rfl) (Zc.fin (fun _ hw => hw))))) rfl rfl rfl (Y.move rfl) ?_
     refine V2.y (i := 3) (Nx2.of (Z := Cls w [] [.obj b1 [.int .i64 a1] 3, .sl gv15 3 1 (gl16.map I), .os gc9]) [] (by kernel_rfl) rfl (Zc.on (fun _ hw => hw.sel [1, 3, 4] (by decide) rfl) (Zc.on (fun _ hw => hw.sel [1, 2, 3] (by decide) rfl) (Zc.fin (fun _ hw => hw))))) rfl rfl rfl (Y.fieldP fd50_1 rfl) ?_
     refine V2.y (i := 4) (Nx2.of (Z := Cls w [] [.obj b11 [.int .i64 x10.Item, gv (q0 gx17.toNat) 0, gv (q0 gx17.toNat) 1] 50, .obj b1 [.int .i64 a1] 3, .sl gv15 3 1 (gl16.map I), .os gc9]) [11] (by kernel_rfl) rfl (Zc.on (fun _ hw => hw.sel [0, 1, 3, 4] (by decide) rfl) (Zc.at1 (fun _ hw => hw)))) rfl rfl rfl (Y.loadP (i := 0) ag48 rfl rfl rfl) ?_
     refine V2.y (i := 6) (Nx2.of (Z := Cls w [] [.obj b1 [.int .i64 a1] 3, .sl gv15 3 1 (gl16.map I), .os gc9]) [] (by kernel_rfl) rfl (Zc.on (fun _ hw => hw.sel [1, 3, 4] (by decide) rfl) (Zc.on (fun _ hw => hw.sel [1, 2, 3] (by decide) rfl) (Zc.fin (fun _ hw => hw))))) rfl rfl rfl (Y.move rfl) ?_
     refine V2.y (i := 7) (Nx2.of (Z := Cls w [] [.obj b1 [.int .i64 a1] 3, .sl gv15 3 1 (gl16.map I), .os gc9]) [] (by kernel_rfl) rfl (Zc.on (fun _ hw => hw.sel [1, 3, 4] (by decide) rfl) (Zc.on (fun _ hw => hw.sel [1, 2, 3] (by decide) rfl) (Zc.fin (fun _ hw => hw))))) rfl rfl rfl (Y.fieldP fd50_2 rfl) ?_
     refine V2.y (i := 8) (Nx2.of (Z := Cls w [] [.obj b11 [.int .i64 x10.Item, gv (q0 gx17.toNat) 0, gv (q0 gx17.toNat) 1] 50, .obj b1 [.int .i64 a1] 3, .sl gv15 3 1 (gl16.map I), .os gc9]) [11] (by kernel_rfl) rfl (Zc.on (fun _ hw => hw.sel [0, 1, 3, 4] (by decide) rfl) (Zc.at1 (fun _ hw => hw)))) rfl rfl rfl (Y.loadP (i := 0) ag48 rfl rfl rfl) ?_
     refine V2.eff (i := 5) (by kernel_rfl) rfl ?_
     refine L.callVJ (fun v D => ∃ (gu39 : Unit) (gv40 : Value) (gl41 : (List TLock)), v = gv40 ∧ D = Cls w [] [.obj b11 [.int .i64 x10.Item, gv (q0 gx17.toNat) 0, gv (q0 gx17.toNat) 1] 50, .obj b1 [.int .i64 a1] 3, .sl gv10 50 3 (zr TLockItem.rowv gq12 gl11), .sl gv15 3 1 (gl16.map I), .sl gv40 55 2 (gl41.map TLock.row), .os gc9] ∧ FzA K gc9 (zs TLockItem.sds gq12 gl11) ∧ m12_quirref_DropLocks_K3 x10 a1 gl11 gx17 go1 gl16 gl41 = some r) rfl en40 rfl rfl Try.func40 rfl rfl rfl ?_ ?_
     ·
      refine W.seq (W.region (L.y rfl (Y.assign rfl) ?_))
      refine L.nil (E.thenN (W.seq (W.region (L.y rfl (Y.assign rfl) ?_))))
      refine L.nil (E.thenN (W.seqJ (fun gs D => ∃ (gv89 : Value) (gl90 : (List TLock)) (gu92 : Unit), gs = [(4, gv89)] ∧ D = Cls w [] [.obj b11 [.int .i64 x10.Item, gv (q0 gx17.toNat) 0, gv (q0 gx17.toNat) 1] 50, .obj b1 [.int .i64 a1] 3, .sl gv89 55 2 (gl90.map TLock.row), .sl gv10 50 3 (zr TLockItem.rowv gq12 gl11), .sl gv15 3 1 (gl16.map I), .os gc9] ∧ FzA K gc9 (zs TLockItem.sds gq12 gl11) ∧ m12_quirref_DropLocks_K8 x10 a1 gl11 gx17 go1 gl16 gl90 = some r) ?_ ?_))
      ·
       refine W.seq (W.region (L.y rfl (Y.move rfl) ?_))
       refine L.y rfl (Y.lenM (g := TLock.row) (l := x10.Held) Try.underlying48 rfl (fun w' hw => (((FzA.at (sds := TLockItem.sds) (vs := q0) (j := 0) (nl := 2) hD0 (fun _ _ => rfl) ex10 rfl).up).clsF hK hw rfl))) ?_
       refine L.y rfl (Y.move rfl) ?_
       refine L.nil (E.thenN (W.block (W.nilSl 55 2 ?_)))
       refine W.loopJ (fun m gs D => ∃ (gv95 : Value) (gl96 : (List TLock)) (gx97 : Int) (gu99 : Unit), gs = [(1, pt b1 0), (4, gv95), (7, gv (q0 gx17.toNat) 0), (8, .int .i64 (x10.Held.length : Int)), (9, .int .i64 gx97)] ∧ D = Cls w [] [.obj b11 [.int .i64 x10.Item, gv (q0 gx17.toNat) 0, gv (q0 gx17.toNat) 1] 50, .obj b1 [.int .i64 a1] 3, .sl gv95 55 2 (gl96.map TLock.row), .sl gv10 50 3 (zr TLockItem.rowv gq12 gl11), .sl gv15 3 1 (gl16.map I), .os gc9] ∧ FzA K gc9 (zs TLockItem.sds gq12 gl11) ∧ m12_quirref_DropLocks_L4 x10 a1 gl11 gx17 go1 gl16 m gl96 gx97 = some r) ⟨.slice none 0 0, [], 0, (), rfl, rfl, hG13, h⟩ ⟨rfl, rfl, rfl, rfl, rfl, trivial⟩ (fun _ hw => hw.sel [1, 2, 0, 3, 4, 5] (by decide) rfl) ?_
       rintro m _ _ ⟨gv95, gl96, gx97, gu99, rfl, rfl, hG98, h⟩
       rcases m with _ | m
       · rw [m12_quirref_DropLocks_L4] at h; cases h
       rw [m12_quirref_DropLocks_L4] at h
       generalize hg4 : m12_quirref_DropLocks_L4 x10 a1 gl11 gx17 go1 gl16 m = go4 at h
       rw [m12_quirref_DropLocks_L4B] at h
       refine W.seq (W.region (L.ite h rfl (Y.lss rfl rfl) (fun c92 h => ?_) (fun c92 h => ?_)))
       ·
        refine L.nil (E.thenN (W.seq (W.condT rfl ?_)))
        refine W.skip (E.thenN (W.seq (W.block (W.seq (W.region (L.m (V := fun _ => el (gv (q0 gx17.toNat) 0) (gx97.toNat * 2)) h rfl (Y.indexM (g := TLock.row) (l := x10.Held) Try.underlying48 sz55 rfl rfl (fun w' hw => (((FzA.at (sds := TLockItem.sds) (vs := q0) (j := 0) (nl := 2) hD0 (fun _ _ => rfl) ex10 rfl).up).clsF hK hw rfl))) (fun x93 ex93 h => ?_)))))))
        refine L.y rfl (Y.loadEN (r := [.int .i64 x93.Tx, .int .i64 x93.Mode]) ag55 sz55 rfl (fun w' hw => (((FzA.at (sds := TLockItem.sds) (vs := q0) (j := 0) (nl := 2) hD0 (fun _ _ => rfl) ex10 rfl).up).clsF hK hw rfl)) (idx_map ex93) rfl) ?_
        refine L.alloc rfl ze55 ?_
        intro b94
        refine L.store (i := 0) (vs := [.int .i64 x93.Tx, .int .i64 x93.Mode]) sz55 rfl rfl rfl rfl (by simp [Value.oneCell', Value.cells, st, pt, el]) rfl (Nat.le_of_ble_eq_true rfl) ?_
        refine L.nil (E.thenN (W.seq (W.region (L.y rfl (Y.fieldP fd55_0 rfl) ?_))))
        refine L.y rfl (Y.loadP (i := 0) ag3 rfl rfl rfl) ?_
        refine L.y rfl (Y.loadP (i := 2) ag3 rfl rfl rfl) ?_
        refine L.ite h rfl (Y.neq rfl rfl) (fun c95 h => ?_) (fun c95 h => ?_)
        ·
         refine L.nil (E.thenN (W.condT rfl ?_))
         refine W.region (L.y rfl (Y.move rfl) ?_)
         refine L.y rfl (Y.loadPW (i := 0) ag55 sz55 rfl rfl rfl) ?_
         refine L.litAgg rfl Try.underlying48 eL55 rfl rfl rfl ?_
         intro b96
         refine L.appM (i := 4) (g := TLock.row) (l := gl96) (more := [x93]) h rfl Try.underlying48 eL55 rfl rfl rfl (fun w hw => As.at_ (hw.get (i := 0) rfl)) (plain_TLock _) rfl ?_
         intro v97 l98 el98 h
         refine L.y rfl (Y.assign rfl) ?_
         refine L.nil (E.blockN (E.thenN (W.region (L.m (V := fun x99 => .int .i64 x99) h rfl (Y.addM rfl rfl) (fun x99 ex99 h => ?_)))))
         refine L.y rfl (Y.move rfl) ?_
         exact L.nil (E.againJ ⟨v97, l98, x99, (), rfl, rfl, hG98, by rw [hg4]; exact h⟩ (Nat.lt_succ_self _) ⟨rfl, rfl, rfl, rfl, rfl, trivial⟩ (fun _ hw => hw.sel [3, 4, 0, 5, 6, 7] (by decide) rfl))
        ·
         refine L.nil (E.thenN (W.condF rfl ?_))
         refine W.skip (E.blockN (E.thenN (W.region (L.m (V := fun x100 => .int .i64 x100) h rfl (Y.addM rfl rfl) (fun x100 ex100 h => ?_)))))
         refine L.y rfl (Y.move rfl) ?_
         exact L.nil (E.againJ ⟨gv95, gl96, x100, (), rfl, rfl, hG98, by rw [hg4]; exact h⟩ (Nat.lt_succ_self _) ⟨rfl, rfl, rfl, rfl, rfl, trivial⟩ (fun _ hw => hw.sel [1, 2, 3, 4, 5, 6] (by decide) rfl))
       ·
        refine L.nil (E.thenN (W.seq (W.condF rfl ?_)))
        exact W.exit (E.thenX (E.KLX (E.blockX (E.joinJ ⟨gv95, gl96, (), rfl, rfl, hG98, h⟩ ⟨rfl, trivial⟩ (fun _ hw => hw)))))
      ·
       rintro _ _ ⟨gv89, gl90, gu92, rfl, rfl, hG91, h⟩
       rw [m12_quirref_DropLocks_K8] at h
       refine W.seq (W.region (L.y rfl (Y.move rfl) ?_))
       refine L.y rfl (Y.assign rfl) ?_
       refine L.nil (E.thenN (W.ret (E.ret1 rfl rfl (fun w1 hw => ?_))))
       exact ⟨_, _, rfl, ⟨(), gv89, gl90, rfl, rfl, hG91, h⟩, hw.sel [0, 1, 3, 4, 2, 5] (by decide) rfl⟩
     ·
      rintro gv40 _ ⟨gu39, _, gl41, rfl, rfl, hG38, h⟩
      rw [m12_quirref_DropLocks_K3] at h
      refine L.nil (E.toV2 (stC [[11]] [Cls w [] [.obj b11 [.int .i64 x10.Item, gv (q0 gx17.toNat) 0, gv (q0 gx17.toNat) 1] 50, .obj b1 [.int .i64 a1] 3, .sl gv15 3 1 (gl16.map I), .sl gv40 55 2 (gl41.map TLock.row), .os gc9]] (Cls w [] [.obj b1 [.int .i64 a1] 3, .sl gv15 3 1 (gl16.map I), .sl gv40 55 2 (gl41.map TLock.row), .os gc9])) 5 (by kernel_rfl) (Sc.past rfl (Sc.stay (fun _ hw => hw.sel [0, 1, 2, 4] (by decide) rfl) (Sc.stayD (fun _ hw => hw.sel [0, 1, 3] (by decide) rfl)))) (Sc.now (by kernel_rfl) (fun _ hw => hw.sel [0, 1, 3, 4, 5] (by decide) rfl)) ?_)
      refine V2.eff (i := 9) (by kernel_rfl) rfl ?_
      refine L.callVJ (fun v D => ∃ (gu43 : Unit) (gv44 : Value) (gl45 : (List TLock)), v = gv44 ∧ D = Cls w [] [.obj b11 [.int .i64 x10.Item, gv (q0 gx17.toNat) 0, gv (q0 gx17.toNat) 1] 50, .obj b1 [.int .i64 a1] 3, .sl gv10 50 3 (zr TLockItem.rowv gq12 gl11), .sl gv15 3 1 (gl16.map I), .sl gv40 55 2 (gl41.map TLock.row), .sl gv44 55 2 (gl45.map TLock.row), .os gc9] ∧ FzA K gc9 (zs TLockItem.sds gq12 gl11) ∧ m12_quirref_DropLocks_K4 gl11 gx17 go1 gl16 x10 gl41 gl45 = some r) rfl en40 rfl rfl Try.func40 rfl rfl rfl ?_ ?_
      ·
       refine W.seq (W.region (L.y rfl (Y.assign rfl) ?_))
       refine L.nil (E.thenN (W.seq (W.region (L.y rfl (Y.assign rfl) ?_))))
       refine L.nil (E.thenN (W.seqJ (fun gs D => ∃ (gv78 : Value) (gl79 : (List TLock)) (gu81 : Unit), gs = [(4, gv78)] ∧ D = Cls w [] [.obj b11 [.int .i64 x10.Item, gv (q0 gx17.toNat) 0, gv (q0 gx17.toNat) 1] 50, .obj b1 [.int .i64 a1] 3, .sl gv78 55 2 (gl79.map TLock.row), .sl gv10 50 3 (zr TLockItem.rowv gq12 gl11), .sl gv15 3 1 (gl16.map I), .sl gv40 55 2 (gl41.map TLock.row), .os gc9] ∧ FzA K gc9 (zs TLockItem.sds gq12 gl11) ∧ m12_quirref_DropLocks_K7 gl11 gx17 go1 gl16 x10 gl41 gl79 = some r) ?_ ?_))
       ·
        refine W.seq (W.region (L.y rfl (Y.move rfl) ?_))
        refine L.y rfl (Y.lenM (g := TLock.row) (l := x10.Queue) Try.underlying48 rfl (fun w' hw => (((FzA.at (sds := TLockItem.sds) (vs := q0) (j := 1) (nl := 2) hD0 (fun _ _ => rfl) ex10 rfl).up).clsF hK hw rfl))) ?_
        refine L.y rfl (Y.move rfl) ?_
        refine L.nil (E.thenN (W.block (W.nilSl 55 2 ?_)))
        refine W.loopJ (fun m gs D => ∃ (gv84 : Value) (gl85 : (List TLock)) (gx86 : Int) (gu88 : Unit), gs = [(1, pt b1 0), (4, gv84), (7, gv (q0 gx17.toNat) 1), (8, .int .i64 (x10.Queue.length : Int)), (9, .int .i64 gx86)] ∧ D = Cls w [] [.obj b11 [.int .i64 x10.Item, gv (q0 gx17.toNat) 0, gv (q0 gx17.toNat) 1] 50, .obj b1 [.int .i64 a1] 3, .sl gv84 55 2 (gl85.map TLock.row), .sl gv10 50 3 (zr TLockItem.rowv gq12 gl11), .sl gv15 3 1 (gl16.map I), .sl gv40 55 2 (gl41.map TLock.row), .os gc9] ∧ FzA K gc9 (zs TLockItem.sds gq12 gl11) ∧ m12_quirref_DropLocks_L3 x10 a1 gl11 gx17 go1 gl16 gl41 m gl85 gx86 = some r) ⟨.slice none 0 0, [], 0, (), rfl, rfl, hG38, h⟩ ⟨rfl, rfl, rfl, rfl, rfl, trivial⟩ (fun _ hw => hw.sel [1, 2, 0, 3, 4, 5, 6] (by decide) rfl) ?_
        rintro m _ _ ⟨gv84, gl85, gx86, gu88, rfl, rfl, hG87, h⟩
        rcases m with _ | m
        · rw [m12_quirref_DropLocks_L3] at h; cases h
        rw [m12_quirref_DropLocks_L3] at h
        generalize hg3 : m12_quirref_DropLocks_L3 x10 a1 gl11 gx17 go1 gl16 gl41 m = go3 at h
        rw [m12_quirref_DropLocks_L3B] at h
        refine W.seq (W.region (L.ite h rfl (Y.lss rfl rfl) (fun c83 h => ?_) (fun c83 h => ?_)))
        ·
         refine L.nil (E.thenN (W.seq (W.condT rfl ?_)))
         refine W.skip (E.thenN (W.seq (W.block (W.seq (W.region (L.m (V := fun _ => el (gv (q0 gx17.toNat) 1) (gx86.toNat * 2)) h rfl (Y.indexM (g := TLock.row) (l := x10.Queue) Try.underlying48 sz55 rfl rfl (fun w' hw => (((FzA.at (sds := TLockItem.sds) (vs := q0) (j := 1) (nl := 2) hD0 (fun _ _ => rfl) ex10 rfl).up).clsF hK hw rfl))) (fun x84 ex84 h => ?_)))))))
         refine L.y rfl (Y.loadEN (r := [.int .i64 x84.Tx, .int .i64 x84.Mode]) ag55 sz55 rfl (fun w' hw => (((FzA.at (sds := TLockItem.sds) (vs := q0) (j := 1) (nl := 2) hD0 (fun _ _ => rfl) ex10 rfl).up).clsF hK hw rfl)) (idx_map ex84) rfl) ?_
         refine L.alloc rfl ze55 ?_
         intro b85
         refine L.store (i := 0) (vs := [.int .i64 x84.Tx, .int .i64 x84.Mode]) sz55 rfl rfl rfl rfl (by simp [Value.oneCell', Value.cells, st, pt, el]) rfl (Nat.le_of_ble_eq_true rfl) ?_
         refine L.nil (E.thenN (W.seq (W.region (L.y rfl (Y.fieldP fd55_0 rfl) ?_))))
         refine L.y rfl (Y.loadP (i := 0) ag3 rfl rfl rfl) ?_
         refine L.y rfl (Y.loadP (i := 2) ag3 rfl rfl rfl) ?_
         refine L.ite h rfl (Y.neq rfl rfl) (fun c86 h => ?_) (fun c86 h => ?_)
         ·
          refine L.nil (E.thenN (W.condT rfl ?_))
          refine W.region (L.y rfl (Y.move rfl) ?_)
          refine L.y rfl (Y.loadPW (i := 0) ag55 sz55 rfl rfl rfl) ?_
          refine L.litAgg rfl Try.underlying48 eL55 rfl rfl rfl ?_
          intro b87
          refine L.appM (i := 4) (g := TLock.row) (l := gl85) (more := [x84]) h rfl Try.underlying48 eL55 rfl rfl rfl (fun w hw => As.at_ (hw.get (i := 0) rfl)) (plain_TLock _) rfl ?_
          intro v88 l89 el89 h
          refine L.y rfl (Y.assign rfl) ?_
          refine L.nil (E.blockN (E.thenN (W.region (L.m (V := fun x90 => .int .i64 x90) h rfl (Y.addM rfl rfl) (fun x90 ex90 h => ?_)))))
          refine L.y rfl (Y.move rfl) ?_
          exact L.nil (E.againJ ⟨v88, l89, x90, (), rfl, rfl, hG87, by rw [hg3]; exact h⟩ (Nat.lt_succ_self _) ⟨rfl, rfl, rfl, rfl, rfl, trivial⟩ (fun _ hw => hw.sel [3, 4, 0, 5, 6, 7, 8] (by decide) rfl))
         ·
          refine L.nil (E.thenN (W.condF rfl ?_))
          refine W.skip (E.blockN (E.thenN (W.region (L.m (V := fun x91 => .int .i64 x91) h rfl (Y.addM rfl rfl) (fun x91 ex91 h => ?_)))))
          refine L.y rfl (Y.move rfl) ?_
          exact L.nil (E.againJ ⟨gv84, gl85, x91, (), rfl, rfl, hG87, by rw [hg3]; exact h⟩ (Nat.lt_succ_self _) ⟨rfl, rfl, rfl, rfl, rfl, trivial⟩ (fun _ hw => hw.sel [1, 2, 3, 4, 5, 6, 7] (by decide) rfl))
        ·
         refine L.nil (E.thenN (W.seq (W.condF rfl ?_)))
         exact W.exit (E.thenX (E.KLX (E.blockX (E.joinJ ⟨gv84, gl85, (), rfl, rfl, hG87, h⟩ ⟨rfl, trivial⟩ (fun _ hw => hw)))))
       ·
        rintro _ _ ⟨gv78, gl79, gu81, rfl, rfl, hG80, h⟩
        rw [m12_quirref_DropLocks_K7] at h
        refine W.seq (W.region (L.y rfl (Y.move rfl) ?_))
        refine L.y rfl (Y.assign rfl) ?_
        refine L.nil (E.thenN (W.ret (E.ret1 rfl rfl (fun w1 hw => ?_))))
        exact ⟨_, _, rfl, ⟨(), gv78, gl79, rfl, rfl, hG80, h⟩, hw.sel [0, 1, 3, 4, 5, 2, 6] (by decide) rfl⟩
      ·
       rintro gv44 _ ⟨gu43, _, gl45, rfl, rfl, hG42, h⟩
       rw [m12_quirref_DropLocks_K4] at h
       refine L.nil (E.toV2 (stC [[11]] [Cls w [] [.obj b11 [.int .i64 x10.Item, gv (q0 gx17.toNat) 0, gv (q0 gx17.toNat) 1] 50, .obj b1 [.int .i64 a1] 3, .sl gv15 3 1 (gl16.map I), .sl gv40 55 2 (gl41.map TLock.row), .sl gv44 55 2 (gl45.map TLock.row), .os gc9]] (Cls w [] [.obj b1 [.int .i64 a1] 3, .sl gv15 3 1 (gl16.map I), .sl gv40 55 2 (gl41.map TLock.row), .sl gv44 55 2 (gl45.map TLock.row), .os gc9])) 9 (by kernel_rfl) (Sc.stay (fun _ hw => hw.sel [0, 1, 2, 3, 5] (by decide) rfl) (Sc.stayD (fun _ hw => hw.sel [0, 1, 2, 4] (by decide) rfl))) (Sc.now (by kernel_rfl) (fun _ hw => hw.sel [0, 1, 3, 4, 5, 6] (by decide) rfl)) ?_)
       refine V2.y (i := 10) (Nx2.of (Z := Cls w [] [.obj b1 [.int .i64 a1] 3, .sl gv15 3 1 (gl16.map I), .sl gv40 55 2 (gl41.map TLock.row), .sl gv44 55 2 (gl45.map TLock.row), .os gc9]) [] (by kernel_rfl) rfl (Zc.on (fun _ hw => hw.sel [1, 2, 3, 4, 5] (by decide) rfl) (Zc.fin (fun _ hw => hw)))) rfl rfl rfl (Y.buildC (cells := #[.int .i64 x10.Item, gv40, gv44]) rfl (fun w hw => by rcases ((As.at_ (hw.get (i := 2) rfl))).shape with ⟨h0, _⟩ | ⟨_, _, h0, _, _⟩ <;> rcases ((As.at_ (hw.get (i := 3) rfl))).shape with ⟨h1, _⟩ | ⟨_, _, h1, _, _⟩ <;> simp only [h0, h1] <;> kernel_rfl)) ?_
       refine V2.eff (i := 11) (by kernel_rfl) rfl ?_
       refine L.storeC (i := 0) sz50 rfl rfl rfl rfl (fun w hw => (all1 rfl (all1 (As.at_ (hw.get (i := 4) rfl)).one (all1 (As.at_ (hw.get (i := 5) rfl)).one all0)))) rfl (Nat.le_of_ble_eq_true rfl) ?_
       refine L.nil (E.toV2 (stC [] [] (Cls w [] [.obj b1 [.int .i64 a1] 3, .sl gv15 3 1 (gl16.map I), .sl gv40 55 2 (gl41.map TLock.row), .sl gv44 55 2 (gl45.map TLock.row), .os gc9])) 11 (by kernel_rfl) (Sc.past rfl (Sc.stayD (fun _ hw => hw))) (Sc.atD (fun _ hw => hw.sel [1, 3, 4, 5, 6] (by decide) rfl)) ?_)
       refine V2.done (by kernel_rfl) ?_
       refine E.thenN (W.seqJ (fun gs D => ∃ (gc46 : List Ob) (gu48 : Unit) (gv49 : Value) (gl50 : (List Int)) (gx51 : Int) (gv52 : Value) (gl53 : (List TLock)) (gu55 : Unit) (gv56 : Value) (gl57 : (List TLock)) (gu59 : Unit), gs = [(6, gv10), (7, gv49), (8, .func (.func 40) #[] #[pt b1 0]), (10, pt b11 0), (12, u0), (13, .int .i64 (a0.length : Int)), (14, .int .i64 gx17)] ∧ D = Cls w [] [.obj b11 [.int .i64 gx51, gv52, gv56] 50, .obj b1 [.int .i64 a1] 3, .sl gv10 50 3 (zr TLockItem.rowv gq12 gl11), .sl gv49 3 1 (gl50.map I), .os gc46] ∧ FzA K gc46 (zs TLockItem.sds gq12 gl11) ∧ Fz K gc46 gv52 2 (gl53.map TLock.row) ∧ Fz K gc46 gv56 2 (gl57.map TLock.row) ∧ m12_quirref_DropLocks_K5 gl11 gx17 go1 gl50 gx51 gl53 gl57 = some r) ?_ ?_)
       ·
        refine W.block (W.frz (i := 4) rfl rfl rfl ?_)
        intro c77 mo78 hf79
        refine W.frz (i := 4) rfl rfl rfl ?_
        intro c80 mo81 hf82
        refine W.loopJ (fun m gs D => ∃ (gc62 : List Ob) (gu64 : Unit) (gv65 : Value) (gl66 : (List Int)) (gx67 : Int) (gv68 : Value) (gl69 : (List TLock)) (gu71 : Unit) (gv72 : Value) (gl73 : (List TLock)) (gu75 : Unit), gs = [(6, gv10), (7, gv65), (8, .func (.func 40) #[] #[pt b1 0]), (10, pt b11 0), (12, u0), (13, .int .i64 (a0.length : Int)), (14, .int .i64 gx17)] ∧ D = Cls w [] [.obj b11 [.int .i64 gx67, gv68, gv72] 50, .obj b1 [.int .i64 a1] 3, .sl gv10 50 3 (zr TLockItem.rowv gq12 gl11), .sl gv65 3 1 (gl66.map I), .os gc62] ∧ FzA K gc62 (zs TLockItem.sds gq12 gl11) ∧ Fz K gc62 gv68 2 (gl69.map TLock.row) ∧ Fz K gc62 gv72 2 (gl73.map TLock.row) ∧ m12_quirref_DropLocks_L2 gl11 gx17 go1 m gl66 gx67 gl69 gl73 = some r) ⟨c80, (), gv15, gl16, x10.Item, gv40, gl41, (), gv44, gl45, (), rfl, rfl, ((hG42.mo mo78).mo mo81), ((hf79 K).mo mo81), (hf82 K), h⟩ ⟨rfl, rfl, rfl, rfl, rfl, rfl, rfl, trivial⟩ (fun _ hw => hw) ?_
        rintro m _ _ ⟨gc62, gu64, gv65, gl66, gx67, gv68, gl69, gu71, gv72, gl73, gu75, rfl, rfl, hG63, hG70, hG74, h⟩
        rcases m with _ | m
        · rw [m12_quirref_DropLocks_L2] at h; cases h
        rw [m12_quirref_DropLocks_L2] at h
        generalize hg2 : m12_quirref_DropLocks_L2 gl11 gx17 go1 m = go2 at h
        rw [m12_quirref_DropLocks_L2B] at h
        refine W.seqJ (fun gs D => ∃ (gu77 : Unit), gs = [(6, gv10), (7, gv65), (8, .func (.func 40) #[] #[pt b1 0]), (10, pt b11 0), (12, u0), (13, .int .i64 (a0.length : Int)), (14, .int .i64 gx17)] ∧ D = Cls w [] [.obj b11 [.int .i64 gx67, gv68, gv72] 50, .obj b1 [.int .i64 a1] 3, .sl gv10 50 3 (zr TLockItem.rowv gq12 gl11), .sl gv65 3 1 (gl66.map I), .os gc62] ∧ FzA K gc62 (zs TLockItem.sds gq12 gl11) ∧ m12_quirref_DropLocks_K6 gl73 gl66 gx67 gl69 go2 = some r) ?_ ?_
        ·
         refine W.seq (W.quietC mixed (by kernel_rfl) (fun _ hw => hw.drew) (fun hC => ?_))
         refine U.y rfl (Y.fieldP fd50_2 rfl) ?_
         refine U.y rfl (Y.loadP (i := 0) ag48 rfl rfl rfl) ?_
         refine U.y rfl (Y.lenM (g := TLock.row) (l := gl73) Try.underlying48 rfl (fun w' hw => (hG74.clsF hK hw rfl))) ?_
         refine U.ite h rfl (Y.gtr rfl rfl) (fun c73 h => ?_) (fun c73 h => ?_)
         ·
          refine U.y rfl (Y.move rfl) ?_
          refine U.take rfl (U.y rfl (Y.loadPW (i := 0) ag50 sz50 rfl rfl rfl) ?_)
          refine U.take rfl (U.y rfl (Y.fieldP fd50_2 rfl) ?_)
          refine U.take rfl (U.y rfl (Y.loadP (i := 0) ag48 rfl rfl rfl) ?_)
          refine U.take rfl (U.m (V := fun _ => el gv72 ((0 : Int).toNat * 2)) h rfl (Y.indexM (g := TLock.row) (l := gl73) Try.underlying48 sz55 rfl rfl (fun w' hw => (hG74.clsF hK hw rfl))) (fun x74 ex74 h => ?_))
          refine U.take rfl (U.y rfl (Y.loadEN (r := [.int .i64 x74.Tx, .int .i64 x74.Mode]) ag55 sz55 rfl (fun w' hw => (hG74.clsF hK hw rfl)) (idx_map ex74) rfl) ?_)
          refine U.take rfl ?_
          obtain ⟨b75, e76, h⟩ := bind1S h
          refine U.y rfl (Y.does en41 rfl (fun w' hw => (w41_quirref_can (⟨gx67, gl69, gl73⟩ : TLockItem) x74 gv68 gv72 w' _ e76 (hG70.clsF hK hw rfl) (hG74.clsF hK hw rfl)).mono (fun _ _ h => h.1))) ?_
          rcases b75 with _ | _
          ·
           replace h := iteF h
           refine U.y rfl (Y.pickT rfl rfl) ?_
           refine U.nil (E.thenN (W.condF rfl ?_))
           exact W.exit (E.KSX (E.KLX (E.blockX (E.joinJ ⟨gc62, (), gv65, gl66, gx67, gv68, gl69, (), gv72, gl73, (), rfl, rfl, hG63, hG70, hG74, h⟩ ⟨rfl, rfl, rfl, rfl, rfl, rfl, rfl, trivial⟩ (fun _ hw => hw)))))
          ·
           replace h := iteT h
           refine U.y rfl (Y.pickT rfl rfl) ?_
           refine U.nil (E.thenN (W.condT rfl ?_))
           exact W.skip (E.joinJ ⟨(), rfl, rfl, hG63, h⟩ ⟨rfl, rfl, rfl, rfl, rfl, rfl, rfl, trivial⟩ (fun _ hw => hw))
         ·
          refine U.y rfl (Y.move rfl) ?_
          refine U.pass rfl rfl (by nofun) ?_
          refine U.pass rfl rfl (by nofun) ?_
          refine U.pass rfl rfl (by nofun) ?_
          refine U.pass rfl rfl (by nofun) ?_
          refine U.pass rfl rfl (by nofun) ?_
          refine U.pass rfl rfl (by nofun) ?_
          refine U.y rfl (Y.pickF rfl rfl) ?_
          refine U.nil (E.thenN (W.condF rfl ?_))
          exact W.exit (E.KSX (E.KLX (E.blockX (E.joinJ ⟨gc62, (), gv65, gl66, gx67, gv68, gl69, (), gv72, gl73, (), rfl, rfl, hG63, hG70, hG74, h⟩ ⟨rfl, rfl, rfl, rfl, rfl, rfl, rfl, trivial⟩ (fun _ hw => hw)))))
        ·
         rintro _ _ ⟨gu77, rfl, rfl, hG76, h⟩
         rw [m12_quirref_DropLocks_K6] at h
         refine W.block (W.seq (W.region (L.y rfl (Y.move rfl) ?_)))
         refine L.y rfl (Y.fieldP fd50_2 rfl) ?_
         refine L.y rfl (Y.loadP (i := 0) ag48 rfl rfl rfl) ?_
         refine L.m (V := fun _ => el gv72 ((0 : Int).toNat * 2)) h rfl (Y.indexM (g := TLock.row) (l := gl73) Try.underlying48 sz55 rfl rfl (fun w' hw => (hG74.clsF hK hw rfl))) (fun x20 ex20 h => ?_)
         refine L.y rfl (Y.fieldE fd55_0 rfl) ?_
         refine L.y rfl (Y.loadE (u := .int .i64 x20.Tx) ag3 rfl (fun w' hw => (hG74.clsF hK hw rfl)) (idx_map ex20) rfl) ?_
         refine L.litOne rfl Try.underlying28 eL3 rfl rfl ?_
         intro b21
         refine L.appM (i := 4) (g := I) (l := gl66) (more := [x20.Tx]) h rfl Try.underlying28 eL3 rfl rfl rfl (fun w hw => As.at_ (hw.get (i := 0) rfl)) (plain_ints _) rfl ?_
         intro v22 l23 el23 h
         refine L.y rfl (Y.assign rfl) ?_
         refine L.nil (E.thenN (W.seq (W.drawn2 (k := 7) (stC [[5]] [Cls w [] [.sl v22 3 1 (l23.map I), .sl (sv b21 1) 3 1 (([x20.Tx]).map I), .obj b11 [.int .i64 gx67, gv68, gv72] 50, .obj b1 [.int .i64 a1] 3, .sl gv10 50 3 (zr TLockItem.rowv gq12 gl11), .os gc62]] (Cls w [] [.sl v22 3 1 (l23.map I), .sl (sv b21 1) 3 1 (([x20.Tx]).map I), .obj b1 [.int .i64 a1] 3])) rfl mixed (fun _ hw => hw.drew) (Sc.now (by kernel_rfl) (fun _ hw => hw)) ?_)))
         refine V2.y (i := 0) (Nx2.of (Z := Cls w [] [.sl v22 3 1 (l23.map I), .sl (sv b21 1) 3 1 (([x20.Tx]).map I), .obj b11 [.int .i64 gx67, gv68, gv72] 50, .obj b1 [.int .i64 a1] 3, .sl gv10 50 3 (zr TLockItem.rowv gq12 gl11), .os gc62]) [5] (by kernel_rfl) rfl (Zc.at1 (fun _ hw => hw))) rfl rfl rfl (Y.loadPW (i := 2) ag50 sz50 rfl rfl rfl) ?_
         refine V2.y (i := 1) (Nx2.of (Z := Cls w [] [.sl v22 3 1 (l23.map I), .sl (sv b21 1) 3 1 (([x20.Tx]).map I), .obj b1 [.int .i64 a1] 3]) [] (by kernel_rfl) rfl (Zc.on (fun _ hw => hw.sel [0, 1, 3] (by decide) rfl) (Zc.fin (fun _ hw => hw)))) rfl rfl rfl (Y.fieldP fd50_2 rfl) ?_
         refine V2.eff (i := 2) (by kernel_rfl) rfl ?_
         refine L.y rfl (Y.loadP (i := 2) ag48 rfl rfl rfl) ?_
         refine L.nil (E.toV2 (stC [[5]] [Cls w [] [.sl v22 3 1 (l23.map I), .sl (sv b21 1) 3 1 (([x20.Tx]).map I), .obj b11 [.int .i64 gx67, gv68, gv72] 50, .obj b1 [.int .i64 a1] 3, .sl gv10 50 3 (zr TLockItem.rowv gq12 gl11), .os gc62]] (Cls w [] [.sl v22 3 1 (l23.map I), .sl (sv b21 1) 3 1 (([x20.Tx]).map I), .obj b1 [.int .i64 a1] 3])) 2 (by kernel_rfl) (Sc.stay (fun _ hw => hw) (Sc.stayD (fun _ hw => hw))) (Sc.now (by kernel_rfl) (fun _ hw => hw)) ?_)
         refine V2.eff (i := 3) (by kernel_rfl) rfl ?_
         refine L.m (V := fun _ => el gv72 ((0 : Int).toNat * 2)) h rfl (Y.indexM (g := TLock.row) (l := gl73) Try.underlying48 sz55 rfl rfl (fun w' hw => (hG74.clsF hK hw rfl))) (fun x60 ex60 h => ?_)
         refine L.nil (E.toV2 (stC [[5]] [Cls w [] [.sl v22 3 1 (l23.map I), .sl (sv b21 1) 3 1 (([x20.Tx]).map I), .obj b11 [.int .i64 gx67, gv68, gv72] 50, .obj b1 [.int .i64 a1] 3, .sl gv10 50 3 (zr TLockItem.rowv gq12 gl11), .os gc62]] (Cls w [] [.sl v22 3 1 (l23.map I), .sl (sv b21 1) 3 1 (([x20.Tx]).map I), .obj b1 [.int .i64 a1] 3])) 3 (by kernel_rfl) (Sc.stay (fun _ hw => hw) (Sc.stayD (fun _ hw => hw))) (Sc.now (by kernel_rfl) (fun _ hw => hw)) ?_)
         refine V2.y (i := 4) (Nx2.of (Z := Cls w [] [.sl v22 3 1 (l23.map I), .sl (sv b21 1) 3 1 (([x20.Tx]).map I), .obj b11 [.int .i64 gx67, gv68, gv72] 50, .obj b1 [.int .i64 a1] 3, .sl gv10 50 3 (zr TLockItem.rowv gq12 gl11), .os gc62]) [5] (by kernel_rfl) rfl (Zc.at1 (fun _ hw => hw))) rfl rfl rfl (Y.loadEN (r := [.int .i64 x60.Tx, .int .i64 x60.Mode]) ag55 sz55 rfl (fun w' hw => (hG74.clsF hK hw rfl)) (idx_map ex60) rfl) ?_
         refine V2.eff (i := 5) (by kernel_rfl) rfl ?_
         obtain ⟨x61, e66, h⟩ := bind1S h
         refine L.doesF rfl en42 rfl rfl hK (fun w' hw hs => w42_quirref_given (⟨gx67, gl69, gl73⟩ : TLockItem) x60 gv68 gv72 _ w' hs _ e66 hG70.tok hG74.tok) ?_
         rintro _ c67 c68 mo69 mn70 ma71 ⟨v62, v64, rfl, f63, f65⟩
         refine L.nil (E.toV2 (stC [] [] (Cls w [] [.sl v22 3 1 (l23.map I), .sl (sv b21 1) 3 1 (([x20.Tx]).map I), .obj b1 [.int .i64 a1] 3])) 5 (by kernel_rfl) (Sc.past rfl (Sc.stayD (fun _ hw => hw))) (Sc.atD (fun _ hw => hw.sel [0, 1, 3] (by decide) rfl)) ?_)
         refine V2.eff (i := 6) (by kernel_rfl) rfl ?_
         refine L.storeC (i := 2) sz50 rfl rfl rfl rfl (fun w hw => (all1 rfl (all1 ((mn70 f63).clsF hK hw rfl).one (all1 ((mn70 f65).clsF hK hw rfl).one all0)))) rfl (Nat.le_of_ble_eq_true rfl) ?_
         refine L.nil (E.toV2 (stC [] [] (Cls w [] [.sl v22 3 1 (l23.map I), .sl (sv b21 1) 3 1 (([x20.Tx]).map I), .obj b1 [.int .i64 a1] 3])) 6 (by kernel_rfl) (Sc.stayD (fun _ hw => hw)) (Sc.atD (fun _ hw => hw.sel [0, 1, 3] (by decide) rfl)) ?_)
         refine V2.done (by kernel_rfl) ?_
         refine E.thenN (W.region (L.y rfl (Y.fieldP fd50_2 rfl) ?_))
         refine L.y rfl (Y.loadP (i := 2) ag48 rfl rfl rfl) ?_
         refine L.m (V := fun _ => dropv v64 (1 : Int).toNat 2) h rfl (Y.dropM (g := TLock.row) Try.underlying48 sz55 rfl rfl (fun w' hw => ((mn70 f65).clsF hK hw rfl))) (fun l72 el72 h => ?_)
         refine L.y rfl (Y.fieldP fd50_2 rfl) ?_
         refine L.storeV (i := 2) sz48 rfl rfl (fun _ hw => (((mn70 f65).dropM el72).clsF hK hw rfl).one) rfl (Nat.le_of_ble_eq_true rfl) ?_
         exact L.nil (E.blockN (E.againJ ⟨c68, (), v22, l23, x61.Item, v62, x61.Held, (), dropv v64 (1 : Int).toNat 2, l72, (), rfl, rfl, (hG76.mo mo69), (mn70 f63), ((mn70 f65).dropM el72), by rw [hg2]; exact h⟩ (Nat.lt_succ_self _) ⟨rfl, rfl, rfl, rfl, rfl, rfl, rfl, trivial⟩ (fun _ hw => hw.sel [2, 3, 4, 0, 5] (by decide) rfl)))
       ·
        rintro _ _ ⟨gc46, gu48, gv49, gl50, gx51, gv52, gl53, gu55, gv56, gl57, gu59, rfl, rfl, hG47, hG54, hG58, h⟩
        rw [m12_quirref_DropLocks_K5] at h
        refine W.seq (W.region (L.y rfl (Y.fieldP fd50_1 rfl) ?_))
        refine L.y rfl (Y.loadP (i := 0) ag48 rfl rfl rfl) ?_
        refine L.y rfl (Y.lenM (g := TLock.row) (l := gl53) Try.underlying48 rfl (fun w' hw => (hG54.clsF hK hw rfl))) ?_
        refine L.ite h rfl (Y.gtr rfl rfl) (fun c12 h => ?_) (fun c12 h => ?_)
        ·
         refine L.nil (E.thenN (W.condT rfl ?_))
         refine W.region (L.y rfl (Y.move rfl) ?_)
         refine L.y rfl (Y.loadPW (i := 0) ag50 sz50 rfl rfl rfl) ?_
         refine L.litAgg rfl Try.underlying23 eL50 rfl rfl rfl ?_
         intro b14
         have hz15 : FzA K gc46 (zs TLockItem.sds (fun _ => [gv52, gv56]) [(⟨gx51, gl53, gl57⟩ : TLockItem)]) := FzA.app (FzA.cons hG54 (FzA.cons hG58 FzA.nil)) FzA.nil
         refine L.to (D := Cls w [] [.sl (sv b14 1) 50 3 (zr TLockItem.rowv (fun _ => [gv52, gv56]) ([(⟨gx51, gl53, gl57⟩ : TLockItem)])), .obj b11 [.int .i64 gx51, gv52, gv56] 50, .obj b1 [.int .i64 a1] 3, .sl gv10 50 3 (zr TLockItem.rowv gq12 gl11), .sl gv49 3 1 (gl50.map I), .os gc46]) (fun _ hw => hw) ?_
         refine L.appHz (i := 3) (row := TLockItem.rowv) (sds := TLockItem.sds) (vs := gq12) (vs2 := (fun _ => [gv52, gv56])) (l := gl11) (l2 := [(⟨gx51, gl53, gl57⟩ : TLockItem)]) h rfl Try.underlying23 eL50 rfl rfl rfl rfl (fun w hw => As.at_ (hw.get (i := 0) rfl)) plz_TLockItem hK rfl hG47 hz15 ?_
         intro v17 q18 l16 el16 h hz19
         refine L.y rfl (Y.assign rfl) ?_
         exact L.nil (E.blockN (E.joinJ ⟨gc46, v17, l16, q18, (), gv49, gl50, rfl, rfl, hz19, h⟩ ⟨rfl, rfl, rfl, rfl, rfl, rfl, trivial⟩ (fun _ hw => hw.sel [3, 0, 4, 5] (by decide) rfl)))
        ·
         refine L.nil (E.thenN (W.condF rfl ?_))
         exact W.skip (E.blockN (E.joinJ ⟨gc46, gv10, gl11, gq12, (), gv49, gl50, rfl, rfl, hG47, h⟩ ⟨rfl, rfl, rfl, rfl, rfl, rfl, trivial⟩ (fun _ hw => hw.sel [1, 2, 3, 4] (by decide) rfl)))
    ·
     rintro _ _ ⟨gc18, gv19, gl20, gq21, gu23, gv24, gl25, rfl, rfl, hG22, h⟩
     rw [m12_quirref_DropLocks_K2] at h
     refine W.region (L.m (V := fun x9 => .int .i64 x9) h rfl (Y.addM rfl rfl) (fun x9 ex9 h => ?_))
     refine L.y rfl (Y.move rfl) ?_
     exact L.nil (E.againJ ⟨gc18, gv19, gl20, gq21, (), gv24, gl25, x9, rfl, rfl, hG22, by rw [hg1]; exact h⟩ (Nat.lt_succ_self _) ⟨rfl, rfl, rfl, rfl, rfl, rfl, trivial⟩ (fun _ hw => hw))
   ·
    refine L.nil (E.thenN (W.seq (W.condF rfl ?_)))
    exact W.exit (E.thenX (E.KLX (E.blockX (E.joinJ ⟨gc9, gv10, gl11, gq12, (), gv15, gl16, rfl, rfl, hG13, h⟩ ⟨rfl, rfl, trivial⟩ (fun _ hw => hw.sel [1, 2, 3] (by decide) rfl)))))
  ·
   rintro _ _ ⟨gc1, gv2, gl3, gq4, gu6, gv7, gl8, rfl, rfl, hG5, h⟩
   rw [m12_quirref_DropLocks_K1] at h
   refine W.seq (W.region (L.y rfl (Y.move rfl) ?_))
   refine L.y rfl (Y.move rfl) ?_
   refine L.y rfl (Y.assign rfl) ?_
   refine L.y rfl (Y.assign rfl) ?_
   refine L.nil (E.thenN (W.ret (E.frz (i := 0) rfl rfl rfl ?_)))
   intro c2 mo3 hf4
   refine E.frz (i := 0) rfl rfl rfl ?_
   intro c5 mo6 hf7
   refine E.ret2 rfl rfl rfl (fun w1 hw => ?_)
   obtain rfl := Option.some.inj h
   exact ⟨_, _, rfl, ⟨c5, rfl, gv2, gq4, gv7, rfl, ((hf4 K).mo mo6), ((hG5.mo mo3).mo mo6), (hf7 K)⟩, hw⟩
set_option maxRecDepth 100000 in
set_option maxHeartbeats 8000000 in
theorem w45_api_Lock (a0 : (List TLock)) (a1 : (List TLock)) (u0 : Value) (u1 : Value) (w : World) (r : Bool) (h : m45_api_Lock a0 a1 = some r) (hA0 : At w u0 2 (a0.map TLock.row)) (hA1 : At w u1 2 (a1.map TLock.row)) : Does Try.prog 45 [u0, u1] w fun u m => u = .bool r ∧ m = [] := by
  rw [m45_api_Lock] at h
  refine body (n := 26) Try.func45 rfl rfl rfl (Cls.refl w) ?_
  refine W.seq (W.region (L.y rfl (Y.assign rfl) ?_))
  refine L.nil (E.thenN (W.seqJ (fun gs D => gs = [(0, u0), (1, u1)] ∧ D = Cls w [] [] ∧ m45_api_Lock_K1 a0 a1 = some r) ?_ ?_))
  ·
   refine W.seq (W.region (L.y rfl (Y.move rfl) ?_))
   refine L.y rfl (Y.lenM (g := TLock.row) (l := a0) Try.underlying48 rfl (fun w' hw => hA0.cls0 hw)) ?_
   refine L.y rfl (Y.move rfl) ?_
   refine L.y rfl (Y.lenM (g := TLock.row) (l := a1) Try.underlying48 rfl (fun w' hw => hA1.cls0 hw)) ?_
   refine L.ite h rfl (Y.neq rfl rfl) (fun c6 h => ?_) (fun c6 h => ?_)
   ·
    refine L.nil (E.thenN (W.condT rfl ?_))
    refine W.seq (W.region (L.y rfl (Y.assign rfl) ?_))
    refine L.nil (E.thenN (W.ret (E.KSR (E.ret1 rfl rfl (fun w1 hw => ?_)))))
    obtain rfl := Option.some.inj h
    exact ⟨_, _, rfl, ⟨rfl, rfl⟩, hw⟩
   ·
    refine L.nil (E.thenN (W.condF rfl ?_))
    exact W.skip (E.joinJ ⟨rfl, rfl, h⟩ ⟨rfl, rfl, trivial⟩ (fun _ hw => hw))
  ·
   rintro _ _ ⟨rfl, rfl, h⟩
   rw [m45_api_Lock_K1] at h
   refine W.seqJ (fun gs D => gs = [] ∧ D = Cls w [] [] ∧ m45_api_Lock_K2 = some r) ?_ ?_
   ·
    refine W.seq (W.region (L.y rfl (Y.move rfl) ?_))
    refine L.y rfl (Y.lenM (g := TLock.row) (l := a0) Try.underlying48 rfl (fun w' hw => hA0.cls0 hw)) ?_
    refine L.y rfl (Y.move rfl) ?_
    refine L.nil (E.thenN (W.block (W.loopJ (fun m gs D => ∃ (gx1 : Int), gs = [(0, u0), (1, u1), (12, .int .i64 (a0.length : Int)), (13, .int .i64 gx1)] ∧ D = Cls w [] [] ∧ m45_api_Lock_L1 a0 a1 m gx1 = some r) ⟨0, rfl, rfl, h⟩ ⟨rfl, rfl, rfl, rfl, trivial⟩ (fun _ hw => hw) ?_)))
    rintro m _ _ ⟨gx1, rfl, rfl, h⟩
    rcases m with _ | m
    · rw [m45_api_Lock_L1] at h; cases h
    rw [m45_api_Lock_L1] at h
    generalize hg1 : m45_api_Lock_L1 a0 a1 m = go1 at h
    rw [m45_api_Lock_L1B] at h
    refine W.seq (W.region (L.ite h rfl (Y.lss rfl rfl) (fun c1 h => ?_) (fun c1 h => ?_)))
    ·
     refine L.nil (E.thenN (W.seq (W.condT rfl ?_)))
     refine W.skip (E.thenN (W.seq (W.block (W.seq (W.region (L.y rfl (Y.move rfl) ?_))))))
     refine L.y rfl (Y.assign rfl) ?_
     refine L.nil (E.thenN (W.seq (W.quietC mixed (by kernel_rfl) (fun _ hw => hw.drew) (fun hC => ?_))))
     refine U.y rfl (Y.move rfl) ?_
     refine U.y rfl (Y.move rfl) ?_
     refine U.m (V := fun _ => el u0 (gx1.toNat * 2)) h rfl (Y.indexM (g := TLock.row) (l := a0) Try.underlying48 sz55 rfl rfl (fun w' hw => hA0.cls0 hw)) (fun x2 ex2 h => ?_)
     refine U.y rfl (Y.loadEN (r := [.int .i64 x2.Tx, .int .i64 x2.Mode]) ag55 sz55 rfl (fun w' hw => hA0.cls0 hw) (idx_map ex2) rfl) ?_
     refine U.y rfl (Y.move rfl) ?_
     refine U.y rfl (Y.move rfl) ?_
     refine U.m (V := fun _ => el u1 (gx1.toNat * 2)) h rfl (Y.indexM (g := TLock.row) (l := a1) Try.underlying48 sz55 rfl rfl (fun w' hw => hA1.cls0 hw)) (fun x3 ex3 h => ?_)
     refine U.y rfl (Y.loadEN (r := [.int .i64 x3.Tx, .int .i64 x3.Mode]) ag55 sz55 rfl (fun w' hw => hA1.cls0 hw) (idx_map ex3) rfl) ?_
     refine U.ite h rfl (Y.neqA (row := TLock.row) (a := x2) (b := x3) eg55 ag55 (sh55 _) (sh55 _) (inj55 _ _) rfl rfl) (fun c4 h => ?_) (fun c4 h => ?_)
     ·
      refine U.nil (E.thenN (W.condT rfl ?_))
      refine W.seq (W.region (L.y rfl (Y.assign rfl) ?_))
      refine L.nil (E.thenN (W.ret (E.blockR (E.thenR (E.KLR (E.blockR (E.KSR (E.ret1 rfl rfl (fun w1 hw => ?_)))))))))
      obtain rfl := Option.some.inj h
      exact ⟨_, _, rfl, ⟨rfl, rfl⟩, hw⟩
     ·
      refine U.nil (E.thenN (W.condF rfl ?_))
      refine W.skip (E.blockN (E.thenN (W.region (L.m (V := fun x5 => .int .i64 x5) h rfl (Y.addM rfl rfl) (fun x5 ex5 h => ?_)))))
      refine L.y rfl (Y.move rfl) ?_
      exact L.nil (E.againJ ⟨x5, rfl, rfl, by rw [hg1]; exact h⟩ (Nat.lt_succ_self _) ⟨rfl, rfl, rfl, rfl, trivial⟩ (fun _ hw => hw))
    ·
     refine L.nil (E.thenN (W.seq (W.condF rfl ?_)))
     exact W.exit (E.thenX (E.KLX (E.blockX (E.joinJ ⟨rfl, rfl, h⟩ trivial (fun _ hw => hw)))))
   ·
    rintro _ _ ⟨rfl, rfl, h⟩
    rw [m45_api_Lock_K2] at h
    refine W.seq (W.region (L.y rfl (Y.assign rfl) ?_))
    refine L.nil (E.thenN (W.ret (E.ret1 rfl rfl (fun w1 hw => ?_))))
    obtain rfl := Option.some.inj h
    exact ⟨_, _, rfl, ⟨rfl, rfl⟩, hw⟩
set_option maxRecDepth 100000 in
set_option maxHeartbeats 8000000 in
theorem w44_quirref_SameLocks_1 (a0 : TLockItem) (a1 : TLockItem) (u0_0 : Value) (u0_1 : Value) (u1_2 : Value) (u1_3 : Value) (w : World) (r : Bool) (h : m44_quirref_SameLocks_1 a0 a1 = some r) (hA0_0 : At w u0_0 2 (a0.Held.map TLock.row)) (hA0_1 : At w u0_1 2 (a0.Queue.map TLock.row)) (hA1_2 : At w u1_2 2 (a1.Held.map TLock.row)) (hA1_3 : At w u1_3 2 (a1.Queue.map TLock.row)) : Does Try.prog 44 [.agg #[.int .i64 a0.Item, u0_0, u0_1], .agg #[.int .i64 a1.Item, u1_2, u1_3]] w fun u m => u = .bool r ∧ m = [] := by
  rw [m44_quirref_SameLocks_1] at h
  refine body (n := 24) Try.func44 rfl rfl rfl (Cls.refl w) ?_
  refine W.seq (W.region (L.box rfl rfl ?_))
  intro b1
  refine L.box rfl rfl ?_
  intro b2
  refine L.y rfl (Y.assign rfl) ?_
  refine L.nil (E.thenN (W.seq (W.region (L.cutJ 12 (fun gs D => ∃ (gb1 : Bool), gs = [(2, pt b1 0), (3, pt b2 0), (16, .bool gb1)] ∧ D = Cls w [] [.obj b2 [.int .i64 a1.Item, u1_2, u1_3] 50, .obj b1 [.int .i64 a0.Item, u0_0, u0_1] 50] ∧ m44_quirref_SameLocks_1_K1 a0 a1 gb1 = some r) ?_ ?_))))
  ·
   refine L.y rfl (Y.fieldP fd50_0 rfl) ?_
   refine L.y rfl (Y.loadP (i := 1) ag3 rfl rfl rfl) ?_
   refine L.y rfl (Y.fieldP fd50_0 rfl) ?_
   refine L.y rfl (Y.loadP (i := 0) ag3 rfl rfl rfl) ?_
   refine L.ite h rfl (Y.eql rfl rfl) (fun c5 h => ?_) (fun c5 h => ?_)
   ·
    refine L.y rfl (Y.move rfl) ?_
    refine L.take rfl (L.y rfl (Y.fieldP fd50_1 rfl) ?_)
    refine L.take rfl (L.y rfl (Y.loadP (i := 1) ag48 rfl rfl rfl) ?_)
    refine L.take rfl (L.y rfl (Y.fieldP fd50_1 rfl) ?_)
    refine L.take rfl (L.y rfl (Y.loadP (i := 0) ag48 rfl rfl rfl) ?_)
    refine L.take rfl ?_
    obtain ⟨b6, e7, h⟩ := bind1S h
    refine L.y rfl (Y.does en45 rfl (fun w' hw => (w45_api_Lock a0.Held a1.Held u0_0 u1_2 w' _ e7 (hA0_0.cls0 hw) (hA1_2.cls0 hw)).mono (fun _ _ h => h.1))) ?_
    rcases b6 with _ | _
    ·
     replace h := iteF h
     refine L.y rfl (Y.pickT rfl rfl) ?_
     exact L.nil (E.joinJ ⟨false, rfl, rfl, h⟩ ⟨rfl, rfl, rfl, trivial⟩ (fun _ hw => hw))
    ·
     replace h := iteT h
     refine L.y rfl (Y.pickT rfl rfl) ?_
     exact L.nil (E.joinJ ⟨true, rfl, rfl, h⟩ ⟨rfl, rfl, rfl, trivial⟩ (fun _ hw => hw))
   ·
    refine L.y rfl (Y.move rfl) ?_
    refine L.pass rfl rfl (by nofun) ?_
    refine L.pass rfl rfl (by nofun) ?_
    refine L.pass rfl rfl (by nofun) ?_
    refine L.pass rfl rfl (by nofun) ?_
    refine L.pass rfl rfl (by nofun) ?_
    refine L.y rfl (Y.pickF rfl rfl) ?_
    exact L.nil (E.joinJ ⟨false, rfl, rfl, h⟩ ⟨rfl, rfl, rfl, trivial⟩ (fun _ hw => hw))
  ·
   rintro _ _ ⟨gb1, rfl, rfl, h⟩
   rw [m44_quirref_SameLocks_1_K1] at h
   rcases gb1 with _ | _
   ·
    replace h := iteF h
    refine L.y rfl (Y.move rfl) ?_
    refine L.pass rfl rfl (by nofun) ?_
    refine L.pass rfl rfl (by nofun) ?_
    refine L.pass rfl rfl (by nofun) ?_
    refine L.pass rfl rfl (by nofun) ?_
    refine L.pass rfl rfl (by nofun) ?_
    refine L.y rfl (Y.pickF rfl rfl) ?_
    refine L.y rfl (Y.assign rfl) ?_
    refine L.nil (E.thenN (W.ret (E.ret1 rfl rfl (fun w1 hw => ?_))))
    obtain rfl := Option.some.inj h
    exact ⟨_, _, rfl, ⟨rfl, rfl⟩, hw.sel [] (by decide) rfl⟩
   ·
    replace h := iteT h
    refine L.y rfl (Y.move rfl) ?_
    refine L.take rfl (L.y rfl (Y.fieldP fd50_2 rfl) ?_)
    refine L.take rfl (L.y rfl (Y.loadP (i := 1) ag48 rfl rfl rfl) ?_)
    refine L.take rfl (L.y rfl (Y.fieldP fd50_2 rfl) ?_)
    refine L.take rfl (L.y rfl (Y.loadP (i := 0) ag48 rfl rfl rfl) ?_)
    refine L.take rfl ?_
    obtain ⟨b3, e4, h⟩ := bind1S h
    refine L.y rfl (Y.does en45 rfl (fun w' hw => (w45_api_Lock a0.Queue a1.Queue u0_1 u1_3 w' _ e4 (hA0_1.cls0 hw) (hA1_3.cls0 hw)).mono (fun _ _ h => h.1))) ?_
    refine L.y rfl (Y.pickT rfl rfl) ?_
    refine L.y rfl (Y.assign rfl) ?_
    refine L.nil (E.thenN (W.ret (E.ret1 rfl rfl (fun w1 hw => ?_))))
    obtain rfl := Option.some.inj h
    exact ⟨_, _, rfl, ⟨rfl, rfl⟩, hw.sel [] (by decide) rfl⟩
set_option maxRecDepth 100000 in
set_option maxHeartbeats 8000000 in
theorem w13_quirref_SameLocks (a0 : (List TLockItem)) (a1 : (List TLockItem)) (u0 : Value) (q0 : Nat → List Value) (u1 : Value) (q1 : Nat → List Value) (w : World) (r : Bool) (h : m13_quirref_SameLocks a0 a1 = some r) (hA0 : At w u0 3 (zr TLockItem.rowv q0 a0)) (hD0 : ∀ d ∈ zs TLockItem.sds q0 a0, At w d.v d.k d.rows) (hA1 : At w u1 3 (zr TLockItem.rowv q1 a1)) (hD1 : ∀ d ∈ zs TLockItem.sds q1 a1, At w d.v d.k d.rows) : Does Try.prog 13 [u0, u1] w fun u m => u = .bool r ∧ m = [] := by
  rw [m13_quirref_SameLocks] at h
  refine body (n := 8) Try.func13 rfl rfl rfl (Cls.refl w) ?_
  refine W.seq (W.region (L.y rfl (Y.assign rfl) ?_))
  refine L.nil (E.thenN (W.seq (W.region (L.y rfl (Y.move rfl) ?_))))
  refine L.y rfl (Y.move rfl) ?_
  refine L.callJ (fun v D => ∃ (gb1 : Bool), v = .bool gb1 ∧ D = Cls w [] [] ∧ m13_quirref_SameLocks_K1 gb1 = some r) rfl en43 rfl Try.func43 rfl rfl rfl ?_ ?_
  ·
   refine W.seq (W.region (L.y rfl (Y.assign rfl) ?_))
   refine L.nil (E.thenN (W.seqJ (fun gs D => gs = [(0, u0), (1, u1), (2, .func (.func 44) #[] #[])] ∧ D = Cls w [] [] ∧ m13_quirref_SameLocks_K2 a0 a1 = some r) ?_ ?_))
   ·
    refine W.seq (W.region (L.y rfl (Y.move rfl) ?_))
    refine L.y rfl (Y.lenMZ (row := TLockItem.rowv) (vs := q0) (l := a0) Try.underlying23 rfl (fun w' hw => hA0.cls0 hw)) ?_
    refine L.y rfl (Y.move rfl) ?_
    refine L.y rfl (Y.lenMZ (row := TLockItem.rowv) (vs := q1) (l := a1) Try.underlying23 rfl (fun w' hw => hA1.cls0 hw)) ?_
    refine L.ite h rfl (Y.neq rfl rfl) (fun c14 h => ?_) (fun c14 h => ?_)
    ·
     refine L.nil (E.thenN (W.condT rfl ?_))
     refine W.seq (W.region (L.y rfl (Y.assign rfl) ?_))
     refine L.nil (E.thenN (W.ret (E.KSR (E.ret1 rfl rfl (fun w1 hw => ?_)))))
     exact ⟨_, _, rfl, ⟨false, rfl, rfl, h⟩, hw⟩
    ·
     refine L.nil (E.thenN (W.condF rfl ?_))
     exact W.skip (E.joinJ ⟨rfl, rfl, h⟩ ⟨rfl, rfl, rfl, trivial⟩ (fun _ hw => hw))
   ·
    rintro _ _ ⟨rfl, rfl, h⟩
    rw [m13_quirref_SameLocks_K2] at h
    refine W.seqJ (fun gs D => gs = [] ∧ D = Cls w [] [] ∧ m13_quirref_SameLocks_K3 = some r) ?_ ?_
    ·
     refine W.seq (W.region (L.y rfl (Y.move rfl) ?_))
     refine L.y rfl (Y.lenMZ (row := TLockItem.rowv) (vs := q0) (l := a0) Try.underlying23 rfl (fun w' hw => hA0.cls0 hw)) ?_
     refine L.y rfl (Y.move rfl) ?_
     refine L.nil (E.thenN (W.block (W.loopJ (fun m gs D => ∃ (gx2 : Int), gs = [(1, u1), (2, .func (.func 44) #[] #[]), (15, u0), (16, .int .i64 (a0.length : Int)), (17, .int .i64 gx2)] ∧ D = Cls w [] [] ∧ m13_quirref_SameLocks_L1 a0 a1 m gx2 = some r) ⟨0, rfl, rfl, h⟩ ⟨rfl, rfl, rfl, rfl, rfl, trivial⟩ (fun _ hw => hw) ?_)))
     rintro m _ _ ⟨gx2, rfl, rfl, h⟩
     rcases m with _ | m
     · rw [m13_quirref_SameLocks_L1] at h; cases h
     rw [m13_quirref_SameLocks_L1] at h
     generalize hg1 : m13_quirref_SameLocks_L1 a0 a1 m = go1 at h
     rw [m13_quirref_SameLocks_L1B] at h
     refine W.seq (W.region (L.ite h rfl (Y.lss rfl rfl) (fun c1 h => ?_) (fun c1 h => ?_)))
     ·
      refine L.nil (E.thenN (W.seq (W.condT rfl ?_)))
      refine W.skip (E.thenN (W.seq (W.block (W.seq (W.region (L.y rfl (Y.move rfl) ?_))))))
      refine L.m (V := fun _ => el u0 (gx2.toNat * 3)) h rfl (Y.indexMZ (row := TLockItem.rowv) (vs := q0) (l := a0) Try.underlying23 sz50 rfl rfl (fun w' hw => hA0.cls0 hw)) (fun x2 ex2 h => ?_)
      refine L.y rfl (Y.loadEN (r := [.int .i64 x2.Item, gv (q0 gx2.toNat) 0, gv (q0 gx2.toNat) 1]) ag50 sz50 rfl (fun w' hw => hA0.cls0 hw) (zr_idx (vs := q0) ex2) rfl) ?_
      refine L.alloc rfl ze50 ?_
      intro b3
      refine L.y rfl (Y.assign rfl) ?_
      refine L.storeC (i := 0) sz50 rfl rfl rfl rfl (fun w hw => (all1 rfl (all1 ((zAt (sds := TLockItem.sds) (vs := q0) (j := 0) (c := 2) hD0 (fun _ _ => rfl) ex2 rfl).cls0 hw).one (all1 ((zAt (sds := TLockItem.sds) (vs := q0) (j := 1) (c := 2) hD0 (fun _ _ => rfl) ex2 rfl).cls0 hw).one all0)))) rfl (Nat.le_of_ble_eq_true rfl) ?_
      refine L.nil (E.thenN (W.seq (W.region (L.y rfl (Y.move rfl) ?_))))
      refine L.y rfl (Y.move rfl) ?_
      refine L.m (V := fun _ => el u1 (gx2.toNat * 3)) h rfl (Y.indexMZ (row := TLockItem.rowv) (vs := q1) (l := a1) Try.underlying23 sz50 rfl rfl (fun w' hw => hA1.cls0 hw)) (fun x4 ex4 h => ?_)
      refine L.y rfl (Y.loadEN (r := [.int .i64 x4.Item, gv (q1 gx2.toNat) 0, gv (q1 gx2.toNat) 1]) ag50 sz50 rfl (fun w' hw => hA1.cls0 hw) (zr_idx (vs := q1) ex4) rfl) ?_
      refine L.alloc rfl ze50 ?_
      intro b5
      refine L.storeC (i := 0) sz50 rfl rfl rfl rfl (fun w hw => (all1 rfl (all1 ((zAt (sds := TLockItem.sds) (vs := q1) (j := 0) (c := 2) hD1 (fun _ _ => rfl) ex4 rfl).cls0 hw).one (all1 ((zAt (sds := TLockItem.sds) (vs := q1) (j := 1) (c := 2) hD1 (fun _ _ => rfl) ex4 rfl).cls0 hw).one all0)))) rfl (Nat.le_of_ble_eq_true rfl) ?_
      refine L.nil (E.thenN (W.seq (W.region (L.y rfl (Y.move rfl) ?_))))
      refine L.y rfl (Y.loadPW (i := 1) ag50 sz50 rfl rfl rfl) ?_
      refine L.y rfl (Y.loadPW (i := 0) ag50 sz50 rfl rfl rfl) ?_
      refine L.callVJ (fun v D => ∃ (gb3 : Bool), v = .bool gb3 ∧ D = Cls w [] [] ∧ m13_quirref_SameLocks_K4 gx2 go1 gb3 = some r) rfl en44 rfl rfl Try.func44 rfl rfl rfl ?_ ?_
      ·
       refine W.seq (W.region (L.box rfl rfl ?_))
       intro b7
       refine L.box rfl rfl ?_
       intro b8
       refine L.y rfl (Y.assign rfl) ?_
       refine L.nil (E.thenN (W.seq (W.region (L.cutJ 12 (fun gs D => ∃ (gb4 : Bool), gs = [(2, pt b7 0), (3, pt b8 0), (16, .bool gb4)] ∧ D = Cls w [] [.obj b8 [.int .i64 x4.Item, gv (q1 gx2.toNat) 0, gv (q1 gx2.toNat) 1] 50, .obj b7 [.int .i64 x2.Item, gv (q0 gx2.toNat) 0, gv (q0 gx2.toNat) 1] 50] ∧ m13_quirref_SameLocks_K5 x2 x4 gx2 go1 gb4 = some r) ?_ ?_))))
       ·
        refine L.y rfl (Y.fieldP fd50_0 rfl) ?_
        refine L.y rfl (Y.loadP (i := 1) ag3 rfl rfl rfl) ?_
        refine L.y rfl (Y.fieldP fd50_0 rfl) ?_
        refine L.y rfl (Y.loadP (i := 0) ag3 rfl rfl rfl) ?_
        refine L.ite h rfl (Y.eql rfl rfl) (fun c11 h => ?_) (fun c11 h => ?_)
        ·
         refine L.y rfl (Y.move rfl) ?_
         refine L.take rfl (L.y rfl (Y.fieldP fd50_1 rfl) ?_)
         refine L.take rfl (L.y rfl (Y.loadP (i := 1) ag48 rfl rfl rfl) ?_)
         refine L.take rfl (L.y rfl (Y.fieldP fd50_1 rfl) ?_)
         refine L.take rfl (L.y rfl (Y.loadP (i := 0) ag48 rfl rfl rfl) ?_)
         refine L.take rfl ?_
         obtain ⟨b12, e13, h⟩ := bind1S h
         refine L.y rfl (Y.does en45 rfl (fun w' hw => (w45_api_Lock x2.Held x4.Held (gv (q0 gx2.toNat) 0) (gv (q1 gx2.toNat) 0) w' _ e13 ((zAt (sds := TLockItem.sds) (vs := q0) (j := 0) (c := 2) hD0 (fun _ _ => rfl) ex2 rfl).cls0 hw) ((zAt (sds := TLockItem.sds) (vs := q1) (j := 0) (c := 2) hD1 (fun _ _ => rfl) ex4 rfl).cls0 hw)).mono (fun _ _ h => h.1))) ?_
         rcases b12 with _ | _
         ·
          replace h := iteF h
          refine L.y rfl (Y.pickT rfl rfl) ?_
          exact L.nil (E.joinJ ⟨false, rfl, rfl, h⟩ ⟨rfl, rfl, rfl, trivial⟩ (fun _ hw => hw.sel [0, 1] (by decide) rfl))
         ·
          replace h := iteT h
          refine L.y rfl (Y.pickT rfl rfl) ?_
          exact L.nil (E.joinJ ⟨true, rfl, rfl, h⟩ ⟨rfl, rfl, rfl, trivial⟩ (fun _ hw => hw.sel [0, 1] (by decide) rfl))
        ·
         refine L.y rfl (Y.move rfl) ?_
         refine L.pass rfl rfl (by nofun) ?_
         refine L.pass rfl rfl (by nofun) ?_
         refine L.pass rfl rfl (by nofun) ?_
         refine L.pass rfl rfl (by nofun) ?_
         refine L.pass rfl rfl (by nofun) ?_
         refine L.y rfl (Y.pickF rfl rfl) ?_
         exact L.nil (E.joinJ ⟨false, rfl, rfl, h⟩ ⟨rfl, rfl, rfl, trivial⟩ (fun _ hw => hw.sel [0, 1] (by decide) rfl))
       ·
        rintro _ _ ⟨gb4, rfl, rfl, h⟩
        rw [m13_quirref_SameLocks_K5] at h
        rcases gb4 with _ | _
        ·
         replace h := iteF h
         refine L.y rfl (Y.move rfl) ?_
         refine L.pass rfl rfl (by nofun) ?_
         refine L.pass rfl rfl (by nofun) ?_
         refine L.pass rfl rfl (by nofun) ?_
         refine L.pass rfl rfl (by nofun) ?_
         refine L.pass rfl rfl (by nofun) ?_
         refine L.y rfl (Y.pickF rfl rfl) ?_
         refine L.y rfl (Y.assign rfl) ?_
         refine L.nil (E.thenN (W.ret (E.ret1 rfl rfl (fun w1 hw => ?_))))
         exact ⟨_, _, rfl, ⟨false, rfl, rfl, h⟩, hw.sel [] (by decide) rfl⟩
        ·
         replace h := iteT h
         refine L.y rfl (Y.move rfl) ?_
         refine L.take rfl (L.y rfl (Y.fieldP fd50_2 rfl) ?_)
         refine L.take rfl (L.y rfl (Y.loadP (i := 1) ag48 rfl rfl rfl) ?_)
         refine L.take rfl (L.y rfl (Y.fieldP fd50_2 rfl) ?_)
         refine L.take rfl (L.y rfl (Y.loadP (i := 0) ag48 rfl rfl rfl) ?_)
         refine L.take rfl ?_
         obtain ⟨b9, e10, h⟩ := bind1S h
         refine L.y rfl (Y.does en45 rfl (fun w' hw => (w45_api_Lock x2.Queue x4.Queue (gv (q0 gx2.toNat) 1) (gv (q1 gx2.toNat) 1) w' _ e10 ((zAt (sds := TLockItem.sds) (vs := q0) (j := 1) (c := 2) hD0 (fun _ _ => rfl) ex2 rfl).cls0 hw) ((zAt (sds := TLockItem.sds) (vs := q1) (j := 1) (c := 2) hD1 (fun _ _ => rfl) ex4 rfl).cls0 hw)).mono (fun _ _ h => h.1))) ?_
         refine L.y rfl (Y.pickT rfl rfl) ?_
         refine L.y rfl (Y.assign rfl) ?_
         refine L.nil (E.thenN (W.ret (E.ret1 rfl rfl (fun w1 hw => ?_))))
         exact ⟨_, _, rfl, ⟨b9, rfl, rfl, h⟩, hw.sel [] (by decide) rfl⟩
      ·
       rintro _ _ ⟨gb3, rfl, rfl, h⟩
       rw [m13_quirref_SameLocks_K4] at h
       rcases gb3 with _ | _
       ·
        replace h := iteF h
        refine L.y rfl (Y.not rfl) ?_
        refine L.nil (E.thenN (W.condT rfl ?_))
        refine W.seq (W.region (L.y rfl (Y.assign rfl) ?_))
        refine L.nil (E.thenN (W.ret (E.blockR (E.thenR (E.KLR (E.blockR (E.KSR (E.ret1 rfl rfl (fun w1 hw => ?_)))))))))
        exact ⟨_, _, rfl, ⟨false, rfl, rfl, h⟩, hw⟩
       ·
        replace h := iteT h
        refine L.y rfl (Y.not rfl) ?_
        refine L.nil (E.thenN (W.condF rfl ?_))
        refine W.skip (E.blockN (E.thenN (W.region (L.m (V := fun x6 => .int .i64 x6) h rfl (Y.addM rfl rfl) (fun x6 ex6 h => ?_)))))
        refine L.y rfl (Y.move rfl) ?_
        exact L.nil (E.againJ ⟨x6, rfl, rfl, by rw [hg1]; exact h⟩ (Nat.lt_succ_self _) ⟨rfl, rfl, rfl, rfl, rfl, trivial⟩ (fun _ hw => hw))
     ·
      refine L.nil (E.thenN (W.seq (W.condF rfl ?_)))
      exact W.exit (E.thenX (E.KLX (E.blockX (E.joinJ ⟨rfl, rfl, h⟩ trivial (fun _ hw => hw)))))
    ·
     rintro _ _ ⟨rfl, rfl, h⟩
     rw [m13_quirref_SameLocks_K3] at h
     refine W.seq (W.region (L.y rfl (Y.assign rfl) ?_))
     refine L.nil (E.thenN (W.ret (E.ret1 rfl rfl (fun w1 hw => ?_))))
     exact ⟨_, _, rfl, ⟨true, rfl, rfl, h⟩, hw⟩
  ·
   rintro _ _ ⟨gb1, rfl, rfl, h⟩
   rw [m13_quirref_SameLocks_K1] at h
   refine L.y rfl (Y.assign rfl) ?_
   refine L.nil (E.thenN (W.ret (E.ret1 rfl rfl (fun w1 hw => ?_))))
   obtain rfl := Option.some.inj h
   exact ⟨_, _, rfl, ⟨rfl, rfl⟩, hw⟩
set_option maxRecDepth 100000 in
set_option maxHeartbeats 8000000 in
theorem w14_slices_Equal_int (a0 : (List Int)) (a1 : (List Int)) (u0 : Value) (u1 : Value) (w : World) (r : Bool) (h : m14_slices_Equal_int a0 a1 = some r) (hA0 : At w u0 1 (a0.map I)) (hA1 : At w u1 1 (a1.map I)) : Does Try.prog 14 [u0, u1] w fun u m => u = .bool r ∧ m = [] := by
  rw [m14_slices_Equal_int] at h
  refine body (n := 26) Try.func14 rfl rfl rfl (Cls.refl w) ?_
  refine W.seq (W.region (L.y rfl (Y.assign rfl) ?_))
  refine L.nil (E.thenN (W.seqJ (fun gs D => gs = [(0, u0), (1, u1)] ∧ D = Cls w [] [] ∧ m14_slices_Equal_int_K1 a0 a1 = some r) ?_ ?_))
  ·
   refine W.seq (W.region (L.y rfl (Y.move rfl) ?_))
   refine L.y rfl (Y.lenM (g := I) (l := a0) Try.underlying28 rfl (fun w' hw => hA0.cls0 hw)) ?_
   refine L.y rfl (Y.move rfl) ?_
   refine L.y rfl (Y.lenM (g := I) (l := a1) Try.underlying28 rfl (fun w' hw => hA1.cls0 hw)) ?_
   refine L.ite h rfl (Y.neq rfl rfl) (fun c6 h => ?_) (fun c6 h => ?_)
   ·
    refine L.nil (E.thenN (W.condT rfl ?_))
    refine W.seq (W.region (L.y rfl (Y.assign rfl) ?_))
    refine L.nil (E.thenN (W.ret (E.KSR (E.ret1 rfl rfl (fun w1 hw => ?_)))))
    obtain rfl := Option.some.inj h
    exact ⟨_, _, rfl, ⟨rfl, rfl⟩, hw⟩
   ·
    refine L.nil (E.thenN (W.condF rfl ?_))
    exact W.skip (E.joinJ ⟨rfl, rfl, h⟩ ⟨rfl, rfl, trivial⟩ (fun _ hw => hw))
  ·
   rintro _ _ ⟨rfl, rfl, h⟩
   rw [m14_slices_Equal_int_K1] at h
   refine W.seqJ (fun gs D => gs = [] ∧ D = Cls w [] [] ∧ m14_slices_Equal_int_K2 = some r) ?_ ?_
   ·
    refine W.seq (W.region (L.y rfl (Y.move rfl) ?_))
    refine L.y rfl (Y.lenM (g := I) (l := a0) Try.underlying28 rfl (fun w' hw => hA0.cls0 hw)) ?_
    refine L.y rfl (Y.move rfl) ?_
    refine L.nil (E.thenN (W.block (W.loopJ (fun m gs D => ∃ (gx1 : Int), gs = [(0, u0), (1, u1), (12, .int .i64 (a0.length : Int)), (13, .int .i64 gx1)] ∧ D = Cls w [] [] ∧ m14_slices_Equal_int_L1 a0 a1 m gx1 = some r) ⟨0, rfl, rfl, h⟩ ⟨rfl, rfl, rfl, rfl, trivial⟩ (fun _ hw => hw) ?_)))
    rintro m _ _ ⟨gx1, rfl, rfl, h⟩
    rcases m with _ | m
    · rw [m14_slices_Equal_int_L1] at h; cases h
    rw [m14_slices_Equal_int_L1] at h
    generalize hg1 : m14_slices_Equal_int_L1 a0 a1 m = go1 at h
    rw [m14_slices_Equal_int_L1B] at h
    refine W.seq (W.region (L.ite h rfl (Y.lss rfl rfl) (fun c1 h => ?_) (fun c1 h => ?_)))
    ·
     refine L.nil (E.thenN (W.seq (W.condT rfl ?_)))
     refine W.skip (E.thenN (W.seq (W.block (W.seq (W.region (L.y rfl (Y.move rfl) ?_))))))
     refine L.y rfl (Y.assign rfl) ?_
     refine L.nil (E.thenN (W.seq (W.quietC mixed (by kernel_rfl) (fun _ hw => hw.drew) (fun hC => ?_))))
     refine U.y rfl (Y.move rfl) ?_
     refine U.y rfl (Y.move rfl) ?_
     refine U.m (V := fun _ => el u0 (gx1.toNat * 1)) h rfl (Y.indexM (g := I) (l := a0) Try.underlying28 sz3 rfl rfl (fun w' hw => hA0.cls0 hw)) (fun x2 ex2 h => ?_)
     refine U.y rfl (Y.loadE1 (u := .int .i64 x2) ag3 rfl (fun w' hw => hA0.cls0 hw) (idx_map ex2)) ?_
     refine U.y rfl (Y.move rfl) ?_
     refine U.y rfl (Y.move rfl) ?_
     refine U.m (V := fun _ => el u1 (gx1.toNat * 1)) h rfl (Y.indexM (g := I) (l := a1) Try.underlying28 sz3 rfl rfl (fun w' hw => hA1.cls0 hw)) (fun x3 ex3 h => ?_)
     refine U.y rfl (Y.loadE1 (u := .int .i64 x3) ag3 rfl (fun w' hw => hA1.cls0 hw) (idx_map ex3)) ?_
     refine U.ite h rfl (Y.neq rfl rfl) (fun c4 h => ?_) (fun c4 h => ?_)
     ·
      refine U.nil (E.thenN (W.condT rfl ?_))
      refine W.seq (W.region (L.y rfl (Y.assign rfl) ?_))
      refine L.nil (E.thenN (W.ret (E.blockR (E.thenR (E.KLR (E.blockR (E.KSR (E.ret1 rfl rfl (fun w1 hw => ?_)))))))))
      obtain rfl := Option.some.inj h
      exact ⟨_, _, rfl, ⟨rfl, rfl⟩, hw⟩
     ·
      refine U.nil (E.thenN (W.condF rfl ?_))
      refine W.skip (E.blockN (E.thenN (W.region (L.m (V := fun x5 => .int .i64 x5) h rfl (Y.addM rfl rfl) (fun x5 ex5 h => ?_)))))
      refine L.y rfl (Y.move rfl) ?_
      exact L.nil (E.againJ ⟨x5, rfl, rfl, by rw [hg1]; exact h⟩ (Nat.lt_succ_self _) ⟨rfl, rfl, rfl, rfl, trivial⟩ (fun _ hw => hw))
    ·
     refine L.nil (E.thenN (W.seq (W.condF rfl ?_)))
     exact W.exit (E.thenX (E.KLX (E.blockX (E.joinJ ⟨rfl, rfl, h⟩ trivial (fun _ hw => hw)))))
   ·
    rintro _ _ ⟨rfl, rfl, h⟩
    rw [m14_slices_Equal_int_K2] at h
    refine W.seq (W.region (L.y rfl (Y.assign rfl) ?_))
    refine L.nil (E.thenN (W.ret (E.ret1 rfl rfl (fun w1 hw => ?_))))
    obtain rfl := Option.some.inj h
    exact ⟨_, _, rfl, ⟨rfl, rfl⟩, hw⟩
set_option maxRecDepth 100000 in
set_option maxHeartbeats 8000000 in
theorem w16_quirref_Rest (a0 : Int) (a1 : Int) (w : World) (r : Int) (h : m16_quirref_Rest a0 a1 = some r) : Does Try.prog 16 [.int .i64 a0, .int .i64 a1] w fun u m => u = .int .i64 r ∧ m = [] := by
  rw [m16_quirref_Rest] at h
  refine body (n := 14) Try.func16 rfl rfl rfl (Cls.refl w) ?_
  refine W.seq (W.region (L.y rfl (Y.assign rfl) ?_))
  refine L.nil (E.thenN (W.seq (W.seq (W.region (L.y rfl (Y.move rfl) ?_)))))
  refine L.ite h rfl (Y.leq rfl rfl) (fun c1 h => ?_) (fun c1 h => ?_)
  ·
   refine L.nil (E.thenN (W.condT rfl ?_))
   refine W.seq (W.region (L.y rfl (Y.assign rfl) ?_))
   refine L.nil (E.thenN (W.ret (E.thenR (E.ret1 rfl rfl (fun w1 hw => ?_)))))
   obtain rfl := Option.some.inj h
   exact ⟨_, _, rfl, ⟨rfl, rfl⟩, hw⟩
  ·
   refine L.nil (E.thenN (W.condF rfl ?_))
   refine W.skip (E.thenN (W.seq (W.region (L.y rfl (Y.move rfl) ?_))))
   refine L.y rfl (Y.move rfl) ?_
   refine L.m (V := fun x2 => .int .i64 x2) h rfl (Y.remM rfl rfl) (fun x2 ex2 h => ?_)
   refine L.y rfl (Y.move rfl) ?_
   refine L.m (V := fun x3 => .int .i64 x3) h rfl (Y.addM rfl rfl) (fun x3 ex3 h => ?_)
   refine L.y rfl (Y.move rfl) ?_
   refine L.m (V := fun x4 => .int .i64 x4) h rfl (Y.remM rfl rfl) (fun x4 ex4 h => ?_)
   refine L.y rfl (Y.assign rfl) ?_
   refine L.nil (E.thenN (W.ret (E.ret1 rfl rfl (fun w1 hw => ?_))))
   obtain rfl := Option.some.inj h
   exact ⟨_, _, rfl, ⟨rfl, rfl⟩, hw⟩
set_option maxRecDepth 100000 in
set_option maxHeartbeats 8000000 in
theorem w23_lock_Ask_2 (a0 : TLockItem) (a1 : Int) (u0_0 : Value) (u0_1 : Value) (w : World) (r : Int) (h : m23_lock_Ask_2 a0 a1 = some r) (hA0_0 : At w u0_0 2 (a0.Held.map TLock.row)) (hA0_1 : At w u0_1 2 (a0.Queue.map TLock.row)) : Does Try.prog 23 [.agg #[.int .i64 a0.Item, u0_0, u0_1], .int .i64 a1] w fun u m => u = .int .i64 r ∧ m = [] := by
  rw [m23_lock_Ask_2] at h
  refine body (n := 9) Try.func23 rfl rfl rfl (Cls.refl w) ?_
  refine W.seq (W.region (L.box rfl rfl ?_))
  intro b1
  refine L.y rfl (Y.assign rfl) ?_
  refine L.nil (E.thenN (W.seq (W.region (L.y rfl (Y.fieldP fd50_0 rfl) ?_))))
  refine L.y rfl (Y.loadP (i := 0) ag3 rfl rfl rfl) ?_
  refine L.y rfl (Y.move rfl) ?_
  refine L.m (V := fun x2 => .int .i64 x2) h rfl (Y.subM rfl rfl) (fun x2 ex2 h => ?_)
  refine L.y rfl (Y.assign rfl) ?_
  refine L.nil (E.thenN (W.ret (E.ret1 rfl rfl (fun w1 hw => ?_))))
  obtain rfl := Option.some.inj h
  exact ⟨_, _, rfl, ⟨rfl, rfl⟩, hw.sel [] (by decide) rfl⟩
set_option maxRecDepth 100000 in
set_option maxHeartbeats 8000000 in
theorem w6_lock_Ask (a0 : (List TLockItem)) (a1 : Int) (a2 : Int) (a3 : Int) (u0 : Value) (q0 : Nat → List Value) (K : World → Prop) (w : World) (hK : Stb K w) (r : ((List TLockItem) × Bool × Int)) (h : m6_lock_Ask a0 a1 a2 a3 = some r) (hA0 : Fz K [] u0 3 (zr TLockItem.rowv q0 a0)) (hD0 : FzA K [] (zs TLockItem.sds q0 a0)) : Does Try.prog 6 [u0, .int .i64 a1, .int .i64 a2, .int .i64 a3] w fun u m => ∃ c, m = [.os c] ∧ ∃ v0 q0, u = .tuple #[v0, .bool r.2.1, .int .i64 r.2.2] ∧ Fz K c v0 3 (zr TLockItem.rowv q0 r.1) ∧ FzA K c (zs TLockItem.sds q0 r.1) := by
  rw [m6_lock_Ask] at h
  refine body (n := 154) Try.func6 rfl rfl rfl (Cls.reflF w) ?_
  refine W.seq (W.region (L.box rfl rfl ?_))
  intro b1
  refine L.y rfl (Y.assign rfl) ?_
  refine L.y rfl (Y.assign rfl) ?_
  refine L.y rfl (Y.assign rfl) ?_
  refine L.nil (E.thenN (W.seqJ (fun gs D => gs = [(0, u0), (2, .int .i64 a2), (3, .int .i64 a3), (5, pt b1 0)] ∧ D = Cls w [] [.obj b1 [.int .i64 a1] 3, .os []] ∧ m6_lock_Ask_K1 a1 a2 a3 a0 = some r) ?_ ?_))
  ·
   refine W.seq (W.region (L.y rfl (Y.move rfl) ?_))
   obtain ⟨x225, e226, h⟩ := bind1S h
   refine L.y rfl (Y.does en9 rfl (fun w' hw => (w9_lock_Check a0 u0 q0 w' _ e226 (hA0.up.clsF hK hw rfl) (hD0.up.clsF hK hw rfl)).mono (fun _ _ h => h.1))) ?_
   refine L.y rfl (Y.assign rfl) ?_
   refine L.nil (E.thenN (W.seq (W.region (L.y rfl (Y.move rfl) ?_))))
   refine L.ite h rfl (Y.neq rfl rfl) (fun c227 h => ?_) (fun c227 h => ?_)
   ·
    refine L.nil (E.thenN (W.condT rfl ?_))
    refine W.seq (W.region (L.y rfl (Y.move rfl) ?_))
    refine L.y rfl (Y.assign rfl) ?_
    refine L.y rfl (Y.assign rfl) ?_
    refine L.y rfl (Y.assign rfl) ?_
    refine L.nil (E.thenN (W.ret (E.KSR (E.ret3 rfl rfl rfl rfl (fun w1 hw => ?_)))))
    obtain rfl := Option.some.inj h
    exact ⟨_, _, rfl, ⟨[], rfl, (.slice none 0 0), (fun _ => []), rfl, Fz.nil, FzA.nil⟩, hw.sel [1] (by decide) rfl⟩
   ·
    refine L.nil (E.thenN (W.condF rfl ?_))
    exact W.skip (E.joinJ ⟨rfl, rfl, h⟩ ⟨rfl, rfl, rfl, rfl, trivial⟩ (fun _ hw => hw))
  ·
   rintro _ _ ⟨rfl, rfl, h⟩
   rw [m6_lock_Ask_K1] at h
   refine W.seqJ (fun gs D => gs = [(0, u0), (2, .int .i64 a2), (3, .int .i64 a3), (5, pt b1 0)] ∧ D = Cls w [] [.obj b1 [.int .i64 a1] 3, .os []] ∧ m6_lock_Ask_K2 a0 a1 a2 a3 = some r) ?_ ?_
   ·
    refine W.seq (W.region (L.cutJ 6 (fun gs D => ∃ (gb32 : Bool), gs = [(0, u0), (2, .int .i64 a2), (3, .int .i64 a3), (5, pt b1 0), (31, .bool gb32)] ∧ D = Cls w [] [.obj b1 [.int .i64 a1] 3, .os []] ∧ m6_lock_Ask_K32 a2 a3 a0 a1 gb32 = some r) ?_ ?_))
    ·
     refine L.y rfl (Y.loadP (i := 0) ag3 rfl rfl rfl) ?_
     refine L.ite h rfl (Y.lss rfl rfl) (fun c223 h => ?_) (fun c223 h => ?_)
     ·
      refine L.y rfl (Y.move rfl) ?_
      refine L.pass rfl rfl (by nofun) ?_
      refine L.pass rfl rfl (by nofun) ?_
      refine L.y rfl (Y.pickT rfl rfl) ?_
      exact L.nil (E.joinJ ⟨true, rfl, rfl, h⟩ ⟨rfl, rfl, rfl, rfl, rfl, trivial⟩ (fun _ hw => hw))
     ·
      refine L.y rfl (Y.move rfl) ?_
      refine L.take rfl (L.y rfl (Y.loadP (i := 0) ag3 rfl rfl rfl) ?_)
      refine L.take rfl (L.ite h rfl (Y.geq rfl rfl) (fun c224 h => ?_) (fun c224 h => ?_))
      ·
       refine L.y rfl (Y.pickF rfl rfl) ?_
       exact L.nil (E.joinJ ⟨true, rfl, rfl, h⟩ ⟨rfl, rfl, rfl, rfl, rfl, trivial⟩ (fun _ hw => hw))
      ·
       refine L.y rfl (Y.pickF rfl rfl) ?_
       exact L.nil (E.joinJ ⟨false, rfl, rfl, h⟩ ⟨rfl, rfl, rfl, rfl, rfl, trivial⟩ (fun _ hw => hw))
    ·
     rintro _ _ ⟨gb32, rfl, rfl, h⟩
     rw [m6_lock_Ask_K32] at h
     rcases gb32 with _ | _
     ·
      replace h := iteF h
      refine L.cutJ 8 (fun gs D => ∃ (gb33 : Bool), gs = [(0, u0), (2, .int .i64 a2), (3, .int .i64 a3), (5, pt b1 0), (39, .bool gb33)] ∧ D = Cls w [] [.obj b1 [.int .i64 a1] 3, .os []] ∧ m6_lock_Ask_K33 a3 a0 a1 a2 gb33 = some r) ?_ ?_
      ·
       refine L.y rfl (Y.move rfl) ?_
       refine L.take rfl (L.y rfl (Y.move rfl) ?_)
       refine L.take rfl (L.ite h rfl (Y.lss rfl rfl) (fun c221 h => ?_) (fun c221 h => ?_))
       ·
        refine L.y rfl (Y.pickF rfl rfl) ?_
        refine L.y rfl (Y.move rfl) ?_
        refine L.pass rfl rfl (by nofun) ?_
        refine L.pass rfl rfl (by nofun) ?_
        refine L.y rfl (Y.pickT rfl rfl) ?_
        exact L.nil (E.joinJ ⟨true, rfl, rfl, h⟩ ⟨rfl, rfl, rfl, rfl, rfl, trivial⟩ (fun _ hw => hw))
       ·
        refine L.y rfl (Y.pickF rfl rfl) ?_
        refine L.y rfl (Y.move rfl) ?_
        refine L.take rfl (L.y rfl (Y.move rfl) ?_)
        refine L.take rfl (L.ite h rfl (Y.geq rfl rfl) (fun c222 h => ?_) (fun c222 h => ?_))
        ·
         refine L.y rfl (Y.pickF rfl rfl) ?_
         exact L.nil (E.joinJ ⟨true, rfl, rfl, h⟩ ⟨rfl, rfl, rfl, rfl, rfl, trivial⟩ (fun _ hw => hw))
        ·
         refine L.y rfl (Y.pickF rfl rfl) ?_
         exact L.nil (E.joinJ ⟨false, rfl, rfl, h⟩ ⟨rfl, rfl, rfl, rfl, rfl, trivial⟩ (fun _ hw => hw))
      ·
       rintro _ _ ⟨gb33, rfl, rfl, h⟩
       rw [m6_lock_Ask_K33] at h
       rcases gb33 with _ | _
       ·
        replace h := iteF h
        refine L.y rfl (Y.move rfl) ?_
        refine L.take rfl (L.y rfl (Y.move rfl) ?_)
        refine L.take rfl ?_
        obtain ⟨b219, e220, h⟩ := bind1S h
        refine L.y rfl (Y.does en18 rfl (fun w' hw => (w18_lock_isMode a3 w' _ e220).mono (fun _ _ h => h.1))) ?_
        rcases b219 with _ | _
        ·
         replace h := iteF h
         refine L.take rfl (L.y rfl (Y.not rfl) ?_)
         refine L.y rfl (Y.pickF rfl rfl) ?_
         refine L.nil (E.thenN (W.condT rfl ?_))
         refine W.seq (W.region (L.y rfl (Y.assign rfl) ?_))
         refine L.y rfl (Y.assign rfl) ?_
         refine L.y rfl (Y.assign rfl) ?_
         refine L.nil (E.thenN (W.ret (E.KSR (E.ret3 rfl rfl rfl rfl (fun w1 hw => ?_)))))
         obtain rfl := Option.some.inj h
         exact ⟨_, _, rfl, ⟨[], rfl, (.slice none 0 0), (fun _ => []), rfl, Fz.nil, FzA.nil⟩, hw.sel [1] (by decide) rfl⟩
        ·
         replace h := iteT h
         refine L.take rfl (L.y rfl (Y.not rfl) ?_)
         refine L.y rfl (Y.pickF rfl rfl) ?_
         refine L.nil (E.thenN (W.condF rfl ?_))
         exact W.skip (E.joinJ ⟨rfl, rfl, h⟩ ⟨rfl, rfl, rfl, rfl, trivial⟩ (fun _ hw => hw))
       ·
        replace h := iteT h
        refine L.y rfl (Y.move rfl) ?_
        refine L.pass rfl rfl (by nofun) ?_
        refine L.pass rfl rfl (by nofun) ?_
        refine L.pass rfl rfl (by nofun) ?_
        refine L.y rfl (Y.pickT rfl rfl) ?_
        refine L.nil (E.thenN (W.condT rfl ?_))
        refine W.seq (W.region (L.y rfl (Y.assign rfl) ?_))
        refine L.y rfl (Y.assign rfl) ?_
        refine L.y rfl (Y.assign rfl) ?_
        refine L.nil (E.thenN (W.ret (E.KSR (E.ret3 rfl rfl rfl rfl (fun w1 hw => ?_)))))
        obtain rfl := Option.some.inj h
        exact ⟨_, _, rfl, ⟨[], rfl, (.slice none 0 0), (fun _ => []), rfl, Fz.nil, FzA.nil⟩, hw.sel [1] (by decide) rfl⟩
     ·
      replace h := iteT h
      refine L.y rfl (Y.move rfl) ?_
      refine L.pass rfl rfl (by nofun) ?_
      refine L.pass rfl rfl (by nofun) ?_
      refine L.y rfl (Y.pickT rfl rfl) ?_
      refine L.y rfl (Y.move rfl) ?_
      refine L.pass rfl rfl (by nofun) ?_
      refine L.pass rfl rfl (by nofun) ?_
      refine L.y rfl (Y.pickT rfl rfl) ?_
      refine L.y rfl (Y.move rfl) ?_
      refine L.pass rfl rfl (by nofun) ?_
      refine L.pass rfl rfl (by nofun) ?_
      refine L.pass rfl rfl (by nofun) ?_
      refine L.y rfl (Y.pickT rfl rfl) ?_
      refine L.nil (E.thenN (W.condT rfl ?_))
      refine W.seq (W.region (L.y rfl (Y.assign rfl) ?_))
      refine L.y rfl (Y.assign rfl) ?_
      refine L.y rfl (Y.assign rfl) ?_
      refine L.nil (E.thenN (W.ret (E.KSR (E.ret3 rfl rfl rfl rfl (fun w1 hw => ?_)))))
      obtain rfl := Option.some.inj h
      exact ⟨_, _, rfl, ⟨[], rfl, (.slice none 0 0), (fun _ => []), rfl, Fz.nil, FzA.nil⟩, hw.sel [1] (by decide) rfl⟩
   ·
    rintro _ _ ⟨rfl, rfl, h⟩
    rw [m6_lock_Ask_K2] at h
    refine W.seqJ (fun gs D => gs = [(0, u0), (2, .int .i64 a2), (3, .int .i64 a3), (5, pt b1 0)] ∧ D = Cls w [] [.obj b1 [.int .i64 a1] 3, .os []] ∧ m6_lock_Ask_K3 a0 a2 a1 a3 = some r) ?_ ?_
    ·
     refine W.seq (W.region (L.y rfl (Y.move rfl) ?_))
     refine L.y rfl (Y.lenMZ (row := TLockItem.rowv) (vs := q0) (l := a0) Try.underlying23 rfl (fun w' hw => (hA0.up.clsF hK hw rfl))) ?_
     refine L.y rfl (Y.move rfl) ?_
     refine L.nil (E.thenN (W.block (W.loopJ (fun m gs D => ∃ (gx28 : Int), gs = [(0, u0), (2, .int .i64 a2), (3, .int .i64 a3), (5, pt b1 0), (45, u0), (46, .int .i64 (a0.length : Int)), (47, .int .i64 gx28)] ∧ D = Cls w [] [.obj b1 [.int .i64 a1] 3, .os []] ∧ m6_lock_Ask_L7 a0 a1 a2 a3 m gx28 = some r) ⟨0, rfl, rfl, h⟩ ⟨rfl, rfl, rfl, rfl, rfl, rfl, rfl, trivial⟩ (fun _ hw => hw) ?_)))
     rintro m _ _ ⟨gx28, rfl, rfl, h⟩
     rcases m with _ | m
     · rw [m6_lock_Ask_L7] at h; cases h
     rw [m6_lock_Ask_L7] at h
     generalize hg7 : m6_lock_Ask_L7 a0 a1 a2 a3 m = go7 at h
     rw [m6_lock_Ask_L7B] at h
     refine W.seq (W.region (L.ite h rfl (Y.lss rfl rfl) (fun c211 h => ?_) (fun c211 h => ?_)))
     ·
      refine L.nil (E.thenN (W.seq (W.condT rfl ?_)))
      refine W.skip (E.thenN (W.seq (W.block (W.seq (W.region (L.m (V := fun _ => el u0 (gx28.toNat * 3)) h rfl (Y.indexMZ (row := TLockItem.rowv) (vs := q0) (l := a0) Try.underlying23 sz50 rfl rfl (fun w' hw => (hA0.up.clsF hK hw rfl))) (fun x212 ex212 h => ?_)))))))
      refine L.y rfl (Y.loadEN (r := [.int .i64 x212.Item, gv (q0 gx28.toNat) 0, gv (q0 gx28.toNat) 1]) ag50 sz50 rfl (fun w' hw => (hA0.up.clsF hK hw rfl)) (zr_idx (vs := q0) ex212) rfl) ?_
      refine L.alloc rfl ze50 ?_
      intro b213
      refine L.storeC (i := 0) sz50 rfl rfl rfl rfl (fun w hw => (all1 rfl (all1 (((FzA.at (sds := TLockItem.sds) (vs := q0) (j := 0) (nl := 2) hD0 (fun _ _ => rfl) ex212 rfl).up).clsF hK hw rfl).one (all1 (((FzA.at (sds := TLockItem.sds) (vs := q0) (j := 1) (nl := 2) hD0 (fun _ _ => rfl) ex212 rfl).up).clsF hK hw rfl).one all0)))) rfl (Nat.le_of_ble_eq_true rfl) ?_
      refine L.nil (E.thenN (W.seq (W.region (L.y rfl (Y.fieldP fd50_2 rfl) ?_))))
      refine L.y rfl (Y.loadP (i := 0) ag48 rfl rfl rfl) ?_
      refine L.y rfl (Y.func rfl) ?_
      refine L.callJ (fun v D => ∃ (gb29 : Bool), v = .bool gb29 ∧ D = Cls w [] [.obj b1 [.int .i64 a1] 3, .os []] ∧ m6_lock_Ask_K28 gx28 go7 gb29 = some r) rfl en19 rfl Try.func19 rfl rfl rfl ?_ ?_
      ·
       refine W.seq (W.region (L.y rfl (Y.assign rfl) ?_))
       refine L.nil (E.thenN (W.seq (W.region (L.y rfl (Y.move rfl) ?_))))
       refine L.y rfl (Y.move rfl) ?_
       refine L.callJ (fun v D => ∃ (gx30 : Int), v = .int .i64 gx30 ∧ D = Cls w [] [.obj b1 [.int .i64 a1] 3, .os []] ∧ m6_lock_Ask_K29 gx28 go7 gx30 = some r) rfl en35 rfl Try.func35 rfl rfl rfl ?_ ?_
       ·
        refine W.seq (W.region (L.y rfl (Y.assign rfl) ?_))
        refine L.nil (E.thenN (W.seqJ (fun gs D => gs = [] ∧ D = Cls w [] [.obj b1 [.int .i64 a1] 3, .os []] ∧ m6_lock_Ask_K30 gx28 go7 = some r) ?_ ?_))
        ·
         refine W.seq (W.region (L.y rfl (Y.move rfl) ?_))
         refine L.y rfl (Y.lenM (g := TLock.row) (l := x212.Queue) Try.underlying48 rfl (fun w' hw => (((FzA.at (sds := TLockItem.sds) (vs := q0) (j := 1) (nl := 2) hD0 (fun _ _ => rfl) ex212 rfl).up).clsF hK hw rfl))) ?_
         refine L.y rfl (Y.move rfl) ?_
         refine L.nil (E.thenN (W.block (W.loopJ (fun m gs D => ∃ (gx31 : Int), gs = [(0, gv (q0 gx28.toNat) 1), (1, .func (.func 20) #[] #[pt b1 0]), (7, .int .i64 (x212.Queue.length : Int)), (8, .int .i64 gx31)] ∧ D = Cls w [] [.obj b1 [.int .i64 a1] 3, .os []] ∧ m6_lock_Ask_L8 x212 a1 gx28 go7 m gx31 = some r) ⟨0, rfl, rfl, h⟩ ⟨rfl, rfl, rfl, rfl, trivial⟩ (fun _ hw => hw.sel [1, 2] (by decide) rfl) ?_)))
         rintro m _ _ ⟨gx31, rfl, rfl, h⟩
         rcases m with _ | m
         · rw [m6_lock_Ask_L8] at h; cases h
         rw [m6_lock_Ask_L8] at h
         generalize hg8 : m6_lock_Ask_L8 x212 a1 gx28 go7 m = go8 at h
         rw [m6_lock_Ask_L8B] at h
         refine W.seq (W.region (L.ite h rfl (Y.lss rfl rfl) (fun c215 h => ?_) (fun c215 h => ?_)))
         ·
          refine L.nil (E.thenN (W.seq (W.condT rfl ?_)))
          refine W.skip (E.thenN (W.seq (W.block (W.seq (W.region (L.y rfl (Y.move rfl) ?_))))))
          refine L.y rfl (Y.assign rfl) ?_
          refine L.nil (E.thenN (W.seq (W.region (L.y rfl (Y.move rfl) ?_))))
          refine L.y rfl (Y.move rfl) ?_
          refine L.y rfl (Y.move rfl) ?_
          refine L.m (V := fun _ => el (gv (q0 gx28.toNat) 1) (gx31.toNat * 2)) h rfl (Y.indexM (g := TLock.row) (l := x212.Queue) Try.underlying48 sz55 rfl rfl (fun w' hw => (((FzA.at (sds := TLockItem.sds) (vs := q0) (j := 1) (nl := 2) hD0 (fun _ _ => rfl) ex212 rfl).up).clsF hK hw rfl))) (fun x216 ex216 h => ?_)
          refine L.y rfl (Y.loadEN (r := [.int .i64 x216.Tx, .int .i64 x216.Mode]) ag55 sz55 rfl (fun w' hw => (((FzA.at (sds := TLockItem.sds) (vs := q0) (j := 1) (nl := 2) hD0 (fun _ _ => rfl) ex212 rfl).up).clsF hK hw rfl)) (idx_map ex216) rfl) ?_
          refine L.callVJ (fun v D => v = .bool (decide (x216.Tx = a1)) ∧ D = Cls w [] [.obj b1 [.int .i64 a1] 3, .os []] ∧ m6_lock_Ask_K31 x216 a1 gx28 go7 gx31 go8 = some r) rfl en20 rfl rfl Try.func20 rfl rfl rfl ?_ ?_
          ·
           refine W.seq (W.region (L.box rfl rfl ?_))
           intro b218
           refine L.y rfl (Y.assign rfl) ?_
           refine L.nil (E.thenN (W.seq (W.region (L.y rfl (Y.fieldP fd55_0 rfl) ?_))))
           refine L.y rfl (Y.loadP (i := 0) ag3 rfl rfl rfl) ?_
           refine L.y rfl (Y.loadP (i := 1) ag3 rfl rfl rfl) ?_
           refine L.y rfl (Y.eql rfl rfl) ?_
           refine L.y rfl (Y.assign rfl) ?_
           refine L.nil (E.thenN (W.ret (E.ret1 rfl rfl (fun w1 hw => ?_))))
           exact ⟨_, _, rfl, ⟨rfl, rfl, h⟩, hw.sel [1, 2] (by decide) rfl⟩
          ·
           rintro _ _ ⟨rfl, rfl, h⟩
           rw [m6_lock_Ask_K31] at h
           refine L.nil (E.thenN (W.caseB (q := 16) h rfl (fun h => ?_) (fun h => ?_)))
           ·
            refine W.condT rfl ?_
            refine W.seq (W.region (L.y rfl (Y.move rfl) ?_))
            refine L.y rfl (Y.assign rfl) ?_
            refine L.nil (E.thenN (W.ret (E.blockR (E.thenR (E.KLR (E.blockR (E.KSR (E.ret1 rfl rfl (fun w1 hw => ?_)))))))))
            exact ⟨_, _, rfl, ⟨gx31, rfl, rfl, h⟩, hw⟩
           ·
            refine W.condF rfl ?_
            refine W.skip (E.blockN (E.thenN (W.region (L.m (V := fun x217 => .int .i64 x217) h rfl (Y.addM rfl rfl) (fun x217 ex217 h => ?_)))))
            refine L.y rfl (Y.move rfl) ?_
            exact L.nil (E.againJ ⟨x217, rfl, rfl, by rw [hg8]; exact h⟩ (Nat.lt_succ_self _) ⟨rfl, rfl, rfl, rfl, trivial⟩ (fun _ hw => hw))
         ·
          refine L.nil (E.thenN (W.seq (W.condF rfl ?_)))
          exact W.exit (E.thenX (E.KLX (E.blockX (E.joinJ ⟨rfl, rfl, h⟩ trivial (fun _ hw => hw)))))
        ·
         rintro _ _ ⟨rfl, rfl, h⟩
         rw [m6_lock_Ask_K30] at h
         refine W.seq (W.region (L.y rfl (Y.assign rfl) ?_))
         refine L.nil (E.thenN (W.ret (E.ret1 rfl rfl (fun w1 hw => ?_))))
         exact ⟨_, _, rfl, ⟨(-1), rfl, rfl, h⟩, hw⟩
       ·
        rintro _ _ ⟨gx30, rfl, rfl, h⟩
        rw [m6_lock_Ask_K29] at h
        refine L.y rfl (Y.geq rfl rfl) ?_
        refine L.y rfl (Y.assign rfl) ?_
        refine L.nil (E.thenN (W.ret (E.ret1 rfl rfl (fun w1 hw => ?_))))
        exact ⟨_, _, rfl, ⟨decide (0 ≤ gx30), rfl, rfl, h⟩, hw⟩
      ·
       rintro _ _ ⟨gb29, rfl, rfl, h⟩
       rw [m6_lock_Ask_K28] at h
       rcases gb29 with _ | _
       ·
        replace h := iteF h
        refine L.nil (E.thenN (W.condF rfl ?_))
        refine W.skip (E.blockN (E.thenN (W.region (L.m (V := fun x214 => .int .i64 x214) h rfl (Y.addM rfl rfl) (fun x214 ex214 h => ?_)))))
        refine L.y rfl (Y.move rfl) ?_
        exact L.nil (E.againJ ⟨x214, rfl, rfl, by rw [hg7]; exact h⟩ (Nat.lt_succ_self _) ⟨rfl, rfl, rfl, rfl, rfl, rfl, rfl, trivial⟩ (fun _ hw => hw))
       ·
        replace h := iteT h
        refine L.nil (E.thenN (W.condT rfl ?_))
        refine W.seq (W.region (L.y rfl (Y.assign rfl) ?_))
        refine L.y rfl (Y.assign rfl) ?_
        refine L.y rfl (Y.assign rfl) ?_
        refine L.nil (E.thenN (W.ret (E.blockR (E.thenR (E.KLR (E.blockR (E.KSR (E.ret3 rfl rfl rfl rfl (fun w1 hw => ?_)))))))))
        obtain rfl := Option.some.inj h
        exact ⟨_, _, rfl, ⟨[], rfl, (.slice none 0 0), (fun _ => []), rfl, Fz.nil, FzA.nil⟩, hw.sel [1] (by decide) rfl⟩
     ·
      refine L.nil (E.thenN (W.seq (W.condF rfl ?_)))
      exact W.exit (E.thenX (E.KLX (E.blockX (E.joinJ ⟨rfl, rfl, h⟩ ⟨rfl, rfl, rfl, rfl, trivial⟩ (fun _ hw => hw)))))
    ·
     rintro _ _ ⟨rfl, rfl, h⟩
     rw [m6_lock_Ask_K3] at h
     refine W.seq (W.region (L.y rfl (Y.move rfl) ?_))
     obtain ⟨l2, e5, h⟩ := bind1S h
     refine L.does rfl en21 rfl (fun w' hw => w21_lock_copied a0 u0 q0 w' _ e5 (hA0.up.clsF hK hw rfl) (hD0.up.clsF hK hw rfl)) ?_
     rintro v3 _ ⟨_, q4, rfl, rfl⟩
     refine L.y rfl (Y.assign rfl) ?_
     refine L.nil (E.thenN (W.seq (W.region (L.y rfl (Y.loadP (i := 2) ag3 rfl rfl rfl) ?_))))
     refine L.y rfl (Y.move rfl) ?_
     refine L.y rfl (Y.build (cells := #[.int .i64 a1, .int .i64 a3]) rfl (by kernel_rfl)) ?_
     refine L.alloc rfl ze55 ?_
     intro b6
     refine L.store (i := 0) (vs := [.int .i64 a1, .int .i64 a3]) sz55 rfl rfl rfl rfl (by simp [Value.oneCell', Value.cells, st, pt, el]) rfl (Nat.le_of_ble_eq_true rfl) ?_
     refine L.nil (E.thenN (W.seqJ (fun gs D => ∃ (gx1 : Int) (gb2 : Bool), gs = [(2, .int .i64 a2), (5, pt b1 0), (14, v3), (15, pt b6 0), (16, .int .i64 gx1), (17, .bool gb2)] ∧ D = Cls w [] [.obj b6 [.int .i64 a1, .int .i64 a3] 55, .obj b1 [.int .i64 a1] 3, .sl v3 50 3 (zr TLockItem.rowv q4 l2), .ss (zs TLockItem.sds q4 l2), .os []] ∧ m6_lock_Ask_K4 l2 a1 a3 a2 gx1 gb2 = some r) ?_ ?_))
     ·
      refine W.region (L.y rfl (Y.move rfl) ?_)
      refine L.y rfl (Y.move rfl) ?_
      refine L.callJ (fun v D => ∃ (gx21 : Int) (gb22 : Bool), v = .tuple #[.int .i64 gx21, .bool gb22] ∧ D = Cls w [] [.obj b6 [.int .i64 a1, .int .i64 a3] 55, .obj b1 [.int .i64 a1] 3, .sl v3 50 3 (zr TLockItem.rowv q4 l2), .ss (zs TLockItem.sds q4 l2), .os []] ∧ m6_lock_Ask_K23 l2 a1 a3 a2 gx21 gb22 = some r) rfl en22 rfl Try.func22 rfl rfl rfl ?_ ?_
      ·
       refine W.seq (W.region (L.y rfl (Y.assign rfl) ?_))
       refine L.y rfl (Y.assign rfl) ?_
       refine L.nil (E.thenN (W.seq (W.region (L.y rfl (Y.move rfl) ?_))))
       refine L.y rfl (Y.lenMZ (row := TLockItem.rowv) (vs := q4) (l := l2) Try.underlying23 rfl (fun w hw => As.at_ (hw.get (i := 1) rfl))) ?_
       refine L.y rfl (Y.assign rfl) ?_
       refine L.nil (E.thenN (W.seq (W.region (L.y rfl (Y.move rfl) ?_))))
       refine L.y rfl (Y.assign rfl) ?_
       refine L.y rfl (Y.assign rfl) ?_
       refine L.nil (E.thenN (W.seqJ (fun gs D => ∃ (gx23 : Int), gs = [(0, v3), (1, .int .i64 a2), (2, .func (.func 23) #[] #[]), (8, .int .i64 (l2.length : Int)), (9, .int .i64 gx23)] ∧ D = Cls w [] [.obj b6 [.int .i64 a1, .int .i64 a3] 55, .obj b1 [.int .i64 a1] 3, .sl v3 50 3 (zr TLockItem.rowv q4 l2), .ss (zs TLockItem.sds q4 l2), .os []] ∧ m6_lock_Ask_K24 l2 a2 a1 a3 gx23 = some r) ?_ ?_))
       ·
        refine W.block (W.loopJ (fun m gs D => ∃ (gx25 : Int) (gx26 : Int), gs = [(0, v3), (1, .int .i64 a2), (2, .func (.func 23) #[] #[]), (8, .int .i64 (l2.length : Int)), (9, .int .i64 gx25), (10, .int .i64 gx26)] ∧ D = Cls w [] [.obj b6 [.int .i64 a1, .int .i64 a3] 55, .obj b1 [.int .i64 a1] 3, .sl v3 50 3 (zr TLockItem.rowv q4 l2), .ss (zs TLockItem.sds q4 l2), .os []] ∧ m6_lock_Ask_L6 l2 a2 a1 a3 m gx25 gx26 = some r) ⟨0, (l2.length : Int), rfl, rfl, h⟩ ⟨rfl, rfl, rfl, rfl, rfl, rfl, trivial⟩ (fun _ hw => hw.sel [0, 3, 1, 2, 4] (by decide) rfl) ?_)
        rintro m _ _ ⟨gx25, gx26, rfl, rfl, h⟩
        rcases m with _ | m
        · rw [m6_lock_Ask_L6] at h; cases h
        rw [m6_lock_Ask_L6] at h
        generalize hg6 : m6_lock_Ask_L6 l2 a2 a1 a3 m = go6 at h
        rw [m6_lock_Ask_L6B] at h
        refine W.seqJ (fun gs D => gs = [(0, v3), (1, .int .i64 a2), (2, .func (.func 23) #[] #[]), (8, .int .i64 (l2.length : Int)), (9, .int .i64 gx25), (10, .int .i64 gx26)] ∧ D = Cls w [] [.obj b6 [.int .i64 a1, .int .i64 a3] 55, .obj b1 [.int .i64 a1] 3, .sl v3 50 3 (zr TLockItem.rowv q4 l2), .ss (zs TLockItem.sds q4 l2), .os []] ∧ m6_lock_Ask_K26 gx25 gx26 l2 a2 go6 = some r) ?_ ?_
        ·
         refine W.seq (W.region (L.y rfl (Y.move rfl) ?_))
         refine L.y rfl (Y.move rfl) ?_
         refine L.ite h rfl (Y.lss rfl rfl) (fun c210 h => ?_) (fun c210 h => ?_)
         ·
          refine L.nil (E.thenN (W.condT rfl ?_))
          exact W.skip (E.joinJ ⟨rfl, rfl, h⟩ ⟨rfl, rfl, rfl, rfl, rfl, rfl, trivial⟩ (fun _ hw => hw))
         ·
          refine L.nil (E.thenN (W.condF rfl ?_))
          exact W.exit (E.KSX (E.KLX (E.blockX (E.joinJ ⟨gx25, rfl, rfl, h⟩ ⟨rfl, rfl, rfl, rfl, rfl, trivial⟩ (fun _ hw => hw)))))
        ·
         rintro _ _ ⟨rfl, rfl, h⟩
         rw [m6_lock_Ask_K26] at h
         refine W.block (W.seq (W.region (L.y rfl (Y.move rfl) ?_)))
         refine L.y rfl (Y.move rfl) ?_
         refine L.m (V := fun x203 => .int .i64 x203) h rfl (Y.addM rfl rfl) (fun x203 ex203 h => ?_)
         refine L.y rfl (Y.conv Try.underlying3 Try.underlying83 rfl) ?_
         refine L.m (V := fun x204 => .int .u64 x204) h rfl (Y.shrM rfl rfl) (fun x204 ex204 h => ?_)
         refine L.y rfl (Y.conv Try.underlying83 Try.underlying3 rfl) ?_
         refine L.y rfl (Y.assign rfl) ?_
         refine L.nil (E.thenN (W.seq (W.region (L.y rfl (Y.move rfl) ?_))))
         refine L.y rfl (Y.move rfl) ?_
         refine L.y rfl (Y.move rfl) ?_
         refine L.m (V := fun _ => el v3 ((IntKind.wrap .i64 x204).toNat * 3)) h rfl (Y.indexMZ (row := TLockItem.rowv) (vs := q4) (l := l2) Try.underlying23 sz50 rfl rfl (fun w hw => As.at_ (hw.get (i := 2) rfl))) (fun x205 ex205 h => ?_)
         refine L.y rfl (Y.loadEN (r := [.int .i64 x205.Item, gv (q4 (IntKind.wrap .i64 x204).toNat) 0, gv (q4 (IntKind.wrap .i64 x204).toNat) 1]) ag50 sz50 rfl (fun w hw => As.at_ (hw.get (i := 2) rfl)) (zr_idx (vs := q4) ex205) rfl) ?_
         refine L.y rfl (Y.move rfl) ?_
         refine L.callVJ (fun v D => ∃ (gx27 : Int), v = .int .i64 gx27 ∧ D = Cls w [] [.obj b6 [.int .i64 a1, .int .i64 a3] 55, .obj b1 [.int .i64 a1] 3, .sl v3 50 3 (zr TLockItem.rowv q4 l2), .ss (zs TLockItem.sds q4 l2), .os []] ∧ m6_lock_Ask_K27 x204 go6 gx26 gx25 gx27 = some r) rfl en23 rfl rfl Try.func23 rfl rfl rfl ?_ ?_
         ·
          refine W.seq (W.region (L.box rfl rfl ?_))
          intro b208
          refine L.y rfl (Y.assign rfl) ?_
          refine L.nil (E.thenN (W.seq (W.region (L.y rfl (Y.fieldP fd50_0 rfl) ?_))))
          refine L.y rfl (Y.loadP (i := 0) ag3 rfl rfl rfl) ?_
          refine L.y rfl (Y.move rfl) ?_
          refine L.m (V := fun x209 => .int .i64 x209) h rfl (Y.subM rfl rfl) (fun x209 ex209 h => ?_)
          refine L.y rfl (Y.assign rfl) ?_
          refine L.nil (E.thenN (W.ret (E.ret1 rfl rfl (fun w1 hw => ?_))))
          exact ⟨_, _, rfl, ⟨x209, rfl, rfl, h⟩, hw.sel [1, 2, 3, 4, 5] (by decide) rfl⟩
         ·
          rintro _ _ ⟨gx27, rfl, rfl, h⟩
          rw [m6_lock_Ask_K27] at h
          refine L.ite h rfl (Y.lss rfl rfl) (fun c206 h => ?_) (fun c206 h => ?_)
          ·
           refine L.nil (E.thenN (W.condT rfl ?_))
           refine W.region (L.y rfl (Y.move rfl) ?_)
           refine L.m (V := fun x207 => .int .i64 x207) h rfl (Y.addM rfl rfl) (fun x207 ex207 h => ?_)
           refine L.y rfl (Y.assign rfl) ?_
           exact L.nil (E.blockN (E.againJ ⟨x207, gx26, rfl, rfl, by rw [hg6]; exact h⟩ (Nat.lt_succ_self _) ⟨rfl, rfl, rfl, rfl, rfl, rfl, trivial⟩ (fun _ hw => hw)))
          ·
           refine L.nil (E.thenN (W.condF rfl ?_))
           refine W.region (L.y rfl (Y.move rfl) ?_)
           refine L.y rfl (Y.assign rfl) ?_
           exact L.nil (E.blockN (E.againJ ⟨gx25, IntKind.wrap .i64 x204, rfl, rfl, by rw [hg6]; exact h⟩ (Nat.lt_succ_self _) ⟨rfl, rfl, rfl, rfl, rfl, rfl, trivial⟩ (fun _ hw => hw)))
       ·
        rintro _ _ ⟨gx23, rfl, rfl, h⟩
        rw [m6_lock_Ask_K24] at h
        refine W.seq (W.region (L.y rfl (Y.move rfl) ?_))
        refine L.y rfl (Y.move rfl) ?_
        refine L.y rfl (Y.move rfl) ?_
        refine L.ite h rfl (Y.lss rfl rfl) (fun c199 h => ?_) (fun c199 h => ?_)
        ·
         refine L.y rfl (Y.move rfl) ?_
         refine L.take rfl (L.y rfl (Y.move rfl) ?_)
         refine L.take rfl (L.y rfl (Y.move rfl) ?_)
         refine L.take rfl (L.y rfl (Y.move rfl) ?_)
         refine L.take rfl (L.m (V := fun _ => el v3 (gx23.toNat * 3)) h rfl (Y.indexMZ (row := TLockItem.rowv) (vs := q4) (l := l2) Try.underlying23 sz50 rfl rfl (fun w hw => As.at_ (hw.get (i := 2) rfl))) (fun x200 ex200 h => ?_))
         refine L.take rfl (L.y rfl (Y.loadEN (r := [.int .i64 x200.Item, gv (q4 gx23.toNat) 0, gv (q4 gx23.toNat) 1]) ag50 sz50 rfl (fun w hw => As.at_ (hw.get (i := 2) rfl)) (zr_idx (vs := q4) ex200) rfl) ?_)
         refine L.take rfl (L.y rfl (Y.move rfl) ?_)
         refine L.take rfl (L.callVJ (fun v D => ∃ (gx24 : Int), v = .int .i64 gx24 ∧ D = Cls w [] [.obj b6 [.int .i64 a1, .int .i64 a3] 55, .obj b1 [.int .i64 a1] 3, .sl v3 50 3 (zr TLockItem.rowv q4 l2), .ss (zs TLockItem.sds q4 l2), .os []] ∧ m6_lock_Ask_K25 l2 a1 a3 a2 gx23 gx24 = some r) rfl en23 rfl rfl Try.func23 rfl rfl rfl ?_ ?_)
         ·
          refine W.seq (W.region (L.box rfl rfl ?_))
          intro b201
          refine L.y rfl (Y.assign rfl) ?_
          refine L.nil (E.thenN (W.seq (W.region (L.y rfl (Y.fieldP fd50_0 rfl) ?_))))
          refine L.y rfl (Y.loadP (i := 0) ag3 rfl rfl rfl) ?_
          refine L.y rfl (Y.move rfl) ?_
          refine L.m (V := fun x202 => .int .i64 x202) h rfl (Y.subM rfl rfl) (fun x202 ex202 h => ?_)
          refine L.y rfl (Y.assign rfl) ?_
          refine L.nil (E.thenN (W.ret (E.ret1 rfl rfl (fun w1 hw => ?_))))
          exact ⟨_, _, rfl, ⟨x202, rfl, rfl, h⟩, hw.sel [1, 2, 3, 4, 5] (by decide) rfl⟩
         ·
          rintro _ _ ⟨gx24, rfl, rfl, h⟩
          rw [m6_lock_Ask_K25] at h
          refine L.take rfl (L.y rfl (Y.eql rfl rfl) ?_)
          refine L.y rfl (Y.pickT rfl rfl) ?_
          refine L.y rfl (Y.assign rfl) ?_
          refine L.y rfl (Y.assign rfl) ?_
          refine L.nil (E.thenN (W.ret (E.ret2 rfl rfl rfl (fun w1 hw => ?_))))
          exact ⟨_, _, rfl, ⟨gx23, decide (gx24 = 0), rfl, rfl, h⟩, hw⟩
        ·
         refine L.y rfl (Y.move rfl) ?_
         refine L.pass rfl rfl (by nofun) ?_
         refine L.pass rfl rfl (by nofun) ?_
         refine L.pass rfl rfl (by nofun) ?_
         refine L.pass rfl rfl (by nofun) ?_
         refine L.pass rfl rfl (by nofun) ?_
         refine L.pass rfl rfl (by nofun) ?_
         refine L.pass rfl rfl (by nofun) ?_
         refine L.pass rfl rfl (by nofun) ?_
         refine L.y rfl (Y.pickF rfl rfl) ?_
         refine L.y rfl (Y.assign rfl) ?_
         refine L.y rfl (Y.assign rfl) ?_
         refine L.nil (E.thenN (W.ret (E.ret2 rfl rfl rfl (fun w1 hw => ?_))))
         exact ⟨_, _, rfl, ⟨gx23, false, rfl, rfl, h⟩, hw⟩
      ·
       rintro _ _ ⟨gx21, gb22, rfl, rfl, h⟩
       rw [m6_lock_Ask_K23] at h
       refine L.y rfl (Y.move rfl) ?_
       refine L.y rfl (Y.extract rfl rfl) ?_
       refine L.iteB h rfl (Y.extract rfl rfl) (fun c198 h => ?_) (fun c198 h => ?_)
       ·
        refine L.y rfl (Y.assign rfl) ?_
        refine L.y rfl (Y.assign rfl) ?_
        exact L.nil (E.joinJ ⟨gx21, true, rfl, rfl, h⟩ ⟨rfl, rfl, rfl, rfl, rfl, rfl, trivial⟩ (fun _ hw => hw))
       ·
        refine L.y rfl (Y.assign rfl) ?_
        refine L.y rfl (Y.assign rfl) ?_
        exact L.nil (E.joinJ ⟨gx21, false, rfl, rfl, h⟩ ⟨rfl, rfl, rfl, rfl, rfl, rfl, trivial⟩ (fun _ hw => hw))
     ·
      rintro _ _ ⟨gx1, gb2, rfl, rfl, h⟩
      rw [m6_lock_Ask_K4] at h
      rcases gb2 with _ | _
      ·
       replace h := iteF h
       refine W.seq (W.seq (W.region (L.y rfl (Y.move rfl) ?_)))
       refine L.y rfl (Y.not rfl) ?_
       refine L.nil (E.thenN (W.condT rfl ?_))
       refine W.seq (W.region (L.y rfl (Y.move rfl) ?_))
       refine L.y rfl (Y.move rfl) ?_
       refine L.y rfl (Y.move rfl) ?_
       refine L.y rfl (Y.loadPW (i := 0) ag55 sz55 rfl rfl rfl) ?_
       refine L.litAgg rfl Try.underlying48 eL55 rfl rfl rfl ?_
       intro b7
       refine L.y rfl (Y.buildC (cells := #[.int .i64 a2, (sv b7 1), .slice none 0 0]) rfl (fun w hw => by rcases ((As.at_ (hw.get (i := 0) rfl))).shape with ⟨h0, _⟩ | ⟨_, _, h0, _, _⟩ <;> simp only [h0] <;> kernel_rfl)) ?_
       refine L.frz (i := 0) rfl rfl rfl ?_
       intro c9 mo10 hf11
       refine L.litAgg rfl Try.underlying22 eL50 rfl rfl rfl ?_
       intro b12
       have hz13 : FzA K c9 (zs TLockItem.sds (fun _ => [(sv b7 1), .slice none 0 0]) [(⟨a2, [(⟨a1, a3⟩ : TLock)], []⟩ : TLockItem)]) := FzA.app (FzA.cons (hf11 K) (FzA.cons Fz.nil FzA.nil)) FzA.nil
       refine L.to (D := Cls w [] [.sl (sv b12 1) 50 3 (zr TLockItem.rowv (fun _ => [(sv b7 1), .slice none 0 0]) ([(⟨a2, [(⟨a1, a3⟩ : TLock)], []⟩ : TLockItem)])), .obj b6 [.int .i64 a1, .int .i64 a3] 55, .obj b1 [.int .i64 a1] 3, .sl v3 50 3 (zr TLockItem.rowv q4 l2), .ss (zs TLockItem.sds q4 l2), .os c9]) (fun _ hw => hw) ?_
       refine L.frzS (i := 4) rfl rfl rfl ?_
       intro c14 mo15 hf16
       refine L.insHz (i := 3) (j := 0) (row := TLockItem.rowv) (sds := TLockItem.sds) (vs := q4) (vs2 := (fun _ => [(sv b7 1), .slice none 0 0])) (l := l2) (x1 := (⟨a2, [(⟨a1, a3⟩ : TLock)], []⟩ : TLockItem)) (a := gx1) h wInsR24 rfl en24 rfl rfl rfl rfl rfl (by decide) plz_TLockItem (fun _ _ => rfl) hK rfl (hf16 K) (hz13.mo mo15) ?_
       intro v18 q20 l17 el17 h hz19
       refine L.y rfl (Y.assign rfl) ?_
       refine L.y rfl (Y.assign rfl) ?_
       refine L.y rfl (Y.assign rfl) ?_
       refine L.nil (E.thenN (W.ret (E.thenR (E.frz (i := 3) rfl rfl rfl ?_))))
       intro c21 mo22 hf23
       refine E.ret3 rfl rfl rfl rfl (fun w1 hw => ?_)
       obtain rfl := Option.some.inj h
       exact ⟨_, _, rfl, ⟨c21, rfl, v18, q20, rfl, (hf23 K), (hz19.mo mo22)⟩, hw.sel [3] (by decide) rfl⟩
      ·
       replace h := iteT h
       refine W.seq (W.seq (W.region (L.y rfl (Y.move rfl) ?_)))
       refine L.y rfl (Y.not rfl) ?_
       refine L.nil (E.thenN (W.condF rfl ?_))
       refine W.skip (E.thenN (W.seq (W.region (L.y rfl (Y.move rfl) ?_))))
       refine L.y rfl (Y.move rfl) ?_
       refine L.m (V := fun _ => el v3 (gx1.toNat * 3)) h rfl (Y.indexMZ (row := TLockItem.rowv) (vs := q4) (l := l2) Try.underlying23 sz50 rfl rfl (fun w hw => As.at_ (hw.get (i := 2) rfl))) (fun x24 ex24 h => ?_)
       refine L.alloc rfl ze62 ?_
       intro b25
       refine L.store (i := 0) (vs := [el v3 (gx1.toNat * 3)]) sz62 rfl rfl rfl rfl (by simp [Value.oneCell', Value.cells, st, pt, el]) rfl (Nat.le_of_ble_eq_true rfl) ?_
       refine L.nil (E.thenN (W.seqJ (fun gs D => ∃ (gb3 : Bool), gs = [(14, v3), (15, pt b6 0), (18, pt b25 0), (19, .bool gb3)] ∧ D = Cls w [] [.obj b25 [el v3 (gx1.toNat * 3)] 62, .obj b6 [.int .i64 a1, .int .i64 a3] 55, .sl v3 50 3 (zr TLockItem.rowv q4 l2), .ss (zs TLockItem.sds q4 l2), .os []] ∧ m6_lock_Ask_K5 x24 a1 a3 l2 gx1 gb3 = some r) ?_ ?_))
       ·
        refine W.region (L.y rfl (Y.loadP (i := 0) ag62 rfl rfl rfl) ?_)
        refine L.y rfl (Y.nilCheck rfl) ?_
        refine L.y rfl (Y.fieldE fd50_1 rfl) ?_
        refine L.y rfl (Y.loadE (u := gv (q4 gx1.toNat) 0) ag48 rfl (fun w hw => As.at_ (hw.get (i := 3) rfl)) (zr_idx (vs := q4) ex24) rfl) ?_
        refine L.y rfl (Y.func rfl) ?_
        refine L.callJ (fun v D => ∃ (gb18 : Bool), v = .bool gb18 ∧ D = Cls w [] [.obj b25 [el v3 (gx1.toNat * 3)] 62, .obj b6 [.int .i64 a1, .int .i64 a3] 55, .sl v3 50 3 (zr TLockItem.rowv q4 l2), .ss (zs TLockItem.sds q4 l2), .os []] ∧ m6_lock_Ask_K19 x24 a1 a3 l2 gx1 gb18 = some r) rfl en19 rfl Try.func19 rfl rfl rfl ?_ ?_
        ·
         refine W.seq (W.region (L.y rfl (Y.assign rfl) ?_))
         refine L.nil (E.thenN (W.seq (W.region (L.y rfl (Y.move rfl) ?_))))
         refine L.y rfl (Y.move rfl) ?_
         refine L.callJ (fun v D => ∃ (gx19 : Int), v = .int .i64 gx19 ∧ D = Cls w [] [.obj b25 [el v3 (gx1.toNat * 3)] 62, .obj b6 [.int .i64 a1, .int .i64 a3] 55, .sl v3 50 3 (zr TLockItem.rowv q4 l2), .ss (zs TLockItem.sds q4 l2), .os []] ∧ m6_lock_Ask_K20 x24 a1 a3 l2 gx1 gx19 = some r) rfl en35 rfl Try.func35 rfl rfl rfl ?_ ?_
         ·
          refine W.seq (W.region (L.y rfl (Y.assign rfl) ?_))
          refine L.nil (E.thenN (W.seqJ (fun gs D => gs = [] ∧ D = Cls w [] [.obj b25 [el v3 (gx1.toNat * 3)] 62, .obj b6 [.int .i64 a1, .int .i64 a3] 55, .sl v3 50 3 (zr TLockItem.rowv q4 l2), .ss (zs TLockItem.sds q4 l2), .os []] ∧ m6_lock_Ask_K21 x24 a1 a3 l2 gx1 = some r) ?_ ?_))
          ·
           refine W.seq (W.region (L.y rfl (Y.move rfl) ?_))
           refine L.y rfl (Y.lenM (g := TLock.row) (l := x24.Held) Try.underlying48 rfl (fun w hw => As.atZ (sds := TLockItem.sds) (vs := q4) (j := 0) (c := 2) (hw.get (i := 4) rfl) (fun _ _ => rfl) ex24 rfl)) ?_
           refine L.y rfl (Y.move rfl) ?_
           refine L.nil (E.thenN (W.block (W.loopJ (fun m gs D => ∃ (gx20 : Int), gs = [(0, gv (q4 gx1.toNat) 0), (1, .func (.func 25) #[] #[pt b1 0]), (7, .int .i64 (x24.Held.length : Int)), (8, .int .i64 gx20)] ∧ D = Cls w [] [.obj b25 [el v3 (gx1.toNat * 3)] 62, .obj b6 [.int .i64 a1, .int .i64 a3] 55, .obj b1 [.int .i64 a1] 3, .sl v3 50 3 (zr TLockItem.rowv q4 l2), .ss (zs TLockItem.sds q4 l2), .os []] ∧ m6_lock_Ask_L5 x24 a1 a3 l2 gx1 m gx20 = some r) ⟨0, rfl, rfl, h⟩ ⟨rfl, rfl, rfl, rfl, trivial⟩ (fun _ hw => hw) ?_)))
           rintro m _ _ ⟨gx20, rfl, rfl, h⟩
           rcases m with _ | m
           · rw [m6_lock_Ask_L5] at h; cases h
           rw [m6_lock_Ask_L5] at h
           generalize hg5 : m6_lock_Ask_L5 x24 a1 a3 l2 gx1 m = go5 at h
           rw [m6_lock_Ask_L5B] at h
           refine W.seq (W.region (L.ite h rfl (Y.lss rfl rfl) (fun c194 h => ?_) (fun c194 h => ?_)))
           ·
            refine L.nil (E.thenN (W.seq (W.condT rfl ?_)))
            refine W.skip (E.thenN (W.seq (W.block (W.seq (W.region (L.y rfl (Y.move rfl) ?_))))))
            refine L.y rfl (Y.assign rfl) ?_
            refine L.nil (E.thenN (W.seq (W.region (L.y rfl (Y.move rfl) ?_))))
            refine L.y rfl (Y.move rfl) ?_
            refine L.y rfl (Y.move rfl) ?_
            refine L.m (V := fun _ => el (gv (q4 gx1.toNat) 0) (gx20.toNat * 2)) h rfl (Y.indexM (g := TLock.row) (l := x24.Held) Try.underlying48 sz55 rfl rfl (fun w hw => As.atZ (sds := TLockItem.sds) (vs := q4) (j := 0) (c := 2) (hw.get (i := 4) rfl) (fun _ _ => rfl) ex24 rfl)) (fun x195 ex195 h => ?_)
            refine L.y rfl (Y.loadEN (r := [.int .i64 x195.Tx, .int .i64 x195.Mode]) ag55 sz55 rfl (fun w hw => As.atZ (sds := TLockItem.sds) (vs := q4) (j := 0) (c := 2) (hw.get (i := 4) rfl) (fun _ _ => rfl) ex24 rfl) (idx_map ex195) rfl) ?_
            refine L.callVJ (fun v D => v = .bool (decide (x195.Tx = a1)) ∧ D = Cls w [] [.obj b25 [el v3 (gx1.toNat * 3)] 62, .obj b6 [.int .i64 a1, .int .i64 a3] 55, .obj b1 [.int .i64 a1] 3, .sl v3 50 3 (zr TLockItem.rowv q4 l2), .ss (zs TLockItem.sds q4 l2), .os []] ∧ m6_lock_Ask_K22 x195 a1 x24 a3 l2 gx1 gx20 go5 = some r) rfl en25 rfl rfl Try.func25 rfl rfl rfl ?_ ?_
            ·
             refine W.seq (W.region (L.box rfl rfl ?_))
             intro b197
             refine L.y rfl (Y.assign rfl) ?_
             refine L.nil (E.thenN (W.seq (W.region (L.y rfl (Y.fieldP fd55_0 rfl) ?_))))
             refine L.y rfl (Y.loadP (i := 0) ag3 rfl rfl rfl) ?_
             refine L.y rfl (Y.loadP (i := 3) ag3 rfl rfl rfl) ?_
             refine L.y rfl (Y.eql rfl rfl) ?_
             refine L.y rfl (Y.assign rfl) ?_
             refine L.nil (E.thenN (W.ret (E.ret1 rfl rfl (fun w1 hw => ?_))))
             exact ⟨_, _, rfl, ⟨rfl, rfl, h⟩, hw.sel [1, 2, 3, 4, 5, 6] (by decide) rfl⟩
            ·
             rintro _ _ ⟨rfl, rfl, h⟩
             rw [m6_lock_Ask_K22] at h
             refine L.nil (E.thenN (W.caseB (q := 16) h rfl (fun h => ?_) (fun h => ?_)))
             ·
              refine W.condT rfl ?_
              refine W.seq (W.region (L.y rfl (Y.move rfl) ?_))
              refine L.y rfl (Y.assign rfl) ?_
              refine L.nil (E.thenN (W.ret (E.blockR (E.thenR (E.KLR (E.blockR (E.KSR (E.ret1 rfl rfl (fun w1 hw => ?_)))))))))
              exact ⟨_, _, rfl, ⟨gx20, rfl, rfl, h⟩, hw.sel [0, 1, 3, 4, 5] (by decide) rfl⟩
             ·
              refine W.condF rfl ?_
              refine W.skip (E.blockN (E.thenN (W.region (L.m (V := fun x196 => .int .i64 x196) h rfl (Y.addM rfl rfl) (fun x196 ex196 h => ?_)))))
              refine L.y rfl (Y.move rfl) ?_
              exact L.nil (E.againJ ⟨x196, rfl, rfl, by rw [hg5]; exact h⟩ (Nat.lt_succ_self _) ⟨rfl, rfl, rfl, rfl, trivial⟩ (fun _ hw => hw))
           ·
            refine L.nil (E.thenN (W.seq (W.condF rfl ?_)))
            exact W.exit (E.thenX (E.KLX (E.blockX (E.joinJ ⟨rfl, rfl, h⟩ trivial (fun _ hw => hw.sel [0, 1, 3, 4, 5] (by decide) rfl)))))
          ·
           rintro _ _ ⟨rfl, rfl, h⟩
           rw [m6_lock_Ask_K21] at h
           refine W.seq (W.region (L.y rfl (Y.assign rfl) ?_))
           refine L.nil (E.thenN (W.ret (E.ret1 rfl rfl (fun w1 hw => ?_))))
           exact ⟨_, _, rfl, ⟨(-1), rfl, rfl, h⟩, hw⟩
         ·
          rintro _ _ ⟨gx19, rfl, rfl, h⟩
          rw [m6_lock_Ask_K20] at h
          refine L.y rfl (Y.geq rfl rfl) ?_
          refine L.y rfl (Y.assign rfl) ?_
          refine L.nil (E.thenN (W.ret (E.ret1 rfl rfl (fun w1 hw => ?_))))
          exact ⟨_, _, rfl, ⟨decide (0 ≤ gx19), rfl, rfl, h⟩, hw⟩
        ·
         rintro _ _ ⟨gb18, rfl, rfl, h⟩
         rw [m6_lock_Ask_K19] at h
         rcases gb18 with _ | _
         ·
          replace h := iteF h
          refine L.y rfl (Y.assign rfl) ?_
          exact L.nil (E.joinJ ⟨false, rfl, rfl, h⟩ ⟨rfl, rfl, rfl, rfl, trivial⟩ (fun _ hw => hw))
         ·
          replace h := iteT h
          refine L.y rfl (Y.assign rfl) ?_
          exact L.nil (E.joinJ ⟨true, rfl, rfl, h⟩ ⟨rfl, rfl, rfl, rfl, trivial⟩ (fun _ hw => hw))
       ·
        rintro _ _ ⟨gb3, rfl, rfl, h⟩
        rw [m6_lock_Ask_K5] at h
        rcases gb3 with _ | _
        ·
         replace h := iteF h
         refine W.seqJ (fun gs D => gs = [(14, v3), (15, pt b6 0), (18, pt b25 0), (19, .bool false)] ∧ D = Cls w [] [.obj b25 [el v3 (gx1.toNat * 3)] 62, .obj b6 [.int .i64 a1, .int .i64 a3] 55, .sl v3 50 3 (zr TLockItem.rowv q4 l2), .ss (zs TLockItem.sds q4 l2), .os []] ∧ m6_lock_Ask_K6 x24 a1 a3 l2 gx1 = some r) ?_ ?_
         ·
          refine W.seq (W.quietC mixed (by kernel_rfl) (fun _ hw => hw.drew) (fun hC => ?_))
          refine U.y rfl (Y.loadP (i := 0) ag62 rfl rfl rfl) ?_
          refine U.y rfl (Y.nilCheck rfl) ?_
          refine U.y rfl (Y.loadEN (r := [.int .i64 x24.Item, gv (q4 gx1.toNat) 0, gv (q4 gx1.toNat) 1]) ag50 sz50 rfl (fun w hw => As.at_ (hw.get (i := 2) rfl)) (zr_idx (vs := q4) ex24) rfl) ?_
          refine U.y rfl (Y.loadPW (i := 1) ag55 sz55 rfl rfl rfl) ?_
          obtain ⟨b50, e51, h⟩ := bind1S h
          refine U.y rfl (Y.does en26 rfl (fun w' hw => (w26_lock_can x24 (⟨a1, a3⟩ : TLock) (gv (q4 gx1.toNat) 0) (gv (q4 gx1.toNat) 1) w' _ e51 (As.atZ (sds := TLockItem.sds) (vs := q4) (j := 0) (c := 2) (hw.get (i := 3) rfl) (fun _ _ => rfl) ex24 rfl) (As.atZ (sds := TLockItem.sds) (vs := q4) (j := 1) (c := 2) (hw.get (i := 3) rfl) (fun _ _ => rfl) ex24 rfl)).mono (fun _ _ h => h.1))) ?_
          rcases b50 with _ | _
          ·
           replace h := iteF h
           refine U.y rfl (Y.move rfl) ?_
           refine U.pass rfl rfl (by nofun) ?_
           refine U.pass rfl rfl (by nofun) ?_
           refine U.pass rfl rfl (by nofun) ?_
           refine U.pass rfl rfl (by nofun) ?_
           refine U.pass rfl rfl (by nofun) ?_
           refine U.pass rfl rfl (by nofun) ?_
           refine U.pass rfl rfl (by nofun) ?_
           refine U.pass rfl rfl (by nofun) ?_
           refine U.pass rfl rfl (by nofun) ?_
           refine U.y rfl (Y.pickF rfl rfl) ?_
           refine U.nil (E.thenN (W.condF rfl ?_))
           exact W.skip (E.joinJ ⟨rfl, rfl, h⟩ ⟨rfl, rfl, rfl, rfl, trivial⟩ (fun _ hw => hw))
          ·
           replace h := iteT h
           refine U.y rfl (Y.move rfl) ?_
           refine U.take rfl (U.y rfl (Y.move rfl) ?_)
           refine U.take rfl (U.y rfl (Y.move rfl) ?_)
           refine U.take rfl (U.y rfl (Y.loadP (i := 0) ag62 rfl rfl rfl) ?_)
           refine U.take rfl (U.y rfl (Y.nilCheck rfl) ?_)
           refine U.take rfl (U.y rfl (Y.fieldE fd50_2 rfl) ?_)
           refine U.take rfl (U.y rfl (Y.loadE (u := gv (q4 gx1.toNat) 1) ag48 rfl (fun w hw => As.at_ (hw.get (i := 2) rfl)) (zr_idx (vs := q4) ex24) rfl) ?_)
           refine U.take rfl (U.y rfl (Y.lenM (g := TLock.row) (l := x24.Queue) Try.underlying48 rfl (fun w hw => As.atZ (sds := TLockItem.sds) (vs := q4) (j := 1) (c := 2) (hw.get (i := 3) rfl) (fun _ _ => rfl) ex24 rfl)) ?_)
           refine U.take rfl (U.ite h rfl (Y.eql rfl rfl) (fun c52 h => ?_) (fun c52 h => ?_))
           ·
            refine U.take rfl (U.y rfl (Y.pickF rfl rfl) ?_)
            refine U.y rfl (Y.pickT rfl rfl) ?_
            refine U.nil (E.thenN (W.condT rfl ?_))
            refine W.seq (W.region (L.y rfl (Y.loadP (i := 0) ag62 rfl rfl rfl) ?_))
            refine L.y rfl (Y.loadPW (i := 1) ag55 sz55 rfl rfl rfl) ?_
            refine L.callJ (fun v D => ∃ (gl4 : (List TLockItem)) (gq5 : Nat → List Value), v = .tuple #[] ∧ D = Cls w [] [.sl v3 50 3 (zr TLockItem.rowv gq5 gl4), .ss (zs TLockItem.sds gq5 gl4), .os []] ∧ m6_lock_Ask_K8 gl4 = some r) rfl en27 rfl Try.func27 rfl rfl rfl ?_ ?_
            ·
             refine W.seq (W.region (L.box rfl rfl ?_))
             intro b59
             refine L.nil (E.thenN (W.seq (W.quietC mixed (by kernel_rfl) (fun _ hw => hw.drew) (fun hC => ?_))))
             refine U.y rfl (Y.move rfl) ?_
             refine U.y rfl (Y.nilCheck rfl) ?_
             refine U.y rfl (Y.loadEN (r := [.int .i64 x24.Item, gv (q4 gx1.toNat) 0, gv (q4 gx1.toNat) 1]) ag50 sz50 rfl (fun w hw => As.at_ (hw.get (i := 3) rfl)) (zr_idx (vs := q4) ex24) rfl) ?_
             refine U.y rfl (Y.loadPW (i := 0) ag55 sz55 rfl rfl rfl) ?_
             obtain ⟨x60, e61, h⟩ := bind1S h
             refine U.y rfl (Y.does en32 rfl (fun w' hw => (w32_lock_wish x24 (⟨a1, a3⟩ : TLock) (gv (q4 gx1.toNat) 0) (gv (q4 gx1.toNat) 1) w' _ e61 (As.atZ (sds := TLockItem.sds) (vs := q4) (j := 0) (c := 2) (hw.get (i := 4) rfl) (fun _ _ => rfl) ex24 rfl) (As.atZ (sds := TLockItem.sds) (vs := q4) (j := 1) (c := 2) (hw.get (i := 4) rfl) (fun _ _ => rfl) ex24 rfl)).mono (fun _ _ h => h.1))) ?_
             refine U.y rfl (Y.assign rfl) ?_
             refine U.nil (E.thenN (W.seqJ (fun gs D => gs = [(0, el v3 (gx1.toNat * 3)), (3, pt b59 0), (4, .int .i64 x60)] ∧ D = Cls w [] [.obj b59 [.int .i64 a1, .int .i64 a3] 55, .sl v3 50 3 (zr TLockItem.rowv q4 l2), .ss (zs TLockItem.sds q4 l2), .os []] ∧ m6_lock_Ask_K9 x24 a1 x60 l2 gx1 = some r) ?_ ?_))
             ·
              refine W.seq (W.region (L.y rfl (Y.move rfl) ?_))
              refine L.y rfl (Y.nilCheck rfl) ?_
              refine L.y rfl (Y.fieldE fd50_1 rfl) ?_
              refine L.y rfl (Y.loadE (u := gv (q4 gx1.toNat) 0) ag48 rfl (fun w hw => As.at_ (hw.get (i := 3) rfl)) (zr_idx (vs := q4) ex24) rfl) ?_
              refine L.y rfl (Y.lenM (g := TLock.row) (l := x24.Held) Try.underlying48 rfl (fun w hw => As.atZ (sds := TLockItem.sds) (vs := q4) (j := 0) (c := 2) (hw.get (i := 4) rfl) (fun _ _ => rfl) ex24 rfl)) ?_
              refine L.y rfl (Y.move rfl) ?_
              refine L.nil (E.thenN (W.block (W.loopJ (fun m gs D => ∃ (gx6 : Int), gs = [(0, el v3 (gx1.toNat * 3)), (3, pt b59 0), (4, .int .i64 x60), (15, .int .i64 (x24.Held.length : Int)), (16, .int .i64 gx6)] ∧ D = Cls w [] [.obj b59 [.int .i64 a1, .int .i64 a3] 55, .sl v3 50 3 (zr TLockItem.rowv q4 l2), .ss (zs TLockItem.sds q4 l2), .os []] ∧ m6_lock_Ask_L1 x24 a1 x60 l2 gx1 m gx6 = some r) ⟨0, rfl, rfl, h⟩ ⟨rfl, rfl, rfl, rfl, rfl, trivial⟩ (fun _ hw => hw.sel [0, 3, 4, 5] (by decide) rfl) ?_)))
              rintro m _ _ ⟨gx6, rfl, rfl, h⟩
              rcases m with _ | m
              · rw [m6_lock_Ask_L1] at h; cases h
              rw [m6_lock_Ask_L1] at h
              generalize hg1 : m6_lock_Ask_L1 x24 a1 x60 l2 gx1 m = go1 at h
              rw [m6_lock_Ask_L1B] at h
              refine W.seq (W.region (L.ite h rfl (Y.lss rfl rfl) (fun c80 h => ?_) (fun c80 h => ?_)))
              ·
               refine L.nil (E.thenN (W.seq (W.condT rfl ?_)))
               refine W.skip (E.thenN (W.seq (W.block (W.seq (W.region (L.y rfl (Y.move rfl) ?_))))))
               refine L.y rfl (Y.assign rfl) ?_
               refine L.nil (E.thenN (W.seq (W.quietC mixed (by kernel_rfl) (fun _ hw => hw.drew) (fun hC => ?_))))
               refine U.y rfl (Y.move rfl) ?_
               refine U.y rfl (Y.nilCheck rfl) ?_
               refine U.y rfl (Y.fieldE fd50_1 rfl) ?_
               refine U.y rfl (Y.loadE (u := gv (q4 gx1.toNat) 0) ag48 rfl (fun w hw => As.at_ (hw.get (i := 1) rfl)) (zr_idx (vs := q4) ex24) rfl) ?_
               refine U.y rfl (Y.move rfl) ?_
               refine U.m (V := fun _ => el (gv (q4 gx1.toNat) 0) (gx6.toNat * 2)) h rfl (Y.indexM (g := TLock.row) (l := x24.Held) Try.underlying48 sz55 rfl rfl (fun w hw => As.atZ (sds := TLockItem.sds) (vs := q4) (j := 0) (c := 2) (hw.get (i := 2) rfl) (fun _ _ => rfl) ex24 rfl)) (fun x81 ex81 h => ?_)
               refine U.y rfl (Y.fieldE fd55_0 rfl) ?_
               refine U.y rfl (Y.loadE (u := .int .i64 x81.Tx) ag3 rfl (fun w hw => As.atZ (sds := TLockItem.sds) (vs := q4) (j := 0) (c := 2) (hw.get (i := 2) rfl) (fun _ _ => rfl) ex24 rfl) (idx_map ex81) rfl) ?_
               refine U.y rfl (Y.fieldP fd55_0 rfl) ?_
               refine U.y rfl (Y.loadP (i := 0) ag3 rfl rfl rfl) ?_
               refine U.ite h rfl (Y.eql rfl rfl) (fun c82 h => ?_) (fun c82 h => ?_)
               ·
                refine U.nil (E.thenN (W.condT rfl ?_))
                refine W.seq (W.region (L.y rfl (Y.move rfl) ?_))
                refine L.y rfl (Y.nilCheck rfl) ?_
                refine L.y rfl (Y.fieldE fd50_1 rfl) ?_
                refine L.y rfl (Y.loadE (u := gv (q4 gx1.toNat) 0) ag48 rfl (fun w hw => As.at_ (hw.get (i := 1) rfl)) (zr_idx (vs := q4) ex24) rfl) ?_
                refine L.y rfl (Y.move rfl) ?_
                refine L.y rfl (Y.move rfl) ?_
                refine L.m (V := fun _ => el (gv (q4 gx1.toNat) 0) (gx6.toNat * 2)) h rfl (Y.indexM (g := TLock.row) (l := x24.Held) Try.underlying48 sz55 rfl rfl (fun w hw => As.atZ (sds := TLockItem.sds) (vs := q4) (j := 0) (c := 2) (hw.get (i := 2) rfl) (fun _ _ => rfl) ex24 rfl)) (fun x83 ex83 h => ?_)
                refine L.y rfl (Y.fieldE fd55_1 rfl) ?_
                refine L.ssOut (sds := TLockItem.sds) (vs := q4) (s := 2) (j := 0) (c := 2) rfl (fun _ _ => rfl) ex24 rfl ?_
                refine L.storeSlM (q := 0) (row := TLock.row) (vs := [.int .i64 x60]) (j := 1) (u1 := (⟨x83.Tx, x60⟩ : TLock)) h sz3 rfl rfl rfl rfl rfl (all1 rfl all0) rfl ex83 rfl rfl ?_
                intro l84 el84 h
                refine L.ssBack (row := TLockItem.rowv) (sds := TLockItem.sds) (vs := q4) (p := 0) (s := 3) (q := 2) (c := 2) (jj := 0) (u1 := (⟨x24.Item, l84, x24.Queue⟩ : TLockItem)) (fun z => .sl v3 50 3 z) h rfl rfl rfl (fun _ _ => rfl) ex24 rfl rfl rfl ?_
                intro l85 el85 h
                refine L.nil (E.thenN (W.ret (E.blockR (E.thenR (E.KLR (E.blockR (E.KSR (E.ret0 rfl (fun w1 hw => ?_)))))))))
                exact ⟨_, _, rfl, ⟨l85, q4, rfl, rfl, h⟩, hw.sel [1, 2, 3] (by decide) rfl⟩
               ·
                refine U.nil (E.thenN (W.condF rfl ?_))
                refine W.skip (E.blockN (E.thenN (W.region (L.m (V := fun x86 => .int .i64 x86) h rfl (Y.addM rfl rfl) (fun x86 ex86 h => ?_)))))
                refine L.y rfl (Y.move rfl) ?_
                exact L.nil (E.againJ ⟨x86, rfl, rfl, by rw [hg1]; exact h⟩ (Nat.lt_succ_self _) ⟨rfl, rfl, rfl, rfl, rfl, trivial⟩ (fun _ hw => hw))
              ·
               refine L.nil (E.thenN (W.seq (W.condF rfl ?_)))
               exact W.exit (E.thenX (E.KLX (E.blockX (E.joinJ ⟨rfl, rfl, h⟩ ⟨rfl, rfl, rfl, trivial⟩ (fun _ hw => hw)))))
             ·
              rintro _ _ ⟨rfl, rfl, h⟩
              rw [m6_lock_Ask_K9] at h
              refine W.drawn2 (k := 14) (stC [[10, 13], [13]] [Cls w [] [.obj b59 [.int .i64 a1, .int .i64 a3] 55, .sl v3 50 3 (zr TLockItem.rowv q4 l2), .ss (zs TLockItem.sds q4 l2), .os []], Cls w [] [.obj b59 [.int .i64 a1, .int .i64 a3] 55, .sl v3 50 3 (zr TLockItem.rowv q4 l2), .os []]] (Cls w [] [.obj b59 [.int .i64 a1, .int .i64 a3] 55, .os []])) rfl mixed (fun _ hw => hw.drew) (Sc.now (by kernel_rfl) (fun _ hw => hw)) ?_
              refine V2.y (i := 0) (Nx2.of (Z := Cls w [] [.obj b59 [.int .i64 a1, .int .i64 a3] 55, .os []]) [] (by kernel_rfl) rfl (Zc.on (fun _ hw => hw.sel [0, 3] (by decide) rfl) (Zc.on (fun _ hw => hw.sel [0, 2] (by decide) rfl) (Zc.fin (fun _ hw => hw))))) rfl rfl rfl (Y.move rfl) ?_
              refine V2.y (i := 1) (Nx2.of (Z := Cls w [] [.obj b59 [.int .i64 a1, .int .i64 a3] 55, .os []]) [] (by kernel_rfl) rfl (Zc.on (fun _ hw => hw.sel [0, 3] (by decide) rfl) (Zc.on (fun _ hw => hw.sel [0, 2] (by decide) rfl) (Zc.fin (fun _ hw => hw))))) rfl rfl rfl (Y.move rfl) ?_
              refine V2.nilc (i := 2) (Nx2.of (Z := Cls w [] [.obj b59 [.int .i64 a1, .int .i64 a3] 55, .os []]) [] (by kernel_rfl) rfl (Zc.on (fun _ hw => hw.sel [0, 3] (by decide) rfl) (Zc.on (fun _ hw => hw.sel [0, 2] (by decide) rfl) (Zc.fin (fun _ hw => hw))))) rfl rfl rfl ?_
              refine V2.y (i := 3) (Nx2.of (Z := Cls w [] [.obj b59 [.int .i64 a1, .int .i64 a3] 55, .os []]) [] (by kernel_rfl) rfl (Zc.on (fun _ hw => hw.sel [0, 3] (by decide) rfl) (Zc.on (fun _ hw => hw.sel [0, 2] (by decide) rfl) (Zc.fin (fun _ hw => hw))))) rfl rfl rfl (Y.fieldE fd50_1 rfl) ?_
              refine V2.y (i := 4) (Nx2.of (Z := Cls w [] [.obj b59 [.int .i64 a1, .int .i64 a3] 55, .sl v3 50 3 (zr TLockItem.rowv q4 l2), .os []]) [13] (by kernel_rfl) rfl (Zc.on (fun _ hw => hw.sel [0, 1, 3] (by decide) rfl) (Zc.at1 (fun _ hw => hw)))) rfl rfl rfl (Y.loadE (u := gv (q4 gx1.toNat) 0) ag48 rfl (fun w hw => As.at_ (hw.get (i := 1) rfl)) (zr_idx (vs := q4) ex24) rfl) ?_
              refine V2.y (i := 5) (Nx2.of (Z := Cls w [] [.obj b59 [.int .i64 a1, .int .i64 a3] 55, .os []]) [] (by kernel_rfl) rfl (Zc.on (fun _ hw => hw.sel [0, 3] (by decide) rfl) (Zc.on (fun _ hw => hw.sel [0, 2] (by decide) rfl) (Zc.fin (fun _ hw => hw))))) rfl rfl rfl (Y.fieldP fd55_0 rfl) ?_
              refine V2.y (i := 6) (Nx2.of (Z := Cls w [] [.obj b59 [.int .i64 a1, .int .i64 a3] 55, .os []]) [] (by kernel_rfl) rfl (Zc.on (fun _ hw => hw.sel [0, 3] (by decide) rfl) (Zc.on (fun _ hw => hw.sel [0, 2] (by decide) rfl) (Zc.fin (fun _ hw => hw))))) rfl rfl rfl (Y.loadP (i := 0) ag3 rfl rfl rfl) ?_
              refine V2.y (i := 7) (Nx2.of (Z := Cls w [] [.obj b59 [.int .i64 a1, .int .i64 a3] 55, .os []]) [] (by kernel_rfl) rfl (Zc.on (fun _ hw => hw.sel [0, 3] (by decide) rfl) (Zc.on (fun _ hw => hw.sel [0, 2] (by decide) rfl) (Zc.fin (fun _ hw => hw))))) rfl rfl rfl (Y.move rfl) ?_
              refine V2.y (i := 8) (Nx2.of (Z := Cls w [] [.obj b59 [.int .i64 a1, .int .i64 a3] 55, .os []]) [] (by kernel_rfl) rfl (Zc.on (fun _ hw => hw.sel [0, 3] (by decide) rfl) (Zc.on (fun _ hw => hw.sel [0, 2] (by decide) rfl) (Zc.fin (fun _ hw => hw))))) rfl rfl rfl (Y.build (cells := #[.int .i64 a1, .int .i64 x60]) rfl (by kernel_rfl)) ?_
              refine V2.eff (i := 9) (by kernel_rfl) rfl ?_
              refine L.litAgg rfl Try.underlying48 eL55 rfl rfl rfl ?_
              intro b75
              refine L.nil (E.toV2 (stC [[10, 13], [13]] [Cls w [] [.sl (sv b75 1) 55 2 (([(⟨a1, x60⟩ : TLock)]).map TLock.row), .obj b59 [.int .i64 a1, .int .i64 a3] 55, .sl v3 50 3 (zr TLockItem.rowv q4 l2), .ss (zs TLockItem.sds q4 l2), .os []], Cls w [] [.sl (sv b75 1) 55 2 (([(⟨a1, x60⟩ : TLock)]).map TLock.row), .obj b59 [.int .i64 a1, .int .i64 a3] 55, .sl v3 50 3 (zr TLockItem.rowv q4 l2), .os []]] (Cls w [] [.sl (sv b75 1) 55 2 (([(⟨a1, x60⟩ : TLock)]).map TLock.row), .obj b59 [.int .i64 a1, .int .i64 a3] 55, .os []])) 9 (by kernel_rfl) (Sc.stay (fun _ hw => hw.sel [1, 2, 3, 4] (by decide) rfl) (Sc.stay (fun _ hw => hw.sel [1, 2, 3] (by decide) rfl) (Sc.stayD (fun _ hw => hw.sel [1, 2] (by decide) rfl)))) (Sc.now (by kernel_rfl) (fun _ hw => hw)) ?_)
              refine V2.eff (i := 10) (by kernel_rfl) rfl ?_
              refine L.ssOut (sds := TLockItem.sds) (vs := q4) (s := 3) (j := 0) (c := 2) rfl (fun _ _ => rfl) ex24 rfl ?_
              refine L.appM (i := 0) (g := TLock.row) (l := x24.Held) (more := [(⟨a1, x60⟩ : TLock)]) h rfl Try.underlying48 eL55 rfl rfl rfl (fun w hw => As.at_ (hw.get (i := 1) rfl)) (plain_TLock _) rfl ?_
              intro v76 l77 el77 h
              refine L.nil (E.toV2 (stC [[13]] [Cls w [] [.sl v76 55 2 (l77.map TLock.row), .sl (sv b75 1) 55 2 (([(⟨a1, x60⟩ : TLock)]).map TLock.row), .obj b59 [.int .i64 a1, .int .i64 a3] 55, .sl v3 50 3 (zr TLockItem.rowv q4 l2), .os []]] (Cls w [] [.sl (sv b75 1) 55 2 (([(⟨a1, x60⟩ : TLock)]).map TLock.row), .obj b59 [.int .i64 a1, .int .i64 a3] 55, .os []])) 10 (by kernel_rfl) (Sc.past rfl (Sc.stay (fun _ hw => hw.sel [1, 2, 3, 4] (by decide) rfl) (Sc.stayD (fun _ hw => hw)))) (Sc.now (by kernel_rfl) (fun _ hw => hw.sel [0, 1, 2, 3, 5] (by decide) rfl)) ?_)
              refine V2.nilc (i := 11) (Nx2.of (Z := Cls w [] [.sl (sv b75 1) 55 2 (([(⟨a1, x60⟩ : TLock)]).map TLock.row), .obj b59 [.int .i64 a1, .int .i64 a3] 55, .os []]) [] (by kernel_rfl) rfl (Zc.on (fun _ hw => hw.sel [1, 2, 4] (by decide) rfl) (Zc.fin (fun _ hw => hw)))) rfl rfl rfl ?_
              refine V2.y (i := 12) (Nx2.of (Z := Cls w [] [.sl (sv b75 1) 55 2 (([(⟨a1, x60⟩ : TLock)]).map TLock.row), .obj b59 [.int .i64 a1, .int .i64 a3] 55, .os []]) [] (by kernel_rfl) rfl (Zc.on (fun _ hw => hw.sel [1, 2, 4] (by decide) rfl) (Zc.fin (fun _ hw => hw)))) rfl rfl rfl (Y.fieldE fd50_1 rfl) ?_
              refine V2.eff (i := 13) (by kernel_rfl) rfl ?_
              refine L.storeSlZS (row := TLockItem.rowv) (sds := TLockItem.sds) (vs := q4) (q := 3) (p := 0) (s := 4) (c := 2) (jj := 0) (u1 := (⟨x24.Item, l77, x24.Queue⟩ : TLockItem)) (v1 := [v76, gv (q4 gx1.toNat) 1]) (j := 1) h sz48 rfl rfl rfl rfl rfl rfl (.inr rfl) (fun _ _ => rfl) (fun _ _ => rfl) ex24 rfl rfl rfl rfl (by decide) ?_
              intro l78 q79 el78 h
              refine L.nil (E.toV2 (stC [] [] (Cls w [] [.sl (sv b75 1) 55 2 (([(⟨a1, x60⟩ : TLock)]).map TLock.row), .obj b59 [.int .i64 a1, .int .i64 a3] 55, .os []])) 13 (by kernel_rfl) (Sc.past rfl (Sc.stayD (fun _ hw => hw))) (Sc.atD (fun _ hw => hw.sel [0, 1, 4] (by decide) rfl)) ?_)
              refine V2.done (by kernel_rfl) ?_
              refine E.end0 rfl (fun w1 hw => ?_)
              exact ⟨_, _, rfl, ⟨l78, q79, rfl, rfl, h⟩, hw.sel [2, 3, 4] (by decide) rfl⟩
            ·
             rintro _ _ ⟨gl4, gq5, rfl, rfl, h⟩
             rw [m6_lock_Ask_K8] at h
             refine L.nil (E.thenN (W.seq (W.region (L.y rfl (Y.move rfl) ?_))))
             refine L.y rfl (Y.assign rfl) ?_
             refine L.y rfl (Y.assign rfl) ?_
             refine L.y rfl (Y.assign rfl) ?_
             refine L.nil (E.thenN (W.ret (E.KSR (E.frzS (i := 1) rfl rfl rfl ?_))))
             intro c53 mo54 hf55
             refine E.frz (i := 0) rfl rfl rfl ?_
             intro c56 mo57 hf58
             refine E.ret3 rfl rfl rfl rfl (fun w1 hw => ?_)
             obtain rfl := Option.some.inj h
             exact ⟨_, _, rfl, ⟨c56, rfl, v3, gq5, rfl, (hf58 K), ((hf55 K).mo mo57)⟩, hw⟩
           ·
            refine U.take rfl (U.y rfl (Y.pickF rfl rfl) ?_)
            refine U.y rfl (Y.pickT rfl rfl) ?_
            refine U.nil (E.thenN (W.condF rfl ?_))
            exact W.skip (E.joinJ ⟨rfl, rfl, h⟩ ⟨rfl, rfl, rfl, rfl, trivial⟩ (fun _ hw => hw))
         ·
          rintro _ _ ⟨rfl, rfl, h⟩
          rw [m6_lock_Ask_K6] at h
          refine W.seq (W.drawn2 (k := 11) (stC [[7, 10], [10]] [Cls w [] [.obj b25 [el v3 (gx1.toNat * 3)] 62, .obj b6 [.int .i64 a1, .int .i64 a3] 55, .sl v3 50 3 (zr TLockItem.rowv q4 l2), .ss (zs TLockItem.sds q4 l2), .os []], Cls w [] [.obj b25 [el v3 (gx1.toNat * 3)] 62, .obj b6 [.int .i64 a1, .int .i64 a3] 55, .sl v3 50 3 (zr TLockItem.rowv q4 l2), .os []]] (Cls w [] [.obj b25 [el v3 (gx1.toNat * 3)] 62, .obj b6 [.int .i64 a1, .int .i64 a3] 55, .os []])) rfl mixed (fun _ hw => hw.drew) (Sc.now (by kernel_rfl) (fun _ hw => hw)) ?_)
          refine V2.y (i := 0) (Nx2.of (Z := Cls w [] [.obj b25 [el v3 (gx1.toNat * 3)] 62, .obj b6 [.int .i64 a1, .int .i64 a3] 55, .os []]) [] (by kernel_rfl) rfl (Zc.on (fun _ hw => hw.sel [0, 1, 4] (by decide) rfl) (Zc.on (fun _ hw => hw.sel [0, 1, 3] (by decide) rfl) (Zc.fin (fun _ hw => hw))))) rfl rfl rfl (Y.loadP (i := 0) ag62 rfl rfl rfl) ?_
          refine V2.y (i := 1) (Nx2.of (Z := Cls w [] [.obj b25 [el v3 (gx1.toNat * 3)] 62, .obj b6 [.int .i64 a1, .int .i64 a3] 55, .os []]) [] (by kernel_rfl) rfl (Zc.on (fun _ hw => hw.sel [0, 1, 4] (by decide) rfl) (Zc.on (fun _ hw => hw.sel [0, 1, 3] (by decide) rfl) (Zc.fin (fun _ hw => hw))))) rfl rfl rfl (Y.loadP (i := 0) ag62 rfl rfl rfl) ?_
          refine V2.nilc (i := 2) (Nx2.of (Z := Cls w [] [.obj b25 [el v3 (gx1.toNat * 3)] 62, .obj b6 [.int .i64 a1, .int .i64 a3] 55, .os []]) [] (by kernel_rfl) rfl (Zc.on (fun _ hw => hw.sel [0, 1, 4] (by decide) rfl) (Zc.on (fun _ hw => hw.sel [0, 1, 3] (by decide) rfl) (Zc.fin (fun _ hw => hw))))) rfl rfl rfl ?_
          refine V2.y (i := 3) (Nx2.of (Z := Cls w [] [.obj b25 [el v3 (gx1.toNat * 3)] 62, .obj b6 [.int .i64 a1, .int .i64 a3] 55, .os []]) [] (by kernel_rfl) rfl (Zc.on (fun _ hw => hw.sel [0, 1, 4] (by decide) rfl) (Zc.on (fun _ hw => hw.sel [0, 1, 3] (by decide) rfl) (Zc.fin (fun _ hw => hw))))) rfl rfl rfl (Y.fieldE fd50_2 rfl) ?_
          refine V2.y (i := 4) (Nx2.of (Z := Cls w [] [.obj b25 [el v3 (gx1.toNat * 3)] 62, .obj b6 [.int .i64 a1, .int .i64 a3] 55, .sl v3 50 3 (zr TLockItem.rowv q4 l2), .os []]) [10] (by kernel_rfl) rfl (Zc.on (fun _ hw => hw.sel [0, 1, 2, 4] (by decide) rfl) (Zc.at1 (fun _ hw => hw)))) rfl rfl rfl (Y.loadE (u := gv (q4 gx1.toNat) 1) ag48 rfl (fun w hw => As.at_ (hw.get (i := 2) rfl)) (zr_idx (vs := q4) ex24) rfl) ?_
          refine V2.y (i := 5) (Nx2.of (Z := Cls w [] [.obj b25 [el v3 (gx1.toNat * 3)] 62, .obj b6 [.int .i64 a1, .int .i64 a3] 55, .os []]) [] (by kernel_rfl) rfl (Zc.on (fun _ hw => hw.sel [0, 1, 4] (by decide) rfl) (Zc.on (fun _ hw => hw.sel [0, 1, 3] (by decide) rfl) (Zc.fin (fun _ hw => hw))))) rfl rfl rfl (Y.loadPW (i := 1) ag55 sz55 rfl rfl rfl) ?_
          refine V2.eff (i := 6) (by kernel_rfl) rfl ?_
          refine L.litAgg rfl Try.underlying48 eL55 rfl rfl rfl ?_
          intro b39
          refine L.nil (E.toV2 (stC [[7, 10], [10]] [Cls w [] [.sl (sv b39 1) 55 2 (([(⟨a1, a3⟩ : TLock)]).map TLock.row), .obj b25 [el v3 (gx1.toNat * 3)] 62, .obj b6 [.int .i64 a1, .int .i64 a3] 55, .sl v3 50 3 (zr TLockItem.rowv q4 l2), .ss (zs TLockItem.sds q4 l2), .os []], Cls w [] [.sl (sv b39 1) 55 2 (([(⟨a1, a3⟩ : TLock)]).map TLock.row), .obj b25 [el v3 (gx1.toNat * 3)] 62, .obj b6 [.int .i64 a1, .int .i64 a3] 55, .sl v3 50 3 (zr TLockItem.rowv q4 l2), .os []]] (Cls w [] [.sl (sv b39 1) 55 2 (([(⟨a1, a3⟩ : TLock)]).map TLock.row), .obj b25 [el v3 (gx1.toNat * 3)] 62, .obj b6 [.int .i64 a1, .int .i64 a3] 55, .os []])) 6 (by kernel_rfl) (Sc.stay (fun _ hw => hw.sel [1, 2, 3, 4, 5] (by decide) rfl) (Sc.stay (fun _ hw => hw.sel [1, 2, 3, 4] (by decide) rfl) (Sc.stayD (fun _ hw => hw.sel [1, 2, 3] (by decide) rfl)))) (Sc.now (by kernel_rfl) (fun _ hw => hw)) ?_)
          refine V2.eff (i := 7) (by kernel_rfl) rfl ?_
          refine L.ssOut (sds := TLockItem.sds) (vs := q4) (s := 4) (j := 1) (c := 2) rfl (fun _ _ => rfl) ex24 rfl ?_
          refine L.appM (i := 0) (g := TLock.row) (l := x24.Queue) (more := [(⟨a1, a3⟩ : TLock)]) h rfl Try.underlying48 eL55 rfl rfl rfl (fun w hw => As.at_ (hw.get (i := 1) rfl)) (plain_TLock _) rfl ?_
          intro v40 l41 el41 h
          refine L.nil (E.toV2 (stC [[10]] [Cls w [] [.sl v40 55 2 (l41.map TLock.row), .sl (sv b39 1) 55 2 (([(⟨a1, a3⟩ : TLock)]).map TLock.row), .obj b25 [el v3 (gx1.toNat * 3)] 62, .obj b6 [.int .i64 a1, .int .i64 a3] 55, .sl v3 50 3 (zr TLockItem.rowv q4 l2), .os []]] (Cls w [] [.sl (sv b39 1) 55 2 (([(⟨a1, a3⟩ : TLock)]).map TLock.row), .obj b25 [el v3 (gx1.toNat * 3)] 62, .obj b6 [.int .i64 a1, .int .i64 a3] 55, .os []])) 7 (by kernel_rfl) (Sc.past rfl (Sc.stay (fun _ hw => hw.sel [1, 2, 3, 4, 5] (by decide) rfl) (Sc.stayD (fun _ hw => hw)))) (Sc.now (by kernel_rfl) (fun _ hw => hw.sel [0, 1, 2, 3, 4, 6] (by decide) rfl)) ?_)
          refine V2.nilc (i := 8) (Nx2.of (Z := Cls w [] [.sl (sv b39 1) 55 2 (([(⟨a1, a3⟩ : TLock)]).map TLock.row), .obj b25 [el v3 (gx1.toNat * 3)] 62, .obj b6 [.int .i64 a1, .int .i64 a3] 55, .os []]) [] (by kernel_rfl) rfl (Zc.on (fun _ hw => hw.sel [1, 2, 3, 5] (by decide) rfl) (Zc.fin (fun _ hw => hw)))) rfl rfl rfl ?_
          refine V2.y (i := 9) (Nx2.of (Z := Cls w [] [.sl (sv b39 1) 55 2 (([(⟨a1, a3⟩ : TLock)]).map TLock.row), .obj b25 [el v3 (gx1.toNat * 3)] 62, .obj b6 [.int .i64 a1, .int .i64 a3] 55, .os []]) [] (by kernel_rfl) rfl (Zc.on (fun _ hw => hw.sel [1, 2, 3, 5] (by decide) rfl) (Zc.fin (fun _ hw => hw)))) rfl rfl rfl (Y.fieldE fd50_2 rfl) ?_
          refine V2.eff (i := 10) (by kernel_rfl) rfl ?_
          refine L.storeSlZS (row := TLockItem.rowv) (sds := TLockItem.sds) (vs := q4) (q := 4) (p := 0) (s := 5) (c := 2) (jj := 1) (u1 := (⟨x24.Item, x24.Held, l41⟩ : TLockItem)) (v1 := [gv (q4 gx1.toNat) 0, v40]) (j := 2) h sz48 rfl rfl rfl rfl rfl rfl (.inr rfl) (fun _ _ => rfl) (fun _ _ => rfl) ex24 rfl rfl rfl rfl (by decide) ?_
          intro l42 q43 el42 h
          refine L.nil (E.toV2 (stC [] [] (Cls w [] [.sl (sv b39 1) 55 2 (([(⟨a1, a3⟩ : TLock)]).map TLock.row), .obj b25 [el v3 (gx1.toNat * 3)] 62, .obj b6 [.int .i64 a1, .int .i64 a3] 55, .os []])) 10 (by kernel_rfl) (Sc.past rfl (Sc.stayD (fun _ hw => hw))) (Sc.atD (fun _ hw => hw.sel [0, 1, 2, 5] (by decide) rfl)) ?_)
          refine V2.done (by kernel_rfl) ?_
          refine E.thenN (W.seqJ (fun gs D => gs = [(14, v3)] ∧ D = Cls w [] [.sl v3 50 3 (zr TLockItem.rowv q43 l42), .ss (zs TLockItem.sds q43 l42), .os []] ∧ m6_lock_Ask_K7 l42 = some r) ?_ ?_)
          ·
           refine W.seq (W.region (L.y rfl (Y.move rfl) ?_))
           refine L.nil (E.thenN (W.condF rfl ?_))
           exact W.skip (E.joinJ ⟨rfl, rfl, h⟩ ⟨rfl, trivial⟩ (fun _ hw => hw.sel [3, 4, 5] (by decide) rfl))
          ·
           rintro _ _ ⟨rfl, rfl, h⟩
           rw [m6_lock_Ask_K7] at h
           refine W.seq (W.region (L.y rfl (Y.move rfl) ?_))
           refine L.y rfl (Y.assign rfl) ?_
           refine L.y rfl (Y.assign rfl) ?_
           refine L.y rfl (Y.assign rfl) ?_
           refine L.nil (E.thenN (W.ret (E.frzS (i := 1) rfl rfl rfl ?_)))
           intro c44 mo45 hf46
           refine E.frz (i := 0) rfl rfl rfl ?_
           intro c47 mo48 hf49
           refine E.ret3 rfl rfl rfl rfl (fun w1 hw => ?_)
           obtain rfl := Option.some.inj h
           exact ⟨_, _, rfl, ⟨c47, rfl, v3, q43, rfl, (hf49 K), ((hf46 K).mo mo48)⟩, hw⟩
        ·
         replace h := iteT h
         refine W.seqJ (fun gs D => gs = [(14, v3), (15, pt b6 0), (18, pt b25 0), (19, .bool true)] ∧ D = Cls w [] [.obj b25 [el v3 (gx1.toNat * 3)] 62, .obj b6 [.int .i64 a1, .int .i64 a3] 55, .sl v3 50 3 (zr TLockItem.rowv q4 l2), .ss (zs TLockItem.sds q4 l2), .os []] ∧ m6_lock_Ask_K10 x24 a1 a3 l2 gx1 = some r) ?_ ?_
         ·
          refine W.seq (W.quietC mixed (by kernel_rfl) (fun _ hw => hw.drew) (fun hC => ?_))
          refine U.y rfl (Y.loadP (i := 0) ag62 rfl rfl rfl) ?_
          refine U.y rfl (Y.nilCheck rfl) ?_
          refine U.y rfl (Y.loadEN (r := [.int .i64 x24.Item, gv (q4 gx1.toNat) 0, gv (q4 gx1.toNat) 1]) ag50 sz50 rfl (fun w hw => As.at_ (hw.get (i := 2) rfl)) (zr_idx (vs := q4) ex24) rfl) ?_
          refine U.y rfl (Y.loadPW (i := 1) ag55 sz55 rfl rfl rfl) ?_
          obtain ⟨b158, e159, h⟩ := bind1S h
          refine U.y rfl (Y.does en26 rfl (fun w' hw => (w26_lock_can x24 (⟨a1, a3⟩ : TLock) (gv (q4 gx1.toNat) 0) (gv (q4 gx1.toNat) 1) w' _ e159 (As.atZ (sds := TLockItem.sds) (vs := q4) (j := 0) (c := 2) (hw.get (i := 3) rfl) (fun _ _ => rfl) ex24 rfl) (As.atZ (sds := TLockItem.sds) (vs := q4) (j := 1) (c := 2) (hw.get (i := 3) rfl) (fun _ _ => rfl) ex24 rfl)).mono (fun _ _ h => h.1))) ?_
          rcases b158 with _ | _
          ·
           replace h := iteF h
           refine U.y rfl (Y.move rfl) ?_
           refine U.pass rfl rfl (by nofun) ?_
           refine U.pass rfl rfl (by nofun) ?_
           refine U.pass rfl rfl (by nofun) ?_
           refine U.pass rfl rfl (by nofun) ?_
           refine U.pass rfl rfl (by nofun) ?_
           refine U.pass rfl rfl (by nofun) ?_
           refine U.pass rfl rfl (by nofun) ?_
           refine U.pass rfl rfl (by nofun) ?_
           refine U.pass rfl rfl (by nofun) ?_
           refine U.y rfl (Y.pickF rfl rfl) ?_
           refine U.nil (E.thenN (W.condF rfl ?_))
           exact W.skip (E.joinJ ⟨rfl, rfl, h⟩ ⟨rfl, rfl, rfl, rfl, trivial⟩ (fun _ hw => hw))
          ·
           replace h := iteT h
           refine U.y rfl (Y.move rfl) ?_
           refine U.take rfl (U.y rfl (Y.move rfl) ?_)
           refine U.take rfl (U.y rfl (Y.move rfl) ?_)
           refine U.pass rfl rfl (by nofun) ?_
           refine U.pass rfl rfl (by nofun) ?_
           refine U.pass rfl rfl (by nofun) ?_
           refine U.pass rfl rfl (by nofun) ?_
           refine U.pass rfl rfl (by nofun) ?_
           refine U.pass rfl rfl (by nofun) ?_
           refine U.take rfl (U.y rfl (Y.pickT rfl rfl) ?_)
           refine U.y rfl (Y.pickT rfl rfl) ?_
           refine U.nil (E.thenN (W.condT rfl ?_))
           refine W.seq (W.region (L.y rfl (Y.loadP (i := 0) ag62 rfl rfl rfl) ?_))
           refine L.y rfl (Y.loadPW (i := 1) ag55 sz55 rfl rfl rfl) ?_
           refine L.callJ (fun v D => ∃ (gl15 : (List TLockItem)) (gq16 : Nat → List Value), v = .tuple #[] ∧ D = Cls w [] [.sl v3 50 3 (zr TLockItem.rowv gq16 gl15), .ss (zs TLockItem.sds gq16 gl15), .os []] ∧ m6_lock_Ask_K17 gl15 = some r) rfl en27 rfl Try.func27 rfl rfl rfl ?_ ?_
           ·
            refine W.seq (W.region (L.box rfl rfl ?_))
            intro b166
            refine L.nil (E.thenN (W.seq (W.quietC mixed (by kernel_rfl) (fun _ hw => hw.drew) (fun hC => ?_))))
            refine U.y rfl (Y.move rfl) ?_
            refine U.y rfl (Y.nilCheck rfl) ?_
            refine U.y rfl (Y.loadEN (r := [.int .i64 x24.Item, gv (q4 gx1.toNat) 0, gv (q4 gx1.toNat) 1]) ag50 sz50 rfl (fun w hw => As.at_ (hw.get (i := 3) rfl)) (zr_idx (vs := q4) ex24) rfl) ?_
            refine U.y rfl (Y.loadPW (i := 0) ag55 sz55 rfl rfl rfl) ?_
            obtain ⟨x167, e168, h⟩ := bind1S h
            refine U.y rfl (Y.does en32 rfl (fun w' hw => (w32_lock_wish x24 (⟨a1, a3⟩ : TLock) (gv (q4 gx1.toNat) 0) (gv (q4 gx1.toNat) 1) w' _ e168 (As.atZ (sds := TLockItem.sds) (vs := q4) (j := 0) (c := 2) (hw.get (i := 4) rfl) (fun _ _ => rfl) ex24 rfl) (As.atZ (sds := TLockItem.sds) (vs := q4) (j := 1) (c := 2) (hw.get (i := 4) rfl) (fun _ _ => rfl) ex24 rfl)).mono (fun _ _ h => h.1))) ?_
            refine U.y rfl (Y.assign rfl) ?_
            refine U.nil (E.thenN (W.seqJ (fun gs D => gs = [(0, el v3 (gx1.toNat * 3)), (3, pt b166 0), (4, .int .i64 x167)] ∧ D = Cls w [] [.obj b166 [.int .i64 a1, .int .i64 a3] 55, .sl v3 50 3 (zr TLockItem.rowv q4 l2), .ss (zs TLockItem.sds q4 l2), .os []] ∧ m6_lock_Ask_K18 x24 a1 x167 l2 gx1 = some r) ?_ ?_))
            ·
             refine W.seq (W.region (L.y rfl (Y.move rfl) ?_))
             refine L.y rfl (Y.nilCheck rfl) ?_
             refine L.y rfl (Y.fieldE fd50_1 rfl) ?_
             refine L.y rfl (Y.loadE (u := gv (q4 gx1.toNat) 0) ag48 rfl (fun w hw => As.at_ (hw.get (i := 3) rfl)) (zr_idx (vs := q4) ex24) rfl) ?_
             refine L.y rfl (Y.lenM (g := TLock.row) (l := x24.Held) Try.underlying48 rfl (fun w hw => As.atZ (sds := TLockItem.sds) (vs := q4) (j := 0) (c := 2) (hw.get (i := 4) rfl) (fun _ _ => rfl) ex24 rfl)) ?_
             refine L.y rfl (Y.move rfl) ?_
             refine L.nil (E.thenN (W.block (W.loopJ (fun m gs D => ∃ (gx17 : Int), gs = [(0, el v3 (gx1.toNat * 3)), (3, pt b166 0), (4, .int .i64 x167), (15, .int .i64 (x24.Held.length : Int)), (16, .int .i64 gx17)] ∧ D = Cls w [] [.obj b166 [.int .i64 a1, .int .i64 a3] 55, .sl v3 50 3 (zr TLockItem.rowv q4 l2), .ss (zs TLockItem.sds q4 l2), .os []] ∧ m6_lock_Ask_L4 x24 a1 x167 l2 gx1 m gx17 = some r) ⟨0, rfl, rfl, h⟩ ⟨rfl, rfl, rfl, rfl, rfl, trivial⟩ (fun _ hw => hw.sel [0, 3, 4, 5] (by decide) rfl) ?_)))
             rintro m _ _ ⟨gx17, rfl, rfl, h⟩
             rcases m with _ | m
             · rw [m6_lock_Ask_L4] at h; cases h
             rw [m6_lock_Ask_L4] at h
             generalize hg4 : m6_lock_Ask_L4 x24 a1 x167 l2 gx1 m = go4 at h
             rw [m6_lock_Ask_L4B] at h
             refine W.seq (W.region (L.ite h rfl (Y.lss rfl rfl) (fun c187 h => ?_) (fun c187 h => ?_)))
             ·
              refine L.nil (E.thenN (W.seq (W.condT rfl ?_)))
              refine W.skip (E.thenN (W.seq (W.block (W.seq (W.region (L.y rfl (Y.move rfl) ?_))))))
              refine L.y rfl (Y.assign rfl) ?_
              refine L.nil (E.thenN (W.seq (W.quietC mixed (by kernel_rfl) (fun _ hw => hw.drew) (fun hC => ?_))))
              refine U.y rfl (Y.move rfl) ?_
              refine U.y rfl (Y.nilCheck rfl) ?_
              refine U.y rfl (Y.fieldE fd50_1 rfl) ?_
              refine U.y rfl (Y.loadE (u := gv (q4 gx1.toNat) 0) ag48 rfl (fun w hw => As.at_ (hw.get (i := 1) rfl)) (zr_idx (vs := q4) ex24) rfl) ?_
              refine U.y rfl (Y.move rfl) ?_
              refine U.m (V := fun _ => el (gv (q4 gx1.toNat) 0) (gx17.toNat * 2)) h rfl (Y.indexM (g := TLock.row) (l := x24.Held) Try.underlying48 sz55 rfl rfl (fun w hw => As.atZ (sds := TLockItem.sds) (vs := q4) (j := 0) (c := 2) (hw.get (i := 2) rfl) (fun _ _ => rfl) ex24 rfl)) (fun x188 ex188 h => ?_)
              refine U.y rfl (Y.fieldE fd55_0 rfl) ?_
              refine U.y rfl (Y.loadE (u := .int .i64 x188.Tx) ag3 rfl (fun w hw => As.atZ (sds := TLockItem.sds) (vs := q4) (j := 0) (c := 2) (hw.get (i := 2) rfl) (fun _ _ => rfl) ex24 rfl) (idx_map ex188) rfl) ?_
              refine U.y rfl (Y.fieldP fd55_0 rfl) ?_
              refine U.y rfl (Y.loadP (i := 0) ag3 rfl rfl rfl) ?_
              refine U.ite h rfl (Y.eql rfl rfl) (fun c189 h => ?_) (fun c189 h => ?_)
              ·
               refine U.nil (E.thenN (W.condT rfl ?_))
               refine W.seq (W.region (L.y rfl (Y.move rfl) ?_))
               refine L.y rfl (Y.nilCheck rfl) ?_
               refine L.y rfl (Y.fieldE fd50_1 rfl) ?_
               refine L.y rfl (Y.loadE (u := gv (q4 gx1.toNat) 0) ag48 rfl (fun w hw => As.at_ (hw.get (i := 1) rfl)) (zr_idx (vs := q4) ex24) rfl) ?_
               refine L.y rfl (Y.move rfl) ?_
               refine L.y rfl (Y.move rfl) ?_
               refine L.m (V := fun _ => el (gv (q4 gx1.toNat) 0) (gx17.toNat * 2)) h rfl (Y.indexM (g := TLock.row) (l := x24.Held) Try.underlying48 sz55 rfl rfl (fun w hw => As.atZ (sds := TLockItem.sds) (vs := q4) (j := 0) (c := 2) (hw.get (i := 2) rfl) (fun _ _ => rfl) ex24 rfl)) (fun x190 ex190 h => ?_)
               refine L.y rfl (Y.fieldE fd55_1 rfl) ?_
               refine L.ssOut (sds := TLockItem.sds) (vs := q4) (s := 2) (j := 0) (c := 2) rfl (fun _ _ => rfl) ex24 rfl ?_
               refine L.storeSlM (q := 0) (row := TLock.row) (vs := [.int .i64 x167]) (j := 1) (u1 := (⟨x190.Tx, x167⟩ : TLock)) h sz3 rfl rfl rfl rfl rfl (all1 rfl all0) rfl ex190 rfl rfl ?_
               intro l191 el191 h
               refine L.ssBack (row := TLockItem.rowv) (sds := TLockItem.sds) (vs := q4) (p := 0) (s := 3) (q := 2) (c := 2) (jj := 0) (u1 := (⟨x24.Item, l191, x24.Queue⟩ : TLockItem)) (fun z => .sl v3 50 3 z) h rfl rfl rfl (fun _ _ => rfl) ex24 rfl rfl rfl ?_
               intro l192 el192 h
               refine L.nil (E.thenN (W.ret (E.blockR (E.thenR (E.KLR (E.blockR (E.KSR (E.ret0 rfl (fun w1 hw => ?_)))))))))
               exact ⟨_, _, rfl, ⟨l192, q4, rfl, rfl, h⟩, hw.sel [1, 2, 3] (by decide) rfl⟩
              ·
               refine U.nil (E.thenN (W.condF rfl ?_))
               refine W.skip (E.blockN (E.thenN (W.region (L.m (V := fun x193 => .int .i64 x193) h rfl (Y.addM rfl rfl) (fun x193 ex193 h => ?_)))))
               refine L.y rfl (Y.move rfl) ?_
               exact L.nil (E.againJ ⟨x193, rfl, rfl, by rw [hg4]; exact h⟩ (Nat.lt_succ_self _) ⟨rfl, rfl, rfl, rfl, rfl, trivial⟩ (fun _ hw => hw))
             ·
              refine L.nil (E.thenN (W.seq (W.condF rfl ?_)))
              exact W.exit (E.thenX (E.KLX (E.blockX (E.joinJ ⟨rfl, rfl, h⟩ ⟨rfl, rfl, rfl, trivial⟩ (fun _ hw => hw)))))
            ·
             rintro _ _ ⟨rfl, rfl, h⟩
             rw [m6_lock_Ask_K18] at h
             refine W.drawn2 (k := 14) (stC [[10, 13], [13]] [Cls w [] [.obj b166 [.int .i64 a1, .int .i64 a3] 55, .sl v3 50 3 (zr TLockItem.rowv q4 l2), .ss (zs TLockItem.sds q4 l2), .os []], Cls w [] [.obj b166 [.int .i64 a1, .int .i64 a3] 55, .sl v3 50 3 (zr TLockItem.rowv q4 l2), .os []]] (Cls w [] [.obj b166 [.int .i64 a1, .int .i64 a3] 55, .os []])) rfl mixed (fun _ hw => hw.drew) (Sc.now (by kernel_rfl) (fun _ hw => hw)) ?_
             refine V2.y (i := 0) (Nx2.of (Z := Cls w [] [.obj b166 [.int .i64 a1, .int .i64 a3] 55, .os []]) [] (by kernel_rfl) rfl (Zc.on (fun _ hw => hw.sel [0, 3] (by decide) rfl) (Zc.on (fun _ hw => hw.sel [0, 2] (by decide) rfl) (Zc.fin (fun _ hw => hw))))) rfl rfl rfl (Y.move rfl) ?_
             refine V2.y (i := 1) (Nx2.of (Z := Cls w [] [.obj b166 [.int .i64 a1, .int .i64 a3] 55, .os []]) [] (by kernel_rfl) rfl (Zc.on (fun _ hw => hw.sel [0, 3] (by decide) rfl) (Zc.on (fun _ hw => hw.sel [0, 2] (by decide) rfl) (Zc.fin (fun _ hw => hw))))) rfl rfl rfl (Y.move rfl) ?_
             refine V2.nilc (i := 2) (Nx2.of (Z := Cls w [] [.obj b166 [.int .i64 a1, .int .i64 a3] 55, .os []]) [] (by kernel_rfl) rfl (Zc.on (fun _ hw => hw.sel [0, 3] (by decide) rfl) (Zc.on (fun _ hw => hw.sel [0, 2] (by decide) rfl) (Zc.fin (fun _ hw => hw))))) rfl rfl rfl ?_
             refine V2.y (i := 3) (Nx2.of (Z := Cls w [] [.obj b166 [.int .i64 a1, .int .i64 a3] 55, .os []]) [] (by kernel_rfl) rfl (Zc.on (fun _ hw => hw.sel [0, 3] (by decide) rfl) (Zc.on (fun _ hw => hw.sel [0, 2] (by decide) rfl) (Zc.fin (fun _ hw => hw))))) rfl rfl rfl (Y.fieldE fd50_1 rfl) ?_
             refine V2.y (i := 4) (Nx2.of (Z := Cls w [] [.obj b166 [.int .i64 a1, .int .i64 a3] 55, .sl v3 50 3 (zr TLockItem.rowv q4 l2), .os []]) [13] (by kernel_rfl) rfl (Zc.on (fun _ hw => hw.sel [0, 1, 3] (by decide) rfl) (Zc.at1 (fun _ hw => hw)))) rfl rfl rfl (Y.loadE (u := gv (q4 gx1.toNat) 0) ag48 rfl (fun w hw => As.at_ (hw.get (i := 1) rfl)) (zr_idx (vs := q4) ex24) rfl) ?_
             refine V2.y (i := 5) (Nx2.of (Z := Cls w [] [.obj b166 [.int .i64 a1, .int .i64 a3] 55, .os []]) [] (by kernel_rfl) rfl (Zc.on (fun _ hw => hw.sel [0, 3] (by decide) rfl) (Zc.on (fun _ hw => hw.sel [0, 2] (by decide) rfl) (Zc.fin (fun _ hw => hw))))) rfl rfl rfl (Y.fieldP fd55_0 rfl) ?_
             refine V2.y (i := 6) (Nx2.of (Z := Cls w [] [.obj b166 [.int .i64 a1, .int .i64 a3] 55, .os []]) [] (by kernel_rfl) rfl (Zc.on (fun _ hw => hw.sel [0, 3] (by decide) rfl) (Zc.on (fun _ hw => hw.sel [0, 2] (by decide) rfl) (Zc.fin (fun _ hw => hw))))) rfl rfl rfl (Y.loadP (i := 0) ag3 rfl rfl rfl) ?_
             refine V2.y (i := 7) (Nx2.of (Z := Cls w [] [.obj b166 [.int .i64 a1, .int .i64 a3] 55, .os []]) [] (by kernel_rfl) rfl (Zc.on (fun _ hw => hw.sel [0, 3] (by decide) rfl) (Zc.on (fun _ hw => hw.sel [0, 2] (by decide) rfl) (Zc.fin (fun _ hw => hw))))) rfl rfl rfl (Y.move rfl) ?_
             refine V2.y (i := 8) (Nx2.of (Z := Cls w [] [.obj b166 [.int .i64 a1, .int .i64 a3] 55, .os []]) [] (by kernel_rfl) rfl (Zc.on (fun _ hw => hw.sel [0, 3] (by decide) rfl) (Zc.on (fun _ hw => hw.sel [0, 2] (by decide) rfl) (Zc.fin (fun _ hw => hw))))) rfl rfl rfl (Y.build (cells := #[.int .i64 a1, .int .i64 x167]) rfl (by kernel_rfl)) ?_
             refine V2.eff (i := 9) (by kernel_rfl) rfl ?_
             refine L.litAgg rfl Try.underlying48 eL55 rfl rfl rfl ?_
             intro b182
             refine L.nil (E.toV2 (stC [[10, 13], [13]] [Cls w [] [.sl (sv b182 1) 55 2 (([(⟨a1, x167⟩ : TLock)]).map TLock.row), .obj b166 [.int .i64 a1, .int .i64 a3] 55, .sl v3 50 3 (zr TLockItem.rowv q4 l2), .ss (zs TLockItem.sds q4 l2), .os []], Cls w [] [.sl (sv b182 1) 55 2 (([(⟨a1, x167⟩ : TLock)]).map TLock.row), .obj b166 [.int .i64 a1, .int .i64 a3] 55, .sl v3 50 3 (zr TLockItem.rowv q4 l2), .os []]] (Cls w [] [.sl (sv b182 1) 55 2 (([(⟨a1, x167⟩ : TLock)]).map TLock.row), .obj b166 [.int .i64 a1, .int .i64 a3] 55, .os []])) 9 (by kernel_rfl) (Sc.stay (fun _ hw => hw.sel [1, 2, 3, 4] (by decide) rfl) (Sc.stay (fun _ hw => hw.sel [1, 2, 3] (by decide) rfl) (Sc.stayD (fun _ hw => hw.sel [1, 2] (by decide) rfl)))) (Sc.now (by kernel_rfl) (fun _ hw => hw)) ?_)
             refine V2.eff (i := 10) (by kernel_rfl) rfl ?_
             refine L.ssOut (sds := TLockItem.sds) (vs := q4) (s := 3) (j := 0) (c := 2) rfl (fun _ _ => rfl) ex24 rfl ?_
             refine L.appM (i := 0) (g := TLock.row) (l := x24.Held) (more := [(⟨a1, x167⟩ : TLock)]) h rfl Try.underlying48 eL55 rfl rfl rfl (fun w hw => As.at_ (hw.get (i := 1) rfl)) (plain_TLock _) rfl ?_
             intro v183 l184 el184 h
             refine L.nil (E.toV2 (stC [[13]] [Cls w [] [.sl v183 55 2 (l184.map TLock.row), .sl (sv b182 1) 55 2 (([(⟨a1, x167⟩ : TLock)]).map TLock.row), .obj b166 [.int .i64 a1, .int .i64 a3] 55, .sl v3 50 3 (zr TLockItem.rowv q4 l2), .os []]] (Cls w [] [.sl (sv b182 1) 55 2 (([(⟨a1, x167⟩ : TLock)]).map TLock.row), .obj b166 [.int .i64 a1, .int .i64 a3] 55, .os []])) 10 (by kernel_rfl) (Sc.past rfl (Sc.stay (fun _ hw => hw.sel [1, 2, 3, 4] (by decide) rfl) (Sc.stayD (fun _ hw => hw)))) (Sc.now (by kernel_rfl) (fun _ hw => hw.sel [0, 1, 2, 3, 5] (by decide) rfl)) ?_)
             refine V2.nilc (i := 11) (Nx2.of (Z := Cls w [] [.sl (sv b182 1) 55 2 (([(⟨a1, x167⟩ : TLock)]).map TLock.row), .obj b166 [.int .i64 a1, .int .i64 a3] 55, .os []]) [] (by kernel_rfl) rfl (Zc.on (fun _ hw => hw.sel [1, 2, 4] (by decide) rfl) (Zc.fin (fun _ hw => hw)))) rfl rfl rfl ?_
             refine V2.y (i := 12) (Nx2.of (Z := Cls w [] [.sl (sv b182 1) 55 2 (([(⟨a1, x167⟩ : TLock)]).map TLock.row), .obj b166 [.int .i64 a1, .int .i64 a3] 55, .os []]) [] (by kernel_rfl) rfl (Zc.on (fun _ hw => hw.sel [1, 2, 4] (by decide) rfl) (Zc.fin (fun _ hw => hw)))) rfl rfl rfl (Y.fieldE fd50_1 rfl) ?_
             refine V2.eff (i := 13) (by kernel_rfl) rfl ?_
             refine L.storeSlZS (row := TLockItem.rowv) (sds := TLockItem.sds) (vs := q4) (q := 3) (p := 0) (s := 4) (c := 2) (jj := 0) (u1 := (⟨x24.Item, l184, x24.Queue⟩ : TLockItem)) (v1 := [v183, gv (q4 gx1.toNat) 1]) (j := 1) h sz48 rfl rfl rfl rfl rfl rfl (.inr rfl) (fun _ _ => rfl) (fun _ _ => rfl) ex24 rfl rfl rfl rfl (by decide) ?_
             intro l185 q186 el185 h
             refine L.nil (E.toV2 (stC [] [] (Cls w [] [.sl (sv b182 1) 55 2 (([(⟨a1, x167⟩ : TLock)]).map TLock.row), .obj b166 [.int .i64 a1, .int .i64 a3] 55, .os []])) 13 (by kernel_rfl) (Sc.past rfl (Sc.stayD (fun _ hw => hw))) (Sc.atD (fun _ hw => hw.sel [0, 1, 4] (by decide) rfl)) ?_)
             refine V2.done (by kernel_rfl) ?_
             refine E.end0 rfl (fun w1 hw => ?_)
             exact ⟨_, _, rfl, ⟨l185, q186, rfl, rfl, h⟩, hw.sel [2, 3, 4] (by decide) rfl⟩
           ·
            rintro _ _ ⟨gl15, gq16, rfl, rfl, h⟩
            rw [m6_lock_Ask_K17] at h
            refine L.nil (E.thenN (W.seq (W.region (L.y rfl (Y.move rfl) ?_))))
            refine L.y rfl (Y.assign rfl) ?_
            refine L.y rfl (Y.assign rfl) ?_
            refine L.y rfl (Y.assign rfl) ?_
            refine L.nil (E.thenN (W.ret (E.KSR (E.frzS (i := 1) rfl rfl rfl ?_))))
            intro c160 mo161 hf162
            refine E.frz (i := 0) rfl rfl rfl ?_
            intro c163 mo164 hf165
            refine E.ret3 rfl rfl rfl rfl (fun w1 hw => ?_)
            obtain rfl := Option.some.inj h
            exact ⟨_, _, rfl, ⟨c163, rfl, v3, gq16, rfl, (hf165 K), ((hf162 K).mo mo164)⟩, hw⟩
         ·
          rintro _ _ ⟨rfl, rfl, h⟩
          rw [m6_lock_Ask_K10] at h
          refine W.seq (W.drawn2 (k := 11) (stC [[7, 10], [10]] [Cls w [] [.obj b25 [el v3 (gx1.toNat * 3)] 62, .obj b6 [.int .i64 a1, .int .i64 a3] 55, .sl v3 50 3 (zr TLockItem.rowv q4 l2), .ss (zs TLockItem.sds q4 l2), .os []], Cls w [] [.obj b25 [el v3 (gx1.toNat * 3)] 62, .obj b6 [.int .i64 a1, .int .i64 a3] 55, .sl v3 50 3 (zr TLockItem.rowv q4 l2), .os []]] (Cls w [] [.obj b25 [el v3 (gx1.toNat * 3)] 62, .obj b6 [.int .i64 a1, .int .i64 a3] 55, .os []])) rfl mixed (fun _ hw => hw.drew) (Sc.now (by kernel_rfl) (fun _ hw => hw)) ?_)
          refine V2.y (i := 0) (Nx2.of (Z := Cls w [] [.obj b25 [el v3 (gx1.toNat * 3)] 62, .obj b6 [.int .i64 a1, .int .i64 a3] 55, .os []]) [] (by kernel_rfl) rfl (Zc.on (fun _ hw => hw.sel [0, 1, 4] (by decide) rfl) (Zc.on (fun _ hw => hw.sel [0, 1, 3] (by decide) rfl) (Zc.fin (fun _ hw => hw))))) rfl rfl rfl (Y.loadP (i := 0) ag62 rfl rfl rfl) ?_
          refine V2.y (i := 1) (Nx2.of (Z := Cls w [] [.obj b25 [el v3 (gx1.toNat * 3)] 62, .obj b6 [.int .i64 a1, .int .i64 a3] 55, .os []]) [] (by kernel_rfl) rfl (Zc.on (fun _ hw => hw.sel [0, 1, 4] (by decide) rfl) (Zc.on (fun _ hw => hw.sel [0, 1, 3] (by decide) rfl) (Zc.fin (fun _ hw => hw))))) rfl rfl rfl (Y.loadP (i := 0) ag62 rfl rfl rfl) ?_
          refine V2.nilc (i := 2) (Nx2.of (Z := Cls w [] [.obj b25 [el v3 (gx1.toNat * 3)] 62, .obj b6 [.int .i64 a1, .int .i64 a3] 55, .os []]) [] (by kernel_rfl) rfl (Zc.on (fun _ hw => hw.sel [0, 1, 4] (by decide) rfl) (Zc.on (fun _ hw => hw.sel [0, 1, 3] (by decide) rfl) (Zc.fin (fun _ hw => hw))))) rfl rfl rfl ?_
          refine V2.y (i := 3) (Nx2.of (Z := Cls w [] [.obj b25 [el v3 (gx1.toNat * 3)] 62, .obj b6 [.int .i64 a1, .int .i64 a3] 55, .os []]) [] (by kernel_rfl) rfl (Zc.on (fun _ hw => hw.sel [0, 1, 4] (by decide) rfl) (Zc.on (fun _ hw => hw.sel [0, 1, 3] (by decide) rfl) (Zc.fin (fun _ hw => hw))))) rfl rfl rfl (Y.fieldE fd50_2 rfl) ?_
          refine V2.y (i := 4) (Nx2.of (Z := Cls w [] [.obj b25 [el v3 (gx1.toNat * 3)] 62, .obj b6 [.int .i64 a1, .int .i64 a3] 55, .sl v3 50 3 (zr TLockItem.rowv q4 l2), .os []]) [10] (by kernel_rfl) rfl (Zc.on (fun _ hw => hw.sel [0, 1, 2, 4] (by decide) rfl) (Zc.at1 (fun _ hw => hw)))) rfl rfl rfl (Y.loadE (u := gv (q4 gx1.toNat) 1) ag48 rfl (fun w hw => As.at_ (hw.get (i := 2) rfl)) (zr_idx (vs := q4) ex24) rfl) ?_
          refine V2.y (i := 5) (Nx2.of (Z := Cls w [] [.obj b25 [el v3 (gx1.toNat * 3)] 62, .obj b6 [.int .i64 a1, .int .i64 a3] 55, .os []]) [] (by kernel_rfl) rfl (Zc.on (fun _ hw => hw.sel [0, 1, 4] (by decide) rfl) (Zc.on (fun _ hw => hw.sel [0, 1, 3] (by decide) rfl) (Zc.fin (fun _ hw => hw))))) rfl rfl rfl (Y.loadPW (i := 1) ag55 sz55 rfl rfl rfl) ?_
          refine V2.eff (i := 6) (by kernel_rfl) rfl ?_
          refine L.litAgg rfl Try.underlying48 eL55 rfl rfl rfl ?_
          intro b100
          refine L.nil (E.toV2 (stC [[7, 10], [10]] [Cls w [] [.sl (sv b100 1) 55 2 (([(⟨a1, a3⟩ : TLock)]).map TLock.row), .obj b25 [el v3 (gx1.toNat * 3)] 62, .obj b6 [.int .i64 a1, .int .i64 a3] 55, .sl v3 50 3 (zr TLockItem.rowv q4 l2), .ss (zs TLockItem.sds q4 l2), .os []], Cls w [] [.sl (sv b100 1) 55 2 (([(⟨a1, a3⟩ : TLock)]).map TLock.row), .obj b25 [el v3 (gx1.toNat * 3)] 62, .obj b6 [.int .i64 a1, .int .i64 a3] 55, .sl v3 50 3 (zr TLockItem.rowv q4 l2), .os []]] (Cls w [] [.sl (sv b100 1) 55 2 (([(⟨a1, a3⟩ : TLock)]).map TLock.row), .obj b25 [el v3 (gx1.toNat * 3)] 62, .obj b6 [.int .i64 a1, .int .i64 a3] 55, .os []])) 6 (by kernel_rfl) (Sc.stay (fun _ hw => hw.sel [1, 2, 3, 4, 5] (by decide) rfl) (Sc.stay (fun _ hw => hw.sel [1, 2, 3, 4] (by decide) rfl) (Sc.stayD (fun _ hw => hw.sel [1, 2, 3] (by decide) rfl)))) (Sc.now (by kernel_rfl) (fun _ hw => hw)) ?_)
          refine V2.eff (i := 7) (by kernel_rfl) rfl ?_
          refine L.ssOut (sds := TLockItem.sds) (vs := q4) (s := 4) (j := 1) (c := 2) rfl (fun _ _ => rfl) ex24 rfl ?_
          refine L.appM (i := 0) (g := TLock.row) (l := x24.Queue) (more := [(⟨a1, a3⟩ : TLock)]) h rfl Try.underlying48 eL55 rfl rfl rfl (fun w hw => As.at_ (hw.get (i := 1) rfl)) (plain_TLock _) rfl ?_
          intro v101 l102 el102 h
          refine L.nil (E.toV2 (stC [[10]] [Cls w [] [.sl v101 55 2 (l102.map TLock.row), .sl (sv b100 1) 55 2 (([(⟨a1, a3⟩ : TLock)]).map TLock.row), .obj b25 [el v3 (gx1.toNat * 3)] 62, .obj b6 [.int .i64 a1, .int .i64 a3] 55, .sl v3 50 3 (zr TLockItem.rowv q4 l2), .os []]] (Cls w [] [.sl (sv b100 1) 55 2 (([(⟨a1, a3⟩ : TLock)]).map TLock.row), .obj b25 [el v3 (gx1.toNat * 3)] 62, .obj b6 [.int .i64 a1, .int .i64 a3] 55, .os []])) 7 (by kernel_rfl) (Sc.past rfl (Sc.stay (fun _ hw => hw.sel [1, 2, 3, 4, 5] (by decide) rfl) (Sc.stayD (fun _ hw => hw)))) (Sc.now (by kernel_rfl) (fun _ hw => hw.sel [0, 1, 2, 3, 4, 6] (by decide) rfl)) ?_)
          refine V2.nilc (i := 8) (Nx2.of (Z := Cls w [] [.sl (sv b100 1) 55 2 (([(⟨a1, a3⟩ : TLock)]).map TLock.row), .obj b25 [el v3 (gx1.toNat * 3)] 62, .obj b6 [.int .i64 a1, .int .i64 a3] 55, .os []]) [] (by kernel_rfl) rfl (Zc.on (fun _ hw => hw.sel [1, 2, 3, 5] (by decide) rfl) (Zc.fin (fun _ hw => hw)))) rfl rfl rfl ?_
          refine V2.y (i := 9) (Nx2.of (Z := Cls w [] [.sl (sv b100 1) 55 2 (([(⟨a1, a3⟩ : TLock)]).map TLock.row), .obj b25 [el v3 (gx1.toNat * 3)] 62, .obj b6 [.int .i64 a1, .int .i64 a3] 55, .os []]) [] (by kernel_rfl) rfl (Zc.on (fun _ hw => hw.sel [1, 2, 3, 5] (by decide) rfl) (Zc.fin (fun _ hw => hw)))) rfl rfl rfl (Y.fieldE fd50_2 rfl) ?_
          refine V2.eff (i := 10) (by kernel_rfl) rfl ?_
          refine L.storeSlZS (row := TLockItem.rowv) (sds := TLockItem.sds) (vs := q4) (q := 4) (p := 0) (s := 5) (c := 2) (jj := 1) (u1 := (⟨x24.Item, x24.Held, l102⟩ : TLockItem)) (v1 := [gv (q4 gx1.toNat) 0, v101]) (j := 2) h sz48 rfl rfl rfl rfl rfl rfl (.inr rfl) (fun _ _ => rfl) (fun _ _ => rfl) ex24 rfl rfl rfl rfl (by decide) ?_
          intro l103 q104 el103 h
          refine L.nil (E.toV2 (stC [] [] (Cls w [] [.sl (sv b100 1) 55 2 (([(⟨a1, a3⟩ : TLock)]).map TLock.row), .obj b25 [el v3 (gx1.toNat * 3)] 62, .obj b6 [.int .i64 a1, .int .i64 a3] 55, .os []])) 10 (by kernel_rfl) (Sc.past rfl (Sc.stayD (fun _ hw => hw))) (Sc.atD (fun _ hw => hw.sel [0, 1, 2, 5] (by decide) rfl)) ?_)
          refine V2.done (by kernel_rfl) ?_
          refine E.thenN (W.seqJ (fun gs D => ∃ (gl7 : (List TLockItem)) (gq8 : Nat → List Value), gs = [(14, v3)] ∧ D = Cls w [] [.sl v3 50 3 (zr TLockItem.rowv gq8 gl7), .ss (zs TLockItem.sds gq8 gl7), .os []] ∧ m6_lock_Ask_K11 gl7 = some r) ?_ ?_)
          ·
           refine W.seq (W.region (L.y rfl (Y.move rfl) ?_))
           refine L.nil (E.thenN (W.condT rfl ?_))
           refine W.seq (W.region (L.alloc rfl ze3 ?_))
           intro b111
           refine L.store (i := 0) (vs := [.int .i64 0]) sz3 rfl rfl rfl rfl (by simp [Value.oneCell', Value.cells, st, pt, el]) rfl (Nat.le_of_ble_eq_true rfl) ?_
           refine L.nil (E.thenN (W.seqJ (fun gs D => ∃ (gx9 : Int), gs = [(14, v3), (15, pt b6 0), (18, pt b25 0), (20, pt b111 0)] ∧ D = Cls w [] [.obj b111 [.int .i64 gx9] 3, .obj b25 [el v3 (gx1.toNat * 3)] 62, .obj b6 [.int .i64 a1, .int .i64 a3] 55, .sl v3 50 3 (zr TLockItem.rowv q104 l103), .ss (zs TLockItem.sds q104 l103), .os []] ∧ m6_lock_Ask_K12 l103 gx1 a1 a3 gx9 = some r) ?_ ?_))
           ·
            refine W.block (W.loopJ (fun m gs D => ∃ (gx10 : Int), gs = [(14, v3), (15, pt b6 0), (18, pt b25 0), (20, pt b111 0)] ∧ D = Cls w [] [.obj b111 [.int .i64 gx10] 3, .obj b25 [el v3 (gx1.toNat * 3)] 62, .obj b6 [.int .i64 a1, .int .i64 a3] 55, .sl v3 50 3 (zr TLockItem.rowv q104 l103), .ss (zs TLockItem.sds q104 l103), .os []] ∧ m6_lock_Ask_L2 l103 gx1 a1 a3 m gx10 = some r) ⟨0, rfl, rfl, h⟩ ⟨rfl, rfl, rfl, rfl, trivial⟩ (fun _ hw => hw.sel [0, 2, 3, 4, 5, 6] (by decide) rfl) ?_)
            rintro m _ _ ⟨gx10, rfl, rfl, h⟩
            rcases m with _ | m
            · rw [m6_lock_Ask_L2] at h; cases h
            rw [m6_lock_Ask_L2] at h
            generalize hg2 : m6_lock_Ask_L2 l103 gx1 a1 a3 m = go2 at h
            rw [m6_lock_Ask_L2B] at h
            refine W.seq (W.seq (W.drawn2 (k := 16) (stC [] [] (Cls w [] [.obj b111 [.int .i64 gx10] 3, .obj b25 [el v3 (gx1.toNat * 3)] 62, .obj b6 [.int .i64 a1, .int .i64 a3] 55, .sl v3 50 3 (zr TLockItem.rowv q104 l103), .ss (zs TLockItem.sds q104 l103), .os []])) rfl mixed (fun _ hw => hw.drew) (Sc.atD (fun _ hw => hw)) ?_))
            refine V2.y (i := 0) (Nx2.of (Z := Cls w [] [.obj b111 [.int .i64 gx10] 3, .obj b25 [el v3 (gx1.toNat * 3)] 62, .obj b6 [.int .i64 a1, .int .i64 a3] 55, .sl v3 50 3 (zr TLockItem.rowv q104 l103), .ss (zs TLockItem.sds q104 l103), .os []]) [] (by kernel_rfl) rfl (Zc.fin (fun _ hw => hw))) rfl rfl rfl (Y.loadP (i := 0) ag3 rfl rfl rfl) ?_
            refine V2.y (i := 1) (Nx2.of (Z := Cls w [] [.obj b111 [.int .i64 gx10] 3, .obj b25 [el v3 (gx1.toNat * 3)] 62, .obj b6 [.int .i64 a1, .int .i64 a3] 55, .sl v3 50 3 (zr TLockItem.rowv q104 l103), .ss (zs TLockItem.sds q104 l103), .os []]) [] (by kernel_rfl) rfl (Zc.fin (fun _ hw => hw))) rfl rfl rfl (Y.loadP (i := 1) ag62 rfl rfl rfl) ?_
            refine V2.nilc (i := 2) (Nx2.of (Z := Cls w [] [.obj b111 [.int .i64 gx10] 3, .obj b25 [el v3 (gx1.toNat * 3)] 62, .obj b6 [.int .i64 a1, .int .i64 a3] 55, .sl v3 50 3 (zr TLockItem.rowv q104 l103), .ss (zs TLockItem.sds q104 l103), .os []]) [] (by kernel_rfl) rfl (Zc.fin (fun _ hw => hw))) rfl rfl rfl ?_
            refine V2.y (i := 3) (Nx2.of (Z := Cls w [] [.obj b111 [.int .i64 gx10] 3, .obj b25 [el v3 (gx1.toNat * 3)] 62, .obj b6 [.int .i64 a1, .int .i64 a3] 55, .sl v3 50 3 (zr TLockItem.rowv q104 l103), .ss (zs TLockItem.sds q104 l103), .os []]) [] (by kernel_rfl) rfl (Zc.fin (fun _ hw => hw))) rfl rfl rfl (Y.fieldE fd50_2 rfl) ?_
            obtain ⟨x149, ex149, h⟩ := bind1S h
            refine V2.y (i := 4) (Nx2.of (Z := Cls w [] [.obj b111 [.int .i64 gx10] 3, .obj b25 [el v3 (gx1.toNat * 3)] 62, .obj b6 [.int .i64 a1, .int .i64 a3] 55, .sl v3 50 3 (zr TLockItem.rowv q104 l103), .ss (zs TLockItem.sds q104 l103), .os []]) [] (by kernel_rfl) rfl (Zc.fin (fun _ hw => hw))) rfl rfl rfl (Y.loadE (u := gv (q104 gx1.toNat) 1) ag48 rfl (fun w hw => As.at_ (hw.get (i := 3) rfl)) (zr_idx (vs := q104) ex149) rfl) ?_
            refine V2.y (i := 5) (Nx2.of (Z := Cls w [] [.obj b111 [.int .i64 gx10] 3, .obj b25 [el v3 (gx1.toNat * 3)] 62, .obj b6 [.int .i64 a1, .int .i64 a3] 55, .sl v3 50 3 (zr TLockItem.rowv q104 l103), .ss (zs TLockItem.sds q104 l103), .os []]) [] (by kernel_rfl) rfl (Zc.fin (fun _ hw => hw))) rfl rfl rfl (Y.lenM (g := TLock.row) (l := x149.Queue) Try.underlying48 rfl (fun w hw => As.atZ (sds := TLockItem.sds) (vs := q104) (j := 1) (c := 2) (hw.get (i := 4) rfl) (fun _ _ => rfl) ex149 rfl)) ?_
            refine V2.m (i := 6) (V' := fun x150 => .int .i64 x150) h (Nx2.of (Z := Cls w [] [.obj b111 [.int .i64 gx10] 3, .obj b25 [el v3 (gx1.toNat * 3)] 62, .obj b6 [.int .i64 a1, .int .i64 a3] 55, .sl v3 50 3 (zr TLockItem.rowv q104 l103), .ss (zs TLockItem.sds q104 l103), .os []]) [] (by kernel_rfl) rfl (Zc.fin (fun _ hw => hw))) rfl rfl rfl (Y.subM rfl rfl) (fun x150 ex150 h => ?_)
            refine V2.ite (i := 7) h (Nx2.of (Z := Cls w [] [.obj b111 [.int .i64 gx10] 3, .obj b25 [el v3 (gx1.toNat * 3)] 62, .obj b6 [.int .i64 a1, .int .i64 a3] 55, .sl v3 50 3 (zr TLockItem.rowv q104 l103), .ss (zs TLockItem.sds q104 l103), .os []]) [] (by kernel_rfl) rfl (Zc.fin (fun _ hw => hw))) rfl rfl rfl (Y.lss rfl rfl) (fun c151 h => ?_) (fun c151 h => ?_)
            ·
             refine V2.y (i := 8) (Nx2.of (Z := Cls w [] [.obj b111 [.int .i64 gx10] 3, .obj b25 [el v3 (gx1.toNat * 3)] 62, .obj b6 [.int .i64 a1, .int .i64 a3] 55, .sl v3 50 3 (zr TLockItem.rowv q104 l103), .ss (zs TLockItem.sds q104 l103), .os []]) [] (by kernel_rfl) rfl (Zc.fin (fun _ hw => hw))) rfl rfl rfl (Y.move rfl) ?_
             refine V2.y (i := 9) (Nx2.of (Z := Cls w [] [.obj b111 [.int .i64 gx10] 3, .obj b25 [el v3 (gx1.toNat * 3)] 62, .obj b6 [.int .i64 a1, .int .i64 a3] 55, .sl v3 50 3 (zr TLockItem.rowv q104 l103), .ss (zs TLockItem.sds q104 l103), .os []]) [] (by kernel_rfl) rfl (Zc.fin (fun _ hw => hw))) rfl rfl rfl (Y.loadP (i := 1) ag62 rfl rfl rfl) ?_
             refine V2.nilc (i := 10) (Nx2.of (Z := Cls w [] [.obj b111 [.int .i64 gx10] 3, .obj b25 [el v3 (gx1.toNat * 3)] 62, .obj b6 [.int .i64 a1, .int .i64 a3] 55, .sl v3 50 3 (zr TLockItem.rowv q104 l103), .ss (zs TLockItem.sds q104 l103), .os []]) [] (by kernel_rfl) rfl (Zc.fin (fun _ hw => hw))) rfl rfl rfl ?_
             refine V2.y (i := 11) (Nx2.of (Z := Cls w [] [.obj b111 [.int .i64 gx10] 3, .obj b25 [el v3 (gx1.toNat * 3)] 62, .obj b6 [.int .i64 a1, .int .i64 a3] 55, .sl v3 50 3 (zr TLockItem.rowv q104 l103), .ss (zs TLockItem.sds q104 l103), .os []]) [] (by kernel_rfl) rfl (Zc.fin (fun _ hw => hw))) rfl rfl rfl (Y.fieldE fd50_1 rfl) ?_
             refine V2.y (i := 12) (Nx2.of (Z := Cls w [] [.obj b111 [.int .i64 gx10] 3, .obj b25 [el v3 (gx1.toNat * 3)] 62, .obj b6 [.int .i64 a1, .int .i64 a3] 55, .sl v3 50 3 (zr TLockItem.rowv q104 l103), .ss (zs TLockItem.sds q104 l103), .os []]) [] (by kernel_rfl) rfl (Zc.fin (fun _ hw => hw))) rfl rfl rfl (Y.loadE (u := gv (q104 gx1.toNat) 0) ag48 rfl (fun w hw => As.at_ (hw.get (i := 3) rfl)) (zr_idx (vs := q104) ex149) rfl) ?_
             refine V2.y (i := 13) (Nx2.of (Z := Cls w [] [.obj b111 [.int .i64 gx10] 3, .obj b25 [el v3 (gx1.toNat * 3)] 62, .obj b6 [.int .i64 a1, .int .i64 a3] 55, .sl v3 50 3 (zr TLockItem.rowv q104 l103), .ss (zs TLockItem.sds q104 l103), .os []]) [] (by kernel_rfl) rfl (Zc.fin (fun _ hw => hw))) rfl rfl rfl (Y.func rfl) ?_
             refine V2.eff (i := 14) (by kernel_rfl) rfl ?_
             refine L.take rfl (L.callJ (fun v D => ∃ (gb11 : Bool), v = .bool gb11 ∧ D = Cls w [] [.obj b111 [.int .i64 gx10] 3, .obj b25 [el v3 (gx1.toNat * 3)] 62, .obj b6 [.int .i64 a1, .int .i64 a3] 55, .sl v3 50 3 (zr TLockItem.rowv q104 l103), .ss (zs TLockItem.sds q104 l103), .os []] ∧ m6_lock_Ask_K13 gx10 go2 l103 gx1 a1 a3 gb11 = some r) rfl en19 rfl Try.func19 rfl rfl rfl ?_ ?_)
             ·
              refine W.seq (W.region (L.y rfl (Y.assign rfl) ?_))
              refine L.nil (E.thenN (W.seq (W.region (L.y rfl (Y.move rfl) ?_))))
              refine L.y rfl (Y.move rfl) ?_
              refine L.callJ (fun v D => ∃ (gx12 : Int), v = .int .i64 gx12 ∧ D = Cls w [] [.obj b111 [.int .i64 gx10] 3, .obj b25 [el v3 (gx1.toNat * 3)] 62, .obj b6 [.int .i64 a1, .int .i64 a3] 55, .sl v3 50 3 (zr TLockItem.rowv q104 l103), .ss (zs TLockItem.sds q104 l103), .os []] ∧ m6_lock_Ask_K14 gx10 go2 l103 gx1 a1 a3 gx12 = some r) rfl en35 rfl Try.func35 rfl rfl rfl ?_ ?_
              ·
               refine W.seq (W.region (L.y rfl (Y.assign rfl) ?_))
               refine L.nil (E.thenN (W.seqJ (fun gs D => gs = [] ∧ D = Cls w [] [.obj b111 [.int .i64 gx10] 3, .obj b25 [el v3 (gx1.toNat * 3)] 62, .obj b6 [.int .i64 a1, .int .i64 a3] 55, .sl v3 50 3 (zr TLockItem.rowv q104 l103), .ss (zs TLockItem.sds q104 l103), .os []] ∧ m6_lock_Ask_K15 gx10 go2 l103 gx1 a1 a3 = some r) ?_ ?_))
               ·
                refine W.seq (W.region (L.y rfl (Y.move rfl) ?_))
                refine L.y rfl (Y.lenM (g := TLock.row) (l := x149.Held) Try.underlying48 rfl (fun w hw => As.atZ (sds := TLockItem.sds) (vs := q104) (j := 0) (c := 2) (hw.get (i := 4) rfl) (fun _ _ => rfl) ex149 rfl)) ?_
                refine L.y rfl (Y.move rfl) ?_
                refine L.nil (E.thenN (W.block (W.loopJ (fun m gs D => ∃ (gx13 : Int), gs = [(0, gv (q104 gx1.toNat) 0), (1, .func (.func 28) #[] #[pt b25 0, pt b111 0]), (7, .int .i64 (x149.Held.length : Int)), (8, .int .i64 gx13)] ∧ D = Cls w [] [.obj b111 [.int .i64 gx10] 3, .obj b25 [el v3 (gx1.toNat * 3)] 62, .obj b6 [.int .i64 a1, .int .i64 a3] 55, .sl v3 50 3 (zr TLockItem.rowv q104 l103), .ss (zs TLockItem.sds q104 l103), .os []] ∧ m6_lock_Ask_L3 x149 gx10 go2 l103 gx1 a1 a3 m gx13 = some r) ⟨0, rfl, rfl, h⟩ ⟨rfl, rfl, rfl, rfl, trivial⟩ (fun _ hw => hw) ?_)))
                rintro m _ _ ⟨gx13, rfl, rfl, h⟩
                rcases m with _ | m
                · rw [m6_lock_Ask_L3] at h; cases h
                rw [m6_lock_Ask_L3] at h
                generalize hg3 : m6_lock_Ask_L3 x149 gx10 go2 l103 gx1 a1 a3 m = go3 at h
                rw [m6_lock_Ask_L3B] at h
                refine W.seq (W.region (L.ite h rfl (Y.lss rfl rfl) (fun c153 h => ?_) (fun c153 h => ?_)))
                ·
                 refine L.nil (E.thenN (W.seq (W.condT rfl ?_)))
                 refine W.skip (E.thenN (W.seq (W.block (W.seq (W.region (L.y rfl (Y.move rfl) ?_))))))
                 refine L.y rfl (Y.assign rfl) ?_
                 refine L.nil (E.thenN (W.seq (W.region (L.y rfl (Y.move rfl) ?_))))
                 refine L.y rfl (Y.move rfl) ?_
                 refine L.y rfl (Y.move rfl) ?_
                 refine L.m (V := fun _ => el (gv (q104 gx1.toNat) 0) (gx13.toNat * 2)) h rfl (Y.indexM (g := TLock.row) (l := x149.Held) Try.underlying48 sz55 rfl rfl (fun w hw => As.atZ (sds := TLockItem.sds) (vs := q104) (j := 0) (c := 2) (hw.get (i := 4) rfl) (fun _ _ => rfl) ex149 rfl)) (fun x154 ex154 h => ?_)
                 refine L.y rfl (Y.loadEN (r := [.int .i64 x154.Tx, .int .i64 x154.Mode]) ag55 sz55 rfl (fun w hw => As.atZ (sds := TLockItem.sds) (vs := q104) (j := 0) (c := 2) (hw.get (i := 4) rfl) (fun _ _ => rfl) ex149 rfl) (idx_map ex154) rfl) ?_
                 refine L.callVJ (fun v D => ∃ (gb14 : Bool), v = .bool gb14 ∧ D = Cls w [] [.obj b111 [.int .i64 gx10] 3, .obj b25 [el v3 (gx1.toNat * 3)] 62, .obj b6 [.int .i64 a1, .int .i64 a3] 55, .sl v3 50 3 (zr TLockItem.rowv q104 l103), .ss (zs TLockItem.sds q104 l103), .os []] ∧ m6_lock_Ask_K16 gx10 go2 l103 gx1 a1 a3 gx13 go3 gb14 = some r) rfl en28 rfl rfl Try.func28 rfl rfl rfl ?_ ?_
                 ·
                  refine W.seq (W.region (L.box rfl rfl ?_))
                  intro b156
                  refine L.y rfl (Y.assign rfl) ?_
                  refine L.nil (E.thenN (W.seq (W.quietC mixed (by kernel_rfl) (fun _ hw => hw.drew) (fun hC => ?_))))
                  refine U.y rfl (Y.fieldP fd55_0 rfl) ?_
                  refine U.y rfl (Y.loadP (i := 0) ag3 rfl rfl rfl) ?_
                  refine U.y rfl (Y.loadP (i := 2) ag62 rfl rfl rfl) ?_
                  refine U.y rfl (Y.nilCheck rfl) ?_
                  refine U.y rfl (Y.fieldE fd50_2 rfl) ?_
                  refine U.y rfl (Y.loadE (u := gv (q104 gx1.toNat) 1) ag48 rfl (fun w hw => As.at_ (hw.get (i := 4) rfl)) (zr_idx (vs := q104) ex149) rfl) ?_
                  refine U.y rfl (Y.loadP (i := 1) ag3 rfl rfl rfl) ?_
                  refine U.m (V := fun _ => el (gv (q104 gx1.toNat) 1) (gx10.toNat * 2)) h rfl (Y.indexM (g := TLock.row) (l := x149.Queue) Try.underlying48 sz55 rfl rfl (fun w hw => As.atZ (sds := TLockItem.sds) (vs := q104) (j := 1) (c := 2) (hw.get (i := 5) rfl) (fun _ _ => rfl) ex149 rfl)) (fun x157 ex157 h => ?_)
                  refine U.y rfl (Y.fieldE fd55_0 rfl) ?_
                  refine U.y rfl (Y.loadE (u := .int .i64 x157.Tx) ag3 rfl (fun w hw => As.atZ (sds := TLockItem.sds) (vs := q104) (j := 1) (c := 2) (hw.get (i := 5) rfl) (fun _ _ => rfl) ex149 rfl) (idx_map ex157) rfl) ?_
                  refine U.y rfl (Y.eql rfl rfl) ?_
                  refine U.y rfl (Y.assign rfl) ?_
                  refine U.nil (E.thenN (W.ret (E.ret1 rfl rfl (fun w1 hw => ?_))))
                  exact ⟨_, _, rfl, ⟨decide (x154.Tx = x157.Tx), rfl, rfl, h⟩, hw.sel [1, 2, 3, 4, 5, 6] (by decide) rfl⟩
                 ·
                  rintro _ _ ⟨gb14, rfl, rfl, h⟩
                  rw [m6_lock_Ask_K16] at h
                  rcases gb14 with _ | _
                  ·
                   replace h := iteF h
                   refine L.nil (E.thenN (W.condF rfl ?_))
                   refine W.skip (E.blockN (E.thenN (W.region (L.m (V := fun x155 => .int .i64 x155) h rfl (Y.addM rfl rfl) (fun x155 ex155 h => ?_)))))
                   refine L.y rfl (Y.move rfl) ?_
                   exact L.nil (E.againJ ⟨x155, rfl, rfl, by rw [hg3]; exact h⟩ (Nat.lt_succ_self _) ⟨rfl, rfl, rfl, rfl, trivial⟩ (fun _ hw => hw))
                  ·
                   replace h := iteT h
                   refine L.nil (E.thenN (W.condT rfl ?_))
                   refine W.seq (W.region (L.y rfl (Y.move rfl) ?_))
                   refine L.y rfl (Y.assign rfl) ?_
                   refine L.nil (E.thenN (W.ret (E.blockR (E.thenR (E.KLR (E.blockR (E.KSR (E.ret1 rfl rfl (fun w1 hw => ?_)))))))))
                   exact ⟨_, _, rfl, ⟨gx13, rfl, rfl, h⟩, hw⟩
                ·
                 refine L.nil (E.thenN (W.seq (W.condF rfl ?_)))
                 exact W.exit (E.thenX (E.KLX (E.blockX (E.joinJ ⟨rfl, rfl, h⟩ trivial (fun _ hw => hw)))))
               ·
                rintro _ _ ⟨rfl, rfl, h⟩
                rw [m6_lock_Ask_K15] at h
                refine W.seq (W.region (L.y rfl (Y.assign rfl) ?_))
                refine L.nil (E.thenN (W.ret (E.ret1 rfl rfl (fun w1 hw => ?_))))
                exact ⟨_, _, rfl, ⟨(-1), rfl, rfl, h⟩, hw⟩
              ·
               rintro _ _ ⟨gx12, rfl, rfl, h⟩
               rw [m6_lock_Ask_K14] at h
               refine L.y rfl (Y.geq rfl rfl) ?_
               refine L.y rfl (Y.assign rfl) ?_
               refine L.nil (E.thenN (W.ret (E.ret1 rfl rfl (fun w1 hw => ?_))))
               exact ⟨_, _, rfl, ⟨decide (0 ≤ gx12), rfl, rfl, h⟩, hw⟩
             ·
              rintro _ _ ⟨gb11, rfl, rfl, h⟩
              rw [m6_lock_Ask_K13] at h
              rcases gb11 with _ | _
              ·
               replace h := iteF h
               refine L.nil (E.toV2 (stC [] [] (Cls w [] [.obj b111 [.int .i64 gx10] 3, .obj b25 [el v3 (gx1.toNat * 3)] 62, .obj b6 [.int .i64 a1, .int .i64 a3] 55, .sl v3 50 3 (zr TLockItem.rowv q104 l103), .ss (zs TLockItem.sds q104 l103), .os []])) 14 (by kernel_rfl) (Sc.stayD (fun _ hw => hw)) (Sc.atD (fun _ hw => hw)) ?_)
               refine V2.y (i := 15) (Nx2.of (Z := Cls w [] [.obj b111 [.int .i64 gx10] 3, .obj b25 [el v3 (gx1.toNat * 3)] 62, .obj b6 [.int .i64 a1, .int .i64 a3] 55, .sl v3 50 3 (zr TLockItem.rowv q104 l103), .ss (zs TLockItem.sds q104 l103), .os []]) [] (by kernel_rfl) rfl (Zc.fin (fun _ hw => hw))) rfl rfl rfl (Y.pickT rfl rfl) ?_
               refine V2.done (by kernel_rfl) ?_
               refine E.thenN (W.condF rfl ?_)
               exact W.exit (E.thenX (E.KLX (E.blockX (E.joinJ ⟨gx10, rfl, rfl, h⟩ ⟨rfl, rfl, rfl, rfl, trivial⟩ (fun _ hw => hw)))))
              ·
               replace h := iteT h
               refine L.nil (E.toV2 (stC [] [] (Cls w [] [.obj b111 [.int .i64 gx10] 3, .obj b25 [el v3 (gx1.toNat * 3)] 62, .obj b6 [.int .i64 a1, .int .i64 a3] 55, .sl v3 50 3 (zr TLockItem.rowv q104 l103), .ss (zs TLockItem.sds q104 l103), .os []])) 14 (by kernel_rfl) (Sc.stayD (fun _ hw => hw)) (Sc.atD (fun _ hw => hw)) ?_)
               refine V2.y (i := 15) (Nx2.of (Z := Cls w [] [.obj b111 [.int .i64 gx10] 3, .obj b25 [el v3 (gx1.toNat * 3)] 62, .obj b6 [.int .i64 a1, .int .i64 a3] 55, .sl v3 50 3 (zr TLockItem.rowv q104 l103), .ss (zs TLockItem.sds q104 l103), .os []]) [] (by kernel_rfl) rfl (Zc.fin (fun _ hw => hw))) rfl rfl rfl (Y.pickT rfl rfl) ?_
               refine V2.done (by kernel_rfl) ?_
               refine E.thenN (W.condT rfl ?_)
               refine W.skip (E.thenN (W.block (W.region (L.y rfl (Y.loadP (i := 0) ag3 rfl rfl rfl) ?_))))
               refine L.m (V := fun x152 => .int .i64 x152) h rfl (Y.addM rfl rfl) (fun x152 ex152 h => ?_)
               refine L.store (i := 0) (vs := [.int .i64 x152]) sz3 rfl rfl rfl rfl (by simp [Value.oneCell', Value.cells, st, pt, el]) rfl (Nat.le_of_ble_eq_true rfl) ?_
               exact L.nil (E.blockN (E.againJ ⟨x152, rfl, rfl, by rw [hg2]; exact h⟩ (Nat.lt_succ_self _) ⟨rfl, rfl, rfl, rfl, trivial⟩ (fun _ hw => hw)))
            ·
             refine V2.y (i := 8) (Nx2.of (Z := Cls w [] [.obj b111 [.int .i64 gx10] 3, .obj b25 [el v3 (gx1.toNat * 3)] 62, .obj b6 [.int .i64 a1, .int .i64 a3] 55, .sl v3 50 3 (zr TLockItem.rowv q104 l103), .ss (zs TLockItem.sds q104 l103), .os []]) [] (by kernel_rfl) rfl (Zc.fin (fun _ hw => hw))) rfl rfl rfl (Y.move rfl) ?_
             refine V2.pass (i := 9) (Nx2.of (Z := Cls w [] [.obj b111 [.int .i64 gx10] 3, .obj b25 [el v3 (gx1.toNat * 3)] 62, .obj b6 [.int .i64 a1, .int .i64 a3] 55, .sl v3 50 3 (zr TLockItem.rowv q104 l103), .ss (zs TLockItem.sds q104 l103), .os []]) [] (by kernel_rfl) rfl (Zc.fin (fun _ hw => hw))) rfl rfl ?_
             refine V2.pass (i := 10) (Nx2.of (Z := Cls w [] [.obj b111 [.int .i64 gx10] 3, .obj b25 [el v3 (gx1.toNat * 3)] 62, .obj b6 [.int .i64 a1, .int .i64 a3] 55, .sl v3 50 3 (zr TLockItem.rowv q104 l103), .ss (zs TLockItem.sds q104 l103), .os []]) [] (by kernel_rfl) rfl (Zc.fin (fun _ hw => hw))) rfl rfl ?_
             refine V2.pass (i := 11) (Nx2.of (Z := Cls w [] [.obj b111 [.int .i64 gx10] 3, .obj b25 [el v3 (gx1.toNat * 3)] 62, .obj b6 [.int .i64 a1, .int .i64 a3] 55, .sl v3 50 3 (zr TLockItem.rowv q104 l103), .ss (zs TLockItem.sds q104 l103), .os []]) [] (by kernel_rfl) rfl (Zc.fin (fun _ hw => hw))) rfl rfl ?_
             refine V2.pass (i := 12) (Nx2.of (Z := Cls w [] [.obj b111 [.int .i64 gx10] 3, .obj b25 [el v3 (gx1.toNat * 3)] 62, .obj b6 [.int .i64 a1, .int .i64 a3] 55, .sl v3 50 3 (zr TLockItem.rowv q104 l103), .ss (zs TLockItem.sds q104 l103), .os []]) [] (by kernel_rfl) rfl (Zc.fin (fun _ hw => hw))) rfl rfl ?_
             refine V2.pass (i := 13) (Nx2.of (Z := Cls w [] [.obj b111 [.int .i64 gx10] 3, .obj b25 [el v3 (gx1.toNat * 3)] 62, .obj b6 [.int .i64 a1, .int .i64 a3] 55, .sl v3 50 3 (zr TLockItem.rowv q104 l103), .ss (zs TLockItem.sds q104 l103), .os []]) [] (by kernel_rfl) rfl (Zc.fin (fun _ hw => hw))) rfl rfl ?_
             refine V2.pass (i := 14) (Nx2.of (Z := Cls w [] [.obj b111 [.int .i64 gx10] 3, .obj b25 [el v3 (gx1.toNat * 3)] 62, .obj b6 [.int .i64 a1, .int .i64 a3] 55, .sl v3 50 3 (zr TLockItem.rowv q104 l103), .ss (zs TLockItem.sds q104 l103), .os []]) [] (by kernel_rfl) rfl (Zc.fin (fun _ hw => hw))) rfl rfl ?_
             refine V2.y (i := 15) (Nx2.of (Z := Cls w [] [.obj b111 [.int .i64 gx10] 3, .obj b25 [el v3 (gx1.toNat * 3)] 62, .obj b6 [.int .i64 a1, .int .i64 a3] 55, .sl v3 50 3 (zr TLockItem.rowv q104 l103), .ss (zs TLockItem.sds q104 l103), .os []]) [] (by kernel_rfl) rfl (Zc.fin (fun _ hw => hw))) rfl rfl rfl (Y.pickF rfl rfl) ?_
             refine V2.done (by kernel_rfl) ?_
             refine E.thenN (W.condF rfl ?_)
             exact W.exit (E.thenX (E.KLX (E.blockX (E.joinJ ⟨gx10, rfl, rfl, h⟩ ⟨rfl, rfl, rfl, rfl, trivial⟩ (fun _ hw => hw)))))
           ·
            rintro _ _ ⟨gx9, rfl, rfl, h⟩
            rw [m6_lock_Ask_K12] at h
            refine W.drawn2 (k := 19) (stC [[15, 18], [18]] [Cls w [] [.obj b111 [.int .i64 gx9] 3, .obj b25 [el v3 (gx1.toNat * 3)] 62, .obj b6 [.int .i64 a1, .int .i64 a3] 55, .sl v3 50 3 (zr TLockItem.rowv q104 l103), .ss (zs TLockItem.sds q104 l103), .os []], Cls w [] [.obj b111 [.int .i64 gx9] 3, .obj b25 [el v3 (gx1.toNat * 3)] 62, .obj b6 [.int .i64 a1, .int .i64 a3] 55, .sl v3 50 3 (zr TLockItem.rowv q104 l103), .os []]] (Cls w [] [.obj b111 [.int .i64 gx9] 3, .obj b25 [el v3 (gx1.toNat * 3)] 62, .obj b6 [.int .i64 a1, .int .i64 a3] 55, .os []])) rfl mixed (fun _ hw => hw.drew) (Sc.now (by kernel_rfl) (fun _ hw => hw)) ?_
            refine V2.y (i := 0) (Nx2.of (Z := Cls w [] [.obj b111 [.int .i64 gx9] 3, .obj b25 [el v3 (gx1.toNat * 3)] 62, .obj b6 [.int .i64 a1, .int .i64 a3] 55, .os []]) [] (by kernel_rfl) rfl (Zc.on (fun _ hw => hw.sel [0, 1, 2, 5] (by decide) rfl) (Zc.on (fun _ hw => hw.sel [0, 1, 2, 4] (by decide) rfl) (Zc.fin (fun _ hw => hw))))) rfl rfl rfl (Y.loadP (i := 1) ag62 rfl rfl rfl) ?_
            refine V2.y (i := 1) (Nx2.of (Z := Cls w [] [.obj b111 [.int .i64 gx9] 3, .obj b25 [el v3 (gx1.toNat * 3)] 62, .obj b6 [.int .i64 a1, .int .i64 a3] 55, .os []]) [] (by kernel_rfl) rfl (Zc.on (fun _ hw => hw.sel [0, 1, 2, 5] (by decide) rfl) (Zc.on (fun _ hw => hw.sel [0, 1, 2, 4] (by decide) rfl) (Zc.fin (fun _ hw => hw))))) rfl rfl rfl (Y.loadP (i := 1) ag62 rfl rfl rfl) ?_
            refine V2.nilc (i := 2) (Nx2.of (Z := Cls w [] [.obj b111 [.int .i64 gx9] 3, .obj b25 [el v3 (gx1.toNat * 3)] 62, .obj b6 [.int .i64 a1, .int .i64 a3] 55, .os []]) [] (by kernel_rfl) rfl (Zc.on (fun _ hw => hw.sel [0, 1, 2, 5] (by decide) rfl) (Zc.on (fun _ hw => hw.sel [0, 1, 2, 4] (by decide) rfl) (Zc.fin (fun _ hw => hw))))) rfl rfl rfl ?_
            refine V2.y (i := 3) (Nx2.of (Z := Cls w [] [.obj b111 [.int .i64 gx9] 3, .obj b25 [el v3 (gx1.toNat * 3)] 62, .obj b6 [.int .i64 a1, .int .i64 a3] 55, .os []]) [] (by kernel_rfl) rfl (Zc.on (fun _ hw => hw.sel [0, 1, 2, 5] (by decide) rfl) (Zc.on (fun _ hw => hw.sel [0, 1, 2, 4] (by decide) rfl) (Zc.fin (fun _ hw => hw))))) rfl rfl rfl (Y.fieldE fd50_2 rfl) ?_
            obtain ⟨x134, ex134, h⟩ := bind1S h
            refine V2.y (i := 4) (Nx2.of (Z := Cls w [] [.obj b111 [.int .i64 gx9] 3, .obj b25 [el v3 (gx1.toNat * 3)] 62, .obj b6 [.int .i64 a1, .int .i64 a3] 55, .sl v3 50 3 (zr TLockItem.rowv q104 l103), .os []]) [18] (by kernel_rfl) rfl (Zc.on (fun _ hw => hw.sel [0, 1, 2, 3, 5] (by decide) rfl) (Zc.at1 (fun _ hw => hw)))) rfl rfl rfl (Y.loadE (u := gv (q104 gx1.toNat) 1) ag48 rfl (fun w hw => As.at_ (hw.get (i := 3) rfl)) (zr_idx (vs := q104) ex134) rfl) ?_
            refine V2.y (i := 5) (Nx2.of (Z := Cls w [] [.obj b111 [.int .i64 gx9] 3, .obj b25 [el v3 (gx1.toNat * 3)] 62, .obj b6 [.int .i64 a1, .int .i64 a3] 55, .os []]) [] (by kernel_rfl) rfl (Zc.on (fun _ hw => hw.sel [0, 1, 2, 5] (by decide) rfl) (Zc.on (fun _ hw => hw.sel [0, 1, 2, 4] (by decide) rfl) (Zc.fin (fun _ hw => hw))))) rfl rfl rfl (Y.loadP (i := 1) ag62 rfl rfl rfl) ?_
            refine V2.nilc (i := 6) (Nx2.of (Z := Cls w [] [.obj b111 [.int .i64 gx9] 3, .obj b25 [el v3 (gx1.toNat * 3)] 62, .obj b6 [.int .i64 a1, .int .i64 a3] 55, .os []]) [] (by kernel_rfl) rfl (Zc.on (fun _ hw => hw.sel [0, 1, 2, 5] (by decide) rfl) (Zc.on (fun _ hw => hw.sel [0, 1, 2, 4] (by decide) rfl) (Zc.fin (fun _ hw => hw))))) rfl rfl rfl ?_
            refine V2.y (i := 7) (Nx2.of (Z := Cls w [] [.obj b111 [.int .i64 gx9] 3, .obj b25 [el v3 (gx1.toNat * 3)] 62, .obj b6 [.int .i64 a1, .int .i64 a3] 55, .os []]) [] (by kernel_rfl) rfl (Zc.on (fun _ hw => hw.sel [0, 1, 2, 5] (by decide) rfl) (Zc.on (fun _ hw => hw.sel [0, 1, 2, 4] (by decide) rfl) (Zc.fin (fun _ hw => hw))))) rfl rfl rfl (Y.fieldE fd50_2 rfl) ?_
            refine V2.y (i := 8) (Nx2.of (Z := Cls w [] [.obj b111 [.int .i64 gx9] 3, .obj b25 [el v3 (gx1.toNat * 3)] 62, .obj b6 [.int .i64 a1, .int .i64 a3] 55, .sl v3 50 3 (zr TLockItem.rowv q104 l103), .os []]) [18] (by kernel_rfl) rfl (Zc.on (fun _ hw => hw.sel [0, 1, 2, 3, 5] (by decide) rfl) (Zc.at1 (fun _ hw => hw)))) rfl rfl rfl (Y.loadE (u := gv (q104 gx1.toNat) 1) ag48 rfl (fun w hw => As.at_ (hw.get (i := 3) rfl)) (zr_idx (vs := q104) ex134) rfl) ?_
            refine V2.y (i := 12) (Nx2.of (Z := Cls w [] [.obj b111 [.int .i64 gx9] 3, .obj b25 [el v3 (gx1.toNat * 3)] 62, .obj b6 [.int .i64 a1, .int .i64 a3] 55, .os []]) [] (by kernel_rfl) rfl (Zc.on (fun _ hw => hw.sel [0, 1, 2, 5] (by decide) rfl) (Zc.on (fun _ hw => hw.sel [0, 1, 2, 4] (by decide) rfl) (Zc.fin (fun _ hw => hw))))) rfl rfl rfl (Y.loadP (i := 0) ag3 rfl rfl rfl) ?_
            refine V2.y (i := 13) (Nx2.of (Z := Cls w [] [.obj b111 [.int .i64 gx9] 3, .obj b25 [el v3 (gx1.toNat * 3)] 62, .obj b6 [.int .i64 a1, .int .i64 a3] 55, .os []]) [] (by kernel_rfl) rfl (Zc.on (fun _ hw => hw.sel [0, 1, 2, 5] (by decide) rfl) (Zc.on (fun _ hw => hw.sel [0, 1, 2, 4] (by decide) rfl) (Zc.fin (fun _ hw => hw))))) rfl rfl rfl (Y.loadPW (i := 2) ag55 sz55 rfl rfl rfl) ?_
            refine V2.eff2 (i1 := 9) (i2 := 14) (by kernel_rfl) rfl rfl ?_ ?_
            ·
             refine L.y rfl (Y.lenM (g := TLock.row) (l := x134.Queue) Try.underlying48 rfl (fun w hw => As.atZ (sds := TLockItem.sds) (vs := q104) (j := 1) (c := 2) (hw.get (i := 4) rfl) (fun _ _ => rfl) ex134 rfl)) ?_
             refine L.nil (E.toV2 (stC [[15, 18], [18]] [Cls w [] [.obj b111 [.int .i64 gx9] 3, .obj b25 [el v3 (gx1.toNat * 3)] 62, .obj b6 [.int .i64 a1, .int .i64 a3] 55, .sl v3 50 3 (zr TLockItem.rowv q104 l103), .ss (zs TLockItem.sds q104 l103), .os []], Cls w [] [.obj b111 [.int .i64 gx9] 3, .obj b25 [el v3 (gx1.toNat * 3)] 62, .obj b6 [.int .i64 a1, .int .i64 a3] 55, .sl v3 50 3 (zr TLockItem.rowv q104 l103), .os []]] (Cls w [] [.obj b111 [.int .i64 gx9] 3, .obj b25 [el v3 (gx1.toNat * 3)] 62, .obj b6 [.int .i64 a1, .int .i64 a3] 55, .os []])) 9 (by kernel_rfl) (Sc.stay (fun _ hw => hw) (Sc.stay (fun _ hw => hw) (Sc.stayD (fun _ hw => hw)))) (Sc.now (by kernel_rfl) (fun _ hw => hw)) ?_)
             refine V2.m (i := 10) (V' := fun x135 => .int .i64 x135) h (Nx2.of (Z := Cls w [] [.obj b111 [.int .i64 gx9] 3, .obj b25 [el v3 (gx1.toNat * 3)] 62, .obj b6 [.int .i64 a1, .int .i64 a3] 55, .os []]) [] (by kernel_rfl) rfl (Zc.on (fun _ hw => hw.sel [0, 1, 2, 5] (by decide) rfl) (Zc.on (fun _ hw => hw.sel [0, 1, 2, 4] (by decide) rfl) (Zc.fin (fun _ hw => hw))))) rfl rfl rfl (Y.subM rfl rfl) (fun x135 ex135 h => ?_)
             refine V2.m (i := 11) (V' := fun _ => cutv (gv (q104 gx1.toNat) 1) x135.toNat) h (Nx2.of (Z := Cls w [] [.obj b111 [.int .i64 gx9] 3, .obj b25 [el v3 (gx1.toNat * 3)] 62, .obj b6 [.int .i64 a1, .int .i64 a3] 55, .sl v3 50 3 (zr TLockItem.rowv q104 l103), .ss (zs TLockItem.sds q104 l103), .os []]) [15, 18] (by kernel_rfl) rfl (Zc.at1 (fun _ hw => hw))) rfl rfl rfl (Y.cutM (g := TLock.row) Try.underlying48 sz55 rfl rfl (fun w hw => As.atZ (sds := TLockItem.sds) (vs := q104) (j := 1) (c := 2) (hw.get (i := 4) rfl) (fun _ _ => rfl) ex134 rfl)) (fun l136 el136 h => ?_)
             refine V2.eff (i := 14) (by kernel_rfl) rfl ?_
             refine L.litAgg rfl Try.underlying48 eL55 rfl rfl rfl ?_
             intro b137
             refine L.nil (E.toV2 (stC [[15, 18], [18]] [Cls w [] [.sl (sv b137 1) 55 2 (([(⟨a1, a3⟩ : TLock)]).map TLock.row), .obj b111 [.int .i64 gx9] 3, .obj b25 [el v3 (gx1.toNat * 3)] 62, .obj b6 [.int .i64 a1, .int .i64 a3] 55, .sl v3 50 3 (zr TLockItem.rowv q104 l103), .ss (zs TLockItem.sds q104 l103), .os []], Cls w [] [.sl (sv b137 1) 55 2 (([(⟨a1, a3⟩ : TLock)]).map TLock.row), .obj b111 [.int .i64 gx9] 3, .obj b25 [el v3 (gx1.toNat * 3)] 62, .obj b6 [.int .i64 a1, .int .i64 a3] 55, .sl v3 50 3 (zr TLockItem.rowv q104 l103), .os []]] (Cls w [] [.sl (sv b137 1) 55 2 (([(⟨a1, a3⟩ : TLock)]).map TLock.row), .obj b111 [.int .i64 gx9] 3, .obj b25 [el v3 (gx1.toNat * 3)] 62, .obj b6 [.int .i64 a1, .int .i64 a3] 55, .os []])) 14 (by kernel_rfl) (Sc.stay (fun _ hw => hw.sel [1, 2, 3, 4, 5, 6] (by decide) rfl) (Sc.stay (fun _ hw => hw.sel [1, 2, 3, 4, 5] (by decide) rfl) (Sc.stayD (fun _ hw => hw.sel [1, 2, 3, 4] (by decide) rfl)))) (Sc.now (by kernel_rfl) (fun _ hw => hw)) ?_)
             refine V2.eff (i := 15) (by kernel_rfl) rfl ?_
             refine L.ssOut (sds := TLockItem.sds) (vs := q104) (s := 5) (j := 1) (c := 2) rfl (fun _ _ => rfl) ex134 rfl ?_
             refine L.cutT (i := 0) (g := TLock.row) el136 rfl ?_
             refine L.insRD (i := 0) (j := 1) (l := l136) (x1 := (⟨a1, a3⟩ : TLock)) (a := gx9) h wInsR29 (fun _ => rfl) rfl en29 rfl rfl rfl rfl rfl (by decide) ?_
             intro v139 l138 el138 h
             refine L.nil (E.toV2 (stC [[18]] [Cls w [] [.sl v139 55 2 (l138.map TLock.row), .sl (sv b137 1) 55 2 (([(⟨a1, a3⟩ : TLock)]).map TLock.row), .obj b111 [.int .i64 gx9] 3, .obj b25 [el v3 (gx1.toNat * 3)] 62, .obj b6 [.int .i64 a1, .int .i64 a3] 55, .sl v3 50 3 (zr TLockItem.rowv q104 l103), .os []]] (Cls w [] [.sl (sv b137 1) 55 2 (([(⟨a1, a3⟩ : TLock)]).map TLock.row), .obj b111 [.int .i64 gx9] 3, .obj b25 [el v3 (gx1.toNat * 3)] 62, .obj b6 [.int .i64 a1, .int .i64 a3] 55, .os []])) 15 (by kernel_rfl) (Sc.past rfl (Sc.stay (fun _ hw => hw.sel [1, 2, 3, 4, 5, 6] (by decide) rfl) (Sc.stayD (fun _ hw => hw)))) (Sc.now (by kernel_rfl) (fun _ hw => hw.sel [0, 1, 2, 3, 4, 5, 7] (by decide) rfl)) ?_)
             refine V2.nilc (i := 16) (Nx2.of (Z := Cls w [] [.sl (sv b137 1) 55 2 (([(⟨a1, a3⟩ : TLock)]).map TLock.row), .obj b111 [.int .i64 gx9] 3, .obj b25 [el v3 (gx1.toNat * 3)] 62, .obj b6 [.int .i64 a1, .int .i64 a3] 55, .os []]) [] (by kernel_rfl) rfl (Zc.on (fun _ hw => hw.sel [1, 2, 3, 4, 6] (by decide) rfl) (Zc.fin (fun _ hw => hw)))) rfl rfl rfl ?_
             refine V2.y (i := 17) (Nx2.of (Z := Cls w [] [.sl (sv b137 1) 55 2 (([(⟨a1, a3⟩ : TLock)]).map TLock.row), .obj b111 [.int .i64 gx9] 3, .obj b25 [el v3 (gx1.toNat * 3)] 62, .obj b6 [.int .i64 a1, .int .i64 a3] 55, .os []]) [] (by kernel_rfl) rfl (Zc.on (fun _ hw => hw.sel [1, 2, 3, 4, 6] (by decide) rfl) (Zc.fin (fun _ hw => hw)))) rfl rfl rfl (Y.fieldE fd50_2 rfl) ?_
             refine V2.eff (i := 18) (by kernel_rfl) rfl ?_
             refine L.storeSlZS (row := TLockItem.rowv) (sds := TLockItem.sds) (vs := q104) (q := 5) (p := 0) (s := 6) (c := 2) (jj := 1) (u1 := (⟨x134.Item, x134.Held, l138⟩ : TLockItem)) (v1 := [gv (q104 gx1.toNat) 0, v139]) (j := 2) h sz48 rfl rfl rfl rfl rfl rfl (.inr rfl) (fun _ _ => rfl) (fun _ _ => rfl) ex134 rfl rfl rfl rfl (by decide) ?_
             intro l140 q141 el140 h
             refine L.nil (E.toV2 (stC [] [] (Cls w [] [.sl (sv b137 1) 55 2 (([(⟨a1, a3⟩ : TLock)]).map TLock.row), .obj b111 [.int .i64 gx9] 3, .obj b25 [el v3 (gx1.toNat * 3)] 62, .obj b6 [.int .i64 a1, .int .i64 a3] 55, .os []])) 18 (by kernel_rfl) (Sc.past rfl (Sc.stayD (fun _ hw => hw))) (Sc.atD (fun _ hw => hw.sel [0, 1, 2, 3, 6] (by decide) rfl)) ?_)
             refine V2.done (by kernel_rfl) ?_
             exact E.joinJ ⟨l140, q141, rfl, rfl, h⟩ ⟨rfl, trivial⟩ (fun _ hw => hw.sel [4, 5, 6] (by decide) rfl)
            ·
             refine L.litAgg rfl Try.underlying48 eL55 rfl rfl rfl ?_
             intro b142
             refine L.nil (E.toV2 (stC [[15, 18], [18]] [Cls w [] [.sl (sv b142 1) 55 2 (([(⟨a1, a3⟩ : TLock)]).map TLock.row), .obj b111 [.int .i64 gx9] 3, .obj b25 [el v3 (gx1.toNat * 3)] 62, .obj b6 [.int .i64 a1, .int .i64 a3] 55, .sl v3 50 3 (zr TLockItem.rowv q104 l103), .ss (zs TLockItem.sds q104 l103), .os []], Cls w [] [.sl (sv b142 1) 55 2 (([(⟨a1, a3⟩ : TLock)]).map TLock.row), .obj b111 [.int .i64 gx9] 3, .obj b25 [el v3 (gx1.toNat * 3)] 62, .obj b6 [.int .i64 a1, .int .i64 a3] 55, .sl v3 50 3 (zr TLockItem.rowv q104 l103), .os []]] (Cls w [] [.sl (sv b142 1) 55 2 (([(⟨a1, a3⟩ : TLock)]).map TLock.row), .obj b111 [.int .i64 gx9] 3, .obj b25 [el v3 (gx1.toNat * 3)] 62, .obj b6 [.int .i64 a1, .int .i64 a3] 55, .os []])) 14 (by kernel_rfl) (Sc.stay (fun _ hw => hw.sel [1, 2, 3, 4, 5, 6] (by decide) rfl) (Sc.stay (fun _ hw => hw.sel [1, 2, 3, 4, 5] (by decide) rfl) (Sc.stayD (fun _ hw => hw.sel [1, 2, 3, 4] (by decide) rfl)))) (Sc.now (by kernel_rfl) (fun _ hw => hw)) ?_)
             refine V2.eff (i := 9) (by kernel_rfl) rfl ?_
             refine L.y rfl (Y.lenM (g := TLock.row) (l := x134.Queue) Try.underlying48 rfl (fun w hw => As.atZ (sds := TLockItem.sds) (vs := q104) (j := 1) (c := 2) (hw.get (i := 5) rfl) (fun _ _ => rfl) ex134 rfl)) ?_
             refine L.nil (E.toV2 (stC [[15, 18], [18]] [Cls w [] [.sl (sv b142 1) 55 2 (([(⟨a1, a3⟩ : TLock)]).map TLock.row), .obj b111 [.int .i64 gx9] 3, .obj b25 [el v3 (gx1.toNat * 3)] 62, .obj b6 [.int .i64 a1, .int .i64 a3] 55, .sl v3 50 3 (zr TLockItem.rowv q104 l103), .ss (zs TLockItem.sds q104 l103), .os []], Cls w [] [.sl (sv b142 1) 55 2 (([(⟨a1, a3⟩ : TLock)]).map TLock.row), .obj b111 [.int .i64 gx9] 3, .obj b25 [el v3 (gx1.toNat * 3)] 62, .obj b6 [.int .i64 a1, .int .i64 a3] 55, .sl v3 50 3 (zr TLockItem.rowv q104 l103), .os []]] (Cls w [] [.sl (sv b142 1) 55 2 (([(⟨a1, a3⟩ : TLock)]).map TLock.row), .obj b111 [.int .i64 gx9] 3, .obj b25 [el v3 (gx1.toNat * 3)] 62, .obj b6 [.int .i64 a1, .int .i64 a3] 55, .os []])) 9 (by kernel_rfl) (Sc.stay (fun _ hw => hw) (Sc.stay (fun _ hw => hw) (Sc.stayD (fun _ hw => hw)))) (Sc.now (by kernel_rfl) (fun _ hw => hw)) ?_)
             refine V2.m (i := 10) (V' := fun x143 => .int .i64 x143) h (Nx2.of (Z := Cls w [] [.sl (sv b142 1) 55 2 (([(⟨a1, a3⟩ : TLock)]).map TLock.row), .obj b111 [.int .i64 gx9] 3, .obj b25 [el v3 (gx1.toNat * 3)] 62, .obj b6 [.int .i64 a1, .int .i64 a3] 55, .os []]) [] (by kernel_rfl) rfl (Zc.on (fun _ hw => hw.sel [0, 1, 2, 3, 6] (by decide) rfl) (Zc.on (fun _ hw => hw.sel [0, 1, 2, 3, 5] (by decide) rfl) (Zc.fin (fun _ hw => hw))))) rfl rfl rfl (Y.subM rfl rfl) (fun x143 ex143 h => ?_)
             refine V2.m (i := 11) (V' := fun _ => cutv (gv (q104 gx1.toNat) 1) x143.toNat) h (Nx2.of (Z := Cls w [] [.sl (sv b142 1) 55 2 (([(⟨a1, a3⟩ : TLock)]).map TLock.row), .obj b111 [.int .i64 gx9] 3, .obj b25 [el v3 (gx1.toNat * 3)] 62, .obj b6 [.int .i64 a1, .int .i64 a3] 55, .sl v3 50 3 (zr TLockItem.rowv q104 l103), .ss (zs TLockItem.sds q104 l103), .os []]) [15, 18] (by kernel_rfl) rfl (Zc.at1 (fun _ hw => hw))) rfl rfl rfl (Y.cutM (g := TLock.row) Try.underlying48 sz55 rfl rfl (fun w hw => As.atZ (sds := TLockItem.sds) (vs := q104) (j := 1) (c := 2) (hw.get (i := 5) rfl) (fun _ _ => rfl) ex134 rfl)) (fun l144 el144 h => ?_)
             refine V2.eff (i := 15) (by kernel_rfl) rfl ?_
             refine L.ssOut (sds := TLockItem.sds) (vs := q104) (s := 5) (j := 1) (c := 2) rfl (fun _ _ => rfl) ex134 rfl ?_
             refine L.cutT (i := 0) (g := TLock.row) el144 rfl ?_
             refine L.insRD (i := 0) (j := 1) (l := l144) (x1 := (⟨a1, a3⟩ : TLock)) (a := gx9) h wInsR29 (fun _ => rfl) rfl en29 rfl rfl rfl rfl rfl (by decide) ?_
             intro v146 l145 el145 h
             refine L.nil (E.toV2 (stC [[18]] [Cls w [] [.sl v146 55 2 (l145.map TLock.row), .sl (sv b142 1) 55 2 (([(⟨a1, a3⟩ : TLock)]).map TLock.row), .obj b111 [.int .i64 gx9] 3, .obj b25 [el v3 (gx1.toNat * 3)] 62, .obj b6 [.int .i64 a1, .int .i64 a3] 55, .sl v3 50 3 (zr TLockItem.rowv q104 l103), .os []]] (Cls w [] [.sl (sv b142 1) 55 2 (([(⟨a1, a3⟩ : TLock)]).map TLock.row), .obj b111 [.int .i64 gx9] 3, .obj b25 [el v3 (gx1.toNat * 3)] 62, .obj b6 [.int .i64 a1, .int .i64 a3] 55, .os []])) 15 (by kernel_rfl) (Sc.past rfl (Sc.stay (fun _ hw => hw.sel [1, 2, 3, 4, 5, 6] (by decide) rfl) (Sc.stayD (fun _ hw => hw)))) (Sc.now (by kernel_rfl) (fun _ hw => hw.sel [0, 1, 2, 3, 4, 5, 7] (by decide) rfl)) ?_)
             refine V2.nilc (i := 16) (Nx2.of (Z := Cls w [] [.sl (sv b142 1) 55 2 (([(⟨a1, a3⟩ : TLock)]).map TLock.row), .obj b111 [.int .i64 gx9] 3, .obj b25 [el v3 (gx1.toNat * 3)] 62, .obj b6 [.int .i64 a1, .int .i64 a3] 55, .os []]) [] (by kernel_rfl) rfl (Zc.on (fun _ hw => hw.sel [1, 2, 3, 4, 6] (by decide) rfl) (Zc.fin (fun _ hw => hw)))) rfl rfl rfl ?_
             refine V2.y (i := 17) (Nx2.of (Z := Cls w [] [.sl (sv b142 1) 55 2 (([(⟨a1, a3⟩ : TLock)]).map TLock.row), .obj b111 [.int .i64 gx9] 3, .obj b25 [el v3 (gx1.toNat * 3)] 62, .obj b6 [.int .i64 a1, .int .i64 a3] 55, .os []]) [] (by kernel_rfl) rfl (Zc.on (fun _ hw => hw.sel [1, 2, 3, 4, 6] (by decide) rfl) (Zc.fin (fun _ hw => hw)))) rfl rfl rfl (Y.fieldE fd50_2 rfl) ?_
             refine V2.eff (i := 18) (by kernel_rfl) rfl ?_
             refine L.storeSlZS (row := TLockItem.rowv) (sds := TLockItem.sds) (vs := q104) (q := 5) (p := 0) (s := 6) (c := 2) (jj := 1) (u1 := (⟨x134.Item, x134.Held, l145⟩ : TLockItem)) (v1 := [gv (q104 gx1.toNat) 0, v146]) (j := 2) h sz48 rfl rfl rfl rfl rfl rfl (.inr rfl) (fun _ _ => rfl) (fun _ _ => rfl) ex134 rfl rfl rfl rfl (by decide) ?_
             intro l147 q148 el147 h
             refine L.nil (E.toV2 (stC [] [] (Cls w [] [.sl (sv b142 1) 55 2 (([(⟨a1, a3⟩ : TLock)]).map TLock.row), .obj b111 [.int .i64 gx9] 3, .obj b25 [el v3 (gx1.toNat * 3)] 62, .obj b6 [.int .i64 a1, .int .i64 a3] 55, .os []])) 18 (by kernel_rfl) (Sc.past rfl (Sc.stayD (fun _ hw => hw))) (Sc.atD (fun _ hw => hw.sel [0, 1, 2, 3, 6] (by decide) rfl)) ?_)
             refine V2.done (by kernel_rfl) ?_
             exact E.joinJ ⟨l147, q148, rfl, rfl, h⟩ ⟨rfl, trivial⟩ (fun _ hw => hw.sel [4, 5, 6] (by decide) rfl)
          ·
           rintro _ _ ⟨gl7, gq8, rfl, rfl, h⟩
           rw [m6_lock_Ask_K11] at h
           refine W.seq (W.region (L.y rfl (Y.move rfl) ?_))
           refine L.y rfl (Y.assign rfl) ?_
           refine L.y rfl (Y.assign rfl) ?_
           refine L.y rfl (Y.assign rfl) ?_
           refine L.nil (E.thenN (W.ret (E.frzS (i := 1) rfl rfl rfl ?_)))
           intro c105 mo106 hf107
           refine E.frz (i := 0) rfl rfl rfl ?_
           intro c108 mo109 hf110
           refine E.ret3 rfl rfl rfl rfl (fun w1 hw => ?_)
           obtain rfl := Option.some.inj h
           exact ⟨_, _, rfl, ⟨c108, rfl, v3, gq8, rfl, (hf110 K), ((hf107 K).mo mo109)⟩, hw⟩
set_option maxRecDepth 100000 in
set_option maxHeartbeats 8000000 in
theorem w46_quirref_asked (a0 : TLockItem) (a1 : TLock) (u0_0 : Value) (u0_1 : Value) (K : World → Prop) (w : World) (hK : Stb K w) (r : (TLockItem × Bool)) (h : m46_quirref_asked a0 a1 = some r) (hA0_0 : Fz K [] u0_0 2 (a0.Held.map TLock.row)) (hA0_1 : Fz K [] u0_1 2 (a0.Queue.map TLock.row)) : Does Try.prog 46 [.agg #[.int .i64 a0.Item, u0_0, u0_1], .agg #[.int .i64 a1.Tx, .int .i64 a1.Mode]] w fun u m => ∃ c, m = [.os c] ∧ ∃ v0 v1, u = .tuple #[.agg #[.int .i64 r.1.Item, v0, v1], .bool r.2] ∧ Fz K c v0 2 (r.1.Held.map TLock.row) ∧ Fz K c v1 2 (r.1.Queue.map TLock.row) := by
  rw [m46_quirref_asked] at h
  refine body (n := 61) Try.func46 rfl rfl rfl (Cls.reflF w) ?_
  refine W.seq (W.region (L.box rfl rfl ?_))
  intro b1
  refine L.box rfl rfl ?_
  intro b2
  refine L.alloc rfl ze50 ?_
  intro b3
  refine L.y rfl (Y.assign rfl) ?_
  refine L.nil (E.thenN (W.seqJ (fun gs D => ∃ (gb1 : Bool), gs = [(2, pt b1 0), (3, pt b2 0), (4, pt b3 0), (6, .bool gb1)] ∧ D = Cls w [] [.obj b3 [.int .i64 0, .slice none 0 0, .slice none 0 0] 50, .obj b2 [.int .i64 a1.Tx, .int .i64 a1.Mode] 55, .obj b1 [.int .i64 a0.Item, u0_0, u0_1] 50, .os []] ∧ m46_quirref_asked_K1 a0 a1 gb1 = some r) ?_ ?_))
  ·
   refine W.region (L.y rfl (Y.fieldP fd50_1 rfl) ?_)
   refine L.y rfl (Y.loadP (i := 2) ag48 rfl rfl rfl) ?_
   refine L.y rfl (Y.fieldP fd55_0 rfl) ?_
   refine L.y rfl (Y.loadP (i := 1) ag3 rfl rfl rfl) ?_
   obtain ⟨x91, e92, h⟩ := bind1S h
   refine L.y rfl (Y.does en37 rfl (fun w' hw => (w37_quirref_holds a0.Held a1.Tx u0_0 w' _ e92 (hA0_0.up.clsF hK hw rfl)).mono (fun _ _ h => h.1))) ?_
   refine L.ite h rfl (Y.gtr rfl rfl) (fun c93 h => ?_) (fun c93 h => ?_)
   ·
    refine L.y rfl (Y.assign rfl) ?_
    exact L.nil (E.joinJ ⟨true, rfl, rfl, h⟩ ⟨rfl, rfl, rfl, rfl, trivial⟩ (fun _ hw => hw))
   ·
    refine L.y rfl (Y.assign rfl) ?_
    exact L.nil (E.joinJ ⟨false, rfl, rfl, h⟩ ⟨rfl, rfl, rfl, rfl, trivial⟩ (fun _ hw => hw))
  ·
   rintro _ _ ⟨gb1, rfl, rfl, h⟩
   rw [m46_quirref_asked_K1] at h
   rcases gb1 with _ | _
   ·
    replace h := iteF h
    refine W.seqJ (fun gs D => gs = [(2, pt b1 0), (3, pt b2 0), (4, pt b3 0), (6, .bool false)] ∧ D = Cls w [] [.obj b3 [.int .i64 0, .slice none 0 0, .slice none 0 0] 50, .obj b2 [.int .i64 a1.Tx, .int .i64 a1.Mode] 55, .obj b1 [.int .i64 a0.Item, u0_0, u0_1] 50, .os []] ∧ m46_quirref_asked_K2 a0 a1 = some r) ?_ ?_
    ·
     refine W.seq (W.region (L.y rfl (Y.loadPW (i := 2) ag50 sz50 rfl rfl rfl) ?_))
     refine L.y rfl (Y.loadPW (i := 1) ag55 sz55 rfl rfl rfl) ?_
     obtain ⟨b31, e32, h⟩ := bind1S h
     refine L.y rfl (Y.does en41 rfl (fun w' hw => (w41_quirref_can a0 a1 u0_0 u0_1 w' _ e32 (hA0_0.up.clsF hK hw rfl) (hA0_1.up.clsF hK hw rfl)).mono (fun _ _ h => h.1))) ?_
     rcases b31 with _ | _
     ·
      replace h := iteF h
      refine L.y rfl (Y.move rfl) ?_
      refine L.pass rfl rfl (by nofun) ?_
      refine L.pass rfl rfl (by nofun) ?_
      refine L.pass rfl rfl (by nofun) ?_
      refine L.pass rfl rfl (by nofun) ?_
      refine L.pass rfl rfl (by nofun) ?_
      refine L.pass rfl rfl (by nofun) ?_
      refine L.pass rfl rfl (by nofun) ?_
      refine L.y rfl (Y.pickF rfl rfl) ?_
      refine L.nil (E.thenN (W.condF rfl ?_))
      exact W.skip (E.joinJ ⟨rfl, rfl, h⟩ ⟨rfl, rfl, rfl, rfl, trivial⟩ (fun _ hw => hw))
     ·
      replace h := iteT h
      refine L.y rfl (Y.move rfl) ?_
      refine L.take rfl (L.y rfl (Y.move rfl) ?_)
      refine L.take rfl (L.y rfl (Y.move rfl) ?_)
      refine L.take rfl (L.y rfl (Y.fieldP fd50_2 rfl) ?_)
      refine L.take rfl (L.y rfl (Y.loadP (i := 2) ag48 rfl rfl rfl) ?_)
      refine L.take rfl (L.y rfl (Y.lenM (g := TLock.row) (l := a0.Queue) Try.underlying48 rfl (fun w' hw => (hA0_1.up.clsF hK hw rfl))) ?_)
      refine L.take rfl (L.ite h rfl (Y.eql rfl rfl) (fun c33 h => ?_) (fun c33 h => ?_))
      ·
       refine L.take rfl (L.y rfl (Y.pickF rfl rfl) ?_)
       refine L.y rfl (Y.pickT rfl rfl) ?_
       refine L.nil (E.thenN (W.condT rfl ?_))
       refine W.seq (W.region (L.y rfl (Y.loadPW (i := 2) ag50 sz50 rfl rfl rfl) ?_))
       refine L.y rfl (Y.loadPW (i := 1) ag55 sz55 rfl rfl rfl) ?_
       obtain ⟨x34, e39, h⟩ := bind1S h
       refine L.doesF rfl en42 rfl rfl hK (fun w' hw hs => w42_quirref_given a0 a1 u0_0 u0_1 _ w' hs _ e39 hA0_0.up.tok hA0_1.up.tok) ?_
       rintro _ c40 c41 mo42 mn43 ma44 ⟨v35, v37, rfl, f36, f38⟩
       refine L.storeC (i := 0) sz50 rfl rfl rfl rfl (fun w hw => (all1 rfl (all1 ((mn43 f36).clsF hK hw rfl).one (all1 ((mn43 f38).clsF hK hw rfl).one all0)))) rfl (Nat.le_of_ble_eq_true rfl) ?_
       refine L.y rfl (Y.assign rfl) ?_
       refine L.nil (E.thenN (W.ret (E.KSR (E.retR2 rfl (Rv.cellW (i := 0) ag50 sz50 rfl rfl rfl) (Rv.tmp rfl) (fun w1 hw => ?_)))))
       obtain rfl := Option.some.inj h
       exact ⟨_, _, rfl, ⟨c41, rfl, v35, v37, rfl, (mn43 f36), (mn43 f38)⟩, hw.sel [3] (by decide) rfl⟩
      ·
       refine L.take rfl (L.y rfl (Y.pickF rfl rfl) ?_)
       refine L.y rfl (Y.pickT rfl rfl) ?_
       refine L.nil (E.thenN (W.condF rfl ?_))
       exact W.skip (E.joinJ ⟨rfl, rfl, h⟩ ⟨rfl, rfl, rfl, rfl, trivial⟩ (fun _ hw => hw))
    ·
     rintro _ _ ⟨rfl, rfl, h⟩
     rw [m46_quirref_asked_K2] at h
     refine W.seq (W.region (L.y rfl (Y.fieldP fd50_2 rfl) ?_))
     refine L.y rfl (Y.loadP (i := 2) ag48 rfl rfl rfl) ?_
     refine L.y rfl (Y.lenM (g := TLock.row) (l := a0.Queue) Try.underlying48 rfl (fun w' hw => (hA0_1.up.clsF hK hw rfl))) ?_
     refine L.y rfl (Y.assign rfl) ?_
     refine L.nil (E.thenN (W.seqJ (fun gs D => gs = [(2, pt b1 0), (3, pt b2 0), (4, pt b3 0), (7, .int .i64 (a0.Queue.length : Int))] ∧ D = Cls w [] [.obj b3 [.int .i64 0, .slice none 0 0, .slice none 0 0] 50, .obj b2 [.int .i64 a1.Tx, .int .i64 a1.Mode] 55, .obj b1 [.int .i64 a0.Item, u0_0, u0_1] 50, .os []] ∧ m46_quirref_asked_K3 a0 a1 = some r) ?_ ?_))
     ·
      refine W.seq (W.region (L.y rfl (Y.move rfl) ?_))
      refine L.nil (E.thenN (W.condF rfl ?_))
      exact W.skip (E.joinJ ⟨rfl, rfl, h⟩ ⟨rfl, rfl, rfl, rfl, trivial⟩ (fun _ hw => hw))
     ·
      rintro _ _ ⟨rfl, rfl, h⟩
      rw [m46_quirref_asked_K3] at h
      refine W.seqJ (fun gs D => ∃ (gv2 : Value) (gl3 : (List TLock)), gs = [(2, pt b1 0), (4, pt b3 0)] ∧ D = Cls w [] [.obj b3 [.int .i64 0, .slice none 0 0, .slice none 0 0] 50, .obj b1 [.int .i64 a0.Item, u0_0, gv2] 50, .sl gv2 55 2 (gl3.map TLock.row), .os []] ∧ m46_quirref_asked_K4 a0 gl3 = some r) ?_ ?_
      ·
       refine W.drawn2 (k := 9) (stC [[6, 8], [8]] [Cls w [] [.obj b3 [.int .i64 0, .slice none 0 0, .slice none 0 0] 50, .obj b2 [.int .i64 a1.Tx, .int .i64 a1.Mode] 55, .obj b1 [.int .i64 a0.Item, u0_0, u0_1] 50, .os []], Cls w [] [.obj b3 [.int .i64 0, .slice none 0 0, .slice none 0 0] 50, .obj b2 [.int .i64 a1.Tx, .int .i64 a1.Mode] 55, .obj b1 [.int .i64 a0.Item, u0_0, u0_1] 50, .os []]] (Cls w [] [.obj b3 [.int .i64 0, .slice none 0 0, .slice none 0 0] 50, .obj b2 [.int .i64 a1.Tx, .int .i64 a1.Mode] 55, .os []])) rfl mixed (fun _ hw => hw.drew) (Sc.now (by kernel_rfl) (fun _ hw => hw)) ?_
       refine V2.y (i := 0) (Nx2.of (Z := Cls w [] [.obj b3 [.int .i64 0, .slice none 0 0, .slice none 0 0] 50, .obj b2 [.int .i64 a1.Tx, .int .i64 a1.Mode] 55, .os []]) [] (by kernel_rfl) rfl (Zc.on (fun _ hw => hw.sel [0, 1, 3] (by decide) rfl) (Zc.on (fun _ hw => hw.sel [0, 1, 3] (by decide) rfl) (Zc.fin (fun _ hw => hw))))) rfl rfl rfl (Y.fieldP fd50_2 rfl) ?_
       refine V2.y (i := 1) (Nx2.of (Z := Cls w [] [.obj b3 [.int .i64 0, .slice none 0 0, .slice none 0 0] 50, .obj b2 [.int .i64 a1.Tx, .int .i64 a1.Mode] 55, .obj b1 [.int .i64 a0.Item, u0_0, u0_1] 50, .os []]) [8] (by kernel_rfl) rfl (Zc.on (fun _ hw => hw) (Zc.at1 (fun _ hw => hw)))) rfl rfl rfl (Y.loadP (i := 2) ag48 rfl rfl rfl) ?_
       refine V2.y (i := 3) (Nx2.of (Z := Cls w [] [.obj b3 [.int .i64 0, .slice none 0 0, .slice none 0 0] 50, .obj b2 [.int .i64 a1.Tx, .int .i64 a1.Mode] 55, .os []]) [] (by kernel_rfl) rfl (Zc.on (fun _ hw => hw.sel [0, 1, 3] (by decide) rfl) (Zc.on (fun _ hw => hw.sel [0, 1, 3] (by decide) rfl) (Zc.fin (fun _ hw => hw))))) rfl rfl rfl (Y.move rfl) ?_
       refine V2.y (i := 4) (Nx2.of (Z := Cls w [] [.obj b3 [.int .i64 0, .slice none 0 0, .slice none 0 0] 50, .obj b2 [.int .i64 a1.Tx, .int .i64 a1.Mode] 55, .os []]) [] (by kernel_rfl) rfl (Zc.on (fun _ hw => hw.sel [0, 1, 3] (by decide) rfl) (Zc.on (fun _ hw => hw.sel [0, 1, 3] (by decide) rfl) (Zc.fin (fun _ hw => hw))))) rfl rfl rfl (Y.loadPW (i := 1) ag55 sz55 rfl rfl rfl) ?_
       refine V2.eff2 (i1 := 2) (i2 := 5) (by kernel_rfl) rfl rfl ?_ ?_
       ·
        obtain ⟨l19, e21, h⟩ := bind1S h
        refine L.does rfl en47 rfl (fun w' hw => w47_api_Lock a0.Queue u0_1 w' _ e21 (hA0_1.up.clsF hK hw rfl)) ?_
        rintro v20 _ ⟨_, rfl, rfl⟩
        refine L.nil (E.toV2 (stC [[6, 8], [8]] [Cls w [] [.sl v20 55 2 (l19.map TLock.row), .obj b3 [.int .i64 0, .slice none 0 0, .slice none 0 0] 50, .obj b2 [.int .i64 a1.Tx, .int .i64 a1.Mode] 55, .obj b1 [.int .i64 a0.Item, u0_0, u0_1] 50, .os []], Cls w [] [.obj b3 [.int .i64 0, .slice none 0 0, .slice none 0 0] 50, .obj b2 [.int .i64 a1.Tx, .int .i64 a1.Mode] 55, .obj b1 [.int .i64 a0.Item, u0_0, u0_1] 50, .os []]] (Cls w [] [.obj b3 [.int .i64 0, .slice none 0 0, .slice none 0 0] 50, .obj b2 [.int .i64 a1.Tx, .int .i64 a1.Mode] 55, .os []])) 2 (by kernel_rfl) (Sc.stay (fun _ hw => hw.sel [1, 2, 3, 4] (by decide) rfl) (Sc.stay (fun _ hw => hw) (Sc.stayD (fun _ hw => hw)))) (Sc.now (by kernel_rfl) (fun _ hw => hw)) ?_)
        refine V2.eff (i := 5) (by kernel_rfl) rfl ?_
        refine L.litAgg rfl Try.underlying48 eL55 rfl rfl rfl ?_
        intro b22
        refine L.nil (E.toV2 (stC [[6, 8], [8]] [Cls w [] [.sl (sv b22 1) 55 2 (([a1]).map TLock.row), .sl v20 55 2 (l19.map TLock.row), .obj b3 [.int .i64 0, .slice none 0 0, .slice none 0 0] 50, .obj b2 [.int .i64 a1.Tx, .int .i64 a1.Mode] 55, .obj b1 [.int .i64 a0.Item, u0_0, u0_1] 50, .os []], Cls w [] [.sl (sv b22 1) 55 2 (([a1]).map TLock.row), .obj b3 [.int .i64 0, .slice none 0 0, .slice none 0 0] 50, .obj b2 [.int .i64 a1.Tx, .int .i64 a1.Mode] 55, .obj b1 [.int .i64 a0.Item, u0_0, u0_1] 50, .os []]] (Cls w [] [.sl (sv b22 1) 55 2 (([a1]).map TLock.row), .obj b3 [.int .i64 0, .slice none 0 0, .slice none 0 0] 50, .obj b2 [.int .i64 a1.Tx, .int .i64 a1.Mode] 55, .os []])) 5 (by kernel_rfl) (Sc.stay (fun _ hw => hw.sel [1, 2, 3, 4, 5] (by decide) rfl) (Sc.stay (fun _ hw => hw.sel [1, 2, 3, 4] (by decide) rfl) (Sc.stayD (fun _ hw => hw.sel [1, 2, 3] (by decide) rfl)))) (Sc.now (by kernel_rfl) (fun _ hw => hw)) ?_)
        refine V2.eff (i := 6) (by kernel_rfl) rfl ?_
        refine L.insRD (i := 1) (j := 0) (l := l19) (x1 := a1) (a := (a0.Queue.length : Int)) h wInsR29 (fun _ => rfl) rfl en29 rfl rfl rfl rfl rfl (by decide) ?_
        intro v24 l23 el23 h
        refine L.nil (E.toV2 (stC [[8]] [Cls w [] [.sl (sv b22 1) 55 2 (([a1]).map TLock.row), .sl v24 55 2 (l23.map TLock.row), .obj b3 [.int .i64 0, .slice none 0 0, .slice none 0 0] 50, .obj b2 [.int .i64 a1.Tx, .int .i64 a1.Mode] 55, .obj b1 [.int .i64 a0.Item, u0_0, u0_1] 50, .os []]] (Cls w [] [.sl (sv b22 1) 55 2 (([a1]).map TLock.row), .sl v24 55 2 (l23.map TLock.row), .obj b3 [.int .i64 0, .slice none 0 0, .slice none 0 0] 50, .obj b2 [.int .i64 a1.Tx, .int .i64 a1.Mode] 55, .os []])) 6 (by kernel_rfl) (Sc.past rfl (Sc.stay (fun _ hw => hw.sel [0, 2, 3, 4, 5] (by decide) rfl) (Sc.stayD (fun _ hw => hw.sel [0, 2, 3, 4] (by decide) rfl)))) (Sc.now (by kernel_rfl) (fun _ hw => hw)) ?_)
        refine V2.y (i := 7) (Nx2.of (Z := Cls w [] [.sl (sv b22 1) 55 2 (([a1]).map TLock.row), .sl v24 55 2 (l23.map TLock.row), .obj b3 [.int .i64 0, .slice none 0 0, .slice none 0 0] 50, .obj b2 [.int .i64 a1.Tx, .int .i64 a1.Mode] 55, .os []]) [] (by kernel_rfl) rfl (Zc.on (fun _ hw => hw.sel [0, 1, 2, 3, 5] (by decide) rfl) (Zc.fin (fun _ hw => hw)))) rfl rfl rfl (Y.fieldP fd50_2 rfl) ?_
        refine V2.eff (i := 8) (by kernel_rfl) rfl ?_
        refine L.storeV (i := 4) sz48 rfl rfl (fun _ hw => (As.at_ (hw.get (i := 1) rfl)).one) rfl (Nat.le_of_ble_eq_true rfl) ?_
        refine L.nil (E.toV2 (stC [] [] (Cls w [] [.sl (sv b22 1) 55 2 (([a1]).map TLock.row), .sl v24 55 2 (l23.map TLock.row), .obj b3 [.int .i64 0, .slice none 0 0, .slice none 0 0] 50, .obj b2 [.int .i64 a1.Tx, .int .i64 a1.Mode] 55, .os []])) 8 (by kernel_rfl) (Sc.past rfl (Sc.stayD (fun _ hw => hw))) (Sc.atD (fun _ hw => hw.sel [0, 1, 2, 3, 5] (by decide) rfl)) ?_)
        refine V2.done (by kernel_rfl) ?_
        exact E.joinJ ⟨v24, l23, rfl, rfl, h⟩ ⟨rfl, rfl, trivial⟩ (fun _ hw => hw.sel [2, 4, 1, 5] (by decide) rfl)
       ·
        refine L.litAgg rfl Try.underlying48 eL55 rfl rfl rfl ?_
        intro b25
        refine L.nil (E.toV2 (stC [[6, 8], [8]] [Cls w [] [.sl (sv b25 1) 55 2 (([a1]).map TLock.row), .obj b3 [.int .i64 0, .slice none 0 0, .slice none 0 0] 50, .obj b2 [.int .i64 a1.Tx, .int .i64 a1.Mode] 55, .obj b1 [.int .i64 a0.Item, u0_0, u0_1] 50, .os []], Cls w [] [.sl (sv b25 1) 55 2 (([a1]).map TLock.row), .obj b3 [.int .i64 0, .slice none 0 0, .slice none 0 0] 50, .obj b2 [.int .i64 a1.Tx, .int .i64 a1.Mode] 55, .obj b1 [.int .i64 a0.Item, u0_0, u0_1] 50, .os []]] (Cls w [] [.sl (sv b25 1) 55 2 (([a1]).map TLock.row), .obj b3 [.int .i64 0, .slice none 0 0, .slice none 0 0] 50, .obj b2 [.int .i64 a1.Tx, .int .i64 a1.Mode] 55, .os []])) 5 (by kernel_rfl) (Sc.stay (fun _ hw => hw.sel [1, 2, 3, 4] (by decide) rfl) (Sc.stay (fun _ hw => hw.sel [1, 2, 3, 4] (by decide) rfl) (Sc.stayD (fun _ hw => hw.sel [1, 2, 3] (by decide) rfl)))) (Sc.now (by kernel_rfl) (fun _ hw => hw)) ?_)
        refine V2.eff (i := 2) (by kernel_rfl) rfl ?_
        obtain ⟨l26, e28, h⟩ := bind1S h
        refine L.does rfl en47 rfl (fun w' hw => w47_api_Lock a0.Queue u0_1 w' _ e28 (hA0_1.up.clsF hK hw rfl)) ?_
        rintro v27 _ ⟨_, rfl, rfl⟩
        refine L.nil (E.toV2 (stC [[6, 8], [8]] [Cls w [] [.sl v27 55 2 (l26.map TLock.row), .sl (sv b25 1) 55 2 (([a1]).map TLock.row), .obj b3 [.int .i64 0, .slice none 0 0, .slice none 0 0] 50, .obj b2 [.int .i64 a1.Tx, .int .i64 a1.Mode] 55, .obj b1 [.int .i64 a0.Item, u0_0, u0_1] 50, .os []], Cls w [] [.sl (sv b25 1) 55 2 (([a1]).map TLock.row), .obj b3 [.int .i64 0, .slice none 0 0, .slice none 0 0] 50, .obj b2 [.int .i64 a1.Tx, .int .i64 a1.Mode] 55, .obj b1 [.int .i64 a0.Item, u0_0, u0_1] 50, .os []]] (Cls w [] [.sl (sv b25 1) 55 2 (([a1]).map TLock.row), .obj b3 [.int .i64 0, .slice none 0 0, .slice none 0 0] 50, .obj b2 [.int .i64 a1.Tx, .int .i64 a1.Mode] 55, .os []])) 2 (by kernel_rfl) (Sc.stay (fun _ hw => hw.sel [1, 2, 3, 4, 5] (by decide) rfl) (Sc.stay (fun _ hw => hw) (Sc.stayD (fun _ hw => hw)))) (Sc.now (by kernel_rfl) (fun _ hw => hw)) ?_)
        refine V2.eff (i := 6) (by kernel_rfl) rfl ?_
        refine L.insRD (i := 0) (j := 1) (l := l26) (x1 := a1) (a := (a0.Queue.length : Int)) h wInsR29 (fun _ => rfl) rfl en29 rfl rfl rfl rfl rfl (by decide) ?_
        intro v30 l29 el29 h
        refine L.nil (E.toV2 (stC [[8]] [Cls w [] [.sl v30 55 2 (l29.map TLock.row), .sl (sv b25 1) 55 2 (([a1]).map TLock.row), .obj b3 [.int .i64 0, .slice none 0 0, .slice none 0 0] 50, .obj b2 [.int .i64 a1.Tx, .int .i64 a1.Mode] 55, .obj b1 [.int .i64 a0.Item, u0_0, u0_1] 50, .os []]] (Cls w [] [.sl v30 55 2 (l29.map TLock.row), .sl (sv b25 1) 55 2 (([a1]).map TLock.row), .obj b3 [.int .i64 0, .slice none 0 0, .slice none 0 0] 50, .obj b2 [.int .i64 a1.Tx, .int .i64 a1.Mode] 55, .os []])) 6 (by kernel_rfl) (Sc.past rfl (Sc.stay (fun _ hw => hw.sel [1, 2, 3, 4, 5] (by decide) rfl) (Sc.stayD (fun _ hw => hw.sel [1, 2, 3, 4] (by decide) rfl)))) (Sc.now (by kernel_rfl) (fun _ hw => hw)) ?_)
        refine V2.y (i := 7) (Nx2.of (Z := Cls w [] [.sl v30 55 2 (l29.map TLock.row), .sl (sv b25 1) 55 2 (([a1]).map TLock.row), .obj b3 [.int .i64 0, .slice none 0 0, .slice none 0 0] 50, .obj b2 [.int .i64 a1.Tx, .int .i64 a1.Mode] 55, .os []]) [] (by kernel_rfl) rfl (Zc.on (fun _ hw => hw.sel [0, 1, 2, 3, 5] (by decide) rfl) (Zc.fin (fun _ hw => hw)))) rfl rfl rfl (Y.fieldP fd50_2 rfl) ?_
        refine V2.eff (i := 8) (by kernel_rfl) rfl ?_
        refine L.storeV (i := 4) sz48 rfl rfl (fun _ hw => (As.at_ (hw.get (i := 0) rfl)).one) rfl (Nat.le_of_ble_eq_true rfl) ?_
        refine L.nil (E.toV2 (stC [] [] (Cls w [] [.sl v30 55 2 (l29.map TLock.row), .sl (sv b25 1) 55 2 (([a1]).map TLock.row), .obj b3 [.int .i64 0, .slice none 0 0, .slice none 0 0] 50, .obj b2 [.int .i64 a1.Tx, .int .i64 a1.Mode] 55, .os []])) 8 (by kernel_rfl) (Sc.past rfl (Sc.stayD (fun _ hw => hw))) (Sc.atD (fun _ hw => hw.sel [0, 1, 2, 3, 5] (by decide) rfl)) ?_)
        refine V2.done (by kernel_rfl) ?_
        exact E.joinJ ⟨v30, l29, rfl, rfl, h⟩ ⟨rfl, rfl, trivial⟩ (fun _ hw => hw.sel [2, 4, 0, 5] (by decide) rfl)
      ·
       rintro _ _ ⟨gv2, gl3, rfl, rfl, h⟩
       rw [m46_quirref_asked_K4] at h
       refine W.seq (W.region (L.y rfl (Y.loadPW (i := 1) ag50 sz50 rfl rfl rfl) ?_))
       refine L.storeC (i := 0) sz50 rfl rfl rfl rfl (fun w hw => (all1 rfl (all1 (hA0_0.up.clsF hK hw rfl).one (all1 (As.at_ (hw.get (i := 2) rfl)).one all0)))) rfl (Nat.le_of_ble_eq_true rfl) ?_
       refine L.y rfl (Y.assign rfl) ?_
       refine L.nil (E.thenN (W.ret (E.frz (i := 2) rfl rfl rfl ?_)))
       intro c4 mo5 hf6
       refine E.retR2 rfl (Rv.cellW (i := 0) ag50 sz50 rfl rfl rfl) (Rv.tmp rfl) (fun w1 hw => ?_)
       obtain rfl := Option.some.inj h
       exact ⟨_, _, rfl, ⟨c4, rfl, u0_0, gv2, rfl, hA0_0.up, (hf6 K)⟩, hw.sel [2] (by decide) rfl⟩
   ·
    replace h := iteT h
    refine W.seqJ (fun gs D => gs = [(2, pt b1 0), (3, pt b2 0), (4, pt b3 0), (6, .bool true)] ∧ D = Cls w [] [.obj b3 [.int .i64 0, .slice none 0 0, .slice none 0 0] 50, .obj b2 [.int .i64 a1.Tx, .int .i64 a1.Mode] 55, .obj b1 [.int .i64 a0.Item, u0_0, u0_1] 50, .os []] ∧ m46_quirref_asked_K5 a0 a1 = some r) ?_ ?_
    ·
     refine W.seq (W.region (L.y rfl (Y.loadPW (i := 2) ag50 sz50 rfl rfl rfl) ?_))
     refine L.y rfl (Y.loadPW (i := 1) ag55 sz55 rfl rfl rfl) ?_
     obtain ⟨b78, e79, h⟩ := bind1S h
     refine L.y rfl (Y.does en41 rfl (fun w' hw => (w41_quirref_can a0 a1 u0_0 u0_1 w' _ e79 (hA0_0.up.clsF hK hw rfl) (hA0_1.up.clsF hK hw rfl)).mono (fun _ _ h => h.1))) ?_
     rcases b78 with _ | _
     ·
      replace h := iteF h
      refine L.y rfl (Y.move rfl) ?_
      refine L.pass rfl rfl (by nofun) ?_
      refine L.pass rfl rfl (by nofun) ?_
      refine L.pass rfl rfl (by nofun) ?_
      refine L.pass rfl rfl (by nofun) ?_
      refine L.pass rfl rfl (by nofun) ?_
      refine L.pass rfl rfl (by nofun) ?_
      refine L.pass rfl rfl (by nofun) ?_
      refine L.y rfl (Y.pickF rfl rfl) ?_
      refine L.nil (E.thenN (W.condF rfl ?_))
      exact W.skip (E.joinJ ⟨rfl, rfl, h⟩ ⟨rfl, rfl, rfl, rfl, trivial⟩ (fun _ hw => hw))
     ·
      replace h := iteT h
      refine L.y rfl (Y.move rfl) ?_
      refine L.take rfl (L.y rfl (Y.move rfl) ?_)
      refine L.take rfl (L.y rfl (Y.move rfl) ?_)
      refine L.pass rfl rfl (by nofun) ?_
      refine L.pass rfl rfl (by nofun) ?_
      refine L.pass rfl rfl (by nofun) ?_
      refine L.pass rfl rfl (by nofun) ?_
      refine L.take rfl (L.y rfl (Y.pickT rfl rfl) ?_)
      refine L.y rfl (Y.pickT rfl rfl) ?_
      refine L.nil (E.thenN (W.condT rfl ?_))
      refine W.seq (W.region (L.y rfl (Y.loadPW (i := 2) ag50 sz50 rfl rfl rfl) ?_))
      refine L.y rfl (Y.loadPW (i := 1) ag55 sz55 rfl rfl rfl) ?_
      obtain ⟨x80, e85, h⟩ := bind1S h
      refine L.doesF rfl en42 rfl rfl hK (fun w' hw hs => w42_quirref_given a0 a1 u0_0 u0_1 _ w' hs _ e85 hA0_0.up.tok hA0_1.up.tok) ?_
      rintro _ c86 c87 mo88 mn89 ma90 ⟨v81, v83, rfl, f82, f84⟩
      refine L.storeC (i := 0) sz50 rfl rfl rfl rfl (fun w hw => (all1 rfl (all1 ((mn89 f82).clsF hK hw rfl).one (all1 ((mn89 f84).clsF hK hw rfl).one all0)))) rfl (Nat.le_of_ble_eq_true rfl) ?_
      refine L.y rfl (Y.assign rfl) ?_
      refine L.nil (E.thenN (W.ret (E.KSR (E.retR2 rfl (Rv.cellW (i := 0) ag50 sz50 rfl rfl rfl) (Rv.tmp rfl) (fun w1 hw => ?_)))))
      obtain rfl := Option.some.inj h
      exact ⟨_, _, rfl, ⟨c87, rfl, v81, v83, rfl, (mn89 f82), (mn89 f84)⟩, hw.sel [3] (by decide) rfl⟩
    ·
     rintro _ _ ⟨rfl, rfl, h⟩
     rw [m46_quirref_asked_K5] at h
     refine W.seq (W.region (L.y rfl (Y.fieldP fd50_2 rfl) ?_))
     refine L.y rfl (Y.loadP (i := 2) ag48 rfl rfl rfl) ?_
     refine L.y rfl (Y.lenM (g := TLock.row) (l := a0.Queue) Try.underlying48 rfl (fun w' hw => (hA0_1.up.clsF hK hw rfl))) ?_
     refine L.y rfl (Y.assign rfl) ?_
     refine L.nil (E.thenN (W.seqJ (fun gs D => ∃ (gx4 : Int), gs = [(2, pt b1 0), (3, pt b2 0), (4, pt b3 0), (7, .int .i64 gx4)] ∧ D = Cls w [] [.obj b3 [.int .i64 0, .slice none 0 0, .slice none 0 0] 50, .obj b2 [.int .i64 a1.Tx, .int .i64 a1.Mode] 55, .obj b1 [.int .i64 a0.Item, u0_0, u0_1] 50, .os []] ∧ m46_quirref_asked_K6 a0 a1 gx4 = some r) ?_ ?_))
     ·
      refine W.seq (W.region (L.y rfl (Y.move rfl) ?_))
      refine L.nil (E.thenN (W.condT rfl ?_))
      refine W.seq (W.region (L.y rfl (Y.assign rfl) ?_))
      refine L.nil (E.thenN (W.block (W.loopJ (fun m gs D => ∃ (gx7 : Int), gs = [(2, pt b1 0), (3, pt b2 0), (4, pt b3 0), (7, .int .i64 gx7)] ∧ D = Cls w [] [.obj b3 [.int .i64 0, .slice none 0 0, .slice none 0 0] 50, .obj b2 [.int .i64 a1.Tx, .int .i64 a1.Mode] 55, .obj b1 [.int .i64 a0.Item, u0_0, u0_1] 50, .os []] ∧ m46_quirref_asked_L1 a0 a1 m gx7 = some r) ⟨0, rfl, rfl, h⟩ ⟨rfl, rfl, rfl, rfl, trivial⟩ (fun _ hw => hw) ?_)))
      rintro m _ _ ⟨gx7, rfl, rfl, h⟩
      rcases m with _ | m
      · rw [m46_quirref_asked_L1] at h; cases h
      rw [m46_quirref_asked_L1] at h
      generalize hg1 : m46_quirref_asked_L1 a0 a1 m = go1 at h
      rw [m46_quirref_asked_L1B] at h
      refine W.seq (W.seq (W.quietC mixed (by kernel_rfl) (fun _ hw => hw.drew) (fun hC => ?_)))
      refine U.y rfl (Y.move rfl) ?_
      refine U.y rfl (Y.fieldP fd50_2 rfl) ?_
      refine U.y rfl (Y.loadP (i := 2) ag48 rfl rfl rfl) ?_
      refine U.y rfl (Y.lenM (g := TLock.row) (l := a0.Queue) Try.underlying48 rfl (fun w' hw => (hA0_1.up.clsF hK hw rfl))) ?_
      refine U.ite h rfl (Y.lss rfl rfl) (fun c72 h => ?_) (fun c72 h => ?_)
      ·
       refine U.y rfl (Y.move rfl) ?_
       refine U.take rfl (U.y rfl (Y.fieldP fd50_1 rfl) ?_)
       refine U.take rfl (U.y rfl (Y.loadP (i := 2) ag48 rfl rfl rfl) ?_)
       refine U.take rfl (U.y rfl (Y.fieldP fd50_2 rfl) ?_)
       refine U.take rfl (U.y rfl (Y.loadP (i := 2) ag48 rfl rfl rfl) ?_)
       refine U.take rfl (U.y rfl (Y.move rfl) ?_)
       refine U.take rfl (U.m (V := fun _ => el u0_1 (gx7.toNat * 2)) h rfl (Y.indexM (g := TLock.row) (l := a0.Queue) Try.underlying48 sz55 rfl rfl (fun w' hw => (hA0_1.up.clsF hK hw rfl))) (fun x73 ex73 h => ?_))
       refine U.take rfl (U.y rfl (Y.fieldE fd55_0 rfl) ?_)
       refine U.take rfl (U.y rfl (Y.loadE (u := .int .i64 x73.Tx) ag3 rfl (fun w' hw => (hA0_1.up.clsF hK hw rfl)) (idx_map ex73) rfl) ?_)
       refine U.take rfl ?_
       obtain ⟨x74, e75, h⟩ := bind1S h
       refine U.y rfl (Y.does en37 rfl (fun w' hw => (w37_quirref_holds a0.Held x73.Tx u0_0 w' _ e75 (hA0_0.up.clsF hK hw rfl)).mono (fun _ _ h => h.1))) ?_
       refine U.take rfl (U.ite h rfl (Y.gtr rfl rfl) (fun c76 h => ?_) (fun c76 h => ?_))
       ·
        refine U.y rfl (Y.pickT rfl rfl) ?_
        refine U.nil (E.thenN (W.condT rfl ?_))
        refine W.skip (E.thenN (W.block (W.region (L.y rfl (Y.move rfl) ?_))))
        refine L.m (V := fun x77 => .int .i64 x77) h rfl (Y.addM rfl rfl) (fun x77 ex77 h => ?_)
        refine L.y rfl (Y.assign rfl) ?_
        exact L.nil (E.blockN (E.againJ ⟨x77, rfl, rfl, by rw [hg1]; exact h⟩ (Nat.lt_succ_self _) ⟨rfl, rfl, rfl, rfl, trivial⟩ (fun _ hw => hw)))
       ·
        refine U.y rfl (Y.pickT rfl rfl) ?_
        refine U.nil (E.thenN (W.condF rfl ?_))
        exact W.exit (E.thenX (E.KLX (E.blockX (E.joinJ ⟨gx7, rfl, rfl, h⟩ ⟨rfl, rfl, rfl, rfl, trivial⟩ (fun _ hw => hw)))))
      ·
       refine U.y rfl (Y.move rfl) ?_
       refine U.pass rfl rfl (by nofun) ?_
       refine U.pass rfl rfl (by nofun) ?_
       refine U.pass rfl rfl (by nofun) ?_
       refine U.pass rfl rfl (by nofun) ?_
       refine U.pass rfl rfl (by nofun) ?_
       refine U.pass rfl rfl (by nofun) ?_
       refine U.pass rfl rfl (by nofun) ?_
       refine U.pass rfl rfl (by nofun) ?_
       refine U.pass rfl rfl (by nofun) ?_
       refine U.pass rfl rfl (by nofun) ?_
       refine U.y rfl (Y.pickF rfl rfl) ?_
       refine U.nil (E.thenN (W.condF rfl ?_))
       exact W.exit (E.thenX (E.KLX (E.blockX (E.joinJ ⟨gx7, rfl, rfl, h⟩ ⟨rfl, rfl, rfl, rfl, trivial⟩ (fun _ hw => hw)))))
     ·
      rintro _ _ ⟨gx4, rfl, rfl, h⟩
      rw [m46_quirref_asked_K6] at h
      refine W.seqJ (fun gs D => ∃ (gv5 : Value) (gl6 : (List TLock)), gs = [(2, pt b1 0), (4, pt b3 0)] ∧ D = Cls w [] [.obj b3 [.int .i64 0, .slice none 0 0, .slice none 0 0] 50, .obj b1 [.int .i64 a0.Item, u0_0, gv5] 50, .sl gv5 55 2 (gl6.map TLock.row), .os []] ∧ m46_quirref_asked_K7 a0 gl6 = some r) ?_ ?_
      ·
       refine W.drawn2 (k := 9) (stC [[6, 8], [8]] [Cls w [] [.obj b3 [.int .i64 0, .slice none 0 0, .slice none 0 0] 50, .obj b2 [.int .i64 a1.Tx, .int .i64 a1.Mode] 55, .obj b1 [.int .i64 a0.Item, u0_0, u0_1] 50, .os []], Cls w [] [.obj b3 [.int .i64 0, .slice none 0 0, .slice none 0 0] 50, .obj b2 [.int .i64 a1.Tx, .int .i64 a1.Mode] 55, .obj b1 [.int .i64 a0.Item, u0_0, u0_1] 50, .os []]] (Cls w [] [.obj b3 [.int .i64 0, .slice none 0 0, .slice none 0 0] 50, .obj b2 [.int .i64 a1.Tx, .int .i64 a1.Mode] 55, .os []])) rfl mixed (fun _ hw => hw.drew) (Sc.now (by kernel_rfl) (fun _ hw => hw)) ?_
       refine V2.y (i := 0) (Nx2.of (Z := Cls w [] [.obj b3 [.int .i64 0, .slice none 0 0, .slice none 0 0] 50, .obj b2 [.int .i64 a1.Tx, .int .i64 a1.Mode] 55, .os []]) [] (by kernel_rfl) rfl (Zc.on (fun _ hw => hw.sel [0, 1, 3] (by decide) rfl) (Zc.on (fun _ hw => hw.sel [0, 1, 3] (by decide) rfl) (Zc.fin (fun _ hw => hw))))) rfl rfl rfl (Y.fieldP fd50_2 rfl) ?_
       refine V2.y (i := 1) (Nx2.of (Z := Cls w [] [.obj b3 [.int .i64 0, .slice none 0 0, .slice none 0 0] 50, .obj b2 [.int .i64 a1.Tx, .int .i64 a1.Mode] 55, .obj b1 [.int .i64 a0.Item, u0_0, u0_1] 50, .os []]) [8] (by kernel_rfl) rfl (Zc.on (fun _ hw => hw) (Zc.at1 (fun _ hw => hw)))) rfl rfl rfl (Y.loadP (i := 2) ag48 rfl rfl rfl) ?_
       refine V2.y (i := 3) (Nx2.of (Z := Cls w [] [.obj b3 [.int .i64 0, .slice none 0 0, .slice none 0 0] 50, .obj b2 [.int .i64 a1.Tx, .int .i64 a1.Mode] 55, .os []]) [] (by kernel_rfl) rfl (Zc.on (fun _ hw => hw.sel [0, 1, 3] (by decide) rfl) (Zc.on (fun _ hw => hw.sel [0, 1, 3] (by decide) rfl) (Zc.fin (fun _ hw => hw))))) rfl rfl rfl (Y.move rfl) ?_
       refine V2.y (i := 4) (Nx2.of (Z := Cls w [] [.obj b3 [.int .i64 0, .slice none 0 0, .slice none 0 0] 50, .obj b2 [.int .i64 a1.Tx, .int .i64 a1.Mode] 55, .os []]) [] (by kernel_rfl) rfl (Zc.on (fun _ hw => hw.sel [0, 1, 3] (by decide) rfl) (Zc.on (fun _ hw => hw.sel [0, 1, 3] (by decide) rfl) (Zc.fin (fun _ hw => hw))))) rfl rfl rfl (Y.loadPW (i := 1) ag55 sz55 rfl rfl rfl) ?_
       refine V2.eff2 (i1 := 2) (i2 := 5) (by kernel_rfl) rfl rfl ?_ ?_
       ·
        obtain ⟨l60, e62, h⟩ := bind1S h
        refine L.does rfl en47 rfl (fun w' hw => w47_api_Lock a0.Queue u0_1 w' _ e62 (hA0_1.up.clsF hK hw rfl)) ?_
        rintro v61 _ ⟨_, rfl, rfl⟩
        refine L.nil (E.toV2 (stC [[6, 8], [8]] [Cls w [] [.sl v61 55 2 (l60.map TLock.row), .obj b3 [.int .i64 0, .slice none 0 0, .slice none 0 0] 50, .obj b2 [.int .i64 a1.Tx, .int .i64 a1.Mode] 55, .obj b1 [.int .i64 a0.Item, u0_0, u0_1] 50, .os []], Cls w [] [.obj b3 [.int .i64 0, .slice none 0 0, .slice none 0 0] 50, .obj b2 [.int .i64 a1.Tx, .int .i64 a1.Mode] 55, .obj b1 [.int .i64 a0.Item, u0_0, u0_1] 50, .os []]] (Cls w [] [.obj b3 [.int .i64 0, .slice none 0 0, .slice none 0 0] 50, .obj b2 [.int .i64 a1.Tx, .int .i64 a1.Mode] 55, .os []])) 2 (by kernel_rfl) (Sc.stay (fun _ hw => hw.sel [1, 2, 3, 4] (by decide) rfl) (Sc.stay (fun _ hw => hw) (Sc.stayD (fun _ hw => hw)))) (Sc.now (by kernel_rfl) (fun _ hw => hw)) ?_)
        refine V2.eff (i := 5) (by kernel_rfl) rfl ?_
        refine L.litAgg rfl Try.underlying48 eL55 rfl rfl rfl ?_
        intro b63
        refine L.nil (E.toV2 (stC [[6, 8], [8]] [Cls w [] [.sl (sv b63 1) 55 2 (([a1]).map TLock.row), .sl v61 55 2 (l60.map TLock.row), .obj b3 [.int .i64 0, .slice none 0 0, .slice none 0 0] 50, .obj b2 [.int .i64 a1.Tx, .int .i64 a1.Mode] 55, .obj b1 [.int .i64 a0.Item, u0_0, u0_1] 50, .os []], Cls w [] [.sl (sv b63 1) 55 2 (([a1]).map TLock.row), .obj b3 [.int .i64 0, .slice none 0 0, .slice none 0 0] 50, .obj b2 [.int .i64 a1.Tx, .int .i64 a1.Mode] 55, .obj b1 [.int .i64 a0.Item, u0_0, u0_1] 50, .os []]] (Cls w [] [.sl (sv b63 1) 55 2 (([a1]).map TLock.row), .obj b3 [.int .i64 0, .slice none 0 0, .slice none 0 0] 50, .obj b2 [.int .i64 a1.Tx, .int .i64 a1.Mode] 55, .os []])) 5 (by kernel_rfl) (Sc.stay (fun _ hw => hw.sel [1, 2, 3, 4, 5] (by decide) rfl) (Sc.stay (fun _ hw => hw.sel [1, 2, 3, 4] (by decide) rfl) (Sc.stayD (fun _ hw => hw.sel [1, 2, 3] (by decide) rfl)))) (Sc.now (by kernel_rfl) (fun _ hw => hw)) ?_)
        refine V2.eff (i := 6) (by kernel_rfl) rfl ?_
        refine L.insRD (i := 1) (j := 0) (l := l60) (x1 := a1) (a := gx4) h wInsR29 (fun _ => rfl) rfl en29 rfl rfl rfl rfl rfl (by decide) ?_
        intro v65 l64 el64 h
        refine L.nil (E.toV2 (stC [[8]] [Cls w [] [.sl (sv b63 1) 55 2 (([a1]).map TLock.row), .sl v65 55 2 (l64.map TLock.row), .obj b3 [.int .i64 0, .slice none 0 0, .slice none 0 0] 50, .obj b2 [.int .i64 a1.Tx, .int .i64 a1.Mode] 55, .obj b1 [.int .i64 a0.Item, u0_0, u0_1] 50, .os []]] (Cls w [] [.sl (sv b63 1) 55 2 (([a1]).map TLock.row), .sl v65 55 2 (l64.map TLock.row), .obj b3 [.int .i64 0, .slice none 0 0, .slice none 0 0] 50, .obj b2 [.int .i64 a1.Tx, .int .i64 a1.Mode] 55, .os []])) 6 (by kernel_rfl) (Sc.past rfl (Sc.stay (fun _ hw => hw.sel [0, 2, 3, 4, 5] (by decide) rfl) (Sc.stayD (fun _ hw => hw.sel [0, 2, 3, 4] (by decide) rfl)))) (Sc.now (by kernel_rfl) (fun _ hw => hw)) ?_)
        refine V2.y (i := 7) (Nx2.of (Z := Cls w [] [.sl (sv b63 1) 55 2 (([a1]).map TLock.row), .sl v65 55 2 (l64.map TLock.row), .obj b3 [.int .i64 0, .slice none 0 0, .slice none 0 0] 50, .obj b2 [.int .i64 a1.Tx, .int .i64 a1.Mode] 55, .os []]) [] (by kernel_rfl) rfl (Zc.on (fun _ hw => hw.sel [0, 1, 2, 3, 5] (by decide) rfl) (Zc.fin (fun _ hw => hw)))) rfl rfl rfl (Y.fieldP fd50_2 rfl) ?_
        refine V2.eff (i := 8) (by kernel_rfl) rfl ?_
        refine L.storeV (i := 4) sz48 rfl rfl (fun _ hw => (As.at_ (hw.get (i := 1) rfl)).one) rfl (Nat.le_of_ble_eq_true rfl) ?_
        refine L.nil (E.toV2 (stC [] [] (Cls w [] [.sl (sv b63 1) 55 2 (([a1]).map TLock.row), .sl v65 55 2 (l64.map TLock.row), .obj b3 [.int .i64 0, .slice none 0 0, .slice none 0 0] 50, .obj b2 [.int .i64 a1.Tx, .int .i64 a1.Mode] 55, .os []])) 8 (by kernel_rfl) (Sc.past rfl (Sc.stayD (fun _ hw => hw))) (Sc.atD (fun _ hw => hw.sel [0, 1, 2, 3, 5] (by decide) rfl)) ?_)
        refine V2.done (by kernel_rfl) ?_
        exact E.joinJ ⟨v65, l64, rfl, rfl, h⟩ ⟨rfl, rfl, trivial⟩ (fun _ hw => hw.sel [2, 4, 1, 5] (by decide) rfl)
       ·
        refine L.litAgg rfl Try.underlying48 eL55 rfl rfl rfl ?_
        intro b66
        refine L.nil (E.toV2 (stC [[6, 8], [8]] [Cls w [] [.sl (sv b66 1) 55 2 (([a1]).map TLock.row), .obj b3 [.int .i64 0, .slice none 0 0, .slice none 0 0] 50, .obj b2 [.int .i64 a1.Tx, .int .i64 a1.Mode] 55, .obj b1 [.int .i64 a0.Item, u0_0, u0_1] 50, .os []], Cls w [] [.sl (sv b66 1) 55 2 (([a1]).map TLock.row), .obj b3 [.int .i64 0, .slice none 0 0, .slice none 0 0] 50, .obj b2 [.int .i64 a1.Tx, .int .i64 a1.Mode] 55, .obj b1 [.int .i64 a0.Item, u0_0, u0_1] 50, .os []]] (Cls w [] [.sl (sv b66 1) 55 2 (([a1]).map TLock.row), .obj b3 [.int .i64 0, .slice none 0 0, .slice none 0 0] 50, .obj b2 [.int .i64 a1.Tx, .int .i64 a1.Mode] 55, .os []])) 5 (by kernel_rfl) (Sc.stay (fun _ hw => hw.sel [1, 2, 3, 4] (by decide) rfl) (Sc.stay (fun _ hw => hw.sel [1, 2, 3, 4] (by decide) rfl) (Sc.stayD (fun _ hw => hw.sel [1, 2, 3] (by decide) rfl)))) (Sc.now (by kernel_rfl) (fun _ hw => hw)) ?_)
        refine V2.eff (i := 2) (by kernel_rfl) rfl ?_
        obtain ⟨l67, e69, h⟩ := bind1S h
        refine L.does rfl en47 rfl (fun w' hw => w47_api_Lock a0.Queue u0_1 w' _ e69 (hA0_1.up.clsF hK hw rfl)) ?_
        rintro v68 _ ⟨_, rfl, rfl⟩
        refine L.nil (E.toV2 (stC [[6, 8], [8]] [Cls w [] [.sl v68 55 2 (l67.map TLock.row), .sl (sv b66 1) 55 2 (([a1]).map TLock.row), .obj b3 [.int .i64 0, .slice none 0 0, .slice none 0 0] 50, .obj b2 [.int .i64 a1.Tx, .int .i64 a1.Mode] 55, .obj b1 [.int .i64 a0.Item, u0_0, u0_1] 50, .os []], Cls w [] [.sl (sv b66 1) 55 2 (([a1]).map TLock.row), .obj b3 [.int .i64 0, .slice none 0 0, .slice none 0 0] 50, .obj b2 [.int .i64 a1.Tx, .int .i64 a1.Mode] 55, .obj b1 [.int .i64 a0.Item, u0_0, u0_1] 50, .os []]] (Cls w [] [.sl (sv b66 1) 55 2 (([a1]).map TLock.row), .obj b3 [.int .i64 0, .slice none 0 0, .slice none 0 0] 50, .obj b2 [.int .i64 a1.Tx, .int .i64 a1.Mode] 55, .os []])) 2 (by kernel_rfl) (Sc.stay (fun _ hw => hw.sel [1, 2, 3, 4, 5] (by decide) rfl) (Sc.stay (fun _ hw => hw) (Sc.stayD (fun _ hw => hw)))) (Sc.now (by kernel_rfl) (fun _ hw => hw)) ?_)
        refine V2.eff (i := 6) (by kernel_rfl) rfl ?_
        refine L.insRD (i := 0) (j := 1) (l := l67) (x1 := a1) (a := gx4) h wInsR29 (fun _ => rfl) rfl en29 rfl rfl rfl rfl rfl (by decide) ?_
        intro v71 l70 el70 h
        refine L.nil (E.toV2 (stC [[8]] [Cls w [] [.sl v71 55 2 (l70.map TLock.row), .sl (sv b66 1) 55 2 (([a1]).map TLock.row), .obj b3 [.int .i64 0, .slice none 0 0, .slice none 0 0] 50, .obj b2 [.int .i64 a1.Tx, .int .i64 a1.Mode] 55, .obj b1 [.int .i64 a0.Item, u0_0, u0_1] 50, .os []]] (Cls w [] [.sl v71 55 2 (l70.map TLock.row), .sl (sv b66 1) 55 2 (([a1]).map TLock.row), .obj b3 [.int .i64 0, .slice none 0 0, .slice none 0 0] 50, .obj b2 [.int .i64 a1.Tx, .int .i64 a1.Mode] 55, .os []])) 6 (by kernel_rfl) (Sc.past rfl (Sc.stay (fun _ hw => hw.sel [1, 2, 3, 4, 5] (by decide) rfl) (Sc.stayD (fun _ hw => hw.sel [1, 2, 3, 4] (by decide) rfl)))) (Sc.now (by kernel_rfl) (fun _ hw => hw)) ?_)
        refine V2.y (i := 7) (Nx2.of (Z := Cls w [] [.sl v71 55 2 (l70.map TLock.row), .sl (sv b66 1) 55 2 (([a1]).map TLock.row), .obj b3 [.int .i64 0, .slice none 0 0, .slice none 0 0] 50, .obj b2 [.int .i64 a1.Tx, .int .i64 a1.Mode] 55, .os []]) [] (by kernel_rfl) rfl (Zc.on (fun _ hw => hw.sel [0, 1, 2, 3, 5] (by decide) rfl) (Zc.fin (fun _ hw => hw)))) rfl rfl rfl (Y.fieldP fd50_2 rfl) ?_
        refine V2.eff (i := 8) (by kernel_rfl) rfl ?_
        refine L.storeV (i := 4) sz48 rfl rfl (fun _ hw => (As.at_ (hw.get (i := 0) rfl)).one) rfl (Nat.le_of_ble_eq_true rfl) ?_
        refine L.nil (E.toV2 (stC [] [] (Cls w [] [.sl v71 55 2 (l70.map TLock.row), .sl (sv b66 1) 55 2 (([a1]).map TLock.row), .obj b3 [.int .i64 0, .slice none 0 0, .slice none 0 0] 50, .obj b2 [.int .i64 a1.Tx, .int .i64 a1.Mode] 55, .os []])) 8 (by kernel_rfl) (Sc.past rfl (Sc.stayD (fun _ hw => hw))) (Sc.atD (fun _ hw => hw.sel [0, 1, 2, 3, 5] (by decide) rfl)) ?_)
        refine V2.done (by kernel_rfl) ?_
        exact E.joinJ ⟨v71, l70, rfl, rfl, h⟩ ⟨rfl, rfl, trivial⟩ (fun _ hw => hw.sel [2, 4, 0, 5] (by decide) rfl)
      ·
       rintro _ _ ⟨gv5, gl6, rfl, rfl, h⟩
       rw [m46_quirref_asked_K7] at h
       refine W.seq (W.region (L.y rfl (Y.loadPW (i := 1) ag50 sz50 rfl rfl rfl) ?_))
       refine L.storeC (i := 0) sz50 rfl rfl rfl rfl (fun w hw => (all1 rfl (all1 (hA0_0.up.clsF hK hw rfl).one (all1 (As.at_ (hw.get (i := 2) rfl)).one all0)))) rfl (Nat.le_of_ble_eq_true rfl) ?_
       refine L.y rfl (Y.assign rfl) ?_
       refine L.nil (E.thenN (W.ret (E.frz (i := 2) rfl rfl rfl ?_)))
       intro c45 mo46 hf47
       refine E.retR2 rfl (Rv.cellW (i := 0) ag50 sz50 rfl rfl rfl) (Rv.tmp rfl) (fun w1 hw => ?_)
       obtain rfl := Option.some.inj h
       exact ⟨_, _, rfl, ⟨c45, rfl, u0_0, gv5, rfl, hA0_0.up, (hf47 K)⟩, hw.sel [2] (by decide) rfl⟩
end Go.Proofs.Ytgkdimboofglfaa
