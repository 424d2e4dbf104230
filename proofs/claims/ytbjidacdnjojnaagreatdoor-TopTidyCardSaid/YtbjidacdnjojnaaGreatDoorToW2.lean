import Derived.Test.YtbjidacdnjojnaaGreatDoorToW1
import Derived.Test.YtbjidacdnjojnaaGreatDoorChecked
import Derived.KernelRfl
import Derived.Test.YtbjidacdnjojnaaGreatDoorZe
namespace Go.Proofs.YtbjidacdnjojnaaGreatDoor
open Go.S
set_option linter.unusedVariables false
set_option linter.unusedSimpArgs false
set_option maxRecDepth 100000 in
set_option maxHeartbeats 8000000 in
theorem W22 (a0:(List (List UInt8))) (u0:Value) (w:World) (r:(qn×Bool)) (h:M22 a0=some r) (hA0:At w u0 1 (a0.map SR)):Does Tryz.prog 22 [u0] w fun u m=>u=.tuple #[.agg (List.flatten [[.int .i64 r.1.gen_],[.bool r.1.whole_],(zr (fzr SR) (fun _=>[]) r.1.values_).flatten]).toArray,.bool r.2]∧m=[]:=by
 rw [M22] at h
 refine body (n:=109) Tryz.func22 rfl rfl rfl (Cls.refl w) (sr (L.alloc rfl qgu ?_))
 intro b1
 refine L.toSeg (S:=[[.int .i64 0],[.bool false],(zr (fzr SR) (fun _=>[]) (List.replicate 20 ([]:(List UInt8)))).flatten]) rfl (L.ssNil (sds:=sd0) (vs:=(fun _=>[])) (xs:=(List.replicate 20 ([]:(List UInt8)))) (zd xZ _) (L.r 1 rfl (nsr (L.y rfl (Y.build (cells:=#[.int .i64 0,.bool true,st [],st [],st [],st [],st [],st [],st [],st [],st [],st [],st [],st [],st [],st [],st [],st [],st [],st [],st [],st []]) rfl (by kernel_rfl)) (L.alloc rfl qgu ?_)))))
 intro b2
 refine L.toSeg (S:=[[.int .i64 0],[.bool false],(zr (fzr SR) (fun _=>[]) (List.replicate 20 ([]:(List UInt8)))).flatten]) rfl (L.ssNil (sds:=sd0) (vs:=(fun _=>[])) (xs:=(List.replicate 20 ([]:(List UInt8)))) (zd xZ _) ?_)
 obtain ⟨_,en3,h⟩:=qd h
 obtain ⟨_,en3⟩:=qh en3
 refine L.storeSR (q:=1) (ps:=0) [] [[.int .i64 0],[.bool false],(zr (fzr SR) (fun _=>[]) (List.replicate 20 ([]:(List UInt8)))).flatten] [[.int .i64 0],[.bool true],(zr (fzr SR) (fun _=>[]) (List.replicate 20 ([]:(List UInt8)))).flatten] [] zC rfl rfl (qG (zi rfl zq) (qG (zi rfl zq) (qG (vX (qv _)) xk))) rfl fl0 (fl1 (a:=1) (p:=21) rfl (fl1 (a:=1) (p:=20) rfl (fl1 (a:=20) (p:=0) (zrN (nn:=20) (k:=1) (fun _ _=>rfl) en3) fl0))) (fl1 (a:=1) (p:=21) rfl (fl1 (a:=1) (p:=20) rfl (fl1 (a:=20) (p:=0) (zrN (nn:=20) (k:=1) (fun _ _=>rfl) en3) fl0))) (L.to (D:=Cls w [] [.ss (zs sd0 (fun _=>[]) (List.replicate 20 ([]:(List UInt8)))),.obj b2 (List.flatten [[.int .i64 0],[.bool true],(zr (fzr SR) (fun _=>[]) (List.replicate 20 ([]:(List UInt8)))).flatten]) 72,.ss (zs sd0 (fun _=>[]) (List.replicate 20 ([]:(List UInt8)))),.obj b1 (List.flatten [[.int .i64 0],[.bool false],(zr (fzr SR) (fun _=>[]) (List.replicate 20 ([]:(List UInt8)))).flatten]) 72]) (fun _ hw=>by simp only [qZ] at hw ⊢;exact hw) (ln (W.seqJ (fun gs D=>∃ gx1 gb2 gl3,gs=[(2,pt b1 0),(4,pt b2 0)]∧D=Cls w [] [.obj b2 (List.flatten [[.int .i64 gx1],[.bool gb2],(zr (fzr SR) (fun _=>[]) gl3).flatten]) 72,.ss (zs sd0 (fun _=>[]) gl3),.obj b1 (List.flatten [[.int .i64 0],[.bool false],(zr (fzr SR) (fun _=>[]) (List.replicate 20 ([]:(List UInt8)))).flatten]) 72,.ss (zs sd0 (fun _=>[]) (List.replicate 20 ([]:(List UInt8))))]∧qgn gx1 gb2 gl3=some r) ?_ ?_)))
 ·refine sr (L.r 1 rfl (L.y rfl (Y.lenM (g:=SR) (l:=a0) Tryz.underlying57 rfl (fun w' hw=>hA0.cls0 hw)) (L.r 1 rfl (ln (W.block (W.loopJ (fun m gs D=>∃ gx4 gx5 gb6 gl7,gs=[(2,pt b1 0),(4,pt b2 0),(17,u0),(18,.int .i64 (a0.length:Int)),(19,.int .i64 gx4)]∧D=Cls w [] [.obj b2 (List.flatten [[.int .i64 gx5],[.bool gb6],(zr (fzr SR) (fun _=>[]) gl7).flatten]) 72,.ss (zs sd0 (fun _=>[]) gl7),.obj b1 (List.flatten [[.int .i64 0],[.bool false],(zr (fzr SR) (fun _=>[]) (List.replicate 20 ([]:(List UInt8)))).flatten]) 72,.ss (zs sd0 (fun _=>[]) (List.replicate 20 ([]:(List UInt8))))]∧xN a0 m gx4 gx5 gb6 gl7=some r) ⟨0,0,true,(List.replicate 20 ([]:(List UInt8))),rfl,rfl,h⟩ ⟨rfl,rfl,rfl,rfl,rfl,trivial⟩ (sI [1,0,3,2]) ?_))))))
  rintro m _ _ ⟨gx4,gx5,gb6,gl7,rfl,rfl,h⟩
  rcases m with _ | m
  ·rw [xN] at h;cases h
  rw [xN] at h
  generalize hg1:xN a0 m=go1 at h
  rw [qcc] at h
  refine sr (L.ite h rfl (Y.lss rfl rfl) (fun c5 h=>?_) (fun c5 h=>?_))
  ·refine ln (W.seq (W.condT rfl (W.skip (E.thenN (W.seqJ (fun gs D=>∃ gx8 gb9 gl10,gs=[(2,pt b1 0),(4,pt b2 0),(17,u0),(18,.int .i64 (a0.length:Int)),(19,.int .i64 gx4)]∧D=Cls w [] [.obj b2 (List.flatten [[.int .i64 gx8],[.bool gb9],(zr (fzr SR) (fun _=>[]) gl10).flatten]) 72,.ss (zs sd0 (fun _=>[]) gl10),.obj b1 (List.flatten [[.int .i64 0],[.bool false],(zr (fzr SR) (fun _=>[]) (List.replicate 20 ([]:(List UInt8)))).flatten]) 72,.ss (zs sd0 (fun _=>[]) (List.replicate 20 ([]:(List UInt8))))]∧kn gx4 go1 gx8 gb9 gl10=some r) ?_ ?_)))))
   ·refine W.block (sr (L.r 1 rfl (L.m (V:=fun _=>el u0 (gx4.toNat*1)) h rfl (Y.indexM (g:=SR) (l:=a0) Tryz.underlying57 sz9 rfl rfl (fun w' hw=>hA0.cls0 hw)) (fun x7 ex7 h=>(L.y rfl (Y.loadE1 (u:=st x7) ag9 rfl (fun w' hw=>hA0.cls0 hw) (qx ex7)) (L.r 2 rfl (ln (W.seq (sr (L.r 1 rfl (L.ite h rfl (Y.eqlS rfl rfl) (fun c8 h=>?_) (fun c8 h=>?_))))))))))))
    ·refine ln (W.condT rfl (sr ?_))
     obtain ⟨_,en9,h⟩:=qd h
     obtain ⟨_,en9⟩:=qh en9
     refine L.y rfl (Y.loadSR (q:=0) (ps:=0) [] [[.int .i64 gx5],[.bool gb6],(zr (fzr SR) (fun _=>[]) gl7).flatten] [] kA zC rfl rfl fl0 (fl1 (a:=1) (p:=21) rfl (fl1 (a:=1) (p:=20) rfl (fl1 (a:=20) (p:=0) (zrN (nn:=20) (k:=1) (fun _ _=>rfl) en9) fl0)))) (L.storeSR (q:=2) (ps:=0) [] [[.int .i64 0],[.bool false],(zr (fzr SR) (fun _=>[]) (List.replicate 20 ([]:(List UInt8)))).flatten] [[.int .i64 gx5],[.bool gb6],(zr (fzr SR) (fun _=>[]) gl7).flatten] [] zC rfl rfl (qG (zi rfl zq) (qG (zi rfl zq) (qG (vX (qv _)) xk))) rfl fl0 (fl1 (a:=1) (p:=21) rfl (fl1 (a:=1) (p:=20) rfl (fl1 (a:=20) (p:=0) (zrN (nn:=20) (k:=1) (fun _ _=>rfl) en3) fl0))) (fl1 (a:=1) (p:=21) rfl (fl1 (a:=1) (p:=20) rfl (fl1 (a:=20) (p:=0) (zrN (nn:=20) (k:=1) (fun _ _=>rfl) en9) fl0))) (L.to (D:=Cls w [] [.obj b2 (List.flatten [[.int .i64 gx5],[.bool gb6],(zr (fzr SR) (fun _=>[]) gl7).flatten]) 72,.ss (zs sd0 (fun _=>[]) gl7),.obj b1 (List.flatten [[.int .i64 gx5],[.bool gb6],(zr (fzr SR) (fun _=>[]) gl7).flatten]) 72,.ss (zs sd0 (fun _=>[]) gl7)]) (fun _ hw=>by simp only [qZ] at hw ⊢;exact hw) (L.r 1 rfl (ln (W.ret (E.thenR (E.blockR (E.KSR (E.KLR (E.blockR (E.KSR (E.retR2 rfl (Rv.cellW (i:=2) (c:=List.flatten [[.int .i64 gx5],[.bool gb6],(zr (fzr SR) (fun _=>[]) gl7).flatten]) kA zC rfl rfl (fl1 (a:=1) (p:=21) rfl (fl1 (a:=1) (p:=20) rfl (fl1 (a:=20) (p:=0) (zrN (nn:=20) (k:=1) (fun _ _=>rfl) en9) fl0)))) (Rv.tmp rfl) (fun w1 hw=>?_)))))))))))))
     cases h
     exact ⟨_,_,rfl,⟨rfl,rfl⟩,hw.s []⟩
    refine ln (W.condF rfl (W.skip (E.thenN (W.seq (W.quietC mixed (by kernel_rfl) (fun _ hw=>hw.drew) (fun hC=>(U.r 1 rfl (U.m (V:=fun s10=>st s10) h rfl (Y.sliceSH Tryz.underlying9 rfl rfl) (fun s10 es10 h=>(U.r 1 rfl (U.m (V:=fun s11=>st s11) h rfl (Y.sliceSL Tryz.underlying9 rfl rfl) (fun s11 es11 h=>(U.r 2 rfl (U.nil (E.thenN ?_)))))))))))))))
    refine W.block (W.seqJ (fun gs D=>∃ gb11,gs=[(2,pt b1 0),(4,pt b2 0),(7,st s10),(8,st s11),(17,u0),(18,.int .i64 (a0.length:Int)),(19,.int .i64 gx4),(32,.bool gb11)]∧D=Cls w [] [.obj b2 (List.flatten [[.int .i64 gx5],[.bool gb6],(zr (fzr SR) (fun _=>[]) gl7).flatten]) 72,.ss (zs sd0 (fun _=>[]) gl7),.obj b1 (List.flatten [[.int .i64 0],[.bool false],(zr (fzr SR) (fun _=>[]) (List.replicate 20 ([]:(List UInt8)))).flatten]) 72,.ss (zs sd0 (fun _=>[]) (List.replicate 20 ([]:(List UInt8))))]∧qaj s11 gl7 gx5 gb6 gx4 go1 s10 gb11=some r) ?_ ?_)
    ·refine W.region (L.cutJ 6 (fun gs D=>∃ gb26,gs=[(2,pt b1 0),(4,pt b2 0),(7,st s10),(8,st s11),(17,u0),(18,.int .i64 (a0.length:Int)),(19,.int .i64 gx4),(38,.bool gb26)]∧D=Cls w [] [.obj b2 (List.flatten [[.int .i64 gx5],[.bool gb6],(zr (fzr SR) (fun _=>[]) gl7).flatten]) 72,.ss (zs sd0 (fun _=>[]) gl7),.obj b1 (List.flatten [[.int .i64 0],[.bool false],(zr (fzr SR) (fun _=>[]) (List.replicate 20 ([]:(List UInt8)))).flatten]) 72,.ss (zs sd0 (fun _=>[]) (List.replicate 20 ([]:(List UInt8))))]∧xp s11 gl7 gx5 gb6 gx4 go1 s10 gb26=some r) ?_ ?_)
     ·refine L.r 1 rfl (L.ite h rfl (Y.eqlS rfl rfl) (fun c74 h=>?_) (fun c74 h=>?_))
      ·refine L.r 2 rfl (L.take rfl (L.ite h rfl (Y.eql rfl rfl) (fun c75 h=>?_) (fun c75 h=>?_)))
       ·exact L.r 1 rfl (L.nil (E.jJ ⟨true,rfl,rfl,h⟩ hI))
       exact L.r 1 rfl (L.nil (E.jJ ⟨false,rfl,rfl,h⟩ hI))
      exact L.r 4 rfl (L.nil (E.jJ ⟨false,rfl,rfl,h⟩ hI))
     rintro _ _ ⟨gb26,rfl,rfl,h⟩
     rw [xp] at h
     rcases gb26 with _ | _
     ·replace h:=zZ h
      exact L.r 1 rfl (L.nil (E.jJ ⟨false,rfl,rfl,h⟩ hI))
     replace h:=zY h
     exact L.r 1 rfl (L.nil (E.jJ ⟨true,rfl,rfl,h⟩ hI))
    rintro _ _ ⟨gb11,rfl,rfl,h⟩
    rw [qaj] at h
    rcases gb11 with _ | _
    ·replace h:=zZ h
     refine W.condF rfl (sr (L.cutJ 7 (fun gs D=>∃ gb12,gs=[(2,pt b1 0),(4,pt b2 0),(7,st s10),(8,st s11),(17,u0),(18,.int .i64 (a0.length:Int)),(19,.int .i64 gx4),(68,.bool gb12)]∧D=Cls w [] [.obj b2 (List.flatten [[.int .i64 gx5],[.bool gb6],(zr (fzr SR) (fun _=>[]) gl7).flatten]) 72,.ss (zs sd0 (fun _=>[]) gl7),.obj b1 (List.flatten [[.int .i64 0],[.bool false],(zr (fzr SR) (fun _=>[]) (List.replicate 20 ([]:(List UInt8)))).flatten]) 72,.ss (zs sd0 (fun _=>[]) (List.replicate 20 ([]:(List UInt8))))]∧qai s11 gx4 go1 gx5 gl7 s10 gb6 gb12=some r) ?_ ?_))
     ·refine L.r 1 rfl (L.ite h rfl (Y.eqlS rfl rfl) (fun c63 h=>?_) (fun c63 h=>?_))
      ·refine L.r 1 rfl (L.take rfl (L.y rfl (Y.fieldP xE rfl) (L.take rfl (L.iteB h rfl (Y.loadG (q:=0) (si:=1) (ps:=1) (j:=0) (X:=[.bool gb6]) ag4 rfl rfl rfl rfl (sl1 (a:=1) (p:=0) rfl sl0) rfl) (fun c64 h=>?_) (fun c64 h=>?_)))))
       ·exact L.take rfl (L.y rfl (Y.not rfl) (L.r 1 rfl (L.nil (E.jJ ⟨false,rfl,rfl,h⟩ hI))))
       exact L.take rfl (L.y rfl (Y.not rfl) (L.r 1 rfl (L.nil (E.jJ ⟨true,rfl,rfl,h⟩ hI))))
      exact L.r 5 rfl (L.nil (E.jJ ⟨false,rfl,rfl,h⟩ hI))
     rintro _ _ ⟨gb12,rfl,rfl,h⟩
     rw [qai] at h
     rcases gb12 with _ | _
     ·replace h:=zZ h
      refine L.r 5 rfl (ln (W.condF rfl (sr (L.cutJ 7 (fun gs D=>∃ gb13,gs=[(2,pt b1 0),(4,pt b2 0),(7,st s10),(8,st s11),(17,u0),(18,.int .i64 (a0.length:Int)),(19,.int .i64 gx4),(81,.bool gb13)]∧D=Cls w [] [.obj b2 (List.flatten [[.int .i64 gx5],[.bool gb6],(zr (fzr SR) (fun _=>[]) gl7).flatten]) 72,.ss (zs sd0 (fun _=>[]) gl7),.obj b1 (List.flatten [[.int .i64 0],[.bool false],(zr (fzr SR) (fun _=>[]) (List.replicate 20 ([]:(List UInt8)))).flatten]) 72,.ss (zs sd0 (fun _=>[]) (List.replicate 20 ([]:(List UInt8))))]∧qaY gx5 gb6 gx4 go1 s11 gl7 s10 gb13=some r) ?_ ?_))))
      ·refine L.r 1 rfl (L.ite h rfl (Y.eqlS rfl rfl) (fun c35 h=>?_) (fun c35 h=>?_))
       ·refine L.r 1 rfl (L.take rfl (L.y rfl (Y.fieldP xE rfl) (L.take rfl (L.iteB h rfl (Y.loadG (q:=0) (si:=1) (ps:=1) (j:=0) (X:=[.bool gb6]) ag4 rfl rfl rfl rfl (sl1 (a:=1) (p:=0) rfl sl0) rfl) (fun c36 h=>?_) (fun c36 h=>?_)))))
        ·exact L.take rfl (L.y rfl (Y.not rfl) (L.r 1 rfl (L.nil (E.jJ ⟨false,rfl,rfl,h⟩ hI))))
        exact L.take rfl (L.y rfl (Y.not rfl) (L.r 1 rfl (L.nil (E.jJ ⟨true,rfl,rfl,h⟩ hI))))
       exact L.r 5 rfl (L.nil (E.jJ ⟨false,rfl,rfl,h⟩ hI))
      rintro _ _ ⟨gb13,rfl,rfl,h⟩
      rw [qaY] at h
      rcases gb13 with _ | _
      ·replace h:=zZ h
       refine L.cutJ 7 (fun gs D=>∃ gb14,gs=[(2,pt b1 0),(4,pt b2 0),(8,st s11),(17,u0),(18,.int .i64 (a0.length:Int)),(19,.int .i64 gx4),(82,.bool false),(88,.bool gb14)]∧D=Cls w [] [.obj b2 (List.flatten [[.int .i64 gx5],[.bool gb6],(zr (fzr SR) (fun _=>[]) gl7).flatten]) 72,.ss (zs sd0 (fun _=>[]) gl7),.obj b1 (List.flatten [[.int .i64 0],[.bool false],(zr (fzr SR) (fun _=>[]) (List.replicate 20 ([]:(List UInt8)))).flatten]) 72,.ss (zs sd0 (fun _=>[]) (List.replicate 20 ([]:(List UInt8))))]∧qc7 gx5 gb6 gx4 go1 s11 gl7 gb14=some r) ?_ ?_
       ·refine L.r 2 rfl (L.take rfl (L.ite h rfl (Y.eqlS rfl rfl) (fun c23 h=>?_) (fun c23 h=>?_)))
        ·refine L.r 1 rfl (L.take rfl (L.y rfl (Y.fieldP xE rfl) (L.take rfl (L.iteB h rfl (Y.loadG (q:=0) (si:=1) (ps:=1) (j:=0) (X:=[.bool gb6]) ag4 rfl rfl rfl rfl (sl1 (a:=1) (p:=0) rfl sl0) rfl) (fun c24 h=>?_) (fun c24 h=>?_)))))
         ·exact L.r 1 rfl (L.nil (E.jJ ⟨true,rfl,rfl,h⟩ hI))
         exact L.r 1 rfl (L.nil (E.jJ ⟨false,rfl,rfl,h⟩ hI))
        exact L.r 4 rfl (L.nil (E.jJ ⟨false,rfl,rfl,h⟩ hI))
       rintro _ _ ⟨gb14,rfl,rfl,h⟩
       rw [qc7] at h
       rcases gb14 with _ | _
       ·replace h:=zZ h
        refine L.r 2 rfl (ln (W.condF rfl (sr ?_)))
        obtain ⟨_,qet,h⟩:=qd h
        obtain ⟨_,qet⟩:=qh qet
        refine L.y rfl (Y.loadSR (q:=0) (ps:=0) [] [[.int .i64 gx5],[.bool gb6],(zr (fzr SR) (fun _=>[]) gl7).flatten] [] kA zC rfl rfl fl0 (fl1 (a:=1) (p:=21) rfl (fl1 (a:=1) (p:=20) rfl (fl1 (a:=20) (p:=0) (zrN (nn:=20) (k:=1) (fun _ _=>rfl) qet) fl0)))) (L.storeSR (q:=2) (ps:=0) [] [[.int .i64 0],[.bool false],(zr (fzr SR) (fun _=>[]) (List.replicate 20 ([]:(List UInt8)))).flatten] [[.int .i64 gx5],[.bool gb6],(zr (fzr SR) (fun _=>[]) gl7).flatten] [] zC rfl rfl (qG (zi rfl zq) (qG (zi rfl zq) (qG (vX (qv _)) xk))) rfl fl0 (fl1 (a:=1) (p:=21) rfl (fl1 (a:=1) (p:=20) rfl (fl1 (a:=20) (p:=0) (zrN (nn:=20) (k:=1) (fun _ _=>rfl) en3) fl0))) (fl1 (a:=1) (p:=21) rfl (fl1 (a:=1) (p:=20) rfl (fl1 (a:=20) (p:=0) (zrN (nn:=20) (k:=1) (fun _ _=>rfl) qet) fl0))) (L.to (D:=Cls w [] [.obj b2 (List.flatten [[.int .i64 gx5],[.bool gb6],(zr (fzr SR) (fun _=>[]) gl7).flatten]) 72,.ss (zs sd0 (fun _=>[]) gl7),.obj b1 (List.flatten [[.int .i64 gx5],[.bool gb6],(zr (fzr SR) (fun _=>[]) gl7).flatten]) 72,.ss (zs sd0 (fun _=>[]) gl7)]) (fun _ hw=>by simp only [qZ] at hw ⊢;exact hw) (L.r 1 rfl (ln (W.ret (E.blockR (E.blockR (E.KSR (E.KLR (E.blockR (E.KSR (E.retR2 rfl (Rv.cellW (i:=2) (c:=List.flatten [[.int .i64 gx5],[.bool gb6],(zr (fzr SR) (fun _=>[]) gl7).flatten]) kA zC rfl rfl (fl1 (a:=1) (p:=21) rfl (fl1 (a:=1) (p:=20) rfl (fl1 (a:=20) (p:=0) (zrN (nn:=20) (k:=1) (fun _ _=>rfl) qet) fl0)))) (Rv.tmp rfl) (fun w1 hw=>?_)))))))))))))
        cases h
        exact ⟨_,_,rfl,⟨rfl,rfl⟩,hw.s []⟩
       replace h:=zY h
       refine L.r 2 rfl (ln (W.condT rfl (W.block (W.loopJ (fun m gs D=>∃ gs15 gl16,gs=[(2,pt b1 0),(4,pt b2 0),(8,st gs15),(17,u0),(18,.int .i64 (a0.length:Int)),(19,.int .i64 gx4)]∧D=Cls w [] [.obj b2 (List.flatten [[.int .i64 gx5],[.bool gb6],(zr (fzr SR) (fun _=>[]) gl16).flatten]) 72,.ss (zs sd0 (fun _=>[]) gl16),.obj b1 (List.flatten [[.int .i64 0],[.bool false],(zr (fzr SR) (fun _=>[]) (List.replicate 20 ([]:(List UInt8)))).flatten]) 72,.ss (zs sd0 (fun _=>[]) (List.replicate 20 ([]:(List UInt8))))]∧yb gx5 gb6 gx4 go1 m gs15 gl16=some r) ⟨s11,gl7,rfl,rfl,h⟩ ⟨rfl,rfl,rfl,rfl,rfl,rfl,trivial⟩ hI ?_))))
       rintro m _ _ ⟨gs15,gl16,rfl,rfl,h⟩
       rcases m with _ | m
       ·rw [yb] at h;cases h
       rw [yb] at h
       generalize hg2:yb gx5 gb6 gx4 go1 m=go2 at h
       rw [qcb] at h
       refine W.seq (sr (L.r 1 rfl (L.ite h rfl (Y.neqS rfl rfl) (fun c13 h=>?_) (fun c13 h=>?_))))
       ·refine ln (W.condT rfl (W.skip (E.thenN (W.block (sr (L.r 1 rfl ?_))))))
        obtain ⟨x14,s15,s16,b17,e18,h⟩:=vh h
        refine L.y rfl (Y.does qer rfl (fun w' hw=>(W42 gs15 w' _ e18).mono (fun _ _ h=>h.1))) (L.r 4 rfl (L.iteB h rfl (Y.extract rfl rfl) (fun c19 h=>?_) (fun c19 h=>?_)))
        ·refine L.r 4 rfl (ln (W.seq (sr (L.r 1 rfl (L.y rfl (Y.not rfl) (ln (W.condF rfl (W.skip (E.thenN (W.region ?_))))))))))
         refine L.r 3 rfl (L.y rfl (Y.fieldP vP rfl) (L.m (V:=fun _=>pt b2 (2+x14.toNat*1)) h rfl (Y.indexAS (l:=gl16) Tryz.underlying30 sz9 rfl rfl) (fun x20 ex20 h=>(L.storeZg (si:=2) (ps:=2) (row:=(fzr SR)) (sds:=sd0) (vs:=(fun _=>[])) (q:=0) (s:=1) (c:=0) (u1:=s15) (vals:=[st s15]) (j:=0) h sz9 rfl rfl rfl rfl rfl (zi rfl zq) rfl rfl (sl1 (a:=1) (p:=1) rfl (sl1 (a:=1) (p:=0) rfl sl0)) rfl (fun _ _=>rfl) (qt ex20) rfl rfl (fun _ _=>rfl) rfl ?_))))
         intro l21 el21 h
         exact L.r 1 rfl (L.nil (E.blockN (E.aJ ⟨s16,l21,rfl,rfl,by rw [hg2];exact h⟩ hI)))
        refine L.r 4 rfl (ln (W.seq (sr (L.r 1 rfl (L.y rfl (Y.not rfl) (ln (W.condT rfl (sr ?_))))))))
        obtain ⟨_,qgS,h⟩:=qd h
        obtain ⟨_,qgS⟩:=qh qgS
        refine L.y rfl (Y.loadSR (q:=0) (ps:=0) [] [[.int .i64 gx5],[.bool gb6],(zr (fzr SR) (fun _=>[]) gl16).flatten] [] kA zC rfl rfl fl0 (fl1 (a:=1) (p:=21) rfl (fl1 (a:=1) (p:=20) rfl (fl1 (a:=20) (p:=0) (zrN (nn:=20) (k:=1) (fun _ _=>rfl) qgS) fl0)))) (L.storeSR (q:=2) (ps:=0) [] [[.int .i64 0],[.bool false],(zr (fzr SR) (fun _=>[]) (List.replicate 20 ([]:(List UInt8)))).flatten] [[.int .i64 gx5],[.bool gb6],(zr (fzr SR) (fun _=>[]) gl16).flatten] [] zC rfl rfl (qG (zi rfl zq) (qG (zi rfl zq) (qG (vX (qv _)) xk))) rfl fl0 (fl1 (a:=1) (p:=21) rfl (fl1 (a:=1) (p:=20) rfl (fl1 (a:=20) (p:=0) (zrN (nn:=20) (k:=1) (fun _ _=>rfl) en3) fl0))) (fl1 (a:=1) (p:=21) rfl (fl1 (a:=1) (p:=20) rfl (fl1 (a:=20) (p:=0) (zrN (nn:=20) (k:=1) (fun _ _=>rfl) qgS) fl0))) (L.to (D:=Cls w [] [.obj b2 (List.flatten [[.int .i64 gx5],[.bool gb6],(zr (fzr SR) (fun _=>[]) gl16).flatten]) 72,.ss (zs sd0 (fun _=>[]) gl16),.obj b1 (List.flatten [[.int .i64 gx5],[.bool gb6],(zr (fzr SR) (fun _=>[]) gl16).flatten]) 72,.ss (zs sd0 (fun _=>[]) gl16)]) (fun _ hw=>by simp only [qZ] at hw ⊢;exact hw) (L.r 1 rfl (ln (W.ret (E.thenR (E.blockR (E.KLR (E.blockR (E.blockR (E.blockR (E.KSR ?_))))))))))))
        refine E.KLR (E.blockR (E.KSR (E.retR2 rfl (Rv.cellW (i:=2) (c:=List.flatten [[.int .i64 gx5],[.bool gb6],(zr (fzr SR) (fun _=>[]) gl16).flatten]) kA zC rfl rfl (fl1 (a:=1) (p:=21) rfl (fl1 (a:=1) (p:=20) rfl (fl1 (a:=20) (p:=0) (zrN (nn:=20) (k:=1) (fun _ _=>rfl) qgS) fl0)))) (Rv.tmp rfl) (fun w1 hw=>?_))))
        cases h
        exact ⟨_,_,rfl,⟨rfl,rfl⟩,hw.s []⟩
       exact ln (W.condF rfl (W.exit (E.thenX (E.KLX (E.blockX (E.blockN (E.blockN (E.jJ ⟨gx5,gb6,gl16,rfl,rfl,h⟩ hI))))))))
      replace h:=zY h
      refine L.r 9 rfl (ln (W.condT rfl (W.block (W.loopJ (fun m gs D=>∃ gs17 gl18,gs=[(2,pt b1 0),(4,pt b2 0),(8,st gs17),(17,u0),(18,.int .i64 (a0.length:Int)),(19,.int .i64 gx4)]∧D=Cls w [] [.obj b2 (List.flatten [[.int .i64 gx5],[.bool gb6],(zr (fzr SR) (fun _=>[]) gl18).flatten]) 72,.ss (zs sd0 (fun _=>[]) gl18),.obj b1 (List.flatten [[.int .i64 0],[.bool false],(zr (fzr SR) (fun _=>[]) (List.replicate 20 ([]:(List UInt8)))).flatten]) 72,.ss (zs sd0 (fun _=>[]) (List.replicate 20 ([]:(List UInt8))))]∧ya gx5 gb6 gx4 go1 m gs17 gl18=some r) ⟨s11,gl7,rfl,rfl,h⟩ ⟨rfl,rfl,rfl,rfl,rfl,rfl,trivial⟩ hI ?_))))
      rintro m _ _ ⟨gs17,gl18,rfl,rfl,h⟩
      rcases m with _ | m
      ·rw [ya] at h;cases h
      rw [ya] at h
      generalize hg3:ya gx5 gb6 gx4 go1 m=go3 at h
      rw [qca] at h
      refine W.seq (sr (L.r 1 rfl (L.ite h rfl (Y.neqS rfl rfl) (fun c25 h=>?_) (fun c25 h=>?_))))
      ·refine ln (W.condT rfl (W.skip (E.thenN (W.block (sr (L.r 1 rfl ?_))))))
       obtain ⟨x26,s27,s28,b29,e30,h⟩:=vh h
       refine L.y rfl (Y.does qer rfl (fun w' hw=>(W42 gs17 w' _ e30).mono (fun _ _ h=>h.1))) (L.r 4 rfl (L.iteB h rfl (Y.extract rfl rfl) (fun c31 h=>?_) (fun c31 h=>?_)))
       ·refine L.r 4 rfl (ln (W.seq (sr (L.r 1 rfl (L.y rfl (Y.not rfl) (ln (W.condF rfl (W.skip (E.thenN (W.region ?_))))))))))
        refine L.r 3 rfl (L.y rfl (Y.fieldP vP rfl) (L.m (V:=fun _=>pt b2 (2+x26.toNat*1)) h rfl (Y.indexAS (l:=gl18) Tryz.underlying30 sz9 rfl rfl) (fun x32 ex32 h=>(L.storeZg (si:=2) (ps:=2) (row:=(fzr SR)) (sds:=sd0) (vs:=(fun _=>[])) (q:=0) (s:=1) (c:=0) (u1:=s27) (vals:=[st s27]) (j:=0) h sz9 rfl rfl rfl rfl rfl (zi rfl zq) rfl rfl (sl1 (a:=1) (p:=1) rfl (sl1 (a:=1) (p:=0) rfl sl0)) rfl (fun _ _=>rfl) (qt ex32) rfl rfl (fun _ _=>rfl) rfl ?_))))
        intro l33 el33 h
        exact L.r 1 rfl (L.nil (E.blockN (E.aJ ⟨s28,l33,rfl,rfl,by rw [hg3];exact h⟩ hI)))
       refine L.r 4 rfl (ln (W.seq (sr (L.r 1 rfl (L.y rfl (Y.not rfl) (ln (W.condT rfl (sr ?_))))))))
       obtain ⟨_,qhV,h⟩:=qd h
       obtain ⟨_,qhV⟩:=qh qhV
       refine L.y rfl (Y.loadSR (q:=0) (ps:=0) [] [[.int .i64 gx5],[.bool gb6],(zr (fzr SR) (fun _=>[]) gl18).flatten] [] kA zC rfl rfl fl0 (fl1 (a:=1) (p:=21) rfl (fl1 (a:=1) (p:=20) rfl (fl1 (a:=20) (p:=0) (zrN (nn:=20) (k:=1) (fun _ _=>rfl) qhV) fl0)))) (L.storeSR (q:=2) (ps:=0) [] [[.int .i64 0],[.bool false],(zr (fzr SR) (fun _=>[]) (List.replicate 20 ([]:(List UInt8)))).flatten] [[.int .i64 gx5],[.bool gb6],(zr (fzr SR) (fun _=>[]) gl18).flatten] [] zC rfl rfl (qG (zi rfl zq) (qG (zi rfl zq) (qG (vX (qv _)) xk))) rfl fl0 (fl1 (a:=1) (p:=21) rfl (fl1 (a:=1) (p:=20) rfl (fl1 (a:=20) (p:=0) (zrN (nn:=20) (k:=1) (fun _ _=>rfl) en3) fl0))) (fl1 (a:=1) (p:=21) rfl (fl1 (a:=1) (p:=20) rfl (fl1 (a:=20) (p:=0) (zrN (nn:=20) (k:=1) (fun _ _=>rfl) qhV) fl0))) (L.to (D:=Cls w [] [.obj b2 (List.flatten [[.int .i64 gx5],[.bool gb6],(zr (fzr SR) (fun _=>[]) gl18).flatten]) 72,.ss (zs sd0 (fun _=>[]) gl18),.obj b1 (List.flatten [[.int .i64 gx5],[.bool gb6],(zr (fzr SR) (fun _=>[]) gl18).flatten]) 72,.ss (zs sd0 (fun _=>[]) gl18)]) (fun _ hw=>by simp only [qZ] at hw ⊢;exact hw) (L.r 1 rfl (ln (W.ret (E.thenR (E.blockR (E.KLR (E.blockR (E.blockR (E.blockR (E.KSR ?_))))))))))))
       refine E.KLR (E.blockR (E.KSR (E.retR2 rfl (Rv.cellW (i:=2) (c:=List.flatten [[.int .i64 gx5],[.bool gb6],(zr (fzr SR) (fun _=>[]) gl18).flatten]) kA zC rfl rfl (fl1 (a:=1) (p:=21) rfl (fl1 (a:=1) (p:=20) rfl (fl1 (a:=20) (p:=0) (zrN (nn:=20) (k:=1) (fun _ _=>rfl) qhV) fl0)))) (Rv.tmp rfl) (fun w1 hw=>?_))))
       cases h
       exact ⟨_,_,rfl,⟨rfl,rfl⟩,hw.s []⟩
      exact ln (W.condF rfl (W.exit (E.thenX (E.KLX (E.blockX (E.blockN (E.blockN (E.jJ ⟨gx5,gb6,gl18,rfl,rfl,h⟩ hI))))))))
     replace h:=zY h
     refine L.r 2 rfl (L.take rfl (L.ite h rfl (Y.eqlS rfl rfl) (fun c37 h=>?_) (fun c37 h=>?_)))
     ·exact L.r 2 rfl (ln (W.condT rfl (W.region (L.y rfl (Y.fieldP xE rfl) (L.storeG (q:=0) (si:=1) (ps:=1) (j:=0) (X:=[.bool gb6]) (vals:=[.bool true]) sz4 rfl rfl rfl rfl rfl (by simp [Value.oneCell',Value.cells,st,pt,el]) rfl rfl (sl1 (a:=1) (p:=0) rfl sl0) rfl (L.nil (E.blockN (E.blockN (E.jJ ⟨gx5,true,gl7,rfl,rfl,h⟩ hI)))))))))
     refine L.r 2 rfl (ln (W.condF rfl (sr (L.cutJ 7 (fun gs D=>∃ gb19,gs=[(2,pt b1 0),(4,pt b2 0),(7,st s10),(8,st s11),(17,u0),(18,.int .i64 (a0.length:Int)),(19,.int .i64 gx4),(81,.bool gb19)]∧D=Cls w [] [.obj b2 (List.flatten [[.int .i64 gx5],[.bool gb6],(zr (fzr SR) (fun _=>[]) gl7).flatten]) 72,.ss (zs sd0 (fun _=>[]) gl7),.obj b1 (List.flatten [[.int .i64 0],[.bool false],(zr (fzr SR) (fun _=>[]) (List.replicate 20 ([]:(List UInt8)))).flatten]) 72,.ss (zs sd0 (fun _=>[]) (List.replicate 20 ([]:(List UInt8))))]∧qeZ gx5 gb6 gx4 go1 s11 gl7 s10 gb19=some r) ?_ ?_))))
     ·refine L.r 1 rfl (L.ite h rfl (Y.eqlS rfl rfl) (fun c61 h=>?_) (fun c61 h=>?_))
      ·refine L.r 1 rfl (L.take rfl (L.y rfl (Y.fieldP xE rfl) (L.take rfl (L.iteB h rfl (Y.loadG (q:=0) (si:=1) (ps:=1) (j:=0) (X:=[.bool gb6]) ag4 rfl rfl rfl rfl (sl1 (a:=1) (p:=0) rfl sl0) rfl) (fun c62 h=>?_) (fun c62 h=>?_)))))
       ·exact L.take rfl (L.y rfl (Y.not rfl) (L.r 1 rfl (L.nil (E.jJ ⟨false,rfl,rfl,h⟩ hI))))
       exact L.take rfl (L.y rfl (Y.not rfl) (L.r 1 rfl (L.nil (E.jJ ⟨true,rfl,rfl,h⟩ hI))))
      exact L.r 5 rfl (L.nil (E.jJ ⟨false,rfl,rfl,h⟩ hI))
     rintro _ _ ⟨gb19,rfl,rfl,h⟩
     rw [qeZ] at h
     rcases gb19 with _ | _
     ·replace h:=zZ h
      refine L.cutJ 7 (fun gs D=>∃ gb20,gs=[(2,pt b1 0),(4,pt b2 0),(8,st s11),(17,u0),(18,.int .i64 (a0.length:Int)),(19,.int .i64 gx4),(82,.bool false),(88,.bool gb20)]∧D=Cls w [] [.obj b2 (List.flatten [[.int .i64 gx5],[.bool gb6],(zr (fzr SR) (fun _=>[]) gl7).flatten]) 72,.ss (zs sd0 (fun _=>[]) gl7),.obj b1 (List.flatten [[.int .i64 0],[.bool false],(zr (fzr SR) (fun _=>[]) (List.replicate 20 ([]:(List UInt8)))).flatten]) 72,.ss (zs sd0 (fun _=>[]) (List.replicate 20 ([]:(List UInt8))))]∧qeY gx5 gb6 gx4 go1 s11 gl7 gb20=some r) ?_ ?_
      ·refine L.r 2 rfl (L.take rfl (L.ite h rfl (Y.eqlS rfl rfl) (fun c49 h=>?_) (fun c49 h=>?_)))
       ·refine L.r 1 rfl (L.take rfl (L.y rfl (Y.fieldP xE rfl) (L.take rfl (L.iteB h rfl (Y.loadG (q:=0) (si:=1) (ps:=1) (j:=0) (X:=[.bool gb6]) ag4 rfl rfl rfl rfl (sl1 (a:=1) (p:=0) rfl sl0) rfl) (fun c50 h=>?_) (fun c50 h=>?_)))))
        ·exact L.r 1 rfl (L.nil (E.jJ ⟨true,rfl,rfl,h⟩ hI))
        exact L.r 1 rfl (L.nil (E.jJ ⟨false,rfl,rfl,h⟩ hI))
       exact L.r 4 rfl (L.nil (E.jJ ⟨false,rfl,rfl,h⟩ hI))
      rintro _ _ ⟨gb20,rfl,rfl,h⟩
      rw [qeY] at h
      rcases gb20 with _ | _
      ·replace h:=zZ h
       refine L.r 2 rfl (ln (W.condF rfl (sr ?_)))
       obtain ⟨_,qes,h⟩:=qd h
       obtain ⟨_,qes⟩:=qh qes
       refine L.y rfl (Y.loadSR (q:=0) (ps:=0) [] [[.int .i64 gx5],[.bool gb6],(zr (fzr SR) (fun _=>[]) gl7).flatten] [] kA zC rfl rfl fl0 (fl1 (a:=1) (p:=21) rfl (fl1 (a:=1) (p:=20) rfl (fl1 (a:=20) (p:=0) (zrN (nn:=20) (k:=1) (fun _ _=>rfl) qes) fl0)))) (L.storeSR (q:=2) (ps:=0) [] [[.int .i64 0],[.bool false],(zr (fzr SR) (fun _=>[]) (List.replicate 20 ([]:(List UInt8)))).flatten] [[.int .i64 gx5],[.bool gb6],(zr (fzr SR) (fun _=>[]) gl7).flatten] [] zC rfl rfl (qG (zi rfl zq) (qG (zi rfl zq) (qG (vX (qv _)) xk))) rfl fl0 (fl1 (a:=1) (p:=21) rfl (fl1 (a:=1) (p:=20) rfl (fl1 (a:=20) (p:=0) (zrN (nn:=20) (k:=1) (fun _ _=>rfl) en3) fl0))) (fl1 (a:=1) (p:=21) rfl (fl1 (a:=1) (p:=20) rfl (fl1 (a:=20) (p:=0) (zrN (nn:=20) (k:=1) (fun _ _=>rfl) qes) fl0))) (L.to (D:=Cls w [] [.obj b2 (List.flatten [[.int .i64 gx5],[.bool gb6],(zr (fzr SR) (fun _=>[]) gl7).flatten]) 72,.ss (zs sd0 (fun _=>[]) gl7),.obj b1 (List.flatten [[.int .i64 gx5],[.bool gb6],(zr (fzr SR) (fun _=>[]) gl7).flatten]) 72,.ss (zs sd0 (fun _=>[]) gl7)]) (fun _ hw=>by simp only [qZ] at hw ⊢;exact hw) (L.r 1 rfl (ln (W.ret (E.blockR (E.blockR (E.KSR (E.KLR (E.blockR (E.KSR (E.retR2 rfl (Rv.cellW (i:=2) (c:=List.flatten [[.int .i64 gx5],[.bool gb6],(zr (fzr SR) (fun _=>[]) gl7).flatten]) kA zC rfl rfl (fl1 (a:=1) (p:=21) rfl (fl1 (a:=1) (p:=20) rfl (fl1 (a:=20) (p:=0) (zrN (nn:=20) (k:=1) (fun _ _=>rfl) qes) fl0)))) (Rv.tmp rfl) (fun w1 hw=>?_)))))))))))))
       cases h
       exact ⟨_,_,rfl,⟨rfl,rfl⟩,hw.s []⟩
      replace h:=zY h
      refine L.r 2 rfl (ln (W.condT rfl (W.block (W.loopJ (fun m gs D=>∃ gs21 gl22,gs=[(2,pt b1 0),(4,pt b2 0),(8,st gs21),(17,u0),(18,.int .i64 (a0.length:Int)),(19,.int .i64 gx4)]∧D=Cls w [] [.obj b2 (List.flatten [[.int .i64 gx5],[.bool gb6],(zr (fzr SR) (fun _=>[]) gl22).flatten]) 72,.ss (zs sd0 (fun _=>[]) gl22),.obj b1 (List.flatten [[.int .i64 0],[.bool false],(zr (fzr SR) (fun _=>[]) (List.replicate 20 ([]:(List UInt8)))).flatten]) 72,.ss (zs sd0 (fun _=>[]) (List.replicate 20 ([]:(List UInt8))))]∧qc5 gx5 gb6 gx4 go1 m gs21 gl22=some r) ⟨s11,gl7,rfl,rfl,h⟩ ⟨rfl,rfl,rfl,rfl,rfl,rfl,trivial⟩ hI ?_))))
      rintro m _ _ ⟨gs21,gl22,rfl,rfl,h⟩
      rcases m with _ | m
      ·rw [qc5] at h;cases h
      rw [qc5] at h
      generalize hg4:qc5 gx5 gb6 gx4 go1 m=go4 at h
      rw [qg3] at h
      refine W.seq (sr (L.r 1 rfl (L.ite h rfl (Y.neqS rfl rfl) (fun c39 h=>?_) (fun c39 h=>?_))))
      ·refine ln (W.condT rfl (W.skip (E.thenN (W.block (sr (L.r 1 rfl ?_))))))
       obtain ⟨x40,s41,s42,b43,e44,h⟩:=vh h
       refine L.y rfl (Y.does qer rfl (fun w' hw=>(W42 gs21 w' _ e44).mono (fun _ _ h=>h.1))) (L.r 4 rfl (L.iteB h rfl (Y.extract rfl rfl) (fun c45 h=>?_) (fun c45 h=>?_)))
       ·refine L.r 4 rfl (ln (W.seq (sr (L.r 1 rfl (L.y rfl (Y.not rfl) (ln (W.condF rfl (W.skip (E.thenN (W.region ?_))))))))))
        refine L.r 3 rfl (L.y rfl (Y.fieldP vP rfl) (L.m (V:=fun _=>pt b2 (2+x40.toNat*1)) h rfl (Y.indexAS (l:=gl22) Tryz.underlying30 sz9 rfl rfl) (fun x46 ex46 h=>(L.storeZg (si:=2) (ps:=2) (row:=(fzr SR)) (sds:=sd0) (vs:=(fun _=>[])) (q:=0) (s:=1) (c:=0) (u1:=s41) (vals:=[st s41]) (j:=0) h sz9 rfl rfl rfl rfl rfl (zi rfl zq) rfl rfl (sl1 (a:=1) (p:=1) rfl (sl1 (a:=1) (p:=0) rfl sl0)) rfl (fun _ _=>rfl) (qt ex46) rfl rfl (fun _ _=>rfl) rfl ?_))))
        intro l47 el47 h
        exact L.r 1 rfl (L.nil (E.blockN (E.aJ ⟨s42,l47,rfl,rfl,by rw [hg4];exact h⟩ hI)))
       refine L.r 4 rfl (ln (W.seq (sr (L.r 1 rfl (L.y rfl (Y.not rfl) (ln (W.condT rfl (sr ?_))))))))
       obtain ⟨_,qgR,h⟩:=qd h
       obtain ⟨_,qgR⟩:=qh qgR
       refine L.y rfl (Y.loadSR (q:=0) (ps:=0) [] [[.int .i64 gx5],[.bool gb6],(zr (fzr SR) (fun _=>[]) gl22).flatten] [] kA zC rfl rfl fl0 (fl1 (a:=1) (p:=21) rfl (fl1 (a:=1) (p:=20) rfl (fl1 (a:=20) (p:=0) (zrN (nn:=20) (k:=1) (fun _ _=>rfl) qgR) fl0)))) (L.storeSR (q:=2) (ps:=0) [] [[.int .i64 0],[.bool false],(zr (fzr SR) (fun _=>[]) (List.replicate 20 ([]:(List UInt8)))).flatten] [[.int .i64 gx5],[.bool gb6],(zr (fzr SR) (fun _=>[]) gl22).flatten] [] zC rfl rfl (qG (zi rfl zq) (qG (zi rfl zq) (qG (vX (qv _)) xk))) rfl fl0 (fl1 (a:=1) (p:=21) rfl (fl1 (a:=1) (p:=20) rfl (fl1 (a:=20) (p:=0) (zrN (nn:=20) (k:=1) (fun _ _=>rfl) en3) fl0))) (fl1 (a:=1) (p:=21) rfl (fl1 (a:=1) (p:=20) rfl (fl1 (a:=20) (p:=0) (zrN (nn:=20) (k:=1) (fun _ _=>rfl) qgR) fl0))) (L.to (D:=Cls w [] [.obj b2 (List.flatten [[.int .i64 gx5],[.bool gb6],(zr (fzr SR) (fun _=>[]) gl22).flatten]) 72,.ss (zs sd0 (fun _=>[]) gl22),.obj b1 (List.flatten [[.int .i64 gx5],[.bool gb6],(zr (fzr SR) (fun _=>[]) gl22).flatten]) 72,.ss (zs sd0 (fun _=>[]) gl22)]) (fun _ hw=>by simp only [qZ] at hw ⊢;exact hw) (L.r 1 rfl (ln (W.ret (E.thenR (E.blockR (E.KLR (E.blockR (E.blockR (E.blockR (E.KSR ?_))))))))))))
       refine E.KLR (E.blockR (E.KSR (E.retR2 rfl (Rv.cellW (i:=2) (c:=List.flatten [[.int .i64 gx5],[.bool gb6],(zr (fzr SR) (fun _=>[]) gl22).flatten]) kA zC rfl rfl (fl1 (a:=1) (p:=21) rfl (fl1 (a:=1) (p:=20) rfl (fl1 (a:=20) (p:=0) (zrN (nn:=20) (k:=1) (fun _ _=>rfl) qgR) fl0)))) (Rv.tmp rfl) (fun w1 hw=>?_))))
       cases h
       exact ⟨_,_,rfl,⟨rfl,rfl⟩,hw.s []⟩
      exact ln (W.condF rfl (W.exit (E.thenX (E.KLX (E.blockX (E.blockN (E.blockN (E.jJ ⟨gx5,gb6,gl22,rfl,rfl,h⟩ hI))))))))
     replace h:=zY h
     refine L.r 9 rfl (ln (W.condT rfl (W.block (W.loopJ (fun m gs D=>∃ gs23 gl24,gs=[(2,pt b1 0),(4,pt b2 0),(8,st gs23),(17,u0),(18,.int .i64 (a0.length:Int)),(19,.int .i64 gx4)]∧D=Cls w [] [.obj b2 (List.flatten [[.int .i64 gx5],[.bool gb6],(zr (fzr SR) (fun _=>[]) gl24).flatten]) 72,.ss (zs sd0 (fun _=>[]) gl24),.obj b1 (List.flatten [[.int .i64 0],[.bool false],(zr (fzr SR) (fun _=>[]) (List.replicate 20 ([]:(List UInt8)))).flatten]) 72,.ss (zs sd0 (fun _=>[]) (List.replicate 20 ([]:(List UInt8))))]∧qc4 gx5 gb6 gx4 go1 m gs23 gl24=some r) ⟨s11,gl7,rfl,rfl,h⟩ ⟨rfl,rfl,rfl,rfl,rfl,rfl,trivial⟩ hI ?_))))
     rintro m _ _ ⟨gs23,gl24,rfl,rfl,h⟩
     rcases m with _ | m
     ·rw [qc4] at h;cases h
     rw [qc4] at h
     generalize hg5:qc4 gx5 gb6 gx4 go1 m=go5 at h
     rw [qg2] at h
     refine W.seq (sr (L.r 1 rfl (L.ite h rfl (Y.neqS rfl rfl) (fun c51 h=>?_) (fun c51 h=>?_))))
     ·refine ln (W.condT rfl (W.skip (E.thenN (W.block (sr (L.r 1 rfl ?_))))))
      obtain ⟨x52,s53,s54,b55,e56,h⟩:=vh h
      refine L.y rfl (Y.does qer rfl (fun w' hw=>(W42 gs23 w' _ e56).mono (fun _ _ h=>h.1))) (L.r 4 rfl (L.iteB h rfl (Y.extract rfl rfl) (fun c57 h=>?_) (fun c57 h=>?_)))
      ·refine L.r 4 rfl (ln (W.seq (sr (L.r 1 rfl (L.y rfl (Y.not rfl) (ln (W.condF rfl (W.skip (E.thenN (W.region ?_))))))))))
       refine L.r 3 rfl (L.y rfl (Y.fieldP vP rfl) (L.m (V:=fun _=>pt b2 (2+x52.toNat*1)) h rfl (Y.indexAS (l:=gl24) Tryz.underlying30 sz9 rfl rfl) (fun x58 ex58 h=>(L.storeZg (si:=2) (ps:=2) (row:=(fzr SR)) (sds:=sd0) (vs:=(fun _=>[])) (q:=0) (s:=1) (c:=0) (u1:=s53) (vals:=[st s53]) (j:=0) h sz9 rfl rfl rfl rfl rfl (zi rfl zq) rfl rfl (sl1 (a:=1) (p:=1) rfl (sl1 (a:=1) (p:=0) rfl sl0)) rfl (fun _ _=>rfl) (qt ex58) rfl rfl (fun _ _=>rfl) rfl ?_))))
       intro l59 el59 h
       exact L.r 1 rfl (L.nil (E.blockN (E.aJ ⟨s54,l59,rfl,rfl,by rw [hg5];exact h⟩ hI)))
      refine L.r 4 rfl (ln (W.seq (sr (L.r 1 rfl (L.y rfl (Y.not rfl) (ln (W.condT rfl (sr ?_))))))))
      obtain ⟨_,qhT,h⟩:=qd h
      obtain ⟨_,qhT⟩:=qh qhT
      refine L.y rfl (Y.loadSR (q:=0) (ps:=0) [] [[.int .i64 gx5],[.bool gb6],(zr (fzr SR) (fun _=>[]) gl24).flatten] [] kA zC rfl rfl fl0 (fl1 (a:=1) (p:=21) rfl (fl1 (a:=1) (p:=20) rfl (fl1 (a:=20) (p:=0) (zrN (nn:=20) (k:=1) (fun _ _=>rfl) qhT) fl0)))) (L.storeSR (q:=2) (ps:=0) [] [[.int .i64 0],[.bool false],(zr (fzr SR) (fun _=>[]) (List.replicate 20 ([]:(List UInt8)))).flatten] [[.int .i64 gx5],[.bool gb6],(zr (fzr SR) (fun _=>[]) gl24).flatten] [] zC rfl rfl (qG (zi rfl zq) (qG (zi rfl zq) (qG (vX (qv _)) xk))) rfl fl0 (fl1 (a:=1) (p:=21) rfl (fl1 (a:=1) (p:=20) rfl (fl1 (a:=20) (p:=0) (zrN (nn:=20) (k:=1) (fun _ _=>rfl) en3) fl0))) (fl1 (a:=1) (p:=21) rfl (fl1 (a:=1) (p:=20) rfl (fl1 (a:=20) (p:=0) (zrN (nn:=20) (k:=1) (fun _ _=>rfl) qhT) fl0))) (L.to (D:=Cls w [] [.obj b2 (List.flatten [[.int .i64 gx5],[.bool gb6],(zr (fzr SR) (fun _=>[]) gl24).flatten]) 72,.ss (zs sd0 (fun _=>[]) gl24),.obj b1 (List.flatten [[.int .i64 gx5],[.bool gb6],(zr (fzr SR) (fun _=>[]) gl24).flatten]) 72,.ss (zs sd0 (fun _=>[]) gl24)]) (fun _ hw=>by simp only [qZ] at hw ⊢;exact hw) (L.r 1 rfl (ln (W.ret (E.thenR (E.blockR (E.KLR (E.blockR (E.blockR (E.blockR (E.KSR ?_))))))))))))
      refine E.KLR (E.blockR (E.KSR (E.retR2 rfl (Rv.cellW (i:=2) (c:=List.flatten [[.int .i64 gx5],[.bool gb6],(zr (fzr SR) (fun _=>[]) gl24).flatten]) kA zC rfl rfl (fl1 (a:=1) (p:=21) rfl (fl1 (a:=1) (p:=20) rfl (fl1 (a:=20) (p:=0) (zrN (nn:=20) (k:=1) (fun _ _=>rfl) qhT) fl0)))) (Rv.tmp rfl) (fun w1 hw=>?_))))
      cases h
      exact ⟨_,_,rfl,⟨rfl,rfl⟩,hw.s []⟩
     exact ln (W.condF rfl (W.exit (E.thenX (E.KLX (E.blockX (E.blockN (E.blockN (E.jJ ⟨gx5,gb6,gl24,rfl,rfl,h⟩ hI))))))))
    replace h:=zY h
    refine W.condT rfl (sr (L.r 1 rfl ?_))
    obtain ⟨x65,x66,x67,e68,h⟩:=qW h
    refine L.y rfl (Y.does qi4 rfl (fun w' hw=>(W41 s11 w' _ e68).mono (fun _ _ h=>h.1))) (L.r 7 rfl (ln (W.seq (sr (L.cutJ 6 (fun gs D=>∃ gb25,gs=[(2,pt b1 0),(4,pt b2 0),(8,st s11),(9,.int .i64 x65),(10,.int .i64 x66),(17,u0),(18,.int .i64 (a0.length:Int)),(19,.int .i64 gx4),(50,.bool gb25)]∧D=Cls w [] [.obj b2 (List.flatten [[.int .i64 gx5],[.bool gb6],(zr (fzr SR) (fun _=>[]) gl7).flatten]) 72,.ss (zs sd0 (fun _=>[]) gl7),.obj b1 (List.flatten [[.int .i64 0],[.bool false],(zr (fzr SR) (fun _=>[]) (List.replicate 20 ([]:(List UInt8)))).flatten]) 72,.ss (zs sd0 (fun _=>[]) (List.replicate 20 ([]:(List UInt8))))]∧qc6 gl7 gx5 gb6 x66 s11 gx4 go1 x65 gb25=some r) ?_ ?_)))))
    ·refine L.r 1 rfl (L.ite h rfl (Y.neq rfl rfl) (fun c72 h=>?_) (fun c72 h=>?_))
     ·exact L.r 4 rfl (L.nil (E.jJ ⟨true,rfl,rfl,h⟩ hI))
     refine L.r 2 rfl (L.take rfl (L.ite h rfl (Y.lss rfl rfl) (fun c73 h=>?_) (fun c73 h=>?_)))
     ·exact L.r 1 rfl (L.nil (E.jJ ⟨true,rfl,rfl,h⟩ hI))
     exact L.r 1 rfl (L.nil (E.jJ ⟨false,rfl,rfl,h⟩ hI))
    rintro _ _ ⟨gb25,rfl,rfl,h⟩
    rw [qc6] at h
    rcases gb25 with _ | _
    ·replace h:=zZ h
     refine L.r 3 rfl (L.take rfl (L.y rfl (Y.lenS Tryz.underlying9 rfl) (L.take rfl (L.ite h rfl (Y.neq rfl rfl) (fun c69 h=>?_) (fun c69 h=>?_)))))
     ·refine L.r 1 rfl (ln (W.condT rfl (sr ?_)))
      obtain ⟨_,qeq,h⟩:=qd h
      obtain ⟨_,qeq⟩:=qh qeq
      refine L.y rfl (Y.loadSR (q:=0) (ps:=0) [] [[.int .i64 gx5],[.bool gb6],(zr (fzr SR) (fun _=>[]) gl7).flatten] [] kA zC rfl rfl fl0 (fl1 (a:=1) (p:=21) rfl (fl1 (a:=1) (p:=20) rfl (fl1 (a:=20) (p:=0) (zrN (nn:=20) (k:=1) (fun _ _=>rfl) qeq) fl0)))) (L.storeSR (q:=2) (ps:=0) [] [[.int .i64 0],[.bool false],(zr (fzr SR) (fun _=>[]) (List.replicate 20 ([]:(List UInt8)))).flatten] [[.int .i64 gx5],[.bool gb6],(zr (fzr SR) (fun _=>[]) gl7).flatten] [] zC rfl rfl (qG (zi rfl zq) (qG (zi rfl zq) (qG (vX (qv _)) xk))) rfl fl0 (fl1 (a:=1) (p:=21) rfl (fl1 (a:=1) (p:=20) rfl (fl1 (a:=20) (p:=0) (zrN (nn:=20) (k:=1) (fun _ _=>rfl) en3) fl0))) (fl1 (a:=1) (p:=21) rfl (fl1 (a:=1) (p:=20) rfl (fl1 (a:=20) (p:=0) (zrN (nn:=20) (k:=1) (fun _ _=>rfl) qeq) fl0))) (L.to (D:=Cls w [] [.obj b2 (List.flatten [[.int .i64 gx5],[.bool gb6],(zr (fzr SR) (fun _=>[]) gl7).flatten]) 72,.ss (zs sd0 (fun _=>[]) gl7),.obj b1 (List.flatten [[.int .i64 gx5],[.bool gb6],(zr (fzr SR) (fun _=>[]) gl7).flatten]) 72,.ss (zs sd0 (fun _=>[]) gl7)]) (fun _ hw=>by simp only [qZ] at hw ⊢;exact hw) (L.r 1 rfl (ln (W.ret (E.thenR (E.blockR (E.blockR (E.KSR (E.KLR (E.blockR (E.KSR ?_))))))))))))
      refine E.retR2 rfl (Rv.cellW (i:=2) (c:=List.flatten [[.int .i64 gx5],[.bool gb6],(zr (fzr SR) (fun _=>[]) gl7).flatten]) kA zC rfl rfl (fl1 (a:=1) (p:=21) rfl (fl1 (a:=1) (p:=20) rfl (fl1 (a:=20) (p:=0) (zrN (nn:=20) (k:=1) (fun _ _=>rfl) qeq) fl0)))) (Rv.tmp rfl) (fun w1 hw=>?_)
      cases h
      exact ⟨_,_,rfl,⟨rfl,rfl⟩,hw.s []⟩
     exact L.r 1 rfl (ln (W.condF rfl (W.skip (E.thenN (W.region (L.r 1 rfl (L.y rfl (Y.fieldP yX rfl) (L.storeG (q:=0) (si:=0) (ps:=0) (j:=0) (X:=[.int .i64 gx5]) (vals:=[.int .i64 x65]) sz3 rfl rfl rfl rfl rfl (by simp [Value.oneCell',Value.cells,st,pt,el]) rfl rfl sl0 rfl (L.y rfl (Y.fieldP xE rfl) (L.storeG (q:=0) (si:=1) (ps:=1) (j:=0) (X:=[.bool gb6]) (vals:=[.bool false]) sz4 rfl rfl rfl rfl rfl (by simp [Value.oneCell',Value.cells,st,pt,el]) rfl rfl (sl1 (a:=1) (p:=0) rfl sl0) rfl (L.nil (E.blockN (E.blockN (E.jJ ⟨x65,false,gl7,rfl,rfl,h⟩ hI))))))))))))))
    replace h:=zY h
    refine L.r 6 rfl (ln (W.condT rfl (sr ?_)))
    obtain ⟨_,qhS,h⟩:=qd h
    obtain ⟨_,qhS⟩:=qh qhS
    refine L.y rfl (Y.loadSR (q:=0) (ps:=0) [] [[.int .i64 gx5],[.bool gb6],(zr (fzr SR) (fun _=>[]) gl7).flatten] [] kA zC rfl rfl fl0 (fl1 (a:=1) (p:=21) rfl (fl1 (a:=1) (p:=20) rfl (fl1 (a:=20) (p:=0) (zrN (nn:=20) (k:=1) (fun _ _=>rfl) qhS) fl0)))) (L.storeSR (q:=2) (ps:=0) [] [[.int .i64 0],[.bool false],(zr (fzr SR) (fun _=>[]) (List.replicate 20 ([]:(List UInt8)))).flatten] [[.int .i64 gx5],[.bool gb6],(zr (fzr SR) (fun _=>[]) gl7).flatten] [] zC rfl rfl (qG (zi rfl zq) (qG (zi rfl zq) (qG (vX (qv _)) xk))) rfl fl0 (fl1 (a:=1) (p:=21) rfl (fl1 (a:=1) (p:=20) rfl (fl1 (a:=20) (p:=0) (zrN (nn:=20) (k:=1) (fun _ _=>rfl) en3) fl0))) (fl1 (a:=1) (p:=21) rfl (fl1 (a:=1) (p:=20) rfl (fl1 (a:=20) (p:=0) (zrN (nn:=20) (k:=1) (fun _ _=>rfl) qhS) fl0))) (L.to (D:=Cls w [] [.obj b2 (List.flatten [[.int .i64 gx5],[.bool gb6],(zr (fzr SR) (fun _=>[]) gl7).flatten]) 72,.ss (zs sd0 (fun _=>[]) gl7),.obj b1 (List.flatten [[.int .i64 gx5],[.bool gb6],(zr (fzr SR) (fun _=>[]) gl7).flatten]) 72,.ss (zs sd0 (fun _=>[]) gl7)]) (fun _ hw=>by simp only [qZ] at hw ⊢;exact hw) (L.r 1 rfl (ln (W.ret (E.thenR (E.blockR (E.blockR (E.KSR (E.KLR (E.blockR (E.KSR ?_))))))))))))
    refine E.retR2 rfl (Rv.cellW (i:=2) (c:=List.flatten [[.int .i64 gx5],[.bool gb6],(zr (fzr SR) (fun _=>[]) gl7).flatten]) kA zC rfl rfl (fl1 (a:=1) (p:=21) rfl (fl1 (a:=1) (p:=20) rfl (fl1 (a:=20) (p:=0) (zrN (nn:=20) (k:=1) (fun _ _=>rfl) qhS) fl0)))) (Rv.tmp rfl) (fun w1 hw=>?_)
    cases h
    exact ⟨_,_,rfl,⟨rfl,rfl⟩,hw.s []⟩
   rintro _ _ ⟨gx8,gb9,gl10,rfl,rfl,h⟩
   rw [kn] at h
   exact W.region (L.m (V:=fun x6=>.int .i64 x6) h rfl (Y.addM rfl rfl) (fun x6 ex6 h=>(L.r 1 rfl (L.nil (E.aJ ⟨x6,gx8,gb9,gl10,rfl,rfl,by rw [hg1];exact h⟩ hI)))))
  exact ln (W.seq (W.condF rfl (W.exit (E.thenX (E.KLX (E.blockX (E.jJ ⟨gx5,gb6,gl7,rfl,rfl,h⟩ hI)))))))
 rintro _ _ ⟨gx1,gb2,gl3,rfl,rfl,h⟩
 rw [qgn] at h
 refine sr ?_
 obtain ⟨_,en4,h⟩:=qd h
 obtain ⟨_,en4⟩:=qh en4
 refine L.y rfl (Y.loadSR (q:=0) (ps:=0) [] [[.int .i64 gx1],[.bool gb2],(zr (fzr SR) (fun _=>[]) gl3).flatten] [] kA zC rfl rfl fl0 (fl1 (a:=1) (p:=21) rfl (fl1 (a:=1) (p:=20) rfl (fl1 (a:=20) (p:=0) (zrN (nn:=20) (k:=1) (fun _ _=>rfl) en4) fl0)))) (L.storeSR (q:=2) (ps:=0) [] [[.int .i64 0],[.bool false],(zr (fzr SR) (fun _=>[]) (List.replicate 20 ([]:(List UInt8)))).flatten] [[.int .i64 gx1],[.bool gb2],(zr (fzr SR) (fun _=>[]) gl3).flatten] [] zC rfl rfl (qG (zi rfl zq) (qG (zi rfl zq) (qG (vX (qv _)) xk))) rfl fl0 (fl1 (a:=1) (p:=21) rfl (fl1 (a:=1) (p:=20) rfl (fl1 (a:=20) (p:=0) (zrN (nn:=20) (k:=1) (fun _ _=>rfl) en3) fl0))) (fl1 (a:=1) (p:=21) rfl (fl1 (a:=1) (p:=20) rfl (fl1 (a:=20) (p:=0) (zrN (nn:=20) (k:=1) (fun _ _=>rfl) en4) fl0))) (L.to (D:=Cls w [] [.obj b2 (List.flatten [[.int .i64 gx1],[.bool gb2],(zr (fzr SR) (fun _=>[]) gl3).flatten]) 72,.ss (zs sd0 (fun _=>[]) gl3),.obj b1 (List.flatten [[.int .i64 gx1],[.bool gb2],(zr (fzr SR) (fun _=>[]) gl3).flatten]) 72,.ss (zs sd0 (fun _=>[]) gl3)]) (fun _ hw=>by simp only [qZ] at hw ⊢;exact hw) (L.r 1 rfl (ln (W.ret (E.retR2 rfl (Rv.cellW (i:=2) (c:=List.flatten [[.int .i64 gx1],[.bool gb2],(zr (fzr SR) (fun _=>[]) gl3).flatten]) kA zC rfl rfl (fl1 (a:=1) (p:=21) rfl (fl1 (a:=1) (p:=20) rfl (fl1 (a:=20) (p:=0) (zrN (nn:=20) (k:=1) (fun _ _=>rfl) en4) fl0)))) (Rv.tmp rfl) (fun w1 hw=>?_)))))))
 cases h
 exact ⟨_,_,rfl,⟨rfl,rfl⟩,hw.s []⟩
set_option maxRecDepth 100000 in
set_option maxHeartbeats 8000000 in
theorem W10 (a0:Int) (A60:(List TDisk)) (A70:(List TStore)) (A100:(List TLog)) (gP60:Nat→Nat) (gP70:Nat→Nat) (gP88:Nat→Nat) (gP100:Nat→Nat) (qP60:Nat→List Value) (qP70:Nat→List Value) (qP100:Nat→List Value) (w:World) (r:((List TDisk)×(List TStore)×(List TLog)×Int×Int)) (h:M10 a0 A60 A70 A100=some r) (F:List Nat) (hc0:Cls w F [qe gP60 qP60 A60 [],qf gP70 gP88 gP100 qP70 A70 [],qc gP60 gP100 qP100 A100 []] w):zg Tryz.prog 10 [VP gP60 a0] F w fun u m=>∃ G70 G100 Q60 Q70 Q100,Gr gP70 A70.length G70 r.2.1.length∧Gr gP100 A100.length G100 r.2.2.1.length∧u=.tuple #[VP G70 r.2.2.2.1,.int .i64 r.2.2.2.2]∧m=[qe gP60 Q60 r.1 [],qf G70 gP88 G100 Q70 r.2.1 [],qc gP60 G100 Q100 r.2.2.1 []]:=by
 rw [M10] at h
 obtain ⟨g70,hg70⟩:∃ g,g=gP70:=⟨_,rfl⟩
 have hGr70:Gr g70 A70.length gP70 A70.length:=hg70 ▸ Gr.refl _ _
 obtain ⟨g100,hg100⟩:∃ g,g=gP100:=⟨_,rfl⟩
 have hGr100:Gr g100 A100.length gP100 A100.length:=hg100 ▸ Gr.refl _ _
 refine body (n:=105) Tryz.func10 rfl rfl rfl hc0 (sr (L.r 2 rfl (nsr (L.r 1 rfl ?_))))
 obtain ⟨x1,e2,h⟩:=qd h
 refine L.doesP (A:=[qe gP60 qP60 A60 []]) (M:=[qf gP70 gP88 gP100 qP70 A70 [],qc gP60 gP100 qP100 A100 []]) rfl qjW rfl (fun w' hw=>W20 a0 A60 gP60 qP60 w' _ e2 _ hw.lend) ?_
 rintro _ _ ⟨rfl,rfl⟩
 refine L.to (D:=Cls w F [qe gP60 qP60 A60 [],qf gP70 gP88 gP100 qP70 A70 [],qc gP60 gP100 qP100 A100 []]) hI (L.m (V:=fun x3=>.int .i64 x3) h rfl (Y.quoM rfl rfl) (fun x3 ex3 h=>(L.r 1 rfl (nsr (L.y rfl (Y.build (cells:=#[.pointer none,.pointer none,.int .i64 0,.int .i64 0,.bool false,.int .i64 0,.slice none 0 0,.slice none 0 0,.slice none 0 0,.slice none 0 0,.slice none 0 0,.slice none 0 0,.slice none 0 0,.slice none 0 0,.slice none 0 0,.slice none 0 0,.slice none 0 0,.slice none 0 0,.slice none 0 0,.slice none 0 0,.slice none 0 0,.slice none 0 0,.slice none 0 0,.slice none 0 0,.slice none 0 0,.slice none 0 0,.slice none 0 0,.slice none 0 0]) rfl (by kernel_rfl)) (L.box rfl rfl ?_))))))
 intro b4
 refine L.toSeg (S:=[(zr (fzr (PR gP100)) (fun _=>[]) (List.replicate 2 ((-1):Int))).flatten,[.int .i64 0],[.int .i64 0],[.bool false],[.int .i64 0],(zr qi (fun _=>[zB]) (List.replicate 20 ([]:(List TVersion)))).flatten,[.slice none 0 0],[.slice none 0 0]]) rfl (L.ssNil (sds:=sd0) (vs:=(fun _=>[])) (xs:=(List.replicate 2 ((-1):Int))) (zd xZ _) (L.ssNil (sds:=(qq 79 2 TVersion.row)) (vs:=(fun _=>[zB])) (xs:=(List.replicate 20 ([]:(List TVersion)))) (zd (qjO rfl rfl xZ) _) (L.r 1 rfl (nsr (L.alloc rfl qkx ?_)))))
 intro b5
 refine L.toSeg (S:=[[.int .i64 0],[.bool false],(zr (fzr SR) (fun _=>[]) (List.replicate 20 ([]:(List UInt8)))).flatten,[.int .i64 0],[.bool false],(zr (fzr SR) (fun _=>[]) (List.replicate 20 ([]:(List UInt8)))).flatten]) rfl (L.ssNil (sds:=sd0) (vs:=(fun _=>[])) (xs:=(List.replicate 20 ([]:(List UInt8)))) (zd xZ _) (L.ssNil (sds:=sd0) (vs:=(fun _=>[])) (xs:=(List.replicate 20 ([]:(List UInt8)))) (zd xZ _) (ln (W.seq (sr (L.r 1 rfl (ln (W.block (W.rounds 2 (W.seq ?_))))))))))
 refine W.region (L.y rfl (Y.lss rfl rfl) (ln (W.seq (W.condT rfl (W.skip (E.thenN (W.seq (W.block (sr (L.r 2 rfl (L.nil ?_)))))))))))
 refine E.thenN (sr (L.r 3 rfl (L.m (V:=fun x6=>.int .i64 x6) h rfl (Y.mulM rfl rfl) (fun x6 ex6 h=>(L.r 1 rfl ?_)))))
 obtain ⟨_,ck7,h⟩:=qd h
 replace ck7:=qH ck7
 obtain ⟨ck7_0,ck7_1⟩:=ck7
 refine L.to (D:=Cls w F [qe gP60 qP60 A60 [],qc gP60 gP100 qP100 A100 [],.ss (zs sd0 (fun _=>[]) (List.replicate 20 ([]:(List UInt8)))),.ss (zs sd0 (fun _=>[]) (List.replicate 20 ([]:(List UInt8)))),.obj b5 (List.flatten [[.int .i64 0],[.bool false],(zr (fzr SR) (fun _=>[]) (List.replicate 20 ([]:(List UInt8)))).flatten,[.int .i64 0],[.bool false],(zr (fzr SR) (fun _=>[]) (List.replicate 20 ([]:(List UInt8)))).flatten]) 73,.ss (zs (qq 79 2 TVersion.row) (fun _=>[zB]) (List.replicate 20 ([]:(List TVersion)))),.ss (zs sd0 (fun _=>[]) (List.replicate 2 ((-1):Int))),.obj b4 (List.flatten [(zr (fzr (PR gP100)) (fun _=>[]) (List.replicate 2 ((-1):Int))).flatten,[.int .i64 0],[.int .i64 0],[.bool false],[.int .i64 0],(zr qi (fun _=>[zB]) (List.replicate 20 ([]:(List TVersion)))).flatten,[.slice none 0 0],[.slice none 0 0]]) 70,qf gP70 gP88 gP100 qP70 A70 []]) (sI [6,8,0,1,2,3,4,5,7]) ?_
 obtain ⟨l8,l9,x10,l11,x13,e14,h⟩:=kc h
 refine L.doesP (A:=[qe gP60 qP60 A60 [],qc gP60 gP100 qP100 A100 []]) (M:=[.ss (zs sd0 (fun _=>[]) (List.replicate 20 ([]:(List UInt8)))),.ss (zs sd0 (fun _=>[]) (List.replicate 20 ([]:(List UInt8)))),.obj b5 (List.flatten [[.int .i64 0],[.bool false],(zr (fzr SR) (fun _=>[]) (List.replicate 20 ([]:(List UInt8)))).flatten,[.int .i64 0],[.bool false],(zr (fzr SR) (fun _=>[]) (List.replicate 20 ([]:(List UInt8)))).flatten]) 73,.ss (zs (qq 79 2 TVersion.row) (fun _=>[zB]) (List.replicate 20 ([]:(List TVersion)))),.ss (zs sd0 (fun _=>[]) (List.replicate 2 ((-1):Int))),.obj b4 (List.flatten [(zr (fzr (PR gP100)) (fun _=>[]) (List.replicate 2 ((-1):Int))).flatten,[.int .i64 0],[.int .i64 0],[.bool false],[.int .i64 0],(zr qi (fun _=>[zB]) (List.replicate 20 ([]:(List TVersion)))).flatten,[.slice none 0 0],[.slice none 0 0]]) 70,qf gP70 gP88 gP100 qP70 A70 []]) rfl qkm rfl (fun w' hw=>W21 a0 x6 x3 A60 A100 gP60 gP100 qP60 qP100 w' _ e14 _ hw.lend) ?_
 rintro _ _ ⟨gP100,q15,q16,v12,hg17,rfl,rfl⟩
 replace hGr100:=hGr100.trans hg17
 rw [vW hg17 ck7_0]
 rw [qa1 hg17 _ _ (vY ck7_1)]
 refine L.to (D:=Cls w F [qe gP60 q15 l8 [],qc gP60 gP100 q16 l9 [],.sl v12 9 1 (l11.map SR),.ss (zs sd0 (fun _=>[]) (List.replicate 20 ([]:(List UInt8)))),.ss (zs sd0 (fun _=>[]) (List.replicate 20 ([]:(List UInt8)))),.obj b5 (List.flatten [[.int .i64 0],[.bool false],(zr (fzr SR) (fun _=>[]) (List.replicate 20 ([]:(List UInt8)))).flatten,[.int .i64 0],[.bool false],(zr (fzr SR) (fun _=>[]) (List.replicate 20 ([]:(List UInt8)))).flatten]) 73,.ss (zs (qq 79 2 TVersion.row) (fun _=>[zB]) (List.replicate 20 ([]:(List TVersion)))),.ss (zs sd0 (fun _=>[]) (List.replicate 2 ((-1):Int))),.obj b4 (List.flatten [(zr (fzr (PR gP100)) (fun _=>[]) (List.replicate 2 ((-1):Int))).flatten,[.int .i64 0],[.int .i64 0],[.bool false],[.int .i64 0],(zr qi (fun _=>[zB]) (List.replicate 20 ([]:(List TVersion)))).flatten,[.slice none 0 0],[.slice none 0 0]]) 70,qf gP70 gP88 gP100 qP70 A70 []]) hI (L.r 7 rfl (ln (W.seq (sr (L.r 1 rfl (L.ite h rfl (Y.neq rfl rfl) (fun c18 h=>?_) (fun c18 h=>?_)))))))
 ·refine ln (W.condT rfl (sr (L.r 3 rfl (ln (W.ret (E.thenR (E.blockR (E.thenR (E.thenR (E.blockR ?_))))))))))
  refine E.thenR (E.ret2 rfl rfl rfl (fun w1 hw=>?_))
  cases h
  exact ⟨_,_,rfl,⟨_,_,_,_,_,(hg70 ▸ hGr70),(hg100 ▸ hGr100),rfl,rfl⟩,hw.s [0,9,1]⟩
 refine ln (W.condF rfl (W.skip (E.thenN (sr (L.r 1 rfl ?_)))))
 obtain ⟨x19,b20,e21,h⟩:=qB h
 refine L.y rfl (Y.does qgS rfl (fun w' hw=>(W22 l11 v12 w' _ e21 (As.at_ (hw.get (i:=2) rfl))).mono (fun _ _ h=>h.1))) (L.r 2 rfl (L.iteB h rfl (Y.extract rfl rfl) (fun c22 h=>?_) (fun c22 h=>?_)))
 ·refine L.alloc rfl qgu ?_
  intro b23
  refine L.toSeg (S:=[[.int .i64 0],[.bool false],(zr (fzr SR) (fun _=>[]) (List.replicate 20 ([]:(List UInt8)))).flatten]) rfl (L.ssNil (sds:=sd0) (vs:=(fun _=>[])) (xs:=(List.replicate 20 ([]:(List UInt8)))) (zd xZ _) ?_)
  obtain ⟨_,qaP,h⟩:=qd h
  obtain ⟨_,qaP⟩:=qh qaP
  obtain ⟨_,kz,h⟩:=qd h
  obtain ⟨_,kz⟩:=qh kz
  refine L.storeSR (q:=1) (ps:=0) [] [[.int .i64 0],[.bool false],(zr (fzr SR) (fun _=>[]) (List.replicate 20 ([]:(List UInt8)))).flatten] [[.int .i64 x19.gen_],[.bool x19.whole_],(zr (fzr SR) (fun _=>[]) x19.values_).flatten] [] zC rfl rfl (qG (zi rfl zq) (qG (zi rfl zq) (qG (vX (qv _)) xk))) rfl fl0 (fl1 (a:=1) (p:=21) rfl (fl1 (a:=1) (p:=20) rfl (fl1 (a:=20) (p:=0) (zrN (nn:=20) (k:=1) (fun _ _=>rfl) qaP) fl0))) (fl1 (a:=1) (p:=21) rfl (fl1 (a:=1) (p:=20) rfl (fl1 (a:=20) (p:=0) (zrN (nn:=20) (k:=1) (fun _ _=>rfl) kz) fl0))) (L.to (D:=Cls w F [.ss (zs sd0 (fun _=>[]) x19.values_),.obj b23 (List.flatten [[.int .i64 x19.gen_],[.bool x19.whole_],(zr (fzr SR) (fun _=>[]) x19.values_).flatten]) 72,qe gP60 q15 l8 [],qc gP60 gP100 q16 l9 [],.sl v12 9 1 (l11.map SR),.ss (zs sd0 (fun _=>[]) (List.replicate 20 ([]:(List UInt8)))),.ss (zs sd0 (fun _=>[]) (List.replicate 20 ([]:(List UInt8)))),.obj b5 (List.flatten [[.int .i64 0],[.bool false],(zr (fzr SR) (fun _=>[]) (List.replicate 20 ([]:(List UInt8)))).flatten,[.int .i64 0],[.bool false],(zr (fzr SR) (fun _=>[]) (List.replicate 20 ([]:(List UInt8)))).flatten]) 73,.ss (zs (qq 79 2 TVersion.row) (fun _=>[zB]) (List.replicate 20 ([]:(List TVersion)))),.ss (zs sd0 (fun _=>[]) (List.replicate 2 ((-1):Int))),.obj b4 (List.flatten [(zr (fzr (PR gP100)) (fun _=>[]) (List.replicate 2 ((-1):Int))).flatten,[.int .i64 0],[.int .i64 0],[.bool false],[.int .i64 0],(zr qi (fun _=>[zB]) (List.replicate 20 ([]:(List TVersion)))).flatten,[.slice none 0 0],[.slice none 0 0]]) 70,qf gP70 gP88 gP100 qP70 A70 []]) (fun _ hw=>by simp only [qZ] at hw ⊢;exact hw) (L.r 1 rfl (ln (W.seq (sr (L.r 1 rfl (L.y rfl (Y.not rfl) (ln (W.condF rfl (W.skip ?_))))))))))
  refine E.thenN (W.drawn2 (k:=11) (stC [[8,10],[10]] [Cls w F [.ss (zs sd0 (fun _=>[]) x19.values_),.obj b23 (List.flatten [[.int .i64 x19.gen_],[.bool x19.whole_],(zr (fzr SR) (fun _=>[]) x19.values_).flatten]) 72,qe gP60 q15 l8 [],qc gP60 gP100 q16 l9 [],.sl v12 9 1 (l11.map SR),.ss (zs sd0 (fun _=>[]) (List.replicate 20 ([]:(List UInt8)))),.ss (zs sd0 (fun _=>[]) (List.replicate 20 ([]:(List UInt8)))),.obj b5 (List.flatten [[.int .i64 0],[.bool false],(zr (fzr SR) (fun _=>[]) (List.replicate 20 ([]:(List UInt8)))).flatten,[.int .i64 0],[.bool false],(zr (fzr SR) (fun _=>[]) (List.replicate 20 ([]:(List UInt8)))).flatten]) 73,.ss (zs (qq 79 2 TVersion.row) (fun _=>[zB]) (List.replicate 20 ([]:(List TVersion)))),.ss (zs sd0 (fun _=>[]) (List.replicate 2 ((-1):Int))),.obj b4 (List.flatten [(zr (fzr (PR gP100)) (fun _=>[]) (List.replicate 2 ((-1):Int))).flatten,[.int .i64 0],[.int .i64 0],[.bool false],[.int .i64 0],(zr qi (fun _=>[zB]) (List.replicate 20 ([]:(List TVersion)))).flatten,[.slice none 0 0],[.slice none 0 0]]) 70,qf gP70 gP88 gP100 qP70 A70 []],Cls w F [.ss (zs sd0 (fun _=>[]) x19.values_),.obj b23 (List.flatten [[.int .i64 x19.gen_],[.bool x19.whole_],(zr (fzr SR) (fun _=>[]) x19.values_).flatten]) 72,qe gP60 q15 l8 [],qc gP60 gP100 q16 l9 [],.sl v12 9 1 (l11.map SR),.ss (zs sd0 (fun _=>[]) (List.replicate 20 ([]:(List UInt8)))),.ss (zs sd0 (fun _=>[]) (List.replicate 20 ([]:(List UInt8)))),.obj b5 (List.flatten [[.int .i64 0],[.bool false],(zr (fzr SR) (fun _=>[]) (List.replicate 20 ([]:(List UInt8)))).flatten,[.int .i64 0],[.bool false],(zr (fzr SR) (fun _=>[]) (List.replicate 20 ([]:(List UInt8)))).flatten]) 73,.ss (zs (qq 79 2 TVersion.row) (fun _=>[zB]) (List.replicate 20 ([]:(List TVersion)))),qf gP70 gP88 gP100 qP70 A70 []]] (Cls w F [.ss (zs sd0 (fun _=>[]) x19.values_),.obj b23 (List.flatten [[.int .i64 x19.gen_],[.bool x19.whole_],(zr (fzr SR) (fun _=>[]) x19.values_).flatten]) 72,qe gP60 q15 l8 [],qc gP60 gP100 q16 l9 [],.sl v12 9 1 (l11.map SR),.ss (zs sd0 (fun _=>[]) (List.replicate 20 ([]:(List UInt8)))),.ss (zs (qq 79 2 TVersion.row) (fun _=>[zB]) (List.replicate 20 ([]:(List TVersion)))),qf gP70 gP88 gP100 qP70 A70 []])) rfl mixed (fun _ hw=>hw.drew) (Sc.now (by kernel_rfl) hI) (V2.zz [] (Zc.on' (Zc.on' (Zc.fin hI) (sI [0,1,2,3,4,5,8,9])) (sI [0,1,2,3,4,5,8,11])) (fun hz43=>(V2.r [0,1,2,3] (by kernel_rfl) rfl (V2.q 4 [] hz43 rfl rfl (Y.loadSR (q:=1) (ps:=0) [] [[.int .i64 x19.gen_],[.bool x19.whole_],(zr (fzr SR) (fun _=>[]) x19.values_).flatten] [] kA zC rfl rfl fl0 (fl1 (a:=1) (p:=21) rfl (fl1 (a:=1) (p:=20) rfl (fl1 (a:=20) (p:=0) (zrN (nn:=20) (k:=1) (fun _ _=>rfl) kz) fl0)))) (V2.r [5] (by kernel_rfl) rfl (V2.q 6 [] hz43 rfl rfl (Y.fieldP qbu rfl) (V2.zz [8,10] (Zc.at1 hI) (fun hz45=>(V2.m (i:=7) (V':=fun _=>pt b4 (0+(0:Int).toNat*1)) h (Nx2.of [8,10] (by kernel_rfl) rfl hz45) rfl rfl rfl (Y.indexAS (l:=(List.replicate 2 ((-1):Int))) Tryz.underlying65 qia rfl rfl) (fun x46 ex46 h=>(V2.eff (i:=8) (by kernel_rfl) rfl (L.storeZg (si:=0) (ps:=0) (row:=(fzr (PR gP100))) (sds:=sd0) (vs:=(fun _=>[])) (q:=10) (s:=9) (c:=0) (u1:=x10) (vals:=[VP gP100 x10]) (j:=0) h qia rfl rfl rfl (by rw [zG]) rfl (zi (qbC _ _) zq) rfl rfl sl0 rfl (fun _ _=>rfl) (qt ex46) rfl rfl (fun _ _=>rfl) rfl ?_)))))))))))))
  intro l47 el47 h
  refine L.nil (E.toV2 (stC [[10]] [Cls w F [.ss (zs sd0 (fun _=>[]) x19.values_),.obj b23 (List.flatten [[.int .i64 x19.gen_],[.bool x19.whole_],(zr (fzr SR) (fun _=>[]) x19.values_).flatten]) 72,qe gP60 q15 l8 [],qc gP60 gP100 q16 l9 [],.sl v12 9 1 (l11.map SR),.ss (zs sd0 (fun _=>[]) (List.replicate 20 ([]:(List UInt8)))),.ss (zs sd0 (fun _=>[]) (List.replicate 20 ([]:(List UInt8)))),.obj b5 (List.flatten [[.int .i64 0],[.bool false],(zr (fzr SR) (fun _=>[]) (List.replicate 20 ([]:(List UInt8)))).flatten,[.int .i64 0],[.bool false],(zr (fzr SR) (fun _=>[]) (List.replicate 20 ([]:(List UInt8)))).flatten]) 73,.ss (zs (qq 79 2 TVersion.row) (fun _=>[zB]) (List.replicate 20 ([]:(List TVersion)))),qf gP70 gP88 gP100 qP70 A70 []]] (Cls w F [.ss (zs sd0 (fun _=>[]) x19.values_),.obj b23 (List.flatten [[.int .i64 x19.gen_],[.bool x19.whole_],(zr (fzr SR) (fun _=>[]) x19.values_).flatten]) 72,qe gP60 q15 l8 [],qc gP60 gP100 q16 l9 [],.sl v12 9 1 (l11.map SR),.ss (zs sd0 (fun _=>[]) (List.replicate 20 ([]:(List UInt8)))),.ss (zs (qq 79 2 TVersion.row) (fun _=>[zB]) (List.replicate 20 ([]:(List TVersion)))),qf gP70 gP88 gP100 qP70 A70 []])) 8 (by kernel_rfl) (Sc.past rfl (Sc.stay hI (Sc.stayD hI))) (Sc.now (by kernel_rfl) (sI [0,1,2,3,4,5,6,7,8,11])) (V2.zz [10] (Zc.at1 hI) (fun hz49=>(V2.q 9 [10] hz49 rfl rfl (Y.indexP Tryz.underlying73 zC rfl rfl (by decide) (by decide)) (V2.eff (i:=10) (by kernel_rfl) rfl (L.storeSR (q:=7) (ps:=0) [] [[.int .i64 0],[.bool false],(zr (fzr SR) (fun _=>[]) (List.replicate 20 ([]:(List UInt8)))).flatten] [[.int .i64 x19.gen_],[.bool x19.whole_],(zr (fzr SR) (fun _=>[]) x19.values_).flatten] [[.int .i64 0],[.bool false],(zr (fzr SR) (fun _=>[]) (List.replicate 20 ([]:(List UInt8)))).flatten] zC rfl rfl (qG (zi rfl zq) (qG (zi rfl zq) (qG (vX (qv _)) xk))) rfl fl0 (fl1 (a:=1) (p:=21) rfl (fl1 (a:=1) (p:=20) rfl (fl1 (a:=20) (p:=0) (zrN (nn:=20) (k:=1) (fun _ _=>rfl) qaP) fl0))) (fl1 (a:=1) (p:=21) rfl (fl1 (a:=1) (p:=20) rfl (fl1 (a:=20) (p:=0) (zrN (nn:=20) (k:=1) (fun _ _=>rfl) kz) fl0))) (L.to (D:=Cls w F [.ss (zs sd0 (fun _=>[]) x19.values_),.obj b23 (List.flatten [[.int .i64 x19.gen_],[.bool x19.whole_],(zr (fzr SR) (fun _=>[]) x19.values_).flatten]) 72,qe gP60 q15 l8 [],qc gP60 gP100 q16 l9 [],.sl v12 9 1 (l11.map SR),.ss (zs sd0 (fun _=>[]) (List.replicate 20 ([]:(List UInt8)))),.ss (zs sd0 (fun _=>[]) x19.values_),.obj b5 (List.flatten [[.int .i64 x19.gen_],[.bool x19.whole_],(zr (fzr SR) (fun _=>[]) x19.values_).flatten,[.int .i64 0],[.bool false],(zr (fzr SR) (fun _=>[]) (List.replicate 20 ([]:(List UInt8)))).flatten]) 73,.ss (zs (qq 79 2 TVersion.row) (fun _=>[zB]) (List.replicate 20 ([]:(List TVersion)))),.ss (zs sd0 (fun _=>[]) l47),.obj b4 (List.flatten [(zr (fzr (PR gP100)) (fun _=>[]) l47).flatten,[.int .i64 0],[.int .i64 0],[.bool false],[.int .i64 0],(zr qi (fun _=>[zB]) (List.replicate 20 ([]:(List TVersion)))).flatten,[.slice none 0 0],[.slice none 0 0]]) 70,qf gP70 gP88 gP100 qP70 A70 []]) (fun _ hw=>by simp only [qZ] at hw ⊢;exact hw) (L.nil (E.toV2 (stC [] [] (Cls w F [.ss (zs sd0 (fun _=>[]) x19.values_),.obj b23 (List.flatten [[.int .i64 x19.gen_],[.bool x19.whole_],(zr (fzr SR) (fun _=>[]) x19.values_).flatten]) 72,qe gP60 q15 l8 [],qc gP60 gP100 q16 l9 [],.sl v12 9 1 (l11.map SR),.ss (zs sd0 (fun _=>[]) (List.replicate 20 ([]:(List UInt8)))),.ss (zs (qq 79 2 TVersion.row) (fun _=>[zB]) (List.replicate 20 ([]:(List TVersion)))),qf gP70 gP88 gP100 qP70 A70 []])) 10 (by kernel_rfl) (Sc.past rfl (Sc.stayD hI)) (Sc.atD (sI [0,1,2,3,4,5,8,11])) (V2.done (by kernel_rfl) (E.blockN (E.thenN (W.region (L.y rfl ((Y.addM rfl rfl _ (by decide:i64 (0+1)=some 1))) ?_))))))))))))))
  refine L.r 1 rfl (L.nil (E.rounds (sr (L.y rfl (Y.lss rfl rfl) (ln (W.seq (W.condT rfl (W.skip (E.thenN (W.seq (W.block ?_)))))))))))
  refine sr (L.r 2 rfl (nsr (L.r 3 rfl (L.m (V:=fun x50=>.int .i64 x50) h rfl (Y.mulM rfl rfl) (fun x50 ex50 h=>(L.r 1 rfl ?_))))))
  obtain ⟨_,ck51,h⟩:=qd h
  replace ck51:=qH ck51
  obtain ⟨ck51_0,ck51_1⟩:=ck51
  refine L.to (D:=Cls w F [qe gP60 q15 l8 [],qc gP60 gP100 q16 l9 [],.ss (zs sd0 (fun _=>[]) x19.values_),.obj b23 (List.flatten [[.int .i64 x19.gen_],[.bool x19.whole_],(zr (fzr SR) (fun _=>[]) x19.values_).flatten]) 72,.sl v12 9 1 (l11.map SR),.ss (zs sd0 (fun _=>[]) (List.replicate 20 ([]:(List UInt8)))),.ss (zs sd0 (fun _=>[]) x19.values_),.obj b5 (List.flatten [[.int .i64 x19.gen_],[.bool x19.whole_],(zr (fzr SR) (fun _=>[]) x19.values_).flatten,[.int .i64 0],[.bool false],(zr (fzr SR) (fun _=>[]) (List.replicate 20 ([]:(List UInt8)))).flatten]) 73,.ss (zs (qq 79 2 TVersion.row) (fun _=>[zB]) (List.replicate 20 ([]:(List TVersion)))),.ss (zs sd0 (fun _=>[]) l47),.obj b4 (List.flatten [(zr (fzr (PR gP100)) (fun _=>[]) l47).flatten,[.int .i64 0],[.int .i64 0],[.bool false],[.int .i64 0],(zr qi (fun _=>[zB]) (List.replicate 20 ([]:(List TVersion)))).flatten,[.slice none 0 0],[.slice none 0 0]]) 70,qf gP70 gP88 gP100 qP70 A70 []]) (sI [2,3,0,1,4,5,6,7,8,9,10,11]) ?_
  obtain ⟨l52,l53,x54,l55,x57,e58,h⟩:=kc h
  refine L.doesP (A:=[qe gP60 q15 l8 [],qc gP60 gP100 q16 l9 []]) (M:=[.ss (zs sd0 (fun _=>[]) x19.values_),.obj b23 (List.flatten [[.int .i64 x19.gen_],[.bool x19.whole_],(zr (fzr SR) (fun _=>[]) x19.values_).flatten]) 72,.sl v12 9 1 (l11.map SR),.ss (zs sd0 (fun _=>[]) (List.replicate 20 ([]:(List UInt8)))),.ss (zs sd0 (fun _=>[]) x19.values_),.obj b5 (List.flatten [[.int .i64 x19.gen_],[.bool x19.whole_],(zr (fzr SR) (fun _=>[]) x19.values_).flatten,[.int .i64 0],[.bool false],(zr (fzr SR) (fun _=>[]) (List.replicate 20 ([]:(List UInt8)))).flatten]) 73,.ss (zs (qq 79 2 TVersion.row) (fun _=>[zB]) (List.replicate 20 ([]:(List TVersion)))),.ss (zs sd0 (fun _=>[]) l47),.obj b4 (List.flatten [(zr (fzr (PR gP100)) (fun _=>[]) l47).flatten,[.int .i64 0],[.int .i64 0],[.bool false],[.int .i64 0],(zr qi (fun _=>[zB]) (List.replicate 20 ([]:(List TVersion)))).flatten,[.slice none 0 0],[.slice none 0 0]]) 70,qf gP70 gP88 gP100 qP70 A70 []]) rfl qkm rfl (fun w' hw=>W21 a0 x50 x3 l8 l9 gP60 gP100 q15 q16 w' _ e58 _ hw.lend) ?_
  rintro _ _ ⟨gP100,q59,q60,v56,hg61,rfl,rfl⟩
  replace hGr100:=hGr100.trans hg61
  rw [vW hg61 ck51_0]
  rw [qa1 hg61 _ _ (vY ck51_1)]
  refine L.to (D:=Cls w F [qe gP60 q59 l52 [],qc gP60 gP100 q60 l53 [],.sl v56 9 1 (l55.map SR),.ss (zs sd0 (fun _=>[]) x19.values_),.obj b23 (List.flatten [[.int .i64 x19.gen_],[.bool x19.whole_],(zr (fzr SR) (fun _=>[]) x19.values_).flatten]) 72,.sl v12 9 1 (l11.map SR),.ss (zs sd0 (fun _=>[]) (List.replicate 20 ([]:(List UInt8)))),.ss (zs sd0 (fun _=>[]) x19.values_),.obj b5 (List.flatten [[.int .i64 x19.gen_],[.bool x19.whole_],(zr (fzr SR) (fun _=>[]) x19.values_).flatten,[.int .i64 0],[.bool false],(zr (fzr SR) (fun _=>[]) (List.replicate 20 ([]:(List UInt8)))).flatten]) 73,.ss (zs (qq 79 2 TVersion.row) (fun _=>[zB]) (List.replicate 20 ([]:(List TVersion)))),.ss (zs sd0 (fun _=>[]) l47),.obj b4 (List.flatten [(zr (fzr (PR gP100)) (fun _=>[]) l47).flatten,[.int .i64 0],[.int .i64 0],[.bool false],[.int .i64 0],(zr qi (fun _=>[zB]) (List.replicate 20 ([]:(List TVersion)))).flatten,[.slice none 0 0],[.slice none 0 0]]) 70,qf gP70 gP88 gP100 qP70 A70 []]) hI (L.r 7 rfl (ln (W.seq (sr (L.r 1 rfl (L.ite h rfl (Y.neq rfl rfl) (fun c62 h=>?_) (fun c62 h=>?_)))))))
  ·refine ln (W.condT rfl (sr (L.r 3 rfl (ln (W.ret (E.thenR (E.blockR (E.thenR (E.thenR (E.blockR ?_))))))))))
   refine E.thenR (E.ret2 rfl rfl rfl (fun w1 hw=>?_))
   cases h
   exact ⟨_,_,rfl,⟨_,_,_,_,_,(hg70 ▸ hGr70),(hg100 ▸ hGr100),rfl,rfl⟩,hw.s [0,12,1]⟩
  refine ln (W.condF rfl (W.skip (E.thenN (sr (L.r 1 rfl ?_)))))
  obtain ⟨x63,b64,e65,h⟩:=qB h
  refine L.y rfl (Y.does qgS rfl (fun w' hw=>(W22 l55 v56 w' _ e65 (As.at_ (hw.get (i:=2) rfl))).mono (fun _ _ h=>h.1))) (L.r 2 rfl (L.iteB h rfl (Y.extract rfl rfl) (fun c66 h=>?_) (fun c66 h=>?_)))
  ·refine L.alloc rfl qgu ?_
   intro b67
   refine L.toSeg (S:=[[.int .i64 0],[.bool false],(zr (fzr SR) (fun _=>[]) (List.replicate 20 ([]:(List UInt8)))).flatten]) rfl (L.ssNil (sds:=sd0) (vs:=(fun _=>[])) (xs:=(List.replicate 20 ([]:(List UInt8)))) (zd xZ _) ?_)
   obtain ⟨_,qdc,h⟩:=qd h
   obtain ⟨_,qdc⟩:=qh qdc
   refine L.storeSR (q:=1) (ps:=0) [] [[.int .i64 0],[.bool false],(zr (fzr SR) (fun _=>[]) (List.replicate 20 ([]:(List UInt8)))).flatten] [[.int .i64 x63.gen_],[.bool x63.whole_],(zr (fzr SR) (fun _=>[]) x63.values_).flatten] [] zC rfl rfl (qG (zi rfl zq) (qG (zi rfl zq) (qG (vX (qv _)) xk))) rfl fl0 (fl1 (a:=1) (p:=21) rfl (fl1 (a:=1) (p:=20) rfl (fl1 (a:=20) (p:=0) (zrN (nn:=20) (k:=1) (fun _ _=>rfl) qaP) fl0))) (fl1 (a:=1) (p:=21) rfl (fl1 (a:=1) (p:=20) rfl (fl1 (a:=20) (p:=0) (zrN (nn:=20) (k:=1) (fun _ _=>rfl) qdc) fl0))) (L.to (D:=Cls w F [.ss (zs sd0 (fun _=>[]) x63.values_),.obj b67 (List.flatten [[.int .i64 x63.gen_],[.bool x63.whole_],(zr (fzr SR) (fun _=>[]) x63.values_).flatten]) 72,qe gP60 q59 l52 [],qc gP60 gP100 q60 l53 [],.sl v56 9 1 (l55.map SR),.ss (zs sd0 (fun _=>[]) x19.values_),.obj b23 (List.flatten [[.int .i64 x19.gen_],[.bool x19.whole_],(zr (fzr SR) (fun _=>[]) x19.values_).flatten]) 72,.sl v12 9 1 (l11.map SR),.ss (zs sd0 (fun _=>[]) (List.replicate 20 ([]:(List UInt8)))),.ss (zs sd0 (fun _=>[]) x19.values_),.obj b5 (List.flatten [[.int .i64 x19.gen_],[.bool x19.whole_],(zr (fzr SR) (fun _=>[]) x19.values_).flatten,[.int .i64 0],[.bool false],(zr (fzr SR) (fun _=>[]) (List.replicate 20 ([]:(List UInt8)))).flatten]) 73,.ss (zs (qq 79 2 TVersion.row) (fun _=>[zB]) (List.replicate 20 ([]:(List TVersion)))),.ss (zs sd0 (fun _=>[]) l47),.obj b4 (List.flatten [(zr (fzr (PR gP100)) (fun _=>[]) l47).flatten,[.int .i64 0],[.int .i64 0],[.bool false],[.int .i64 0],(zr qi (fun _=>[zB]) (List.replicate 20 ([]:(List TVersion)))).flatten,[.slice none 0 0],[.slice none 0 0]]) 70,qf gP70 gP88 gP100 qP70 A70 []]) (fun _ hw=>by simp only [qZ] at hw ⊢;exact hw) (L.r 1 rfl (ln (W.seq (sr (L.r 1 rfl (L.y rfl (Y.not rfl) (ln (W.condF rfl (W.skip ?_))))))))))
   refine E.thenN (W.drawn2 (k:=11) (stC [[8,10],[10]] [Cls w F [.ss (zs sd0 (fun _=>[]) x63.values_),.obj b67 (List.flatten [[.int .i64 x63.gen_],[.bool x63.whole_],(zr (fzr SR) (fun _=>[]) x63.values_).flatten]) 72,qe gP60 q59 l52 [],qc gP60 gP100 q60 l53 [],.sl v56 9 1 (l55.map SR),.ss (zs sd0 (fun _=>[]) x19.values_),.obj b23 (List.flatten [[.int .i64 x19.gen_],[.bool x19.whole_],(zr (fzr SR) (fun _=>[]) x19.values_).flatten]) 72,.sl v12 9 1 (l11.map SR),.ss (zs sd0 (fun _=>[]) (List.replicate 20 ([]:(List UInt8)))),.ss (zs sd0 (fun _=>[]) x19.values_),.obj b5 (List.flatten [[.int .i64 x19.gen_],[.bool x19.whole_],(zr (fzr SR) (fun _=>[]) x19.values_).flatten,[.int .i64 0],[.bool false],(zr (fzr SR) (fun _=>[]) (List.replicate 20 ([]:(List UInt8)))).flatten]) 73,.ss (zs (qq 79 2 TVersion.row) (fun _=>[zB]) (List.replicate 20 ([]:(List TVersion)))),.ss (zs sd0 (fun _=>[]) l47),.obj b4 (List.flatten [(zr (fzr (PR gP100)) (fun _=>[]) l47).flatten,[.int .i64 0],[.int .i64 0],[.bool false],[.int .i64 0],(zr qi (fun _=>[zB]) (List.replicate 20 ([]:(List TVersion)))).flatten,[.slice none 0 0],[.slice none 0 0]]) 70,qf gP70 gP88 gP100 qP70 A70 []],Cls w F [.ss (zs sd0 (fun _=>[]) x63.values_),.obj b67 (List.flatten [[.int .i64 x63.gen_],[.bool x63.whole_],(zr (fzr SR) (fun _=>[]) x63.values_).flatten]) 72,qe gP60 q59 l52 [],qc gP60 gP100 q60 l53 [],.sl v56 9 1 (l55.map SR),.ss (zs sd0 (fun _=>[]) x19.values_),.obj b23 (List.flatten [[.int .i64 x19.gen_],[.bool x19.whole_],(zr (fzr SR) (fun _=>[]) x19.values_).flatten]) 72,.sl v12 9 1 (l11.map SR),.ss (zs sd0 (fun _=>[]) (List.replicate 20 ([]:(List UInt8)))),.ss (zs sd0 (fun _=>[]) x19.values_),.obj b5 (List.flatten [[.int .i64 x19.gen_],[.bool x19.whole_],(zr (fzr SR) (fun _=>[]) x19.values_).flatten,[.int .i64 0],[.bool false],(zr (fzr SR) (fun _=>[]) (List.replicate 20 ([]:(List UInt8)))).flatten]) 73,.ss (zs (qq 79 2 TVersion.row) (fun _=>[zB]) (List.replicate 20 ([]:(List TVersion)))),qf gP70 gP88 gP100 qP70 A70 []]] (Cls w F [.ss (zs sd0 (fun _=>[]) x63.values_),.obj b67 (List.flatten [[.int .i64 x63.gen_],[.bool x63.whole_],(zr (fzr SR) (fun _=>[]) x63.values_).flatten]) 72,qe gP60 q59 l52 [],qc gP60 gP100 q60 l53 [],.sl v56 9 1 (l55.map SR),.ss (zs sd0 (fun _=>[]) x19.values_),.obj b23 (List.flatten [[.int .i64 x19.gen_],[.bool x19.whole_],(zr (fzr SR) (fun _=>[]) x19.values_).flatten]) 72,.sl v12 9 1 (l11.map SR),.ss (zs sd0 (fun _=>[]) x19.values_),.ss (zs (qq 79 2 TVersion.row) (fun _=>[zB]) (List.replicate 20 ([]:(List TVersion)))),qf gP70 gP88 gP100 qP70 A70 []])) rfl mixed (fun _ hw=>hw.drew) (Sc.now (by kernel_rfl) hI) (V2.zz [] (Zc.on' (Zc.on' (Zc.fin hI) (sI [0,1,2,3,4,5,6,7,9,11,12])) (sI [0,1,2,3,4,5,6,7,9,11,14])) (fun hz86=>(V2.r [0,1,2,3] (by kernel_rfl) rfl (V2.q 4 [] hz86 rfl rfl (Y.loadSR (q:=1) (ps:=0) [] [[.int .i64 x63.gen_],[.bool x63.whole_],(zr (fzr SR) (fun _=>[]) x63.values_).flatten] [] kA zC rfl rfl fl0 (fl1 (a:=1) (p:=21) rfl (fl1 (a:=1) (p:=20) rfl (fl1 (a:=20) (p:=0) (zrN (nn:=20) (k:=1) (fun _ _=>rfl) qdc) fl0)))) (V2.r [5] (by kernel_rfl) rfl (V2.q 6 [] hz86 rfl rfl (Y.fieldP qbu rfl) (V2.zz [8,10] (Zc.at1 hI) (fun hz88=>(V2.m (i:=7) (V':=fun _=>pt b4 (0+(1:Int).toNat*1)) h (Nx2.of [8,10] (by kernel_rfl) rfl hz88) rfl rfl rfl (Y.indexAS (l:=l47) Tryz.underlying65 qia rfl rfl) (fun x89 ex89 h=>(V2.eff (i:=8) (by kernel_rfl) rfl (L.storeZg (si:=0) (ps:=0) (row:=(fzr (PR gP100))) (sds:=sd0) (vs:=(fun _=>[])) (q:=13) (s:=12) (c:=0) (u1:=x54) (vals:=[VP gP100 x54]) (j:=0) h qia rfl rfl rfl (by rw [zG]) rfl (zi (qbC _ _) zq) rfl rfl sl0 rfl (fun _ _=>rfl) (qt ex89) rfl rfl (fun _ _=>rfl) rfl ?_)))))))))))))
   intro l90 el90 h
   refine L.nil (E.toV2 (stC [[10]] [Cls w F [.ss (zs sd0 (fun _=>[]) x63.values_),.obj b67 (List.flatten [[.int .i64 x63.gen_],[.bool x63.whole_],(zr (fzr SR) (fun _=>[]) x63.values_).flatten]) 72,qe gP60 q59 l52 [],qc gP60 gP100 q60 l53 [],.sl v56 9 1 (l55.map SR),.ss (zs sd0 (fun _=>[]) x19.values_),.obj b23 (List.flatten [[.int .i64 x19.gen_],[.bool x19.whole_],(zr (fzr SR) (fun _=>[]) x19.values_).flatten]) 72,.sl v12 9 1 (l11.map SR),.ss (zs sd0 (fun _=>[]) (List.replicate 20 ([]:(List UInt8)))),.ss (zs sd0 (fun _=>[]) x19.values_),.obj b5 (List.flatten [[.int .i64 x19.gen_],[.bool x19.whole_],(zr (fzr SR) (fun _=>[]) x19.values_).flatten,[.int .i64 0],[.bool false],(zr (fzr SR) (fun _=>[]) (List.replicate 20 ([]:(List UInt8)))).flatten]) 73,.ss (zs (qq 79 2 TVersion.row) (fun _=>[zB]) (List.replicate 20 ([]:(List TVersion)))),qf gP70 gP88 gP100 qP70 A70 []]] (Cls w F [.ss (zs sd0 (fun _=>[]) x63.values_),.obj b67 (List.flatten [[.int .i64 x63.gen_],[.bool x63.whole_],(zr (fzr SR) (fun _=>[]) x63.values_).flatten]) 72,qe gP60 q59 l52 [],qc gP60 gP100 q60 l53 [],.sl v56 9 1 (l55.map SR),.ss (zs sd0 (fun _=>[]) x19.values_),.obj b23 (List.flatten [[.int .i64 x19.gen_],[.bool x19.whole_],(zr (fzr SR) (fun _=>[]) x19.values_).flatten]) 72,.sl v12 9 1 (l11.map SR),.ss (zs sd0 (fun _=>[]) x19.values_),.ss (zs (qq 79 2 TVersion.row) (fun _=>[zB]) (List.replicate 20 ([]:(List TVersion)))),qf gP70 gP88 gP100 qP70 A70 []])) 8 (by kernel_rfl) (Sc.past rfl (Sc.stay hI (Sc.stayD hI))) (Sc.now (by kernel_rfl) (sI [0,1,2,3,4,5,6,7,8,9,10,11,14])) (V2.zz [10] (Zc.at1 hI) (fun hz92=>(V2.q 9 [10] hz92 rfl rfl (Y.indexP Tryz.underlying73 zC rfl rfl (by decide) (by decide)) (V2.eff (i:=10) (by kernel_rfl) rfl (L.storeSR (q:=10) (ps:=22) [[.int .i64 x19.gen_],[.bool x19.whole_],(zr (fzr SR) (fun _=>[]) x19.values_).flatten] [[.int .i64 0],[.bool false],(zr (fzr SR) (fun _=>[]) (List.replicate 20 ([]:(List UInt8)))).flatten] [[.int .i64 x63.gen_],[.bool x63.whole_],(zr (fzr SR) (fun _=>[]) x63.values_).flatten] [] zC rfl rfl (qG (zi rfl zq) (qG (zi rfl zq) (qG (vX (qv _)) xk))) rfl (fl1 (a:=1) (p:=21) rfl (fl1 (a:=1) (p:=20) rfl (fl1 (a:=20) (p:=0) (zrN (nn:=20) (k:=1) (fun _ _=>rfl) kz) fl0))) (fl1 (a:=1) (p:=21) rfl (fl1 (a:=1) (p:=20) rfl (fl1 (a:=20) (p:=0) (zrN (nn:=20) (k:=1) (fun _ _=>rfl) qaP) fl0))) (fl1 (a:=1) (p:=21) rfl (fl1 (a:=1) (p:=20) rfl (fl1 (a:=20) (p:=0) (zrN (nn:=20) (k:=1) (fun _ _=>rfl) qdc) fl0))) (L.to (D:=Cls w F [.ss (zs sd0 (fun _=>[]) x63.values_),.obj b67 (List.flatten [[.int .i64 x63.gen_],[.bool x63.whole_],(zr (fzr SR) (fun _=>[]) x63.values_).flatten]) 72,qe gP60 q59 l52 [],qc gP60 gP100 q60 l53 [],.sl v56 9 1 (l55.map SR),.ss (zs sd0 (fun _=>[]) x19.values_),.obj b23 (List.flatten [[.int .i64 x19.gen_],[.bool x19.whole_],(zr (fzr SR) (fun _=>[]) x19.values_).flatten]) 72,.sl v12 9 1 (l11.map SR),.ss (zs sd0 (fun _=>[]) x63.values_),.ss (zs sd0 (fun _=>[]) x19.values_),.obj b5 (List.flatten [[.int .i64 x19.gen_],[.bool x19.whole_],(zr (fzr SR) (fun _=>[]) x19.values_).flatten,[.int .i64 x63.gen_],[.bool x63.whole_],(zr (fzr SR) (fun _=>[]) x63.values_).flatten]) 73,.ss (zs (qq 79 2 TVersion.row) (fun _=>[zB]) (List.replicate 20 ([]:(List TVersion)))),.ss (zs sd0 (fun _=>[]) l90),.obj b4 (List.flatten [(zr (fzr (PR gP100)) (fun _=>[]) l90).flatten,[.int .i64 0],[.int .i64 0],[.bool false],[.int .i64 0],(zr qi (fun _=>[zB]) (List.replicate 20 ([]:(List TVersion)))).flatten,[.slice none 0 0],[.slice none 0 0]]) 70,qf gP70 gP88 gP100 qP70 A70 []]) (fun _ hw=>by simp only [qZ] at hw ⊢;exact hw) (L.nil (E.toV2 (stC [] [] (Cls w F [.ss (zs sd0 (fun _=>[]) x63.values_),.obj b67 (List.flatten [[.int .i64 x63.gen_],[.bool x63.whole_],(zr (fzr SR) (fun _=>[]) x63.values_).flatten]) 72,qe gP60 q59 l52 [],qc gP60 gP100 q60 l53 [],.sl v56 9 1 (l55.map SR),.ss (zs sd0 (fun _=>[]) x19.values_),.obj b23 (List.flatten [[.int .i64 x19.gen_],[.bool x19.whole_],(zr (fzr SR) (fun _=>[]) x19.values_).flatten]) 72,.sl v12 9 1 (l11.map SR),.ss (zs sd0 (fun _=>[]) x19.values_),.ss (zs (qq 79 2 TVersion.row) (fun _=>[zB]) (List.replicate 20 ([]:(List TVersion)))),qf gP70 gP88 gP100 qP70 A70 []])) 10 (by kernel_rfl) (Sc.past rfl (Sc.stayD hI)) (Sc.atD (sI [0,1,2,3,4,5,6,7,9,11,14])) (V2.done (by kernel_rfl) (E.blockN (E.thenN (W.region (L.y rfl ((Y.addM rfl rfl _ (by decide:i64 (1+1)=some 2))) ?_))))))))))))))
   refine L.r 1 rfl (L.nil (E.rounds (sr (L.y rfl (Y.lss rfl rfl) (ln (W.seq (W.condF rfl (W.exit (E.thenX (E.thenX (E.blockX ?_)))))))))))
   refine E.thenN (W.seq (W.seqJ (fun gs D=>∃ gb1,gs=[(5,pt b4 0),(6,pt b5 0),(71,.bool gb1)]∧D=Cls w F [qe gP60 q59 l52 [],qc gP60 gP100 q60 l53 [],qf gP70 gP88 gP100 qP70 A70 [],.obj b5 (List.flatten [[.int .i64 x19.gen_],[.bool x19.whole_],(zr (fzr SR) (fun _=>[]) x19.values_).flatten,[.int .i64 x63.gen_],[.bool x63.whole_],(zr (fzr SR) (fun _=>[]) x63.values_).flatten]) 73,.ss (zs sd0 (fun _=>[]) x19.values_),.ss (zs sd0 (fun _=>[]) x63.values_),.obj b4 (List.flatten [(zr (fzr (PR gP100)) (fun _=>[]) l90).flatten,[.int .i64 0],[.int .i64 0],[.bool false],[.int .i64 0],(zr qi (fun _=>[zB]) (List.replicate 20 ([]:(List TVersion)))).flatten,[.slice none 0 0],[.slice none 0 0]]) 70,.ss (zs sd0 (fun _=>[]) l90),.ss (zs (qq 79 2 TVersion.row) (fun _=>[zB]) (List.replicate 20 ([]:(List TVersion))))]∧qao l90 x63 A70 l52 l53 x19 gb1=some r) ?_ ?_))
   ·refine W.region (L.y rfl (Y.indexP Tryz.underlying73 zC rfl rfl (by decide) (by decide)) (L.y rfl (Y.fieldP xE rfl) (L.iteB h rfl (Y.loadG (q:=10) (si:=4) (ps:=23) (j:=0) (X:=[.bool x63.whole_]) ag4 rfl rfl rfl rfl (sl1 (a:=1) (p:=22) rfl (sl1 (a:=1) (p:=21) rfl (sl1 (a:=20) (p:=1) (zrN (nn:=20) (k:=1) (fun _ _=>rfl) kz) (sl1 (a:=1) (p:=0) rfl sl0)))) rfl) (fun c133 h=>?_) (fun c133 h=>?_))))
    ·refine L.r 1 rfl (L.take rfl (L.y rfl (Y.indexP Tryz.underlying73 zC rfl rfl (by decide) (by decide)) (L.take rfl (L.y rfl (Y.fieldP yX rfl) (L.take rfl (L.y rfl (Y.loadG (q:=10) (si:=3) (ps:=22) (j:=0) (X:=[.int .i64 x63.gen_]) ag3 rfl rfl rfl rfl (sl1 (a:=1) (p:=21) rfl (sl1 (a:=1) (p:=20) rfl (sl1 (a:=20) (p:=0) (zrN (nn:=20) (k:=1) (fun _ _=>rfl) kz) sl0))) rfl) (L.take rfl (L.y rfl (Y.indexP Tryz.underlying73 zC rfl rfl (by decide) (by decide)) (L.take rfl (L.y rfl (Y.fieldP yX rfl) (L.take rfl (L.y rfl (Y.loadG (q:=10) (si:=0) (ps:=0) (j:=0) (X:=[.int .i64 x19.gen_]) ag3 rfl rfl rfl rfl sl0 rfl) (L.take rfl ?_)))))))))))))
     refine L.ite h rfl (Y.gtr rfl rfl) (fun c134 h=>?_) (fun c134 h=>?_)
     ·exact L.r 7 rfl (L.nil (E.jJ ⟨true,rfl,rfl,h⟩ (sI [2,3,14,10,9,8,13,12,11])))
     refine L.r 1 rfl (L.take rfl (L.y rfl (Y.indexP Tryz.underlying73 zC rfl rfl (by decide) (by decide)) (L.take rfl (L.y rfl (Y.fieldP xE rfl) (L.take rfl (L.iteB h rfl (Y.loadG (q:=10) (si:=1) (ps:=1) (j:=0) (X:=[.bool x19.whole_]) ag4 rfl rfl rfl rfl (sl1 (a:=1) (p:=0) rfl sl0) rfl) (fun c135 h=>?_) (fun c135 h=>?_)))))))
     ·exact L.take rfl (L.y rfl (Y.not rfl) (L.r 2 rfl (L.nil (E.jJ ⟨false,rfl,rfl,h⟩ (sI [2,3,14,10,9,8,13,12,11])))))
     exact L.take rfl (L.y rfl (Y.not rfl) (L.r 2 rfl (L.nil (E.jJ ⟨true,rfl,rfl,h⟩ (sI [2,3,14,10,9,8,13,12,11])))))
    exact L.r 15 rfl (L.nil (E.jJ ⟨false,rfl,rfl,h⟩ (sI [2,3,14,10,9,8,13,12,11])))
   rintro _ _ ⟨gb1,rfl,rfl,h⟩
   rw [qao] at h
   rcases gb1 with _ | _
   ·replace h:=zZ h
    refine W.condF rfl (W.skip (E.thenN (sr (L.r 2 rfl (L.y rfl (Y.fieldP vb rfl) ?_)))))
    obtain ⟨_,qic,h⟩:=qd h
    obtain ⟨_,qic⟩:=qh qic
    refine L.y rfl (Y.loadG (q:=6) (si:=1) (ps:=2) (j:=0) (X:=[.int .i64 0]) ag3 rfl rfl rfl rfl (sl1 (a:=2) (p:=0) (zrN (nn:=2) (k:=1) (fun _ _=>rfl) qic) sl0) rfl) (L.y rfl (Y.indexP Tryz.underlying73 zC rfl rfl (by decide) (by decide)) (L.y rfl (Y.loadSR (q:=3) (ps:=0) [] [[.int .i64 x19.gen_],[.bool x19.whole_],(zr (fzr SR) (fun _=>[]) x19.values_).flatten] [[.int .i64 x63.gen_],[.bool x63.whole_],(zr (fzr SR) (fun _=>[]) x63.values_).flatten] kA zC rfl rfl fl0 (fl1 (a:=1) (p:=21) rfl (fl1 (a:=1) (p:=20) rfl (fl1 (a:=20) (p:=0) (zrN (nn:=20) (k:=1) (fun _ _=>rfl) kz) fl0)))) (L.alloc rfl qgu ?_)))
    intro b94
    refine L.toSeg (S:=[[.int .i64 0],[.bool false],(zr (fzr SR) (fun _=>[]) (List.replicate 20 ([]:(List UInt8)))).flatten]) rfl (L.ssNil (sds:=sd0) (vs:=(fun _=>[])) (xs:=(List.replicate 20 ([]:(List UInt8)))) (zd xZ _) (L.storeSR (q:=1) (ps:=0) [] [[.int .i64 0],[.bool false],(zr (fzr SR) (fun _=>[]) (List.replicate 20 ([]:(List UInt8)))).flatten] [[.int .i64 x19.gen_],[.bool x19.whole_],(zr (fzr SR) (fun _=>[]) x19.values_).flatten] [] zC rfl rfl (qG (zi rfl zq) (qG (zi rfl zq) (qG (vX (qv _)) xk))) rfl fl0 (fl1 (a:=1) (p:=21) rfl (fl1 (a:=1) (p:=20) rfl (fl1 (a:=20) (p:=0) (zrN (nn:=20) (k:=1) (fun _ _=>rfl) qaP) fl0))) (fl1 (a:=1) (p:=21) rfl (fl1 (a:=1) (p:=20) rfl (fl1 (a:=20) (p:=0) (zrN (nn:=20) (k:=1) (fun _ _=>rfl) kz) fl0))) (L.to (D:=Cls w F [.ss (zs sd0 (fun _=>[]) x19.values_),.obj b94 (List.flatten [[.int .i64 x19.gen_],[.bool x19.whole_],(zr (fzr SR) (fun _=>[]) x19.values_).flatten]) 72,qe gP60 q59 l52 [],qc gP60 gP100 q60 l53 [],qf gP70 gP88 gP100 qP70 A70 [],.obj b5 (List.flatten [[.int .i64 x19.gen_],[.bool x19.whole_],(zr (fzr SR) (fun _=>[]) x19.values_).flatten,[.int .i64 x63.gen_],[.bool x63.whole_],(zr (fzr SR) (fun _=>[]) x63.values_).flatten]) 73,.ss (zs sd0 (fun _=>[]) x19.values_),.ss (zs sd0 (fun _=>[]) x63.values_),.obj b4 (List.flatten [(zr (fzr (PR gP100)) (fun _=>[]) l90).flatten,[.int .i64 0],[.int .i64 0],[.bool false],[.int .i64 0],(zr qi (fun _=>[zB]) (List.replicate 20 ([]:(List TVersion)))).flatten,[.slice none 0 0],[.slice none 0 0]]) 70,.ss (zs sd0 (fun _=>[]) l90),.ss (zs (qq 79 2 TVersion.row) (fun _=>[zB]) (List.replicate 20 ([]:(List TVersion))))]) (fun _ hw=>by simp only [qZ] at hw ⊢;exact hw) (ln (W.seq (sr (L.y rfl (Y.fieldP xE rfl) (L.iteB h rfl (Y.loadG (q:=1) (si:=1) (ps:=1) (j:=0) (X:=[.bool x19.whole_]) ag4 rfl rfl rfl rfl (sl1 (a:=1) (p:=0) rfl sl0) rfl) (fun c95 h=>?_) (fun c95 h=>?_)))))))))
    ·refine L.y rfl (Y.not rfl) (ln (W.condF rfl (W.skip (E.thenN (sr (L.r 1 rfl (L.y rfl (Y.fieldP yX rfl) (L.y rfl (Y.loadG (q:=1) (si:=0) (ps:=0) (j:=0) (X:=[.int .i64 x19.gen_]) ag3 rfl rfl rfl rfl sl0 rfl) (L.r 1 rfl (L.y rfl (Y.fieldP yZ rfl) (L.storeG (q:=8) (si:=2) (ps:=3) (j:=0) (X:=[.int .i64 0]) (vals:=[.int .i64 x19.gen_]) sz3 rfl rfl rfl rfl rfl (by simp [Value.oneCell',Value.cells,st,pt,el]) rfl rfl (sl1 (a:=2) (p:=1) (zrN (nn:=2) (k:=1) (fun _ _=>rfl) qic) (sl1 (a:=1) (p:=0) rfl sl0)) rfl ?_)))))))))))
     refine ln (W.seqJ (fun gs D=>∃ gx2 gP70 gl4 gq5,∃ gu6:Unit,gs=[(5,VP gP70 gx2)]∧D=Cls w F [qe gP60 q59 l52 [],qc gP60 gP100 q60 l53 [],qf gP70 gP88 gP100 gq5 gl4 []]∧Gr g70 A70.length gP70 gl4.length∧qgs l52 l53 gx2 gl4=some r) ?_ ?_)
     ·refine sr (L.y rfl (Y.fieldP vP rfl) (L.y rfl (Y.loadGF (q:=1) (si:=2) (ps:=2) (rw':=SR) (vs:=(fun _=>[])) (lb:=x19.values_) qdf qcu rfl rfl rfl (sl1 (a:=1) (p:=1) rfl (sl1 (a:=1) (p:=0) rfl sl0)) (zrN (nn:=20) (k:=1) (fun _ _=>rfl) kz)) (L.r 1 rfl (ln (W.block (W.nilSl 84 1 (W.nilSl 84 1 (W.to (D:=Cls w F [.sl (.slice none 0 0) 84 1 ([].map (PR gP88)),.sl (.slice none 0 0) 84 1 ([].map (PR gP88)),.ss (zs sd0 (fun _=>[]) x19.values_),.obj b94 (List.flatten [[.int .i64 x19.gen_],[.bool x19.whole_],(zr (fzr SR) (fun _=>[]) x19.values_).flatten]) 72,qe gP60 q59 l52 [],qc gP60 gP100 q60 l53 [],qf gP70 gP88 gP100 qP70 A70 [],.obj b5 (List.flatten [[.int .i64 x19.gen_],[.bool x19.whole_],(zr (fzr SR) (fun _=>[]) x19.values_).flatten,[.int .i64 x63.gen_],[.bool x63.whole_],(zr (fzr SR) (fun _=>[]) x63.values_).flatten]) 73,.ss (zs sd0 (fun _=>[]) x19.values_),.ss (zs sd0 (fun _=>[]) x63.values_),.obj b4 (List.flatten [(zr (fzr (PR gP100)) (fun _=>[]) l90).flatten,[.int .i64 0],[.int .i64 x19.gen_],[.bool false],[.int .i64 0],(zr qi (qk ([(.slice none 0 0),(.slice none 0 0)]++ghl (fun _=>[zB]) (List.replicate 20 ([]:(List TVersion))).length) 2) (List.replicate 20 ([]:(List TVersion)))).flatten,[(.slice none 0 0)],[(.slice none 0 0)]]) 70,.ss (zs sd0 (fun _=>[]) l90),.ss (zs (qq 79 2 TVersion.row) (qk ([(.slice none 0 0),(.slice none 0 0)]++ghl (fun _=>[zB]) (List.replicate 20 ([]:(List TVersion))).length) 2) (List.replicate 20 ([]:(List TVersion))))]) (fun _ hw=>by rw [zK [(.slice none 0 0),(.slice none 0 0)] _ 2 _ rfl,zJ [(.slice none 0 0),(.slice none 0 0)] _ 2 _ rfl];exact hw) (W.arNew (rowg:=fun g=>TStore.rowA gP88 gP100) (subg:=fun g=>TStore.subA gP88 gP100) (e:=70) (g:=gP70) (gh:=qP70) (l:=A70) (hs:=[]) (b:=b4) (u1:=(⟨l90,0,x19.gen_,false,0,(List.replicate 20 ([]:(List TVersion))),[],[]⟩:TStore)) (vs':=([(.slice none 0 0),(.slice none 0 0)]++ghl (fun _=>[zB]) (List.replicate 20 ([]:(List TVersion))).length)) (m':=[.ss (zs sd0 (fun _=>[]) x19.values_),.obj b94 (List.flatten [[.int .i64 x19.gen_],[.bool x19.whole_],(zr (fzr SR) (fun _=>[]) x19.values_).flatten]) 72,qe gP60 q59 l52 [],qc gP60 gP100 q60 l53 [],.obj b5 (List.flatten [[.int .i64 x19.gen_],[.bool x19.whole_],(zr (fzr SR) (fun _=>[]) x19.values_).flatten,[.int .i64 x63.gen_],[.bool x63.whole_],(zr (fzr SR) (fun _=>[]) x63.values_).flatten]) 73,.ss (zs sd0 (fun _=>[]) x19.values_),.ss (zs sd0 (fun _=>[]) x63.values_)]) [10,1,0,11,12,6,2,3,4,5,7,8,9] h (by decide) rfl (fun _ h=>nomatch h) (fun _ _ _ _ _=>⟨rfl,rfl⟩) ?_)))))))))
      intro gP70 q96 x97 l98 h hg99 hv100 hi101
      rw [hv100]
      replace hGr70:=hGr70.trans hg99
      refine W.to (D:=Cls w F [qf gP70 gP88 gP100 q96 l98 [],.ss (zs sd0 (fun _=>[]) x19.values_),.obj b94 (List.flatten [[.int .i64 x19.gen_],[.bool x19.whole_],(zr (fzr SR) (fun _=>[]) x19.values_).flatten]) 72,qe gP60 q59 l52 [],qc gP60 gP100 q60 l53 [],.obj b5 (List.flatten [[.int .i64 x19.gen_],[.bool x19.whole_],(zr (fzr SR) (fun _=>[]) x19.values_).flatten,[.int .i64 x63.gen_],[.bool x63.whole_],(zr (fzr SR) (fun _=>[]) x63.values_).flatten]) 73,.ss (zs sd0 (fun _=>[]) x19.values_),.ss (zs sd0 (fun _=>[]) x63.values_)]) hI (W.loopJ (fun m gs D=>∃ gx7 gl8 gq9,∃ gu10:Unit,gs=[(5,VP gP70 x97),(90,.agg (x19.values_.map SR).flatten.toArray),(91,.int .i64 gx7)]∧D=Cls w F [qf gP70 gP88 gP100 gq9 gl8 [],qe gP60 q59 l52 [],qc gP60 gP100 q60 l53 []]∧Gr g70 A70.length gP70 gl8.length∧ym x19 x97 l52 l53 m gx7 gl8=some r) ⟨0,l98,q96,(),rfl,rfl,hGr70,h⟩ ⟨rfl,rfl,rfl,trivial⟩ (sI [0,3,4]) ?_)
      rintro m _ _ ⟨gx7,gl8,gq9,gu10,rfl,rfl,hGr70,h⟩
      rcases m with _ | m
      ·rw [ym] at h;cases h
      rw [ym] at h
      generalize hg1:ym x19 x97 l52 l53 m=go1 at h
      rw [qcl] at h
      refine sr (L.ite h rfl (Y.lss rfl rfl) (fun c102 h=>?_) (fun c102 h=>?_))
      ·refine ln (W.seq (W.condT rfl (W.skip (E.thenN (W.seq (W.block (sr (L.r 1 rfl ?_))))))))
       obtain ⟨x103,ex103,h⟩:=qd h
       refine L.y rfl (Y.idxArr1 (l:=x19.values_) (row:=SR) (p:=st x103) Tryz.underlying30 ag9 sz9 rfl rfl (fun _=>rfl) ex103 rfl) (L.r 2 rfl (nr (L.r 3 rfl (L.y rfl (Y.build (cells:=#[.int .i64 0,st x103]) rfl (by kernel_rfl)) (L.litAgg rfl Tryz.underlying66 qgU rfl rfl rfl ?_)))))
       intro b104
       obtain ⟨th105,eth105,h⟩:=qd h
       refine L.to (D:=Cls w F [.obj (gP70 x97.toNat) (List.flatten [(zr (fzr (PR gP100)) (fun _=>[]) th105.logs_).flatten,[.int .i64 th105.half_],[.int .i64 th105.gen_],[.bool th105.down_],[.int .i64 th105.now_],(zr qi (qk (gq9 x97.toNat) 2) th105.items_).flatten,[(gv (gq9 x97.toNat) 0)],[(gv (gq9 x97.toNat) 1)]]) 70,.sl (gv (gq9 x97.toNat) 0) 84 1 (th105.active_.map (PR gP88)),.sl (gv (gq9 x97.toNat) 1) 84 1 (th105.over_.map (PR gP88)),.ss (zs sd0 (fun _=>[]) th105.logs_),.ss (zs (qq 79 2 TVersion.row) (qk (gq9 x97.toNat) 2) th105.items_),qf gP70 gP88 gP100 gq9 gl8 (x97.toNat :: []),.sl (sv b104 1) 79 2 (([(⟨0,x103⟩:TVersion)]).map TVersion.row),qe gP60 q59 l52 [],qc gP60 gP100 q60 l53 []]) (fun _ hw=>hw.arOpen (p:=1) rfl eth105 List.not_mem_nil) (L.y rfl (Y.apNil rfl eth105) (L.y rfl (Y.fieldP j0 rfl) (L.m (V:=fun _=>pt (gP70 x97.toNat) (6+gx7.toNat*1)) h rfl (Y.indexAS (l:=th105.items_) Tryz.underlying67 qc9 rfl rfl) (fun x106 ex106 h=>?_))))
       obtain ⟨_,en107,h⟩:=qd h
       obtain ⟨_,en107⟩:=qh en107
       refine L.storeZSg (si:=5) (ps:=6) (row:=qi) (sds:=(qq 79 2 TVersion.row)) (vs:=(qk (gq9 x97.toNat) 2)) (q:=0) (p:=6) (s:=4) (c:=1) (jj:=0) (u1:=[(⟨0,x103⟩:TVersion)]) (v1:=[(sv b104 1)]) (j:=0) h qc9 rfl rfl rfl rfl rfl (sl1 (a:=2) (p:=4) (zrN (nn:=2) (k:=1) (fun _ _=>rfl) en107) (sl1 (a:=1) (p:=3) rfl (sl1 (a:=1) (p:=2) rfl (sl1 (a:=1) (p:=1) rfl (sl1 (a:=1) (p:=0) rfl sl0))))) rfl rfl (.inl rfl) (fun _ _=>rfl) (fun _ _=>rfl) (qt ex106) rfl rfl rfl rfl ?_
       intro l108 q109 el108 h
       refine L.nil (E.blockN (E.thenN (W.region (L.m (V:=fun x110=>.int .i64 x110) h rfl (Y.addM rfl rfl) (fun x110 ex110 h=>(L.r 1 rfl (L.nil (E.to (D:=Cls w F [.obj (gP70 x97.toNat) (List.flatten [(zr (fzr (PR gP100)) (fun _=>[]) th105.logs_).flatten,[.int .i64 th105.half_],[.int .i64 th105.gen_],[.bool th105.down_],[.int .i64 th105.now_],(zr qi (qk ([(gv (gq9 x97.toNat) 0),(gv (gq9 x97.toNat) 1)]++ghl q109 l108.length) 2) l108).flatten,[(gv (gq9 x97.toNat) 0)],[(gv (gq9 x97.toNat) 1)]]) 70,.sl (gv (gq9 x97.toNat) 0) 84 1 (th105.active_.map (PR gP88)),.sl (gv (gq9 x97.toNat) 1) 84 1 (th105.over_.map (PR gP88)),.ss (zs sd0 (fun _=>[]) th105.logs_),.ss (zs (qq 79 2 TVersion.row) (qk ([(gv (gq9 x97.toNat) 0),(gv (gq9 x97.toNat) 1)]++ghl q109 l108.length) 2) l108),qf gP70 gP88 gP100 gq9 gl8 (x97.toNat :: []),qe gP60 q59 l52 [],qc gP60 gP100 q60 l53 []]) (fun _ hw=>by rw [zK [(gv (gq9 x97.toNat) 0),(gv (gq9 x97.toNat) 1)] _ 2 _ rfl,zJ [(gv (gq9 x97.toNat) 0),(gv (gq9 x97.toNat) 1)] _ 2 _ rfl];exact hw) ?_))))))))
       obtain ⟨l112,el112,h⟩:=qd h
       refine E.arClose (row:=TStore.rowA gP88 gP100) (sub:=TStore.subA gP88 gP100) (e:=70) (g:=gP70) (gh:=gq9) (vs':=([(gv (gq9 x97.toNat) 0),(gv (gq9 x97.toNat) 1)]++ghl q109 l108.length)) (hs:=[]) (hs':=(x97.toNat :: [])) (m':=[qe gP60 q59 l52 [],qc gP60 gP100 q60 l53 []]) [0,1,2,3,4,5,6,7] el112 (by decide) rfl (fun _=>List.mem_cons) List.not_mem_nil ?_
       intro q111
       replace hGr70:=hGr70.upd el112
       exact E.to (D:=Cls w F [qf gP70 gP88 gP100 q111 l112 [],qe gP60 q59 l52 [],qc gP60 gP100 q60 l53 []]) hI (E.aJ ⟨x110,l112,q111,(),rfl,rfl,hGr70,by rw [hg1];exact h⟩ hI)
      exact ln (W.seq (W.condF rfl (W.exit (E.thenX (E.KLX (E.blockX (E.jJ ⟨x97,gP70,gl8,gq9,(),rfl,rfl,hGr70,h⟩ (sI [1,2,0]))))))))
     rintro _ _ ⟨gx2,gP70,gl4,gq5,gu6,rfl,rfl,hGr70,h⟩
     rw [qgs] at h
     refine sr (L.r 3 rfl (ln (W.ret (E.ret2 rfl rfl rfl (fun w1 hw=>?_)))))
     cases h
     exact ⟨_,_,rfl,⟨_,_,_,_,_,(hg70 ▸ hGr70),(hg100 ▸ hGr100),rfl,rfl⟩,hw.s [0,2,1]⟩
    refine L.y rfl (Y.not rfl) (ln (W.condT rfl (sr (L.r 2 rfl (ln (W.ret (E.thenR (E.ret2 rfl rfl rfl (fun w1 hw=>?_)))))))))
    cases h
    exact ⟨_,_,rfl,⟨_,_,_,_,_,(hg70 ▸ hGr70),(hg100 ▸ hGr100),rfl,rfl⟩,hw.s [2,4,3]⟩
   replace h:=zY h
   refine W.condT rfl (W.region (L.r 2 rfl (L.y rfl (Y.fieldP vb rfl) ?_)))
   obtain ⟨_,qaQ,h⟩:=qd h
   obtain ⟨_,qaQ⟩:=qh qaQ
   refine L.storeG (q:=6) (si:=1) (ps:=2) (j:=0) (X:=[.int .i64 0]) (vals:=[.int .i64 1]) sz3 rfl rfl rfl rfl rfl (by simp [Value.oneCell',Value.cells,st,pt,el]) rfl rfl (sl1 (a:=2) (p:=0) (zrN (nn:=2) (k:=1) (fun _ _=>rfl) qaQ) sl0) rfl (nsr (L.r 2 rfl (L.y rfl (Y.fieldP vb rfl) (L.y rfl (Y.loadG (q:=6) (si:=1) (ps:=2) (j:=0) (X:=[.int .i64 1]) ag3 rfl rfl rfl rfl (sl1 (a:=2) (p:=0) (zrN (nn:=2) (k:=1) (fun _ _=>rfl) qaQ) sl0) rfl) (L.y rfl (Y.indexP Tryz.underlying73 zC rfl rfl (by decide) (by decide)) (L.y rfl (Y.loadSR (q:=3) (ps:=22) [[.int .i64 x19.gen_],[.bool x19.whole_],(zr (fzr SR) (fun _=>[]) x19.values_).flatten] [[.int .i64 x63.gen_],[.bool x63.whole_],(zr (fzr SR) (fun _=>[]) x63.values_).flatten] [] kA zC rfl rfl (fl1 (a:=1) (p:=21) rfl (fl1 (a:=1) (p:=20) rfl (fl1 (a:=20) (p:=0) (zrN (nn:=20) (k:=1) (fun _ _=>rfl) kz) fl0))) (fl1 (a:=1) (p:=21) rfl (fl1 (a:=1) (p:=20) rfl (fl1 (a:=20) (p:=0) (zrN (nn:=20) (k:=1) (fun _ _=>rfl) qdc) fl0)))) (L.alloc rfl qgu ?_)))))))
   intro b114
   refine L.toSeg (S:=[[.int .i64 0],[.bool false],(zr (fzr SR) (fun _=>[]) (List.replicate 20 ([]:(List UInt8)))).flatten]) rfl (L.ssNil (sds:=sd0) (vs:=(fun _=>[])) (xs:=(List.replicate 20 ([]:(List UInt8)))) (zd xZ _) (L.storeSR (q:=1) (ps:=0) [] [[.int .i64 0],[.bool false],(zr (fzr SR) (fun _=>[]) (List.replicate 20 ([]:(List UInt8)))).flatten] [[.int .i64 x63.gen_],[.bool x63.whole_],(zr (fzr SR) (fun _=>[]) x63.values_).flatten] [] zC rfl rfl (qG (zi rfl zq) (qG (zi rfl zq) (qG (vX (qv _)) xk))) rfl fl0 (fl1 (a:=1) (p:=21) rfl (fl1 (a:=1) (p:=20) rfl (fl1 (a:=20) (p:=0) (zrN (nn:=20) (k:=1) (fun _ _=>rfl) qaP) fl0))) (fl1 (a:=1) (p:=21) rfl (fl1 (a:=1) (p:=20) rfl (fl1 (a:=20) (p:=0) (zrN (nn:=20) (k:=1) (fun _ _=>rfl) qdc) fl0))) (L.to (D:=Cls w F [.ss (zs sd0 (fun _=>[]) x63.values_),.obj b114 (List.flatten [[.int .i64 x63.gen_],[.bool x63.whole_],(zr (fzr SR) (fun _=>[]) x63.values_).flatten]) 72,qe gP60 q59 l52 [],qc gP60 gP100 q60 l53 [],qf gP70 gP88 gP100 qP70 A70 [],.obj b5 (List.flatten [[.int .i64 x19.gen_],[.bool x19.whole_],(zr (fzr SR) (fun _=>[]) x19.values_).flatten,[.int .i64 x63.gen_],[.bool x63.whole_],(zr (fzr SR) (fun _=>[]) x63.values_).flatten]) 73,.ss (zs sd0 (fun _=>[]) x19.values_),.ss (zs sd0 (fun _=>[]) x63.values_),.obj b4 (List.flatten [(zr (fzr (PR gP100)) (fun _=>[]) l90).flatten,[.int .i64 1],[.int .i64 0],[.bool false],[.int .i64 0],(zr qi (fun _=>[zB]) (List.replicate 20 ([]:(List TVersion)))).flatten,[.slice none 0 0],[.slice none 0 0]]) 70,.ss (zs sd0 (fun _=>[]) l90),.ss (zs (qq 79 2 TVersion.row) (fun _=>[zB]) (List.replicate 20 ([]:(List TVersion))))]) (fun _ hw=>by simp only [qZ] at hw ⊢;exact hw) (ln (W.seq (sr (L.y rfl (Y.fieldP xE rfl) (L.iteB h rfl (Y.loadG (q:=1) (si:=1) (ps:=1) (j:=0) (X:=[.bool x63.whole_]) ag4 rfl rfl rfl rfl (sl1 (a:=1) (p:=0) rfl sl0) rfl) (fun c115 h=>?_) (fun c115 h=>?_)))))))))
   ·refine L.y rfl (Y.not rfl) (ln (W.condF rfl (W.skip (E.thenN (sr (L.r 1 rfl (L.y rfl (Y.fieldP yX rfl) (L.y rfl (Y.loadG (q:=1) (si:=0) (ps:=0) (j:=0) (X:=[.int .i64 x63.gen_]) ag3 rfl rfl rfl rfl sl0 rfl) (L.r 1 rfl (L.y rfl (Y.fieldP yZ rfl) (L.storeG (q:=8) (si:=2) (ps:=3) (j:=0) (X:=[.int .i64 0]) (vals:=[.int .i64 x63.gen_]) sz3 rfl rfl rfl rfl rfl (by simp [Value.oneCell',Value.cells,st,pt,el]) rfl rfl (sl1 (a:=2) (p:=1) (zrN (nn:=2) (k:=1) (fun _ _=>rfl) qaQ) (sl1 (a:=1) (p:=0) rfl sl0)) rfl ?_)))))))))))
    refine ln (W.seqJ (fun gs D=>∃ gx11 gP70 gl13 gq14,∃ gu15:Unit,gs=[(5,VP gP70 gx11)]∧D=Cls w F [qe gP60 q59 l52 [],qc gP60 gP100 q60 l53 [],qf gP70 gP88 gP100 gq14 gl13 []]∧Gr g70 A70.length gP70 gl13.length∧qgr l52 l53 gx11 gl13=some r) ?_ ?_)
    ·refine sr (L.y rfl (Y.fieldP vP rfl) (L.y rfl (Y.loadGF (q:=1) (si:=2) (ps:=2) (rw':=SR) (vs:=(fun _=>[])) (lb:=x63.values_) qdf qcu rfl rfl rfl (sl1 (a:=1) (p:=1) rfl (sl1 (a:=1) (p:=0) rfl sl0)) (zrN (nn:=20) (k:=1) (fun _ _=>rfl) qdc)) (L.r 1 rfl (ln (W.block (W.nilSl 84 1 (W.nilSl 84 1 (W.to (D:=Cls w F [.sl (.slice none 0 0) 84 1 ([].map (PR gP88)),.sl (.slice none 0 0) 84 1 ([].map (PR gP88)),.ss (zs sd0 (fun _=>[]) x63.values_),.obj b114 (List.flatten [[.int .i64 x63.gen_],[.bool x63.whole_],(zr (fzr SR) (fun _=>[]) x63.values_).flatten]) 72,qe gP60 q59 l52 [],qc gP60 gP100 q60 l53 [],qf gP70 gP88 gP100 qP70 A70 [],.obj b5 (List.flatten [[.int .i64 x19.gen_],[.bool x19.whole_],(zr (fzr SR) (fun _=>[]) x19.values_).flatten,[.int .i64 x63.gen_],[.bool x63.whole_],(zr (fzr SR) (fun _=>[]) x63.values_).flatten]) 73,.ss (zs sd0 (fun _=>[]) x19.values_),.ss (zs sd0 (fun _=>[]) x63.values_),.obj b4 (List.flatten [(zr (fzr (PR gP100)) (fun _=>[]) l90).flatten,[.int .i64 1],[.int .i64 x63.gen_],[.bool false],[.int .i64 0],(zr qi (qk ([(.slice none 0 0),(.slice none 0 0)]++ghl (fun _=>[zB]) (List.replicate 20 ([]:(List TVersion))).length) 2) (List.replicate 20 ([]:(List TVersion)))).flatten,[(.slice none 0 0)],[(.slice none 0 0)]]) 70,.ss (zs sd0 (fun _=>[]) l90),.ss (zs (qq 79 2 TVersion.row) (qk ([(.slice none 0 0),(.slice none 0 0)]++ghl (fun _=>[zB]) (List.replicate 20 ([]:(List TVersion))).length) 2) (List.replicate 20 ([]:(List TVersion))))]) (fun _ hw=>by rw [zK [(.slice none 0 0),(.slice none 0 0)] _ 2 _ rfl,zJ [(.slice none 0 0),(.slice none 0 0)] _ 2 _ rfl];exact hw) (W.arNew (rowg:=fun g=>TStore.rowA gP88 gP100) (subg:=fun g=>TStore.subA gP88 gP100) (e:=70) (g:=gP70) (gh:=qP70) (l:=A70) (hs:=[]) (b:=b4) (u1:=(⟨l90,1,x63.gen_,false,0,(List.replicate 20 ([]:(List TVersion))),[],[]⟩:TStore)) (vs':=([(.slice none 0 0),(.slice none 0 0)]++ghl (fun _=>[zB]) (List.replicate 20 ([]:(List TVersion))).length)) (m':=[.ss (zs sd0 (fun _=>[]) x63.values_),.obj b114 (List.flatten [[.int .i64 x63.gen_],[.bool x63.whole_],(zr (fzr SR) (fun _=>[]) x63.values_).flatten]) 72,qe gP60 q59 l52 [],qc gP60 gP100 q60 l53 [],.obj b5 (List.flatten [[.int .i64 x19.gen_],[.bool x19.whole_],(zr (fzr SR) (fun _=>[]) x19.values_).flatten,[.int .i64 x63.gen_],[.bool x63.whole_],(zr (fzr SR) (fun _=>[]) x63.values_).flatten]) 73,.ss (zs sd0 (fun _=>[]) x19.values_),.ss (zs sd0 (fun _=>[]) x63.values_)]) [10,1,0,11,12,6,2,3,4,5,7,8,9] h (by decide) rfl (fun _ h=>nomatch h) (fun _ _ _ _ _=>⟨rfl,rfl⟩) ?_)))))))))
     intro gP70 q116 x117 l118 h hg119 hv120 hi121
     rw [hv120]
     replace hGr70:=hGr70.trans hg119
     refine W.to (D:=Cls w F [qf gP70 gP88 gP100 q116 l118 [],.ss (zs sd0 (fun _=>[]) x63.values_),.obj b114 (List.flatten [[.int .i64 x63.gen_],[.bool x63.whole_],(zr (fzr SR) (fun _=>[]) x63.values_).flatten]) 72,qe gP60 q59 l52 [],qc gP60 gP100 q60 l53 [],.obj b5 (List.flatten [[.int .i64 x19.gen_],[.bool x19.whole_],(zr (fzr SR) (fun _=>[]) x19.values_).flatten,[.int .i64 x63.gen_],[.bool x63.whole_],(zr (fzr SR) (fun _=>[]) x63.values_).flatten]) 73,.ss (zs sd0 (fun _=>[]) x19.values_),.ss (zs sd0 (fun _=>[]) x63.values_)]) hI (W.loopJ (fun m gs D=>∃ gx16 gl17 gq18,∃ gu19:Unit,gs=[(5,VP gP70 x117),(90,.agg (x63.values_.map SR).flatten.toArray),(91,.int .i64 gx16)]∧D=Cls w F [qf gP70 gP88 gP100 gq18 gl17 [],qe gP60 q59 l52 [],qc gP60 gP100 q60 l53 []]∧Gr g70 A70.length gP70 gl17.length∧yl x63 x117 l52 l53 m gx16 gl17=some r) ⟨0,l118,q116,(),rfl,rfl,hGr70,h⟩ ⟨rfl,rfl,rfl,trivial⟩ (sI [0,3,4]) ?_)
     rintro m _ _ ⟨gx16,gl17,gq18,gu19,rfl,rfl,hGr70,h⟩
     rcases m with _ | m
     ·rw [yl] at h;cases h
     rw [yl] at h
     generalize hg2:yl x63 x117 l52 l53 m=go2 at h
     rw [qck] at h
     refine sr (L.ite h rfl (Y.lss rfl rfl) (fun c122 h=>?_) (fun c122 h=>?_))
     ·refine ln (W.seq (W.condT rfl (W.skip (E.thenN (W.seq (W.block (sr (L.r 1 rfl ?_))))))))
      obtain ⟨x123,ex123,h⟩:=qd h
      refine L.y rfl (Y.idxArr1 (l:=x63.values_) (row:=SR) (p:=st x123) Tryz.underlying30 ag9 sz9 rfl rfl (fun _=>rfl) ex123 rfl) (L.r 2 rfl (nr (L.r 3 rfl (L.y rfl (Y.build (cells:=#[.int .i64 0,st x123]) rfl (by kernel_rfl)) (L.litAgg rfl Tryz.underlying66 qgU rfl rfl rfl ?_)))))
      intro b124
      obtain ⟨th125,eth125,h⟩:=qd h
      refine L.to (D:=Cls w F [.obj (gP70 x117.toNat) (List.flatten [(zr (fzr (PR gP100)) (fun _=>[]) th125.logs_).flatten,[.int .i64 th125.half_],[.int .i64 th125.gen_],[.bool th125.down_],[.int .i64 th125.now_],(zr qi (qk (gq18 x117.toNat) 2) th125.items_).flatten,[(gv (gq18 x117.toNat) 0)],[(gv (gq18 x117.toNat) 1)]]) 70,.sl (gv (gq18 x117.toNat) 0) 84 1 (th125.active_.map (PR gP88)),.sl (gv (gq18 x117.toNat) 1) 84 1 (th125.over_.map (PR gP88)),.ss (zs sd0 (fun _=>[]) th125.logs_),.ss (zs (qq 79 2 TVersion.row) (qk (gq18 x117.toNat) 2) th125.items_),qf gP70 gP88 gP100 gq18 gl17 (x117.toNat :: []),.sl (sv b124 1) 79 2 (([(⟨0,x123⟩:TVersion)]).map TVersion.row),qe gP60 q59 l52 [],qc gP60 gP100 q60 l53 []]) (fun _ hw=>hw.arOpen (p:=1) rfl eth125 List.not_mem_nil) (L.y rfl (Y.apNil rfl eth125) (L.y rfl (Y.fieldP j0 rfl) (L.m (V:=fun _=>pt (gP70 x117.toNat) (6+gx16.toNat*1)) h rfl (Y.indexAS (l:=th125.items_) Tryz.underlying67 qc9 rfl rfl) (fun x126 ex126 h=>?_))))
      obtain ⟨_,en127,h⟩:=qd h
      obtain ⟨_,en127⟩:=qh en127
      refine L.storeZSg (si:=5) (ps:=6) (row:=qi) (sds:=(qq 79 2 TVersion.row)) (vs:=(qk (gq18 x117.toNat) 2)) (q:=0) (p:=6) (s:=4) (c:=1) (jj:=0) (u1:=[(⟨0,x123⟩:TVersion)]) (v1:=[(sv b124 1)]) (j:=0) h qc9 rfl rfl rfl rfl rfl (sl1 (a:=2) (p:=4) (zrN (nn:=2) (k:=1) (fun _ _=>rfl) en127) (sl1 (a:=1) (p:=3) rfl (sl1 (a:=1) (p:=2) rfl (sl1 (a:=1) (p:=1) rfl (sl1 (a:=1) (p:=0) rfl sl0))))) rfl rfl (.inl rfl) (fun _ _=>rfl) (fun _ _=>rfl) (qt ex126) rfl rfl rfl rfl ?_
      intro l128 q129 el128 h
      refine L.nil (E.blockN (E.thenN (W.region (L.m (V:=fun x130=>.int .i64 x130) h rfl (Y.addM rfl rfl) (fun x130 ex130 h=>(L.r 1 rfl (L.nil (E.to (D:=Cls w F [.obj (gP70 x117.toNat) (List.flatten [(zr (fzr (PR gP100)) (fun _=>[]) th125.logs_).flatten,[.int .i64 th125.half_],[.int .i64 th125.gen_],[.bool th125.down_],[.int .i64 th125.now_],(zr qi (qk ([(gv (gq18 x117.toNat) 0),(gv (gq18 x117.toNat) 1)]++ghl q129 l128.length) 2) l128).flatten,[(gv (gq18 x117.toNat) 0)],[(gv (gq18 x117.toNat) 1)]]) 70,.sl (gv (gq18 x117.toNat) 0) 84 1 (th125.active_.map (PR gP88)),.sl (gv (gq18 x117.toNat) 1) 84 1 (th125.over_.map (PR gP88)),.ss (zs sd0 (fun _=>[]) th125.logs_),.ss (zs (qq 79 2 TVersion.row) (qk ([(gv (gq18 x117.toNat) 0),(gv (gq18 x117.toNat) 1)]++ghl q129 l128.length) 2) l128),qf gP70 gP88 gP100 gq18 gl17 (x117.toNat :: []),qe gP60 q59 l52 [],qc gP60 gP100 q60 l53 []]) (fun _ hw=>by rw [zK [(gv (gq18 x117.toNat) 0),(gv (gq18 x117.toNat) 1)] _ 2 _ rfl,zJ [(gv (gq18 x117.toNat) 0),(gv (gq18 x117.toNat) 1)] _ 2 _ rfl];exact hw) ?_))))))))
      obtain ⟨l132,el132,h⟩:=qd h
      refine E.arClose (row:=TStore.rowA gP88 gP100) (sub:=TStore.subA gP88 gP100) (e:=70) (g:=gP70) (gh:=gq18) (vs':=([(gv (gq18 x117.toNat) 0),(gv (gq18 x117.toNat) 1)]++ghl q129 l128.length)) (hs:=[]) (hs':=(x117.toNat :: [])) (m':=[qe gP60 q59 l52 [],qc gP60 gP100 q60 l53 []]) [0,1,2,3,4,5,6,7] el132 (by decide) rfl (fun _=>List.mem_cons) List.not_mem_nil ?_
      intro q131
      replace hGr70:=hGr70.upd el132
      exact E.to (D:=Cls w F [qf gP70 gP88 gP100 q131 l132 [],qe gP60 q59 l52 [],qc gP60 gP100 q60 l53 []]) hI (E.aJ ⟨x130,l132,q131,(),rfl,rfl,hGr70,by rw [hg2];exact h⟩ hI)
     exact ln (W.seq (W.condF rfl (W.exit (E.thenX (E.KLX (E.blockX (E.jJ ⟨x117,gP70,gl17,gq18,(),rfl,rfl,hGr70,h⟩ (sI [1,2,0]))))))))
    rintro _ _ ⟨gx11,gP70,gl13,gq14,gu15,rfl,rfl,hGr70,h⟩
    rw [qgr] at h
    refine sr (L.r 3 rfl (ln (W.ret (E.ret2 rfl rfl rfl (fun w1 hw=>?_)))))
    cases h
    exact ⟨_,_,rfl,⟨_,_,_,_,_,(hg70 ▸ hGr70),(hg100 ▸ hGr100),rfl,rfl⟩,hw.s [0,2,1]⟩
   refine L.y rfl (Y.not rfl) (ln (W.condT rfl (sr (L.r 2 rfl (ln (W.ret (E.thenR (E.ret2 rfl rfl rfl (fun w1 hw=>?_)))))))))
   cases h
   exact ⟨_,_,rfl,⟨_,_,_,_,_,(hg70 ▸ hGr70),(hg100 ▸ hGr100),rfl,rfl⟩,hw.s [2,4,3]⟩
  refine L.alloc rfl qgu ?_
  intro b136
  refine L.toSeg (S:=[[.int .i64 0],[.bool false],(zr (fzr SR) (fun _=>[]) (List.replicate 20 ([]:(List UInt8)))).flatten]) rfl (L.ssNil (sds:=sd0) (vs:=(fun _=>[])) (xs:=(List.replicate 20 ([]:(List UInt8)))) (zd xZ _) ?_)
  obtain ⟨_,en137,h⟩:=qd h
  obtain ⟨_,en137⟩:=qh en137
  refine L.storeSR (q:=1) (ps:=0) [] [[.int .i64 0],[.bool false],(zr (fzr SR) (fun _=>[]) (List.replicate 20 ([]:(List UInt8)))).flatten] [[.int .i64 x63.gen_],[.bool x63.whole_],(zr (fzr SR) (fun _=>[]) x63.values_).flatten] [] zC rfl rfl (qG (zi rfl zq) (qG (zi rfl zq) (qG (vX (qv _)) xk))) rfl fl0 (fl1 (a:=1) (p:=21) rfl (fl1 (a:=1) (p:=20) rfl (fl1 (a:=20) (p:=0) (zrN (nn:=20) (k:=1) (fun _ _=>rfl) qaP) fl0))) (fl1 (a:=1) (p:=21) rfl (fl1 (a:=1) (p:=20) rfl (fl1 (a:=20) (p:=0) (zrN (nn:=20) (k:=1) (fun _ _=>rfl) en137) fl0))) (L.to (D:=Cls w F [.ss (zs sd0 (fun _=>[]) x63.values_),.obj b136 (List.flatten [[.int .i64 x63.gen_],[.bool x63.whole_],(zr (fzr SR) (fun _=>[]) x63.values_).flatten]) 72,qe gP60 q59 l52 [],qc gP60 gP100 q60 l53 [],.sl v56 9 1 (l55.map SR),.ss (zs sd0 (fun _=>[]) x19.values_),.obj b23 (List.flatten [[.int .i64 x19.gen_],[.bool x19.whole_],(zr (fzr SR) (fun _=>[]) x19.values_).flatten]) 72,.sl v12 9 1 (l11.map SR),.ss (zs sd0 (fun _=>[]) (List.replicate 20 ([]:(List UInt8)))),.ss (zs sd0 (fun _=>[]) x19.values_),.obj b5 (List.flatten [[.int .i64 x19.gen_],[.bool x19.whole_],(zr (fzr SR) (fun _=>[]) x19.values_).flatten,[.int .i64 0],[.bool false],(zr (fzr SR) (fun _=>[]) (List.replicate 20 ([]:(List UInt8)))).flatten]) 73,.ss (zs (qq 79 2 TVersion.row) (fun _=>[zB]) (List.replicate 20 ([]:(List TVersion)))),.ss (zs sd0 (fun _=>[]) l47),.obj b4 (List.flatten [(zr (fzr (PR gP100)) (fun _=>[]) l47).flatten,[.int .i64 0],[.int .i64 0],[.bool false],[.int .i64 0],(zr qi (fun _=>[zB]) (List.replicate 20 ([]:(List TVersion)))).flatten,[.slice none 0 0],[.slice none 0 0]]) 70,qf gP70 gP88 gP100 qP70 A70 []]) (fun _ hw=>by simp only [qZ] at hw ⊢;exact hw) (L.r 1 rfl (ln (W.seq (sr (L.r 1 rfl (L.y rfl (Y.not rfl) (ln (W.condT rfl (W.seq ?_))))))))))
  refine W.region (L.r 2 rfl (ln (W.ret (E.thenR (E.blockR (E.thenR (E.thenR (E.blockR (E.thenR (E.ret2 rfl rfl rfl (fun w1 hw=>?_)))))))))))
  cases h
  exact ⟨_,_,rfl,⟨_,_,_,_,_,(hg70 ▸ hGr70),(hg100 ▸ hGr100),rfl,rfl⟩,hw.s [2,14,3]⟩
 refine L.alloc rfl qgu ?_
 intro b138
 refine L.toSeg (S:=[[.int .i64 0],[.bool false],(zr (fzr SR) (fun _=>[]) (List.replicate 20 ([]:(List UInt8)))).flatten]) rfl (L.ssNil (sds:=sd0) (vs:=(fun _=>[])) (xs:=(List.replicate 20 ([]:(List UInt8)))) (zd xZ _) ?_)
 obtain ⟨_,en139,h⟩:=qd h
 obtain ⟨_,en139⟩:=qh en139
 obtain ⟨_,en140,h⟩:=qd h
 obtain ⟨_,en140⟩:=qh en140
 refine L.storeSR (q:=1) (ps:=0) [] [[.int .i64 0],[.bool false],(zr (fzr SR) (fun _=>[]) (List.replicate 20 ([]:(List UInt8)))).flatten] [[.int .i64 x19.gen_],[.bool x19.whole_],(zr (fzr SR) (fun _=>[]) x19.values_).flatten] [] zC rfl rfl (qG (zi rfl zq) (qG (zi rfl zq) (qG (vX (qv _)) xk))) rfl fl0 (fl1 (a:=1) (p:=21) rfl (fl1 (a:=1) (p:=20) rfl (fl1 (a:=20) (p:=0) (zrN (nn:=20) (k:=1) (fun _ _=>rfl) en139) fl0))) (fl1 (a:=1) (p:=21) rfl (fl1 (a:=1) (p:=20) rfl (fl1 (a:=20) (p:=0) (zrN (nn:=20) (k:=1) (fun _ _=>rfl) en140) fl0))) (L.to (D:=Cls w F [.ss (zs sd0 (fun _=>[]) x19.values_),.obj b138 (List.flatten [[.int .i64 x19.gen_],[.bool x19.whole_],(zr (fzr SR) (fun _=>[]) x19.values_).flatten]) 72,qe gP60 q15 l8 [],qc gP60 gP100 q16 l9 [],.sl v12 9 1 (l11.map SR),.ss (zs sd0 (fun _=>[]) (List.replicate 20 ([]:(List UInt8)))),.ss (zs sd0 (fun _=>[]) (List.replicate 20 ([]:(List UInt8)))),.obj b5 (List.flatten [[.int .i64 0],[.bool false],(zr (fzr SR) (fun _=>[]) (List.replicate 20 ([]:(List UInt8)))).flatten,[.int .i64 0],[.bool false],(zr (fzr SR) (fun _=>[]) (List.replicate 20 ([]:(List UInt8)))).flatten]) 73,.ss (zs (qq 79 2 TVersion.row) (fun _=>[zB]) (List.replicate 20 ([]:(List TVersion)))),.ss (zs sd0 (fun _=>[]) (List.replicate 2 ((-1):Int))),.obj b4 (List.flatten [(zr (fzr (PR gP100)) (fun _=>[]) (List.replicate 2 ((-1):Int))).flatten,[.int .i64 0],[.int .i64 0],[.bool false],[.int .i64 0],(zr qi (fun _=>[zB]) (List.replicate 20 ([]:(List TVersion)))).flatten,[.slice none 0 0],[.slice none 0 0]]) 70,qf gP70 gP88 gP100 qP70 A70 []]) (fun _ hw=>by simp only [qZ] at hw ⊢;exact hw) (L.r 1 rfl (ln (W.seq (sr (L.r 1 rfl (L.y rfl (Y.not rfl) (ln (W.condT rfl (W.seq ?_))))))))))
 refine W.region (L.r 2 rfl (ln (W.ret (E.thenR (E.blockR (E.thenR (E.thenR (E.blockR (E.thenR (E.ret2 rfl rfl rfl (fun w1 hw=>?_)))))))))))
 cases h
 exact ⟨_,_,rfl,⟨_,_,_,_,_,(hg70 ▸ hGr70),(hg100 ▸ hGr100),rfl,rfl⟩,hw.s [2,11,3]⟩
set_option maxRecDepth 100000 in
set_option maxHeartbeats 8000000 in
theorem W6 (a0:Int) (A60:(List TDisk)) (A70:(List TStore)) (A100:(List TLog)) (gP60:Nat→Nat) (gP70:Nat→Nat) (gP88:Nat→Nat) (gP100:Nat→Nat) (qP60:Nat→List Value) (qP70:Nat→List Value) (qP100:Nat→List Value) (w:World) (r:((List TDisk)×(List TStore)×(List TLog)×Int×Int×Bool)) (h:M6 a0 A60 A70 A100=some r) (F:List Nat) (hc0:Cls w F [qe gP60 qP60 A60 [],qf gP70 gP88 gP100 qP70 A70 [],qc gP60 gP100 qP100 A100 []] w):zg Tryz.prog 6 [.int .i64 a0] F w fun u m=>∃ G60 G70 G100 Q60 Q70 Q100,Gr gP60 A60.length G60 r.1.length∧Gr gP70 A70.length G70 r.2.1.length∧Gr gP100 A100.length G100 r.2.2.1.length∧u=.tuple #[VP G60 r.2.2.2.1,VP G70 r.2.2.2.2.1,.bool r.2.2.2.2.2]∧m=[qe G60 Q60 r.1 [],qf G70 gP88 G100 Q70 r.2.1 [],qc G60 G100 Q100 r.2.2.1 []]:=by
 rw [M6] at h
 obtain ⟨g60,hg60⟩:∃ g,g=gP60:=⟨_,rfl⟩
 have hGr60:Gr g60 A60.length gP60 A60.length:=hg60 ▸ Gr.refl _ _
 obtain ⟨g70,hg70⟩:∃ g,g=gP70:=⟨_,rfl⟩
 have hGr70:Gr g70 A70.length gP70 A70.length:=hg70 ▸ Gr.refl _ _
 obtain ⟨g100,hg100⟩:∃ g,g=gP100:=⟨_,rfl⟩
 have hGr100:Gr g100 A100.length gP100 A100.length:=hg100 ▸ Gr.refl _ _
 refine body (n:=32) Tryz.func6 rfl rfl rfl hc0 (sr (L.r 3 rfl (nsr (L.r 1 rfl ?_))))
 obtain ⟨_,ck1,h⟩:=qd h
 replace ck1:=qH ck1
 obtain ⟨l2,x3,x4,e5,h⟩:=qW h
 refine L.doesP (A:=[qe gP60 qP60 A60 []]) (M:=[qf gP70 gP88 gP100 qP70 A70 [],qc gP60 gP100 qP100 A100 []]) rfl qkY rfl (fun w' hw=>W17 a0 A60 gP60 qP60 w' _ e5 _ hw.lend) ?_
 rintro _ _ ⟨gP60,q6,hg7,rfl,rfl⟩
 replace hGr60:=hGr60.trans hg7
 rw [qcQ hg7 ck1]
 refine L.to (D:=Cls w F [qe gP60 q6 l2 [],qf gP70 gP88 gP100 qP70 A70 [],qc gP60 gP100 qP100 A100 []]) hI (L.r 5 rfl (ln (W.seq (sr (L.r 1 rfl (L.ite h rfl (Y.neq rfl rfl) (fun c8 h=>?_) (fun c8 h=>?_)))))))
 ·refine L.r 4 rfl (ln (W.condT rfl (sr (L.r 3 rfl (ln (W.ret (E.thenR (E.ret3 rfl rfl rfl rfl (fun w1 hw=>?_)))))))))
  cases h
  exact ⟨_,_,rfl,⟨_,_,_,_,_,_,(hg60 ▸ hGr60),(hg70 ▸ hGr70),(hg100 ▸ hGr100),rfl,rfl⟩,hw⟩
 refine L.r 2 rfl (L.take rfl (L.ite h rfl (Y.eqlAN Tryz.underlying24 rfl rfl) (fun c9 h=>?_) (fun c9 h=>?_)))
 ·refine L.r 1 rfl (ln (W.condT rfl (sr (L.r 3 rfl (ln (W.ret (E.thenR (E.ret3 rfl rfl rfl rfl (fun w1 hw=>?_)))))))))
  cases h
  exact ⟨_,_,rfl,⟨_,_,_,_,_,_,(hg60 ▸ hGr60),(hg70 ▸ hGr70),(hg100 ▸ hGr100),rfl,rfl⟩,hw⟩
 refine L.r 1 rfl (ln (W.condF rfl (W.skip (E.thenN (sr (L.r 1 rfl ?_))))))
 obtain ⟨l10,l11,l12,x13,x14,e15,h⟩:=kc h
 refine L.doesP (A:=[qe gP60 q6 l2 [],qf gP70 gP88 gP100 qP70 A70 [],qc gP60 gP100 qP100 A100 []]) (M:=[]) rfl qhX rfl (fun w' hw=>W10 x3 l2 A70 A100 gP60 gP70 gP88 gP100 q6 qP70 qP100 w' _ e15 _ hw.lend) ?_
 rintro _ _ ⟨gP70,gP100,q16,q17,q18,hg19,hg20,rfl,rfl⟩
 replace hGr70:=hGr70.trans hg19
 replace hGr100:=hGr100.trans hg20
 obtain ⟨_,c21,h⟩:=qd h
 replace hGr60:=hGr60.len (qH c21)
 refine L.to (D:=Cls w F [qe gP60 q16 l10 [],qf gP70 gP88 gP100 q17 l11 [],qc gP60 gP100 q18 l12 []]) hI (L.r 5 rfl (nsr (L.r 3 rfl (L.ite h rfl (Y.eql rfl rfl) (fun c22 h=>?_) (fun c22 h=>?_)))))
 ·refine L.r 2 rfl (L.take rfl (L.y rfl (Y.neqAN Tryz.underlying25 rfl rfl) (L.r 4 rfl (ln (W.ret (E.ret3 rfl rfl rfl rfl (fun w1 hw=>?_)))))))
  cases h
  exact ⟨_,_,rfl,⟨_,_,_,_,_,_,(hg60 ▸ hGr60),(hg70 ▸ hGr70),(hg100 ▸ hGr100),rfl,rfl⟩,hw⟩
 refine L.r 7 rfl (ln (W.ret (E.ret3 rfl rfl rfl rfl (fun w1 hw=>?_))))
 cases h
 exact ⟨_,_,rfl,⟨_,_,_,_,_,_,(hg60 ▸ hGr60),(hg70 ▸ hGr70),(hg100 ▸ hGr100),rfl,rfl⟩,hw⟩
set_option maxRecDepth 100000 in
set_option maxHeartbeats 8000000 in
theorem W29 (a0:Int) (a1:Int) (A70:(List TStore)) (A88:(List Ttx)) (gP70:Nat→Nat) (gP88:Nat→Nat) (gP100:Nat→Nat) (qP70:Nat→List Value) (qP88:Nat→List Value) (w:World) (r:Int) (h:M29 a0 a1 A70 A88=some r) (F:List Nat) (hc0:Cls w F [qf gP70 gP88 gP100 qP70 A70 [],qj gP88 qP88 A88 []] w):zg Tryz.prog 29 [VP gP70 a0,.int .i64 a1] F w fun u m=>u=VP gP88 r∧m=[qf gP70 gP88 gP100 qP70 A70 [],qj gP88 qP88 A88 []]:=by
 rw [M29] at h
 refine body (n:=21) Tryz.func29 rfl rfl rfl hc0 ?_
 obtain ⟨th1,eth1,h⟩:=qd h
 refine W.to (D:=Cls w F [.obj (gP70 a0.toNat) (List.flatten [(zr (fzr (PR gP100)) (fun _=>[]) th1.logs_).flatten,[.int .i64 th1.half_],[.int .i64 th1.gen_],[.bool th1.down_],[.int .i64 th1.now_],(zr qi (qk (qP70 a0.toNat) 2) th1.items_).flatten,[(gv (qP70 a0.toNat) 0)],[(gv (qP70 a0.toNat) 1)]]) 70,.sl (gv (qP70 a0.toNat) 0) 84 1 (th1.active_.map (PR gP88)),.sl (gv (qP70 a0.toNat) 1) 84 1 (th1.over_.map (PR gP88)),.ss (zs sd0 (fun _=>[]) th1.logs_),.ss (zs (qq 79 2 TVersion.row) (qk (qP70 a0.toNat) 2) th1.items_),qf gP70 gP88 gP100 qP70 A70 (a0.toNat :: []),qj gP88 qP88 A88 []]) (fun _ hw=>hw.arOpen (p:=0) rfl eth1 List.not_mem_nil) (sr (L.box rfl rfl ?_))
 intro b2
 refine L.r 1 rfl (nsr (L.r 1 rfl (L.y rfl (Y.apNil rfl eth1) (L.y rfl (Y.fieldP k4 rfl) ?_))))
 obtain ⟨_,en3,h⟩:=qd h
 obtain ⟨_,en3⟩:=qh en3
 obtain ⟨_,en4,h⟩:=qd h
 obtain ⟨_,en4⟩:=qh en4
 refine L.y rfl (Y.loadG (q:=1) (si:=6) (ps:=26) (j:=0) (X:=[(gv (qP70 a0.toNat) 0)]) qgY rfl rfl rfl rfl (sl1 (a:=2) (p:=24) (zrN (nn:=2) (k:=1) (fun _ _=>rfl) en3) (sl1 (a:=1) (p:=23) rfl (sl1 (a:=1) (p:=22) rfl (sl1 (a:=1) (p:=21) rfl (sl1 (a:=1) (p:=20) rfl (sl1 (a:=20) (p:=0) (zrN (nn:=20) (k:=1) (fun _ _=>rfl) en4) sl0)))))) rfl) (L.y rfl (Y.func rfl) (L.callJ (fun v D=>∃ gx1,v=.int .i64 gx1∧D=Cls w F [qf gP70 gP88 gP100 qP70 A70 (a0.toNat :: []),qj gP88 qP88 A88 [],.obj (gP70 a0.toNat) (List.flatten [(zr (fzr (PR gP100)) (fun _=>[]) th1.logs_).flatten,[.int .i64 th1.half_],[.int .i64 th1.gen_],[.bool th1.down_],[.int .i64 th1.now_],(zr qi (qk (qP70 a0.toNat) 2) th1.items_).flatten,[(gv (qP70 a0.toNat) 0)],[(gv (qP70 a0.toNat) 1)]]) 70,.ss (zs sd0 (fun _=>[]) th1.logs_),.ss (zs (qq 79 2 TVersion.row) (qk (qP70 a0.toNat) 2) th1.items_),.sl (gv (qP70 a0.toNat) 0) 84 1 (th1.active_.map (PR gP88)),.sl (gv (qP70 a0.toNat) 1) 84 1 (th1.over_.map (PR gP88))]∧qc3 th1 gx1=some r) rfl qhU rfl Tryz.func49 rfl rfl rfl ?_ ?_))
 ·refine sr (L.r 1 rfl (ln (W.seqJ (fun gs D=>gs=[]∧D=Cls w F [qf gP70 gP88 gP100 qP70 A70 (a0.toNat :: []),qj gP88 qP88 A88 [],.obj (gP70 a0.toNat) (List.flatten [(zr (fzr (PR gP100)) (fun _=>[]) th1.logs_).flatten,[.int .i64 th1.half_],[.int .i64 th1.gen_],[.bool th1.down_],[.int .i64 th1.now_],(zr qi (qk (qP70 a0.toNat) 2) th1.items_).flatten,[(gv (qP70 a0.toNat) 0)],[(gv (qP70 a0.toNat) 1)]]) 70,.ss (zs sd0 (fun _=>[]) th1.logs_),.ss (zs (qq 79 2 TVersion.row) (qk (qP70 a0.toNat) 2) th1.items_),.sl (gv (qP70 a0.toNat) 0) 84 1 (th1.active_.map (PR gP88)),.sl (gv (qP70 a0.toNat) 1) 84 1 (th1.over_.map (PR gP88))]∧qgm th1=some r) ?_ ?_)))
  ·refine sr (L.r 1 rfl (L.y rfl (Y.lenM (g:=(PR gP88)) (l:=th1.active_) Tryz.underlying68 rfl (fun w hw=>As.at_ (hw.get (i:=2) rfl))) (L.r 1 rfl (ln (W.block (W.loopJ (fun m gs D=>∃ gx2,gs=[(0,(gv (qP70 a0.toNat) 0)),(1,.func (.func 50) #[] #[pt b2 0]),(7,.int .i64 (th1.active_.length:Int)),(8,.int .i64 gx2)]∧D=Cls w F [qf gP70 gP88 gP100 qP70 A70 (a0.toNat :: []),qj gP88 qP88 A88 [],.obj b2 [.int .i64 a1] 3,.obj (gP70 a0.toNat) (List.flatten [(zr (fzr (PR gP100)) (fun _=>[]) th1.logs_).flatten,[.int .i64 th1.half_],[.int .i64 th1.gen_],[.bool th1.down_],[.int .i64 th1.now_],(zr qi (qk (qP70 a0.toNat) 2) th1.items_).flatten,[(gv (qP70 a0.toNat) 0)],[(gv (qP70 a0.toNat) 1)]]) 70,.ss (zs sd0 (fun _=>[]) th1.logs_),.ss (zs (qq 79 2 TVersion.row) (qk (qP70 a0.toNat) 2) th1.items_),.sl (gv (qP70 a0.toNat) 0) 84 1 (th1.active_.map (PR gP88)),.sl (gv (qP70 a0.toNat) 1) 84 1 (th1.over_.map (PR gP88))]∧w9 th1 A88 a1 m gx2=some r) ⟨0,rfl,rfl,h⟩ ⟨rfl,rfl,rfl,rfl,trivial⟩ (sI [6,7,0,1,4,5,2,3]) ?_))))))
   rintro m _ _ ⟨gx2,rfl,rfl,h⟩
   rcases m with _ | m
   ·rw [w9] at h;cases h
   rw [w9] at h
   generalize hg1:w9 th1 A88 a1 m=go1 at h
   rw [qb8] at h
   refine sr (L.ite h rfl (Y.lss rfl rfl) (fun c7 h=>?_) (fun c7 h=>?_))
   ·refine ln (W.seq (W.condT rfl (W.skip (E.thenN (W.seq (W.block (sr (L.r 2 rfl (ln (W.seq ?_))))))))))
    refine W.region (L.r 3 rfl (L.m (V:=fun _=>el (gv (qP70 a0.toNat) 0) (gx2.toNat*1)) h rfl (Y.indexM (g:=(PR gP88)) (l:=th1.active_) Tryz.underlying68 yn rfl rfl (fun w hw=>As.at_ (hw.get (i:=6) rfl))) (fun x8 ex8 h=>(L.y rfl (Y.loadE1 (u:=VP gP88 x8) qdd rfl (fun w hw=>As.at_ (hw.get (i:=6) rfl)) (qx ex8)) (L.callVJ (fun v D=>∃ gb3,v=.bool gb3∧D=Cls w F [qf gP70 gP88 gP100 qP70 A70 (a0.toNat :: []),qj gP88 qP88 A88 [],.obj b2 [.int .i64 a1] 3,.obj (gP70 a0.toNat) (List.flatten [(zr (fzr (PR gP100)) (fun _=>[]) th1.logs_).flatten,[.int .i64 th1.half_],[.int .i64 th1.gen_],[.bool th1.down_],[.int .i64 th1.now_],(zr qi (qk (qP70 a0.toNat) 2) th1.items_).flatten,[(gv (qP70 a0.toNat) 0)],[(gv (qP70 a0.toNat) 1)]]) 70,.ss (zs sd0 (fun _=>[]) th1.logs_),.ss (zs (qq 79 2 TVersion.row) (qk (qP70 a0.toNat) 2) th1.items_),.sl (gv (qP70 a0.toNat) 0) 84 1 (th1.active_.map (PR gP88)),.sl (gv (qP70 a0.toNat) 1) 84 1 (th1.over_.map (PR gP88))]∧qgl th1 gx2 go1 gb3=some r) rfl qi3 rfl rfl Tryz.func50 rfl rfl rfl ?_ ?_)))))
    ·refine sr (L.r 1 rfl (ln (W.seq ?_)))
     obtain ⟨th10,eth10,h⟩:=qd h
     refine W.to (D:=Cls w F [.obj (gP88 x8.toNat) (List.flatten [[.int .i64 th10.id_],[.int .i64 th10.from_],[.int .i64 th10.at_],[(gv (qP88 x8.toNat) 0)],[(gv (qP88 x8.toNat) 1)],(zr (fzr SR) (fun _=>[]) th10.texts_).flatten,[.bool th10.in_],[.bool th10.out_]]) 88,.sl (gv (qP88 x8.toNat) 0) 3 1 (th10.reads_.map I),.sl (gv (qP88 x8.toNat) 1) 3 1 (th10.writes_.map I),.ss (zs sd0 (fun _=>[]) th10.texts_),qj gP88 qP88 A88 (x8.toNat :: []),qf gP70 gP88 gP100 qP70 A70 (a0.toNat :: []),.obj b2 [.int .i64 a1] 3,.obj (gP70 a0.toNat) (List.flatten [(zr (fzr (PR gP100)) (fun _=>[]) th1.logs_).flatten,[.int .i64 th1.half_],[.int .i64 th1.gen_],[.bool th1.down_],[.int .i64 th1.now_],(zr qi (qk (qP70 a0.toNat) 2) th1.items_).flatten,[(gv (qP70 a0.toNat) 0)],[(gv (qP70 a0.toNat) 1)]]) 70,.ss (zs sd0 (fun _=>[]) th1.logs_),.ss (zs (qq 79 2 TVersion.row) (qk (qP70 a0.toNat) 2) th1.items_),.sl (gv (qP70 a0.toNat) 0) 84 1 (th1.active_.map (PR gP88)),.sl (gv (qP70 a0.toNat) 1) 84 1 (th1.over_.map (PR gP88))]) (fun _ hw=>hw.arOpen (p:=1) rfl eth10 List.not_mem_nil) (W.quietC mixed (by kernel_rfl) (fun _ hw=>hw.drew) (fun hC=>(U.r 1 rfl (U.y rfl (Y.apNil rfl eth10) (U.y rfl (Y.fieldP qiW rfl) (U.y rfl (Y.loadG (q:=0) (si:=0) (ps:=0) (j:=0) (X:=[.int .i64 th10.id_]) ag3 rfl rfl rfl rfl sl0 rfl) (U.y rfl (Y.loadP (i:=6) ag3 rfl rfl rfl) (U.y rfl (Y.eql rfl rfl) (U.r 1 rfl (U.nil (E.thenN (W.ret (E.to (D:=Cls w F [qj gP88 qP88 A88 [],qf gP70 gP88 gP100 qP70 A70 (a0.toNat :: []),.obj b2 [.int .i64 a1] 3,.obj (gP70 a0.toNat) (List.flatten [(zr (fzr (PR gP100)) (fun _=>[]) th1.logs_).flatten,[.int .i64 th1.half_],[.int .i64 th1.gen_],[.bool th1.down_],[.int .i64 th1.now_],(zr qi (qk (qP70 a0.toNat) 2) th1.items_).flatten,[(gv (qP70 a0.toNat) 0)],[(gv (qP70 a0.toNat) 1)]]) 70,.ss (zs sd0 (fun _=>[]) th1.logs_),.ss (zs (qq 79 2 TVersion.row) (qk (qP70 a0.toNat) 2) th1.items_),.sl (gv (qP70 a0.toNat) 0) 84 1 (th1.active_.map (PR gP88)),.sl (gv (qP70 a0.toNat) 1) 84 1 (th1.over_.map (PR gP88))]) (fun _ hw=>hw.arShut (hs':=(x8.toNat :: [])) [0,1,2,3,4,5,6,7,8,9,10,11] eth10 (by decide) rfl (fun _=>List.mem_cons) List.not_mem_nil) (E.ret1 rfl rfl (fun w1 hw=>?_)))))))))))))))
     exact ⟨_,_,rfl,⟨decide (th10.id_=a1),rfl,rfl,h⟩,hw.s [1,0,2,3,4,5,6,7]⟩
    rintro _ _ ⟨gb3,rfl,rfl,h⟩
    rw [qgl] at h
    rcases gb3 with _ | _
    ·replace h:=zZ h
     exact ln (W.condF rfl (W.skip (E.blockN (E.thenN (W.region (L.m (V:=fun x9=>.int .i64 x9) h rfl (Y.addM rfl rfl) (fun x9 ex9 h=>(L.r 1 rfl (L.nil (E.aJ ⟨x9,rfl,rfl,by rw [hg1];exact h⟩ hI))))))))))
    replace h:=zY h
    refine ln (W.condT rfl (sr (L.r 2 rfl (ln (W.ret (E.blockR (E.thenR (E.KLR (E.blockR (E.KSR ?_))))))))))
    exact E.ret1 rfl rfl (fun w1 hw=>(⟨_,_,rfl,⟨gx2,rfl,rfl,h⟩,hw.s [0,1,3,4,5,6,7]⟩))
   exact ln (W.seq (W.condF rfl (W.exit (E.thenX (E.KLX (E.blockX (E.joinJ ⟨rfl,rfl,h⟩ trivial (sI [0,1,3,4,5,6,7]))))))))
  rintro _ _ ⟨rfl,rfl,h⟩
  rw [qgm] at h
  exact sr (L.r 1 rfl (ln (W.ret (E.ret1 rfl rfl (fun w1 hw=>(⟨_,_,rfl,⟨(-1),rfl,rfl,h⟩,hw⟩))))))
 rintro _ _ ⟨gx1,rfl,rfl,h⟩
 rw [qc3] at h
 refine L.r 1 rfl (ln (W.seq (sr (L.r 1 rfl (L.ite h rfl (Y.lss rfl rfl) (fun c5 h=>?_) (fun c5 h=>?_))))))
 ·refine ln (W.condT rfl (sr (L.r 1 rfl (ln (W.ret (E.thenR (E.to (D:=Cls w F [qf gP70 gP88 gP100 qP70 A70 [],qj gP88 qP88 A88 []]) (fun _ hw=>hw.arShut (hs':=(a0.toNat :: [])) [2,5,6,3,4,0,1] eth1 (by decide) rfl (fun _=>List.mem_cons) List.not_mem_nil) (E.ret1 rfl rfl (fun w1 hw=>?_)))))))))
  cases h
  exact ⟨_,_,rfl,⟨rfl,rfl⟩,hw⟩
 refine ln (W.condF rfl (W.skip (E.thenN (sr (L.r 1 rfl (L.y rfl (Y.apNil rfl eth1) (L.y rfl (Y.fieldP k4 rfl) (L.y rfl (Y.loadG (q:=2) (si:=6) (ps:=26) (j:=0) (X:=[(gv (qP70 a0.toNat) 0)]) qgY rfl rfl rfl rfl (sl1 (a:=2) (p:=24) (zrN (nn:=2) (k:=1) (fun _ _=>rfl) en3) (sl1 (a:=1) (p:=23) rfl (sl1 (a:=1) (p:=22) rfl (sl1 (a:=1) (p:=21) rfl (sl1 (a:=1) (p:=20) rfl (sl1 (a:=20) (p:=0) (zrN (nn:=20) (k:=1) (fun _ _=>rfl) en4) sl0)))))) rfl) (L.r 1 rfl (L.m (V:=fun _=>el (gv (qP70 a0.toNat) 0) (gx1.toNat*1)) h rfl (Y.indexM (g:=(PR gP88)) (l:=th1.active_) Tryz.underlying68 yn rfl rfl (fun w hw=>As.at_ (hw.get (i:=5) rfl))) (fun x6 ex6 h=>(L.y rfl (Y.loadE1 (u:=VP gP88 x6) qdd rfl (fun w hw=>As.at_ (hw.get (i:=5) rfl)) (qx ex6)) ?_))))))))))))
 refine L.r 1 rfl (ln (W.ret (E.to (D:=Cls w F [qf gP70 gP88 gP100 qP70 A70 [],qj gP88 qP88 A88 []]) (fun _ hw=>hw.arShut (hs':=(a0.toNat :: [])) [2,5,6,3,4,0,1] eth1 (by decide) rfl (fun _=>List.mem_cons) List.not_mem_nil) (E.ret1 rfl rfl (fun w1 hw=>?_)))))
 cases h
 exact ⟨_,_,rfl,⟨rfl,rfl⟩,hw⟩
set_option maxRecDepth 100000 in
set_option maxHeartbeats 8000000 in
theorem W14 (a0:Int) (a1:Int) (A70:(List TStore)) (A88:(List Ttx)) (gP70:Nat→Nat) (gP88:Nat→Nat) (gP100:Nat→Nat) (qP70:Nat→List Value) (qP88:Nat→List Value) (w:World) (r:((List TStore)×(List Ttx)×Int)) (h:M14 a0 a1 A70 A88=some r) (F:List Nat) (hc0:Cls w F [qf gP70 gP88 gP100 qP70 A70 [],qj gP88 qP88 A88 []] w):zg Tryz.prog 14 [VP gP70 a0,.int .i64 a1] F w fun u m=>∃ G88 Q70 Q88,Gr gP88 A88.length G88 r.2.1.length∧u=.int .i64 r.2.2∧m=[qf gP70 G88 gP100 Q70 r.1 [],qj G88 Q88 r.2.1 []]:=by
 rw [M14] at h
 obtain ⟨g88,hg88⟩:∃ g,g=gP88:=⟨_,rfl⟩
 have hGr88:Gr g88 A88.length gP88 A88.length:=hg88 ▸ Gr.refl _ _
 refine body (n:=38) Tryz.func14 rfl rfl rfl hc0 ?_
 obtain ⟨th1,eth1,h⟩:=qd h
 refine W.to (D:=Cls w F [.obj (gP70 a0.toNat) (List.flatten [(zr (fzr (PR gP100)) (fun _=>[]) th1.logs_).flatten,[.int .i64 th1.half_],[.int .i64 th1.gen_],[.bool th1.down_],[.int .i64 th1.now_],(zr qi (qk (qP70 a0.toNat) 2) th1.items_).flatten,[(gv (qP70 a0.toNat) 0)],[(gv (qP70 a0.toNat) 1)]]) 70,.sl (gv (qP70 a0.toNat) 0) 84 1 (th1.active_.map (PR gP88)),.sl (gv (qP70 a0.toNat) 1) 84 1 (th1.over_.map (PR gP88)),.ss (zs sd0 (fun _=>[]) th1.logs_),.ss (zs (qq 79 2 TVersion.row) (qk (qP70 a0.toNat) 2) th1.items_),qf gP70 gP88 gP100 qP70 A70 (a0.toNat :: []),qj gP88 qP88 A88 []]) (fun _ hw=>hw.arOpen (p:=0) rfl eth1 List.not_mem_nil) (sr (L.r 1 rfl (ln (W.seq (W.block (sr (L.r 1 rfl (L.y rfl (Y.apNil rfl eth1) (L.y rfl (Y.fieldP vQ rfl) ?_)))))))))
 obtain ⟨_,en2,h⟩:=qd h
 obtain ⟨_,en2⟩:=qh en2
 refine L.iteB h rfl (Y.loadG (q:=0) (si:=3) (ps:=4) (j:=0) (X:=[.bool th1.down_]) ag4 rfl rfl rfl rfl (sl1 (a:=2) (p:=2) (zrN (nn:=2) (k:=1) (fun _ _=>rfl) en2) (sl1 (a:=1) (p:=1) rfl (sl1 (a:=1) (p:=0) rfl sl0))) rfl) (fun c3 h=>?_) (fun c3 h=>?_)
 ·refine L.r 1 rfl (ln (W.condT rfl (sr (L.r 1 rfl (ln (W.ret (E.blockR (E.thenR (E.to (D:=Cls w F [qf gP70 gP88 gP100 qP70 A70 [],qj gP88 qP88 A88 []]) (fun _ hw=>hw.arShut (hs':=(a0.toNat :: [])) [0,1,2,3,4,5,6] eth1 (by decide) rfl (fun _=>List.mem_cons) List.not_mem_nil) (E.ret1 rfl rfl (fun w1 hw=>?_)))))))))))
  cases h
  exact ⟨_,_,rfl,⟨_,_,_,(hg88 ▸ hGr88),rfl,rfl⟩,hw⟩
 refine L.r 1 rfl (ln (W.condF rfl (sr (L.cutJ 6 (fun gs D=>∃ gb1,gs=[(0,VP gP70 a0),(1,.int .i64 a1),(16,.bool gb1)]∧D=Cls w F [qf gP70 gP88 gP100 qP70 A70 (a0.toNat :: []),qj gP88 qP88 A88 [],.obj (gP70 a0.toNat) (List.flatten [(zr (fzr (PR gP100)) (fun _=>[]) th1.logs_).flatten,[.int .i64 th1.half_],[.int .i64 th1.gen_],[.bool th1.down_],[.int .i64 th1.now_],(zr qi (qk (qP70 a0.toNat) 2) th1.items_).flatten,[(gv (qP70 a0.toNat) 0)],[(gv (qP70 a0.toNat) 1)]]) 70,.ss (zs sd0 (fun _=>[]) th1.logs_),.ss (zs (qq 79 2 TVersion.row) (qk (qP70 a0.toNat) 2) th1.items_),.sl (gv (qP70 a0.toNat) 0) 84 1 (th1.active_.map (PR gP88)),.sl (gv (qP70 a0.toNat) 1) 84 1 (th1.over_.map (PR gP88))]∧qak A70 A88 a0 a1 gb1=some r) ?_ ?_))))
 ·refine L.r 1 rfl (L.ite h rfl (Y.lss rfl rfl) (fun c79 h=>?_) (fun c79 h=>?_))
  ·exact L.r 4 rfl (L.nil (E.jJ ⟨true,rfl,rfl,h⟩ (sI [5,6,0,3,4,1,2])))
  refine L.r 2 rfl (L.take rfl (L.ite h rfl (Y.geq rfl rfl) (fun c80 h=>?_) (fun c80 h=>?_)))
  ·exact L.r 1 rfl (L.nil (E.jJ ⟨true,rfl,rfl,h⟩ (sI [5,6,0,3,4,1,2])))
  exact L.r 1 rfl (L.nil (E.jJ ⟨false,rfl,rfl,h⟩ (sI [5,6,0,3,4,1,2])))
 rintro _ _ ⟨gb1,rfl,rfl,h⟩
 rw [qak] at h
 rcases gb1 with _ | _
 ·replace h:=zZ h
  refine L.r 1 rfl (ln (W.condF rfl (sr (L.r 2 rfl (L.to (D:=Cls w F [qf gP70 gP88 gP100 qP70 A70 [],qj gP88 qP88 A88 []]) (fun _ hw=>hw.arShut (hs':=(a0.toNat :: [])) [2,5,6,3,4,0,1] eth1 (by decide) rfl (fun _=>List.mem_cons) List.not_mem_nil) ?_)))))
  obtain ⟨x4,e5,h⟩:=qd h
  refine L.doesP (A:=[qf gP70 gP88 gP100 qP70 A70 [],qj gP88 qP88 A88 []]) (M:=[]) rfl qki rfl (fun w' hw=>W29 a0 a1 A70 A88 gP70 gP88 gP100 qP70 qP88 w' _ e5 _ hw.lend) ?_
  rintro _ _ ⟨rfl,rfl⟩
  refine L.to (D:=Cls w F [qf gP70 gP88 gP100 qP70 A70 [],qj gP88 qP88 A88 []]) hI ?_
  obtain ⟨th6,eth6,h⟩:=qd h
  refine L.to (D:=Cls w F [.obj (gP70 a0.toNat) (List.flatten [(zr (fzr (PR gP100)) (fun _=>[]) th6.logs_).flatten,[.int .i64 th6.half_],[.int .i64 th6.gen_],[.bool th6.down_],[.int .i64 th6.now_],(zr qi (qk (qP70 a0.toNat) 2) th6.items_).flatten,[(gv (qP70 a0.toNat) 0)],[(gv (qP70 a0.toNat) 1)]]) 70,.sl (gv (qP70 a0.toNat) 0) 84 1 (th6.active_.map (PR gP88)),.sl (gv (qP70 a0.toNat) 1) 84 1 (th6.over_.map (PR gP88)),.ss (zs sd0 (fun _=>[]) th6.logs_),.ss (zs (qq 79 2 TVersion.row) (qk (qP70 a0.toNat) 2) th6.items_),qf gP70 gP88 gP100 qP70 A70 (a0.toNat :: []),qj gP88 qP88 A88 []]) (fun _ hw=>hw.arOpen (p:=0) rfl eth6 List.not_mem_nil) (L.ite h rfl (Y.neqAN Tryz.underlying84 rfl rfl) (fun c7 h=>?_) (fun c7 h=>?_))
  ·refine L.r 1 rfl (ln (W.condT rfl (sr (L.r 1 rfl (ln (W.ret (E.blockR (E.thenR (E.to (D:=Cls w F [qf gP70 gP88 gP100 qP70 A70 [],qj gP88 qP88 A88 []]) (fun _ hw=>hw.arShut (hs':=(a0.toNat :: [])) [0,1,2,3,4,5,6] eth6 (by decide) rfl (fun _=>List.mem_cons) List.not_mem_nil) (E.ret1 rfl rfl (fun w1 hw=>?_)))))))))))
   cases h
   exact ⟨_,_,rfl,⟨_,_,_,(hg88 ▸ hGr88),rfl,rfl⟩,hw⟩
  refine L.r 1 rfl (ln (W.condF rfl (W.skip (E.blockN (E.thenN (W.seq (W.drawn2 (k:=17) (stC [[12,13,16],[13,16],[16]] [Cls w F [.obj (gP70 a0.toNat) (List.flatten [(zr (fzr (PR gP100)) (fun _=>[]) th6.logs_).flatten,[.int .i64 th6.half_],[.int .i64 th6.gen_],[.bool th6.down_],[.int .i64 th6.now_],(zr qi (qk (qP70 a0.toNat) 2) th6.items_).flatten,[(gv (qP70 a0.toNat) 0)],[(gv (qP70 a0.toNat) 1)]]) 70,.sl (gv (qP70 a0.toNat) 0) 84 1 (th6.active_.map (PR gP88)),.sl (gv (qP70 a0.toNat) 1) 84 1 (th6.over_.map (PR gP88)),.ss (zs sd0 (fun _=>[]) th6.logs_),.ss (zs (qq 79 2 TVersion.row) (qk (qP70 a0.toNat) 2) th6.items_),qf gP70 gP88 gP100 qP70 A70 (a0.toNat :: []),qj gP88 qP88 A88 []],Cls w F [.obj (gP70 a0.toNat) (List.flatten [(zr (fzr (PR gP100)) (fun _=>[]) th6.logs_).flatten,[.int .i64 th6.half_],[.int .i64 th6.gen_],[.bool th6.down_],[.int .i64 th6.now_],(zr qi (qk (qP70 a0.toNat) 2) th6.items_).flatten,[(gv (qP70 a0.toNat) 0)],[(gv (qP70 a0.toNat) 1)]]) 70,.sl (gv (qP70 a0.toNat) 0) 84 1 (th6.active_.map (PR gP88)),.sl (gv (qP70 a0.toNat) 1) 84 1 (th6.over_.map (PR gP88)),.ss (zs sd0 (fun _=>[]) th6.logs_),.ss (zs (qq 79 2 TVersion.row) (qk (qP70 a0.toNat) 2) th6.items_),qf gP70 gP88 gP100 qP70 A70 (a0.toNat :: [])],Cls w F [.obj (gP70 a0.toNat) (List.flatten [(zr (fzr (PR gP100)) (fun _=>[]) th6.logs_).flatten,[.int .i64 th6.half_],[.int .i64 th6.gen_],[.bool th6.down_],[.int .i64 th6.now_],(zr qi (qk (qP70 a0.toNat) 2) th6.items_).flatten,[(gv (qP70 a0.toNat) 0)],[(gv (qP70 a0.toNat) 1)]]) 70,.sl (gv (qP70 a0.toNat) 1) 84 1 (th6.over_.map (PR gP88)),.ss (zs sd0 (fun _=>[]) th6.logs_),.ss (zs (qq 79 2 TVersion.row) (qk (qP70 a0.toNat) 2) th6.items_),qf gP70 gP88 gP100 qP70 A70 (a0.toNat :: [])]] (Cls w F [.sl (gv (qP70 a0.toNat) 1) 84 1 (th6.over_.map (PR gP88)),.ss (zs sd0 (fun _=>[]) th6.logs_),.ss (zs (qq 79 2 TVersion.row) (qk (qP70 a0.toNat) 2) th6.items_),qf gP70 gP88 gP100 qP70 A70 (a0.toNat :: [])])) rfl mixed (fun _ hw=>hw.drew) (Sc.now (by kernel_rfl) hI) (V2.zz [] (Zc.on' (Zc.on' (Zc.on' (Zc.fin hI) (sI [1,2,3,4])) (sI [2,3,4,5])) (sI [2,3,4,5])) (fun hz61=>(V2.r [0,1] (by kernel_rfl) rfl (V2.apNil (i:=2) (Nx2.of [] (by kernel_rfl) rfl hz61) rfl rfl rfl eth6 (V2.q 3 [] hz61 rfl rfl (Y.fieldP k4 rfl) (V2.zz [16] (Zc.on' (Zc.on' (Zc.at1 hI) (sI [0,2,3,4,5])) (sI [0,2,3,4,5])) (fun hz62=>?_))))))))))))))
  obtain ⟨_,en63,h⟩:=qd h
  obtain ⟨_,en63⟩:=qh en63
  obtain ⟨_,en64,h⟩:=qd h
  obtain ⟨_,en64⟩:=qh en64
  refine V2.q 4 [16] hz62 rfl rfl (Y.loadG (q:=0) (si:=6) (ps:=26) (j:=0) (X:=[(gv (qP70 a0.toNat) 0)]) qgY rfl rfl rfl rfl (sl1 (a:=2) (p:=24) (zrN (nn:=2) (k:=1) (fun _ _=>rfl) en63) (sl1 (a:=1) (p:=23) rfl (sl1 (a:=1) (p:=22) rfl (sl1 (a:=1) (p:=21) rfl (sl1 (a:=1) (p:=20) rfl (sl1 (a:=20) (p:=0) (zrN (nn:=20) (k:=1) (fun _ _=>rfl) en64) sl0)))))) rfl) (V2.r [5,6] (by kernel_rfl) rfl (V2.apNil (i:=7) (Nx2.of [] (by kernel_rfl) rfl hz61) rfl rfl rfl eth6 (V2.q 8 [] hz61 rfl rfl (Y.fieldP va rfl) (V2.q 9 [16] hz62 rfl rfl (Y.loadG (q:=0) (si:=4) (ps:=5) (j:=0) (X:=[.int .i64 th6.now_]) ag3 rfl rfl rfl rfl (sl1 (a:=2) (p:=3) (zrN (nn:=2) (k:=1) (fun _ _=>rfl) en63) (sl1 (a:=1) (p:=2) rfl (sl1 (a:=1) (p:=1) rfl (sl1 (a:=1) (p:=0) rfl sl0)))) rfl) (V2.q 10 [] hz61 rfl rfl (Y.build (cells:=#[.int .i64 a1,.int .i64 th6.now_,.int .i64 0,.slice none 0 0,.slice none 0 0,st [],st [],st [],st [],st [],st [],st [],st [],st [],st [],st [],st [],st [],st [],st [],st [],st [],st [],st [],st [],.bool false,.bool false]) rfl (by kernel_rfl)) (V2.eff (i:=11) (by kernel_rfl) rfl (L.box rfl rfl ?_)))))))
  intro b65
  refine L.toSeg (S:=[[.int .i64 a1],[.int .i64 th6.now_],[.int .i64 0],[.slice none 0 0],[.slice none 0 0],(zr (fzr SR) (fun _=>[]) (List.replicate 20 ([]:(List UInt8)))).flatten,[.bool false],[.bool false]]) rfl (L.ssNil (sds:=sd0) (vs:=(fun _=>[])) (xs:=(List.replicate 20 ([]:(List UInt8)))) (zd xZ _) (L.nil (E.toV2 (stC [[12,13,16],[13,16],[16]] [Cls w F [.ss (zs sd0 (fun _=>[]) (List.replicate 20 ([]:(List UInt8)))),.obj b65 (List.flatten [[.int .i64 a1],[.int .i64 th6.now_],[.int .i64 0],[.slice none 0 0],[.slice none 0 0],(zr (fzr SR) (fun _=>[]) (List.replicate 20 ([]:(List UInt8)))).flatten,[.bool false],[.bool false]]) 88,.obj (gP70 a0.toNat) (List.flatten [(zr (fzr (PR gP100)) (fun _=>[]) th6.logs_).flatten,[.int .i64 th6.half_],[.int .i64 th6.gen_],[.bool th6.down_],[.int .i64 th6.now_],(zr qi (qk (qP70 a0.toNat) 2) th6.items_).flatten,[(gv (qP70 a0.toNat) 0)],[(gv (qP70 a0.toNat) 1)]]) 70,.sl (gv (qP70 a0.toNat) 0) 84 1 (th6.active_.map (PR gP88)),.sl (gv (qP70 a0.toNat) 1) 84 1 (th6.over_.map (PR gP88)),.ss (zs sd0 (fun _=>[]) th6.logs_),.ss (zs (qq 79 2 TVersion.row) (qk (qP70 a0.toNat) 2) th6.items_),qf gP70 gP88 gP100 qP70 A70 (a0.toNat :: []),qj gP88 qP88 A88 []],Cls w F [.obj (gP70 a0.toNat) (List.flatten [(zr (fzr (PR gP100)) (fun _=>[]) th6.logs_).flatten,[.int .i64 th6.half_],[.int .i64 th6.gen_],[.bool th6.down_],[.int .i64 th6.now_],(zr qi (qk (qP70 a0.toNat) 2) th6.items_).flatten,[(gv (qP70 a0.toNat) 0)],[(gv (qP70 a0.toNat) 1)]]) 70,.sl (gv (qP70 a0.toNat) 0) 84 1 (th6.active_.map (PR gP88)),.sl (gv (qP70 a0.toNat) 1) 84 1 (th6.over_.map (PR gP88)),.ss (zs sd0 (fun _=>[]) th6.logs_),.ss (zs (qq 79 2 TVersion.row) (qk (qP70 a0.toNat) 2) th6.items_),qf gP70 gP88 gP100 qP70 A70 (a0.toNat :: [])],Cls w F [.obj (gP70 a0.toNat) (List.flatten [(zr (fzr (PR gP100)) (fun _=>[]) th6.logs_).flatten,[.int .i64 th6.half_],[.int .i64 th6.gen_],[.bool th6.down_],[.int .i64 th6.now_],(zr qi (qk (qP70 a0.toNat) 2) th6.items_).flatten,[(gv (qP70 a0.toNat) 0)],[(gv (qP70 a0.toNat) 1)]]) 70,.sl (gv (qP70 a0.toNat) 1) 84 1 (th6.over_.map (PR gP88)),.ss (zs sd0 (fun _=>[]) th6.logs_),.ss (zs (qq 79 2 TVersion.row) (qk (qP70 a0.toNat) 2) th6.items_),qf gP70 gP88 gP100 qP70 A70 (a0.toNat :: [])]] (Cls w F [.sl (gv (qP70 a0.toNat) 1) 84 1 (th6.over_.map (PR gP88)),.ss (zs sd0 (fun _=>[]) th6.logs_),.ss (zs (qq 79 2 TVersion.row) (qk (qP70 a0.toNat) 2) th6.items_),qf gP70 gP88 gP100 qP70 A70 (a0.toNat :: [])])) 11 (by kernel_rfl) (Sc.stay (sI [2,3,4,5,6,7,8]) (Sc.stay hI (Sc.stay hI (Sc.stayD hI)))) (Sc.now (by kernel_rfl) hI) (V2.eff (i:=12) (by kernel_rfl) rfl (L.nilSl 3 1 (L.nilSl 3 1 ?_))))))
  obtain ⟨_,ck66,h⟩:=qd h
  replace ck66:=qH ck66
  obtain ⟨ck66_0,ck66_1,ck66_2⟩:=ck66
  refine L.arNew (rowg:=fun g=>Ttx.rowA) (subg:=fun g=>Ttx.subA) (e:=88) (g:=gP88) (gh:=qP88) (l:=A88) (hs:=[]) (b:=b65) (u1:=(⟨a1,th6.now_,0,[],[],(List.replicate 20 ([]:(List UInt8))),false,false⟩:Ttx)) (vs':=([(.slice none 0 0),(.slice none 0 0)])) (m':=[.obj (gP70 a0.toNat) (List.flatten [(zr (fzr (PR gP100)) (fun _=>[]) th6.logs_).flatten,[.int .i64 th6.half_],[.int .i64 th6.gen_],[.bool th6.down_],[.int .i64 th6.now_],(zr qi (qk (qP70 a0.toNat) 2) th6.items_).flatten,[(gv (qP70 a0.toNat) 0)],[(gv (qP70 a0.toNat) 1)]]) 70,.sl (gv (qP70 a0.toNat) 0) 84 1 (th6.active_.map (PR gP88)),.sl (gv (qP70 a0.toNat) 1) 84 1 (th6.over_.map (PR gP88)),.ss (zs sd0 (fun _=>[]) th6.logs_),.ss (zs (qq 79 2 TVersion.row) (qk (qP70 a0.toNat) 2) th6.items_),qf gP70 gP88 gP100 qP70 A70 (a0.toNat :: [])]) [3,1,0,2,10,4,5,6,7,8,9] h (by decide) rfl (fun _ h=>nomatch h) (fun _ _ _ _ _=>⟨rfl,rfl⟩) ?_
  intro gP88 q67 x68 l69 h hg70 hv71 hi72
  rw [hv71]
  replace hGr88:=hGr88.trans hg70
  rw [qeF hg70 ck66_0]
  rw [qf5 hg70 ck66_1]
  rw [qf5 hg70 ck66_2]
  refine L.to (D:=Cls w F [qj gP88 q67 l69 [],.obj (gP70 a0.toNat) (List.flatten [(zr (fzr (PR gP100)) (fun _=>[]) th6.logs_).flatten,[.int .i64 th6.half_],[.int .i64 th6.gen_],[.bool th6.down_],[.int .i64 th6.now_],(zr qi (qk (qP70 a0.toNat) 2) th6.items_).flatten,[(gv (qP70 a0.toNat) 0)],[(gv (qP70 a0.toNat) 1)]]) 70,.sl (gv (qP70 a0.toNat) 0) 84 1 (th6.active_.map (PR gP88)),.sl (gv (qP70 a0.toNat) 1) 84 1 (th6.over_.map (PR gP88)),.ss (zs sd0 (fun _=>[]) th6.logs_),.ss (zs (qq 79 2 TVersion.row) (qk (qP70 a0.toNat) 2) th6.items_),qf gP70 gP88 gP100 qP70 A70 (a0.toNat :: [])]) hI (L.litOne rfl Tryz.underlying68 qe5 rfl (zG _ _) ?_)
  intro b73
  refine L.nil (E.toV2 (stC [[13,16],[16]] [Cls w F [.sl (sv b73 1) 84 1 (([x68]).map (PR gP88)),.obj (gP70 a0.toNat) (List.flatten [(zr (fzr (PR gP100)) (fun _=>[]) th6.logs_).flatten,[.int .i64 th6.half_],[.int .i64 th6.gen_],[.bool th6.down_],[.int .i64 th6.now_],(zr qi (qk (qP70 a0.toNat) 2) th6.items_).flatten,[(gv (qP70 a0.toNat) 0)],[(gv (qP70 a0.toNat) 1)]]) 70,.sl (gv (qP70 a0.toNat) 0) 84 1 (th6.active_.map (PR gP88)),.sl (gv (qP70 a0.toNat) 1) 84 1 (th6.over_.map (PR gP88)),.ss (zs sd0 (fun _=>[]) th6.logs_),.ss (zs (qq 79 2 TVersion.row) (qk (qP70 a0.toNat) 2) th6.items_),qf gP70 gP88 gP100 qP70 A70 (a0.toNat :: [])],Cls w F [.sl (sv b73 1) 84 1 (([x68]).map (PR gP88)),.obj (gP70 a0.toNat) (List.flatten [(zr (fzr (PR gP100)) (fun _=>[]) th6.logs_).flatten,[.int .i64 th6.half_],[.int .i64 th6.gen_],[.bool th6.down_],[.int .i64 th6.now_],(zr qi (qk (qP70 a0.toNat) 2) th6.items_).flatten,[(gv (qP70 a0.toNat) 0)],[(gv (qP70 a0.toNat) 1)]]) 70,.sl (gv (qP70 a0.toNat) 1) 84 1 (th6.over_.map (PR gP88)),.ss (zs sd0 (fun _=>[]) th6.logs_),.ss (zs (qq 79 2 TVersion.row) (qk (qP70 a0.toNat) 2) th6.items_),qf gP70 gP88 gP100 qP70 A70 (a0.toNat :: [])]] (Cls w F [.sl (sv b73 1) 84 1 (([x68]).map (PR gP88)),.sl (gv (qP70 a0.toNat) 1) 84 1 (th6.over_.map (PR gP88)),.ss (zs sd0 (fun _=>[]) th6.logs_),.ss (zs (qq 79 2 TVersion.row) (qk (qP70 a0.toNat) 2) th6.items_),qf gP70 gP88 gP100 qP70 A70 (a0.toNat :: [])])) 12 (by kernel_rfl) (Sc.past rfl (Sc.stay (sI [1,2,3,4,5,6]) (Sc.stay (sI [1,2,3,4,5]) (Sc.stayD (sI [1,2,3,4]))))) (Sc.now (by kernel_rfl) (sI [0,2,3,4,5,6,7])) (V2.eff (i:=13) (by kernel_rfl) rfl (L.appM (i:=3) (g:=(PR gP88)) (l:=th6.active_) (more:=[x68]) h rfl Tryz.underlying68 qe5 rfl rfl rfl (fun w hw=>As.at_ (hw.get (i:=0) rfl)) (jG _) rfl ?_)))
  intro v74 l75 el75 h
  refine L.nil (E.toV2 (stC [[16]] [Cls w F [.sl v74 84 1 (l75.map (PR gP88)),.sl (sv b73 1) 84 1 (([x68]).map (PR gP88)),.obj (gP70 a0.toNat) (List.flatten [(zr (fzr (PR gP100)) (fun _=>[]) th6.logs_).flatten,[.int .i64 th6.half_],[.int .i64 th6.gen_],[.bool th6.down_],[.int .i64 th6.now_],(zr qi (qk (qP70 a0.toNat) 2) th6.items_).flatten,[(gv (qP70 a0.toNat) 0)],[(gv (qP70 a0.toNat) 1)]]) 70,.sl (gv (qP70 a0.toNat) 1) 84 1 (th6.over_.map (PR gP88)),.ss (zs sd0 (fun _=>[]) th6.logs_),.ss (zs (qq 79 2 TVersion.row) (qk (qP70 a0.toNat) 2) th6.items_),qf gP70 gP88 gP100 qP70 A70 (a0.toNat :: [])]] (Cls w F [.sl v74 84 1 (l75.map (PR gP88)),.sl (sv b73 1) 84 1 (([x68]).map (PR gP88)),.sl (gv (qP70 a0.toNat) 1) 84 1 (th6.over_.map (PR gP88)),.ss (zs sd0 (fun _=>[]) th6.logs_),.ss (zs (qq 79 2 TVersion.row) (qk (qP70 a0.toNat) 2) th6.items_),qf gP70 gP88 gP100 qP70 A70 (a0.toNat :: [])])) 13 (by kernel_rfl) (Sc.past rfl (Sc.stay (sI [1,2,3,4,5,6]) (Sc.stayD (sI [1,2,3,4,5])))) (Sc.now (by kernel_rfl) (sI [0,1,3,4,5,6,7])) (V2.zz [] (Zc.on' (Zc.fin hI) (sI [0,1,3,4,5,6])) (fun hz76=>(V2.apNil (i:=14) (Nx2.of [] (by kernel_rfl) rfl hz76) rfl rfl rfl eth6 (V2.q 15 [] hz76 rfl rfl (Y.fieldP k4 rfl) (V2.eff (i:=16) (by kernel_rfl) rfl (L.storeGV (q:=3) (si:=6) (ps:=26) (j:=0) (X:=[(gv (qP70 a0.toNat) 0)]) qjk rfl rfl rfl (fun _ hw=>(As.at_ (hw.get (i:=0) rfl)).one) rfl rfl (sl1 (a:=2) (p:=24) (zrN (nn:=2) (k:=1) (fun _ _=>rfl) en63) (sl1 (a:=1) (p:=23) rfl (sl1 (a:=1) (p:=22) rfl (sl1 (a:=1) (p:=21) rfl (sl1 (a:=1) (p:=20) rfl (sl1 (a:=20) (p:=0) (zrN (nn:=20) (k:=1) (fun _ _=>rfl) en64) sl0)))))) rfl (L.nil (E.toV2 (stC [] [] (Cls w F [.sl v74 84 1 (l75.map (PR gP88)),.sl (sv b73 1) 84 1 (([x68]).map (PR gP88)),.sl (gv (qP70 a0.toNat) 1) 84 1 (th6.over_.map (PR gP88)),.ss (zs sd0 (fun _=>[]) th6.logs_),.ss (zs (qq 79 2 TVersion.row) (qk (qP70 a0.toNat) 2) th6.items_),qf gP70 gP88 gP100 qP70 A70 (a0.toNat :: [])])) 16 (by kernel_rfl) (Sc.past rfl (Sc.stayD hI)) (Sc.atD (sI [0,1,4,5,6,7])) (V2.done (by kernel_rfl) (E.thenN (sr (L.r 1 rfl ?_)))))))))))))
  refine ln (W.ret (E.to (D:=Cls w F [.sl v74 84 1 (l75.map (PR gP88)),.sl (sv b73 1) 84 1 (([x68]).map (PR gP88)),qj gP88 q67 l69 [],.obj (gP70 a0.toNat) (List.flatten [(zr (fzr (PR gP100)) (fun _=>[]) th6.logs_).flatten,[.int .i64 th6.half_],[.int .i64 th6.gen_],[.bool th6.down_],[.int .i64 th6.now_],(zr qi (qk ([v74,(gv (qP70 a0.toNat) 1)]++ghl (qk (qP70 a0.toNat) 2) th6.items_.length) 2) th6.items_).flatten,[v74],[(gv (qP70 a0.toNat) 1)]]) 70,.sl (gv (qP70 a0.toNat) 1) 84 1 (th6.over_.map (PR gP88)),.ss (zs sd0 (fun _=>[]) th6.logs_),.ss (zs (qq 79 2 TVersion.row) (qk ([v74,(gv (qP70 a0.toNat) 1)]++ghl (qk (qP70 a0.toNat) 2) th6.items_.length) 2) th6.items_),qf gP70 gP88 gP100 qP70 A70 (a0.toNat :: [])]) (fun _ hw=>by rw [zK [v74,(gv (qP70 a0.toNat) 1)] _ 2 _ rfl,zJ [v74,(gv (qP70 a0.toNat) 1)] _ 2 _ rfl];exact hw) ?_))
  obtain ⟨l78,el78,h⟩:=qd h
  refine E.arClose (row:=TStore.rowA gP88 gP100) (sub:=TStore.subA gP88 gP100) (e:=70) (g:=gP70) (gh:=qP70) (vs':=([v74,(gv (qP70 a0.toNat) 1)]++ghl (qk (qP70 a0.toNat) 2) th6.items_.length)) (hs:=[]) (hs':=(a0.toNat :: [])) (m':=[.sl (sv b73 1) 84 1 (([x68]).map (PR gP88)),qj gP88 q67 l69 []]) [3,0,4,5,6,7,1,2] el78 (by decide) rfl (fun _=>List.mem_cons) List.not_mem_nil ?_
  intro q77
  refine E.to (D:=Cls w F [qf gP70 gP88 gP100 q77 l78 [],.sl (sv b73 1) 84 1 (([x68]).map (PR gP88)),qj gP88 q67 l69 []]) hI (E.ret1 rfl rfl (fun w1 hw=>?_))
  cases h
  exact ⟨_,_,rfl,⟨_,_,_,(hg88 ▸ hGr88),rfl,rfl⟩,hw.s [0,2]⟩
 replace h:=zY h
 refine L.r 1 rfl (ln (W.condT rfl (sr (L.r 1 rfl (ln (W.ret (E.blockR (E.thenR (E.to (D:=Cls w F [qf gP70 gP88 gP100 qP70 A70 [],qj gP88 qP88 A88 []]) (fun _ hw=>hw.arShut (hs':=(a0.toNat :: [])) [2,5,6,3,4,0,1] eth1 (by decide) rfl (fun _=>List.mem_cons) List.not_mem_nil) (E.ret1 rfl rfl (fun w1 hw=>?_)))))))))))
 cases h
 exact ⟨_,_,rfl,⟨_,_,_,(hg88 ▸ hGr88),rfl,rfl⟩,hw⟩
set_option maxRecDepth 100000 in
set_option maxHeartbeats 8000000 in
theorem W30 (a0:Int) (a1:Int) (a2:Int) (A70:(List TStore)) (A88:(List Ttx)) (gP70:Nat→Nat) (gP88:Nat→Nat) (gP100:Nat→Nat) (qP70:Nat→List Value) (qP88:Nat→List Value) (w:World) (r:(Int×Int)) (h:M30 a0 a1 a2 A70 A88=some r) (F:List Nat) (hc0:Cls w F [qf gP70 gP88 gP100 qP70 A70 [],qj gP88 qP88 A88 []] w):zg Tryz.prog 30 [VP gP70 a0,.int .i64 a1,.int .i64 a2] F w fun u m=>u=.tuple #[VP gP88 r.1,.int .i64 r.2]∧m=[qf gP70 gP88 gP100 qP70 A70 [],qj gP88 qP88 A88 []]:=by
 rw [M30] at h
 refine body (n:=33) Tryz.func30 rfl rfl rfl hc0 ?_
 obtain ⟨th1,eth1,h⟩:=qd h
 refine W.to (D:=Cls w F [.obj (gP70 a0.toNat) (List.flatten [(zr (fzr (PR gP100)) (fun _=>[]) th1.logs_).flatten,[.int .i64 th1.half_],[.int .i64 th1.gen_],[.bool th1.down_],[.int .i64 th1.now_],(zr qi (qk (qP70 a0.toNat) 2) th1.items_).flatten,[(gv (qP70 a0.toNat) 0)],[(gv (qP70 a0.toNat) 1)]]) 70,.sl (gv (qP70 a0.toNat) 0) 84 1 (th1.active_.map (PR gP88)),.sl (gv (qP70 a0.toNat) 1) 84 1 (th1.over_.map (PR gP88)),.ss (zs sd0 (fun _=>[]) th1.logs_),.ss (zs (qq 79 2 TVersion.row) (qk (qP70 a0.toNat) 2) th1.items_),qf gP70 gP88 gP100 qP70 A70 (a0.toNat :: []),qj gP88 qP88 A88 []]) (fun _ hw=>hw.arOpen (p:=0) rfl eth1 List.not_mem_nil) (sr (L.r 2 rfl (ln (W.seq (sr (L.r 1 rfl (L.y rfl (Y.apNil rfl eth1) (L.y rfl (Y.fieldP vQ rfl) ?_))))))))
 obtain ⟨_,en2,h⟩:=qd h
 obtain ⟨_,en2⟩:=qh en2
 refine L.iteB h rfl (Y.loadG (q:=0) (si:=3) (ps:=4) (j:=0) (X:=[.bool th1.down_]) ag4 rfl rfl rfl rfl (sl1 (a:=2) (p:=2) (zrN (nn:=2) (k:=1) (fun _ _=>rfl) en2) (sl1 (a:=1) (p:=1) rfl (sl1 (a:=1) (p:=0) rfl sl0))) rfl) (fun c3 h=>?_) (fun c3 h=>?_)
 ·refine ln (W.condT rfl (sr (L.r 2 rfl (ln (W.ret (E.thenR (E.to (D:=Cls w F [qf gP70 gP88 gP100 qP70 A70 [],qj gP88 qP88 A88 []]) (fun _ hw=>hw.arShut (hs':=(a0.toNat :: [])) [0,1,2,3,4,5,6] eth1 (by decide) rfl (fun _=>List.mem_cons) List.not_mem_nil) (E.ret2 rfl rfl rfl (fun w1 hw=>?_)))))))))
  cases h
  exact ⟨_,_,rfl,⟨rfl,rfl⟩,hw⟩
 refine ln (W.condF rfl (W.skip (E.thenN (W.seq (sr (L.cutJ 6 (fun gs D=>∃ gb1,gs=[(0,VP gP70 a0),(1,.int .i64 a1),(2,.int .i64 a2),(18,.bool gb1)]∧D=Cls w F [qf gP70 gP88 gP100 qP70 A70 (a0.toNat :: []),qj gP88 qP88 A88 [],.obj (gP70 a0.toNat) (List.flatten [(zr (fzr (PR gP100)) (fun _=>[]) th1.logs_).flatten,[.int .i64 th1.half_],[.int .i64 th1.gen_],[.bool th1.down_],[.int .i64 th1.now_],(zr qi (qk (qP70 a0.toNat) 2) th1.items_).flatten,[(gv (qP70 a0.toNat) 0)],[(gv (qP70 a0.toNat) 1)]]) 70,.ss (zs sd0 (fun _=>[]) th1.logs_),.ss (zs (qq 79 2 TVersion.row) (qk (qP70 a0.toNat) 2) th1.items_),.sl (gv (qP70 a0.toNat) 0) 84 1 (th1.active_.map (PR gP88)),.sl (gv (qP70 a0.toNat) 1) 84 1 (th1.over_.map (PR gP88))]∧qah a2 a0 a1 A70 A88 gb1=some r) ?_ ?_))))))
 ·refine L.r 1 rfl (L.ite h rfl (Y.lss rfl rfl) (fun c10 h=>?_) (fun c10 h=>?_))
  ·exact L.r 4 rfl (L.nil (E.jJ ⟨true,rfl,rfl,h⟩ (sI [5,6,0,3,4,1,2])))
  refine L.r 2 rfl (L.take rfl (L.ite h rfl (Y.geq rfl rfl) (fun c11 h=>?_) (fun c11 h=>?_)))
  ·exact L.r 1 rfl (L.nil (E.jJ ⟨true,rfl,rfl,h⟩ (sI [5,6,0,3,4,1,2])))
  exact L.r 1 rfl (L.nil (E.jJ ⟨false,rfl,rfl,h⟩ (sI [5,6,0,3,4,1,2])))
 rintro _ _ ⟨gb1,rfl,rfl,h⟩
 rw [qah] at h
 rcases gb1 with _ | _
 ·replace h:=zZ h
  refine L.r 2 rfl (L.take rfl (L.ite h rfl (Y.lss rfl rfl) (fun c4 h=>?_) (fun c4 h=>?_)))
  ·refine L.r 5 rfl (ln (W.condT rfl (sr (L.r 2 rfl (ln (W.ret (E.thenR (E.to (D:=Cls w F [qf gP70 gP88 gP100 qP70 A70 [],qj gP88 qP88 A88 []]) (fun _ hw=>hw.arShut (hs':=(a0.toNat :: [])) [2,5,6,3,4,0,1] eth1 (by decide) rfl (fun _=>List.mem_cons) List.not_mem_nil) (E.ret2 rfl rfl rfl (fun w1 hw=>?_))))))))))
   cases h
   exact ⟨_,_,rfl,⟨rfl,rfl⟩,hw⟩
  refine L.r 3 rfl (L.take rfl (L.ite h rfl (Y.geq rfl rfl) (fun c5 h=>?_) (fun c5 h=>?_)))
  ·refine L.r 1 rfl (ln (W.condT rfl (sr (L.r 2 rfl (ln (W.ret (E.thenR (E.to (D:=Cls w F [qf gP70 gP88 gP100 qP70 A70 [],qj gP88 qP88 A88 []]) (fun _ hw=>hw.arShut (hs':=(a0.toNat :: [])) [2,5,6,3,4,0,1] eth1 (by decide) rfl (fun _=>List.mem_cons) List.not_mem_nil) (E.ret2 rfl rfl rfl (fun w1 hw=>?_))))))))))
   cases h
   exact ⟨_,_,rfl,⟨rfl,rfl⟩,hw⟩
  refine L.r 1 rfl (ln (W.condF rfl (W.skip (E.thenN (W.seq (sr (L.r 2 rfl (L.to (D:=Cls w F [qf gP70 gP88 gP100 qP70 A70 [],qj gP88 qP88 A88 []]) (fun _ hw=>hw.arShut (hs':=(a0.toNat :: [])) [2,5,6,3,4,0,1] eth1 (by decide) rfl (fun _=>List.mem_cons) List.not_mem_nil) ?_))))))))
  obtain ⟨x6,e7,h⟩:=qd h
  refine L.doesP (A:=[qf gP70 gP88 gP100 qP70 A70 [],qj gP88 qP88 A88 []]) (M:=[]) rfl qki rfl (fun w' hw=>W29 a0 a1 A70 A88 gP70 gP88 gP100 qP70 qP88 w' _ e7 _ hw.lend) ?_
  rintro _ _ ⟨rfl,rfl⟩
  refine L.to (D:=Cls w F [qf gP70 gP88 gP100 qP70 A70 [],qj gP88 qP88 A88 []]) hI ?_
  obtain ⟨th8,eth8,h⟩:=qd h
  refine L.to (D:=Cls w F [.obj (gP70 a0.toNat) (List.flatten [(zr (fzr (PR gP100)) (fun _=>[]) th8.logs_).flatten,[.int .i64 th8.half_],[.int .i64 th8.gen_],[.bool th8.down_],[.int .i64 th8.now_],(zr qi (qk (qP70 a0.toNat) 2) th8.items_).flatten,[(gv (qP70 a0.toNat) 0)],[(gv (qP70 a0.toNat) 1)]]) 70,.sl (gv (qP70 a0.toNat) 0) 84 1 (th8.active_.map (PR gP88)),.sl (gv (qP70 a0.toNat) 1) 84 1 (th8.over_.map (PR gP88)),.ss (zs sd0 (fun _=>[]) th8.logs_),.ss (zs (qq 79 2 TVersion.row) (qk (qP70 a0.toNat) 2) th8.items_),qf gP70 gP88 gP100 qP70 A70 (a0.toNat :: []),qj gP88 qP88 A88 []]) (fun _ hw=>hw.arOpen (p:=0) rfl eth8 List.not_mem_nil) (L.r 1 rfl (nsr (L.r 1 rfl (L.ite h rfl (Y.neqAN Tryz.underlying84 rfl rfl) (fun c9 h=>?_) (fun c9 h=>?_)))))
  ·refine ln (W.condT rfl (sr (L.r 3 rfl (ln (W.ret (E.thenR (E.to (D:=Cls w F [qf gP70 gP88 gP100 qP70 A70 [],qj gP88 qP88 A88 []]) (fun _ hw=>hw.arShut (hs':=(a0.toNat :: [])) [0,1,2,3,4,5,6] eth8 (by decide) rfl (fun _=>List.mem_cons) List.not_mem_nil) (E.ret2 rfl rfl rfl (fun w1 hw=>?_)))))))))
   cases h
   exact ⟨_,_,rfl,⟨rfl,rfl⟩,hw⟩
  refine ln (W.condF rfl (W.skip (E.thenN (sr (L.r 2 rfl (ln (W.ret (E.to (D:=Cls w F [qf gP70 gP88 gP100 qP70 A70 [],qj gP88 qP88 A88 []]) (fun _ hw=>hw.arShut (hs':=(a0.toNat :: [])) [0,1,2,3,4,5,6] eth8 (by decide) rfl (fun _=>List.mem_cons) List.not_mem_nil) (E.ret2 rfl rfl rfl (fun w1 hw=>?_))))))))))
  cases h
  exact ⟨_,_,rfl,⟨rfl,rfl⟩,hw⟩
 replace h:=zY h
 refine L.r 8 rfl (ln (W.condT rfl (sr (L.r 2 rfl (ln (W.ret (E.thenR (E.to (D:=Cls w F [qf gP70 gP88 gP100 qP70 A70 [],qj gP88 qP88 A88 []]) (fun _ hw=>hw.arShut (hs':=(a0.toNat :: [])) [2,5,6,3,4,0,1] eth1 (by decide) rfl (fun _=>List.mem_cons) List.not_mem_nil) (E.ret2 rfl rfl rfl (fun w1 hw=>?_))))))))))
 cases h
 exact ⟨_,_,rfl,⟨rfl,rfl⟩,hw⟩
set_option maxRecDepth 100000 in
set_option maxHeartbeats 8000000 in
theorem W51 (a0:(List Int)) (a1:Int) (u0:Value) (w:World) (r:Int) (h:M51 a0 a1=some r) (hA0:At w u0 1 (a0.map I)):Does Tryz.prog 51 [u0,.int .i64 a1] w fun u m=>u=.int .i64 r∧m=[]:=by
 rw [M51] at h
 refine body (n:=19) Tryz.func51 rfl rfl rfl (Cls.refl w) (sr (L.r 1 rfl (ln (W.seqJ (fun gs D=>gs=[]∧D=Cls w [] []∧qgg=some r) ?_ ?_))))
 ·refine sr (L.r 1 rfl (L.y rfl (Y.lenM (g:=I) (l:=a0) Tryz.underlying86 rfl (fun w' hw=>hA0.cls0 hw)) (L.r 1 rfl (ln (W.block (W.loopJ (fun m gs D=>∃ gx1,gs=[(0,u0),(1,.int .i64 a1),(7,.int .i64 (a0.length:Int)),(8,.int .i64 gx1)]∧D=Cls w [] []∧wS a0 a1 m gx1=some r) ⟨0,rfl,rfl,h⟩ ⟨rfl,rfl,rfl,rfl,trivial⟩ hI ?_))))))
  rintro m _ _ ⟨gx1,rfl,rfl,h⟩
  rcases m with _ | m
  ·rw [wS] at h;cases h
  rw [wS] at h
  generalize hg1:wS a0 a1 m=go1 at h
  rw [qbM] at h
  refine sr (L.ite h rfl (Y.lss rfl rfl) (fun c1 h=>?_) (fun c1 h=>?_))
  ·refine ln (W.seq (W.condT rfl (W.skip (E.thenN (W.seq (W.block (sr (L.r 2 rfl (ln (W.seq ?_))))))))))
   refine W.region (L.r 3 rfl (L.m (V:=fun _=>el u0 (gx1.toNat*1)) h rfl (Y.indexM (g:=I) (l:=a0) Tryz.underlying86 sz3 rfl rfl (fun w' hw=>hA0.cls0 hw)) (fun x2 ex2 h=>(L.y rfl (Y.loadE1 (u:=.int .i64 x2) ag3 rfl (fun w' hw=>hA0.cls0 hw) (qx ex2)) (L.ite h rfl (Y.eql rfl rfl) (fun c3 h=>?_) (fun c3 h=>?_))))))
   ·refine ln (W.condT rfl (sr (L.r 2 rfl (ln (W.ret (E.blockR (E.thenR (E.KLR (E.blockR (E.KSR ?_))))))))))
    refine E.ret1 rfl rfl (fun w1 hw=>?_)
    cases h
    exact ⟨_,_,rfl,⟨rfl,rfl⟩,hw⟩
   exact ln (W.condF rfl (W.skip (E.blockN (E.thenN (W.region (L.m (V:=fun x4=>.int .i64 x4) h rfl (Y.addM rfl rfl) (fun x4 ex4 h=>(L.r 1 rfl (L.nil (E.aJ ⟨x4,rfl,rfl,by rw [hg1];exact h⟩ hI))))))))))
  exact ln (W.seq (W.condF rfl (W.exit (E.thenX (E.KLX (E.blockX (E.joinJ ⟨rfl,rfl,h⟩ trivial hI)))))))
 rintro _ _ ⟨rfl,rfl,h⟩
 rw [qgg] at h
 refine sr (L.r 1 rfl (ln (W.ret (E.ret1 rfl rfl (fun w1 hw=>?_)))))
 cases h
 exact ⟨_,_,rfl,⟨rfl,rfl⟩,hw⟩
set_option maxRecDepth 100000 in
set_option maxHeartbeats 8000000 in
theorem W31 (a0:(List Int)) (a1:Int) (u0:Value) (w:World) (r:Bool) (h:M31 a0 a1=some r) (hA0:At w u0 1 (a0.map I)):Does Tryz.prog 31 [u0,.int .i64 a1] w fun u m=>u=.bool r∧m=[]:=by
 rw [M31] at h
 refine body (n:=9) Tryz.func31 rfl rfl rfl (Cls.refl w) (sr (L.r 1 rfl (nsr (L.r 2 rfl ?_))))
 obtain ⟨x1,e2,h⟩:=qd h
 refine L.y rfl (Y.does qkT rfl (fun w' hw=>(W51 a0 a1 u0 w' _ e2 (hA0.cls0 hw)).mono (fun _ _ h=>h.1))) (L.y rfl (Y.geq rfl rfl) (L.r 1 rfl (ln (W.ret (E.ret1 rfl rfl (fun w1 hw=>?_))))))
 cases h
 exact ⟨_,_,rfl,⟨rfl,rfl⟩,hw⟩
set_option maxRecDepth 100000 in
set_option maxHeartbeats 8000000 in
theorem W15 (a0:Int) (a1:Int) (a2:Int) (a3:(List UInt8)) (A70:(List TStore)) (A88:(List Ttx)) (gP70:Nat→Nat) (gP88:Nat→Nat) (gP100:Nat→Nat) (qP70:Nat→List Value) (qP88:Nat→List Value) (w:World) (r:((List Ttx)×Int)) (h:M15 a0 a1 a2 a3 A70 A88=some r) (F:List Nat) (hc0:Cls w F [qf gP70 gP88 gP100 qP70 A70 [],qj gP88 qP88 A88 []] w):zg Tryz.prog 15 [VP gP70 a0,.int .i64 a1,.int .i64 a2,st a3] F w fun u m=>∃ Q88,u=.int .i64 r.2∧m=[qf gP70 gP88 gP100 qP70 A70 [],qj gP88 Q88 r.1 []]:=by
 rw [M15] at h
 refine body (n:=47) Tryz.func15 rfl rfl rfl hc0 ?_
 obtain ⟨th1,eth1,h⟩:=qd h
 refine W.to (D:=Cls w F [.obj (gP70 a0.toNat) (List.flatten [(zr (fzr (PR gP100)) (fun _=>[]) th1.logs_).flatten,[.int .i64 th1.half_],[.int .i64 th1.gen_],[.bool th1.down_],[.int .i64 th1.now_],(zr qi (qk (qP70 a0.toNat) 2) th1.items_).flatten,[(gv (qP70 a0.toNat) 0)],[(gv (qP70 a0.toNat) 1)]]) 70,.sl (gv (qP70 a0.toNat) 0) 84 1 (th1.active_.map (PR gP88)),.sl (gv (qP70 a0.toNat) 1) 84 1 (th1.over_.map (PR gP88)),.ss (zs sd0 (fun _=>[]) th1.logs_),.ss (zs (qq 79 2 TVersion.row) (qk (qP70 a0.toNat) 2) th1.items_),qf gP70 gP88 gP100 qP70 A70 (a0.toNat :: []),qj gP88 qP88 A88 []]) (fun _ hw=>hw.arOpen (p:=0) rfl eth1 List.not_mem_nil) (sr (L.r 1 rfl (nsr (L.r 3 rfl (L.to (D:=Cls w F [qf gP70 gP88 gP100 qP70 A70 [],qj gP88 qP88 A88 []]) (fun _ hw=>hw.arShut (hs':=(a0.toNat :: [])) [0,1,2,3,4,5,6] eth1 (by decide) rfl (fun _=>List.mem_cons) List.not_mem_nil) ?_)))))
 obtain ⟨x2,x3,e4,h⟩:=qB h
 refine L.doesP (A:=[qf gP70 gP88 gP100 qP70 A70 [],qj gP88 qP88 A88 []]) (M:=[]) rfl qjq rfl (fun w' hw=>W30 a0 a1 a2 A70 A88 gP70 gP88 gP100 qP70 qP88 w' _ e4 _ hw.lend) ?_
 rintro _ _ ⟨rfl,rfl⟩
 refine L.to (D:=Cls w F [qf gP70 gP88 gP100 qP70 A70 [],qj gP88 qP88 A88 []]) hI ?_
 obtain ⟨th5,eth5,h⟩:=qd h
 refine L.to (D:=Cls w F [.obj (gP70 a0.toNat) (List.flatten [(zr (fzr (PR gP100)) (fun _=>[]) th5.logs_).flatten,[.int .i64 th5.half_],[.int .i64 th5.gen_],[.bool th5.down_],[.int .i64 th5.now_],(zr qi (qk (qP70 a0.toNat) 2) th5.items_).flatten,[(gv (qP70 a0.toNat) 0)],[(gv (qP70 a0.toNat) 1)]]) 70,.sl (gv (qP70 a0.toNat) 0) 84 1 (th5.active_.map (PR gP88)),.sl (gv (qP70 a0.toNat) 1) 84 1 (th5.over_.map (PR gP88)),.ss (zs sd0 (fun _=>[]) th5.logs_),.ss (zs (qq 79 2 TVersion.row) (qk (qP70 a0.toNat) 2) th5.items_),qf gP70 gP88 gP100 qP70 A70 (a0.toNat :: []),qj gP88 qP88 A88 []]) (fun _ hw=>hw.arOpen (p:=0) rfl eth5 List.not_mem_nil) (L.r 5 rfl (ln (W.seq (sr (L.r 1 rfl (L.ite h rfl (Y.neq rfl rfl) (fun c6 h=>?_) (fun c6 h=>?_)))))))
 ·refine ln (W.condT rfl (sr (L.r 2 rfl (ln (W.ret (E.thenR (E.to (D:=Cls w F [qf gP70 gP88 gP100 qP70 A70 [],qj gP88 qP88 A88 []]) (fun _ hw=>hw.arShut (hs':=(a0.toNat :: [])) [0,1,2,3,4,5,6] eth5 (by decide) rfl (fun _=>List.mem_cons) List.not_mem_nil) (E.ret1 rfl rfl (fun w1 hw=>?_)))))))))
  cases h
  exact ⟨_,_,rfl,⟨_,rfl,rfl⟩,hw⟩
 refine ln (W.condF rfl (W.skip (E.thenN (W.seq (sr (L.r 1 rfl (L.y rfl (Y.lenS Tryz.underlying9 rfl) (L.ite h rfl (Y.gtr rfl rfl) (fun c7 h=>?_) (fun c7 h=>?_)))))))))
 ·refine ln (W.condT rfl (sr (L.r 1 rfl (ln (W.ret (E.thenR (E.to (D:=Cls w F [qf gP70 gP88 gP100 qP70 A70 [],qj gP88 qP88 A88 []]) (fun _ hw=>hw.arShut (hs':=(a0.toNat :: [])) [0,1,2,3,4,5,6] eth5 (by decide) rfl (fun _=>List.mem_cons) List.not_mem_nil) (E.ret1 rfl rfl (fun w1 hw=>?_)))))))))
  cases h
  exact ⟨_,_,rfl,⟨_,rfl,rfl⟩,hw⟩
 refine ln (W.condF rfl (W.skip (E.thenN (W.seq (sr (L.r 1 rfl (L.to (D:=Cls w F [qf gP70 gP88 gP100 qP70 A70 [],qj gP88 qP88 A88 []]) (fun _ hw=>hw.arShut (hs':=(a0.toNat :: [])) [0,1,2,3,4,5,6] eth5 (by decide) rfl (fun _=>List.mem_cons) List.not_mem_nil) ?_)))))))
 obtain ⟨th8,eth8,h⟩:=qd h
 refine L.to (D:=Cls w F [.obj (gP88 x2.toNat) (List.flatten [[.int .i64 th8.id_],[.int .i64 th8.from_],[.int .i64 th8.at_],[(gv (qP88 x2.toNat) 0)],[(gv (qP88 x2.toNat) 1)],(zr (fzr SR) (fun _=>[]) th8.texts_).flatten,[.bool th8.in_],[.bool th8.out_]]) 88,.sl (gv (qP88 x2.toNat) 0) 3 1 (th8.reads_.map I),.sl (gv (qP88 x2.toNat) 1) 3 1 (th8.writes_.map I),.ss (zs sd0 (fun _=>[]) th8.texts_),qj gP88 qP88 A88 (x2.toNat :: []),qf gP70 gP88 gP100 qP70 A70 []]) (fun _ hw=>hw.arOpen (p:=1) rfl eth8 List.not_mem_nil) (L.y rfl (Y.apNil rfl eth8) (L.y rfl (Y.fieldP xm rfl) (L.y rfl (Y.loadG (q:=0) (si:=4) (ps:=4) (j:=0) (X:=[(gv (qP88 x2.toNat) 1)]) qab rfl rfl rfl rfl (sl1 (a:=1) (p:=3) rfl (sl1 (a:=1) (p:=2) rfl (sl1 (a:=1) (p:=1) rfl (sl1 (a:=1) (p:=0) rfl sl0)))) rfl) (L.r 1 rfl ?_))))
 obtain ⟨b9,e10,h⟩:=qd h
 refine L.y rfl (Y.does qfM rfl (fun w' hw=>(W31 th8.writes_ a2 (gv (qP88 x2.toNat) 1) w' _ e10 (As.at_ (hw.get (i:=2) rfl))).mono (fun _ _ h=>h.1))) ?_
 rcases b9 with _ | _
 ·replace h:=zZ h
  refine L.y rfl (Y.not rfl) (ln (W.condT rfl (W.region (L.r 2 rfl (L.y rfl (Y.apNil rfl eth8) (L.y rfl (Y.fieldP xm rfl) (L.y rfl (Y.loadG (q:=0) (si:=4) (ps:=4) (j:=0) (X:=[(gv (qP88 x2.toNat) 1)]) qab rfl rfl rfl rfl (sl1 (a:=1) (p:=3) rfl (sl1 (a:=1) (p:=2) rfl (sl1 (a:=1) (p:=1) rfl (sl1 (a:=1) (p:=0) rfl sl0)))) rfl) (L.r 1 rfl (L.litOne rfl Tryz.underlying86 eL3 rfl rfl ?_)))))))))
  intro b11
  refine L.appM (i:=3) (g:=I) (l:=th8.writes_) (more:=[a2]) h rfl Tryz.underlying86 eL3 rfl rfl rfl (fun w hw=>As.at_ (hw.get (i:=0) rfl)) (z7 _) rfl ?_
  intro v12 l13 el13 h
  refine L.y rfl (Y.apNil rfl eth8) (L.y rfl (Y.fieldP xm rfl) (L.storeGV (q:=2) (si:=4) (ps:=4) (j:=0) (X:=[(gv (qP88 x2.toNat) 1)]) qj6 rfl rfl rfl (fun _ hw=>(As.at_ (hw.get (i:=0) rfl)).one) rfl rfl (sl1 (a:=1) (p:=3) rfl (sl1 (a:=1) (p:=2) rfl (sl1 (a:=1) (p:=1) rfl (sl1 (a:=1) (p:=0) rfl sl0)))) rfl (nsr (L.r 3 rfl (L.y rfl (Y.apNil rfl eth8) (L.y rfl (Y.fieldP yW rfl) (L.m (V:=fun _=>pt (gP88 x2.toNat) (5+a2.toNat*1)) h rfl (Y.indexAS (l:=th8.texts_) Tryz.underlying30 sz9 rfl rfl) (fun x14 ex14 h=>(L.storeZg (si:=5) (ps:=5) (row:=(fzr SR)) (sds:=sd0) (vs:=(fun _=>[])) (q:=2) (s:=4) (c:=0) (u1:=a3) (vals:=[st a3]) (j:=0) h sz9 rfl rfl rfl rfl rfl (zi rfl zq) rfl rfl (sl1 (a:=1) (p:=4) rfl (sl1 (a:=1) (p:=3) rfl (sl1 (a:=1) (p:=2) rfl (sl1 (a:=1) (p:=1) rfl (sl1 (a:=1) (p:=0) rfl sl0))))) rfl (fun _ _=>rfl) (qt ex14) rfl rfl (fun _ _=>rfl) rfl ?_)))))))))
  intro l15 el15 h
  refine nsr (L.r 1 rfl (ln (W.ret ?_)))
  obtain ⟨l17,el17,h⟩:=qd h
  refine E.arClose (row:=Ttx.rowA) (sub:=Ttx.subA) (e:=88) (g:=gP88) (gh:=qP88) (vs':=([(gv (qP88 x2.toNat) 0),v12])) (hs:=[]) (hs':=(x2.toNat :: [])) (m':=[.sl (sv b11 1) 3 1 (([a2]).map I),qf gP70 gP88 gP100 qP70 A70 []]) [2,3,0,4,5,1,6] el17 (by decide) rfl (fun _=>List.mem_cons) List.not_mem_nil ?_
  intro q16
  refine E.to (D:=Cls w F [qj gP88 q16 l17 [],.sl (sv b11 1) 3 1 (([a2]).map I),qf gP70 gP88 gP100 qP70 A70 []]) hI (E.ret1 rfl rfl (fun w1 hw=>?_))
  cases h
  exact ⟨_,_,rfl,⟨_,rfl,rfl⟩,hw.s [2,0]⟩
 replace h:=zY h
 refine L.y rfl (Y.not rfl) (ln (W.condF rfl (W.skip (E.thenN (sr (L.r 3 rfl (L.y rfl (Y.apNil rfl eth8) (L.y rfl (Y.fieldP yW rfl) (L.m (V:=fun _=>pt (gP88 x2.toNat) (5+a2.toNat*1)) h rfl (Y.indexAS (l:=th8.texts_) Tryz.underlying30 sz9 rfl rfl) (fun x18 ex18 h=>(L.storeZg (si:=5) (ps:=5) (row:=(fzr SR)) (sds:=sd0) (vs:=(fun _=>[])) (q:=0) (s:=3) (c:=0) (u1:=a3) (vals:=[st a3]) (j:=0) h sz9 rfl rfl rfl rfl rfl (zi rfl zq) rfl rfl (sl1 (a:=1) (p:=4) rfl (sl1 (a:=1) (p:=3) rfl (sl1 (a:=1) (p:=2) rfl (sl1 (a:=1) (p:=1) rfl (sl1 (a:=1) (p:=0) rfl sl0))))) rfl (fun _ _=>rfl) (qt ex18) rfl rfl (fun _ _=>rfl) rfl ?_)))))))))))
 intro l19 el19 h
 refine nsr (L.r 1 rfl (ln (W.ret ?_)))
 obtain ⟨l21,el21,h⟩:=qd h
 refine E.arClose (row:=Ttx.rowA) (sub:=Ttx.subA) (e:=88) (g:=gP88) (gh:=qP88) (vs':=([(gv (qP88 x2.toNat) 0),(gv (qP88 x2.toNat) 1)])) (hs:=[]) (hs':=(x2.toNat :: [])) (m':=[qf gP70 gP88 gP100 qP70 A70 []]) [0,1,2,3,4,5] el21 (by decide) rfl (fun _=>List.mem_cons) List.not_mem_nil ?_
 intro q20
 refine E.to (D:=Cls w F [qj gP88 q20 l21 [],qf gP70 gP88 gP100 qP70 A70 []]) hI (E.ret1 rfl rfl (fun w1 hw=>?_))
 cases h
 exact ⟨_,_,rfl,⟨_,rfl,rfl⟩,hw.s [1,0]⟩
set_option maxRecDepth 100000 in
set_option maxHeartbeats 8000000 in
theorem W52 (a0:(List Int)) (a1:(List Int)) (u0:Value) (u1:Value) (w:World) (r:Bool) (h:M52 a0 a1=some r) (hA0:At w u0 1 (a0.map I)) (hA1:At w u1 1 (a1.map I)):Does Tryz.prog 52 [u0,u1] w fun u m=>u=.bool r∧m=[]:=by
 rw [M52] at h
 refine body (n:=8) Tryz.func52 rfl rfl rfl (Cls.refl w) (sr (L.boxV rfl rfl (fun _ hw=>(hA1.cls0 hw).one) ?_))
 intro b1
 refine L.r 1 rfl (nsr (L.r 1 rfl (L.y rfl (Y.func rfl) (L.callJ (fun v D=>∃ gb1,v=.bool gb1∧D=Cls w [] []∧qh4 gb1=some r) rfl qkQ rfl Tryz.func74 rfl rfl rfl ?_ ?_))))
 ·refine sr (L.r 1 rfl (nsr (L.r 2 rfl (L.callJ (fun v D=>∃ gx2,v=.int .i64 gx2∧D=Cls w [] []∧qgf gx2=some r) rfl qic rfl Tryz.func93 rfl rfl rfl ?_ ?_))))
  ·refine sr (L.r 1 rfl (ln (W.seqJ (fun gs D=>gs=[]∧D=Cls w [] []∧qh3=some r) ?_ ?_)))
   ·refine sr (L.r 1 rfl (L.y rfl (Y.lenM (g:=I) (l:=a0) Tryz.underlying86 rfl (fun w' hw=>hA0.cls0 hw)) (L.r 1 rfl (ln (W.block (W.loopJ (fun m gs D=>∃ gx3,gs=[(0,u0),(1,.func (.func 75) #[] #[pt b1 0]),(7,.int .i64 (a0.length:Int)),(8,.int .i64 gx3)]∧D=Cls w [] [.obj b1 [u1] 86]∧wR a0 a1 m gx3=some r) ⟨0,rfl,rfl,h⟩ ⟨rfl,rfl,rfl,rfl,trivial⟩ hI ?_))))))
    rintro m _ _ ⟨gx3,rfl,rfl,h⟩
    rcases m with _ | m
    ·rw [wR] at h;cases h
    rw [wR] at h
    generalize hg1:wR a0 a1 m=go1 at h
    rw [qbL] at h
    refine sr (L.ite h rfl (Y.lss rfl rfl) (fun c2 h=>?_) (fun c2 h=>?_))
    ·refine ln (W.seq (W.condT rfl (W.skip (E.thenN (W.seq (W.block (sr (L.r 2 rfl (ln (W.seq ?_))))))))))
     refine W.region (L.r 3 rfl (L.m (V:=fun _=>el u0 (gx3.toNat*1)) h rfl (Y.indexM (g:=I) (l:=a0) Tryz.underlying86 sz3 rfl rfl (fun w' hw=>hA0.cls0 hw)) (fun x3 ex3 h=>(L.y rfl (Y.loadE1 (u:=.int .i64 x3) ag3 rfl (fun w' hw=>hA0.cls0 hw) (qx ex3)) (L.callVJ (fun v D=>∃ gb4,v=.bool gb4∧D=Cls w [] [.obj b1 [u1] 86]∧qge gx3 go1 gb4=some r) rfl qkP rfl rfl Tryz.func75 rfl rfl rfl ?_ ?_)))))
     ·refine sr (L.r 1 rfl (nsr (L.y rfl (Y.loadP (i:=0) qab rfl rfl rfl) (L.r 1 rfl ?_))))
      obtain ⟨b5,e6,h⟩:=qd h
      exact L.y rfl (Y.does qfM rfl (fun w' hw=>(W31 a1 x3 u1 w' _ e6 (hA1.cls0 hw)).mono (fun _ _ h=>h.1))) (L.r 1 rfl (ln (W.ret (E.ret1 rfl rfl (fun w1 hw=>(⟨_,_,rfl,⟨b5,rfl,rfl,h⟩,hw⟩))))))
     rintro _ _ ⟨gb4,rfl,rfl,h⟩
     rw [qge] at h
     rcases gb4 with _ | _
     ·replace h:=zZ h
      exact ln (W.condF rfl (W.skip (E.blockN (E.thenN (W.region (L.m (V:=fun x4=>.int .i64 x4) h rfl (Y.addM rfl rfl) (fun x4 ex4 h=>(L.r 1 rfl (L.nil (E.aJ ⟨x4,rfl,rfl,by rw [hg1];exact h⟩ hI))))))))))
     replace h:=zY h
     refine ln (W.condT rfl (sr (L.r 2 rfl (ln (W.ret (E.blockR (E.thenR (E.KLR (E.blockR (E.KSR ?_))))))))))
     exact E.ret1 rfl rfl (fun w1 hw=>(⟨_,_,rfl,⟨gx3,rfl,rfl,h⟩,hw.s []⟩))
    exact ln (W.seq (W.condF rfl (W.exit (E.thenX (E.KLX (E.blockX (E.joinJ ⟨rfl,rfl,h⟩ trivial (sI []))))))))
   rintro _ _ ⟨rfl,rfl,h⟩
   rw [qh3] at h
   exact sr (L.r 1 rfl (ln (W.ret (E.ret1 rfl rfl (fun w1 hw=>(⟨_,_,rfl,⟨(-1),rfl,rfl,h⟩,hw⟩))))))
  rintro _ _ ⟨gx2,rfl,rfl,h⟩
  rw [qgf] at h
  exact L.y rfl (Y.geq rfl rfl) (L.r 1 rfl (ln (W.ret (E.ret1 rfl rfl (fun w1 hw=>(⟨_,_,rfl,⟨decide (0≤gx2),rfl,rfl,h⟩,hw⟩))))))
 rintro _ _ ⟨gb1,rfl,rfl,h⟩
 rw [qh4] at h
 refine L.r 1 rfl (ln (W.ret (E.ret1 rfl rfl (fun w1 hw=>?_))))
 cases h
 exact ⟨_,_,rfl,⟨rfl,rfl⟩,hw⟩
end Go.Proofs.YtbjidacdnjojnaaGreatDoor
