import Derived.Test.YtdlemoeinjihkaaGreatDoorTqW1
import Derived.Test.YtdlemoeinjihkaaGreatDoorChecked
import Derived.KernelRfl
import Derived.Test.YtdlemoeinjihkaaGreatDoorZf
namespace Go.Proofs.YtdlemoeinjihkaaGreatDoor
open Go.S
set_option linter.unusedVariables false
set_option linter.unusedSimpArgs false
set_option maxRecDepth 100000 in
set_option maxHeartbeats 8000000 in
theorem W37 (a0:(List (List UInt8))) (u0:Value) (w:World) (r:(qi×Bool)) (h:M37 a0=some r) (hA0:At w u0 1 (a0.map SR)):Does Tryz.prog 37 [u0] w fun u m=>u=.tuple #[.agg (List.flatten [[.int .i64 r.1.gen_],[.bool r.1.whole_],(zr (fzr SR) (fun _=>[]) r.1.values_).flatten]).toArray,.bool r.2]∧m=[]:=by
 rw [M37] at h
 refine body (n:=109) Tryz.func37 rfl rfl rfl (Cls.refl w) (sr (L.alloc rfl qay ?_))
 intro b1
 refine L.toSeg (S:=tQd) rfl (L.ssNil (sds:=sd0) (vs:=(fun _=>[])) (xs:=tQab) (zb ji _) (L.r 1 rfl (nsr (L.y rfl (Y.build (cells:=#[.int .i64 0,.bool true,st [],st [],st [],st [],st [],st [],st [],st [],st [],st [],st [],st [],st [],st [],st [],st [],st [],st [],st [],st []]) rfl (by kernel_rfl)) (L.alloc rfl qay ?_)))))
 intro b2
 refine L.toSeg (S:=tQd) rfl (L.ssNil (sds:=sd0) (vs:=(fun _=>[])) (xs:=tQab) (zb ji _) ?_)
 obtain ⟨_,en3,h⟩:=qc h
 obtain ⟨_,en3⟩:=qd en3
 refine L.storeSR (q:=1) (ps:=0) [] tQd [[.int .i64 0],[.bool true],tQbh.flatten] [] qA rfl rfl (qw (qT rfl za) (qw (qT rfl za) (qw (yP (qp _)) xt))) rfl fl0 (by simp [zl,en3]) (by simp [zl,en3]) (L.to (D:=Cls w [] [.ss (zs sd0 (fun _=>[]) (List.replicate 20 ([]:(List UInt8)))),.obj b2 (List.flatten [[.int .i64 0],[.bool true],(zr (fzr SR) (fun _=>[]) (List.replicate 20 ([]:(List UInt8)))).flatten]) 119,.ss (zs sd0 (fun _=>[]) (List.replicate 20 ([]:(List UInt8)))),.obj b1 (List.flatten [[.int .i64 0],[.bool false],(zr (fzr SR) (fun _=>[]) (List.replicate 20 ([]:(List UInt8)))).flatten]) 119]) (fun _ hw=>by simp only [zj,tQA,tQP,tQS,tQV,tQY,tQZ,wg,we,jZ,vy,wd,vx,k7,kS,kZ,tQj,tQs,tQz] at hw ⊢;exact hw) (ln (W.seqJ (fun gs D=>∃ gx1 gb2 gl3,gs=[(2,pt b1 0),(4,pt b2 0)]∧D=tQV w b2 gx1 gb2 gl3 b1∧qlC gx1 gb2 gl3=some r) ?_ ?_)))
 ·refine sr (L.r 1 rfl (L.y rfl (Y.lenM (g:=SR) (l:=a0) Tryz.underlying111 rfl (fun w' hw=>hA0.cls0 hw)) (L.r 1 rfl (ln (W.block (W.loopJ (fun m gs D=>∃ gx4 gx5 gb6 gl7,gs=((2,pt b1 0)::(4,pt b2 0)::qlN u0 a0 gx4)∧D=tQV w b2 gx5 gb6 gl7 b1∧qeQ a0 m gx4 gx5 gb6 gl7=some r) ⟨0,0,true,tQab,rfl,rfl,h⟩ ⟨rfl,rfl,rfl,rfl,rfl,trivial⟩ (sI [1,0,3,2]) ?_))))))
  rintro m _ _ ⟨gx4,gx5,gb6,gl7,rfl,rfl,h⟩
  rcases m with _ | m
  ·rw [qeQ] at h;cases h
  rw [qeQ] at h
  generalize hg1:qeQ a0 m=go1 at h
  rw [qka] at h
  refine sr (L.ite h rfl (Y.lss rfl rfl) (fun c5 h=>?_) (fun c5 h=>?_))
  ·refine ln (W.seq (W.condT rfl (W.skip (E.thenN (W.seqJ (fun gs D=>∃ gx8 gb9 gl10,gs=((2,pt b1 0)::(4,pt b2 0)::qlN u0 a0 gx4)∧D=tQV w b2 gx8 gb9 gl10 b1∧qbg gx4 go1 gx8 gb9 gl10=some r) ?_ ?_)))))
   ·refine W.block (sr (L.r 1 rfl (L.m (V:=fun _=>el u0 (zG gx4)) h rfl (Y.indexM (g:=SR) (l:=a0) Tryz.underlying111 sz9 rfl rfl (fun w' hw=>hA0.cls0 hw)) (fun x7 ex7 h=>(L.y rfl (Y.loadE1 (u:=st x7) ag9 rfl (fun w' hw=>hA0.cls0 hw) (qf ex7)) (L.r 2 rfl (ln (W.seq (sr (L.r 1 rfl (L.ite h rfl (Y.eqlS rfl rfl) (fun c8 h=>?_) (fun c8 h=>?_))))))))))))
    ·refine ln (W.condT rfl (sr ?_))
     obtain ⟨_,en9,h⟩:=qc h
     obtain ⟨_,en9⟩:=qd en9
     refine L.y rfl (Y.loadSR (q:=0) (ps:=0) [] (tQp gx5 gb6 gl7) [] zK qA rfl rfl fl0 (by simp [zl,en9])) (L.storeSR (q:=2) (ps:=0) [] tQd (tQp gx5 gb6 gl7) [] qA rfl rfl (qw (qT rfl za) (qw (qT rfl za) (qw (yP (qp _)) xt))) rfl fl0 (by simp [zl,en3]) (by simp [zl,en9]) (L.to (D:=Cls w [] [.obj b2 (List.flatten [[.int .i64 gx5],[.bool gb6],(zr (fzr SR) (fun _=>[]) gl7).flatten]) 119,.ss (zs sd0 (fun _=>[]) gl7),.obj b1 (List.flatten [[.int .i64 gx5],[.bool gb6],(zr (fzr SR) (fun _=>[]) gl7).flatten]) 119,.ss (zs sd0 (fun _=>[]) gl7)]) (fun _ hw=>by simp only [zj,tQA,tQP,tQS,tQV,tQY,tQZ,wg,we,jZ,vy,wd,vx,k7,kS,kZ,tQj,tQs,tQz] at hw ⊢;exact hw) (L.r 1 rfl (ln (W.ret (E.thenR (E.blockR (E.KSR (E.KLR (E.blockR (E.KSR (E.retR2 rfl (Rv.cellW (i:=2) (c:=qfI gx5 gb6 gl7) zK qA rfl rfl (by simp [zl,en9])) (Rv.tmp rfl) (fun w1 hw=>?_)))))))))))))
     cases h
     exact ⟨_,_,rfl,⟨rfl,rfl⟩,hw.s []⟩
    refine ln (W.condF rfl (W.skip (E.thenN (W.seq (W.quietC mixed (by kernel_rfl) (fun _ hw=>hw.drew) (fun hC=>(U.r 1 rfl (U.m (V:=fun s10=>st s10) h rfl (Y.sliceSH Tryz.underlying9 rfl rfl) (fun s10 es10 h=>(U.r 1 rfl (U.m (V:=fun s11=>st s11) h rfl (Y.sliceSL Tryz.underlying9 rfl rfl) (fun s11 es11 h=>(U.r 2 rfl (U.nil (E.thenN ?_)))))))))))))))
    refine W.block (W.seqJ (fun gs D=>∃ gb11,gs=[(2,pt b1 0),(4,pt b2 0),(7,st s10),(8,st s11),(17,u0),(18,.int .i64 (a0.length:Int)),(19,.int .i64 gx4),(32,.bool gb11)]∧D=tQV w b2 gx5 gb6 gl7 b1∧qjb s11 gl7 gx5 gb6 gx4 go1 s10 gb11=some r) ?_ ?_)
    ·refine W.region (L.cutJ 6 (fun gs D=>∃ gb26,gs=[(2,pt b1 0),(4,pt b2 0),(7,st s10),(8,st s11),(17,u0),(18,.int .i64 (a0.length:Int)),(19,.int .i64 gx4),(38,.bool gb26)]∧D=tQV w b2 gx5 gb6 gl7 b1∧qbh s11 gl7 gx5 gb6 gx4 go1 s10 gb26=some r) ?_ ?_)
     ·refine L.r 1 rfl (L.ite h rfl (Y.eqlS rfl rfl) (fun c74 h=>?_) (fun c74 h=>?_))
      ·refine L.r 2 rfl (L.take rfl (L.ite h rfl (Y.eql rfl rfl) (fun c75 h=>?_) (fun c75 h=>?_)))
       ·exact L.r 1 rfl (L.nil (E.jJ ⟨true,rfl,rfl,h⟩ hI))
       exact L.r 1 rfl (L.nil (E.jJ ⟨false,rfl,rfl,h⟩ hI))
      exact L.r 4 rfl (L.nil (E.jJ ⟨false,rfl,rfl,h⟩ hI))
     rintro _ _ ⟨gb26,rfl,rfl,h⟩
     rw [qbh] at h
     rcases gb26 with _ | _
     ·replace h:=zn h
      exact L.r 1 rfl (L.nil (E.jJ ⟨false,rfl,rfl,h⟩ hI))
     replace h:=zm h
     exact L.r 1 rfl (L.nil (E.jJ ⟨true,rfl,rfl,h⟩ hI))
    rintro _ _ ⟨gb11,rfl,rfl,h⟩
    rw [qjb] at h
    rcases gb11 with _ | _
    ·replace h:=zn h
     refine W.condF rfl (sr (L.cutJ 7 (fun gs D=>∃ gb12,gs=[(2,pt b1 0),(4,pt b2 0),(7,st s10),(8,st s11),(17,u0),(18,.int .i64 (a0.length:Int)),(19,.int .i64 gx4),(68,.bool gb12)]∧D=tQV w b2 gx5 gb6 gl7 b1∧qhk s11 gx4 go1 gx5 gl7 s10 gb6 gb12=some r) ?_ ?_))
     ·refine L.r 1 rfl (L.ite h rfl (Y.eqlS rfl rfl) (fun c63 h=>?_) (fun c63 h=>?_))
      ·refine L.r 1 rfl (L.take rfl (L.y rfl (Y.fieldP zP rfl) (L.take rfl (L.iteB h rfl (Y.loadG (q:=0) (si:=1) (ps:=1) (j:=0) (X:=[.bool gb6]) ag4 rfl rfl rfl rfl rfl rfl) (fun c64 h=>?_) (fun c64 h=>?_)))))
       ·exact L.take rfl (L.y rfl (Y.not rfl) (L.r 1 rfl (L.nil (E.jJ ⟨false,rfl,rfl,h⟩ hI))))
       exact L.take rfl (L.y rfl (Y.not rfl) (L.r 1 rfl (L.nil (E.jJ ⟨true,rfl,rfl,h⟩ hI))))
      exact L.r 5 rfl (L.nil (E.jJ ⟨false,rfl,rfl,h⟩ hI))
     rintro _ _ ⟨gb12,rfl,rfl,h⟩
     rw [qhk] at h
     rcases gb12 with _ | _
     ·replace h:=zn h
      refine L.r 5 rfl (ln (W.condF rfl (sr (L.cutJ 7 (fun gs D=>∃ gb13,gs=[(2,pt b1 0),(4,pt b2 0),(7,st s10),(8,st s11),(17,u0),(18,.int .i64 (a0.length:Int)),(19,.int .i64 gx4),(81,.bool gb13)]∧D=tQV w b2 gx5 gb6 gl7 b1∧qhj gx5 gb6 gx4 go1 s11 gl7 s10 gb13=some r) ?_ ?_))))
      ·refine L.r 1 rfl (L.ite h rfl (Y.eqlS rfl rfl) (fun c35 h=>?_) (fun c35 h=>?_))
       ·refine L.r 1 rfl (L.take rfl (L.y rfl (Y.fieldP zP rfl) (L.take rfl (L.iteB h rfl (Y.loadG (q:=0) (si:=1) (ps:=1) (j:=0) (X:=[.bool gb6]) ag4 rfl rfl rfl rfl rfl rfl) (fun c36 h=>?_) (fun c36 h=>?_)))))
        ·exact L.take rfl (L.y rfl (Y.not rfl) (L.r 1 rfl (L.nil (E.jJ ⟨false,rfl,rfl,h⟩ hI))))
        exact L.take rfl (L.y rfl (Y.not rfl) (L.r 1 rfl (L.nil (E.jJ ⟨true,rfl,rfl,h⟩ hI))))
       exact L.r 5 rfl (L.nil (E.jJ ⟨false,rfl,rfl,h⟩ hI))
      rintro _ _ ⟨gb13,rfl,rfl,h⟩
      rw [qhj] at h
      rcases gb13 with _ | _
      ·replace h:=zn h
       refine L.cutJ 7 (fun gs D=>∃ gb14,gs=[(2,pt b1 0),(4,pt b2 0),(8,st s11),(17,u0),(18,.int .i64 (a0.length:Int)),(19,.int .i64 gx4),(82,.bool false),(88,.bool gb14)]∧D=tQV w b2 gx5 gb6 gl7 b1∧qhi gx5 gb6 gx4 go1 s11 gl7 gb14=some r) ?_ ?_
       ·refine L.r 2 rfl (L.take rfl (L.ite h rfl (Y.eqlS rfl rfl) (fun c23 h=>?_) (fun c23 h=>?_)))
        ·refine L.r 1 rfl (L.take rfl (L.y rfl (Y.fieldP zP rfl) (L.take rfl (L.iteB h rfl (Y.loadG (q:=0) (si:=1) (ps:=1) (j:=0) (X:=[.bool gb6]) ag4 rfl rfl rfl rfl rfl rfl) (fun c24 h=>?_) (fun c24 h=>?_)))))
         ·exact L.r 1 rfl (L.nil (E.jJ ⟨true,rfl,rfl,h⟩ hI))
         exact L.r 1 rfl (L.nil (E.jJ ⟨false,rfl,rfl,h⟩ hI))
        exact L.r 4 rfl (L.nil (E.jJ ⟨false,rfl,rfl,h⟩ hI))
       rintro _ _ ⟨gb14,rfl,rfl,h⟩
       rw [qhi] at h
       rcases gb14 with _ | _
       ·replace h:=zn h
        refine L.r 2 rfl (ln (W.condF rfl (sr ?_)))
        obtain ⟨_,en12,h⟩:=qc h
        obtain ⟨_,en12⟩:=qd en12
        refine L.y rfl (Y.loadSR (q:=0) (ps:=0) [] (tQp gx5 gb6 gl7) [] zK qA rfl rfl fl0 (by simp [zl,en12])) (L.storeSR (q:=2) (ps:=0) [] tQd (tQp gx5 gb6 gl7) [] qA rfl rfl (qw (qT rfl za) (qw (qT rfl za) (qw (yP (qp _)) xt))) rfl fl0 (by simp [zl,en3]) (by simp [zl,en12]) (L.to (D:=Cls w [] [.obj b2 (List.flatten [[.int .i64 gx5],[.bool gb6],(zr (fzr SR) (fun _=>[]) gl7).flatten]) 119,.ss (zs sd0 (fun _=>[]) gl7),.obj b1 (List.flatten [[.int .i64 gx5],[.bool gb6],(zr (fzr SR) (fun _=>[]) gl7).flatten]) 119,.ss (zs sd0 (fun _=>[]) gl7)]) (fun _ hw=>by simp only [zj,tQA,tQP,tQS,tQV,tQY,tQZ,wg,we,jZ,vy,wd,vx,k7,kS,kZ,tQj,tQs,tQz] at hw ⊢;exact hw) (L.r 1 rfl (ln (W.ret (E.blockR (E.blockR (E.KSR (E.KLR (E.blockR (E.KSR (E.retR2 rfl (Rv.cellW (i:=2) (c:=qfI gx5 gb6 gl7) zK qA rfl rfl (by simp [zl,en12])) (Rv.tmp rfl) (fun w1 hw=>?_)))))))))))))
        cases h
        exact ⟨_,_,rfl,⟨rfl,rfl⟩,hw.s []⟩
       replace h:=zm h
       refine L.r 2 rfl (ln (W.condT rfl (W.block (W.loopJ (fun m gs D=>∃ gs15 gl16,gs=((2,pt b1 0)::(4,pt b2 0)::(8,st gs15)::qlN u0 a0 gx4)∧D=tQV w b2 gx5 gb6 gl16 b1∧qeP gx5 gb6 gx4 go1 m gs15 gl16=some r) ⟨s11,gl7,rfl,rfl,h⟩ ⟨rfl,rfl,rfl,rfl,rfl,rfl,trivial⟩ hI ?_))))
       rintro m _ _ ⟨gs15,gl16,rfl,rfl,h⟩
       rcases m with _ | m
       ·rw [qeP] at h;cases h
       rw [qeP] at h
       generalize hg2:qeP gx5 gb6 gx4 go1 m=go2 at h
       rw [qj9] at h
       refine W.seq (sr (L.r 1 rfl (L.ite h rfl (Y.neqS rfl rfl) (fun c13 h=>?_) (fun c13 h=>?_))))
       ·refine ln (W.condT rfl (W.skip (E.thenN (W.block (sr (L.r 1 rfl ?_))))))
        obtain ⟨x14,s15,s16,b17,e18,h⟩:=qbc h
        refine L.y rfl (Y.does qnv rfl (fun w' hw=>(W72 gs15 w' _ e18).mono (fun _ _ h=>h.1))) (L.r 4 rfl (L.iteB h rfl (Y.extract rfl rfl) (fun c19 h=>?_) (fun c19 h=>?_)))
        ·refine L.r 4 rfl (ln (W.seq (sr (L.r 1 rfl (L.y rfl (Y.not rfl) (ln (W.condF rfl (W.skip (E.thenN (W.region ?_))))))))))
         refine L.r 3 rfl (L.y rfl (Y.fieldP kz rfl) (L.m (V:=fun _=>pt b2 (2+x14.toNat*1)) h rfl (Y.indexAS (l:=gl16) Tryz.underlying59 sz9 rfl rfl) (fun x20 ex20 h=>(L.storeZg (si:=2) (ps:=2) (row:=(fzr SR)) (sds:=sd0) (vs:=(fun _=>[])) (q:=0) (s:=1) (c:=0) (u1:=s15) (vals:=[st s15]) (j:=0) h sz9 rfl rfl rfl rfl rfl (qT rfl za) rfl rfl rfl rfl (fun _ _=>rfl) (qg ex20) rfl rfl (fun _ _=>rfl) rfl ?_))))
         intro l21 el21 h
         exact L.r 1 rfl (L.nil (E.blockN (E.aJ ⟨s16,l21,rfl,rfl,by rw [hg2];exact h⟩ hI)))
        refine L.r 4 rfl (ln (W.seq (sr (L.r 1 rfl (L.y rfl (Y.not rfl) (ln (W.condT rfl (sr ?_))))))))
        obtain ⟨_,en22,h⟩:=qc h
        obtain ⟨_,en22⟩:=qd en22
        refine L.y rfl (Y.loadSR (q:=0) (ps:=0) [] (tQp gx5 gb6 gl16) [] zK qA rfl rfl fl0 (by simp [zl,en22])) (L.storeSR (q:=2) (ps:=0) [] tQd (tQp gx5 gb6 gl16) [] qA rfl rfl (qw (qT rfl za) (qw (qT rfl za) (qw (yP (qp _)) xt))) rfl fl0 (by simp [zl,en3]) (by simp [zl,en22]) (L.to (D:=Cls w [] [.obj b2 (List.flatten [[.int .i64 gx5],[.bool gb6],(zr (fzr SR) (fun _=>[]) gl16).flatten]) 119,.ss (zs sd0 (fun _=>[]) gl16),.obj b1 (List.flatten [[.int .i64 gx5],[.bool gb6],(zr (fzr SR) (fun _=>[]) gl16).flatten]) 119,.ss (zs sd0 (fun _=>[]) gl16)]) (fun _ hw=>by simp only [zj,tQA,tQP,tQS,tQV,tQY,tQZ,wg,we,jZ,vy,wd,vx,k7,kS,kZ,tQj,tQs,tQz] at hw ⊢;exact hw) (L.r 1 rfl (ln (W.ret (E.thenR (E.blockR (E.KLR (E.blockR (E.blockR (E.blockR (E.KSR ?_))))))))))))
        refine E.KLR (E.blockR (E.KSR (E.retR2 rfl (Rv.cellW (i:=2) (c:=qfI gx5 gb6 gl16) zK qA rfl rfl (by simp [zl,en22])) (Rv.tmp rfl) (fun w1 hw=>?_))))
        cases h
        exact ⟨_,_,rfl,⟨rfl,rfl⟩,hw.s []⟩
       exact ln (W.condF rfl (W.exit (E.thenX (E.KLX (E.blockX (E.blockN (E.blockN (E.jJ ⟨gx5,gb6,gl16,rfl,rfl,h⟩ hI))))))))
      replace h:=zm h
      refine L.r 9 rfl (ln (W.condT rfl (W.block (W.loopJ (fun m gs D=>∃ gs17 gl18,gs=((2,pt b1 0)::(4,pt b2 0)::(8,st gs17)::qlN u0 a0 gx4)∧D=tQV w b2 gx5 gb6 gl18 b1∧qeO gx5 gb6 gx4 go1 m gs17 gl18=some r) ⟨s11,gl7,rfl,rfl,h⟩ ⟨rfl,rfl,rfl,rfl,rfl,rfl,trivial⟩ hI ?_))))
      rintro m _ _ ⟨gs17,gl18,rfl,rfl,h⟩
      rcases m with _ | m
      ·rw [qeO] at h;cases h
      rw [qeO] at h
      generalize hg3:qeO gx5 gb6 gx4 go1 m=go3 at h
      rw [qj8] at h
      refine W.seq (sr (L.r 1 rfl (L.ite h rfl (Y.neqS rfl rfl) (fun c25 h=>?_) (fun c25 h=>?_))))
      ·refine ln (W.condT rfl (W.skip (E.thenN (W.block (sr (L.r 1 rfl ?_))))))
       obtain ⟨x26,s27,s28,b29,e30,h⟩:=qbc h
       refine L.y rfl (Y.does qnv rfl (fun w' hw=>(W72 gs17 w' _ e30).mono (fun _ _ h=>h.1))) (L.r 4 rfl (L.iteB h rfl (Y.extract rfl rfl) (fun c31 h=>?_) (fun c31 h=>?_)))
       ·refine L.r 4 rfl (ln (W.seq (sr (L.r 1 rfl (L.y rfl (Y.not rfl) (ln (W.condF rfl (W.skip (E.thenN (W.region ?_))))))))))
        refine L.r 3 rfl (L.y rfl (Y.fieldP kz rfl) (L.m (V:=fun _=>pt b2 (2+x26.toNat*1)) h rfl (Y.indexAS (l:=gl18) Tryz.underlying59 sz9 rfl rfl) (fun x32 ex32 h=>(L.storeZg (si:=2) (ps:=2) (row:=(fzr SR)) (sds:=sd0) (vs:=(fun _=>[])) (q:=0) (s:=1) (c:=0) (u1:=s27) (vals:=[st s27]) (j:=0) h sz9 rfl rfl rfl rfl rfl (qT rfl za) rfl rfl rfl rfl (fun _ _=>rfl) (qg ex32) rfl rfl (fun _ _=>rfl) rfl ?_))))
        intro l33 el33 h
        exact L.r 1 rfl (L.nil (E.blockN (E.aJ ⟨s28,l33,rfl,rfl,by rw [hg3];exact h⟩ hI)))
       refine L.r 4 rfl (ln (W.seq (sr (L.r 1 rfl (L.y rfl (Y.not rfl) (ln (W.condT rfl (sr ?_))))))))
       obtain ⟨_,en34,h⟩:=qc h
       obtain ⟨_,en34⟩:=qd en34
       refine L.y rfl (Y.loadSR (q:=0) (ps:=0) [] (tQp gx5 gb6 gl18) [] zK qA rfl rfl fl0 (by simp [zl,en34])) (L.storeSR (q:=2) (ps:=0) [] tQd (tQp gx5 gb6 gl18) [] qA rfl rfl (qw (qT rfl za) (qw (qT rfl za) (qw (yP (qp _)) xt))) rfl fl0 (by simp [zl,en3]) (by simp [zl,en34]) (L.to (D:=Cls w [] [.obj b2 (List.flatten [[.int .i64 gx5],[.bool gb6],(zr (fzr SR) (fun _=>[]) gl18).flatten]) 119,.ss (zs sd0 (fun _=>[]) gl18),.obj b1 (List.flatten [[.int .i64 gx5],[.bool gb6],(zr (fzr SR) (fun _=>[]) gl18).flatten]) 119,.ss (zs sd0 (fun _=>[]) gl18)]) (fun _ hw=>by simp only [zj,tQA,tQP,tQS,tQV,tQY,tQZ,wg,we,jZ,vy,wd,vx,k7,kS,kZ,tQj,tQs,tQz] at hw ⊢;exact hw) (L.r 1 rfl (ln (W.ret (E.thenR (E.blockR (E.KLR (E.blockR (E.blockR (E.blockR (E.KSR ?_))))))))))))
       refine E.KLR (E.blockR (E.KSR (E.retR2 rfl (Rv.cellW (i:=2) (c:=qfI gx5 gb6 gl18) zK qA rfl rfl (by simp [zl,en34])) (Rv.tmp rfl) (fun w1 hw=>?_))))
       cases h
       exact ⟨_,_,rfl,⟨rfl,rfl⟩,hw.s []⟩
      exact ln (W.condF rfl (W.exit (E.thenX (E.KLX (E.blockX (E.blockN (E.blockN (E.jJ ⟨gx5,gb6,gl18,rfl,rfl,h⟩ hI))))))))
     replace h:=zm h
     refine L.r 2 rfl (L.take rfl (L.ite h rfl (Y.eqlS rfl rfl) (fun c37 h=>?_) (fun c37 h=>?_)))
     ·exact L.r 2 rfl (ln (W.condT rfl (W.region (L.y rfl (Y.fieldP zP rfl) (L.storeG (q:=0) (si:=1) (ps:=1) (j:=0) (X:=[.bool gb6]) (vals:=[.bool true]) sz4 rfl rfl rfl rfl rfl (by simp [Value.oneCell',Value.cells,st,pt,el]) rfl rfl rfl rfl (L.nil (E.blockN (E.blockN (E.jJ ⟨gx5,true,gl7,rfl,rfl,h⟩ hI)))))))))
     refine L.r 2 rfl (ln (W.condF rfl (sr (L.cutJ 7 (fun gs D=>∃ gb19,gs=[(2,pt b1 0),(4,pt b2 0),(7,st s10),(8,st s11),(17,u0),(18,.int .i64 (a0.length:Int)),(19,.int .i64 gx4),(81,.bool gb19)]∧D=tQV w b2 gx5 gb6 gl7 b1∧qhh gx5 gb6 gx4 go1 s11 gl7 s10 gb19=some r) ?_ ?_))))
     ·refine L.r 1 rfl (L.ite h rfl (Y.eqlS rfl rfl) (fun c61 h=>?_) (fun c61 h=>?_))
      ·refine L.r 1 rfl (L.take rfl (L.y rfl (Y.fieldP zP rfl) (L.take rfl (L.iteB h rfl (Y.loadG (q:=0) (si:=1) (ps:=1) (j:=0) (X:=[.bool gb6]) ag4 rfl rfl rfl rfl rfl rfl) (fun c62 h=>?_) (fun c62 h=>?_)))))
       ·exact L.take rfl (L.y rfl (Y.not rfl) (L.r 1 rfl (L.nil (E.jJ ⟨false,rfl,rfl,h⟩ hI))))
       exact L.take rfl (L.y rfl (Y.not rfl) (L.r 1 rfl (L.nil (E.jJ ⟨true,rfl,rfl,h⟩ hI))))
      exact L.r 5 rfl (L.nil (E.jJ ⟨false,rfl,rfl,h⟩ hI))
     rintro _ _ ⟨gb19,rfl,rfl,h⟩
     rw [qhh] at h
     rcases gb19 with _ | _
     ·replace h:=zn h
      refine L.cutJ 7 (fun gs D=>∃ gb20,gs=[(2,pt b1 0),(4,pt b2 0),(8,st s11),(17,u0),(18,.int .i64 (a0.length:Int)),(19,.int .i64 gx4),(82,.bool false),(88,.bool gb20)]∧D=tQV w b2 gx5 gb6 gl7 b1∧qhg gx5 gb6 gx4 go1 s11 gl7 gb20=some r) ?_ ?_
      ·refine L.r 2 rfl (L.take rfl (L.ite h rfl (Y.eqlS rfl rfl) (fun c49 h=>?_) (fun c49 h=>?_)))
       ·refine L.r 1 rfl (L.take rfl (L.y rfl (Y.fieldP zP rfl) (L.take rfl (L.iteB h rfl (Y.loadG (q:=0) (si:=1) (ps:=1) (j:=0) (X:=[.bool gb6]) ag4 rfl rfl rfl rfl rfl rfl) (fun c50 h=>?_) (fun c50 h=>?_)))))
        ·exact L.r 1 rfl (L.nil (E.jJ ⟨true,rfl,rfl,h⟩ hI))
        exact L.r 1 rfl (L.nil (E.jJ ⟨false,rfl,rfl,h⟩ hI))
       exact L.r 4 rfl (L.nil (E.jJ ⟨false,rfl,rfl,h⟩ hI))
      rintro _ _ ⟨gb20,rfl,rfl,h⟩
      rw [qhg] at h
      rcases gb20 with _ | _
      ·replace h:=zn h
       refine L.r 2 rfl (ln (W.condF rfl (sr ?_)))
       obtain ⟨_,en38,h⟩:=qc h
       obtain ⟨_,en38⟩:=qd en38
       refine L.y rfl (Y.loadSR (q:=0) (ps:=0) [] (tQp gx5 gb6 gl7) [] zK qA rfl rfl fl0 (by simp [zl,en38])) (L.storeSR (q:=2) (ps:=0) [] tQd (tQp gx5 gb6 gl7) [] qA rfl rfl (qw (qT rfl za) (qw (qT rfl za) (qw (yP (qp _)) xt))) rfl fl0 (by simp [zl,en3]) (by simp [zl,en38]) (L.to (D:=Cls w [] [.obj b2 (List.flatten [[.int .i64 gx5],[.bool gb6],(zr (fzr SR) (fun _=>[]) gl7).flatten]) 119,.ss (zs sd0 (fun _=>[]) gl7),.obj b1 (List.flatten [[.int .i64 gx5],[.bool gb6],(zr (fzr SR) (fun _=>[]) gl7).flatten]) 119,.ss (zs sd0 (fun _=>[]) gl7)]) (fun _ hw=>by simp only [zj,tQA,tQP,tQS,tQV,tQY,tQZ,wg,we,jZ,vy,wd,vx,k7,kS,kZ,tQj,tQs,tQz] at hw ⊢;exact hw) (L.r 1 rfl (ln (W.ret (E.blockR (E.blockR (E.KSR (E.KLR (E.blockR (E.KSR (E.retR2 rfl (Rv.cellW (i:=2) (c:=qfI gx5 gb6 gl7) zK qA rfl rfl (by simp [zl,en38])) (Rv.tmp rfl) (fun w1 hw=>?_)))))))))))))
       cases h
       exact ⟨_,_,rfl,⟨rfl,rfl⟩,hw.s []⟩
      replace h:=zm h
      refine L.r 2 rfl (ln (W.condT rfl (W.block (W.loopJ (fun m gs D=>∃ gs21 gl22,gs=((2,pt b1 0)::(4,pt b2 0)::(8,st gs21)::qlN u0 a0 gx4)∧D=tQV w b2 gx5 gb6 gl22 b1∧qeN gx5 gb6 gx4 go1 m gs21 gl22=some r) ⟨s11,gl7,rfl,rfl,h⟩ ⟨rfl,rfl,rfl,rfl,rfl,rfl,trivial⟩ hI ?_))))
      rintro m _ _ ⟨gs21,gl22,rfl,rfl,h⟩
      rcases m with _ | m
      ·rw [qeN] at h;cases h
      rw [qeN] at h
      generalize hg4:qeN gx5 gb6 gx4 go1 m=go4 at h
      rw [qj7] at h
      refine W.seq (sr (L.r 1 rfl (L.ite h rfl (Y.neqS rfl rfl) (fun c39 h=>?_) (fun c39 h=>?_))))
      ·refine ln (W.condT rfl (W.skip (E.thenN (W.block (sr (L.r 1 rfl ?_))))))
       obtain ⟨x40,s41,s42,b43,e44,h⟩:=qbc h
       refine L.y rfl (Y.does qnv rfl (fun w' hw=>(W72 gs21 w' _ e44).mono (fun _ _ h=>h.1))) (L.r 4 rfl (L.iteB h rfl (Y.extract rfl rfl) (fun c45 h=>?_) (fun c45 h=>?_)))
       ·refine L.r 4 rfl (ln (W.seq (sr (L.r 1 rfl (L.y rfl (Y.not rfl) (ln (W.condF rfl (W.skip (E.thenN (W.region ?_))))))))))
        refine L.r 3 rfl (L.y rfl (Y.fieldP kz rfl) (L.m (V:=fun _=>pt b2 (2+x40.toNat*1)) h rfl (Y.indexAS (l:=gl22) Tryz.underlying59 sz9 rfl rfl) (fun x46 ex46 h=>(L.storeZg (si:=2) (ps:=2) (row:=(fzr SR)) (sds:=sd0) (vs:=(fun _=>[])) (q:=0) (s:=1) (c:=0) (u1:=s41) (vals:=[st s41]) (j:=0) h sz9 rfl rfl rfl rfl rfl (qT rfl za) rfl rfl rfl rfl (fun _ _=>rfl) (qg ex46) rfl rfl (fun _ _=>rfl) rfl ?_))))
        intro l47 el47 h
        exact L.r 1 rfl (L.nil (E.blockN (E.aJ ⟨s42,l47,rfl,rfl,by rw [hg4];exact h⟩ hI)))
       refine L.r 4 rfl (ln (W.seq (sr (L.r 1 rfl (L.y rfl (Y.not rfl) (ln (W.condT rfl (sr ?_))))))))
       obtain ⟨_,en48,h⟩:=qc h
       obtain ⟨_,en48⟩:=qd en48
       refine L.y rfl (Y.loadSR (q:=0) (ps:=0) [] (tQp gx5 gb6 gl22) [] zK qA rfl rfl fl0 (by simp [zl,en48])) (L.storeSR (q:=2) (ps:=0) [] tQd (tQp gx5 gb6 gl22) [] qA rfl rfl (qw (qT rfl za) (qw (qT rfl za) (qw (yP (qp _)) xt))) rfl fl0 (by simp [zl,en3]) (by simp [zl,en48]) (L.to (D:=Cls w [] [.obj b2 (List.flatten [[.int .i64 gx5],[.bool gb6],(zr (fzr SR) (fun _=>[]) gl22).flatten]) 119,.ss (zs sd0 (fun _=>[]) gl22),.obj b1 (List.flatten [[.int .i64 gx5],[.bool gb6],(zr (fzr SR) (fun _=>[]) gl22).flatten]) 119,.ss (zs sd0 (fun _=>[]) gl22)]) (fun _ hw=>by simp only [zj,tQA,tQP,tQS,tQV,tQY,tQZ,wg,we,jZ,vy,wd,vx,k7,kS,kZ,tQj,tQs,tQz] at hw ⊢;exact hw) (L.r 1 rfl (ln (W.ret (E.thenR (E.blockR (E.KLR (E.blockR (E.blockR (E.blockR (E.KSR ?_))))))))))))
       refine E.KLR (E.blockR (E.KSR (E.retR2 rfl (Rv.cellW (i:=2) (c:=qfI gx5 gb6 gl22) zK qA rfl rfl (by simp [zl,en48])) (Rv.tmp rfl) (fun w1 hw=>?_))))
       cases h
       exact ⟨_,_,rfl,⟨rfl,rfl⟩,hw.s []⟩
      exact ln (W.condF rfl (W.exit (E.thenX (E.KLX (E.blockX (E.blockN (E.blockN (E.jJ ⟨gx5,gb6,gl22,rfl,rfl,h⟩ hI))))))))
     replace h:=zm h
     refine L.r 9 rfl (ln (W.condT rfl (W.block (W.loopJ (fun m gs D=>∃ gs23 gl24,gs=((2,pt b1 0)::(4,pt b2 0)::(8,st gs23)::qlN u0 a0 gx4)∧D=tQV w b2 gx5 gb6 gl24 b1∧qeM gx5 gb6 gx4 go1 m gs23 gl24=some r) ⟨s11,gl7,rfl,rfl,h⟩ ⟨rfl,rfl,rfl,rfl,rfl,rfl,trivial⟩ hI ?_))))
     rintro m _ _ ⟨gs23,gl24,rfl,rfl,h⟩
     rcases m with _ | m
     ·rw [qeM] at h;cases h
     rw [qeM] at h
     generalize hg5:qeM gx5 gb6 gx4 go1 m=go5 at h
     rw [qj6] at h
     refine W.seq (sr (L.r 1 rfl (L.ite h rfl (Y.neqS rfl rfl) (fun c51 h=>?_) (fun c51 h=>?_))))
     ·refine ln (W.condT rfl (W.skip (E.thenN (W.block (sr (L.r 1 rfl ?_))))))
      obtain ⟨x52,s53,s54,b55,e56,h⟩:=qbc h
      refine L.y rfl (Y.does qnv rfl (fun w' hw=>(W72 gs23 w' _ e56).mono (fun _ _ h=>h.1))) (L.r 4 rfl (L.iteB h rfl (Y.extract rfl rfl) (fun c57 h=>?_) (fun c57 h=>?_)))
      ·refine L.r 4 rfl (ln (W.seq (sr (L.r 1 rfl (L.y rfl (Y.not rfl) (ln (W.condF rfl (W.skip (E.thenN (W.region ?_))))))))))
       refine L.r 3 rfl (L.y rfl (Y.fieldP kz rfl) (L.m (V:=fun _=>pt b2 (2+x52.toNat*1)) h rfl (Y.indexAS (l:=gl24) Tryz.underlying59 sz9 rfl rfl) (fun x58 ex58 h=>(L.storeZg (si:=2) (ps:=2) (row:=(fzr SR)) (sds:=sd0) (vs:=(fun _=>[])) (q:=0) (s:=1) (c:=0) (u1:=s53) (vals:=[st s53]) (j:=0) h sz9 rfl rfl rfl rfl rfl (qT rfl za) rfl rfl rfl rfl (fun _ _=>rfl) (qg ex58) rfl rfl (fun _ _=>rfl) rfl ?_))))
       intro l59 el59 h
       exact L.r 1 rfl (L.nil (E.blockN (E.aJ ⟨s54,l59,rfl,rfl,by rw [hg5];exact h⟩ hI)))
      refine L.r 4 rfl (ln (W.seq (sr (L.r 1 rfl (L.y rfl (Y.not rfl) (ln (W.condT rfl (sr ?_))))))))
      obtain ⟨_,qlj,h⟩:=qc h
      obtain ⟨_,qlj⟩:=qd qlj
      refine L.y rfl (Y.loadSR (q:=0) (ps:=0) [] (tQp gx5 gb6 gl24) [] zK qA rfl rfl fl0 (by simp [zl,qlj])) (L.storeSR (q:=2) (ps:=0) [] tQd (tQp gx5 gb6 gl24) [] qA rfl rfl (qw (qT rfl za) (qw (qT rfl za) (qw (yP (qp _)) xt))) rfl fl0 (by simp [zl,en3]) (by simp [zl,qlj]) (L.to (D:=Cls w [] [.obj b2 (List.flatten [[.int .i64 gx5],[.bool gb6],(zr (fzr SR) (fun _=>[]) gl24).flatten]) 119,.ss (zs sd0 (fun _=>[]) gl24),.obj b1 (List.flatten [[.int .i64 gx5],[.bool gb6],(zr (fzr SR) (fun _=>[]) gl24).flatten]) 119,.ss (zs sd0 (fun _=>[]) gl24)]) (fun _ hw=>by simp only [zj,tQA,tQP,tQS,tQV,tQY,tQZ,wg,we,jZ,vy,wd,vx,k7,kS,kZ,tQj,tQs,tQz] at hw ⊢;exact hw) (L.r 1 rfl (ln (W.ret (E.thenR (E.blockR (E.KLR (E.blockR (E.blockR (E.blockR (E.KSR ?_))))))))))))
      refine E.KLR (E.blockR (E.KSR (E.retR2 rfl (Rv.cellW (i:=2) (c:=qfI gx5 gb6 gl24) zK qA rfl rfl (by simp [zl,qlj])) (Rv.tmp rfl) (fun w1 hw=>?_))))
      cases h
      exact ⟨_,_,rfl,⟨rfl,rfl⟩,hw.s []⟩
     exact ln (W.condF rfl (W.exit (E.thenX (E.KLX (E.blockX (E.blockN (E.blockN (E.jJ ⟨gx5,gb6,gl24,rfl,rfl,h⟩ hI))))))))
    replace h:=zm h
    refine W.condT rfl (sr (L.r 1 rfl ?_))
    obtain ⟨x65,x66,x67,e68,h⟩:=zt h
    refine L.y rfl (Y.does qgF rfl (fun w' hw=>(W71 s11 w' _ e68).mono (fun _ _ h=>h.1))) (L.r 7 rfl (ln (W.seq (sr (L.cutJ 6 (fun gs D=>∃ gb25,gs=[(2,pt b1 0),(4,pt b2 0),(8,st s11),(9,.int .i64 x65),(10,.int .i64 x66),(17,u0),(18,.int .i64 (a0.length:Int)),(19,.int .i64 gx4),(50,.bool gb25)]∧D=tQV w b2 gx5 gb6 gl7 b1∧qhf gl7 gx5 gb6 x66 s11 gx4 go1 x65 gb25=some r) ?_ ?_)))))
    ·refine L.r 1 rfl (L.ite h rfl (Y.neq rfl rfl) (fun c72 h=>?_) (fun c72 h=>?_))
     ·exact L.r 4 rfl (L.nil (E.jJ ⟨true,rfl,rfl,h⟩ hI))
     refine L.r 2 rfl (L.take rfl (L.ite h rfl (Y.lss rfl rfl) (fun c73 h=>?_) (fun c73 h=>?_)))
     ·exact L.r 1 rfl (L.nil (E.jJ ⟨true,rfl,rfl,h⟩ hI))
     exact L.r 1 rfl (L.nil (E.jJ ⟨false,rfl,rfl,h⟩ hI))
    rintro _ _ ⟨gb25,rfl,rfl,h⟩
    rw [qhf] at h
    rcases gb25 with _ | _
    ·replace h:=zn h
     refine L.r 3 rfl (L.take rfl (L.y rfl (Y.lenS Tryz.underlying9 rfl) (L.take rfl (L.ite h rfl (Y.neq rfl rfl) (fun c69 h=>?_) (fun c69 h=>?_)))))
     ·refine L.r 1 rfl (ln (W.condT rfl (sr ?_)))
      obtain ⟨_,en70,h⟩:=qc h
      obtain ⟨_,en70⟩:=qd en70
      refine L.y rfl (Y.loadSR (q:=0) (ps:=0) [] (tQp gx5 gb6 gl7) [] zK qA rfl rfl fl0 (by simp [zl,en70])) (L.storeSR (q:=2) (ps:=0) [] tQd (tQp gx5 gb6 gl7) [] qA rfl rfl (qw (qT rfl za) (qw (qT rfl za) (qw (yP (qp _)) xt))) rfl fl0 (by simp [zl,en3]) (by simp [zl,en70]) (L.to (D:=Cls w [] [.obj b2 (List.flatten [[.int .i64 gx5],[.bool gb6],(zr (fzr SR) (fun _=>[]) gl7).flatten]) 119,.ss (zs sd0 (fun _=>[]) gl7),.obj b1 (List.flatten [[.int .i64 gx5],[.bool gb6],(zr (fzr SR) (fun _=>[]) gl7).flatten]) 119,.ss (zs sd0 (fun _=>[]) gl7)]) (fun _ hw=>by simp only [zj,tQA,tQP,tQS,tQV,tQY,tQZ,wg,we,jZ,vy,wd,vx,k7,kS,kZ,tQj,tQs,tQz] at hw ⊢;exact hw) (L.r 1 rfl (ln (W.ret (E.thenR (E.blockR (E.blockR (E.KSR (E.KLR (E.blockR (E.KSR ?_))))))))))))
      refine E.retR2 rfl (Rv.cellW (i:=2) (c:=qfI gx5 gb6 gl7) zK qA rfl rfl (by simp [zl,en70])) (Rv.tmp rfl) (fun w1 hw=>?_)
      cases h
      exact ⟨_,_,rfl,⟨rfl,rfl⟩,hw.s []⟩
     exact L.r 1 rfl (ln (W.condF rfl (W.skip (E.thenN (W.region (L.r 1 rfl (L.y rfl (Y.fieldP vQ rfl) (L.storeG (q:=0) (si:=0) (ps:=0) (j:=0) (X:=(jX gx5)) (vals:=(jX x65)) sz3 rfl rfl rfl rfl rfl (by simp [Value.oneCell',Value.cells,st,pt,el]) rfl rfl sl0 rfl (L.y rfl (Y.fieldP zP rfl) (L.storeG (q:=0) (si:=1) (ps:=1) (j:=0) (X:=[.bool gb6]) (vals:=[.bool false]) sz4 rfl rfl rfl rfl rfl (by simp [Value.oneCell',Value.cells,st,pt,el]) rfl rfl rfl rfl (L.nil (E.blockN (E.blockN (E.jJ ⟨x65,false,gl7,rfl,rfl,h⟩ hI))))))))))))))
    replace h:=zm h
    refine L.r 6 rfl (ln (W.condT rfl (sr ?_)))
    obtain ⟨_,qgF,h⟩:=qc h
    obtain ⟨_,qgF⟩:=qd qgF
    refine L.y rfl (Y.loadSR (q:=0) (ps:=0) [] (tQp gx5 gb6 gl7) [] zK qA rfl rfl fl0 (by simp [zl,qgF])) (L.storeSR (q:=2) (ps:=0) [] tQd (tQp gx5 gb6 gl7) [] qA rfl rfl (qw (qT rfl za) (qw (qT rfl za) (qw (yP (qp _)) xt))) rfl fl0 (by simp [zl,en3]) (by simp [zl,qgF]) (L.to (D:=Cls w [] [.obj b2 (List.flatten [[.int .i64 gx5],[.bool gb6],(zr (fzr SR) (fun _=>[]) gl7).flatten]) 119,.ss (zs sd0 (fun _=>[]) gl7),.obj b1 (List.flatten [[.int .i64 gx5],[.bool gb6],(zr (fzr SR) (fun _=>[]) gl7).flatten]) 119,.ss (zs sd0 (fun _=>[]) gl7)]) (fun _ hw=>by simp only [zj,tQA,tQP,tQS,tQV,tQY,tQZ,wg,we,jZ,vy,wd,vx,k7,kS,kZ,tQj,tQs,tQz] at hw ⊢;exact hw) (L.r 1 rfl (ln (W.ret (E.thenR (E.blockR (E.blockR (E.KSR (E.KLR (E.blockR (E.KSR ?_))))))))))))
    refine E.retR2 rfl (Rv.cellW (i:=2) (c:=qfI gx5 gb6 gl7) zK qA rfl rfl (by simp [zl,qgF])) (Rv.tmp rfl) (fun w1 hw=>?_)
    cases h
    exact ⟨_,_,rfl,⟨rfl,rfl⟩,hw.s []⟩
   rintro _ _ ⟨gx8,gb9,gl10,rfl,rfl,h⟩
   rw [qbg] at h
   exact W.region (L.m (V:=fun x6=>.int .i64 x6) h rfl (Y.addM rfl rfl) (fun x6 ex6 h=>(L.r 1 rfl (L.nil (E.aJ ⟨x6,gx8,gb9,gl10,rfl,rfl,by rw [hg1];exact h⟩ hI)))))
  exact ln (W.seq (W.condF rfl (W.exit (E.thenX (E.KLX (E.blockX (E.jJ ⟨gx5,gb6,gl7,rfl,rfl,h⟩ hI)))))))
 rintro _ _ ⟨gx1,gb2,gl3,rfl,rfl,h⟩
 rw [qlC] at h
 refine sr ?_
 obtain ⟨_,en4,h⟩:=qc h
 obtain ⟨_,en4⟩:=qd en4
 refine L.y rfl (Y.loadSR (q:=0) (ps:=0) [] (tQp gx1 gb2 gl3) [] zK qA rfl rfl fl0 (by simp [zl,en4])) (L.storeSR (q:=2) (ps:=0) [] tQd (tQp gx1 gb2 gl3) [] qA rfl rfl (qw (qT rfl za) (qw (qT rfl za) (qw (yP (qp _)) xt))) rfl fl0 (by simp [zl,en3]) (by simp [zl,en4]) (L.to (D:=Cls w [] [.obj b2 (List.flatten [[.int .i64 gx1],[.bool gb2],(zr (fzr SR) (fun _=>[]) gl3).flatten]) 119,.ss (zs sd0 (fun _=>[]) gl3),.obj b1 (List.flatten [[.int .i64 gx1],[.bool gb2],(zr (fzr SR) (fun _=>[]) gl3).flatten]) 119,.ss (zs sd0 (fun _=>[]) gl3)]) (fun _ hw=>by simp only [zj,tQA,tQP,tQS,tQV,tQY,tQZ,wg,we,jZ,vy,wd,vx,k7,kS,kZ,tQj,tQs,tQz] at hw ⊢;exact hw) (L.r 1 rfl (ln (W.ret (E.retR2 rfl (Rv.cellW (i:=2) (c:=qfI gx1 gb2 gl3) zK qA rfl rfl (by simp [zl,en4])) (Rv.tmp rfl) (fun w1 hw=>?_)))))))
 cases h
 exact ⟨_,_,rfl,⟨rfl,rfl⟩,hw.s []⟩
set_option maxRecDepth 100000 in
set_option maxHeartbeats 8000000 in
theorem W14 (a0:Int) (A69:(List TStore)) (A114:(List TDisk)) (A152:(List TLog)) (gP69:Nat→Nat) (gP73:Nat→Nat) (gP114:Nat→Nat) (gP152:Nat→Nat) (qP69:Nat→List Value) (qP114:Nat→List Value) (qP152:Nat→List Value) (w:World) (r:((List TStore)×(List TDisk)×(List TLog)×Int×Int)) (h:M14 a0 A69 A114 A152=some r) (F:List Nat) (hc0:Cls w F (tQH gP69 gP73 gP152 qP69 A69::zd gP114 qP114 A114 gP152 qP152 A152) w):zu Tryz.prog 14 [VP gP114 a0] F w fun u m=>∃ G69 G152 Q69 Q114 Q152,Gr gP69 A69.length G69 r.1.length∧Gr gP152 A152.length G152 r.2.2.1.length∧u=.tuple #[VP G69 r.2.2.2.1,.int .i64 r.2.2.2.2]∧m=[zg G69 gP73 G152 Q69 r.1 [],qS gP114 Q114 r.2.1 [],qY gP114 G152 Q152 r.2.2.1 []]:=by
 rw [M14] at h
 obtain ⟨g69,hg69⟩:∃ g,g=gP69:=⟨_,rfl⟩
 have hGr69:Gr g69 A69.length gP69 A69.length:=hg69 ▸ Gr.refl _ _
 obtain ⟨g152,hg152⟩:∃ g,g=gP152:=⟨_,rfl⟩
 have hGr152:Gr g152 A152.length gP152 A152.length:=hg152 ▸ Gr.refl _ _
 refine body (n:=105) Tryz.func14 rfl rfl rfl hc0 (sr (L.r 2 rfl (nsr (L.r 1 rfl (L.to (D:=Cls w F [tQt gP114 qP114 A114,tQH gP69 gP73 gP152 qP69 A69,tQw gP114 gP152 qP152 A152]) (sI [1,0,2]) ?_)))))
 obtain ⟨x1,e2,h⟩:=qc h
 refine L.doesP (A:=[tQt gP114 qP114 A114]) (M:=[tQH gP69 gP73 gP152 qP69 A69,tQw gP114 gP152 qP152 A152]) rfl (by kernel_rfl) rfl (fun w' hw=>W35 a0 A114 gP114 qP114 w' _ e2 _ hw.lend) ?_
 rintro _ _ ⟨rfl,rfl⟩
 refine L.to (D:=Cls w F [tQt gP114 qP114 A114,tQH gP69 gP73 gP152 qP69 A69,tQw gP114 gP152 qP152 A152]) hI (L.m (V:=fun x3=>.int .i64 x3) h rfl (Y.quoM rfl rfl) (fun x3 ex3 h=>(L.r 1 rfl (nsr (L.y rfl (Y.build (cells:=#[.pointer none,.pointer none,.int .i64 0,.int .i64 0,.bool false,.int .i64 0,tQm,tQm,tQm,tQm,tQm,tQm,tQm,tQm,tQm,tQm,tQm,tQm,tQm,tQm,tQm,tQm,tQm,tQm,tQm,tQm,tQm,tQm]) rfl (by kernel_rfl)) (L.box rfl rfl ?_))))))
 intro b4
 refine L.toSeg (S:=((zr (fzr (PR gP152)) (fun _=>[]) qmh).flatten::qnX)) rfl (L.ssNil (sds:=sd0) (vs:=(fun _=>[])) (xs:=qmh) (zb ji _) (L.ssNil (sds:=yu) (vs:=(fun _=>[xn])) (xs:=tQaX) (zb (qiK rfl rfl ji) _) (L.r 1 rfl (nsr (L.alloc rfl qnM ?_)))))
 intro b5
 refine L.toSeg (S:=([.int .i64 0]::[.bool false]::tQbh.flatten::tQd)) rfl (L.ssNil (sds:=sd0) (vs:=(fun _=>[])) (xs:=tQab) (zb ji _) (L.ssNil (sds:=sd0) (vs:=(fun _=>[])) (xs:=tQab) (zb ji _) (ln (W.seq (sr (L.r 1 rfl (ln (W.block (W.rounds 2 (W.seq ?_))))))))))
 refine W.region (L.y rfl (Y.lss rfl rfl) (ln (W.seq (W.condT rfl (W.skip (E.thenN (W.seq (W.block (sr (L.r 2 rfl (L.nil ?_)))))))))))
 refine E.thenN (sr (L.r 3 rfl (L.m (V:=fun x6=>.int .i64 x6) h rfl (Y.mulM rfl rfl) (fun x6 ex6 h=>(L.r 1 rfl ?_)))))
 obtain ⟨_,ck7,h⟩:=qc h
 replace ck7:=qz ck7
 obtain ⟨ck7_0,ck7_1⟩:=ck7
 refine L.to (D:=Cls w F (tQt gP114 qP114 A114::tQw gP114 gP152 qP152 A152::wg b5 b4 gP152 gP69 gP73 qP69 A69)) (sI [6,8,0,1,2,3,4,5,7]) ?_
 obtain ⟨l8,l9,x10,l11,x13,e14,h⟩:=vY h
 refine L.doesP (A:=[qS gP114 qP114 A114 [],qY gP114 gP152 qP152 A152 []]) (M:=[.ss (zs sd0 (fun _=>[]) (List.replicate 20 ([]:(List UInt8)))),.ss (zs sd0 (fun _=>[]) (List.replicate 20 ([]:(List UInt8)))),.obj b5 (List.flatten [[.int .i64 0],[.bool false],(zr (fzr SR) (fun _=>[]) (List.replicate 20 ([]:(List UInt8)))).flatten,[.int .i64 0],[.bool false],(zr (fzr SR) (fun _=>[]) (List.replicate 20 ([]:(List UInt8)))).flatten]) 120,.ss (zs (qF 84 2 TVersion.row) (fun _=>[xn]) (List.replicate 20 ([]:(List TVersion)))),.ss (zs sd0 (fun _=>[]) (List.replicate 2 ((-1):Int))),.obj b4 (List.flatten [(zr (fzr (PR gP152)) (fun _=>[]) (List.replicate 2 ((-1):Int))).flatten,[.int .i64 0],[.int .i64 0],[.bool false],[.int .i64 0],(zr qh (fun _=>[xn]) (List.replicate 20 ([]:(List TVersion)))).flatten,[.slice none 0 0],[.slice none 0 0]]) 69,zg gP69 gP73 gP152 qP69 A69 []]) rfl (by kernel_rfl) rfl (fun w' hw=>W36 a0 x6 x3 A114 A152 gP114 gP152 qP114 qP152 w' _ e14 _ hw.lend) ?_
 rintro _ _ ⟨gP152,q15,q16,v12,hg17,rfl,rfl⟩
 replace hGr152:=hGr152.trans hg17
 rw [w7 hg17 ck7_0]
 rw [qct hg17 _ _ (w8 ck7_1)]
 refine L.to (D:=Cls w F (tQt gP114 q15 l8::tQw gP114 gP152 q16 l9::tQD v12 l11::wg b5 b4 gP152 gP69 gP73 qP69 A69)) hI (L.r 7 rfl (ln (W.seq (sr (L.r 1 rfl (L.ite h rfl (Y.neq rfl rfl) (fun c18 h=>?_) (fun c18 h=>?_)))))))
 ·refine ln (W.condT rfl (sr (L.r 3 rfl (ln (W.ret (E.thenR (E.blockR (E.thenR (E.thenR (E.blockR ?_))))))))))
  refine E.thenR (E.ret2 rfl rfl rfl (fun w1 hw=>?_))
  cases h
  exact ⟨_,_,rfl,⟨_,_,_,_,_,(hg69 ▸ hGr69),(hg152 ▸ hGr152),rfl,rfl⟩,hw.s [9,0,1]⟩
 refine ln (W.condF rfl (W.skip (E.thenN (sr (L.r 1 rfl ?_)))))
 obtain ⟨x19,b20,e21,h⟩:=qt h
 refine L.y rfl (Y.does (by kernel_rfl) rfl (fun w' hw=>(W37 l11 v12 w' _ e21 (As.at_ (hw.get (i:=2) rfl))).mono (fun _ _ h=>h.1))) (L.r 2 rfl (L.iteB h rfl (Y.extract rfl rfl) (fun c22 h=>?_) (fun c22 h=>?_)))
 ·refine L.alloc rfl qay ?_
  intro b23
  refine L.toSeg (S:=tQd) rfl (L.ssNil (sds:=sd0) (vs:=(fun _=>[])) (xs:=tQab) (zb ji _) ?_)
  obtain ⟨_,en24,h⟩:=qc h
  obtain ⟨_,en24⟩:=qd en24
  obtain ⟨_,en25,h⟩:=qc h
  obtain ⟨_,en25⟩:=qd en25
  refine L.storeSR (q:=1) (ps:=0) [] tQd (tQk x19) [] qA rfl rfl (qw (qT rfl za) (qw (qT rfl za) (qw (yP (qp _)) xt))) rfl fl0 (by simp [zl,en24]) (by simp [zl,en25]) (L.to (D:=Cls w F [.ss (zs sd0 (fun _=>[]) x19.values_),.obj b23 (List.flatten [[.int .i64 x19.gen_],[.bool x19.whole_],(zr (fzr SR) (fun _=>[]) x19.values_).flatten]) 119,qS gP114 q15 l8 [],qY gP114 gP152 q16 l9 [],.sl v12 9 1 (l11.map SR),.ss (zs sd0 (fun _=>[]) (List.replicate 20 ([]:(List UInt8)))),.ss (zs sd0 (fun _=>[]) (List.replicate 20 ([]:(List UInt8)))),.obj b5 (List.flatten [[.int .i64 0],[.bool false],(zr (fzr SR) (fun _=>[]) (List.replicate 20 ([]:(List UInt8)))).flatten,[.int .i64 0],[.bool false],(zr (fzr SR) (fun _=>[]) (List.replicate 20 ([]:(List UInt8)))).flatten]) 120,.ss (zs (qF 84 2 TVersion.row) (fun _=>[xn]) (List.replicate 20 ([]:(List TVersion)))),.ss (zs sd0 (fun _=>[]) (List.replicate 2 ((-1):Int))),.obj b4 (List.flatten [(zr (fzr (PR gP152)) (fun _=>[]) (List.replicate 2 ((-1):Int))).flatten,[.int .i64 0],[.int .i64 0],[.bool false],[.int .i64 0],(zr qh (fun _=>[xn]) (List.replicate 20 ([]:(List TVersion)))).flatten,[.slice none 0 0],[.slice none 0 0]]) 69,zg gP69 gP73 gP152 qP69 A69 []]) (fun _ hw=>by simp only [zj,tQA,tQP,tQS,tQV,tQY,tQZ,wg,we,jZ,vy,wd,vx,k7,kS,kZ,tQj,tQs,tQz] at hw ⊢;exact hw) (L.r 1 rfl (ln (W.seq (sr (L.r 1 rfl (L.y rfl (Y.not rfl) (ln (W.condF rfl (W.skip ?_))))))))))
  refine E.thenN (W.drawn2 (k:=11) (stC [[8,10],[10]] [Cls w F (tQA x19::wK b23 x19::tQt gP114 q15 l8::tQw gP114 gP152 q16 l9::tQD v12 l11::wg b5 b4 gP152 gP69 gP73 qP69 A69),Cls w F [tQA x19,wK b23 x19,tQt gP114 q15 l8,tQw gP114 gP152 q16 l9,tQD v12 l11,tQs,tQs,.obj b5 (List.flatten ([.int .i64 0]::[.bool false]::tQbh.flatten::tQd)) 120,tQy,tQH gP69 gP73 gP152 qP69 A69]] (Cls w F [tQA x19,wK b23 x19,tQt gP114 q15 l8,tQw gP114 gP152 q16 l9,tQD v12 l11,tQs,tQy,tQH gP69 gP73 gP152 qP69 A69])) rfl mixed (fun _ hw=>hw.drew) (Sc.now (by kernel_rfl) hI) (V2.zz [] (Zc.on' (Zc.on' (Zc.fin hI) (sI [0,1,2,3,4,5,8,9])) (sI [0,1,2,3,4,5,8,11])) (fun hz43=>(V2.r [0,1,2,3] (by kernel_rfl) rfl (V2.q 4 [] hz43 rfl rfl (Y.loadSR (q:=1) (ps:=0) [] (tQk x19) [] zK qA rfl rfl fl0 (by simp [zl,en25])) (V2.r [5] (by kernel_rfl) rfl (V2.q 6 [] hz43 rfl rfl (Y.fieldP qgA rfl) (V2.zz [8,10] (Zc.at1 hI) (fun hz45=>(V2.m (i:=7) (V':=fun _=>pt b4 (0+(0:Int).toNat*1)) h (Nx2.of [8,10] (by kernel_rfl) rfl hz45) rfl rfl rfl (Y.indexAS (l:=qmh) Tryz.underlying64 qmj rfl rfl) (fun x46 ex46 h=>(V2.eff (i:=8) (by kernel_rfl) rfl (L.storeZg (si:=0) (ps:=0) (row:=(fzr (PR gP152))) (sds:=sd0) (vs:=(fun _=>[])) (q:=10) (s:=9) (c:=0) (u1:=x10) (vals:=[VP gP152 x10]) (j:=0) h qmj rfl rfl rfl (by rw [zL]) rfl (qT (qdd _ _) za) rfl rfl sl0 rfl (fun _ _=>rfl) (qg ex46) rfl rfl (fun _ _=>rfl) rfl ?_)))))))))))))
  intro l47 el47 h
  refine L.nil (E.toV2 (stC [[10]] [Cls w F [tQA x19,wK b23 x19,tQt gP114 q15 l8,tQw gP114 gP152 q16 l9,tQD v12 l11,tQs,tQs,.obj b5 (List.flatten ([.int .i64 0]::[.bool false]::tQbh.flatten::tQd)) 120,tQy,tQH gP69 gP73 gP152 qP69 A69]] (Cls w F [tQA x19,wK b23 x19,tQt gP114 q15 l8,tQw gP114 gP152 q16 l9,tQD v12 l11,tQs,tQy,tQH gP69 gP73 gP152 qP69 A69])) 8 (by kernel_rfl) (Sc.past rfl (Sc.stay hI (Sc.stayD hI))) (Sc.now (by kernel_rfl) (sI [0,1,2,3,4,5,6,7,8,11])) (V2.zz [10] (Zc.at1 hI) (fun hz49=>(V2.q 9 [10] hz49 rfl rfl (Y.indexP Tryz.underlying120 qA rfl rfl (by decide) (by decide)) (V2.eff (i:=10) (by kernel_rfl) rfl (L.storeSR (q:=7) (ps:=0) [] tQd (tQk x19) tQd qA rfl rfl (qw (qT rfl za) (qw (qT rfl za) (qw (yP (qp _)) xt))) rfl fl0 (by simp [zl,en24]) (by simp [zl,en25]) (L.to (D:=Cls w F [.ss (zs sd0 (fun _=>[]) x19.values_),.obj b23 (List.flatten [[.int .i64 x19.gen_],[.bool x19.whole_],(zr (fzr SR) (fun _=>[]) x19.values_).flatten]) 119,qS gP114 q15 l8 [],qY gP114 gP152 q16 l9 [],.sl v12 9 1 (l11.map SR),.ss (zs sd0 (fun _=>[]) (List.replicate 20 ([]:(List UInt8)))),.ss (zs sd0 (fun _=>[]) x19.values_),.obj b5 (List.flatten [[.int .i64 x19.gen_],[.bool x19.whole_],(zr (fzr SR) (fun _=>[]) x19.values_).flatten,[.int .i64 0],[.bool false],(zr (fzr SR) (fun _=>[]) (List.replicate 20 ([]:(List UInt8)))).flatten]) 120,.ss (zs (qF 84 2 TVersion.row) (fun _=>[xn]) (List.replicate 20 ([]:(List TVersion)))),.ss (zs sd0 (fun _=>[]) l47),.obj b4 (List.flatten [(zr (fzr (PR gP152)) (fun _=>[]) l47).flatten,[.int .i64 0],[.int .i64 0],[.bool false],[.int .i64 0],(zr qh (fun _=>[xn]) (List.replicate 20 ([]:(List TVersion)))).flatten,[.slice none 0 0],[.slice none 0 0]]) 69,zg gP69 gP73 gP152 qP69 A69 []]) (fun _ hw=>by simp only [zj,tQA,tQP,tQS,tQV,tQY,tQZ,wg,we,jZ,vy,wd,vx,k7,kS,kZ,tQj,tQs,tQz] at hw ⊢;exact hw) (L.nil (E.toV2 (stC [] [] (Cls w F [tQA x19,wK b23 x19,tQt gP114 q15 l8,tQw gP114 gP152 q16 l9,tQD v12 l11,tQs,tQy,tQH gP69 gP73 gP152 qP69 A69])) 10 (by kernel_rfl) (Sc.past rfl (Sc.stayD hI)) (Sc.atD (sI [0,1,2,3,4,5,8,11])) (V2.done (by kernel_rfl) (E.blockN (E.thenN (W.region (L.y rfl ((Y.addM rfl rfl _ (by decide:i64 (0+1)=some 1))) ?_))))))))))))))
  refine L.r 1 rfl (L.nil (E.rounds (sr (L.y rfl (Y.lss rfl rfl) (ln (W.seq (W.condT rfl (W.skip (E.thenN (W.seq (W.block ?_)))))))))))
  refine sr (L.r 2 rfl (nsr (L.r 3 rfl (L.m (V:=fun x50=>.int .i64 x50) h rfl (Y.mulM rfl rfl) (fun x50 ex50 h=>(L.r 1 rfl ?_))))))
  obtain ⟨_,ck51,h⟩:=qc h
  replace ck51:=qz ck51
  obtain ⟨ck51_0,ck51_1⟩:=ck51
  refine L.to (D:=Cls w F (tQt gP114 q15 l8::tQw gP114 gP152 q16 l9::we x19 b23 v12 l11 b5 l47 b4 gP152 gP69 gP73 qP69 A69)) (sI [2,3,0,1,4,5,6,7,8,9,10,11]) ?_
  obtain ⟨l52,l53,x54,l55,x57,e58,h⟩:=vY h
  refine L.doesP (A:=[qS gP114 q15 l8 [],qY gP114 gP152 q16 l9 []]) (M:=[.ss (zs sd0 (fun _=>[]) x19.values_),.obj b23 (List.flatten [[.int .i64 x19.gen_],[.bool x19.whole_],(zr (fzr SR) (fun _=>[]) x19.values_).flatten]) 119,.sl v12 9 1 (l11.map SR),.ss (zs sd0 (fun _=>[]) (List.replicate 20 ([]:(List UInt8)))),.ss (zs sd0 (fun _=>[]) x19.values_),.obj b5 (List.flatten [[.int .i64 x19.gen_],[.bool x19.whole_],(zr (fzr SR) (fun _=>[]) x19.values_).flatten,[.int .i64 0],[.bool false],(zr (fzr SR) (fun _=>[]) (List.replicate 20 ([]:(List UInt8)))).flatten]) 120,.ss (zs (qF 84 2 TVersion.row) (fun _=>[xn]) (List.replicate 20 ([]:(List TVersion)))),.ss (zs sd0 (fun _=>[]) l47),.obj b4 (List.flatten [(zr (fzr (PR gP152)) (fun _=>[]) l47).flatten,[.int .i64 0],[.int .i64 0],[.bool false],[.int .i64 0],(zr qh (fun _=>[xn]) (List.replicate 20 ([]:(List TVersion)))).flatten,[.slice none 0 0],[.slice none 0 0]]) 69,zg gP69 gP73 gP152 qP69 A69 []]) rfl (by kernel_rfl) rfl (fun w' hw=>W36 a0 x50 x3 l8 l9 gP114 gP152 q15 q16 w' _ e58 _ hw.lend) ?_
  rintro _ _ ⟨gP152,q59,q60,v56,hg61,rfl,rfl⟩
  replace hGr152:=hGr152.trans hg61
  rw [w7 hg61 ck51_0]
  rw [qct hg61 _ _ (w8 ck51_1)]
  refine L.to (D:=Cls w F (tQt gP114 q59 l52::tQw gP114 gP152 q60 l53::tQD v56 l55::we x19 b23 v12 l11 b5 l47 b4 gP152 gP69 gP73 qP69 A69)) hI (L.r 7 rfl (ln (W.seq (sr (L.r 1 rfl (L.ite h rfl (Y.neq rfl rfl) (fun c62 h=>?_) (fun c62 h=>?_)))))))
  ·refine ln (W.condT rfl (sr (L.r 3 rfl (ln (W.ret (E.thenR (E.blockR (E.thenR (E.thenR (E.blockR ?_))))))))))
   refine E.thenR (E.ret2 rfl rfl rfl (fun w1 hw=>?_))
   cases h
   exact ⟨_,_,rfl,⟨_,_,_,_,_,(hg69 ▸ hGr69),(hg152 ▸ hGr152),rfl,rfl⟩,hw.s [12,0,1]⟩
  refine ln (W.condF rfl (W.skip (E.thenN (sr (L.r 1 rfl ?_)))))
  obtain ⟨x63,b64,e65,h⟩:=qt h
  refine L.y rfl (Y.does (by kernel_rfl) rfl (fun w' hw=>(W37 l55 v56 w' _ e65 (As.at_ (hw.get (i:=2) rfl))).mono (fun _ _ h=>h.1))) (L.r 2 rfl (L.iteB h rfl (Y.extract rfl rfl) (fun c66 h=>?_) (fun c66 h=>?_)))
  ·refine L.alloc rfl qay ?_
   intro b67
   refine L.toSeg (S:=tQd) rfl (L.ssNil (sds:=sd0) (vs:=(fun _=>[])) (xs:=tQab) (zb ji _) ?_)
   obtain ⟨_,en68,h⟩:=qc h
   obtain ⟨_,en68⟩:=qd en68
   refine L.storeSR (q:=1) (ps:=0) [] tQd (tQk x63) [] qA rfl rfl (qw (qT rfl za) (qw (qT rfl za) (qw (yP (qp _)) xt))) rfl fl0 (by simp [zl,en24]) (by simp [zl,en68]) (L.to (D:=Cls w F [.ss (zs sd0 (fun _=>[]) x63.values_),.obj b67 (List.flatten [[.int .i64 x63.gen_],[.bool x63.whole_],(zr (fzr SR) (fun _=>[]) x63.values_).flatten]) 119,qS gP114 q59 l52 [],qY gP114 gP152 q60 l53 [],.sl v56 9 1 (l55.map SR),.ss (zs sd0 (fun _=>[]) x19.values_),.obj b23 (List.flatten [[.int .i64 x19.gen_],[.bool x19.whole_],(zr (fzr SR) (fun _=>[]) x19.values_).flatten]) 119,.sl v12 9 1 (l11.map SR),.ss (zs sd0 (fun _=>[]) (List.replicate 20 ([]:(List UInt8)))),.ss (zs sd0 (fun _=>[]) x19.values_),.obj b5 (List.flatten [[.int .i64 x19.gen_],[.bool x19.whole_],(zr (fzr SR) (fun _=>[]) x19.values_).flatten,[.int .i64 0],[.bool false],(zr (fzr SR) (fun _=>[]) (List.replicate 20 ([]:(List UInt8)))).flatten]) 120,.ss (zs (qF 84 2 TVersion.row) (fun _=>[xn]) (List.replicate 20 ([]:(List TVersion)))),.ss (zs sd0 (fun _=>[]) l47),.obj b4 (List.flatten [(zr (fzr (PR gP152)) (fun _=>[]) l47).flatten,[.int .i64 0],[.int .i64 0],[.bool false],[.int .i64 0],(zr qh (fun _=>[xn]) (List.replicate 20 ([]:(List TVersion)))).flatten,[.slice none 0 0],[.slice none 0 0]]) 69,zg gP69 gP73 gP152 qP69 A69 []]) (fun _ hw=>by simp only [zj,tQA,tQP,tQS,tQV,tQY,tQZ,wg,we,jZ,vy,wd,vx,k7,kS,kZ,tQj,tQs,tQz] at hw ⊢;exact hw) (L.r 1 rfl (ln (W.seq (sr (L.r 1 rfl (L.y rfl (Y.not rfl) (ln (W.condF rfl (W.skip ?_))))))))))
   refine E.thenN (W.drawn2 (k:=11) (stC [[8,10],[10]] [Cls w F (tQA x63::.obj b67 (List.flatten (tQk x63)) 119::tQt gP114 q59 l52::tQw gP114 gP152 q60 l53::tQD v56 l55::we x19 b23 v12 l11 b5 l47 b4 gP152 gP69 gP73 qP69 A69),Cls w F [tQA x63,wK b67 x63,tQt gP114 q59 l52,tQw gP114 gP152 q60 l53,tQD v56 l55,tQA x19,wK b23 x19,tQD v12 l11,tQs,tQA x19,.obj b5 (qnU x19) 120,tQy,tQH gP69 gP73 gP152 qP69 A69]] (Cls w F [tQA x63,wK b67 x63,tQt gP114 q59 l52,tQw gP114 gP152 q60 l53,tQD v56 l55,tQA x19,wK b23 x19,tQD v12 l11,tQA x19,tQy,tQH gP69 gP73 gP152 qP69 A69])) rfl mixed (fun _ hw=>hw.drew) (Sc.now (by kernel_rfl) hI) (V2.zz [] (Zc.on' (Zc.on' (Zc.fin hI) (sI [0,1,2,3,4,5,6,7,9,11,12])) (sI [0,1,2,3,4,5,6,7,9,11,14])) (fun hz86=>(V2.r [0,1,2,3] (by kernel_rfl) rfl (V2.q 4 [] hz86 rfl rfl (Y.loadSR (q:=1) (ps:=0) [] (tQk x63) [] zK qA rfl rfl fl0 (by simp [zl,en68])) (V2.r [5] (by kernel_rfl) rfl (V2.q 6 [] hz86 rfl rfl (Y.fieldP qgA rfl) (V2.zz [8,10] (Zc.at1 hI) (fun hz88=>(V2.m (i:=7) (V':=fun _=>pt b4 (0+(1:Int).toNat*1)) h (Nx2.of [8,10] (by kernel_rfl) rfl hz88) rfl rfl rfl (Y.indexAS (l:=l47) Tryz.underlying64 qmj rfl rfl) (fun x89 ex89 h=>(V2.eff (i:=8) (by kernel_rfl) rfl (L.storeZg (si:=0) (ps:=0) (row:=(fzr (PR gP152))) (sds:=sd0) (vs:=(fun _=>[])) (q:=13) (s:=12) (c:=0) (u1:=x54) (vals:=[VP gP152 x54]) (j:=0) h qmj rfl rfl rfl (by rw [zL]) rfl (qT (qdd _ _) za) rfl rfl sl0 rfl (fun _ _=>rfl) (qg ex89) rfl rfl (fun _ _=>rfl) rfl ?_)))))))))))))
   intro l90 el90 h
   refine L.nil (E.toV2 (stC [[10]] [Cls w F [tQA x63,wK b67 x63,tQt gP114 q59 l52,tQw gP114 gP152 q60 l53,tQD v56 l55,tQA x19,wK b23 x19,tQD v12 l11,tQs,tQA x19,.obj b5 (qnU x19) 120,tQy,tQH gP69 gP73 gP152 qP69 A69]] (Cls w F [tQA x63,wK b67 x63,tQt gP114 q59 l52,tQw gP114 gP152 q60 l53,tQD v56 l55,tQA x19,wK b23 x19,tQD v12 l11,tQA x19,tQy,tQH gP69 gP73 gP152 qP69 A69])) 8 (by kernel_rfl) (Sc.past rfl (Sc.stay hI (Sc.stayD hI))) (Sc.now (by kernel_rfl) (sI [0,1,2,3,4,5,6,7,8,9,10,11,14])) (V2.zz [10] (Zc.at1 hI) (fun hz92=>(V2.q 9 [10] hz92 rfl rfl (Y.indexP Tryz.underlying120 qA rfl rfl (by decide) (by decide)) (V2.eff (i:=10) (by kernel_rfl) rfl (L.storeSR (q:=10) (ps:=22) (tQk x19) tQd (tQk x63) [] qA rfl rfl (qw (qT rfl za) (qw (qT rfl za) (qw (yP (qp _)) xt))) rfl (by simp [zl,en25]) (by simp [zl,en24]) (by simp [zl,en68]) (L.to (D:=Cls w F [.ss (zs sd0 (fun _=>[]) x63.values_),.obj b67 (List.flatten [[.int .i64 x63.gen_],[.bool x63.whole_],(zr (fzr SR) (fun _=>[]) x63.values_).flatten]) 119,qS gP114 q59 l52 [],qY gP114 gP152 q60 l53 [],.sl v56 9 1 (l55.map SR),.ss (zs sd0 (fun _=>[]) x19.values_),.obj b23 (List.flatten [[.int .i64 x19.gen_],[.bool x19.whole_],(zr (fzr SR) (fun _=>[]) x19.values_).flatten]) 119,.sl v12 9 1 (l11.map SR),.ss (zs sd0 (fun _=>[]) x63.values_),.ss (zs sd0 (fun _=>[]) x19.values_),.obj b5 (List.flatten [[.int .i64 x19.gen_],[.bool x19.whole_],(zr (fzr SR) (fun _=>[]) x19.values_).flatten,[.int .i64 x63.gen_],[.bool x63.whole_],(zr (fzr SR) (fun _=>[]) x63.values_).flatten]) 120,.ss (zs (qF 84 2 TVersion.row) (fun _=>[xn]) (List.replicate 20 ([]:(List TVersion)))),.ss (zs sd0 (fun _=>[]) l90),.obj b4 (List.flatten [(zr (fzr (PR gP152)) (fun _=>[]) l90).flatten,[.int .i64 0],[.int .i64 0],[.bool false],[.int .i64 0],(zr qh (fun _=>[xn]) (List.replicate 20 ([]:(List TVersion)))).flatten,[.slice none 0 0],[.slice none 0 0]]) 69,zg gP69 gP73 gP152 qP69 A69 []]) (fun _ hw=>by simp only [zj,tQA,tQP,tQS,tQV,tQY,tQZ,wg,we,jZ,vy,wd,vx,k7,kS,kZ,tQj,tQs,tQz] at hw ⊢;exact hw) (L.nil (E.toV2 (stC [] [] (Cls w F [tQA x63,wK b67 x63,tQt gP114 q59 l52,tQw gP114 gP152 q60 l53,tQD v56 l55,tQA x19,wK b23 x19,tQD v12 l11,tQA x19,tQy,tQH gP69 gP73 gP152 qP69 A69])) 10 (by kernel_rfl) (Sc.past rfl (Sc.stayD hI)) (Sc.atD (sI [0,1,2,3,4,5,6,7,9,11,14])) (V2.done (by kernel_rfl) (E.blockN (E.thenN (W.region (L.y rfl ((Y.addM rfl rfl _ (by decide:i64 (1+1)=some 2))) ?_))))))))))))))
   refine L.r 1 rfl (L.nil (E.rounds (sr (L.y rfl (Y.lss rfl rfl) (ln (W.seq (W.condF rfl (W.exit (E.thenX (E.thenX (E.blockX ?_)))))))))))
   refine E.thenN (W.seq (W.seqJ (fun gs D=>∃ gb1,gs=[(5,pt b4 0),(6,pt b5 0),(71,.bool gb1)]∧D=Cls w F [tQt gP114 q59 l52,tQw gP114 gP152 q60 l53,tQH gP69 gP73 gP152 qP69 A69,qmi b5 x19 x63,tQA x19,tQA x63,.obj b4 (List.flatten ((zr (fzr (PR gP152)) (fun _=>[]) l90).flatten::qnX)) 69,.ss (zs sd0 (fun _=>[]) l90),tQy]∧qe7 l90 x63 A69 l52 l53 x19 gb1=some r) ?_ ?_))
   ·refine W.region (L.y rfl (Y.indexP Tryz.underlying120 qA rfl rfl (by decide) (by decide)) (L.y rfl (Y.fieldP zP rfl) (L.iteB h rfl (Y.loadG (q:=10) (si:=4) (ps:=23) (j:=0) (X:=[.bool x63.whole_]) ag4 rfl rfl rfl rfl (by simp [zl,en25]) rfl) (fun c133 h=>?_) (fun c133 h=>?_))))
    ·refine L.r 1 rfl (L.take rfl (L.y rfl (Y.indexP Tryz.underlying120 qA rfl rfl (by decide) (by decide)) (L.take rfl (L.y rfl (Y.fieldP vQ rfl) (L.take rfl (L.y rfl (Y.loadG (q:=10) (si:=3) (ps:=22) (j:=0) (X:=[.int .i64 x63.gen_]) ag3 rfl rfl rfl rfl (by simp [zl,en25]) rfl) (L.take rfl (L.y rfl (Y.indexP Tryz.underlying120 qA rfl rfl (by decide) (by decide)) (L.take rfl (L.y rfl (Y.fieldP vQ rfl) (L.take rfl (L.y rfl (Y.loadG (q:=10) (si:=0) (ps:=0) (j:=0) (X:=[.int .i64 x19.gen_]) ag3 rfl rfl rfl rfl sl0 rfl) (L.take rfl ?_)))))))))))))
     refine L.ite h rfl (Y.gtr rfl rfl) (fun c134 h=>?_) (fun c134 h=>?_)
     ·exact L.r 7 rfl (L.nil (E.jJ ⟨true,rfl,rfl,h⟩ (sI [2,3,14,10,9,8,13,12,11])))
     refine L.r 1 rfl (L.take rfl (L.y rfl (Y.indexP Tryz.underlying120 qA rfl rfl (by decide) (by decide)) (L.take rfl (L.y rfl (Y.fieldP zP rfl) (L.take rfl (L.iteB h rfl (Y.loadG (q:=10) (si:=1) (ps:=1) (j:=0) (X:=[.bool x19.whole_]) ag4 rfl rfl rfl rfl rfl rfl) (fun c135 h=>?_) (fun c135 h=>?_)))))))
     ·exact L.take rfl (L.y rfl (Y.not rfl) (L.r 2 rfl (L.nil (E.jJ ⟨false,rfl,rfl,h⟩ (sI [2,3,14,10,9,8,13,12,11])))))
     exact L.take rfl (L.y rfl (Y.not rfl) (L.r 2 rfl (L.nil (E.jJ ⟨true,rfl,rfl,h⟩ (sI [2,3,14,10,9,8,13,12,11])))))
    exact L.r 15 rfl (L.nil (E.jJ ⟨false,rfl,rfl,h⟩ (sI [2,3,14,10,9,8,13,12,11])))
   rintro _ _ ⟨gb1,rfl,rfl,h⟩
   rw [qe7] at h
   rcases gb1 with _ | _
   ·replace h:=zn h
    refine W.condF rfl (W.skip (E.thenN (sr (L.r 2 rfl (L.y rfl (Y.fieldP qc3 rfl) ?_)))))
    obtain ⟨_,en93,h⟩:=qc h
    obtain ⟨_,en93⟩:=qd en93
    refine L.y rfl (Y.loadG (q:=6) (si:=1) (ps:=2) (j:=0) (X:=[.int .i64 0]) ag3 rfl rfl rfl rfl (by simp [zl,en93]) rfl) (L.y rfl (Y.indexP Tryz.underlying120 qA rfl rfl (by decide) (by decide)) (L.y rfl (Y.loadSR (q:=3) (ps:=0) [] (tQk x19) (tQk x63) zK qA rfl rfl fl0 (by simp [zl,en25])) (L.alloc rfl qay ?_)))
    intro b94
    refine L.toSeg (S:=tQd) rfl (L.ssNil (sds:=sd0) (vs:=(fun _=>[])) (xs:=tQab) (zb ji _) (L.storeSR (q:=1) (ps:=0) [] tQd (tQk x19) [] qA rfl rfl (qw (qT rfl za) (qw (qT rfl za) (qw (yP (qp _)) xt))) rfl fl0 (by simp [zl,en24]) (by simp [zl,en25]) (L.to (D:=Cls w F [.ss (zs sd0 (fun _=>[]) x19.values_),.obj b94 (List.flatten [[.int .i64 x19.gen_],[.bool x19.whole_],(zr (fzr SR) (fun _=>[]) x19.values_).flatten]) 119,qS gP114 q59 l52 [],qY gP114 gP152 q60 l53 [],zg gP69 gP73 gP152 qP69 A69 [],.obj b5 (List.flatten [[.int .i64 x19.gen_],[.bool x19.whole_],(zr (fzr SR) (fun _=>[]) x19.values_).flatten,[.int .i64 x63.gen_],[.bool x63.whole_],(zr (fzr SR) (fun _=>[]) x63.values_).flatten]) 120,.ss (zs sd0 (fun _=>[]) x19.values_),.ss (zs sd0 (fun _=>[]) x63.values_),.obj b4 (List.flatten [(zr (fzr (PR gP152)) (fun _=>[]) l90).flatten,[.int .i64 0],[.int .i64 0],[.bool false],[.int .i64 0],(zr qh (fun _=>[xn]) (List.replicate 20 ([]:(List TVersion)))).flatten,[.slice none 0 0],[.slice none 0 0]]) 69,.ss (zs sd0 (fun _=>[]) l90),.ss (zs (qF 84 2 TVersion.row) (fun _=>[xn]) (List.replicate 20 ([]:(List TVersion))))]) (fun _ hw=>by simp only [zj,tQA,tQP,tQS,tQV,tQY,tQZ,wg,we,jZ,vy,wd,vx,k7,kS,kZ,tQj,tQs,tQz] at hw ⊢;exact hw) (ln (W.seq (sr (L.y rfl (Y.fieldP zP rfl) (L.iteB h rfl (Y.loadG (q:=1) (si:=1) (ps:=1) (j:=0) (X:=[.bool x19.whole_]) ag4 rfl rfl rfl rfl rfl rfl) (fun c95 h=>?_) (fun c95 h=>?_)))))))))
    ·refine L.y rfl (Y.not rfl) (ln (W.condF rfl (W.skip (E.thenN (sr (L.r 1 rfl (L.y rfl (Y.fieldP vQ rfl) (L.y rfl (Y.loadG (q:=1) (si:=0) (ps:=0) (j:=0) (X:=[.int .i64 x19.gen_]) ag3 rfl rfl rfl rfl sl0 rfl) (L.r 1 rfl (L.y rfl (Y.fieldP qjS rfl) (L.storeG (q:=8) (si:=2) (ps:=3) (j:=0) (X:=[.int .i64 0]) (vals:=[.int .i64 x19.gen_]) sz3 rfl rfl rfl rfl rfl (by simp [Value.oneCell',Value.cells,st,pt,el]) rfl rfl (by simp [zl,en93]) rfl ?_)))))))))))
     refine ln (W.seqJ (fun gs D=>∃ gx2 gP69 gl4 gq5,∃ gu6:Unit,gs=[(5,VP gP69 gx2)]∧D=Cls w F [tQt gP114 q59 l52,tQw gP114 gP152 q60 l53,tQH gP69 gP73 gP152 gq5 gl4]∧Gr g69 A69.length gP69 gl4.length∧qlG l52 l53 gx2 gl4=some r) ?_ ?_)
     ·refine sr (L.y rfl (Y.fieldP kz rfl) (L.y rfl (Y.loadGF (q:=1) (si:=2) (ps:=2) (rw':=SR) (vs:=(fun _=>[])) (lb:=x19.values_) qm7 qmk rfl rfl rfl rfl (zrN (nn:=20) (k:=1) (fun _ _=>rfl) en25)) (L.r 1 rfl (ln (W.block (W.nilSl 70 1 (W.nilSl 70 1 (W.to (D:=Cls w F [.sl (.slice none 0 0) 70 1 ([].map (PR gP73)),.sl (.slice none 0 0) 70 1 ([].map (PR gP73)),.ss (zs sd0 (fun _=>[]) x19.values_),.obj b94 (List.flatten [[.int .i64 x19.gen_],[.bool x19.whole_],(zr (fzr SR) (fun _=>[]) x19.values_).flatten]) 119,qS gP114 q59 l52 [],qY gP114 gP152 q60 l53 [],zg gP69 gP73 gP152 qP69 A69 [],.obj b5 (List.flatten [[.int .i64 x19.gen_],[.bool x19.whole_],(zr (fzr SR) (fun _=>[]) x19.values_).flatten,[.int .i64 x63.gen_],[.bool x63.whole_],(zr (fzr SR) (fun _=>[]) x63.values_).flatten]) 120,.ss (zs sd0 (fun _=>[]) x19.values_),.ss (zs sd0 (fun _=>[]) x63.values_),.obj b4 (List.flatten [(zr (fzr (PR gP152)) (fun _=>[]) l90).flatten,[.int .i64 0],[.int .i64 x19.gen_],[.bool false],[.int .i64 0],(zr qh (qV ([(.slice none 0 0),(.slice none 0 0)]++ghl (fun _=>[xn]) (List.replicate 20 ([]:(List TVersion))).length) 2) (List.replicate 20 ([]:(List TVersion)))).flatten,[(.slice none 0 0)],[(.slice none 0 0)]]) 69,.ss (zs sd0 (fun _=>[]) l90),.ss (zs (qF 84 2 TVersion.row) (qV ([(.slice none 0 0),(.slice none 0 0)]++ghl (fun _=>[xn]) (List.replicate 20 ([]:(List TVersion))).length) 2) (List.replicate 20 ([]:(List TVersion))))]) (fun _ hw=>by rw [xz [(tQm),(tQm)] _ 2 _ rfl,xy [(tQm),(tQm)] _ 2 _ rfl];exact hw) (W.arNew (rowg:=fun g=>TStore.rowA gP73 gP152) (subg:=fun g=>TStore.subA gP73 gP152) (e:=69) (g:=gP69) (gh:=qP69) (l:=A69) (hs:=[]) (b:=b4) (u1:=(⟨l90,0,x19.gen_,false,0,tQaX,[],[]⟩:TStore)) (vs':=([(tQm),(tQm)]++ghl (fun _=>[xn]) tQaX.length)) (m':=[tQA x19,wK b94 x19,tQt gP114 q59 l52,tQw gP114 gP152 q60 l53,qmi b5 x19 x63,tQA x19,tQA x63]) [10,1,0,11,12,6,2,3,4,5,7,8,9] h (by decide) rfl (fun _ h=>nomatch h) (fun _ _ _ _ _=>⟨rfl,rfl⟩) ?_)))))))))
      intro gP69 q96 x97 l98 h hg99 hv100 hi101
      rw [hv100]
      replace hGr69:=hGr69.trans hg99
      refine W.to (D:=Cls w F [tQH gP69 gP73 gP152 q96 l98,tQA x19,wK b94 x19,tQt gP114 q59 l52,tQw gP114 gP152 q60 l53,qmi b5 x19 x63,tQA x19,tQA x63]) hI (W.loopJ (fun m gs D=>∃ gx7 gl8 gq9,∃ gu10:Unit,gs=[(5,VP gP69 x97),(90,.agg (x19.values_.map SR).flatten.toArray),(91,.int .i64 gx7)]∧D=Cls w F (tQH gP69 gP73 gP152 gq9 gl8::zd gP114 q59 l52 gP152 q60 l53)∧Gr g69 A69.length gP69 gl8.length∧qe6 x19 x97 l52 l53 m gx7 gl8=some r) ⟨0,l98,q96,(),rfl,rfl,hGr69,h⟩ ⟨rfl,rfl,rfl,trivial⟩ (sI [0,3,4]) ?_)
      rintro m _ _ ⟨gx7,gl8,gq9,gu10,rfl,rfl,hGr69,h⟩
      rcases m with _ | m
      ·rw [qe6] at h;cases h
      rw [qe6] at h
      generalize hg1:qe6 x19 x97 l52 l53 m=go1 at h
      rw [qkf] at h
      refine sr (L.ite h rfl (Y.lss rfl rfl) (fun c102 h=>?_) (fun c102 h=>?_))
      ·refine ln (W.seq (W.condT rfl (W.skip (E.thenN (W.seq (W.block (sr (L.r 1 rfl ?_))))))))
       obtain ⟨x103,ex103,h⟩:=qc h
       refine L.y rfl (Y.idxArr1 (l:=x19.values_) (row:=SR) (p:=st x103) Tryz.underlying59 ag9 sz9 rfl rfl (fun _=>rfl) ex103 rfl) (L.r 2 rfl (nr (L.r 3 rfl (L.y rfl (Y.build (cells:=#[.int .i64 0,st x103]) rfl (by kernel_rfl)) (L.litAgg rfl Tryz.underlying65 qjV rfl rfl rfl ?_)))))
       intro b104
       obtain ⟨th105,eth105,h⟩:=qc h
       refine L.to (D:=Cls w F (tQa gP69 x97 gP152 th105 gq9::ka gq9 x97 th105 gP73::jh gq9 x97 th105 gP73::tQj th105::tQe gq9 x97 th105::tQu gP69 gP73 gP152 gq9 gl8 x97::.sl (sv b104 1) 84 2 (([(⟨0,x103⟩:TVersion)]).map TVersion.row)::zd gP114 q59 l52 gP152 q60 l53)) (fun _ hw=>hw.aO 1 rfl eth105) (L.y rfl (Y.apNil rfl eth105) (L.y rfl (Y.fieldP kI rfl) (L.m (V:=fun _=>pt (gP69 x97.toNat) (6+gx7.toNat*1)) h rfl (Y.indexAS (l:=th105.items_) Tryz.underlying66 qfi rfl rfl) (fun x106 ex106 h=>?_))))
       obtain ⟨_,en107,h⟩:=qc h
       obtain ⟨_,en107⟩:=qd en107
       refine L.storeZSg (si:=5) (ps:=6) (row:=qh) (sds:=yu) (vs:=(jD gq9 x97)) (q:=0) (p:=6) (s:=4) (c:=1) (jj:=0) (u1:=[(⟨0,x103⟩:TVersion)]) (v1:=[(sv b104 1)]) (j:=0) h qfi rfl rfl rfl rfl rfl (by simp [zl,en107]) rfl rfl (.inl rfl) (fun _ _=>rfl) (fun _ _=>rfl) (qg ex106) rfl rfl rfl rfl ?_
       intro l108 q109 el108 h
       refine L.nil (E.blockN (E.thenN (W.region (L.m (V:=fun x110=>qI x110) h rfl (Y.addM rfl rfl) (fun x110 ex110 h=>(L.r 1 rfl (L.nil (E.to (D:=Cls w F [.obj (gP69 x97.toNat) (List.flatten [(zr (fzr (PR gP152)) (fun _=>[]) th105.logs_).flatten,[.int .i64 th105.half_],[.int .i64 th105.gen_],[.bool th105.down_],[.int .i64 th105.now_],(zr qh (qV ([(gv (gq9 x97.toNat) 0),(gv (gq9 x97.toNat) 1)]++ghl q109 l108.length) 2) l108).flatten,[(gv (gq9 x97.toNat) 0)],[(gv (gq9 x97.toNat) 1)]]) 69,.sl (gv (gq9 x97.toNat) 0) 70 1 (th105.active_.map (PR gP73)),.sl (gv (gq9 x97.toNat) 1) 70 1 (th105.over_.map (PR gP73)),.ss (zs sd0 (fun _=>[]) th105.logs_),.ss (zs (qF 84 2 TVersion.row) (qV ([(gv (gq9 x97.toNat) 0),(gv (gq9 x97.toNat) 1)]++ghl q109 l108.length) 2) l108),zg gP69 gP73 gP152 gq9 gl8 (x97.toNat :: []),qS gP114 q59 l52 [],qY gP114 gP152 q60 l53 []]) (fun _ hw=>by rw [xz (k8 gq9 x97) _ 2 _ rfl,xy (k8 gq9 x97) _ 2 _ rfl];exact hw) ?_))))))))
       obtain ⟨l112,el112,h⟩:=qc h
       refine E.aC (row:=TStore.rowA gP73 gP152) (sub:=TStore.subA gP73 gP152) (e:=69) (g:=gP69) (gh:=gq9) (vs':=((k8 gq9 x97)++ghl q109 l108.length)) (m':=(zd gP114 q59 l52 gP152 q60 l53)) [0,1,2,3,4,5,6,7] el112 rfl ?_
       intro q111
       replace hGr69:=hGr69.upd el112
       exact E.to (D:=Cls w F (tQH gP69 gP73 gP152 q111 l112::zd gP114 q59 l52 gP152 q60 l53)) hI (E.aJ ⟨x110,l112,q111,(),rfl,rfl,hGr69,by rw [hg1];exact h⟩ hI)
      exact ln (W.seq (W.condF rfl (W.exit (E.thenX (E.KLX (E.blockX (E.jJ ⟨x97,gP69,gl8,gq9,(),rfl,rfl,hGr69,h⟩ (sI [1,2,0]))))))))
     rintro _ _ ⟨gx2,gP69,gl4,gq5,gu6,rfl,rfl,hGr69,h⟩
     rw [qlG] at h
     refine sr (L.r 3 rfl (ln (W.ret (E.ret2 rfl rfl rfl (fun w1 hw=>?_)))))
     cases h
     exact ⟨_,_,rfl,⟨_,_,_,_,_,(hg69 ▸ hGr69),(hg152 ▸ hGr152),rfl,rfl⟩,hw.s [2,0,1]⟩
    refine L.y rfl (Y.not rfl) (ln (W.condT rfl (sr (L.r 2 rfl (ln (W.ret (E.thenR (E.ret2 rfl rfl rfl (fun w1 hw=>?_)))))))))
    cases h
    exact ⟨_,_,rfl,⟨_,_,_,_,_,(hg69 ▸ hGr69),(hg152 ▸ hGr152),rfl,rfl⟩,hw.s [4,2,3]⟩
   replace h:=zm h
   refine W.condT rfl (W.region (L.r 2 rfl (L.y rfl (Y.fieldP qc3 rfl) ?_)))
   obtain ⟨_,en113,h⟩:=qc h
   obtain ⟨_,en113⟩:=qd en113
   refine L.storeG (q:=6) (si:=1) (ps:=2) (j:=0) (X:=[.int .i64 0]) (vals:=[.int .i64 1]) sz3 rfl rfl rfl rfl rfl (by simp [Value.oneCell',Value.cells,st,pt,el]) rfl rfl (by simp [zl,en113]) rfl (nsr (L.r 2 rfl (L.y rfl (Y.fieldP qc3 rfl) (L.y rfl (Y.loadG (q:=6) (si:=1) (ps:=2) (j:=0) (X:=[.int .i64 1]) ag3 rfl rfl rfl rfl (by simp [zl,en113]) rfl) (L.y rfl (Y.indexP Tryz.underlying120 qA rfl rfl (by decide) (by decide)) (L.y rfl (Y.loadSR (q:=3) (ps:=22) (tQk x19) (tQk x63) [] zK qA rfl rfl (by simp [zl,en25]) (by simp [zl,en68])) (L.alloc rfl qay ?_)))))))
   intro b114
   refine L.toSeg (S:=tQd) rfl (L.ssNil (sds:=sd0) (vs:=(fun _=>[])) (xs:=tQab) (zb ji _) (L.storeSR (q:=1) (ps:=0) [] tQd (tQk x63) [] qA rfl rfl (qw (qT rfl za) (qw (qT rfl za) (qw (yP (qp _)) xt))) rfl fl0 (by simp [zl,en24]) (by simp [zl,en68]) (L.to (D:=Cls w F [.ss (zs sd0 (fun _=>[]) x63.values_),.obj b114 (List.flatten [[.int .i64 x63.gen_],[.bool x63.whole_],(zr (fzr SR) (fun _=>[]) x63.values_).flatten]) 119,qS gP114 q59 l52 [],qY gP114 gP152 q60 l53 [],zg gP69 gP73 gP152 qP69 A69 [],.obj b5 (List.flatten [[.int .i64 x19.gen_],[.bool x19.whole_],(zr (fzr SR) (fun _=>[]) x19.values_).flatten,[.int .i64 x63.gen_],[.bool x63.whole_],(zr (fzr SR) (fun _=>[]) x63.values_).flatten]) 120,.ss (zs sd0 (fun _=>[]) x19.values_),.ss (zs sd0 (fun _=>[]) x63.values_),.obj b4 (List.flatten [(zr (fzr (PR gP152)) (fun _=>[]) l90).flatten,[.int .i64 1],[.int .i64 0],[.bool false],[.int .i64 0],(zr qh (fun _=>[xn]) (List.replicate 20 ([]:(List TVersion)))).flatten,[.slice none 0 0],[.slice none 0 0]]) 69,.ss (zs sd0 (fun _=>[]) l90),.ss (zs (qF 84 2 TVersion.row) (fun _=>[xn]) (List.replicate 20 ([]:(List TVersion))))]) (fun _ hw=>by simp only [zj,tQA,tQP,tQS,tQV,tQY,tQZ,wg,we,jZ,vy,wd,vx,k7,kS,kZ,tQj,tQs,tQz] at hw ⊢;exact hw) (ln (W.seq (sr (L.y rfl (Y.fieldP zP rfl) (L.iteB h rfl (Y.loadG (q:=1) (si:=1) (ps:=1) (j:=0) (X:=[.bool x63.whole_]) ag4 rfl rfl rfl rfl rfl rfl) (fun c115 h=>?_) (fun c115 h=>?_)))))))))
   ·refine L.y rfl (Y.not rfl) (ln (W.condF rfl (W.skip (E.thenN (sr (L.r 1 rfl (L.y rfl (Y.fieldP vQ rfl) (L.y rfl (Y.loadG (q:=1) (si:=0) (ps:=0) (j:=0) (X:=[.int .i64 x63.gen_]) ag3 rfl rfl rfl rfl sl0 rfl) (L.r 1 rfl (L.y rfl (Y.fieldP qjS rfl) (L.storeG (q:=8) (si:=2) (ps:=3) (j:=0) (X:=[.int .i64 0]) (vals:=[.int .i64 x63.gen_]) sz3 rfl rfl rfl rfl rfl (by simp [Value.oneCell',Value.cells,st,pt,el]) rfl rfl (by simp [zl,en113]) rfl ?_)))))))))))
    refine ln (W.seqJ (fun gs D=>∃ gx11 gP69 gl13 gq14,∃ gu15:Unit,gs=[(5,VP gP69 gx11)]∧D=Cls w F [tQt gP114 q59 l52,tQw gP114 gP152 q60 l53,tQH gP69 gP73 gP152 gq14 gl13]∧Gr g69 A69.length gP69 gl13.length∧qlF l52 l53 gx11 gl13=some r) ?_ ?_)
    ·refine sr (L.y rfl (Y.fieldP kz rfl) (L.y rfl (Y.loadGF (q:=1) (si:=2) (ps:=2) (rw':=SR) (vs:=(fun _=>[])) (lb:=x63.values_) qm7 qmk rfl rfl rfl rfl (zrN (nn:=20) (k:=1) (fun _ _=>rfl) en68)) (L.r 1 rfl (ln (W.block (W.nilSl 70 1 (W.nilSl 70 1 (W.to (D:=Cls w F [.sl (.slice none 0 0) 70 1 ([].map (PR gP73)),.sl (.slice none 0 0) 70 1 ([].map (PR gP73)),.ss (zs sd0 (fun _=>[]) x63.values_),.obj b114 (List.flatten [[.int .i64 x63.gen_],[.bool x63.whole_],(zr (fzr SR) (fun _=>[]) x63.values_).flatten]) 119,qS gP114 q59 l52 [],qY gP114 gP152 q60 l53 [],zg gP69 gP73 gP152 qP69 A69 [],.obj b5 (List.flatten [[.int .i64 x19.gen_],[.bool x19.whole_],(zr (fzr SR) (fun _=>[]) x19.values_).flatten,[.int .i64 x63.gen_],[.bool x63.whole_],(zr (fzr SR) (fun _=>[]) x63.values_).flatten]) 120,.ss (zs sd0 (fun _=>[]) x19.values_),.ss (zs sd0 (fun _=>[]) x63.values_),.obj b4 (List.flatten [(zr (fzr (PR gP152)) (fun _=>[]) l90).flatten,[.int .i64 1],[.int .i64 x63.gen_],[.bool false],[.int .i64 0],(zr qh (qV ([(.slice none 0 0),(.slice none 0 0)]++ghl (fun _=>[xn]) (List.replicate 20 ([]:(List TVersion))).length) 2) (List.replicate 20 ([]:(List TVersion)))).flatten,[(.slice none 0 0)],[(.slice none 0 0)]]) 69,.ss (zs sd0 (fun _=>[]) l90),.ss (zs (qF 84 2 TVersion.row) (qV ([(.slice none 0 0),(.slice none 0 0)]++ghl (fun _=>[xn]) (List.replicate 20 ([]:(List TVersion))).length) 2) (List.replicate 20 ([]:(List TVersion))))]) (fun _ hw=>by rw [xz [(tQm),(tQm)] _ 2 _ rfl,xy [(tQm),(tQm)] _ 2 _ rfl];exact hw) (W.arNew (rowg:=fun g=>TStore.rowA gP73 gP152) (subg:=fun g=>TStore.subA gP73 gP152) (e:=69) (g:=gP69) (gh:=qP69) (l:=A69) (hs:=[]) (b:=b4) (u1:=(⟨l90,1,x63.gen_,false,0,tQaX,[],[]⟩:TStore)) (vs':=([(tQm),(tQm)]++ghl (fun _=>[xn]) tQaX.length)) (m':=[tQA x63,wK b114 x63,tQt gP114 q59 l52,tQw gP114 gP152 q60 l53,qmi b5 x19 x63,tQA x19,tQA x63]) [10,1,0,11,12,6,2,3,4,5,7,8,9] h (by decide) rfl (fun _ h=>nomatch h) (fun _ _ _ _ _=>⟨rfl,rfl⟩) ?_)))))))))
     intro gP69 q116 x117 l118 h hg119 hv120 hi121
     rw [hv120]
     replace hGr69:=hGr69.trans hg119
     refine W.to (D:=Cls w F [tQH gP69 gP73 gP152 q116 l118,tQA x63,wK b114 x63,tQt gP114 q59 l52,tQw gP114 gP152 q60 l53,qmi b5 x19 x63,tQA x19,tQA x63]) hI (W.loopJ (fun m gs D=>∃ gx16 gl17 gq18,∃ gu19:Unit,gs=[(5,VP gP69 x117),(90,.agg (x63.values_.map SR).flatten.toArray),(91,qI gx16)]∧D=Cls w F (tQH gP69 gP73 gP152 gq18 gl17::zd gP114 q59 l52 gP152 q60 l53)∧Gr g69 A69.length gP69 gl17.length∧qe5 x63 x117 l52 l53 m gx16 gl17=some r) ⟨0,l118,q116,(),rfl,rfl,hGr69,h⟩ ⟨rfl,rfl,rfl,trivial⟩ (sI [0,3,4]) ?_)
     rintro m _ _ ⟨gx16,gl17,gq18,gu19,rfl,rfl,hGr69,h⟩
     rcases m with _ | m
     ·rw [qe5] at h;cases h
     rw [qe5] at h
     generalize hg2:qe5 x63 x117 l52 l53 m=go2 at h
     rw [qke] at h
     refine sr (L.ite h rfl (Y.lss rfl rfl) (fun c122 h=>?_) (fun c122 h=>?_))
     ·refine ln (W.seq (W.condT rfl (W.skip (E.thenN (W.seq (W.block (sr (L.r 1 rfl ?_))))))))
      obtain ⟨x123,ex123,h⟩:=qc h
      refine L.y rfl (Y.idxArr1 (l:=x63.values_) (row:=SR) (p:=st x123) Tryz.underlying59 ag9 sz9 rfl rfl (fun _=>rfl) ex123 rfl) (L.r 2 rfl (nr (L.r 3 rfl (L.y rfl (Y.build (cells:=#[.int .i64 0,st x123]) rfl (by kernel_rfl)) (L.litAgg rfl Tryz.underlying65 qjV rfl rfl rfl ?_)))))
      intro b124
      obtain ⟨th125,eth125,h⟩:=qc h
      refine L.to (D:=Cls w F (tQa gP69 x117 gP152 th125 gq18::ka gq18 x117 th125 gP73::jh gq18 x117 th125 gP73::tQj th125::tQe gq18 x117 th125::tQu gP69 gP73 gP152 gq18 gl17 x117::.sl (sv b124 1) 84 2 (([(⟨0,x123⟩:TVersion)]).map TVersion.row)::zd gP114 q59 l52 gP152 q60 l53)) (fun _ hw=>hw.aO 1 rfl eth125) (L.y rfl (Y.apNil rfl eth125) (L.y rfl (Y.fieldP kI rfl) (L.m (V:=fun _=>pt (gP69 x117.toNat) (6+gx16.toNat*1)) h rfl (Y.indexAS (l:=th125.items_) Tryz.underlying66 qfi rfl rfl) (fun x126 ex126 h=>?_))))
      obtain ⟨_,en127,h⟩:=qc h
      obtain ⟨_,en127⟩:=qd en127
      refine L.storeZSg (si:=5) (ps:=6) (row:=qh) (sds:=yu) (vs:=(jD gq18 x117)) (q:=0) (p:=6) (s:=4) (c:=1) (jj:=0) (u1:=[(⟨0,x123⟩:TVersion)]) (v1:=[(sv b124 1)]) (j:=0) h qfi rfl rfl rfl rfl rfl (by simp [zl,en127]) rfl rfl (.inl rfl) (fun _ _=>rfl) (fun _ _=>rfl) (qg ex126) rfl rfl rfl rfl ?_
      intro l128 q129 el128 h
      refine L.nil (E.blockN (E.thenN (W.region (L.m (V:=fun x130=>qI x130) h rfl (Y.addM rfl rfl) (fun x130 ex130 h=>(L.r 1 rfl (L.nil (E.to (D:=Cls w F [.obj (gP69 x117.toNat) (List.flatten [(zr (fzr (PR gP152)) (fun _=>[]) th125.logs_).flatten,[.int .i64 th125.half_],[.int .i64 th125.gen_],[.bool th125.down_],[.int .i64 th125.now_],(zr qh (qV ([(gv (gq18 x117.toNat) 0),(gv (gq18 x117.toNat) 1)]++ghl q129 l128.length) 2) l128).flatten,[(gv (gq18 x117.toNat) 0)],[(gv (gq18 x117.toNat) 1)]]) 69,.sl (gv (gq18 x117.toNat) 0) 70 1 (th125.active_.map (PR gP73)),.sl (gv (gq18 x117.toNat) 1) 70 1 (th125.over_.map (PR gP73)),.ss (zs sd0 (fun _=>[]) th125.logs_),.ss (zs (qF 84 2 TVersion.row) (qV ([(gv (gq18 x117.toNat) 0),(gv (gq18 x117.toNat) 1)]++ghl q129 l128.length) 2) l128),zg gP69 gP73 gP152 gq18 gl17 (x117.toNat :: []),qS gP114 q59 l52 [],qY gP114 gP152 q60 l53 []]) (fun _ hw=>by rw [xz (k8 gq18 x117) _ 2 _ rfl,xy (k8 gq18 x117) _ 2 _ rfl];exact hw) ?_))))))))
      obtain ⟨l132,el132,h⟩:=qc h
      refine E.aC (row:=TStore.rowA gP73 gP152) (sub:=TStore.subA gP73 gP152) (e:=69) (g:=gP69) (gh:=gq18) (vs':=((k8 gq18 x117)++ghl q129 l128.length)) (m':=(zd gP114 q59 l52 gP152 q60 l53)) [0,1,2,3,4,5,6,7] el132 rfl ?_
      intro q131
      replace hGr69:=hGr69.upd el132
      exact E.to (D:=Cls w F (tQH gP69 gP73 gP152 q131 l132::zd gP114 q59 l52 gP152 q60 l53)) hI (E.aJ ⟨x130,l132,q131,(),rfl,rfl,hGr69,by rw [hg2];exact h⟩ hI)
     exact ln (W.seq (W.condF rfl (W.exit (E.thenX (E.KLX (E.blockX (E.jJ ⟨x117,gP69,gl17,gq18,(),rfl,rfl,hGr69,h⟩ (sI [1,2,0]))))))))
    rintro _ _ ⟨gx11,gP69,gl13,gq14,gu15,rfl,rfl,hGr69,h⟩
    rw [qlF] at h
    refine sr (L.r 3 rfl (ln (W.ret (E.ret2 rfl rfl rfl (fun w1 hw=>?_)))))
    cases h
    exact ⟨_,_,rfl,⟨_,_,_,_,_,(hg69 ▸ hGr69),(hg152 ▸ hGr152),rfl,rfl⟩,hw.s [2,0,1]⟩
   refine L.y rfl (Y.not rfl) (ln (W.condT rfl (sr (L.r 2 rfl (ln (W.ret (E.thenR (E.ret2 rfl rfl rfl (fun w1 hw=>?_)))))))))
   cases h
   exact ⟨_,_,rfl,⟨_,_,_,_,_,(hg69 ▸ hGr69),(hg152 ▸ hGr152),rfl,rfl⟩,hw.s [4,2,3]⟩
  refine L.alloc rfl qay ?_
  intro b136
  refine L.toSeg (S:=tQd) rfl (L.ssNil (sds:=sd0) (vs:=(fun _=>[])) (xs:=tQab) (zb ji _) ?_)
  obtain ⟨_,en137,h⟩:=qc h
  obtain ⟨_,en137⟩:=qd en137
  refine L.storeSR (q:=1) (ps:=0) [] tQd (tQk x63) [] qA rfl rfl (qw (qT rfl za) (qw (qT rfl za) (qw (yP (qp _)) xt))) rfl fl0 (by simp [zl,en24]) (by simp [zl,en137]) (L.to (D:=Cls w F [.ss (zs sd0 (fun _=>[]) x63.values_),.obj b136 (List.flatten [[.int .i64 x63.gen_],[.bool x63.whole_],(zr (fzr SR) (fun _=>[]) x63.values_).flatten]) 119,qS gP114 q59 l52 [],qY gP114 gP152 q60 l53 [],.sl v56 9 1 (l55.map SR),.ss (zs sd0 (fun _=>[]) x19.values_),.obj b23 (List.flatten [[.int .i64 x19.gen_],[.bool x19.whole_],(zr (fzr SR) (fun _=>[]) x19.values_).flatten]) 119,.sl v12 9 1 (l11.map SR),.ss (zs sd0 (fun _=>[]) (List.replicate 20 ([]:(List UInt8)))),.ss (zs sd0 (fun _=>[]) x19.values_),.obj b5 (List.flatten [[.int .i64 x19.gen_],[.bool x19.whole_],(zr (fzr SR) (fun _=>[]) x19.values_).flatten,[.int .i64 0],[.bool false],(zr (fzr SR) (fun _=>[]) (List.replicate 20 ([]:(List UInt8)))).flatten]) 120,.ss (zs (qF 84 2 TVersion.row) (fun _=>[xn]) (List.replicate 20 ([]:(List TVersion)))),.ss (zs sd0 (fun _=>[]) l47),.obj b4 (List.flatten [(zr (fzr (PR gP152)) (fun _=>[]) l47).flatten,[.int .i64 0],[.int .i64 0],[.bool false],[.int .i64 0],(zr qh (fun _=>[xn]) (List.replicate 20 ([]:(List TVersion)))).flatten,[.slice none 0 0],[.slice none 0 0]]) 69,zg gP69 gP73 gP152 qP69 A69 []]) (fun _ hw=>by simp only [zj,tQA,tQP,tQS,tQV,tQY,tQZ,wg,we,jZ,vy,wd,vx,k7,kS,kZ,tQj,tQs,tQz] at hw ⊢;exact hw) (L.r 1 rfl (ln (W.seq (sr (L.r 1 rfl (L.y rfl (Y.not rfl) (ln (W.condT rfl (W.seq ?_))))))))))
  refine W.region (L.r 2 rfl (ln (W.ret (E.thenR (E.blockR (E.thenR (E.thenR (E.blockR (E.thenR (E.ret2 rfl rfl rfl (fun w1 hw=>?_)))))))))))
  cases h
  exact ⟨_,_,rfl,⟨_,_,_,_,_,(hg69 ▸ hGr69),(hg152 ▸ hGr152),rfl,rfl⟩,hw.s [14,2,3]⟩
 refine L.alloc rfl qay ?_
 intro b138
 refine L.toSeg (S:=tQd) rfl (L.ssNil (sds:=sd0) (vs:=(fun _=>[])) (xs:=tQab) (zb ji _) ?_)
 obtain ⟨_,en139,h⟩:=qc h
 obtain ⟨_,en139⟩:=qd en139
 obtain ⟨_,en140,h⟩:=qc h
 obtain ⟨_,en140⟩:=qd en140
 refine L.storeSR (q:=1) (ps:=0) [] tQd (tQk x19) [] qA rfl rfl (qw (qT rfl za) (qw (qT rfl za) (qw (yP (qp _)) xt))) rfl fl0 (by simp [zl,en139]) (by simp [zl,en140]) (L.to (D:=Cls w F [.ss (zs sd0 (fun _=>[]) x19.values_),.obj b138 (List.flatten [[.int .i64 x19.gen_],[.bool x19.whole_],(zr (fzr SR) (fun _=>[]) x19.values_).flatten]) 119,qS gP114 q15 l8 [],qY gP114 gP152 q16 l9 [],.sl v12 9 1 (l11.map SR),.ss (zs sd0 (fun _=>[]) (List.replicate 20 ([]:(List UInt8)))),.ss (zs sd0 (fun _=>[]) (List.replicate 20 ([]:(List UInt8)))),.obj b5 (List.flatten [[.int .i64 0],[.bool false],(zr (fzr SR) (fun _=>[]) (List.replicate 20 ([]:(List UInt8)))).flatten,[.int .i64 0],[.bool false],(zr (fzr SR) (fun _=>[]) (List.replicate 20 ([]:(List UInt8)))).flatten]) 120,.ss (zs (qF 84 2 TVersion.row) (fun _=>[xn]) (List.replicate 20 ([]:(List TVersion)))),.ss (zs sd0 (fun _=>[]) (List.replicate 2 ((-1):Int))),.obj b4 (List.flatten [(zr (fzr (PR gP152)) (fun _=>[]) (List.replicate 2 ((-1):Int))).flatten,[.int .i64 0],[.int .i64 0],[.bool false],[.int .i64 0],(zr qh (fun _=>[xn]) (List.replicate 20 ([]:(List TVersion)))).flatten,[.slice none 0 0],[.slice none 0 0]]) 69,zg gP69 gP73 gP152 qP69 A69 []]) (fun _ hw=>by simp only [zj,tQA,tQP,tQS,tQV,tQY,tQZ,wg,we,jZ,vy,wd,vx,k7,kS,kZ,tQj,tQs,tQz] at hw ⊢;exact hw) (L.r 1 rfl (ln (W.seq (sr (L.r 1 rfl (L.y rfl (Y.not rfl) (ln (W.condT rfl (W.seq ?_))))))))))
 refine W.region (L.r 2 rfl (ln (W.ret (E.thenR (E.blockR (E.thenR (E.thenR (E.blockR (E.thenR (E.ret2 rfl rfl rfl (fun w1 hw=>?_)))))))))))
 cases h
 exact ⟨_,_,rfl,⟨_,_,_,_,_,(hg69 ▸ hGr69),(hg152 ▸ hGr152),rfl,rfl⟩,hw.s [11,2,3]⟩
set_option maxRecDepth 100000 in
set_option maxHeartbeats 8000000 in
theorem W5 (a0:Int) (A69:(List TStore)) (A114:(List TDisk)) (A152:(List TLog)) (gP69:Nat→Nat) (gP73:Nat→Nat) (gP114:Nat→Nat) (gP152:Nat→Nat) (qP69:Nat→List Value) (qP114:Nat→List Value) (qP152:Nat→List Value) (w:World) (r:((List TStore)×(List TDisk)×(List TLog)×Int×Int×Bool)) (h:M5 a0 A69 A114 A152=some r) (F:List Nat) (hc0:Cls w F (tQH gP69 gP73 gP152 qP69 A69::zd gP114 qP114 A114 gP152 qP152 A152) w):zu Tryz.prog 5 (jX a0) F w fun u m=>∃ G69 G114 G152 Q69 Q114 Q152,Gr gP69 A69.length G69 r.1.length∧Gr gP114 A114.length G114 r.2.1.length∧Gr gP152 A152.length G152 r.2.2.1.length∧u=.tuple #[VP G114 r.2.2.2.1,VP G69 r.2.2.2.2.1,.bool r.2.2.2.2.2]∧m=[zg G69 gP73 G152 Q69 r.1 [],qS G114 Q114 r.2.1 [],qY G114 G152 Q152 r.2.2.1 []]:=by
 rw [M5] at h
 obtain ⟨g69,hg69⟩:∃ g,g=gP69:=⟨_,rfl⟩
 have hGr69:Gr g69 A69.length gP69 A69.length:=hg69 ▸ Gr.refl _ _
 obtain ⟨g114,hg114⟩:∃ g,g=gP114:=⟨_,rfl⟩
 have hGr114:Gr g114 A114.length gP114 A114.length:=hg114 ▸ Gr.refl _ _
 obtain ⟨g152,hg152⟩:∃ g,g=gP152:=⟨_,rfl⟩
 have hGr152:Gr g152 A152.length gP152 A152.length:=hg152 ▸ Gr.refl _ _
 refine body (n:=32) Tryz.func5 rfl rfl rfl hc0 (sr (L.r 3 rfl (nsr (L.r 1 rfl ?_))))
 obtain ⟨_,ck1,h⟩:=qc h
 replace ck1:=qz ck1
 refine L.to (D:=Cls w F [tQt gP114 qP114 A114,tQH gP69 gP73 gP152 qP69 A69,tQw gP114 gP152 qP152 A152]) (sI [1,0,2]) ?_
 obtain ⟨l2,x3,x4,e5,h⟩:=zt h
 refine L.doesP (A:=[qS gP114 qP114 A114 []]) (M:=[zg gP69 gP73 gP152 qP69 A69 [],qY gP114 gP152 qP152 A152 []]) rfl (by kernel_rfl) rfl (fun w' hw=>W16 a0 A114 gP114 qP114 w' _ e5 _ hw.lend) ?_
 rintro _ _ ⟨gP114,q6,hg7,rfl,rfl⟩
 replace hGr114:=hGr114.trans hg7
 rw [qcj hg7 ck1]
 refine L.to (D:=Cls w F [tQt gP114 q6 l2,tQH gP69 gP73 gP152 qP69 A69,tQw gP114 gP152 qP152 A152]) hI (L.r 5 rfl (ln (W.seq (sr (L.r 1 rfl (L.ite h rfl (Y.neq rfl rfl) (fun c8 h=>?_) (fun c8 h=>?_)))))))
 ·refine L.r 4 rfl (ln (W.condT rfl (sr (L.r 3 rfl (ln (W.ret (E.thenR (E.ret3 rfl rfl rfl rfl (fun w1 hw=>?_)))))))))
  cases h
  exact ⟨_,_,rfl,⟨_,_,_,_,_,_,(hg69 ▸ hGr69),(hg114 ▸ hGr114),(hg152 ▸ hGr152),rfl,rfl⟩,hw.s [1,0,2]⟩
 refine L.r 2 rfl (L.take rfl (L.ite h rfl (Y.eqlAN Tryz.underlying24 rfl rfl) (fun c9 h=>?_) (fun c9 h=>?_)))
 ·refine L.r 1 rfl (ln (W.condT rfl (sr (L.r 3 rfl (ln (W.ret (E.thenR (E.ret3 rfl rfl rfl rfl (fun w1 hw=>?_)))))))))
  cases h
  exact ⟨_,_,rfl,⟨_,_,_,_,_,_,(hg69 ▸ hGr69),(hg114 ▸ hGr114),(hg152 ▸ hGr152),rfl,rfl⟩,hw.s [1,0,2]⟩
 refine L.r 1 rfl (ln (W.condF rfl (W.skip (E.thenN (sr (L.r 1 rfl (L.to (D:=Cls w F (tQH gP69 gP73 gP152 qP69 A69::zd gP114 q6 l2 gP152 qP152 A152)) (sI [1,0,2]) ?_)))))))
 obtain ⟨l10,l11,l12,x13,x14,e15,h⟩:=vY h
 refine L.doesP (A:=(tQH gP69 gP73 gP152 qP69 A69::zd gP114 q6 l2 gP152 qP152 A152)) (M:=[]) rfl (by kernel_rfl) rfl (fun w' hw=>W14 x3 A69 l2 A152 gP69 gP73 gP114 gP152 qP69 q6 qP152 w' _ e15 _ hw.lend) ?_
 rintro _ _ ⟨gP69,gP152,q16,q17,q18,hg19,hg20,rfl,rfl⟩
 replace hGr69:=hGr69.trans hg19
 replace hGr152:=hGr152.trans hg20
 obtain ⟨_,c21,h⟩:=qc h
 replace hGr114:=hGr114.len (qz c21)
 refine L.to (D:=Cls w F (tQH gP69 gP73 gP152 q16 l10::zd gP114 q17 l11 gP152 q18 l12)) hI (L.r 5 rfl (nsr (L.r 3 rfl (L.ite h rfl (Y.eql rfl rfl) (fun c22 h=>?_) (fun c22 h=>?_)))))
 ·refine L.r 2 rfl (L.take rfl (L.y rfl (Y.neqAN Tryz.underlying25 rfl rfl) (L.r 4 rfl (ln (W.ret (E.ret3 rfl rfl rfl rfl (fun w1 hw=>?_)))))))
  cases h
  exact ⟨_,_,rfl,⟨_,_,_,_,_,_,(hg69 ▸ hGr69),(hg114 ▸ hGr114),(hg152 ▸ hGr152),rfl,rfl⟩,hw⟩
 refine L.r 7 rfl (ln (W.ret (E.ret3 rfl rfl rfl rfl (fun w1 hw=>?_))))
 cases h
 exact ⟨_,_,rfl,⟨_,_,_,_,_,_,(hg69 ▸ hGr69),(hg114 ▸ hGr114),(hg152 ▸ hGr152),rfl,rfl⟩,hw⟩
set_option maxRecDepth 100000 in
set_option maxHeartbeats 8000000 in
theorem W17 (a0:Int) (a1:Int) (A69:(List TStore)) (A73:(List Ttx)) (gP69:Nat→Nat) (gP73:Nat→Nat) (gP152:Nat→Nat) (qP69:Nat→List Value) (qP73:Nat→List Value) (w:World) (r:Int) (h:M17 a0 a1 A69 A73=some r) (F:List Nat) (hc0:Cls w F (z8 gP69 gP73 gP152 qP69 A69 qP73 A73) w):zu Tryz.prog 17 [VP gP69 a0,.int .i64 a1] F w fun u m=>u=VP gP73 r∧m=(z8 gP69 gP73 gP152 qP69 A69 qP73 A73):=by
 rw [M17] at h
 refine body (n:=21) Tryz.func17 rfl rfl rfl hc0 ?_
 obtain ⟨th1,eth1,h⟩:=qc h
 refine W.to (D:=Cls w F (tQS gP69 a0 gP152 th1 qP69 gP73 A69 qP73 A73)) (fun _ hw=>hw.aO 0 rfl eth1) (sr (L.box rfl rfl ?_))
 intro b2
 refine L.r 1 rfl (nsr (L.r 1 rfl (L.y rfl (Y.apNil rfl eth1) (L.y rfl (Y.fieldP vM rfl) ?_))))
 obtain ⟨_,en3,h⟩:=qc h
 obtain ⟨_,en3⟩:=qd en3
 obtain ⟨_,en4,h⟩:=qc h
 obtain ⟨_,en4⟩:=qd en4
 refine L.y rfl (Y.loadG (q:=1) (si:=6) (ps:=26) (j:=0) (X:=[(tQi qP69 a0)]) qj0 rfl rfl rfl rfl (by simp [zl,en3,en4]) rfl) (L.y rfl (Y.func rfl) (L.callJ (fun v D=>∃ gx1,v=.int .i64 gx1∧D=Cls w F (tQu gP69 gP73 gP152 qP69 A69 a0::tQC gP73 qP73 A73::tQZ gP69 a0 gP152 th1 qP69 gP73)∧qe2 th1 gx1=some r) rfl (by kernel_rfl) rfl Tryz.func39 rfl rfl rfl ?_ ?_))
 ·refine sr (L.r 1 rfl (ln (W.seqJ (fun gs D=>gs=[]∧D=Cls w F (tQu gP69 gP73 gP152 qP69 A69 a0::tQC gP73 qP73 A73::tQZ gP69 a0 gP152 th1 qP69 gP73)∧qjn th1=some r) ?_ ?_)))
  ·refine sr (L.r 1 rfl (L.y rfl (Y.lenM (g:=(PR gP73)) (l:=th1.active_) Tryz.underlying67 rfl (fun w hw=>As.at_ (hw.get (i:=2) rfl))) (L.r 1 rfl (ln (W.block (W.loopJ (fun m gs D=>∃ gx2,gs=[(0,(tQi qP69 a0)),(1,.func (.func 40) #[] #[pt b2 0]),(7,.int .i64 (th1.active_.length:Int)),(8,.int .i64 gx2)]∧D=Cls w F (tQu gP69 gP73 gP152 qP69 A69 a0::tQC gP73 qP73 A73::tQO b2 a1::tQZ gP69 a0 gP152 th1 qP69 gP73)∧qag th1 A73 a1 m gx2=some r) ⟨0,rfl,rfl,h⟩ ⟨rfl,rfl,rfl,rfl,trivial⟩ (sI [6,7,0,1,4,5,2,3]) ?_))))))
   rintro m _ _ ⟨gx2,rfl,rfl,h⟩
   rcases m with _ | m
   ·rw [qag] at h;cases h
   rw [qag] at h
   generalize hg1:qag th1 A73 a1 m=go1 at h
   rw [qdV] at h
   refine sr (L.ite h rfl (Y.lss rfl rfl) (fun c7 h=>?_) (fun c7 h=>?_))
   ·refine ln (W.seq (W.condT rfl (W.skip (E.thenN (W.seq (W.block (sr (L.r 2 rfl (ln (W.seq ?_))))))))))
    refine W.region (L.r 3 rfl (L.m (V:=fun _=>el (tQi qP69 a0) (zG gx2)) h rfl (Y.indexM (g:=(PR gP73)) (l:=th1.active_) Tryz.underlying67 qau rfl rfl (fun w hw=>As.at_ (hw.get (i:=6) rfl))) (fun x8 ex8 h=>(L.y rfl (Y.loadE1 (u:=VP gP73 x8) qfm rfl (fun w hw=>As.at_ (hw.get (i:=6) rfl)) (qf ex8)) (L.callVJ (fun v D=>∃ gb3,v=.bool gb3∧D=Cls w F (tQu gP69 gP73 gP152 qP69 A69 a0::tQC gP73 qP73 A73::tQO b2 a1::tQZ gP69 a0 gP152 th1 qP69 gP73)∧qjm th1 gx2 go1 gb3=some r) rfl (by kernel_rfl) rfl rfl Tryz.func40 rfl rfl rfl ?_ ?_)))))
    ·refine sr (L.r 1 rfl (ln (W.seq ?_)))
     obtain ⟨th10,eth10,h⟩:=qc h
     refine W.to (D:=Cls w F (tQb gP73 x8 th10 qP73::xW qP73 x8 th10::xX qP73 x8 th10::tQz th10::tQL gP73 qP73 A73 x8::tQu gP69 gP73 gP152 qP69 A69 a0::tQO b2 a1::tQZ gP69 a0 gP152 th1 qP69 gP73)) (fun _ hw=>hw.aO 1 rfl eth10) (W.quietC mixed (by kernel_rfl) (fun _ hw=>hw.drew) (fun hC=>(U.r 1 rfl (U.y rfl (Y.apNil rfl eth10) (U.y rfl (Y.fieldP qmQ rfl) (U.y rfl (Y.loadG (q:=0) (si:=0) (ps:=0) (j:=0) (X:=[.int .i64 th10.id_]) ag3 rfl rfl rfl rfl sl0 rfl) (U.y rfl (Y.loadP (i:=6) ag3 rfl rfl rfl) (U.y rfl (Y.eql rfl rfl) (U.r 1 rfl (U.nil (E.thenN (W.ret (E.to (D:=Cls w F (tQC gP73 qP73 A73::tQu gP69 gP73 gP152 qP69 A69 a0::tQO b2 a1::tQZ gP69 a0 gP152 th1 qP69 gP73)) (fun _ hw=>hw.aS [0,1,2,3,4,5,6,7,8,9,10,11] eth10 rfl) (E.ret1 rfl rfl (fun w1 hw=>?_)))))))))))))))
     exact ⟨_,_,rfl,⟨decide (th10.id_=a1),rfl,rfl,h⟩,hw.s [1,0,2,3,4,5,6,7]⟩
    rintro _ _ ⟨gb3,rfl,rfl,h⟩
    rw [qjm] at h
    rcases gb3 with _ | _
    ·replace h:=zn h
     exact ln (W.condF rfl (W.skip (E.blockN (E.thenN (W.region (L.m (V:=fun x9=>.int .i64 x9) h rfl (Y.addM rfl rfl) (fun x9 ex9 h=>(L.r 1 rfl (L.nil (E.aJ ⟨x9,rfl,rfl,by rw [hg1];exact h⟩ hI))))))))))
    replace h:=zm h
    refine ln (W.condT rfl (sr (L.r 2 rfl (ln (W.ret (E.blockR (E.thenR (E.KLR (E.blockR (E.KSR ?_))))))))))
    exact E.ret1 rfl rfl (fun w1 hw=>(⟨_,_,rfl,⟨gx2,rfl,rfl,h⟩,hw.s [0,1,3,4,5,6,7]⟩))
   exact ln (W.seq (W.condF rfl (W.exit (E.thenX (E.KLX (E.blockX (E.joinJ ⟨rfl,rfl,h⟩ trivial (sI [0,1,3,4,5,6,7]))))))))
  rintro _ _ ⟨rfl,rfl,h⟩
  rw [qjn] at h
  exact sr (L.r 1 rfl (ln (W.ret (E.ret1 rfl rfl (fun w1 hw=>(⟨_,_,rfl,⟨(-1),rfl,rfl,h⟩,hw⟩))))))
 rintro _ _ ⟨gx1,rfl,rfl,h⟩
 rw [qe2] at h
 refine L.r 1 rfl (ln (W.seq (sr (L.r 1 rfl (L.ite h rfl (Y.lss rfl rfl) (fun c5 h=>?_) (fun c5 h=>?_))))))
 ·refine ln (W.condT rfl (sr (L.r 1 rfl (ln (W.ret (E.thenR (E.to (D:=Cls w F (z8 gP69 gP73 gP152 qP69 A69 qP73 A73)) (fun _ hw=>hw.aS [2,5,6,3,4,0,1] eth1 rfl) (E.ret1 rfl rfl (fun w1 hw=>?_)))))))))
  cases h
  exact ⟨_,_,rfl,⟨rfl,rfl⟩,hw⟩
 refine ln (W.condF rfl (W.skip (E.thenN (sr (L.r 1 rfl (L.y rfl (Y.apNil rfl eth1) (L.y rfl (Y.fieldP vM rfl) (L.y rfl (Y.loadG (q:=2) (si:=6) (ps:=26) (j:=0) (X:=[(tQi qP69 a0)]) qj0 rfl rfl rfl rfl (by simp [zl,en3,en4]) rfl) (L.r 1 rfl (L.m (V:=fun _=>el (tQi qP69 a0) (zG gx1)) h rfl (Y.indexM (g:=(PR gP73)) (l:=th1.active_) Tryz.underlying67 qau rfl rfl (fun w hw=>As.at_ (hw.get (i:=5) rfl))) (fun x6 ex6 h=>(L.y rfl (Y.loadE1 (u:=VP gP73 x6) qfm rfl (fun w hw=>As.at_ (hw.get (i:=5) rfl)) (qf ex6)) ?_))))))))))))
 refine L.r 1 rfl (ln (W.ret (E.to (D:=Cls w F (z8 gP69 gP73 gP152 qP69 A69 qP73 A73)) (fun _ hw=>hw.aS [2,5,6,3,4,0,1] eth1 rfl) (E.ret1 rfl rfl (fun w1 hw=>?_)))))
 cases h
 exact ⟨_,_,rfl,⟨rfl,rfl⟩,hw⟩
set_option maxRecDepth 100000 in
set_option maxHeartbeats 8000000 in
theorem W6 (a0:Int) (a1:Int) (A69:(List TStore)) (A73:(List Ttx)) (gP69:Nat→Nat) (gP73:Nat→Nat) (gP152:Nat→Nat) (qP69:Nat→List Value) (qP73:Nat→List Value) (w:World) (r:((List TStore)×(List Ttx)×Int)) (h:M6 a0 a1 A69 A73=some r) (F:List Nat) (hc0:Cls w F [zg gP69 gP73 gP152 qP69 A69 [],zE gP73 qP73 A73 []] w):zu Tryz.prog 6 [VP gP69 a0,.int .i64 a1] F w fun u m=>∃ G73 Q69 Q73,Gr gP73 A73.length G73 r.2.1.length∧u=.int .i64 r.2.2∧m=[zg gP69 G73 gP152 Q69 r.1 [],zE G73 Q73 r.2.1 []]:=by
 rw [M6] at h
 obtain ⟨g73,hg73⟩:∃ g,g=gP73:=⟨_,rfl⟩
 have hGr73:Gr g73 A73.length gP73 A73.length:=hg73 ▸ Gr.refl _ _
 refine body (n:=38) Tryz.func6 rfl rfl rfl hc0 ?_
 obtain ⟨th1,eth1,h⟩:=qc h
 refine W.to (D:=Cls w F [.obj (gP69 a0.toNat) (List.flatten [(zr (fzr (PR gP152)) (fun _=>[]) th1.logs_).flatten,[.int .i64 th1.half_],[.int .i64 th1.gen_],[.bool th1.down_],[.int .i64 th1.now_],(zr qh (qV (qP69 a0.toNat) 2) th1.items_).flatten,[(gv (qP69 a0.toNat) 0)],[(gv (qP69 a0.toNat) 1)]]) 69,.sl (gv (qP69 a0.toNat) 0) 70 1 (th1.active_.map (PR gP73)),.sl (gv (qP69 a0.toNat) 1) 70 1 (th1.over_.map (PR gP73)),.ss (zs sd0 (fun _=>[]) th1.logs_),.ss (zs (qF 84 2 TVersion.row) (qV (qP69 a0.toNat) 2) th1.items_),zg gP69 gP73 gP152 qP69 A69 (a0.toNat :: []),zE gP73 qP73 A73 []]) (fun _ hw=>hw.aO 0 rfl eth1) (sr (L.r 1 rfl (ln (W.seq (W.block (sr (L.r 1 rfl (L.y rfl (Y.apNil rfl eth1) (L.y rfl (Y.fieldP qa7 rfl) ?_)))))))))
 obtain ⟨_,en2,h⟩:=qc h
 obtain ⟨_,en2⟩:=qd en2
 refine L.iteB h rfl (Y.loadG (q:=0) (si:=3) (ps:=4) (j:=0) (X:=[.bool th1.down_]) ag4 rfl rfl rfl rfl (by simp [zl,en2]) rfl) (fun c3 h=>?_) (fun c3 h=>?_)
 ·refine L.r 1 rfl (ln (W.condT rfl (sr (L.r 1 rfl (ln (W.ret (E.blockR (E.thenR (E.to (D:=Cls w F [zg gP69 gP73 gP152 qP69 A69 [],zE gP73 qP73 A73 []]) (fun _ hw=>hw.aS [0,1,2,3,4,5,6] eth1 rfl) (E.ret1 rfl rfl (fun w1 hw=>?_)))))))))))
  cases h
  exact ⟨_,_,rfl,⟨_,_,_,(hg73 ▸ hGr73),rfl,rfl⟩,hw⟩
 refine L.r 1 rfl (ln (W.condF rfl (sr (L.cutJ 6 (fun gs D=>∃ gb1,gs=[(0,VP gP69 a0),(1,.int .i64 a1),(16,.bool gb1)]∧D=Cls w F [zg gP69 gP73 gP152 qP69 A69 (a0.toNat :: []),zE gP73 qP73 A73 [],.obj (gP69 a0.toNat) (List.flatten [(zr (fzr (PR gP152)) (fun _=>[]) th1.logs_).flatten,[.int .i64 th1.half_],[.int .i64 th1.gen_],[.bool th1.down_],[.int .i64 th1.now_],(zr qh (qV (qP69 a0.toNat) 2) th1.items_).flatten,[(gv (qP69 a0.toNat) 0)],[(gv (qP69 a0.toNat) 1)]]) 69,.ss (zs sd0 (fun _=>[]) th1.logs_),.ss (zs (qF 84 2 TVersion.row) (qV (qP69 a0.toNat) 2) th1.items_),.sl (gv (qP69 a0.toNat) 0) 70 1 (th1.active_.map (PR gP73)),.sl (gv (qP69 a0.toNat) 1) 70 1 (th1.over_.map (PR gP73))]∧qj2 A69 A73 a0 a1 gb1=some r) ?_ ?_))))
 ·refine L.r 1 rfl (L.ite h rfl (Y.lss rfl rfl) (fun c79 h=>?_) (fun c79 h=>?_))
  ·exact L.r 4 rfl (L.nil (E.jJ ⟨true,rfl,rfl,h⟩ (sI [5,6,0,3,4,1,2])))
  refine L.r 2 rfl (L.take rfl (L.ite h rfl (Y.geq rfl rfl) (fun c80 h=>?_) (fun c80 h=>?_)))
  ·exact L.r 1 rfl (L.nil (E.jJ ⟨true,rfl,rfl,h⟩ (sI [5,6,0,3,4,1,2])))
  exact L.r 1 rfl (L.nil (E.jJ ⟨false,rfl,rfl,h⟩ (sI [5,6,0,3,4,1,2])))
 rintro _ _ ⟨gb1,rfl,rfl,h⟩
 rw [qj2] at h
 rcases gb1 with _ | _
 ·replace h:=zn h
  refine L.r 1 rfl (ln (W.condF rfl (sr (L.r 2 rfl (L.to (D:=Cls w F [zg gP69 gP73 gP152 qP69 A69 [],zE gP73 qP73 A73 []]) (fun _ hw=>hw.aS [2,5,6,3,4,0,1] eth1 rfl) ?_)))))
  obtain ⟨x4,e5,h⟩:=qc h
  refine L.doesP (A:=[zg gP69 gP73 gP152 qP69 A69 [],zE gP73 qP73 A73 []]) (M:=[]) rfl (by kernel_rfl) rfl (fun w' hw=>W17 a0 a1 A69 A73 gP69 gP73 gP152 qP69 qP73 w' _ e5 _ hw.lend) ?_
  rintro _ _ ⟨rfl,rfl⟩
  refine L.to (D:=Cls w F [zg gP69 gP73 gP152 qP69 A69 [],zE gP73 qP73 A73 []]) hI ?_
  obtain ⟨th6,eth6,h⟩:=qc h
  refine L.to (D:=Cls w F [.obj (gP69 a0.toNat) (List.flatten [(zr (fzr (PR gP152)) (fun _=>[]) th6.logs_).flatten,[.int .i64 th6.half_],[.int .i64 th6.gen_],[.bool th6.down_],[.int .i64 th6.now_],(zr qh (qV (qP69 a0.toNat) 2) th6.items_).flatten,[(gv (qP69 a0.toNat) 0)],[(gv (qP69 a0.toNat) 1)]]) 69,.sl (gv (qP69 a0.toNat) 0) 70 1 (th6.active_.map (PR gP73)),.sl (gv (qP69 a0.toNat) 1) 70 1 (th6.over_.map (PR gP73)),.ss (zs sd0 (fun _=>[]) th6.logs_),.ss (zs (qF 84 2 TVersion.row) (qV (qP69 a0.toNat) 2) th6.items_),zg gP69 gP73 gP152 qP69 A69 (a0.toNat :: []),zE gP73 qP73 A73 []]) (fun _ hw=>hw.aO 0 rfl eth6) (L.ite h rfl (Y.neqAN Tryz.underlying70 rfl rfl) (fun c7 h=>?_) (fun c7 h=>?_))
  ·refine L.r 1 rfl (ln (W.condT rfl (sr (L.r 1 rfl (ln (W.ret (E.blockR (E.thenR (E.to (D:=Cls w F [zg gP69 gP73 gP152 qP69 A69 [],zE gP73 qP73 A73 []]) (fun _ hw=>hw.aS [0,1,2,3,4,5,6] eth6 rfl) (E.ret1 rfl rfl (fun w1 hw=>?_)))))))))))
   cases h
   exact ⟨_,_,rfl,⟨_,_,_,(hg73 ▸ hGr73),rfl,rfl⟩,hw⟩
  refine L.r 1 rfl (ln (W.condF rfl (W.skip (E.blockN (E.thenN (W.seq (W.drawn2 (k:=17) (stC [[12,13,16],[13,16],[16]] [Cls w F [.obj (gP69 a0.toNat) (List.flatten [(zr (fzr (PR gP152)) (fun _=>[]) th6.logs_).flatten,[.int .i64 th6.half_],[.int .i64 th6.gen_],[.bool th6.down_],[.int .i64 th6.now_],(zr qh (qV (qP69 a0.toNat) 2) th6.items_).flatten,[(gv (qP69 a0.toNat) 0)],[(gv (qP69 a0.toNat) 1)]]) 69,.sl (gv (qP69 a0.toNat) 0) 70 1 (th6.active_.map (PR gP73)),.sl (gv (qP69 a0.toNat) 1) 70 1 (th6.over_.map (PR gP73)),.ss (zs sd0 (fun _=>[]) th6.logs_),.ss (zs (qF 84 2 TVersion.row) (qV (qP69 a0.toNat) 2) th6.items_),zg gP69 gP73 gP152 qP69 A69 (a0.toNat :: []),zE gP73 qP73 A73 []],Cls w F [.obj (gP69 a0.toNat) (List.flatten [(zr (fzr (PR gP152)) (fun _=>[]) th6.logs_).flatten,[.int .i64 th6.half_],[.int .i64 th6.gen_],[.bool th6.down_],[.int .i64 th6.now_],(zr qh (qV (qP69 a0.toNat) 2) th6.items_).flatten,[(gv (qP69 a0.toNat) 0)],[(gv (qP69 a0.toNat) 1)]]) 69,.sl (gv (qP69 a0.toNat) 0) 70 1 (th6.active_.map (PR gP73)),.sl (gv (qP69 a0.toNat) 1) 70 1 (th6.over_.map (PR gP73)),.ss (zs sd0 (fun _=>[]) th6.logs_),.ss (zs (qF 84 2 TVersion.row) (qV (qP69 a0.toNat) 2) th6.items_),zg gP69 gP73 gP152 qP69 A69 (a0.toNat :: [])],Cls w F [.obj (gP69 a0.toNat) (List.flatten [(zr (fzr (PR gP152)) (fun _=>[]) th6.logs_).flatten,[.int .i64 th6.half_],[.int .i64 th6.gen_],[.bool th6.down_],[.int .i64 th6.now_],(zr qh (qV (qP69 a0.toNat) 2) th6.items_).flatten,[(gv (qP69 a0.toNat) 0)],[(gv (qP69 a0.toNat) 1)]]) 69,.sl (gv (qP69 a0.toNat) 1) 70 1 (th6.over_.map (PR gP73)),.ss (zs sd0 (fun _=>[]) th6.logs_),.ss (zs (qF 84 2 TVersion.row) (qV (qP69 a0.toNat) 2) th6.items_),zg gP69 gP73 gP152 qP69 A69 (a0.toNat :: [])]] (Cls w F [.sl (gv (qP69 a0.toNat) 1) 70 1 (th6.over_.map (PR gP73)),.ss (zs sd0 (fun _=>[]) th6.logs_),.ss (zs (qF 84 2 TVersion.row) (qV (qP69 a0.toNat) 2) th6.items_),zg gP69 gP73 gP152 qP69 A69 (a0.toNat :: [])])) rfl mixed (fun _ hw=>hw.drew) (Sc.now (by kernel_rfl) hI) (V2.zz [] (Zc.on' (Zc.on' (Zc.on' (Zc.fin hI) (sI [1,2,3,4])) (sI [2,3,4,5])) (sI [2,3,4,5])) (fun hz61=>(V2.r [0,1] (by kernel_rfl) rfl (V2.apNil (i:=2) (Nx2.of [] (by kernel_rfl) rfl hz61) rfl rfl rfl eth6 (V2.q 3 [] hz61 rfl rfl (Y.fieldP vM rfl) (V2.zz [16] (Zc.on' (Zc.on' (Zc.at1 hI) (sI [0,2,3,4,5])) (sI [0,2,3,4,5])) (fun hz62=>?_))))))))))))))
  obtain ⟨_,en63,h⟩:=qc h
  obtain ⟨_,en63⟩:=qd en63
  obtain ⟨_,en64,h⟩:=qc h
  obtain ⟨_,en64⟩:=qd en64
  refine V2.q 4 [16] hz62 rfl rfl (Y.loadG (q:=0) (si:=6) (ps:=26) (j:=0) (X:=[(gv (qP69 a0.toNat) 0)]) qj0 rfl rfl rfl rfl (by simp [zl,en63,en64]) rfl) (V2.r [5,6] (by kernel_rfl) rfl (V2.apNil (i:=7) (Nx2.of [] (by kernel_rfl) rfl hz61) rfl rfl rfl eth6 (V2.q 8 [] hz61 rfl rfl (Y.fieldP vN rfl) (V2.q 9 [16] hz62 rfl rfl (Y.loadG (q:=0) (si:=4) (ps:=5) (j:=0) (X:=[.int .i64 th6.now_]) ag3 rfl rfl rfl rfl (by simp [zl,en63]) rfl) (V2.q 10 [] hz61 rfl rfl (Y.build (cells:=#[.int .i64 a1,.int .i64 th6.now_,.int .i64 0,.slice none 0 0,.slice none 0 0,st [],st [],st [],st [],st [],st [],st [],st [],st [],st [],st [],st [],st [],st [],st [],st [],st [],st [],st [],st [],.bool false,.bool false]) rfl (by kernel_rfl)) (V2.eff (i:=11) (by kernel_rfl) rfl (L.box rfl rfl ?_)))))))
  intro b65
  refine L.toSeg (S:=[[.int .i64 a1],[.int .i64 th6.now_],[.int .i64 0],[.slice none 0 0],[.slice none 0 0],(zr (fzr SR) (fun _=>[]) (List.replicate 20 ([]:(List UInt8)))).flatten,[.bool false],[.bool false]]) rfl (L.ssNil (sds:=sd0) (vs:=(fun _=>[])) (xs:=(List.replicate 20 ([]:(List UInt8)))) (zb ji _) (L.nil (E.toV2 (stC [[12,13,16],[13,16],[16]] [Cls w F [.ss (zs sd0 (fun _=>[]) (List.replicate 20 ([]:(List UInt8)))),.obj b65 (List.flatten [[.int .i64 a1],[.int .i64 th6.now_],[.int .i64 0],[.slice none 0 0],[.slice none 0 0],(zr (fzr SR) (fun _=>[]) (List.replicate 20 ([]:(List UInt8)))).flatten,[.bool false],[.bool false]]) 73,.obj (gP69 a0.toNat) (List.flatten [(zr (fzr (PR gP152)) (fun _=>[]) th6.logs_).flatten,[.int .i64 th6.half_],[.int .i64 th6.gen_],[.bool th6.down_],[.int .i64 th6.now_],(zr qh (qV (qP69 a0.toNat) 2) th6.items_).flatten,[(gv (qP69 a0.toNat) 0)],[(gv (qP69 a0.toNat) 1)]]) 69,.sl (gv (qP69 a0.toNat) 0) 70 1 (th6.active_.map (PR gP73)),.sl (gv (qP69 a0.toNat) 1) 70 1 (th6.over_.map (PR gP73)),.ss (zs sd0 (fun _=>[]) th6.logs_),.ss (zs (qF 84 2 TVersion.row) (qV (qP69 a0.toNat) 2) th6.items_),zg gP69 gP73 gP152 qP69 A69 (a0.toNat :: []),zE gP73 qP73 A73 []],Cls w F [.obj (gP69 a0.toNat) (List.flatten [(zr (fzr (PR gP152)) (fun _=>[]) th6.logs_).flatten,[.int .i64 th6.half_],[.int .i64 th6.gen_],[.bool th6.down_],[.int .i64 th6.now_],(zr qh (qV (qP69 a0.toNat) 2) th6.items_).flatten,[(gv (qP69 a0.toNat) 0)],[(gv (qP69 a0.toNat) 1)]]) 69,.sl (gv (qP69 a0.toNat) 0) 70 1 (th6.active_.map (PR gP73)),.sl (gv (qP69 a0.toNat) 1) 70 1 (th6.over_.map (PR gP73)),.ss (zs sd0 (fun _=>[]) th6.logs_),.ss (zs (qF 84 2 TVersion.row) (qV (qP69 a0.toNat) 2) th6.items_),zg gP69 gP73 gP152 qP69 A69 (a0.toNat :: [])],Cls w F [.obj (gP69 a0.toNat) (List.flatten [(zr (fzr (PR gP152)) (fun _=>[]) th6.logs_).flatten,[.int .i64 th6.half_],[.int .i64 th6.gen_],[.bool th6.down_],[.int .i64 th6.now_],(zr qh (qV (qP69 a0.toNat) 2) th6.items_).flatten,[(gv (qP69 a0.toNat) 0)],[(gv (qP69 a0.toNat) 1)]]) 69,.sl (gv (qP69 a0.toNat) 1) 70 1 (th6.over_.map (PR gP73)),.ss (zs sd0 (fun _=>[]) th6.logs_),.ss (zs (qF 84 2 TVersion.row) (qV (qP69 a0.toNat) 2) th6.items_),zg gP69 gP73 gP152 qP69 A69 (a0.toNat :: [])]] (Cls w F [.sl (gv (qP69 a0.toNat) 1) 70 1 (th6.over_.map (PR gP73)),.ss (zs sd0 (fun _=>[]) th6.logs_),.ss (zs (qF 84 2 TVersion.row) (qV (qP69 a0.toNat) 2) th6.items_),zg gP69 gP73 gP152 qP69 A69 (a0.toNat :: [])])) 11 (by kernel_rfl) (Sc.stay (sI [2,3,4,5,6,7,8]) (Sc.stay hI (Sc.stay hI (Sc.stayD hI)))) (Sc.now (by kernel_rfl) hI) (V2.eff (i:=12) (by kernel_rfl) rfl (L.nilSl 3 1 (L.nilSl 3 1 ?_))))))
  obtain ⟨_,ck66,h⟩:=qc h
  replace ck66:=qz ck66
  obtain ⟨ck66_0,ck66_1,ck66_2⟩:=ck66
  refine L.arNew (rowg:=fun g=>Ttx.rowA) (subg:=fun g=>Ttx.subA) (e:=73) (g:=gP73) (gh:=qP73) (l:=A73) (hs:=[]) (b:=b65) (u1:=(⟨a1,th6.now_,0,[],[],(List.replicate 20 ([]:(List UInt8))),false,false⟩:Ttx)) (vs':=([(.slice none 0 0),(.slice none 0 0)])) (m':=[.obj (gP69 a0.toNat) (List.flatten [(zr (fzr (PR gP152)) (fun _=>[]) th6.logs_).flatten,[.int .i64 th6.half_],[.int .i64 th6.gen_],[.bool th6.down_],[.int .i64 th6.now_],(zr qh (qV (qP69 a0.toNat) 2) th6.items_).flatten,[(gv (qP69 a0.toNat) 0)],[(gv (qP69 a0.toNat) 1)]]) 69,.sl (gv (qP69 a0.toNat) 0) 70 1 (th6.active_.map (PR gP73)),.sl (gv (qP69 a0.toNat) 1) 70 1 (th6.over_.map (PR gP73)),.ss (zs sd0 (fun _=>[]) th6.logs_),.ss (zs (qF 84 2 TVersion.row) (qV (qP69 a0.toNat) 2) th6.items_),zg gP69 gP73 gP152 qP69 A69 (a0.toNat :: [])]) [3,1,0,2,10,4,5,6,7,8,9] h (by decide) rfl (fun _ h=>nomatch h) (fun _ _ _ _ _=>⟨rfl,rfl⟩) ?_
  intro gP73 q67 x68 l69 h hg70 hv71 hi72
  rw [hv71]
  replace hGr73:=hGr73.trans hg70
  rw [qg2 hg70 ck66_0]
  rw [qi3 hg70 ck66_1]
  rw [qi3 hg70 ck66_2]
  refine L.to (D:=Cls w F [zE gP73 q67 l69 [],.obj (gP69 a0.toNat) (List.flatten [(zr (fzr (PR gP152)) (fun _=>[]) th6.logs_).flatten,[.int .i64 th6.half_],[.int .i64 th6.gen_],[.bool th6.down_],[.int .i64 th6.now_],(zr qh (qV (qP69 a0.toNat) 2) th6.items_).flatten,[(gv (qP69 a0.toNat) 0)],[(gv (qP69 a0.toNat) 1)]]) 69,.sl (gv (qP69 a0.toNat) 0) 70 1 (th6.active_.map (PR gP73)),.sl (gv (qP69 a0.toNat) 1) 70 1 (th6.over_.map (PR gP73)),.ss (zs sd0 (fun _=>[]) th6.logs_),.ss (zs (qF 84 2 TVersion.row) (qV (qP69 a0.toNat) 2) th6.items_),zg gP69 gP73 gP152 qP69 A69 (a0.toNat :: [])]) hI (L.litOne rfl Tryz.underlying67 qhW rfl (zL _ _) ?_)
  intro b73
  refine L.nil (E.toV2 (stC [[13,16],[16]] [Cls w F [.sl (sv b73 1) 70 1 (([x68]).map (PR gP73)),.obj (gP69 a0.toNat) (List.flatten [(zr (fzr (PR gP152)) (fun _=>[]) th6.logs_).flatten,[.int .i64 th6.half_],[.int .i64 th6.gen_],[.bool th6.down_],[.int .i64 th6.now_],(zr qh (qV (qP69 a0.toNat) 2) th6.items_).flatten,[(gv (qP69 a0.toNat) 0)],[(gv (qP69 a0.toNat) 1)]]) 69,.sl (gv (qP69 a0.toNat) 0) 70 1 (th6.active_.map (PR gP73)),.sl (gv (qP69 a0.toNat) 1) 70 1 (th6.over_.map (PR gP73)),.ss (zs sd0 (fun _=>[]) th6.logs_),.ss (zs (qF 84 2 TVersion.row) (qV (qP69 a0.toNat) 2) th6.items_),zg gP69 gP73 gP152 qP69 A69 (a0.toNat :: [])],Cls w F [.sl (sv b73 1) 70 1 (([x68]).map (PR gP73)),.obj (gP69 a0.toNat) (List.flatten [(zr (fzr (PR gP152)) (fun _=>[]) th6.logs_).flatten,[.int .i64 th6.half_],[.int .i64 th6.gen_],[.bool th6.down_],[.int .i64 th6.now_],(zr qh (qV (qP69 a0.toNat) 2) th6.items_).flatten,[(gv (qP69 a0.toNat) 0)],[(gv (qP69 a0.toNat) 1)]]) 69,.sl (gv (qP69 a0.toNat) 1) 70 1 (th6.over_.map (PR gP73)),.ss (zs sd0 (fun _=>[]) th6.logs_),.ss (zs (qF 84 2 TVersion.row) (qV (qP69 a0.toNat) 2) th6.items_),zg gP69 gP73 gP152 qP69 A69 (a0.toNat :: [])]] (Cls w F [.sl (sv b73 1) 70 1 (([x68]).map (PR gP73)),.sl (gv (qP69 a0.toNat) 1) 70 1 (th6.over_.map (PR gP73)),.ss (zs sd0 (fun _=>[]) th6.logs_),.ss (zs (qF 84 2 TVersion.row) (qV (qP69 a0.toNat) 2) th6.items_),zg gP69 gP73 gP152 qP69 A69 (a0.toNat :: [])])) 12 (by kernel_rfl) (Sc.past rfl (Sc.stay (sI [1,2,3,4,5,6]) (Sc.stay (sI [1,2,3,4,5]) (Sc.stayD (sI [1,2,3,4]))))) (Sc.now (by kernel_rfl) (sI [0,2,3,4,5,6,7])) (V2.eff (i:=13) (by kernel_rfl) rfl (L.appM (i:=3) (g:=(PR gP73)) (l:=th6.active_) (more:=[x68]) h rfl Tryz.underlying67 qhW rfl rfl rfl (fun w hw=>As.at_ (hw.get (i:=0) rfl)) (kj _) rfl ?_)))
  intro v74 l75 el75 h
  refine L.nil (E.toV2 (stC [[16]] [Cls w F [.sl v74 70 1 (l75.map (PR gP73)),.sl (sv b73 1) 70 1 (([x68]).map (PR gP73)),.obj (gP69 a0.toNat) (List.flatten [(zr (fzr (PR gP152)) (fun _=>[]) th6.logs_).flatten,[.int .i64 th6.half_],[.int .i64 th6.gen_],[.bool th6.down_],[.int .i64 th6.now_],(zr qh (qV (qP69 a0.toNat) 2) th6.items_).flatten,[(gv (qP69 a0.toNat) 0)],[(gv (qP69 a0.toNat) 1)]]) 69,.sl (gv (qP69 a0.toNat) 1) 70 1 (th6.over_.map (PR gP73)),.ss (zs sd0 (fun _=>[]) th6.logs_),.ss (zs (qF 84 2 TVersion.row) (qV (qP69 a0.toNat) 2) th6.items_),zg gP69 gP73 gP152 qP69 A69 (a0.toNat :: [])]] (Cls w F [.sl v74 70 1 (l75.map (PR gP73)),.sl (sv b73 1) 70 1 (([x68]).map (PR gP73)),.sl (gv (qP69 a0.toNat) 1) 70 1 (th6.over_.map (PR gP73)),.ss (zs sd0 (fun _=>[]) th6.logs_),.ss (zs (qF 84 2 TVersion.row) (qV (qP69 a0.toNat) 2) th6.items_),zg gP69 gP73 gP152 qP69 A69 (a0.toNat :: [])])) 13 (by kernel_rfl) (Sc.past rfl (Sc.stay (sI [1,2,3,4,5,6]) (Sc.stayD (sI [1,2,3,4,5])))) (Sc.now (by kernel_rfl) (sI [0,1,3,4,5,6,7])) (V2.zz [] (Zc.on' (Zc.fin hI) (sI [0,1,3,4,5,6])) (fun hz76=>(V2.apNil (i:=14) (Nx2.of [] (by kernel_rfl) rfl hz76) rfl rfl rfl eth6 (V2.q 15 [] hz76 rfl rfl (Y.fieldP vM rfl) (V2.eff (i:=16) (by kernel_rfl) rfl (L.storeGV (q:=3) (si:=6) (ps:=26) (j:=0) (X:=[(gv (qP69 a0.toNat) 0)]) qno rfl rfl rfl (fun _ hw=>(As.at_ (hw.get (i:=0) rfl)).one) rfl rfl (by simp [zl,en63,en64]) rfl (L.nil (E.toV2 (stC [] [] (Cls w F [.sl v74 70 1 (l75.map (PR gP73)),.sl (sv b73 1) 70 1 (([x68]).map (PR gP73)),.sl (gv (qP69 a0.toNat) 1) 70 1 (th6.over_.map (PR gP73)),.ss (zs sd0 (fun _=>[]) th6.logs_),.ss (zs (qF 84 2 TVersion.row) (qV (qP69 a0.toNat) 2) th6.items_),zg gP69 gP73 gP152 qP69 A69 (a0.toNat :: [])])) 16 (by kernel_rfl) (Sc.past rfl (Sc.stayD hI)) (Sc.atD (sI [0,1,4,5,6,7])) (V2.done (by kernel_rfl) (E.thenN (sr (L.r 1 rfl ?_)))))))))))))
  refine ln (W.ret (E.to (D:=Cls w F [.sl v74 70 1 (l75.map (PR gP73)),.sl (sv b73 1) 70 1 (([x68]).map (PR gP73)),zE gP73 q67 l69 [],.obj (gP69 a0.toNat) (List.flatten [(zr (fzr (PR gP152)) (fun _=>[]) th6.logs_).flatten,[.int .i64 th6.half_],[.int .i64 th6.gen_],[.bool th6.down_],[.int .i64 th6.now_],(zr qh (qV ([v74,(gv (qP69 a0.toNat) 1)]++ghl (qV (qP69 a0.toNat) 2) th6.items_.length) 2) th6.items_).flatten,[v74],[(gv (qP69 a0.toNat) 1)]]) 69,.sl (gv (qP69 a0.toNat) 1) 70 1 (th6.over_.map (PR gP73)),.ss (zs sd0 (fun _=>[]) th6.logs_),.ss (zs (qF 84 2 TVersion.row) (qV ([v74,(gv (qP69 a0.toNat) 1)]++ghl (qV (qP69 a0.toNat) 2) th6.items_.length) 2) th6.items_),zg gP69 gP73 gP152 qP69 A69 (a0.toNat :: [])]) (fun _ hw=>by rw [xz [v74,(gv (qP69 a0.toNat) 1)] _ 2 _ rfl,xy [v74,(gv (qP69 a0.toNat) 1)] _ 2 _ rfl];exact hw) ?_))
  obtain ⟨l78,el78,h⟩:=qc h
  refine E.aC (row:=TStore.rowA gP73 gP152) (sub:=TStore.subA gP73 gP152) (e:=69) (g:=gP69) (gh:=qP69) (vs':=([v74,(gv (qP69 a0.toNat) 1)]++ghl (qV (qP69 a0.toNat) 2) th6.items_.length)) (m':=[.sl (sv b73 1) 70 1 (([x68]).map (PR gP73)),zE gP73 q67 l69 []]) [3,0,4,5,6,7,1,2] el78 rfl ?_
  intro q77
  refine E.to (D:=Cls w F [zg gP69 gP73 gP152 q77 l78 [],.sl (sv b73 1) 70 1 (([x68]).map (PR gP73)),zE gP73 q67 l69 []]) hI (E.ret1 rfl rfl (fun w1 hw=>?_))
  cases h
  exact ⟨_,_,rfl,⟨_,_,_,(hg73 ▸ hGr73),rfl,rfl⟩,hw.s [0,2]⟩
 replace h:=zm h
 refine L.r 1 rfl (ln (W.condT rfl (sr (L.r 1 rfl (ln (W.ret (E.blockR (E.thenR (E.to (D:=Cls w F [zg gP69 gP73 gP152 qP69 A69 [],zE gP73 qP73 A73 []]) (fun _ hw=>hw.aS [2,5,6,3,4,0,1] eth1 rfl) (E.ret1 rfl rfl (fun w1 hw=>?_)))))))))))
 cases h
 exact ⟨_,_,rfl,⟨_,_,_,(hg73 ▸ hGr73),rfl,rfl⟩,hw⟩
set_option maxRecDepth 100000 in
set_option maxHeartbeats 8000000 in
theorem W18 (a0:Int) (a1:Int) (a2:Int) (A69:(List TStore)) (A73:(List Ttx)) (gP69:Nat→Nat) (gP73:Nat→Nat) (gP152:Nat→Nat) (qP69:Nat→List Value) (qP73:Nat→List Value) (w:World) (r:(Int×Int)) (h:M18 a0 a1 a2 A69 A73=some r) (F:List Nat) (hc0:Cls w F (z8 gP69 gP73 gP152 qP69 A69 qP73 A73) w):zu Tryz.prog 18 [VP gP69 a0,.int .i64 a1,.int .i64 a2] F w fun u m=>u=.tuple #[VP gP73 r.1,.int .i64 r.2]∧m=(z8 gP69 gP73 gP152 qP69 A69 qP73 A73):=by
 rw [M18] at h
 refine body (n:=33) Tryz.func18 rfl rfl rfl hc0 ?_
 obtain ⟨th1,eth1,h⟩:=qc h
 refine W.to (D:=Cls w F (tQS gP69 a0 gP152 th1 qP69 gP73 A69 qP73 A73)) (fun _ hw=>hw.aO 0 rfl eth1) (sr (L.r 2 rfl (ln (W.seq (sr (L.r 1 rfl (L.y rfl (Y.apNil rfl eth1) (L.y rfl (Y.fieldP qa7 rfl) ?_))))))))
 obtain ⟨_,en2,h⟩:=qc h
 obtain ⟨_,en2⟩:=qd en2
 refine L.iteB h rfl (Y.loadG (q:=0) (si:=3) (ps:=4) (j:=0) (X:=[.bool th1.down_]) ag4 rfl rfl rfl rfl (by simp [zl,en2]) rfl) (fun c3 h=>?_) (fun c3 h=>?_)
 ·refine ln (W.condT rfl (sr (L.r 2 rfl (ln (W.ret (E.thenR (E.to (D:=Cls w F (z8 gP69 gP73 gP152 qP69 A69 qP73 A73)) (fun _ hw=>hw.aS [0,1,2,3,4,5,6] eth1 rfl) (E.ret2 rfl rfl rfl (fun w1 hw=>?_)))))))))
  cases h
  exact ⟨_,_,rfl,⟨rfl,rfl⟩,hw⟩
 refine ln (W.condF rfl (W.skip (E.thenN (W.seq (sr (L.cutJ 6 (fun gs D=>∃ gb1,gs=[(0,VP gP69 a0),(1,.int .i64 a1),(2,.int .i64 a2),(18,.bool gb1)]∧D=Cls w F (tQu gP69 gP73 gP152 qP69 A69 a0::tQC gP73 qP73 A73::tQZ gP69 a0 gP152 th1 qP69 gP73)∧qbn a2 a0 a1 A69 A73 gb1=some r) ?_ ?_))))))
 ·refine L.r 1 rfl (L.ite h rfl (Y.lss rfl rfl) (fun c10 h=>?_) (fun c10 h=>?_))
  ·exact L.r 4 rfl (L.nil (E.jJ ⟨true,rfl,rfl,h⟩ (sI [5,6,0,3,4,1,2])))
  refine L.r 2 rfl (L.take rfl (L.ite h rfl (Y.geq rfl rfl) (fun c11 h=>?_) (fun c11 h=>?_)))
  ·exact L.r 1 rfl (L.nil (E.jJ ⟨true,rfl,rfl,h⟩ (sI [5,6,0,3,4,1,2])))
  exact L.r 1 rfl (L.nil (E.jJ ⟨false,rfl,rfl,h⟩ (sI [5,6,0,3,4,1,2])))
 rintro _ _ ⟨gb1,rfl,rfl,h⟩
 rw [qbn] at h
 rcases gb1 with _ | _
 ·replace h:=zn h
  refine L.r 2 rfl (L.take rfl (L.ite h rfl (Y.lss rfl rfl) (fun c4 h=>?_) (fun c4 h=>?_)))
  ·refine L.r 5 rfl (ln (W.condT rfl (sr (L.r 2 rfl (ln (W.ret (E.thenR (E.to (D:=Cls w F (z8 gP69 gP73 gP152 qP69 A69 qP73 A73)) (fun _ hw=>hw.aS [2,5,6,3,4,0,1] eth1 rfl) (E.ret2 rfl rfl rfl (fun w1 hw=>?_))))))))))
   cases h
   exact ⟨_,_,rfl,⟨rfl,rfl⟩,hw⟩
  refine L.r 3 rfl (L.take rfl (L.ite h rfl (Y.geq rfl rfl) (fun c5 h=>?_) (fun c5 h=>?_)))
  ·refine L.r 1 rfl (ln (W.condT rfl (sr (L.r 2 rfl (ln (W.ret (E.thenR (E.to (D:=Cls w F (z8 gP69 gP73 gP152 qP69 A69 qP73 A73)) (fun _ hw=>hw.aS [2,5,6,3,4,0,1] eth1 rfl) (E.ret2 rfl rfl rfl (fun w1 hw=>?_))))))))))
   cases h
   exact ⟨_,_,rfl,⟨rfl,rfl⟩,hw⟩
  refine L.r 1 rfl (ln (W.condF rfl (W.skip (E.thenN (W.seq (sr (L.r 2 rfl (L.to (D:=Cls w F (z8 gP69 gP73 gP152 qP69 A69 qP73 A73)) (fun _ hw=>hw.aS [2,5,6,3,4,0,1] eth1 rfl) ?_))))))))
  obtain ⟨x6,e7,h⟩:=qc h
  refine L.doesP (A:=(z8 gP69 gP73 gP152 qP69 A69 qP73 A73)) (M:=[]) rfl (by kernel_rfl) rfl (fun w' hw=>W17 a0 a1 A69 A73 gP69 gP73 gP152 qP69 qP73 w' _ e7 _ hw.lend) ?_
  rintro _ _ ⟨rfl,rfl⟩
  refine L.to (D:=Cls w F (z8 gP69 gP73 gP152 qP69 A69 qP73 A73)) hI ?_
  obtain ⟨th8,eth8,h⟩:=qc h
  refine L.to (D:=Cls w F (tQS gP69 a0 gP152 th8 qP69 gP73 A69 qP73 A73)) (fun _ hw=>hw.aO 0 rfl eth8) (L.r 1 rfl (nsr (L.r 1 rfl (L.ite h rfl (Y.neqAN Tryz.underlying70 rfl rfl) (fun c9 h=>?_) (fun c9 h=>?_)))))
  ·refine ln (W.condT rfl (sr (L.r 3 rfl (ln (W.ret (E.thenR (E.to (D:=Cls w F (z8 gP69 gP73 gP152 qP69 A69 qP73 A73)) (fun _ hw=>hw.aS [0,1,2,3,4,5,6] eth8 rfl) (E.ret2 rfl rfl rfl (fun w1 hw=>?_)))))))))
   cases h
   exact ⟨_,_,rfl,⟨rfl,rfl⟩,hw⟩
  refine ln (W.condF rfl (W.skip (E.thenN (sr (L.r 2 rfl (ln (W.ret (E.to (D:=Cls w F (z8 gP69 gP73 gP152 qP69 A69 qP73 A73)) (fun _ hw=>hw.aS [0,1,2,3,4,5,6] eth8 rfl) (E.ret2 rfl rfl rfl (fun w1 hw=>?_))))))))))
  cases h
  exact ⟨_,_,rfl,⟨rfl,rfl⟩,hw⟩
 replace h:=zm h
 refine L.r 8 rfl (ln (W.condT rfl (sr (L.r 2 rfl (ln (W.ret (E.thenR (E.to (D:=Cls w F (z8 gP69 gP73 gP152 qP69 A69 qP73 A73)) (fun _ hw=>hw.aS [2,5,6,3,4,0,1] eth1 rfl) (E.ret2 rfl rfl rfl (fun w1 hw=>?_))))))))))
 cases h
 exact ⟨_,_,rfl,⟨rfl,rfl⟩,hw⟩
set_option maxRecDepth 100000 in
set_option maxHeartbeats 8000000 in
theorem W41 (a0:(List Int)) (a1:Int) (u0:Value) (w:World) (r:Int) (h:M41 a0 a1=some r) (hA0:At w u0 1 (a0.map I)):Does Tryz.prog 41 [u0,.int .i64 a1] w fun u m=>u=.int .i64 r∧m=[]:=by
 rw [M41] at h
 refine body (n:=19) Tryz.func41 rfl rfl rfl (Cls.refl w) (sr (L.r 1 rfl (ln (W.seqJ (fun gs D=>gs=[]∧D=Cls w [] []∧qeL=some r) ?_ ?_))))
 ·refine sr (L.r 1 rfl (L.y rfl (Y.lenM (g:=I) (l:=a0) Tryz.underlying52 rfl (fun w' hw=>hA0.cls0 hw)) (L.r 1 rfl (ln (W.block (W.loopJ (fun m gs D=>∃ gx1,gs=[(0,u0),(1,.int .i64 a1),(7,.int .i64 (a0.length:Int)),(8,.int .i64 gx1)]∧D=Cls w [] []∧jw a0 a1 m gx1=some r) ⟨0,rfl,rfl,h⟩ ⟨rfl,rfl,rfl,rfl,trivial⟩ hI ?_))))))
  rintro m _ _ ⟨gx1,rfl,rfl,h⟩
  rcases m with _ | m
  ·rw [jw] at h;cases h
  rw [jw] at h
  generalize hg1:jw a0 a1 m=go1 at h
  rw [kK] at h
  refine sr (L.ite h rfl (Y.lss rfl rfl) (fun c1 h=>?_) (fun c1 h=>?_))
  ·refine ln (W.seq (W.condT rfl (W.skip (E.thenN (W.seq (W.block (sr (L.r 2 rfl (ln (W.seq ?_))))))))))
   refine W.region (L.r 3 rfl (L.m (V:=fun _=>el u0 (zG gx1)) h rfl (Y.indexM (g:=I) (l:=a0) Tryz.underlying52 sz3 rfl rfl (fun w' hw=>hA0.cls0 hw)) (fun x2 ex2 h=>(L.y rfl (Y.loadE1 (u:=.int .i64 x2) ag3 rfl (fun w' hw=>hA0.cls0 hw) (qf ex2)) (L.ite h rfl (Y.eql rfl rfl) (fun c3 h=>?_) (fun c3 h=>?_))))))
   ·refine ln (W.condT rfl (sr (L.r 2 rfl (ln (W.ret (E.blockR (E.thenR (E.KLR (E.blockR (E.KSR ?_))))))))))
    refine E.ret1 rfl rfl (fun w1 hw=>?_)
    cases h
    exact ⟨_,_,rfl,⟨rfl,rfl⟩,hw⟩
   exact ln (W.condF rfl (W.skip (E.blockN (E.thenN (W.region (L.m (V:=fun x4=>.int .i64 x4) h rfl (Y.addM rfl rfl) (fun x4 ex4 h=>(L.r 1 rfl (L.nil (E.aJ ⟨x4,rfl,rfl,by rw [hg1];exact h⟩ hI))))))))))
  exact ln (W.seq (W.condF rfl (W.exit (E.thenX (E.KLX (E.blockX (E.joinJ ⟨rfl,rfl,h⟩ trivial hI)))))))
 rintro _ _ ⟨rfl,rfl,h⟩
 rw [qeL] at h
 refine sr (L.r 1 rfl (ln (W.ret (E.ret1 rfl rfl (fun w1 hw=>?_)))))
 cases h
 exact ⟨_,_,rfl,⟨rfl,rfl⟩,hw⟩
set_option maxRecDepth 100000 in
set_option maxHeartbeats 8000000 in
theorem W19 (a0:(List Int)) (a1:Int) (u0:Value) (w:World) (r:Bool) (h:M19 a0 a1=some r) (hA0:At w u0 1 (a0.map I)):Does Tryz.prog 19 [u0,.int .i64 a1] w fun u m=>u=.bool r∧m=[]:=by
 rw [M19] at h
 refine body (n:=9) Tryz.func19 rfl rfl rfl (Cls.refl w) (sr (L.r 1 rfl (nsr (L.r 2 rfl ?_))))
 obtain ⟨x1,e2,h⟩:=qc h
 refine L.y rfl (Y.does (by kernel_rfl) rfl (fun w' hw=>(W41 a0 a1 u0 w' _ e2 (hA0.cls0 hw)).mono (fun _ _ h=>h.1))) (L.y rfl (Y.geq rfl rfl) (L.r 1 rfl (ln (W.ret (E.ret1 rfl rfl (fun w1 hw=>?_))))))
 cases h
 exact ⟨_,_,rfl,⟨rfl,rfl⟩,hw⟩
set_option maxRecDepth 100000 in
set_option maxHeartbeats 8000000 in
theorem W9 (a0:Int) (a1:Int) (a2:Int) (a3:(List UInt8)) (A69:(List TStore)) (A73:(List Ttx)) (gP69:Nat→Nat) (gP73:Nat→Nat) (gP152:Nat→Nat) (qP69:Nat→List Value) (qP73:Nat→List Value) (w:World) (r:((List Ttx)×Int)) (h:M9 a0 a1 a2 a3 A69 A73=some r) (F:List Nat) (hc0:Cls w F (z8 gP69 gP73 gP152 qP69 A69 qP73 A73) w):zu Tryz.prog 9 [VP gP69 a0,.int .i64 a1,.int .i64 a2,st a3] F w fun u m=>∃ Q73,u=.int .i64 r.2∧m=[tQH gP69 gP73 gP152 qP69 A69,zE gP73 Q73 r.1 []]:=by
 rw [M9] at h
 refine body (n:=47) Tryz.func9 rfl rfl rfl hc0 ?_
 obtain ⟨th1,eth1,h⟩:=qc h
 refine W.to (D:=Cls w F (tQS gP69 a0 gP152 th1 qP69 gP73 A69 qP73 A73)) (fun _ hw=>hw.aO 0 rfl eth1) (sr (L.r 1 rfl (nsr (L.r 3 rfl (L.to (D:=Cls w F (z8 gP69 gP73 gP152 qP69 A69 qP73 A73)) (fun _ hw=>hw.aS [0,1,2,3,4,5,6] eth1 rfl) ?_)))))
 obtain ⟨x2,x3,e4,h⟩:=qt h
 refine L.doesP (A:=(z8 gP69 gP73 gP152 qP69 A69 qP73 A73)) (M:=[]) rfl (by kernel_rfl) rfl (fun w' hw=>W18 a0 a1 a2 A69 A73 gP69 gP73 gP152 qP69 qP73 w' _ e4 _ hw.lend) ?_
 rintro _ _ ⟨rfl,rfl⟩
 refine L.to (D:=Cls w F (z8 gP69 gP73 gP152 qP69 A69 qP73 A73)) hI ?_
 obtain ⟨th5,eth5,h⟩:=qc h
 refine L.to (D:=Cls w F (tQS gP69 a0 gP152 th5 qP69 gP73 A69 qP73 A73)) (fun _ hw=>hw.aO 0 rfl eth5) (L.r 5 rfl (ln (W.seq (sr (L.r 1 rfl (L.ite h rfl (Y.neq rfl rfl) (fun c6 h=>?_) (fun c6 h=>?_)))))))
 ·refine ln (W.condT rfl (sr (L.r 2 rfl (ln (W.ret (E.thenR (E.to (D:=Cls w F (z8 gP69 gP73 gP152 qP69 A69 qP73 A73)) (fun _ hw=>hw.aS [0,1,2,3,4,5,6] eth5 rfl) (E.ret1 rfl rfl (fun w1 hw=>?_)))))))))
  cases h
  exact ⟨_,_,rfl,⟨_,rfl,rfl⟩,hw⟩
 refine ln (W.condF rfl (W.skip (E.thenN (W.seq (sr (L.r 1 rfl (L.y rfl (Y.lenS Tryz.underlying9 rfl) (L.ite h rfl (Y.gtr rfl rfl) (fun c7 h=>?_) (fun c7 h=>?_)))))))))
 ·refine ln (W.condT rfl (sr (L.r 1 rfl (ln (W.ret (E.thenR (E.to (D:=Cls w F (z8 gP69 gP73 gP152 qP69 A69 qP73 A73)) (fun _ hw=>hw.aS [0,1,2,3,4,5,6] eth5 rfl) (E.ret1 rfl rfl (fun w1 hw=>?_)))))))))
  cases h
  exact ⟨_,_,rfl,⟨_,rfl,rfl⟩,hw⟩
 refine ln (W.condF rfl (W.skip (E.thenN (W.seq (sr (L.r 1 rfl (L.to (D:=Cls w F (z8 gP69 gP73 gP152 qP69 A69 qP73 A73)) (fun _ hw=>hw.aS [0,1,2,3,4,5,6] eth5 rfl) ?_)))))))
 obtain ⟨th8,eth8,h⟩:=qc h
 refine L.to (D:=Cls w F [tQb gP73 x2 th8 qP73,xW qP73 x2 th8,xX qP73 x2 th8,tQz th8,tQL gP73 qP73 A73 x2,tQH gP69 gP73 gP152 qP69 A69]) (fun _ hw=>hw.aO 1 rfl eth8) (L.y rfl (Y.apNil rfl eth8) (L.y rfl (Y.fieldP xw rfl) (L.y rfl (Y.loadG (q:=0) (si:=4) (ps:=4) (j:=0) (X:=[(tQh qP73 x2)]) jy rfl rfl rfl rfl rfl rfl) (L.r 1 rfl ?_))))
 obtain ⟨b9,e10,h⟩:=qc h
 refine L.y rfl (Y.does qlk rfl (fun w' hw=>(W19 th8.writes_ a2 (tQh qP73 x2) w' _ e10 (As.at_ (hw.get (i:=2) rfl))).mono (fun _ _ h=>h.1))) ?_
 rcases b9 with _ | _
 ·replace h:=zn h
  refine L.y rfl (Y.not rfl) (ln (W.condT rfl (W.region (L.r 2 rfl (L.y rfl (Y.apNil rfl eth8) (L.y rfl (Y.fieldP xw rfl) (L.y rfl (Y.loadG (q:=0) (si:=4) (ps:=4) (j:=0) (X:=[(tQh qP73 x2)]) jy rfl rfl rfl rfl rfl rfl) (L.r 1 rfl (L.litOne rfl Tryz.underlying52 eL3 rfl rfl ?_)))))))))
  intro b11
  refine L.appM (i:=3) (g:=I) (l:=th8.writes_) (more:=[a2]) h rfl Tryz.underlying52 eL3 rfl rfl rfl (fun w hw=>As.at_ (hw.get (i:=0) rfl)) (qR _) rfl ?_
  intro v12 l13 el13 h
  refine L.y rfl (Y.apNil rfl eth8) (L.y rfl (Y.fieldP xw rfl) (L.storeGV (q:=2) (si:=4) (ps:=4) (j:=0) (X:=[(tQh qP73 x2)]) vA rfl rfl rfl (fun _ hw=>(As.at_ (hw.get (i:=0) rfl)).one) rfl rfl rfl rfl (nsr (L.r 3 rfl (L.y rfl (Y.apNil rfl eth8) (L.y rfl (Y.fieldP qa5 rfl) (L.m (V:=fun _=>pt (gP73 x2.toNat) (5+a2.toNat*1)) h rfl (Y.indexAS (l:=th8.texts_) Tryz.underlying59 sz9 rfl rfl) (fun x14 ex14 h=>(L.storeZg (si:=5) (ps:=5) (row:=(fzr SR)) (sds:=sd0) (vs:=(fun _=>[])) (q:=2) (s:=4) (c:=0) (u1:=a3) (vals:=[st a3]) (j:=0) h sz9 rfl rfl rfl rfl rfl (qT rfl za) rfl rfl rfl rfl (fun _ _=>rfl) (qg ex14) rfl rfl (fun _ _=>rfl) rfl ?_)))))))))
  intro l15 el15 h
  refine nsr (L.r 1 rfl (ln (W.ret ?_)))
  obtain ⟨l17,el17,h⟩:=qc h
  refine E.aC (row:=Ttx.rowA) (sub:=Ttx.subA) (e:=73) (g:=gP73) (gh:=qP73) (vs':=([(tQi qP73 x2),v12])) (m':=[.sl (sv b11 1) 3 1 (([a2]).map I),tQH gP69 gP73 gP152 qP69 A69]) [2,3,0,4,5,1,6] el17 rfl ?_
  intro q16
  refine E.to (D:=Cls w F [tQC gP73 q16 l17,.sl (sv b11 1) 3 1 (([a2]).map I),tQH gP69 gP73 gP152 qP69 A69]) hI (E.ret1 rfl rfl (fun w1 hw=>?_))
  cases h
  exact ⟨_,_,rfl,⟨_,rfl,rfl⟩,hw.s [2,0]⟩
 replace h:=zm h
 refine L.y rfl (Y.not rfl) (ln (W.condF rfl (W.skip (E.thenN (sr (L.r 3 rfl (L.y rfl (Y.apNil rfl eth8) (L.y rfl (Y.fieldP qa5 rfl) (L.m (V:=fun _=>pt (gP73 x2.toNat) (5+a2.toNat*1)) h rfl (Y.indexAS (l:=th8.texts_) Tryz.underlying59 sz9 rfl rfl) (fun x18 ex18 h=>(L.storeZg (si:=5) (ps:=5) (row:=(fzr SR)) (sds:=sd0) (vs:=(fun _=>[])) (q:=0) (s:=3) (c:=0) (u1:=a3) (vals:=[st a3]) (j:=0) h sz9 rfl rfl rfl rfl rfl (qT rfl za) rfl rfl rfl rfl (fun _ _=>rfl) (qg ex18) rfl rfl (fun _ _=>rfl) rfl ?_)))))))))))
 intro l19 el19 h
 refine nsr (L.r 1 rfl (ln (W.ret ?_)))
 obtain ⟨l21,el21,h⟩:=qc h
 refine E.aC (row:=Ttx.rowA) (sub:=Ttx.subA) (e:=73) (g:=gP73) (gh:=qP73) (vs':=((k8 qP73 x2))) (m':=[tQH gP69 gP73 gP152 qP69 A69]) [0,1,2,3,4,5] el21 rfl ?_
 intro q20
 refine E.to (D:=Cls w F [tQC gP73 q20 l21,tQH gP69 gP73 gP152 qP69 A69]) hI (E.ret1 rfl rfl (fun w1 hw=>?_))
 cases h
 exact ⟨_,_,rfl,⟨_,rfl,rfl⟩,hw.s [1,0]⟩
set_option maxRecDepth 100000 in
set_option maxHeartbeats 8000000 in
theorem W43 (a0:(List Int)) (a1:(List Int)) (u0:Value) (u1:Value) (w:World) (r:Bool) (h:M43 a0 a1=some r) (hA0:At w u0 1 (a0.map I)) (hA1:At w u1 1 (a1.map I)):Does Tryz.prog 43 [u0,u1] w fun u m=>u=.bool r∧m=[]:=by
 rw [M43] at h
 refine body (n:=8) Tryz.func43 rfl rfl rfl (Cls.refl w) (sr (L.boxV rfl rfl (fun _ hw=>(hA1.cls0 hw).one) ?_))
 intro b1
 refine L.r 1 rfl (nsr (L.r 1 rfl (L.y rfl (Y.func rfl) (L.callJ (fun v D=>∃ gb1,v=.bool gb1∧D=Cls w [] []∧qlA gb1=some r) rfl (by kernel_rfl) rfl Tryz.func83 rfl rfl rfl ?_ ?_))))
 ·refine sr (L.r 1 rfl (nsr (L.r 2 rfl (L.callJ (fun v D=>∃ gx2,v=.int .i64 gx2∧D=Cls w [] []∧qi9 gx2=some r) rfl (by kernel_rfl) rfl Tryz.func65 rfl rfl rfl ?_ ?_))))
  ·refine sr (L.r 1 rfl (ln (W.seqJ (fun gs D=>gs=[]∧D=Cls w [] []∧qlz=some r) ?_ ?_)))
   ·refine sr (L.r 1 rfl (L.y rfl (Y.lenM (g:=I) (l:=a0) Tryz.underlying52 rfl (fun w' hw=>hA0.cls0 hw)) (L.r 1 rfl (ln (W.block (W.loopJ (fun m gs D=>∃ gx3,gs=[(0,u0),(1,.func (.func 84) #[] #[pt b1 0]),(7,.int .i64 (a0.length:Int)),(8,.int .i64 gx3)]∧D=Cls w [] [.obj b1 [u1] 52]∧yW a0 a1 m gx3=some r) ⟨0,rfl,rfl,h⟩ ⟨rfl,rfl,rfl,rfl,trivial⟩ hI ?_))))))
    rintro m _ _ ⟨gx3,rfl,rfl,h⟩
    rcases m with _ | m
    ·rw [yW] at h;cases h
    rw [yW] at h
    generalize hg1:yW a0 a1 m=go1 at h
    rw [qdm] at h
    refine sr (L.ite h rfl (Y.lss rfl rfl) (fun c2 h=>?_) (fun c2 h=>?_))
    ·refine ln (W.seq (W.condT rfl (W.skip (E.thenN (W.seq (W.block (sr (L.r 2 rfl (ln (W.seq ?_))))))))))
     refine W.region (L.r 3 rfl (L.m (V:=fun _=>el u0 (zG gx3)) h rfl (Y.indexM (g:=I) (l:=a0) Tryz.underlying52 sz3 rfl rfl (fun w' hw=>hA0.cls0 hw)) (fun x3 ex3 h=>(L.y rfl (Y.loadE1 (u:=.int .i64 x3) ag3 rfl (fun w' hw=>hA0.cls0 hw) (qf ex3)) (L.callVJ (fun v D=>∃ gb4,v=.bool gb4∧D=Cls w [] [.obj b1 [u1] 52]∧qi8 gx3 go1 gb4=some r) rfl (by kernel_rfl) rfl rfl Tryz.func84 rfl rfl rfl ?_ ?_)))))
     ·refine sr (L.r 1 rfl (nsr (L.y rfl (Y.loadP (i:=0) jy rfl rfl rfl) (L.r 1 rfl ?_))))
      obtain ⟨b5,e6,h⟩:=qc h
      exact L.y rfl (Y.does qlk rfl (fun w' hw=>(W19 a1 x3 u1 w' _ e6 (hA1.cls0 hw)).mono (fun _ _ h=>h.1))) (L.r 1 rfl (ln (W.ret (E.ret1 rfl rfl (fun w1 hw=>(⟨_,_,rfl,⟨b5,rfl,rfl,h⟩,hw⟩))))))
     rintro _ _ ⟨gb4,rfl,rfl,h⟩
     rw [qi8] at h
     rcases gb4 with _ | _
     ·replace h:=zn h
      exact ln (W.condF rfl (W.skip (E.blockN (E.thenN (W.region (L.m (V:=fun x4=>.int .i64 x4) h rfl (Y.addM rfl rfl) (fun x4 ex4 h=>(L.r 1 rfl (L.nil (E.aJ ⟨x4,rfl,rfl,by rw [hg1];exact h⟩ hI))))))))))
     replace h:=zm h
     refine ln (W.condT rfl (sr (L.r 2 rfl (ln (W.ret (E.blockR (E.thenR (E.KLR (E.blockR (E.KSR ?_))))))))))
     exact E.ret1 rfl rfl (fun w1 hw=>(⟨_,_,rfl,⟨gx3,rfl,rfl,h⟩,hw.s []⟩))
    exact ln (W.seq (W.condF rfl (W.exit (E.thenX (E.KLX (E.blockX (E.joinJ ⟨rfl,rfl,h⟩ trivial (sI []))))))))
   rintro _ _ ⟨rfl,rfl,h⟩
   rw [qlz] at h
   exact sr (L.r 1 rfl (ln (W.ret (E.ret1 rfl rfl (fun w1 hw=>(⟨_,_,rfl,⟨(-1),rfl,rfl,h⟩,hw⟩))))))
  rintro _ _ ⟨gx2,rfl,rfl,h⟩
  rw [qi9] at h
  exact L.y rfl (Y.geq rfl rfl) (L.r 1 rfl (ln (W.ret (E.ret1 rfl rfl (fun w1 hw=>(⟨_,_,rfl,⟨decide (0≤gx2),rfl,rfl,h⟩,hw⟩))))))
 rintro _ _ ⟨gb1,rfl,rfl,h⟩
 rw [qlA] at h
 refine L.r 1 rfl (ln (W.ret (E.ret1 rfl rfl (fun w1 hw=>?_))))
 cases h
 exact ⟨_,_,rfl,⟨rfl,rfl⟩,hw⟩
end Go.Proofs.YtdlemoeinjihkaaGreatDoor
