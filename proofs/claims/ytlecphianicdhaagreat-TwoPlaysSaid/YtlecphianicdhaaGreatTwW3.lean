import Derived.Test.YtlecphianicdhaaGreatTwW2
import Derived.Test.YtlecphianicdhaaGreatChecked
import Derived.KernelRfl
import Derived.Test.YtlecphianicdhaaGreatZe
namespace Go.Proofs.YtlecphianicdhaaGreat
open Go.S
set_option linter.unusedVariables false
set_option linter.unusedSimpArgs false
set_option maxRecDepth 100000 in
set_option maxHeartbeats 8000000 in
theorem W14 (a0:(List TI)) (a1:Int) (a2:Int) (a3:Int) (u0:Value) (q0:Nat→List Value) (K:World→Prop) (w:World) (hK:StbF K w []) (r:((List TI)×Bool×Int)) (h:M14 a0 a1 a2 a3=some r) (hA0:Fz K [] u0 3 (zr TI.rowv q0 a0)) (hD0:FzA K [] (zs TI.sds q0 a0)):Does Tryz.prog 14 [u0,.int .i64 a1,.int .i64 a2,.int .i64 a3] w fun u m=>∃ c,m=[.os c]∧∃ v0 q0,u=.tuple #[v0,.bool r.2.1,.int .i64 r.2.2]∧Fz K c v0 3 (zr TI.rowv q0 r.1)∧FzA K c (zs TI.sds q0 r.1):=by
 rw [M14] at h
 refine body (n:=154) Tryz.func14 rfl rfl rfl (Cls.reflF w) (sr (L.box rfl rfl ?_))
 intro b1
 refine L.r 3 rfl (ln (W.seqJ (fun gs D=>gs=[(0,u0),(2,.int .i64 a2),(3,.int .i64 a3),(5,pt b1 0)]∧D=Cls w [] [.obj b1 [.int .i64 a1] 3,.os []]∧M14K1 a1 a2 a3 a0=some r) ?_ ?_))
 ·refine sr (L.r 1 rfl ?_)
  obtain ⟨x285,e286,h⟩:=bind1S h
  refine L.y rfl (Y.does en24 rfl (fun w' hw=>(W24 a0 u0 q0 w' _ e286 (hA0.up.clsP hK hw rfl) (hD0.up.clsP hK hw rfl)).mono (fun _ _ h=>h.1))) (L.r 1 rfl (nsr (L.r 1 rfl (L.ite h rfl (Y.neq rfl rfl) (fun c287 h=>?_) (fun c287 h=>?_)))))
  ·refine ln (W.condT rfl (sr (L.r 4 rfl (ln (W.ret (E.KSR (E.ret3 rfl rfl rfl rfl (fun w1 hw=>?_))))))))
   cases h
   exact ⟨_,_,rfl,⟨[],rfl,(.slice none 0 0),(fun _=>[]),rfl,Fz.nil,FzA.nil⟩,hw.s [1]⟩
  exact ln (W.condF rfl (W.skip (E.jJ ⟨rfl,rfl,h⟩ hI)))
 rintro _ _ ⟨rfl,rfl,h⟩
 rw [M14K1] at h
 refine W.seqJ (fun gs D=>gs=[(0,u0),(2,.int .i64 a2),(3,.int .i64 a3),(5,pt b1 0)]∧D=Cls w [] [.obj b1 [.int .i64 a1] 3,.os []]∧M14K2 a0 a1 a2 a3=some r) ?_ ?_
 ·refine sr (L.cutJ 6 (fun gs D=>∃ gb32,gs=[(0,u0),(2,.int .i64 a2),(3,.int .i64 a3),(5,pt b1 0),(31,.bool gb32)]∧D=Cls w [] [.obj b1 [.int .i64 a1] 3,.os []]∧M14K32 a2 a3 a0 a1 gb32=some r) ?_ ?_)
  ·refine L.y rfl (Y.loadP (i:=0) ag3 rfl rfl rfl) (L.ite h rfl (Y.lss rfl rfl) (fun c283 h=>?_) (fun c283 h=>?_))
   ·exact L.r 4 rfl (L.nil (E.jJ ⟨true,rfl,rfl,h⟩ hI))
   refine L.r 1 rfl (L.take rfl (L.y rfl (Y.loadP (i:=0) ag3 rfl rfl rfl) (L.take rfl (L.ite h rfl (Y.geq rfl rfl) (fun c284 h=>?_) (fun c284 h=>?_)))))
   ·exact L.r 1 rfl (L.nil (E.jJ ⟨true,rfl,rfl,h⟩ hI))
   exact L.r 1 rfl (L.nil (E.jJ ⟨false,rfl,rfl,h⟩ hI))
  rintro _ _ ⟨gb32,rfl,rfl,h⟩
  rw [M14K32] at h
  rcases gb32 with _ | _
  ·replace h:=iteF h
   refine L.cutJ 8 (fun gs D=>∃ gb33,gs=[(0,u0),(2,.int .i64 a2),(3,.int .i64 a3),(5,pt b1 0),(39,.bool gb33)]∧D=Cls w [] [.obj b1 [.int .i64 a1] 3,.os []]∧M14K33 a3 a0 a1 a2 gb33=some r) ?_ ?_
   ·refine L.r 2 rfl (L.take rfl (L.ite h rfl (Y.lss rfl rfl) (fun c281 h=>?_) (fun c281 h=>?_)))
    ·exact L.r 5 rfl (L.nil (E.jJ ⟨true,rfl,rfl,h⟩ hI))
    refine L.r 3 rfl (L.take rfl (L.ite h rfl (Y.geq rfl rfl) (fun c282 h=>?_) (fun c282 h=>?_)))
    ·exact L.r 1 rfl (L.nil (E.jJ ⟨true,rfl,rfl,h⟩ hI))
    exact L.r 1 rfl (L.nil (E.jJ ⟨false,rfl,rfl,h⟩ hI))
   rintro _ _ ⟨gb33,rfl,rfl,h⟩
   rw [M14K33] at h
   rcases gb33 with _ | _
   ·replace h:=iteF h
    refine L.r 2 rfl (L.take rfl ?_)
    obtain ⟨b279,e280,h⟩:=bind1S h
    refine L.y rfl (Y.does en25 rfl (fun w' hw=>(W25 a3 w' _ e280).mono (fun _ _ h=>h.1))) ?_
    rcases b279 with _ | _
    ·replace h:=iteF h
     refine L.take rfl (L.y rfl (Y.not rfl) (L.r 1 rfl (ln (W.condT rfl (sr (L.r 3 rfl (ln (W.ret (E.KSR (E.ret3 rfl rfl rfl rfl (fun w1 hw=>?_)))))))))))
     cases h
     exact ⟨_,_,rfl,⟨[],rfl,(.slice none 0 0),(fun _=>[]),rfl,Fz.nil,FzA.nil⟩,hw.s [1]⟩
    replace h:=iteT h
    exact L.take rfl (L.y rfl (Y.not rfl) (L.r 1 rfl (ln (W.condF rfl (W.skip (E.jJ ⟨rfl,rfl,h⟩ hI))))))
   replace h:=iteT h
   refine L.r 5 rfl (ln (W.condT rfl (sr (L.r 3 rfl (ln (W.ret (E.KSR (E.ret3 rfl rfl rfl rfl (fun w1 hw=>?_)))))))))
   cases h
   exact ⟨_,_,rfl,⟨[],rfl,(.slice none 0 0),(fun _=>[]),rfl,Fz.nil,FzA.nil⟩,hw.s [1]⟩
  replace h:=iteT h
  refine L.r 13 rfl (ln (W.condT rfl (sr (L.r 3 rfl (ln (W.ret (E.KSR (E.ret3 rfl rfl rfl rfl (fun w1 hw=>?_)))))))))
  cases h
  exact ⟨_,_,rfl,⟨[],rfl,(.slice none 0 0),(fun _=>[]),rfl,Fz.nil,FzA.nil⟩,hw.s [1]⟩
 rintro _ _ ⟨rfl,rfl,h⟩
 rw [M14K2] at h
 refine W.seqJ (fun gs D=>gs=[(0,u0),(2,.int .i64 a2),(3,.int .i64 a3),(5,pt b1 0)]∧D=Cls w [] [.obj b1 [.int .i64 a1] 3,.os []]∧M14K3 a0 a2 a1 a3=some r) ?_ ?_
 ·refine sr (L.r 1 rfl (L.y rfl (Y.lenMZ (row:=TI.rowv) (vs:=q0) (l:=a0) Tryz.underlying34 rfl (fun w' hw=>(hA0.up.clsP hK hw rfl))) (L.r 1 rfl (ln (W.block (W.loopJ (fun m gs D=>∃ gx28,gs=[(0,u0),(2,.int .i64 a2),(3,.int .i64 a3),(5,pt b1 0),(45,u0),(46,.int .i64 (a0.length:Int)),(47,.int .i64 gx28)]∧D=Cls w [] [.obj b1 [.int .i64 a1] 3,.os []]∧M14L7 a0 a1 a2 a3 m gx28=some r) ⟨0,rfl,rfl,h⟩ ⟨rfl,rfl,rfl,rfl,rfl,rfl,rfl,trivial⟩ hI ?_))))))
  rintro m _ _ ⟨gx28,rfl,rfl,h⟩
  rcases m with _ | m
  ·rw [M14L7] at h;cases h
  rw [M14L7] at h
  generalize hg7:M14L7 a0 a1 a2 a3 m=go7 at h
  rw [M14L7B] at h
  refine sr (L.ite h rfl (Y.lss rfl rfl) (fun c271 h=>?_) (fun c271 h=>?_))
  ·refine ln (W.seq (W.condT rfl (W.skip (E.thenN (W.seq (W.block (sr (L.m (V:=fun _=>el u0 (gx28.toNat*3)) h rfl (Y.indexMZ (row:=TI.rowv) (vs:=q0) (l:=a0) Tryz.underlying34 sz65 rfl rfl (fun w' hw=>(hA0.up.clsP hK hw rfl))) (fun x272 ex272 h=>(L.y rfl (Y.loadEN (r:=[.int .i64 x272.Item,gv (q0 gx28.toNat) 0,gv (q0 gx28.toNat) 1]) ag65 sz65 rfl (fun w' hw=>(hA0.up.clsP hK hw rfl)) (zr_idx (vs:=q0) ex272) rfl) (L.alloc rfl ze65 ?_)))))))))))
   intro b273
   refine L.storeC (i:=0) sz65 rfl rfl rfl rfl (fun w hw=>(all1 rfl (all1 (((FzA.at (sds:=TI.sds) (vs:=q0) (j:=0) (nl:=2) hD0 (fun _ _=>rfl) ex272 rfl).up).clsP hK hw rfl).one (all1 (((FzA.at (sds:=TI.sds) (vs:=q0) (j:=1) (nl:=2) hD0 (fun _ _=>rfl) ex272 rfl).up).clsP hK hw rfl).one all0)))) rfl nb (nsr (L.y rfl (Y.fieldP fd65_2 rfl) (L.y rfl (Y.loadP (i:=0) ag63 rfl rfl rfl) (L.y rfl (Y.func rfl) (L.callJ (fun v D=>∃ gb29,v=.bool gb29∧D=Cls w [] [.obj b1 [.int .i64 a1] 3,.os []]∧M14K28 gx28 go7 gb29=some r) rfl en26 rfl Tryz.func26 rfl rfl rfl ?_ ?_)))))
   ·refine sr (L.r 1 rfl (nsr (L.r 2 rfl (L.callJ (fun v D=>∃ gx30,v=.int .i64 gx30∧D=Cls w [] [.obj b1 [.int .i64 a1] 3,.os []]∧M14K29 gx28 go7 gx30=some r) rfl en47 rfl Tryz.func47 rfl rfl rfl ?_ ?_))))
    ·refine sr (L.r 1 rfl (ln (W.seqJ (fun gs D=>gs=[]∧D=Cls w [] [.obj b1 [.int .i64 a1] 3,.os []]∧M14K30 gx28 go7=some r) ?_ ?_)))
     ·refine sr (L.r 1 rfl (L.y rfl (Y.lenM (g:=TL.row) (l:=x272.Queue) Tryz.underlying63 rfl (fun w' hw=>(((FzA.at (sds:=TI.sds) (vs:=q0) (j:=1) (nl:=2) hD0 (fun _ _=>rfl) ex272 rfl).up).clsP hK hw rfl))) (L.r 1 rfl (ln (W.block (W.loopJ (fun m gs D=>∃ gx31,gs=[(0,gv (q0 gx28.toNat) 1),(1,.func (.func 27) #[] #[pt b1 0]),(7,.int .i64 (x272.Queue.length:Int)),(8,.int .i64 gx31)]∧D=Cls w [] [.obj b1 [.int .i64 a1] 3,.os []]∧M14L8 x272 a1 gx28 go7 m gx31=some r) ⟨0,rfl,rfl,h⟩ ⟨rfl,rfl,rfl,rfl,trivial⟩ (sI [1,2]) ?_))))))
      rintro m _ _ ⟨gx31,rfl,rfl,h⟩
      rcases m with _ | m
      ·rw [M14L8] at h;cases h
      rw [M14L8] at h
      generalize hg8:M14L8 x272 a1 gx28 go7 m=go8 at h
      rw [M14L8B] at h
      refine sr (L.ite h rfl (Y.lss rfl rfl) (fun c275 h=>?_) (fun c275 h=>?_))
      ·refine ln (W.seq (W.condT rfl (W.skip (E.thenN (W.seq (W.block (sr (L.r 2 rfl (ln (W.seq ?_))))))))))
       refine W.region (L.r 3 rfl (L.m (V:=fun _=>el (gv (q0 gx28.toNat) 1) (gx31.toNat*2)) h rfl (Y.indexM (g:=TL.row) (l:=x272.Queue) Tryz.underlying63 sz68 rfl rfl (fun w' hw=>(((FzA.at (sds:=TI.sds) (vs:=q0) (j:=1) (nl:=2) hD0 (fun _ _=>rfl) ex272 rfl).up).clsP hK hw rfl))) (fun x276 ex276 h=>(L.y rfl (Y.loadEN (r:=[.int .i64 x276.Tx,.int .i64 x276.Mode]) ag68 sz68 rfl (fun w' hw=>(((FzA.at (sds:=TI.sds) (vs:=q0) (j:=1) (nl:=2) hD0 (fun _ _=>rfl) ex272 rfl).up).clsP hK hw rfl)) (idx_map ex276) rfl) (L.callVJ (fun v D=>v=.bool (decide (x276.Tx=a1))∧D=Cls w [] [.obj b1 [.int .i64 a1] 3,.os []]∧M14K31 x276 a1 gx28 go7 gx31 go8=some r) rfl en27 rfl rfl Tryz.func27 rfl rfl rfl ?_ ?_)))))
       ·refine sr (L.box rfl rfl ?_)
        intro b278
        refine L.r 1 rfl (nsr (L.y rfl (Y.fieldP fd68_0 rfl) (L.y rfl (Y.loadP (i:=0) ag3 rfl rfl rfl) (L.y rfl (Y.loadP (i:=1) ag3 rfl rfl rfl) (L.y rfl (Y.eql rfl rfl) (L.r 1 rfl (ln (W.ret (E.ret1 rfl rfl (fun w1 hw=>?_))))))))))
        exact ⟨_,_,rfl,⟨rfl,rfl,h⟩,hw.s [1,2]⟩
       rintro _ _ ⟨rfl,rfl,h⟩
       rw [M14K31] at h
       refine ln (W.caseB (q:=16) h rfl (fun h=>?_) (fun h=>?_))
       ·exact W.condT rfl (sr (L.r 2 rfl (ln (W.ret (E.blockR (E.thenR (E.KLR (E.blockR (E.KSR (E.ret1 rfl rfl (fun w1 hw=>(⟨_,_,rfl,⟨gx31,rfl,rfl,h⟩,hw⟩))))))))))))
       exact W.condF rfl (W.skip (E.blockN (E.thenN (W.region (L.m (V:=fun x277=>.int .i64 x277) h rfl (Y.addM rfl rfl) (fun x277 ex277 h=>(L.r 1 rfl (L.nil (E.aJ ⟨x277,rfl,rfl,by rw [hg8];exact h⟩ hI)))))))))
      exact ln (W.seq (W.condF rfl (W.exit (E.thenX (E.KLX (E.blockX (E.joinJ ⟨rfl,rfl,h⟩ trivial hI)))))))
     rintro _ _ ⟨rfl,rfl,h⟩
     rw [M14K30] at h
     exact sr (L.r 1 rfl (ln (W.ret (E.ret1 rfl rfl (fun w1 hw=>(⟨_,_,rfl,⟨(-1),rfl,rfl,h⟩,hw⟩))))))
    rintro _ _ ⟨gx30,rfl,rfl,h⟩
    rw [M14K29] at h
    exact L.y rfl (Y.geq rfl rfl) (L.r 1 rfl (ln (W.ret (E.ret1 rfl rfl (fun w1 hw=>(⟨_,_,rfl,⟨decide (0≤gx30),rfl,rfl,h⟩,hw⟩))))))
   rintro _ _ ⟨gb29,rfl,rfl,h⟩
   rw [M14K28] at h
   rcases gb29 with _ | _
   ·replace h:=iteF h
    exact ln (W.condF rfl (W.skip (E.blockN (E.thenN (W.region (L.m (V:=fun x274=>.int .i64 x274) h rfl (Y.addM rfl rfl) (fun x274 ex274 h=>(L.r 1 rfl (L.nil (E.aJ ⟨x274,rfl,rfl,by rw [hg7];exact h⟩ hI))))))))))
   replace h:=iteT h
   refine ln (W.condT rfl (sr (L.r 3 rfl (ln (W.ret (E.blockR (E.thenR (E.KLR (E.blockR (E.KSR ?_))))))))))
   refine E.ret3 rfl rfl rfl rfl (fun w1 hw=>?_)
   cases h
   exact ⟨_,_,rfl,⟨[],rfl,(.slice none 0 0),(fun _=>[]),rfl,Fz.nil,FzA.nil⟩,hw.s [1]⟩
  exact ln (W.seq (W.condF rfl (W.exit (E.thenX (E.KLX (E.blockX (E.jJ ⟨rfl,rfl,h⟩ hI)))))))
 rintro _ _ ⟨rfl,rfl,h⟩
 rw [M14K3] at h
 refine sr (L.r 1 rfl ?_)
 obtain ⟨l2,e5,h⟩:=bind1S h
 refine L.does rfl en28 rfl (fun w' hw=>W28 a0 u0 q0 w' _ e5 (hA0.up.clsP hK hw rfl) (hD0.up.clsP hK hw rfl)) ?_
 rintro v3 _ ⟨_,q4,rfl,rfl⟩
 refine L.r 1 rfl (nsr (L.y rfl (Y.loadP (i:=2) ag3 rfl rfl rfl) (L.r 1 rfl (L.y rfl (Y.build (cells:=#[.int .i64 a1,.int .i64 a3]) rfl (by kernel_rfl)) (L.alloc rfl ze68 ?_)))))
 intro b6
 refine L.store (i:=0) (vs:=[.int .i64 a1,.int .i64 a3]) sz68 rfl rfl rfl rfl (by simp [Value.oneCell',Value.cells,st,pt,el]) rfl nb (ln (W.seqJ (fun gs D=>∃ gx1 gb2,gs=[(2,.int .i64 a2),(5,pt b1 0),(14,v3),(15,pt b6 0),(16,.int .i64 gx1),(17,.bool gb2)]∧D=Cls w [] [.obj b6 [.int .i64 a1,.int .i64 a3] 68,.obj b1 [.int .i64 a1] 3,.sl v3 65 3 (zr TI.rowv q4 l2),.ss (zs TI.sds q4 l2),.os []]∧M14K4 l2 a1 a3 a2 gx1 gb2=some r) ?_ ?_))
 ·refine W.region (L.r 2 rfl (L.callJ (fun v D=>∃ gx21 gb22,v=.tuple #[.int .i64 gx21,.bool gb22]∧D=Cls w [] [.obj b6 [.int .i64 a1,.int .i64 a3] 68,.obj b1 [.int .i64 a1] 3,.sl v3 65 3 (zr TI.rowv q4 l2),.ss (zs TI.sds q4 l2),.os []]∧M14K23 l2 a1 a3 a2 gx21 gb22=some r) rfl en29 rfl Tryz.func29 rfl rfl rfl ?_ ?_))
  ·refine sr (L.r 2 rfl (nsr (L.r 1 rfl (L.y rfl (Y.lenMZ (row:=TI.rowv) (vs:=q4) (l:=l2) Tryz.underlying34 rfl (fun w hw=>As.at_ (hw.get (i:=1) rfl))) (L.r 1 rfl (nsr ?_))))))
   refine L.r 3 rfl (ln (W.seqJ (fun gs D=>∃ gx23,gs=[(0,v3),(1,.int .i64 a2),(2,.func (.func 30) #[] #[]),(8,.int .i64 (l2.length:Int)),(9,.int .i64 gx23)]∧D=Cls w [] [.obj b6 [.int .i64 a1,.int .i64 a3] 68,.obj b1 [.int .i64 a1] 3,.sl v3 65 3 (zr TI.rowv q4 l2),.ss (zs TI.sds q4 l2),.os []]∧M14K24 l2 a2 a1 a3 gx23=some r) ?_ ?_))
   ·refine W.block (W.loopJ (fun m gs D=>∃ gx25 gx26,gs=[(0,v3),(1,.int .i64 a2),(2,.func (.func 30) #[] #[]),(8,.int .i64 (l2.length:Int)),(9,.int .i64 gx25),(10,.int .i64 gx26)]∧D=Cls w [] [.obj b6 [.int .i64 a1,.int .i64 a3] 68,.obj b1 [.int .i64 a1] 3,.sl v3 65 3 (zr TI.rowv q4 l2),.ss (zs TI.sds q4 l2),.os []]∧M14L6 l2 a2 a1 a3 m gx25 gx26=some r) ⟨0,(l2.length:Int),rfl,rfl,h⟩ ⟨rfl,rfl,rfl,rfl,rfl,rfl,trivial⟩ (sI [0,3,1,2,4]) ?_)
    rintro m _ _ ⟨gx25,gx26,rfl,rfl,h⟩
    rcases m with _ | m
    ·rw [M14L6] at h;cases h
    rw [M14L6] at h
    generalize hg6:M14L6 l2 a2 a1 a3 m=go6 at h
    rw [M14L6B] at h
    refine W.seqJ (fun gs D=>gs=[(0,v3),(1,.int .i64 a2),(2,.func (.func 30) #[] #[]),(8,.int .i64 (l2.length:Int)),(9,.int .i64 gx25),(10,.int .i64 gx26)]∧D=Cls w [] [.obj b6 [.int .i64 a1,.int .i64 a3] 68,.obj b1 [.int .i64 a1] 3,.sl v3 65 3 (zr TI.rowv q4 l2),.ss (zs TI.sds q4 l2),.os []]∧M14K26 gx25 gx26 l2 a2 go6=some r) ?_ ?_
    ·refine sr (L.r 2 rfl (L.ite h rfl (Y.lss rfl rfl) (fun c270 h=>?_) (fun c270 h=>?_)))
     ·exact ln (W.condT rfl (W.skip (E.jJ ⟨rfl,rfl,h⟩ hI)))
     exact ln (W.condF rfl (W.exit (E.KSX (E.KLX (E.blockX (E.jJ ⟨gx25,rfl,rfl,h⟩ hI))))))
    rintro _ _ ⟨rfl,rfl,h⟩
    rw [M14K26] at h
    refine W.block (sr (L.r 2 rfl (L.m (V:=fun x263=>.int .i64 x263) h rfl (Y.addM rfl rfl) (fun x263 ex263 h=>(L.y rfl (Y.conv Tryz.underlying3 Tryz.underlying103 rfl) (L.m (V:=fun x264=>.int .u64 x264) h rfl (Y.shrM rfl rfl) (fun x264 ex264 h=>(L.y rfl (Y.conv Tryz.underlying103 Tryz.underlying3 rfl) (L.r 1 rfl (nsr (L.r 3 rfl ?_)))))))))))
    refine L.m (V:=fun _=>el v3 ((IntKind.wrap .i64 x264).toNat*3)) h rfl (Y.indexMZ (row:=TI.rowv) (vs:=q4) (l:=l2) Tryz.underlying34 sz65 rfl rfl (fun w hw=>As.at_ (hw.get (i:=2) rfl))) (fun x265 ex265 h=>(L.y rfl (Y.loadEN (r:=[.int .i64 x265.Item,gv (q4 (IntKind.wrap .i64 x264).toNat) 0,gv (q4 (IntKind.wrap .i64 x264).toNat) 1]) ag65 sz65 rfl (fun w hw=>As.at_ (hw.get (i:=2) rfl)) (zr_idx (vs:=q4) ex265) rfl) (L.r 1 rfl (L.callVJ (fun v D=>∃ gx27,v=.int .i64 gx27∧D=Cls w [] [.obj b6 [.int .i64 a1,.int .i64 a3] 68,.obj b1 [.int .i64 a1] 3,.sl v3 65 3 (zr TI.rowv q4 l2),.ss (zs TI.sds q4 l2),.os []]∧M14K27 x264 go6 gx26 gx25 gx27=some r) rfl en30 rfl rfl Tryz.func30 rfl rfl rfl ?_ ?_))))
    ·refine sr (L.box rfl rfl ?_)
     intro b268
     refine L.r 1 rfl (nsr (L.y rfl (Y.fieldP fd65_0 rfl) (L.y rfl (Y.loadP (i:=0) ag3 rfl rfl rfl) (L.r 1 rfl (L.m (V:=fun x269=>.int .i64 x269) h rfl (Y.subM rfl rfl) (fun x269 ex269 h=>(L.r 1 rfl (ln (W.ret (E.ret1 rfl rfl (fun w1 hw=>?_)))))))))))
     exact ⟨_,_,rfl,⟨x269,rfl,rfl,h⟩,hw.s [1,2,3,4,5]⟩
    rintro _ _ ⟨gx27,rfl,rfl,h⟩
    rw [M14K27] at h
    refine L.ite h rfl (Y.lss rfl rfl) (fun c266 h=>?_) (fun c266 h=>?_)
    ·exact ln (W.condT rfl (W.region (L.r 1 rfl (L.m (V:=fun x267=>.int .i64 x267) h rfl (Y.addM rfl rfl) (fun x267 ex267 h=>(L.r 1 rfl (L.nil (E.blockN (E.aJ ⟨x267,gx26,rfl,rfl,by rw [hg6];exact h⟩ hI)))))))))
    exact ln (W.condF rfl (W.region (L.r 2 rfl (L.nil (E.blockN (E.aJ ⟨gx25,IntKind.wrap .i64 x264,rfl,rfl,by rw [hg6];exact h⟩ hI))))))
   rintro _ _ ⟨gx23,rfl,rfl,h⟩
   rw [M14K24] at h
   refine sr (L.r 3 rfl (L.ite h rfl (Y.lss rfl rfl) (fun c259 h=>?_) (fun c259 h=>?_)))
   ·refine L.r 4 rfl (L.take rfl (L.m (V:=fun _=>el v3 (gx23.toNat*3)) h rfl (Y.indexMZ (row:=TI.rowv) (vs:=q4) (l:=l2) Tryz.underlying34 sz65 rfl rfl (fun w hw=>As.at_ (hw.get (i:=2) rfl))) (fun x260 ex260 h=>(L.take rfl (L.y rfl (Y.loadEN (r:=[.int .i64 x260.Item,gv (q4 gx23.toNat) 0,gv (q4 gx23.toNat) 1]) ag65 sz65 rfl (fun w hw=>As.at_ (hw.get (i:=2) rfl)) (zr_idx (vs:=q4) ex260) rfl) (L.r 1 rfl (L.take rfl (L.callVJ (fun v D=>∃ gx24,v=.int .i64 gx24∧D=Cls w [] [.obj b6 [.int .i64 a1,.int .i64 a3] 68,.obj b1 [.int .i64 a1] 3,.sl v3 65 3 (zr TI.rowv q4 l2),.ss (zs TI.sds q4 l2),.os []]∧M14K25 l2 a1 a3 a2 gx23 gx24=some r) rfl en30 rfl rfl Tryz.func30 rfl rfl rfl ?_ ?_))))))))
    ·refine sr (L.box rfl rfl ?_)
     intro b261
     refine L.r 1 rfl (nsr (L.y rfl (Y.fieldP fd65_0 rfl) (L.y rfl (Y.loadP (i:=0) ag3 rfl rfl rfl) (L.r 1 rfl (L.m (V:=fun x262=>.int .i64 x262) h rfl (Y.subM rfl rfl) (fun x262 ex262 h=>(L.r 1 rfl (ln (W.ret (E.ret1 rfl rfl (fun w1 hw=>?_)))))))))))
     exact ⟨_,_,rfl,⟨x262,rfl,rfl,h⟩,hw.s [1,2,3,4,5]⟩
    rintro _ _ ⟨gx24,rfl,rfl,h⟩
    rw [M14K25] at h
    exact L.take rfl (L.y rfl (Y.eql rfl rfl) (L.r 3 rfl (ln (W.ret (E.ret2 rfl rfl rfl (fun w1 hw=>(⟨_,_,rfl,⟨gx23,decide (gx24=0),rfl,rfl,h⟩,hw⟩)))))))
   exact L.r 12 rfl (ln (W.ret (E.ret2 rfl rfl rfl (fun w1 hw=>(⟨_,_,rfl,⟨gx23,false,rfl,rfl,h⟩,hw⟩)))))
  rintro _ _ ⟨gx21,gb22,rfl,rfl,h⟩
  rw [M14K23] at h
  refine L.r 2 rfl (L.iteB h rfl (Y.extract rfl rfl) (fun c258 h=>?_) (fun c258 h=>?_))
  ·exact L.r 2 rfl (L.nil (E.jJ ⟨gx21,true,rfl,rfl,h⟩ hI))
  exact L.r 2 rfl (L.nil (E.jJ ⟨gx21,false,rfl,rfl,h⟩ hI))
 rintro _ _ ⟨gx1,gb2,rfl,rfl,h⟩
 rw [M14K4] at h
 rcases gb2 with _ | _
 ·replace h:=iteF h
  refine W.seq (sr (L.r 1 rfl (L.y rfl (Y.not rfl) (ln (W.condT rfl (sr (L.r 3 rfl (L.y rfl (Y.loadPW (i:=0) ag68 sz68 rfl rfl rfl) (L.litAgg rfl Tryz.underlying63 eL68 rfl rfl rfl ?_)))))))))
  intro b7
  refine L.y rfl (Y.buildC (cells:=#[.int .i64 a2,(sv b7 1),.slice none 0 0]) rfl (fun w hw=>by rcases ((As.at_ (hw.get (i:=0) rfl))).shape with ⟨h0,_⟩ | ⟨_,_,h0,_,_⟩ <;> simp only [h0] <;> kernel_rfl)) (L.frz (i:=0) rfl rfl rfl ?_)
  intro c9 mo10 hf11
  refine L.litAgg rfl Tryz.underlying33 eL65 rfl rfl rfl ?_
  intro b12
  have hz13:FzA K c9 (zs TI.sds (fun _=>[(sv b7 1),.slice none 0 0]) [(⟨a2,[(⟨a1,a3⟩:TL)],[]⟩:TI)]):=FzA.app (FzA.cons (hf11 K) (FzA.cons Fz.nil FzA.nil)) FzA.nil
  refine L.to (D:=Cls w [] [.sl (sv b12 1) 65 3 (zr TI.rowv (fun _=>[(sv b7 1),.slice none 0 0]) ([(⟨a2,[(⟨a1,a3⟩:TL)],[]⟩:TI)])),.obj b6 [.int .i64 a1,.int .i64 a3] 68,.obj b1 [.int .i64 a1] 3,.sl v3 65 3 (zr TI.rowv q4 l2),.ss (zs TI.sds q4 l2),.os c9]) hI (L.frzS (i:=4) rfl rfl rfl ?_)
  intro c14 mo15 hf16
  refine L.insHzP (i:=3) (j:=0) (row:=TI.rowv) (sds:=TI.sds) (vs:=q4) (vs2:=(fun _=>[(sv b7 1),.slice none 0 0])) (l:=l2) (x1:=(⟨a2,[(⟨a1,a3⟩:TL)],[]⟩:TI)) (a:=gx1) h wInsR31 rfl en31 rfl rfl rfl rfl rfl (by decide) plz_TLockItem (fun _ _=>rfl) hK rfl (hf16 K) (hz13.mo mo15) ?_
  intro v18 q20 l17 el17 h hz19
  refine L.r 3 rfl (ln (W.ret (E.thenR (E.frz (i:=3) rfl rfl rfl ?_))))
  intro c21 mo22 hf23
  refine E.ret3 rfl rfl rfl rfl (fun w1 hw=>?_)
  cases h
  exact ⟨_,_,rfl,⟨c21,rfl,v18,q20,rfl,(hf23 K),(hz19.mo mo22)⟩,hw.s [3]⟩
 replace h:=iteT h
 refine W.seq (sr (L.r 1 rfl (L.y rfl (Y.not rfl) (ln (W.condF rfl (W.skip (E.thenN (sr (L.r 2 rfl (L.m (V:=fun _=>el v3 (gx1.toNat*3)) h rfl (Y.indexMZ (row:=TI.rowv) (vs:=q4) (l:=l2) Tryz.underlying34 sz65 rfl rfl (fun w hw=>As.at_ (hw.get (i:=2) rfl))) (fun x24 ex24 h=>?_)))))))))))
 refine L.alloc rfl ze75 ?_
 intro b25
 refine L.store (i:=0) (vs:=[el v3 (gx1.toNat*3)]) sz75 rfl rfl rfl rfl (by simp [Value.oneCell',Value.cells,st,pt,el]) rfl nb (ln (W.seqJ (fun gs D=>∃ gb3,gs=[(14,v3),(15,pt b6 0),(18,pt b25 0),(19,.bool gb3)]∧D=Cls w [] [.obj b25 [el v3 (gx1.toNat*3)] 75,.obj b6 [.int .i64 a1,.int .i64 a3] 68,.sl v3 65 3 (zr TI.rowv q4 l2),.ss (zs TI.sds q4 l2),.os []]∧M14K5 x24 a1 a3 l2 gx1 gb3=some r) ?_ ?_))
 ·refine W.region (L.y rfl (Y.loadP (i:=0) ag75 rfl rfl rfl) (L.r 1 rfl (L.y rfl (Y.fieldE fd65_1 rfl) (L.y rfl (Y.loadE (u:=gv (q4 gx1.toNat) 0) ag63 rfl (fun w hw=>As.at_ (hw.get (i:=3) rfl)) (zr_idx (vs:=q4) ex24) rfl) (L.y rfl (Y.func rfl) (L.callJ (fun v D=>∃ gb18,v=.bool gb18∧D=Cls w [] [.obj b25 [el v3 (gx1.toNat*3)] 75,.obj b6 [.int .i64 a1,.int .i64 a3] 68,.sl v3 65 3 (zr TI.rowv q4 l2),.ss (zs TI.sds q4 l2),.os []]∧M14K19 x24 a1 a3 l2 gx1 gb18=some r) rfl en26 rfl Tryz.func26 rfl rfl rfl ?_ ?_))))))
  ·refine sr (L.r 1 rfl (nsr (L.r 2 rfl (L.callJ (fun v D=>∃ gx19,v=.int .i64 gx19∧D=Cls w [] [.obj b25 [el v3 (gx1.toNat*3)] 75,.obj b6 [.int .i64 a1,.int .i64 a3] 68,.sl v3 65 3 (zr TI.rowv q4 l2),.ss (zs TI.sds q4 l2),.os []]∧M14K20 x24 a1 a3 l2 gx1 gx19=some r) rfl en47 rfl Tryz.func47 rfl rfl rfl ?_ ?_))))
   ·refine sr (L.r 1 rfl (ln (W.seqJ (fun gs D=>gs=[]∧D=Cls w [] [.obj b25 [el v3 (gx1.toNat*3)] 75,.obj b6 [.int .i64 a1,.int .i64 a3] 68,.sl v3 65 3 (zr TI.rowv q4 l2),.ss (zs TI.sds q4 l2),.os []]∧M14K21 x24 a1 a3 l2 gx1=some r) ?_ ?_)))
    ·refine sr (L.r 1 rfl (L.y rfl (Y.lenM (g:=TL.row) (l:=x24.Held) Tryz.underlying63 rfl (fun w hw=>As.atZ (sds:=TI.sds) (vs:=q4) (j:=0) (c:=2) (hw.get (i:=4) rfl) (fun _ _=>rfl) ex24 rfl)) (L.r 1 rfl (ln (W.block (W.loopJ (fun m gs D=>∃ gx20,gs=[(0,gv (q4 gx1.toNat) 0),(1,.func (.func 32) #[] #[pt b1 0]),(7,.int .i64 (x24.Held.length:Int)),(8,.int .i64 gx20)]∧D=Cls w [] [.obj b25 [el v3 (gx1.toNat*3)] 75,.obj b6 [.int .i64 a1,.int .i64 a3] 68,.obj b1 [.int .i64 a1] 3,.sl v3 65 3 (zr TI.rowv q4 l2),.ss (zs TI.sds q4 l2),.os []]∧M14L5 x24 a1 a3 l2 gx1 m gx20=some r) ⟨0,rfl,rfl,h⟩ ⟨rfl,rfl,rfl,rfl,trivial⟩ hI ?_))))))
     rintro m _ _ ⟨gx20,rfl,rfl,h⟩
     rcases m with _ | m
     ·rw [M14L5] at h;cases h
     rw [M14L5] at h
     generalize hg5:M14L5 x24 a1 a3 l2 gx1 m=go5 at h
     rw [M14L5B] at h
     refine sr (L.ite h rfl (Y.lss rfl rfl) (fun c254 h=>?_) (fun c254 h=>?_))
     ·refine ln (W.seq (W.condT rfl (W.skip (E.thenN (W.seq (W.block (sr (L.r 2 rfl (ln (W.seq ?_))))))))))
      refine W.region (L.r 3 rfl (L.m (V:=fun _=>el (gv (q4 gx1.toNat) 0) (gx20.toNat*2)) h rfl (Y.indexM (g:=TL.row) (l:=x24.Held) Tryz.underlying63 sz68 rfl rfl (fun w hw=>As.atZ (sds:=TI.sds) (vs:=q4) (j:=0) (c:=2) (hw.get (i:=4) rfl) (fun _ _=>rfl) ex24 rfl)) (fun x255 ex255 h=>(L.y rfl (Y.loadEN (r:=[.int .i64 x255.Tx,.int .i64 x255.Mode]) ag68 sz68 rfl (fun w hw=>As.atZ (sds:=TI.sds) (vs:=q4) (j:=0) (c:=2) (hw.get (i:=4) rfl) (fun _ _=>rfl) ex24 rfl) (idx_map ex255) rfl) (L.callVJ (fun v D=>v=.bool (decide (x255.Tx=a1))∧D=Cls w [] [.obj b25 [el v3 (gx1.toNat*3)] 75,.obj b6 [.int .i64 a1,.int .i64 a3] 68,.obj b1 [.int .i64 a1] 3,.sl v3 65 3 (zr TI.rowv q4 l2),.ss (zs TI.sds q4 l2),.os []]∧M14K22 x255 a1 x24 a3 l2 gx1 gx20 go5=some r) rfl en32 rfl rfl Tryz.func32 rfl rfl rfl ?_ ?_)))))
      ·refine sr (L.box rfl rfl ?_)
       intro b257
       refine L.r 1 rfl (nsr (L.y rfl (Y.fieldP fd68_0 rfl) (L.y rfl (Y.loadP (i:=0) ag3 rfl rfl rfl) (L.y rfl (Y.loadP (i:=3) ag3 rfl rfl rfl) (L.y rfl (Y.eql rfl rfl) (L.r 1 rfl (ln (W.ret (E.ret1 rfl rfl (fun w1 hw=>?_))))))))))
       exact ⟨_,_,rfl,⟨rfl,rfl,h⟩,hw.s [1,2,3,4,5,6]⟩
      rintro _ _ ⟨rfl,rfl,h⟩
      rw [M14K22] at h
      refine ln (W.caseB (q:=16) h rfl (fun h=>?_) (fun h=>?_))
      ·exact W.condT rfl (sr (L.r 2 rfl (ln (W.ret (E.blockR (E.thenR (E.KLR (E.blockR (E.KSR (E.ret1 rfl rfl (fun w1 hw=>(⟨_,_,rfl,⟨gx20,rfl,rfl,h⟩,hw.s [0,1,3,4,5]⟩))))))))))))
      exact W.condF rfl (W.skip (E.blockN (E.thenN (W.region (L.m (V:=fun x256=>.int .i64 x256) h rfl (Y.addM rfl rfl) (fun x256 ex256 h=>(L.r 1 rfl (L.nil (E.aJ ⟨x256,rfl,rfl,by rw [hg5];exact h⟩ hI)))))))))
     exact ln (W.seq (W.condF rfl (W.exit (E.thenX (E.KLX (E.blockX (E.joinJ ⟨rfl,rfl,h⟩ trivial (sI [0,1,3,4,5]))))))))
    rintro _ _ ⟨rfl,rfl,h⟩
    rw [M14K21] at h
    exact sr (L.r 1 rfl (ln (W.ret (E.ret1 rfl rfl (fun w1 hw=>(⟨_,_,rfl,⟨(-1),rfl,rfl,h⟩,hw⟩))))))
   rintro _ _ ⟨gx19,rfl,rfl,h⟩
   rw [M14K20] at h
   exact L.y rfl (Y.geq rfl rfl) (L.r 1 rfl (ln (W.ret (E.ret1 rfl rfl (fun w1 hw=>(⟨_,_,rfl,⟨decide (0≤gx19),rfl,rfl,h⟩,hw⟩))))))
  rintro _ _ ⟨gb18,rfl,rfl,h⟩
  rw [M14K19] at h
  rcases gb18 with _ | _
  ·replace h:=iteF h
   exact L.r 1 rfl (L.nil (E.jJ ⟨false,rfl,rfl,h⟩ hI))
  replace h:=iteT h
  exact L.r 1 rfl (L.nil (E.jJ ⟨true,rfl,rfl,h⟩ hI))
 rintro _ _ ⟨gb3,rfl,rfl,h⟩
 rw [M14K5] at h
 rcases gb3 with _ | _
 ·replace h:=iteF h
  refine W.seqJ (fun gs D=>gs=[(14,v3),(15,pt b6 0),(18,pt b25 0),(19,.bool false)]∧D=Cls w [] [.obj b25 [el v3 (gx1.toNat*3)] 75,.obj b6 [.int .i64 a1,.int .i64 a3] 68,.sl v3 65 3 (zr TI.rowv q4 l2),.ss (zs TI.sds q4 l2),.os []]∧M14K6 x24 a1 a3 l2 gx1=some r) ?_ ?_
  ·refine W.seq (W.quietC mixed (by kernel_rfl) (fun _ hw=>hw.drew) (fun hC=>(U.y rfl (Y.loadP (i:=0) ag75 rfl rfl rfl) (U.r 1 rfl (U.y rfl (Y.loadEN (r:=[.int .i64 x24.Item,gv (q4 gx1.toNat) 0,gv (q4 gx1.toNat) 1]) ag65 sz65 rfl (fun w hw=>As.at_ (hw.get (i:=2) rfl)) (zr_idx (vs:=q4) ex24) rfl) (U.y rfl (Y.loadPW (i:=1) ag68 sz68 rfl rfl rfl) ?_))))))
   obtain ⟨b58,e59,h⟩:=bind1S h
   refine U.y rfl (Y.does en33 rfl (fun w' hw=>(W33 x24 (⟨a1,a3⟩:TL) (gv (q4 gx1.toNat) 0) (gv (q4 gx1.toNat) 1) w' _ e59 (As.atZ (sds:=TI.sds) (vs:=q4) (j:=0) (c:=2) (hw.get (i:=3) rfl) (fun _ _=>rfl) ex24 rfl) (As.atZ (sds:=TI.sds) (vs:=q4) (j:=1) (c:=2) (hw.get (i:=3) rfl) (fun _ _=>rfl) ex24 rfl)).mono (fun _ _ h=>h.1))) ?_
   rcases b58 with _ | _
   ·replace h:=iteF h
    exact U.r 11 rfl (U.nil (E.thenN (W.condF rfl (W.skip (E.jJ ⟨rfl,rfl,h⟩ hI)))))
   replace h:=iteT h
   refine U.r 3 rfl (U.take rfl (U.y rfl (Y.loadP (i:=0) ag75 rfl rfl rfl) (U.r 1 rfl (U.take rfl (U.y rfl (Y.fieldE fd65_2 rfl) (U.take rfl (U.y rfl (Y.loadE (u:=gv (q4 gx1.toNat) 1) ag63 rfl (fun w hw=>As.at_ (hw.get (i:=2) rfl)) (zr_idx (vs:=q4) ex24) rfl) (U.take rfl (U.y rfl (Y.lenM (g:=TL.row) (l:=x24.Queue) Tryz.underlying63 rfl (fun w hw=>As.atZ (sds:=TI.sds) (vs:=q4) (j:=1) (c:=2) (hw.get (i:=3) rfl) (fun _ _=>rfl) ex24 rfl)) (U.take rfl (U.ite h rfl (Y.eql rfl rfl) (fun c60 h=>?_) (fun c60 h=>?_))))))))))))
   ·refine U.r 2 rfl (U.nil (E.thenN (W.condT rfl (sr (L.y rfl (Y.loadP (i:=0) ag75 rfl rfl rfl) (L.y rfl (Y.loadPW (i:=1) ag68 sz68 rfl rfl rfl) (L.callJ (fun v D=>∃ gl4 gq5,v=.tuple #[]∧D=Cls w [] [.sl v3 65 3 (zr TI.rowv gq5 gl4),.ss (zs TI.sds gq5 gl4),.os []]∧M14K8 gl4=some r) rfl en34 rfl Tryz.func34 rfl rfl rfl ?_ ?_)))))))
    ·refine sr (L.box rfl rfl ?_)
     intro b67
     refine ln (W.seq (W.quietC mixed (by kernel_rfl) (fun _ hw=>hw.drew) (fun hC=>(U.r 2 rfl (U.y rfl (Y.loadEN (r:=[.int .i64 x24.Item,gv (q4 gx1.toNat) 0,gv (q4 gx1.toNat) 1]) ag65 sz65 rfl (fun w hw=>As.at_ (hw.get (i:=3) rfl)) (zr_idx (vs:=q4) ex24) rfl) (U.y rfl (Y.loadPW (i:=0) ag68 sz68 rfl rfl rfl) ?_))))))
     obtain ⟨x68,e69,h⟩:=bind1S h
     refine U.y rfl (Y.does en57 rfl (fun w' hw=>(W57 x24 (⟨a1,a3⟩:TL) (gv (q4 gx1.toNat) 0) (gv (q4 gx1.toNat) 1) w' _ e69 (As.atZ (sds:=TI.sds) (vs:=q4) (j:=0) (c:=2) (hw.get (i:=4) rfl) (fun _ _=>rfl) ex24 rfl) (As.atZ (sds:=TI.sds) (vs:=q4) (j:=1) (c:=2) (hw.get (i:=4) rfl) (fun _ _=>rfl) ex24 rfl)).mono (fun _ _ h=>h.1))) (U.r 1 rfl (U.nil (E.thenN (W.seqJ (fun gs D=>gs=[(0,el v3 (gx1.toNat*3)),(3,pt b67 0),(4,.int .i64 x68)]∧D=Cls w [] [.obj b67 [.int .i64 a1,.int .i64 a3] 68,.sl v3 65 3 (zr TI.rowv q4 l2),.ss (zs TI.sds q4 l2),.os []]∧M14K9 x24 a1 x68 l2 gx1=some r) ?_ ?_))))
     ·refine sr (L.r 2 rfl (L.y rfl (Y.fieldE fd65_1 rfl) (L.y rfl (Y.loadE (u:=gv (q4 gx1.toNat) 0) ag63 rfl (fun w hw=>As.at_ (hw.get (i:=3) rfl)) (zr_idx (vs:=q4) ex24) rfl) (L.y rfl (Y.lenM (g:=TL.row) (l:=x24.Held) Tryz.underlying63 rfl (fun w hw=>As.atZ (sds:=TI.sds) (vs:=q4) (j:=0) (c:=2) (hw.get (i:=4) rfl) (fun _ _=>rfl) ex24 rfl)) (L.r 1 rfl (ln (W.block (W.loopJ (fun m gs D=>∃ gx6,gs=[(0,el v3 (gx1.toNat*3)),(3,pt b67 0),(4,.int .i64 x68),(15,.int .i64 (x24.Held.length:Int)),(16,.int .i64 gx6)]∧D=Cls w [] [.obj b67 [.int .i64 a1,.int .i64 a3] 68,.sl v3 65 3 (zr TI.rowv q4 l2),.ss (zs TI.sds q4 l2),.os []]∧M14L1 x24 a1 x68 l2 gx1 m gx6=some r) ⟨0,rfl,rfl,h⟩ ⟨rfl,rfl,rfl,rfl,rfl,trivial⟩ (sI [0,3,4,5]) ?_))))))))
      rintro m _ _ ⟨gx6,rfl,rfl,h⟩
      rcases m with _ | m
      ·rw [M14L1] at h;cases h
      rw [M14L1] at h
      generalize hg1:M14L1 x24 a1 x68 l2 gx1 m=go1 at h
      rw [M14L1B] at h
      refine sr (L.ite h rfl (Y.lss rfl rfl) (fun c96 h=>?_) (fun c96 h=>?_))
      ·refine ln (W.seq (W.condT rfl (W.skip (E.thenN (W.seq (W.block (sr (L.r 2 rfl (ln (W.seq ?_))))))))))
       refine W.quietC mixed (by kernel_rfl) (fun _ hw=>hw.drew) (fun hC=>(U.r 2 rfl (U.y rfl (Y.fieldE fd65_1 rfl) (U.y rfl (Y.loadE (u:=gv (q4 gx1.toNat) 0) ag63 rfl (fun w hw=>As.at_ (hw.get (i:=1) rfl)) (zr_idx (vs:=q4) ex24) rfl) (U.r 1 rfl (U.m (V:=fun _=>el (gv (q4 gx1.toNat) 0) (gx6.toNat*2)) h rfl (Y.indexM (g:=TL.row) (l:=x24.Held) Tryz.underlying63 sz68 rfl rfl (fun w hw=>As.atZ (sds:=TI.sds) (vs:=q4) (j:=0) (c:=2) (hw.get (i:=2) rfl) (fun _ _=>rfl) ex24 rfl)) (fun x97 ex97 h=>(U.y rfl (Y.fieldE fd68_0 rfl) (U.y rfl (Y.loadE (u:=.int .i64 x97.Tx) ag3 rfl (fun w hw=>As.atZ (sds:=TI.sds) (vs:=q4) (j:=0) (c:=2) (hw.get (i:=2) rfl) (fun _ _=>rfl) ex24 rfl) (idx_map ex97) rfl) (U.y rfl (Y.fieldP fd68_0 rfl) (U.y rfl (Y.loadP (i:=0) ag3 rfl rfl rfl) (U.ite h rfl (Y.eql rfl rfl) (fun c98 h=>?_) (fun c98 h=>?_)))))))))))))
       ·refine U.nil (E.thenN (W.condT rfl (sr (L.r 2 rfl (L.y rfl (Y.fieldE fd65_1 rfl) (L.y rfl (Y.loadE (u:=gv (q4 gx1.toNat) 0) ag63 rfl (fun w hw=>As.at_ (hw.get (i:=1) rfl)) (zr_idx (vs:=q4) ex24) rfl) (L.r 2 rfl (L.m (V:=fun _=>el (gv (q4 gx1.toNat) 0) (gx6.toNat*2)) h rfl (Y.indexM (g:=TL.row) (l:=x24.Held) Tryz.underlying63 sz68 rfl rfl (fun w hw=>As.atZ (sds:=TI.sds) (vs:=q4) (j:=0) (c:=2) (hw.get (i:=2) rfl) (fun _ _=>rfl) ex24 rfl)) (fun x99 ex99 h=>(L.y rfl (Y.fieldE fd68_1 rfl) (L.ssOut (sds:=TI.sds) (vs:=q4) (s:=2) (j:=0) (c:=2) rfl (fun _ _=>rfl) ex24 rfl (L.storeSlM (q:=0) (row:=TL.row) (vs:=[.int .i64 x68]) (j:=1) (u1:=(⟨x99.Tx,x68⟩:TL)) h sz3 rfl rfl rfl rfl rfl (all1 rfl all0) rfl ex99 rfl rfl ?_))))))))))))
        intro l100 el100 h
        refine L.ssBack (row:=TI.rowv) (sds:=TI.sds) (vs:=q4) (p:=0) (s:=3) (q:=2) (c:=2) (jj:=0) (u1:=(⟨x24.Item,l100,x24.Queue⟩:TI)) (fun z=>.sl v3 65 3 z) h rfl rfl rfl (fun _ _=>rfl) ex24 rfl rfl rfl ?_
        intro l101 el101 h
        exact ln (W.ret (E.blockR (E.thenR (E.KLR (E.blockR (E.KSR (E.ret0 rfl (fun w1 hw=>(⟨_,_,rfl,⟨l101,q4,rfl,rfl,h⟩,hw.s [1,2,3]⟩)))))))))
       exact U.nil (E.thenN (W.condF rfl (W.skip (E.blockN (E.thenN (W.region (L.m (V:=fun x102=>.int .i64 x102) h rfl (Y.addM rfl rfl) (fun x102 ex102 h=>(L.r 1 rfl (L.nil (E.aJ ⟨x102,rfl,rfl,by rw [hg1];exact h⟩ hI)))))))))))
      exact ln (W.seq (W.condF rfl (W.exit (E.thenX (E.KLX (E.blockX (E.jJ ⟨rfl,rfl,h⟩ hI)))))))
     rintro _ _ ⟨rfl,rfl,h⟩
     rw [M14K9] at h
     refine W.drawn2 (k:=14) (stC [[10,13],[13]] [Cls w [] [.obj b67 [.int .i64 a1,.int .i64 a3] 68,.sl v3 65 3 (zr TI.rowv q4 l2),.ss (zs TI.sds q4 l2),.os []],Cls w [] [.obj b67 [.int .i64 a1,.int .i64 a3] 68,.sl v3 65 3 (zr TI.rowv q4 l2),.os []]] (Cls w [] [.obj b67 [.int .i64 a1,.int .i64 a3] 68,.os []])) rfl mixed (fun _ hw=>hw.drew) (Sc.now (by kernel_rfl) hI) (V2.zz [] (Zc.on' (Zc.on' (Zc.fin hI) (sI [0,2])) (sI [0,3])) (fun hz88=>(V2.r [0,1,2] (by kernel_rfl) rfl (V2.q 3 [] hz88 rfl rfl (Y.fieldE fd65_1 rfl) (V2.zz [13] (Zc.on' (Zc.at1 hI) (sI [0,1,3])) (fun hz89=>(V2.q 4 [13] hz89 rfl rfl (Y.loadE (u:=gv (q4 gx1.toNat) 0) ag63 rfl (fun w hw=>As.at_ (hw.get (i:=1) rfl)) (zr_idx (vs:=q4) ex24) rfl) (V2.q 5 [] hz88 rfl rfl (Y.fieldP fd68_0 rfl) (V2.q 6 [] hz88 rfl rfl (Y.loadP (i:=0) ag3 rfl rfl rfl) (V2.r [7] (by kernel_rfl) rfl (V2.q 8 [] hz88 rfl rfl (Y.build (cells:=#[.int .i64 a1,.int .i64 x68]) rfl (by kernel_rfl)) (V2.eff (i:=9) (by kernel_rfl) rfl (L.litAgg rfl Tryz.underlying63 eL68 rfl rfl rfl ?_)))))))))))))
     intro b90
     refine L.nil (E.toV2 (stC [[10,13],[13]] [Cls w [] [.sl (sv b90 1) 68 2 (([(⟨a1,x68⟩:TL)]).map TL.row),.obj b67 [.int .i64 a1,.int .i64 a3] 68,.sl v3 65 3 (zr TI.rowv q4 l2),.ss (zs TI.sds q4 l2),.os []],Cls w [] [.sl (sv b90 1) 68 2 (([(⟨a1,x68⟩:TL)]).map TL.row),.obj b67 [.int .i64 a1,.int .i64 a3] 68,.sl v3 65 3 (zr TI.rowv q4 l2),.os []]] (Cls w [] [.sl (sv b90 1) 68 2 (([(⟨a1,x68⟩:TL)]).map TL.row),.obj b67 [.int .i64 a1,.int .i64 a3] 68,.os []])) 9 (by kernel_rfl) (Sc.stay (sI [1,2,3,4]) (Sc.stay (sI [1,2,3]) (Sc.stayD (sI [1,2])))) (Sc.now (by kernel_rfl) hI) (V2.eff (i:=10) (by kernel_rfl) rfl (L.ssOut (sds:=TI.sds) (vs:=q4) (s:=3) (j:=0) (c:=2) rfl (fun _ _=>rfl) ex24 rfl (L.appM (i:=0) (g:=TL.row) (l:=x24.Held) (more:=[(⟨a1,x68⟩:TL)]) h rfl Tryz.underlying63 eL68 rfl rfl rfl (fun w hw=>As.at_ (hw.get (i:=1) rfl)) (plain_TLock _) rfl ?_))))
     intro v91 l92 el92 h
     refine L.nil (E.toV2 (stC [[13]] [Cls w [] [.sl v91 68 2 (l92.map TL.row),.sl (sv b90 1) 68 2 (([(⟨a1,x68⟩:TL)]).map TL.row),.obj b67 [.int .i64 a1,.int .i64 a3] 68,.sl v3 65 3 (zr TI.rowv q4 l2),.os []]] (Cls w [] [.sl (sv b90 1) 68 2 (([(⟨a1,x68⟩:TL)]).map TL.row),.obj b67 [.int .i64 a1,.int .i64 a3] 68,.os []])) 10 (by kernel_rfl) (Sc.past rfl (Sc.stay (sI [1,2,3,4]) (Sc.stayD hI))) (Sc.now (by kernel_rfl) (sI [0,1,2,3,5])) (V2.zz [] (Zc.on' (Zc.fin hI) (sI [1,2,4])) (fun hz93=>(V2.r [11] (by kernel_rfl) rfl (V2.q 12 [] hz93 rfl rfl (Y.fieldE fd65_1 rfl) (V2.eff (i:=13) (by kernel_rfl) rfl (L.storeSlZS (row:=TI.rowv) (sds:=TI.sds) (vs:=q4) (q:=3) (p:=0) (s:=4) (c:=2) (jj:=0) (u1:=(⟨x24.Item,l92,x24.Queue⟩:TI)) (v1:=[v91,gv (q4 gx1.toNat) 1]) (j:=1) h sz63 rfl rfl rfl rfl rfl rfl (.inr rfl) (fun _ _=>rfl) (fun _ _=>rfl) ex24 rfl rfl rfl rfl (by decide) ?_)))))))
     intro l94 q95 el94 h
     exact L.nil (E.toV2 (stC [] [] (Cls w [] [.sl (sv b90 1) 68 2 (([(⟨a1,x68⟩:TL)]).map TL.row),.obj b67 [.int .i64 a1,.int .i64 a3] 68,.os []])) 13 (by kernel_rfl) (Sc.past rfl (Sc.stayD hI)) (Sc.atD (sI [0,1,4])) (V2.done (by kernel_rfl) (E.end0 rfl (fun w1 hw=>(⟨_,_,rfl,⟨l94,q95,rfl,rfl,h⟩,hw.s [2,3,4]⟩)))))
    rintro _ _ ⟨gl4,gq5,rfl,rfl,h⟩
    rw [M14K8] at h
    refine nsr (L.r 4 rfl (ln (W.ret (E.KSR (E.frzS (i:=1) rfl rfl rfl ?_)))))
    intro c61 mo62 hf63
    refine E.frz (i:=0) rfl rfl rfl ?_
    intro c64 mo65 hf66
    refine E.ret3 rfl rfl rfl rfl (fun w1 hw=>?_)
    cases h
    exact ⟨_,_,rfl,⟨c64,rfl,v3,gq5,rfl,(hf66 K),((hf63 K).mo mo65)⟩,hw⟩
   exact U.r 2 rfl (U.nil (E.thenN (W.condF rfl (W.skip (E.jJ ⟨rfl,rfl,h⟩ hI)))))
  rintro _ _ ⟨rfl,rfl,h⟩
  rw [M14K6] at h
  refine W.seq (W.drawn2 (k:=11) (stC [[7,10],[10]] [Cls w [] [.obj b25 [el v3 (gx1.toNat*3)] 75,.obj b6 [.int .i64 a1,.int .i64 a3] 68,.sl v3 65 3 (zr TI.rowv q4 l2),.ss (zs TI.sds q4 l2),.os []],Cls w [] [.obj b25 [el v3 (gx1.toNat*3)] 75,.obj b6 [.int .i64 a1,.int .i64 a3] 68,.sl v3 65 3 (zr TI.rowv q4 l2),.os []]] (Cls w [] [.obj b25 [el v3 (gx1.toNat*3)] 75,.obj b6 [.int .i64 a1,.int .i64 a3] 68,.os []])) rfl mixed (fun _ hw=>hw.drew) (Sc.now (by kernel_rfl) hI) (V2.zz [] (Zc.on' (Zc.on' (Zc.fin hI) (sI [0,1,3])) (sI [0,1,4])) (fun hz44=>(V2.q 0 [] hz44 rfl rfl (Y.loadP (i:=0) ag75 rfl rfl rfl) (V2.q 1 [] hz44 rfl rfl (Y.loadP (i:=0) ag75 rfl rfl rfl) (V2.r [2] (by kernel_rfl) rfl (V2.q 3 [] hz44 rfl rfl (Y.fieldE fd65_2 rfl) (V2.zz [10] (Zc.on' (Zc.at1 hI) (sI [0,1,2,4])) (fun hz45=>(V2.q 4 [10] hz45 rfl rfl (Y.loadE (u:=gv (q4 gx1.toNat) 1) ag63 rfl (fun w hw=>As.at_ (hw.get (i:=2) rfl)) (zr_idx (vs:=q4) ex24) rfl) (V2.q 5 [] hz44 rfl rfl (Y.loadPW (i:=1) ag68 sz68 rfl rfl rfl) (V2.eff (i:=6) (by kernel_rfl) rfl (L.litAgg rfl Tryz.underlying63 eL68 rfl rfl rfl ?_)))))))))))))
  intro b46
  refine L.nil (E.toV2 (stC [[7,10],[10]] [Cls w [] [.sl (sv b46 1) 68 2 (([(⟨a1,a3⟩:TL)]).map TL.row),.obj b25 [el v3 (gx1.toNat*3)] 75,.obj b6 [.int .i64 a1,.int .i64 a3] 68,.sl v3 65 3 (zr TI.rowv q4 l2),.ss (zs TI.sds q4 l2),.os []],Cls w [] [.sl (sv b46 1) 68 2 (([(⟨a1,a3⟩:TL)]).map TL.row),.obj b25 [el v3 (gx1.toNat*3)] 75,.obj b6 [.int .i64 a1,.int .i64 a3] 68,.sl v3 65 3 (zr TI.rowv q4 l2),.os []]] (Cls w [] [.sl (sv b46 1) 68 2 (([(⟨a1,a3⟩:TL)]).map TL.row),.obj b25 [el v3 (gx1.toNat*3)] 75,.obj b6 [.int .i64 a1,.int .i64 a3] 68,.os []])) 6 (by kernel_rfl) (Sc.stay (sI [1,2,3,4,5]) (Sc.stay (sI [1,2,3,4]) (Sc.stayD (sI [1,2,3])))) (Sc.now (by kernel_rfl) hI) (V2.eff (i:=7) (by kernel_rfl) rfl (L.ssOut (sds:=TI.sds) (vs:=q4) (s:=4) (j:=1) (c:=2) rfl (fun _ _=>rfl) ex24 rfl (L.appM (i:=0) (g:=TL.row) (l:=x24.Queue) (more:=[(⟨a1,a3⟩:TL)]) h rfl Tryz.underlying63 eL68 rfl rfl rfl (fun w hw=>As.at_ (hw.get (i:=1) rfl)) (plain_TLock _) rfl ?_))))
  intro v47 l48 el48 h
  refine L.nil (E.toV2 (stC [[10]] [Cls w [] [.sl v47 68 2 (l48.map TL.row),.sl (sv b46 1) 68 2 (([(⟨a1,a3⟩:TL)]).map TL.row),.obj b25 [el v3 (gx1.toNat*3)] 75,.obj b6 [.int .i64 a1,.int .i64 a3] 68,.sl v3 65 3 (zr TI.rowv q4 l2),.os []]] (Cls w [] [.sl (sv b46 1) 68 2 (([(⟨a1,a3⟩:TL)]).map TL.row),.obj b25 [el v3 (gx1.toNat*3)] 75,.obj b6 [.int .i64 a1,.int .i64 a3] 68,.os []])) 7 (by kernel_rfl) (Sc.past rfl (Sc.stay (sI [1,2,3,4,5]) (Sc.stayD hI))) (Sc.now (by kernel_rfl) (sI [0,1,2,3,4,6])) (V2.zz [] (Zc.on' (Zc.fin hI) (sI [1,2,3,5])) (fun hz49=>(V2.r [8] (by kernel_rfl) rfl (V2.q 9 [] hz49 rfl rfl (Y.fieldE fd65_2 rfl) (V2.eff (i:=10) (by kernel_rfl) rfl (L.storeSlZS (row:=TI.rowv) (sds:=TI.sds) (vs:=q4) (q:=4) (p:=0) (s:=5) (c:=2) (jj:=1) (u1:=(⟨x24.Item,x24.Held,l48⟩:TI)) (v1:=[gv (q4 gx1.toNat) 0,v47]) (j:=2) h sz63 rfl rfl rfl rfl rfl rfl (.inr rfl) (fun _ _=>rfl) (fun _ _=>rfl) ex24 rfl rfl rfl rfl (by decide) ?_)))))))
  intro l50 q51 el50 h
  refine L.nil (E.toV2 (stC [] [] (Cls w [] [.sl (sv b46 1) 68 2 (([(⟨a1,a3⟩:TL)]).map TL.row),.obj b25 [el v3 (gx1.toNat*3)] 75,.obj b6 [.int .i64 a1,.int .i64 a3] 68,.os []])) 10 (by kernel_rfl) (Sc.past rfl (Sc.stayD hI)) (Sc.atD (sI [0,1,2,5])) (V2.done (by kernel_rfl) (E.thenN (W.seqJ (fun gs D=>gs=[(14,v3)]∧D=Cls w [] [.sl v3 65 3 (zr TI.rowv q51 l50),.ss (zs TI.sds q51 l50),.os []]∧M14K7 l50=some r) ?_ ?_))))
  ·exact sr (L.r 1 rfl (ln (W.condF rfl (W.skip (E.jJ ⟨rfl,rfl,h⟩ (sI [3,4,5]))))))
  rintro _ _ ⟨rfl,rfl,h⟩
  rw [M14K7] at h
  refine sr (L.r 4 rfl (ln (W.ret (E.frzS (i:=1) rfl rfl rfl ?_))))
  intro c52 mo53 hf54
  refine E.frz (i:=0) rfl rfl rfl ?_
  intro c55 mo56 hf57
  refine E.ret3 rfl rfl rfl rfl (fun w1 hw=>?_)
  cases h
  exact ⟨_,_,rfl,⟨c55,rfl,v3,q51,rfl,(hf57 K),((hf54 K).mo mo56)⟩,hw⟩
 replace h:=iteT h
 refine W.seqJ (fun gs D=>gs=[(14,v3),(15,pt b6 0),(18,pt b25 0),(19,.bool true)]∧D=Cls w [] [.obj b25 [el v3 (gx1.toNat*3)] 75,.obj b6 [.int .i64 a1,.int .i64 a3] 68,.sl v3 65 3 (zr TI.rowv q4 l2),.ss (zs TI.sds q4 l2),.os []]∧M14K10 x24 a1 a3 l2 gx1=some r) ?_ ?_
 ·refine W.seq (W.quietC mixed (by kernel_rfl) (fun _ hw=>hw.drew) (fun hC=>(U.y rfl (Y.loadP (i:=0) ag75 rfl rfl rfl) (U.r 1 rfl (U.y rfl (Y.loadEN (r:=[.int .i64 x24.Item,gv (q4 gx1.toNat) 0,gv (q4 gx1.toNat) 1]) ag65 sz65 rfl (fun w hw=>As.at_ (hw.get (i:=2) rfl)) (zr_idx (vs:=q4) ex24) rfl) (U.y rfl (Y.loadPW (i:=1) ag68 sz68 rfl rfl rfl) ?_))))))
  obtain ⟨b210,e211,h⟩:=bind1S h
  refine U.y rfl (Y.does en33 rfl (fun w' hw=>(W33 x24 (⟨a1,a3⟩:TL) (gv (q4 gx1.toNat) 0) (gv (q4 gx1.toNat) 1) w' _ e211 (As.atZ (sds:=TI.sds) (vs:=q4) (j:=0) (c:=2) (hw.get (i:=3) rfl) (fun _ _=>rfl) ex24 rfl) (As.atZ (sds:=TI.sds) (vs:=q4) (j:=1) (c:=2) (hw.get (i:=3) rfl) (fun _ _=>rfl) ex24 rfl)).mono (fun _ _ h=>h.1))) ?_
  rcases b210 with _ | _
  ·replace h:=iteF h
   exact U.r 11 rfl (U.nil (E.thenN (W.condF rfl (W.skip (E.jJ ⟨rfl,rfl,h⟩ hI)))))
  replace h:=iteT h
  refine U.r 11 rfl (U.nil (E.thenN (W.condT rfl (sr (L.y rfl (Y.loadP (i:=0) ag75 rfl rfl rfl) (L.y rfl (Y.loadPW (i:=1) ag68 sz68 rfl rfl rfl) (L.callJ (fun v D=>∃ gl15 gq16,v=.tuple #[]∧D=Cls w [] [.sl v3 65 3 (zr TI.rowv gq16 gl15),.ss (zs TI.sds gq16 gl15),.os []]∧M14K17 gl15=some r) rfl en34 rfl Tryz.func34 rfl rfl rfl ?_ ?_)))))))
  ·refine sr (L.box rfl rfl ?_)
   intro b218
   refine ln (W.seq (W.quietC mixed (by kernel_rfl) (fun _ hw=>hw.drew) (fun hC=>(U.r 2 rfl (U.y rfl (Y.loadEN (r:=[.int .i64 x24.Item,gv (q4 gx1.toNat) 0,gv (q4 gx1.toNat) 1]) ag65 sz65 rfl (fun w hw=>As.at_ (hw.get (i:=3) rfl)) (zr_idx (vs:=q4) ex24) rfl) (U.y rfl (Y.loadPW (i:=0) ag68 sz68 rfl rfl rfl) ?_))))))
   obtain ⟨x219,e220,h⟩:=bind1S h
   refine U.y rfl (Y.does en57 rfl (fun w' hw=>(W57 x24 (⟨a1,a3⟩:TL) (gv (q4 gx1.toNat) 0) (gv (q4 gx1.toNat) 1) w' _ e220 (As.atZ (sds:=TI.sds) (vs:=q4) (j:=0) (c:=2) (hw.get (i:=4) rfl) (fun _ _=>rfl) ex24 rfl) (As.atZ (sds:=TI.sds) (vs:=q4) (j:=1) (c:=2) (hw.get (i:=4) rfl) (fun _ _=>rfl) ex24 rfl)).mono (fun _ _ h=>h.1))) (U.r 1 rfl (U.nil (E.thenN (W.seqJ (fun gs D=>gs=[(0,el v3 (gx1.toNat*3)),(3,pt b218 0),(4,.int .i64 x219)]∧D=Cls w [] [.obj b218 [.int .i64 a1,.int .i64 a3] 68,.sl v3 65 3 (zr TI.rowv q4 l2),.ss (zs TI.sds q4 l2),.os []]∧M14K18 x24 a1 x219 l2 gx1=some r) ?_ ?_))))
   ·refine sr (L.r 2 rfl (L.y rfl (Y.fieldE fd65_1 rfl) (L.y rfl (Y.loadE (u:=gv (q4 gx1.toNat) 0) ag63 rfl (fun w hw=>As.at_ (hw.get (i:=3) rfl)) (zr_idx (vs:=q4) ex24) rfl) (L.y rfl (Y.lenM (g:=TL.row) (l:=x24.Held) Tryz.underlying63 rfl (fun w hw=>As.atZ (sds:=TI.sds) (vs:=q4) (j:=0) (c:=2) (hw.get (i:=4) rfl) (fun _ _=>rfl) ex24 rfl)) (L.r 1 rfl (ln (W.block (W.loopJ (fun m gs D=>∃ gx17,gs=[(0,el v3 (gx1.toNat*3)),(3,pt b218 0),(4,.int .i64 x219),(15,.int .i64 (x24.Held.length:Int)),(16,.int .i64 gx17)]∧D=Cls w [] [.obj b218 [.int .i64 a1,.int .i64 a3] 68,.sl v3 65 3 (zr TI.rowv q4 l2),.ss (zs TI.sds q4 l2),.os []]∧M14L4 x24 a1 x219 l2 gx1 m gx17=some r) ⟨0,rfl,rfl,h⟩ ⟨rfl,rfl,rfl,rfl,rfl,trivial⟩ (sI [0,3,4,5]) ?_))))))))
    rintro m _ _ ⟨gx17,rfl,rfl,h⟩
    rcases m with _ | m
    ·rw [M14L4] at h;cases h
    rw [M14L4] at h
    generalize hg4:M14L4 x24 a1 x219 l2 gx1 m=go4 at h
    rw [M14L4B] at h
    refine sr (L.ite h rfl (Y.lss rfl rfl) (fun c247 h=>?_) (fun c247 h=>?_))
    ·refine ln (W.seq (W.condT rfl (W.skip (E.thenN (W.seq (W.block (sr (L.r 2 rfl (ln (W.seq ?_))))))))))
     refine W.quietC mixed (by kernel_rfl) (fun _ hw=>hw.drew) (fun hC=>(U.r 2 rfl (U.y rfl (Y.fieldE fd65_1 rfl) (U.y rfl (Y.loadE (u:=gv (q4 gx1.toNat) 0) ag63 rfl (fun w hw=>As.at_ (hw.get (i:=1) rfl)) (zr_idx (vs:=q4) ex24) rfl) (U.r 1 rfl (U.m (V:=fun _=>el (gv (q4 gx1.toNat) 0) (gx17.toNat*2)) h rfl (Y.indexM (g:=TL.row) (l:=x24.Held) Tryz.underlying63 sz68 rfl rfl (fun w hw=>As.atZ (sds:=TI.sds) (vs:=q4) (j:=0) (c:=2) (hw.get (i:=2) rfl) (fun _ _=>rfl) ex24 rfl)) (fun x248 ex248 h=>(U.y rfl (Y.fieldE fd68_0 rfl) (U.y rfl (Y.loadE (u:=.int .i64 x248.Tx) ag3 rfl (fun w hw=>As.atZ (sds:=TI.sds) (vs:=q4) (j:=0) (c:=2) (hw.get (i:=2) rfl) (fun _ _=>rfl) ex24 rfl) (idx_map ex248) rfl) (U.y rfl (Y.fieldP fd68_0 rfl) (U.y rfl (Y.loadP (i:=0) ag3 rfl rfl rfl) (U.ite h rfl (Y.eql rfl rfl) (fun c249 h=>?_) (fun c249 h=>?_)))))))))))))
     ·refine U.nil (E.thenN (W.condT rfl (sr (L.r 2 rfl (L.y rfl (Y.fieldE fd65_1 rfl) (L.y rfl (Y.loadE (u:=gv (q4 gx1.toNat) 0) ag63 rfl (fun w hw=>As.at_ (hw.get (i:=1) rfl)) (zr_idx (vs:=q4) ex24) rfl) (L.r 2 rfl (L.m (V:=fun _=>el (gv (q4 gx1.toNat) 0) (gx17.toNat*2)) h rfl (Y.indexM (g:=TL.row) (l:=x24.Held) Tryz.underlying63 sz68 rfl rfl (fun w hw=>As.atZ (sds:=TI.sds) (vs:=q4) (j:=0) (c:=2) (hw.get (i:=2) rfl) (fun _ _=>rfl) ex24 rfl)) (fun x250 ex250 h=>(L.y rfl (Y.fieldE fd68_1 rfl) (L.ssOut (sds:=TI.sds) (vs:=q4) (s:=2) (j:=0) (c:=2) rfl (fun _ _=>rfl) ex24 rfl (L.storeSlM (q:=0) (row:=TL.row) (vs:=[.int .i64 x219]) (j:=1) (u1:=(⟨x250.Tx,x219⟩:TL)) h sz3 rfl rfl rfl rfl rfl (all1 rfl all0) rfl ex250 rfl rfl ?_))))))))))))
      intro l251 el251 h
      refine L.ssBack (row:=TI.rowv) (sds:=TI.sds) (vs:=q4) (p:=0) (s:=3) (q:=2) (c:=2) (jj:=0) (u1:=(⟨x24.Item,l251,x24.Queue⟩:TI)) (fun z=>.sl v3 65 3 z) h rfl rfl rfl (fun _ _=>rfl) ex24 rfl rfl rfl ?_
      intro l252 el252 h
      exact ln (W.ret (E.blockR (E.thenR (E.KLR (E.blockR (E.KSR (E.ret0 rfl (fun w1 hw=>(⟨_,_,rfl,⟨l252,q4,rfl,rfl,h⟩,hw.s [1,2,3]⟩)))))))))
     exact U.nil (E.thenN (W.condF rfl (W.skip (E.blockN (E.thenN (W.region (L.m (V:=fun x253=>.int .i64 x253) h rfl (Y.addM rfl rfl) (fun x253 ex253 h=>(L.r 1 rfl (L.nil (E.aJ ⟨x253,rfl,rfl,by rw [hg4];exact h⟩ hI)))))))))))
    exact ln (W.seq (W.condF rfl (W.exit (E.thenX (E.KLX (E.blockX (E.jJ ⟨rfl,rfl,h⟩ hI)))))))
   rintro _ _ ⟨rfl,rfl,h⟩
   rw [M14K18] at h
   refine W.drawn2 (k:=14) (stC [[10,13],[13]] [Cls w [] [.obj b218 [.int .i64 a1,.int .i64 a3] 68,.sl v3 65 3 (zr TI.rowv q4 l2),.ss (zs TI.sds q4 l2),.os []],Cls w [] [.obj b218 [.int .i64 a1,.int .i64 a3] 68,.sl v3 65 3 (zr TI.rowv q4 l2),.os []]] (Cls w [] [.obj b218 [.int .i64 a1,.int .i64 a3] 68,.os []])) rfl mixed (fun _ hw=>hw.drew) (Sc.now (by kernel_rfl) hI) (V2.zz [] (Zc.on' (Zc.on' (Zc.fin hI) (sI [0,2])) (sI [0,3])) (fun hz239=>(V2.r [0,1,2] (by kernel_rfl) rfl (V2.q 3 [] hz239 rfl rfl (Y.fieldE fd65_1 rfl) (V2.zz [13] (Zc.on' (Zc.at1 hI) (sI [0,1,3])) (fun hz240=>(V2.q 4 [13] hz240 rfl rfl (Y.loadE (u:=gv (q4 gx1.toNat) 0) ag63 rfl (fun w hw=>As.at_ (hw.get (i:=1) rfl)) (zr_idx (vs:=q4) ex24) rfl) (V2.q 5 [] hz239 rfl rfl (Y.fieldP fd68_0 rfl) (V2.q 6 [] hz239 rfl rfl (Y.loadP (i:=0) ag3 rfl rfl rfl) (V2.r [7] (by kernel_rfl) rfl (V2.q 8 [] hz239 rfl rfl (Y.build (cells:=#[.int .i64 a1,.int .i64 x219]) rfl (by kernel_rfl)) (V2.eff (i:=9) (by kernel_rfl) rfl (L.litAgg rfl Tryz.underlying63 eL68 rfl rfl rfl ?_)))))))))))))
   intro b241
   refine L.nil (E.toV2 (stC [[10,13],[13]] [Cls w [] [.sl (sv b241 1) 68 2 (([(⟨a1,x219⟩:TL)]).map TL.row),.obj b218 [.int .i64 a1,.int .i64 a3] 68,.sl v3 65 3 (zr TI.rowv q4 l2),.ss (zs TI.sds q4 l2),.os []],Cls w [] [.sl (sv b241 1) 68 2 (([(⟨a1,x219⟩:TL)]).map TL.row),.obj b218 [.int .i64 a1,.int .i64 a3] 68,.sl v3 65 3 (zr TI.rowv q4 l2),.os []]] (Cls w [] [.sl (sv b241 1) 68 2 (([(⟨a1,x219⟩:TL)]).map TL.row),.obj b218 [.int .i64 a1,.int .i64 a3] 68,.os []])) 9 (by kernel_rfl) (Sc.stay (sI [1,2,3,4]) (Sc.stay (sI [1,2,3]) (Sc.stayD (sI [1,2])))) (Sc.now (by kernel_rfl) hI) (V2.eff (i:=10) (by kernel_rfl) rfl (L.ssOut (sds:=TI.sds) (vs:=q4) (s:=3) (j:=0) (c:=2) rfl (fun _ _=>rfl) ex24 rfl (L.appM (i:=0) (g:=TL.row) (l:=x24.Held) (more:=[(⟨a1,x219⟩:TL)]) h rfl Tryz.underlying63 eL68 rfl rfl rfl (fun w hw=>As.at_ (hw.get (i:=1) rfl)) (plain_TLock _) rfl ?_))))
   intro v242 l243 el243 h
   refine L.nil (E.toV2 (stC [[13]] [Cls w [] [.sl v242 68 2 (l243.map TL.row),.sl (sv b241 1) 68 2 (([(⟨a1,x219⟩:TL)]).map TL.row),.obj b218 [.int .i64 a1,.int .i64 a3] 68,.sl v3 65 3 (zr TI.rowv q4 l2),.os []]] (Cls w [] [.sl (sv b241 1) 68 2 (([(⟨a1,x219⟩:TL)]).map TL.row),.obj b218 [.int .i64 a1,.int .i64 a3] 68,.os []])) 10 (by kernel_rfl) (Sc.past rfl (Sc.stay (sI [1,2,3,4]) (Sc.stayD hI))) (Sc.now (by kernel_rfl) (sI [0,1,2,3,5])) (V2.zz [] (Zc.on' (Zc.fin hI) (sI [1,2,4])) (fun hz244=>(V2.r [11] (by kernel_rfl) rfl (V2.q 12 [] hz244 rfl rfl (Y.fieldE fd65_1 rfl) (V2.eff (i:=13) (by kernel_rfl) rfl (L.storeSlZS (row:=TI.rowv) (sds:=TI.sds) (vs:=q4) (q:=3) (p:=0) (s:=4) (c:=2) (jj:=0) (u1:=(⟨x24.Item,l243,x24.Queue⟩:TI)) (v1:=[v242,gv (q4 gx1.toNat) 1]) (j:=1) h sz63 rfl rfl rfl rfl rfl rfl (.inr rfl) (fun _ _=>rfl) (fun _ _=>rfl) ex24 rfl rfl rfl rfl (by decide) ?_)))))))
   intro l245 q246 el245 h
   exact L.nil (E.toV2 (stC [] [] (Cls w [] [.sl (sv b241 1) 68 2 (([(⟨a1,x219⟩:TL)]).map TL.row),.obj b218 [.int .i64 a1,.int .i64 a3] 68,.os []])) 13 (by kernel_rfl) (Sc.past rfl (Sc.stayD hI)) (Sc.atD (sI [0,1,4])) (V2.done (by kernel_rfl) (E.end0 rfl (fun w1 hw=>(⟨_,_,rfl,⟨l245,q246,rfl,rfl,h⟩,hw.s [2,3,4]⟩)))))
  rintro _ _ ⟨gl15,gq16,rfl,rfl,h⟩
  rw [M14K17] at h
  refine nsr (L.r 4 rfl (ln (W.ret (E.KSR (E.frzS (i:=1) rfl rfl rfl ?_)))))
  intro c212 mo213 hf214
  refine E.frz (i:=0) rfl rfl rfl ?_
  intro c215 mo216 hf217
  refine E.ret3 rfl rfl rfl rfl (fun w1 hw=>?_)
  cases h
  exact ⟨_,_,rfl,⟨c215,rfl,v3,gq16,rfl,(hf217 K),((hf214 K).mo mo216)⟩,hw⟩
 rintro _ _ ⟨rfl,rfl,h⟩
 rw [M14K10] at h
 refine W.seq (W.drawn2 (k:=11) (stC [[7,10],[10]] [Cls w [] [.obj b25 [el v3 (gx1.toNat*3)] 75,.obj b6 [.int .i64 a1,.int .i64 a3] 68,.sl v3 65 3 (zr TI.rowv q4 l2),.ss (zs TI.sds q4 l2),.os []],Cls w [] [.obj b25 [el v3 (gx1.toNat*3)] 75,.obj b6 [.int .i64 a1,.int .i64 a3] 68,.sl v3 65 3 (zr TI.rowv q4 l2),.os []]] (Cls w [] [.obj b25 [el v3 (gx1.toNat*3)] 75,.obj b6 [.int .i64 a1,.int .i64 a3] 68,.os []])) rfl mixed (fun _ hw=>hw.drew) (Sc.now (by kernel_rfl) hI) (V2.zz [] (Zc.on' (Zc.on' (Zc.fin hI) (sI [0,1,3])) (sI [0,1,4])) (fun hz121=>(V2.q 0 [] hz121 rfl rfl (Y.loadP (i:=0) ag75 rfl rfl rfl) (V2.q 1 [] hz121 rfl rfl (Y.loadP (i:=0) ag75 rfl rfl rfl) (V2.r [2] (by kernel_rfl) rfl (V2.q 3 [] hz121 rfl rfl (Y.fieldE fd65_2 rfl) (V2.zz [10] (Zc.on' (Zc.at1 hI) (sI [0,1,2,4])) (fun hz122=>(V2.q 4 [10] hz122 rfl rfl (Y.loadE (u:=gv (q4 gx1.toNat) 1) ag63 rfl (fun w hw=>As.at_ (hw.get (i:=2) rfl)) (zr_idx (vs:=q4) ex24) rfl) (V2.q 5 [] hz121 rfl rfl (Y.loadPW (i:=1) ag68 sz68 rfl rfl rfl) (V2.eff (i:=6) (by kernel_rfl) rfl (L.litAgg rfl Tryz.underlying63 eL68 rfl rfl rfl ?_)))))))))))))
 intro b123
 refine L.nil (E.toV2 (stC [[7,10],[10]] [Cls w [] [.sl (sv b123 1) 68 2 (([(⟨a1,a3⟩:TL)]).map TL.row),.obj b25 [el v3 (gx1.toNat*3)] 75,.obj b6 [.int .i64 a1,.int .i64 a3] 68,.sl v3 65 3 (zr TI.rowv q4 l2),.ss (zs TI.sds q4 l2),.os []],Cls w [] [.sl (sv b123 1) 68 2 (([(⟨a1,a3⟩:TL)]).map TL.row),.obj b25 [el v3 (gx1.toNat*3)] 75,.obj b6 [.int .i64 a1,.int .i64 a3] 68,.sl v3 65 3 (zr TI.rowv q4 l2),.os []]] (Cls w [] [.sl (sv b123 1) 68 2 (([(⟨a1,a3⟩:TL)]).map TL.row),.obj b25 [el v3 (gx1.toNat*3)] 75,.obj b6 [.int .i64 a1,.int .i64 a3] 68,.os []])) 6 (by kernel_rfl) (Sc.stay (sI [1,2,3,4,5]) (Sc.stay (sI [1,2,3,4]) (Sc.stayD (sI [1,2,3])))) (Sc.now (by kernel_rfl) hI) (V2.eff (i:=7) (by kernel_rfl) rfl (L.ssOut (sds:=TI.sds) (vs:=q4) (s:=4) (j:=1) (c:=2) rfl (fun _ _=>rfl) ex24 rfl (L.appM (i:=0) (g:=TL.row) (l:=x24.Queue) (more:=[(⟨a1,a3⟩:TL)]) h rfl Tryz.underlying63 eL68 rfl rfl rfl (fun w hw=>As.at_ (hw.get (i:=1) rfl)) (plain_TLock _) rfl ?_))))
 intro v124 l125 el125 h
 refine L.nil (E.toV2 (stC [[10]] [Cls w [] [.sl v124 68 2 (l125.map TL.row),.sl (sv b123 1) 68 2 (([(⟨a1,a3⟩:TL)]).map TL.row),.obj b25 [el v3 (gx1.toNat*3)] 75,.obj b6 [.int .i64 a1,.int .i64 a3] 68,.sl v3 65 3 (zr TI.rowv q4 l2),.os []]] (Cls w [] [.sl (sv b123 1) 68 2 (([(⟨a1,a3⟩:TL)]).map TL.row),.obj b25 [el v3 (gx1.toNat*3)] 75,.obj b6 [.int .i64 a1,.int .i64 a3] 68,.os []])) 7 (by kernel_rfl) (Sc.past rfl (Sc.stay (sI [1,2,3,4,5]) (Sc.stayD hI))) (Sc.now (by kernel_rfl) (sI [0,1,2,3,4,6])) (V2.zz [] (Zc.on' (Zc.fin hI) (sI [1,2,3,5])) (fun hz126=>(V2.r [8] (by kernel_rfl) rfl (V2.q 9 [] hz126 rfl rfl (Y.fieldE fd65_2 rfl) (V2.eff (i:=10) (by kernel_rfl) rfl (L.storeSlZS (row:=TI.rowv) (sds:=TI.sds) (vs:=q4) (q:=4) (p:=0) (s:=5) (c:=2) (jj:=1) (u1:=(⟨x24.Item,x24.Held,l125⟩:TI)) (v1:=[gv (q4 gx1.toNat) 0,v124]) (j:=2) h sz63 rfl rfl rfl rfl rfl rfl (.inr rfl) (fun _ _=>rfl) (fun _ _=>rfl) ex24 rfl rfl rfl rfl (by decide) ?_)))))))
 intro l127 q128 el127 h
 refine L.nil (E.toV2 (stC [] [] (Cls w [] [.sl (sv b123 1) 68 2 (([(⟨a1,a3⟩:TL)]).map TL.row),.obj b25 [el v3 (gx1.toNat*3)] 75,.obj b6 [.int .i64 a1,.int .i64 a3] 68,.os []])) 10 (by kernel_rfl) (Sc.past rfl (Sc.stayD hI)) (Sc.atD (sI [0,1,2,5])) (V2.done (by kernel_rfl) (E.thenN (W.seqJ (fun gs D=>∃ gl7 gq8,gs=[(14,v3)]∧D=Cls w [] [.sl v3 65 3 (zr TI.rowv gq8 gl7),.ss (zs TI.sds gq8 gl7),.os []]∧M14K11 gl7=some r) ?_ ?_))))
 ·refine sr (L.r 1 rfl (ln (W.condT rfl (sr (L.alloc rfl ze3 ?_)))))
  intro b135
  refine L.store (i:=0) (vs:=[.int .i64 0]) sz3 rfl rfl rfl rfl (by simp [Value.oneCell',Value.cells,st,pt,el]) rfl nb (ln (W.seqJ (fun gs D=>∃ gx9,gs=[(14,v3),(15,pt b6 0),(18,pt b25 0),(20,pt b135 0)]∧D=Cls w [] [.obj b135 [.int .i64 gx9] 3,.obj b25 [el v3 (gx1.toNat*3)] 75,.obj b6 [.int .i64 a1,.int .i64 a3] 68,.sl v3 65 3 (zr TI.rowv q128 l127),.ss (zs TI.sds q128 l127),.os []]∧M14K12 l127 gx1 a1 a3 gx9=some r) ?_ ?_))
  ·refine W.block (W.loopJ (fun m gs D=>∃ gx10,gs=[(14,v3),(15,pt b6 0),(18,pt b25 0),(20,pt b135 0)]∧D=Cls w [] [.obj b135 [.int .i64 gx10] 3,.obj b25 [el v3 (gx1.toNat*3)] 75,.obj b6 [.int .i64 a1,.int .i64 a3] 68,.sl v3 65 3 (zr TI.rowv q128 l127),.ss (zs TI.sds q128 l127),.os []]∧M14L2 l127 gx1 a1 a3 m gx10=some r) ⟨0,rfl,rfl,h⟩ ⟨rfl,rfl,rfl,rfl,trivial⟩ (sI [0,2,3,4,5,6]) ?_)
   rintro m _ _ ⟨gx10,rfl,rfl,h⟩
   rcases m with _ | m
   ·rw [M14L2] at h;cases h
   rw [M14L2] at h
   generalize hg2:M14L2 l127 gx1 a1 a3 m=go2 at h
   rw [M14L2B] at h
   refine W.seq (W.seq (W.drawn2 (k:=16) (stC [] [] (Cls w [] [.obj b135 [.int .i64 gx10] 3,.obj b25 [el v3 (gx1.toNat*3)] 75,.obj b6 [.int .i64 a1,.int .i64 a3] 68,.sl v3 65 3 (zr TI.rowv q128 l127),.ss (zs TI.sds q128 l127),.os []])) rfl mixed (fun _ hw=>hw.drew) (Sc.atD hI) (V2.zz [] (Zc.fin hI) (fun hz198=>(V2.q 0 [] hz198 rfl rfl (Y.loadP (i:=0) ag3 rfl rfl rfl) (V2.q 1 [] hz198 rfl rfl (Y.loadP (i:=1) ag75 rfl rfl rfl) (V2.r [2] (by kernel_rfl) rfl (V2.q 3 [] hz198 rfl rfl (Y.fieldE fd65_2 rfl) ?_))))))))
   obtain ⟨x199,ex199,h⟩:=bind1S h
   refine V2.q 4 [] hz198 rfl rfl (Y.loadE (u:=gv (q128 gx1.toNat) 1) ag63 rfl (fun w hw=>As.at_ (hw.get (i:=3) rfl)) (zr_idx (vs:=q128) ex199) rfl) (V2.q 5 [] hz198 rfl rfl (Y.lenM (g:=TL.row) (l:=x199.Queue) Tryz.underlying63 rfl (fun w hw=>As.atZ (sds:=TI.sds) (vs:=q128) (j:=1) (c:=2) (hw.get (i:=4) rfl) (fun _ _=>rfl) ex199 rfl)) (V2.m (i:=6) (V':=fun x200=>.int .i64 x200) h (Nx2.of [] (by kernel_rfl) rfl hz198) rfl rfl rfl (Y.subM rfl rfl) (fun x200 ex200 h=>(V2.ite (i:=7) h (Nx2.of [] (by kernel_rfl) rfl hz198) rfl rfl rfl (Y.lss rfl rfl) (fun c201 h=>?_) (fun c201 h=>?_)))))
   ·refine V2.r [8] (by kernel_rfl) rfl (V2.q 9 [] hz198 rfl rfl (Y.loadP (i:=1) ag75 rfl rfl rfl) (V2.r [10] (by kernel_rfl) rfl (V2.q 11 [] hz198 rfl rfl (Y.fieldE fd65_1 rfl) (V2.q 12 [] hz198 rfl rfl (Y.loadE (u:=gv (q128 gx1.toNat) 0) ag63 rfl (fun w hw=>As.at_ (hw.get (i:=3) rfl)) (zr_idx (vs:=q128) ex199) rfl) (V2.q 13 [] hz198 rfl rfl (Y.func rfl) (V2.eff (i:=14) (by kernel_rfl) rfl (L.take rfl (L.callJ (fun v D=>∃ gb11,v=.bool gb11∧D=Cls w [] [.obj b135 [.int .i64 gx10] 3,.obj b25 [el v3 (gx1.toNat*3)] 75,.obj b6 [.int .i64 a1,.int .i64 a3] 68,.sl v3 65 3 (zr TI.rowv q128 l127),.ss (zs TI.sds q128 l127),.os []]∧M14K13 gx10 go2 l127 gx1 a1 a3 gb11=some r) rfl en26 rfl Tryz.func26 rfl rfl rfl ?_ ?_))))))))
    ·refine sr (L.r 1 rfl (nsr (L.r 2 rfl (L.callJ (fun v D=>∃ gx12,v=.int .i64 gx12∧D=Cls w [] [.obj b135 [.int .i64 gx10] 3,.obj b25 [el v3 (gx1.toNat*3)] 75,.obj b6 [.int .i64 a1,.int .i64 a3] 68,.sl v3 65 3 (zr TI.rowv q128 l127),.ss (zs TI.sds q128 l127),.os []]∧M14K14 gx10 go2 l127 gx1 a1 a3 gx12=some r) rfl en47 rfl Tryz.func47 rfl rfl rfl ?_ ?_))))
     ·refine sr (L.r 1 rfl (ln (W.seqJ (fun gs D=>gs=[]∧D=Cls w [] [.obj b135 [.int .i64 gx10] 3,.obj b25 [el v3 (gx1.toNat*3)] 75,.obj b6 [.int .i64 a1,.int .i64 a3] 68,.sl v3 65 3 (zr TI.rowv q128 l127),.ss (zs TI.sds q128 l127),.os []]∧M14K15 gx10 go2 l127 gx1 a1 a3=some r) ?_ ?_)))
      ·refine sr (L.r 1 rfl (L.y rfl (Y.lenM (g:=TL.row) (l:=x199.Held) Tryz.underlying63 rfl (fun w hw=>As.atZ (sds:=TI.sds) (vs:=q128) (j:=0) (c:=2) (hw.get (i:=4) rfl) (fun _ _=>rfl) ex199 rfl)) (L.r 1 rfl (ln (W.block (W.loopJ (fun m gs D=>∃ gx13,gs=[(0,gv (q128 gx1.toNat) 0),(1,.func (.func 35) #[] #[pt b25 0,pt b135 0]),(7,.int .i64 (x199.Held.length:Int)),(8,.int .i64 gx13)]∧D=Cls w [] [.obj b135 [.int .i64 gx10] 3,.obj b25 [el v3 (gx1.toNat*3)] 75,.obj b6 [.int .i64 a1,.int .i64 a3] 68,.sl v3 65 3 (zr TI.rowv q128 l127),.ss (zs TI.sds q128 l127),.os []]∧M14L3 x199 gx10 go2 l127 gx1 a1 a3 m gx13=some r) ⟨0,rfl,rfl,h⟩ ⟨rfl,rfl,rfl,rfl,trivial⟩ hI ?_))))))
       rintro m _ _ ⟨gx13,rfl,rfl,h⟩
       rcases m with _ | m
       ·rw [M14L3] at h;cases h
       rw [M14L3] at h
       generalize hg3:M14L3 x199 gx10 go2 l127 gx1 a1 a3 m=go3 at h
       rw [M14L3B] at h
       refine sr (L.ite h rfl (Y.lss rfl rfl) (fun c205 h=>?_) (fun c205 h=>?_))
       ·refine ln (W.seq (W.condT rfl (W.skip (E.thenN (W.seq (W.block (sr (L.r 2 rfl (ln (W.seq ?_))))))))))
        refine W.region (L.r 3 rfl (L.m (V:=fun _=>el (gv (q128 gx1.toNat) 0) (gx13.toNat*2)) h rfl (Y.indexM (g:=TL.row) (l:=x199.Held) Tryz.underlying63 sz68 rfl rfl (fun w hw=>As.atZ (sds:=TI.sds) (vs:=q128) (j:=0) (c:=2) (hw.get (i:=4) rfl) (fun _ _=>rfl) ex199 rfl)) (fun x206 ex206 h=>(L.y rfl (Y.loadEN (r:=[.int .i64 x206.Tx,.int .i64 x206.Mode]) ag68 sz68 rfl (fun w hw=>As.atZ (sds:=TI.sds) (vs:=q128) (j:=0) (c:=2) (hw.get (i:=4) rfl) (fun _ _=>rfl) ex199 rfl) (idx_map ex206) rfl) (L.callVJ (fun v D=>∃ gb14,v=.bool gb14∧D=Cls w [] [.obj b135 [.int .i64 gx10] 3,.obj b25 [el v3 (gx1.toNat*3)] 75,.obj b6 [.int .i64 a1,.int .i64 a3] 68,.sl v3 65 3 (zr TI.rowv q128 l127),.ss (zs TI.sds q128 l127),.os []]∧M14K16 gx10 go2 l127 gx1 a1 a3 gx13 go3 gb14=some r) rfl en35 rfl rfl Tryz.func35 rfl rfl rfl ?_ ?_)))))
        ·refine sr (L.box rfl rfl ?_)
         intro b208
         refine L.r 1 rfl (ln (W.seq (W.quietC mixed (by kernel_rfl) (fun _ hw=>hw.drew) (fun hC=>(U.y rfl (Y.fieldP fd68_0 rfl) (U.y rfl (Y.loadP (i:=0) ag3 rfl rfl rfl) (U.y rfl (Y.loadP (i:=2) ag75 rfl rfl rfl) (U.r 1 rfl (U.y rfl (Y.fieldE fd65_2 rfl) (U.y rfl (Y.loadE (u:=gv (q128 gx1.toNat) 1) ag63 rfl (fun w hw=>As.at_ (hw.get (i:=4) rfl)) (zr_idx (vs:=q128) ex199) rfl) (U.y rfl (Y.loadP (i:=1) ag3 rfl rfl rfl) (U.m (V:=fun _=>el (gv (q128 gx1.toNat) 1) (gx10.toNat*2)) h rfl (Y.indexM (g:=TL.row) (l:=x199.Queue) Tryz.underlying63 sz68 rfl rfl (fun w hw=>As.atZ (sds:=TI.sds) (vs:=q128) (j:=1) (c:=2) (hw.get (i:=5) rfl) (fun _ _=>rfl) ex199 rfl)) (fun x209 ex209 h=>(U.y rfl (Y.fieldE fd68_0 rfl) ?_))))))))))))))
         exact U.y rfl (Y.loadE (u:=.int .i64 x209.Tx) ag3 rfl (fun w hw=>As.atZ (sds:=TI.sds) (vs:=q128) (j:=1) (c:=2) (hw.get (i:=5) rfl) (fun _ _=>rfl) ex199 rfl) (idx_map ex209) rfl) (U.y rfl (Y.eql rfl rfl) (U.r 1 rfl (U.nil (E.thenN (W.ret (E.ret1 rfl rfl (fun w1 hw=>(⟨_,_,rfl,⟨decide (x206.Tx=x209.Tx),rfl,rfl,h⟩,hw.s [1,2,3,4,5,6]⟩))))))))
        rintro _ _ ⟨gb14,rfl,rfl,h⟩
        rw [M14K16] at h
        rcases gb14 with _ | _
        ·replace h:=iteF h
         exact ln (W.condF rfl (W.skip (E.blockN (E.thenN (W.region (L.m (V:=fun x207=>.int .i64 x207) h rfl (Y.addM rfl rfl) (fun x207 ex207 h=>(L.r 1 rfl (L.nil (E.aJ ⟨x207,rfl,rfl,by rw [hg3];exact h⟩ hI))))))))))
        replace h:=iteT h
        refine ln (W.condT rfl (sr (L.r 2 rfl (ln (W.ret (E.blockR (E.thenR (E.KLR (E.blockR (E.KSR ?_))))))))))
        exact E.ret1 rfl rfl (fun w1 hw=>(⟨_,_,rfl,⟨gx13,rfl,rfl,h⟩,hw⟩))
       exact ln (W.seq (W.condF rfl (W.exit (E.thenX (E.KLX (E.blockX (E.joinJ ⟨rfl,rfl,h⟩ trivial hI)))))))
      rintro _ _ ⟨rfl,rfl,h⟩
      rw [M14K15] at h
      exact sr (L.r 1 rfl (ln (W.ret (E.ret1 rfl rfl (fun w1 hw=>(⟨_,_,rfl,⟨(-1),rfl,rfl,h⟩,hw⟩))))))
     rintro _ _ ⟨gx12,rfl,rfl,h⟩
     rw [M14K14] at h
     exact L.y rfl (Y.geq rfl rfl) (L.r 1 rfl (ln (W.ret (E.ret1 rfl rfl (fun w1 hw=>(⟨_,_,rfl,⟨decide (0≤gx12),rfl,rfl,h⟩,hw⟩))))))
    rintro _ _ ⟨gb11,rfl,rfl,h⟩
    rw [M14K13] at h
    rcases gb11 with _ | _
    ·replace h:=iteF h
     exact L.nil (E.toV2 (stC [] [] (Cls w [] [.obj b135 [.int .i64 gx10] 3,.obj b25 [el v3 (gx1.toNat*3)] 75,.obj b6 [.int .i64 a1,.int .i64 a3] 68,.sl v3 65 3 (zr TI.rowv q128 l127),.ss (zs TI.sds q128 l127),.os []])) 14 (by kernel_rfl) (Sc.stayD hI) (Sc.atD hI) (V2.r [15] (by kernel_rfl) rfl (V2.done (by kernel_rfl) (E.thenN (W.condF rfl (W.exit (E.thenX (E.KLX (E.blockX (E.jJ ⟨gx10,rfl,rfl,h⟩ hI))))))))))
    replace h:=iteT h
    exact L.nil (E.toV2 (stC [] [] (Cls w [] [.obj b135 [.int .i64 gx10] 3,.obj b25 [el v3 (gx1.toNat*3)] 75,.obj b6 [.int .i64 a1,.int .i64 a3] 68,.sl v3 65 3 (zr TI.rowv q128 l127),.ss (zs TI.sds q128 l127),.os []])) 14 (by kernel_rfl) (Sc.stayD hI) (Sc.atD hI) (V2.r [15] (by kernel_rfl) rfl (V2.done (by kernel_rfl) (E.thenN (W.condT rfl (W.skip (E.thenN (W.block (W.region (L.y rfl (Y.loadP (i:=0) ag3 rfl rfl rfl) (L.m (V:=fun x204=>.int .i64 x204) h rfl (Y.addM rfl rfl) (fun x204 ex204 h=>(L.store (i:=0) (vs:=[.int .i64 x204]) sz3 rfl rfl rfl rfl (by simp [Value.oneCell',Value.cells,st,pt,el]) rfl nb (L.nil (E.blockN (E.aJ ⟨x204,rfl,rfl,by rw [hg2];exact h⟩ hI))))))))))))))))
   exact V2.r [8,9,10,11,12,13,14,15] (by kernel_rfl) rfl (V2.done (by kernel_rfl) (E.thenN (W.condF rfl (W.exit (E.thenX (E.KLX (E.blockX (E.jJ ⟨gx10,rfl,rfl,h⟩ hI))))))))
  rintro _ _ ⟨gx9,rfl,rfl,h⟩
  rw [M14K12] at h
  refine W.drawn2 (k:=19) (stC [[15,18],[18]] [Cls w [] [.obj b135 [.int .i64 gx9] 3,.obj b25 [el v3 (gx1.toNat*3)] 75,.obj b6 [.int .i64 a1,.int .i64 a3] 68,.sl v3 65 3 (zr TI.rowv q128 l127),.ss (zs TI.sds q128 l127),.os []],Cls w [] [.obj b135 [.int .i64 gx9] 3,.obj b25 [el v3 (gx1.toNat*3)] 75,.obj b6 [.int .i64 a1,.int .i64 a3] 68,.sl v3 65 3 (zr TI.rowv q128 l127),.os []]] (Cls w [] [.obj b135 [.int .i64 gx9] 3,.obj b25 [el v3 (gx1.toNat*3)] 75,.obj b6 [.int .i64 a1,.int .i64 a3] 68,.os []])) rfl mixed (fun _ hw=>hw.drew) (Sc.now (by kernel_rfl) hI) (V2.zz [] (Zc.on' (Zc.on' (Zc.fin hI) (sI [0,1,2,4])) (sI [0,1,2,5])) (fun hz171=>(V2.q 0 [] hz171 rfl rfl (Y.loadP (i:=1) ag75 rfl rfl rfl) (V2.q 1 [] hz171 rfl rfl (Y.loadP (i:=1) ag75 rfl rfl rfl) (V2.r [2] (by kernel_rfl) rfl (V2.q 3 [] hz171 rfl rfl (Y.fieldE fd65_2 rfl) (V2.zz [18] (Zc.on' (Zc.at1 hI) (sI [0,1,2,3,5])) (fun hz172=>?_))))))))
  obtain ⟨x173,ex173,h⟩:=bind1S h
  refine V2.q 4 [18] hz172 rfl rfl (Y.loadE (u:=gv (q128 gx1.toNat) 1) ag63 rfl (fun w hw=>As.at_ (hw.get (i:=3) rfl)) (zr_idx (vs:=q128) ex173) rfl) (V2.q 5 [] hz171 rfl rfl (Y.loadP (i:=1) ag75 rfl rfl rfl) (V2.r [6] (by kernel_rfl) rfl (V2.q 7 [] hz171 rfl rfl (Y.fieldE fd65_2 rfl) (V2.q 8 [18] hz172 rfl rfl (Y.loadE (u:=gv (q128 gx1.toNat) 1) ag63 rfl (fun w hw=>As.at_ (hw.get (i:=3) rfl)) (zr_idx (vs:=q128) ex173) rfl) (V2.q 12 [] hz171 rfl rfl (Y.loadP (i:=0) ag3 rfl rfl rfl) (V2.q 13 [] hz171 rfl rfl (Y.loadPW (i:=2) ag68 sz68 rfl rfl rfl) (V2.eff2 (i1:=9) (i2:=14) (by kernel_rfl) rfl rfl ?_ ?_)))))))
  ·refine L.y rfl (Y.lenM (g:=TL.row) (l:=x173.Queue) Tryz.underlying63 rfl (fun w hw=>As.atZ (sds:=TI.sds) (vs:=q128) (j:=1) (c:=2) (hw.get (i:=4) rfl) (fun _ _=>rfl) ex173 rfl)) (L.nil (E.toV2 (stC [[15,18],[18]] [Cls w [] [.obj b135 [.int .i64 gx9] 3,.obj b25 [el v3 (gx1.toNat*3)] 75,.obj b6 [.int .i64 a1,.int .i64 a3] 68,.sl v3 65 3 (zr TI.rowv q128 l127),.ss (zs TI.sds q128 l127),.os []],Cls w [] [.obj b135 [.int .i64 gx9] 3,.obj b25 [el v3 (gx1.toNat*3)] 75,.obj b6 [.int .i64 a1,.int .i64 a3] 68,.sl v3 65 3 (zr TI.rowv q128 l127),.os []]] (Cls w [] [.obj b135 [.int .i64 gx9] 3,.obj b25 [el v3 (gx1.toNat*3)] 75,.obj b6 [.int .i64 a1,.int .i64 a3] 68,.os []])) 9 (by kernel_rfl) (Sc.stay hI (Sc.stay hI (Sc.stayD hI))) (Sc.now (by kernel_rfl) hI) (V2.zz [] (Zc.on' (Zc.on' (Zc.fin hI) (sI [0,1,2,4])) (sI [0,1,2,5])) (fun hz174=>(V2.m (i:=10) (V':=fun x175=>.int .i64 x175) h (Nx2.of [] (by kernel_rfl) rfl hz174) rfl rfl rfl (Y.subM rfl rfl) (fun x175 ex175 h=>(V2.zz [15,18] (Zc.at1 hI) (fun hz177=>(V2.m (i:=11) (V':=fun _=>cutv (gv (q128 gx1.toNat) 1) x175.toNat) h (Nx2.of [15,18] (by kernel_rfl) rfl hz177) rfl rfl rfl (Y.cutM (g:=TL.row) Tryz.underlying63 sz68 rfl rfl (fun w hw=>As.atZ (sds:=TI.sds) (vs:=q128) (j:=1) (c:=2) (hw.get (i:=4) rfl) (fun _ _=>rfl) ex173 rfl)) (fun l178 el178 h=>(V2.eff (i:=14) (by kernel_rfl) rfl (L.litAgg rfl Tryz.underlying63 eL68 rfl rfl rfl ?_))))))))))))
   intro b179
   refine L.nil (E.toV2 (stC [[15,18],[18]] [Cls w [] [.sl (sv b179 1) 68 2 (([(⟨a1,a3⟩:TL)]).map TL.row),.obj b135 [.int .i64 gx9] 3,.obj b25 [el v3 (gx1.toNat*3)] 75,.obj b6 [.int .i64 a1,.int .i64 a3] 68,.sl v3 65 3 (zr TI.rowv q128 l127),.ss (zs TI.sds q128 l127),.os []],Cls w [] [.sl (sv b179 1) 68 2 (([(⟨a1,a3⟩:TL)]).map TL.row),.obj b135 [.int .i64 gx9] 3,.obj b25 [el v3 (gx1.toNat*3)] 75,.obj b6 [.int .i64 a1,.int .i64 a3] 68,.sl v3 65 3 (zr TI.rowv q128 l127),.os []]] (Cls w [] [.sl (sv b179 1) 68 2 (([(⟨a1,a3⟩:TL)]).map TL.row),.obj b135 [.int .i64 gx9] 3,.obj b25 [el v3 (gx1.toNat*3)] 75,.obj b6 [.int .i64 a1,.int .i64 a3] 68,.os []])) 14 (by kernel_rfl) (Sc.stay (sI [1,2,3,4,5,6]) (Sc.stay (sI [1,2,3,4,5]) (Sc.stayD (sI [1,2,3,4])))) (Sc.now (by kernel_rfl) hI) (V2.eff (i:=15) (by kernel_rfl) rfl (L.ssOut (sds:=TI.sds) (vs:=q128) (s:=5) (j:=1) (c:=2) rfl (fun _ _=>rfl) ex173 rfl (L.cutT (i:=0) (g:=TL.row) el178 rfl (L.insRD (i:=0) (j:=1) (l:=l178) (x1:=(⟨a1,a3⟩:TL)) (a:=gx9) h wInsR36 (fun _=>rfl) rfl en36 rfl rfl rfl rfl rfl (by decide) ?_)))))
   intro v181 l180 el180 h
   refine L.nil (E.toV2 (stC [[18]] [Cls w [] [.sl v181 68 2 (l180.map TL.row),.sl (sv b179 1) 68 2 (([(⟨a1,a3⟩:TL)]).map TL.row),.obj b135 [.int .i64 gx9] 3,.obj b25 [el v3 (gx1.toNat*3)] 75,.obj b6 [.int .i64 a1,.int .i64 a3] 68,.sl v3 65 3 (zr TI.rowv q128 l127),.os []]] (Cls w [] [.sl (sv b179 1) 68 2 (([(⟨a1,a3⟩:TL)]).map TL.row),.obj b135 [.int .i64 gx9] 3,.obj b25 [el v3 (gx1.toNat*3)] 75,.obj b6 [.int .i64 a1,.int .i64 a3] 68,.os []])) 15 (by kernel_rfl) (Sc.past rfl (Sc.stay (sI [1,2,3,4,5,6]) (Sc.stayD hI))) (Sc.now (by kernel_rfl) (sI [0,1,2,3,4,5,7])) (V2.zz [] (Zc.on' (Zc.fin hI) (sI [1,2,3,4,6])) (fun hz182=>(V2.r [16] (by kernel_rfl) rfl (V2.q 17 [] hz182 rfl rfl (Y.fieldE fd65_2 rfl) (V2.eff (i:=18) (by kernel_rfl) rfl (L.storeSlZS (row:=TI.rowv) (sds:=TI.sds) (vs:=q128) (q:=5) (p:=0) (s:=6) (c:=2) (jj:=1) (u1:=(⟨x173.Item,x173.Held,l180⟩:TI)) (v1:=[gv (q128 gx1.toNat) 0,v181]) (j:=2) h sz63 rfl rfl rfl rfl rfl rfl (.inr rfl) (fun _ _=>rfl) (fun _ _=>rfl) ex173 rfl rfl rfl rfl (by decide) ?_)))))))
   intro l183 q184 el183 h
   exact L.nil (E.toV2 (stC [] [] (Cls w [] [.sl (sv b179 1) 68 2 (([(⟨a1,a3⟩:TL)]).map TL.row),.obj b135 [.int .i64 gx9] 3,.obj b25 [el v3 (gx1.toNat*3)] 75,.obj b6 [.int .i64 a1,.int .i64 a3] 68,.os []])) 18 (by kernel_rfl) (Sc.past rfl (Sc.stayD hI)) (Sc.atD (sI [0,1,2,3,6])) (V2.done (by kernel_rfl) (E.jJ ⟨l183,q184,rfl,rfl,h⟩ (sI [4,5,6]))))
  refine L.litAgg rfl Tryz.underlying63 eL68 rfl rfl rfl ?_
  intro b185
  refine L.nil (E.toV2 (stC [[15,18],[18]] [Cls w [] [.sl (sv b185 1) 68 2 (([(⟨a1,a3⟩:TL)]).map TL.row),.obj b135 [.int .i64 gx9] 3,.obj b25 [el v3 (gx1.toNat*3)] 75,.obj b6 [.int .i64 a1,.int .i64 a3] 68,.sl v3 65 3 (zr TI.rowv q128 l127),.ss (zs TI.sds q128 l127),.os []],Cls w [] [.sl (sv b185 1) 68 2 (([(⟨a1,a3⟩:TL)]).map TL.row),.obj b135 [.int .i64 gx9] 3,.obj b25 [el v3 (gx1.toNat*3)] 75,.obj b6 [.int .i64 a1,.int .i64 a3] 68,.sl v3 65 3 (zr TI.rowv q128 l127),.os []]] (Cls w [] [.sl (sv b185 1) 68 2 (([(⟨a1,a3⟩:TL)]).map TL.row),.obj b135 [.int .i64 gx9] 3,.obj b25 [el v3 (gx1.toNat*3)] 75,.obj b6 [.int .i64 a1,.int .i64 a3] 68,.os []])) 14 (by kernel_rfl) (Sc.stay (sI [1,2,3,4,5,6]) (Sc.stay (sI [1,2,3,4,5]) (Sc.stayD (sI [1,2,3,4])))) (Sc.now (by kernel_rfl) hI) (V2.eff (i:=9) (by kernel_rfl) rfl (L.y rfl (Y.lenM (g:=TL.row) (l:=x173.Queue) Tryz.underlying63 rfl (fun w hw=>As.atZ (sds:=TI.sds) (vs:=q128) (j:=1) (c:=2) (hw.get (i:=5) rfl) (fun _ _=>rfl) ex173 rfl)) (L.nil (E.toV2 (stC [[15,18],[18]] [Cls w [] [.sl (sv b185 1) 68 2 (([(⟨a1,a3⟩:TL)]).map TL.row),.obj b135 [.int .i64 gx9] 3,.obj b25 [el v3 (gx1.toNat*3)] 75,.obj b6 [.int .i64 a1,.int .i64 a3] 68,.sl v3 65 3 (zr TI.rowv q128 l127),.ss (zs TI.sds q128 l127),.os []],Cls w [] [.sl (sv b185 1) 68 2 (([(⟨a1,a3⟩:TL)]).map TL.row),.obj b135 [.int .i64 gx9] 3,.obj b25 [el v3 (gx1.toNat*3)] 75,.obj b6 [.int .i64 a1,.int .i64 a3] 68,.sl v3 65 3 (zr TI.rowv q128 l127),.os []]] (Cls w [] [.sl (sv b185 1) 68 2 (([(⟨a1,a3⟩:TL)]).map TL.row),.obj b135 [.int .i64 gx9] 3,.obj b25 [el v3 (gx1.toNat*3)] 75,.obj b6 [.int .i64 a1,.int .i64 a3] 68,.os []])) 9 (by kernel_rfl) (Sc.stay hI (Sc.stay hI (Sc.stayD hI))) (Sc.now (by kernel_rfl) hI) (V2.zz [] (Zc.on' (Zc.on' (Zc.fin hI) (sI [0,1,2,3,5])) (sI [0,1,2,3,6])) (fun hz188=>(V2.m (i:=10) (V':=fun x189=>.int .i64 x189) h (Nx2.of [] (by kernel_rfl) rfl hz188) rfl rfl rfl (Y.subM rfl rfl) (fun x189 ex189 h=>(V2.zz [15,18] (Zc.at1 hI) (fun hz191=>(V2.m (i:=11) (V':=fun _=>cutv (gv (q128 gx1.toNat) 1) x189.toNat) h (Nx2.of [15,18] (by kernel_rfl) rfl hz191) rfl rfl rfl (Y.cutM (g:=TL.row) Tryz.underlying63 sz68 rfl rfl (fun w hw=>As.atZ (sds:=TI.sds) (vs:=q128) (j:=1) (c:=2) (hw.get (i:=5) rfl) (fun _ _=>rfl) ex173 rfl)) (fun l192 el192 h=>(V2.eff (i:=15) (by kernel_rfl) rfl (L.ssOut (sds:=TI.sds) (vs:=q128) (s:=5) (j:=1) (c:=2) rfl (fun _ _=>rfl) ex173 rfl (L.cutT (i:=0) (g:=TL.row) el192 rfl (L.insRD (i:=0) (j:=1) (l:=l192) (x1:=(⟨a1,a3⟩:TL)) (a:=gx9) h wInsR36 (fun _=>rfl) rfl en36 rfl rfl rfl rfl rfl (by decide) ?_)))))))))))))))))
  intro v194 l193 el193 h
  refine L.nil (E.toV2 (stC [[18]] [Cls w [] [.sl v194 68 2 (l193.map TL.row),.sl (sv b185 1) 68 2 (([(⟨a1,a3⟩:TL)]).map TL.row),.obj b135 [.int .i64 gx9] 3,.obj b25 [el v3 (gx1.toNat*3)] 75,.obj b6 [.int .i64 a1,.int .i64 a3] 68,.sl v3 65 3 (zr TI.rowv q128 l127),.os []]] (Cls w [] [.sl (sv b185 1) 68 2 (([(⟨a1,a3⟩:TL)]).map TL.row),.obj b135 [.int .i64 gx9] 3,.obj b25 [el v3 (gx1.toNat*3)] 75,.obj b6 [.int .i64 a1,.int .i64 a3] 68,.os []])) 15 (by kernel_rfl) (Sc.past rfl (Sc.stay (sI [1,2,3,4,5,6]) (Sc.stayD hI))) (Sc.now (by kernel_rfl) (sI [0,1,2,3,4,5,7])) (V2.zz [] (Zc.on' (Zc.fin hI) (sI [1,2,3,4,6])) (fun hz195=>(V2.r [16] (by kernel_rfl) rfl (V2.q 17 [] hz195 rfl rfl (Y.fieldE fd65_2 rfl) (V2.eff (i:=18) (by kernel_rfl) rfl (L.storeSlZS (row:=TI.rowv) (sds:=TI.sds) (vs:=q128) (q:=5) (p:=0) (s:=6) (c:=2) (jj:=1) (u1:=(⟨x173.Item,x173.Held,l193⟩:TI)) (v1:=[gv (q128 gx1.toNat) 0,v194]) (j:=2) h sz63 rfl rfl rfl rfl rfl rfl (.inr rfl) (fun _ _=>rfl) (fun _ _=>rfl) ex173 rfl rfl rfl rfl (by decide) ?_)))))))
  intro l196 q197 el196 h
  exact L.nil (E.toV2 (stC [] [] (Cls w [] [.sl (sv b185 1) 68 2 (([(⟨a1,a3⟩:TL)]).map TL.row),.obj b135 [.int .i64 gx9] 3,.obj b25 [el v3 (gx1.toNat*3)] 75,.obj b6 [.int .i64 a1,.int .i64 a3] 68,.os []])) 18 (by kernel_rfl) (Sc.past rfl (Sc.stayD hI)) (Sc.atD (sI [0,1,2,3,6])) (V2.done (by kernel_rfl) (E.jJ ⟨l196,q197,rfl,rfl,h⟩ (sI [4,5,6]))))
 rintro _ _ ⟨gl7,gq8,rfl,rfl,h⟩
 rw [M14K11] at h
 refine sr (L.r 4 rfl (ln (W.ret (E.frzS (i:=1) rfl rfl rfl ?_))))
 intro c129 mo130 hf131
 refine E.frz (i:=0) rfl rfl rfl ?_
 intro c132 mo133 hf134
 refine E.ret3 rfl rfl rfl rfl (fun w1 hw=>?_)
 cases h
 exact ⟨_,_,rfl,⟨c132,rfl,v3,gq8,rfl,(hf134 K),((hf131 K).mo mo133)⟩,hw⟩
set_option maxRecDepth 100000 in
set_option maxHeartbeats 8000000 in
theorem W37 (a0:(List TI)) (u0:Value) (q0:Nat→List Value) (w:World) (r:((List TE)×Int)) (h:M37 a0=some r) (hA0:At w u0 3 (zr TI.rowv q0 a0)) (hD0:∀ d∈zs TI.sds q0 a0,At w d.v d.k d.rows):Does Tryz.prog 37 [u0] w fun u m=>∃ v0,u=.tuple #[v0,.int .i64 r.2]∧m=[.sl v0 90 2 (r.1.map TE.row)]:=by
 rw [M37] at h
 refine body (n:=115) Tryz.func37 rfl rfl rfl (Cls.refl w) (sr (L.r 2 rfl (ln (W.seqJ (fun gs D=>gs=[(0,u0)]∧D=Cls w [] []∧M37K1 a0=some r) ?_ ?_))))
 ·refine sr (L.r 1 rfl ?_)
  obtain ⟨x73,e74,h⟩:=bind1S h
  refine L.y rfl (Y.does en24 rfl (fun w' hw=>(W24 a0 u0 q0 w' _ e74 (hA0.cls0 hw) (fun d hd=>(hD0 d hd).cls0 hw)).mono (fun _ _ h=>h.1))) (L.r 1 rfl (nsr (L.r 1 rfl (L.ite h rfl (Y.neq rfl rfl) (fun c75 h=>?_) (fun c75 h=>?_)))))
  ·refine ln (W.condT rfl (sr (L.r 3 rfl (ln (W.ret (E.KSR (E.ret2 rfl rfl rfl (fun w1 hw=>?_))))))))
   cases h
   exact ⟨_,_,rfl,⟨_,rfl,rfl⟩,(hw.nilSl 90 2)⟩
  exact ln (W.condF rfl (W.skip (E.jJ ⟨rfl,rfl,h⟩ hI)))
 rintro _ _ ⟨rfl,rfl,h⟩
 rw [M37K1] at h
 refine sr (L.alloc rfl ze109 ?_)
 intro b1
 refine L.to (D:=Cls w [] [.obj b1 (((List.replicate 144 (false:Bool)).map B).flatten) 109]) (fun _ hw=>by first | exact hw | simpa [I,B,SR] using hw) (ln (W.seqJ (fun gs D=>∃ gl1,gs=[(5,pt b1 0)]∧D=Cls w [] [.obj b1 ((gl1.map B).flatten) 109]∧M37K2 gl1=some r) ?_ ?_))
 ·refine sr (L.r 1 rfl (L.y rfl (Y.lenMZ (row:=TI.rowv) (vs:=q0) (l:=a0) Tryz.underlying34 rfl (fun w' hw=>hA0.cls0 hw)) (L.r 1 rfl (ln (W.block (W.loopJ (fun m gs D=>∃ gx12 gl13,gs=[(5,pt b1 0),(23,u0),(24,.int .i64 (a0.length:Int)),(25,.int .i64 gx12)]∧D=Cls w [] [.obj b1 ((gl13.map B).flatten) 109]∧M37L3 a0 m gx12 gl13=some r) ⟨0,(List.replicate 144 (false:Bool)),rfl,rfl,h⟩ ⟨rfl,rfl,rfl,rfl,trivial⟩ hI ?_))))))
  rintro m _ _ ⟨gx12,gl13,rfl,rfl,h⟩
  rcases m with _ | m
  ·rw [M37L3] at h;cases h
  rw [M37L3] at h
  generalize hg3:M37L3 a0 m=go3 at h
  rw [M37L3B] at h
  refine sr (L.ite h rfl (Y.lss rfl rfl) (fun c13 h=>?_) (fun c13 h=>?_))
  ·refine ln (W.seq (W.condT rfl (W.skip (E.thenN (W.seqJ (fun gs D=>∃ gl14,gs=[(5,pt b1 0),(23,u0),(24,.int .i64 (a0.length:Int)),(25,.int .i64 gx12)]∧D=Cls w [] [.obj b1 ((gl14.map B).flatten) 109]∧M37K5 gx12 go3 gl14=some r) ?_ ?_)))))
   ·refine W.block (sr (L.m (V:=fun _=>el u0 (gx12.toNat*3)) h rfl (Y.indexMZ (row:=TI.rowv) (vs:=q0) (l:=a0) Tryz.underlying34 sz65 rfl rfl (fun w' hw=>hA0.cls0 hw)) (fun x15 ex15 h=>(L.y rfl (Y.loadEN (r:=[.int .i64 x15.Item,gv (q0 gx12.toNat) 0,gv (q0 gx12.toNat) 1]) ag65 sz65 rfl (fun w' hw=>hA0.cls0 hw) (zr_idx (vs:=q0) ex15) rfl) (L.alloc rfl ze65 ?_)))))
    intro b16
    refine L.storeC (i:=0) sz65 rfl rfl rfl rfl (fun w hw=>(all1 rfl (all1 ((zAt (sds:=TI.sds) (vs:=q0) (j:=0) (c:=2) hD0 (fun _ _=>rfl) ex15 rfl).cls0 hw).one (all1 ((zAt (sds:=TI.sds) (vs:=q0) (j:=1) (c:=2) hD0 (fun _ _=>rfl) ex15 rfl).cls0 hw).one all0)))) rfl nb (nsr (L.y rfl (Y.fieldP fd65_2 rfl) (L.y rfl (Y.loadP (i:=0) ag63 rfl rfl rfl) (L.y rfl (Y.lenM (g:=TL.row) (l:=x15.Queue) Tryz.underlying63 rfl (fun w' hw=>(zAt (sds:=TI.sds) (vs:=q0) (j:=1) (c:=2) hD0 (fun _ _=>rfl) ex15 rfl).cls0 hw)) (L.r 1 rfl (ln (W.block (W.loopJ (fun m gs D=>∃ gx15 gl16,gs=[(5,pt b1 0),(7,pt b16 0),(23,u0),(24,.int .i64 (a0.length:Int)),(25,.int .i64 gx12),(30,gv (q0 gx12.toNat) 1),(31,.int .i64 (x15.Queue.length:Int)),(32,.int .i64 gx15)]∧D=Cls w [] [.obj b16 [.int .i64 x15.Item,gv (q0 gx12.toNat) 0,gv (q0 gx12.toNat) 1] 65,.obj b1 ((gl16.map B).flatten) 109]∧M37L4 x15 gx12 go3 m gx15 gl16=some r) ⟨0,gl13,rfl,rfl,h⟩ ⟨rfl,rfl,rfl,rfl,rfl,rfl,rfl,rfl,trivial⟩ hI ?_))))))))
    rintro m _ _ ⟨gx15,gl16,rfl,rfl,h⟩
    rcases m with _ | m
    ·rw [M37L4] at h;cases h
    rw [M37L4] at h
    generalize hg4:M37L4 x15 gx12 go3 m=go4 at h
    rw [M37L4B] at h
    refine sr (L.ite h rfl (Y.lss rfl rfl) (fun c17 h=>?_) (fun c17 h=>?_))
    ·refine ln (W.seq (W.condT rfl (W.skip (E.thenN (W.seqJ (fun gs D=>∃ gl17,gs=[(5,pt b1 0),(7,pt b16 0),(23,u0),(24,.int .i64 (a0.length:Int)),(25,.int .i64 gx12),(30,gv (q0 gx12.toNat) 1),(31,.int .i64 (x15.Queue.length:Int)),(32,.int .i64 gx15)]∧D=Cls w [] [.obj b16 [.int .i64 x15.Item,gv (q0 gx12.toNat) 0,gv (q0 gx12.toNat) 1] 65,.obj b1 ((gl17.map B).flatten) 109]∧M37K6 gx15 go4 gl17=some r) ?_ ?_)))))
     ·refine W.block (sr (L.r 1 rfl (L.m (V:=fun _=>el (gv (q0 gx12.toNat) 1) (gx15.toNat*2)) h rfl (Y.indexM (g:=TL.row) (l:=x15.Queue) Tryz.underlying63 sz68 rfl rfl (fun w' hw=>(zAt (sds:=TI.sds) (vs:=q0) (j:=1) (c:=2) hD0 (fun _ _=>rfl) ex15 rfl).cls0 hw)) (fun x19 ex19 h=>(L.y rfl (Y.loadEN (r:=[.int .i64 x19.Tx,.int .i64 x19.Mode]) ag68 sz68 rfl (fun w' hw=>(zAt (sds:=TI.sds) (vs:=q0) (j:=1) (c:=2) hD0 (fun _ _=>rfl) ex15 rfl).cls0 hw) (idx_map ex19) rfl) (L.alloc rfl ze68 ?_))))))
      intro b20
      refine L.r 1 rfl (L.store (i:=0) (vs:=[.int .i64 x19.Tx,.int .i64 x19.Mode]) sz68 rfl rfl rfl rfl (by simp [Value.oneCell',Value.cells,st,pt,el]) rfl nb (nsr (L.y rfl (Y.loadPW (i:=1) ag65 sz65 rfl rfl rfl) (L.y rfl (Y.loadPW (i:=0) ag68 sz68 rfl rfl rfl) ?_))))
      obtain ⟨x21,e22,h⟩:=bind1S h
      refine L.y rfl (Y.does en57 rfl (fun w' hw=>(W57 x15 x19 (gv (q0 gx12.toNat) 0) (gv (q0 gx12.toNat) 1) w' _ e22 ((zAt (sds:=TI.sds) (vs:=q0) (j:=0) (c:=2) hD0 (fun _ _=>rfl) ex15 rfl).cls0 hw) ((zAt (sds:=TI.sds) (vs:=q0) (j:=1) (c:=2) hD0 (fun _ _=>rfl) ex15 rfl).cls0 hw)).mono (fun _ _ h=>h.1))) (L.r 1 rfl (ln (W.seqJ (fun gs D=>∃ gl18,gs=[(5,pt b1 0),(7,pt b16 0),(8,.int .i64 gx15),(9,pt b20 0),(23,u0),(24,.int .i64 (a0.length:Int)),(25,.int .i64 gx12),(30,gv (q0 gx12.toNat) 1),(31,.int .i64 (x15.Queue.length:Int)),(32,.int .i64 gx15)]∧D=Cls w [] [.obj b20 [.int .i64 x19.Tx,.int .i64 x19.Mode] 68,.obj b16 [.int .i64 x15.Item,gv (q0 gx12.toNat) 0,gv (q0 gx12.toNat) 1] 65,.obj b1 ((gl18.map B).flatten) 109]∧M37K7 x15 gx15 x19 go4 gl18=some r) ?_ ?_)))
      ·refine sr (L.y rfl (Y.fieldP fd65_1 rfl) (L.y rfl (Y.loadP (i:=1) ag63 rfl rfl rfl) (L.y rfl (Y.lenM (g:=TL.row) (l:=x15.Held) Tryz.underlying63 rfl (fun w' hw=>(zAt (sds:=TI.sds) (vs:=q0) (j:=0) (c:=2) hD0 (fun _ _=>rfl) ex15 rfl).cls0 hw)) (L.r 1 rfl (ln (W.block (W.loopJ (fun m gs D=>∃ gx21 gl22,gs=[(5,pt b1 0),(7,pt b16 0),(8,.int .i64 gx15),(9,pt b20 0),(10,.int .i64 x21),(23,u0),(24,.int .i64 (a0.length:Int)),(25,.int .i64 gx12),(30,gv (q0 gx12.toNat) 1),(31,.int .i64 (x15.Queue.length:Int)),(32,.int .i64 gx15),(41,gv (q0 gx12.toNat) 0),(42,.int .i64 (x15.Held.length:Int)),(43,.int .i64 gx21)]∧D=Cls w [] [.obj b20 [.int .i64 x19.Tx,.int .i64 x19.Mode] 68,.obj b16 [.int .i64 x15.Item,gv (q0 gx12.toNat) 0,gv (q0 gx12.toNat) 1] 65,.obj b1 ((gl22.map B).flatten) 109]∧M37L6 x15 x19 x21 gx15 go4 m gx21 gl22=some r) ⟨0,gl16,rfl,rfl,h⟩ ⟨rfl,rfl,rfl,rfl,rfl,rfl,rfl,rfl,rfl,rfl,rfl,rfl,rfl,rfl,trivial⟩ hI ?_)))))))
       rintro m _ _ ⟨gx21,gl22,rfl,rfl,h⟩
       rcases m with _ | m
       ·rw [M37L6] at h;cases h
       rw [M37L6] at h
       generalize hg6:M37L6 x15 x19 x21 gx15 go4 m=go6 at h
       rw [M37L6B] at h
       refine sr (L.ite h rfl (Y.lss rfl rfl) (fun c37 h=>?_) (fun c37 h=>?_))
       ·refine ln (W.seq (W.condT rfl (W.skip (E.thenN (W.seq (W.block (sr (L.m (V:=fun _=>el (gv (q0 gx12.toNat) 0) (gx21.toNat*2)) h rfl (Y.indexM (g:=TL.row) (l:=x15.Held) Tryz.underlying63 sz68 rfl rfl (fun w' hw=>(zAt (sds:=TI.sds) (vs:=q0) (j:=0) (c:=2) hD0 (fun _ _=>rfl) ex15 rfl).cls0 hw)) (fun x38 ex38 h=>(L.y rfl (Y.loadEN (r:=[.int .i64 x38.Tx,.int .i64 x38.Mode]) ag68 sz68 rfl (fun w' hw=>(zAt (sds:=TI.sds) (vs:=q0) (j:=0) (c:=2) hD0 (fun _ _=>rfl) ex15 rfl).cls0 hw) (idx_map ex38) rfl) (L.alloc rfl ze68 ?_)))))))))))
        intro b39
        refine L.store (i:=0) (vs:=[.int .i64 x38.Tx,.int .i64 x38.Mode]) sz68 rfl rfl rfl rfl (by simp [Value.oneCell',Value.cells,st,pt,el]) rfl nb (ln (W.drawn2 (k:=30) (stC [[29]] [Cls w [] [.obj b39 [.int .i64 x38.Tx,.int .i64 x38.Mode] 68,.obj b20 [.int .i64 x19.Tx,.int .i64 x19.Mode] 68,.obj b16 [.int .i64 x15.Item,gv (q0 gx12.toNat) 0,gv (q0 gx12.toNat) 1] 65,.obj b1 ((gl22.map B).flatten) 109]] (Cls w [] [.obj b39 [.int .i64 x38.Tx,.int .i64 x38.Mode] 68,.obj b20 [.int .i64 x19.Tx,.int .i64 x19.Mode] 68,.obj b16 [.int .i64 x15.Item,gv (q0 gx12.toNat) 0,gv (q0 gx12.toNat) 1] 65])) rfl mixed (fun _ hw=>hw.drew) (Sc.now (by kernel_rfl) hI) (V2.zz [] (Zc.on' (Zc.fin hI) (sI [0,1,2])) (fun hz47=>(V2.q 0 [] hz47 rfl rfl (Y.fieldP fd68_0 rfl) (V2.q 1 [] hz47 rfl rfl (Y.loadP (i:=1) ag3 rfl rfl rfl) (V2.q 2 [] hz47 rfl rfl (Y.fieldP fd68_0 rfl) (V2.q 3 [] hz47 rfl rfl (Y.loadP (i:=0) ag3 rfl rfl rfl) (V2.q 4 [] hz47 rfl rfl (Y.fieldP fd68_0 rfl) (V2.q 5 [] hz47 rfl rfl (Y.loadP (i:=1) ag3 rfl rfl rfl) (V2.q 6 [] hz47 rfl rfl (Y.fieldP fd68_0 rfl) (V2.q 7 [] hz47 rfl rfl (Y.loadP (i:=0) ag3 rfl rfl rfl) (V2.m (i:=8) (V':=fun _=>pt b1 (0+x19.Tx.toNat*12)) h (Nx2.of [] (by kernel_rfl) rfl hz47) rfl rfl rfl (Y.indexR Tryz.underlying109 sz36 rfl rfl) (fun x48 ex48 h=>?_))))))))))))))
        refine V2.m (i:=9) (V':=fun _=>pt b1 (0+(x19.Tx*(12:Nat)+x38.Tx).toNat*1)) h (Nx2.of [] (by kernel_rfl) rfl hz47) rfl rfl rfl (Y.index2R (a:=x19.Tx) Tryz.underlying36 sz4 rfl rfl (rng_some ex48)) (fun x49 ex49 h=>(V2.zz [29] (Zc.at1 hI) (fun hz50=>?_)))
        obtain ⟨x51,ex51,h⟩:=bind1S h
        refine V2.iteB (i:=10) h (Nx2.of [29] (by kernel_rfl) rfl hz50) rfl rfl rfl (Y.loadAr (q:=3) (row:=B) (j:=0) (p:=.bool x51) ag4 rfl rfl rfl (fun _=>rfl) ex51 rfl) (fun c52 h=>?_) (fun c52 h=>?_)
        ·refine V2.r [11,12,13,14,15,16,17,18,19,20,21,22,23,24,25,26] (by kernel_rfl) rfl (V2.m (i:=27) (V':=fun _=>pt b1 (0+x19.Tx.toNat*12)) h (Nx2.of [] (by kernel_rfl) rfl hz47) rfl rfl rfl (Y.indexR Tryz.underlying109 sz36 rfl rfl) (fun x53 ex53 h=>(V2.m (i:=28) (V':=fun _=>pt b1 (0+(x19.Tx*(12:Nat)+x38.Tx).toNat*1)) h (Nx2.of [] (by kernel_rfl) rfl hz47) rfl rfl rfl (Y.index2R (a:=x19.Tx) Tryz.underlying36 sz4 rfl rfl (rng_some ex53)) (fun x54 ex54 h=>(V2.eff (i:=29) (by kernel_rfl) rfl ?_)))))
         obtain ⟨x55,ex55,h⟩:=bind1S h
         refine L.storeArM (q:=3) (row:=B) (vs:=[.bool true]) (j:=0) (u1:=true) h sz4 rfl rfl rfl rfl rfl (all1 rfl all0) rfl (fun _=>rfl) ex55 rfl rfl ?_
         intro l56 el56 h
         exact L.nil (E.toV2 (stC [] [] (Cls w [] [.obj b39 [.int .i64 x38.Tx,.int .i64 x38.Mode] 68,.obj b20 [.int .i64 x19.Tx,.int .i64 x19.Mode] 68,.obj b16 [.int .i64 x15.Item,gv (q0 gx12.toNat) 0,gv (q0 gx12.toNat) 1] 65])) 29 (by kernel_rfl) (Sc.past rfl (Sc.stayD hI)) (Sc.atD (sI [0,1,2])) (V2.done (by kernel_rfl) (E.blockN (E.thenN (W.region (L.m (V:=fun x57=>.int .i64 x57) h rfl (Y.addM rfl rfl) (fun x57 ex57 h=>(L.r 1 rfl (L.nil (E.aJ ⟨x57,l56,rfl,rfl,by rw [hg6];exact h⟩ (sI [1,2,3])))))))))))
        refine V2.r [11] (by kernel_rfl) rfl (V2.q 12 [] hz47 rfl rfl (Y.fieldP fd68_0 rfl) (V2.q 13 [] hz47 rfl rfl (Y.loadP (i:=0) ag3 rfl rfl rfl) (V2.q 14 [] hz47 rfl rfl (Y.fieldP fd68_0 rfl) (V2.q 15 [] hz47 rfl rfl (Y.loadP (i:=1) ag3 rfl rfl rfl) (V2.ite (i:=16) h (Nx2.of [] (by kernel_rfl) rfl hz47) rfl rfl rfl (Y.neq rfl rfl) (fun c58 h=>?_) (fun c58 h=>?_))))))
        ·refine V2.r [17,18] (by kernel_rfl) rfl (V2.q 20 [] hz47 rfl rfl (Y.fieldP fd68_1 rfl) (V2.q 21 [] hz47 rfl rfl (Y.loadP (i:=0) ag3 rfl rfl rfl) (V2.m (i:=27) (V':=fun _=>pt b1 (0+x19.Tx.toNat*12)) h (Nx2.of [] (by kernel_rfl) rfl hz47) rfl rfl rfl (Y.indexR Tryz.underlying109 sz36 rfl rfl) (fun x59 ex59 h=>(V2.eff (i:=19) (by kernel_rfl) rfl (L.take rfl ?_))))))
         obtain ⟨x60,e61,h⟩:=bind1S h
         refine L.y rfl (Y.does en59 rfl (fun w' hw=>(W59 x21 w' _ e61).mono (fun _ _ h=>h.1))) (L.nil (E.toV2 (stC [[29]] [Cls w [] [.obj b39 [.int .i64 x38.Tx,.int .i64 x38.Mode] 68,.obj b20 [.int .i64 x19.Tx,.int .i64 x19.Mode] 68,.obj b16 [.int .i64 x15.Item,gv (q0 gx12.toNat) 0,gv (q0 gx12.toNat) 1] 65,.obj b1 ((gl22.map B).flatten) 109]] (Cls w [] [.obj b39 [.int .i64 x38.Tx,.int .i64 x38.Mode] 68,.obj b20 [.int .i64 x19.Tx,.int .i64 x19.Mode] 68,.obj b16 [.int .i64 x15.Item,gv (q0 gx12.toNat) 0,gv (q0 gx12.toNat) 1] 65])) 19 (by kernel_rfl) (Sc.stay hI (Sc.stayD hI)) (Sc.now (by kernel_rfl) hI) (V2.zz [] (Zc.on' (Zc.fin hI) (sI [0,1,2])) (fun hz62=>(V2.m (i:=22) (V':=fun x63=>.int .i64 x63) h (Nx2.of [] (by kernel_rfl) rfl hz62) rfl rfl rfl (Y.shrM rfl rfl) (fun x63 ex63 h=>(V2.q 23 [] hz62 rfl rfl (Y.and rfl rfl) (V2.q 24 [] hz62 rfl rfl (Y.eql rfl rfl) (V2.r [25,26] (by kernel_rfl) rfl (V2.m (i:=28) (V':=fun _=>pt b1 (0+(x19.Tx*(12:Nat)+x38.Tx).toNat*1)) h (Nx2.of [] (by kernel_rfl) rfl hz62) rfl rfl rfl (Y.index2R (a:=x19.Tx) Tryz.underlying36 sz4 rfl rfl (rng_some ex59)) (fun x64 ex64 h=>(V2.eff (i:=29) (by kernel_rfl) rfl ?_))))))))))))
         obtain ⟨x65,ex65,h⟩:=bind1S h
         refine L.storeArM (q:=3) (row:=B) (vs:=[.bool (decide ((Go.bits .and .i64 x63 1)=0))]) (j:=0) (u1:=decide ((Go.bits .and .i64 x63 1)=0)) h sz4 rfl rfl rfl rfl rfl (all1 rfl all0) rfl (fun _=>rfl) ex65 rfl rfl ?_
         intro l66 el66 h
         exact L.nil (E.toV2 (stC [] [] (Cls w [] [.obj b39 [.int .i64 x38.Tx,.int .i64 x38.Mode] 68,.obj b20 [.int .i64 x19.Tx,.int .i64 x19.Mode] 68,.obj b16 [.int .i64 x15.Item,gv (q0 gx12.toNat) 0,gv (q0 gx12.toNat) 1] 65])) 29 (by kernel_rfl) (Sc.past rfl (Sc.stayD hI)) (Sc.atD (sI [0,1,2])) (V2.done (by kernel_rfl) (E.blockN (E.thenN (W.region (L.m (V:=fun x67=>.int .i64 x67) h rfl (Y.addM rfl rfl) (fun x67 ex67 h=>(L.r 1 rfl (L.nil (E.aJ ⟨x67,l66,rfl,rfl,by rw [hg6];exact h⟩ (sI [1,2,3])))))))))))
        refine V2.r [17,18,19,20,21,22,23,24,25,26] (by kernel_rfl) rfl (V2.m (i:=27) (V':=fun _=>pt b1 (0+x19.Tx.toNat*12)) h (Nx2.of [] (by kernel_rfl) rfl hz47) rfl rfl rfl (Y.indexR Tryz.underlying109 sz36 rfl rfl) (fun x68 ex68 h=>(V2.m (i:=28) (V':=fun _=>pt b1 (0+(x19.Tx*(12:Nat)+x38.Tx).toNat*1)) h (Nx2.of [] (by kernel_rfl) rfl hz47) rfl rfl rfl (Y.index2R (a:=x19.Tx) Tryz.underlying36 sz4 rfl rfl (rng_some ex68)) (fun x69 ex69 h=>(V2.eff (i:=29) (by kernel_rfl) rfl ?_)))))
        obtain ⟨x70,ex70,h⟩:=bind1S h
        refine L.storeArM (q:=3) (row:=B) (vs:=[.bool false]) (j:=0) (u1:=false) h sz4 rfl rfl rfl rfl rfl (all1 rfl all0) rfl (fun _=>rfl) ex70 rfl rfl ?_
        intro l71 el71 h
        exact L.nil (E.toV2 (stC [] [] (Cls w [] [.obj b39 [.int .i64 x38.Tx,.int .i64 x38.Mode] 68,.obj b20 [.int .i64 x19.Tx,.int .i64 x19.Mode] 68,.obj b16 [.int .i64 x15.Item,gv (q0 gx12.toNat) 0,gv (q0 gx12.toNat) 1] 65])) 29 (by kernel_rfl) (Sc.past rfl (Sc.stayD hI)) (Sc.atD (sI [0,1,2])) (V2.done (by kernel_rfl) (E.blockN (E.thenN (W.region (L.m (V:=fun x72=>.int .i64 x72) h rfl (Y.addM rfl rfl) (fun x72 ex72 h=>(L.r 1 rfl (L.nil (E.aJ ⟨x72,l71,rfl,rfl,by rw [hg6];exact h⟩ (sI [1,2,3])))))))))))
       exact ln (W.seq (W.condF rfl (W.exit (E.thenX (E.KLX (E.blockX (E.jJ ⟨gl22,rfl,rfl,h⟩ hI)))))))
      rintro _ _ ⟨gl18,rfl,rfl,h⟩
      rw [M37K7] at h
      refine sr (L.y rfl (Y.fieldP fd65_2 rfl) (L.y rfl (Y.loadP (i:=1) ag63 rfl rfl rfl) (L.r 1 rfl (L.m (V:=fun _=>cutv (gv (q0 gx12.toNat) 1) gx15.toNat) h rfl (Y.cutM (g:=TL.row) Tryz.underlying63 sz68 rfl rfl (fun w' hw=>(zAt (sds:=TI.sds) (vs:=q0) (j:=1) (c:=2) hD0 (fun _ _=>rfl) ex15 rfl).cls0 hw)) (fun l23 el23 h=>(L.y rfl (Y.lenM (g:=TL.row) (l:=l23) Tryz.underlying63 rfl (fun w' hw=>((zAt (sds:=TI.sds) (vs:=q0) (j:=1) (c:=2) hD0 (fun _ _=>rfl) ex15 rfl).cutM el23).cls0 hw)) (L.r 1 rfl (ln (W.block (W.loopJ (fun m gs D=>∃ gx19 gl20,gs=[(5,pt b1 0),(7,pt b16 0),(9,pt b20 0),(23,u0),(24,.int .i64 (a0.length:Int)),(25,.int .i64 gx12),(30,gv (q0 gx12.toNat) 1),(31,.int .i64 (x15.Queue.length:Int)),(32,.int .i64 gx15),(80,cutv (gv (q0 gx12.toNat) 1) gx15.toNat),(81,.int .i64 (l23.length:Int)),(82,.int .i64 gx19)]∧D=Cls w [] [.obj b20 [.int .i64 x19.Tx,.int .i64 x19.Mode] 68,.obj b16 [.int .i64 x15.Item,gv (q0 gx12.toNat) 0,gv (q0 gx12.toNat) 1] 65,.obj b1 ((gl20.map B).flatten) 109]∧M37L5 l23 x19 gx15 go4 m gx19 gl20=some r) ⟨0,gl18,rfl,rfl,h⟩ ⟨rfl,rfl,rfl,rfl,rfl,rfl,rfl,rfl,rfl,rfl,rfl,rfl,trivial⟩ hI ?_))))))))))
      rintro m _ _ ⟨gx19,gl20,rfl,rfl,h⟩
      rcases m with _ | m
      ·rw [M37L5] at h;cases h
      rw [M37L5] at h
      generalize hg5:M37L5 l23 x19 gx15 go4 m=go5 at h
      rw [M37L5B] at h
      refine sr (L.ite h rfl (Y.lss rfl rfl) (fun c24 h=>?_) (fun c24 h=>?_))
      ·refine ln (W.seq (W.condT rfl (W.skip (E.thenN (W.seq (W.block (sr (L.m (V:=fun _=>el (cutv (gv (q0 gx12.toNat) 1) gx15.toNat) (gx19.toNat*2)) h rfl (Y.indexM (g:=TL.row) (l:=l23) Tryz.underlying63 sz68 rfl rfl (fun w' hw=>((zAt (sds:=TI.sds) (vs:=q0) (j:=1) (c:=2) hD0 (fun _ _=>rfl) ex15 rfl).cutM el23).cls0 hw)) (fun x25 ex25 h=>(L.y rfl (Y.loadEN (r:=[.int .i64 x25.Tx,.int .i64 x25.Mode]) ag68 sz68 rfl (fun w' hw=>((zAt (sds:=TI.sds) (vs:=q0) (j:=1) (c:=2) hD0 (fun _ _=>rfl) ex15 rfl).cutM el23).cls0 hw) (idx_map ex25) rfl) (L.alloc rfl ze68 ?_)))))))))))
       intro b26
       refine L.store (i:=0) (vs:=[.int .i64 x25.Tx,.int .i64 x25.Mode]) sz68 rfl rfl rfl rfl (by simp [Value.oneCell',Value.cells,st,pt,el]) rfl nb (ln (W.drawn2 (k:=7) (stC [[6]] [Cls w [] [.obj b26 [.int .i64 x25.Tx,.int .i64 x25.Mode] 68,.obj b20 [.int .i64 x19.Tx,.int .i64 x19.Mode] 68,.obj b16 [.int .i64 x15.Item,gv (q0 gx12.toNat) 0,gv (q0 gx12.toNat) 1] 65,.obj b1 ((gl20.map B).flatten) 109]] (Cls w [] [.obj b26 [.int .i64 x25.Tx,.int .i64 x25.Mode] 68,.obj b20 [.int .i64 x19.Tx,.int .i64 x19.Mode] 68,.obj b16 [.int .i64 x15.Item,gv (q0 gx12.toNat) 0,gv (q0 gx12.toNat) 1] 65])) rfl mixed (fun _ hw=>hw.drew) (Sc.now (by kernel_rfl) hI) (V2.zz [] (Zc.on' (Zc.fin hI) (sI [0,1,2])) (fun hz31=>(V2.q 0 [] hz31 rfl rfl (Y.fieldP fd68_0 rfl) (V2.q 1 [] hz31 rfl rfl (Y.loadP (i:=1) ag3 rfl rfl rfl) (V2.q 2 [] hz31 rfl rfl (Y.fieldP fd68_0 rfl) (V2.q 3 [] hz31 rfl rfl (Y.loadP (i:=0) ag3 rfl rfl rfl) (V2.m (i:=4) (V':=fun _=>pt b1 (0+x19.Tx.toNat*12)) h (Nx2.of [] (by kernel_rfl) rfl hz31) rfl rfl rfl (Y.indexR Tryz.underlying109 sz36 rfl rfl) (fun x32 ex32 h=>(V2.m (i:=5) (V':=fun _=>pt b1 (0+(x19.Tx*(12:Nat)+x25.Tx).toNat*1)) h (Nx2.of [] (by kernel_rfl) rfl hz31) rfl rfl rfl (Y.index2R (a:=x19.Tx) Tryz.underlying36 sz4 rfl rfl (rng_some ex32)) (fun x33 ex33 h=>(V2.eff (i:=6) (by kernel_rfl) rfl ?_)))))))))))))
       obtain ⟨x34,ex34,h⟩:=bind1S h
       refine L.storeArM (q:=3) (row:=B) (vs:=[.bool true]) (j:=0) (u1:=true) h sz4 rfl rfl rfl rfl rfl (all1 rfl all0) rfl (fun _=>rfl) ex34 rfl rfl ?_
       intro l35 el35 h
       exact L.nil (E.toV2 (stC [] [] (Cls w [] [.obj b26 [.int .i64 x25.Tx,.int .i64 x25.Mode] 68,.obj b20 [.int .i64 x19.Tx,.int .i64 x19.Mode] 68,.obj b16 [.int .i64 x15.Item,gv (q0 gx12.toNat) 0,gv (q0 gx12.toNat) 1] 65])) 6 (by kernel_rfl) (Sc.past rfl (Sc.stayD hI)) (Sc.atD (sI [0,1,2])) (V2.done (by kernel_rfl) (E.blockN (E.thenN (W.region (L.m (V:=fun x36=>.int .i64 x36) h rfl (Y.addM rfl rfl) (fun x36 ex36 h=>(L.r 1 rfl (L.nil (E.aJ ⟨x36,l35,rfl,rfl,by rw [hg5];exact h⟩ (sI [1,2,3])))))))))))
      exact ln (W.seq (W.condF rfl (W.exit (E.thenX (E.KLX (E.blockX (E.blockN (E.jJ ⟨gl20,rfl,rfl,h⟩ (sI [1,2])))))))))
     rintro _ _ ⟨gl17,rfl,rfl,h⟩
     rw [M37K6] at h
     exact W.region (L.m (V:=fun x18=>.int .i64 x18) h rfl (Y.addM rfl rfl) (fun x18 ex18 h=>(L.r 1 rfl (L.nil (E.aJ ⟨x18,gl17,rfl,rfl,by rw [hg4];exact h⟩ hI)))))
    exact ln (W.seq (W.condF rfl (W.exit (E.thenX (E.KLX (E.blockX (E.blockN (E.jJ ⟨gl16,rfl,rfl,h⟩ (sI [1])))))))))
   rintro _ _ ⟨gl14,rfl,rfl,h⟩
   rw [M37K5] at h
   exact W.region (L.m (V:=fun x14=>.int .i64 x14) h rfl (Y.addM rfl rfl) (fun x14 ex14 h=>(L.r 1 rfl (L.nil (E.aJ ⟨x14,gl14,rfl,rfl,by rw [hg3];exact h⟩ hI)))))
  exact ln (W.seq (W.condF rfl (W.exit (E.thenX (E.KLX (E.blockX (E.jJ ⟨gl13,rfl,rfl,h⟩ hI)))))))
 rintro _ _ ⟨gl1,rfl,rfl,h⟩
 rw [M37K2] at h
 refine sr (L.r 1 rfl (ln (W.seqJ (fun gs D=>∃ gv2 gl3,gs=[(15,gv2)]∧D=Cls w [] [.sl gv2 90 2 (gl3.map TE.row)]∧M37K3 gl3=some r) ?_ ?_)))
 ·refine sr (L.r 1 rfl (ln (W.block (W.nilSl 90 2 (W.loopJ (fun m gs D=>∃ gv4 gl5 gx6,gs=[(5,pt b1 0),(15,gv4),(95,.int .i64 gx6)]∧D=Cls w [] [.obj b1 ((gl1.map B).flatten) 109,.sl gv4 90 2 (gl5.map TE.row)]∧M37L1 gl1 m gl5 gx6=some r) ⟨.slice none 0 0,[],0,rfl,rfl,h⟩ ⟨rfl,rfl,rfl,trivial⟩ (sI [1,0]) ?_)))))
  rintro m _ _ ⟨gv4,gl5,gx6,rfl,rfl,h⟩
  rcases m with _ | m
  ·rw [M37L1] at h;cases h
  rw [M37L1] at h
  generalize hg1:M37L1 gl1 m=go1 at h
  rw [M37L1B] at h
  refine sr (L.ite h rfl (Y.lss rfl rfl) (fun c2 h=>?_) (fun c2 h=>?_))
  ·refine ln (W.seq (W.condT rfl (W.skip (E.thenN (W.seqJ (fun gs D=>∃ gv7 gl8,gs=[(5,pt b1 0),(15,gv7),(95,.int .i64 gx6)]∧D=Cls w [] [.obj b1 ((gl1.map B).flatten) 109,.sl gv7 90 2 (gl8.map TE.row)]∧M37K4 gx6 go1 gl8=some r) ?_ ?_)))))
   ·refine W.block (sr (L.r 2 rfl (nsr (L.r 1 rfl (ln (W.block (W.loopJ (fun m gs D=>∃ gv9 gl10 gx11,gs=[(5,pt b1 0),(15,gv9),(16,.int .i64 gx6),(95,.int .i64 gx6),(98,.int .i64 gx11)]∧D=Cls w [] [.obj b1 ((gl1.map B).flatten) 109,.sl gv9 90 2 (gl10.map TE.row)]∧M37L2 gx6 gl1 go1 m gl10 gx11=some r) ⟨gv4,gl5,0,rfl,rfl,h⟩ ⟨rfl,rfl,rfl,rfl,rfl,trivial⟩ hI ?_)))))))
    rintro m _ _ ⟨gv9,gl10,gx11,rfl,rfl,h⟩
    rcases m with _ | m
    ·rw [M37L2] at h;cases h
    rw [M37L2] at h
    generalize hg2:M37L2 gx6 gl1 go1 m=go2 at h
    rw [M37L2B] at h
    refine sr (L.ite h rfl (Y.lss rfl rfl) (fun c4 h=>?_) (fun c4 h=>?_))
    ·refine ln (W.seq (W.condT rfl (W.skip (E.thenN (W.seq (W.block (sr (L.r 2 rfl (ln (W.seq ?_))))))))))
     refine W.region (L.r 2 rfl (L.m (V:=fun _=>pt b1 (0+gx6.toNat*12)) h rfl (Y.indexR Tryz.underlying109 sz36 rfl rfl) (fun x5 ex5 h=>(L.m (V:=fun _=>pt b1 (0+(gx6*(12:Nat)+gx11).toNat*1)) h rfl (Y.index2 (a:=gx6) (l:=gl1) Tryz.underlying36 sz4 rfl rfl) (fun x6 ex6 h=>(L.iteB h rfl (Y.loadAr (q:=0) (row:=B) (j:=0) (p:=.bool x6) ag4 rfl rfl rfl (fun _=>rfl) (idx2_idx ex6) rfl) (fun c7 h=>?_) (fun c7 h=>?_)))))))
     ·refine ln (W.condT rfl (W.region (L.r 3 rfl (L.y rfl (Y.build (cells:=#[.int .i64 gx6,.int .i64 gx11]) rfl (by kernel_rfl)) (L.litAgg rfl Tryz.underlying56 eL90 rfl rfl rfl ?_)))))
      intro b8
      refine L.appM (i:=2) (g:=TE.row) (l:=gl10) (more:=[(⟨gx6,gx11⟩:TE)]) h rfl Tryz.underlying56 eL90 rfl rfl rfl (fun w hw=>As.at_ (hw.get (i:=0) rfl)) (plain_TEdge _) rfl ?_
      intro v9 l10 el10 h
      exact L.r 1 rfl (L.nil (E.blockN (E.thenN (W.region (L.m (V:=fun x11=>.int .i64 x11) h rfl (Y.addM rfl rfl) (fun x11 ex11 h=>(L.r 1 rfl (L.nil (E.aJ ⟨v9,l10,x11,rfl,rfl,by rw [hg2];exact h⟩ (sI [2,0]))))))))))
     exact ln (W.condF rfl (W.skip (E.blockN (E.thenN (W.region (L.m (V:=fun x12=>.int .i64 x12) h rfl (Y.addM rfl rfl) (fun x12 ex12 h=>(L.r 1 rfl (L.nil (E.aJ ⟨gv9,gl10,x12,rfl,rfl,by rw [hg2];exact h⟩ hI))))))))))
    exact ln (W.seq (W.condF rfl (W.exit (E.thenX (E.KLX (E.blockX (E.blockN (E.jJ ⟨gv9,gl10,rfl,rfl,h⟩ hI))))))))
   rintro _ _ ⟨gv7,gl8,rfl,rfl,h⟩
   rw [M37K4] at h
   exact W.region (L.m (V:=fun x3=>.int .i64 x3) h rfl (Y.addM rfl rfl) (fun x3 ex3 h=>(L.r 1 rfl (L.nil (E.aJ ⟨gv7,gl8,x3,rfl,rfl,by rw [hg1];exact h⟩ hI)))))
  exact ln (W.seq (W.condF rfl (W.exit (E.thenX (E.KLX (E.blockX (E.jJ ⟨gv4,gl5,rfl,rfl,h⟩ (sI [1]))))))))
 rintro _ _ ⟨gv2,gl3,rfl,rfl,h⟩
 rw [M37K3] at h
 refine sr (L.r 3 rfl (ln (W.ret (E.ret2 rfl rfl rfl (fun w1 hw=>?_)))))
 cases h
 exact ⟨_,_,rfl,⟨_,rfl,rfl⟩,hw⟩
set_option maxRecDepth 100000 in
set_option maxHeartbeats 8000000 in
theorem W62 (a0:Int) (a1:(List TE)) (u1:Value) (w:World) (r:Int) (h:M62 a0 a1=some r) (hA1:At w u1 2 (a1.map TE.row)):Does Tryz.prog 62 [.int .i64 a0,u1] w fun u m=>u=.int .i64 r∧m=[]:=by
 rw [M62] at h
 refine body (n:=43) Tryz.func62 rfl rfl rfl (Cls.refl w) (sr (L.r 1 rfl (ln (W.seqJ (fun gs D=>gs=[(0,.int .i64 a0),(1,u1)]∧D=Cls w [] []∧M62K1 a1 a0=some r) ?_ ?_))))
 ·refine sr (L.r 1 rfl (L.ite h rfl (Y.lss rfl rfl) (fun c10 h=>?_) (fun c10 h=>?_)))
  ·refine L.r 4 rfl (ln (W.condT rfl (sr (L.r 1 rfl (ln (W.ret (E.KSR (E.ret1 rfl rfl (fun w1 hw=>?_)))))))))
   cases h
   exact ⟨_,_,rfl,⟨rfl,rfl⟩,hw⟩
  refine L.r 2 rfl (L.take rfl (L.ite h rfl (Y.gtr rfl rfl) (fun c11 h=>?_) (fun c11 h=>?_)))
  ·refine L.r 1 rfl (ln (W.condT rfl (sr (L.r 1 rfl (ln (W.ret (E.KSR (E.ret1 rfl rfl (fun w1 hw=>?_)))))))))
   cases h
   exact ⟨_,_,rfl,⟨rfl,rfl⟩,hw⟩
  exact L.r 1 rfl (ln (W.condF rfl (W.skip (E.jJ ⟨rfl,rfl,h⟩ hI))))
 rintro _ _ ⟨rfl,rfl,h⟩
 rw [M62K1] at h
 refine W.seqJ (fun gs D=>gs=[(0,.int .i64 a0),(1,u1)]∧D=Cls w [] []∧M62K2 a1 a0=some r) ?_ ?_
 ·refine sr (L.r 1 rfl (L.y rfl (Y.lenM (g:=TE.row) (l:=a1) Tryz.underlying56 rfl (fun w' hw=>hA1.cls0 hw)) (L.ite h rfl (Y.gtr rfl rfl) (fun c9 h=>?_) (fun c9 h=>?_))))
  ·refine ln (W.condT rfl (sr (L.r 1 rfl (ln (W.ret (E.KSR (E.ret1 rfl rfl (fun w1 hw=>?_))))))))
   cases h
   exact ⟨_,_,rfl,⟨rfl,rfl⟩,hw⟩
  exact ln (W.condF rfl (W.skip (E.jJ ⟨rfl,rfl,h⟩ hI)))
 rintro _ _ ⟨rfl,rfl,h⟩
 rw [M62K2] at h
 refine W.seqJ (fun gs D=>gs=[]∧D=Cls w [] []∧M62K3=some r) ?_ ?_
 ·refine sr (L.r 1 rfl (L.y rfl (Y.lenM (g:=TE.row) (l:=a1) Tryz.underlying56 rfl (fun w' hw=>hA1.cls0 hw)) (L.r 1 rfl (ln (W.block (W.loopJ (fun m gs D=>∃ gx1,gs=[(0,.int .i64 a0),(16,u1),(17,.int .i64 (a1.length:Int)),(18,.int .i64 gx1)]∧D=Cls w [] []∧M62L1 a1 a0 m gx1=some r) ⟨0,rfl,rfl,h⟩ ⟨rfl,rfl,rfl,rfl,trivial⟩ hI ?_))))))
  rintro m _ _ ⟨gx1,rfl,rfl,h⟩
  rcases m with _ | m
  ·rw [M62L1] at h;cases h
  rw [M62L1] at h
  generalize hg1:M62L1 a1 a0 m=go1 at h
  rw [M62L1B] at h
  refine sr (L.ite h rfl (Y.lss rfl rfl) (fun c1 h=>?_) (fun c1 h=>?_))
  ·refine ln (W.seq (W.condT rfl (W.skip (E.thenN (W.seq (W.block (sr (L.m (V:=fun _=>el u1 (gx1.toNat*2)) h rfl (Y.indexM (g:=TE.row) (l:=a1) Tryz.underlying56 sz90 rfl rfl (fun w' hw=>hA1.cls0 hw)) (fun x2 ex2 h=>(L.y rfl (Y.loadEN (r:=[.int .i64 x2.From,.int .i64 x2.To]) ag90 sz90 rfl (fun w' hw=>hA1.cls0 hw) (idx_map ex2) rfl) (L.alloc rfl ze90 ?_)))))))))))
   intro b3
   refine L.store (i:=0) (vs:=[.int .i64 x2.From,.int .i64 x2.To]) sz90 rfl rfl rfl rfl (by simp [Value.oneCell',Value.cells,st,pt,el]) rfl nb (nsr (L.cutJ 9 (fun gs D=>∃ gb2,gs=[(0,.int .i64 a0),(6,pt b3 0),(16,u1),(17,.int .i64 (a1.length:Int)),(18,.int .i64 gx1),(30,.bool gb2)]∧D=Cls w [] [.obj b3 [.int .i64 x2.From,.int .i64 x2.To] 90]∧M62K4 x2 a0 gx1 go1 gb2=some r) ?_ ?_))
   ·refine L.y rfl (Y.fieldP fd90_0 rfl) (L.y rfl (Y.loadP (i:=0) ag3 rfl rfl rfl) (L.ite h rfl (Y.lss rfl rfl) (fun c7 h=>?_) (fun c7 h=>?_)))
    ·exact L.r 6 rfl (L.nil (E.jJ ⟨true,rfl,rfl,h⟩ hI))
    refine L.r 1 rfl (L.take rfl (L.y rfl (Y.fieldP fd90_0 rfl) (L.take rfl (L.y rfl (Y.loadP (i:=0) ag3 rfl rfl rfl) (L.r 1 rfl (L.take rfl (L.ite h rfl (Y.geq rfl rfl) (fun c8 h=>?_) (fun c8 h=>?_))))))))
    ·exact L.r 1 rfl (L.nil (E.jJ ⟨true,rfl,rfl,h⟩ hI))
    exact L.r 1 rfl (L.nil (E.jJ ⟨false,rfl,rfl,h⟩ hI))
   rintro _ _ ⟨gb2,rfl,rfl,h⟩
   rw [M62K4] at h
   rcases gb2 with _ | _
   ·replace h:=iteF h
    refine L.r 1 rfl (L.take rfl (L.y rfl (Y.fieldP fd90_1 rfl) (L.take rfl (L.y rfl (Y.loadP (i:=0) ag3 rfl rfl rfl) (L.take rfl (L.ite h rfl (Y.lss rfl rfl) (fun c4 h=>?_) (fun c4 h=>?_)))))))
    ·refine L.r 7 rfl (ln (W.condT rfl (sr (L.r 1 rfl (ln (W.ret (E.blockR (E.thenR (E.KLR (E.blockR ?_))))))))))
     refine E.KSR (E.ret1 rfl rfl (fun w1 hw=>?_))
     cases h
     exact ⟨_,_,rfl,⟨rfl,rfl⟩,hw.s []⟩
    refine L.r 2 rfl (L.take rfl (L.y rfl (Y.fieldP fd90_1 rfl) (L.take rfl (L.y rfl (Y.loadP (i:=0) ag3 rfl rfl rfl) (L.r 1 rfl (L.take rfl (L.ite h rfl (Y.geq rfl rfl) (fun c5 h=>?_) (fun c5 h=>?_))))))))
    ·refine L.r 1 rfl (ln (W.condT rfl (sr (L.r 1 rfl (ln (W.ret (E.blockR (E.thenR (E.KLR (E.blockR ?_))))))))))
     refine E.KSR (E.ret1 rfl rfl (fun w1 hw=>?_))
     cases h
     exact ⟨_,_,rfl,⟨rfl,rfl⟩,hw.s []⟩
    exact L.r 1 rfl (ln (W.condF rfl (W.skip (E.blockN (E.thenN (W.region (L.m (V:=fun x6=>.int .i64 x6) h rfl (Y.addM rfl rfl) (fun x6 ex6 h=>(L.r 1 rfl (L.nil (E.aJ ⟨x6,rfl,rfl,by rw [hg1];exact h⟩ (sI []))))))))))))
   replace h:=iteT h
   refine L.r 11 rfl (ln (W.condT rfl (sr (L.r 1 rfl (ln (W.ret (E.blockR (E.thenR (E.KLR (E.blockR ?_))))))))))
   refine E.KSR (E.ret1 rfl rfl (fun w1 hw=>?_))
   cases h
   exact ⟨_,_,rfl,⟨rfl,rfl⟩,hw.s []⟩
  exact ln (W.seq (W.condF rfl (W.exit (E.thenX (E.KLX (E.blockX (E.joinJ ⟨rfl,rfl,h⟩ trivial hI)))))))
 rintro _ _ ⟨rfl,rfl,h⟩
 rw [M62K3] at h
 refine sr (L.r 1 rfl (ln (W.ret (E.ret1 rfl rfl (fun w1 hw=>?_)))))
 cases h
 exact ⟨_,_,rfl,⟨rfl,rfl⟩,hw⟩
set_option maxRecDepth 100000 in
set_option maxHeartbeats 8000000 in
theorem W42 (a0:(List TE)) (u0:Value) (w:World) (r:(List TE)) (h:M42 a0=some r) (hA0:At w u0 2 (a0.map TE.row)):Does Tryz.prog 42 [u0] w fun u m=>∃ v0,u=v0∧m=[.sl v0 90 2 (r.map TE.row)]:=by
 rw [M42] at h
 rcases hA0.shape with ⟨rfl,hn⟩ | ⟨ad,cap,rfl,hl,hm⟩
 ·obtain rfl:a0=[]:=by simpa using hn
  replace h:some ([]:List TE)=some r:=by simpa [app] using h
  refine body (n:=8) Tryz.func42 rfl rfl rfl (Cls.refl w) (sr (L.r 1 rfl (ln (W.seq (sr (L.r 1 rfl (L.y rfl (Y.eqlNil Tryz.underlying56 rfl rfl) (ln (W.condT rfl ?_)))))))))
  refine sr (L.r 1 rfl (ln (W.ret (E.thenR (E.ret1 rfl rfl (fun w1 hw=>?_))))))
  cases h
  exact ⟨_,_,rfl,⟨_,rfl,rfl⟩,(hw.nilSl 90 2)⟩
 refine body (n:=8) Tryz.func42 rfl rfl rfl (Cls.refl w) (sr (L.r 1 rfl (ln (W.seq (sr (L.r 1 rfl (L.y rfl (Y.eqlNil Tryz.underlying56 rfl rfl) (ln (W.condF rfl ?_)))))))))
 refine W.skip (E.thenN (sr (L.lit0 rfl Tryz.underlying56 eL90 ?_)))
 intro b1
 refine L.r 1 rfl (L.appM (i:=0) (g:=TE.row) (l:=[]) (more:=a0) h rfl Tryz.underlying56 eL90 rfl rfl rfl (fun w' hw=>hA0.cls0 hw) (plain_TEdge _) rfl ?_)
 intro v2 l3 el3 h
 refine L.r 1 rfl (ln (W.ret (E.ret1 rfl rfl (fun w1 hw=>?_))))
 cases h
 exact ⟨_,_,rfl,⟨_,rfl,rfl⟩,hw⟩
set_option maxRecDepth 100000 in
set_option maxHeartbeats 8000000 in
theorem W77 (a0:Int) (a1:(List TE)) (u1:Value) (w:World) (r:(List (List Int))) (h:M77 a0 a1=some r) (hA1:At w u1 2 (a1.map TE.row)):Does Tryz.prog 77 [.int .i64 a0,u1] w fun u m=>∃ v0 q0,u=v0∧m=[.sl v0 23 1 (zr svRow q0 r),.ss (zs (svSd 3 1 I) q0 r)]:=by
 rw [M77] at h
 refine body (n:=51) Tryz.func77 rfl rfl rfl (Cls.refl w) (sr (L.r 1 rfl (nsr (L.r 1 rfl ?_))))
 obtain ⟨l1,el1,h⟩:=bind1S h
 refine L.makeZ (row:=svRow) (sds:=(svSd 3 1 I)) (nv:=[nilV]) (z0:=([]:(List Int))) el1 rfl Tryz.underlying111 eL23 ze23 rfl rfl rfl (gall1 rfl rfl gall0) ?_
 intro b2
 refine L.r 1 rfl (ln (W.seqJ (fun gs D=>∃ gl1 gq2,gs=[(5,(sv b2 a0.toNat))]∧D=Cls w [] [.sl (sv b2 a0.toNat) 23 1 (zr svRow gq2 gl1),.ss (zs (svSd 3 1 I) gq2 gl1)]∧M77K1 gl1=some r) ?_ ?_))
 ·refine sr (L.r 1 rfl (L.y rfl (Y.lenM (g:=TE.row) (l:=a1) Tryz.underlying56 rfl (fun w' hw=>hA1.cls0 hw)) (L.r 1 rfl (ln (W.block (W.loopJ (fun m gs D=>∃ gl8 gq9 gx10,gs=[(5,(sv b2 a0.toNat)),(11,u1),(12,.int .i64 (a1.length:Int)),(13,.int .i64 gx10)]∧D=Cls w [] [.sl (sv b2 a0.toNat) 23 1 (zr svRow gq9 gl8),.ss (zs (svSd 3 1 I) gq9 gl8)]∧M77L2 a1 m gl8 gx10=some r) ⟨l1,(fun _=>[nilV]),0,rfl,rfl,h⟩ ⟨rfl,rfl,rfl,rfl,trivial⟩ hI ?_))))))
  rintro m _ _ ⟨gl8,gq9,gx10,rfl,rfl,h⟩
  rcases m with _ | m
  ·rw [M77L2] at h;cases h
  rw [M77L2] at h
  generalize hg2:M77L2 a1 m=go2 at h
  rw [M77L2B] at h
  refine sr (L.ite h rfl (Y.lss rfl rfl) (fun c14 h=>?_) (fun c14 h=>?_))
  ·refine ln (W.seq (W.condT rfl (W.skip (E.thenN (W.seq (W.block (sr (L.m (V:=fun _=>el u1 (gx10.toNat*2)) h rfl (Y.indexM (g:=TE.row) (l:=a1) Tryz.underlying56 sz90 rfl rfl (fun w' hw=>hA1.cls0 hw)) (fun x15 ex15 h=>(L.y rfl (Y.loadEN (r:=[.int .i64 x15.From,.int .i64 x15.To]) ag90 sz90 rfl (fun w' hw=>hA1.cls0 hw) (idx_map ex15) rfl) (L.alloc rfl ze90 ?_)))))))))))
   intro b16
   refine L.store (i:=0) (vs:=[.int .i64 x15.From,.int .i64 x15.To]) sz90 rfl rfl rfl rfl (by simp [Value.oneCell',Value.cells,st,pt,el]) rfl nb (ln (W.drawn2 (k:=14) (stC [[11,13],[13]] [Cls w [] [.obj b16 [.int .i64 x15.From,.int .i64 x15.To] 90,.sl (sv b2 a0.toNat) 23 1 (zr svRow gq9 gl8),.ss (zs (svSd 3 1 I) gq9 gl8)],Cls w [] [.obj b16 [.int .i64 x15.From,.int .i64 x15.To] 90,.sl (sv b2 a0.toNat) 23 1 (zr svRow gq9 gl8)]] (Cls w [] [.obj b16 [.int .i64 x15.From,.int .i64 x15.To] 90])) rfl mixed (fun _ hw=>hw.drew) (Sc.now (by kernel_rfl) hI) (V2.zz [] (Zc.on' (Zc.on' (Zc.fin hI) (sI [0])) (sI [0])) (fun hz40=>(V2.r [0] (by kernel_rfl) rfl (V2.q 1 [] hz40 rfl rfl (Y.fieldP fd90_0 rfl) (V2.q 2 [] hz40 rfl rfl (Y.loadP (i:=0) ag3 rfl rfl rfl) (V2.r [3] (by kernel_rfl) rfl (V2.q 4 [] hz40 rfl rfl (Y.fieldP fd90_0 rfl) (V2.q 5 [] hz40 rfl rfl (Y.loadP (i:=0) ag3 rfl rfl rfl) (V2.zz [13] (Zc.on' (Zc.at1 hI) (sI [0,1])) (fun hz41=>(V2.m (i:=6) (V':=fun _=>el (sv b2 a0.toNat) (x15.From.toNat*1)) h (Nx2.of [13] (by kernel_rfl) rfl hz41) rfl rfl rfl (Y.indexMZ (row:=svRow) (vs:=gq9) (l:=gl8) Tryz.underlying111 sz23 rfl rfl (fun w hw=>As.at_ (hw.get (i:=1) rfl))) (fun x42 ex42 h=>(V2.q 7 [13] hz41 rfl rfl (Y.loadE1 (u:=gv (gq9 x15.From.toNat) 0) ag23 rfl (fun w hw=>As.at_ (hw.get (i:=1) rfl)) (zr_idx (vs:=gq9) ex42)) ?_)))))))))))))))
   refine V2.q 8 [] hz40 rfl rfl (Y.fieldP fd90_1 rfl) (V2.q 9 [] hz40 rfl rfl (Y.loadP (i:=0) ag3 rfl rfl rfl) (V2.eff (i:=10) (by kernel_rfl) rfl (L.litOne rfl Tryz.underlying23 eL3 rfl rfl ?_)))
   intro b43
   refine L.nil (E.toV2 (stC [[11,13],[13]] [Cls w [] [.sl (sv b43 1) 3 1 (([x15.To]).map I),.obj b16 [.int .i64 x15.From,.int .i64 x15.To] 90,.sl (sv b2 a0.toNat) 23 1 (zr svRow gq9 gl8),.ss (zs (svSd 3 1 I) gq9 gl8)],Cls w [] [.sl (sv b43 1) 3 1 (([x15.To]).map I),.obj b16 [.int .i64 x15.From,.int .i64 x15.To] 90,.sl (sv b2 a0.toNat) 23 1 (zr svRow gq9 gl8)]] (Cls w [] [.sl (sv b43 1) 3 1 (([x15.To]).map I),.obj b16 [.int .i64 x15.From,.int .i64 x15.To] 90])) 10 (by kernel_rfl) (Sc.stay (sI [1,2,3]) (Sc.stay (sI [1,2]) (Sc.stayD (sI [1])))) (Sc.now (by kernel_rfl) hI) (V2.eff (i:=11) (by kernel_rfl) rfl (L.ssOut (sds:=(svSd 3 1 I)) (vs:=gq9) (s:=3) (j:=0) (c:=1) rfl (fun _ _=>rfl) ex42 rfl (L.appM (i:=0) (g:=I) (l:=x42) (more:=[x15.To]) h rfl Tryz.underlying23 eL3 rfl rfl rfl (fun w hw=>As.at_ (hw.get (i:=1) rfl)) (plain_ints _) rfl ?_))))
   intro v44 l45 el45 h
   refine L.nil (E.toV2 (stC [[13]] [Cls w [] [.sl v44 3 1 (l45.map I),.sl (sv b43 1) 3 1 (([x15.To]).map I),.obj b16 [.int .i64 x15.From,.int .i64 x15.To] 90,.sl (sv b2 a0.toNat) 23 1 (zr svRow gq9 gl8)]] (Cls w [] [.sl (sv b43 1) 3 1 (([x15.To]).map I),.obj b16 [.int .i64 x15.From,.int .i64 x15.To] 90])) 11 (by kernel_rfl) (Sc.past rfl (Sc.stay (sI [1,2,3]) (Sc.stayD hI))) (Sc.now (by kernel_rfl) (sI [0,1,2,3])) (V2.zz [13] (Zc.at1 hI) (fun hz47=>(V2.m (i:=12) (V':=fun _=>el (sv b2 a0.toNat) (x15.From.toNat*1)) h (Nx2.of [13] (by kernel_rfl) rfl hz47) rfl rfl rfl (Y.indexMZ (row:=svRow) (vs:=gq9) (l:=gl8) Tryz.underlying111 sz23 rfl rfl (fun w hw=>As.at_ (hw.get (i:=3) rfl))) (fun x48 ex48 h=>(V2.eff (i:=13) (by kernel_rfl) rfl (L.storeSlZS (row:=svRow) (sds:=(svSd 3 1 I)) (vs:=gq9) (q:=3) (p:=0) (s:=4) (c:=1) (jj:=0) (u1:=l45) (v1:=[v44]) (j:=0) h sz23 rfl rfl rfl rfl rfl rfl (.inr rfl) (fun _ _=>rfl) (fun _ _=>rfl) ex48 rfl rfl rfl rfl (by decide) ?_)))))))
   intro l49 q50 el49 h
   exact L.nil (E.toV2 (stC [] [] (Cls w [] [.sl (sv b43 1) 3 1 (([x15.To]).map I),.obj b16 [.int .i64 x15.From,.int .i64 x15.To] 90])) 13 (by kernel_rfl) (Sc.past rfl (Sc.stayD hI)) (Sc.atD (sI [0,1])) (V2.done (by kernel_rfl) (E.blockN (E.thenN (W.region (L.m (V:=fun x51=>.int .i64 x51) h rfl (Y.addM rfl rfl) (fun x51 ex51 h=>(L.r 1 rfl (L.nil (E.aJ ⟨l49,q50,x51,rfl,rfl,by rw [hg2];exact h⟩ (sI [2,3])))))))))))
  exact ln (W.seq (W.condF rfl (W.exit (E.thenX (E.KLX (E.blockX (E.jJ ⟨gl8,gq9,rfl,rfl,h⟩ hI)))))))
 rintro _ _ ⟨gl1,gq2,rfl,rfl,h⟩
 rw [M77K1] at h
 refine W.seqJ (fun gs D=>∃ gl3 gq4,gs=[(5,(sv b2 a0.toNat))]∧D=Cls w [] [.sl (sv b2 a0.toNat) 23 1 (zr svRow gq4 gl3),.ss (zs (svSd 3 1 I) gq4 gl3)]∧M77K2 gl3=some r) ?_ ?_
 ·refine sr (L.r 1 rfl (L.y rfl (Y.lenMZ (row:=svRow) (vs:=gq2) (l:=gl1) Tryz.underlying111 rfl (fun w hw=>As.at_ (hw.get (i:=0) rfl))) (L.r 1 rfl (ln (W.block (W.loopJ (fun m gs D=>∃ gl5 gq6 gx7,gs=[(5,(sv b2 a0.toNat)),(32,.int .i64 (gl1.length:Int)),(33,.int .i64 gx7)]∧D=Cls w [] [.sl (sv b2 a0.toNat) 23 1 (zr svRow gq6 gl5),.ss (zs (svSd 3 1 I) gq6 gl5)]∧M77L1 gl1 m gl5 gx7=some r) ⟨gl1,gq2,0,rfl,rfl,h⟩ ⟨rfl,rfl,rfl,trivial⟩ hI ?_))))))
  rintro m _ _ ⟨gl5,gq6,gx7,rfl,rfl,h⟩
  rcases m with _ | m
  ·rw [M77L1] at h;cases h
  rw [M77L1] at h
  generalize hg1:M77L1 gl1 m=go1 at h
  rw [M77L1B] at h
  refine sr (L.ite h rfl (Y.lss rfl rfl) (fun c3 h=>?_) (fun c3 h=>?_))
  ·refine ln (W.seq (W.condT rfl (W.skip (E.thenN (W.seq (W.block (sr (L.r 2 rfl (ln (W.seq ?_))))))))))
   refine W.region (L.r 2 rfl (L.m (V:=fun _=>el (sv b2 a0.toNat) (gx7.toNat*1)) h rfl (Y.indexMZ (row:=svRow) (vs:=gq6) (l:=gl5) Tryz.underlying111 sz23 rfl rfl (fun w hw=>As.at_ (hw.get (i:=0) rfl))) (fun x4 ex4 h=>(L.y rfl (Y.loadE1 (u:=gv (gq6 gx7.toNat) 0) ag23 rfl (fun w hw=>As.at_ (hw.get (i:=0) rfl)) (zr_idx (vs:=gq6) ex4)) (L.ssOut (sds:=(svSd 3 1 I)) (vs:=gq6) (s:=1) (j:=0) (c:=1) rfl (fun _ _=>rfl) ex4 rfl (L.sortMD (i:=0) (l:=x4) h wSort rfl en44 rfl rfl ?_))))))
   intro l5 el5 h
   refine L.ssBack (row:=svRow) (sds:=(svSd 3 1 I)) (vs:=gq6) (p:=0) (s:=2) (q:=1) (c:=1) (jj:=0) (u1:=l5) (fun z=>.sl (sv b2 a0.toNat) 23 1 z) h rfl rfl rfl (fun _ _=>rfl) ex4 rfl rfl rfl ?_
   intro l6 el6 h
   refine nr (L.r 4 rfl (L.m (V:=fun _=>el (sv b2 a0.toNat) (gx7.toNat*1)) h rfl (Y.indexMZ (row:=svRow) (vs:=gq6) (l:=l6) Tryz.underlying111 sz23 rfl rfl (fun w hw=>As.at_ (hw.get (i:=0) rfl))) (fun x7 ex7 h=>(L.y rfl (Y.loadE1 (u:=gv (gq6 gx7.toNat) 0) ag23 rfl (fun w hw=>As.at_ (hw.get (i:=0) rfl)) (zr_idx (vs:=gq6) ex7)) (L.ssOut (sds:=(svSd 3 1 I)) (vs:=gq6) (s:=1) (j:=0) (c:=1) rfl (fun _ _=>rfl) ex7 rfl (L.compactMD (i:=0) (l:=x7) h wCompact rfl en94 rfl rfl ?_))))))
   intro v9 l8 el8 h
   refine L.m (V:=fun _=>el (sv b2 a0.toNat) (gx7.toNat*1)) h rfl (Y.indexMZ (row:=svRow) (vs:=gq6) (l:=l6) Tryz.underlying111 sz23 rfl rfl (fun w hw=>As.at_ (hw.get (i:=1) rfl))) (fun x10 ex10 h=>(L.storeSlZS (row:=svRow) (sds:=(svSd 3 1 I)) (vs:=gq6) (q:=1) (p:=0) (s:=2) (c:=1) (jj:=0) (u1:=l8) (v1:=[v9]) (j:=0) h sz23 rfl rfl rfl rfl rfl rfl (.inr rfl) (fun _ _=>rfl) (fun _ _=>rfl) ex10 rfl rfl rfl rfl (by decide) ?_))
   intro l11 q12 el11 h
   exact L.nil (E.blockN (E.thenN (W.region (L.m (V:=fun x13=>.int .i64 x13) h rfl (Y.addM rfl rfl) (fun x13 ex13 h=>(L.r 1 rfl (L.nil (E.aJ ⟨l11,q12,x13,rfl,rfl,by rw [hg1];exact h⟩ hI))))))))
  exact ln (W.seq (W.condF rfl (W.exit (E.thenX (E.KLX (E.blockX (E.jJ ⟨gl5,gq6,rfl,rfl,h⟩ hI)))))))
 rintro _ _ ⟨gl3,gq4,rfl,rfl,h⟩
 rw [M77K2] at h
 refine sr (L.r 2 rfl (ln (W.ret (E.ret1 rfl rfl (fun w1 hw=>?_)))))
 cases h
 exact ⟨_,_,rfl,⟨_,_,rfl,rfl⟩,hw⟩
set_option maxRecDepth 100000 in
set_option maxHeartbeats 8000000 in
theorem W96 (a0:(List Int)) (a1:Int) (u0:Value) (w:World) (r:Int) (h:M96 a0 a1=some r) (hA0:At w u0 1 (a0.map I)):Does Tryz.prog 96 [u0,.int .i64 a1] w fun u m=>u=.int .i64 r∧m=[]:=by
 rw [M96] at h
 refine body (n:=19) Tryz.func96 rfl rfl rfl (Cls.refl w) (sr (L.r 1 rfl (ln (W.seqJ (fun gs D=>gs=[]∧D=Cls w [] []∧M96K1=some r) ?_ ?_))))
 ·refine sr (L.r 1 rfl (L.y rfl (Y.lenM (g:=I) (l:=a0) Tryz.underlying23 rfl (fun w' hw=>hA0.cls0 hw)) (L.r 1 rfl (ln (W.block (W.loopJ (fun m gs D=>∃ gx1,gs=[(0,u0),(1,.int .i64 a1),(7,.int .i64 (a0.length:Int)),(8,.int .i64 gx1)]∧D=Cls w [] []∧M96L1 a0 a1 m gx1=some r) ⟨0,rfl,rfl,h⟩ ⟨rfl,rfl,rfl,rfl,trivial⟩ hI ?_))))))
  rintro m _ _ ⟨gx1,rfl,rfl,h⟩
  rcases m with _ | m
  ·rw [M96L1] at h;cases h
  rw [M96L1] at h
  generalize hg1:M96L1 a0 a1 m=go1 at h
  rw [M96L1B] at h
  refine sr (L.ite h rfl (Y.lss rfl rfl) (fun c1 h=>?_) (fun c1 h=>?_))
  ·refine ln (W.seq (W.condT rfl (W.skip (E.thenN (W.seq (W.block (sr (L.r 2 rfl (ln (W.seq ?_))))))))))
   refine W.region (L.r 3 rfl (L.m (V:=fun _=>el u0 (gx1.toNat*1)) h rfl (Y.indexM (g:=I) (l:=a0) Tryz.underlying23 sz3 rfl rfl (fun w' hw=>hA0.cls0 hw)) (fun x2 ex2 h=>(L.y rfl (Y.loadE1 (u:=.int .i64 x2) ag3 rfl (fun w' hw=>hA0.cls0 hw) (idx_map ex2)) (L.ite h rfl (Y.eql rfl rfl) (fun c3 h=>?_) (fun c3 h=>?_))))))
   ·refine ln (W.condT rfl (sr (L.r 2 rfl (ln (W.ret (E.blockR (E.thenR (E.KLR (E.blockR (E.KSR ?_))))))))))
    refine E.ret1 rfl rfl (fun w1 hw=>?_)
    cases h
    exact ⟨_,_,rfl,⟨rfl,rfl⟩,hw⟩
   exact ln (W.condF rfl (W.skip (E.blockN (E.thenN (W.region (L.m (V:=fun x4=>.int .i64 x4) h rfl (Y.addM rfl rfl) (fun x4 ex4 h=>(L.r 1 rfl (L.nil (E.aJ ⟨x4,rfl,rfl,by rw [hg1];exact h⟩ hI))))))))))
  exact ln (W.seq (W.condF rfl (W.exit (E.thenX (E.KLX (E.blockX (E.joinJ ⟨rfl,rfl,h⟩ trivial hI)))))))
 rintro _ _ ⟨rfl,rfl,h⟩
 rw [M96K1] at h
 refine sr (L.r 1 rfl (ln (W.ret (E.ret1 rfl rfl (fun w1 hw=>?_)))))
 cases h
 exact ⟨_,_,rfl,⟨rfl,rfl⟩,hw⟩
set_option maxRecDepth 100000 in
set_option maxHeartbeats 8000000 in
theorem W95 (a0:(List Int)) (a1:Int) (u0:Value) (w:World) (r:Bool) (h:M95 a0 a1=some r) (hA0:At w u0 1 (a0.map I)):Does Tryz.prog 95 [u0,.int .i64 a1] w fun u m=>u=.bool r∧m=[]:=by
 rw [M95] at h
 refine body (n:=9) Tryz.func95 rfl rfl rfl (Cls.refl w) (sr (L.r 1 rfl (nsr (L.r 2 rfl ?_))))
 obtain ⟨x1,e2,h⟩:=bind1S h
 refine L.y rfl (Y.does en96 rfl (fun w' hw=>(W96 a0 a1 u0 w' _ e2 (hA0.cls0 hw)).mono (fun _ _ h=>h.1))) (L.y rfl (Y.geq rfl rfl) (L.r 1 rfl (ln (W.ret (E.ret1 rfl rfl (fun w1 hw=>?_))))))
 cases h
 exact ⟨_,_,rfl,⟨rfl,rfl⟩,hw⟩
set_option maxRecDepth 100000 in
set_option maxHeartbeats 8000000 in
theorem W97 (a0:(List Int)) (u0:Value) (w:World) (r:(List Int)) (h:M97 a0=some r) (hA0:At w u0 1 (a0.map I)):Does Tryz.prog 97 [u0] w fun u m=>∃ v0,u=v0∧m=[.sl v0 3 1 (r.map I)]:=by
 rw [M97] at h
 rcases hA0.shape with ⟨rfl,hn⟩ | ⟨ad,cap,rfl,hl,hm⟩
 ·obtain rfl:a0=[]:=by simpa using hn
  replace h:some ([]:List Int)=some r:=by simpa [app] using h
  refine body (n:=8) Tryz.func97 rfl rfl rfl (Cls.refl w) (sr (L.r 1 rfl (ln (W.seq (sr (L.r 1 rfl (L.y rfl (Y.eqlNil Tryz.underlying23 rfl rfl) (ln (W.condT rfl ?_)))))))))
  refine sr (L.r 1 rfl (ln (W.ret (E.thenR (E.ret1 rfl rfl (fun w1 hw=>?_))))))
  cases h
  exact ⟨_,_,rfl,⟨_,rfl,rfl⟩,(hw.nilSl 3 1)⟩
 refine body (n:=8) Tryz.func97 rfl rfl rfl (Cls.refl w) (sr (L.r 1 rfl (ln (W.seq (sr (L.r 1 rfl (L.y rfl (Y.eqlNil Tryz.underlying23 rfl rfl) (ln (W.condF rfl ?_)))))))))
 refine W.skip (E.thenN (sr (L.lit0 rfl Tryz.underlying23 eL3 ?_)))
 intro b1
 refine L.r 1 rfl (L.appM (i:=0) (g:=I) (l:=[]) (more:=a0) h rfl Tryz.underlying23 eL3 rfl rfl rfl (fun w' hw=>hA0.cls0 hw) (plain_ints _) rfl ?_)
 intro v2 l3 el3 h
 refine L.r 1 rfl (ln (W.ret (E.ret1 rfl rfl (fun w1 hw=>?_))))
 cases h
 exact ⟨_,_,rfl,⟨_,rfl,rfl⟩,hw⟩
set_option maxRecDepth 100000 in
set_option maxHeartbeats 8000000 in
theorem W78a:∀ (n:Nat) (kK:(List (List Int))) (kW:(List Int)) (kU:(List Int)) (kP:(List Int)) (kO:(List (List Int))) (kY:Int) (a1:Int) (pb0:Nat) (kM:Value) (kL:Nat→List Value) (kX:Value) (kV:Value) (kT:Value) (kQ:Value) (kR:Nat→List Value) (w:World) (r:((List Int)×(List Int)×(List Int)×(List (List Int))×Int)) (h:M78b n kK kW kU kP kO kY a1=some r) (F:List Nat) (hc0:Cls w F [.obj pb0 [kM,kX,kV,kT,kQ,.int .i64 kY] 126,.sl kM 23 1 (zr svRow kL kK),.ss (zs (svSd 3 1 I) kL kK),.sl kX 3 1 (kW.map I),.sl kV 3 1 (kU.map I),.sl kT 3 1 (kP.map I),.sl kQ 23 1 (zr svRow kR kO),.ss (zs (svSd 3 1 I) kR kO)] w),DoesF Tryz.prog 78 [pt pb0 0,.int .i64 a1] F w fun u m=>∃ y1 y2 y3 y4 z4,u=.tuple #[]∧m=[.obj pb0 [kM,y1,y2,y3,y4,.int .i64 r.2.2.2.2] 126,.sl kM 23 1 (zr svRow kL kK),.ss (zs (svSd 3 1 I) kL kK),.sl y1 3 1 (r.1.map I),.sl y2 3 1 (r.2.1.map I),.sl y3 3 1 (r.2.2.1.map I),.sl y4 23 1 (zr svRow z4 r.2.2.2.1),.ss (zs (svSd 3 1 I) z4 r.2.2.2.1)]:=by
 intro n
 induction n with
 | zero=>intro kK kW kU kP kO kY a1 pb0 kM kL kX kV kT kQ kR w r h F hc0;rw [M78b] at h;cases h
 | succ n ih =>
 intro kK kW kU kP kO kY a1 pb0 kM kL kX kV kT kQ kR w r h F hc0
 rw [M78b] at h
 generalize M78b n=rec at h ih
 rw [M78a] at h
 refine body (n:=168) Tryz.func78 rfl rfl rfl hc0 (sr (L.r 2 rfl (L.y rfl (Y.fieldP fd126_5 rfl) (L.y rfl (Y.loadP (i:=0) ag3 rfl rfl rfl) (L.m (V:=fun x1=>.int .i64 x1) h rfl (Y.addM rfl rfl) (fun x1 ex1 h=>(L.r 1 rfl (L.y rfl (Y.fieldP fd126_5 rfl) (L.store (i:=0) (vs:=[.int .i64 x1]) sz3 rfl rfl rfl rfl (by simp [Value.oneCell',Value.cells,st,pt,el]) rfl nb (ln (W.seq (W.drawn2 (k:=22) (stC [[19,21],[21]] [Cls w F [.obj pb0 [kM,kX,kV,kT,kQ,.int .i64 x1] 126,.sl kM 23 1 (zr svRow kL kK),.ss (zs (svSd 3 1 I) kL kK),.sl kX 3 1 (kW.map I),.sl kV 3 1 (kU.map I),.sl kT 3 1 (kP.map I),.sl kQ 23 1 (zr svRow kR kO),.ss (zs (svSd 3 1 I) kR kO)],Cls w F [.obj pb0 [kM,kX,kV,kT,kQ,.int .i64 x1] 126,.sl kM 23 1 (zr svRow kL kK),.ss (zs (svSd 3 1 I) kL kK),.sl kV 3 1 (kU.map I),.sl kT 3 1 (kP.map I),.sl kQ 23 1 (zr svRow kR kO),.ss (zs (svSd 3 1 I) kR kO)]] (Cls w F [.obj pb0 [kM,kX,kV,kT,kQ,.int .i64 x1] 126,.sl kM 23 1 (zr svRow kL kK),.ss (zs (svSd 3 1 I) kL kK),.sl kT 3 1 (kP.map I),.sl kQ 23 1 (zr svRow kR kO),.ss (zs (svSd 3 1 I) kR kO)])) rfl mixed (fun _ hw=>hw.drew) (Sc.now (by kernel_rfl) hI) ?_))))))))))))
 refine V2.zz [] (Zc.on' (Zc.on' (Zc.fin hI) (sI [0,1,2,4,5,6])) (sI [0,1,2,5,6,7])) (fun hz12=>(V2.r [0,1] (by kernel_rfl) rfl (V2.q 2 [] hz12 rfl rfl (Y.fieldP fd126_1 rfl) (V2.q 3 [] hz12 rfl rfl (Y.loadP (i:=0) ag23 rfl rfl rfl) (V2.r [4,5,6] (by kernel_rfl) rfl (V2.q 7 [] hz12 rfl rfl (Y.fieldP fd126_2 rfl) (V2.q 8 [] hz12 rfl rfl (Y.loadP (i:=0) ag23 rfl rfl rfl) (V2.r [9,10,11] (by kernel_rfl) rfl (V2.q 12 [] hz12 rfl rfl (Y.fieldP fd126_5 rfl) (V2.q 13 [] hz12 rfl rfl (Y.loadP (i:=0) ag3 rfl rfl rfl) (V2.r [14,15] (by kernel_rfl) rfl (V2.q 16 [] hz12 rfl rfl (Y.fieldP fd126_5 rfl) (V2.q 17 [] hz12 rfl rfl (Y.loadP (i:=0) ag3 rfl rfl rfl) (V2.zz [19,21] (Zc.at1 hI) (fun hz14=>?_)))))))))))))))
 refine V2.m (i:=18) (V':=fun _=>el kX (a1.toNat*1)) h (Nx2.of [19,21] (by kernel_rfl) rfl hz14) rfl rfl rfl (Y.indexM (g:=I) (l:=kW) Tryz.underlying23 sz3 rfl rfl (fun w hw=>As.at_ (hw.get (i:=3) rfl))) (fun x15 ex15 h=>(V2.eff (i:=19) (by kernel_rfl) rfl (L.storeSlM (q:=3) (row:=I) (vs:=[.int .i64 x1]) (j:=0) (u1:=x1) h sz3 rfl rfl rfl rfl rfl (all1 rfl all0) rfl ex15 rfl rfl ?_)))
 intro l16 el16 h
 refine L.nil (E.toV2 (stC [[21]] [Cls w F [.obj pb0 [kM,kX,kV,kT,kQ,.int .i64 x1] 126,.sl kM 23 1 (zr svRow kL kK),.ss (zs (svSd 3 1 I) kL kK),.sl kV 3 1 (kU.map I),.sl kT 3 1 (kP.map I),.sl kQ 23 1 (zr svRow kR kO),.ss (zs (svSd 3 1 I) kR kO)]] (Cls w F [.obj pb0 [kM,kX,kV,kT,kQ,.int .i64 x1] 126,.sl kM 23 1 (zr svRow kL kK),.ss (zs (svSd 3 1 I) kL kK),.sl kT 3 1 (kP.map I),.sl kQ 23 1 (zr svRow kR kO),.ss (zs (svSd 3 1 I) kR kO)])) 19 (by kernel_rfl) (Sc.past rfl (Sc.stay hI (Sc.stayD hI))) (Sc.now (by kernel_rfl) (sI [0,1,2,4,5,6,7])) (V2.zz [21] (Zc.at1 hI) (fun hz18=>(V2.m (i:=20) (V':=fun _=>el kV (a1.toNat*1)) h (Nx2.of [21] (by kernel_rfl) rfl hz18) rfl rfl rfl (Y.indexM (g:=I) (l:=kU) Tryz.underlying23 sz3 rfl rfl (fun w hw=>As.at_ (hw.get (i:=3) rfl))) (fun x19 ex19 h=>(V2.eff (i:=21) (by kernel_rfl) rfl (L.storeSlM (q:=4) (row:=I) (vs:=[.int .i64 x1]) (j:=0) (u1:=x1) h sz3 rfl rfl rfl rfl rfl (all1 rfl all0) rfl ex19 rfl rfl ?_)))))))
 intro l20 el20 h
 refine L.nil (E.toV2 (stC [] [] (Cls w F [.obj pb0 [kM,kX,kV,kT,kQ,.int .i64 x1] 126,.sl kM 23 1 (zr svRow kL kK),.ss (zs (svSd 3 1 I) kL kK),.sl kT 3 1 (kP.map I),.sl kQ 23 1 (zr svRow kR kO),.ss (zs (svSd 3 1 I) kR kO)])) 21 (by kernel_rfl) (Sc.past rfl (Sc.stayD hI)) (Sc.atD (sI [0,1,2,5,6,7])) (V2.done (by kernel_rfl) (E.thenN (sr (L.r 3 rfl (L.y rfl (Y.fieldP fd126_3 rfl) (L.y rfl (Y.loadP (i:=0) ag23 rfl rfl rfl) (L.r 1 rfl (L.litOne rfl Tryz.underlying23 eL3 rfl rfl ?_)))))))))
 intro b21
 refine L.appM (i:=6) (g:=I) (l:=kP) (more:=[a1]) h rfl Tryz.underlying23 eL3 rfl rfl rfl (fun w hw=>As.at_ (hw.get (i:=0) rfl)) (plain_ints _) rfl ?_
 intro v22 l23 el23 h
 refine L.r 1 rfl (L.y rfl (Y.fieldP fd126_3 rfl) (L.storeV (i:=2) sz23 rfl rfl (fun _ hw=>(As.at_ (hw.get (i:=0) rfl)).one) rfl nb (ln (W.seqJ (fun gs D=>∃ gv1 gl2 gv3 gl4 gv5 gl6 gv7 gl8 gq9 gx10,gs=[(0,pt pb0 0),(1,.int .i64 a1)]∧D=Cls w F [.obj pb0 [kM,gv1,gv3,gv5,gv7,.int .i64 gx10] 126,.sl kM 23 1 (zr svRow kL kK),.ss (zs (svSd 3 1 I) kL kK),.sl gv1 3 1 (gl2.map I),.sl gv3 3 1 (gl4.map I),.sl gv5 3 1 (gl6.map I),.sl gv7 23 1 (zr svRow gq9 gl8),.ss (zs (svSd 3 1 I) gq9 gl8)]∧M78K1 a1 gl2 gl4 gl6 gl8 gx10=some r) ?_ ?_))))
 ·refine sr (L.r 2 rfl (L.y rfl (Y.fieldP fd126_0 rfl) (L.y rfl (Y.loadP (i:=2) ag111 rfl rfl rfl) (L.r 1 rfl (L.m (V:=fun _=>el kM (a1.toNat*1)) h rfl (Y.indexMZ (row:=svRow) (vs:=kL) (l:=kK) Tryz.underlying111 sz23 rfl rfl (fun w hw=>As.at_ (hw.get (i:=3) rfl))) (fun x41 ex41 h=>(L.y rfl (Y.loadE1 (u:=gv (kL a1.toNat) 0) ag23 rfl (fun w hw=>As.at_ (hw.get (i:=3) rfl)) (zr_idx (vs:=kL) ex41)) (L.y rfl (Y.lenM (g:=I) (l:=x41) Tryz.underlying23 rfl (fun w hw=>As.atZ (sds:=(svSd 3 1 I)) (vs:=kL) (j:=0) (c:=1) (hw.get (i:=4) rfl) (fun _ _=>rfl) ex41 rfl)) (L.r 1 rfl (ln (W.block (W.loopJ (fun m gs D=>∃ gx11 gv12 gl13 gv14 gl15 gv16 gl17 gv18 gl19 gq20 gx21,gs=[(0,pt pb0 0),(1,.int .i64 a1),(51,gv (kL a1.toNat) 0),(52,.int .i64 (x41.length:Int)),(53,.int .i64 gx11)]∧D=Cls w F [.obj pb0 [kM,gv12,gv14,gv16,gv18,.int .i64 gx21] 126,.sl kM 23 1 (zr svRow kL kK),.ss (zs (svSd 3 1 I) kL kK),.sl gv12 3 1 (gl13.map I),.sl gv14 3 1 (gl15.map I),.sl gv16 3 1 (gl17.map I),.sl gv18 23 1 (zr svRow gq20 gl19),.ss (zs (svSd 3 1 I) gq20 gl19)]∧M78L1 x41 rec kK a1 m gx11 gl13 gl15 gl17 gl19 gx21=some r) ⟨0,kX,l16,kV,l20,v22,l23,kQ,kO,kR,x1,rfl,rfl,h⟩ ⟨rfl,rfl,rfl,rfl,rfl,trivial⟩ (sI [2,3,4,5,6,0,7,8]) ?_))))))))))))
  rintro m _ _ ⟨gx11,gv12,gl13,gv14,gl15,gv16,gl17,gv18,gl19,gq20,gx21,rfl,rfl,h⟩
  rcases m with _ | m
  ·rw [M78L1] at h;cases h
  rw [M78L1] at h
  generalize hg1:M78L1 x41 rec kK a1 m=go1 at h
  rw [M78L1B] at h
  refine sr (L.ite h rfl (Y.lss rfl rfl) (fun c42 h=>?_) (fun c42 h=>?_))
  ·refine ln (W.seq (W.condT rfl (W.skip (E.thenN (W.seq (W.block (sr (L.m (V:=fun _=>el (gv (kL a1.toNat) 0) (gx11.toNat*1)) h rfl (Y.indexM (g:=I) (l:=x41) Tryz.underlying23 sz3 rfl rfl (fun w hw=>As.atZ (sds:=(svSd 3 1 I)) (vs:=kL) (j:=0) (c:=1) (hw.get (i:=2) rfl) (fun _ _=>rfl) ex41 rfl)) (fun x43 ex43 h=>(L.y rfl (Y.loadE1 (u:=.int .i64 x43) ag3 rfl (fun w hw=>As.atZ (sds:=(svSd 3 1 I)) (vs:=kL) (j:=0) (c:=1) (hw.get (i:=2) rfl) (fun _ _=>rfl) ex41 rfl) (idx_map ex43)) (L.r 1 rfl (L.nil ?_))))))))))))
   refine E.thenN (W.block (W.seqJ (fun gs D=>∃ gb22,gs=[(0,pt pb0 0),(1,.int .i64 a1),(5,.int .i64 x43),(51,gv (kL a1.toNat) 0),(52,.int .i64 (x41.length:Int)),(53,.int .i64 gx11),(57,.bool gb22)]∧D=Cls w F [.obj pb0 [kM,gv12,gv14,gv16,gv18,.int .i64 gx21] 126,.sl kM 23 1 (zr svRow kL kK),.ss (zs (svSd 3 1 I) kL kK),.sl gv12 3 1 (gl13.map I),.sl gv14 3 1 (gl15.map I),.sl gv16 3 1 (gl17.map I),.sl gv18 23 1 (zr svRow gq20 gl19),.ss (zs (svSd 3 1 I) gq20 gl19)]∧M78K2 rec kK gl13 gl15 gl17 gl19 gx21 x43 a1 gx11 go1 gb22=some r) ?_ ?_))
   ·refine W.region (L.r 2 rfl (L.y rfl (Y.fieldP fd126_1 rfl) (L.y rfl (Y.loadP (i:=0) ag23 rfl rfl rfl) (L.r 1 rfl (L.m (V:=fun _=>el gv12 (x43.toNat*1)) h rfl (Y.indexM (g:=I) (l:=gl13) Tryz.underlying23 sz3 rfl rfl (fun w hw=>As.at_ (hw.get (i:=3) rfl))) (fun x82 ex82 h=>(L.y rfl (Y.loadE1 (u:=.int .i64 x82) ag3 rfl (fun w hw=>As.at_ (hw.get (i:=3) rfl)) (idx_map ex82)) (L.ite h rfl (Y.eql rfl rfl) (fun c83 h=>?_) (fun c83 h=>?_)))))))))
    ·exact L.r 1 rfl (L.nil (E.jJ ⟨true,rfl,rfl,h⟩ hI))
    exact L.r 1 rfl (L.nil (E.jJ ⟨false,rfl,rfl,h⟩ hI))
   rintro _ _ ⟨gb22,rfl,rfl,h⟩
   rw [M78K2] at h
   rcases gb22 with _ | _
   ·replace h:=iteF h
    refine W.condF rfl (sr (L.r 2 rfl (L.y rfl (Y.fieldP fd126_3 rfl) (L.y rfl (Y.loadP (i:=0) ag23 rfl rfl rfl) (L.r 1 rfl ?_)))))
    obtain ⟨b44,e45,h⟩:=bind1S h
    refine L.y rfl (Y.does en95 rfl (fun w' hw=>(W95 gl17 x43 gv16 w' _ e45 (As.at_ (hw.get (i:=5) rfl))).mono (fun _ _ h=>h.1))) ?_
    rcases b44 with _ | _
    ·replace h:=iteF h
     exact L.r 1 rfl (ln (W.condF rfl (W.skip (E.blockN (E.blockN (E.thenN (W.region (L.m (V:=fun x46=>.int .i64 x46) h rfl (Y.addM rfl rfl) (fun x46 ex46 h=>(L.r 1 rfl (L.nil (E.aJ ⟨x46,gv12,gl13,gv14,gl15,gv16,gl17,gv18,gl19,gq20,gx21,rfl,rfl,by rw [hg1];exact h⟩ hI))))))))))))
    replace h:=iteT h
    refine L.r 1 rfl (ln (W.condT rfl (W.drawn2 (k:=22) (stC [[21]] [Cls w F [.obj pb0 [kM,gv12,gv14,gv16,gv18,.int .i64 gx21] 126,.sl kM 23 1 (zr svRow kL kK),.ss (zs (svSd 3 1 I) kL kK),.sl gv12 3 1 (gl13.map I),.sl gv14 3 1 (gl15.map I),.sl gv16 3 1 (gl17.map I),.sl gv18 23 1 (zr svRow gq20 gl19),.ss (zs (svSd 3 1 I) gq20 gl19)]] (Cls w F [.obj pb0 [kM,gv12,gv14,gv16,gv18,.int .i64 gx21] 126,.sl kM 23 1 (zr svRow kL kK),.ss (zs (svSd 3 1 I) kL kK),.sl gv12 3 1 (gl13.map I),.sl gv16 3 1 (gl17.map I),.sl gv18 23 1 (zr svRow gq20 gl19),.ss (zs (svSd 3 1 I) gq20 gl19)])) rfl mixed (fun _ hw=>hw.drew) (Sc.now (by kernel_rfl) hI) (V2.zz [] (Zc.on' (Zc.fin hI) (sI [0,1,2,3,5,6,7])) (fun hz52=>(V2.r [0,1] (by kernel_rfl) rfl (V2.q 2 [] hz52 rfl rfl (Y.fieldP fd126_2 rfl) (V2.q 3 [] hz52 rfl rfl (Y.loadP (i:=0) ag23 rfl rfl rfl) (V2.r [4,5,6] (by kernel_rfl) rfl (V2.q 7 [] hz52 rfl rfl (Y.fieldP fd126_2 rfl) (V2.q 8 [] hz52 rfl rfl (Y.loadP (i:=0) ag23 rfl rfl rfl) (V2.r [9] (by kernel_rfl) rfl (V2.zz [21] (Zc.at1 hI) (fun hz53=>?_))))))))))))))
    refine V2.m (i:=10) (V':=fun _=>el gv14 (a1.toNat*1)) h (Nx2.of [21] (by kernel_rfl) rfl hz53) rfl rfl rfl (Y.indexM (g:=I) (l:=gl15) Tryz.underlying23 sz3 rfl rfl (fun w hw=>As.at_ (hw.get (i:=4) rfl))) (fun x54 ex54 h=>(V2.q 11 [21] hz53 rfl rfl (Y.loadE1 (u:=.int .i64 x54) ag3 rfl (fun w hw=>As.at_ (hw.get (i:=4) rfl)) (idx_map ex54)) (V2.r [12,13] (by kernel_rfl) rfl (V2.q 14 [] hz52 rfl rfl (Y.fieldP fd126_1 rfl) (V2.q 15 [] hz52 rfl rfl (Y.loadP (i:=0) ag23 rfl rfl rfl) (V2.r [16] (by kernel_rfl) rfl (V2.m (i:=17) (V':=fun _=>el gv12 (x43.toNat*1)) h (Nx2.of [] (by kernel_rfl) rfl hz52) rfl rfl rfl (Y.indexM (g:=I) (l:=gl13) Tryz.underlying23 sz3 rfl rfl (fun w hw=>As.at_ (hw.get (i:=3) rfl))) (fun x55 ex55 h=>(V2.q 18 [] hz52 rfl rfl (Y.loadE1 (u:=.int .i64 x55) ag3 rfl (fun w hw=>As.at_ (hw.get (i:=3) rfl)) (idx_map ex55)) (V2.q 19 [] hz52 rfl rfl (Y.min2 rfl rfl) (V2.m (i:=20) (V':=fun _=>el gv14 (a1.toNat*1)) h (Nx2.of [21] (by kernel_rfl) rfl hz53) rfl rfl rfl (Y.indexM (g:=I) (l:=gl15) Tryz.underlying23 sz3 rfl rfl (fun w hw=>As.at_ (hw.get (i:=4) rfl))) (fun x56 ex56 h=>(V2.eff (i:=21) (by kernel_rfl) rfl (L.storeSlM (q:=4) (row:=I) (vs:=[.int .i64 (min x54 x55)]) (j:=0) (u1:=(min x54 x55)) h sz3 rfl rfl rfl rfl rfl (all1 rfl all0) rfl ex56 rfl rfl ?_))))))))))))))
    intro l57 el57 h
    exact L.nil (E.toV2 (stC [] [] (Cls w F [.obj pb0 [kM,gv12,gv14,gv16,gv18,.int .i64 gx21] 126,.sl kM 23 1 (zr svRow kL kK),.ss (zs (svSd 3 1 I) kL kK),.sl gv12 3 1 (gl13.map I),.sl gv16 3 1 (gl17.map I),.sl gv18 23 1 (zr svRow gq20 gl19),.ss (zs (svSd 3 1 I) gq20 gl19)])) 21 (by kernel_rfl) (Sc.past rfl (Sc.stayD hI)) (Sc.atD (sI [0,1,2,3,5,6,7])) (V2.done (by kernel_rfl) (E.blockN (E.blockN (E.thenN (W.region (L.m (V:=fun x58=>.int .i64 x58) h rfl (Y.addM rfl rfl) (fun x58 ex58 h=>(L.r 1 rfl (L.nil (E.aJ ⟨x58,gv12,gl13,gv14,l57,gv16,gl17,gv18,gl19,gq20,gx21,rfl,rfl,by rw [hg1];exact h⟩ hI)))))))))))
   replace h:=iteT h
   refine W.condT rfl (sr (L.r 2 rfl ?_))
   obtain ⟨l59,l60,l61,l62,x63,e64,h⟩:=bind5S h
   refine L.doesP (A:=[.obj pb0 [kM,gv12,gv14,gv16,gv18,.int .i64 gx21] 126,.sl kM 23 1 (zr svRow kL kK),.ss (zs (svSd 3 1 I) kL kK),.sl gv12 3 1 (gl13.map I),.sl gv14 3 1 (gl15.map I),.sl gv16 3 1 (gl17.map I),.sl gv18 23 1 (zr svRow gq20 gl19),.ss (zs (svSd 3 1 I) gq20 gl19)]) (M:=[]) rfl en78 rfl (fun w' hw=>ih kK gl13 gl15 gl17 gl19 gx21 x43 pb0 kM kL gv12 gv14 gv16 gv18 gq20 w' _ e64 _ hw.lend) ?_
   rintro _ _ ⟨v65,v66,v67,v68,q69,rfl,rfl⟩
   refine L.to (D:=Cls w F [.obj pb0 [kM,v65,v66,v67,v68,.int .i64 x63] 126,.sl kM 23 1 (zr svRow kL kK),.ss (zs (svSd 3 1 I) kL kK),.sl v65 3 1 (l59.map I),.sl v66 3 1 (l60.map I),.sl v67 3 1 (l61.map I),.sl v68 23 1 (zr svRow q69 l62),.ss (zs (svSd 3 1 I) q69 l62)]) hI (ln (W.drawn2 (k:=22) (stC [[21]] [Cls w F [.obj pb0 [kM,v65,v66,v67,v68,.int .i64 x63] 126,.sl kM 23 1 (zr svRow kL kK),.ss (zs (svSd 3 1 I) kL kK),.sl v65 3 1 (l59.map I),.sl v66 3 1 (l60.map I),.sl v67 3 1 (l61.map I),.sl v68 23 1 (zr svRow q69 l62),.ss (zs (svSd 3 1 I) q69 l62)]] (Cls w F [.obj pb0 [kM,v65,v66,v67,v68,.int .i64 x63] 126,.sl kM 23 1 (zr svRow kL kK),.ss (zs (svSd 3 1 I) kL kK),.sl v65 3 1 (l59.map I),.sl v67 3 1 (l61.map I),.sl v68 23 1 (zr svRow q69 l62),.ss (zs (svSd 3 1 I) q69 l62)])) rfl mixed (fun _ hw=>hw.drew) (Sc.now (by kernel_rfl) hI) (V2.zz [] (Zc.on' (Zc.fin hI) (sI [0,1,2,3,5,6,7])) (fun hz75=>(V2.r [0,1] (by kernel_rfl) rfl (V2.q 2 [] hz75 rfl rfl (Y.fieldP fd126_2 rfl) (V2.q 3 [] hz75 rfl rfl (Y.loadP (i:=0) ag23 rfl rfl rfl) (V2.r [4,5,6] (by kernel_rfl) rfl (V2.q 7 [] hz75 rfl rfl (Y.fieldP fd126_2 rfl) (V2.q 8 [] hz75 rfl rfl (Y.loadP (i:=0) ag23 rfl rfl rfl) (V2.r [9] (by kernel_rfl) rfl (V2.zz [21] (Zc.at1 hI) (fun hz76=>(V2.m (i:=10) (V':=fun _=>el v66 (a1.toNat*1)) h (Nx2.of [21] (by kernel_rfl) rfl hz76) rfl rfl rfl (Y.indexM (g:=I) (l:=l60) Tryz.underlying23 sz3 rfl rfl (fun w hw=>As.at_ (hw.get (i:=4) rfl))) (fun x77 ex77 h=>?_)))))))))))))))
   refine V2.q 11 [21] hz76 rfl rfl (Y.loadE1 (u:=.int .i64 x77) ag3 rfl (fun w hw=>As.at_ (hw.get (i:=4) rfl)) (idx_map ex77)) (V2.r [12,13] (by kernel_rfl) rfl (V2.q 14 [] hz75 rfl rfl (Y.fieldP fd126_2 rfl) (V2.q 15 [] hz75 rfl rfl (Y.loadP (i:=0) ag23 rfl rfl rfl) (V2.r [16] (by kernel_rfl) rfl (V2.m (i:=17) (V':=fun _=>el v66 (x43.toNat*1)) h (Nx2.of [21] (by kernel_rfl) rfl hz76) rfl rfl rfl (Y.indexM (g:=I) (l:=l60) Tryz.underlying23 sz3 rfl rfl (fun w hw=>As.at_ (hw.get (i:=4) rfl))) (fun x78 ex78 h=>(V2.q 18 [21] hz76 rfl rfl (Y.loadE1 (u:=.int .i64 x78) ag3 rfl (fun w hw=>As.at_ (hw.get (i:=4) rfl)) (idx_map ex78)) (V2.q 19 [] hz75 rfl rfl (Y.min2 rfl rfl) (V2.m (i:=20) (V':=fun _=>el v66 (a1.toNat*1)) h (Nx2.of [21] (by kernel_rfl) rfl hz76) rfl rfl rfl (Y.indexM (g:=I) (l:=l60) Tryz.underlying23 sz3 rfl rfl (fun w hw=>As.at_ (hw.get (i:=4) rfl))) (fun x79 ex79 h=>(V2.eff (i:=21) (by kernel_rfl) rfl (L.storeSlM (q:=4) (row:=I) (vs:=[.int .i64 (min x77 x78)]) (j:=0) (u1:=(min x77 x78)) h sz3 rfl rfl rfl rfl rfl (all1 rfl all0) rfl ex79 rfl rfl ?_))))))))))))
   intro l80 el80 h
   exact L.nil (E.toV2 (stC [] [] (Cls w F [.obj pb0 [kM,v65,v66,v67,v68,.int .i64 x63] 126,.sl kM 23 1 (zr svRow kL kK),.ss (zs (svSd 3 1 I) kL kK),.sl v65 3 1 (l59.map I),.sl v67 3 1 (l61.map I),.sl v68 23 1 (zr svRow q69 l62),.ss (zs (svSd 3 1 I) q69 l62)])) 21 (by kernel_rfl) (Sc.past rfl (Sc.stayD hI)) (Sc.atD (sI [0,1,2,3,5,6,7])) (V2.done (by kernel_rfl) (E.blockN (E.blockN (E.thenN (W.region (L.m (V:=fun x81=>.int .i64 x81) h rfl (Y.addM rfl rfl) (fun x81 ex81 h=>(L.r 1 rfl (L.nil (E.aJ ⟨x81,v65,l59,v66,l80,v67,l61,v68,l62,q69,x63,rfl,rfl,by rw [hg1];exact h⟩ hI)))))))))))
  exact ln (W.seq (W.condF rfl (W.exit (E.thenX (E.KLX (E.blockX (E.jJ ⟨gv12,gl13,gv14,gl15,gv16,gl17,gv18,gl19,gq20,gx21,rfl,rfl,h⟩ hI)))))))
 rintro _ _ ⟨gv1,gl2,gv3,gl4,gv5,gl6,gv7,gl8,gq9,gx10,rfl,rfl,h⟩
 rw [M78K1] at h
 refine W.seq (W.quietC mixed (by kernel_rfl) (fun _ hw=>hw.drew) (fun hC=>(U.r 2 rfl (U.y rfl (Y.fieldP fd126_2 rfl) (U.y rfl (Y.loadP (i:=0) ag23 rfl rfl rfl) (U.r 1 rfl (U.m (V:=fun _=>el gv3 (a1.toNat*1)) h rfl (Y.indexM (g:=I) (l:=gl4) Tryz.underlying23 sz3 rfl rfl (fun w hw=>As.at_ (hw.get (i:=4) rfl))) (fun x24 ex24 h=>(U.y rfl (Y.loadE1 (u:=.int .i64 x24) ag3 rfl (fun w hw=>As.at_ (hw.get (i:=4) rfl)) (idx_map ex24)) (U.r 2 rfl (U.y rfl (Y.fieldP fd126_1 rfl) (U.y rfl (Y.loadP (i:=0) ag23 rfl rfl rfl) (U.r 1 rfl (U.m (V:=fun _=>el gv1 (a1.toNat*1)) h rfl (Y.indexM (g:=I) (l:=gl2) Tryz.underlying23 sz3 rfl rfl (fun w hw=>As.at_ (hw.get (i:=3) rfl))) (fun x25 ex25 h=>(U.y rfl (Y.loadE1 (u:=.int .i64 x25) ag3 rfl (fun w hw=>As.at_ (hw.get (i:=3) rfl)) (idx_map ex25)) ?_))))))))))))))))
 refine U.ite h rfl (Y.eql rfl rfl) (fun c26 h=>?_) (fun c26 h=>?_)
 ·refine U.nil (E.thenN (W.condT rfl (sr (L.r 2 rfl (L.y rfl (Y.fieldP fd126_3 rfl) (L.y rfl (Y.loadP (i:=0) ag23 rfl rfl rfl) (L.r 1 rfl ?_)))))))
  obtain ⟨x27,e28,h⟩:=bind1S h
  refine L.y rfl (Y.does en96 rfl (fun w' hw=>(W96 gl6 a1 gv5 w' _ e28 (As.at_ (hw.get (i:=5) rfl))).mono (fun _ _ h=>h.1))) (L.r 1 rfl (nsr (L.r 2 rfl (L.y rfl (Y.fieldP fd126_3 rfl) (L.y rfl (Y.loadP (i:=0) ag23 rfl rfl rfl) (L.r 1 rfl (L.m (V:=fun _=>dropv gv5 x27.toNat 1) h rfl (Y.dropM (g:=I) Tryz.underlying23 sz3 rfl rfl (fun w hw=>As.at_ (hw.get (i:=5) rfl))) (fun l29 el29 h=>?_))))))))
  obtain ⟨l30,e32,h⟩:=bind1S h
  refine L.does rfl en97 rfl (fun w' hw=>W97 l29 (dropv gv5 x27.toNat 1) w' _ e32 (((As.at_ (hw.get (i:=5) rfl)).dropM el29))) ?_
  rintro v31 _ ⟨_,rfl,rfl⟩
  refine L.r 1 rfl (nsr (L.r 1 rfl (L.sortMD (i:=0) (l:=l30) h wSort rfl en44 rfl rfl ?_)))
  intro l33 el33 h
  refine nsr (L.r 3 rfl (L.y rfl (Y.fieldP fd126_4 rfl) (L.y rfl (Y.loadP (i:=1) ag111 rfl rfl rfl) (L.r 1 rfl (L.litOneC rfl Tryz.underlying111 eL23 rfl (fun w hw=>At.cells1 (As.at_ (hw.get (i:=0) rfl))) ?_)))))
  intro b35
  refine L.to (D:=Cls w F [.sl v31 3 1 (l33.map I),.sl (sv b35 1) 23 1 (zr svRow (fun _=>[v31]) ([l33])),.obj pb0 [kM,gv1,gv3,gv5,gv7,.int .i64 gx10] 126,.sl kM 23 1 (zr svRow kL kK),.ss (zs (svSd 3 1 I) kL kK),.sl gv1 3 1 (gl2.map I),.sl gv3 3 1 (gl4.map I),.sl gv5 3 1 (gl6.map I),.sl gv7 23 1 (zr svRow gq9 gl8),.ss (zs (svSd 3 1 I) gq9 gl8)]) (sI [1,0,2,3,4,5,6,7,8,9]) (L.gath [⟨v31,3,1,l33.map I⟩] (L.to (D:=Cls w F [.ss (zs (svSd 3 1 I) (fun _=>[v31]) ([l33])),.sl (sv b35 1) 23 1 (zr svRow (fun _=>[v31]) ([l33])),.obj pb0 [kM,gv1,gv3,gv5,gv7,.int .i64 gx10] 126,.sl kM 23 1 (zr svRow kL kK),.ss (zs (svSd 3 1 I) kL kK),.sl gv1 3 1 (gl2.map I),.sl gv3 3 1 (gl4.map I),.sl gv5 3 1 (gl6.map I),.sl gv7 23 1 (zr svRow gq9 gl8),.ss (zs (svSd 3 1 I) gq9 gl8)]) hI (L.to (D:=Cls w F [.sl gv7 23 1 (zr svRow gq9 gl8),.ss (zs (svSd 3 1 I) gq9 gl8),.sl (sv b35 1) 23 1 (zr svRow (fun _=>[v31]) ([l33])),.ss (zs (svSd 3 1 I) (fun _=>[v31]) ([l33])),.obj pb0 [kM,gv1,gv3,gv5,gv7,.int .i64 gx10] 126,.sl kM 23 1 (zr svRow kL kK),.ss (zs (svSd 3 1 I) kL kK),.sl gv1 3 1 (gl2.map I),.sl gv3 3 1 (gl4.map I),.sl gv5 3 1 (gl6.map I)]) (sI [8,9,1,0,2,3,4,5,6,7]) (L.appZ (row:=svRow) (sds:=(svSd 3 1 I)) (vs:=gq9) (vs2:=(fun _=>[v31])) (l:=gl8) (l2:=[l33]) h rfl Tryz.underlying111 eL23 rfl rfl rfl (fun w hw=>plain_zr plz_sv (As.ssOne (hw.get (i:=3) rfl))) ?_))))
  intro v37 q38 l36 el36 h
  refine L.r 1 rfl (L.y rfl (Y.fieldP fd126_4 rfl) (L.storeV (i:=2) sz111 rfl rfl (fun _ hw=>(As.at_ (hw.get (i:=0) rfl)).one) rfl nb (nr (L.r 3 rfl (L.y rfl (Y.fieldP fd126_3 rfl) (L.y rfl (Y.loadP (i:=2) ag23 rfl rfl rfl) (L.r 1 rfl ?_)))))))
  obtain ⟨l39,el39,h⟩:=bind1S h
  refine L.cutM (i:=7) (g:=I) el39 rfl Tryz.underlying23 sz3 rfl rfl rfl (fun v40=>(L.r 1 rfl (L.y rfl (Y.fieldP fd126_3 rfl) (L.storeV (i:=2) sz23 rfl rfl (fun _ hw=>(As.at_ (hw.get (i:=7) rfl)).one) rfl nb (L.nil (E.end0 rfl (fun w1 hw=>?_)))))))
  cases h
  exact ⟨_,_,rfl,⟨_,_,_,_,_,rfl,rfl⟩,hw.s [2,3,4,5,6,7,0,1]⟩
 refine U.nil (E.thenN (W.condF rfl (W.skip (E.end0 rfl (fun w1 hw=>?_)))))
 cases h
 exact ⟨_,_,rfl,⟨_,_,_,_,_,rfl,rfl⟩,hw⟩
theorem W78 (kK:(List (List Int))) (kW:(List Int)) (kU:(List Int)) (kP:(List Int)) (kO:(List (List Int))) (kY:Int) (a1:Int) (pb0:Nat) (kM:Value) (kL:Nat→List Value) (kX:Value) (kV:Value) (kT:Value) (kQ:Value) (kR:Nat→List Value) (w:World) (r:((List Int)×(List Int)×(List Int)×(List (List Int))×Int)) (h:M78 kK kW kU kP kO kY a1=some r) (F:List Nat) (hc0:Cls w F [.obj pb0 [kM,kX,kV,kT,kQ,.int .i64 kY] 126,.sl kM 23 1 (zr svRow kL kK),.ss (zs (svSd 3 1 I) kL kK),.sl kX 3 1 (kW.map I),.sl kV 3 1 (kU.map I),.sl kT 3 1 (kP.map I),.sl kQ 23 1 (zr svRow kR kO),.ss (zs (svSd 3 1 I) kR kO)] w):DoesF Tryz.prog 78 [pt pb0 0,.int .i64 a1] F w fun u m=>∃ y1 y2 y3 y4 z4,u=.tuple #[]∧m=[.obj pb0 [kM,y1,y2,y3,y4,.int .i64 r.2.2.2.2] 126,.sl kM 23 1 (zr svRow kL kK),.ss (zs (svSd 3 1 I) kL kK),.sl y1 3 1 (r.1.map I),.sl y2 3 1 (r.2.1.map I),.sl y3 3 1 (r.2.2.1.map I),.sl y4 23 1 (zr svRow z4 r.2.2.2.1),.ss (zs (svSd 3 1 I) z4 r.2.2.2.1)]:=W78a big kK kW kU kP kO kY a1 pb0 kM kL kX kV kT kQ kR w r h F hc0
set_option maxRecDepth 100000 in
set_option maxHeartbeats 8000000 in
theorem W80 (a0:(List Int)) (a1:(List Int)) (u0:Value) (u1:Value) (w:World) (r:Int) (h:M80 a0 a1=some r) (hA0:At w u0 1 (a0.map I)) (hA1:At w u1 1 (a1.map I)):Does Tryz.prog 80 [u0,u1] w fun u m=>u=.int .i64 r∧m=[]:=by
 rw [M80] at h
 refine body (n:=12) Tryz.func80 rfl rfl rfl (Cls.refl w) (sr (L.r 1 rfl (ln (W.seq (W.quietC mixed (by kernel_rfl) (fun _ hw=>hw.drew) (fun hC=>(U.r 1 rfl (U.m (V:=fun _=>el u0 ((0:Int).toNat*1)) h rfl (Y.indexM (g:=I) (l:=a0) Tryz.underlying23 sz3 rfl rfl (fun w' hw=>hA0.cls0 hw)) (fun x1 ex1 h=>(U.y rfl (Y.loadE1 (u:=.int .i64 x1) ag3 rfl (fun w' hw=>hA0.cls0 hw) (idx_map ex1)) (U.r 1 rfl (U.m (V:=fun _=>el u1 ((0:Int).toNat*1)) h rfl (Y.indexM (g:=I) (l:=a1) Tryz.underlying23 sz3 rfl rfl (fun w' hw=>hA1.cls0 hw)) (fun x2 ex2 h=>(U.y rfl (Y.loadE1 (u:=.int .i64 x2) ag3 rfl (fun w' hw=>hA1.cls0 hw) (idx_map ex2)) ?_))))))))))))))
 refine U.m (V:=fun x3=>.int .i64 x3) h rfl (Y.subM rfl rfl) (fun x3 ex3 h=>(U.r 1 rfl (U.nil (E.thenN (W.ret (E.ret1 rfl rfl (fun w1 hw=>?_)))))))
 cases h
 exact ⟨_,_,rfl,⟨rfl,rfl⟩,hw⟩
end Go.Proofs.YtlecphianicdhaaGreat
