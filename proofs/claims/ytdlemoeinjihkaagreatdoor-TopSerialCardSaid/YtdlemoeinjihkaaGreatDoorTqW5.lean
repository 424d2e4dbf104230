import Derived.Test.YtdlemoeinjihkaaGreatDoorTqW4
import Derived.Test.YtdlemoeinjihkaaGreatDoorChecked
import Derived.KernelRfl
import Derived.Test.YtdlemoeinjihkaaGreatDoorZf
namespace Go.Proofs.YtdlemoeinjihkaaGreatDoor
open Go.S
set_option linter.unusedVariables false
set_option linter.unusedSimpArgs false
set_option maxRecDepth 100000 in
set_option maxHeartbeats 8000000 in
theorem W11 (a0:(List TOp)) (a1:(List TDid)) (u0:Value) (u1:Value) (K:World→Prop) (w:World) (hK:StbF K w []) (r:(TStory×Int)) (h:M11 a0 a1=some r) (hA0:Fz K [] u0 3 (a0.map TOp.row)) (hA1:Fz K [] u1 2 (a1.map TDid.row)):Does Tryz.prog 11 [u0,u1] w fun u m=>∃ c,m=[.os c]∧∃ v0 q0 v1 q1,u=.tuple #[.agg #[v0,v1],.int .i64 r.2]∧Fz K c v0 2 (zr TTale.rowv q0 r.1.Tales)∧FzA K c (zs TTale.sds q0 r.1.Tales)∧Fz K c v1 1 (zr qh q1 r.1.Versions)∧FzA K c (zs (qF 3 1 I) q1 r.1.Versions):=by
 rw [M11] at h
 refine body (n:=181) Tryz.func11 rfl rfl rfl (Cls.reflF w) (sr (L.alloc rfl qnK ?_))
 intro b1
 refine L.r 1 rfl (ln (W.seq (sr (L.r 1 rfl (L.y rfl (Y.lenM (g:=TOp.row) (l:=a0) Tryz.underlying29 rfl (fun w' hw=>(hA0.up.clsP hK hw rfl))) (L.r 1 rfl (L.y rfl (Y.lenM (g:=TDid.row) (l:=a1) Tryz.underlying30 rfl (fun w' hw=>(hA1.up.clsP hK hw rfl))) (L.ite h rfl (Y.neq rfl rfl) (fun c2 h=>?_) (fun c2 h=>?_)))))))))
 ·refine L.r 5 rfl (ln (W.condT rfl (sr (L.y rfl (Y.build (cells:=#[tQm,tQm]) rfl (by kernel_rfl)) (L.sv (i:=0) (vs:=[tQm,tQm]) wh rfl rfl rfl rfl rfl nb (L.r 1 rfl (ln (W.ret (E.thenR (E.retR2 rfl (Rv.cellW (i:=0) qfn wh rfl rfl rfl) (Rv.tmp rfl) (fun w1 hw=>?_)))))))))))
  cases h
  exact ⟨_,_,rfl,⟨[],rfl,(tQm),(fun _=>[]),(tQm),(fun _=>[]),rfl,Fz.nil,FzA.nil,Fz.nil,FzA.nil⟩,hw.s [1]⟩
 refine L.r 2 rfl (L.take rfl (L.y rfl (Y.lenM (g:=TOp.row) (l:=a0) Tryz.underlying29 rfl (fun w' hw=>(hA0.up.clsP hK hw rfl))) (L.take rfl (L.ite h rfl (Y.gtr rfl rfl) (fun c3 h=>?_) (fun c3 h=>?_)))))
 ·refine L.r 1 rfl (ln (W.condT rfl (sr (L.y rfl (Y.build (cells:=#[tQm,tQm]) rfl (by kernel_rfl)) (L.sv (i:=0) (vs:=[tQm,tQm]) wh rfl rfl rfl rfl rfl nb (L.r 1 rfl (ln (W.ret (E.thenR (E.retR2 rfl (Rv.cellW (i:=0) qfn wh rfl rfl rfl) (Rv.tmp rfl) (fun w1 hw=>?_)))))))))))
  cases h
  exact ⟨_,_,rfl,⟨[],rfl,(tQm),(fun _=>[]),(tQm),(fun _=>[]),rfl,Fz.nil,FzA.nil,Fz.nil,FzA.nil⟩,hw.s [1]⟩
 refine L.r 1 rfl (ln (W.condF rfl (W.skip (E.thenN (sr (L.makeMap rfl ?_))))))
 intro b4
 refine L.tsNew TGot.row (fun _=>tQm) (fun _=>0) 92 90 2 (L.to (D:=Cls w [] [.any (zA [] (fun _=>tQm) 92 2 (qC TGot.row []) (zs TTale.sds (fun _=>[]) [])),.os (zv (fun _=>0) (fun _=>tQm) 90 []),.mp b4 (km (VT (fun _=>0)) (tk [])),qjG b1,.os []]) hI (L.r 1 rfl (nsr (L.alloc rfl qph ?_))))
 intro b5
 refine L.ssNew (row:=qh) (sds:=(qF 3 1 I)) (vs:=(fun _=>[xn])) (xs:=(List.replicate 12 ([]:(List Int)))) rfl (zb (qiK rfl rfl ji) _) (nsr ?_)
 obtain ⟨l6,el6,h⟩:=qc h
 refine L.makeZ (row:=qh) (sds:=(qF 3 1 I)) (nv:=[xn]) (z0:=([]:(List Int))) el6 rfl Tryz.underlying47 qoX qoN rfl rfl rfl (qiK rfl rfl ji) ?_
 intro b7
 refine L.y rfl (Y.buildC (cells:=#[tQm,(sv b7 (20:Int).toNat)]) rfl (fun w hw=>by rcases ((As.at_ (hw.get (i:=0) rfl))).shape with ⟨h0,_⟩ | ⟨_,_,h0,_,_⟩ <;> simp only [h0] <;> kernel_rfl)) (L.alloc rfl qnK ?_)
 intro b8
 refine L.storeC (i:=0) wh rfl rfl rfl rfl (fun w hw=>(qT rfl (qT (As.at_ (hw.get (i:=1) rfl)).one za))) rfl nb (ln (W.seqJ (fun gs D=>∃ gv1 gl2 gq3 gl4 gq5 gl6 gq7 gq8 gl9 gq10,gs=[(4,pt b1 0),(8,pt b8 0)]∧D=Cls w [] (tQX b8 gv1 b7::tQc b4 gq7 gl6 gq8 gq10 gl9 gq3 gl2 b1 gv1 b7 gq5 gl4)∧qhK gl2 gl4 gl6 gl9=some r) ?_ ?_))
 ·refine sr (L.r 1 rfl (L.y rfl (Y.lenM (g:=TOp.row) (l:=a0) Tryz.underlying29 rfl (fun w' hw=>(hA0.up.clsP hK hw rfl))) (L.r 1 rfl (ln (W.block (W.nilSl 90 2 (W.loopJ (fun m gs D=>∃ gx11 gv12 gl13 gq14 gl15 gq16 gl17 gq18 gl19 gq20 gq21 gl22 gq23,gs=((1,u1)::(4,pt b1 0)::(6,tQJ b4)::(7,pt b5 0)::(8,pt b8 0)::qnk u0 a0 gx11)∧D=Cls w [] (tQX b8 gv12 b7::xV b5 gq18 gl17::tQW gq18 gl17::tQc b4 gq20 gl19 gq21 gq23 gl22 gq14 gl13 b1 gv12 b7 gq16 gl15)∧wc a0 a1 m gx11 gl13 gl15 gl17 gl19 gl22=some r) ⟨0,tQm,[],(fun _=>[]),l6,(fun _=>[xn]),(List.replicate 12 ([]:(List Int))),(fun _=>[xn]),[],(fun _=>0),(fun _=>tQm),[],[],rfl,rfl,h⟩ ⟨rfl,rfl,rfl,rfl,rfl,rfl,rfl,rfl,trivial⟩ (sI [1,4,5,8,7,6,9,0,2,3,10]) ?_)))))))
  rintro m _ _ ⟨gx11,gv12,gl13,gq14,gl15,gq16,gl17,gq18,gl19,gq20,gq21,gl22,gq23,rfl,rfl,h⟩
  rcases m with _ | m
  ·rw [wc] at h;cases h
  rw [wc] at h
  generalize hg1:wc a0 a1 m=go1 at h
  rw [qed] at h
  refine sr (L.ite h rfl (Y.lss rfl rfl) (fun c27 h=>?_) (fun c27 h=>?_))
  ·refine ln (W.seq (W.condT rfl (W.skip (E.thenN (W.seqJ (fun gs D=>∃ gv24 gl25 gq26 gl27 gq28 gl29 gq30 gl31 gq32 gq33 gl34 gq35,gs=((1,u1)::(4,pt b1 0)::(6,tQJ b4)::(7,pt b5 0)::(8,pt b8 0)::qnk u0 a0 gx11)∧D=Cls w [] (tQX b8 gv24 b7::xV b5 gq30 gl29::tQW gq30 gl29::tQc b4 gq32 gl31 gq33 gq35 gl34 gq26 gl25 b1 gv24 b7 gq28 gl27)∧qbt gx11 go1 gl25 gl27 gl29 gl31 gl34=some r) ?_ ?_)))))
   ·refine W.block (sr (L.r 1 rfl (L.m (V:=fun _=>el u0 (gx11.toNat*3)) h rfl (Y.indexM (g:=TOp.row) (l:=a0) Tryz.underlying29 qmm rfl rfl (fun w' hw=>(hA0.up.clsP hK hw rfl))) (fun x29 ex29 h=>(L.y rfl (Y.loadEN (r:=[.int .i64 x29.Tx,.int .i64 x29.Kind,.int .i64 x29.Item]) qo2 qmm rfl (fun w' hw=>(hA0.up.clsP hK hw rfl)) (qf ex29) rfl) (L.alloc rfl qoO ?_))))))
    intro b30
    refine L.r 1 rfl (L.sv (i:=0) (vs:=[.int .i64 x29.Tx,.int .i64 x29.Kind,.int .i64 x29.Item]) qmm rfl rfl rfl rfl rfl nb (ln (W.seq (sr (L.cutJ 8 (fun gs D=>∃ gb36,gs=[(1,u1),(4,pt b1 0),(6,tQJ b4),(7,pt b5 0),(8,pt b8 0),(9,qI gx11),(10,pt b30 0),(27,u0),(28,.int .i64 (a0.length:Int)),(29,qI gx11),(41,.bool gb36)]∧D=Cls w [] (tQQ b30 x29::tQX b8 gv12 b7::xV b5 gq18 gl17::tQW gq18 gl17::tQc b4 gq20 gl19 gq21 gq23 gl22 gq14 gl13 b1 gv12 b7 gq16 gl15)∧qbs x29 gl19 gl22 a1 gx11 go1 gl13 gl15 gl17 gb36=some r) ?_ ?_)))))
    ·refine L.y rfl (Y.fieldP zX rfl) (L.y rfl (Y.loadP (i:=0) ag3 rfl rfl rfl) (L.ite h rfl (Y.lss rfl rfl) (fun c183 h=>?_) (fun c183 h=>?_)))
     ·exact L.r 5 rfl (L.nil (E.jJ ⟨true,rfl,rfl,h⟩ hI))
     refine L.r 1 rfl (L.take rfl (L.y rfl (Y.fieldP zX rfl) (L.take rfl (L.y rfl (Y.loadP (i:=0) ag3 rfl rfl rfl) (L.take rfl (L.ite h rfl (Y.geq rfl rfl) (fun c184 h=>?_) (fun c184 h=>?_)))))))
     ·exact L.r 1 rfl (L.nil (E.jJ ⟨true,rfl,rfl,h⟩ hI))
     exact L.r 1 rfl (L.nil (E.jJ ⟨false,rfl,rfl,h⟩ hI))
    rintro _ _ ⟨gb36,rfl,rfl,h⟩
    rw [qbs] at h
    rcases gb36 with _ | _
    ·replace h:=zn h
     refine L.r 1 rfl (L.take rfl (L.y rfl (Y.fieldP wV rfl) (L.take rfl (L.y rfl (Y.loadP (i:=0) ag3 rfl rfl rfl) (L.take rfl (L.ite h rfl (Y.lss rfl rfl) (fun c31 h=>?_) (fun c31 h=>?_)))))))
     ·refine L.r 6 rfl (ln (W.condT rfl (sr (L.y rfl (Y.build (cells:=#[tQm,tQm]) rfl (by kernel_rfl)) (L.sv (i:=7) (vs:=[tQm,tQm]) wh rfl rfl rfl rfl rfl nb (L.r 1 rfl (ln (W.ret (E.thenR (E.blockR ?_))))))))))
      refine E.KSR (E.KLR (E.blockR (E.KSR (E.retR2 rfl (Rv.cellW (i:=7) qfn wh rfl rfl rfl) (Rv.tmp rfl) (fun w1 hw=>?_)))))
      cases h
      exact ⟨_,_,rfl,⟨[],rfl,(tQm),(fun _=>[]),(tQm),(fun _=>[]),rfl,Fz.nil,FzA.nil,Fz.nil,FzA.nil⟩,hw.s [11]⟩
     refine L.r 2 rfl (L.take rfl (L.y rfl (Y.fieldP wV rfl) (L.take rfl (L.y rfl (Y.loadP (i:=0) ag3 rfl rfl rfl) (L.take rfl (L.ite h rfl (Y.geq rfl rfl) (fun c32 h=>?_) (fun c32 h=>?_)))))))
     ·refine L.r 1 rfl (ln (W.condT rfl (sr (L.y rfl (Y.build (cells:=#[tQm,tQm]) rfl (by kernel_rfl)) (L.sv (i:=7) (vs:=[tQm,tQm]) wh rfl rfl rfl rfl rfl nb (L.r 1 rfl (ln (W.ret (E.thenR (E.blockR ?_))))))))))
      refine E.KSR (E.KLR (E.blockR (E.KSR (E.retR2 rfl (Rv.cellW (i:=7) qfn wh rfl rfl rfl) (Rv.tmp rfl) (fun w1 hw=>?_)))))
      cases h
      exact ⟨_,_,rfl,⟨[],rfl,(tQm),(fun _=>[]),(tQm),(fun _=>[]),rfl,Fz.nil,FzA.nil,Fz.nil,FzA.nil⟩,hw.s [11]⟩
     refine L.r 1 rfl (ln (W.condF rfl (W.skip (E.thenN (W.seqJ (fun gs D=>∃ gl37 gq38 gq39 gl40,gs=((1,u1)::(4,pt b1 0)::(6,tQJ b4)::(7,pt b5 0)::(8,pt b8 0)::(9,qI gx11)::(10,pt b30 0)::qnk u0 a0 gx11)∧D=Cls w [] (tQQ b30 x29::tQX b8 gv12 b7::xV b5 gq18 gl17::tQW gq18 gl17::tQc b4 gq38 gl37 gq39 gq23 gl40 gq14 gl13 b1 gv12 b7 gq16 gl15)∧qfd x29 a1 gx11 go1 gl13 gl15 gl17 gl37 gl40=some r) ?_ ?_)))))
     ·refine sr (L.r 1 rfl (L.y rfl (Y.fieldP zX rfl) (L.y rfl (Y.loadP (i:=0) ag3 rfl rfl rfl) (L.y rfl (Y.lookupM (i:=4) (g:=VT gq20) (lm:=tk gl19) (z0:=none) Tryz.underlying85 Tryz.underlying3 (by kernel_rfl) rfl rfl rfl rfl) (L.iteB h rfl (Y.eqlVT Tryz.underlying87 rfl rfl) (fun c176 h=>?_) (fun c176 h=>?_))))))
      ·refine ln (W.condT rfl (W.region (L.r 1 rfl (L.y rfl (Y.fieldP zX rfl) (L.y rfl (Y.loadP (i:=0) ag3 rfl rfl rfl) (L.y rfl (Y.fieldP zX rfl) (L.y rfl (Y.loadP (i:=0) ag3 rfl rfl rfl) (L.y rfl (Y.build (cells:=#[.int .i64 x29.Tx,tQm]) rfl (by kernel_rfl)) (L.box rfl rfl ?_)))))))))
       intro b177
       refine L.to (D:=Cls w [] (.obj b177 [.int .i64 x29.Tx,tQm] 90::qbH b4 gq20 gl19::qfG gq20 gq21 gl19::qkw gq23 gq21 gl22 gq14 gl13::tQQ b30 x29::tQX b8 gv12 b7::xV b5 gq18 gl17::tQW gq18 gl17::qjA b1 gv12 gq14 gl13 b7 gq16 gl15)) (sI [0,5,6,7,1,2,3,4,8,9,10,11,12]) (L.tsAdd (a:=x29.Tx) (bs:=gq20) (us:=gq21) (ks:=gl19) (tl:=gl22) h Tryz.underlying85 Tryz.underlying3 rfl rfl rfl ?_)
       intro l178 l179 q180 q181 e182 h
       exact L.nil (E.jJ ⟨l178,q180,q181,l179,rfl,rfl,h⟩ (sI [3,4,5,6,0,1,2,7,8,9,10,11]))
      exact ln (W.condF rfl (W.skip (E.jJ ⟨gl19,gq20,gq21,gl22,rfl,rfl,h⟩ hI)))
     rintro _ _ ⟨gl37,gq38,gq39,gl40,rfl,rfl,h⟩
     rw [qfd] at h
     refine W.block (W.seqJ (fun gs D=>∃ gb41,gs=[(1,u1),(4,pt b1 0),(6,tQJ b4),(7,pt b5 0),(8,pt b8 0),(9,qI gx11),(10,pt b30 0),(27,u0),(28,.int .i64 (a0.length:Int)),(29,qI gx11),(65,.bool gb41)]∧D=Cls w [] (tQQ b30 x29::tQX b8 gv12 b7::xV b5 gq18 gl17::tQW gq18 gl17::tQc b4 gq38 gl37 gq39 gq23 gl40 gq14 gl13 b1 gv12 b7 gq16 gl15)∧qcp gl37 x29 a1 gx11 gl40 go1 gl13 gl15 gl17 gb41=some r) ?_ ?_)
     ·refine W.quietC mixed (by kernel_rfl) (fun _ hw=>hw.drew) (fun hC=>(U.cutJ hC 13 (fun gs=>∃ gb50,gs=[(1,u1),(4,pt b1 0),(6,tQJ b4),(7,pt b5 0),(8,pt b8 0),(9,qI gx11),(10,pt b30 0),(27,u0),(28,.int .i64 (a0.length:Int)),(29,qI gx11),(78,.bool gb50)]∧kQ gl37 x29 a1 gx11 gl40 go1 gl13 gl15 gl17 gb50=some r) ?_ ?_))
      ·refine U.y rfl (Y.fieldP wW rfl) (U.y rfl (Y.loadP (i:=0) ag3 rfl rfl rfl) (U.ite h rfl (Y.eql rfl rfl) (fun c173 h=>?_) (fun c173 h=>?_)))
       ·refine U.r 3 rfl (U.take rfl (U.m (V:=fun _=>wJ u1 gx11) h rfl (Y.indexM (g:=TDid.row) (l:=a1) Tryz.underlying30 qml rfl rfl (fun w' hw=>(hA1.up.clsP hK hw rfl))) (fun x174 ex174 h=>(U.take rfl (U.y rfl (Y.fieldE qgB rfl) (U.take rfl (U.y rfl (Y.loadE (u:=.int .i64 x174.From) ag3 rfl (fun w' hw=>(hA1.up.clsP hK hw rfl)) (qf ex174) rfl) (U.take rfl (U.y rfl (Y.fieldP zX rfl) (U.take rfl (U.y rfl (Y.loadP (i:=0) ag3 rfl rfl rfl) (U.take rfl (U.ite h rfl (Y.neq rfl rfl) (fun c175 h=>?_) (fun c175 h=>?_))))))))))))))
        ·exact U.r 1 rfl (U.nil (E.joinU ⟨true,rfl,h⟩ ⟨rfl,rfl,rfl,rfl,rfl,rfl,rfl,rfl,rfl,rfl,rfl,trivial⟩))
        exact U.r 1 rfl (U.nil (E.joinU ⟨false,rfl,h⟩ ⟨rfl,rfl,rfl,rfl,rfl,rfl,rfl,rfl,rfl,rfl,rfl,trivial⟩))
       exact U.r 10 rfl (U.nil (E.joinU ⟨false,rfl,h⟩ ⟨rfl,rfl,rfl,rfl,rfl,rfl,rfl,rfl,rfl,rfl,rfl,trivial⟩))
      rintro _ ⟨gb50,rfl,h⟩
      rw [kQ] at h
      rcases gb50 with _ | _
      ·replace h:=zn h
       exact U.r 1 rfl (U.nil (E.jJ ⟨false,rfl,rfl,h⟩ hI))
      replace h:=zm h
      exact U.r 1 rfl (U.nil (E.jJ ⟨true,rfl,rfl,h⟩ hI))
     rintro _ _ ⟨gb41,rfl,rfl,h⟩
     rw [qcp] at h
     rcases gb41 with _ | _
     ·replace h:=zn h
      refine W.condF rfl (W.seqJ (fun gs D=>∃ gb42,gs=[(1,u1),(4,pt b1 0),(6,tQJ b4),(7,pt b5 0),(8,pt b8 0),(9,qI gx11),(10,pt b30 0),(27,u0),(28,.int .i64 (a0.length:Int)),(29,qI gx11),(102,.bool gb42)]∧D=Cls w [] (tQQ b30 x29::tQX b8 gv12 b7::xV b5 gq18 gl17::tQW gq18 gl17::tQc b4 gq38 gl37 gq39 gq23 gl40 gq14 gl13 b1 gv12 b7 gq16 gl15)∧qbr gl17 x29 gx11 go1 gl13 gl15 gl37 gl40 a1 gb42=some r) ?_ ?_)
      ·refine W.quietC mixed (by kernel_rfl) (fun _ hw=>hw.drew) (fun hC=>(U.cutJ hC 13 (fun gs=>∃ gb49,gs=[(1,u1),(4,pt b1 0),(6,tQJ b4),(7,pt b5 0),(8,pt b8 0),(9,qI gx11),(10,pt b30 0),(27,u0),(28,.int .i64 (a0.length:Int)),(29,qI gx11),(115,.bool gb49)]∧qao gl17 x29 gx11 go1 gl13 gl15 gl37 gl40 a1 gb49=some r) ?_ ?_))
       ·refine U.y rfl (Y.fieldP wW rfl) (U.y rfl (Y.loadP (i:=0) ag3 rfl rfl rfl) (U.ite h rfl (Y.eql rfl rfl) (fun c139 h=>?_) (fun c139 h=>?_)))
        ·refine U.r 1 rfl (U.take rfl (U.y rfl (Y.fieldP zX rfl) (U.take rfl (U.y rfl (Y.loadP (i:=0) ag3 rfl rfl rfl) (U.take rfl (U.m (V:=fun _=>pt b5 (0+x29.Tx.toNat*1)) h rfl (Y.indexAM (l:=gl17) Tryz.underlying86 vA rfl rfl) (fun x140 ex140 h=>(U.take rfl (U.y rfl (Y.loadZ (q:=2) (row:=qh) (vs:=gq18) (j:=0) (pv:=gv (gq18 x29.Tx.toNat) 0) jy rfl rfl rfl (fun _ _=>rfl) (qg ex140) rfl) (U.take rfl (U.y rfl (Y.fieldP wV rfl) (U.take rfl (U.y rfl (Y.loadP (i:=0) ag3 rfl rfl rfl) (U.take rfl ?_))))))))))))))
         obtain ⟨b141,e142,h⟩:=qc h
         refine U.y rfl (Y.does qlk rfl (fun w' hw=>(W19 x140 x29.Item (gv (gq18 x29.Tx.toNat) 0) w' _ e142 (As.atZ (sds:=(qF 3 1 I)) (vs:=gq18) (j:=0) (c:=1) (hw.get (i:=3) rfl) (fun _ _=>rfl) (qg ex140) rfl)).mono (fun _ _ h=>h.1))) ?_
         rcases b141 with _ | _
         ·replace h:=zn h
          exact U.take rfl (U.y rfl (Y.not rfl) (U.r 1 rfl (U.nil (E.joinU ⟨true,rfl,h⟩ ⟨rfl,rfl,rfl,rfl,rfl,rfl,rfl,rfl,rfl,rfl,rfl,trivial⟩))))
         replace h:=zm h
         exact U.take rfl (U.y rfl (Y.not rfl) (U.r 1 rfl (U.nil (E.joinU ⟨false,rfl,h⟩ ⟨rfl,rfl,rfl,rfl,rfl,rfl,rfl,rfl,rfl,rfl,rfl,trivial⟩))))
        exact U.r 10 rfl (U.nil (E.joinU ⟨false,rfl,h⟩ ⟨rfl,rfl,rfl,rfl,rfl,rfl,rfl,rfl,rfl,rfl,rfl,trivial⟩))
       rintro _ ⟨gb49,rfl,h⟩
       rw [qao] at h
       rcases gb49 with _ | _
       ·replace h:=zn h
        exact U.r 1 rfl (U.nil (E.jJ ⟨false,rfl,rfl,h⟩ hI))
       replace h:=zm h
       exact U.r 1 rfl (U.nil (E.jJ ⟨true,rfl,rfl,h⟩ hI))
      rintro _ _ ⟨gb42,rfl,rfl,h⟩
      rw [qbr] at h
      rcases gb42 with _ | _
      ·replace h:=zn h
       refine W.condF rfl (sr (L.cutJ 10 (fun gs D=>∃ gb43,gs=[(1,u1),(4,pt b1 0),(6,tQJ b4),(7,pt b5 0),(8,pt b8 0),(10,pt b30 0),(27,u0),(28,.int .i64 (a0.length:Int)),(29,qI gx11),(137,.bool gb43)]∧D=Cls w [] (tQQ b30 x29::tQX b8 gv12 b7::xV b5 gq18 gl17::tQW gq18 gl17::tQc b4 gq38 gl37 gq39 gq23 gl40 gq14 gl13 b1 gv12 b7 gq16 gl15)∧wE gl17 x29 gl37 gl40 gl13 gx11 go1 gl15 gb43=some r) ?_ ?_))
       ·refine L.y rfl (Y.fieldP wW rfl) (L.y rfl (Y.loadP (i:=0) ag3 rfl rfl rfl) (L.ite h rfl (Y.eql rfl rfl) (fun c102 h=>?_) (fun c102 h=>?_)))
        ·refine L.r 3 rfl (L.take rfl (L.m (V:=fun _=>wJ u1 gx11) h rfl (Y.indexM (g:=TDid.row) (l:=a1) Tryz.underlying30 qml rfl rfl (fun w' hw=>(hA1.up.clsP hK hw rfl))) (fun x103 ex103 h=>(L.take rfl (L.y rfl (Y.fieldE qmR rfl) (L.take rfl (L.iteB h rfl (Y.loadE (u:=.bool x103.OK) ag4 rfl (fun w' hw=>(hA1.up.clsP hK hw rfl)) (qf ex103) rfl) (fun c104 h=>?_) (fun c104 h=>?_))))))))
         ·exact L.r 1 rfl (L.nil (E.jJ ⟨true,rfl,rfl,h⟩ hI))
         exact L.r 1 rfl (L.nil (E.jJ ⟨false,rfl,rfl,h⟩ hI))
        exact L.r 7 rfl (L.nil (E.jJ ⟨false,rfl,rfl,h⟩ hI))
       rintro _ _ ⟨gb43,rfl,rfl,h⟩
       rw [wE] at h
       rcases gb43 with _ | _
       ·replace h:=zn h
        exact L.r 1 rfl (ln (W.condF rfl (W.skip (E.blockN (E.blockN (E.jJ ⟨gv12,gl13,gq14,gl15,gq16,gl17,gq18,gl37,gq38,gq39,gl40,gq23,rfl,rfl,h⟩ (sI [1,2,3,4,5,6,7,8,9,10,11])))))))
       replace h:=zm h
       refine L.r 1 rfl (ln (W.condT rfl (W.seqJ (fun gs D=>∃ gl44 gq45,gs=((1,u1)::(4,pt b1 0)::(6,tQJ b4)::(7,pt b5 0)::(8,pt b8 0)::(10,pt b30 0)::qnk u0 a0 gx11)∧D=Cls w [] (tQQ b30 x29::tQX b8 gv12 b7::xV b5 gq18 gl17::tQW gq18 gl17::tQc b4 gq38 gl37 gq39 gq23 gl40 gq14 gl13 b1 gv12 b7 gq45 gl44)∧qhJ gl37 x29 gl40 gl13 gx11 go1 gl17 gl44=some r) ?_ ?_)))
       ·refine sr (L.y rfl (Y.fieldP zX rfl) (L.y rfl (Y.loadP (i:=0) ag3 rfl rfl rfl) (L.m (V:=fun _=>pt b5 (0+x29.Tx.toNat*1)) h rfl (Y.indexAM (l:=gl17) Tryz.underlying86 vA rfl rfl) (fun x64 ex64 h=>(L.y rfl (Y.loadZ (q:=2) (row:=qh) (vs:=gq18) (j:=0) (pv:=gv (gq18 x29.Tx.toNat) 0) jy rfl rfl rfl (fun _ _=>rfl) (qg ex64) rfl) (L.y rfl (Y.lenM (g:=I) (l:=x64) Tryz.underlying52 rfl (fun w hw=>As.atZ (sds:=(qF 3 1 I)) (vs:=gq18) (j:=0) (c:=1) (hw.get (i:=3) rfl) (fun _ _=>rfl) (qg ex64) rfl)) (L.r 1 rfl (ln (W.block (W.loopJ (fun m gs D=>∃ gx46 gl47 gq48,gs=[(1,u1),(4,pt b1 0),(6,tQJ b4),(7,pt b5 0),(8,pt b8 0),(10,pt b30 0),(27,u0),(28,.int .i64 (a0.length:Int)),(29,qI gx11),(141,gv (gq18 x29.Tx.toNat) 0),(142,.int .i64 (x64.length:Int)),(143,qI gx46)]∧D=Cls w [] (tQQ b30 x29::tQX b8 gv12 b7::xV b5 gq18 gl17::tQW gq18 gl17::tQc b4 gq38 gl37 gq39 gq23 gl40 gq14 gl13 b1 gv12 b7 gq48 gl47)∧qan x64 x29 gl37 gl40 gl13 gx11 go1 gl17 m gx46 gl47=some r) ⟨0,gl15,gq16,rfl,rfl,h⟩ ⟨rfl,rfl,rfl,rfl,rfl,rfl,rfl,rfl,rfl,rfl,rfl,rfl,trivial⟩ hI ?_))))))))))
        rintro m _ _ ⟨gx46,gl47,gq48,rfl,rfl,h⟩
        rcases m with _ | m
        ·rw [qan] at h;cases h
        rw [qan] at h
        generalize hg2:qan x64 x29 gl37 gl40 gl13 gx11 go1 gl17 m=go2 at h
        rw [qec] at h
        refine sr (L.ite h rfl (Y.lss rfl rfl) (fun c65 h=>?_) (fun c65 h=>?_))
        ·refine ln (W.seq (W.condT rfl (W.skip (E.thenN (W.seq (W.block (sr (L.m (V:=fun _=>el (gv (gq18 x29.Tx.toNat) 0) (zG gx46)) h rfl (Y.indexM (g:=I) (l:=x64) Tryz.underlying52 sz3 rfl rfl (fun w hw=>As.atZ (sds:=(qF 3 1 I)) (vs:=gq18) (j:=0) (c:=1) (hw.get (i:=3) rfl) (fun _ _=>rfl) (qg ex64) rfl)) (fun x66 ex66 h=>(L.y rfl (Y.loadE1 (u:=.int .i64 x66) ag3 rfl (fun w hw=>As.atZ (sds:=(qF 3 1 I)) (vs:=gq18) (j:=0) (c:=1) (hw.get (i:=3) rfl) (fun _ _=>rfl) (qg ex64) rfl) (qf ex66)) (L.r 1 rfl (L.nil ?_))))))))))))
         refine E.thenN (W.drawn2 (k:=14) (stC [[11,13],[13]] [Cls w [] (tQQ b30 x29::tQX b8 gv12 b7::xV b5 gq18 gl17::tQW gq18 gl17::tQc b4 gq38 gl37 gq39 gq23 gl40 gq14 gl13 b1 gv12 b7 gq48 gl47),Cls w [] [tQQ b30 x29,tQX b8 gv12 b7,xV b5 gq18 gl17,tQW gq18 gl17,qbH b4 gq38 gl37,qfG gq38 gq39 gl37,qkw gq23 gq39 gl40 gq14 gl13,qjG b1,qhU gv12 gq14 gl13,qjF b7 gq48 gl47,.os []]] (Cls w [] (tQQ b30 x29::qnm b8 gv12 b7 b5 gq18 gl17 b4 gq38 gl37 gq39 gq23 gl40 gq14 gl13 b1))) rfl mixed (fun _ hw=>hw.drew) (Sc.now (by kernel_rfl) hI) (V2.zz [] (Zc.on' (Zc.on' (Zc.fin hI) (sI [0,1,2,3,4,5,6,7,8,10])) (sI [0,1,2,3,4,5,6,7,8,11])) (fun hz90=>(V2.q 0 [] hz90 rfl rfl (Y.fieldP kJ rfl) (V2.q 1 [] hz90 rfl rfl (Y.loadP (i:=1) qj1 rfl rfl rfl) (V2.r [2] (by kernel_rfl) rfl (V2.q 3 [] hz90 rfl rfl (Y.fieldP kJ rfl) (V2.q 4 [] hz90 rfl rfl (Y.loadP (i:=1) qj1 rfl rfl rfl) (V2.r [5] (by kernel_rfl) rfl (V2.zz [13] (Zc.on' (Zc.at1 hI) (sI [0,1,2,3,4,5,6,7,8,9,11])) (fun hz91=>(V2.m (i:=6) (V':=fun _=>el (sv b7 (20:Int).toNat) (zG x66)) h (Nx2.of [13] (by kernel_rfl) rfl hz91) rfl rfl rfl (Y.indexMZ (row:=qh) (vs:=gq48) (l:=gl47) Tryz.underlying47 vA rfl rfl (fun w hw=>As.at_ (hw.get (i:=9) rfl))) (fun x92 ex92 h=>(V2.q 7 [13] hz91 rfl rfl (Y.loadE1 (u:=tQi gq48 x66) jy rfl (fun w hw=>As.at_ (hw.get (i:=9) rfl)) (zH (vs:=gq48) ex92)) (V2.q 8 [] hz90 rfl rfl (Y.fieldP zX rfl) (V2.q 9 [] hz90 rfl rfl (Y.loadP (i:=0) ag3 rfl rfl rfl) ?_))))))))))))))))
         refine V2.eff (i:=10) (by kernel_rfl) rfl (L.litOne rfl Tryz.underlying52 eL3 rfl rfl ?_)
         intro b93
         refine L.nil (E.toV2 (stC [[11,13],[13]] [Cls w [] (qlO b93 x29::tQQ b30 x29::tQX b8 gv12 b7::xV b5 gq18 gl17::tQW gq18 gl17::tQc b4 gq38 gl37 gq39 gq23 gl40 gq14 gl13 b1 gv12 b7 gq48 gl47),Cls w [] [qlO b93 x29,tQQ b30 x29,tQX b8 gv12 b7,xV b5 gq18 gl17,tQW gq18 gl17,qbH b4 gq38 gl37,qfG gq38 gq39 gl37,qkw gq23 gq39 gl40 gq14 gl13,qjG b1,qhU gv12 gq14 gl13,qjF b7 gq48 gl47,.os []]] (Cls w [] (qlO b93 x29::tQQ b30 x29::qnm b8 gv12 b7 b5 gq18 gl17 b4 gq38 gl37 gq39 gq23 gl40 gq14 gl13 b1))) 10 (by kernel_rfl) (Sc.stay (sI [1,2,3,4,5,6,7,8,9,10,11,12]) (Sc.stay (sI [1,2,3,4,5,6,7,8,9,10,11]) (Sc.stayD (sI [1,2,3,4,5,6,7,8,9,10])))) (Sc.now (by kernel_rfl) hI) (V2.eff (i:=11) (by kernel_rfl) rfl (L.ssOut (sds:=(qF 3 1 I)) (vs:=gq48) (s:=11) (j:=0) (c:=1) rfl (fun _ _=>rfl) ex92 rfl (L.appM (i:=0) (g:=I) (l:=x92) (more:=[x29.Tx]) h rfl Tryz.underlying52 eL3 rfl rfl rfl (fun w hw=>As.at_ (hw.get (i:=1) rfl)) (qR _) rfl ?_))))
         intro v94 l95 el95 h
         refine L.nil (E.toV2 (stC [[13]] [Cls w [] [tQI v94 l95,qlO b93 x29,tQQ b30 x29,tQX b8 gv12 b7,xV b5 gq18 gl17,tQW gq18 gl17,qbH b4 gq38 gl37,qfG gq38 gq39 gl37,qkw gq23 gq39 gl40 gq14 gl13,qjG b1,qhU gv12 gq14 gl13,qjF b7 gq48 gl47,.os []]] (Cls w [] (qlO b93 x29::tQQ b30 x29::qnm b8 gv12 b7 b5 gq18 gl17 b4 gq38 gl37 gq39 gq23 gl40 gq14 gl13 b1))) 11 (by kernel_rfl) (Sc.past rfl (Sc.stay (sI [1,2,3,4,5,6,7,8,9,10,11,12]) (Sc.stayD hI))) (Sc.now (by kernel_rfl) (sI [0,1,2,3,4,5,6,7,8,9,10,11,13])) (V2.zz [13] (Zc.at1 hI) (fun hz97=>(V2.m (i:=12) (V':=fun _=>el (sv b7 (20:Int).toNat) (zG x66)) h (Nx2.of [13] (by kernel_rfl) rfl hz97) rfl rfl rfl (Y.indexMZ (row:=qh) (vs:=gq48) (l:=gl47) Tryz.underlying47 vA rfl rfl (fun w hw=>As.at_ (hw.get (i:=11) rfl))) (fun x98 ex98 h=>(V2.eff (i:=13) (by kernel_rfl) rfl (L.storeSlZS (row:=qh) (sds:=(qF 3 1 I)) (vs:=gq48) (q:=11) (p:=0) (s:=12) (c:=1) (jj:=0) (u1:=l95) (v1:=[v94]) (j:=0) h vA rfl rfl rfl rfl rfl rfl (.inr rfl) (fun _ _=>rfl) (fun _ _=>rfl) ex98 rfl rfl rfl rfl (by decide) ?_)))))))
         intro l99 q100 el99 h
         exact L.nil (E.toV2 (stC [] [] (Cls w [] (qlO b93 x29::tQQ b30 x29::qnm b8 gv12 b7 b5 gq18 gl17 b4 gq38 gl37 gq39 gq23 gl40 gq14 gl13 b1))) 13 (by kernel_rfl) (Sc.past rfl (Sc.stayD hI)) (Sc.atD (sI [0,1,2,3,4,5,6,7,8,9,12])) (V2.done (by kernel_rfl) (E.blockN (E.thenN (W.region (L.m (V:=fun x101=>qI x101) h rfl (Y.addM rfl rfl) (fun x101 ex101 h=>(L.r 1 rfl (L.nil (E.aJ ⟨x101,l99,q100,rfl,rfl,by rw [hg2];exact h⟩ (sI [1,2,3,4,5,6,7,8,9,10,11,12])))))))))))
        exact ln (W.seq (W.condF rfl (W.exit (E.thenX (E.KLX (E.blockX (E.jJ ⟨gl47,gq48,rfl,rfl,h⟩ hI)))))))
       rintro _ _ ⟨gl44,gq45,rfl,rfl,h⟩
       rw [qhJ] at h
       refine W.drawn2 (k:=12) (stC [[9,11],[11]] [Cls w [] (tQQ b30 x29::tQX b8 gv12 b7::xV b5 gq18 gl17::tQW gq18 gl17::tQc b4 gq38 gl37 gq39 gq23 gl40 gq14 gl13 b1 gv12 b7 gq45 gl44),Cls w [] (tQQ b30 x29::tQX b8 gv12 b7::qkx b5 gq18 gl17 b4 gq38 gl37 gq39 b1 b7 gq45 gl44)] (Cls w [] (tQQ b30 x29::qkx b5 gq18 gl17 b4 gq38 gl37 gq39 b1 b7 gq45 gl44))) rfl mixed (fun _ hw=>hw.drew) (Sc.now (by kernel_rfl) hI) (V2.zz [] (Zc.on' (Zc.on' (Zc.fin hI) (sI [0,2,3,4,5,6,7,8,9])) (sI [0,2,3,4,5,7,9,10,11])) (fun hz55=>(V2.q 0 [] hz55 rfl rfl (Y.fieldP xO rfl) (V2.zz [11] (Zc.on' (Zc.at1 hI) (sI [0,1,2,3,4,5,7,9,10,11])) (fun hz56=>(V2.q 1 [11] hz56 rfl rfl (Y.loadP (i:=1) qhX rfl rfl rfl) (V2.r [2] (by kernel_rfl) rfl (V2.q 3 [] hz55 rfl rfl (Y.fieldP zX rfl) (V2.q 4 [] hz55 rfl rfl (Y.loadP (i:=0) ag3 rfl rfl rfl) (V2.m (i:=5) (V':=fun _=>pt (gq38 x29.Tx) 0) h (Nx2.of [] (by kernel_rfl) rfl hz55) rfl rfl rfl (Y.tsLook (i:=3) (bs:=gq38) (ks:=gl37) Tryz.underlying85 Tryz.underlying3 (by kernel_rfl) rfl rfl rfl rfl) (fun x57 ex57 h=>(V2.r [6] (by kernel_rfl) rfl (V2.q 7 [] hz55 rfl rfl (Y.tsLoadW (q:=4) (bs:=gq38) (us:=gq39) (ks:=gl37) (a:=x29.Tx) ql1 qcB rfl rfl ex57) (V2.eff (i:=8) (by kernel_rfl) rfl (L.litAgg rfl Tryz.underlying46 qoW rfl rfl rfl ?_)))))))))))))))
       intro b58
       refine L.nil (E.toV2 (stC [[9,11],[11]] [Cls w [] (.sl (sv b58 1) 90 2 [[.int .i64 x29.Tx,gq39 x29.Tx]]::tQQ b30 x29::tQX b8 gv12 b7::xV b5 gq18 gl17::tQW gq18 gl17::tQc b4 gq38 gl37 gq39 gq23 gl40 gq14 gl13 b1 gv12 b7 gq45 gl44),Cls w [] (.sl (sv b58 1) 90 2 [[.int .i64 x29.Tx,gq39 x29.Tx]]::tQQ b30 x29::tQX b8 gv12 b7::qkx b5 gq18 gl17 b4 gq38 gl37 gq39 b1 b7 gq45 gl44)] (Cls w [] (.sl (sv b58 1) 90 2 [[.int .i64 x29.Tx,gq39 x29.Tx]]::tQQ b30 x29::qkx b5 gq18 gl17 b4 gq38 gl37 gq39 b1 b7 gq45 gl44))) 8 (by kernel_rfl) (Sc.stay (sI [1,2,3,4,5,6,7,8,9,10,11,12]) (Sc.stay (sI [1,2,3,4,5,6,7,8,9,10]) (Sc.stayD (sI [1,2,3,4,5,6,7,8,9])))) (Sc.now (by kernel_rfl) hI) (V2.eff (i:=9) (by kernel_rfl) rfl ?_))
       obtain ⟨l59,el59,h⟩:=qc h
       refine L.tsOut (i:=9) (j:=0) (q:=7) (row:=TGot.row) (rw':=TTale.rowv) (sds:=TTale.sds) (gh:=gq14) (l:=gl13) (y1:=(⟨x29.Tx,l59⟩:TTale)) (us:=gq39) (tl:=gl40) (a:=x29.Tx) (x:=l59) h el59 rfl Tryz.underlying46 qoW rfl rfl rfl rfl rfl (by decide) (by decide) rfl (by intro ho u hu;simp only [TTale.rowv,List.mem_cons,List.not_mem_nil,or_false] at hu;rcases hu with rfl | rfl <;> first | rfl | exact ho) rfl ?_
       intro v61 q62 l60 el60 h
       exact L.to (D:=Cls w [] [qhU v61 q62 l60,.sl (sv b58 1) 90 2 [[.int .i64 x29.Tx,gq39 x29.Tx]],tQQ b30 x29,tQX b8 gv12 b7,xV b5 gq18 gl17,tQW gq18 gl17,qbH b4 gq38 gl37,qfG gq38 gq39 gl37,qkw gq23 gq39 gl40 q62 l60,qjG b1,qjF b7 gq45 gl44,tQW gq45 gl44,.os []]) hI (L.nil (E.toV2 (stC [[11]] [Cls w [] (qhU v61 q62 l60::.sl (sv b58 1) 90 2 [[.int .i64 x29.Tx,gq39 x29.Tx]]::tQQ b30 x29::tQX b8 gv12 b7::qkx b5 gq18 gl17 b4 gq38 gl37 gq39 b1 b7 gq45 gl44)] (Cls w [] (qhU v61 q62 l60::.sl (sv b58 1) 90 2 [[.int .i64 x29.Tx,gq39 x29.Tx]]::tQQ b30 x29::qkx b5 gq18 gl17 b4 gq38 gl37 gq39 b1 b7 gq45 gl44))) 9 (by kernel_rfl) (Sc.past rfl (Sc.stay (sI [1,2,3,4,5,6,7,8,9,10,11]) (Sc.stayD (sI [1,2,3,4,5,6,7,8,9,10])))) (Sc.now (by kernel_rfl) (sI [0,1,2,3,4,5,6,7,9,10,11,12])) (V2.zz [] (Zc.on' (Zc.fin hI) (sI [0,1,2,4,5,6,7,8,9,10,11])) (fun hz63=>(V2.q 10 [] hz63 rfl rfl (Y.fieldP xO rfl) (V2.eff (i:=11) (by kernel_rfl) rfl (L.storeV (i:=3) qpr rfl rfl (fun _ hw=>(As.at_ (hw.get (i:=0) rfl)).one) rfl nb (L.nil (E.toV2 (stC [] [] (Cls w [] (qhU v61 q62 l60::.sl (sv b58 1) 90 2 [[.int .i64 x29.Tx,gq39 x29.Tx]]::tQQ b30 x29::qkx b5 gq18 gl17 b4 gq38 gl37 gq39 b1 b7 gq45 gl44))) 11 (by kernel_rfl) (Sc.past rfl (Sc.stayD hI)) (Sc.atD (sI [0,1,2,4,5,6,7,9,10,11,12])) (V2.done (by kernel_rfl) (E.blockN (E.blockN (E.jJ ⟨v61,l60,q62,gl44,gq45,gl17,gq18,gl37,gq38,gq39,gl40,gq23,rfl,rfl,h⟩ (sI [3,4,5,6,7,8,9,0,10,11,12]))))))))))))))
      replace h:=zm h
      refine W.condT rfl (W.drawn2 (k:=12) (stC [[9,11],[11]] [Cls w [] (tQQ b30 x29::tQX b8 gv12 b7::xV b5 gq18 gl17::tQW gq18 gl17::tQc b4 gq38 gl37 gq39 gq23 gl40 gq14 gl13 b1 gv12 b7 gq16 gl15),Cls w [] (tQQ b30 x29::tQX b8 gv12 b7::xV b5 gq18 gl17::tQc b4 gq38 gl37 gq39 gq23 gl40 gq14 gl13 b1 gv12 b7 gq16 gl15)] (Cls w [] (tQQ b30 x29::tQX b8 gv12 b7::tQc b4 gq38 gl37 gq39 gq23 gl40 gq14 gl13 b1 gv12 b7 gq16 gl15))) rfl mixed (fun _ hw=>hw.drew) (Sc.now (by kernel_rfl) hI) (V2.zz [] (Zc.on' (Zc.on' (Zc.fin hI) (sI [0,1,3,4,5,6,7,8,9,10])) (sI [0,1,4,5,6,7,8,9,10,11])) (fun hz128=>(V2.q 0 [] hz128 rfl rfl (Y.fieldP zX rfl) (V2.q 1 [] hz128 rfl rfl (Y.loadP (i:=0) ag3 rfl rfl rfl) (V2.q 2 [] hz128 rfl rfl (Y.fieldP zX rfl) (V2.q 3 [] hz128 rfl rfl (Y.loadP (i:=0) ag3 rfl rfl rfl) (V2.zz [11] (Zc.on' (Zc.at1 hI) (sI [0,1,2,4,5,6,7,8,9,10,11])) (fun hz129=>(V2.m (i:=4) (V':=fun _=>pt b5 (0+x29.Tx.toNat*1)) h (Nx2.of [11] (by kernel_rfl) rfl hz129) rfl rfl rfl (Y.indexAM (l:=gl17) Tryz.underlying86 vA rfl rfl) (fun x130 ex130 h=>(V2.q 5 [11] hz129 rfl rfl (Y.loadZ (q:=2) (row:=qh) (vs:=gq18) (j:=0) (pv:=gv (gq18 x29.Tx.toNat) 0) jy rfl rfl rfl (fun _ _=>rfl) (qg ex130) rfl) (V2.q 6 [] hz128 rfl rfl (Y.fieldP wV rfl) (V2.q 7 [] hz128 rfl rfl (Y.loadP (i:=0) ag3 rfl rfl rfl) (V2.eff (i:=8) (by kernel_rfl) rfl (L.litOne rfl Tryz.underlying52 eL3 rfl rfl ?_))))))))))))))))
      intro b131
      refine L.nil (E.toV2 (stC [[9,11],[11]] [Cls w [] (qlQ b131 x29::tQQ b30 x29::tQX b8 gv12 b7::xV b5 gq18 gl17::tQW gq18 gl17::tQc b4 gq38 gl37 gq39 gq23 gl40 gq14 gl13 b1 gv12 b7 gq16 gl15),Cls w [] (qlQ b131 x29::tQQ b30 x29::tQX b8 gv12 b7::xV b5 gq18 gl17::tQc b4 gq38 gl37 gq39 gq23 gl40 gq14 gl13 b1 gv12 b7 gq16 gl15)] (Cls w [] (qlQ b131 x29::tQQ b30 x29::tQX b8 gv12 b7::tQc b4 gq38 gl37 gq39 gq23 gl40 gq14 gl13 b1 gv12 b7 gq16 gl15))) 8 (by kernel_rfl) (Sc.stay (sI [1,2,3,4,5,6,7,8,9,10,11,12]) (Sc.stay (sI [1,2,3,4,5,6,7,8,9,10,11]) (Sc.stayD (sI [1,2,3,4,5,6,7,8,9,10])))) (Sc.now (by kernel_rfl) hI) (V2.eff (i:=9) (by kernel_rfl) rfl (L.ssOut (sds:=(qF 3 1 I)) (vs:=gq18) (s:=4) (j:=0) (c:=1) rfl (fun _ _=>rfl) (qg ex130) rfl (L.appM (i:=0) (g:=I) (l:=x130) (more:=[x29.Item]) h rfl Tryz.underlying52 eL3 rfl rfl rfl (fun w hw=>As.at_ (hw.get (i:=1) rfl)) (qR _) rfl ?_))))
      intro v132 l133 el133 h
      refine L.nil (E.toV2 (stC [[11]] [Cls w [] (.sl v132 3 1 (l133.map I)::qlQ b131 x29::tQQ b30 x29::tQX b8 gv12 b7::xV b5 gq18 gl17::tQc b4 gq38 gl37 gq39 gq23 gl40 gq14 gl13 b1 gv12 b7 gq16 gl15)] (Cls w [] (qlQ b131 x29::tQQ b30 x29::tQX b8 gv12 b7::tQc b4 gq38 gl37 gq39 gq23 gl40 gq14 gl13 b1 gv12 b7 gq16 gl15))) 9 (by kernel_rfl) (Sc.past rfl (Sc.stay (sI [1,2,3,4,5,6,7,8,9,10,11,12]) (Sc.stayD hI))) (Sc.now (by kernel_rfl) (sI [0,1,2,3,4,6,7,8,9,10,11,12,13])) (V2.zz [11] (Zc.at1 hI) (fun hz135=>(V2.m (i:=10) (V':=fun _=>pt b5 (0+x29.Tx.toNat*1)) h (Nx2.of [11] (by kernel_rfl) rfl hz135) rfl rfl rfl (Y.indexAM (l:=gl17) Tryz.underlying86 vA rfl rfl) (fun x136 ex136 h=>(V2.eff (i:=11) (by kernel_rfl) rfl (L.storeZS (row:=qh) (sds:=(qF 3 1 I)) (vs:=gq18) (q:=4) (p:=0) (s:=5) (c:=1) (jj:=0) (u1:=l133) (v1:=[v132]) (j:=0) h vA rfl rfl rfl rfl rfl rfl (.inr rfl) (fun _ _=>rfl) (fun _ _=>rfl) (qg ex136) rfl rfl rfl rfl ?_)))))))
      intro l137 q138 el137 h
      exact L.nil (E.toV2 (stC [] [] (Cls w [] (qlQ b131 x29::tQQ b30 x29::tQX b8 gv12 b7::tQc b4 gq38 gl37 gq39 gq23 gl40 gq14 gl13 b1 gv12 b7 gq16 gl15))) 11 (by kernel_rfl) (Sc.past rfl (Sc.stayD hI)) (Sc.atD (sI [0,1,2,5,6,7,8,9,10,11,12])) (V2.done (by kernel_rfl) (E.blockN (E.blockN (E.jJ ⟨gv12,gl13,gq14,gl15,gq16,l137,q138,gl37,gq38,gq39,gl40,gq23,rfl,rfl,h⟩ (sI [2,3,4,5,6,7,8,9,10,11,12]))))))
     replace h:=zm h
     refine W.condT rfl (W.drawn2 (k:=24) (stC [[20,23],[23]] [Cls w [] (tQQ b30 x29::tQX b8 gv12 b7::xV b5 gq18 gl17::tQW gq18 gl17::tQc b4 gq38 gl37 gq39 gq23 gl40 gq14 gl13 b1 gv12 b7 gq16 gl15),Cls w [] (tQQ b30 x29::tQX b8 gv12 b7::xV b5 gq18 gl17::tQW gq18 gl17::qbH b4 gq38 gl37::qfG gq38 gq39 gl37::qjA b1 gv12 gq14 gl13 b7 gq16 gl15)] (Cls w [] (tQQ b30 x29::tQX b8 gv12 b7::xV b5 gq18 gl17::tQW gq18 gl17::qbH b4 gq38 gl37::qjA b1 gv12 gq14 gl13 b7 gq16 gl15))) rfl mixed (fun _ hw=>hw.drew) (Sc.now (by kernel_rfl) hI) (V2.zz [] (Zc.on' (Zc.on' (Zc.fin hI) (sI [0,1,2,3,4,6,7,8,9,10])) (sI [0,1,2,3,4,7,8,9,10,11])) (fun hz162=>(V2.r [0] (by kernel_rfl) rfl (V2.q 1 [] hz162 rfl rfl (Y.fieldP zX rfl) (V2.q 2 [] hz162 rfl rfl (Y.loadP (i:=0) ag3 rfl rfl rfl) (V2.m (i:=3) (V':=fun _=>pt (gq38 x29.Tx) 0) h (Nx2.of [] (by kernel_rfl) rfl hz162) rfl rfl rfl (Y.tsLook (i:=4) (bs:=gq38) (ks:=gl37) Tryz.underlying85 Tryz.underlying3 (by kernel_rfl) rfl rfl rfl rfl) (fun x163 ex163 h=>(V2.r [4] (by kernel_rfl) rfl (V2.q 5 [] hz162 rfl rfl (Y.fieldP zX rfl) (V2.q 6 [] hz162 rfl rfl (Y.loadP (i:=0) ag3 rfl rfl rfl) (V2.m (i:=7) (V':=fun _=>pt (gq38 x29.Tx) 0) h (Nx2.of [] (by kernel_rfl) rfl hz162) rfl rfl rfl (Y.tsLook (i:=4) (bs:=gq38) (ks:=gl37) Tryz.underlying85 Tryz.underlying3 (by kernel_rfl) rfl rfl rfl rfl) (fun x164 ex164 h=>(V2.r [8] (by kernel_rfl) rfl (V2.q 9 [] hz162 rfl rfl (Y.fieldP qc0 rfl) (V2.zz [23] (Zc.on' (Zc.at1 hI) (sI [0,1,2,3,4,5,7,8,9,10,11])) (fun hz165=>?_)))))))))))))))))
     refine V2.q 10 [23] hz165 rfl rfl (Y.tsLoad (q:=5) (bs:=gq38) (us:=gq39) (ks:=gl37) (a:=x29.Tx) qoy rfl rfl ex164) (V2.q 11 [] hz162 rfl rfl (Y.fieldP wV rfl) (V2.q 12 [] hz162 rfl rfl (Y.loadP (i:=0) ag3 rfl rfl rfl) (V2.r [13,14] (by kernel_rfl) rfl (V2.m (i:=15) (V':=fun _=>wJ u1 gx11) h (Nx2.of [] (by kernel_rfl) rfl hz162) rfl rfl rfl (Y.indexM (g:=TDid.row) (l:=a1) Tryz.underlying30 qml rfl rfl (fun w' hw=>(hA1.up.clsP hK hw rfl))) (fun x166 ex166 h=>(V2.q 16 [] hz162 rfl rfl (Y.fieldE qgB rfl) (V2.q 17 [] hz162 rfl rfl (Y.loadE (u:=.int .i64 x166.From) ag3 rfl (fun w' hw=>(hA1.up.clsP hK hw rfl)) (qf ex166) rfl) (V2.q 18 [] hz162 rfl rfl (Y.build (cells:=#[.int .i64 x29.Item,.int .i64 x166.From]) rfl (by kernel_rfl)) (V2.eff (i:=19) (by kernel_rfl) rfl (L.litAgg rfl Tryz.underlying88 qoV rfl rfl rfl ?_))))))))))
     intro b167
     refine L.nil (E.toV2 (stC [[20,23],[23]] [Cls w [] (.sl (sv b167 1) 92 2 (([(⟨x29.Item,x166.From⟩:TGot)]).map TGot.row)::tQQ b30 x29::tQX b8 gv12 b7::xV b5 gq18 gl17::tQW gq18 gl17::tQc b4 gq38 gl37 gq39 gq23 gl40 gq14 gl13 b1 gv12 b7 gq16 gl15),Cls w [] (.sl (sv b167 1) 92 2 (([(⟨x29.Item,x166.From⟩:TGot)]).map TGot.row)::tQQ b30 x29::tQX b8 gv12 b7::xV b5 gq18 gl17::tQW gq18 gl17::qbH b4 gq38 gl37::qfG gq38 gq39 gl37::qjA b1 gv12 gq14 gl13 b7 gq16 gl15)] (Cls w [] (.sl (sv b167 1) 92 2 (([(⟨x29.Item,x166.From⟩:TGot)]).map TGot.row)::tQQ b30 x29::tQX b8 gv12 b7::xV b5 gq18 gl17::tQW gq18 gl17::qbH b4 gq38 gl37::qjA b1 gv12 gq14 gl13 b7 gq16 gl15))) 19 (by kernel_rfl) (Sc.stay (sI [1,2,3,4,5,6,7,8,9,10,11,12]) (Sc.stay (sI [1,2,3,4,5,6,7,8,9,10,11]) (Sc.stayD (sI [1,2,3,4,5,6,7,8,9,10])))) (Sc.now (by kernel_rfl) hI) (V2.eff (i:=20) (by kernel_rfl) rfl ?_))
     obtain ⟨l170,el170,h⟩:=qc h
     refine L.tsApp (i:=7) (row:=TGot.row) (us:=gq39) (tl:=gl40) (a:=x29.Tx) (x:=l170) (more:=[(⟨x29.Item,x166.From⟩:TGot)]) h el170 rfl Tryz.underlying88 qoV rfl rfl rfl (fun w hw=>As.at_ (hw.get (i:=0) rfl)) (qeA _) rfl ?_
     intro v168 q169 l171 el171 h
     exact L.nil (E.toV2 (stC [[23]] [Cls w [] (.sl (sv b167 1) 92 2 (([(⟨x29.Item,x166.From⟩:TGot)]).map TGot.row)::tQQ b30 x29::tQX b8 gv12 b7::xV b5 gq18 gl17::tQW gq18 gl17::qbH b4 gq38 gl37::qfG gq38 gq39 gl37::qjA b1 gv12 gq14 gl13 b7 gq16 gl15)] (Cls w [] (.sl (sv b167 1) 92 2 (([(⟨x29.Item,x166.From⟩:TGot)]).map TGot.row)::tQQ b30 x29::tQX b8 gv12 b7::xV b5 gq18 gl17::tQW gq18 gl17::qbH b4 gq38 gl37::qjA b1 gv12 gq14 gl13 b7 gq16 gl15))) 20 (by kernel_rfl) (Sc.past rfl (Sc.stay hI (Sc.stayD hI))) (Sc.now (by kernel_rfl) (sI [1,2,3,4,5,6,7,8,9,10,11,12])) (V2.zz [] (Zc.on' (Zc.fin hI) (sI [0,1,2,3,4,5,7,8,9,10,11])) (fun hz172=>(V2.r [21] (by kernel_rfl) rfl (V2.q 22 [] hz172 rfl rfl (Y.fieldP qc0 rfl) (V2.eff (i:=23) (by kernel_rfl) rfl (L.tsStore (q:=7) (i:=0) (bs:=gq38) (us:=gq39) (ks:=gl37) (a:=x29.Tx) (row:=TGot.row) qpq rfl rfl rfl rfl ex163 (qaC el170) (L.nil (E.toV2 (stC [] [] (Cls w [] (.sl (sv b167 1) 92 2 (([(⟨x29.Item,x166.From⟩:TGot)]).map TGot.row)::tQQ b30 x29::tQX b8 gv12 b7::xV b5 gq18 gl17::tQW gq18 gl17::qbH b4 gq38 gl37::qjA b1 gv12 gq14 gl13 b7 gq16 gl15))) 23 (by kernel_rfl) (Sc.past rfl (Sc.stayD hI)) (Sc.atD (sI [1,2,3,4,5,6,8,9,10,11,12])) (V2.done (by kernel_rfl) (E.blockN (E.blockN (E.jJ ⟨gv12,gl13,gq14,gl15,gq16,gl17,gq18,gl37,gq38,(yI gq39 x29.Tx v168),(vt gl40 x29.Tx l171),q169,rfl,rfl,h⟩ (sI [3,4,5,6,7,0,8,9,10,11,12]))))))))))))))
    replace h:=zm h
    refine L.r 10 rfl (ln (W.condT rfl (sr (L.y rfl (Y.build (cells:=#[tQm,tQm]) rfl (by kernel_rfl)) (L.sv (i:=7) (vs:=[tQm,tQm]) wh rfl rfl rfl rfl rfl nb (L.r 1 rfl (ln (W.ret (E.thenR (E.blockR ?_))))))))))
    refine E.KSR (E.KLR (E.blockR (E.KSR (E.retR2 rfl (Rv.cellW (i:=7) qfn wh rfl rfl rfl) (Rv.tmp rfl) (fun w1 hw=>?_)))))
    cases h
    exact ⟨_,_,rfl,⟨[],rfl,(tQm),(fun _=>[]),(tQm),(fun _=>[]),rfl,Fz.nil,FzA.nil,Fz.nil,FzA.nil⟩,hw.s [11]⟩
   rintro _ _ ⟨gv24,gl25,gq26,gl27,gq28,gl29,gq30,gl31,gq32,gq33,gl34,gq35,rfl,rfl,h⟩
   rw [qbt] at h
   exact W.region (L.m (V:=fun x28=>.int .i64 x28) h rfl (Y.addM rfl rfl) (fun x28 ex28 h=>(L.r 1 rfl (L.nil (E.aJ ⟨x28,gv24,gl25,gq26,gl27,gq28,gl29,gq30,gl31,gq32,gq33,gl34,gq35,rfl,rfl,by rw [hg1];exact h⟩ hI)))))
  exact ln (W.seq (W.condF rfl (W.exit (E.thenX (E.KLX (E.blockX (E.jJ ⟨gv12,gl13,gq14,gl15,gq16,gl19,gq20,gq21,gl22,gq23,rfl,rfl,h⟩ (sI [0,3,4,5,6,7,8,9,10]))))))))
 rintro _ _ ⟨gv1,gl2,gq3,gl4,gq5,gl6,gq7,gq8,gl9,gq10,rfl,rfl,h⟩
 rw [qhK] at h
 refine sr (L.y rfl (Y.fieldP xO rfl) (L.y rfl (Y.loadP (i:=0) qhX rfl rfl rfl) (L.tsFrz (i:=3) rfl rfl rfl ?_)))
 intro c9 mo10 hf11
 refine L.to (D:=Cls w [] [tQX b8 gv1 b7,qbH b4 gq7 gl6,qfG gq7 gq8 gl6,qjG b1,qhU gv1 gq3 gl2,qjF b7 gq5 gl4,tQW gq5 gl4,.os c9]) hI (L.sortAz (i:=4) (q:=gq3) (l:=gl2) (cf:=(fun x y=>(qhY x y).getD 0)) h qh5 (fun _ _=>rfl) qf1 qn4 qpG hK rfl (hf11 K) (fun x v y u w hA hB=>letI:Dr:=qfl;(W26 x y (gv v 0) (gv u 0) w _ (qor x y) (hA _ (List.mem_cons_self ..)) (hB _ (List.mem_cons_self ..))).mono (fun _ _ h=>h.1)) rfl (by kernel_rfl) rfl rfl rfl rfl ?_)
 intro l12 q13 hpl12 hsl12 h hz14
 refine ln (W.seq (sr (L.y rfl (Y.loadPW (i:=0) qfn wh rfl rfl rfl) (L.frz (i:=4) rfl rfl rfl ?_))))
 intro c15 mo16 hf17
 refine L.frzS (i:=5) rfl rfl rfl ?_
 intro c18 mo19 hf20
 refine L.frz (i:=4) rfl rfl rfl ?_
 intro c21 mo22 hf23
 obtain ⟨x24,e25,h⟩:=qc h
 refine L.y rfl (Y.does (by kernel_rfl) rfl (fun w' hw=>(W28 (⟨l12,gl4⟩:TStory) gv1 q13 (sv b7 (20:Int).toNat) gq5 (Kn K _) w' (hK.kn hw rfl).f _ e25 (((hf17 K).mo mo19).mo mo22).tok (((hz14.mo mo16).mo mo19).mo mo22).tok (hf23 K).tok ((hf20 K).mo mo22).tok).mono (fun _ _ h=>h.1))) (L.ite h rfl (Y.neq rfl rfl) (fun c26 h=>?_) (fun c26 h=>?_))
 ·refine ln (W.condT rfl (sr (L.y rfl (Y.build (cells:=#[tQm,tQm]) rfl (by kernel_rfl)) (L.sv (i:=3) (vs:=[tQm,tQm]) wh rfl rfl rfl rfl rfl nb (L.r 1 rfl (ln (W.ret (E.thenR (E.retR2 rfl (Rv.cellW (i:=3) qfn wh rfl rfl rfl) (Rv.tmp rfl) (fun w1 hw=>?_))))))))))
  cases h
  exact ⟨_,_,rfl,⟨c21,rfl,(tQm),(fun _=>[]),(tQm),(fun _=>[]),rfl,Fz.nil,FzA.nil,Fz.nil,FzA.nil⟩,hw.s [4]⟩
 refine ln (W.condF rfl (W.skip (E.thenN (sr (L.y rfl (Y.loadPW (i:=0) qfn wh rfl rfl rfl) (L.storeC (i:=3) wh rfl rfl rfl rfl (fun w hw=>(qT ((((hf17 K).mo mo19).mo mo22).clsP hK hw rfl).one (qT ((hf23 K).clsP hK hw rfl).one za))) rfl nb (L.r 1 rfl (ln (W.ret (E.retR2 rfl (Rv.cellW (i:=3) qfn wh rfl rfl rfl) (Rv.tmp rfl) (fun w1 hw=>?_)))))))))))
 cases h
 exact ⟨_,_,rfl,⟨c21,rfl,gv1,q13,(sv b7 (20:Int).toNat),gq5,rfl,(((hf17 K).mo mo19).mo mo22),(((hz14.mo mo16).mo mo19).mo mo22),(hf23 K),((hf20 K).mo mo22)⟩,hw.s [4]⟩
set_option maxRecDepth 100000 in
set_option maxHeartbeats 8000000 in
theorem W61 [Dr] (a0:(List Int)) (u0:Value) (w:World) (r:Int) (h:M61 a0=some r) (hA0:At w u0 1 (a0.map I)):Does Tryz.prog 61 [u0] w fun u m=>u=.int .i64 r∧m=[]:=by
 rw [M61] at h
 refine body (n:=18) Tryz.func61 rfl rfl rfl (Cls.refl w) (sr (L.r 1 rfl (nsr (L.r 1 rfl (ln (W.seqJ (fun gs D=>gs=[(3,.int .i64 0)]∧D=Cls w [] []∧qi7=some r) ?_ ?_))))))
 ·refine sr (L.r 1 rfl (L.y rfl (Y.lenM (g:=I) (l:=a0) Tryz.underlying52 rfl (fun w' hw=>hA0.cls0 hw)) (L.r 1 rfl (ln (W.block (W.loopJ (fun m gs D=>∃ gx1,gs=[(3,.int .i64 0),(6,u0),(7,.int .i64 (a0.length:Int)),(8,.int .i64 gx1)]∧D=Cls w [] []∧ws a0 m gx1=some r) ⟨0,rfl,rfl,h⟩ ⟨rfl,rfl,rfl,rfl,trivial⟩ hI ?_))))))
  rintro m _ _ ⟨gx1,rfl,rfl,h⟩
  rcases m with _ | m
  ·rw [ws] at h;cases h
  rw [ws] at h
  generalize hg1:ws a0 m=go1 at h
  rw [ya] at h
  refine sr (L.ite h rfl (Y.lss rfl rfl) (fun c1 h=>?_) (fun c1 h=>?_))
  ·refine ln (W.seq (W.condT rfl (W.skip (E.thenN (W.seq (W.block (sr (L.m (V:=fun _=>el u0 (gx1.toNat*1)) h rfl (Y.indexM (g:=I) (l:=a0) Tryz.underlying52 sz3 rfl rfl (fun w' hw=>hA0.cls0 hw)) (fun x2 ex2 h=>(L.y rfl (Y.loadE1 (u:=.int .i64 x2) ag3 rfl (fun w' hw=>hA0.cls0 hw) (qf ex2)) (L.r 1 rfl (L.nil ?_))))))))))))
   refine E.thenN (sr (L.r 2 rfl (L.ite h rfl (Y.neq rfl rfl) (fun c3 h=>?_) (fun c3 h=>?_))))
   ·refine ln (W.condT rfl (sr (L.r 2 rfl (ln (W.ret (E.blockR (E.thenR (E.KLR (E.blockR (E.KSR ?_))))))))))
    refine E.ret1 rfl rfl (fun w1 hw=>?_)
    cases h
    exact ⟨_,_,rfl,⟨rfl,rfl⟩,hw⟩
   exact ln (W.condF rfl (W.skip (E.blockN (E.thenN (W.region (L.m (V:=fun x4=>.int .i64 x4) h rfl (Y.addM rfl rfl) (fun x4 ex4 h=>(L.r 1 rfl (L.nil (E.aJ ⟨x4,rfl,rfl,by rw [hg1];exact h⟩ hI))))))))))
  exact ln (W.seq (W.condF rfl (W.exit (E.thenX (E.KLX (E.blockX (E.jJ ⟨rfl,rfl,h⟩ hI)))))))
 rintro _ _ ⟨rfl,rfl,h⟩
 rw [qi7] at h
 refine sr (L.r 2 rfl (ln (W.ret (E.ret1 rfl rfl (fun w1 hw=>?_)))))
 cases h
 exact ⟨_,_,rfl,⟨rfl,rfl⟩,hw⟩
set_option maxRecDepth 100000 in
set_option maxHeartbeats 8000000 in
theorem W60 [Dr] (a0:TDep) (a1:TDep) (w:World) (r:Int) (h:qfo a0 a1=some r):Does Tryz.prog 60 [.agg #[.int .i64 a0.From,.int .i64 a0.To,.int .i64 a0.Kind],.agg #[.int .i64 a1.From,.int .i64 a1.To,.int .i64 a1.Kind]] w fun u m=>u=.int .i64 r∧m=[]:=by
 rw [qfo] at h
 refine body (n:=22) Tryz.func60 rfl rfl rfl (Cls.refl w) (sr (L.box rfl rfl ?_))
 intro b1
 refine L.box rfl rfl ?_
 intro b2
 refine L.r 1 rfl (ln (W.seq (W.drawn2 (k:=18) (stC [] [] (Cls w [] [.obj b2 [.int .i64 a1.From,.int .i64 a1.To,.int .i64 a1.Kind] 102,.obj b1 [.int .i64 a0.From,.int .i64 a0.To,.int .i64 a0.Kind] 102])) rfl mixed (fun _ hw=>hw.drew) (Sc.atD hI) (V2.zz [] (Zc.fin hI) (fun hz3=>(V2.q 0 [] hz3 rfl rfl (Y.fieldP qcc rfl) (V2.q 1 [] hz3 rfl rfl (Y.loadP (i:=1) ag3 rfl rfl rfl) (V2.q 2 [] hz3 rfl rfl (Y.fieldP qcc rfl) (V2.q 3 [] hz3 rfl rfl (Y.loadP (i:=0) ag3 rfl rfl rfl) (V2.q 5 [] hz3 rfl rfl (Y.fieldP qcb rfl) (V2.q 6 [] hz3 rfl rfl (Y.loadP (i:=1) ag3 rfl rfl rfl) (V2.q 7 [] hz3 rfl rfl (Y.fieldP qcb rfl) (V2.q 8 [] hz3 rfl rfl (Y.loadP (i:=0) ag3 rfl rfl rfl) ?_)))))))))))))
 refine V2.q 10 [] hz3 rfl rfl (Y.fieldP qgD rfl) (V2.q 11 [] hz3 rfl rfl (Y.loadP (i:=1) ag3 rfl rfl rfl) (V2.q 12 [] hz3 rfl rfl (Y.fieldP qgD rfl) (V2.q 13 [] hz3 rfl rfl (Y.loadP (i:=0) ag3 rfl rfl rfl) (V2.eff (i:=4) (by kernel_rfl) rfl ?_))))
 obtain ⟨x4,e5,h⟩:=qc h
 refine L.y rfl (Y.does qnx rfl (fun w' hw=>(W27 a0.From a1.From w' _ e5).mono (fun _ _ h=>h.1))) (L.nil (E.toV2 (stC [] [] (Cls w [] [.obj b2 [.int .i64 a1.From,.int .i64 a1.To,.int .i64 a1.Kind] 102,.obj b1 [.int .i64 a0.From,.int .i64 a0.To,.int .i64 a0.Kind] 102])) 4 (by kernel_rfl) (Sc.stayD hI) (Sc.atD hI) (V2.eff (i:=9) (by kernel_rfl) rfl ?_)))
 obtain ⟨x6,e7,h⟩:=qc h
 refine L.y rfl (Y.does qnx rfl (fun w' hw=>(W27 a0.To a1.To w' _ e7).mono (fun _ _ h=>h.1))) (L.nil (E.toV2 (stC [] [] (Cls w [] [.obj b2 [.int .i64 a1.From,.int .i64 a1.To,.int .i64 a1.Kind] 102,.obj b1 [.int .i64 a0.From,.int .i64 a0.To,.int .i64 a0.Kind] 102])) 9 (by kernel_rfl) (Sc.stayD hI) (Sc.atD hI) (V2.eff (i:=14) (by kernel_rfl) rfl ?_)))
 obtain ⟨x8,e9,h⟩:=qc h
 refine L.y rfl (Y.does qnx rfl (fun w' hw=>(W27 a0.Kind a1.Kind w' _ e9).mono (fun _ _ h=>h.1))) (L.nil (E.toV2 (stC [] [] (Cls w [] [.obj b2 [.int .i64 a1.From,.int .i64 a1.To,.int .i64 a1.Kind] 102,.obj b1 [.int .i64 a0.From,.int .i64 a0.To,.int .i64 a0.Kind] 102])) 14 (by kernel_rfl) (Sc.stayD hI) (Sc.atD hI) (V2.eff (i:=15) (by kernel_rfl) rfl (L.lit (xs:=[.tmp 9,.tmp 14,.tmp 19]) rfl Tryz.underlying52 eL3 rfl rfl rfl rfl (by simp [Value.cells,st]) ?_))))
 intro b10
 refine L.nil (E.toV2 (stC [] [] (Cls w [] [.sl (sv b10 3) 3 1 (([x4,x6,x8]).map I),.obj b2 [.int .i64 a1.From,.int .i64 a1.To,.int .i64 a1.Kind] 102,.obj b1 [.int .i64 a0.From,.int .i64 a0.To,.int .i64 a0.Kind] 102])) 15 (by kernel_rfl) (Sc.stayD (sI [1,2])) (Sc.atD hI) (V2.eff (i:=16) (by kernel_rfl) rfl ?_))
 obtain ⟨x11,e12,h⟩:=qc h
 refine L.y rfl (Y.does (by kernel_rfl) rfl (fun w' hw=>(W61 ([x4,x6,x8]) (sv b10 3) w' _ e12 (As.at_ (hw.get (i:=0) rfl))).mono (fun _ _ h=>h.1))) (L.nil (E.toV2 (stC [] [] (Cls w [] [.sl (sv b10 3) 3 1 (([x4,x6,x8]).map I),.obj b2 [.int .i64 a1.From,.int .i64 a1.To,.int .i64 a1.Kind] 102,.obj b1 [.int .i64 a0.From,.int .i64 a0.To,.int .i64 a0.Kind] 102])) 16 (by kernel_rfl) (Sc.stayD hI) (Sc.atD hI) (V2.r [17] (by kernel_rfl) rfl (V2.done (by kernel_rfl) (E.thenN (W.ret (E.ret1 rfl rfl (fun w1 hw=>?_))))))))
 cases h
 exact ⟨_,_,rfl,⟨rfl,rfl⟩,hw.s []⟩
set_option maxRecDepth 100000 in
set_option maxHeartbeats 8000000 in
theorem W29 (a0:TStory) (u0_0:Value) (q0_0:Nat→List Value) (u0_2:Value) (q0_2:Nat→List Value) (K:World→Prop) (w:World) (hK:StbF K w []) (r:((List TDep)×Int)) (h:M29 a0=some r) (hA0_0:Fz K [] u0_0 2 (zr TTale.rowv q0_0 a0.Tales)) (hD0_0:FzA K [] (zs TTale.sds q0_0 a0.Tales)) (hA0_2:Fz K [] u0_2 1 (zr qh q0_2 a0.Versions)) (hD0_2:FzA K [] (zs (qF 3 1 I) q0_2 a0.Versions)):Does Tryz.prog 29 [.agg #[u0_0,u0_2]] w fun u m=>∃ c,m=[.os c]∧∃ v0,u=.tuple #[v0,.int .i64 r.2]∧Fz K c v0 3 (r.1.map TDep.row):=by
 rw [M29] at h
 refine body (n:=96) Tryz.func29 rfl rfl rfl (Cls.reflF w) (sr (L.box rfl rfl ?_))
 intro b1
 refine L.r 2 rfl (ln (W.seq (sr (L.y rfl (Y.loadPW (i:=0) qfn wh rfl rfl rfl) ?_))))
 obtain ⟨x2,e3,h⟩:=qc h
 refine L.y rfl (Y.does (by kernel_rfl) rfl (fun w' hw=>(W28 a0 u0_0 q0_0 u0_2 q0_2 (Kn K _) w' (hK.kn hw rfl).f _ e3 hA0_0.up.tok hD0_0.up.tok hA0_2.up.tok hD0_2.up.tok).mono (fun _ _ h=>h.1))) (L.r 1 rfl (nsr (L.r 1 rfl (L.ite h rfl (Y.neq rfl rfl) (fun c4 h=>?_) (fun c4 h=>?_)))))
 ·refine ln (W.condT rfl (sr (L.r 3 rfl (ln (W.ret (E.thenR (E.ret2 rfl rfl rfl (fun w1 hw=>?_))))))))
  cases h
  exact ⟨_,_,rfl,⟨[],rfl,(tQm),rfl,Fz.nil⟩,hw.s [1]⟩
 refine ln (W.condF rfl (W.skip (E.thenN (sr (L.alloc rfl qpg ?_)))))
 intro b5
 refine nsr (L.y rfl (Y.func rfl) (L.r 1 rfl (ln (W.seqJ (fun gs D=>∃ gv1 gl2,gs=[(1,pt b1 0),(5,pt b5 0),(6,qkv b5)]∧D=Cls w [] (tQK b5 gv1 b1 u0_0 u0_2 gl2)∧qhq a0 gl2=some r) ?_ ?_))))
 ·refine sr (L.y rfl (Y.fieldP kJ rfl) (L.y rfl (Y.loadP (i:=1) qj1 rfl rfl rfl) (L.y rfl (Y.lenMZ (row:=qh) (vs:=q0_2) (l:=a0.Versions) Tryz.underlying47 rfl (fun w' hw=>(hA0_2.up.clsP hK hw rfl))) (L.r 1 rfl (ln (W.block (W.nilSl 102 3 (W.loopJ (fun m gs D=>∃ gx29 gv30 gl31,gs=[(1,pt b1 0),(5,pt b5 0),(6,qkv b5),(23,u0_2),(24,qlM a0),(25,qI gx29)]∧D=Cls w [] (tQK b5 gv30 b1 u0_0 u0_2 gl31)∧kV a0 m gx29 gl31=some r) ⟨0,tQm,[],rfl,rfl,h⟩ ⟨rfl,rfl,rfl,rfl,rfl,rfl,trivial⟩ (sI [1,2,0,3]) ?_))))))))
  rintro m _ _ ⟨gx29,gv30,gl31,rfl,rfl,h⟩
  rcases m with _ | m
  ·rw [kV] at h;cases h
  rw [kV] at h
  generalize hg5:kV a0 m=go5 at h
  rw [qdr] at h
  refine sr (L.ite h rfl (Y.lss rfl rfl) (fun c64 h=>?_) (fun c64 h=>?_))
  ·refine ln (W.seq (W.condT rfl (W.skip (E.thenN (W.seqJ (fun gs D=>∃ gv32 gl33,gs=[(1,pt b1 0),(5,pt b5 0),(6,qkv b5),(23,u0_2),(24,qlM a0),(25,qI gx29)]∧D=Cls w [] (tQK b5 gv32 b1 u0_0 u0_2 gl33)∧kM gx29 go5 gl33=some r) ?_ ?_)))))
   ·refine W.block (sr (L.m (V:=fun _=>el u0_2 (zG gx29)) h rfl (Y.indexMZ (row:=qh) (vs:=q0_2) (l:=a0.Versions) Tryz.underlying47 vA rfl rfl (fun w' hw=>(hA0_2.up.clsP hK hw rfl))) (fun x66 ex66 h=>(L.y rfl (Y.loadE1 (u:=tQi q0_2 gx29) jy rfl (fun w' hw=>(hA0_2.up.clsP hK hw rfl)) (zH (vs:=q0_2) ex66)) (L.r 1 rfl (nsr (L.r 1 rfl (ln (W.block ?_)))))))))
    refine W.loopJ (fun m gs D=>∃ gx34 gv35 gl36,gs=[(1,pt b1 0),(5,pt b5 0),(6,qkv b5),(8,tQi q0_2 gx29),(9,qI gx34),(23,u0_2),(24,qlM a0),(25,qI gx29)]∧D=Cls w [] (tQK b5 gv35 b1 u0_0 u0_2 gl36)∧kU x66 gx29 go5 m gx34 gl36=some r) ⟨1,gv30,gl31,rfl,rfl,h⟩ ⟨rfl,rfl,rfl,rfl,rfl,rfl,rfl,rfl,trivial⟩ hI ?_
    rintro m _ _ ⟨gx34,gv35,gl36,rfl,rfl,h⟩
    rcases m with _ | m
    ·rw [kU] at h;cases h
    rw [kU] at h
    generalize hg6:kU x66 gx29 go5 m=go6 at h
    rw [qbi] at h
    refine W.seq (sr (L.r 2 rfl (L.y rfl (Y.lenM (g:=I) (l:=x66) Tryz.underlying52 rfl (fun w' hw=>(((FzA.at (sds:=(qF 3 1 I)) (vs:=q0_2) (j:=0) (nl:=1) hD0_2 (fun _ _=>rfl) ex66 rfl).up).clsP hK hw rfl))) (L.ite h rfl (Y.lss rfl rfl) (fun c67 h=>?_) (fun c67 h=>?_)))))
    ·refine ln (W.condT rfl (W.skip (E.thenN (W.seq (W.block (W.drawn2 (k:=11) (stC [[10]] [Cls w [] (tQK b5 gv35 b1 u0_0 u0_2 gl36)] (Cls w [] [qat b1 u0_0 u0_2,.os []])) rfl mixed (fun _ hw=>hw.drew) (Sc.now (by kernel_rfl) hI) (V2.zz [] (Zc.on' (Zc.fin hI) (sI [1,3])) (fun hz76=>(V2.r [0,1,2] (by kernel_rfl) rfl (V2.m (i:=3) (V':=fun x77=>.int .i64 x77) h (Nx2.of [] (by kernel_rfl) rfl hz76) rfl rfl rfl (Y.subM rfl rfl) (fun x77 ex77 h=>(V2.m (i:=4) (V':=fun _=>el (tQi q0_2 gx29) (zG x77)) h (Nx2.of [] (by kernel_rfl) rfl hz76) rfl rfl rfl (Y.indexM (g:=I) (l:=x66) Tryz.underlying52 sz3 rfl rfl (fun w' hw=>(((FzA.at (sds:=(qF 3 1 I)) (vs:=q0_2) (j:=0) (nl:=1) hD0_2 (fun _ _=>rfl) ex66 rfl).up).clsP hK hw rfl))) (fun x78 ex78 h=>(V2.q 5 [] hz76 rfl rfl (Y.loadE1 (u:=.int .i64 x78) ag3 rfl (fun w' hw=>(((FzA.at (sds:=(qF 3 1 I)) (vs:=q0_2) (j:=0) (nl:=1) hD0_2 (fun _ _=>rfl) ex66 rfl).up).clsP hK hw rfl)) (qf ex78)) (V2.r [6,7] (by kernel_rfl) rfl ?_)))))))))))))))
     refine V2.m (i:=8) (V':=fun _=>el (tQi q0_2 gx29) (zG gx34)) h (Nx2.of [] (by kernel_rfl) rfl hz76) rfl rfl rfl (Y.indexM (g:=I) (l:=x66) Tryz.underlying52 sz3 rfl rfl (fun w' hw=>(((FzA.at (sds:=(qF 3 1 I)) (vs:=q0_2) (j:=0) (nl:=1) hD0_2 (fun _ _=>rfl) ex66 rfl).up).clsP hK hw rfl))) (fun x79 ex79 h=>(V2.q 9 [] hz76 rfl rfl (Y.loadE1 (u:=.int .i64 x79) ag3 rfl (fun w' hw=>(((FzA.at (sds:=(qF 3 1 I)) (vs:=q0_2) (j:=0) (nl:=1) hD0_2 (fun _ _=>rfl) ex66 rfl).up).clsP hK hw rfl)) (qf ex79)) (V2.eff (i:=10) (by kernel_rfl) rfl (L.callVJ (fun v D=>∃ gv41 gl42,v=.tuple #[]∧D=Cls w [] (tQK b5 gv41 b1 u0_0 u0_2 gl42)∧kL gx34 go6 gl42=some r) rfl (by kernel_rfl) rfl rfl Tryz.func58 rfl rfl rfl ?_ ?_))))
     ·refine sr (L.r 2 rfl (L.ite h rfl (Y.neq rfl rfl) (fun c81 h=>?_) (fun c81 h=>?_)))
      ·refine L.r 2 rfl (L.take rfl (L.ite h rfl (Y.geq rfl rfl) (fun c82 h=>?_) (fun c82 h=>?_)))
       ·refine L.r 1 rfl (ln (W.condT rfl (W.region (L.y rfl (Y.loadP (i:=0) qm6 rfl rfl rfl) (L.r 3 rfl (L.y rfl (Y.build (cells:=#[.int .i64 x78,.int .i64 x79,.int .i64 1]) rfl (by kernel_rfl)) (L.litAgg rfl Tryz.underlying97 qcg rfl rfl rfl ?_)))))))
        intro b83
        refine L.appM (i:=3) (g:=TDep.row) (l:=gl36) (more:=[(⟨x78,x79,1⟩:TDep)]) h rfl Tryz.underlying97 qcg rfl rfl rfl (fun w hw=>As.at_ (hw.get (i:=0) rfl)) (xZ _) rfl ?_
        intro v84 l85 el85 h
        exact L.storeV (i:=2) qnZ rfl rfl (fun _ hw=>(As.at_ (hw.get (i:=0) rfl)).one) rfl nb (L.nil (E.end0 rfl (fun w1 hw=>(⟨_,_,rfl,⟨v84,l85,rfl,rfl,h⟩,hw.s [2,3,0,4]⟩))))
       exact L.r 1 rfl (ln (W.condF rfl (W.skip (E.end0 rfl (fun w1 hw=>(⟨_,_,rfl,⟨gv35,gl36,rfl,rfl,h⟩,hw⟩))))))
      exact L.r 4 rfl (ln (W.condF rfl (W.skip (E.end0 rfl (fun w1 hw=>(⟨_,_,rfl,⟨gv35,gl36,rfl,rfl,h⟩,hw⟩))))))
     rintro _ _ ⟨gv41,gl42,rfl,rfl,h⟩
     rw [kL] at h
     exact L.nil (E.toV2 (stC [] [] (Cls w [] (.obj b1 [u0_0,u0_2] 49::qet gv41 gl42))) 10 (by kernel_rfl) (Sc.past rfl (Sc.stayD (sI [0,2]))) (Sc.atD (sI [1,2,3])) (V2.done (by kernel_rfl) (E.blockN (E.thenN (W.region (L.r 1 rfl (L.m (V:=fun x80=>.int .i64 x80) h rfl (Y.addM rfl rfl) (fun x80 ex80 h=>(L.r 1 rfl (L.nil (E.aJ ⟨x80,gv41,gl42,rfl,rfl,by rw [hg6];exact h⟩ hI)))))))))))
    exact ln (W.condF rfl (W.exit (E.thenX (E.KLX (E.blockX (E.blockN (E.jJ ⟨gv35,gl36,rfl,rfl,h⟩ hI)))))))
   rintro _ _ ⟨gv32,gl33,rfl,rfl,h⟩
   rw [kM] at h
   exact W.region (L.m (V:=fun x65=>.int .i64 x65) h rfl (Y.addM rfl rfl) (fun x65 ex65 h=>(L.r 1 rfl (L.nil (E.aJ ⟨x65,gv32,gl33,rfl,rfl,by rw [hg5];exact h⟩ hI)))))
  exact ln (W.seq (W.condF rfl (W.exit (E.thenX (E.KLX (E.blockX (E.jJ ⟨gv30,gl31,rfl,rfl,h⟩ hI)))))))
 rintro _ _ ⟨gv1,gl2,rfl,rfl,h⟩
 rw [qhq] at h
 refine W.seqJ (fun gs D=>∃ gv3 gl4,gs=[(5,pt b5 0)]∧D=Cls w [] (.obj b5 [gv3] 97::qet gv3 gl4)∧qeT gl4=some r) ?_ ?_
 ·refine sr (L.y rfl (Y.fieldP xO rfl) (L.y rfl (Y.loadP (i:=1) qhX rfl rfl rfl) (L.y rfl (Y.lenMZ (row:=TTale.rowv) (vs:=q0_0) (l:=a0.Tales) Tryz.underlying46 rfl (fun w' hw=>(hA0_0.up.clsP hK hw rfl))) (L.r 1 rfl (ln (W.block (W.loopJ (fun m gs D=>∃ gx13 gv14 gl15,gs=[(1,pt b1 0),(5,pt b5 0),(6,qkv b5),(48,u0_0),(49,qfJ a0),(50,qI gx13)]∧D=Cls w [] (tQK b5 gv14 b1 u0_0 u0_2 gl15)∧wy a0 m gx13 gl15=some r) ⟨0,gv1,gl2,rfl,rfl,h⟩ ⟨rfl,rfl,rfl,rfl,rfl,rfl,trivial⟩ hI ?_)))))))
  rintro m _ _ ⟨gx13,gv14,gl15,rfl,rfl,h⟩
  rcases m with _ | m
  ·rw [wy] at h;cases h
  rw [wy] at h
  generalize hg3:wy a0 m=go3 at h
  rw [qdt] at h
  refine sr (L.ite h rfl (Y.lss rfl rfl) (fun c34 h=>?_) (fun c34 h=>?_))
  ·refine ln (W.seq (W.condT rfl (W.skip (E.thenN (W.seqJ (fun gs D=>∃ gv16 gl17,gs=[(1,pt b1 0),(5,pt b5 0),(6,qkv b5),(48,u0_0),(49,qfJ a0),(50,qI gx13)]∧D=Cls w [] (tQK b5 gv16 b1 u0_0 u0_2 gl17)∧qeS gx13 go3 gl17=some r) ?_ ?_)))))
   ·refine W.block (sr (L.m (V:=fun _=>wJ u0_0 gx13) h rfl (Y.indexMZ (row:=TTale.rowv) (vs:=q0_0) (l:=a0.Tales) Tryz.underlying46 qcB rfl rfl (fun w' hw=>(hA0_0.up.clsP hK hw rfl))) (fun x36 ex36 h=>(L.y rfl (Y.loadEN (r:=(qeq x36 q0_0 gx13)) ql1 qcB rfl (fun w' hw=>(hA0_0.up.clsP hK hw rfl)) (zH (vs:=q0_0) ex36) rfl) (L.alloc rfl qoK ?_)))))
    intro b37
    refine L.storeC (i:=0) qcB rfl rfl rfl rfl (fun w hw=>(qT rfl (qT (((FzA.at (sds:=TTale.sds) (vs:=q0_0) (j:=0) (nl:=1) hD0_0 (fun _ _=>rfl) ex36 rfl).up).clsP hK hw rfl).one za))) rfl nb (nsr (L.y rfl (Y.fieldP qc0 rfl) (L.y rfl (Y.loadP (i:=0) qoy rfl rfl rfl) (L.y rfl (Y.lenM (g:=TGot.row) (l:=x36.Reads) Tryz.underlying88 rfl (fun w' hw=>(((FzA.at (sds:=TTale.sds) (vs:=q0_0) (j:=0) (nl:=1) hD0_0 (fun _ _=>rfl) ex36 rfl).up).clsP hK hw rfl))) (L.r 1 rfl (ln (W.block (W.loopJ (fun m gs D=>∃ gx18 gv19 gl20,gs=[(1,pt b1 0),(5,pt b5 0),(6,qkv b5),(11,pt b37 0),(48,u0_0),(49,qfJ a0),(50,qI gx13),(55,tQi q0_0 gx13),(56,.int .i64 (x36.Reads.length:Int)),(57,qI gx18)]∧D=Cls w [] (.obj b37 (qeq x36 q0_0 gx13) 90::.obj b5 [gv19] 97::.obj b1 [u0_0,u0_2] 49::qet gv19 gl20)∧wx x36 a0 gx13 go3 m gx18 gl20=some r) ⟨0,gv14,gl15,rfl,rfl,h⟩ ⟨rfl,rfl,rfl,rfl,rfl,rfl,rfl,rfl,rfl,rfl,trivial⟩ hI ?_))))))))
    rintro m _ _ ⟨gx18,gv19,gl20,rfl,rfl,h⟩
    rcases m with _ | m
    ·rw [wx] at h;cases h
    rw [wx] at h
    generalize hg4:wx x36 a0 gx13 go3 m=go4 at h
    rw [qds] at h
    refine sr (L.ite h rfl (Y.lss rfl rfl) (fun c38 h=>?_) (fun c38 h=>?_))
    ·refine ln (W.seq (W.condT rfl (W.skip (E.thenN (W.seq (W.block (sr (L.m (V:=fun _=>el (tQi q0_0 gx13) (gx18.toNat*2)) h rfl (Y.indexM (g:=TGot.row) (l:=x36.Reads) Tryz.underlying88 qlU rfl rfl (fun w' hw=>(((FzA.at (sds:=TTale.sds) (vs:=q0_0) (j:=0) (nl:=1) hD0_0 (fun _ _=>rfl) ex36 rfl).up).clsP hK hw rfl))) (fun x39 ex39 h=>(L.y rfl (Y.loadEN (r:=(qid x39)) qo0 qlU rfl (fun w' hw=>(((FzA.at (sds:=TTale.sds) (vs:=q0_0) (j:=0) (nl:=1) hD0_0 (fun _ _=>rfl) ex36 rfl).up).clsP hK hw rfl)) (qf ex39) rfl) (L.alloc rfl qoJ ?_)))))))))))
     intro b40
     refine L.sv (i:=0) (vs:=(qid x39)) qlU rfl rfl rfl rfl rfl nb (nsr (L.r 1 rfl (L.y rfl (Y.fieldP qa4 rfl) (L.y rfl (Y.loadP (i:=0) ag3 rfl rfl rfl) (L.y rfl (Y.fieldP xv rfl) (L.y rfl (Y.loadP (i:=1) ag3 rfl rfl rfl) (L.callVJ (fun v D=>∃ gv21 gl22,v=.tuple #[]∧D=Cls w [] (.obj b40 (qid x39) 92::.obj b37 (qeq x36 q0_0 gx13) 90::.obj b5 [gv21] 97::.obj b1 [u0_0,u0_2] 49::qet gv21 gl22)∧qbk a0 x39 x36 gx18 go4 gl22=some r) rfl (by kernel_rfl) rfl rfl Tryz.func58 rfl rfl rfl ?_ ?_)))))))
     ·refine sr (L.r 2 rfl (L.ite h rfl (Y.neq rfl rfl) (fun c59 h=>?_) (fun c59 h=>?_)))
      ·refine L.r 2 rfl (L.take rfl (L.ite h rfl (Y.geq rfl rfl) (fun c60 h=>?_) (fun c60 h=>?_)))
       ·refine L.r 1 rfl (ln (W.condT rfl (W.region (L.y rfl (Y.loadP (i:=2) qm6 rfl rfl rfl) (L.r 3 rfl (L.y rfl (Y.build (cells:=#[.int .i64 x39.From,.int .i64 x36.Tx,.int .i64 2]) rfl (by kernel_rfl)) (L.litAgg rfl Tryz.underlying97 qcg rfl rfl rfl ?_)))))))
        intro b61
        refine L.appM (i:=5) (g:=TDep.row) (l:=gl20) (more:=[(⟨x39.From,x36.Tx,2⟩:TDep)]) h rfl Tryz.underlying97 qcg rfl rfl rfl (fun w hw=>As.at_ (hw.get (i:=0) rfl)) (xZ _) rfl ?_
        intro v62 l63 el63 h
        exact L.storeV (i:=4) qnZ rfl rfl (fun _ hw=>(As.at_ (hw.get (i:=0) rfl)).one) rfl nb (L.nil (E.end0 rfl (fun w1 hw=>(⟨_,_,rfl,⟨v62,l63,rfl,rfl,h⟩,hw.s [2,3,4,5,0,6]⟩))))
       exact L.r 1 rfl (ln (W.condF rfl (W.skip (E.end0 rfl (fun w1 hw=>(⟨_,_,rfl,⟨gv19,gl20,rfl,rfl,h⟩,hw⟩))))))
      exact L.r 4 rfl (ln (W.condF rfl (W.skip (E.end0 rfl (fun w1 hw=>(⟨_,_,rfl,⟨gv19,gl20,rfl,rfl,h⟩,hw⟩))))))
     rintro _ _ ⟨gv21,gl22,rfl,rfl,h⟩
     rw [qbk] at h
     refine nsr (L.y rfl (Y.fieldP kJ rfl) (L.y rfl (Y.loadP (i:=3) qj1 rfl rfl rfl) (L.y rfl (Y.fieldP qcZ rfl) (L.y rfl (Y.loadP (i:=0) ag3 rfl rfl rfl) (L.m (V:=fun _=>el u0_2 (x39.Item.toNat*1)) h rfl (Y.indexMZ (row:=qh) (vs:=q0_2) (l:=a0.Versions) Tryz.underlying47 vA rfl rfl (fun w' hw=>(hA0_2.up.clsP hK hw rfl))) (fun x41 ex41 h=>(L.y rfl (Y.loadE1 (u:=gv (q0_2 x39.Item.toNat) 0) jy rfl (fun w' hw=>(hA0_2.up.clsP hK hw rfl)) (zH (vs:=q0_2) ex41)) (L.r 1 rfl (ln (W.seq ?_))))))))))
     refine W.region (L.r 1 rfl (L.y rfl (Y.fieldP qa4 rfl) (L.y rfl (Y.loadP (i:=0) ag3 rfl rfl rfl) ?_)))
     obtain ⟨x42,e43,h⟩:=qc h
     refine L.y rfl (Y.does (by kernel_rfl) rfl (fun w' hw=>(W41 x41 x39.From (gv (q0_2 x39.Item.toNat) 0) w' _ e43 (((FzA.at (sds:=(qF 3 1 I)) (vs:=q0_2) (j:=0) (nl:=1) hD0_2 (fun _ _=>rfl) ex41 rfl).up).clsP hK hw rfl)).mono (fun _ _ h=>h.1))) (L.m (V:=fun x44=>.int .i64 x44) h rfl (Y.addM rfl rfl) (fun x44 ex44 h=>(L.r 1 rfl (nsr (L.r 2 rfl (L.y rfl (Y.lenM (g:=I) (l:=x41) Tryz.underlying52 rfl (fun w' hw=>(((FzA.at (sds:=(qF 3 1 I)) (vs:=q0_2) (j:=0) (nl:=1) hD0_2 (fun _ _=>rfl) ex41 rfl).up).clsP hK hw rfl))) (L.ite h rfl (Y.lss rfl rfl) (fun c45 h=>?_) (fun c45 h=>?_))))))))
     ·refine ln (W.condT rfl (W.drawn2 (k:=8) (stC [[7]] [Cls w [] (.obj b40 (qid x39) 92::.obj b37 (qeq x36 q0_0 gx13) 90::.obj b5 [gv21] 97::.obj b1 [u0_0,u0_2] 49::qet gv21 gl22)] (Cls w [] [.obj b40 (qid x39) 92,.obj b37 (qeq x36 q0_0 gx13) 90,qat b1 u0_0 u0_2,.os []])) rfl mixed (fun _ hw=>hw.drew) (Sc.now (by kernel_rfl) hI) (V2.zz [] (Zc.on' (Zc.fin hI) (sI [0,1,3,5])) (fun hz50=>(V2.r [0] (by kernel_rfl) rfl (V2.q 1 [] hz50 rfl rfl (Y.fieldP xv rfl) (V2.q 2 [] hz50 rfl rfl (Y.loadP (i:=1) ag3 rfl rfl rfl) (V2.r [3,4] (by kernel_rfl) rfl (V2.m (i:=5) (V':=fun _=>el (gv (q0_2 x39.Item.toNat) 0) (zG x44)) h (Nx2.of [] (by kernel_rfl) rfl hz50) rfl rfl rfl (Y.indexM (g:=I) (l:=x41) Tryz.underlying52 sz3 rfl rfl (fun w' hw=>(((FzA.at (sds:=(qF 3 1 I)) (vs:=q0_2) (j:=0) (nl:=1) hD0_2 (fun _ _=>rfl) ex41 rfl).up).clsP hK hw rfl))) (fun x51 ex51 h=>(V2.q 6 [] hz50 rfl rfl (Y.loadE1 (u:=.int .i64 x51) ag3 rfl (fun w' hw=>(((FzA.at (sds:=(qF 3 1 I)) (vs:=q0_2) (j:=0) (nl:=1) hD0_2 (fun _ _=>rfl) ex41 rfl).up).clsP hK hw rfl)) (qf ex51)) (V2.eff (i:=7) (by kernel_rfl) rfl (L.callVJ (fun v D=>∃ gv27 gl28,v=.tuple #[]∧D=Cls w [] (.obj b40 (qid x39) 92::.obj b37 (qeq x36 q0_0 gx13) 90::.obj b5 [gv27] 97::.obj b1 [u0_0,u0_2] 49::qet gv27 gl28)∧qbj gx18 go4 gl28=some r) rfl (by kernel_rfl) rfl rfl Tryz.func58 rfl rfl rfl ?_ ?_)))))))))))))
      ·refine sr (L.r 2 rfl (L.ite h rfl (Y.neq rfl rfl) (fun c53 h=>?_) (fun c53 h=>?_)))
       ·refine L.r 2 rfl (L.take rfl (L.ite h rfl (Y.geq rfl rfl) (fun c54 h=>?_) (fun c54 h=>?_)))
        ·refine L.r 1 rfl (ln (W.condT rfl (W.region (L.y rfl (Y.loadP (i:=2) qm6 rfl rfl rfl) (L.r 3 rfl (L.y rfl (Y.build (cells:=#[.int .i64 x36.Tx,.int .i64 x51,.int .i64 3]) rfl (by kernel_rfl)) (L.litAgg rfl Tryz.underlying97 qcg rfl rfl rfl ?_)))))))
         intro b55
         refine L.appM (i:=5) (g:=TDep.row) (l:=gl22) (more:=[(⟨x36.Tx,x51,3⟩:TDep)]) h rfl Tryz.underlying97 qcg rfl rfl rfl (fun w hw=>As.at_ (hw.get (i:=0) rfl)) (xZ _) rfl ?_
         intro v56 l57 el57 h
         exact L.storeV (i:=4) qnZ rfl rfl (fun _ hw=>(As.at_ (hw.get (i:=0) rfl)).one) rfl nb (L.nil (E.end0 rfl (fun w1 hw=>(⟨_,_,rfl,⟨v56,l57,rfl,rfl,h⟩,hw.s [2,3,4,5,0,6]⟩))))
        exact L.r 1 rfl (ln (W.condF rfl (W.skip (E.end0 rfl (fun w1 hw=>(⟨_,_,rfl,⟨gv21,gl22,rfl,rfl,h⟩,hw⟩))))))
       exact L.r 4 rfl (ln (W.condF rfl (W.skip (E.end0 rfl (fun w1 hw=>(⟨_,_,rfl,⟨gv21,gl22,rfl,rfl,h⟩,hw⟩))))))
      rintro _ _ ⟨gv27,gl28,rfl,rfl,h⟩
      rw [qbj] at h
      exact L.nil (E.toV2 (stC [] [] (Cls w [] (.obj b40 (qid x39) 92::.obj b37 (qeq x36 q0_0 gx13) 90::.obj b1 [u0_0,u0_2] 49::qet gv27 gl28))) 7 (by kernel_rfl) (Sc.past rfl (Sc.stayD (sI [0,1,2,4]))) (Sc.atD (sI [0,1,3,4,5])) (V2.done (by kernel_rfl) (E.blockN (E.thenN (W.region (L.m (V:=fun x52=>.int .i64 x52) h rfl (Y.addM rfl rfl) (fun x52 ex52 h=>(L.r 1 rfl (L.nil (E.aJ ⟨x52,gv27,gl28,rfl,rfl,by rw [hg4];exact h⟩ (sI [1,2,3,4,5])))))))))))
     exact ln (W.condF rfl (W.skip (E.blockN (E.thenN (W.region (L.m (V:=fun x58=>.int .i64 x58) h rfl (Y.addM rfl rfl) (fun x58 ex58 h=>(L.r 1 rfl (L.nil (E.aJ ⟨x58,gv21,gl22,rfl,rfl,by rw [hg4];exact h⟩ (sI [1,2,3,4,5])))))))))))
    exact ln (W.seq (W.condF rfl (W.exit (E.thenX (E.KLX (E.blockX (E.blockN (E.jJ ⟨gv19,gl20,rfl,rfl,h⟩ (sI [1,2,3,4])))))))))
   rintro _ _ ⟨gv16,gl17,rfl,rfl,h⟩
   rw [qeS] at h
   exact W.region (L.m (V:=fun x35=>.int .i64 x35) h rfl (Y.addM rfl rfl) (fun x35 ex35 h=>(L.r 1 rfl (L.nil (E.aJ ⟨x35,gv16,gl17,rfl,rfl,by rw [hg3];exact h⟩ hI)))))
  exact ln (W.seq (W.condF rfl (W.exit (E.thenX (E.KLX (E.blockX (E.jJ ⟨gv14,gl15,rfl,rfl,h⟩ (sI [0,2,3]))))))))
 rintro _ _ ⟨gv3,gl4,rfl,rfl,h⟩
 rw [qeT] at h
 refine sr (L.y rfl (Y.loadP (i:=0) qm6 rfl rfl rfl) (L.sortFMD (i:=1) (l:=gl4) (enc:=TDep.row) (cf:=(fun x y=>(qfo x y).getD 0)) h qko (fun _=>rfl) qn3 qnT qlj (fun x y w=>letI:Dr:=qfl;(W60 x y w _ (qoq x y)).mono (fun _ _ h=>h.1)) rfl (by kernel_rfl) rfl rfl rfl ?_))
 intro l6 el6 h
 refine nsr (L.y rfl (Y.loadP (i:=0) qm6 rfl rfl rfl) (L.callJ (fun v D=>∃ gv5 gl6,v=gv5∧D=Cls w [] (qet gv5 gl6)∧qbl gl6=some r) rfl (by kernel_rfl) rfl Tryz.func62 rfl rfl rfl ?_ ?_))
 ·refine sr (L.r 1 rfl (ln (W.seq (sr (L.r 1 rfl (L.y rfl (Y.lenM (g:=TDep.row) (l:=l6) Tryz.underlying97 rfl (fun w hw=>As.at_ (hw.get (i:=1) rfl))) (L.ite h rfl (Y.lss rfl rfl) (fun c10 h=>?_) (fun c10 h=>?_))))))))
  ·exact ln (W.condT rfl (sr (L.r 2 rfl (ln (W.ret (E.thenR (E.ret1 rfl rfl (fun w1 hw=>(⟨_,_,rfl,⟨gv3,l6,rfl,rfl,h⟩,hw.s [1,2]⟩)))))))))
  refine ln (W.condF rfl (W.skip (E.thenN (W.seqJ (fun gs D=>gs=[(0,gv3)]∧D=Cls w [] (qet gv3 l6)∧qjg l6=some r) ?_ ?_))))
  ·refine sr (L.r 1 rfl (ln (W.block (W.loopJ (fun m gs D=>∃ gx7,gs=[(0,gv3),(3,.int .i64 gx7)]∧D=Cls w [] (qet gv3 l6)∧y0 l6 m gx7=some r) ⟨1,rfl,rfl,h⟩ ⟨rfl,rfl,trivial⟩ (sI [1,2]) ?_))))
   rintro m _ _ ⟨gx7,rfl,rfl,h⟩
   rcases m with _ | m
   ·rw [y0] at h;cases h
   rw [y0] at h
   generalize hg1:y0 l6 m=go1 at h
   rw [qdv] at h
   refine W.seq (sr (L.r 2 rfl (L.y rfl (Y.lenM (g:=TDep.row) (l:=l6) Tryz.underlying97 rfl (fun w hw=>As.at_ (hw.get (i:=0) rfl))) (L.ite h rfl (Y.lss rfl rfl) (fun c11 h=>?_) (fun c11 h=>?_)))))
   ·refine ln (W.condT rfl (W.skip (E.thenN (W.seqJ (fun gs D=>gs=[(0,gv3),(3,.int .i64 gx7)]∧D=Cls w [] (qet gv3 l6)∧qjf gx7 go1=some r) ?_ ?_))))
    ·refine W.block (W.seq (W.quietC mixed (by kernel_rfl) (fun _ hw=>hw.drew) (fun hC=>(U.r 2 rfl (U.m (V:=fun _=>el gv3 (gx7.toNat*3)) h rfl (Y.indexM (g:=TDep.row) (l:=l6) Tryz.underlying97 xx rfl rfl (fun w hw=>As.at_ (hw.get (i:=0) rfl))) (fun x13 ex13 h=>(U.y rfl (Y.loadEN (r:=(qjE x13)) qbf xx rfl (fun w hw=>As.at_ (hw.get (i:=0) rfl)) (qf ex13) rfl) (U.r 2 rfl (U.m (V:=fun x14=>.int .i64 x14) h rfl (Y.subM rfl rfl) (fun x14 ex14 h=>(U.m (V:=fun _=>el gv3 (x14.toNat*3)) h rfl (Y.indexM (g:=TDep.row) (l:=l6) Tryz.underlying97 xx rfl rfl (fun w hw=>As.at_ (hw.get (i:=0) rfl))) (fun x15 ex15 h=>(U.y rfl (Y.loadEN (r:=(qjE x15)) qbf xx rfl (fun w hw=>As.at_ (hw.get (i:=0) rfl)) (qf ex15) rfl) (U.ite h rfl (Y.eqlA (row:=TDep.row) (a:=x13) (b:=x15) qmU qbf (qip _) (qip _) (qjO _ _) rfl rfl) (fun c16 h=>?_) (fun c16 h=>?_)))))))))))))))
     ·refine U.nil (E.thenN (W.condT rfl (sr (L.r 2 rfl (L.m (V:=fun _=>zq gv3 gx7.toNat 3) h rfl (Y.dropM (g:=TDep.row) Tryz.underlying97 xx rfl rfl (fun w hw=>As.at_ (hw.get (i:=0) rfl))) (fun l17 el17 h=>(L.r 1 rfl (ln (W.seqJ (fun gs D=>∃ gl8 gx9,gs=[(0,gv3),(3,.int .i64 gx9)]∧D=Cls w [] (qet gv3 gl8)∧qje gl8 gx9=some r) ?_ ?_)))))))))
      ·refine sr (L.r 1 rfl (ln (W.block (W.loopJ (fun m gs D=>∃ gl10 gx11 gx12,gs=[(0,gv3),(3,qI gx11),(4,zq gv3 gx7.toNat 3),(5,qI gx12)]∧D=Cls w [] (qet gv3 gl10)∧yZ gx7 m gl10 gx11 gx12=some r) ⟨l6,gx7,1,rfl,rfl,h⟩ ⟨rfl,rfl,rfl,rfl,trivial⟩ hI ?_))))
       rintro m _ _ ⟨gl10,gx11,gx12,rfl,rfl,h⟩
       rcases m with _ | m
       ·rw [yZ] at h;cases h
       rw [yZ] at h
       generalize hg2:yZ gx7 m=go2 at h
       rw [qdu] at h
       refine W.seq (sr (L.r 1 rfl ?_))
       obtain ⟨l22,el22,h⟩:=qc h
       refine L.r 1 rfl (L.y rfl (Y.lenM (g:=TDep.row) (l:=l22) Tryz.underlying97 rfl (fun w hw=>((As.at_ (hw.get (i:=0) rfl)).dropM el22))) (L.ite h rfl (Y.lss rfl rfl) (fun c23 h=>?_) (fun c23 h=>?_)))
       ·refine ln (W.condT rfl (W.skip (E.thenN (W.seq (W.block (W.seq (W.quietC mixed (by kernel_rfl) (fun _ hw=>hw.drew) (fun hC=>(U.r 2 rfl (U.m (V:=fun _=>el (zq gv3 gx7.toNat 3) (gx12.toNat*3)) h rfl (Y.indexM (g:=TDep.row) (l:=l22) Tryz.underlying97 xx rfl rfl (fun w hw=>((As.at_ (hw.get (i:=0) rfl)).dropM el22))) (fun x24 ex24 h=>(U.y rfl (Y.loadEN (r:=(qjE x24)) qbf xx rfl (fun w hw=>((As.at_ (hw.get (i:=0) rfl)).dropM el22)) (qf ex24) rfl) (U.r 2 rfl (U.m (V:=fun x25=>.int .i64 x25) h rfl (Y.subM rfl rfl) (fun x25 ex25 h=>?_)))))))))))))))
        refine U.m (V:=fun _=>el (zq gv3 gx7.toNat 3) (x25.toNat*3)) h rfl (Y.indexM (g:=TDep.row) (l:=l22) Tryz.underlying97 xx rfl rfl (fun w hw=>((As.at_ (hw.get (i:=0) rfl)).dropM el22))) (fun x26 ex26 h=>(U.y rfl (Y.loadEN (r:=(qjE x26)) qbf xx rfl (fun w hw=>((As.at_ (hw.get (i:=0) rfl)).dropM el22)) (qf ex26) rfl) (U.ite h rfl (Y.neqA (row:=TDep.row) (a:=x24) (b:=x26) qmU qbf (qip _) (qip _) (qjO _ _) rfl rfl) (fun c27 h=>?_) (fun c27 h=>?_))))
        ·refine U.nil (E.thenN (W.condT rfl (sr (L.r 4 rfl (L.m (V:=fun _=>el (zq gv3 gx7.toNat 3) (gx12.toNat*3)) h rfl (Y.indexM (g:=TDep.row) (l:=l22) Tryz.underlying97 xx rfl rfl (fun w hw=>((As.at_ (hw.get (i:=0) rfl)).dropM el22))) (fun x28 ex28 h=>(L.y rfl (Y.loadEN (r:=(qjE x28)) qbf xx rfl (fun w hw=>((As.at_ (hw.get (i:=0) rfl)).dropM el22)) (qf ex28) rfl) (L.m (V:=fun _=>el gv3 (gx11.toNat*3)) h rfl (Y.indexM (g:=TDep.row) (l:=gl10) Tryz.underlying97 xx rfl rfl (fun w hw=>As.at_ (hw.get (i:=0) rfl))) (fun x29 ex29 h=>(L.storeSlM (q:=0) (row:=TDep.row) (vs:=(qjE x28)) (j:=0) (u1:=x28) h xx rfl rfl rfl rfl rfl (qT rfl (qT rfl (qT rfl za))) rfl ex29 rfl rfl ?_))))))))))
         intro l30 el30 h
         exact nr (L.r 1 rfl (L.m (V:=fun x31=>.int .i64 x31) h rfl (Y.addM rfl rfl) (fun x31 ex31 h=>(L.r 1 rfl (L.nil (E.blockN (E.thenN (W.region (L.r 1 rfl (L.m (V:=fun x32=>.int .i64 x32) h rfl (Y.addM rfl rfl) (fun x32 ex32 h=>(L.r 1 rfl (L.nil (E.aJ ⟨l30,x31,x32,rfl,rfl,by rw [hg2];exact h⟩ hI))))))))))))))
        exact U.nil (E.thenN (W.condF rfl (W.skip (E.blockN (E.thenN (W.region (L.r 1 rfl (L.m (V:=fun x33=>.int .i64 x33) h rfl (Y.addM rfl rfl) (fun x33 ex33 h=>(L.r 1 rfl (L.nil (E.aJ ⟨gl10,gx11,x33,rfl,rfl,by rw [hg2];exact h⟩ hI))))))))))))
       exact ln (W.condF rfl (W.exit (E.thenX (E.KLX (E.blockX (E.jJ ⟨gl10,gx11,rfl,rfl,h⟩ hI))))))
      rintro _ _ ⟨gl8,gx9,rfl,rfl,h⟩
      rw [qje] at h
      refine sr (L.r 2 rfl (L.m (V:=fun _=>zq gv3 gx9.toNat 3) h rfl (Y.dropM (g:=TDep.row) Tryz.underlying97 xx rfl rfl (fun w hw=>As.at_ (hw.get (i:=0) rfl))) (fun l18 el18 h=>(L.clearM (i:=0) (g:=TDep.row) (z0:=(⟨0,0,0⟩:TDep)) (a:=gx9) h Tryz.underlying97 qcg qmc (fun u hu=>((xZ _):Plain ([(⟨0,0,0⟩:TDep)].map TDep.row)) _ (List.mem_cons_self ..) u hu) rfl rfl ?_))))
      intro l19 el19 h
      refine nsr (L.r 2 rfl ?_)
      obtain ⟨l20,el20,h⟩:=qc h
      exact L.cutM (i:=0) (g:=TDep.row) el20 rfl Tryz.underlying97 xx rfl rfl rfl (fun v21=>(L.r 1 rfl (ln (W.ret (E.blockR (E.KSR (E.KLR (E.blockR (E.KSR (E.ret1 rfl rfl (fun w1 hw=>(⟨_,_,rfl,⟨v21,l20,rfl,rfl,h⟩,hw⟩))))))))))))
     exact U.nil (E.thenN (W.condF rfl (W.skip (E.blockN (E.jJ ⟨rfl,rfl,h⟩ hI)))))
    rintro _ _ ⟨rfl,rfl,h⟩
    rw [qjf] at h
    exact W.region (L.r 1 rfl (L.m (V:=fun x12=>.int .i64 x12) h rfl (Y.addM rfl rfl) (fun x12 ex12 h=>(L.r 1 rfl (L.nil (E.aJ ⟨x12,rfl,rfl,by rw [hg1];exact h⟩ hI))))))
   exact ln (W.condF rfl (W.exit (E.thenX (E.KLX (E.blockX (E.jJ ⟨rfl,rfl,h⟩ hI))))))
  rintro _ _ ⟨rfl,rfl,h⟩
  rw [qjg] at h
  exact sr (L.r 2 rfl (ln (W.ret (E.ret1 rfl rfl (fun w1 hw=>(⟨_,_,rfl,⟨gv3,l6,rfl,rfl,h⟩,hw⟩))))))
 rintro gv5 _ ⟨_,gl6,rfl,rfl,h⟩
 rw [qbl] at h
 refine L.r 2 rfl (ln (W.ret (E.frz (i:=0) rfl rfl rfl ?_)))
 intro c7 mo8 hf9
 refine E.ret2 rfl rfl rfl (fun w1 hw=>?_)
 cases h
 exact ⟨_,_,rfl,⟨c7,rfl,gv5,rfl,(hf9 K)⟩,hw⟩
set_option maxRecDepth 100000 in
set_option maxHeartbeats 8000000 in
theorem W63 (a0:Int) (a1:(List TE)) (u1:Value) (w:World) (r:Int) (h:M63 a0 a1=some r) (hA1:At w u1 2 (a1.map TE.row)):Does Tryz.prog 63 [.int .i64 a0,u1] w fun u m=>u=.int .i64 r∧m=[]:=by
 rw [M63] at h
 refine body (n:=43) Tryz.func63 rfl rfl rfl (Cls.refl w) (sr (L.r 1 rfl (ln (W.seq (sr (L.r 1 rfl (L.ite h rfl (Y.lss rfl rfl) (fun c1 h=>?_) (fun c1 h=>?_))))))))
 ·refine L.r 4 rfl (ln (W.condT rfl (sr (L.r 1 rfl (ln (W.ret (E.thenR (E.ret1 rfl rfl (fun w1 hw=>?_)))))))))
  cases h
  exact ⟨_,_,rfl,⟨rfl,rfl⟩,hw⟩
 refine L.r 2 rfl (L.take rfl (L.ite h rfl (Y.gtr rfl rfl) (fun c2 h=>?_) (fun c2 h=>?_)))
 ·refine L.r 1 rfl (ln (W.condT rfl (sr (L.r 1 rfl (ln (W.ret (E.thenR (E.ret1 rfl rfl (fun w1 hw=>?_)))))))))
  cases h
  exact ⟨_,_,rfl,⟨rfl,rfl⟩,hw⟩
 refine L.r 1 rfl (ln (W.condF rfl (W.skip (E.thenN (W.seq (sr (L.r 1 rfl (L.y rfl (Y.lenM (g:=TE.row) (l:=a1) Tryz.underlying100 rfl (fun w' hw=>hA1.cls0 hw)) (L.ite h rfl (Y.gtr rfl rfl) (fun c3 h=>?_) (fun c3 h=>?_))))))))))
 ·refine ln (W.condT rfl (sr (L.r 1 rfl (ln (W.ret (E.thenR (E.ret1 rfl rfl (fun w1 hw=>?_))))))))
  cases h
  exact ⟨_,_,rfl,⟨rfl,rfl⟩,hw⟩
 refine ln (W.condF rfl (W.skip (E.thenN (W.seqJ (fun gs D=>gs=[]∧D=Cls w [] []∧qi6=some r) ?_ ?_))))
 ·refine sr (L.r 1 rfl (L.y rfl (Y.lenM (g:=TE.row) (l:=a1) Tryz.underlying100 rfl (fun w' hw=>hA1.cls0 hw)) (L.r 1 rfl (ln (W.block (W.loopJ (fun m gs D=>∃ gx1,gs=[(0,.int .i64 a0),(16,u1),(17,.int .i64 (a1.length:Int)),(18,.int .i64 gx1)]∧D=Cls w [] []∧yV a1 a0 m gx1=some r) ⟨0,rfl,rfl,h⟩ ⟨rfl,rfl,rfl,rfl,trivial⟩ hI ?_))))))
  rintro m _ _ ⟨gx1,rfl,rfl,h⟩
  rcases m with _ | m
  ·rw [yV] at h;cases h
  rw [yV] at h
  generalize hg1:yV a1 a0 m=go1 at h
  rw [qdk] at h
  refine sr (L.ite h rfl (Y.lss rfl rfl) (fun c4 h=>?_) (fun c4 h=>?_))
  ·refine ln (W.seq (W.condT rfl (W.skip (E.thenN (W.seq (W.block (sr (L.m (V:=fun _=>wJ u1 gx1) h rfl (Y.indexM (g:=TE.row) (l:=a1) Tryz.underlying100 qev rfl rfl (fun w' hw=>hA1.cls0 hw)) (fun x5 ex5 h=>(L.y rfl (Y.loadEN (r:=(qcz x5)) qm9 qev rfl (fun w' hw=>hA1.cls0 hw) (qf ex5) rfl) (L.alloc rfl qmb ?_)))))))))))
   intro b6
   refine L.sv (i:=0) (vs:=(qcz x5)) qev rfl rfl rfl rfl rfl nb (nsr (L.cutJ 9 (fun gs D=>∃ gb2,gs=[(0,.int .i64 a0),(6,pt b6 0),(16,u1),(17,.int .i64 (a1.length:Int)),(18,.int .i64 gx1),(30,.bool gb2)]∧D=Cls w [] [.obj b6 (qcz x5) 104]∧qeK x5 a0 gx1 go1 gb2=some r) ?_ ?_))
   ·refine L.y rfl (Y.fieldP yK rfl) (L.y rfl (Y.loadP (i:=0) ag3 rfl rfl rfl) (L.ite h rfl (Y.lss rfl rfl) (fun c10 h=>?_) (fun c10 h=>?_)))
    ·exact L.r 6 rfl (L.nil (E.jJ ⟨true,rfl,rfl,h⟩ hI))
    refine L.r 1 rfl (L.take rfl (L.y rfl (Y.fieldP yK rfl) (L.take rfl (L.y rfl (Y.loadP (i:=0) ag3 rfl rfl rfl) (L.r 1 rfl (L.take rfl (L.ite h rfl (Y.geq rfl rfl) (fun c11 h=>?_) (fun c11 h=>?_))))))))
    ·exact L.r 1 rfl (L.nil (E.jJ ⟨true,rfl,rfl,h⟩ hI))
    exact L.r 1 rfl (L.nil (E.jJ ⟨false,rfl,rfl,h⟩ hI))
   rintro _ _ ⟨gb2,rfl,rfl,h⟩
   rw [qeK] at h
   rcases gb2 with _ | _
   ·replace h:=zn h
    refine L.r 1 rfl (L.take rfl (L.y rfl (Y.fieldP qca rfl) (L.take rfl (L.y rfl (Y.loadP (i:=0) ag3 rfl rfl rfl) (L.take rfl (L.ite h rfl (Y.lss rfl rfl) (fun c7 h=>?_) (fun c7 h=>?_)))))))
    ·refine L.r 7 rfl (ln (W.condT rfl (sr (L.r 1 rfl (ln (W.ret (E.blockR (E.thenR (E.KLR (E.blockR ?_))))))))))
     refine E.KSR (E.ret1 rfl rfl (fun w1 hw=>?_))
     cases h
     exact ⟨_,_,rfl,⟨rfl,rfl⟩,hw.s []⟩
    refine L.r 2 rfl (L.take rfl (L.y rfl (Y.fieldP qca rfl) (L.take rfl (L.y rfl (Y.loadP (i:=0) ag3 rfl rfl rfl) (L.r 1 rfl (L.take rfl (L.ite h rfl (Y.geq rfl rfl) (fun c8 h=>?_) (fun c8 h=>?_))))))))
    ·refine L.r 1 rfl (ln (W.condT rfl (sr (L.r 1 rfl (ln (W.ret (E.blockR (E.thenR (E.KLR (E.blockR ?_))))))))))
     refine E.KSR (E.ret1 rfl rfl (fun w1 hw=>?_))
     cases h
     exact ⟨_,_,rfl,⟨rfl,rfl⟩,hw.s []⟩
    exact L.r 1 rfl (ln (W.condF rfl (W.skip (E.blockN (E.thenN (W.region (L.m (V:=fun x9=>.int .i64 x9) h rfl (Y.addM rfl rfl) (fun x9 ex9 h=>(L.r 1 rfl (L.nil (E.aJ ⟨x9,rfl,rfl,by rw [hg1];exact h⟩ (sI []))))))))))))
   replace h:=zm h
   refine L.r 11 rfl (ln (W.condT rfl (sr (L.r 1 rfl (ln (W.ret (E.blockR (E.thenR (E.KLR (E.blockR ?_))))))))))
   refine E.KSR (E.ret1 rfl rfl (fun w1 hw=>?_))
   cases h
   exact ⟨_,_,rfl,⟨rfl,rfl⟩,hw.s []⟩
  exact ln (W.seq (W.condF rfl (W.exit (E.thenX (E.KLX (E.blockX (E.joinJ ⟨rfl,rfl,h⟩ trivial hI)))))))
 rintro _ _ ⟨rfl,rfl,h⟩
 rw [qi6] at h
 refine sr (L.r 1 rfl (ln (W.ret (E.ret1 rfl rfl (fun w1 hw=>?_)))))
 cases h
 exact ⟨_,_,rfl,⟨rfl,rfl⟩,hw⟩
set_option maxRecDepth 100000 in
set_option maxHeartbeats 8000000 in
theorem W64 (a0:Int) (a1:(List TE)) (u1:Value) (w:World) (r:(List (List Int))) (h:M64 a0 a1=some r) (hA1:At w u1 2 (a1.map TE.row)):Does Tryz.prog 64 [.int .i64 a0,u1] w fun u m=>∃ v0 q0,u=v0∧m=[.sl v0 52 1 (zr qh q0 r),tQW q0 r]:=by
 rw [M64] at h
 refine body (n:=51) Tryz.func64 rfl rfl rfl (Cls.refl w) (sr (L.r 1 rfl (nsr (L.r 1 rfl ?_))))
 obtain ⟨l1,el1,h⟩:=qc h
 refine L.makeZ (row:=qh) (sds:=(qF 3 1 I)) (nv:=[xn]) (z0:=([]:(List Int))) el1 rfl Tryz.underlying47 qoX qoN rfl rfl rfl (qiK rfl rfl ji) ?_
 intro b2
 refine L.r 1 rfl (ln (W.seqJ (fun gs D=>∃ gl1 gq2,gs=[(5,(jY b2 a0))]∧D=Cls w [] [qie b2 a0 gq2 gl1,tQW gq2 gl1]∧qhc gl1=some r) ?_ ?_))
 ·refine sr (L.r 1 rfl (L.y rfl (Y.lenM (g:=TE.row) (l:=a1) Tryz.underlying100 rfl (fun w' hw=>hA1.cls0 hw)) (L.r 1 rfl (ln (W.block (W.loopJ (fun m gs D=>∃ gl8 gq9 gx10,gs=[(5,(jY b2 a0)),(11,u1),(12,.int .i64 (a1.length:Int)),(13,qI gx10)]∧D=Cls w [] [qie b2 a0 gq9 gl8,tQW gq9 gl8]∧yT a1 m gl8 gx10=some r) ⟨l1,(fun _=>[xn]),0,rfl,rfl,h⟩ ⟨rfl,rfl,rfl,rfl,trivial⟩ hI ?_))))))
  rintro m _ _ ⟨gl8,gq9,gx10,rfl,rfl,h⟩
  rcases m with _ | m
  ·rw [yT] at h;cases h
  rw [yT] at h
  generalize hg2:yT a1 m=go2 at h
  rw [qdi] at h
  refine sr (L.ite h rfl (Y.lss rfl rfl) (fun c14 h=>?_) (fun c14 h=>?_))
  ·refine ln (W.seq (W.condT rfl (W.skip (E.thenN (W.seq (W.block (sr (L.m (V:=fun _=>wJ u1 gx10) h rfl (Y.indexM (g:=TE.row) (l:=a1) Tryz.underlying100 qev rfl rfl (fun w' hw=>hA1.cls0 hw)) (fun x15 ex15 h=>(L.y rfl (Y.loadEN (r:=(qcz x15)) qm9 qev rfl (fun w' hw=>hA1.cls0 hw) (qf ex15) rfl) (L.alloc rfl qmb ?_)))))))))))
   intro b16
   refine L.sv (i:=0) (vs:=(qcz x15)) qev rfl rfl rfl rfl rfl nb (ln (W.drawn2 (k:=14) (stC [[11,13],[13]] [Cls w [] [.obj b16 (qcz x15) 104,qie b2 a0 gq9 gl8,tQW gq9 gl8],Cls w [] [.obj b16 (qcz x15) 104,qie b2 a0 gq9 gl8]] (Cls w [] [.obj b16 (qcz x15) 104])) rfl mixed (fun _ hw=>hw.drew) (Sc.now (by kernel_rfl) hI) (V2.zz [] (Zc.on' (Zc.on' (Zc.fin hI) (sI [0])) (sI [0])) (fun hz40=>(V2.r [0] (by kernel_rfl) rfl (V2.q 1 [] hz40 rfl rfl (Y.fieldP yK rfl) (V2.q 2 [] hz40 rfl rfl (Y.loadP (i:=0) ag3 rfl rfl rfl) (V2.r [3] (by kernel_rfl) rfl (V2.q 4 [] hz40 rfl rfl (Y.fieldP yK rfl) (V2.q 5 [] hz40 rfl rfl (Y.loadP (i:=0) ag3 rfl rfl rfl) (V2.zz [13] (Zc.on' (Zc.at1 hI) (sI [0,1])) (fun hz41=>(V2.m (i:=6) (V':=fun _=>el (jY b2 a0) (x15.From.toNat*1)) h (Nx2.of [13] (by kernel_rfl) rfl hz41) rfl rfl rfl (Y.indexMZ (row:=qh) (vs:=gq9) (l:=gl8) Tryz.underlying47 vA rfl rfl (fun w hw=>As.at_ (hw.get (i:=1) rfl))) (fun x42 ex42 h=>(V2.q 7 [13] hz41 rfl rfl (Y.loadE1 (u:=gv (gq9 x15.From.toNat) 0) jy rfl (fun w hw=>As.at_ (hw.get (i:=1) rfl)) (zH (vs:=gq9) ex42)) ?_)))))))))))))))
   refine V2.q 8 [] hz40 rfl rfl (Y.fieldP qca rfl) (V2.q 9 [] hz40 rfl rfl (Y.loadP (i:=0) ag3 rfl rfl rfl) (V2.eff (i:=10) (by kernel_rfl) rfl (L.litOne rfl Tryz.underlying52 eL3 rfl rfl ?_)))
   intro b43
   refine L.nil (E.toV2 (stC [[11,13],[13]] [Cls w [] [.sl (sv b43 1) 3 1 (([x15.To]).map I),.obj b16 (qcz x15) 104,qie b2 a0 gq9 gl8,tQW gq9 gl8],Cls w [] [.sl (sv b43 1) 3 1 (([x15.To]).map I),.obj b16 (qcz x15) 104,qie b2 a0 gq9 gl8]] (Cls w [] [.sl (sv b43 1) 3 1 (([x15.To]).map I),.obj b16 (qcz x15) 104])) 10 (by kernel_rfl) (Sc.stay (sI [1,2,3]) (Sc.stay (sI [1,2]) (Sc.stayD (sI [1])))) (Sc.now (by kernel_rfl) hI) (V2.eff (i:=11) (by kernel_rfl) rfl (L.ssOut (sds:=(qF 3 1 I)) (vs:=gq9) (s:=3) (j:=0) (c:=1) rfl (fun _ _=>rfl) ex42 rfl (L.appM (i:=0) (g:=I) (l:=x42) (more:=[x15.To]) h rfl Tryz.underlying52 eL3 rfl rfl rfl (fun w hw=>As.at_ (hw.get (i:=1) rfl)) (qR _) rfl ?_))))
   intro v44 l45 el45 h
   refine L.nil (E.toV2 (stC [[13]] [Cls w [] [tQI v44 l45,.sl (sv b43 1) 3 1 (([x15.To]).map I),.obj b16 (qcz x15) 104,qie b2 a0 gq9 gl8]] (Cls w [] [.sl (sv b43 1) 3 1 (([x15.To]).map I),.obj b16 (qcz x15) 104])) 11 (by kernel_rfl) (Sc.past rfl (Sc.stay (sI [1,2,3]) (Sc.stayD hI))) (Sc.now (by kernel_rfl) (sI [0,1,2,3])) (V2.zz [13] (Zc.at1 hI) (fun hz47=>(V2.m (i:=12) (V':=fun _=>el (jY b2 a0) (x15.From.toNat*1)) h (Nx2.of [13] (by kernel_rfl) rfl hz47) rfl rfl rfl (Y.indexMZ (row:=qh) (vs:=gq9) (l:=gl8) Tryz.underlying47 vA rfl rfl (fun w hw=>As.at_ (hw.get (i:=3) rfl))) (fun x48 ex48 h=>(V2.eff (i:=13) (by kernel_rfl) rfl (L.storeSlZS (row:=qh) (sds:=(qF 3 1 I)) (vs:=gq9) (q:=3) (p:=0) (s:=4) (c:=1) (jj:=0) (u1:=l45) (v1:=[v44]) (j:=0) h vA rfl rfl rfl rfl rfl rfl (.inr rfl) (fun _ _=>rfl) (fun _ _=>rfl) ex48 rfl rfl rfl rfl (by decide) ?_)))))))
   intro l49 q50 el49 h
   exact L.nil (E.toV2 (stC [] [] (Cls w [] [.sl (sv b43 1) 3 1 (([x15.To]).map I),.obj b16 (qcz x15) 104])) 13 (by kernel_rfl) (Sc.past rfl (Sc.stayD hI)) (Sc.atD (sI [0,1])) (V2.done (by kernel_rfl) (E.blockN (E.thenN (W.region (L.m (V:=fun x51=>.int .i64 x51) h rfl (Y.addM rfl rfl) (fun x51 ex51 h=>(L.r 1 rfl (L.nil (E.aJ ⟨l49,q50,x51,rfl,rfl,by rw [hg2];exact h⟩ (sI [2,3])))))))))))
  exact ln (W.seq (W.condF rfl (W.exit (E.thenX (E.KLX (E.blockX (E.jJ ⟨gl8,gq9,rfl,rfl,h⟩ hI)))))))
 rintro _ _ ⟨gl1,gq2,rfl,rfl,h⟩
 rw [qhc] at h
 refine W.seqJ (fun gs D=>∃ gl3 gq4,gs=[(5,(jY b2 a0))]∧D=Cls w [] [qie b2 a0 gq4 gl3,tQW gq4 gl3]∧qi5 gl3=some r) ?_ ?_
 ·refine sr (L.r 1 rfl (L.y rfl (Y.lenMZ (row:=qh) (vs:=gq2) (l:=gl1) Tryz.underlying47 rfl (fun w hw=>As.at_ (hw.get (i:=0) rfl))) (L.r 1 rfl (ln (W.block (W.loopJ (fun m gs D=>∃ gl5 gq6 gx7,gs=[(5,(jY b2 a0)),(32,.int .i64 (gl1.length:Int)),(33,.int .i64 gx7)]∧D=Cls w [] [qie b2 a0 gq6 gl5,tQW gq6 gl5]∧yU gl1 m gl5 gx7=some r) ⟨gl1,gq2,0,rfl,rfl,h⟩ ⟨rfl,rfl,rfl,trivial⟩ hI ?_))))))
  rintro m _ _ ⟨gl5,gq6,gx7,rfl,rfl,h⟩
  rcases m with _ | m
  ·rw [yU] at h;cases h
  rw [yU] at h
  generalize hg1:yU gl1 m=go1 at h
  rw [qdj] at h
  refine sr (L.ite h rfl (Y.lss rfl rfl) (fun c3 h=>?_) (fun c3 h=>?_))
  ·refine ln (W.seq (W.condT rfl (W.skip (E.thenN (W.seq (W.block (sr (L.r 2 rfl (ln (W.seq ?_))))))))))
   refine W.region (L.r 2 rfl (L.m (V:=fun _=>el (jY b2 a0) (zG gx7)) h rfl (Y.indexMZ (row:=qh) (vs:=gq6) (l:=gl5) Tryz.underlying47 vA rfl rfl (fun w hw=>As.at_ (hw.get (i:=0) rfl))) (fun x4 ex4 h=>(L.y rfl (Y.loadE1 (u:=tQi gq6 gx7) jy rfl (fun w hw=>As.at_ (hw.get (i:=0) rfl)) (zH (vs:=gq6) ex4)) (L.ssOut (sds:=(qF 3 1 I)) (vs:=gq6) (s:=1) (j:=0) (c:=1) rfl (fun _ _=>rfl) ex4 rfl (L.sortMD (i:=0) (l:=x4) h qme rfl (by kernel_rfl) rfl rfl ?_))))))
   intro l5 el5 h
   refine L.ssBack (row:=qh) (sds:=(qF 3 1 I)) (vs:=gq6) (p:=0) (s:=2) (q:=1) (c:=1) (jj:=0) (u1:=l5) (fun z=>.sl (jY b2 a0) 52 1 z) h rfl rfl rfl (fun _ _=>rfl) ex4 rfl rfl rfl ?_
   intro l6 el6 h
   refine nr (L.r 4 rfl (L.m (V:=fun _=>el (jY b2 a0) (zG gx7)) h rfl (Y.indexMZ (row:=qh) (vs:=gq6) (l:=l6) Tryz.underlying47 vA rfl rfl (fun w hw=>As.at_ (hw.get (i:=0) rfl))) (fun x7 ex7 h=>(L.y rfl (Y.loadE1 (u:=tQi gq6 gx7) jy rfl (fun w hw=>As.at_ (hw.get (i:=0) rfl)) (zH (vs:=gq6) ex7)) (L.ssOut (sds:=(qF 3 1 I)) (vs:=gq6) (s:=1) (j:=0) (c:=1) rfl (fun _ _=>rfl) ex7 rfl (L.compactMD (i:=0) (l:=x7) h qh6 rfl (by kernel_rfl) rfl rfl ?_))))))
   intro v9 l8 el8 h
   refine L.m (V:=fun _=>el (jY b2 a0) (zG gx7)) h rfl (Y.indexMZ (row:=qh) (vs:=gq6) (l:=l6) Tryz.underlying47 vA rfl rfl (fun w hw=>As.at_ (hw.get (i:=1) rfl))) (fun x10 ex10 h=>(L.storeSlZS (row:=qh) (sds:=(qF 3 1 I)) (vs:=gq6) (q:=1) (p:=0) (s:=2) (c:=1) (jj:=0) (u1:=l8) (v1:=[v9]) (j:=0) h vA rfl rfl rfl rfl rfl rfl (.inr rfl) (fun _ _=>rfl) (fun _ _=>rfl) ex10 rfl rfl rfl rfl (by decide) ?_))
   intro l11 q12 el11 h
   exact L.nil (E.blockN (E.thenN (W.region (L.m (V:=fun x13=>.int .i64 x13) h rfl (Y.addM rfl rfl) (fun x13 ex13 h=>(L.r 1 rfl (L.nil (E.aJ ⟨l11,q12,x13,rfl,rfl,by rw [hg1];exact h⟩ hI))))))))
  exact ln (W.seq (W.condF rfl (W.exit (E.thenX (E.KLX (E.blockX (E.jJ ⟨gl5,gq6,rfl,rfl,h⟩ hI)))))))
 rintro _ _ ⟨gl3,gq4,rfl,rfl,h⟩
 rw [qi5] at h
 refine sr (L.r 2 rfl (ln (W.ret (E.ret1 rfl rfl (fun w1 hw=>?_)))))
 cases h
 exact ⟨_,_,rfl,⟨_,_,rfl,rfl⟩,hw⟩
set_option maxRecDepth 100000 in
set_option maxHeartbeats 8000000 in
theorem W30 (a0:Int) (a1:(List TE)) (u1:Value) (w:World) (r:((List Int)×Int)) (h:M30 a0 a1=some r) (hA1:At w u1 2 (a1.map TE.row)):Does Tryz.prog 30 [.int .i64 a0,u1] w fun u m=>∃ v0,u=.tuple #[v0,.int .i64 r.2]∧m=[.sl v0 3 1 (r.1.map I)]:=by
 rw [M30] at h
 refine body (n:=80) Tryz.func30 rfl rfl rfl (Cls.refl w) (sr (L.r 2 rfl (ln (W.seq (sr (L.r 2 rfl ?_))))))
 obtain ⟨x1,e2,h⟩:=qc h
 refine L.y rfl (Y.does (by kernel_rfl) rfl (fun w' hw=>(W63 a0 a1 u1 w' _ e2 (hA1.cls0 hw)).mono (fun _ _ h=>h.1))) (L.r 1 rfl (nsr (L.r 1 rfl (L.ite h rfl (Y.neq rfl rfl) (fun c3 h=>?_) (fun c3 h=>?_)))))
 ·refine ln (W.condT rfl (sr (L.r 3 rfl (ln (W.ret (E.thenR (E.ret2 rfl rfl rfl (fun w1 hw=>?_))))))))
  cases h
  exact ⟨_,_,rfl,⟨_,rfl,rfl⟩,(hw.nilSl 3 1)⟩
 refine ln (W.condF rfl (W.skip (E.thenN (sr (L.r 2 rfl ?_)))))
 obtain ⟨l4,e7,h⟩:=qc h
 refine L.does rfl (by kernel_rfl) rfl (fun w' hw=>W64 a0 a1 u1 w' _ e7 (hA1.cls0 hw)) ?_
 rintro v5 _ ⟨_,q6,rfl,rfl⟩
 refine L.r 1 rfl (nsr (L.r 1 rfl ?_))
 obtain ⟨l8,el8,h⟩:=qc h
 refine L.makeE (row:=I) (z0:=0) el8 rfl Tryz.underlying52 eL3 ze3 rfl rfl rfl ?_
 intro b9
 refine L.r 1 rfl (ln (W.seqJ (fun gs D=>∃ gl1,gs=[(0,.int .i64 a0),(7,v5),(8,(jY b9 a0))]∧D=qnl w v5 q6 l4 b9 a0 gl1∧qhp a0 l4 gl1=some r) ?_ ?_))
 ·refine sr (L.r 1 rfl (L.y rfl (Y.lenMZ (row:=qh) (vs:=q6) (l:=l4) Tryz.underlying47 rfl (fun w hw=>As.at_ (hw.get (i:=1) rfl))) (L.r 1 rfl (ln (W.block (W.loopJ (fun m gs D=>∃ gl10 gx11,gs=[(0,.int .i64 a0),(7,v5),(8,(jY b9 a0)),(28,v5),(29,.int .i64 (l4.length:Int)),(30,qI gx11)]∧D=qnl w v5 q6 l4 b9 a0 gl10∧wu l4 a0 m gl10 gx11=some r) ⟨l8,0,rfl,rfl,h⟩ ⟨rfl,rfl,rfl,rfl,rfl,rfl,trivial⟩ (sI [1,2,0]) ?_))))))
  rintro m _ _ ⟨gl10,gx11,rfl,rfl,h⟩
  rcases m with _ | m
  ·rw [wu] at h;cases h
  rw [wu] at h
  generalize hg3:wu l4 a0 m=go3 at h
  rw [qdo] at h
  refine sr (L.ite h rfl (Y.lss rfl rfl) (fun c27 h=>?_) (fun c27 h=>?_))
  ·refine ln (W.seq (W.condT rfl (W.skip (E.thenN (W.seqJ (fun gs D=>∃ gl12,gs=[(0,.int .i64 a0),(7,v5),(8,(jY b9 a0)),(28,v5),(29,.int .i64 (l4.length:Int)),(30,qI gx11)]∧D=qnl w v5 q6 l4 b9 a0 gl12∧qhn gx11 go3 gl12=some r) ?_ ?_)))))
   ·refine W.block (sr (L.m (V:=fun _=>el v5 (zG gx11)) h rfl (Y.indexMZ (row:=qh) (vs:=q6) (l:=l4) Tryz.underlying47 vA rfl rfl (fun w hw=>As.at_ (hw.get (i:=0) rfl))) (fun x29 ex29 h=>(L.y rfl (Y.loadE1 (u:=tQi q6 gx11) jy rfl (fun w hw=>As.at_ (hw.get (i:=0) rfl)) (zH (vs:=q6) ex29)) (L.r 1 rfl (nsr (L.r 1 rfl (L.y rfl (Y.lenM (g:=I) (l:=x29) Tryz.underlying52 rfl (fun w hw=>As.atZ (sds:=(qF 3 1 I)) (vs:=q6) (j:=0) (c:=1) (hw.get (i:=1) rfl) (fun _ _=>rfl) ex29 rfl)) (L.r 1 rfl (L.nil ?_))))))))))
    refine E.thenN (W.block (W.loopJ (fun m gs D=>∃ gl13 gx14,gs=[(0,.int .i64 a0),(7,v5),(8,(jY b9 a0)),(28,v5),(29,.int .i64 (l4.length:Int)),(30,qI gx11),(34,tQi q6 gx11),(35,.int .i64 (x29.length:Int)),(36,qI gx14)]∧D=qnl w v5 q6 l4 b9 a0 gl13∧yX x29 gx11 go3 m gl13 gx14=some r) ⟨gl10,0,rfl,rfl,h⟩ ⟨rfl,rfl,rfl,rfl,rfl,rfl,rfl,rfl,rfl,trivial⟩ hI ?_))
    rintro m _ _ ⟨gl13,gx14,rfl,rfl,h⟩
    rcases m with _ | m
    ·rw [yX] at h;cases h
    rw [yX] at h
    generalize hg4:yX x29 gx11 go3 m=go4 at h
    rw [qdn] at h
    refine sr (L.ite h rfl (Y.lss rfl rfl) (fun c30 h=>?_) (fun c30 h=>?_))
    ·refine ln (W.seq (W.condT rfl (W.skip (E.thenN (W.seq (W.block (sr (L.m (V:=fun _=>el (tQi q6 gx11) (zG gx14)) h rfl (Y.indexM (g:=I) (l:=x29) Tryz.underlying52 sz3 rfl rfl (fun w hw=>As.atZ (sds:=(qF 3 1 I)) (vs:=q6) (j:=0) (c:=1) (hw.get (i:=1) rfl) (fun _ _=>rfl) ex29 rfl)) (fun x31 ex31 h=>(L.y rfl (Y.loadE1 (u:=.int .i64 x31) ag3 rfl (fun w hw=>As.atZ (sds:=(qF 3 1 I)) (vs:=q6) (j:=0) (c:=1) (hw.get (i:=1) rfl) (fun _ _=>rfl) ex29 rfl) (qf ex31)) (L.r 1 rfl (L.nil ?_))))))))))))
     refine E.thenN (W.region (L.r 2 rfl (L.m (V:=fun _=>el (jY b9 a0) (zG x31)) h rfl (Y.indexM (g:=I) (l:=gl13) Tryz.underlying52 sz3 rfl rfl (fun w hw=>As.at_ (hw.get (i:=2) rfl))) (fun x32 ex32 h=>(L.y rfl (Y.loadE1 (u:=.int .i64 x32) ag3 rfl (fun w hw=>As.at_ (hw.get (i:=2) rfl)) (qf ex32)) (L.m (V:=fun x33=>.int .i64 x33) h rfl (Y.addM rfl rfl) (fun x33 ex33 h=>(L.m (V:=fun _=>el (jY b9 a0) (zG x31)) h rfl (Y.indexM (g:=I) (l:=gl13) Tryz.underlying52 sz3 rfl rfl (fun w hw=>As.at_ (hw.get (i:=2) rfl))) (fun x34 ex34 h=>(L.storeSlM (q:=2) (row:=I) (vs:=(jX x33)) (j:=0) (u1:=x33) h sz3 rfl rfl rfl rfl rfl (qT rfl za) rfl ex34 rfl rfl ?_))))))))))
     intro l35 el35 h
     exact L.nil (E.blockN (E.thenN (W.region (L.m (V:=fun x36=>.int .i64 x36) h rfl (Y.addM rfl rfl) (fun x36 ex36 h=>(L.r 1 rfl (L.nil (E.aJ ⟨l35,x36,rfl,rfl,by rw [hg4];exact h⟩ hI))))))))
    exact ln (W.seq (W.condF rfl (W.exit (E.thenX (E.KLX (E.blockX (E.blockN (E.jJ ⟨gl13,rfl,rfl,h⟩ hI))))))))
   rintro _ _ ⟨gl12,rfl,rfl,h⟩
   rw [qhn] at h
   exact W.region (L.m (V:=fun x28=>.int .i64 x28) h rfl (Y.addM rfl rfl) (fun x28 ex28 h=>(L.r 1 rfl (L.nil (E.aJ ⟨gl12,x28,rfl,rfl,by rw [hg3];exact h⟩ hI)))))
  exact ln (W.seq (W.condF rfl (W.exit (E.thenX (E.KLX (E.blockX (E.jJ ⟨gl10,rfl,rfl,h⟩ hI)))))))
 rintro _ _ ⟨gl1,rfl,rfl,h⟩
 rw [qhp] at h
 refine sr (L.r 1 rfl (ln (W.seqJ (fun gs D=>∃ gv2 gl3,gs=[(13,gv2)]∧D=Cls w [] [tQI gv2 gl3]∧qjd gl3=some r) ?_ ?_)))
 ·refine W.block (W.nilSl 3 1 (W.loopJ (fun m gs D=>∃ gl4 gv5 gl6,gs=[(0,.int .i64 a0),(7,v5),(8,(jY b9 a0)),(13,gv5)]∧D=Cls w [] [.sl v5 52 1 (zr qh q6 l4),tQW q6 l4,.sl (jY b9 a0) 3 1 (gl4.map I),tQI gv5 gl6]∧wv a0 l4 m gl4 gl6=some r) ⟨gl1,tQm,[],rfl,rfl,h⟩ ⟨rfl,rfl,rfl,rfl,trivial⟩ (sI [1,2,3,0]) ?_))
  rintro m _ _ ⟨gl4,gv5,gl6,rfl,rfl,h⟩
  rcases m with _ | m
  ·rw [wv] at h;cases h
  rw [wv] at h
  generalize hg1:wv a0 l4 m=go1 at h
  rw [qdq] at h
  refine W.seq (sr (L.r 1 rfl (L.y rfl (Y.lenM (g:=I) (l:=gl6) Tryz.underlying52 rfl (fun w hw=>As.at_ (hw.get (i:=3) rfl))) (L.r 1 rfl (L.ite h rfl (Y.lss rfl rfl) (fun c10 h=>?_) (fun c10 h=>?_))))))
  ·refine ln (W.condT rfl (W.skip (E.thenN (W.block (sr (L.r 1 rfl ?_))))))
   obtain ⟨x11,e12,h⟩:=qc h
   refine L.y rfl (Y.does (by kernel_rfl) rfl (fun w' hw=>(W41 gl4 0 (jY b9 a0) w' _ e12 (As.at_ (hw.get (i:=2) rfl))).mono (fun _ _ h=>h.1))) (L.r 1 rfl (ln (W.seq (sr (L.r 1 rfl (L.ite h rfl (Y.lss rfl rfl) (fun c13 h=>?_) (fun c13 h=>?_)))))))
   ·refine ln (W.condT rfl (sr (L.r 2 rfl (ln (W.ret (E.thenR (E.blockR (E.KLR (E.blockR (E.KSR ?_))))))))))
    refine E.ret2 rfl rfl rfl (fun w1 hw=>?_)
    cases h
    exact ⟨_,_,rfl,⟨_,rfl,rfl⟩,(hw.nilSl 3 1).sel [0] (by decide) rfl⟩
   refine ln (W.condF rfl (W.skip (E.thenN (sr (L.r 2 rfl (L.m (V:=fun _=>el (jY b9 a0) (zG x11)) h rfl (Y.indexM (g:=I) (l:=gl4) Tryz.underlying52 sz3 rfl rfl (fun w hw=>As.at_ (hw.get (i:=2) rfl))) (fun x14 ex14 h=>(L.storeSlM (q:=2) (row:=I) (vs:=[.int .i64 (-1)]) (j:=0) (u1:=(-1)) h sz3 rfl rfl rfl rfl rfl (qT rfl za) rfl ex14 rfl rfl ?_))))))))
   intro l15 el15 h
   refine ln (W.seqJ (fun gs D=>∃ gl7,gs=[(0,.int .i64 a0),(7,v5),(8,(jY b9 a0)),(13,gv5),(14,.int .i64 x11)]∧D=Cls w [] [.sl v5 52 1 (zr qh q6 l4),tQW q6 l4,.sl (jY b9 a0) 3 1 (gl7.map I),tQI gv5 gl6]∧qho gl6 x11 go1 gl7=some r) ?_ ?_)
   ·refine sr (L.r 2 rfl (L.m (V:=fun _=>el v5 (zG x11)) h rfl (Y.indexMZ (row:=qh) (vs:=q6) (l:=l4) Tryz.underlying47 vA rfl rfl (fun w hw=>As.at_ (hw.get (i:=0) rfl))) (fun x19 ex19 h=>(L.y rfl (Y.loadE1 (u:=tQi q6 x11) jy rfl (fun w hw=>As.at_ (hw.get (i:=0) rfl)) (zH (vs:=q6) ex19)) (L.y rfl (Y.lenM (g:=I) (l:=x19) Tryz.underlying52 rfl (fun w hw=>As.atZ (sds:=(qF 3 1 I)) (vs:=q6) (j:=0) (c:=1) (hw.get (i:=1) rfl) (fun _ _=>rfl) ex19 rfl)) (L.r 1 rfl (ln (W.block (W.loopJ (fun m gs D=>∃ gl8 gx9,gs=[(0,.int .i64 a0),(7,v5),(8,(jY b9 a0)),(13,gv5),(14,.int .i64 x11),(62,tQi q6 x11),(63,.int .i64 (x19.length:Int)),(64,.int .i64 gx9)]∧D=Cls w [] [.sl v5 52 1 (zr qh q6 l4),tQW q6 l4,.sl (jY b9 a0) 3 1 (gl8.map I),tQI gv5 gl6]∧yY x19 gl6 x11 go1 m gl8 gx9=some r) ⟨l15,0,rfl,rfl,h⟩ ⟨rfl,rfl,rfl,rfl,rfl,rfl,rfl,rfl,trivial⟩ hI ?_)))))))))
    rintro m _ _ ⟨gl8,gx9,rfl,rfl,h⟩
    rcases m with _ | m
    ·rw [yY] at h;cases h
    rw [yY] at h
    generalize hg2:yY x19 gl6 x11 go1 m=go2 at h
    rw [qdp] at h
    refine sr (L.ite h rfl (Y.lss rfl rfl) (fun c20 h=>?_) (fun c20 h=>?_))
    ·refine ln (W.seq (W.condT rfl (W.skip (E.thenN (W.seq (W.block (sr (L.m (V:=fun _=>el (tQi q6 x11) (zG gx9)) h rfl (Y.indexM (g:=I) (l:=x19) Tryz.underlying52 sz3 rfl rfl (fun w hw=>As.atZ (sds:=(qF 3 1 I)) (vs:=q6) (j:=0) (c:=1) (hw.get (i:=1) rfl) (fun _ _=>rfl) ex19 rfl)) (fun x21 ex21 h=>(L.y rfl (Y.loadE1 (u:=.int .i64 x21) ag3 rfl (fun w hw=>As.atZ (sds:=(qF 3 1 I)) (vs:=q6) (j:=0) (c:=1) (hw.get (i:=1) rfl) (fun _ _=>rfl) ex19 rfl) (qf ex21)) (L.r 1 rfl (L.nil ?_))))))))))))
     refine E.thenN (W.region (L.r 2 rfl (L.m (V:=fun _=>el (jY b9 a0) (zG x21)) h rfl (Y.indexM (g:=I) (l:=gl8) Tryz.underlying52 sz3 rfl rfl (fun w hw=>As.at_ (hw.get (i:=2) rfl))) (fun x22 ex22 h=>(L.y rfl (Y.loadE1 (u:=.int .i64 x22) ag3 rfl (fun w hw=>As.at_ (hw.get (i:=2) rfl)) (qf ex22)) (L.m (V:=fun x23=>.int .i64 x23) h rfl (Y.subM rfl rfl) (fun x23 ex23 h=>(L.m (V:=fun _=>el (jY b9 a0) (zG x21)) h rfl (Y.indexM (g:=I) (l:=gl8) Tryz.underlying52 sz3 rfl rfl (fun w hw=>As.at_ (hw.get (i:=2) rfl))) (fun x24 ex24 h=>(L.storeSlM (q:=2) (row:=I) (vs:=(jX x23)) (j:=0) (u1:=x23) h sz3 rfl rfl rfl rfl rfl (qT rfl za) rfl ex24 rfl rfl ?_))))))))))
     intro l25 el25 h
     exact L.nil (E.blockN (E.thenN (W.region (L.m (V:=fun x26=>.int .i64 x26) h rfl (Y.addM rfl rfl) (fun x26 ex26 h=>(L.r 1 rfl (L.nil (E.aJ ⟨l25,x26,rfl,rfl,by rw [hg2];exact h⟩ hI))))))))
    exact ln (W.seq (W.condF rfl (W.exit (E.thenX (E.KLX (E.blockX (E.jJ ⟨gl8,rfl,rfl,h⟩ hI)))))))
   rintro _ _ ⟨gl7,rfl,rfl,h⟩
   rw [qho] at h
   refine W.region (L.r 2 rfl (L.litOne rfl Tryz.underlying52 eL3 rfl rfl ?_))
   intro b16
   refine L.appM (i:=4) (g:=I) (l:=gl6) (more:=[x11]) h rfl Tryz.underlying52 eL3 rfl rfl rfl (fun w hw=>As.at_ (hw.get (i:=0) rfl)) (qR _) rfl ?_
   intro v17 l18 el18 h
   exact L.r 1 rfl (L.nil (E.blockN (E.aJ ⟨gl7,v17,l18,rfl,rfl,by rw [hg1];exact h⟩ (sI [2,3,4,0]))))
  exact ln (W.condF rfl (W.exit (E.thenX (E.KLX (E.blockX (E.jJ ⟨gv5,gl6,rfl,rfl,h⟩ (sI [3])))))))
 rintro _ _ ⟨gv2,gl3,rfl,rfl,h⟩
 rw [qjd] at h
 refine sr (L.r 3 rfl (ln (W.ret (E.ret2 rfl rfl rfl (fun w1 hw=>?_)))))
 cases h
 exact ⟨_,_,rfl,⟨_,rfl,rfl⟩,hw⟩
set_option maxRecDepth 100000 in
set_option maxHeartbeats 8000000 in
theorem W12 (a0:TStory) (u0_0:Value) (q0_0:Nat→List Value) (u0_2:Value) (q0_2:Nat→List Value) (K:World→Prop) (w:World) (hK:StbF K w []) (r:((List Int)×Int)) (h:M12 a0=some r) (hA0_0:Fz K [] u0_0 2 (zr TTale.rowv q0_0 a0.Tales)) (hD0_0:FzA K [] (zs TTale.sds q0_0 a0.Tales)) (hA0_2:Fz K [] u0_2 1 (zr qh q0_2 a0.Versions)) (hD0_2:FzA K [] (zs (qF 3 1 I) q0_2 a0.Versions)):Does Tryz.prog 12 [.agg #[u0_0,u0_2]] w fun u m=>∃ c,m=[.os c]∧∃ v0,u=.tuple #[v0,.int .i64 r.2]∧Fz K c v0 1 (r.1.map I):=by
 rw [M12] at h
 refine body (n:=44) Tryz.func12 rfl rfl rfl (Cls.reflF w) (sr (L.box rfl rfl ?_))
 intro b1
 refine L.r 2 rfl (nsr (L.y rfl (Y.loadPW (i:=0) qfn wh rfl rfl rfl) ?_))
 obtain ⟨l2,x5,e6,h⟩:=qt h
 refine L.doesFP rfl (by kernel_rfl) rfl rfl hK (fun w' hw hs=>W29 a0 u0_0 q0_0 u0_2 q0_2 _ w' hs.f _ e6 hA0_0.up.tok hD0_0.up.tok hA0_2.up.tok hD0_2.up.tok) ?_
 rintro _ c7 c8 mo9 mn10 ma11 ⟨v3,rfl,f4⟩
 refine L.r 5 rfl (ln (W.seq (sr (L.r 1 rfl (L.ite h rfl (Y.neq rfl rfl) (fun c12 h=>?_) (fun c12 h=>?_))))))
 ·refine ln (W.condT rfl (sr (L.r 3 rfl (ln (W.ret (E.thenR (E.ret2 rfl rfl rfl (fun w1 hw=>?_))))))))
  cases h
  exact ⟨_,_,rfl,⟨c8,rfl,(tQm),rfl,Fz.nil⟩,hw.s [1]⟩
 refine ln (W.condF rfl (W.skip (E.thenN (sr (L.r 1 rfl (ln (W.seqJ (fun gs D=>∃ gv1 gl2,gs=[(1,pt b1 0),(6,gv1)]∧D=Cls w [] [qat b1 u0_0 u0_2,.sl gv1 104 2 (gl2.map TE.row),.os c8]∧qhI a0 gl2=some r) ?_ ?_)))))))
 ·refine sr (L.r 1 rfl (L.y rfl (Y.lenM (g:=TDep.row) (l:=l2) Tryz.underlying97 rfl (fun w' hw=>((mn10 f4).clsP hK hw rfl))) (L.r 1 rfl (ln (W.block (W.nilSl 104 2 (W.loopJ (fun m gs D=>∃ gv20 gl21 gx22,gs=[(1,pt b1 0),(6,gv20),(18,v3),(19,.int .i64 (l2.length:Int)),(20,qI gx22)]∧D=Cls w [] [qat b1 u0_0 u0_2,.sl gv20 104 2 (gl21.map TE.row),.os c8]∧qah l2 a0 m gl21 gx22=some r) ⟨tQm,[],0,rfl,rfl,h⟩ ⟨rfl,rfl,rfl,rfl,rfl,trivial⟩ (sI [1,0,2]) ?_)))))))
  rintro m _ _ ⟨gv20,gl21,gx22,rfl,rfl,h⟩
  rcases m with _ | m
  ·rw [qah] at h;cases h
  rw [qah] at h
  generalize hg5:qah l2 a0 m=go5 at h
  rw [qd0] at h
  refine sr (L.ite h rfl (Y.lss rfl rfl) (fun c47 h=>?_) (fun c47 h=>?_))
  ·refine ln (W.seq (W.condT rfl (W.skip (E.thenN (W.seq (W.block (sr (L.m (V:=fun _=>el v3 (gx22.toNat*3)) h rfl (Y.indexM (g:=TDep.row) (l:=l2) Tryz.underlying97 xx rfl rfl (fun w' hw=>((mn10 f4).clsP hK hw rfl))) (fun x48 ex48 h=>(L.y rfl (Y.loadEN (r:=(qjE x48)) qbf xx rfl (fun w' hw=>((mn10 f4).clsP hK hw rfl)) (qf ex48) rfl) (L.alloc rfl qmc ?_)))))))))))
   intro b49
   refine L.sv (i:=0) (vs:=(qjE x48)) xx rfl rfl rfl rfl rfl nb (nr (L.r 1 rfl (L.y rfl (Y.fieldP qcc rfl) (L.y rfl (Y.loadP (i:=0) ag3 rfl rfl rfl) (L.y rfl (Y.fieldP qcb rfl) (L.y rfl (Y.loadP (i:=0) ag3 rfl rfl rfl) (L.y rfl (Y.build (cells:=#[.int .i64 x48.From,.int .i64 x48.To]) rfl (by kernel_rfl)) (L.litAgg rfl Tryz.underlying100 qmX rfl rfl rfl ?_))))))))
   intro b50
   refine L.appM (i:=3) (g:=TE.row) (l:=gl21) (more:=[(⟨x48.From,x48.To⟩:TE)]) h rfl Tryz.underlying100 qmX rfl rfl rfl (fun w hw=>As.at_ (hw.get (i:=0) rfl)) (qbU _) rfl ?_
   intro v51 l52 el52 h
   exact L.r 1 rfl (L.nil (E.blockN (E.thenN (W.region (L.m (V:=fun x53=>.int .i64 x53) h rfl (Y.addM rfl rfl) (fun x53 ex53 h=>(L.r 1 rfl (L.nil (E.aJ ⟨v51,l52,x53,rfl,rfl,by rw [hg5];exact h⟩ (sI [3,0,4]))))))))))
  exact ln (W.seq (W.condF rfl (W.exit (E.thenX (E.KLX (E.blockX (E.jJ ⟨gv20,gl21,rfl,rfl,h⟩ hI)))))))
 rintro _ _ ⟨gv1,gl2,rfl,rfl,h⟩
 rw [qhI] at h
 refine sr (L.r 1 rfl ?_)
 obtain ⟨l13,x15,e16,h⟩:=qt h
 refine L.does rfl (by kernel_rfl) rfl (fun w' hw=>W30 12 gl2 gv1 w' _ e16 (As.at_ (hw.get (i:=1) rfl))) ?_
 rintro _ _ ⟨v14,rfl,rfl⟩
 refine L.r 5 rfl (ln (W.seq (sr (L.r 1 rfl (L.ite h rfl (Y.neq rfl rfl) (fun c17 h=>?_) (fun c17 h=>?_))))))
 ·refine ln (W.condT rfl (sr (L.r 3 rfl (ln (W.ret (E.thenR (E.ret2 rfl rfl rfl (fun w1 hw=>?_))))))))
  cases h
  exact ⟨_,_,rfl,⟨c8,rfl,(tQm),rfl,Fz.nil⟩,hw.s [3]⟩
 refine ln (W.condF rfl (W.skip (E.thenN (sr (L.r 1 rfl (L.y rfl (Y.func rfl) (L.callJ (fun v D=>∃ gv3 gl4,v=gv3∧D=Cls w [] [tQI gv3 gl4,.os c8]∧qfc gl4=some r) rfl (by kernel_rfl) rfl Tryz.func31 rfl rfl rfl ?_ ?_)))))))
 ·refine sr (L.r 1 rfl (nsr (L.r 2 rfl (L.callJ (fun v D=>∃ gx5,v=.int .i64 gx5∧D=qfe w b1 u0_0 u0_2 v14 l13 c8∧qfb l13 a0 gx5=some r) rfl (by kernel_rfl) rfl Tryz.func65 rfl rfl rfl ?_ ?_))))
  ·refine sr (L.r 1 rfl (ln (W.seqJ (fun gs D=>gs=[]∧D=qfe w b1 u0_0 u0_2 v14 l13 c8∧qd8 l13 a0=some r) ?_ ?_)))
   ·refine sr (L.r 1 rfl (L.y rfl (Y.lenM (g:=I) (l:=l13) Tryz.underlying52 rfl (fun w hw=>As.at_ (hw.get (i:=0) rfl))) (L.r 1 rfl (ln (W.block (W.loopJ (fun m gs D=>∃ gx15,gs=[(0,v14),(1,.func (.func 32) #[] #[pt b1 0]),(7,.int .i64 (l13.length:Int)),(8,qI gx15)]∧D=qfe w b1 u0_0 u0_2 v14 l13 c8∧wC l13 a0 m gx15=some r) ⟨0,rfl,rfl,h⟩ ⟨rfl,rfl,rfl,rfl,trivial⟩ (sI [1,0,3]) ?_))))))
    rintro m _ _ ⟨gx15,rfl,rfl,h⟩
    rcases m with _ | m
    ·rw [wC] at h;cases h
    rw [wC] at h
    generalize hg3:wC l13 a0 m=go3 at h
    rw [qd2] at h
    refine sr (L.ite h rfl (Y.lss rfl rfl) (fun c39 h=>?_) (fun c39 h=>?_))
    ·refine ln (W.seq (W.condT rfl (W.skip (E.thenN (W.seq (W.block (sr (L.r 2 rfl (ln (W.seq ?_))))))))))
     refine W.region (L.r 3 rfl (L.m (V:=fun _=>el v14 (zG gx15)) h rfl (Y.indexM (g:=I) (l:=l13) Tryz.underlying52 sz3 rfl rfl (fun w hw=>As.at_ (hw.get (i:=1) rfl))) (fun x40 ex40 h=>(L.y rfl (Y.loadE1 (u:=.int .i64 x40) ag3 rfl (fun w hw=>As.at_ (hw.get (i:=1) rfl)) (qf ex40)) (L.callVJ (fun v D=>∃ gb16,v=.bool gb16∧D=qfe w b1 u0_0 u0_2 v14 l13 c8∧qd7 l13 a0 gx15 go3 gb16=some r) rfl (by kernel_rfl) rfl rfl Tryz.func32 rfl rfl rfl ?_ ?_)))))
     ·refine sr (L.box rfl rfl ?_)
      intro b42
      refine L.r 1 rfl (nsr (L.y rfl (Y.fieldP xO rfl) (L.y rfl (Y.loadP (i:=1) qhX rfl rfl rfl) (L.y rfl (Y.func rfl) (L.callJ (fun v D=>∃ gb17,v=.bool gb17∧D=qfe w b1 u0_0 u0_2 v14 l13 c8∧yh l13 a0 gx15 go3 gb17=some r) rfl (by kernel_rfl) rfl Tryz.func33 rfl rfl rfl ?_ ?_)))))
      ·refine sr (L.r 1 rfl (nsr (L.r 2 rfl (L.callJ (fun v D=>∃ gx18,v=qI gx18∧D=qfe w b1 u0_0 u0_2 v14 l13 c8∧yg l13 a0 gx15 go3 gx18=some r) rfl (by kernel_rfl) rfl Tryz.func66 rfl rfl rfl ?_ ?_))))
       ·refine sr (L.r 1 rfl (ln (W.seqJ (fun gs D=>gs=[]∧D=qfe w b1 u0_0 u0_2 v14 l13 c8∧qd6 l13 a0 gx15 go3=some r) ?_ ?_)))
        ·refine sr (L.r 1 rfl (L.y rfl (Y.lenMZ (row:=TTale.rowv) (vs:=q0_0) (l:=a0.Tales) Tryz.underlying46 rfl (fun w' hw=>(hA0_0.up.clsP hK hw rfl))) (L.r 1 rfl (ln (W.block (W.loopJ (fun m gs D=>∃ gx19,gs=[(0,u0_0),(1,.func (.func 34) #[] #[pt b42 0]),(7,qfJ a0),(8,qI gx19)]∧D=Cls w [] [tQO b42 x40,qat b1 u0_0 u0_2,tQI v14 l13,.os c8]∧qai a0 x40 l13 gx15 go3 m gx19=some r) ⟨0,rfl,rfl,h⟩ ⟨rfl,rfl,rfl,rfl,trivial⟩ hI ?_))))))
         rintro m _ _ ⟨gx19,rfl,rfl,h⟩
         rcases m with _ | m
         ·rw [qai] at h;cases h
         rw [qai] at h
         generalize hg4:qai a0 x40 l13 gx15 go3 m=go4 at h
         rw [qd1] at h
         refine sr (L.ite h rfl (Y.lss rfl rfl) (fun c43 h=>?_) (fun c43 h=>?_))
         ·refine ln (W.seq (W.condT rfl (W.skip (E.thenN (W.seq (W.block (sr (L.r 2 rfl (ln (W.seq ?_))))))))))
          refine W.region (L.r 3 rfl (L.m (V:=fun _=>wJ u0_0 gx19) h rfl (Y.indexMZ (row:=TTale.rowv) (vs:=q0_0) (l:=a0.Tales) Tryz.underlying46 qcB rfl rfl (fun w' hw=>(hA0_0.up.clsP hK hw rfl))) (fun x44 ex44 h=>(L.y rfl (Y.loadEN (r:=(qeq x44 q0_0 gx19)) ql1 qcB rfl (fun w' hw=>(hA0_0.up.clsP hK hw rfl)) (zH (vs:=q0_0) ex44) rfl) (L.callVJ (fun v D=>v=.bool (decide (x44.Tx=x40))∧D=Cls w [] [tQO b42 x40,qat b1 u0_0 u0_2,tQI v14 l13,.os c8]∧qd5 x44 x40 l13 a0 gx15 go3 gx19 go4=some r) rfl (by kernel_rfl) rfl rfl Tryz.func34 rfl rfl rfl ?_ ?_)))))
          ·refine sr (L.box rfl rfl ?_)
           intro b46
           refine L.r 1 rfl (nsr (L.y rfl (Y.fieldP xv rfl) (L.y rfl (Y.loadP (i:=0) ag3 rfl rfl rfl) (L.y rfl (Y.loadP (i:=1) ag3 rfl rfl rfl) (L.y rfl (Y.eql rfl rfl) (L.r 1 rfl (ln (W.ret (E.ret1 rfl rfl (fun w1 hw=>?_))))))))))
           exact ⟨_,_,rfl,⟨rfl,rfl,h⟩,hw.s [1,2,3,4]⟩
          rintro _ _ ⟨rfl,rfl,h⟩
          rw [qd5] at h
          refine ln (W.caseB (q:=16) h rfl (fun h=>?_) (fun h=>?_))
          ·exact W.condT rfl (sr (L.r 2 rfl (ln (W.ret (E.blockR (E.thenR (E.KLR (E.blockR (E.KSR (E.ret1 rfl rfl (fun w1 hw=>(⟨_,_,rfl,⟨gx19,rfl,rfl,h⟩,hw.s [1,2,3]⟩))))))))))))
          exact W.condF rfl (W.skip (E.blockN (E.thenN (W.region (L.m (V:=fun x45=>.int .i64 x45) h rfl (Y.addM rfl rfl) (fun x45 ex45 h=>(L.r 1 rfl (L.nil (E.aJ ⟨x45,rfl,rfl,by rw [hg4];exact h⟩ hI)))))))))
         exact ln (W.seq (W.condF rfl (W.exit (E.thenX (E.KLX (E.blockX (E.joinJ ⟨rfl,rfl,h⟩ trivial (sI [1,2,3]))))))))
        rintro _ _ ⟨rfl,rfl,h⟩
        rw [qd6] at h
        exact sr (L.r 1 rfl (ln (W.ret (E.ret1 rfl rfl (fun w1 hw=>(⟨_,_,rfl,⟨(-1),rfl,rfl,h⟩,hw⟩))))))
       rintro _ _ ⟨gx18,rfl,rfl,h⟩
       rw [yg] at h
       exact L.y rfl (Y.geq rfl rfl) (L.r 1 rfl (ln (W.ret (E.ret1 rfl rfl (fun w1 hw=>(⟨_,_,rfl,⟨decide (0≤gx18),rfl,rfl,h⟩,hw⟩))))))
      rintro _ _ ⟨gb17,rfl,rfl,h⟩
      rw [yh] at h
      exact L.y rfl (Y.not rfl) (L.r 1 rfl (ln (W.ret (E.ret1 rfl rfl (fun w1 hw=>(⟨_,_,rfl,⟨(!gb17),rfl,rfl,h⟩,hw⟩))))))
     rintro _ _ ⟨gb16,rfl,rfl,h⟩
     rw [qd7] at h
     rcases gb16 with _ | _
     ·replace h:=zn h
      exact ln (W.condF rfl (W.skip (E.blockN (E.thenN (W.region (L.m (V:=fun x41=>.int .i64 x41) h rfl (Y.addM rfl rfl) (fun x41 ex41 h=>(L.r 1 rfl (L.nil (E.aJ ⟨x41,rfl,rfl,by rw [hg3];exact h⟩ hI))))))))))
     replace h:=zm h
     refine ln (W.condT rfl (sr (L.r 2 rfl (ln (W.ret (E.blockR (E.thenR (E.KLR (E.blockR (E.KSR ?_))))))))))
     exact E.ret1 rfl rfl (fun w1 hw=>(⟨_,_,rfl,⟨gx15,rfl,rfl,h⟩,hw⟩))
    exact ln (W.seq (W.condF rfl (W.exit (E.thenX (E.KLX (E.blockX (E.joinJ ⟨rfl,rfl,h⟩ trivial hI)))))))
   rintro _ _ ⟨rfl,rfl,h⟩
   rw [qd8] at h
   exact sr (L.r 1 rfl (ln (W.ret (E.ret1 rfl rfl (fun w1 hw=>(⟨_,_,rfl,⟨(-1),rfl,rfl,h⟩,hw⟩))))))
  rintro _ _ ⟨gx5,rfl,rfl,h⟩
  rw [qfb] at h
  refine L.r 1 rfl (ln (W.seq (sr (L.r 1 rfl (L.ite h rfl (Y.eql rfl rfl) (fun c21 h=>?_) (fun c21 h=>?_))))))
  ·exact ln (W.condT rfl (sr (L.r 2 rfl (ln (W.ret (E.thenR (E.ret1 rfl rfl (fun w1 hw=>(⟨_,_,rfl,⟨v14,l13,rfl,rfl,h⟩,hw.s [1,2]⟩)))))))))
  refine ln (W.condF rfl (W.skip (E.thenN (W.seqJ (fun gs D=>∃ gl6 gx7,gs=[(0,v14),(5,.int .i64 gx7)]∧D=Cls w [] [tQI v14 gl6,.os c8]∧qjs gl6 gx7=some r) ?_ ?_))))
  ·refine sr (L.r 1 rfl (L.m (V:=fun x26=>.int .i64 x26) h rfl (Y.addM rfl rfl) (fun x26 ex26 h=>(L.r 1 rfl (ln (W.block (W.loopJ (fun m gs D=>∃ gl8 gx9 gx10,gs=[(0,v14),(1,.func (.func 32) #[] #[pt b1 0]),(5,.int .i64 gx9),(6,qI gx10)]∧D=qfe w b1 u0_0 u0_2 v14 gl8 c8∧wD a0 m gl8 gx9 gx10=some r) ⟨l13,gx5,x26,rfl,rfl,h⟩ ⟨rfl,rfl,rfl,rfl,trivial⟩ hI ?_)))))))
   rintro m _ _ ⟨gl8,gx9,gx10,rfl,rfl,h⟩
   rcases m with _ | m
   ·rw [wD] at h;cases h
   rw [wD] at h
   generalize hg1:wD a0 m=go1 at h
   rw [qd4] at h
   refine W.seq (sr (L.r 2 rfl (L.y rfl (Y.lenM (g:=I) (l:=gl8) Tryz.underlying52 rfl (fun w hw=>As.at_ (hw.get (i:=1) rfl))) (L.ite h rfl (Y.lss rfl rfl) (fun c27 h=>?_) (fun c27 h=>?_)))))
   ·refine ln (W.condT rfl (W.skip (E.thenN (W.seq (W.block (sr (L.r 2 rfl (L.m (V:=fun _=>el v14 (zG gx10)) h rfl (Y.indexM (g:=I) (l:=gl8) Tryz.underlying52 sz3 rfl rfl (fun w hw=>As.at_ (hw.get (i:=1) rfl))) (fun x28 ex28 h=>(L.y rfl (Y.loadE1 (u:=.int .i64 x28) ag3 rfl (fun w hw=>As.at_ (hw.get (i:=1) rfl)) (qf ex28)) (L.r 1 rfl (L.nil ?_))))))))))))
    refine E.thenN (sr (L.r 2 rfl (L.callVJ (fun v D=>∃ gb11,v=.bool gb11∧D=qfe w b1 u0_0 u0_2 v14 gl8 c8∧qjr gx10 go1 gl8 gx9 x28 gb11=some r) rfl (by kernel_rfl) rfl rfl Tryz.func32 rfl rfl rfl ?_ ?_)))
    ·refine sr (L.box rfl rfl ?_)
     intro b34
     refine L.r 1 rfl (nsr (L.y rfl (Y.fieldP xO rfl) (L.y rfl (Y.loadP (i:=1) qhX rfl rfl rfl) (L.y rfl (Y.func rfl) (L.callJ (fun v D=>∃ gb12,v=.bool gb12∧D=qfe w b1 u0_0 u0_2 v14 gl8 c8∧qfa gx10 go1 gl8 gx9 x28 gb12=some r) rfl (by kernel_rfl) rfl Tryz.func33 rfl rfl rfl ?_ ?_)))))
     ·refine sr (L.r 1 rfl (nsr (L.r 2 rfl (L.callJ (fun v D=>∃ gx13,v=qI gx13∧D=qfe w b1 u0_0 u0_2 v14 gl8 c8∧qe9 gx10 go1 gl8 gx9 x28 gx13=some r) rfl (by kernel_rfl) rfl Tryz.func66 rfl rfl rfl ?_ ?_))))
      ·refine sr (L.r 1 rfl (ln (W.seqJ (fun gs D=>gs=[]∧D=qfe w b1 u0_0 u0_2 v14 gl8 c8∧qjq gx10 go1 gl8 gx9 x28=some r) ?_ ?_)))
       ·refine sr (L.r 1 rfl (L.y rfl (Y.lenMZ (row:=TTale.rowv) (vs:=q0_0) (l:=a0.Tales) Tryz.underlying46 rfl (fun w' hw=>(hA0_0.up.clsP hK hw rfl))) (L.r 1 rfl (ln (W.block (W.loopJ (fun m gs D=>∃ gx14,gs=[(0,u0_0),(1,.func (.func 34) #[] #[pt b34 0]),(7,qfJ a0),(8,qI gx14)]∧D=Cls w [] [tQO b34 x28,qat b1 u0_0 u0_2,tQI v14 gl8,.os c8]∧qaj a0 x28 gx10 go1 gl8 gx9 m gx14=some r) ⟨0,rfl,rfl,h⟩ ⟨rfl,rfl,rfl,rfl,trivial⟩ hI ?_))))))
        rintro m _ _ ⟨gx14,rfl,rfl,h⟩
        rcases m with _ | m
        ·rw [qaj] at h;cases h
        rw [qaj] at h
        generalize hg2:qaj a0 x28 gx10 go1 gl8 gx9 m=go2 at h
        rw [qd3] at h
        refine sr (L.ite h rfl (Y.lss rfl rfl) (fun c35 h=>?_) (fun c35 h=>?_))
        ·refine ln (W.seq (W.condT rfl (W.skip (E.thenN (W.seq (W.block (sr (L.r 2 rfl (ln (W.seq ?_))))))))))
         refine W.region (L.r 3 rfl (L.m (V:=fun _=>wJ u0_0 gx14) h rfl (Y.indexMZ (row:=TTale.rowv) (vs:=q0_0) (l:=a0.Tales) Tryz.underlying46 qcB rfl rfl (fun w' hw=>(hA0_0.up.clsP hK hw rfl))) (fun x36 ex36 h=>(L.y rfl (Y.loadEN (r:=(qeq x36 q0_0 gx14)) ql1 qcB rfl (fun w' hw=>(hA0_0.up.clsP hK hw rfl)) (zH (vs:=q0_0) ex36) rfl) (L.callVJ (fun v D=>v=.bool (decide (x36.Tx=x28))∧D=Cls w [] [tQO b34 x28,qat b1 u0_0 u0_2,tQI v14 gl8,.os c8]∧qjp x36 x28 gx10 go1 gl8 gx9 gx14 go2=some r) rfl (by kernel_rfl) rfl rfl Tryz.func34 rfl rfl rfl ?_ ?_)))))
         ·refine sr (L.box rfl rfl ?_)
          intro b38
          refine L.r 1 rfl (nsr (L.y rfl (Y.fieldP xv rfl) (L.y rfl (Y.loadP (i:=0) ag3 rfl rfl rfl) (L.y rfl (Y.loadP (i:=1) ag3 rfl rfl rfl) (L.y rfl (Y.eql rfl rfl) (L.r 1 rfl (ln (W.ret (E.ret1 rfl rfl (fun w1 hw=>?_))))))))))
          exact ⟨_,_,rfl,⟨rfl,rfl,h⟩,hw.s [1,2,3,4]⟩
         rintro _ _ ⟨rfl,rfl,h⟩
         rw [qjp] at h
         refine ln (W.caseB (q:=16) h rfl (fun h=>?_) (fun h=>?_))
         ·exact W.condT rfl (sr (L.r 2 rfl (ln (W.ret (E.blockR (E.thenR (E.KLR (E.blockR (E.KSR (E.ret1 rfl rfl (fun w1 hw=>(⟨_,_,rfl,⟨gx14,rfl,rfl,h⟩,hw.s [1,2,3]⟩))))))))))))
         exact W.condF rfl (W.skip (E.blockN (E.thenN (W.region (L.m (V:=fun x37=>.int .i64 x37) h rfl (Y.addM rfl rfl) (fun x37 ex37 h=>(L.r 1 rfl (L.nil (E.aJ ⟨x37,rfl,rfl,by rw [hg2];exact h⟩ hI)))))))))
        exact ln (W.seq (W.condF rfl (W.exit (E.thenX (E.KLX (E.blockX (E.joinJ ⟨rfl,rfl,h⟩ trivial (sI [1,2,3]))))))))
       rintro _ _ ⟨rfl,rfl,h⟩
       rw [qjq] at h
       exact sr (L.r 1 rfl (ln (W.ret (E.ret1 rfl rfl (fun w1 hw=>(⟨_,_,rfl,⟨(-1),rfl,rfl,h⟩,hw⟩))))))
      rintro _ _ ⟨gx13,rfl,rfl,h⟩
      rw [qe9] at h
      exact L.y rfl (Y.geq rfl rfl) (L.r 1 rfl (ln (W.ret (E.ret1 rfl rfl (fun w1 hw=>(⟨_,_,rfl,⟨decide (0≤gx13),rfl,rfl,h⟩,hw⟩))))))
     rintro _ _ ⟨gb12,rfl,rfl,h⟩
     rw [qfa] at h
     exact L.y rfl (Y.not rfl) (L.r 1 rfl (ln (W.ret (E.ret1 rfl rfl (fun w1 hw=>(⟨_,_,rfl,⟨(!gb12),rfl,rfl,h⟩,hw⟩))))))
    rintro _ _ ⟨gb11,rfl,rfl,h⟩
    rw [qjr] at h
    rcases gb11 with _ | _
    ·replace h:=zn h
     refine L.y rfl (Y.not rfl) (ln (W.condT rfl (sr (L.r 3 rfl (L.m (V:=fun _=>el v14 (zG gx9)) h rfl (Y.indexM (g:=I) (l:=gl8) Tryz.underlying52 sz3 rfl rfl (fun w hw=>As.at_ (hw.get (i:=1) rfl))) (fun x29 ex29 h=>(L.storeSlM (q:=1) (row:=I) (vs:=(jX x28)) (j:=0) (u1:=x28) h sz3 rfl rfl rfl rfl rfl (qT rfl za) rfl ex29 rfl rfl ?_)))))))
     intro l30 el30 h
     exact nr (L.r 1 rfl (L.m (V:=fun x31=>.int .i64 x31) h rfl (Y.addM rfl rfl) (fun x31 ex31 h=>(L.r 1 rfl (L.nil (E.blockN (E.thenN (W.region (L.r 1 rfl (L.m (V:=fun x32=>.int .i64 x32) h rfl (Y.addM rfl rfl) (fun x32 ex32 h=>(L.r 1 rfl (L.nil (E.aJ ⟨l30,x31,x32,rfl,rfl,by rw [hg1];exact h⟩ hI))))))))))))))
    replace h:=zm h
    exact L.y rfl (Y.not rfl) (ln (W.condF rfl (W.skip (E.blockN (E.thenN (W.region (L.r 1 rfl (L.m (V:=fun x33=>.int .i64 x33) h rfl (Y.addM rfl rfl) (fun x33 ex33 h=>(L.r 1 rfl (L.nil (E.aJ ⟨gl8,gx9,x33,rfl,rfl,by rw [hg1];exact h⟩ hI))))))))))))
   exact ln (W.condF rfl (W.exit (E.thenX (E.KLX (E.blockX (E.jJ ⟨gl8,gx9,rfl,rfl,h⟩ (sI [1,2])))))))
  rintro _ _ ⟨gl6,gx7,rfl,rfl,h⟩
  rw [qjs] at h
  refine sr (L.r 2 rfl (L.m (V:=fun _=>zq v14 gx7.toNat 1) h rfl (Y.dropM (g:=I) Tryz.underlying52 sz3 rfl rfl (fun w hw=>As.at_ (hw.get (i:=0) rfl))) (fun l22 el22 h=>(L.clearM (i:=0) (g:=I) (z0:=0) (a:=gx7) h Tryz.underlying52 eL3 ze3 (fun u hu=>((qR _):Plain ([0].map I)) _ (List.mem_cons_self ..) u hu) rfl rfl ?_))))
  intro l23 el23 h
  refine nsr (L.r 2 rfl ?_)
  obtain ⟨l24,el24,h⟩:=qc h
  exact L.cutM (i:=0) (g:=I) el24 rfl Tryz.underlying52 sz3 rfl rfl rfl (fun v25=>(L.r 1 rfl (ln (W.ret (E.ret1 rfl rfl (fun w1 hw=>(⟨_,_,rfl,⟨v25,l24,rfl,rfl,h⟩,hw⟩)))))))
 rintro gv3 _ ⟨_,gl4,rfl,rfl,h⟩
 rw [qfc] at h
 refine L.r 2 rfl (ln (W.ret (E.frz (i:=0) rfl rfl rfl ?_)))
 intro c18 mo19 hf20
 refine E.ret2 rfl rfl rfl (fun w1 hw=>?_)
 cases h
 exact ⟨_,_,rfl,⟨c18,rfl,gv3,rfl,(hf20 K)⟩,hw⟩
end Go.Proofs.YtdlemoeinjihkaaGreatDoor
