import Derived.Test.YtloiiohoelhldaaGreatDoorSpV
import Derived.Test.YtloiiohoelhldaaGreatDoorSpW6
import Derived.Test.YtloiiohoelhldaaGreatDoorChecked
import Derived.KernelRfl
import Derived.Test.YtloiiohoelhldaaGreatDoorZg
set_option maxRecDepth 100000
set_option maxHeartbeats 8000000
namespace Go.Proofs.YtloiiohoelhldaaGreatDoor
open Go.S
set_option linter.unusedVariables false
set_option linter.unusedSimpArgs false
theorem W33{a0 a1 A51 A81 kT kJ kF kI kC kE kP kM kW kL w r F}(h:M33 a0 a1 A51 A81 kT kJ=some r)(hc0:Cls w F [tF kF kP A51,taw kI kC kE kM A81,tB kF kC kW kT,tA kE kL kJ] w):qz Tryz.prog 33 [VP kI a0,.int .i64 a1] F w fun u m=>∃Q51 Q81 Q122 Q149,u=.int .i64 r.2.2.2.2∧m=[yS kF Q51 r.1 [],jS kI kC kE Q81 r.2.1 [],xL kF kC Q122 r.2.2.1 [],zP kE Q149 r.2.2.2.1 []]:=by
 rw[M33]at h
 refine body (n:=105) Tryz.func33 O O O hc0<|bi1 h fun th1 kR h=>bC (D:=Cls w F<|tcn kI a0 kC th1 kM kE A81 kF kP A51 kW kT kL kJ) (aoI 1 O kR)<|sr<|L.r 1 O<|nsr<|L.r 2 O<|aj (D:=tbF w F kI kC kE kM A81 kF kP A51 kW kT kL kJ) (asI [0,1,2,3,4,5,6,7] kR O)<|aj (D:=tcF w F kI kC kE kM A81 kL kJ kF kP A51 kW kT) (sI [0,3,1,2])<|bi2 h fun x2 x3 e4 h=>aV (A:=(taZ kI kC kE kM A81 kL kJ)) (M:=(tbi kF kP A51 kC kW kT)) O qeF O (fun w' hw=>W68 e4 hw.lend) ?_
 rintro _ _ ⟨rfl,rfl⟩
 refine aj (D:=tcF w F kI kC kE kM A81 kL kJ kF kP A51 kW kT) hI<|bi1 h fun th5 jY h=>aj (D:=Cls w F<|tcm kI a0 kC th5 kM kE A81 kL kJ kF kP A51 kW kT) (aoI 0 O jY)<|L.r 5 O<|cjf<|L.r 1 O<|neL h (fun c6 h=>?_) fun c6 h=>?_
 ·cases h
  exact cjb<|L.r 2 O<|cjh<|az (D:=tcF w F kI kC kE kM A81 kL kJ kF kP A51 kW kT) (asI [0,1,2,3,4,5,6,7] jY O)<|rT fun w1 hw=>⟨_,_,O,⟨_,_,_,_,O,O⟩,hw.s [2,0,3,1]⟩
 refine cjl<|sr<|L.r 2 O<|aj (D:=tcF w F kI kC kE kM A81 kL kJ kF kP A51 kW kT) (asI [0,1,2,3,4,5,6,7] jY O)<|bi1 h fun b7 e8 h=>dP (taZ kI kC kE kM A81 kL kJ) (tbi kF kP A51 kC kW kT) O (fun w' hw=>W69 e8 hw.lend) ?_
 rintro _ _ ⟨rfl,rfl⟩
 refine aj (D:=tcF w F kI kC kE kM A81 kL kJ kF kP A51 kW kT) hI<|bi1 h fun th9 eth9 h=>aj (D:=Cls w F<|tcm kI a0 kC th9 kM kE A81 kL kJ kF kP A51 kW kT) (aoI 0 O eth9) ?_
 rcases b7 with _|_
 ·replace h:=qU h
  refine cja<|ab<|ar (fun gs D=>∃gl1 gq2 gl3 gq4,gs=[(0,VP kI a0),(5,VP kE x2)]∧D=Cls w F (taK kI kC kE kM A81 a0::tA kE kL kJ::tF kF gq2 gl1::tB kF kC gq4 gl3::tZ kI a0 kC th9 kM kE)∧qdd th9 kJ x2 A81 a0 gl1 gl3=some r) ?_ ?_
  ·refine sr<|L.r 1 O<|bi1 h fun zV eth17 h=>aj (D:=Cls w F [tW kE x2 zV kL,tam kL x2 zV,mpo st (td kL x2) zV.texts_,tbR kE kL kJ x2,ta kI a0 kC th9 kM,taI kM a0 th9 kE,.ss (zs sd0 (fun _=>[]) th9.logs_),th th9,taK kI kC kE kM A81 a0,tF kF kP A51,tB kF kC kW kT]) (aoI 5 O eth17)<|yNP O eth17 ja 0 qcY O O<|yL (fh (i:=2) (g:=st) (o:=zV.texts_) Tryz.underlying146 O O)<|gtL h (fun c18 h=>?_) fun c18 h=>?_
   ·refine cjb<|L.r 1 O<|ln<|ar (fun gs D=>∃gs5,gs=[(0,VP kI a0),(5,VP kE x2),(7,st gs5)]∧D=Cls w F (tcu kE kL kJ kI kC kM A81 a0 kF kP A51 kW kT th9)∧qh2 th9 A51 kT A81 kJ a0 x2 gs5=some r) ?_ ?_
    ·refine sr<|L.r 1 O<|cjp<|bC (D:=Cls w F (tA kE kL kJ::tav kI a0 kC th9 kM kE A81 kF kP A51 kW kT)) (asI [0,1,2,3,4,5,6,7,8,9,10] eth17 O)<|au (fun m gs D=>∃gs6 gx7,gs=[(0,VP kI a0),(5,VP kE x2),(7,st gs6),(33,.int .i64 gx7)]∧D=Cls w F (tcu kE kL kJ kI kC kM A81 a0 kF kP A51 kW kT th9)∧qaf kJ x2 th9 A51 kT A81 a0 m gs6 gx7=some r) ⟨[67],0,O,O,h⟩ ⟨O,O,O,O,trivial⟩ (sI [0,5,6,7,1,3,4,2]) ?_
     rintro m _ _ ⟨gs6,gx7,rfl,rfl,h⟩
     rcases m with _|m
     ·rw[qaf]at h;cases h
     rw[qaf]at h
     generalize hg1:qaf kJ x2 th9 A51 kT A81 a0 m=go1 at h
     rw[qfm]at h
     refine sr<|ltL h (fun c81 h=>?_) fun c81 h=>?_
     ·refine cje<|L.r 2 O<|cjm<|ah<|L.r 1 O<|bi1 h fun zJ eth82 h=>aj (D:=Cls w F (tW kE x2 zJ kL::tam kL x2 zJ::mpo st (td kL x2) zJ.texts_::tbR kE kL kJ x2::taK kI kC kE kM A81 a0::tF kF kP A51::tB kF kC kW kT::tch kI a0 kC th9 kM kE)) (aoI 0 O eth82)<|yNP O eth82 ja 0 qcY O O<|L.r 1 O<|yL (b0 (i:=2) (g:=st) (o:=zJ.texts_) (z0:=[]) Tryz.underlying146 Tryz.underlying3 (by kernel_rfl) O O O)<|L.r 2 O<|ibL h (Y.extract O O) (fun c83 h=>?_) fun c83 h=>?_
      ·exact L.r 2 O<|nsr<|L.r 1 O<|cjg<|ah<|L.r 3 O<|bi1 h fun s84 e85 h=>yL (ye O fun w' hw=>W70 e85)<|mL (fun s86=>st s86) h (bg O O) fun s86 es86 h=>(L.r 1 O<|ae<|cjj<|mA h fun x87 ex87 h=>(L.r 1 O<|ae<|az (D:=Cls w F<|tcu kE kL kJ kI kC kM A81 a0 kF kP A51 kW kT th9) (asI [0,1,2,3,4,5,6,7,8,9,10] eth82 O)<|bi ⟨s86,x87,O,O,by rw[hg1];exact h⟩ hI))
      exact L.r 2 O<|nsr<|L.r 1 O<|cja<|cjj<|mA h fun x88 ex88 h=>L.r 1 O<|ae<|az (D:=Cls w F<|tcu kE kL kJ kI kC kM A81 a0 kF kP A51 kW kT th9) (asI [0,1,2,3,4,5,6,7,8,9,10] eth82 O)<|bi ⟨gs6,x88,O,O,by rw[hg1];exact h⟩ hI
     exact cjm<|cjd<|ay ⟨gs6,O,O,h⟩ hI
    rintro _ _ ⟨gs5,rfl,rfl,h⟩
    rw[qh2]at h
    refine aE<|av (k:=12) (stC [[10]] [Cls w F (tcu kE kL kJ kI kC kM A81 a0 kF kP A51 kW kT th9)]<|Cls w F<|tbv kE kL kJ kI kC kM A81 a0 th9) O mixed (fun _ hw=>hw.drew) sn<|aA [] (ax zF<|sI [0,1,4,5,6,7]) fun hz37=>(vR [0,1] O<|vN 2 [] O hz37 O eth9<|vQ 3 [] hz37 O (aa wB O)<|bi1 h fun _ en38 h=>?_)
    obtain⟨_,en38⟩:=qd en38
    refine vQ 4 [] hz37 O (al (q:=2) (si:=1) (ps:=2) (j:=0) (X:=[.int .i64 th9.half_]) ag3 O O O O (by simp[zl,qc,en38]) O)<|vN 5 [] O hz37 O eth9<|vQ 6 [] hz37 O (aa qeC O)<|vM 7 [] (fun _=>pt (kI a0.toNat) (0+th9.half_.toNat*1)) hz37 O h (aR (l:=th9.logs_) Tryz.underlying78 qlP O O) fun x39 ex39 h=>(vQ 8 [] hz37 O (bF (si:=0) (ps:=0) (q:=2) (row:=(tcg kC)) (vs:=(fun _=>[])) (j:=0) (pv:=VP kC x39) qnA O O O O sl0 (fun _ _=>O) (qm ex39) O)<|vR [9] O<|vE 10 O<|aj (D:=Cls w F (tF kF kP A51::tB kF kC kW kT::tA kE kL kJ::taK kI kC kE kM A81 a0::tZ kI a0 kC th9 kM kE)) (sI [2,3,0,1,4,5,6,7])<|bi3 h fun l40 l41 x42 e43 h=>dP (tbi kF kP A51 kC kW kT) (tbv kE kL kJ kI kC kM A81 a0 th9) O (fun w' hw=>W71 e43 hw.lend) ?_)
    rintro _ _ ⟨q44,q45,rfl,rfl⟩
    refine aj (D:=Cls w F (tF kF q44 l40::tB kF kC q45 l41::tA kE kL kJ::taK kI kC kE kM A81 a0::tZ kI a0 kC th9 kM kE)) hI<|ltV (stC [] []<|Cls w F<|tbv kE kL kJ kI kC kM A81 a0 th9) 10 (aw O sD) (aP<|sI [2,3,4,5,6,7])<|vR [11] O<|vD<|ab<|aE<|sr<|L.r 1 O<|eqL h (fun c47 h=>?_) fun c47 h=>?_
    ·cases h
     exact L.r 4 O<|cjb<|L.r 2 O<|cjh<|bW<|az (D:=tbF w F kI kC kE kM A81 kF q44 l40 q45 l41 kL kJ) (asI [4,7,5,6,3,0,1,2] eth9 O)<|rT fun w1 hw=>⟨_,_,O,⟨_,_,_,_,O,O⟩,hw.s [1,0,2,3]⟩
    refine L.r 2 O<|tkL<|eqL h (fun c48 h=>?_) fun c48 h=>?_
    ·cases h
     exact L.r 1 O<|cjb<|L.r 2 O<|cjh<|bW<|az (D:=tbF w F kI kC kE kM A81 kF q44 l40 q45 l41 kL kJ) (asI [4,7,5,6,3,0,1,2] eth9 O)<|rT fun w1 hw=>⟨_,_,O,⟨_,_,_,_,O,O⟩,hw.s [1,0,2,3]⟩
    refine L.r 1 O<|cjl<|sr<|L.r 1 O<|eqL h (fun c49 h=>?_) fun c49 h=>?_
    ·refine cjg<|av (k:=11) (stC [[9]] [Cls w F (tF kF q44 l40::tB kF kC q45 l41::tA kE kL kJ::taK kI kC kE kM A81 a0::tZ kI a0 kC th9 kM kE)]<|Cls w F<|tbv kE kL kJ kI kC kM A81 a0 th9) O mixed (fun _ hw=>hw.drew) sn<|aA [] (ax zF<|sI [2,3,4,5,6,7]) fun hz66=>(vR [0,1] O<|vN 2 [] O hz66 O eth9<|vQ 3 [] hz66 O (aa wB O)<|vQ 4 [] hz66 O (al (q:=2) (si:=1) (ps:=2) (j:=0) (X:=[.int .i64 th9.half_]) ag3 O O O O (by simp[zl,qc,en38]) O)<|vN 5 [] O hz66 O eth9<|vQ 6 [] hz66 O (aa qeC O)<|vM 7 [] (fun _=>pt (kI a0.toNat) (0+th9.half_.toNat*1)) hz66 O h (aR (l:=th9.logs_) Tryz.underlying78 qlP O O) fun x67 ex67 h=>(vQ 8 [] hz66 O (bF (si:=0) (ps:=0) (q:=2) (row:=(tcg kC)) (vs:=(fun _=>[])) (j:=0) (pv:=VP kC x67) qnA O O O O sl0 (fun _ _=>O) (qm ex67) O)<|vE 9 O<|bi3 h fun l68 l69 x70 e71 h=>dP (tbi kF q44 l40 kC q45 l41) (tbv kE kL kJ kI kC kM A81 a0 th9) O (fun w' hw=>W72 e71 hw.lend) ?_))
     rintro _ _ ⟨q72,q73,rfl,rfl⟩
     refine aj (D:=Cls w F (tF kF q72 l68::tB kF kC q73 l69::tA kE kL kJ::taK kI kC kE kM A81 a0::tZ kI a0 kC th9 kM kE)) hI<|ltV (stC [] []<|Cls w F<|tbv kE kL kJ kI kC kM A81 a0 th9) 9 (aw O sD) (aP<|sI [2,3,4,5,6,7])<|vR [10] O<|vD<|ab<|sr<|L.r 1 O<|neL h (fun c75 h=>?_) fun c75 h=>?_
     ·refine cjb<|L.r 1 O<|yNF O eth9 qcJ<|aW (q:=4) (si:=3) (ps:=4) (j:=0) (X:=[.bool th9.down_]) (vals:=[.bool true]) sz4 O O O O O (by simp[Value.oneCell',Value.cells,st,pt,el]) O O (by simp[zl,qc,en38]) O<|nsr<|L.r 2 O<|cjc<|bW<|bi1 h fun l77 el77 h=>bL (row:=TStore81.rowA kC kE) (sub:=TStore81.subA kC kE) (e:=81) (g:=kI) (gh:=kM) (vs':=[(tc kM a0)]) (m':=[tF kF q72 l68,tB kF kC q73 l69,tA kE kL kJ]) [4,7,5,6,3,0,1,2] el77 O fun q76=>az (D:=tbF w F kI kC kE q76 l77 kF q72 l68 q73 l69 kL kJ) hI<|rT fun w1 hw=>?_
      cases h
      exact⟨_,_,O,⟨_,_,_,_,O,O⟩,hw.s [1,0,2,3]⟩
     exact cja<|ay ⟨l68,q72,l69,q73,O,O,h⟩<|sI [3,2,0,1,4,5,6,7]
    refine cji<|L.r 1 O<|neL h (fun c78 h=>?_) fun c78 h=>?_
    ·refine cjb<|L.r 1 O<|yNF O eth9 qcJ<|aW (q:=4) (si:=3) (ps:=4) (j:=0) (X:=[.bool th9.down_]) (vals:=[.bool true]) sz4 O O O O O (by simp[Value.oneCell',Value.cells,st,pt,el]) O O (by simp[zl,qc,en38]) O<|nsr<|L.r 2 O<|cjc<|bW<|bi1 h fun l80 el80 h=>bL (row:=TStore81.rowA kC kE) (sub:=TStore81.subA kC kE) (e:=81) (g:=kI) (gh:=kM) (vs':=[(tc kM a0)]) (m':=[tF kF q44 l40,tB kF kC q45 l41,tA kE kL kJ]) [4,7,5,6,3,0,1,2] el80 O fun q79=>az (D:=tbF w F kI kC kE q79 l80 kF q44 l40 q45 l41 kL kJ) hI<|rT fun w1 hw=>?_
     cases h
     exact⟨_,_,O,⟨_,_,_,_,O,O⟩,hw.s [1,0,2,3]⟩
    cases h
   exact cja<|az (D:=Cls w F (tA kE kL kJ::tav kI a0 kC th9 kM kE A81 kF kP A51 kW kT)) (asI [0,1,2,3,4,5,6,7,8,9,10] eth17 O)<|ay ⟨A51,kP,kT,kW,O,O,h⟩<|sI [5,0,6,7,1,3,4,2]
  rintro _ _ ⟨gl1,gq2,gl3,gq4,rfl,rfl,h⟩
  rw[qdd]at h
  refine sr<|L.r 1 O<|yNF O eth9 ka<|bi1 h fun _ en10 h=>?_
  obtain⟨_,en10⟩:=qd en10
  refine yL (al (q:=4) (si:=4) (ps:=5) (j:=0) (X:=[.int .i64 th9.now_]) ag3 O O O O (by simp[zl,qc,en10]) O)<|mA h fun x11 ex11 h=>(yNF O eth9 ka<|aW (q:=4) (si:=4) (ps:=5) (j:=0) (X:=[.int .i64 th9.now_]) (vals:=(tH x11)) sz3 O O O O O (by simp[Value.oneCell',Value.cells,st,pt,el]) O O (by simp[zl,qc,en10]) O<|nsr<|L.r 3 O<|yNF O eth9 ka<|yL (al (q:=4) (si:=4) (ps:=5) (j:=0) (X:=(tH x11)) ag3 O O O O (by simp[zl,qc,en10]) O)<|bi1 h fun th12 eth12 h=>aj (D:=Cls w F [tW kE x2 th12 kL,tam kL x2 th12,mpo st (td kL x2) th12.texts_,tbR kE kL kJ x2,taK kI kC kE kM A81 a0,tF kF gq2 gl1,tB kF kC gq4 gl3,tcS kI a0 kC th9 x11 kM,.ss (zs sd0 (fun _=>[]) th9.logs_),th th9,taI kM a0 th9 kE]) (aoI 1 O eth12)<|yNF O eth12 qbn<|svL 0 [.bool true] sz4 O O O<|yNF O eth12 zy<|svL 0 (tH x11) sz3 O O O<|nsr<|L.r 1 O<|cjc<|bi1 h fun l13 el13 h=>bL (row:=TDeal.rowA) (sub:=TDeal.subA) (e:=149) (g:=kE) (gh:=kL) (vs':=(taS kL x2)) (m':=(taz kI kC kE kM A81 a0 kF gq2 gl1 gq4 gl3 th9 x11)) [0,1,2,3,4,5,6,7,8,9,10] el13 O fun q14=>az (D:=Cls w F (tA kE q14 l13::taz kI kC kE kM A81 a0 kF gq2 gl1 gq4 gl3 th9 x11)) hI<|bi1 h fun l16 el16 h=>bL (row:=TStore81.rowA kC kE) (sub:=TStore81.subA kC kE) (e:=81) (g:=kI) (gh:=kM) (vs':=[(tc kM a0)]) (m':=(tA kE q14 l13::tbi kF gq2 gl1 kC gq4 gl3)) [4,7,5,6,1,0,2,3] el16 O fun q15=>az (D:=tcF w F kI kC kE q15 l16 q14 l13 kF gq2 gl1 gq4 gl3) hI<|rT fun w1 hw=>?_)
  cases h
  exact⟨_,_,O,⟨_,_,_,_,O,O⟩,hw.s [2,0,3,1]⟩
 replace h:=qT h
 refine cjb<|L.r 1 O<|bi1 h fun th89 eth89 h=>aj (D:=Cls w F [tW kE x2 th89 kL,tam kL x2 th89,mpo st (td kL x2) th89.texts_,tbR kE kL kJ x2,ta kI a0 kC th9 kM,taI kM a0 th9 kE,.ss (zs sd0 (fun _=>[]) th9.logs_),th th9,taK kI kC kE kM A81 a0,tF kF kP A51,tB kF kC kW kT]) (aoI 5 O eth89)<|yNF O eth89 qbn<|svL 0 [.bool true] sz4 O O O<|nsr<|L.r 1 O<|cjh<|bi1 h fun l90 el90 h=>bL (row:=TDeal.rowA) (sub:=TDeal.subA) (e:=149) (g:=kE) (gh:=kL) (vs':=(taS kL x2)) (m':=(tav kI a0 kC th9 kM kE A81 kF kP A51 kW kT)) [0,1,2,3,4,5,6,7,8,9,10] el90 O fun q91=>az (D:=Cls w F (tA kE q91 l90::tav kI a0 kC th9 kM kE A81 kF kP A51 kW kT)) hI<|az (D:=tcF w F kI kC kE kM A81 q91 l90 kF kP A51 kW kT) (asI [1,2,3,4,5,0,6,7] eth9 O)<|rT fun w1 hw=>?_
 cases h
 exact⟨_,_,O,⟨_,_,_,_,O,O⟩,hw.s [2,0,3,1]⟩
theorem W34{a0 a1 A81 kJ kI kC kE kM kL w r F}(h:M34 a0 a1 A81 kJ=some r)(hc0:Cls w F (taZ kI kC kE kM A81 kL kJ) w):qz Tryz.prog 34 [VP kI a0,.int .i64 a1] F w fun u m=>∃Q149,u=.int .i64 r.2∧m=[taw kI kC kE kM A81,zP kE Q149 r.1 []]:=by
 rw[M34]at h
 refine body (n:=22) Tryz.func34 O O O hc0<|bi1 h fun th1 kR h=>bC (D:=Cls w F<|taf kI a0 kC th1 kM kE A81 kL kJ) (aoI 0 O kR)<|sr<|L.r 1 O<|nsr<|L.r 2 O<|aj (D:=Cls w F<|taZ kI kC kE kM A81 kL kJ) (asI [0,1,2,3,4,5] kR O)<|bi2 h fun x2 x3 e4 h=>aV (A:=(taZ kI kC kE kM A81 kL kJ)) (M:=[]) O qeF O (fun w' hw=>W68 e4 hw.lend) ?_
 rintro _ _ ⟨rfl,rfl⟩
 refine aj (D:=Cls w F<|taZ kI kC kE kM A81 kL kJ) hI<|bi1 h fun th5 jY h=>aj (D:=Cls w F<|taf kI a0 kC th5 kM kE A81 kL kJ) (aoI 0 O jY)<|L.r 5 O<|cjf<|L.r 1 O<|eqL h (fun c6 h=>?_) fun c6 h=>?_
 ·refine cjg<|ah<|L.r 2 O<|bi1 h fun th7 jZ h=>aj (D:=Cls w F (tW kE x2 th7 kL::tam kL x2 th7::mpo st (td kL x2) th7.texts_::tbR kE kL kJ x2::taF kI a0 kC th5 kM kE A81)) (aoI 5 O jZ)<|yNF O jZ qbn<|svL 0 [.bool true] sz4 O O O<|yNF O jZ ja<|svL 0 [.map none] qnh O O O<|nsr<|L.r 2 O<|cjc<|az (D:=Cls w F (emp::.obj (kE x2.toNat) [.int .i64 th7.id_,.int .i64 th7.from_,.int .i64 th7.at_,.bool true,(tc kL x2),.map none] 149::tam kL x2 th7::mpo st (td kL x2) th7.texts_::tbR kE kL kJ x2::taF kI a0 kC th5 kM kE A81)) (fun _ hw=>hw.emp)<|bi1 h fun l8 el8 h=>bL (row:=TDeal.rowA) (sub:=TDeal.subA) (e:=149) (g:=kE) (gh:=kL) (vs':=[(tc kL x2),.map none]) (m':=(mpo st (td kL x2) th7.texts_::taF kI a0 kC th5 kM kE A81)) [1,2,0,4,3,5,6,7,8,9] el8 O fun q9=>az (D:=Cls w F (tA kE q9 l8::mpo st (td kL x2) th7.texts_::taF kI a0 kC th5 kM kE A81)) hI<|az (D:=Cls w F [taw kI kC kE kM A81,tA kE q9 l8,mpo st (td kL x2) th7.texts_]) (asI [2,3,4,5,6,0,1] jY O)<|rT fun w1 hw=>?_
  cases h
  exact⟨_,_,O,⟨_,O,O⟩,hw.s [0,1]⟩
 cases h
 exact cji<|L.r 2 O<|cjc<|az (D:=Cls w F<|taZ kI kC kE kM A81 kL kJ) (asI [0,1,2,3,4,5] jY O)<|rT fun w1 hw=>⟨_,_,O,⟨_,O,O⟩,hw⟩
theorem W73{a0 a1 A51 kT kF kC kP kW w r F}(h:M73 a0 a1 A51 kT=some r)(hc0:Cls w F (tbi kF kP A51 kC kW kT) w):qz Tryz.prog 73 [VP kC a0,st a1] F w fun u m=>∃Q51 Q122,u=.int .i64 r.2.2∧m=[yS kF Q51 r.1 [],xL kF kC Q122 r.2.1 []]:=by
 rw[M73]at h
 refine body (n:=64) Tryz.func73 O O O hc0<|sr<|L.r 1 O<|cjf<|L.r 1 O<|bi1 h fun th1 kR h=>aj (D:=tbD w F kC a0 kF th1 kW kT kP A51) (aoI 1 O kR)<|yNF O kR qbr<|ibL h (am (i:=0) ag4 O O O) (fun c2 h=>?_) fun c2 h=>?_
 ·cases h
  exact cjb<|L.r 1 O<|cjh<|az (D:=tce w F kF kC kW kT kP A51) (asI [0,1,2] kR O)<|rT fun w1 hw=>⟨_,_,O,⟨_,_,O,O⟩,hw.s [1,0]⟩
 refine cjl<|sr<|L.r 1 O<|yL (aK Tryz.underlying9 O)<|gtL h (fun c3 h=>?_) fun c3 h=>?_
 ·cases h
  exact cjb<|L.r 1 O<|cjh<|az (D:=tce w F kF kC kW kT kP A51) (asI [0,1,2] kR O)<|rT fun w1 hw=>⟨_,_,O,⟨_,_,O,O⟩,hw.s [1,0]⟩
 refine cjl<|sr<|L.r 1 O<|yNP O kR jb 0 ag3 O O<|mA h fun x4 ex4 h=>(L.r 1 O<|bi1 h fun l5 e7 h=>bZ O (by kernel_rfl) O (fun w' hw=>qnG e7) ?_)
 rintro v6 _ ⟨_,rfl,rfl⟩
 refine yL (aF (g:=SR) (l:=l5) Tryz.underlying48 O<|aG 0 O)<|neL h (fun c8 h=>?_) fun c8 h=>?_
 ·cases h
  exact cjb<|L.r 1 O<|cjh<|az (D:=Cls w F [tB kF kC kW kT,tl v6 l5,tF kF kP A51]) (asI [1,2,0,3] kR O)<|rT fun w1 hw=>⟨_,_,O,⟨_,_,O,O⟩,hw.s [2,0]⟩
 refine cjl<|sr<|L.r 1 O<|aj (D:=Cls w F [tB kF kC kW kT,tl v6 l5,tF kF kP A51]) (asI [1,2,0,3] kR O)<|aj (D:=Cls w F [tF kF kP A51,tB kF kC kW kT,tl v6 l5]) (sI [2,0,1])<|bi3 h fun l9 l10 x11 e12 h=>dP (tbi kF kP A51 kC kW kT) [tl v6 l5] O (fun w' hw=>W52 e12 hw.lend) ?_
 rintro _ _ ⟨q13,q14,rfl,rfl⟩
 refine aj (D:=Cls w F [tF kF q13 l9,tB kF kC q14 l10,tl v6 l5]) hI<|L.r 1 O<|nsr<|L.r 1 O<|neL h (fun c15 h=>?_) fun c15 h=>?_
 ·cases h
  exact cjb<|L.r 2 O<|cjh<|rT fun w1 hw=>⟨_,_,O,⟨_,_,O,O⟩,hw.s [0,1]⟩
 refine cjl<|bi1 h fun yH eth16 h=>bC (D:=Cls w F<|tck kC a0 kF yH q14 l10 q13 l9 v6 l5) (aoI 1 O eth16)<|av (k:=19) (stC [[17]] [Cls w F (tck kC a0 kF yH q14 l10 q13 l9 v6 l5)]<|Cls w F [tl v6 l5]) O mixed (fun _ hw=>hw.drew) sn<|aA [] (ax zF<|sI [3]) fun hz52=>(vR [0] O<|vN 1 [] O hz52 O eth16<|vQ 2 [] hz52 O (aa wo O)<|aA [17] (be hI) fun hz53=>(vQ 3 [17] hz53 O (am (i:=0) qlx O O O)<|vR [4] O<|vN 5 [] O hz52 O eth16<|vQ 6 [] hz52 O (aa qdU O)<|vQ 7 [17] hz53 O (am (i:=0) ag3 O O O)<|vM 8 [] (fun x54=>.int .i64 x54) hz52 O h (bh O O) fun x54 ex54 h=>(vR [9] O<|vN 10 [] O hz52 O eth16<|vQ 11 [] hz52 O (aa jb O)<|vQ 12 [17] hz53 O (am (i:=0) ag3 O O O)<|vR [13] O<|vE 14 O<|bi1 h fun l55 e57 h=>bZ O (by kernel_rfl) O (fun w' hw=>qnG e57) ?_)))
 rintro v56 _ ⟨_,rfl,rfl⟩
 refine ltV (stC [[17]] [Cls w F (tl v56 l55::tck kC a0 kF yH q14 l10 q13 l9 v6 l5)]<|Cls w F [tl v56 l55,tl v6 l5]) 14 (Sc.stay (sI [1,2,3,4])<|aD<|sI [1]) sn<|aA [] (ax zF<|sI [0,4]) fun hz58=>(vM 15 [] (fun _=>el v56 tcN) hz58 O h (ap (g:=SR) (l:=l55) Tryz.underlying48 sz9 O O<|aG 0 O) fun x59 ex59 h=>(vQ 16 [] hz58 O (aB (u:=st x59) ag9 O (aG 0 O)<|ql ex59)<|vE 17 O<|aj (D:=Cls w F [tB kF kC q14 l10,tl v56 l55,tF kF q13 l9,tl v6 l5]) (asI [1,2,0,3,4] eth16 O)<|aj (D:=Cls w F [tF kF q13 l9,tB kF kC q14 l10,tl v56 l55,tl v6 l5]) (sI [2,0,1,3])<|bi2 h fun l60 x61 e62 h=>dP [tF kF q13 l9] [tB kF kC q14 l10,tl v56 l55,tl v6 l5] O (fun w' hw=>W94 e62 hw.lend) ?_))
 rintro _ _ ⟨q63,rfl,rfl⟩
 refine aj (D:=Cls w F [tF kF q63 l60,tB kF kC q14 l10,tl v56 l55,tl v6 l5]) hI<|ltV (stC [] []<|Cls w F [tl v56 l55,tl v6 l5]) 17 (aw O sD) (aP<|sI [2,3])<|vR [18] O<|vD<|ab<|aE<|sr<|L.r 1 O<|eqL h (fun c65 h=>?_) fun c65 h=>?_
 ·refine cjg<|ah<|L.r 1 O<|bi1 h fun th66 eth66 h=>aj (D:=Cls w F [tn kC a0 kF th66,tcR kF kC q14 l10 a0,tF kF q63 l60,tl v56 l55,tl v6 l5]) (aoI 1 O eth66)<|yNP O eth66 wo 0 qlx O O<|aj (D:=Cls w F [tB kF kC q14 l10,tF kF q63 l60,tl v56 l55,tl v6 l5]) (asI [0,1,2,3,4] eth66 O)<|aj (D:=Cls w F [tF kF q63 l60,tB kF kC q14 l10,tl v56 l55,tl v6 l5]) (sI [1,0,2,3])<|bi2 h fun l67 x68 e69 h=>dP [tF kF q63 l60] [tB kF kC q14 l10,tl v56 l55,tl v6 l5] O (fun w' hw=>W95 e69 hw.lend) ?_
  rintro _ _ ⟨q70,rfl,rfl⟩
  refine aj (D:=Cls w F [tF kF q70 l67,tB kF kC q14 l10,tl v56 l55,tl v6 l5]) hI<|L.r 1 O<|cjf<|L.r 1 O<|eqL h (fun c71 h=>?_) fun c71 h=>?_
  ·refine cjg<|ah<|L.r 2 O<|bi1 h fun th72 eth72 h=>aj (D:=Cls w F [tn kC a0 kF th72,tcR kF kC q14 l10 a0,tF kF q70 l67,tl v56 l55,tl v6 l5]) (aoI 1 O eth72)<|yNF O eth72 kd<|svL 0 [.int .i64 2] sz3 O O O<|yNF O eth72 vk<|svL 0 [.int .i64 1] sz3 O O O<|nsr<|L.r 2 O<|bi1 h fun l73 el73 h=>ez (row:=TLog122.rowA kF) (sub:=TLog122.subA kF) (e:=122) (g:=kC) (gh:=q14) (vs':=[]) (m':=[tF kF q70 l67,tl v56 l55,tl v6 l5]) [0,1,2,3,4] el73 O fun q74=>aj (D:=Cls w F [tB kF kC q74 l73,tF kF q70 l67,tl v56 l55,tl v6 l5]) hI<|bi2 h fun l75 x76 e77 h=>aV (A:=[tB kF kC q74 l73]) (M:=[tF kF q70 l67,tl v56 l55,tl v6 l5]) O qgw O (fun w' hw=>W96 e77 hw.lend) ?_
   rintro _ _ ⟨q78,rfl,rfl⟩
   cases h
   exact aj (D:=Cls w F [tB kF kC q78 l75,tF kF q70 l67,tl v56 l55,tl v6 l5]) hI<|L.r 1 O<|cjc<|rT fun w1 hw=>⟨_,_,O,⟨_,_,O,O⟩,hw.s [1,0]⟩
  refine cji<|L.r 2 O<|aj (D:=Cls w F [tB kF kC q14 l10,tF kF q70 l67,tl v56 l55,tl v6 l5]) (sI [1,0,2,3])<|bi2 h fun l79 x80 e81 h=>aV (A:=[tB kF kC q14 l10]) (M:=[tF kF q70 l67,tl v56 l55,tl v6 l5]) O qgw O (fun w' hw=>W96 e81 hw.lend) ?_
  rintro _ _ ⟨q82,rfl,rfl⟩
  cases h
  exact aj (D:=Cls w F [tB kF kC q82 l79,tF kF q70 l67,tl v56 l55,tl v6 l5]) hI<|L.r 1 O<|cjc<|rT fun w1 hw=>⟨_,_,O,⟨_,_,O,O⟩,hw.s [1,0]⟩
 refine cjl<|sr<|L.r 1 O<|eqL h (fun c83 h=>?_) fun c83 h=>?_
 ·cases h
 refine cji<|L.r 2 O<|aj (D:=Cls w F [tB kF kC q14 l10,tF kF q63 l60,tl v56 l55,tl v6 l5]) (sI [1,0,2,3])<|bi2 h fun l84 x85 e86 h=>aV (A:=[tB kF kC q14 l10]) (M:=[tF kF q63 l60,tl v56 l55,tl v6 l5]) O qgw O (fun w' hw=>W96 e86 hw.lend) ?_
 rintro _ _ ⟨q87,rfl,rfl⟩
 cases h
 exact aj (D:=Cls w F [tB kF kC q87 l84,tF kF q63 l60,tl v56 l55,tl v6 l5]) hI<|L.r 1 O<|cjc<|rT fun w1 hw=>⟨_,_,O,⟨_,_,O,O⟩,hw.s [1,0]⟩
theorem W15{a0 A81 kJ kI kC kE kM kL w r F}(h:M15 a0 A81 kJ=some r)(hc0:Cls w F (taZ kI kC kE kM A81 kL kJ) w):qz Tryz.prog 15 [VP kI a0] F w fun u m=>∃Q81,u=.agg (r.2.map SR).flatten.toArray∧m=[jS kI kC kE Q81 r.1 [],tA kE kL kJ]:=by
 rw[M15]at h
 refine body (n:=19) Tryz.func15 O O O hc0<|bi1 h fun th1 kR h=>bC (D:=Cls w F<|taf kI a0 kC th1 kM kE A81 kL kJ) (aoI 0 O kR)<|sr<|L.alloc O qis fun b2=>aj (D:=Cls w F (tK b2::taf kI a0 kC th1 kM kE A81 kL kJ)) (fun _ hw=>by first|exact hw|simpa [I,B,SR]using hw)<|nsr<|L.alloc O qis fun b3=>aj (D:=Cls w F (tK b3::tK b2::taf kI a0 kC th1 kM kE A81 kL kJ)) (fun _ hw=>by first|exact hw|simpa [I,B,SR]using hw)<|ln<|ar (fun gs D=>∃gl1 gq2 gu3,∃gu4:Unit,∃gl5 gl6 gx7 gx8 gb9 gx10 jR gv12 zD,gs=[(2,pt b2 0),(3,pt b3 0)]∧D=Cls w F (taK kI kC kE gq2 gl1 a0::tA kE kL kJ::tD b3 gl5::tK b2::tE kI a0 kC gl6 gx7 gx8 gb9 gx10 jR gv12::tas gl6 jR gv12 zD kE)∧idx gl1 a0=some gu3∧qjC a0 gl1 gl5 gl6 gx7 gx8 gb9 gx10 jR zD=some r) ?_ ?_
 ·refine sr<|L.r 1 O<|cjp<|au (fun m gs D=>∃zZ yZ gq27 gu28,∃gu29:Unit,∃jM zI gx32 gx33 gb34 gx35 gl36 gv37 gl38,gs=[(0,VP kI a0),(2,pt b2 0),(3,pt b3 0),(5,taB zZ)]∧D=Cls w F (taK kI kC kE gq27 yZ a0::tA kE kL kJ::tD b3 jM::tK b2::tE kI a0 kC zI gx32 gx33 gb34 gx35 gl36 gv37::tas zI gl36 gv37 gl38 kE)∧idx yZ a0=some gu28∧qbY a0 kJ m zZ yZ jM zI gx32 gx33 gb34 gx35 gl36 gl38=some r) ⟨0,A81,kM,th1,(),tap,th1.logs_,th1.half_,th1.gen_,th1.down_,th1.now_,th1.first_,(tc kM a0),th1.deals_,O,O,kR,h⟩ ⟨O,O,O,O,trivial⟩ (sI [6,7,0,1,2,4,5,3]) ?_
  rintro m _ _ ⟨zZ,yZ,gq27,gu28,gu29,jM,zI,gx32,gx33,gb34,gx35,gl36,gv37,gl38,rfl,rfl,hu29,h⟩
  rcases m with _|m
  ·rw[qbY]at h;cases h
  rw[qbY]at h
  generalize hg1:qbY a0 kJ m=go1 at h
  rw[qft]at h
  refine sr<|ltL h (fun c10 h=>?_) fun c10 h=>?_
  ·refine cje<|L.r 2 O<|nr<|L.r 4 O<|yNF O hu29 ka<|bi1 h fun _ en11 h=>?_
   obtain⟨_,en11⟩:=qd en11
   refine yL (al (q:=4) (si:=4) (ps:=5) (j:=0) (X:=(tH gx35)) ag3 O O O O (by simp[zl,qc,en11]) O)<|bi1 h fun l13 el13 h=>ez (row:=TStore81.rowA kC kE) (sub:=TStore81.subA kC kE) (e:=81) (g:=kI) (gh:=gq27) (vs':=[gv37]) (m':=[tA kE kL kJ,tD b3 jM,tK b2]) [4,7,5,6,0,1,2,3] el13 O fun q12=>aj (D:=Cls w F [taw kI kC kE q12 l13,tA kE kL kJ,tD b3 jM,tK b2]) hI<|bi1 h fun s14 e15 h=>dP (taZ kI kC kE q12 l13 kL kJ) [tD b3 jM,tK b2] O (fun w' hw=>W37 e15 hw.lend) ?_
   rintro _ _ ⟨rfl,rfl⟩
   exact aj (D:=Cls w F [taw kI kC kE q12 l13,tA kE kL kJ,tD b3 jM,tK b2]) hI<|bi1 h fun yH eth16 h=>aj (D:=Cls w F [ta kI a0 kC yH q12,taI q12 a0 yH kE,.ss (zs sd0 (fun _=>[]) yH.logs_),th yH,taK kI kC kE q12 l13 a0,tA kE kL kJ,tD b3 jM,tK b2]) (aoI 0 O eth16)<|mL (fun _=>pt b3 (0+zZ.toNat*1)) h (cA (l:=jM) Tryz.underlying46 sz9 O O) fun x17 ex17 h=>(cj (q:=6) (row:=SR) (vs:=[st s14]) (j:=0) (u1:=s14) h sz9 O O O O O (qW O zg) O (fun _=>O) (qm ex17) O O fun l18 el18 h=>ae<|cjj<|mA h fun x19 ex19 h=>(L.r 1 O<|ae<|bi ⟨x19,l13,q12,yH,(),l18,yH.logs_,yH.half_,yH.gen_,yH.down_,yH.now_,yH.first_,(tc q12 a0),yH.deals_,O,O,eth16,by rw[hg1];exact h⟩<|sI [4,5,6,7,0,2,3,1]))
  exact cjm<|cjd<|ay ⟨yZ,gq27,gu28,(),jM,zI,gx32,gx33,gb34,gx35,gl36,gv37,gl38,O,O,hu29,h⟩ hI
 rintro _ _ ⟨gl1,gq2,gu3,gu4,gl5,gl6,gx7,gx8,gb9,gx10,jR,gv12,zD,rfl,rfl,hu4,h⟩
 rw[qjC]at h
 refine sr<|bi1 h fun _ en4 h=>?_
 obtain⟨_,en4⟩:=qd en4
 refine yL (a8 (q:=2) (row:=SR) (k:=1) wG xu O O (fun _=>O) (by rw[en4]))<|bi1 h fun _ en5 h=>?_
 obtain⟨_,en5⟩:=qd en5
 obtain⟨_,en6,h⟩:=qq h
 obtain⟨_,en6⟩:=qd en6
 refine aY (i:=3) (row:=SR) (k:=1) en5 en6 O (fun _=>O) (qi _) xu O O O<|cjc<|bi1 h fun l8 el8 h=>bL (row:=TStore81.rowA kC kE) (sub:=TStore81.subA kC kE) (e:=81) (g:=kI) (gh:=gq2) (vs':=[gv12]) (m':=[tA kE kL kJ,tD b3 gl5,tD b2 gl5]) [4,7,5,6,0,1,2,3] el8 O fun q7=>az (D:=Cls w F [taw kI kC kE q7 l8,tA kE kL kJ,tD b3 gl5,tD b2 gl5]) hI<|bi1 h fun _ en9 h=>?_
 obtain⟨_,en9⟩:=qd en9
 cases h
 exact bA O (br (i:=3) (row:=SR) (k:=1) wG xu O O (fun _=>O) (by rw[en9])) fun w1 hw=>⟨_,_,O,⟨_,O,O⟩,hw.s [0,1]⟩
theorem W35{a0 A51 A81 kT kJ kF kI kC kE kP kM kW kL w r F}(h:M35 a0 A51 A81 kT kJ=some r)(hc0:Cls w F [tF kF kP A51,taw kI kC kE kM A81,tB kF kC kW kT,tA kE kL kJ] w):qz Tryz.prog 35 [VP kI a0] F w fun u m=>∃Q51 Q81 Q122,u=.int .i64 r.2.2.2∧m=[yS kF Q51 r.1 [],jS kI kC kE Q81 r.2.1 [],xL kF kC Q122 r.2.2.1 [],tA kE kL kJ]:=by
 rw[M35]at h
 refine body (n:=85) Tryz.func35 O O O hc0<|bi1 h fun th1 kR h=>bC (D:=Cls w F<|tcn kI a0 kC th1 kM kE A81 kF kP A51 kW kT kL kJ) (aoI 1 O kR)<|sr<|L.r 1 O<|cjf<|L.r 1 O<|yNF O kR qcJ<|bi1 h fun _ en2 h=>?_
 obtain⟨_,en2⟩:=qd en2
 refine ibL h (al (q:=0) (si:=3) (ps:=4) (j:=0) (X:=[.bool th1.down_]) ag4 O O O O (by simp[zl,qc,en2]) O) (fun c3 h=>?_) fun c3 h=>?_
 ·cases h
  exact cjb<|L.r 1 O<|cjh<|az (D:=tbF w F kI kC kE kM A81 kF kP A51 kW kT kL kJ) (asI [0,1,2,3,4,5,6,7] kR O)<|rT fun w1 hw=>⟨_,_,O,⟨_,_,_,O,O⟩,hw.s [1,0,2,3]⟩
 refine cjl<|aZ mixed (by kernel_rfl) (fun _ hw=>hw.drew) fun hC=>(U.r 2 O<|fQ O (aQ O kR)<|fQ O (aa wB O)<|fQ O (al (q:=0) (si:=1) (ps:=2) (j:=0) (X:=[.int .i64 th1.half_]) ag3 O O O O (by simp[zl,qc,en2]) O)<|fR (V:=fun x4=>.int .i64 x4) h O (bj O O) fun x4 ex4 h=>(fQ O (aQ O kR)<|fQ O (aa qeC O)<|fR (V:=fun _=>pt (kI a0.toNat) (0+x4.toNat*1)) h O (aR (l:=th1.logs_) Tryz.underlying78 qlP O O) fun x5 ex5 h=>(fQ O (bF (si:=0) (ps:=0) (q:=0) (row:=(tcg kC)) (vs:=(fun _=>[])) (j:=0) (pv:=VP kC x5) qnA O O O O sl0 (fun _ _=>O) (qm ex5) O)<|U.r 1 O<|bo<|ab<|sr<|L.r 2 O<|yNF O kR qcK<|yL (al (q:=0) (si:=2) (ps:=3) (j:=0) (X:=[.int .i64 th1.gen_]) ag3 O O O O (by simp[zl,qc,en2]) O)<|yL (bX O O)<|bi1 h fun s6 e7 h=>yL (yf qgx O fun w' hw=>W74 e7)<|mL (fun s8=>st s8) h (bg O O) fun s8 es8 h=>(aj (D:=Cls w F (tF kF kP A51::tB kF kC kW kT::taf kI a0 kC th1 kM kE A81 kL kJ)) (sI [5,6,0,1,2,3,4,7])<|bi3 h fun l9 l10 x11 e12 h=>dP (tbi kF kP A51 kC kW kT) (taf kI a0 kC th1 kM kE A81 kL kJ) O (fun w' hw=>W73 e12 hw.lend) ?_))))
 rintro _ _ ⟨q13,q14,rfl,rfl⟩
 refine aj (D:=Cls w F (tF kF q13 l9::tB kF kC q14 l10::taf kI a0 kC th1 kM kE A81 kL kJ)) hI<|L.r 1 O<|ln<|ar (fun gs D=>∃gx1 gl2 gq3 gl4 gq5 gl6 gq7 gu8,∃gu9:Unit,∃kO jN jK yD zA kX yO jA,gs=[(0,VP kI a0),(3,VP kC x5),(4,.int .i64 gx1)]∧D=Cls w F (tF kF gq3 gl2::tB kF kC gq5 gl4::taK kI kC kE gq7 gl6 a0::tA kE kL kJ::tE kI a0 kC kO jN jK yD zA kX yO::tas kO kX yO jA kE)∧idx gl6 a0=some gu8∧qh1 x5 a0 gx1 gl2 gl4 gl6 kO jN jK yD zA kX jA=some r) ?_ ?_
 ·refine sr<|L.r 1 O<|aj (D:=tbF w F kI kC kE kM A81 kF q13 l9 q14 l10 kL kJ) (asI [2,3,4,5,6,0,1,7] kR O)<|aj (D:=tcF w F kI kC kE kM A81 kL kJ kF q13 l9 q14 l10) (sI [0,3,1,2])<|bi2 h fun l46 x47 e48 h=>dP (taZ kI kC kE kM A81 kL kJ) (tbi kF q13 l9 kC q14 l10) O (fun w' hw=>W15 e48 hw.lend) ?_
  rintro _ _ ⟨q49,rfl,rfl⟩
  refine aj (D:=tcF w F kI kC kE q49 l46 kL kJ kF q13 l9 q14 l10) hI<|bi1 h fun zM eth50 h=>aj (D:=Cls w F<|tcm kI a0 kC zM q49 kE l46 kL kJ kF q13 l9 q14 l10) (aoI 0 O eth50)<|L.r 1 O<|cjp<|au (fun m gs D=>∃jC gx29 jM gq31 jD yM,gs=[(0,VP kI a0),(3,VP kC x5),(4,taB jC),(31,.agg (x47.map SR).flatten.toArray),(32,taB gx29)]∧D=Cls w F (taK kI kC kE q49 l46 a0::tA kE kL kJ::tF kF gq31 jM::tB kF kC yM jD::tZ kI a0 kC zM q49 kE)∧ww x47 x5 l46 a0 zM m jC gx29 jM jD=some r) ⟨x11,0,l9,q13,l10,q14,O,O,h⟩ ⟨O,O,O,O,O,trivial⟩ (sI [4,5,6,7,0,2,3,1]) ?_
  rintro m _ _ ⟨jC,gx29,jM,gq31,jD,yM,rfl,rfl,h⟩
  rcases m with _|m
  ·rw[ww]at h;cases h
  rw[ww]at h
  generalize hg1:ww x47 x5 l46 a0 zM m=go1 at h
  rw[qaR]at h
  refine sr<|ltL h (fun c51 h=>?_) fun c51 h=>?_
  ·refine cje<|L.r 1 O<|bi1 h fun x52 ex52 h=>yL (cB (l:=x47) (row:=SR) (p:=st x52) Tryz.underlying46 ag9 sz9 O O (fun _=>O) ex52 O)<|L.r 2 O<|nsr<|L.r 1 O<|eqL h (fun c53 h=>?_) fun c53 h=>?_
   ·refine L.r 2 O<|tkL<|iL h (bN O O) (fun c54 h=>?_) fun c54 h=>?_
    ·refine L.r 1 O<|cjb<|L.r 3 O<|bi1 h fun s55 e56 h=>yL (ye O fun w' hw=>W70 e56)<|mL (fun s57=>st s57) h (bg O O) fun s57 es57 h=>(aj (D:=Cls w F (tF kF gq31 jM::tB kF kC yM jD::taK kI kC kE q49 l46 a0::tA kE kL kJ::tZ kI a0 kC zM q49 kE)) (sI [2,3,0,1,4,5,6,7])<|bi3 h fun l58 l59 x60 e61 h=>dP (tbi kF gq31 jM kC yM jD) (taK kI kC kE q49 l46 a0::tA kE kL kJ::tZ kI a0 kC zM q49 kE) O (fun w' hw=>W71 e61 hw.lend) ?_)
     rintro _ _ ⟨q62,q63,rfl,rfl⟩
     refine aj (D:=Cls w F (tF kF q62 l58::tB kF kC q63 l59::taK kI kC kE q49 l46 a0::tA kE kL kJ::tZ kI a0 kC zM q49 kE)) hI<|L.r 1 O<|nsr<|L.r 1 O<|eqL h (fun c64 h=>?_) fun c64 h=>?_
     ·cases h
      exact cjb<|L.r 2 O<|cjc<|cjk<|az (D:=tbF w F kI kC kE q49 l46 kF q62 l58 q63 l59 kL kJ) (asI [4,7,5,6,2,0,1,3] eth50 O)<|rT fun w1 hw=>⟨_,_,O,⟨_,_,_,O,O⟩,hw.s [1,0,2,3]⟩
     exact cja<|cjj<|mA h fun x65 ex65 h=>(L.r 1 O<|ae<|bi ⟨x60,x65,l58,q62,l59,q63,O,O,by rw[hg1];exact h⟩<|sI [2,3,0,1,4,5,6,7])
    exact L.r 1 O<|cja<|cjj<|mA h fun x66 ex66 h=>(L.r 1 O<|ae<|bi ⟨jC,x66,jM,gq31,jD,yM,O,O,by rw[hg1];exact h⟩ hI)
   exact L.r 4 O<|cja<|cjj<|mA h fun x67 ex67 h=>(L.r 1 O<|ae<|bi ⟨jC,x67,jM,gq31,jD,yM,O,O,by rw[hg1];exact h⟩ hI)
  exact cjm<|cjd<|ay ⟨jC,jM,gq31,jD,yM,l46,q49,zM,(),zM.logs_,zM.half_,zM.gen_,zM.down_,zM.now_,zM.first_,(tc q49 a0),zM.deals_,O,O,eth50,h⟩<|sI [2,3,0,1,4,5,6,7]
 rintro _ _ ⟨gx1,gl2,gq3,gl4,gq5,gl6,gq7,gu8,gu9,kO,jN,jK,yD,zA,kX,yO,jA,rfl,rfl,hu9,h⟩
 rw[qh1]at h
 refine ar (fun gs D=>∃xC jE gq20 gl21 gq22,gs=[(0,VP kI a0),(3,VP kC x5),(4,taB xC)]∧D=Cls w F (tF kF gq20 jE::tB kF kC gq22 gl21::taK kI kC kE gq7 gl6 a0::tA kE kL kJ::tE kI a0 kC kO jN jK yD zA kX yO::tas kO kX yO jA kE)∧qdc x5 kO gl6 a0 jN jK zA kX jA yD xC jE gl21=some r) ?_ ?_
 ·refine sr<|L.r 1 O<|eqL h (fun c36 h=>?_) fun c36 h=>?_
  ·refine cjb<|L.r 1 O<|bi3 h fun l37 l38 x39 e40 h=>dP (tbi kF gq3 gl2 kC gq5 gl4) (taK kI kC kE gq7 gl6 a0::tA kE kL kJ::tE kI a0 kC kO jN jK yD zA kX yO::tas kO kX yO jA kE) O (fun w' hw=>W71 e40 hw.lend) ?_
   rintro _ _ ⟨q41,q42,rfl,rfl⟩
   refine aj (D:=Cls w F (tF kF q41 l37::tB kF kC q42 l38::taK kI kC kE gq7 gl6 a0::tA kE kL kJ::tE kI a0 kC kO jN jK yD zA kX yO::tas kO kX yO jA kE)) hI<|L.r 1 O<|nsr<|L.r 1 O<|eqL h (fun c43 h=>?_) fun c43 h=>?_
   ·refine cjb<|L.r 2 O<|cjc<|bW<|bi1 h fun l45 el45 h=>bL (row:=TStore81.rowA kC kE) (sub:=TStore81.subA kC kE) (e:=81) (g:=kI) (gh:=gq7) (vs':=[yO]) (m':=[tF kF q41 l37,tB kF kC q42 l38,tA kE kL kJ]) [4,7,5,6,2,0,1,3] el45 O fun q44=>az (D:=tbF w F kI kC kE q44 l45 kF q41 l37 q42 l38 kL kJ) hI<|rT fun w1 hw=>?_
    cases h
    exact⟨_,_,O,⟨_,_,_,O,O⟩,hw.s [1,0,2,3]⟩
   exact cja<|ay ⟨x39,l37,q41,l38,q42,O,O,h⟩ hI
  exact cja<|ay ⟨gx1,gl2,gq3,gl4,gq5,O,O,h⟩ hI
 rintro _ _ ⟨xC,jE,gq20,gl21,gq22,rfl,rfl,h⟩
 rw[qdc]at h
 refine ar (fun gs D=>∃gx23 yT gq25 yZ gq27,gs=[(0,VP kI a0),(4,taB gx23)]∧D=Cls w F (tF kF gq25 yT::tB kF kC gq27 yZ::taK kI kC kE gq7 gl6 a0::tA kE kL kJ::tE kI a0 kC kO jN jK yD zA kX yO::tas kO kX yO jA kE)∧qd6 kO gl6 a0 jN jK zA kX jA yD gx23 yT yZ=some r) ?_ ?_
 ·refine sr<|L.r 1 O<|eqL h (fun c29 h=>?_) fun c29 h=>?_
  ·refine cjg<|ah<|L.r 1 O<|bi3 h fun l30 l31 x32 e33 h=>dP (tbi kF gq20 jE kC gq22 gl21) (taK kI kC kE gq7 gl6 a0::tA kE kL kJ::tE kI a0 kC kO jN jK yD zA kX yO::tas kO kX yO jA kE) O (fun w' hw=>W72 e33 hw.lend) ?_
   rintro _ _ ⟨q34,q35,rfl,rfl⟩
   exact aj (D:=Cls w F (tF kF q34 l30::tB kF kC q35 l31::taK kI kC kE gq7 gl6 a0::tA kE kL kJ::tE kI a0 kC kO jN jK yD zA kX yO::tas kO kX yO jA kE)) hI<|L.r 1 O<|ae<|ay ⟨x32,l30,q34,l31,q35,O,O,h⟩ hI
  exact cja<|ay ⟨xC,jE,gq20,gl21,gq22,O,O,h⟩ hI
 rintro _ _ ⟨gx23,yT,gq25,yZ,gq27,rfl,rfl,h⟩
 rw[qd6]at h
 refine aE<|sr<|L.r 1 O<|neL h (fun c15 h=>?_) fun c15 h=>?_
 ·refine cjb<|L.r 1 O<|yNF O hu9 qcJ<|bi1 h fun _ qj3 h=>?_
  obtain⟨_,qj3⟩:=qd qj3
  refine aW (q:=4) (si:=3) (ps:=4) (j:=0) (X:=[.bool yD]) (vals:=[.bool true]) sz4 O O O O O (by simp[Value.oneCell',Value.cells,st,pt,el]) O O (by simp[zl,qc,qj3]) O<|nsr<|L.r 2 O<|cjh<|bi1 h fun l18 el18 h=>bL (row:=TStore81.rowA kC kE) (sub:=TStore81.subA kC kE) (e:=81) (g:=kI) (gh:=gq7) (vs':=[yO]) (m':=[tF kF gq25 yT,tB kF kC gq27 yZ,tA kE kL kJ]) [4,7,5,6,2,0,1,3] el18 O fun q17=>az (D:=tbF w F kI kC kE q17 l18 kF gq25 yT gq27 yZ kL kJ) hI<|rT fun w1 hw=>?_
  cases h
  exact⟨_,_,O,⟨_,_,_,O,O⟩,hw.s [1,0,2,3]⟩
 refine cjl<|av (k:=18) (stC [[14]] [Cls w F (tF kF gq25 yT::tB kF kC gq27 yZ::taK kI kC kE gq7 gl6 a0::tA kE kL kJ::tE kI a0 kC kO jN jK yD zA kX yO::tas kO kX yO jA kE)]<|Cls w F (tF kF gq25 yT::tB kF kC gq27 yZ::taK kI kC kE gq7 gl6 a0::tA kE kL kJ::tas kO kX yO jA kE)) O mixed (fun _ hw=>hw.drew) sn<|aA [] (ax zF<|sI [0,1,2,3,5,6,7]) fun hz22=>(vR [0,1,2] O<|vN 3 [] O hz22 O hu9<|vQ 4 [] hz22 O (aa wB O)<|aA [14] (be hI) fun hz23=>bi1 h fun _ en24 h=>?_)
 obtain⟨_,en24⟩:=qd en24
 refine vQ 5 [14] hz23 O (al (q:=4) (si:=1) (ps:=2) (j:=0) (X:=(tH jN)) ag3 O O O O (by simp[zl,qc,en24]) O)<|vM 6 [] (fun x25=>.int .i64 x25) hz22 O h (bj O O) fun x25 ex25 h=>(vR [7] O<|vN 8 [] O hz22 O hu9<|vQ 9 [] hz22 O (aa qcK O)<|vQ 10 [14] hz23 O (al (q:=4) (si:=2) (ps:=3) (j:=0) (X:=(tH jK)) ag3 O O O O (by simp[zl,qc,en24]) O)<|vQ 11 [] hz22 O (bX O O)<|vN 12 [] O hz22 O hu9<|vQ 13 [] hz22 O (aa wB O)<|vE 14 O<|aW (q:=4) (si:=1) (ps:=2) (j:=0) (X:=(tH jN)) (vals:=(tH x25)) sz3 O O O O O (by simp[Value.oneCell',Value.cells,st,pt,el]) O O (by simp[zl,qc,en24]) O<|ltV (stC [] []<|Cls w F (tF kF gq25 yT::tB kF kC gq27 yZ::taK kI kC kE gq7 gl6 a0::tA kE kL kJ::tas kO kX yO jA kE)) 14 (aw O sD) (aP<|sI [0,1,2,3,5,6,7])<|aA [] zF fun hz26=>vN 15 [] O hz26 O hu9<|vQ 16 [] hz26 O (aa qcK O)<|vE 17 O<|aW (q:=4) (si:=2) (ps:=3) (j:=0) (X:=(tH jK)) (vals:=[.int .i64 (IntKind.wrap .i64 (jK+1))]) sz3 O O O O O (by simp[Value.oneCell',Value.cells,st,pt,el]) O O (by simp[zl,qc,en24]) O<|ltV (stC [] []<|Cls w F (tF kF gq25 yT::tB kF kC gq27 yZ::taK kI kC kE gq7 gl6 a0::tA kE kL kJ::tas kO kX yO jA kE)) 17 sD (aP<|sI [0,1,2,3,5,6,7])<|vD<|ab<|sr<|L.r 1 O<|cjc<|bi1 h fun l28 el28 h=>bL (row:=TStore81.rowA kC kE) (sub:=TStore81.subA kC kE) (e:=81) (g:=kI) (gh:=gq7) (vs':=[yO]) (m':=[tF kF gq25 yT,tB kF kC gq27 yZ,tA kE kL kJ]) [4,7,5,6,2,0,1,3] el28 O fun q27=>az (D:=tbF w F kI kC kE q27 l28 kF gq25 yT gq27 yZ kL kJ) hI<|rT fun w1 hw=>?_)
 cases h
 exact⟨_,_,O,⟨_,_,_,O,O⟩,hw.s [1,0,2,3]⟩
theorem W9{a0 a1 A51 A81 kT kJ kF kI kC kE kP kM kW kL w r F}(h:M9 a0 a1 A51 A81 kT kJ=some r)(hc0:Cls w F [tF kF kP A51,taw kI kC kE kM A81,tB kF kC kW kT,tA kE kL kJ] w):qz Tryz.prog 9 [VP kI a0,.agg #[.int .i64 a1.Kind,.int .i64 a1.Tx,.int .i64 a1.Item,st a1.Text]] F w fun u m=>∃G149 Q51 Q81 Q122 Q149,Gr kE kJ.length G149 r.2.2.2.1.length∧u=.agg #[.int .i64 r.2.2.2.2.Err,st r.2.2.2.2.Text]∧m=[yS kF Q51 r.1 [],jS kI kC G149 Q81 r.2.1 [],xL kF kC Q122 r.2.2.1 [],zP G149 Q149 r.2.2.2.1 []]:=by
 rw[M9]at h
 obtain⟨g149,hg149⟩:∃g,g=kE:=⟨_,rfl⟩
 have xP:Gr g149 kJ.length kE kJ.length:=hg149▸Gr.refl _ _
 refine body (n:=60) Tryz.func9 O O O hc0<|bi1 h fun th1 kR h=>bC (D:=Cls w F<|tcn kI a0 kC th1 kM kE A81 kF kP A51 kW kT kL kJ) (aoI 1 O kR)<|sr<|bV O O fun b2=>L.alloc O qmJ fun b3=>nsr<|L.alloc O qmJ fun b4=>cjf<|yF qhs O<|yP 2 ag3 O O O<|cjp<|sr<|eqL h (fun c5 h=>?_) fun c5 h=>?_
 ·refine L.r 1 O<|cjg<|ah<|L.r 1 O<|yF kx O<|yP 2 ag3 O O O<|aj (D:=Cls w F [taw kI kC kE kM A81,tp b4,tp b3,tg b2 a1,tF kF kP A51,tB kF kC kW kT,tA kE kL kJ]) (asI [3,4,5,6,7,0,1,2,8,9,10] kR O)<|aj (D:=Cls w F (taw kI kC kE kM A81::tA kE kL kJ::tp b4::tp b3::tg b2 a1::tbi kF kP A51 kC kW kT)) (sI [0,6,1,2,3,4,5])<|bi3 h fun l6 l7 x8 e9 h=>dP (taZ kI kC kE kM A81 kL kJ) (tp b4::tp b3::tg b2 a1::tbi kF kP A51 kC kW kT) O (fun w' hw=>W30 e9 hw.lend) ?_
  rintro _ _ ⟨kE,q10,q11,hg12,rfl,rfl⟩
  replace xP:=xP.trans hg12
  refine aj (D:=Cls w F (taw kI kC kE q10 l6::tA kE q11 l7::tp b4::tp b3::tg b2 a1::tbi kF kP A51 kC kW kT)) hI<|bi1 h fun zG eth13 h=>aj (D:=Cls w F [ta kI a0 kC zG q10,taI q10 a0 zG kE,.ss (zs sd0 (fun _=>[]) zG.logs_),th zG,taK kI kC kE q10 l6 a0,tA kE q11 l7,tp b4,tp b3,tg b2 a1,tF kF kP A51,tB kF kC kW kT]) (aoI 0 O eth13)<|yF xw O<|svL 6 (tH x8) qfN O O O<|ae<|aq<|ab<|sr<|yL (bp (i:=6) vH xo O O O)<|svL 7 (tbQ x8) xo O O O<|cjc<|az (D:=Cls w F [taw kI kC kE q10 l6,tA kE q11 l7,tbe b4 x8,tbe b3 x8,tg b2 a1,tF kF kP A51,tB kF kC kW kT]) (asI [0,1,2,3,4,5,6,7,8,9,10] eth13 O)<|bA O (aH (i:=3) vH xo O O O) fun w1 hw=>?_
  cases h
  exact⟨_,_,O,⟨_,_,_,_,_,(hg149▸xP),O,O⟩,hw.s [5,0,6,1]⟩
 refine L.r 1 O<|cjn<|eqL h (fun c14 h=>?_) fun c14 h=>?_
 ·refine L.r 1 O<|cjg<|ah<|L.r 1 O<|yF kx O<|yP 2 ag3 O O O<|yF qeE O<|yP 2 ag3 O O O<|aj (D:=Cls w F [taw kI kC kE kM A81,tp b4,tp b3,tg b2 a1,tF kF kP A51,tB kF kC kW kT,tA kE kL kJ]) (asI [3,4,5,6,7,0,1,2,8,9,10] kR O)<|aj (D:=Cls w F (taw kI kC kE kM A81::tA kE kL kJ::tp b4::tp b3::tg b2 a1::tbi kF kP A51 kC kW kT)) (sI [0,6,1,2,3,4,5])<|bi3 h fun l15 s16 x17 e18 h=>dP (taZ kI kC kE kM A81 kL kJ) (tp b4::tp b3::tg b2 a1::tbi kF kP A51 kC kW kT) O (fun w' hw=>W31 e18 hw.lend) ?_
  rintro _ _ ⟨q19,rfl,rfl⟩
  obtain⟨_,c20,h⟩:=qq h
  replace xP:=xP.len (qw c20)
  refine aj (D:=Cls w F (taw kI kC kE kM A81::tA kE q19 l15::tp b4::tp b3::tg b2 a1::tbi kF kP A51 kC kW kT)) hI<|bi1 h fun th21 eth21 h=>aj (D:=Cls w F [ta kI a0 kC th21 kM,taI kM a0 th21 kE,.ss (zs sd0 (fun _=>[]) th21.logs_),th th21,taK kI kC kE kM A81 a0,tA kE q19 l15,tp b4,tp b3,tg b2 a1,tF kF kP A51,tB kF kC kW kT]) (aoI 0 O eth21)<|L.r 3 O<|yF qjZ O<|svL 6 [st s16] sz9 O O O<|yF xw O<|svL 6 (tH x17) qfN O O O<|ae<|aq<|ab<|sr<|yL (bp (i:=6) vH xo O O O)<|svL 7 (tcQ x17 s16) xo O O O<|ae<|ab<|bK<|az (D:=Cls w F (taw kI kC kE kM A81::tA kE q19 l15::.obj b4 (tcQ x17 s16) 41::.obj b3 (tcQ x17 s16) 41::tg b2 a1::tbi kF kP A51 kC kW kT)) (asI [0,1,2,3,4,5,6,7,8,9,10] eth21 O)<|bA O (aH (i:=3) vH xo O O O) fun w1 hw=>?_
  cases h
  exact⟨_,_,O,⟨_,_,_,_,_,(hg149▸xP),O,O⟩,hw.s [5,0,6,1]⟩
 refine L.r 1 O<|cjn<|eqL h (fun c22 h=>?_) fun c22 h=>?_
 ·refine L.r 1 O<|cjg<|ah<|L.r 1 O<|yF kx O<|yP 2 ag3 O O O<|yF qeE O<|yP 2 ag3 O O O<|yF qj2 O<|yP 2 ag9 O O O<|aj (D:=Cls w F [taw kI kC kE kM A81,tp b4,tp b3,tg b2 a1,tF kF kP A51,tB kF kC kW kT,tA kE kL kJ]) (asI [3,4,5,6,7,0,1,2,8,9,10] kR O)<|aj (D:=Cls w F (taw kI kC kE kM A81::tA kE kL kJ::tp b4::tp b3::tg b2 a1::tbi kF kP A51 kC kW kT)) (sI [0,6,1,2,3,4,5])<|bi2 h fun l23 x24 e25 h=>dP (taZ kI kC kE kM A81 kL kJ) (tp b4::tp b3::tg b2 a1::tbi kF kP A51 kC kW kT) O (fun w' hw=>W32 e25 hw.lend) ?_
  rintro _ _ ⟨q26,rfl,rfl⟩
  obtain⟨_,c27,h⟩:=qq h
  replace xP:=xP.len (qw c27)
  refine aj (D:=Cls w F (taw kI kC kE kM A81::tA kE q26 l23::tp b4::tp b3::tg b2 a1::tbi kF kP A51 kC kW kT)) hI<|bi1 h fun jI eth28 h=>aj (D:=Cls w F [ta kI a0 kC jI kM,taI kM a0 jI kE,.ss (zs sd0 (fun _=>[]) jI.logs_),th jI,taK kI kC kE kM A81 a0,tA kE q26 l23,tp b4,tp b3,tg b2 a1,tF kF kP A51,tB kF kC kW kT]) (aoI 0 O eth28)<|yF xw O<|svL 6 (tH x24) qfN O O O<|ae<|aq<|ab<|sr<|yL (bp (i:=6) vH xo O O O)<|svL 7 (tbQ x24) xo O O O<|cjc<|az (D:=Cls w F [taw kI kC kE kM A81,tA kE q26 l23,tbe b4 x24,tbe b3 x24,tg b2 a1,tF kF kP A51,tB kF kC kW kT]) (asI [0,1,2,3,4,5,6,7,8,9,10] eth28 O)<|bA O (aH (i:=3) vH xo O O O) fun w1 hw=>?_
  cases h
  exact⟨_,_,O,⟨_,_,_,_,_,(hg149▸xP),O,O⟩,hw.s [5,0,6,1]⟩
 refine L.r 1 O<|cjn<|eqL h (fun c29 h=>?_) fun c29 h=>?_
 ·refine L.r 1 O<|cjg<|ah<|L.r 1 O<|yF kx O<|yP 2 ag3 O O O<|aj (D:=Cls w F [taw kI kC kE kM A81,tp b4,tp b3,tg b2 a1,tF kF kP A51,tB kF kC kW kT,tA kE kL kJ]) (asI [3,4,5,6,7,0,1,2,8,9,10] kR O)<|aj (D:=Cls w F [tF kF kP A51,taw kI kC kE kM A81,tB kF kC kW kT,tA kE kL kJ,tp b4,tp b3,tg b2 a1]) (sI [4,0,5,6,1,2,3])<|bi5 h fun l30 l31 l32 l33 x34 e35 h=>dP [tF kF kP A51,taw kI kC kE kM A81,tB kF kC kW kT,tA kE kL kJ] [tp b4,tp b3,tg b2 a1] O (fun w' hw=>W33 e35 hw.lend) ?_
  rintro _ _ ⟨q36,q37,q38,q39,rfl,rfl⟩
  obtain⟨_,c40,h⟩:=qq h
  replace xP:=xP.len (qw c40)
  refine aj (D:=Cls w F [tF kF q36 l30,taw kI kC kE q37 l31,tB kF kC q38 l32,tA kE q39 l33,tp b4,tp b3,tg b2 a1]) hI<|bi1 h fun jT eth41 h=>aj (D:=Cls w F [ta kI a0 kC jT q37,taI q37 a0 jT kE,.ss (zs sd0 (fun _=>[]) jT.logs_),th jT,taK kI kC kE q37 l31 a0,tF kF q36 l30,tB kF kC q38 l32,tA kE q39 l33,tp b4,tp b3,tg b2 a1]) (aoI 1 O eth41)<|yF xw O<|svL 8 (tH x34) qfN O O O<|ae<|aq<|ab<|sr<|yL (bp (i:=8) vH xo O O O)<|svL 9 (tbQ x34) xo O O O<|cjc<|az (D:=Cls w F [taw kI kC kE q37 l31,tF kF q36 l30,tB kF kC q38 l32,tA kE q39 l33,tbe b4 x34,tbe b3 x34,tg b2 a1]) (asI [0,1,2,3,4,5,6,7,8,9,10] eth41 O)<|bA O (aH (i:=5) vH xo O O O) fun w1 hw=>?_
  cases h
  exact⟨_,_,O,⟨_,_,_,_,_,(hg149▸xP),O,O⟩,hw.s [1,0,2,3]⟩
 refine L.r 1 O<|cjn<|eqL h (fun c42 h=>?_) fun c42 h=>?_
 ·refine L.r 1 O<|cjg<|ah<|L.r 1 O<|yF kx O<|yP 2 ag3 O O O<|aj (D:=Cls w F [taw kI kC kE kM A81,tp b4,tp b3,tg b2 a1,tF kF kP A51,tB kF kC kW kT,tA kE kL kJ]) (asI [3,4,5,6,7,0,1,2,8,9,10] kR O)<|aj (D:=Cls w F (taw kI kC kE kM A81::tA kE kL kJ::tp b4::tp b3::tg b2 a1::tbi kF kP A51 kC kW kT)) (sI [0,6,1,2,3,4,5])<|bi2 h fun l43 x44 e45 h=>dP (taZ kI kC kE kM A81 kL kJ) (tp b4::tp b3::tg b2 a1::tbi kF kP A51 kC kW kT) O (fun w' hw=>W34 e45 hw.lend) ?_
  rintro _ _ ⟨q46,rfl,rfl⟩
  obtain⟨_,c47,h⟩:=qq h
  replace xP:=xP.len (qw c47)
  refine aj (D:=Cls w F (taw kI kC kE kM A81::tA kE q46 l43::tp b4::tp b3::tg b2 a1::tbi kF kP A51 kC kW kT)) hI<|bi1 h fun th48 eth48 h=>aj (D:=Cls w F [ta kI a0 kC th48 kM,taI kM a0 th48 kE,.ss (zs sd0 (fun _=>[]) th48.logs_),th th48,taK kI kC kE kM A81 a0,tA kE q46 l43,tp b4,tp b3,tg b2 a1,tF kF kP A51,tB kF kC kW kT]) (aoI 0 O eth48)<|yF xw O<|svL 6 (tH x44) qfN O O O<|ae<|aq<|ab<|sr<|yL (bp (i:=6) vH xo O O O)<|svL 7 (tbQ x44) xo O O O<|cjc<|az (D:=Cls w F [taw kI kC kE kM A81,tA kE q46 l43,tbe b4 x44,tbe b3 x44,tg b2 a1,tF kF kP A51,tB kF kC kW kT]) (asI [0,1,2,3,4,5,6,7,8,9,10] eth48 O)<|bA O (aH (i:=3) vH xo O O O) fun w1 hw=>?_
  cases h
  exact⟨_,_,O,⟨_,_,_,_,_,(hg149▸xP),O,O⟩,hw.s [5,0,6,1]⟩
 refine L.r 1 O<|cjn<|eqL h (fun c49 h=>?_) fun c49 h=>?_
 ·refine L.r 1 O<|cjg<|ah<|L.r 1 O<|aj (D:=Cls w F [taw kI kC kE kM A81,tp b4,tp b3,tg b2 a1,tF kF kP A51,tB kF kC kW kT,tA kE kL kJ]) (asI [3,4,5,6,7,0,1,2,8,9,10] kR O)<|aj (D:=Cls w F [tF kF kP A51,taw kI kC kE kM A81,tB kF kC kW kT,tA kE kL kJ,tp b4,tp b3,tg b2 a1]) (sI [4,0,5,6,1,2,3])<|bi4 h fun l50 l51 l52 x53 e54 h=>dP [tF kF kP A51,taw kI kC kE kM A81,tB kF kC kW kT,tA kE kL kJ] [tp b4,tp b3,tg b2 a1] O (fun w' hw=>W35 e54 hw.lend) ?_
  rintro _ _ ⟨q55,q56,q57,rfl,rfl⟩
  refine aj (D:=Cls w F [tF kF q55 l50,taw kI kC kE q56 l51,tB kF kC q57 l52,tA kE kL kJ,tp b4,tp b3,tg b2 a1]) hI<|bi1 h fun th58 eth58 h=>aj (D:=Cls w F [ta kI a0 kC th58 q56,taI q56 a0 th58 kE,.ss (zs sd0 (fun _=>[]) th58.logs_),th th58,taK kI kC kE q56 l51 a0,tF kF q55 l50,tB kF kC q57 l52,tA kE kL kJ,tp b4,tp b3,tg b2 a1]) (aoI 1 O eth58)<|yF xw O<|svL 8 (tH x53) qfN O O O<|ae<|aq<|ab<|sr<|yL (bp (i:=8) vH xo O O O)<|svL 9 (tbQ x53) xo O O O<|cjc<|az (D:=Cls w F [taw kI kC kE q56 l51,tF kF q55 l50,tB kF kC q57 l52,tA kE kL kJ,tbe b4 x53,tbe b3 x53,tg b2 a1]) (asI [0,1,2,3,4,5,6,7,8,9,10] eth58 O)<|bA O (aH (i:=5) vH xo O O O) fun w1 hw=>?_
  cases h
  exact⟨_,_,O,⟨_,_,_,_,_,(hg149▸xP),O,O⟩,hw.s [1,0,2,3]⟩
 cases h
 exact L.r 1 O<|ln<|a6 O<|ah<|yF xw O<|svL 0 [.int .i64 1] qfN O O O<|ae<|aq<|ab<|sr<|yL (bp (i:=0) vH xo O O O)<|svL 1 [.int .i64 1,st []] xo O O O<|cjc<|az (D:=Cls w F [taw kI kC kE kM A81,.obj b4 [.int .i64 1,st []] 41,.obj b3 [.int .i64 1,st []] 41,tg b2 a1,tF kF kP A51,tB kF kC kW kT,tA kE kL kJ]) (asI [3,4,5,6,7,0,1,2,8,9,10] kR O)<|bA O (aH (i:=2) vH xo O O O) fun w1 hw=>⟨_,_,O,⟨_,_,_,_,_,(hg149▸xP),O,O⟩,hw.s [4,0,5,6]⟩
theorem W10{a0 a1 A57 kD kS w r F}(h:M10 a0 a1 A57=some r)(hc0:Cls w F [tx kD kS A57] w):qz Tryz.prog 10 [VP kD a0,.int .i64 a1] F w fun u m=>∃Q57,u=.tuple #[]∧m=[jX kD Q57 r []]:=by
 rw[M10]at h
 refine body (n:=9) Tryz.func10 O O O hc0<|ah<|L.r 2 O<|yL (dD O O)<|bi1 h fun th1 kR h=>aj (D:=Cls w F<|taa kD a0 kS th1 A57) (aoI 0 O kR)<|yNF O kR yz<|svL 0 [.int .i64 (max a1 (-1))] sz3 O O O<|ae<|bi1 h fun l2 el2 h=>bL (row:=TDisk.rowA) (sub:=TDisk.subA) (e:=57) (g:=kD) (gh:=kS) (vs':=[(tc kS a0),(td kS a0),(ts kS a0)]) (m':=[]) [0,1,2,3,4] el2 O fun q3=>az (D:=Cls w F [tx kD q3 l2]) hI<|cN O fun w1 hw=>?_
 cases h
 exact⟨_,_,O,⟨_,O,O⟩,hw⟩
theorem W11{a0 a1 A51 kF kP w r F}(h:M11 a0 a1 A51=some r)(hc0:Cls w F [tF kF kP A51] w):qz Tryz.prog 11 [VP kF a0,.int .i64 a1] F w fun u m=>∃Q51,u=.tuple #[]∧m=[yS kF Q51 r []]:=by
 rw[M11]at h
 refine body (n:=13) Tryz.func11 O O O hc0<|sr<|L.r 2 O<|bi1 h fun th1 kR h=>aj (D:=Cls w F<|taE kF a0 kP th1 A51) (aoI 0 O kR)<|yNF O kR jh<|svL 0 (tH a1) sz3 O O O<|nsr<|L.r 1 O<|ltL h (fun c2 h=>?_) fun c2 h=>?_
 ·refine cjg<|ah<|L.r 1 O<|yNF O kR jh<|svL 0 [.int .i64 (-1)] sz3 O O O<|ae<|bi1 h fun l3 el3 h=>bL (row:=TDisk51.rowA) (sub:=TDisk51.subA) (e:=51) (g:=kF) (gh:=kP) (vs':=[(tc kP a0),(td kP a0),(ts kP a0),(tz kP a0)]) (m':=[]) [0,1,2,3,4,5] el3 O fun q4=>az (D:=Cls w F [tF kF q4 l3]) hI<|cN O fun w1 hw=>?_
  cases h
  exact⟨_,_,O,⟨_,O,O⟩,hw⟩
 refine cja<|bi1 h fun l5 el5 h=>bL (row:=TDisk51.rowA) (sub:=TDisk51.subA) (e:=51) (g:=kF) (gh:=kP) (vs':=[(tc kP a0),(td kP a0),(ts kP a0),(tz kP a0)]) (m':=[]) [0,1,2,3,4,5] el5 O fun q6=>az (D:=Cls w F [tF kF q6 l5]) hI<|cN O fun w1 hw=>?_
 cases h
 exact⟨_,_,O,⟨_,O,O⟩,hw⟩
theorem W12{a0 a1 A57 kD u1 kS w r F}(h:M12 a0 a1 A57=some r)(hA1:StbF (fun w=>At w u1 1 (a1.map B)) w F)(hc0:Cls w F [tx kD kS A57] w):qz Tryz.prog 12 [VP kD a0,u1] F w fun u m=>∃Q57,u=.tuple #[]∧m=[jX kD Q57 r []]:=by
 rw[M12]at h
 refine body (n:=51) Tryz.func12 O O O hc0<|ar (fun gs D=>∃gl1 gq2,gs=[(0,VP kD a0)]∧D=Cls w F [tx kD gq2 gl1]∧qic a0 gl1=some r) ?_ ?_
 ·refine sr<|L.r 1 O<|bi1 h fun th6 xT h=>aj (D:=Cls w F<|taa kD a0 kS th6 A57) (aoI 0 O xT)<|yNP O xT qcO 0 qnW O O<|yL (aF (g:=Twrite.row) (l:=th6.late_) Tryz.underlying55 O<|aG 3 O)<|L.r 1 O<|cjp<|au (fun m gs D=>∃gx3 gl4,gs=[(0,VP kD a0),(1,u1),(9,(ts kS a0)),(10,.int .i64 (th6.late_.length:Int)),(11,.int .i64 gx3)]∧D=Cls w F [jX kD kS A57 (tf a0),taW kD a0 kS th6,taU kS a0 th6,taY kS a0 gl4,tbz kS a0 th6]∧qb8 th6 a1 A57 a0 m gx3 gl4=some r) ⟨0,th6.safe_,O,O,h⟩ ⟨O,O,O,O,O,trivial⟩ (sI [4,0,3,1,2]) ?_
  rintro m _ _ ⟨gx3,gl4,rfl,rfl,h⟩
  rcases m with _|m
  ·rw[qb8]at h;cases h
  rw[qb8]at h
  generalize hg1:qb8 th6 a1 A57 a0 m=go1 at h
  rw[qfA]at h
  refine sr<|ltL h (fun c7 h=>?_) fun c7 h=>?_
  ·refine cje<|L.r 1 O<|mL (fun _=>el (ts kS a0) (gx3.toNat*2)) h (ap (g:=Twrite.row) (l:=th6.late_) Tryz.underlying55 qnd O O<|aG 2 O) fun x8 ex8 h=>(yL (bR (r:=[.int .i64 x8.at_,st x8.text_]) qox qnd O (aG 2 O) (ql ex8) O)<|L.alloc O qoa fun b9=>L.r 1 O<|svL 0 [.int .i64 x8.at_,st x8.text_] qnd O O O<|nsr<|L.r 2 O<|yL (aF (g:=B) (l:=a1) Tryz.underlying37 O fun w' hw=>hA1.cls0 hw)<|ltL h (fun c10 h=>?_) fun c10 h=>?_)
   ·refine L.r 3 O<|tkL<|mL (fun _=>el u1<|tbG gx3) h (ap (g:=B) (l:=a1) Tryz.underlying37 sz4 O O fun w' hw=>hA1.cls0 hw) fun x11 ex11 h=>(tkL<|ibL h (aB (u:=.bool x11) ag4 O (fun w' hw=>hA1.cls0 hw)<|ql ex11) (fun c12 h=>?_) fun c12 h=>?_)
    ·exact L.r 1 O<|cjg<|av (k:=10) (stC [[9]] [Cls w F [.obj b9 [.int .i64 x8.at_,st x8.text_] 91,jX kD kS A57 (tf a0),taW kD a0 kS th6,taU kS a0 th6,taY kS a0 gl4,tbz kS a0 th6]]<|Cls w F [.obj b9 [.int .i64 x8.at_,st x8.text_] 91,jX kD kS A57 (tf a0),taW kD a0 kS th6,taU kS a0 th6,tbz kS a0 th6]) O mixed (fun _ hw=>hw.drew) sn<|aA [] (ax zF<|sI [0,1,2,3,5]) fun hz16=>(vR [0] O<|vN 1 [] O hz16 O xT<|vQ 2 [] hz16 O (aa vC O)<|vQ 3 [] hz16 O (am (i:=2) wv O O O)<|vQ 4 [] hz16 O (aa qmj O)<|vQ 5 [] hz16 O (am (i:=0) ag3 O O O)<|vQ 6 [] hz16 O (aa qmi O)<|vQ 7 [] hz16 O (am (i:=0) ag9 O O O)<|aA [9] (be hI) fun hz17=>(vM 8 [9] (fun _=>el (tc kS a0) (x8.at_.toNat*1)) hz17 O h (ap (g:=SR) (l:=gl4) Tryz.underlying48 sz9 O O<|aG 4 O) fun x18 ex18 h=>(vE 9 O<|bw (q:=4) (row:=SR) (vs:=[st x8.text_]) (j:=0) (u1:=x8.text_) h sz9 O O O O O (qW O zg) O ex18 O O fun l19 el19 h=>ltV (stC [] []<|Cls w F [.obj b9 [.int .i64 x8.at_,st x8.text_] 91,jX kD kS A57 (tf a0),taW kD a0 kS th6,taU kS a0 th6,tbz kS a0 th6]) 9 (aw O sD) (aP<|sI [0,1,2,3,5])<|vD<|cjj<|mA h fun x20 ex20 h=>(L.r 1 O<|ae<|bi ⟨x20,l19,O,O,by rw[hg1];exact h⟩<|sI [1,2,3,4,5]))))
    exact L.r 1 O<|cja<|cjj<|mA h fun x21 ex21 h=>(L.r 1 O<|ae<|bi ⟨x21,gl4,O,O,by rw[hg1];exact h⟩<|sI [1,2,3,4,5])
   exact L.r 6 O<|cja<|cjj<|mA h fun x22 ex22 h=>(L.r 1 O<|ae<|bi ⟨x22,gl4,O,O,by rw[hg1];exact h⟩<|sI [1,2,3,4,5])
  exact cjm<|cjd<|bi1 h fun l23 el23 h=>bL (row:=TDisk.rowA) (sub:=TDisk.subA) (e:=57) (g:=kD) (gh:=kS) (vs':=[(tc kS a0),(td kS a0),(ts kS a0)]) (m':=[]) [1,3,4,2,0] el23 O fun q24=>az (D:=Cls w F [tx kD q24 l23]) hI<|ay ⟨l23,q24,O,O,h⟩ hI
 rintro _ _ ⟨gl1,gq2,rfl,rfl,h⟩
 rw[qic]at h
 refine aE<|bi1 h fun th1 kR h=>bC (D:=Cls w F<|taa kD a0 gq2 th1 gl1) (aoI 0 O kR)<|av (k:=9) (stC [[8]] [Cls w F (taa kD a0 gq2 th1 gl1)]<|Cls w F [taW kD a0 gq2 th1,.sl (tc gq2 a0) 9 1 (th1.safe_.map SR),taU gq2 a0 th1,jX kD gq2 gl1 (tf a0)]) O mixed (fun _ hw=>hw.drew) sn<|aA [] (ax zF<|sI [0,1,3,4]) fun hz3=>(vR [0] O<|vN 1 [] O hz3 O kR<|vQ 2 [] hz3 O (aa qcP O)<|vQ 3 [] hz3 O (am (i:=0) wv O O O)<|vR [4] O<|vN 5 [] O hz3 O kR<|vQ 6 [] hz3 O (aa vC O)<|vQ 7 [] hz3 O (am (i:=0) wv O O O)<|vE 8 O<|dt (i:=2) (g:=SR) (l:=th1.seen_) (s:=th1.safe_) O Tryz.underlying48 eL9 O O O (aG 1 O) (qi _) fun _=>(ae<|xV (stC [] []<|Cls w F [taW kD a0 gq2 th1,.sl (tc gq2 a0) 9 1 (th1.safe_.map SR),taU gq2 a0 th1,jX kD gq2 gl1 (tf a0)]) 8 (aw O sD) (aP<|sI [0,1,3,4])<|vD<|ab<|ah<|L.r 2 O<|yNF O kR qcO<|svL 0 [tO] qne O O O<|yNF O kR yz<|svL 0 [.int .i64 (-1)] sz3 O O O<|ae<|E.nilSl 91 2<|bi1 h fun l4 el4 h=>bL (row:=TDisk.rowA) (sub:=TDisk.subA) (e:=57) (g:=kD) (gh:=gq2) (vs':=[(tc gq2 a0),(td gq2 a0),(tO)]) (m':=[taU gq2 a0 th1]) [1,2,3,0,5,4] el4 O fun q5=>az (D:=Cls w F [tx kD q5 l4,taU gq2 a0 th1]) hI<|cN O fun w1 hw=>?_))
 cases h
 exact⟨_,_,O,⟨_,O,O⟩,hw.s [0]⟩
theorem W13{a0 a1 A51 kF u1 kP w r F}(h:M13 a0 a1 A51=some r)(hA1:StbF (fun w=>At w u1 1 (a1.map B)) w F)(hc0:Cls w F [tF kF kP A51] w):qz Tryz.prog 13 [VP kF a0,u1] F w fun u m=>∃Q51,u=.tuple #[]∧m=[yS kF Q51 r []]:=by
 rw[M13]at h
 refine body (n:=57) Tryz.func13 O O O hc0<|ar (fun gs D=>∃gl1 gq2,gs=[(0,VP kF a0)]∧D=Cls w F [tF kF gq2 gl1]∧qib a0 gl1=some r) ?_ ?_
 ·refine sr<|L.r 1 O<|bi1 h fun th7 jZ h=>aj (D:=Cls w F<|taE kF a0 kP th7 A51) (aoI 0 O jZ)<|yNP O jZ y3 0 qbv O O<|yL (aF (g:=I) (l:=th7.late_) Tryz.underlying49 O<|aG 3 O)<|L.r 1 O<|cjp<|au (fun m gs D=>∃gx3 gl4,gs=[(0,VP kF a0),(1,u1),(9,(ts kP a0)),(10,.int .i64 (th7.late_.length:Int)),(11,.int .i64 gx3)]∧D=Cls w F (tbO kF kP A51 a0 th7 gl4)∧qb5 th7 a1 A51 a0 m gx3 gl4=some r) ⟨0,th7.Safe,O,O,h⟩ ⟨O,O,O,O,O,trivial⟩ (sI [5,0,3,1,2,4]) ?_
  rintro m _ _ ⟨gx3,gl4,rfl,rfl,h⟩
  rcases m with _|m
  ·rw[qb5]at h;cases h
  rw[qb5]at h
  generalize hg1:qb5 th7 a1 A51 a0 m=go1 at h
  rw[qfy]at h
  refine sr<|ltL h (fun c8 h=>?_) fun c8 h=>?_
  ·refine cje<|L.r 1 O<|mL (fun _=>el (ts kP a0)<|tbG gx3) h (ap (g:=I) (l:=th7.late_) Tryz.underlying49 sz3 O O<|aG 2 O) fun x9 ex9 h=>(yL (aB (u:=.int .i64 x9) ag3 O (aG 2 O)<|ql ex9)<|L.r 2 O<|nsr<|L.r 2 O<|yL (aF (g:=B) (l:=a1) Tryz.underlying37 O fun w' hw=>hA1.cls0 hw)<|ltL h (fun c10 h=>?_) fun c10 h=>?_)
   ·refine L.r 3 O<|tkL<|mL (fun _=>el u1<|tbG gx3) h (ap (g:=B) (l:=a1) Tryz.underlying37 sz4 O O fun w' hw=>hA1.cls0 hw) fun x11 ex11 h=>(tkL<|ibL h (aB (u:=.bool x11) ag4 O (fun w' hw=>hA1.cls0 hw)<|ql ex11) (fun c12 h=>?_) fun c12 h=>?_)
    ·exact L.r 1 O<|cjg<|av (k:=14) (stC [[13]] [Cls w F (tbO kF kP A51 a0 th7 gl4)]<|Cls w F<|tbV kF kP A51 a0 th7) O mixed (fun _ hw=>hw.drew) sn<|aA [] (ax zF<|sI [0,1,2,3,5]) fun hz17=>(vR [0] O<|vN 1 [] O hz17 O jZ<|vQ 2 [] hz17 O (aa qcQ O)<|vQ 3 [] hz17 O (am (i:=1) wv O O O)<|vR [4,5] O<|vN 6 [] O hz17 O jZ<|vQ 7 [] hz17 O (aa y0 O)<|vQ 8 [] hz17 O (am (i:=1) wv O O O)<|vR [9] O<|vM 10 [] (fun _=>el (tz kP a0)<|tbG gx3) hz17 O h (ap (g:=SR) (l:=th7.texts_) Tryz.underlying48 sz9 O O<|aG 4 O) fun x18 ex18 h=>(vQ 11 [] hz17 O (aB (u:=st x18) ag9 O (aG 4 O)<|ql ex18)<|aA [13] (be hI) fun hz19=>(vM 12 [13] (fun _=>el (td kP a0)<|tbG x9) hz19 O h (ap (g:=SR) (l:=gl4) Tryz.underlying48 sz9 O O<|aG 4 O) fun x20 ex20 h=>(vE 13 O<|bw (q:=4) (row:=SR) (vs:=[st x18]) (j:=0) (u1:=x18) h sz9 O O O O O (qW O zg) O ex20 O O fun l21 el21 h=>ltV (stC [] []<|Cls w F<|tbV kF kP A51 a0 th7) 13 (aw O sD) (aP<|sI [0,1,2,3,5])<|vD<|cjj<|mA h fun x22 ex22 h=>(L.r 1 O<|ae<|bi ⟨x22,l21,O,O,by rw[hg1];exact h⟩ hI)))))
    exact L.r 1 O<|cja<|cjj<|mA h fun x23 ex23 h=>(L.r 1 O<|ae<|bi ⟨x23,gl4,O,O,by rw[hg1];exact h⟩ hI)
   exact L.r 6 O<|cja<|cjj<|mA h fun x24 ex24 h=>(L.r 1 O<|ae<|bi ⟨x24,gl4,O,O,by rw[hg1];exact h⟩ hI)
  exact cjm<|cjd<|bi1 h fun l25 el25 h=>bL (row:=TDisk51.rowA) (sub:=TDisk51.subA) (e:=51) (g:=kF) (gh:=kP) (vs':=[(tc kP a0),(td kP a0),(ts kP a0),(tz kP a0)]) (m':=[]) [1,3,4,2,5,0] el25 O fun q26=>az (D:=Cls w F [tF kF q26 l25]) hI<|ay ⟨l25,q26,O,O,h⟩ hI
 rintro _ _ ⟨gl1,gq2,rfl,rfl,h⟩
 rw[qib]at h
 refine sr<|L.r 2 O<|bi1 h fun th1 kR h=>aj (D:=Cls w F<|taE kF a0 gq2 th1 gl1) (aoI 0 O kR)<|yNP O kR qcQ 0 wv O O<|bi1 h fun l2 e4 h=>bZ O (by kernel_rfl) O (fun w' hw=>W36 e4<|As.at_<|hw.get (i:=2) O) ?_
 rintro v3 _ ⟨_,rfl,rfl⟩
 refine yNF O kR ji<|bq (i:=1) qgF O O (fun _ hw=>(As.at_ (hw.get (i:=0) O)).one) O nb<|nr<|L.r 3 O<|yNF O kR y3<|svL 1 [tO] qku O O O<|yNF O kR y0<|svL 1 [tO] qgF O O O<|yN O kR<|yF jh O<|svL 1 [.int .i64 (-1)] sz3 O O O<|ae<|E.nilSl 3 1<|E.nilSl 9 1<|bi1 h fun l5 el5 h=>bL (row:=TDisk51.rowA) (sub:=TDisk51.subA) (e:=51) (g:=kF) (gh:=gq2) (vs':=[v3,(td gq2 a0),(tO),(tO)]) (m':=[.sl (tc gq2 a0) 9 1 (th1.Seen.map SR),.sl (ts gq2 a0) 3 1 (th1.late_.map I),.sl (tz gq2 a0) 9 1 (th1.texts_.map SR)]) [3,2,5,1,0,8,4,6,7] el5 O fun q6=>az (D:=Cls w F [tF kF q6 l5,.sl (tc gq2 a0) 9 1 (th1.Seen.map SR),.sl (ts gq2 a0) 3 1 (th1.late_.map I),.sl (tz gq2 a0) 9 1 (th1.texts_.map SR)]) hI<|cN O fun w1 hw=>?_
 cases h
 exact⟨_,_,O,⟨_,O,O⟩,hw.s [0]⟩
end Go.Proofs.YtloiiohoelhldaaGreatDoor
